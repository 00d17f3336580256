/- Functions of the program as plain functions, and the walks that show it. Written by the session's own program pp.py. -/
import Derived.Test.YtmfkgbncnaingaaQWalx0
import Derived.Test.YtmfkgbncnaingaaQWalx2
import Derived.Test.YtmfkgbncnaingaaQWalx5
import Derived.Test.YtmfkgbncnaingaaWal4
import Derived.Test.YtmfkgbncnaingaaWal7
namespace Go.Proofs.Ytmfkgbncnaingaa.QWal
open Go.RowKit Go.Proofs.YtmfkgbncnaingaaW.PrintWords Go.Proofs.YtmfkgbncnaingaaW.PrintLast Go.Proofs.YtmfkgbncnaingaaW.PrintMore
attribute [local go_sem] max2_int min2_int max_two min_two max_three min_three max_four min_four   -- for this text's walks alone
set_option linter.unusedVariables false
set_option linter.unusedSimpArgs false

/-! ### bagnallkeep_WalLong: function 12 -/
mutual
def bagnallkeep_WalLong.j0 : Nat → List (List (List Int)) → Option (Bool)
  | 0, _ => none
  | k + 1, x3 => if 0 < (x3.length : Int) then ((wal_Pack.f (rd_L2 x3 0)).bind fun bt329 => (bagnallkeep_WalLong.l0 k x3 bt329.1 bt329.2 0 0)) else (none)
def bagnallkeep_WalLong.l0 : Nat → List (List (List Int)) → List Int → Int → Int → Int → Option (Bool)
  | 0, _, _, _, _, _ => none
  | k + 1, x3, x4, x5, x6, x7 => if 0 < (x3.length : Int) then (if x7 < ((rd_L2 x3 0).length : Int) then (if 0 ≤ x7 then (bagnallkeep_WalLong.l0 k x3 x4 x5 (wrap64 (x6 + (wrap64 (((rd_L1 (rd_L2 x3 0) x7).length : Int) + 4)))) (wrap64 (x7 + 1))) else (none)) else (if ([] : List Int).length + x4.length < 140737488355328 then ((wal_Scan.f (([] : List Int) ++ x4)).bind fun bt339 => (if x5 = 0 then (if bt339.2.2 = 0 then (if (x4.length : Int) = x6 then (if bt339.2.1 = x6 then (if (x4.length : Int) ≥ 5 then ((bagnallkeep_sameBatches.f k bt339.1 x3).bind fun t344 => (some t344)) else (some false)) else (some false)) else (some false)) else (some false)) else (some false))) else (none))) else (none)
end
def bagnallkeep_WalLong.f (k : Nat) (l0 : List Int) : Option (Bool) := (bagnallkeep_Batches.f k l0 1).bind fun t316 => (if (t316.length : Int) = 0 then (bagnallkeep_WalLong.j0 k (([(([(([5] : List Int))] : List (List Int)))] : List (List (List Int))))) else (bagnallkeep_WalLong.j0 k t316))
theorem bagnallkeep_WalLong.mono_l : ∀ k, (∀ y0, LeO (bagnallkeep_WalLong.j0 k y0) (bagnallkeep_WalLong.j0 (k + 1) y0)) ∧ (∀ y0 y1 y2 y3 y4, LeO (bagnallkeep_WalLong.l0 k y0 y1 y2 y3 y4) (bagnallkeep_WalLong.l0 (k + 1) y0 y1 y2 y3 y4))
  | 0 => ⟨fun _ r h => by simp [bagnallkeep_WalLong.j0] at h, fun _ _ _ _ _ r h => by simp [bagnallkeep_WalLong.l0] at h⟩
  | k + 1 => by
    obtain ⟨ih0, ih1⟩ := bagnallkeep_WalLong.mono_l k
    refine ⟨?_, ?_⟩
    · intro y0
      unfold bagnallkeep_WalLong.j0
      repeat' first
      | (with_reducible exact ih0 _)
      | (with_reducible exact ih1 _ _ _ _ _)
      | (with_reducible exact bagnallkeep_Batches.mono _ _ _)
      | (with_reducible exact bagnallkeep_sameBatches.mono _ _ _)
      | (with_reducible exact LeO.refl _)
      | (with_reducible exact LeO.none _)
      | (with_reducible refine LeO.ite ?_ ?_)
      | (with_reducible refine LeO.bind ?_ (fun _ => ?_))
      | exact ih0 _
      | exact ih1 _ _ _ _ _
      | exact bagnallkeep_Batches.mono _ _ _
      | exact bagnallkeep_sameBatches.mono _ _ _
      | exact LeO.none _
      | refine LeO.ite ?_ ?_
      | refine LeO.bind ?_ (fun _ => ?_)
    · intro y0 y1 y2 y3 y4
      unfold bagnallkeep_WalLong.l0
      repeat' first
      | (with_reducible exact ih0 _)
      | (with_reducible exact ih1 _ _ _ _ _)
      | (with_reducible exact bagnallkeep_Batches.mono _ _ _)
      | (with_reducible exact bagnallkeep_sameBatches.mono _ _ _)
      | (with_reducible exact LeO.refl _)
      | (with_reducible exact LeO.none _)
      | (with_reducible refine LeO.ite ?_ ?_)
      | (with_reducible refine LeO.bind ?_ (fun _ => ?_))
      | exact ih0 _
      | exact ih1 _ _ _ _ _
      | exact bagnallkeep_Batches.mono _ _ _
      | exact bagnallkeep_sameBatches.mono _ _ _
      | exact LeO.none _
      | refine LeO.ite ?_ ?_
      | refine LeO.bind ?_ (fun _ => ?_)
theorem bagnallkeep_WalLong.mono : ∀ a0 k, LeO (bagnallkeep_WalLong.f k a0) (bagnallkeep_WalLong.f (k + 1) a0) := by
  intro a0 k
  obtain ⟨ih0, ih1⟩ := bagnallkeep_WalLong.mono_l k
  unfold bagnallkeep_WalLong.f
  repeat' first
      | (with_reducible exact ih0 _)
      | (with_reducible exact ih1 _ _ _ _ _)
      | (with_reducible exact bagnallkeep_Batches.mono _ _ _)
      | (with_reducible exact bagnallkeep_sameBatches.mono _ _ _)
      | (with_reducible exact LeO.refl _)
      | (with_reducible exact LeO.none _)
      | (with_reducible refine LeO.ite ?_ ?_)
      | (with_reducible refine LeO.bind ?_ (fun _ => ?_))
      | exact ih0 _
      | exact ih1 _ _ _ _ _
      | exact bagnallkeep_Batches.mono _ _ _
      | exact bagnallkeep_sameBatches.mono _ _ _
      | exact LeO.none _
      | refine LeO.ite ?_ ?_
      | refine LeO.bind ?_ (fun _ => ?_)
set_option maxHeartbeats 8000000 in
set_option maxRecDepth 100000 in
theorem bagnallkeep_WalLong.calls (k : Nat) (A0 : Option Addr) (c0 : Nat) (l0 : List Int) (r : Bool) (w : World) (hr0 : Kd.C (Kd.int .i64) w A0 l0.length l0) (hc0 : l0.length ≤ c0) (h : bagnallkeep_WalLong.f k l0 = some r) :
    Calls Try.prog 12 #[.slice A0 l0.length c0] w fun e w' => e = .returned (.bool r) ∧ Below w.heap.size w w' := by
  have HR0 := Aside0.mk hr0
  have HC0 := Aside0.mk hc0
  clear hr0 hc0
  have HB := Aside0.mk (Below.refl w.heap.size w)
  have H : ((bagnallkeep_Batches.f k l0 1).bind fun t316 => (if (t316.length : Int) = 0 then (bagnallkeep_WalLong.j0 k (([(([(([5] : List Int))] : List (List Int)))] : List (List (List Int))))) else (bagnallkeep_WalLong.j0 k t316))) = some r := h
  clear h
  replace H := Option.bind_eq_some_iff.mp H
  obtain ⟨t316, A20, H⟩ := H
  replace H : (if (t316.length : Int) = 0 then (bagnallkeep_WalLong.j0 k (([(([(([5] : List Int))] : List (List Int)))] : List (List (List Int))))) else (bagnallkeep_WalLong.j0 k t316)) = some r := H
  have A2 := Aside0.mk A20
  clear A20
  have HC3 := Aside0.mk H
  clear H
  go_enter Try.func12, Try.ntmps12
  go_upto_if 15 with (first | ((with_reducible refine gate_callee (f := 34) rfl ?_); refine goesL_ (some 12) rfl rfl Try.func34 (by kernel_rfl) rfl #[.slice A0 l0.length c0, .int .i64 1] rfl (by (try simp only [List.map_toArray, List.map_cons, List.map_nil]); first | done | rfl | (simp only [List.length_drop, List.length_take]; rfl)) ?_; (with_reducible refine (bagnallkeep_Batches.calls k _ _ l0 1 t316 _ ?side1 ?side2 A2.out).mono ?_); (case side1 => repeat (first | exact HR0.out | (with_reducible refine Kd.C_alloc ?_ _) | (with_reducible refine Kd.C_drewN ?_ _) | (with_reducible refine Kd.C_drew ?_))); (case side2 => exact HC0.out); rintro e w4 ⟨v317, rfl, ho0, hb⟩; refine ⟨_, rfl, ?_⟩; have n0_ := Aside0.mk (Kd.N_lower (Kd.N_mono (ok' := fun k_ => True) (Kd.R_N (Kd.R_bound ho0)) (fun k_ hk_ => trivial)) (below_size (by repeat (first | (with_reducible first | exact HB.out | apply below_alloc | apply pw_below_drewN | apply below_drew1) | exact HB.out)))); have n1_ := Aside0.mk (below_step (by repeat (first | (with_reducible first | exact HB.out | apply below_alloc | apply pw_below_drewN | apply below_drew1) | exact HB.out)) hb); clear HB; have HO318 := n0_; have HB := n1_; clear n0_ n1_; (try clear hb); (try clear hb2); (try clear hk); (try clear hi); (try clear ho0); obtain ⟨Ao5, co5, eo5⟩ := Kd.N_slice HO318.out; subst eo5))
  (try simp only [Act.put, List.setIfInBounds_toArray, List.set_cons_zero, List.set_cons_succ])
  go_cut [3] (fun v3 wc => ∃ (kq : Nat) (x3_2 : List (List (List Int))), Aside0 (bagnallkeep_WalLong.j0 kq x3_2 = some r) ∧ Aside0 (kq ≤ k) ∧ Aside0 (Kd.N (Kd.slice 25 (Kd.slice 5 (Kd.int .u8))) 53 wc w.heap.size (fun _ => True) v3 x3_2) ∧ Aside0 (Below w.heap.size w wc))
  case first =>
    have H := HC3.out
    clear HC3
    by_cases c6 : (t316.length : Int) = 0
    · rw [if_pos c6] at H
      have c6b0 : ((t316.length : Int) == 0) = true := beq_iff_eq.mpr c6
      have c6b1 : ((t316.length : Int) != 0) = false := bne_eq_false_iff_eq.mpr c6
      clear c6
      (first | rw [c6b0] | (simp only [i64_w, i32_w]; rw [c6b0]) | skip)
      obtain ⟨y319, hy319⟩ : ∃ y_ : List Int, y_ = (([5] : List Int)) := ⟨_, rfl⟩
      replace H : (bagnallkeep_WalLong.j0 k (([(([y319] : List (List Int)))] : List (List (List Int))))) = some r := by first | (rw [hy319]; with_reducible exact H) | (have H2_ := (Option.bind_some _ _).symm.trans H; rw [hy319]; with_reducible exact H2_) | (have H2_ := (Option.bind_some _ _).symm.trans H; with_reducible exact H2_) | with_reducible exact H | (rw [hy319]; exact H) | exact H
      have Ny319 := Aside0.mk hy319
      clear hy319
      obtain ⟨y322, hy322⟩ : ∃ y_ : List (List Int), y_ = (([y319] : List (List Int))) := ⟨_, rfl⟩
      replace H : (bagnallkeep_WalLong.j0 k (([y322] : List (List (List Int))))) = some r := by first | (rw [hy322]; with_reducible exact H) | (have H2_ := (Option.bind_some _ _).symm.trans H; rw [hy322]; with_reducible exact H2_) | (have H2_ := (Option.bind_some _ _).symm.trans H; with_reducible exact H2_) | with_reducible exact H | (rw [hy322]; exact H) | exact H
      have Ny322 := Aside0.mk hy322
      clear hy322
      obtain ⟨y325, hy325⟩ : ∃ y_ : List (List (List Int)), y_ = (([y322] : List (List (List Int)))) := ⟨_, rfl⟩
      replace H : (bagnallkeep_WalLong.j0 k y325) = some r := by first | (rw [hy325]; with_reducible exact H) | (have H2_ := (Option.bind_some _ _).symm.trans H; rw [hy325]; with_reducible exact H2_) | (have H2_ := (Option.bind_some _ _).symm.trans H; with_reducible exact H2_) | with_reducible exact H | (rw [hy325]; exact H) | exact H
      have Ny325 := Aside0.mk hy325
      clear hy325
      have H' := Aside0.mk H
      clear H
      go_wp2_with (first | ((with_reducible refine gate_dst (N := 16) rfl ?_); (try (refine gate_guard (by rfl) ?_; dsimp only)); refine Kd.R_lit (Kd.int .u8) _ 5 ?hg (N := 16) ?hd (xs := ([5] : List Int)) (inner := [.int .u8 5]) (ok := fun _ => True) (okp := fun _ => True) ?hr ?hp (fun _ hk => hk) trivial (Below.refl _ _) (Nat.le_refl _) (by simp) ?_; (case hd => rfl); (case hg => rfl); (case hr => first | (go_simp; done) | (go_simp; rfl)); (case hp => exact (Reps.one (show Kd.M (Kd.int .u8) _ _ _ 5 [.int .u8 5] from rfl) (Reps.none _ _))); intro v320 w7 ho8 hb hg_ hnew_; clear hg_ hnew_; (first | rw [← Ny319.out] at ho8 | (simp only [Int.reduceToNat] at ho8; rw [← Ny319.out] at ho8)); have n0_ := Aside0.mk (Kd.N_elder' (by (with_reducible repeat (first | apply Kd.N_alloc | apply Kd.N_drewN | apply Kd.N_drew)); exact HO318.out) (Kd.R_base ho8) hb); have n1_ := Aside0.mk (Kd.R_lower ho8 (below_size (by repeat (first | (with_reducible first | exact HB.out | apply below_alloc | apply pw_below_drewN | apply below_drew1) | exact HB.out)))); have n2_ := Aside0.mk (below_step (by repeat (first | (with_reducible first | exact HB.out | apply below_alloc | apply pw_below_drewN | apply below_drew1) | exact HB.out)) hb); clear HO318; clear HB; have HO318 := n0_; have HO321 := n1_; have HB := n2_; clear n0_ n1_ n2_; clear hb ho8; obtain ⟨Ao9, co9, eo9⟩ := Kd.R_slice HO321.out; subst eo9) | ((with_reducible refine gate_dst (N := 17) rfl ?_); (try (refine gate_guard (by rfl) ?_; dsimp only)); refine Kd.N_lit (Kd.slice 5 (Kd.int .u8)) _ 25 ?hg (N' := 17) ?hd (xs := ([y319] : List (List Int))) (inner := [.slice Ao9 y319.length co9]) (ok := (fun k_ => some k_ ≠ (.slice Ao5 t316.length co5 : Value).ownBlock)) (okp := (fun k_ => some k_ ≠ (.slice Ao5 t316.length co5 : Value).ownBlock)) ?hr ?hp (fun _ hk => hk) ((show ∀ k_, w7.heap.size ≤ k_ → (fun k_ => some k_ ≠ (.slice Ao5 t316.length co5 : Value).ownBlock) k_ from fun k_ hk => Kd.fresh' (Kd.N_lt (by (with_reducible repeat (first | apply Kd.N_alloc | apply Kd.N_drewN | apply Kd.N_drew)); exact HO318.out)) k_ hk) _ (Nat.le_refl _)) (Below.refl _ _) (Nat.le_refl _) (by simp) ?_; (case hd => rfl); (case hg => rfl); (case hr => first | (go_simp; done) | (go_simp; rfl)); (case hp => exact (Reps.one (show Kd.FK (Kd.slice 5 (Kd.int .u8)) _ _ y319 [.slice Ao9 y319.length co9] from (Kd.FK_slice_mk (Kd.R_reads' (Kd.R_mono (ok' := (fun k_ => some k_ ≠ (.slice Ao5 t316.length co5 : Value).ownBlock)) (Kd.R_apart' (HO321.out) (Kd.N_typed HO318.out) (by decide)) (fun k_ hk => hk.2))).2.1 (Kd.R_F (Kd.R_mono (ok' := (fun k_ => some k_ ≠ (.slice Ao5 t316.length co5 : Value).ownBlock)) (Kd.R_apart' (HO321.out) (Kd.N_typed HO318.out) (by decide)) (fun k_ hk => hk.2))))) (Reps.none _ _))); intro v323 w10 ho11 hb hg_ hnew_; clear hg_ hnew_; (first | rw [← Ny322.out] at ho11 | (simp only [Int.reduceToNat] at ho11; rw [← Ny322.out] at ho11)); have n0_ := Aside0.mk (Kd.N_elder' (by (with_reducible repeat (first | apply Kd.N_alloc | apply Kd.N_drewN | apply Kd.N_drew)); exact HO318.out) (Kd.N_base ho11) hb); have n1_ := Aside0.mk (Kd.N_lower ho11 (below_size (by repeat (first | (with_reducible first | exact HB.out | apply below_alloc | apply pw_below_drewN | apply below_drew1) | exact HB.out)))); have n2_ := Aside0.mk (below_step (by repeat (first | (with_reducible first | exact HB.out | apply below_alloc | apply pw_below_drewN | apply below_drew1) | exact HB.out)) hb); clear HO318; clear HB; clear HO321; have HO318 := n0_; have HO324 := n1_; have HB := n2_; clear n0_ n1_ n2_; clear hb ho11; obtain ⟨Ao12, co12, eo12⟩ := Kd.N_slice HO324.out; subst eo12) | ((with_reducible refine gate_dst (N := 18) rfl ?_); (try (refine gate_guard (by rfl) ?_; dsimp only)); refine Kd.N_lit (Kd.slice 25 (Kd.slice 5 (Kd.int .u8))) _ 53 ?hg (N' := 18) ?hd (xs := ([y322] : List (List (List Int)))) (inner := [.slice Ao12 y322.length co12]) (ok := (fun k_ => some k_ ≠ (.slice Ao5 t316.length co5 : Value).ownBlock)) (okp := (fun k_ => some k_ ≠ (.slice Ao5 t316.length co5 : Value).ownBlock)) ?hr ?hp (fun _ hk => hk) ((show ∀ k_, w10.heap.size ≤ k_ → (fun k_ => some k_ ≠ (.slice Ao5 t316.length co5 : Value).ownBlock) k_ from fun k_ hk => Kd.fresh' (Kd.N_lt (by (with_reducible repeat (first | apply Kd.N_alloc | apply Kd.N_drewN | apply Kd.N_drew)); exact HO318.out)) k_ hk) _ (Nat.le_refl _)) (Below.refl _ _) (Nat.le_refl _) (by simp) ?_; (case hd => rfl); (case hg => rfl); (case hr => first | (go_simp; done) | (go_simp; rfl)); (case hp => exact (Reps.one (show Kd.FK (Kd.slice 25 (Kd.slice 5 (Kd.int .u8))) _ _ y322 [.slice Ao12 y322.length co12] from (Kd.FK_slice_mk (Kd.N_reads' (Kd.N_mono (ok' := (fun k_ => some k_ ≠ (.slice Ao5 t316.length co5 : Value).ownBlock)) (HO324.out) (fun k_ hk => hk))).2.1 (Kd.N_F (Kd.N_mono (ok' := (fun k_ => some k_ ≠ (.slice Ao5 t316.length co5 : Value).ownBlock)) (HO324.out) (fun k_ hk => hk))))) (Reps.none _ _))); intro v326 w13 ho14 hb hg_ hnew_; clear hg_ hnew_; (first | rw [← Ny325.out] at ho14 | (simp only [Int.reduceToNat] at ho14; rw [← Ny325.out] at ho14)); have n0_ := Aside0.mk (Kd.N_elder' (by (with_reducible repeat (first | apply Kd.N_alloc | apply Kd.N_drewN | apply Kd.N_drew)); exact HO318.out) (Kd.N_base ho14) hb); have n1_ := Aside0.mk (Kd.N_lower ho14 (below_size (by repeat (first | (with_reducible first | exact HB.out | apply below_alloc | apply pw_below_drewN | apply below_drew1) | exact HB.out)))); have n2_ := Aside0.mk (below_step (by repeat (first | (with_reducible first | exact HB.out | apply below_alloc | apply pw_below_drewN | apply below_drew1) | exact HB.out)) hb); clear HO318; clear HB; clear HO324; have HO318 := n0_; have HO327 := n1_; have HB := n2_; clear n0_ n1_ n2_; clear hb ho14))
      go_meet
      case rel => exact ⟨_, (y325), H', ⟨by first | omega | exact Nat.le_refl _⟩, ⟨by (with_reducible repeat (first | apply Kd.N_alloc | apply Kd.N_drewN | apply Kd.N_drew)); exact Kd.N_mono HO327.out (fun _ hk => trivial)⟩, ⟨by repeat (first | (with_reducible first | exact HB.out | apply below_alloc | apply pw_below_drewN | apply below_drew1) | exact HB.out)⟩⟩
    · rw [if_neg c6] at H
      have c6b0 : ((t316.length : Int) == 0) = false := beq_eq_false_iff_ne.mpr c6
      have c6b1 : ((t316.length : Int) != 0) = true := bne_iff_ne.mpr c6
      have c6b2 : ¬ (t316 = []) := fun h_ => c6 (by rw [h_]; rfl)
      (first | rw [c6b0] | (simp only [i64_w, i32_w]; rw [c6b0]) | skip)
      have H' := Aside0.mk H
      clear H
      go_wp2
      go_meet
      case rel => exact ⟨_, (t316), H', ⟨by first | omega | exact Nat.le_refl _⟩, ⟨by (with_reducible repeat (first | apply Kd.N_alloc | apply Kd.N_drewN | apply Kd.N_drew)); exact HO318.out⟩, ⟨by repeat (first | (with_reducible first | exact HB.out | apply below_alloc | apply pw_below_drewN | apply below_drew1) | exact HB.out)⟩⟩
  case rest =>
    clear HC3
    try clear c1
    try clear p2
    try clear c3
    try clear c6
    try clear c6b0
    try clear c6b1
    try clear c6b2
    try clear c12
    obtain ⟨kq, x3_2, HA, HJ2, HO_3, HB⟩ := hcut
    cases kq with
    | zero => exact absurd HA.out (by simp [bagnallkeep_WalLong.j0])
    | succ kj2 =>
      have H := HA.out
      clear HA
      simp only [bagnallkeep_WalLong.j0] at H
      by_cases c15 : 0 < (x3_2.length : Int)
      · rw [if_pos c15] at H
        have c15b0 : decide (0 < (x3_2.length : Int)) = true := decide_eq_true c15
        have c15b1 : decide (0 < x3_2.length) = true := decide_eq_true (by omega)
        clear c15
        replace H := Option.bind_eq_some_iff.mp H
        obtain ⟨⟨t329, t330⟩, A160, H⟩ := H
        replace H : (bagnallkeep_WalLong.l0 kj2 x3_2 t329 t330 0 0) = some r := H
        have A16 := Aside0.mk A160
        clear A160
        have H' := Aside0.mk H
        clear H
        obtain ⟨Ao17, co17, eo17⟩ := Kd.N_slice HO_3.out
        subst eo17
        have p328 : 0 ≤ (0 : Int) := (by omega)
        have q328 : 0 < (x3_2.length : Int) := of_decide_eq_true (by first | (with_reducible assumption) | assumption)
        obtain ⟨ad328, A328_0, c328_0, e328, hx328_0, hl328_0, hi328_0⟩ := at_L2 (Kd.N_reads' HO_3.out).2.2 0 p328 q328
        cases e328
        obtain ⟨ce328, hce328, hMe328, hcc328⟩ := Kd.N_get HO_3.out [] 0 p328 (by first | exact q328 | exact of_decide_eq_true (by first | (with_reducible assumption) | assumption) | (have e_ := (Kd.N_reads' HO_3.out).1; omega))
        obtain ⟨ua328_0, uc328_0, rfl, ul328_0, ge328_0⟩ := Kd.FK_slice_open hMe328
        have hv328_0 := hcc328 0 _ rfl
        rw [Nat.add_zero, show ((Kd.slice 25 (Kd.slice 5 (Kd.int .u8)))).sz = 1 from rfl, Nat.mul_one] at hv328_0
        replace hv328_0 := Option.some.inj (hv328_0.symm.trans hx328_0)
        injection hv328_0 with hva_ hvn_ hvc_
        rw [hva_] at ge328_0
        rw [hvc_] at ul328_0
        have HL328_0 := Aside0.mk (show Kd.V (Kd.slice 5 (Kd.int .u8)) 25 _ w.heap.size _ _ (rd_L2 x3_2 0) from Kd.V_mk ul328_0 ge328_0)
        clear hva_ hvn_ hvc_ ge328_0 ul328_0
        clear hcc328 hce328
        have qi328 : (0 < x3_2.length) = True := eq_true (by omega)
        (try rw [show ((0 : Int)).toNat = 0 from rfl] at hx328_0)
        (try rw [Addr.add_zero'] at hx328_0)
        have HR328_0 := Aside0.mk hi328_0
        have HC328_0 := Aside0.mk hl328_0
        clear hi328_0 hl328_0
        replace p328 := eq_true p328
        replace q328 := eq_true q328
        go_wp2_with (first | ((with_reducible refine gate_callee (f := 37) rfl ?_); refine goesL_ (some 23) rfl rfl Try.func37 (by kernel_rfl) rfl #[.slice A328_0 (rd_L2 x3_2 0).length c328_0] rfl (by (try simp only [List.map_toArray, List.map_cons, List.map_nil]); first | done | rfl | (simp only [List.length_drop, List.length_take]; rfl)) ?_; (with_reducible refine (wal_Pack.calls _ _ (rd_L2 x3_2 0) t329 t330 _ ?side1 ?side2 A16.out).mono ?_); (case side1 => repeat (first | exact (by repeat (first | (with_reducible exact HR328_0.out) | (with_reducible refine Kd.C_alloc ?_ _) | (with_reducible refine Kd.C_drewN ?_ _) | (with_reducible refine Kd.C_drew ?_) | exact HR328_0.out)) | (with_reducible refine Kd.C_alloc ?_ _) | (with_reducible refine Kd.C_drewN ?_ _) | (with_reducible refine Kd.C_drew ?_))); (case side2 => exact HC328_0.out); rintro e w18 ⟨v331, rfl, ho0, hb⟩; refine ⟨_, rfl, ?_⟩; have n0_ := Aside0.mk (Kd.N_elder' (by (with_reducible repeat (first | apply Kd.N_alloc | apply Kd.N_drewN | apply Kd.N_drew)); exact HO_3.out) (Kd.R_base ho0) hb); have n1_ := Aside0.mk (Kd.V_elder' (by (with_reducible repeat (first | apply Kd.V_alloc | apply Kd.V_drewN | apply Kd.V_drew)); exact HL328_0.out) (Kd.R_base ho0) hb); have n2_ := Aside0.mk (Kd.R_lower ho0 (below_size (by repeat (first | (with_reducible first | exact HB.out | apply below_alloc | apply pw_below_drewN | apply below_drew1) | exact HB.out)))); have n3_ := Aside0.mk (Kd.C_below (by repeat (first | (with_reducible exact HR328_0.out) | (with_reducible refine Kd.C_alloc ?_ _) | (with_reducible refine Kd.C_drewN ?_ _) | (with_reducible refine Kd.C_drew ?_) | exact HR328_0.out)) hb); have n4_ := Aside0.mk (below_step (by repeat (first | (with_reducible first | exact HB.out | apply below_alloc | apply pw_below_drewN | apply below_drew1) | exact HB.out)) hb); clear HO_3; clear HL328_0; clear HR328_0; clear HB; have HO_3 := n0_; have HL328_0 := n1_; have HO332 := n2_; have HR328_0 := n3_; have HB := n4_; clear n0_ n1_ n2_ n3_ n4_; (try clear hb); (try clear hb2); (try clear hk); (try clear hi); (try clear ho0)))
        go_loopg [6, 7] kj2 (fun kq v6 v7 w' => ∃ (x6_2 : Int) (x7_2 : Int), v6 = .int .i64 x6_2 ∧ v7 = .int .i64 x7_2 ∧ Aside0 (bagnallkeep_WalLong.l0 kq x3_2 t329 t330 x6_2 x7_2 = some r) ∧ Aside0 (kq ≤ kj2) ∧ Aside0 (Kd.N (Kd.slice 25 (Kd.slice 5 (Kd.int .u8))) 53 w' w.heap.size (fun k_ => some k_ ≠ (v331 : Value).ownBlock) (.slice (some ad328) x3_2.length co17) x3_2) ∧ Aside0 (Kd.R (Kd.int .u8) 5 w' w.heap.size (fun _ => True) v331 t329) ∧ Aside0 (Kd.C (Kd.slice 5 (Kd.int .u8)) w' A328_0 (rd_L2 x3_2 0).length (rd_L2 x3_2 0)) ∧ Aside0 (Below w.heap.size w w'))
        case atStart => exact ⟨(0), (0), (by first | rfl | (simp; done) | (simp [*]; done)), (by first | rfl | (simp; done) | (simp [*]; done)), H', ⟨Nat.le_refl _⟩, ⟨by (with_reducible repeat (first | apply Kd.N_alloc | apply Kd.N_drewN | apply Kd.N_drew)); exact Kd.N_mono HO_3.out (fun _ hk => hk.2)⟩, ⟨by (with_reducible repeat (first | apply Kd.R_alloc | apply Kd.R_drewN | apply Kd.R_drew)); exact HO332.out⟩, ⟨by repeat (first | (with_reducible exact HR328_0.out) | (with_reducible refine Kd.C_alloc ?_ _) | (with_reducible refine Kd.C_drewN ?_ _) | (with_reducible refine Kd.C_drew ?_) | exact HR328_0.out)⟩, ⟨by repeat (first | (with_reducible first | exact HB.out | apply below_alloc | apply pw_below_drewN | apply below_drew1) | exact HB.out)⟩⟩
        case round =>
          clear H'
          try clear c1
          try clear p2
          try clear c3
          try clear p3
          try clear q3
          try clear hx3
          try clear qi3
          try clear c6
          try clear c6b0
          try clear c6b1
          try clear c6b2
          try clear c12
          try clear c15
          try clear c15b0
          try clear c15b1
          try clear hx328_0
          try clear p2
          try clear p328
          try clear q328
          obtain ⟨x6_2, x7_2, rfl, rfl, HA, HK2, HO_3, HO_4, HR328_0, HB⟩ := hrel
          cases gk with
          | zero => exact absurd HA.out (by simp [bagnallkeep_WalLong.l0])
          | succ k2 =>
            have H := HA.out
            clear HA
            simp only [bagnallkeep_WalLong.l0] at H
            by_cases c19 : 0 < (x3_2.length : Int)
            · rw [if_pos c19] at H
              have c19b0 : decide (0 < (x3_2.length : Int)) = true := decide_eq_true c19
              have c19b1 : decide (0 < x3_2.length) = true := decide_eq_true (by omega)
              clear c19
              by_cases c20 : x7_2 < ((rd_L2 x3_2 0).length : Int)
              · rw [if_pos c20] at H
                have c20b0 : decide (x7_2 < ((rd_L2 x3_2 0).length : Int)) = true := decide_eq_true c20
                clear c20
                by_cases c21 : 0 ≤ x7_2
                · rw [if_pos c21] at H
                  have c21b0 : decide (0 ≤ x7_2) = true := decide_eq_true c21
                  clear c21
                  have H' := Aside0.mk H
                  clear H
                  have p333 : 0 ≤ (0 : Int) := (by omega)
                  have q333 : 0 < (x3_2.length : Int) := of_decide_eq_true (by first | (with_reducible assumption) | assumption)
                  obtain ⟨ad333, A333_0, c333_0, e333, hx333_0, hl333_0, hi333_0⟩ := at_L2 (Kd.N_reads' HO_3.out).2.2 0 p333 q333
                  obtain rfl : ad328 = ad333 := (by injection e333)
                  obtain ⟨ce333, hce333, hMe333, hcc333⟩ := Kd.N_get HO_3.out [] 0 p333 (by first | exact q333 | exact of_decide_eq_true (by first | (with_reducible assumption) | assumption) | (have e_ := (Kd.N_reads' HO_3.out).1; omega))
                  obtain ⟨ua333_0, uc333_0, rfl, ul333_0, ge333_0⟩ := Kd.FK_slice_open hMe333
                  have hv333_0 := hcc333 0 _ rfl
                  rw [Nat.add_zero, show ((Kd.slice 25 (Kd.slice 5 (Kd.int .u8)))).sz = 1 from rfl, Nat.mul_one] at hv333_0
                  replace hv333_0 := Option.some.inj (hv333_0.symm.trans hx333_0)
                  injection hv333_0 with hva_ hvn_ hvc_
                  rw [hva_] at ge333_0
                  rw [hvc_] at ul333_0
                  have HL333_0 := Aside0.mk (show Kd.V (Kd.slice 5 (Kd.int .u8)) 25 _ w.heap.size _ _ (rd_L2 x3_2 0) from Kd.V_mk ul333_0 ge333_0)
                  clear hva_ hvn_ hvc_ ge333_0 ul333_0
                  clear hcc333 hce333
                  have qi333 : (0 < x3_2.length) = True := eq_true (by omega)
                  (try rw [show ((0 : Int)).toNat = 0 from rfl] at hx333_0)
                  (try rw [Addr.add_zero'] at hx333_0)
                  have HR333_0 := Aside0.mk hi333_0
                  have HC333_0 := Aside0.mk hl333_0
                  clear hi333_0 hl333_0
                  replace p333 := eq_true p333
                  replace q333 := eq_true q333
                  have p334 : 0 ≤ (0 : Int) := (by omega)
                  have q334 : 0 < (x3_2.length : Int) := of_decide_eq_true (by first | (with_reducible assumption) | assumption)
                  obtain ⟨ad334, A334_0, c334_0, e334, hx334_0, hl334_0, hi334_0⟩ := at_L2 (Kd.N_reads' HO_3.out).2.2 0 p334 q334
                  obtain rfl : ad328 = ad334 := (by injection e334)
                  obtain ⟨ce334, hce334, hMe334, hcc334⟩ := Kd.N_get HO_3.out [] 0 p334 (by first | exact q334 | exact of_decide_eq_true (by first | (with_reducible assumption) | assumption) | (have e_ := (Kd.N_reads' HO_3.out).1; omega))
                  obtain ⟨ua334_0, uc334_0, rfl, ul334_0, ge334_0⟩ := Kd.FK_slice_open hMe334
                  have hv334_0 := hcc334 0 _ rfl
                  rw [Nat.add_zero, show ((Kd.slice 25 (Kd.slice 5 (Kd.int .u8)))).sz = 1 from rfl, Nat.mul_one] at hv334_0
                  replace hv334_0 := Option.some.inj (hv334_0.symm.trans hx334_0)
                  injection hv334_0 with hva_ hvn_ hvc_
                  rw [hva_] at ge334_0
                  rw [hvc_] at ul334_0
                  have HL334_0 := Aside0.mk (show Kd.V (Kd.slice 5 (Kd.int .u8)) 25 _ w.heap.size _ _ (rd_L2 x3_2 0) from Kd.V_mk ul334_0 ge334_0)
                  clear hva_ hvn_ hvc_ ge334_0 ul334_0
                  clear hcc334 hce334
                  have qi334 : (0 < x3_2.length) = True := eq_true (by omega)
                  (try rw [show ((0 : Int)).toNat = 0 from rfl] at hx334_0)
                  (try rw [Addr.add_zero'] at hx334_0)
                  have HR334_0 := Aside0.mk hi334_0
                  have HC334_0 := Aside0.mk hl334_0
                  clear hi334_0 hl334_0
                  replace p334 := eq_true p334
                  replace q334 := eq_true q334
                  have ea_ := Option.some.inj (hx333_0.symm.trans hx334_0)
                  injection ea_ with ea_ en_ ec_
                  subst ea_
                  subst ec_
                  clear en_
                  have p335 : 0 ≤ (x7_2 : Int) := of_decide_eq_true (by first | (with_reducible assumption) | assumption)
                  have q335 : x7_2 < ((rd_L2 x3_2 0).length : Int) := of_decide_eq_true (by first | (with_reducible assumption) | assumption)
                  obtain ⟨ad335, A335_0, c335_0, e335, hx335_0, hl335_0, hi335_0⟩ := at_L1 (by repeat (first | (with_reducible exact HR334_0.out) | (with_reducible refine Kd.C_alloc ?_ _) | (with_reducible refine Kd.C_drewN ?_ _) | (with_reducible refine Kd.C_drew ?_) | exact HR334_0.out)) x7_2 p335 q335
                  cases e335
                  obtain ⟨ce335, hce335, hMe335, hcc335⟩ := Kd.V_get HL334_0.out [] x7_2 p335 (by first | exact q335 | exact of_decide_eq_true (by first | (with_reducible assumption) | assumption) | (have e_ := (Kd.V_reads' HL334_0.out).1; omega))
                  obtain ⟨ua335_0, uc335_0, rfl, ul335_0, ge335_0⟩ := Kd.FK_slice_open hMe335
                  have hv335_0 := hcc335 0 _ rfl
                  rw [Nat.add_zero, show ((Kd.slice 5 (Kd.int .u8))).sz = 1 from rfl, Nat.mul_one] at hv335_0
                  replace hv335_0 := Option.some.inj (hv335_0.symm.trans hx335_0)
                  injection hv335_0 with hva_ hvn_ hvc_
                  rw [hva_] at ge335_0
                  rw [hvc_] at ul335_0
                  have HL335_0 := Aside0.mk (show Kd.V (Kd.int .u8) 5 _ w.heap.size _ _ (rd_L1 (rd_L2 x3_2 0) x7_2) from Kd.V_mk ul335_0 ge335_0)
                  clear hva_ hvn_ hvc_ ge335_0 ul335_0
                  clear hcc335 hce335
                  have HR335_0 := Aside0.mk hi335_0
                  have HC335_0 := Aside0.mk hl335_0
                  clear hi335_0 hl335_0
                  replace p335 := eq_true p335
                  replace q335 := eq_true q335
                  go_wp2
                  go_roundg k2
                  case measure => have := HJ2.out; have := HK2.out; omega
                  case rel => exact ⟨(wrap64 (x6_2 + (wrap64 (((rd_L1 (rd_L2 x3_2 0) x7_2).length : Int) + 4)))), (wrap64 (x7_2 + 1)), (by first | rfl | (simp; done) | (simp [*]; done)), (by first | rfl | (simp; done) | (simp [*]; done)), H', ⟨by have := HJ2.out; have := HK2.out; omega⟩, ⟨by (with_reducible repeat (first | apply Kd.N_alloc | apply Kd.N_drewN | apply Kd.N_drew)); exact HO_3.out⟩, ⟨by (with_reducible repeat (first | apply Kd.R_alloc | apply Kd.R_drewN | apply Kd.R_drew)); exact HO_4.out⟩, ⟨by repeat (first | (with_reducible exact HR328_0.out) | (with_reducible refine Kd.C_alloc ?_ _) | (with_reducible refine Kd.C_drewN ?_ _) | (with_reducible refine Kd.C_drew ?_) | exact HR328_0.out)⟩, ⟨by repeat (first | (with_reducible first | exact HB.out | apply below_alloc | apply pw_below_drewN | apply below_drew1) | exact HB.out)⟩⟩
                · rw [if_neg c21] at H
                  exact absurd H (by simp)
              · rw [if_neg c20] at H
                have c20b0 : decide (x7_2 < ((rd_L2 x3_2 0).length : Int)) = false := decide_eq_false c20
                clear c20
                by_cases c22 : ([] : List Int).length + t329.length < 140737488355328
                · rw [if_pos c22] at H
                  have LMc22 := Aside0.mk c22
                  clear c22
                  obtain ⟨y336, hy336⟩ : ∃ y_ : List Int, y_ = (([] : List Int) ++ t329) := ⟨_, rfl⟩
                  replace H : ((wal_Scan.f y336).bind fun bt339 => (if t330 = 0 then (if bt339.2.2 = 0 then (if (t329.length : Int) = x6_2 then (if bt339.2.1 = x6_2 then (if (t329.length : Int) ≥ 5 then ((bagnallkeep_sameBatches.f k2 bt339.1 x3_2).bind fun t344 => (some t344)) else (some false)) else (some false)) else (some false)) else (some false)) else (some false))) = some r := by first | (rw [hy336]; with_reducible exact H) | (have H2_ := (Option.bind_some _ _).symm.trans H; rw [hy336]; with_reducible exact H2_) | (have H2_ := (Option.bind_some _ _).symm.trans H; with_reducible exact H2_) | with_reducible exact H | (rw [hy336]; exact H) | exact H
                  have Ny336 := Aside0.mk hy336
                  clear hy336
                  replace H := Option.bind_eq_some_iff.mp H
                  obtain ⟨⟨t339, t340, t341⟩, A230, H⟩ := H
                  replace H : (if t330 = 0 then (if t341 = 0 then (if (t329.length : Int) = x6_2 then (if t340 = x6_2 then (if (t329.length : Int) ≥ 5 then ((bagnallkeep_sameBatches.f k2 t339 x3_2).bind fun t344 => (some t344)) else (some false)) else (some false)) else (some false)) else (some false)) else (some false)) = some r := H
                  have A23 := Aside0.mk A230
                  clear A230
                  by_cases c24 : t330 = 0
                  · rw [if_pos c24] at H
                    have c24b0 : (t330 == 0) = true := beq_iff_eq.mpr c24
                    have c24b1 : (t330 != 0) = false := bne_eq_false_iff_eq.mpr c24
                    clear c24
                    by_cases c25 : t341 = 0
                    · rw [if_pos c25] at H
                      have c25b0 : (t341 == 0) = true := beq_iff_eq.mpr c25
                      have c25b1 : (t341 != 0) = false := bne_eq_false_iff_eq.mpr c25
                      clear c25
                      by_cases c26 : (t329.length : Int) = x6_2
                      · rw [if_pos c26] at H
                        have c26b0 : ((t329.length : Int) == x6_2) = true := beq_iff_eq.mpr c26
                        have c26b1 : ((t329.length : Int) != x6_2) = false := bne_eq_false_iff_eq.mpr c26
                        clear c26
                        by_cases c27 : t340 = x6_2
                        · rw [if_pos c27] at H
                          have c27b0 : (t340 == x6_2) = true := beq_iff_eq.mpr c27
                          have c27b1 : (t340 != x6_2) = false := bne_eq_false_iff_eq.mpr c27
                          clear c27
                          by_cases c28 : (t329.length : Int) ≥ 5
                          · rw [if_pos c28] at H
                            have c28b0 : decide (5 ≤ (t329.length : Int)) = true := decide_eq_true c28
                            have c28b1 : decide (5 ≤ t329.length) = true := decide_eq_true (by omega)
                            clear c28
                            replace H := Option.bind_eq_some_iff.mp H
                            obtain ⟨t344, A290, H⟩ := H
                            replace H : (some t344) = some r := H
                            have A29 := Aside0.mk A290
                            clear A290
                            obtain rfl := Option.some.inj H
                            have p333 : 0 ≤ (0 : Int) := (by omega)
                            have q333 : 0 < (x3_2.length : Int) := of_decide_eq_true (by first | (with_reducible assumption) | assumption)
                            obtain ⟨ad333, A333_0, c333_0, e333, hx333_0, hl333_0, hi333_0⟩ := at_L2 (Kd.N_reads' HO_3.out).2.2 0 p333 q333
                            obtain rfl : ad328 = ad333 := (by injection e333)
                            obtain ⟨ce333, hce333, hMe333, hcc333⟩ := Kd.N_get HO_3.out [] 0 p333 (by first | exact q333 | exact of_decide_eq_true (by first | (with_reducible assumption) | assumption) | (have e_ := (Kd.N_reads' HO_3.out).1; omega))
                            obtain ⟨ua333_0, uc333_0, rfl, ul333_0, ge333_0⟩ := Kd.FK_slice_open hMe333
                            have hv333_0 := hcc333 0 _ rfl
                            rw [Nat.add_zero, show ((Kd.slice 25 (Kd.slice 5 (Kd.int .u8)))).sz = 1 from rfl, Nat.mul_one] at hv333_0
                            replace hv333_0 := Option.some.inj (hv333_0.symm.trans hx333_0)
                            injection hv333_0 with hva_ hvn_ hvc_
                            rw [hva_] at ge333_0
                            rw [hvc_] at ul333_0
                            have HL333_0 := Aside0.mk (show Kd.V (Kd.slice 5 (Kd.int .u8)) 25 _ w.heap.size _ _ (rd_L2 x3_2 0) from Kd.V_mk ul333_0 ge333_0)
                            clear hva_ hvn_ hvc_ ge333_0 ul333_0
                            clear hcc333 hce333
                            have qi333 : (0 < x3_2.length) = True := eq_true (by omega)
                            (try rw [show ((0 : Int)).toNat = 0 from rfl] at hx333_0)
                            (try rw [Addr.add_zero'] at hx333_0)
                            have HR333_0 := Aside0.mk hi333_0
                            have HC333_0 := Aside0.mk hl333_0
                            clear hi333_0 hl333_0
                            replace p333 := eq_true p333
                            replace q333 := eq_true q333
                            obtain ⟨Ao31, co31, eo31⟩ := Kd.R_slice HO_4.out
                            subst eo31
                            go_wp2_with (first | ((with_reducible refine gate_builtin (b := .append) (xs := #[.const _, .tmp 45]) rfl ?_); (try (refine gate_guard (by rfl) ?_; dsimp only)); at_builtin; refine Kd.R_append_rows (Kd.int .u8) (w0 := w) w.heap.size rfl (.const (.slice none 0 0)) (.tmp 45) 25 5 (.int .u8 0) 1 rfl Try.underlying25 info5 rfl (by decide) (by omega) (.slice none 0 0) ([] : List Int) t329 _ _ _ (fun k_ => some k_ ≠ (.slice Ao31 t329.length co31 : Value).ownBlock) (fun _ => False) rfl rfl ?aO ?aR (fun _ _ h => h) (fun _ h => h.elim) ?aF ?aB ?aS ?aL ?_; (case aR => repeat (first | exact (Kd.R_reads' HO_4.out).2.2 | (with_reducible refine Kd.C_alloc ?_ _) | (with_reducible refine Kd.C_drewN ?_ _) | (with_reducible refine Kd.C_drew ?_))); (case aB => exact (by repeat (first | (with_reducible first | exact HB.out | apply below_alloc | apply pw_below_drewN | apply below_drew1) | exact HB.out))); (case aF => exact (fun k_ hk => Kd.fresh' (Kd.R_lt (by (with_reducible repeat (first | apply Kd.R_alloc | apply Kd.R_drewN | apply Kd.R_drew)); exact HO_4.out)) k_ hk)); (case aO => exact ((Kd.R_nil _ _ _ _ (fun k_ => some k_ ≠ (.slice Ao31 t329.length co31 : Value).ownBlock)))); (case aS => exact (below_size (by repeat (first | (with_reducible first | exact HB.out | apply below_alloc | apply pw_below_drewN | apply below_drew1) | exact HB.out)))); (case aL => have := LMc22.out; omega); intro v337 w30 ho hb hg hat; rw [← Ny336.out] at ho; have n0_ := Aside0.mk (Kd.N_afterv (Kd.N_apart_nil (by (with_reducible repeat (first | apply Kd.N_alloc | apply Kd.N_drewN | apply Kd.N_drew)); exact HO_3.out)) hg hat); have n1_ := Aside0.mk (Kd.R_after (Kd.R_apart_nil (by (with_reducible repeat (first | apply Kd.R_alloc | apply Kd.R_drewN | apply Kd.R_drew)); exact HO_4.out)) hg hat); have n2_ := Aside0.mk (Kd.V_afterv (Kd.V_apart_nil (by (with_reducible repeat (first | apply Kd.V_alloc | apply Kd.V_drewN | apply Kd.V_drew)); exact HL333_0.out)) hg hat); have n3_ := Aside0.mk (hb); have n4_ := Aside0.mk (ho); clear HO_3; clear HO_4; clear HL333_0; clear HB; have HO_3 := n0_; have HO_4 := n1_; have HL333_0 := n2_; have HB := n3_; have HO338 := n4_; clear n0_ n1_ n2_ n3_ n4_; clear ho hb hg hat; obtain ⟨Ao32, co32, eo32⟩ := Kd.R_slice HO338.out; subst eo32) | ((with_reducible refine gate_callee (f := 36) rfl ?_); refine goesL_ (some 47) rfl rfl Try.func36 (by kernel_rfl) rfl #[.slice Ao32 y336.length co32] rfl (by (try simp only [List.map_toArray, List.map_cons, List.map_nil]); first | done | rfl | (simp only [List.length_drop, List.length_take]; rfl)) ?_; (with_reducible refine (wal_Scan.calls _ _ y336 t339 t340 t341 _ ?side1 ?side2 A23.out).mono ?_); (case side1 => repeat (first | exact (Kd.R_reads' HO338.out).2.2 | (with_reducible refine Kd.C_alloc ?_ _) | (with_reducible refine Kd.C_drewN ?_ _) | (with_reducible refine Kd.C_drew ?_))); (case side2 => exact (Kd.R_reads' HO338.out).2.1); rintro e w33 ⟨v342, rfl, ho0, hb⟩; refine ⟨_, rfl, ?_⟩; have n0_ := Aside0.mk (Kd.N_elder' (by (with_reducible repeat (first | apply Kd.N_alloc | apply Kd.N_drewN | apply Kd.N_drew)); exact HO_3.out) (Kd.R_base ho0) hb); have n1_ := Aside0.mk (Kd.R_below (by (with_reducible repeat (first | apply Kd.R_alloc | apply Kd.R_drewN | apply Kd.R_drew)); exact HO_4.out) hb); have n2_ := Aside0.mk (Kd.V_elder' (by (with_reducible repeat (first | apply Kd.V_alloc | apply Kd.V_drewN | apply Kd.V_drew)); exact HL333_0.out) (Kd.R_base ho0) hb); have n3_ := Aside0.mk (Kd.R_below (by (with_reducible repeat (first | apply Kd.R_alloc | apply Kd.R_drewN | apply Kd.R_drew)); exact HO338.out) hb); have n4_ := Aside0.mk (Kd.N_lower (Kd.N_mono (ok' := fun k_ => some k_ ≠ (.slice (some ad328) x3_2.length co17 : Value).ownBlock ∧ some k_ ≠ (.slice Ao31 t329.length co31 : Value).ownBlock ∧ some k_ ≠ (.slice Ao32 y336.length co32 : Value).ownBlock) (Kd.R_N (Kd.R_bound ho0)) (fun k_ hk_ => ⟨(Kd.fresh' (Kd.N_lt (by (with_reducible repeat (first | apply Kd.N_alloc | apply Kd.N_drewN | apply Kd.N_drew)); exact HO_3.out)) k_ hk_.2.1), (Kd.fresh' (Kd.R_lt (by (with_reducible repeat (first | apply Kd.R_alloc | apply Kd.R_drewN | apply Kd.R_drew)); exact HO_4.out)) k_ hk_.2.1), (Kd.fresh' (Kd.R_lt (by (with_reducible repeat (first | apply Kd.R_alloc | apply Kd.R_drewN | apply Kd.R_drew)); exact HO338.out)) k_ hk_.2.1)⟩)) (below_size (by repeat (first | (with_reducible first | exact HB.out | apply below_alloc | apply pw_below_drewN | apply below_drew1) | exact HB.out)))); have n5_ := Aside0.mk (below_step (by repeat (first | (with_reducible first | exact HB.out | apply below_alloc | apply pw_below_drewN | apply below_drew1) | exact HB.out)) hb); clear HO_3; clear HO_4; clear HL333_0; clear HO338; clear HB; have HO_3 := n0_; have HO_4 := n1_; have HL333_0 := n2_; have HO338 := n3_; have HO343 := n4_; have HB := n5_; clear n0_ n1_ n2_ n3_ n4_ n5_; (try clear hb); (try clear hb2); (try clear hk); (try clear hi); (try clear ho0); obtain ⟨Ao34, co34, eo34⟩ := Kd.N_slice HO343.out; subst eo34) | (go_at_call 38; (with_reducible refine (bagnallkeep_sameBatches.calls k2 _ _ t339 _ _ x3_2 t344 _ ?side1 ?side2 ?side3 ?side4 A29.out).mono ?_); (case side1 => repeat (first | exact (Kd.N_reads' HO343.out).2.2 | (with_reducible refine Kd.C_alloc ?_ _) | (with_reducible refine Kd.C_drewN ?_ _) | (with_reducible refine Kd.C_drew ?_))); (case side2 => exact (Kd.N_reads' HO343.out).2.1); (case side3 => repeat (first | exact (Kd.N_reads' HO_3.out).2.2 | (with_reducible refine Kd.C_alloc ?_ _) | (with_reducible refine Kd.C_drewN ?_ _) | (with_reducible refine Kd.C_drew ?_))); (case side4 => exact (Kd.N_reads' HO_3.out).2.1); rintro e w' ⟨rfl, ⟨nd, rfl⟩⟩))
                            go_ret
                            exact ⟨by first | rfl | (simp [errW_none, errW_some] <;> rfl) | (simp [*, errW_none, errW_some] <;> rfl), by repeat (first | (with_reducible first | exact HB.out | apply below_alloc | apply pw_below_drewN | apply below_drew1) | exact HB.out)⟩
                          · rw [if_neg c28] at H
                            have c28b0 : decide (5 ≤ (t329.length : Int)) = false := decide_eq_false c28
                            have c28b1 : decide (5 ≤ t329.length) = false := decide_eq_false (by omega)
                            clear c28
                            obtain rfl := Option.some.inj H
                            have p333 : 0 ≤ (0 : Int) := (by omega)
                            have q333 : 0 < (x3_2.length : Int) := of_decide_eq_true (by first | (with_reducible assumption) | assumption)
                            obtain ⟨ad333, A333_0, c333_0, e333, hx333_0, hl333_0, hi333_0⟩ := at_L2 (Kd.N_reads' HO_3.out).2.2 0 p333 q333
                            obtain rfl : ad328 = ad333 := (by injection e333)
                            obtain ⟨ce333, hce333, hMe333, hcc333⟩ := Kd.N_get HO_3.out [] 0 p333 (by first | exact q333 | exact of_decide_eq_true (by first | (with_reducible assumption) | assumption) | (have e_ := (Kd.N_reads' HO_3.out).1; omega))
                            obtain ⟨ua333_0, uc333_0, rfl, ul333_0, ge333_0⟩ := Kd.FK_slice_open hMe333
                            have hv333_0 := hcc333 0 _ rfl
                            rw [Nat.add_zero, show ((Kd.slice 25 (Kd.slice 5 (Kd.int .u8)))).sz = 1 from rfl, Nat.mul_one] at hv333_0
                            replace hv333_0 := Option.some.inj (hv333_0.symm.trans hx333_0)
                            injection hv333_0 with hva_ hvn_ hvc_
                            rw [hva_] at ge333_0
                            rw [hvc_] at ul333_0
                            have HL333_0 := Aside0.mk (show Kd.V (Kd.slice 5 (Kd.int .u8)) 25 _ w.heap.size _ _ (rd_L2 x3_2 0) from Kd.V_mk ul333_0 ge333_0)
                            clear hva_ hvn_ hvc_ ge333_0 ul333_0
                            clear hcc333 hce333
                            have qi333 : (0 < x3_2.length) = True := eq_true (by omega)
                            (try rw [show ((0 : Int)).toNat = 0 from rfl] at hx333_0)
                            (try rw [Addr.add_zero'] at hx333_0)
                            have HR333_0 := Aside0.mk hi333_0
                            have HC333_0 := Aside0.mk hl333_0
                            clear hi333_0 hl333_0
                            replace p333 := eq_true p333
                            replace q333 := eq_true q333
                            obtain ⟨Ao36, co36, eo36⟩ := Kd.R_slice HO_4.out
                            subst eo36
                            go_wp2_with (first | ((with_reducible refine gate_builtin (b := .append) (xs := #[.const _, .tmp 45]) rfl ?_); (try (refine gate_guard (by rfl) ?_; dsimp only)); at_builtin; refine Kd.R_append_rows (Kd.int .u8) (w0 := w) w.heap.size rfl (.const (.slice none 0 0)) (.tmp 45) 25 5 (.int .u8 0) 1 rfl Try.underlying25 info5 rfl (by decide) (by omega) (.slice none 0 0) ([] : List Int) t329 _ _ _ (fun k_ => some k_ ≠ (.slice Ao36 t329.length co36 : Value).ownBlock) (fun _ => False) rfl rfl ?aO ?aR (fun _ _ h => h) (fun _ h => h.elim) ?aF ?aB ?aS ?aL ?_; (case aR => repeat (first | exact (Kd.R_reads' HO_4.out).2.2 | (with_reducible refine Kd.C_alloc ?_ _) | (with_reducible refine Kd.C_drewN ?_ _) | (with_reducible refine Kd.C_drew ?_))); (case aB => exact (by repeat (first | (with_reducible first | exact HB.out | apply below_alloc | apply pw_below_drewN | apply below_drew1) | exact HB.out))); (case aF => exact (fun k_ hk => Kd.fresh' (Kd.R_lt (by (with_reducible repeat (first | apply Kd.R_alloc | apply Kd.R_drewN | apply Kd.R_drew)); exact HO_4.out)) k_ hk)); (case aO => exact ((Kd.R_nil _ _ _ _ (fun k_ => some k_ ≠ (.slice Ao36 t329.length co36 : Value).ownBlock)))); (case aS => exact (below_size (by repeat (first | (with_reducible first | exact HB.out | apply below_alloc | apply pw_below_drewN | apply below_drew1) | exact HB.out)))); (case aL => have := LMc22.out; omega); intro v337 w35 ho hb hg hat; rw [← Ny336.out] at ho; have n0_ := Aside0.mk (Kd.N_afterv (Kd.N_apart_nil (by (with_reducible repeat (first | apply Kd.N_alloc | apply Kd.N_drewN | apply Kd.N_drew)); exact HO_3.out)) hg hat); have n1_ := Aside0.mk (Kd.R_after (Kd.R_apart_nil (by (with_reducible repeat (first | apply Kd.R_alloc | apply Kd.R_drewN | apply Kd.R_drew)); exact HO_4.out)) hg hat); have n2_ := Aside0.mk (Kd.V_afterv (Kd.V_apart_nil (by (with_reducible repeat (first | apply Kd.V_alloc | apply Kd.V_drewN | apply Kd.V_drew)); exact HL333_0.out)) hg hat); have n3_ := Aside0.mk (hb); have n4_ := Aside0.mk (ho); clear HO_3; clear HO_4; clear HL333_0; clear HB; have HO_3 := n0_; have HO_4 := n1_; have HL333_0 := n2_; have HB := n3_; have HO338 := n4_; clear n0_ n1_ n2_ n3_ n4_; clear ho hb hg hat; obtain ⟨Ao37, co37, eo37⟩ := Kd.R_slice HO338.out; subst eo37) | ((with_reducible refine gate_callee (f := 36) rfl ?_); refine goesL_ (some 47) rfl rfl Try.func36 (by kernel_rfl) rfl #[.slice Ao37 y336.length co37] rfl (by (try simp only [List.map_toArray, List.map_cons, List.map_nil]); first | done | rfl | (simp only [List.length_drop, List.length_take]; rfl)) ?_; (with_reducible refine (wal_Scan.calls _ _ y336 t339 t340 t341 _ ?side1 ?side2 A23.out).mono ?_); (case side1 => repeat (first | exact (Kd.R_reads' HO338.out).2.2 | (with_reducible refine Kd.C_alloc ?_ _) | (with_reducible refine Kd.C_drewN ?_ _) | (with_reducible refine Kd.C_drew ?_))); (case side2 => exact (Kd.R_reads' HO338.out).2.1); rintro e w38 ⟨v342, rfl, ho0, hb⟩; refine ⟨_, rfl, ?_⟩; have n0_ := Aside0.mk (Kd.N_elder' (by (with_reducible repeat (first | apply Kd.N_alloc | apply Kd.N_drewN | apply Kd.N_drew)); exact HO_3.out) (Kd.R_base ho0) hb); have n1_ := Aside0.mk (Kd.R_below (by (with_reducible repeat (first | apply Kd.R_alloc | apply Kd.R_drewN | apply Kd.R_drew)); exact HO_4.out) hb); have n2_ := Aside0.mk (Kd.V_elder' (by (with_reducible repeat (first | apply Kd.V_alloc | apply Kd.V_drewN | apply Kd.V_drew)); exact HL333_0.out) (Kd.R_base ho0) hb); have n3_ := Aside0.mk (Kd.R_below (by (with_reducible repeat (first | apply Kd.R_alloc | apply Kd.R_drewN | apply Kd.R_drew)); exact HO338.out) hb); have n4_ := Aside0.mk (Kd.N_lower (Kd.N_mono (ok' := fun k_ => some k_ ≠ (.slice (some ad328) x3_2.length co17 : Value).ownBlock ∧ some k_ ≠ (.slice Ao36 t329.length co36 : Value).ownBlock ∧ some k_ ≠ (.slice Ao37 y336.length co37 : Value).ownBlock) (Kd.R_N (Kd.R_bound ho0)) (fun k_ hk_ => ⟨(Kd.fresh' (Kd.N_lt (by (with_reducible repeat (first | apply Kd.N_alloc | apply Kd.N_drewN | apply Kd.N_drew)); exact HO_3.out)) k_ hk_.2.1), (Kd.fresh' (Kd.R_lt (by (with_reducible repeat (first | apply Kd.R_alloc | apply Kd.R_drewN | apply Kd.R_drew)); exact HO_4.out)) k_ hk_.2.1), (Kd.fresh' (Kd.R_lt (by (with_reducible repeat (first | apply Kd.R_alloc | apply Kd.R_drewN | apply Kd.R_drew)); exact HO338.out)) k_ hk_.2.1)⟩)) (below_size (by repeat (first | (with_reducible first | exact HB.out | apply below_alloc | apply pw_below_drewN | apply below_drew1) | exact HB.out)))); have n5_ := Aside0.mk (below_step (by repeat (first | (with_reducible first | exact HB.out | apply below_alloc | apply pw_below_drewN | apply below_drew1) | exact HB.out)) hb); clear HO_3; clear HO_4; clear HL333_0; clear HO338; clear HB; have HO_3 := n0_; have HO_4 := n1_; have HL333_0 := n2_; have HO338 := n3_; have HO343 := n4_; have HB := n5_; clear n0_ n1_ n2_ n3_ n4_ n5_; (try clear hb); (try clear hb2); (try clear hk); (try clear hi); (try clear ho0)))
                            go_ret
                            exact ⟨by first | rfl | (simp [errW_none, errW_some] <;> rfl) | (simp [*, errW_none, errW_some] <;> rfl), by repeat (first | (with_reducible first | exact HB.out | apply below_alloc | apply pw_below_drewN | apply below_drew1) | exact HB.out)⟩
                        · rw [if_neg c27] at H
                          have c27b0 : (t340 == x6_2) = false := beq_eq_false_iff_ne.mpr c27
                          have c27b1 : (t340 != x6_2) = true := bne_iff_ne.mpr c27
                          obtain rfl := Option.some.inj H
                          have p333 : 0 ≤ (0 : Int) := (by omega)
                          have q333 : 0 < (x3_2.length : Int) := of_decide_eq_true (by first | (with_reducible assumption) | assumption)
                          obtain ⟨ad333, A333_0, c333_0, e333, hx333_0, hl333_0, hi333_0⟩ := at_L2 (Kd.N_reads' HO_3.out).2.2 0 p333 q333
                          obtain rfl : ad328 = ad333 := (by injection e333)
                          obtain ⟨ce333, hce333, hMe333, hcc333⟩ := Kd.N_get HO_3.out [] 0 p333 (by first | exact q333 | exact of_decide_eq_true (by first | (with_reducible assumption) | assumption) | (have e_ := (Kd.N_reads' HO_3.out).1; omega))
                          obtain ⟨ua333_0, uc333_0, rfl, ul333_0, ge333_0⟩ := Kd.FK_slice_open hMe333
                          have hv333_0 := hcc333 0 _ rfl
                          rw [Nat.add_zero, show ((Kd.slice 25 (Kd.slice 5 (Kd.int .u8)))).sz = 1 from rfl, Nat.mul_one] at hv333_0
                          replace hv333_0 := Option.some.inj (hv333_0.symm.trans hx333_0)
                          injection hv333_0 with hva_ hvn_ hvc_
                          rw [hva_] at ge333_0
                          rw [hvc_] at ul333_0
                          have HL333_0 := Aside0.mk (show Kd.V (Kd.slice 5 (Kd.int .u8)) 25 _ w.heap.size _ _ (rd_L2 x3_2 0) from Kd.V_mk ul333_0 ge333_0)
                          clear hva_ hvn_ hvc_ ge333_0 ul333_0
                          clear hcc333 hce333
                          have qi333 : (0 < x3_2.length) = True := eq_true (by omega)
                          (try rw [show ((0 : Int)).toNat = 0 from rfl] at hx333_0)
                          (try rw [Addr.add_zero'] at hx333_0)
                          have HR333_0 := Aside0.mk hi333_0
                          have HC333_0 := Aside0.mk hl333_0
                          clear hi333_0 hl333_0
                          replace p333 := eq_true p333
                          replace q333 := eq_true q333
                          obtain ⟨Ao40, co40, eo40⟩ := Kd.R_slice HO_4.out
                          subst eo40
                          go_wp2_with (first | ((with_reducible refine gate_builtin (b := .append) (xs := #[.const _, .tmp 45]) rfl ?_); (try (refine gate_guard (by rfl) ?_; dsimp only)); at_builtin; refine Kd.R_append_rows (Kd.int .u8) (w0 := w) w.heap.size rfl (.const (.slice none 0 0)) (.tmp 45) 25 5 (.int .u8 0) 1 rfl Try.underlying25 info5 rfl (by decide) (by omega) (.slice none 0 0) ([] : List Int) t329 _ _ _ (fun k_ => some k_ ≠ (.slice Ao40 t329.length co40 : Value).ownBlock) (fun _ => False) rfl rfl ?aO ?aR (fun _ _ h => h) (fun _ h => h.elim) ?aF ?aB ?aS ?aL ?_; (case aR => repeat (first | exact (Kd.R_reads' HO_4.out).2.2 | (with_reducible refine Kd.C_alloc ?_ _) | (with_reducible refine Kd.C_drewN ?_ _) | (with_reducible refine Kd.C_drew ?_))); (case aB => exact (by repeat (first | (with_reducible first | exact HB.out | apply below_alloc | apply pw_below_drewN | apply below_drew1) | exact HB.out))); (case aF => exact (fun k_ hk => Kd.fresh' (Kd.R_lt (by (with_reducible repeat (first | apply Kd.R_alloc | apply Kd.R_drewN | apply Kd.R_drew)); exact HO_4.out)) k_ hk)); (case aO => exact ((Kd.R_nil _ _ _ _ (fun k_ => some k_ ≠ (.slice Ao40 t329.length co40 : Value).ownBlock)))); (case aS => exact (below_size (by repeat (first | (with_reducible first | exact HB.out | apply below_alloc | apply pw_below_drewN | apply below_drew1) | exact HB.out)))); (case aL => have := LMc22.out; omega); intro v337 w39 ho hb hg hat; rw [← Ny336.out] at ho; have n0_ := Aside0.mk (Kd.N_afterv (Kd.N_apart_nil (by (with_reducible repeat (first | apply Kd.N_alloc | apply Kd.N_drewN | apply Kd.N_drew)); exact HO_3.out)) hg hat); have n1_ := Aside0.mk (Kd.R_after (Kd.R_apart_nil (by (with_reducible repeat (first | apply Kd.R_alloc | apply Kd.R_drewN | apply Kd.R_drew)); exact HO_4.out)) hg hat); have n2_ := Aside0.mk (Kd.V_afterv (Kd.V_apart_nil (by (with_reducible repeat (first | apply Kd.V_alloc | apply Kd.V_drewN | apply Kd.V_drew)); exact HL333_0.out)) hg hat); have n3_ := Aside0.mk (hb); have n4_ := Aside0.mk (ho); clear HO_3; clear HO_4; clear HL333_0; clear HB; have HO_3 := n0_; have HO_4 := n1_; have HL333_0 := n2_; have HB := n3_; have HO338 := n4_; clear n0_ n1_ n2_ n3_ n4_; clear ho hb hg hat; obtain ⟨Ao41, co41, eo41⟩ := Kd.R_slice HO338.out; subst eo41) | ((with_reducible refine gate_callee (f := 36) rfl ?_); refine goesL_ (some 47) rfl rfl Try.func36 (by kernel_rfl) rfl #[.slice Ao41 y336.length co41] rfl (by (try simp only [List.map_toArray, List.map_cons, List.map_nil]); first | done | rfl | (simp only [List.length_drop, List.length_take]; rfl)) ?_; (with_reducible refine (wal_Scan.calls _ _ y336 t339 t340 t341 _ ?side1 ?side2 A23.out).mono ?_); (case side1 => repeat (first | exact (Kd.R_reads' HO338.out).2.2 | (with_reducible refine Kd.C_alloc ?_ _) | (with_reducible refine Kd.C_drewN ?_ _) | (with_reducible refine Kd.C_drew ?_))); (case side2 => exact (Kd.R_reads' HO338.out).2.1); rintro e w42 ⟨v342, rfl, ho0, hb⟩; refine ⟨_, rfl, ?_⟩; have n0_ := Aside0.mk (Kd.N_elder' (by (with_reducible repeat (first | apply Kd.N_alloc | apply Kd.N_drewN | apply Kd.N_drew)); exact HO_3.out) (Kd.R_base ho0) hb); have n1_ := Aside0.mk (Kd.R_below (by (with_reducible repeat (first | apply Kd.R_alloc | apply Kd.R_drewN | apply Kd.R_drew)); exact HO_4.out) hb); have n2_ := Aside0.mk (Kd.V_elder' (by (with_reducible repeat (first | apply Kd.V_alloc | apply Kd.V_drewN | apply Kd.V_drew)); exact HL333_0.out) (Kd.R_base ho0) hb); have n3_ := Aside0.mk (Kd.R_below (by (with_reducible repeat (first | apply Kd.R_alloc | apply Kd.R_drewN | apply Kd.R_drew)); exact HO338.out) hb); have n4_ := Aside0.mk (Kd.N_lower (Kd.N_mono (ok' := fun k_ => some k_ ≠ (.slice (some ad328) x3_2.length co17 : Value).ownBlock ∧ some k_ ≠ (.slice Ao40 t329.length co40 : Value).ownBlock ∧ some k_ ≠ (.slice Ao41 y336.length co41 : Value).ownBlock) (Kd.R_N (Kd.R_bound ho0)) (fun k_ hk_ => ⟨(Kd.fresh' (Kd.N_lt (by (with_reducible repeat (first | apply Kd.N_alloc | apply Kd.N_drewN | apply Kd.N_drew)); exact HO_3.out)) k_ hk_.2.1), (Kd.fresh' (Kd.R_lt (by (with_reducible repeat (first | apply Kd.R_alloc | apply Kd.R_drewN | apply Kd.R_drew)); exact HO_4.out)) k_ hk_.2.1), (Kd.fresh' (Kd.R_lt (by (with_reducible repeat (first | apply Kd.R_alloc | apply Kd.R_drewN | apply Kd.R_drew)); exact HO338.out)) k_ hk_.2.1)⟩)) (below_size (by repeat (first | (with_reducible first | exact HB.out | apply below_alloc | apply pw_below_drewN | apply below_drew1) | exact HB.out)))); have n5_ := Aside0.mk (below_step (by repeat (first | (with_reducible first | exact HB.out | apply below_alloc | apply pw_below_drewN | apply below_drew1) | exact HB.out)) hb); clear HO_3; clear HO_4; clear HL333_0; clear HO338; clear HB; have HO_3 := n0_; have HO_4 := n1_; have HL333_0 := n2_; have HO338 := n3_; have HO343 := n4_; have HB := n5_; clear n0_ n1_ n2_ n3_ n4_ n5_; (try clear hb); (try clear hb2); (try clear hk); (try clear hi); (try clear ho0)))
                          go_ret
                          exact ⟨by first | rfl | (simp [errW_none, errW_some] <;> rfl) | (simp [*, errW_none, errW_some] <;> rfl), by repeat (first | (with_reducible first | exact HB.out | apply below_alloc | apply pw_below_drewN | apply below_drew1) | exact HB.out)⟩
                      · rw [if_neg c26] at H
                        have c26b0 : ((t329.length : Int) == x6_2) = false := beq_eq_false_iff_ne.mpr c26
                        have c26b1 : ((t329.length : Int) != x6_2) = true := bne_iff_ne.mpr c26
                        obtain rfl := Option.some.inj H
                        have p333 : 0 ≤ (0 : Int) := (by omega)
                        have q333 : 0 < (x3_2.length : Int) := of_decide_eq_true (by first | (with_reducible assumption) | assumption)
                        obtain ⟨ad333, A333_0, c333_0, e333, hx333_0, hl333_0, hi333_0⟩ := at_L2 (Kd.N_reads' HO_3.out).2.2 0 p333 q333
                        obtain rfl : ad328 = ad333 := (by injection e333)
                        obtain ⟨ce333, hce333, hMe333, hcc333⟩ := Kd.N_get HO_3.out [] 0 p333 (by first | exact q333 | exact of_decide_eq_true (by first | (with_reducible assumption) | assumption) | (have e_ := (Kd.N_reads' HO_3.out).1; omega))
                        obtain ⟨ua333_0, uc333_0, rfl, ul333_0, ge333_0⟩ := Kd.FK_slice_open hMe333
                        have hv333_0 := hcc333 0 _ rfl
                        rw [Nat.add_zero, show ((Kd.slice 25 (Kd.slice 5 (Kd.int .u8)))).sz = 1 from rfl, Nat.mul_one] at hv333_0
                        replace hv333_0 := Option.some.inj (hv333_0.symm.trans hx333_0)
                        injection hv333_0 with hva_ hvn_ hvc_
                        rw [hva_] at ge333_0
                        rw [hvc_] at ul333_0
                        have HL333_0 := Aside0.mk (show Kd.V (Kd.slice 5 (Kd.int .u8)) 25 _ w.heap.size _ _ (rd_L2 x3_2 0) from Kd.V_mk ul333_0 ge333_0)
                        clear hva_ hvn_ hvc_ ge333_0 ul333_0
                        clear hcc333 hce333
                        have qi333 : (0 < x3_2.length) = True := eq_true (by omega)
                        (try rw [show ((0 : Int)).toNat = 0 from rfl] at hx333_0)
                        (try rw [Addr.add_zero'] at hx333_0)
                        have HR333_0 := Aside0.mk hi333_0
                        have HC333_0 := Aside0.mk hl333_0
                        clear hi333_0 hl333_0
                        replace p333 := eq_true p333
                        replace q333 := eq_true q333
                        obtain ⟨Ao44, co44, eo44⟩ := Kd.R_slice HO_4.out
                        subst eo44
                        go_wp2_with (first | ((with_reducible refine gate_builtin (b := .append) (xs := #[.const _, .tmp 45]) rfl ?_); (try (refine gate_guard (by rfl) ?_; dsimp only)); at_builtin; refine Kd.R_append_rows (Kd.int .u8) (w0 := w) w.heap.size rfl (.const (.slice none 0 0)) (.tmp 45) 25 5 (.int .u8 0) 1 rfl Try.underlying25 info5 rfl (by decide) (by omega) (.slice none 0 0) ([] : List Int) t329 _ _ _ (fun k_ => some k_ ≠ (.slice Ao44 t329.length co44 : Value).ownBlock) (fun _ => False) rfl rfl ?aO ?aR (fun _ _ h => h) (fun _ h => h.elim) ?aF ?aB ?aS ?aL ?_; (case aR => repeat (first | exact (Kd.R_reads' HO_4.out).2.2 | (with_reducible refine Kd.C_alloc ?_ _) | (with_reducible refine Kd.C_drewN ?_ _) | (with_reducible refine Kd.C_drew ?_))); (case aB => exact (by repeat (first | (with_reducible first | exact HB.out | apply below_alloc | apply pw_below_drewN | apply below_drew1) | exact HB.out))); (case aF => exact (fun k_ hk => Kd.fresh' (Kd.R_lt (by (with_reducible repeat (first | apply Kd.R_alloc | apply Kd.R_drewN | apply Kd.R_drew)); exact HO_4.out)) k_ hk)); (case aO => exact ((Kd.R_nil _ _ _ _ (fun k_ => some k_ ≠ (.slice Ao44 t329.length co44 : Value).ownBlock)))); (case aS => exact (below_size (by repeat (first | (with_reducible first | exact HB.out | apply below_alloc | apply pw_below_drewN | apply below_drew1) | exact HB.out)))); (case aL => have := LMc22.out; omega); intro v337 w43 ho hb hg hat; rw [← Ny336.out] at ho; have n0_ := Aside0.mk (Kd.N_afterv (Kd.N_apart_nil (by (with_reducible repeat (first | apply Kd.N_alloc | apply Kd.N_drewN | apply Kd.N_drew)); exact HO_3.out)) hg hat); have n1_ := Aside0.mk (Kd.R_after (Kd.R_apart_nil (by (with_reducible repeat (first | apply Kd.R_alloc | apply Kd.R_drewN | apply Kd.R_drew)); exact HO_4.out)) hg hat); have n2_ := Aside0.mk (Kd.V_afterv (Kd.V_apart_nil (by (with_reducible repeat (first | apply Kd.V_alloc | apply Kd.V_drewN | apply Kd.V_drew)); exact HL333_0.out)) hg hat); have n3_ := Aside0.mk (hb); have n4_ := Aside0.mk (ho); clear HO_3; clear HO_4; clear HL333_0; clear HB; have HO_3 := n0_; have HO_4 := n1_; have HL333_0 := n2_; have HB := n3_; have HO338 := n4_; clear n0_ n1_ n2_ n3_ n4_; clear ho hb hg hat; obtain ⟨Ao45, co45, eo45⟩ := Kd.R_slice HO338.out; subst eo45) | ((with_reducible refine gate_callee (f := 36) rfl ?_); refine goesL_ (some 47) rfl rfl Try.func36 (by kernel_rfl) rfl #[.slice Ao45 y336.length co45] rfl (by (try simp only [List.map_toArray, List.map_cons, List.map_nil]); first | done | rfl | (simp only [List.length_drop, List.length_take]; rfl)) ?_; (with_reducible refine (wal_Scan.calls _ _ y336 t339 t340 t341 _ ?side1 ?side2 A23.out).mono ?_); (case side1 => repeat (first | exact (Kd.R_reads' HO338.out).2.2 | (with_reducible refine Kd.C_alloc ?_ _) | (with_reducible refine Kd.C_drewN ?_ _) | (with_reducible refine Kd.C_drew ?_))); (case side2 => exact (Kd.R_reads' HO338.out).2.1); rintro e w46 ⟨v342, rfl, ho0, hb⟩; refine ⟨_, rfl, ?_⟩; have n0_ := Aside0.mk (Kd.N_elder' (by (with_reducible repeat (first | apply Kd.N_alloc | apply Kd.N_drewN | apply Kd.N_drew)); exact HO_3.out) (Kd.R_base ho0) hb); have n1_ := Aside0.mk (Kd.R_below (by (with_reducible repeat (first | apply Kd.R_alloc | apply Kd.R_drewN | apply Kd.R_drew)); exact HO_4.out) hb); have n2_ := Aside0.mk (Kd.V_elder' (by (with_reducible repeat (first | apply Kd.V_alloc | apply Kd.V_drewN | apply Kd.V_drew)); exact HL333_0.out) (Kd.R_base ho0) hb); have n3_ := Aside0.mk (Kd.R_below (by (with_reducible repeat (first | apply Kd.R_alloc | apply Kd.R_drewN | apply Kd.R_drew)); exact HO338.out) hb); have n4_ := Aside0.mk (Kd.N_lower (Kd.N_mono (ok' := fun k_ => some k_ ≠ (.slice (some ad328) x3_2.length co17 : Value).ownBlock ∧ some k_ ≠ (.slice Ao44 t329.length co44 : Value).ownBlock ∧ some k_ ≠ (.slice Ao45 y336.length co45 : Value).ownBlock) (Kd.R_N (Kd.R_bound ho0)) (fun k_ hk_ => ⟨(Kd.fresh' (Kd.N_lt (by (with_reducible repeat (first | apply Kd.N_alloc | apply Kd.N_drewN | apply Kd.N_drew)); exact HO_3.out)) k_ hk_.2.1), (Kd.fresh' (Kd.R_lt (by (with_reducible repeat (first | apply Kd.R_alloc | apply Kd.R_drewN | apply Kd.R_drew)); exact HO_4.out)) k_ hk_.2.1), (Kd.fresh' (Kd.R_lt (by (with_reducible repeat (first | apply Kd.R_alloc | apply Kd.R_drewN | apply Kd.R_drew)); exact HO338.out)) k_ hk_.2.1)⟩)) (below_size (by repeat (first | (with_reducible first | exact HB.out | apply below_alloc | apply pw_below_drewN | apply below_drew1) | exact HB.out)))); have n5_ := Aside0.mk (below_step (by repeat (first | (with_reducible first | exact HB.out | apply below_alloc | apply pw_below_drewN | apply below_drew1) | exact HB.out)) hb); clear HO_3; clear HO_4; clear HL333_0; clear HO338; clear HB; have HO_3 := n0_; have HO_4 := n1_; have HL333_0 := n2_; have HO338 := n3_; have HO343 := n4_; have HB := n5_; clear n0_ n1_ n2_ n3_ n4_ n5_; (try clear hb); (try clear hb2); (try clear hk); (try clear hi); (try clear ho0)))
                        go_ret
                        exact ⟨by first | rfl | (simp [errW_none, errW_some] <;> rfl) | (simp [*, errW_none, errW_some] <;> rfl), by repeat (first | (with_reducible first | exact HB.out | apply below_alloc | apply pw_below_drewN | apply below_drew1) | exact HB.out)⟩
                    · rw [if_neg c25] at H
                      have c25b0 : (t341 == 0) = false := beq_eq_false_iff_ne.mpr c25
                      have c25b1 : (t341 != 0) = true := bne_iff_ne.mpr c25
                      obtain rfl := Option.some.inj H
                      have p333 : 0 ≤ (0 : Int) := (by omega)
                      have q333 : 0 < (x3_2.length : Int) := of_decide_eq_true (by first | (with_reducible assumption) | assumption)
                      obtain ⟨ad333, A333_0, c333_0, e333, hx333_0, hl333_0, hi333_0⟩ := at_L2 (Kd.N_reads' HO_3.out).2.2 0 p333 q333
                      obtain rfl : ad328 = ad333 := (by injection e333)
                      obtain ⟨ce333, hce333, hMe333, hcc333⟩ := Kd.N_get HO_3.out [] 0 p333 (by first | exact q333 | exact of_decide_eq_true (by first | (with_reducible assumption) | assumption) | (have e_ := (Kd.N_reads' HO_3.out).1; omega))
                      obtain ⟨ua333_0, uc333_0, rfl, ul333_0, ge333_0⟩ := Kd.FK_slice_open hMe333
                      have hv333_0 := hcc333 0 _ rfl
                      rw [Nat.add_zero, show ((Kd.slice 25 (Kd.slice 5 (Kd.int .u8)))).sz = 1 from rfl, Nat.mul_one] at hv333_0
                      replace hv333_0 := Option.some.inj (hv333_0.symm.trans hx333_0)
                      injection hv333_0 with hva_ hvn_ hvc_
                      rw [hva_] at ge333_0
                      rw [hvc_] at ul333_0
                      have HL333_0 := Aside0.mk (show Kd.V (Kd.slice 5 (Kd.int .u8)) 25 _ w.heap.size _ _ (rd_L2 x3_2 0) from Kd.V_mk ul333_0 ge333_0)
                      clear hva_ hvn_ hvc_ ge333_0 ul333_0
                      clear hcc333 hce333
                      have qi333 : (0 < x3_2.length) = True := eq_true (by omega)
                      (try rw [show ((0 : Int)).toNat = 0 from rfl] at hx333_0)
                      (try rw [Addr.add_zero'] at hx333_0)
                      have HR333_0 := Aside0.mk hi333_0
                      have HC333_0 := Aside0.mk hl333_0
                      clear hi333_0 hl333_0
                      replace p333 := eq_true p333
                      replace q333 := eq_true q333
                      obtain ⟨Ao48, co48, eo48⟩ := Kd.R_slice HO_4.out
                      subst eo48
                      go_wp2_with (first | ((with_reducible refine gate_builtin (b := .append) (xs := #[.const _, .tmp 45]) rfl ?_); (try (refine gate_guard (by rfl) ?_; dsimp only)); at_builtin; refine Kd.R_append_rows (Kd.int .u8) (w0 := w) w.heap.size rfl (.const (.slice none 0 0)) (.tmp 45) 25 5 (.int .u8 0) 1 rfl Try.underlying25 info5 rfl (by decide) (by omega) (.slice none 0 0) ([] : List Int) t329 _ _ _ (fun k_ => some k_ ≠ (.slice Ao48 t329.length co48 : Value).ownBlock) (fun _ => False) rfl rfl ?aO ?aR (fun _ _ h => h) (fun _ h => h.elim) ?aF ?aB ?aS ?aL ?_; (case aR => repeat (first | exact (Kd.R_reads' HO_4.out).2.2 | (with_reducible refine Kd.C_alloc ?_ _) | (with_reducible refine Kd.C_drewN ?_ _) | (with_reducible refine Kd.C_drew ?_))); (case aB => exact (by repeat (first | (with_reducible first | exact HB.out | apply below_alloc | apply pw_below_drewN | apply below_drew1) | exact HB.out))); (case aF => exact (fun k_ hk => Kd.fresh' (Kd.R_lt (by (with_reducible repeat (first | apply Kd.R_alloc | apply Kd.R_drewN | apply Kd.R_drew)); exact HO_4.out)) k_ hk)); (case aO => exact ((Kd.R_nil _ _ _ _ (fun k_ => some k_ ≠ (.slice Ao48 t329.length co48 : Value).ownBlock)))); (case aS => exact (below_size (by repeat (first | (with_reducible first | exact HB.out | apply below_alloc | apply pw_below_drewN | apply below_drew1) | exact HB.out)))); (case aL => have := LMc22.out; omega); intro v337 w47 ho hb hg hat; rw [← Ny336.out] at ho; have n0_ := Aside0.mk (Kd.N_afterv (Kd.N_apart_nil (by (with_reducible repeat (first | apply Kd.N_alloc | apply Kd.N_drewN | apply Kd.N_drew)); exact HO_3.out)) hg hat); have n1_ := Aside0.mk (Kd.R_after (Kd.R_apart_nil (by (with_reducible repeat (first | apply Kd.R_alloc | apply Kd.R_drewN | apply Kd.R_drew)); exact HO_4.out)) hg hat); have n2_ := Aside0.mk (Kd.V_afterv (Kd.V_apart_nil (by (with_reducible repeat (first | apply Kd.V_alloc | apply Kd.V_drewN | apply Kd.V_drew)); exact HL333_0.out)) hg hat); have n3_ := Aside0.mk (hb); have n4_ := Aside0.mk (ho); clear HO_3; clear HO_4; clear HL333_0; clear HB; have HO_3 := n0_; have HO_4 := n1_; have HL333_0 := n2_; have HB := n3_; have HO338 := n4_; clear n0_ n1_ n2_ n3_ n4_; clear ho hb hg hat; obtain ⟨Ao49, co49, eo49⟩ := Kd.R_slice HO338.out; subst eo49) | ((with_reducible refine gate_callee (f := 36) rfl ?_); refine goesL_ (some 47) rfl rfl Try.func36 (by kernel_rfl) rfl #[.slice Ao49 y336.length co49] rfl (by (try simp only [List.map_toArray, List.map_cons, List.map_nil]); first | done | rfl | (simp only [List.length_drop, List.length_take]; rfl)) ?_; (with_reducible refine (wal_Scan.calls _ _ y336 t339 t340 t341 _ ?side1 ?side2 A23.out).mono ?_); (case side1 => repeat (first | exact (Kd.R_reads' HO338.out).2.2 | (with_reducible refine Kd.C_alloc ?_ _) | (with_reducible refine Kd.C_drewN ?_ _) | (with_reducible refine Kd.C_drew ?_))); (case side2 => exact (Kd.R_reads' HO338.out).2.1); rintro e w50 ⟨v342, rfl, ho0, hb⟩; refine ⟨_, rfl, ?_⟩; have n0_ := Aside0.mk (Kd.N_elder' (by (with_reducible repeat (first | apply Kd.N_alloc | apply Kd.N_drewN | apply Kd.N_drew)); exact HO_3.out) (Kd.R_base ho0) hb); have n1_ := Aside0.mk (Kd.R_below (by (with_reducible repeat (first | apply Kd.R_alloc | apply Kd.R_drewN | apply Kd.R_drew)); exact HO_4.out) hb); have n2_ := Aside0.mk (Kd.V_elder' (by (with_reducible repeat (first | apply Kd.V_alloc | apply Kd.V_drewN | apply Kd.V_drew)); exact HL333_0.out) (Kd.R_base ho0) hb); have n3_ := Aside0.mk (Kd.R_below (by (with_reducible repeat (first | apply Kd.R_alloc | apply Kd.R_drewN | apply Kd.R_drew)); exact HO338.out) hb); have n4_ := Aside0.mk (Kd.N_lower (Kd.N_mono (ok' := fun k_ => some k_ ≠ (.slice (some ad328) x3_2.length co17 : Value).ownBlock ∧ some k_ ≠ (.slice Ao48 t329.length co48 : Value).ownBlock ∧ some k_ ≠ (.slice Ao49 y336.length co49 : Value).ownBlock) (Kd.R_N (Kd.R_bound ho0)) (fun k_ hk_ => ⟨(Kd.fresh' (Kd.N_lt (by (with_reducible repeat (first | apply Kd.N_alloc | apply Kd.N_drewN | apply Kd.N_drew)); exact HO_3.out)) k_ hk_.2.1), (Kd.fresh' (Kd.R_lt (by (with_reducible repeat (first | apply Kd.R_alloc | apply Kd.R_drewN | apply Kd.R_drew)); exact HO_4.out)) k_ hk_.2.1), (Kd.fresh' (Kd.R_lt (by (with_reducible repeat (first | apply Kd.R_alloc | apply Kd.R_drewN | apply Kd.R_drew)); exact HO338.out)) k_ hk_.2.1)⟩)) (below_size (by repeat (first | (with_reducible first | exact HB.out | apply below_alloc | apply pw_below_drewN | apply below_drew1) | exact HB.out)))); have n5_ := Aside0.mk (below_step (by repeat (first | (with_reducible first | exact HB.out | apply below_alloc | apply pw_below_drewN | apply below_drew1) | exact HB.out)) hb); clear HO_3; clear HO_4; clear HL333_0; clear HO338; clear HB; have HO_3 := n0_; have HO_4 := n1_; have HL333_0 := n2_; have HO338 := n3_; have HO343 := n4_; have HB := n5_; clear n0_ n1_ n2_ n3_ n4_ n5_; (try clear hb); (try clear hb2); (try clear hk); (try clear hi); (try clear ho0)))
                      go_ret
                      exact ⟨by first | rfl | (simp [errW_none, errW_some] <;> rfl) | (simp [*, errW_none, errW_some] <;> rfl), by repeat (first | (with_reducible first | exact HB.out | apply below_alloc | apply pw_below_drewN | apply below_drew1) | exact HB.out)⟩
                  · rw [if_neg c24] at H
                    have c24b0 : (t330 == 0) = false := beq_eq_false_iff_ne.mpr c24
                    have c24b1 : (t330 != 0) = true := bne_iff_ne.mpr c24
                    obtain rfl := Option.some.inj H
                    have p333 : 0 ≤ (0 : Int) := (by omega)
                    have q333 : 0 < (x3_2.length : Int) := of_decide_eq_true (by first | (with_reducible assumption) | assumption)
                    obtain ⟨ad333, A333_0, c333_0, e333, hx333_0, hl333_0, hi333_0⟩ := at_L2 (Kd.N_reads' HO_3.out).2.2 0 p333 q333
                    obtain rfl : ad328 = ad333 := (by injection e333)
                    obtain ⟨ce333, hce333, hMe333, hcc333⟩ := Kd.N_get HO_3.out [] 0 p333 (by first | exact q333 | exact of_decide_eq_true (by first | (with_reducible assumption) | assumption) | (have e_ := (Kd.N_reads' HO_3.out).1; omega))
                    obtain ⟨ua333_0, uc333_0, rfl, ul333_0, ge333_0⟩ := Kd.FK_slice_open hMe333
                    have hv333_0 := hcc333 0 _ rfl
                    rw [Nat.add_zero, show ((Kd.slice 25 (Kd.slice 5 (Kd.int .u8)))).sz = 1 from rfl, Nat.mul_one] at hv333_0
                    replace hv333_0 := Option.some.inj (hv333_0.symm.trans hx333_0)
                    injection hv333_0 with hva_ hvn_ hvc_
                    rw [hva_] at ge333_0
                    rw [hvc_] at ul333_0
                    have HL333_0 := Aside0.mk (show Kd.V (Kd.slice 5 (Kd.int .u8)) 25 _ w.heap.size _ _ (rd_L2 x3_2 0) from Kd.V_mk ul333_0 ge333_0)
                    clear hva_ hvn_ hvc_ ge333_0 ul333_0
                    clear hcc333 hce333
                    have qi333 : (0 < x3_2.length) = True := eq_true (by omega)
                    (try rw [show ((0 : Int)).toNat = 0 from rfl] at hx333_0)
                    (try rw [Addr.add_zero'] at hx333_0)
                    have HR333_0 := Aside0.mk hi333_0
                    have HC333_0 := Aside0.mk hl333_0
                    clear hi333_0 hl333_0
                    replace p333 := eq_true p333
                    replace q333 := eq_true q333
                    obtain ⟨Ao52, co52, eo52⟩ := Kd.R_slice HO_4.out
                    subst eo52
                    go_wp2_with (first | ((with_reducible refine gate_builtin (b := .append) (xs := #[.const _, .tmp 45]) rfl ?_); (try (refine gate_guard (by rfl) ?_; dsimp only)); at_builtin; refine Kd.R_append_rows (Kd.int .u8) (w0 := w) w.heap.size rfl (.const (.slice none 0 0)) (.tmp 45) 25 5 (.int .u8 0) 1 rfl Try.underlying25 info5 rfl (by decide) (by omega) (.slice none 0 0) ([] : List Int) t329 _ _ _ (fun k_ => some k_ ≠ (.slice Ao52 t329.length co52 : Value).ownBlock) (fun _ => False) rfl rfl ?aO ?aR (fun _ _ h => h) (fun _ h => h.elim) ?aF ?aB ?aS ?aL ?_; (case aR => repeat (first | exact (Kd.R_reads' HO_4.out).2.2 | (with_reducible refine Kd.C_alloc ?_ _) | (with_reducible refine Kd.C_drewN ?_ _) | (with_reducible refine Kd.C_drew ?_))); (case aB => exact (by repeat (first | (with_reducible first | exact HB.out | apply below_alloc | apply pw_below_drewN | apply below_drew1) | exact HB.out))); (case aF => exact (fun k_ hk => Kd.fresh' (Kd.R_lt (by (with_reducible repeat (first | apply Kd.R_alloc | apply Kd.R_drewN | apply Kd.R_drew)); exact HO_4.out)) k_ hk)); (case aO => exact ((Kd.R_nil _ _ _ _ (fun k_ => some k_ ≠ (.slice Ao52 t329.length co52 : Value).ownBlock)))); (case aS => exact (below_size (by repeat (first | (with_reducible first | exact HB.out | apply below_alloc | apply pw_below_drewN | apply below_drew1) | exact HB.out)))); (case aL => have := LMc22.out; omega); intro v337 w51 ho hb hg hat; rw [← Ny336.out] at ho; have n0_ := Aside0.mk (Kd.N_afterv (Kd.N_apart_nil (by (with_reducible repeat (first | apply Kd.N_alloc | apply Kd.N_drewN | apply Kd.N_drew)); exact HO_3.out)) hg hat); have n1_ := Aside0.mk (Kd.R_after (Kd.R_apart_nil (by (with_reducible repeat (first | apply Kd.R_alloc | apply Kd.R_drewN | apply Kd.R_drew)); exact HO_4.out)) hg hat); have n2_ := Aside0.mk (Kd.V_afterv (Kd.V_apart_nil (by (with_reducible repeat (first | apply Kd.V_alloc | apply Kd.V_drewN | apply Kd.V_drew)); exact HL333_0.out)) hg hat); have n3_ := Aside0.mk (hb); have n4_ := Aside0.mk (ho); clear HO_3; clear HO_4; clear HL333_0; clear HB; have HO_3 := n0_; have HO_4 := n1_; have HL333_0 := n2_; have HB := n3_; have HO338 := n4_; clear n0_ n1_ n2_ n3_ n4_; clear ho hb hg hat; obtain ⟨Ao53, co53, eo53⟩ := Kd.R_slice HO338.out; subst eo53) | ((with_reducible refine gate_callee (f := 36) rfl ?_); refine goesL_ (some 47) rfl rfl Try.func36 (by kernel_rfl) rfl #[.slice Ao53 y336.length co53] rfl (by (try simp only [List.map_toArray, List.map_cons, List.map_nil]); first | done | rfl | (simp only [List.length_drop, List.length_take]; rfl)) ?_; (with_reducible refine (wal_Scan.calls _ _ y336 t339 t340 t341 _ ?side1 ?side2 A23.out).mono ?_); (case side1 => repeat (first | exact (Kd.R_reads' HO338.out).2.2 | (with_reducible refine Kd.C_alloc ?_ _) | (with_reducible refine Kd.C_drewN ?_ _) | (with_reducible refine Kd.C_drew ?_))); (case side2 => exact (Kd.R_reads' HO338.out).2.1); rintro e w54 ⟨v342, rfl, ho0, hb⟩; refine ⟨_, rfl, ?_⟩; have n0_ := Aside0.mk (Kd.N_elder' (by (with_reducible repeat (first | apply Kd.N_alloc | apply Kd.N_drewN | apply Kd.N_drew)); exact HO_3.out) (Kd.R_base ho0) hb); have n1_ := Aside0.mk (Kd.R_below (by (with_reducible repeat (first | apply Kd.R_alloc | apply Kd.R_drewN | apply Kd.R_drew)); exact HO_4.out) hb); have n2_ := Aside0.mk (Kd.V_elder' (by (with_reducible repeat (first | apply Kd.V_alloc | apply Kd.V_drewN | apply Kd.V_drew)); exact HL333_0.out) (Kd.R_base ho0) hb); have n3_ := Aside0.mk (Kd.R_below (by (with_reducible repeat (first | apply Kd.R_alloc | apply Kd.R_drewN | apply Kd.R_drew)); exact HO338.out) hb); have n4_ := Aside0.mk (Kd.N_lower (Kd.N_mono (ok' := fun k_ => some k_ ≠ (.slice (some ad328) x3_2.length co17 : Value).ownBlock ∧ some k_ ≠ (.slice Ao52 t329.length co52 : Value).ownBlock ∧ some k_ ≠ (.slice Ao53 y336.length co53 : Value).ownBlock) (Kd.R_N (Kd.R_bound ho0)) (fun k_ hk_ => ⟨(Kd.fresh' (Kd.N_lt (by (with_reducible repeat (first | apply Kd.N_alloc | apply Kd.N_drewN | apply Kd.N_drew)); exact HO_3.out)) k_ hk_.2.1), (Kd.fresh' (Kd.R_lt (by (with_reducible repeat (first | apply Kd.R_alloc | apply Kd.R_drewN | apply Kd.R_drew)); exact HO_4.out)) k_ hk_.2.1), (Kd.fresh' (Kd.R_lt (by (with_reducible repeat (first | apply Kd.R_alloc | apply Kd.R_drewN | apply Kd.R_drew)); exact HO338.out)) k_ hk_.2.1)⟩)) (below_size (by repeat (first | (with_reducible first | exact HB.out | apply below_alloc | apply pw_below_drewN | apply below_drew1) | exact HB.out)))); have n5_ := Aside0.mk (below_step (by repeat (first | (with_reducible first | exact HB.out | apply below_alloc | apply pw_below_drewN | apply below_drew1) | exact HB.out)) hb); clear HO_3; clear HO_4; clear HL333_0; clear HO338; clear HB; have HO_3 := n0_; have HO_4 := n1_; have HL333_0 := n2_; have HO338 := n3_; have HO343 := n4_; have HB := n5_; clear n0_ n1_ n2_ n3_ n4_ n5_; (try clear hb); (try clear hb2); (try clear hk); (try clear hi); (try clear ho0)))
                    go_ret
                    exact ⟨by first | rfl | (simp [errW_none, errW_some] <;> rfl) | (simp [*, errW_none, errW_some] <;> rfl), by repeat (first | (with_reducible first | exact HB.out | apply below_alloc | apply pw_below_drewN | apply below_drew1) | exact HB.out)⟩
                · rw [if_neg c22] at H
                  exact absurd H (by simp)
            · rw [if_neg c19] at H
              exact absurd H (by simp)
      · rw [if_neg c15] at H
        exact absurd H (by simp)

/-- THE ONE PURE STATEMENT of bagnallkeep_WalLong: yours. -/
def bagnallkeep_WalLong.Pure : Prop := ∀ (l0 : List Int), l0.length ≤ maxLen → l0.length * 8 ≤ 140737488351232 → (∀ x ∈ l0, (Lit.int .i64 x).wf = true) → ∃ k, bagnallkeep_WalLong.f k l0 = some true
theorem bagnallkeep_WalLong.walk (P : bagnallkeep_WalLong.Pure) (a0 : Option Addr) (len0 cap0 : Nat) (z0 : List Int) (w : World) (w0 : (a0 = none ∧ len0 = 0 ∧ cap0 = 0 ∧ z0 = []) ∨ ∃ x, a0 = some x ∧ len0 ≤ cap0 ∧ cap0 ≤ maxLen ∧ z0.length = cap0 ∧ (∀ i, i < z0.length → w.cell? (x.add i) = some (.int .i64 (z0.getD i 0))) ∧ ∀ n ∈ z0, (Lit.int .i64 n).wf = true) (y0 : len0 * 8 ≤ 140737488351232) :
    Calls Try.prog 12 #[.slice a0 len0 cap0] w fun e w' => e = .returned (.bool true) ∧ Below w.heap.size w w' := by
  obtain ⟨l0, rfl, hr0, hm0, hw0, hc0⟩ := ReadsInt.ofRowC w0
  obtain ⟨k, h⟩ := P l0 hm0 y0 hw0
  refine (bagnallkeep_WalLong.calls k _ _ l0 true w (Kd.C_of_reads (d := (0 : Int)) (h1 := fun _ => rfl) hr0) hc0 h).mono ?_
  rintro e w' ⟨rfl, hd⟩
  exact ⟨rfl, hd⟩

end Go.Proofs.Ytmfkgbncnaingaa.QWal
