/- Functions of the program as plain functions, and the walks that show it. Written by the session's own program pp.py. -/
import Derived.Test.YtmfkgbncnaingaaQRowsx0
import Derived.Test.YtmfkgbncnaingaaQRowsx3
import Derived.Test.YtmfkgbncnaingaaQRowsx4
import Derived.Test.YtmfkgbncnaingaaQRowsx5
import Derived.Test.YtmfkgbncnaingaaQRowsx7
import Derived.Test.YtmfkgbncnaingaaRows9
namespace Go.Proofs.Ytmfkgbncnaingaa.QRows
open Go.RowKit Go.Proofs.YtmfkgbncnaingaaW.PrintWords Go.Proofs.YtmfkgbncnaingaaW.PrintLast Go.Proofs.YtmfkgbncnaingaaW.PrintMore
attribute [local go_sem] max2_int min2_int max_two min_two max_three min_three max_four min_four   -- for this text's walks alone
set_option linter.unusedVariables false
set_option linter.unusedSimpArgs false

/-! ### bagnallkeep_RowsLast: function 17 -/
def bagnallkeep_RowsLast.l0 : Nat → List (S67) → List (S67) → Bool → ByteArray → ByteArray → Int → ByteArray → Int → Option (Bool)
  | 0, _, _, _, _, _, _, _, _ => none
  | k + 1, x5, x6, x7, x8, x9, x10, x11, x12 => if x12 < (x5.length : Int) then (if 0 ≤ x12 then (if ((rd_T67 x5 x12).f0).toList = x8.toList then (bagnallkeep_RowsLast.l0 k x5 x6 x7 x8 x9 x10 ((rd_T67 x5 x12).f1) (wrap64 (x12 + 1))) else (bagnallkeep_RowsLast.l0 k x5 x6 x7 x8 x9 x10 x11 (wrap64 (x12 + 1)))) else (none)) else (if x7 = true then (if x9.toList = x11.toList then (if ((x10 == 0) == (x11.toList != ([] : List UInt8))) = true then (if x10 = 0 then ((rows_Check.f k x6).bind fun t155 => (some (t155 == 0))) else (if x10 = 8 then ((rows_Check.f k x6).bind fun t156 => (some (t156 == 0))) else (some false))) else (some false)) else (some false)) else (some false))
def bagnallkeep_RowsLast.f (k : Nat) (l0 : List Int) (a1 : Int) : Option (Bool) := (bagnallkeep_Changes.f l0 50).bind fun t134 => ((bagnallkeep_rowsOf.f k t134).bind fun bt137 => ((bagnallkeep_Changes.f (([a1] : List Int)) 1).bind fun t144 => (if 0 < (t144.length : Int) then ((bagnallkeep_copiedRows.f bt137.1).bind fun t148 => ((rows_Find.f k t148 ((rd_T67 t144 0).f0)).bind fun bt151 => (bagnallkeep_RowsLast.l0 k t134 bt137.1 bt137.2 ((rd_T67 t144 0).f0) bt151.1 bt151.2 (⟨#[]⟩ : ByteArray) 0))) else (none))))
theorem bagnallkeep_RowsLast.mono_l : ∀ k, (∀ y0 y1 y2 y3 y4 y5 y6 y7, LeO (bagnallkeep_RowsLast.l0 k y0 y1 y2 y3 y4 y5 y6 y7) (bagnallkeep_RowsLast.l0 (k + 1) y0 y1 y2 y3 y4 y5 y6 y7))
  | 0 => fun _ _ _ _ _ _ _ _ r h => by simp [bagnallkeep_RowsLast.l0] at h
  | k + 1 => by
    have ih0 := bagnallkeep_RowsLast.mono_l k
    · intro y0 y1 y2 y3 y4 y5 y6 y7
      unfold bagnallkeep_RowsLast.l0
      repeat' first
      | (with_reducible exact ih0 _ _ _ _ _ _ _ _)
      | (with_reducible exact bagnallkeep_rowsOf.mono _ _)
      | (with_reducible exact rows_Check.mono _ _)
      | (with_reducible exact rows_Find.mono _ _ _)
      | (with_reducible exact LeO.refl _)
      | (with_reducible exact LeO.none _)
      | (with_reducible refine LeO.ite ?_ ?_)
      | (with_reducible refine LeO.bind ?_ (fun _ => ?_))
      | exact ih0 _ _ _ _ _ _ _ _
      | exact bagnallkeep_rowsOf.mono _ _
      | exact rows_Check.mono _ _
      | exact rows_Find.mono _ _ _
      | exact LeO.none _
      | refine LeO.ite ?_ ?_
      | refine LeO.bind ?_ (fun _ => ?_)
theorem bagnallkeep_RowsLast.mono : ∀ a0 a1 k, LeO (bagnallkeep_RowsLast.f k a0 a1) (bagnallkeep_RowsLast.f (k + 1) a0 a1) := by
  intro a0 a1 k
  have ih0 := bagnallkeep_RowsLast.mono_l k
  unfold bagnallkeep_RowsLast.f
  repeat' first
      | (with_reducible exact ih0 _ _ _ _ _ _ _ _)
      | (with_reducible exact bagnallkeep_rowsOf.mono _ _)
      | (with_reducible exact rows_Check.mono _ _)
      | (with_reducible exact rows_Find.mono _ _ _)
      | (with_reducible exact LeO.refl _)
      | (with_reducible exact LeO.none _)
      | (with_reducible refine LeO.ite ?_ ?_)
      | (with_reducible refine LeO.bind ?_ (fun _ => ?_))
      | exact ih0 _ _ _ _ _ _ _ _
      | exact bagnallkeep_rowsOf.mono _ _
      | exact rows_Check.mono _ _
      | exact rows_Find.mono _ _ _
      | exact LeO.none _
      | refine LeO.ite ?_ ?_
      | refine LeO.bind ?_ (fun _ => ?_)
set_option maxHeartbeats 8000000 in
set_option maxRecDepth 100000 in
theorem bagnallkeep_RowsLast.calls (k : Nat) (A0 : Option Addr) (c0 : Nat) (l0 : List Int) (a1 : Int) (r : Bool) (w : World) (hr0 : Kd.C (Kd.int .i64) w A0 l0.length l0) (hc0 : l0.length ≤ c0) (h : bagnallkeep_RowsLast.f k l0 a1 = some r) :
    Calls Try.prog 17 #[.slice A0 l0.length c0, .int .i64 a1] w fun e w' => e = .returned (.bool r) ∧ Below w.heap.size w w' := by
  have HR0 := Aside0.mk hr0
  have HC0 := Aside0.mk hc0
  clear hr0 hc0
  have HB := Aside0.mk (Below.refl w.heap.size w)
  have H : ((bagnallkeep_Changes.f l0 50).bind fun t134 => ((bagnallkeep_rowsOf.f k t134).bind fun bt137 => ((bagnallkeep_Changes.f (([a1] : List Int)) 1).bind fun t144 => (if 0 < (t144.length : Int) then ((bagnallkeep_copiedRows.f bt137.1).bind fun t148 => ((rows_Find.f k t148 ((rd_T67 t144 0).f0)).bind fun bt151 => (bagnallkeep_RowsLast.l0 k t134 bt137.1 bt137.2 ((rd_T67 t144 0).f0) bt151.1 bt151.2 (⟨#[]⟩ : ByteArray) 0))) else (none))))) = some r := h
  clear h
  replace H := Option.bind_eq_some_iff.mp H
  obtain ⟨t134, A30, H⟩ := H
  replace H : ((bagnallkeep_rowsOf.f k t134).bind fun bt137 => ((bagnallkeep_Changes.f (([a1] : List Int)) 1).bind fun t144 => (if 0 < (t144.length : Int) then ((bagnallkeep_copiedRows.f bt137.1).bind fun t148 => ((rows_Find.f k t148 ((rd_T67 t144 0).f0)).bind fun bt151 => (bagnallkeep_RowsLast.l0 k t134 bt137.1 bt137.2 ((rd_T67 t144 0).f0) bt151.1 bt151.2 (⟨#[]⟩ : ByteArray) 0))) else (none)))) = some r := H
  have A3 := Aside0.mk A30
  clear A30
  replace H := Option.bind_eq_some_iff.mp H
  obtain ⟨⟨t137, t138⟩, A40, H⟩ := H
  replace H : ((bagnallkeep_Changes.f (([a1] : List Int)) 1).bind fun t144 => (if 0 < (t144.length : Int) then ((bagnallkeep_copiedRows.f t137).bind fun t148 => ((rows_Find.f k t148 ((rd_T67 t144 0).f0)).bind fun bt151 => (bagnallkeep_RowsLast.l0 k t134 t137 t138 ((rd_T67 t144 0).f0) bt151.1 bt151.2 (⟨#[]⟩ : ByteArray) 0))) else (none))) = some r := H
  have A4 := Aside0.mk A40
  clear A40
  obtain ⟨y141, hy141⟩ : ∃ y_ : List Int, y_ = (([a1] : List Int)) := ⟨_, rfl⟩
  replace H : ((bagnallkeep_Changes.f y141 1).bind fun t144 => (if 0 < (t144.length : Int) then ((bagnallkeep_copiedRows.f t137).bind fun t148 => ((rows_Find.f k t148 ((rd_T67 t144 0).f0)).bind fun bt151 => (bagnallkeep_RowsLast.l0 k t134 t137 t138 ((rd_T67 t144 0).f0) bt151.1 bt151.2 (⟨#[]⟩ : ByteArray) 0))) else (none))) = some r := by first | (rw [hy141]; with_reducible exact H) | (have H2_ := (Option.bind_some _ _).symm.trans H; rw [hy141]; with_reducible exact H2_) | (have H2_ := (Option.bind_some _ _).symm.trans H; with_reducible exact H2_) | with_reducible exact H | (rw [hy141]; exact H) | exact H
  have Ny141 := Aside0.mk hy141
  clear hy141
  replace H := Option.bind_eq_some_iff.mp H
  obtain ⟨t144, A50, H⟩ := H
  replace H : (if 0 < (t144.length : Int) then ((bagnallkeep_copiedRows.f t137).bind fun t148 => ((rows_Find.f k t148 ((rd_T67 t144 0).f0)).bind fun bt151 => (bagnallkeep_RowsLast.l0 k t134 t137 t138 ((rd_T67 t144 0).f0) bt151.1 bt151.2 (⟨#[]⟩ : ByteArray) 0))) else (none)) = some r := H
  have A5 := Aside0.mk A50
  clear A50
  by_cases c6 : 0 < (t144.length : Int)
  · rw [if_pos c6] at H
    have c6b0 : decide (0 < (t144.length : Int)) = true := decide_eq_true c6
    have c6b1 : decide (0 < t144.length) = true := decide_eq_true (by omega)
    clear c6
    replace H := Option.bind_eq_some_iff.mp H
    obtain ⟨t148, A70, H⟩ := H
    replace H : ((rows_Find.f k t148 ((rd_T67 t144 0).f0)).bind fun bt151 => (bagnallkeep_RowsLast.l0 k t134 t137 t138 ((rd_T67 t144 0).f0) bt151.1 bt151.2 (⟨#[]⟩ : ByteArray) 0)) = some r := H
    have A7 := Aside0.mk A70
    clear A70
    replace H := Option.bind_eq_some_iff.mp H
    obtain ⟨⟨t151, t152⟩, A80, H⟩ := H
    replace H : (bagnallkeep_RowsLast.l0 k t134 t137 t138 ((rd_T67 t144 0).f0) t151 t152 (⟨#[]⟩ : ByteArray) 0) = some r := H
    have A8 := Aside0.mk A80
    clear A80
    have H' := Aside0.mk H
    clear H
    go_enter Try.func17, Try.ntmps17
    go_wp2_with (first | ((with_reducible refine gate_callee (f := 39) rfl ?_); refine goesL_ (some 14) rfl rfl Try.func39 (by kernel_rfl) rfl #[.slice A0 l0.length c0, .int .i64 50] rfl (by (try simp only [List.map_toArray, List.map_cons, List.map_nil]); first | done | rfl | (simp only [List.length_drop, List.length_take]; rfl)) ?_; (with_reducible refine (bagnallkeep_Changes.calls _ _ l0 50 t134 _ ?side1 ?side2 A3.out).mono ?_); (case side1 => repeat (first | exact HR0.out | (with_reducible refine Kd.C_alloc ?_ _) | (with_reducible refine Kd.C_drewN ?_ _) | (with_reducible refine Kd.C_drew ?_))); (case side2 => exact HC0.out); rintro e w9 ⟨v135, rfl, ho0, hb⟩; refine ⟨_, rfl, ?_⟩; have n0_ := Aside0.mk (Kd.R_lower ho0 (below_size (by repeat (first | (with_reducible first | exact HB.out | apply below_alloc | apply pw_below_drewN | apply below_drew1) | exact HB.out)))); have n1_ := Aside0.mk (below_step (by repeat (first | (with_reducible first | exact HB.out | apply below_alloc | apply pw_below_drewN | apply below_drew1) | exact HB.out)) hb); clear HB; have HO136 := n0_; have HB := n1_; clear n0_ n1_; (try clear hb); (try clear hb2); (try clear hk); (try clear hi); (try clear ho0); obtain ⟨Ao10, co10, eo10⟩ := Kd.R_slice HO136.out; subst eo10) | ((with_reducible refine gate_callee (f := 40) rfl ?_); refine goesL_ (some 17) rfl rfl Try.func40 (by kernel_rfl) rfl #[.slice Ao10 t134.length co10] rfl (by (try simp only [List.map_toArray, List.map_cons, List.map_nil]); first | done | rfl | (simp only [List.length_drop, List.length_take]; rfl)) ?_; (with_reducible refine (bagnallkeep_rowsOf.calls k _ _ t134 t137 t138 _ ?side1 ?side2 A4.out).mono ?_); (case side1 => repeat (first | exact (Kd.R_reads' HO136.out).2.2 | (with_reducible refine Kd.C_alloc ?_ _) | (with_reducible refine Kd.C_drewN ?_ _) | (with_reducible refine Kd.C_drew ?_))); (case side2 => exact (Kd.R_reads' HO136.out).2.1); rintro e w11 ⟨v139, rfl, ho0, hb⟩; refine ⟨_, rfl, ?_⟩; have n0_ := Aside0.mk (Kd.R_elder' (by (with_reducible repeat (first | apply Kd.R_alloc | apply Kd.R_drewN | apply Kd.R_drew)); exact HO136.out) (Kd.R_base ho0) hb); have n1_ := Aside0.mk (Kd.R_lower (Kd.R_new' ho0 (Kd.R_lt (by (with_reducible repeat (first | apply Kd.R_alloc | apply Kd.R_drewN | apply Kd.R_drew)); exact HO136.out))) (below_size (by repeat (first | (with_reducible first | exact HB.out | apply below_alloc | apply pw_below_drewN | apply below_drew1) | exact HB.out)))); have n2_ := Aside0.mk (below_step (by repeat (first | (with_reducible first | exact HB.out | apply below_alloc | apply pw_below_drewN | apply below_drew1) | exact HB.out)) hb); clear HO136; clear HB; have HO136 := n0_; have HO140 := n1_; have HB := n2_; clear n0_ n1_ n2_; (try clear hb); (try clear hb2); (try clear hk); (try clear hi); (try clear ho0)) | ((with_reducible refine gate_dst (N := 21) rfl ?_); refine Kd.R_lit (Kd.int .i64) _ 3 ?hg (N := 21) ?hd (xs := ([a1] : List Int)) (inner := [.int .i64 a1]) (ok := fun _ => True) (okp := fun _ => True) ?hr ?hp (fun _ hk => hk) trivial (Below.refl _ _) (Nat.le_refl _) (by simp) ?_; (case hd => rfl); (case hg => rfl); (case hr => first | (go_simp; done) | (go_simp; rfl)); (case hp => exact (Reps.one (show Kd.M (Kd.int .i64) _ _ _ a1 [.int .i64 a1] from rfl) (Reps.none _ _))); intro v142 w12 ho13 hb hg_ hnew_; clear hg_ hnew_; (first | rw [← Ny141.out] at ho13 | (simp only [Int.reduceToNat] at ho13; rw [← Ny141.out] at ho13)); have n0_ := Aside0.mk (Kd.R_below (by (with_reducible repeat (first | apply Kd.R_alloc | apply Kd.R_drewN | apply Kd.R_drew)); exact HO136.out) hb); have n1_ := Aside0.mk (Kd.R_below (by (with_reducible repeat (first | apply Kd.R_alloc | apply Kd.R_drewN | apply Kd.R_drew)); exact HO140.out) hb); have n2_ := Aside0.mk (Kd.R_lower ho13 (below_size (by repeat (first | (with_reducible first | exact HB.out | apply below_alloc | apply pw_below_drewN | apply below_drew1) | exact HB.out)))); have n3_ := Aside0.mk (below_step (by repeat (first | (with_reducible first | exact HB.out | apply below_alloc | apply pw_below_drewN | apply below_drew1) | exact HB.out)) hb); clear HO136; clear HO140; clear HB; have HO136 := n0_; have HO140 := n1_; have HO143 := n2_; have HB := n3_; clear n0_ n1_ n2_ n3_; clear hb ho13; obtain ⟨Ao14, co14, eo14⟩ := Kd.R_slice HO143.out; subst eo14) | ((with_reducible refine gate_callee (f := 39) rfl ?_); refine goesL_ (some 22) rfl rfl Try.func39 (by kernel_rfl) rfl #[.slice Ao14 y141.length co14, .int .i64 1] rfl (by (try simp only [List.map_toArray, List.map_cons, List.map_nil]); first | done | rfl | (simp only [List.length_drop, List.length_take]; rfl)) ?_; (with_reducible refine (bagnallkeep_Changes.calls _ _ y141 1 t144 _ ?side1 ?side2 A5.out).mono ?_); (case side1 => repeat (first | exact (Kd.R_reads' HO143.out).2.2 | (with_reducible refine Kd.C_alloc ?_ _) | (with_reducible refine Kd.C_drewN ?_ _) | (with_reducible refine Kd.C_drew ?_))); (case side2 => exact (Kd.R_reads' HO143.out).2.1); rintro e w15 ⟨v145, rfl, ho0, hb⟩; refine ⟨_, rfl, ?_⟩; have n0_ := Aside0.mk (Kd.R_elder' (by (with_reducible repeat (first | apply Kd.R_alloc | apply Kd.R_drewN | apply Kd.R_drew)); exact HO136.out) (Kd.R_base ho0) hb); have n1_ := Aside0.mk (Kd.R_elder' (by (with_reducible repeat (first | apply Kd.R_alloc | apply Kd.R_drewN | apply Kd.R_drew)); exact HO140.out) (Kd.R_base ho0) hb); have n2_ := Aside0.mk (Kd.R_below (by (with_reducible repeat (first | apply Kd.R_alloc | apply Kd.R_drewN | apply Kd.R_drew)); exact HO143.out) hb); have n3_ := Aside0.mk (Kd.R_lower (Kd.R_new' (Kd.R_new' ho0 (Kd.R_lt (by (with_reducible repeat (first | apply Kd.R_alloc | apply Kd.R_drewN | apply Kd.R_drew)); exact HO136.out))) (Kd.R_lt (by (with_reducible repeat (first | apply Kd.R_alloc | apply Kd.R_drewN | apply Kd.R_drew)); exact HO140.out))) (below_size (by repeat (first | (with_reducible first | exact HB.out | apply below_alloc | apply pw_below_drewN | apply below_drew1) | exact HB.out)))); have n4_ := Aside0.mk (below_step (by repeat (first | (with_reducible first | exact HB.out | apply below_alloc | apply pw_below_drewN | apply below_drew1) | exact HB.out)) hb); clear HO136; clear HO140; clear HO143; clear HB; have HO136 := n0_; have HO140 := n1_; have HO143 := n2_; have HO146 := n3_; have HB := n4_; clear n0_ n1_ n2_ n3_ n4_; (try clear hb); (try clear hb2); (try clear hk); (try clear hi); (try clear ho0); obtain ⟨Ao16, co16, eo16⟩ := Kd.R_slice HO146.out; subst eo16; have p147 : 0 ≤ (0 : Int) := (by omega); have q147 : 0 < (t144.length : Int) := of_decide_eq_true (by first | (with_reducible assumption) | assumption); obtain ⟨ad147, e147, hx147_0, hx147_1⟩ := at_T67 (Kd.R_reads' HO146.out).2.2 0 p147 q147; cases e147; have qi147 : (0 < t144.length) = True := eq_true (by omega); (try rw [show ((0 : Int)).toNat = 0 from rfl] at hx147_0); (try rw [show 0 * 2 = 0 from rfl] at hx147_0); (try rw [Addr.add_zero'] at hx147_0); (try rw [show ((0 : Int)).toNat = 0 from rfl] at hx147_1); (try rw [show 0 * 2 = 0 from rfl] at hx147_1); (try rw [Addr.add_zero'] at hx147_1); replace p147 := eq_true p147; replace q147 := eq_true q147; obtain ⟨Ao17, co17, eo17⟩ := Kd.R_slice HO140.out; subst eo17) | ((with_reducible refine gate_callee (f := 42) rfl ?_); refine goesL_ (some 28) rfl rfl Try.func42 (by kernel_rfl) rfl #[.slice Ao17 t137.length co17] rfl (by (try simp only [List.map_toArray, List.map_cons, List.map_nil]); first | done | rfl | (simp only [List.length_drop, List.length_take]; rfl)) ?_; (with_reducible refine (bagnallkeep_copiedRows.calls _ _ t137 t148 _ ?side1 ?side2 A7.out).mono ?_); (case side1 => repeat (first | exact (Kd.R_reads' HO140.out).2.2 | (with_reducible refine Kd.C_alloc ?_ _) | (with_reducible refine Kd.C_drewN ?_ _) | (with_reducible refine Kd.C_drew ?_))); (case side2 => exact (Kd.R_reads' HO140.out).2.1); rintro e w18 ⟨v149, rfl, ho0, hb⟩; refine ⟨_, rfl, ?_⟩; have n0_ := Aside0.mk (Kd.R_elder' (by (with_reducible repeat (first | apply Kd.R_alloc | apply Kd.R_drewN | apply Kd.R_drew)); exact HO136.out) (Kd.R_base ho0) hb); have n1_ := Aside0.mk (Kd.R_elder' (by (with_reducible repeat (first | apply Kd.R_alloc | apply Kd.R_drewN | apply Kd.R_drew)); exact HO140.out) (Kd.R_base ho0) hb); have n2_ := Aside0.mk (Kd.R_below (by (with_reducible repeat (first | apply Kd.R_alloc | apply Kd.R_drewN | apply Kd.R_drew)); exact HO143.out) hb); have n3_ := Aside0.mk (Kd.R_elder' (by (with_reducible repeat (first | apply Kd.R_alloc | apply Kd.R_drewN | apply Kd.R_drew)); exact HO146.out) (Kd.R_base ho0) hb); have n4_ := Aside0.mk (Kd.R_lower (Kd.R_new' (Kd.R_new' (Kd.R_new' ho0 (Kd.R_lt (by (with_reducible repeat (first | apply Kd.R_alloc | apply Kd.R_drewN | apply Kd.R_drew)); exact HO136.out))) (Kd.R_lt (by (with_reducible repeat (first | apply Kd.R_alloc | apply Kd.R_drewN | apply Kd.R_drew)); exact HO140.out))) (Kd.R_lt (by (with_reducible repeat (first | apply Kd.R_alloc | apply Kd.R_drewN | apply Kd.R_drew)); exact HO146.out))) (below_size (by repeat (first | (with_reducible first | exact HB.out | apply below_alloc | apply pw_below_drewN | apply below_drew1) | exact HB.out)))); have n5_ := Aside0.mk (below_step (by repeat (first | (with_reducible first | exact HB.out | apply below_alloc | apply pw_below_drewN | apply below_drew1) | exact HB.out)) hb); clear HO136; clear HO140; clear HO143; clear HO146; clear HB; have HO136 := n0_; have HO140 := n1_; have HO143 := n2_; have HO146 := n3_; have HO150 := n4_; have HB := n5_; clear n0_ n1_ n2_ n3_ n4_ n5_; (try clear hb); (try clear hb2); (try clear hk); (try clear hi); (try clear ho0); obtain ⟨Ao19, co19, eo19⟩ := Kd.R_slice HO150.out; subst eo19) | ((with_reducible refine gate_callee (f := 44) rfl ?_); refine goesL_ (some 30) rfl rfl Try.func44 (by kernel_rfl) rfl #[.slice Ao19 t148.length co19, .string ((rd_T67 t144 0).f0)] rfl (by (try simp only [List.map_toArray, List.map_cons, List.map_nil]); first | done | rfl | (simp only [List.length_drop, List.length_take]; rfl)) ?_; (with_reducible refine (rows_Find.calls k _ _ t148 ((rd_T67 t144 0).f0) t151 t152 _ ?side1 ?side2 A8.out).mono ?_); (case side1 => repeat (first | exact (Kd.R_reads' HO150.out).2.2 | (with_reducible refine Kd.C_alloc ?_ _) | (with_reducible refine Kd.C_drewN ?_ _) | (with_reducible refine Kd.C_drew ?_))); (case side2 => exact (Kd.R_reads' HO150.out).2.1); rintro e w20 ⟨rfl, hb⟩; refine ⟨_, rfl, ?_⟩; have n0_ := Aside0.mk (Kd.R_below (by (with_reducible repeat (first | apply Kd.R_alloc | apply Kd.R_drewN | apply Kd.R_drew)); exact HO136.out) hb); have n1_ := Aside0.mk (Kd.R_below (by (with_reducible repeat (first | apply Kd.R_alloc | apply Kd.R_drewN | apply Kd.R_drew)); exact HO140.out) hb); have n2_ := Aside0.mk (Kd.R_below (by (with_reducible repeat (first | apply Kd.R_alloc | apply Kd.R_drewN | apply Kd.R_drew)); exact HO143.out) hb); have n3_ := Aside0.mk (Kd.R_below (by (with_reducible repeat (first | apply Kd.R_alloc | apply Kd.R_drewN | apply Kd.R_drew)); exact HO146.out) hb); have n4_ := Aside0.mk (Kd.R_below (by (with_reducible repeat (first | apply Kd.R_alloc | apply Kd.R_drewN | apply Kd.R_drew)); exact HO150.out) hb); have n5_ := Aside0.mk (below_step (by repeat (first | (with_reducible first | exact HB.out | apply below_alloc | apply pw_below_drewN | apply below_drew1) | exact HB.out)) hb); clear HO136; clear HO140; clear HO143; clear HO146; clear HO150; clear HB; have HO136 := n0_; have HO140 := n1_; have HO143 := n2_; have HO146 := n3_; have HO150 := n4_; have HB := n5_; clear n0_ n1_ n2_ n3_ n4_ n5_; (try clear hb); (try clear hb2); (try clear hk); (try clear hi)))
    go_loopg [11, 12] k (fun kq v11 v12 w' => ∃ (x11_1 : ByteArray) (x12_1 : Int), v11 = .string x11_1 ∧ v12 = .int .i64 x12_1 ∧ Aside0 (bagnallkeep_RowsLast.l0 kq t134 t137 t138 ((rd_T67 t144 0).f0) t151 t152 x11_1 x12_1 = some r) ∧ Aside0 (kq ≤ k) ∧ Aside0 (Kd.R k67 67 w' w.heap.size (fun k_ => some k_ ≠ ((.slice Ao17 t137.length co17) : Value).ownBlock) (.slice Ao10 t134.length co10) t134) ∧ Aside0 (Kd.R k67 67 w' w.heap.size (fun k_ => some k_ ≠ ((.slice Ao10 t134.length co10) : Value).ownBlock) (.slice Ao17 t137.length co17) t137) ∧ Aside0 (Below w.heap.size w w'))
    case atStart => exact ⟨((⟨#[]⟩ : ByteArray)), (0), (by first | rfl | (simp; done) | (simp [*]; done)), (by first | rfl | (simp; done) | (simp [*]; done)), H', ⟨Nat.le_refl _⟩, ⟨by (with_reducible repeat (first | apply Kd.R_alloc | apply Kd.R_drewN | apply Kd.R_drew)); exact Kd.R_mono HO136.out (fun _ hk => hk.1.1.2)⟩, ⟨by (with_reducible repeat (first | apply Kd.R_alloc | apply Kd.R_drewN | apply Kd.R_drew)); exact Kd.R_mono HO140.out (fun _ hk => hk.1.1.2)⟩, ⟨by repeat (first | (with_reducible first | exact HB.out | apply below_alloc | apply pw_below_drewN | apply below_drew1) | exact HB.out)⟩⟩
    case round =>
      clear H'
      try clear c1
      try clear p1
      try clear q1
      try clear hx1
      try clear qi1
      try clear p2
      try clear c3
      try clear c4
      try clear c6
      try clear c6b0
      try clear c6b1
      try clear p14
      try clear q14
      try clear hx14
      try clear qi14
      try clear c17
      try clear hx147_0
      try clear hx147_1
      try clear p147
      try clear q147
      obtain ⟨x11_1, x12_1, rfl, rfl, HA, HK1, HO_5, HO_6, HB⟩ := hrel
      cases gk with
      | zero => exact absurd HA.out (by simp [bagnallkeep_RowsLast.l0])
      | succ k1 =>
        have H := HA.out
        clear HA
        simp only [bagnallkeep_RowsLast.l0] at H
        by_cases c21 : x12_1 < (t134.length : Int)
        · rw [if_pos c21] at H
          have c21b0 : decide (x12_1 < (t134.length : Int)) = true := decide_eq_true c21
          clear c21
          by_cases c22 : 0 ≤ x12_1
          · rw [if_pos c22] at H
            have c22b0 : decide (0 ≤ x12_1) = true := decide_eq_true c22
            clear c22
            by_cases c23 : ((rd_T67 t134 x12_1).f0).toList = ((rd_T67 t144 0).f0).toList
            · rw [if_pos c23] at H
              have c23b0 : (((rd_T67 t134 x12_1).f0).toList == ((rd_T67 t144 0).f0).toList) = true := beq_iff_eq.mpr c23
              have c23b1 : (((rd_T67 t134 x12_1).f0).toList != ((rd_T67 t144 0).f0).toList) = false := bne_eq_false_iff_eq.mpr c23
              clear c23
              have H' := Aside0.mk H
              clear H
              have p153 : 0 ≤ (x12_1 : Int) := of_decide_eq_true (by first | (with_reducible assumption) | assumption)
              have q153 : x12_1 < (t134.length : Int) := of_decide_eq_true (by first | (with_reducible assumption) | assumption)
              obtain ⟨ad153, e153, hx153_0, hx153_1⟩ := at_T67 (Kd.R_reads' HO_5.out).2.2 x12_1 p153 q153
              cases e153
              replace p153 := eq_true p153
              replace q153 := eq_true q153
              have p154 : 0 ≤ (x12_1 : Int) := of_decide_eq_true (by first | (with_reducible assumption) | assumption)
              have q154 : x12_1 < (t134.length : Int) := of_decide_eq_true (by first | (with_reducible assumption) | assumption)
              obtain ⟨ad154, e154, hx154_0, hx154_1⟩ := at_T67 (Kd.R_reads' HO_5.out).2.2 x12_1 p154 q154
              obtain rfl : ad153 = ad154 := (by injection e154)
              replace p154 := eq_true p154
              replace q154 := eq_true q154
              go_wp2
              go_roundg k1
              case measure => have := HK1.out; omega
              case rel => exact ⟨((rd_T67 t134 x12_1).f1), (wrap64 (x12_1 + 1)), (by first | rfl | (simp; done) | (simp [*]; done)), (by first | rfl | (simp; done) | (simp [*]; done)), H', ⟨by have := HK1.out; omega⟩, ⟨by (with_reducible repeat (first | apply Kd.R_alloc | apply Kd.R_drewN | apply Kd.R_drew)); exact HO_5.out⟩, ⟨by (with_reducible repeat (first | apply Kd.R_alloc | apply Kd.R_drewN | apply Kd.R_drew)); exact HO_6.out⟩, ⟨by repeat (first | (with_reducible first | exact HB.out | apply below_alloc | apply pw_below_drewN | apply below_drew1) | exact HB.out)⟩⟩
            · rw [if_neg c23] at H
              have c23b0 : (((rd_T67 t134 x12_1).f0).toList == ((rd_T67 t144 0).f0).toList) = false := beq_eq_false_iff_ne.mpr c23
              have c23b1 : (((rd_T67 t134 x12_1).f0).toList != ((rd_T67 t144 0).f0).toList) = true := bne_iff_ne.mpr c23
              have H' := Aside0.mk H
              clear H
              have p153 : 0 ≤ (x12_1 : Int) := of_decide_eq_true (by first | (with_reducible assumption) | assumption)
              have q153 : x12_1 < (t134.length : Int) := of_decide_eq_true (by first | (with_reducible assumption) | assumption)
              obtain ⟨ad153, e153, hx153_0, hx153_1⟩ := at_T67 (Kd.R_reads' HO_5.out).2.2 x12_1 p153 q153
              cases e153
              replace p153 := eq_true p153
              replace q153 := eq_true q153
              go_wp2
              go_roundg k1
              case measure => have := HK1.out; omega
              case rel => exact ⟨(x11_1), (wrap64 (x12_1 + 1)), (by first | rfl | (simp; done) | (simp [*]; done)), (by first | rfl | (simp; done) | (simp [*]; done)), H', ⟨by have := HK1.out; omega⟩, ⟨by (with_reducible repeat (first | apply Kd.R_alloc | apply Kd.R_drewN | apply Kd.R_drew)); exact HO_5.out⟩, ⟨by (with_reducible repeat (first | apply Kd.R_alloc | apply Kd.R_drewN | apply Kd.R_drew)); exact HO_6.out⟩, ⟨by repeat (first | (with_reducible first | exact HB.out | apply below_alloc | apply pw_below_drewN | apply below_drew1) | exact HB.out)⟩⟩
          · rw [if_neg c22] at H
            exact absurd H (by simp)
        · rw [if_neg c21] at H
          have c21b0 : decide (x12_1 < (t134.length : Int)) = false := decide_eq_false c21
          clear c21
          by_cases c24 : t138 = true
          · subst c24
            have H1 : (if t151.toList = x11_1.toList then (if ((t152 == 0) == (x11_1.toList != ([] : List UInt8))) = true then (if t152 = 0 then ((rows_Check.f k1 t137).bind fun t155 => (some (t155 == 0))) else (if t152 = 8 then ((rows_Check.f k1 t137).bind fun t156 => (some (t156 == 0))) else (some false))) else (some false)) else (some false)) = some r := by rw [if_pos rfl] at H; exact H
            clear H
            have H := H1
            clear H1
            by_cases c25 : t151.toList = x11_1.toList
            · rw [if_pos c25] at H
              have c25b0 : (t151.toList == x11_1.toList) = true := beq_iff_eq.mpr c25
              have c25b1 : (t151.toList != x11_1.toList) = false := bne_eq_false_iff_eq.mpr c25
              clear c25
              by_cases c26 : ((t152 == 0) == (x11_1.toList != ([] : List UInt8))) = true
              · rw [if_pos c26] at H
                have c26b0 : ((t152 == 0) == (x11_1.toList != ([] : List UInt8))) = true := c26
                (try (have c26b1 : decide ((t152 == 0) = (x11_1.toList != ([] : List UInt8))) = true := by simpa using c26))
                (try (have c26b2 : ((t152 == 0) == (x11_1.toList != ([] : List UInt8))) = true := by simpa using c26))
                clear c26
                by_cases c27 : t152 = 0
                · rw [if_pos c27] at H
                  have c27b0 : (t152 == 0) = true := beq_iff_eq.mpr c27
                  have c27b1 : (t152 != 0) = false := bne_eq_false_iff_eq.mpr c27
                  have c29 : ¬ x11_1.toList = ([] : List UInt8) := fun h_ => by rw [c27b0, h_] at c26b0; cases c26b0
                  have c29a : (x11_1.toList == ([] : List UInt8)) = false := beq_eq_false_iff_ne.mpr c29
                  have c29b : (x11_1.toList != ([] : List UInt8)) = true := bne_iff_ne.mpr c29
                  have c29c : x11_1.toList.isEmpty = false := by cases h_ : x11_1.toList with | nil => exact absurd h_ c29 | cons _ _ => rfl
                  clear c29 c26b0
                  (try clear c26b1)
                  (try clear c26b2)
                  clear c27
                  replace H := Option.bind_eq_some_iff.mp H
                  obtain ⟨t155, A280, H⟩ := H
                  replace H : (some (t155 == 0)) = some r := H
                  have A28 := Aside0.mk A280
                  clear A280
                  obtain rfl := Option.some.inj H
                  go_wp2_with (first | (go_at_call 45; (with_reducible refine (rows_Check.calls k1 _ _ t137 t155 _ ?side1 ?side2 A28.out).mono ?_); (case side1 => repeat (first | exact (Kd.R_reads' HO_6.out).2.2 | (with_reducible refine Kd.C_alloc ?_ _) | (with_reducible refine Kd.C_drewN ?_ _) | (with_reducible refine Kd.C_drew ?_))); (case side2 => exact (Kd.R_reads' HO_6.out).2.1); rintro e w29 ⟨rfl, hb⟩; have n0_ := Aside0.mk (Kd.R_below (by (with_reducible repeat (first | apply Kd.R_alloc | apply Kd.R_drewN | apply Kd.R_drew)); exact HO_5.out) hb); have n1_ := Aside0.mk (Kd.R_below (by (with_reducible repeat (first | apply Kd.R_alloc | apply Kd.R_drewN | apply Kd.R_drew)); exact HO_6.out) hb); have n2_ := Aside0.mk (below_step (by repeat (first | (with_reducible first | exact HB.out | apply below_alloc | apply pw_below_drewN | apply below_drew1) | exact HB.out)) hb); clear HO_5; clear HO_6; clear HB; have HO_5 := n0_; have HO_6 := n1_; have HB := n2_; clear n0_ n1_ n2_; (try clear hb); (try clear hb2); (try clear hk); (try clear hi)))
                  go_ret
                  exact ⟨by first | rfl | (simp [errW_none, errW_some] <;> rfl) | (simp [*, errW_none, errW_some] <;> rfl), by repeat (first | (with_reducible first | exact HB.out | apply below_alloc | apply pw_below_drewN | apply below_drew1) | exact HB.out)⟩
                · rw [if_neg c27] at H
                  have c27b0 : (t152 == 0) = false := beq_eq_false_iff_ne.mpr c27
                  have c27b1 : (t152 != 0) = true := bne_iff_ne.mpr c27
                  have c29 : x11_1.toList = ([] : List UInt8) := by
                    rw [c27b0] at c26b0
                    cases h_ : x11_1.toList with
                    | nil => rfl
                    | cons _ _ => rw [h_] at c26b0; cases c26b0
                  have c29a : (x11_1.toList == ([] : List UInt8)) = true := beq_iff_eq.mpr c29
                  have c29b : (x11_1.toList != ([] : List UInt8)) = false := bne_eq_false_iff_eq.mpr c29
                  have c29c : x11_1.toList.isEmpty = true := by rw [c29]; rfl
                  clear c29 c26b0
                  (try clear c26b1)
                  (try clear c26b2)
                  by_cases c30 : t152 = 8
                  · rw [if_pos c30] at H
                    have c30b0 : (t152 == 8) = true := beq_iff_eq.mpr c30
                    have c30b1 : (t152 != 8) = false := bne_eq_false_iff_eq.mpr c30
                    clear c30
                    replace H := Option.bind_eq_some_iff.mp H
                    obtain ⟨t156, A310, H⟩ := H
                    replace H : (some (t156 == 0)) = some r := H
                    have A31 := Aside0.mk A310
                    clear A310
                    obtain rfl := Option.some.inj H
                    go_wp2_with (first | (go_at_call 45; (with_reducible refine (rows_Check.calls k1 _ _ t137 t156 _ ?side1 ?side2 A31.out).mono ?_); (case side1 => repeat (first | exact (Kd.R_reads' HO_6.out).2.2 | (with_reducible refine Kd.C_alloc ?_ _) | (with_reducible refine Kd.C_drewN ?_ _) | (with_reducible refine Kd.C_drew ?_))); (case side2 => exact (Kd.R_reads' HO_6.out).2.1); rintro e w32 ⟨rfl, hb⟩; have n0_ := Aside0.mk (Kd.R_below (by (with_reducible repeat (first | apply Kd.R_alloc | apply Kd.R_drewN | apply Kd.R_drew)); exact HO_5.out) hb); have n1_ := Aside0.mk (Kd.R_below (by (with_reducible repeat (first | apply Kd.R_alloc | apply Kd.R_drewN | apply Kd.R_drew)); exact HO_6.out) hb); have n2_ := Aside0.mk (below_step (by repeat (first | (with_reducible first | exact HB.out | apply below_alloc | apply pw_below_drewN | apply below_drew1) | exact HB.out)) hb); clear HO_5; clear HO_6; clear HB; have HO_5 := n0_; have HO_6 := n1_; have HB := n2_; clear n0_ n1_ n2_; (try clear hb); (try clear hb2); (try clear hk); (try clear hi)))
                    go_ret
                    exact ⟨by first | rfl | (simp [errW_none, errW_some] <;> rfl) | (simp [*, errW_none, errW_some] <;> rfl), by repeat (first | (with_reducible first | exact HB.out | apply below_alloc | apply pw_below_drewN | apply below_drew1) | exact HB.out)⟩
                  · rw [if_neg c30] at H
                    have c30b0 : (t152 == 8) = false := beq_eq_false_iff_ne.mpr c30
                    have c30b1 : (t152 != 8) = true := bne_iff_ne.mpr c30
                    obtain rfl := Option.some.inj H
                    go_wp2
                    go_ret
                    exact ⟨by first | rfl | (simp [errW_none, errW_some] <;> rfl) | (simp [*, errW_none, errW_some] <;> rfl), by repeat (first | (with_reducible first | exact HB.out | apply below_alloc | apply pw_below_drewN | apply below_drew1) | exact HB.out)⟩
              · rw [if_neg c26] at H
                have c26b0 : ((t152 == 0) == (x11_1.toList != ([] : List UInt8))) = false := by simpa using c26
                clear c26
                obtain rfl := Option.some.inj H
                by_cases c27 : t152 = 0
                · have c27b0 : (t152 == 0) = true := beq_iff_eq.mpr c27
                  have c27b1 : (t152 != 0) = false := bne_eq_false_iff_eq.mpr c27
                  clear c27
                  have c29 : x11_1.toList = ([] : List UInt8) := by
                    rw [c27b0] at c26b0
                    cases h_ : x11_1.toList with
                    | nil => rfl
                    | cons _ _ => rw [h_] at c26b0; cases c26b0
                  have c29a : (x11_1.toList == ([] : List UInt8)) = true := beq_iff_eq.mpr c29
                  have c29b : (x11_1.toList != ([] : List UInt8)) = false := bne_eq_false_iff_eq.mpr c29
                  have c29c : x11_1.toList.isEmpty = true := by rw [c29]; rfl
                  clear c29 c26b0
                  go_wp2
                  go_ret
                  exact ⟨by first | rfl | (simp [errW_none, errW_some] <;> rfl) | (simp [*, errW_none, errW_some] <;> rfl), by repeat (first | (with_reducible first | exact HB.out | apply below_alloc | apply pw_below_drewN | apply below_drew1) | exact HB.out)⟩
                · have c27b0 : (t152 == 0) = false := beq_eq_false_iff_ne.mpr c27
                  have c27b1 : (t152 != 0) = true := bne_iff_ne.mpr c27
                  clear c27
                  have c29 : ¬ x11_1.toList = ([] : List UInt8) := fun h_ => by rw [c27b0, h_] at c26b0; cases c26b0
                  have c29a : (x11_1.toList == ([] : List UInt8)) = false := beq_eq_false_iff_ne.mpr c29
                  have c29b : (x11_1.toList != ([] : List UInt8)) = true := bne_iff_ne.mpr c29
                  have c29c : x11_1.toList.isEmpty = false := by cases h_ : x11_1.toList with | nil => exact absurd h_ c29 | cons _ _ => rfl
                  clear c29 c26b0
                  go_wp2
                  go_ret
                  exact ⟨by first | rfl | (simp [errW_none, errW_some] <;> rfl) | (simp [*, errW_none, errW_some] <;> rfl), by repeat (first | (with_reducible first | exact HB.out | apply below_alloc | apply pw_below_drewN | apply below_drew1) | exact HB.out)⟩
            · rw [if_neg c25] at H
              have c25b0 : (t151.toList == x11_1.toList) = false := beq_eq_false_iff_ne.mpr c25
              have c25b1 : (t151.toList != x11_1.toList) = true := bne_iff_ne.mpr c25
              obtain rfl := Option.some.inj H
              go_wp2
              go_ret
              exact ⟨by first | rfl | (simp [errW_none, errW_some] <;> rfl) | (simp [*, errW_none, errW_some] <;> rfl), by repeat (first | (with_reducible first | exact HB.out | apply below_alloc | apply pw_below_drewN | apply below_drew1) | exact HB.out)⟩
          · replace c24 := Bool.eq_false_iff.mpr c24
            subst c24
            have H1 : (some false) = some r := by rw [if_neg (show ¬ (false = true) by decide)] at H; exact H
            clear H
            have H := H1
            clear H1
            obtain rfl := Option.some.inj H
            go_wp2
            go_ret
            exact ⟨by first | rfl | (simp [errW_none, errW_some] <;> rfl) | (simp [*, errW_none, errW_some] <;> rfl), by repeat (first | (with_reducible first | exact HB.out | apply below_alloc | apply pw_below_drewN | apply below_drew1) | exact HB.out)⟩
  · rw [if_neg c6] at H
    exact absurd H (by simp)

/-- THE ONE PURE STATEMENT of bagnallkeep_RowsLast: yours. -/
def bagnallkeep_RowsLast.Pure : Prop := ∀ (l0 : List Int) (a1 : Int), l0.length ≤ maxLen → l0.length * 8 ≤ 140737488351232 → (∀ x ∈ l0, (Lit.int .i64 x).wf = true) → (Lit.int .i64 a1).wf = true → ∃ k, bagnallkeep_RowsLast.f k l0 a1 = some true
theorem bagnallkeep_RowsLast.walk (P : bagnallkeep_RowsLast.Pure) (a0 : Option Addr) (len0 cap0 : Nat) (z0 : List Int) (a1 : Int) (w : World) (w0 : (a0 = none ∧ len0 = 0 ∧ cap0 = 0 ∧ z0 = []) ∨ ∃ x, a0 = some x ∧ len0 ≤ cap0 ∧ cap0 ≤ maxLen ∧ z0.length = cap0 ∧ (∀ i, i < z0.length → w.cell? (x.add i) = some (.int .i64 (z0.getD i 0))) ∧ ∀ n ∈ z0, (Lit.int .i64 n).wf = true) (y0 : len0 * 8 ≤ 140737488351232) (w1 : (Lit.int .i64 a1).wf = true) :
    Calls Try.prog 17 #[.slice a0 len0 cap0, .int .i64 a1] w fun e w' => e = .returned (.bool true) ∧ Below w.heap.size w w' := by
  obtain ⟨l0, rfl, hr0, hm0, hw0, hc0⟩ := ReadsInt.ofRowC w0
  obtain ⟨k, h⟩ := P l0 a1 hm0 y0 hw0 w1
  refine (bagnallkeep_RowsLast.calls k _ _ l0 a1 true w (Kd.C_of_reads (d := (0 : Int)) (h1 := fun _ => rfl) hr0) hc0 h).mono ?_
  rintro e w' ⟨rfl, hd⟩
  exact ⟨rfl, hd⟩

end Go.Proofs.Ytmfkgbncnaingaa.QRows
