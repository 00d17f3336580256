/- Functions of the program as plain functions, and the walks that show it. Written by the session's own program pp.py. -/
import Derived.Test.YtmfkgbncnaingaaQDiskx0
import Derived.Test.YtmfkgbncnaingaaQDiskx2
import Derived.Test.YtmfkgbncnaingaaQDiskx3
import Derived.Test.YtmfkgbncnaingaaQDiskx5
import Derived.Test.YtmfkgbncnaingaaDisk4
import Derived.Test.YtmfkgbncnaingaaDisk5
namespace Go.Proofs.Ytmfkgbncnaingaa.QDisk
open Go.RowKit Go.Proofs.YtmfkgbncnaingaaW.PrintWords Go.Proofs.YtmfkgbncnaingaaW.PrintLast Go.Proofs.YtmfkgbncnaingaaW.PrintMore
attribute [local go_sem] max2_int min2_int max_two min_two max_three min_three max_four min_four   -- for this text's walks alone
set_option linter.unusedVariables false
set_option linter.unusedSimpArgs false

/-! ### bagnallkeep_DiskTrim: function 8 -/
def bagnallkeep_DiskTrim.j0 : Nat → List Int → Int → List Int → Int → Bool → Option (Bool)
  | 0, _, _, _, _, _ => none
  | k + 1, x6, x8, x10, x13, x53 => if x53 = true then (some false) else (if x8 > (x6.length : Int) then ((bagnallkeep_sameBytes.f k x6 x10).bind fun t252 => (some t252)) else (if 0 ≤ x8 then (if x8 ≤ (x6.length : Int) then ((bagnallkeep_sameBytes.f k x10 (x6.take (x8 : Int).toNat)).bind fun t258 => (if t258 = true then (some (x13 == x8)) else (some false))) else (none)) else (none)))
def bagnallkeep_DiskTrim.f (k : Nat) (l0 : List Int) (a1 : Int) : Option (Bool) := (bagnallkeep_Moves.f l0 60).bind fun t231 => ((bagnallkeep_moved.f t231).bind fun bt234 => ((bagnallkeep_Picked.f a1 (wrap64 ((bt234.1.length : Int) + 3))).bind fun t238 => (if ([] : List (S32)).length + t231.length < 3518437208883 then ((some (([] : List (S32)) ++ t231 : List (S32))).bind fun y239 => (if y239.length < 3518437208883 then ((some (y239 ++ [(⟨3, ([] : List Int), t238⟩ : S32)] : List (S32))).bind fun y242 => ((bagnallkeep_moved.f y242).bind fun bt245 => ((disk_Held.f y242).bind fun bt249 => (if bt234.2 = true then (if bt245.2 = true then (bagnallkeep_DiskTrim.j0 k bt234.1 t238 bt245.1 bt249.2.1 (bt249.2.2 != 0)) else (bagnallkeep_DiskTrim.j0 k bt234.1 t238 bt245.1 bt249.2.1 true)) else (bagnallkeep_DiskTrim.j0 k bt234.1 t238 bt245.1 bt249.2.1 true))))) else (none))) else (none))))
theorem bagnallkeep_DiskTrim.mono_l : ∀ k, (∀ y0 y1 y2 y3 y4, LeO (bagnallkeep_DiskTrim.j0 k y0 y1 y2 y3 y4) (bagnallkeep_DiskTrim.j0 (k + 1) y0 y1 y2 y3 y4))
  | 0 => fun _ _ _ _ _ r h => by simp [bagnallkeep_DiskTrim.j0] at h
  | k + 1 => by
    have ih0 := bagnallkeep_DiskTrim.mono_l k
    · intro y0 y1 y2 y3 y4
      unfold bagnallkeep_DiskTrim.j0
      repeat' first
      | (with_reducible exact ih0 _ _ _ _ _)
      | (with_reducible exact bagnallkeep_sameBytes.mono _ _ _)
      | (with_reducible exact LeO.refl _)
      | (with_reducible exact LeO.none _)
      | (with_reducible refine LeO.ite ?_ ?_)
      | (with_reducible refine LeO.bind ?_ (fun _ => ?_))
      | exact ih0 _ _ _ _ _
      | exact bagnallkeep_sameBytes.mono _ _ _
      | exact LeO.none _
      | refine LeO.ite ?_ ?_
      | refine LeO.bind ?_ (fun _ => ?_)
theorem bagnallkeep_DiskTrim.mono : ∀ a0 a1 k, LeO (bagnallkeep_DiskTrim.f k a0 a1) (bagnallkeep_DiskTrim.f (k + 1) a0 a1) := by
  intro a0 a1 k
  have ih0 := bagnallkeep_DiskTrim.mono_l k
  unfold bagnallkeep_DiskTrim.f
  repeat' first
      | (with_reducible exact ih0 _ _ _ _ _)
      | (with_reducible exact bagnallkeep_sameBytes.mono _ _ _)
      | (with_reducible exact LeO.refl _)
      | (with_reducible exact LeO.none _)
      | (with_reducible refine LeO.ite ?_ ?_)
      | (with_reducible refine LeO.bind ?_ (fun _ => ?_))
      | exact ih0 _ _ _ _ _
      | exact bagnallkeep_sameBytes.mono _ _ _
      | exact LeO.none _
      | refine LeO.ite ?_ ?_
      | refine LeO.bind ?_ (fun _ => ?_)
set_option maxHeartbeats 8000000 in
set_option maxRecDepth 100000 in
theorem bagnallkeep_DiskTrim.calls (k : Nat) (A0 : Option Addr) (c0 : Nat) (l0 : List Int) (a1 : Int) (r : Bool) (w : World) (hr0 : Kd.C (Kd.int .i64) w A0 l0.length l0) (hc0 : l0.length ≤ c0) (h : bagnallkeep_DiskTrim.f k l0 a1 = some r) :
    Calls Try.prog 8 #[.slice A0 l0.length c0, .int .i64 a1] w fun e w' => e = .returned (.bool r) ∧ Below w.heap.size w w' := by
  have hu32 := Try.underlying32
  have HR0 := Aside0.mk hr0
  have HC0 := Aside0.mk hc0
  clear hr0 hc0
  have HB := Aside0.mk (Below.refl w.heap.size w)
  have H : ((bagnallkeep_Moves.f l0 60).bind fun t231 => ((bagnallkeep_moved.f t231).bind fun bt234 => ((bagnallkeep_Picked.f a1 (wrap64 ((bt234.1.length : Int) + 3))).bind fun t238 => (if ([] : List (S32)).length + t231.length < 3518437208883 then ((some (([] : List (S32)) ++ t231 : List (S32))).bind fun y239 => (if y239.length < 3518437208883 then ((some (y239 ++ [(⟨3, ([] : List Int), t238⟩ : S32)] : List (S32))).bind fun y242 => ((bagnallkeep_moved.f y242).bind fun bt245 => ((disk_Held.f y242).bind fun bt249 => (if bt234.2 = true then (if bt245.2 = true then (bagnallkeep_DiskTrim.j0 k bt234.1 t238 bt245.1 bt249.2.1 (bt249.2.2 != 0)) else (bagnallkeep_DiskTrim.j0 k bt234.1 t238 bt245.1 bt249.2.1 true)) else (bagnallkeep_DiskTrim.j0 k bt234.1 t238 bt245.1 bt249.2.1 true))))) else (none))) else (none))))) = some r := h
  clear h
  replace H := Option.bind_eq_some_iff.mp H
  obtain ⟨t231, A30, H⟩ := H
  replace H : ((bagnallkeep_moved.f t231).bind fun bt234 => ((bagnallkeep_Picked.f a1 (wrap64 ((bt234.1.length : Int) + 3))).bind fun t238 => (if ([] : List (S32)).length + t231.length < 3518437208883 then ((some (([] : List (S32)) ++ t231 : List (S32))).bind fun y239 => (if y239.length < 3518437208883 then ((some (y239 ++ [(⟨3, ([] : List Int), t238⟩ : S32)] : List (S32))).bind fun y242 => ((bagnallkeep_moved.f y242).bind fun bt245 => ((disk_Held.f y242).bind fun bt249 => (if bt234.2 = true then (if bt245.2 = true then (bagnallkeep_DiskTrim.j0 k bt234.1 t238 bt245.1 bt249.2.1 (bt249.2.2 != 0)) else (bagnallkeep_DiskTrim.j0 k bt234.1 t238 bt245.1 bt249.2.1 true)) else (bagnallkeep_DiskTrim.j0 k bt234.1 t238 bt245.1 bt249.2.1 true))))) else (none))) else (none)))) = some r := H
  have A3 := Aside0.mk A30
  clear A30
  replace H := Option.bind_eq_some_iff.mp H
  obtain ⟨⟨t234, t235⟩, A40, H⟩ := H
  replace H : ((bagnallkeep_Picked.f a1 (wrap64 ((t234.length : Int) + 3))).bind fun t238 => (if ([] : List (S32)).length + t231.length < 3518437208883 then ((some (([] : List (S32)) ++ t231 : List (S32))).bind fun y239 => (if y239.length < 3518437208883 then ((some (y239 ++ [(⟨3, ([] : List Int), t238⟩ : S32)] : List (S32))).bind fun y242 => ((bagnallkeep_moved.f y242).bind fun bt245 => ((disk_Held.f y242).bind fun bt249 => (if t235 = true then (if bt245.2 = true then (bagnallkeep_DiskTrim.j0 k t234 t238 bt245.1 bt249.2.1 (bt249.2.2 != 0)) else (bagnallkeep_DiskTrim.j0 k t234 t238 bt245.1 bt249.2.1 true)) else (bagnallkeep_DiskTrim.j0 k t234 t238 bt245.1 bt249.2.1 true))))) else (none))) else (none))) = some r := H
  have A4 := Aside0.mk A40
  clear A40
  replace H := Option.bind_eq_some_iff.mp H
  obtain ⟨t238, A50, H⟩ := H
  replace H : (if ([] : List (S32)).length + t231.length < 3518437208883 then ((some (([] : List (S32)) ++ t231 : List (S32))).bind fun y239 => (if y239.length < 3518437208883 then ((some (y239 ++ [(⟨3, ([] : List Int), t238⟩ : S32)] : List (S32))).bind fun y242 => ((bagnallkeep_moved.f y242).bind fun bt245 => ((disk_Held.f y242).bind fun bt249 => (if t235 = true then (if bt245.2 = true then (bagnallkeep_DiskTrim.j0 k t234 t238 bt245.1 bt249.2.1 (bt249.2.2 != 0)) else (bagnallkeep_DiskTrim.j0 k t234 t238 bt245.1 bt249.2.1 true)) else (bagnallkeep_DiskTrim.j0 k t234 t238 bt245.1 bt249.2.1 true))))) else (none))) else (none)) = some r := H
  have A5 := Aside0.mk A50
  clear A50
  by_cases c6 : ([] : List (S32)).length + t231.length < 3518437208883
  · rw [if_pos c6] at H
    have LMc6 := Aside0.mk c6
    clear c6
    obtain ⟨y239, hy239⟩ : ∃ y_ : List (S32), y_ = (([] : List (S32)) ++ t231) := ⟨_, rfl⟩
    replace H : (if y239.length < 3518437208883 then ((some (y239 ++ [(⟨3, ([] : List Int), t238⟩ : S32)] : List (S32))).bind fun y242 => ((bagnallkeep_moved.f y242).bind fun bt245 => ((disk_Held.f y242).bind fun bt249 => (if t235 = true then (if bt245.2 = true then (bagnallkeep_DiskTrim.j0 k t234 t238 bt245.1 bt249.2.1 (bt249.2.2 != 0)) else (bagnallkeep_DiskTrim.j0 k t234 t238 bt245.1 bt249.2.1 true)) else (bagnallkeep_DiskTrim.j0 k t234 t238 bt245.1 bt249.2.1 true))))) else (none)) = some r := by first | (rw [hy239]; with_reducible exact H) | (have H2_ := (Option.bind_some _ _).symm.trans H; rw [hy239]; with_reducible exact H2_) | (have H2_ := (Option.bind_some _ _).symm.trans H; with_reducible exact H2_) | with_reducible exact H | (rw [hy239]; exact H) | exact H
    have Ny239 := Aside0.mk hy239
    clear hy239
    by_cases c7 : y239.length < 3518437208883
    · rw [if_pos c7] at H
      have LMc7 := Aside0.mk c7
      clear c7
      obtain ⟨y242, hy242⟩ : ∃ y_ : List (S32), y_ = (y239 ++ [(⟨3, ([] : List Int), t238⟩ : S32)]) := ⟨_, rfl⟩
      replace H : ((bagnallkeep_moved.f y242).bind fun bt245 => ((disk_Held.f y242).bind fun bt249 => (if t235 = true then (if bt245.2 = true then (bagnallkeep_DiskTrim.j0 k t234 t238 bt245.1 bt249.2.1 (bt249.2.2 != 0)) else (bagnallkeep_DiskTrim.j0 k t234 t238 bt245.1 bt249.2.1 true)) else (bagnallkeep_DiskTrim.j0 k t234 t238 bt245.1 bt249.2.1 true)))) = some r := by first | (rw [hy242]; with_reducible exact H) | (have H2_ := (Option.bind_some _ _).symm.trans H; rw [hy242]; with_reducible exact H2_) | (have H2_ := (Option.bind_some _ _).symm.trans H; with_reducible exact H2_) | with_reducible exact H | (rw [hy242]; exact H) | exact H
      have Ny242 := Aside0.mk hy242
      clear hy242
      replace H := Option.bind_eq_some_iff.mp H
      obtain ⟨⟨t245, t246⟩, A80, H⟩ := H
      replace H : ((disk_Held.f y242).bind fun bt249 => (if t235 = true then (if t246 = true then (bagnallkeep_DiskTrim.j0 k t234 t238 t245 bt249.2.1 (bt249.2.2 != 0)) else (bagnallkeep_DiskTrim.j0 k t234 t238 t245 bt249.2.1 true)) else (bagnallkeep_DiskTrim.j0 k t234 t238 t245 bt249.2.1 true))) = some r := H
      have A8 := Aside0.mk A80
      clear A80
      replace H := Option.bind_eq_some_iff.mp H
      obtain ⟨⟨t249, t250, t251⟩, A90, H⟩ := H
      replace H : (if t235 = true then (if t246 = true then (bagnallkeep_DiskTrim.j0 k t234 t238 t245 t250 (t251 != 0)) else (bagnallkeep_DiskTrim.j0 k t234 t238 t245 t250 true)) else (bagnallkeep_DiskTrim.j0 k t234 t238 t245 t250 true)) = some r := H
      have A9 := Aside0.mk A90
      clear A90
      have HC10 := Aside0.mk H
      clear H
      go_enter Try.func8, Try.ntmps8
      go_upto_region 7 with (first | ((with_reducible refine gate_callee (f := 27) rfl ?_); refine goesL_ (some 16) rfl rfl Try.func27 (by kernel_rfl) rfl #[.slice A0 l0.length c0, .int .i64 60] rfl (by (try simp only [List.map_toArray, List.map_cons, List.map_nil]); first | done | rfl | (simp only [List.length_drop, List.length_take]; rfl)) ?_; (with_reducible refine (bagnallkeep_Moves.calls _ _ l0 60 t231 _ ?side1 ?side2 A3.out).mono ?_); (case side1 => repeat (first | exact HR0.out | (with_reducible refine Kd.C_alloc ?_ _) | (with_reducible refine Kd.C_drewN ?_ _) | (with_reducible refine Kd.C_drew ?_))); (case side2 => exact HC0.out); rintro e w11 ⟨v232, rfl, ho0, hb⟩; refine ⟨_, rfl, ?_⟩; have n0_ := Aside0.mk (Kd.N_lower (Kd.N_mono (ok' := fun k_ => True) (Kd.S_N (Kd.S_bound ho0)) (fun k_ hk_ => trivial)) (below_size (by repeat (first | (with_reducible first | exact HB.out | apply below_alloc | apply pw_below_drewN | apply below_drew1) | exact HB.out)))); have n1_ := Aside0.mk (below_step (by repeat (first | (with_reducible first | exact HB.out | apply below_alloc | apply pw_below_drewN | apply below_drew1) | exact HB.out)) hb); clear HB; have HO233 := n0_; have HB := n1_; clear n0_ n1_; (try clear hb); (try clear hb2); (try clear hk); (try clear hi); (try clear ho0); obtain ⟨Ao12, co12, eo12⟩ := Kd.N_slice HO233.out; subst eo12) | ((with_reducible refine gate_callee (f := 29) rfl ?_); refine goesL_ (some 19) rfl rfl Try.func29 (by kernel_rfl) rfl #[.slice Ao12 t231.length co12] rfl (by (try simp only [List.map_toArray, List.map_cons, List.map_nil]); first | done | rfl | (simp only [List.length_drop, List.length_take]; rfl)) ?_; (with_reducible refine (bagnallkeep_moved.calls _ _ t231 t234 t235 _ ?side1 ?side2 A4.out).mono ?_); (case side1 => repeat (first | exact (Kd.N_reads' HO233.out).2.2 | (with_reducible refine Kd.C_alloc ?_ _) | (with_reducible refine Kd.C_drewN ?_ _) | (with_reducible refine Kd.C_drew ?_))); (case side2 => exact (Kd.N_reads' HO233.out).2.1); rintro e w13 ⟨v236, rfl, ho0, hb⟩; refine ⟨_, rfl, ?_⟩; have n0_ := Aside0.mk (Kd.N_elder' (by (with_reducible repeat (first | apply Kd.N_alloc | apply Kd.N_drewN | apply Kd.N_drew)); exact HO233.out) (Kd.R_base ho0) hb); have n1_ := Aside0.mk (Kd.R_lower ho0 (below_size (by repeat (first | (with_reducible first | exact HB.out | apply below_alloc | apply pw_below_drewN | apply below_drew1) | exact HB.out)))); have n2_ := Aside0.mk (below_step (by repeat (first | (with_reducible first | exact HB.out | apply below_alloc | apply pw_below_drewN | apply below_drew1) | exact HB.out)) hb); clear HO233; clear HB; have HO233 := n0_; have HO237 := n1_; have HB := n2_; clear n0_ n1_ n2_; (try clear hb); (try clear hb2); (try clear hk); (try clear hi); (try clear ho0); obtain ⟨Ao14, co14, eo14⟩ := Kd.R_slice HO237.out; subst eo14) | ((with_reducible refine gate_callee (f := 31) rfl ?_); refine goesL_ (some 26) rfl rfl Try.func31 (by kernel_rfl) rfl #[.int .i64 a1, .int .i64 (wrap64 ((t234.length : Int) + 3))] rfl (by (try simp only [List.map_toArray, List.map_cons, List.map_nil]); first | done | rfl | (simp only [List.length_drop, List.length_take]; rfl)) ?_; (with_reducible refine (bagnallkeep_Picked.calls a1 (wrap64 ((t234.length : Int) + 3)) t238 _ A5.out).mono ?_); rintro e w' ⟨rfl, ⟨nd, rfl⟩⟩; refine ⟨_, rfl, ?_⟩) | ((with_reducible refine gate_builtin (b := .append) (xs := #[.const _, .tmp 27]) rfl ?_); at_builtin; refine Kd.N_append_rows k32 (w0 := w) w.heap.size rfl (.const (.slice none 0 0)) (.tmp 27) 26 32 (.agg #[(.int .i64 0), (.slice none 0 0), (.int .i64 0)]) 40 rfl Try.underlying26 info32 rfl (by decide) (by omega) (.slice none 0 0) ([] : List (S32)) t231 _ _ _ (fun k_ => some k_ ≠ (.slice Ao14 t234.length co14 : Value).ownBlock) (fun k_ => ((fun k_ => some k_ ≠ (.slice Ao14 t234.length co14 : Value).ownBlock)) k_ ∧ some k_ ≠ (.slice none 0 0 : Value).ownBlock) rfl rfl ?aO ?aR (fun _ hk => hk) ?aF ?aB ?aS ?aL ?_; (case aR => exact (by skip; exact Kd.N_F (Kd.N_mono (ok' := (fun k_ => ((fun k_ => some k_ ≠ (.slice Ao14 t234.length co14 : Value).ownBlock)) k_ ∧ some k_ ≠ (.slice none 0 0 : Value).ownBlock)) (HO233.out) (fun k_ hk => ⟨hk.2, (by simp [Value.ownBlock])⟩)))); (case aB => exact (by repeat (first | (with_reducible first | exact HB.out | apply below_alloc | apply pw_below_drewN | apply below_drew1) | exact HB.out))); (case aF => exact (fun k_ hk => Kd.fresh' (Kd.R_lt (by (with_reducible repeat (first | apply Kd.R_alloc | apply Kd.R_drewN | apply Kd.R_drew)); exact HO237.out)) k_ hk)); (case aO => exact ((Kd.N_nil _ _ _ _ (fun k_ => some k_ ≠ (.slice Ao14 t234.length co14 : Value).ownBlock)))); (case aS => exact (below_size (by repeat (first | (with_reducible first | exact HB.out | apply below_alloc | apply pw_below_drewN | apply below_drew1) | exact HB.out)))); (case aL => have := LMc6.out; omega); intro v240 w15 ho hb hg hat; rw [← Ny239.out] at ho; have n0_ := Aside0.mk (Kd.N_afterv (Kd.N_apart_nil (by (with_reducible repeat (first | apply Kd.N_alloc | apply Kd.N_drewN | apply Kd.N_drew)); exact HO233.out)) hg hat); have n1_ := Aside0.mk (Kd.R_grown (by (with_reducible repeat (first | apply Kd.R_alloc | apply Kd.R_drewN | apply Kd.R_drew)); exact HO237.out) hg (fun _ _ => by simp [Value.ownBlock])); have n2_ := Aside0.mk (hb); have n3_ := Aside0.mk (ho); clear HO233; clear HO237; clear HB; have HO233 := n0_; have HO237 := n1_; have HB := n2_; have HO241 := n3_; clear n0_ n1_ n2_ n3_; clear ho hb hg hat) | ((with_reducible refine gate_builtin (b := .append) (xs := #[.tmp 28, .tmp 31]) rfl ?_); at_builtin; refine Kd.N_append k32 (w0 := w) w.heap.size rfl (.tmp 28) (.tmp 31) 26 32 (.agg #[(.int .i64 0), (.slice none 0 0), (.int .i64 0)]) 40 rfl Try.underlying26 info32 rfl (by decide) (by omega) v240 y239 (⟨3, ([] : List Int), t238⟩ : S32) [.int .i64 3, .slice none 0 0, .int .i64 t238] (fun k_ => some k_ ≠ (.slice Ao14 t234.length co14 : Value).ownBlock) (fun k_ => ((fun k_ => some k_ ≠ (.slice Ao14 t234.length co14 : Value).ownBlock)) k_ ∧ some k_ ≠ (v240 : Value).ownBlock) rfl rfl ?aP (fun _ hk => hk) ?aF ?aO ?aB ?aS ?aL ?_; (case aP => exact (k32_mkF _ _ (⟨3, ([] : List Int), t238⟩ : S32) (Nat.le_refl _) (Kd.F_nil _ _ _))); (case aB => exact (by repeat (first | (with_reducible first | exact HB.out | apply below_alloc | apply pw_below_drewN | apply below_drew1) | exact HB.out))); (case aF => exact (fun k_ hk => Kd.fresh' (Kd.R_lt (by (with_reducible repeat (first | apply Kd.R_alloc | apply Kd.R_drewN | apply Kd.R_drew)); exact HO237.out)) k_ hk)); (case aO => exact (by (with_reducible repeat (first | apply Kd.N_alloc | apply Kd.N_drewN | apply Kd.N_drew)); exact HO241.out)); (case aS => exact (below_size (by repeat (first | (with_reducible first | exact HB.out | apply below_alloc | apply pw_below_drewN | apply below_drew1) | exact HB.out)))); (case aL => have := LMc7.out; omega); intro v243 w16 ho hb hg hat; rw [← Ny242.out] at ho; have n0_ := Aside0.mk (Kd.N_afterv (ok := (fun k_ => some k_ ≠ (.slice Ao14 t234.length co14 : Value).ownBlock)) (by (with_reducible repeat (first | apply Kd.N_alloc | apply Kd.N_drewN | apply Kd.N_drew)); exact Kd.N_mono HO233.out (fun _ hk => ⟨hk.1.2, hk.2⟩)) hg hat); have n1_ := Aside0.mk (Kd.R_over' (by (with_reducible repeat (first | apply Kd.R_alloc | apply Kd.R_drewN | apply Kd.R_drew)); exact HO237.out) (Kd.N_typed (by (with_reducible repeat (first | apply Kd.N_alloc | apply Kd.N_drewN | apply Kd.N_drew)); exact HO241.out)) (by decide) hg); have n2_ := Aside0.mk (hb); have n3_ := Aside0.mk (ho); clear HO233; clear HO237; clear HB; clear HO241; have HO233 := n0_; have HO237 := n1_; have HB := n2_; have HO244 := n3_; clear n0_ n1_ n2_ n3_; clear ho hb hg hat; obtain ⟨Ao17, co17, eo17⟩ := Kd.N_slice HO244.out; subst eo17) | ((with_reducible refine gate_callee (f := 29) rfl ?_); refine goesL_ (some 35) rfl rfl Try.func29 (by kernel_rfl) rfl #[.slice Ao17 y242.length co17] rfl (by (try simp only [List.map_toArray, List.map_cons, List.map_nil]); first | done | rfl | (simp only [List.length_drop, List.length_take]; rfl)) ?_; (with_reducible refine (bagnallkeep_moved.calls _ _ y242 t245 t246 _ ?side1 ?side2 A8.out).mono ?_); (case side1 => repeat (first | exact (Kd.N_reads' HO244.out).2.2 | (with_reducible refine Kd.C_alloc ?_ _) | (with_reducible refine Kd.C_drewN ?_ _) | (with_reducible refine Kd.C_drew ?_))); (case side2 => exact (Kd.N_reads' HO244.out).2.1); rintro e w18 ⟨v247, rfl, ho0, hb⟩; refine ⟨_, rfl, ?_⟩; have n0_ := Aside0.mk (Kd.N_elder' (by (with_reducible repeat (first | apply Kd.N_alloc | apply Kd.N_drewN | apply Kd.N_drew)); exact HO233.out) (Kd.R_base ho0) hb); have n1_ := Aside0.mk (Kd.R_elder' (by (with_reducible repeat (first | apply Kd.R_alloc | apply Kd.R_drewN | apply Kd.R_drew)); exact HO237.out) (Kd.R_base ho0) hb); have n2_ := Aside0.mk (Kd.N_elder' (by (with_reducible repeat (first | apply Kd.N_alloc | apply Kd.N_drewN | apply Kd.N_drew)); exact HO244.out) (Kd.R_base ho0) hb); have n3_ := Aside0.mk (Kd.R_lower (Kd.R_new' ho0 (Kd.R_lt (by (with_reducible repeat (first | apply Kd.R_alloc | apply Kd.R_drewN | apply Kd.R_drew)); exact HO237.out))) (below_size (by repeat (first | (with_reducible first | exact HB.out | apply below_alloc | apply pw_below_drewN | apply below_drew1) | exact HB.out)))); have n4_ := Aside0.mk (below_step (by repeat (first | (with_reducible first | exact HB.out | apply below_alloc | apply pw_below_drewN | apply below_drew1) | exact HB.out)) hb); clear HO233; clear HO237; clear HO244; clear HB; have HO233 := n0_; have HO237 := n1_; have HO244 := n2_; have HO248 := n3_; have HB := n4_; clear n0_ n1_ n2_ n3_ n4_; (try clear hb); (try clear hb2); (try clear hk); (try clear hi); (try clear ho0)) | ((with_reducible refine gate_callee (f := 33) rfl ?_); refine goesL_ (some 40) rfl rfl Try.func33 (by kernel_rfl) rfl #[.slice Ao17 y242.length co17] rfl (by (try simp only [List.map_toArray, List.map_cons, List.map_nil]); first | done | rfl | (simp only [List.length_drop, List.length_take]; rfl)) ?_; (with_reducible refine (disk_Held.calls _ _ y242 t249 t250 t251 _ ?side1 ?side2 A9.out).mono ?_); (case side1 => repeat (first | exact (Kd.N_reads' HO244.out).2.2 | (with_reducible refine Kd.C_alloc ?_ _) | (with_reducible refine Kd.C_drewN ?_ _) | (with_reducible refine Kd.C_drew ?_))); (case side2 => exact (Kd.N_reads' HO244.out).2.1); rintro e w19 ⟨rfl, hb⟩; refine ⟨_, rfl, ?_⟩; have n0_ := Aside0.mk (Kd.N_below (by (with_reducible repeat (first | apply Kd.N_alloc | apply Kd.N_drewN | apply Kd.N_drew)); exact HO233.out) hb); have n1_ := Aside0.mk (Kd.R_below (by (with_reducible repeat (first | apply Kd.R_alloc | apply Kd.R_drewN | apply Kd.R_drew)); exact HO237.out) hb); have n2_ := Aside0.mk (Kd.N_below (by (with_reducible repeat (first | apply Kd.N_alloc | apply Kd.N_drewN | apply Kd.N_drew)); exact HO244.out) hb); have n3_ := Aside0.mk (Kd.R_below (by (with_reducible repeat (first | apply Kd.R_alloc | apply Kd.R_drewN | apply Kd.R_drew)); exact HO248.out) hb); have n4_ := Aside0.mk (below_step (by repeat (first | (with_reducible first | exact HB.out | apply below_alloc | apply pw_below_drewN | apply below_drew1) | exact HB.out)) hb); clear HO233; clear HO237; clear HO244; clear HO248; clear HB; have HO233 := n0_; have HO237 := n1_; have HO244 := n2_; have HO248 := n3_; have HB := n4_; clear n0_ n1_ n2_ n3_ n4_; (try clear hb); (try clear hb2); (try clear hk); (try clear hi)))
      (try simp only [Act.put, List.setIfInBounds_toArray, List.set_cons_zero, List.set_cons_succ])
      go_cut [53] (fun v53 wc => ∃ (kq : Nat) (x53_9 : Bool), v53 = .bool x53_9 ∧ Aside0 (bagnallkeep_DiskTrim.j0 kq t234 t238 t245 t250 x53_9 = some r) ∧ Aside0 (kq ≤ k) ∧ Aside0 (Kd.R (Kd.int .u8) 5 wc w.heap.size (fun k_ => some k_ ≠ (v247 : Value).ownBlock) (.slice Ao14 t234.length co14) t234) ∧ Aside0 (Kd.R (Kd.int .u8) 5 wc w.heap.size (fun k_ => some k_ ≠ ((.slice Ao14 t234.length co14) : Value).ownBlock) v247 t245) ∧ Aside0 (Below w.heap.size w wc))
      case first =>
        have H := HC10.out
        clear HC10
        by_cases c20 : t235 = true
        · subst c20
          have H1 : (if t246 = true then (bagnallkeep_DiskTrim.j0 k t234 t238 t245 t250 (t251 != 0)) else (bagnallkeep_DiskTrim.j0 k t234 t238 t245 t250 true)) = some r := by rw [if_pos rfl] at H; exact H
          clear H
          have H := H1
          clear H1
          by_cases c21 : t246 = true
          · subst c21
            have H1 : (bagnallkeep_DiskTrim.j0 k t234 t238 t245 t250 (t251 != 0)) = some r := by rw [if_pos rfl] at H; exact H
            clear H
            have H := H1
            clear H1
            have H' := Aside0.mk H
            clear H
            go_wp2
            go_meet
            case rel => exact ⟨_, ((t251 != 0)), (by first | rfl | (simp; done) | (simp [*]; done)), H', ⟨by first | omega | exact Nat.le_refl _⟩, ⟨by (with_reducible repeat (first | apply Kd.R_alloc | apply Kd.R_drewN | apply Kd.R_drew)); exact Kd.R_mono HO237.out (fun _ hk => hk.2)⟩, ⟨by (with_reducible repeat (first | apply Kd.R_alloc | apply Kd.R_drewN | apply Kd.R_drew)); exact Kd.R_mono HO248.out (fun _ hk => hk.2)⟩, ⟨by repeat (first | (with_reducible first | exact HB.out | apply below_alloc | apply pw_below_drewN | apply below_drew1) | exact HB.out)⟩⟩
          · replace c21 := Bool.eq_false_iff.mpr c21
            subst c21
            have H1 : (bagnallkeep_DiskTrim.j0 k t234 t238 t245 t250 true) = some r := by rw [if_neg (show ¬ (false = true) by decide)] at H; exact H
            clear H
            have H := H1
            clear H1
            have H' := Aside0.mk H
            clear H
            go_wp2
            go_meet
            case rel => exact ⟨_, (true), (by first | rfl | (simp; done) | (simp [*]; done)), H', ⟨by first | omega | exact Nat.le_refl _⟩, ⟨by (with_reducible repeat (first | apply Kd.R_alloc | apply Kd.R_drewN | apply Kd.R_drew)); exact Kd.R_mono HO237.out (fun _ hk => hk.2)⟩, ⟨by (with_reducible repeat (first | apply Kd.R_alloc | apply Kd.R_drewN | apply Kd.R_drew)); exact Kd.R_mono HO248.out (fun _ hk => hk.2)⟩, ⟨by repeat (first | (with_reducible first | exact HB.out | apply below_alloc | apply pw_below_drewN | apply below_drew1) | exact HB.out)⟩⟩
        · replace c20 := Bool.eq_false_iff.mpr c20
          subst c20
          have H1 : (bagnallkeep_DiskTrim.j0 k t234 t238 t245 t250 true) = some r := by rw [if_neg (show ¬ (false = true) by decide)] at H; exact H
          clear H
          have H := H1
          clear H1
          have H' := Aside0.mk H
          clear H
          go_wp2
          go_meet
          case rel => exact ⟨_, (true), (by first | rfl | (simp; done) | (simp [*]; done)), H', ⟨by first | omega | exact Nat.le_refl _⟩, ⟨by (with_reducible repeat (first | apply Kd.R_alloc | apply Kd.R_drewN | apply Kd.R_drew)); exact Kd.R_mono HO237.out (fun _ hk => hk.2)⟩, ⟨by (with_reducible repeat (first | apply Kd.R_alloc | apply Kd.R_drewN | apply Kd.R_drew)); exact Kd.R_mono HO248.out (fun _ hk => hk.2)⟩, ⟨by repeat (first | (with_reducible first | exact HB.out | apply below_alloc | apply pw_below_drewN | apply below_drew1) | exact HB.out)⟩⟩
      case rest =>
        clear HC10
        try clear c2
        try clear p2
        try clear c3
        try clear c6
        try clear p6
        try clear c7
        try clear c8
        try clear c20
        try clear c21
        obtain ⟨kq, x53_9, rfl, HA, HJ9, HO_6, HO_10, HB⟩ := hcut
        cases kq with
        | zero => exact absurd HA.out (by simp [bagnallkeep_DiskTrim.j0])
        | succ kj9 =>
          have H := HA.out
          clear HA
          simp only [bagnallkeep_DiskTrim.j0] at H
          by_cases c22 : x53_9 = true
          · subst c22
            have H1 : (some false) = some r := by rw [if_pos rfl] at H; exact H
            clear H
            have H := H1
            clear H1
            obtain rfl := Option.some.inj H
            go_wp2
            go_ret
            exact ⟨by first | rfl | (simp [errW_none, errW_some] <;> rfl) | (simp [*, errW_none, errW_some] <;> rfl), by repeat (first | (with_reducible first | exact HB.out | apply below_alloc | apply pw_below_drewN | apply below_drew1) | exact HB.out)⟩
          · replace c22 := Bool.eq_false_iff.mpr c22
            subst c22
            have H1 : (if t238 > (t234.length : Int) then ((bagnallkeep_sameBytes.f kj9 t234 t245).bind fun t252 => (some t252)) else (if 0 ≤ t238 then (if t238 ≤ (t234.length : Int) then ((bagnallkeep_sameBytes.f kj9 t245 (t234.take (t238 : Int).toNat)).bind fun t258 => (if t258 = true then (some (t250 == t238)) else (some false))) else (none)) else (none))) = some r := by rw [if_neg (show ¬ (false = true) by decide)] at H; exact H
            clear H
            have H := H1
            clear H1
            by_cases c23 : t238 > (t234.length : Int)
            · rw [if_pos c23] at H
              have c23b0 : decide ((t234.length : Int) < t238) = true := decide_eq_true c23
              clear c23
              replace H := Option.bind_eq_some_iff.mp H
              obtain ⟨t252, A240, H⟩ := H
              replace H : (some t252) = some r := H
              have A24 := Aside0.mk A240
              clear A240
              obtain rfl := Option.some.inj H
              obtain ⟨Ao25, co25, eo25⟩ := Kd.R_slice HO_10.out
              subst eo25
              go_wp2_with (first | ((with_reducible refine gate_callee (f := 30) rfl ?_); refine goesL_ (some 60) rfl rfl Try.func30 (by kernel_rfl) rfl #[.slice Ao14 t234.length co14, .slice Ao25 t245.length co25] rfl (by (try simp only [List.map_toArray, List.map_cons, List.map_nil]); first | done | rfl | (simp only [List.length_drop, List.length_take]; rfl)) ?_; (with_reducible refine (bagnallkeep_sameBytes.calls kj9 _ _ t234 _ _ t245 t252 _ ?side1 ?side2 ?side3 ?side4 A24.out).mono ?_); (case side1 => repeat (first | exact (Kd.R_reads' HO_6.out).2.2 | (with_reducible refine Kd.C_alloc ?_ _) | (with_reducible refine Kd.C_drewN ?_ _) | (with_reducible refine Kd.C_drew ?_))); (case side2 => exact (Kd.R_reads' HO_6.out).2.1); (case side3 => repeat (first | exact (Kd.R_reads' HO_10.out).2.2 | (with_reducible refine Kd.C_alloc ?_ _) | (with_reducible refine Kd.C_drewN ?_ _) | (with_reducible refine Kd.C_drew ?_))); (case side4 => exact (Kd.R_reads' HO_10.out).2.1); rintro e w' ⟨rfl, ⟨nd, rfl⟩⟩; refine ⟨_, rfl, ?_⟩))
              go_ret
              exact ⟨by first | rfl | (simp [errW_none, errW_some] <;> rfl) | (simp [*, errW_none, errW_some] <;> rfl), by repeat (first | (with_reducible first | exact HB.out | apply below_alloc | apply pw_below_drewN | apply below_drew1) | exact HB.out)⟩
            · rw [if_neg c23] at H
              have c23b0 : decide ((t234.length : Int) < t238) = false := decide_eq_false c23
              clear c23
              by_cases c26 : 0 ≤ t238
              · rw [if_pos c26] at H
                have c26b0 := eq_true c26
                have c26b1 : decide (0 ≤ t238) = true := decide_eq_true c26
                clear c26
                by_cases c27 : t238 ≤ (t234.length : Int)
                · rw [if_pos c27] at H
                  have c27b0 := eq_true c27
                  have c27b1 : decide (t238 ≤ (t234.length : Int)) = true := decide_eq_true c27
                  clear c27
                  obtain ⟨y253, hy253⟩ : ∃ y_ : List Int, y_ = (t234.take (t238 : Int).toNat) := ⟨_, rfl⟩
                  replace H : ((bagnallkeep_sameBytes.f kj9 t245 y253).bind fun t258 => (if t258 = true then (some (t250 == t238)) else (some false))) = some r := by first | (rw [hy253]; with_reducible exact H) | (have H2_ := (Option.bind_some _ _).symm.trans H; rw [hy253]; with_reducible exact H2_) | (have H2_ := (Option.bind_some _ _).symm.trans H; with_reducible exact H2_) | with_reducible exact H | (rw [hy253]; exact H) | exact H
                  have Ny253 := Aside0.mk hy253
                  clear hy253
                  replace H := Option.bind_eq_some_iff.mp H
                  obtain ⟨t258, A280, H⟩ := H
                  replace H : (if t258 = true then (some (t250 == t238)) else (some false)) = some r := H
                  have A28 := Aside0.mk A280
                  clear A280
                  by_cases c29 : t258 = true
                  · subst c29
                    have H1 : (some (t250 == t238)) = some r := by rw [if_pos rfl] at H; exact H
                    clear H
                    have H := H1
                    clear H1
                    obtain rfl := Option.some.inj H
                    have q30 : (t238 : Int) ≤ ((t234.length : Int) : Int) := of_decide_eq_true (by first | (with_reducible assumption) | assumption)
                    obtain ⟨i030, hi030, _, hsz30, _⟩ := info_parts info5
                    have hroom30 : t234.length ≤ co14 := (Kd.R_reads' HO_6.out).2.1
                    have hC30 : Kd.F (Kd.int .u8) _ _ Ao14 t234.length t234 := (Kd.V_at (base := w.heap.size) (Kd.R_V HO_6.out)).2.2
                    have hcut30 := cut_to (P := Try.prog) 25 5 .i64 Try.underlying25 hi030 Ao14 t234.length co14 t238 (of_decide_eq_true (by first | (with_reducible assumption) | assumption)) q30 hroom30
                    have hr30 := Kd.F_take (m := (t238 : Int).toNat) hC30 (by omega)
                    have hy30 : y253.length = (t238 : Int).toNat := (by rw [Ny253.out, List.length_take]; omega)
                    rw [← Ny253.out] at hr30
                    rw [← hy30] at hcut30
                    have HO257 := Aside0.mk (show Kd.V (Kd.int .u8) 5 _ w.heap.size _ (.slice Ao14 y253.length co14) y253 from Kd.V_mk (by omega) hr30)
                    have HC257 := Aside0.mk (show y253.length ≤ co14 from by omega)
                    clear hr30 hC30 hroom30 hi030 hsz30
                    have KY30 := Aside0.mk hy30
                    clear hy30
                    replace q30 := eq_true q30
                    obtain ⟨Ao31, co31, eo31⟩ := Kd.R_slice HO_10.out
                    subst eo31
                    go_wp2_with (first | ((with_reducible refine gate_callee (f := 30) rfl ?_); refine goesL_ (some 65) rfl rfl Try.func30 (by kernel_rfl) rfl #[.slice Ao31 t245.length co31, .slice Ao14 y253.length co14] rfl (by (try simp only [List.map_toArray, List.map_cons, List.map_nil]); first | done | rfl | (simp only [List.length_drop, List.length_take]; rfl)) ?_; (with_reducible refine (bagnallkeep_sameBytes.calls kj9 _ _ t245 _ _ y253 true _ ?side1 ?side2 ?side3 ?side4 A28.out).mono ?_); (case side1 => repeat (first | exact (Kd.R_reads' HO_10.out).2.2 | (with_reducible refine Kd.C_alloc ?_ _) | (with_reducible refine Kd.C_drewN ?_ _) | (with_reducible refine Kd.C_drew ?_))); (case side2 => exact (Kd.R_reads' HO_10.out).2.1); (case side3 => repeat (first | exact (Kd.V_reads' HO257.out).2.2 | (with_reducible refine Kd.C_alloc ?_ _) | (with_reducible refine Kd.C_drewN ?_ _) | (with_reducible refine Kd.C_drew ?_))); (case side4 => exact (Kd.V_reads' HO257.out).2.1); rintro e w' ⟨rfl, ⟨nd, rfl⟩⟩; refine ⟨_, rfl, ?_⟩))
                    go_ret
                    exact ⟨by first | rfl | (simp [errW_none, errW_some] <;> rfl) | (simp [*, errW_none, errW_some] <;> rfl), by repeat (first | (with_reducible first | exact HB.out | apply below_alloc | apply pw_below_drewN | apply below_drew1) | exact HB.out)⟩
                  · replace c29 := Bool.eq_false_iff.mpr c29
                    subst c29
                    have H1 : (some false) = some r := by rw [if_neg (show ¬ (false = true) by decide)] at H; exact H
                    clear H
                    have H := H1
                    clear H1
                    obtain rfl := Option.some.inj H
                    have q32 : (t238 : Int) ≤ ((t234.length : Int) : Int) := of_decide_eq_true (by first | (with_reducible assumption) | assumption)
                    obtain ⟨i032, hi032, _, hsz32, _⟩ := info_parts info5
                    have hroom32 : t234.length ≤ co14 := (Kd.R_reads' HO_6.out).2.1
                    have hC32 : Kd.F (Kd.int .u8) _ _ Ao14 t234.length t234 := (Kd.V_at (base := w.heap.size) (Kd.R_V HO_6.out)).2.2
                    have hcut32 := cut_to (P := Try.prog) 25 5 .i64 Try.underlying25 hi032 Ao14 t234.length co14 t238 (of_decide_eq_true (by first | (with_reducible assumption) | assumption)) q32 hroom32
                    have hr32 := Kd.F_take (m := (t238 : Int).toNat) hC32 (by omega)
                    have hy32 : y253.length = (t238 : Int).toNat := (by rw [Ny253.out, List.length_take]; omega)
                    rw [← Ny253.out] at hr32
                    rw [← hy32] at hcut32
                    have HO257 := Aside0.mk (show Kd.V (Kd.int .u8) 5 _ w.heap.size _ (.slice Ao14 y253.length co14) y253 from Kd.V_mk (by omega) hr32)
                    have HC257 := Aside0.mk (show y253.length ≤ co14 from by omega)
                    clear hr32 hC32 hroom32 hi032 hsz32
                    have KY32 := Aside0.mk hy32
                    clear hy32
                    replace q32 := eq_true q32
                    obtain ⟨Ao33, co33, eo33⟩ := Kd.R_slice HO_10.out
                    subst eo33
                    go_wp2_with (first | ((with_reducible refine gate_callee (f := 30) rfl ?_); refine goesL_ (some 65) rfl rfl Try.func30 (by kernel_rfl) rfl #[.slice Ao33 t245.length co33, .slice Ao14 y253.length co14] rfl (by (try simp only [List.map_toArray, List.map_cons, List.map_nil]); first | done | rfl | (simp only [List.length_drop, List.length_take]; rfl)) ?_; (with_reducible refine (bagnallkeep_sameBytes.calls kj9 _ _ t245 _ _ y253 false _ ?side1 ?side2 ?side3 ?side4 A28.out).mono ?_); (case side1 => repeat (first | exact (Kd.R_reads' HO_10.out).2.2 | (with_reducible refine Kd.C_alloc ?_ _) | (with_reducible refine Kd.C_drewN ?_ _) | (with_reducible refine Kd.C_drew ?_))); (case side2 => exact (Kd.R_reads' HO_10.out).2.1); (case side3 => repeat (first | exact (Kd.V_reads' HO257.out).2.2 | (with_reducible refine Kd.C_alloc ?_ _) | (with_reducible refine Kd.C_drewN ?_ _) | (with_reducible refine Kd.C_drew ?_))); (case side4 => exact (Kd.V_reads' HO257.out).2.1); rintro e w' ⟨rfl, ⟨nd, rfl⟩⟩; refine ⟨_, rfl, ?_⟩))
                    go_ret
                    exact ⟨by first | rfl | (simp [errW_none, errW_some] <;> rfl) | (simp [*, errW_none, errW_some] <;> rfl), by repeat (first | (with_reducible first | exact HB.out | apply below_alloc | apply pw_below_drewN | apply below_drew1) | exact HB.out)⟩
                · rw [if_neg c27] at H
                  exact absurd H (by simp)
              · rw [if_neg c26] at H
                exact absurd H (by simp)
    · rw [if_neg c7] at H
      exact absurd H (by simp)
  · rw [if_neg c6] at H
    exact absurd H (by simp)

/-- THE ONE PURE STATEMENT of bagnallkeep_DiskTrim: yours. -/
def bagnallkeep_DiskTrim.Pure : Prop := ∀ (l0 : List Int) (a1 : Int), l0.length ≤ maxLen → l0.length * 8 ≤ 140737488351232 → (∀ x ∈ l0, (Lit.int .i64 x).wf = true) → (Lit.int .i64 a1).wf = true → ∃ k, bagnallkeep_DiskTrim.f k l0 a1 = some true
theorem bagnallkeep_DiskTrim.walk (P : bagnallkeep_DiskTrim.Pure) (a0 : Option Addr) (len0 cap0 : Nat) (z0 : List Int) (a1 : Int) (w : World) (w0 : (a0 = none ∧ len0 = 0 ∧ cap0 = 0 ∧ z0 = []) ∨ ∃ x, a0 = some x ∧ len0 ≤ cap0 ∧ cap0 ≤ maxLen ∧ z0.length = cap0 ∧ (∀ i, i < z0.length → w.cell? (x.add i) = some (.int .i64 (z0.getD i 0))) ∧ ∀ n ∈ z0, (Lit.int .i64 n).wf = true) (y0 : len0 * 8 ≤ 140737488351232) (w1 : (Lit.int .i64 a1).wf = true) :
    Calls Try.prog 8 #[.slice a0 len0 cap0, .int .i64 a1] w fun e w' => e = .returned (.bool true) ∧ Below w.heap.size w w' := by
  obtain ⟨l0, rfl, hr0, hm0, hw0, hc0⟩ := ReadsInt.ofRowC w0
  obtain ⟨k, h⟩ := P l0 a1 hm0 y0 hw0 w1
  refine (bagnallkeep_DiskTrim.calls k _ _ l0 a1 true w (Kd.C_of_reads (d := (0 : Int)) (h1 := fun _ => rfl) hr0) hc0 h).mono ?_
  rintro e w' ⟨rfl, hd⟩
  exact ⟨rfl, hd⟩

end Go.Proofs.Ytmfkgbncnaingaa.QDisk
