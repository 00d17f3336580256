/- Functions of the program as plain functions, and the walks that show it. Written by the session's own program pp.py. -/
import Derived.Test.YtolnkahidgobhaaQBasex0
import Derived.Test.YtolnkahidgobhaaQBasex1
import Derived.Test.YtolnkahidgobhaaQBasex3
namespace Go.Proofs.Ytolnkahidgobhaa.QBase
open Go.RowKit Go.Proofs.YtolnkahidgobhaaW.PrintWords Go.Proofs.YtolnkahidgobhaaW.PrintLast Go.Proofs.YtolnkahidgobhaaW.PrintMore
attribute [local go_sem] max2_int min2_int max_two min_two max_three min_three max_four min_four   -- for this text's walks alone
set_option linter.unusedVariables false
set_option linter.unusedSimpArgs false

/-! ### bagnallkeep_BaseSigns: function 5 -/
mutual
def bagnallkeep_BaseSigns.j0 : Nat → Int → List Int → ByteArray → Bool → Option (Bool)
  | 0, _, _, _, _ => none
  | k + 1, x1, x5, x6, x29 => if x29 = true then (some false) else (bagnallkeep_BaseSigns.l0 k x1 x5 x6 0)
def bagnallkeep_BaseSigns.l0 : Nat → Int → List Int → ByteArray → Int → Option (Bool)
  | 0, _, _, _, _ => none
  | k + 1, x1, x5, x6, x8 => if x8 < (x6.size : Int) then (if 0 ≤ x8 then (if (bt x6 x8) ≥ 65 then (if (bt x6 x8) ≤ 90 then (bagnallkeep_BaseSigns.l0 k x1 x5 x6 (wrap64 (x8 + 1))) else (if (bt x6 x8) ≥ 97 then (if (bt x6 x8) ≤ 122 then (bagnallkeep_BaseSigns.l0 k x1 x5 x6 (wrap64 (x8 + 1))) else (if (bt x6 x8) ≥ 48 then (if (bt x6 x8) ≤ 57 then (bagnallkeep_BaseSigns.l0 k x1 x5 x6 (wrap64 (x8 + 1))) else (if (bt x6 x8) = 43 then (bagnallkeep_BaseSigns.l0 k x1 x5 x6 (wrap64 (x8 + 1))) else (if ((bt x6 x8) = 47) then (bagnallkeep_BaseSigns.l0 k x1 x5 x6 (wrap64 (x8 + 1))) else (some false)))) else (if (bt x6 x8) = 43 then (bagnallkeep_BaseSigns.l0 k x1 x5 x6 (wrap64 (x8 + 1))) else (if ((bt x6 x8) = 47) then (bagnallkeep_BaseSigns.l0 k x1 x5 x6 (wrap64 (x8 + 1))) else (some false))))) else (if (bt x6 x8) ≥ 48 then (if (bt x6 x8) ≤ 57 then (bagnallkeep_BaseSigns.l0 k x1 x5 x6 (wrap64 (x8 + 1))) else (if (bt x6 x8) = 43 then (bagnallkeep_BaseSigns.l0 k x1 x5 x6 (wrap64 (x8 + 1))) else (if ((bt x6 x8) = 47) then (bagnallkeep_BaseSigns.l0 k x1 x5 x6 (wrap64 (x8 + 1))) else (some false)))) else (if (bt x6 x8) = 43 then (bagnallkeep_BaseSigns.l0 k x1 x5 x6 (wrap64 (x8 + 1))) else (if ((bt x6 x8) = 47) then (bagnallkeep_BaseSigns.l0 k x1 x5 x6 (wrap64 (x8 + 1))) else (some false)))))) else (if (bt x6 x8) ≥ 97 then (if (bt x6 x8) ≤ 122 then (bagnallkeep_BaseSigns.l0 k x1 x5 x6 (wrap64 (x8 + 1))) else (if (bt x6 x8) ≥ 48 then (if (bt x6 x8) ≤ 57 then (bagnallkeep_BaseSigns.l0 k x1 x5 x6 (wrap64 (x8 + 1))) else (if (bt x6 x8) = 43 then (bagnallkeep_BaseSigns.l0 k x1 x5 x6 (wrap64 (x8 + 1))) else (if ((bt x6 x8) = 47) then (bagnallkeep_BaseSigns.l0 k x1 x5 x6 (wrap64 (x8 + 1))) else (some false)))) else (if (bt x6 x8) = 43 then (bagnallkeep_BaseSigns.l0 k x1 x5 x6 (wrap64 (x8 + 1))) else (if ((bt x6 x8) = 47) then (bagnallkeep_BaseSigns.l0 k x1 x5 x6 (wrap64 (x8 + 1))) else (some false))))) else (if (bt x6 x8) ≥ 48 then (if (bt x6 x8) ≤ 57 then (bagnallkeep_BaseSigns.l0 k x1 x5 x6 (wrap64 (x8 + 1))) else (if (bt x6 x8) = 43 then (bagnallkeep_BaseSigns.l0 k x1 x5 x6 (wrap64 (x8 + 1))) else (if ((bt x6 x8) = 47) then (bagnallkeep_BaseSigns.l0 k x1 x5 x6 (wrap64 (x8 + 1))) else (some false)))) else (if (bt x6 x8) = 43 then (bagnallkeep_BaseSigns.l0 k x1 x5 x6 (wrap64 (x8 + 1))) else (if ((bt x6 x8) = 47) then (bagnallkeep_BaseSigns.l0 k x1 x5 x6 (wrap64 (x8 + 1))) else (some false)))))) else (none)) else ((bagnallkeep_Picked.f x1 (wrap64 ((wrap64 ((x5.length : Int) / 3)) + 1))).bind fun t135 => (if 0 ≤ (wrap64 (3 * t135)) then (if (wrap64 (3 * t135)) ≤ (x5.length : Int) then (if ([] : List Int).length + (x5.take ((wrap64 (3 * t135)) : Int).toNat).length < 140737488355328 then ((base_Text.f (([] : List Int) ++ (x5.take ((wrap64 (3 * t135)) : Int).toNat))).bind fun bt140 => (if bt140.2 = 0 then (if 0 ≤ (wrap64 (4 * t135)) then (if (wrap64 (4 * t135)) ≤ (x6.size : Int) then (some (bt140.1.toList == (x6.extract 0 ((wrap64 (4 * t135)) : Int).toNat).toList)) else (none)) else (none)) else (some false))) else (none)) else (none)) else (none)))
end
def bagnallkeep_BaseSigns.f (k : Nat) (l0 : List Int) (a1 : Int) : Option (Bool) := if 0 ≤ (mn (l0.length : Int) 200) then (if (mn (l0.length : Int) 200) ≤ (l0.length : Int) then (if ([] : List Int).length + (l0.take ((mn (l0.length : Int) 200) : Int).toNat).length < 140737488355328 then ((base_Text.f (([] : List Int) ++ (l0.take ((mn (l0.length : Int) 200) : Int).toNat))).bind fun bt132 => (if bt132.2 = 0 then ((bagnallkeep_baseSure.f).bind fun t134 => (bagnallkeep_BaseSigns.j0 k a1 (l0.take ((mn (l0.length : Int) 200) : Int).toNat) bt132.1 (!t134))) else (bagnallkeep_BaseSigns.j0 k a1 (l0.take ((mn (l0.length : Int) 200) : Int).toNat) bt132.1 true))) else (none)) else (none)) else (none)
theorem bagnallkeep_BaseSigns.mono_l : ∀ k, (∀ y0 y1 y2 y3, LeO (bagnallkeep_BaseSigns.j0 k y0 y1 y2 y3) (bagnallkeep_BaseSigns.j0 (k + 1) y0 y1 y2 y3)) ∧ (∀ y0 y1 y2 y3, LeO (bagnallkeep_BaseSigns.l0 k y0 y1 y2 y3) (bagnallkeep_BaseSigns.l0 (k + 1) y0 y1 y2 y3))
  | 0 => ⟨fun _ _ _ _ r h => by simp [bagnallkeep_BaseSigns.j0] at h, fun _ _ _ _ r h => by simp [bagnallkeep_BaseSigns.l0] at h⟩
  | k + 1 => by
    obtain ⟨ih0, ih1⟩ := bagnallkeep_BaseSigns.mono_l k
    refine ⟨?_, ?_⟩
    · intro y0 y1 y2 y3
      unfold bagnallkeep_BaseSigns.j0
      repeat' first
      | (with_reducible exact ih0 _ _ _ _)
      | (with_reducible exact ih1 _ _ _ _)
      | (with_reducible exact LeO.refl _)
      | (with_reducible exact LeO.none _)
      | (with_reducible refine LeO.ite ?_ ?_)
      | (with_reducible refine LeO.bind ?_ (fun _ => ?_))
      | exact ih0 _ _ _ _
      | exact ih1 _ _ _ _
      | exact LeO.none _
      | refine LeO.ite ?_ ?_
      | refine LeO.bind ?_ (fun _ => ?_)
    · intro y0 y1 y2 y3
      unfold bagnallkeep_BaseSigns.l0
      repeat' first
      | (with_reducible exact ih0 _ _ _ _)
      | (with_reducible exact ih1 _ _ _ _)
      | (with_reducible exact LeO.refl _)
      | (with_reducible exact LeO.none _)
      | (with_reducible refine LeO.ite ?_ ?_)
      | (with_reducible refine LeO.bind ?_ (fun _ => ?_))
      | exact ih0 _ _ _ _
      | exact ih1 _ _ _ _
      | exact LeO.none _
      | refine LeO.ite ?_ ?_
      | refine LeO.bind ?_ (fun _ => ?_)
theorem bagnallkeep_BaseSigns.mono : ∀ a0 a1 k, LeO (bagnallkeep_BaseSigns.f k a0 a1) (bagnallkeep_BaseSigns.f (k + 1) a0 a1) := by
  intro a0 a1 k
  obtain ⟨ih0, ih1⟩ := bagnallkeep_BaseSigns.mono_l k
  unfold bagnallkeep_BaseSigns.f
  repeat' first
      | (with_reducible exact ih0 _ _ _ _)
      | (with_reducible exact ih1 _ _ _ _)
      | (with_reducible exact LeO.refl _)
      | (with_reducible exact LeO.none _)
      | (with_reducible refine LeO.ite ?_ ?_)
      | (with_reducible refine LeO.bind ?_ (fun _ => ?_))
      | exact ih0 _ _ _ _
      | exact ih1 _ _ _ _
      | exact LeO.none _
      | refine LeO.ite ?_ ?_
      | refine LeO.bind ?_ (fun _ => ?_)
set_option maxHeartbeats 8000000 in
set_option maxRecDepth 100000 in
theorem bagnallkeep_BaseSigns.calls (k : Nat) (A0 : Option Addr) (c0 : Nat) (l0 : List Int) (a1 : Int) (r : Bool) (w : World) (hr0 : Kd.C (Kd.int .u8) w A0 l0.length l0) (hc0 : l0.length ≤ c0) (h : bagnallkeep_BaseSigns.f k l0 a1 = some r) :
    Calls Try.prog 5 #[.slice A0 l0.length c0, .int .i64 a1] w fun e w' => e = .returned (.bool r) ∧ Below w.heap.size w w' := by
  have HR0 := Aside0.mk hr0
  have HC0 := Aside0.mk hc0
  clear hr0 hc0
  have HB := Aside0.mk (Below.refl w.heap.size w)
  have H : (if 0 ≤ (mn (l0.length : Int) 200) then (if (mn (l0.length : Int) 200) ≤ (l0.length : Int) then (if ([] : List Int).length + (l0.take ((mn (l0.length : Int) 200) : Int).toNat).length < 140737488355328 then ((base_Text.f (([] : List Int) ++ (l0.take ((mn (l0.length : Int) 200) : Int).toNat))).bind fun bt132 => (if bt132.2 = 0 then ((bagnallkeep_baseSure.f).bind fun t134 => (bagnallkeep_BaseSigns.j0 k a1 (l0.take ((mn (l0.length : Int) 200) : Int).toNat) bt132.1 (!t134))) else (bagnallkeep_BaseSigns.j0 k a1 (l0.take ((mn (l0.length : Int) 200) : Int).toNat) bt132.1 true))) else (none)) else (none)) else (none)) = some r := h
  clear h
  obtain ⟨ji3, hji3⟩ : ∃ j_ : Int, (mn (l0.length : Int) 200) = j_ := ⟨_, rfl⟩
  replace H : (if 0 ≤ (ji3) then (if (ji3) ≤ (l0.length : Int) then (if ([] : List Int).length + (l0.take ((ji3) : Int).toNat).length < 140737488355328 then ((base_Text.f (([] : List Int) ++ (l0.take ((ji3) : Int).toNat))).bind fun bt132 => (if bt132.2 = 0 then ((bagnallkeep_baseSure.f).bind fun t134 => (bagnallkeep_BaseSigns.j0 k a1 (l0.take ((ji3) : Int).toNat) bt132.1 (!t134))) else (bagnallkeep_BaseSigns.j0 k a1 (l0.take ((ji3) : Int).toNat) bt132.1 true))) else (none)) else (none)) else (none)) = some r := by first | (rw [hji3] at H; exact H) | (simp only [hji3] at H ⊢; exact H)
  (try (have hji3h : ji3 ≤ 200 := by (rw [← hji3]; unfold mn; (repeat' split) <;> omega)))
  (try (have hji3g : ji3 ≤ 64 := by omega))
  (try (have hji3l : 0 ≤ ji3 := by (rw [← hji3]; unfold mn; (repeat' split) <;> omega)))
  (try (have hji3m : 0 ≤ ji3 := by omega))
  have hji3_ : (if 200 < (l0.length : Int) then 200 else (l0.length : Int)) = ji3 := hji3
  by_cases c4 : 0 ≤ (ji3)
  · rw [if_pos c4] at H
    have c4b0 := eq_true c4
    have c4b1 : decide (0 ≤ (ji3)) = true := decide_eq_true c4
    clear c4
    by_cases c5 : (ji3) ≤ (l0.length : Int)
    · rw [if_pos c5] at H
      have c5b0 := eq_true c5
      have c5b1 : decide ((ji3) ≤ (l0.length : Int)) = true := decide_eq_true c5
      clear c5
      by_cases c6 : ([] : List Int).length + (l0.take ((ji3) : Int).toNat).length < 140737488355328
      · rw [if_pos c6] at H
        have LMc6 := Aside0.mk c6
        clear c6
        obtain ⟨y129, hy129⟩ : ∃ y_ : List Int, y_ = (([] : List Int) ++ (l0.take ((ji3) : Int).toNat)) := ⟨_, rfl⟩
        replace H : ((base_Text.f y129).bind fun bt132 => (if bt132.2 = 0 then ((bagnallkeep_baseSure.f).bind fun t134 => (bagnallkeep_BaseSigns.j0 k a1 (l0.take ((ji3) : Int).toNat) bt132.1 (!t134))) else (bagnallkeep_BaseSigns.j0 k a1 (l0.take ((ji3) : Int).toNat) bt132.1 true))) = some r := by first | (rw [hy129]; with_reducible exact H) | (have H2_ := (Option.bind_some _ _).symm.trans H; rw [hy129]; with_reducible exact H2_) | (have H2_ := (Option.bind_some _ _).symm.trans H; with_reducible exact H2_) | with_reducible exact H | (rw [hy129]; exact H) | exact H
        have Ny129 := Aside0.mk hy129
        clear hy129
        replace H := Option.bind_eq_some_iff.mp H
        obtain ⟨⟨t132, t133⟩, A70, H⟩ := H
        replace H : (if t133 = 0 then ((bagnallkeep_baseSure.f).bind fun t134 => (bagnallkeep_BaseSigns.j0 k a1 (l0.take ((ji3) : Int).toNat) t132 (!t134))) else (bagnallkeep_BaseSigns.j0 k a1 (l0.take ((ji3) : Int).toNat) t132 true)) = some r := H
        have A7 := Aside0.mk A70
        clear A70
        have HC8 := Aside0.mk H
        clear H
        obtain ⟨i09, hi09, _, hsz9, _⟩ := info_parts info5
        obtain ⟨hcut9, hA9, hC9⟩ := print_take_of (P := Try.prog) (Value.int .u8) 0 25 5 .i64 Try.underlying25 hi09 hsz9 A0 c0 l0 (ji3) (of_decide_eq_true (by first | (with_reducible assumption) | assumption)) (of_decide_eq_true (by first | (with_reducible assumption) | assumption)) HC0.out
        have HR128 := Aside0.mk (Kd.C_of_reads (h1 := fun _ => rfl) (hA9 _ (Kd.reads_of_C HR0.out)))
        have HC128 := Aside0.mk hC9
        clear hA9 hC9 hi09 hsz9
        go_enter Try.func5, Try.ntmps5
        go_upto_region 3 with (first | ((with_reducible refine gate_builtin (b := .append) (xs := #[.const _, .tmp 19]) rfl ?_); at_builtin; refine Kd.R_append_rows (Kd.int .u8) (w0 := w) w.heap.size rfl (.const (.slice none 0 0)) (.tmp 19) 25 5 (.int .u8 0) 1 rfl Try.underlying25 info5 rfl (by decide) (by omega) (.slice none 0 0) ([] : List Int) (l0.take ((ji3) : Int).toNat) _ _ _ (fun _ => True) (fun _ => False) rfl rfl ?aO ?aR (fun _ _ h => h) (fun _ h => h.elim) ?aF ?aB ?aS ?aL ?_; (case aR => first | (refine Eq.subst (motive := fun m_ => ReadsRow _ _ _ _ m_ _) (show (l0.take ((ji3) : Int).toNat).length = (ji3).toNat from (by rw [List.length_take]; have h_ : ((ji3) : Int) ≤ (l0.length : Int) := of_decide_eq_true (by first | (with_reducible assumption) | assumption); omega)) ?_; repeat (first | exact HR128.out | (with_reducible refine Kd.C_alloc ?_ _) | (with_reducible refine Kd.C_drewN ?_ _) | (with_reducible refine Kd.C_drew ?_)); done) | (rw [← show (l0.take ((ji3) : Int).toNat).length = (ji3).toNat from (by rw [List.length_take]; have h_ : ((ji3) : Int) ≤ (l0.length : Int) := of_decide_eq_true (by first | (with_reducible assumption) | assumption); omega)]; repeat (first | exact HR128.out | (with_reducible refine Kd.C_alloc ?_ _) | (with_reducible refine Kd.C_drewN ?_ _) | (with_reducible refine Kd.C_drew ?_))) | (repeat (first | exact HR128.out | (with_reducible refine Kd.C_alloc ?_ _) | (with_reducible refine Kd.C_drewN ?_ _) | (with_reducible refine Kd.C_drew ?_)))); (case aB => exact (by repeat (first | (with_reducible first | exact HB.out | apply below_alloc | apply pw_below_drewN | apply below_drew1) | exact HB.out))); (case aF => exact (fun _ _ => trivial)); (case aO => exact ((Kd.R_nil _ _ _ _ (fun _ => True)))); (case aS => exact (below_size (by repeat (first | (with_reducible first | exact HB.out | apply below_alloc | apply pw_below_drewN | apply below_drew1) | exact HB.out)))); (case aL => have := LMc6.out; have hlx_ := (show (l0.take ((ji3) : Int).toNat).length = (ji3).toNat from (by rw [List.length_take]; have h_ : ((ji3) : Int) ≤ (l0.length : Int) := of_decide_eq_true (by first | (with_reducible assumption) | assumption); omega)); omega); intro v130 w10 ho hb hg hat; rw [← Ny129.out] at ho; have n0_ := Aside0.mk (hb); have n1_ := Aside0.mk (ho); clear HB; have HB := n0_; have HO131 := n1_; clear n0_ n1_; clear ho hb hg hat; obtain ⟨Ao11, co11, eo11⟩ := Kd.R_slice HO131.out; subst eo11) | ((with_reducible refine gate_callee (f := 14) rfl ?_); refine goesL_ (some 21) rfl rfl Try.func14 (by kernel_rfl) rfl #[.slice Ao11 y129.length co11] rfl (by (try simp only [List.map_toArray, List.map_cons, List.map_nil]); first | done | rfl | (simp only [List.length_drop, List.length_take]; rfl)) ?_; (with_reducible refine (base_Text.calls _ _ y129 t132 t133 _ ?side1 ?side2 A7.out).mono ?_); (case side1 => repeat (first | exact (Kd.R_reads' HO131.out).2.2 | (with_reducible refine Kd.C_alloc ?_ _) | (with_reducible refine Kd.C_drewN ?_ _) | (with_reducible refine Kd.C_drew ?_))); (case side2 => exact (Kd.R_reads' HO131.out).2.1); rintro e w12 ⟨rfl, hb⟩; refine ⟨_, rfl, ?_⟩; have n0_ := Aside0.mk (Kd.R_below (by (with_reducible repeat (first | apply Kd.R_alloc | apply Kd.R_drewN | apply Kd.R_drew)); exact HO131.out) hb); have n1_ := Aside0.mk (below_step (by repeat (first | (with_reducible first | exact HB.out | apply below_alloc | apply pw_below_drewN | apply below_drew1) | exact HB.out)) hb); clear HO131; clear HB; have HO131 := n0_; have HB := n1_; clear n0_ n1_; (try clear hb); (try clear hb2); (try clear hk); (try clear hi)))
        (try simp only [Act.put, List.setIfInBounds_toArray, List.set_cons_zero, List.set_cons_succ])
        go_cut [29] (fun v29 wc => ∃ (kq : Nat) (x29_7 : Bool), v29 = .bool x29_7 ∧ Aside0 (bagnallkeep_BaseSigns.j0 kq a1 (l0.take ((ji3) : Int).toNat) t132 x29_7 = some r) ∧ Aside0 (kq ≤ k) ∧ Aside0 (Below w.heap.size w wc))
        case first =>
          have H := HC8.out
          clear HC8
          by_cases c13 : t133 = 0
          · rw [if_pos c13] at H
            have c13b0 : (t133 == 0) = true := beq_iff_eq.mpr c13
            have c13b1 : (t133 != 0) = false := bne_eq_false_iff_eq.mpr c13
            clear c13
            (first | rw [c13b0] | (simp only [i64_w, i32_w]; rw [c13b0]) | skip)
            replace H := Option.bind_eq_some_iff.mp H
            obtain ⟨t134, A140, H⟩ := H
            replace H : (bagnallkeep_BaseSigns.j0 k a1 (l0.take ((ji3) : Int).toNat) t132 (!t134)) = some r := H
            have A14 := Aside0.mk A140
            clear A140
            have H' := Aside0.mk H
            clear H
            go_wp2_with (first | (go_at_call 15; (with_reducible refine (bagnallkeep_baseSure.calls  t134 _ A14.out).mono ?_); rintro e w15 ⟨rfl, hb⟩; have n0_ := Aside0.mk (Kd.R_below (by (with_reducible repeat (first | apply Kd.R_alloc | apply Kd.R_drewN | apply Kd.R_drew)); exact HO131.out) hb); have n1_ := Aside0.mk (below_step (by repeat (first | (with_reducible first | exact HB.out | apply below_alloc | apply pw_below_drewN | apply below_drew1) | exact HB.out)) hb); clear HO131; clear HB; have HO131 := n0_; have HB := n1_; clear n0_ n1_; (try clear hb); (try clear hb2); (try clear hk); (try clear hi)))
            go_meet
            case rel => exact ⟨_, (!t134), (by first | rfl | (simp; done) | (simp [*]; done)), H', ⟨by first | omega | exact Nat.le_refl _⟩, ⟨by repeat (first | (with_reducible first | exact HB.out | apply below_alloc | apply pw_below_drewN | apply below_drew1) | exact HB.out)⟩⟩
          · rw [if_neg c13] at H
            have c13b0 : (t133 == 0) = false := beq_eq_false_iff_ne.mpr c13
            have c13b1 : (t133 != 0) = true := bne_iff_ne.mpr c13
            (first | rw [c13b0] | (simp only [i64_w, i32_w]; rw [c13b0]) | skip)
            have H' := Aside0.mk H
            clear H
            go_wp2
            go_meet
            case rel => exact ⟨_, (true), (by first | rfl | (simp; done) | (simp [*]; done)), H', ⟨by first | omega | exact Nat.le_refl _⟩, ⟨by repeat (first | (with_reducible first | exact HB.out | apply below_alloc | apply pw_below_drewN | apply below_drew1) | exact HB.out)⟩⟩
        case rest =>
          clear HC8
          try clear c1
          try clear p2
          try clear c4
          try clear c4b0
          try clear c4b1
          try clear c5
          try clear c5b0
          try clear c5b1
          try clear c6
          try clear c13
          try clear c13b0
          try clear c13b1
          try clear c14
          obtain ⟨kq, x29_7, rfl, HA, HJ7, HB⟩ := hcut
          cases kq with
          | zero => exact absurd HA.out (by simp [bagnallkeep_BaseSigns.j0])
          | succ kj7 =>
            have H := HA.out
            clear HA
            simp only [bagnallkeep_BaseSigns.j0] at H
            by_cases c16 : x29_7 = true
            · subst c16
              have H1 : (some false) = some r := by rw [if_pos rfl] at H; exact H
              clear H
              have H := H1
              clear H1
              obtain rfl := Option.some.inj H
              go_wp2
              go_ret
              exact ⟨by first | rfl | (simp [errW_none, errW_some] <;> rfl) | (simp only [← hji3]; first | rfl | (simp [errW_none, errW_some] <;> rfl)) | (simp [*, errW_none, errW_some] <;> rfl), by repeat (first | (with_reducible first | exact HB.out | apply below_alloc | apply pw_below_drewN | apply below_drew1) | exact HB.out)⟩
            · replace c16 := Bool.eq_false_iff.mpr c16
              subst c16
              have H1 : (bagnallkeep_BaseSigns.l0 kj7 a1 (l0.take ((ji3) : Int).toNat) t132 0) = some r := by rw [if_neg (show ¬ (false = true) by decide)] at H; exact H
              clear H
              have H := H1
              clear H1
              have H' := Aside0.mk H
              clear H
              go_wp2
              go_loopg [8] kj7 (fun kq v8 w' => ∃ (x8_2 : Int), v8 = .int .i64 x8_2 ∧ Aside0 (bagnallkeep_BaseSigns.l0 kq a1 (l0.take ((ji3) : Int).toNat) t132 x8_2 = some r) ∧ Aside0 (kq ≤ kj7) ∧ Aside0 (Below w.heap.size w w'))
              case atStart => exact ⟨(0), (by first | rfl | (simp; done) | (simp [*]; done)), H', ⟨Nat.le_refl _⟩, ⟨by repeat (first | (with_reducible first | exact HB.out | apply below_alloc | apply pw_below_drewN | apply below_drew1) | exact HB.out)⟩⟩
              case round =>
                clear H'
                try clear c1
                try clear p2
                try clear c4
                try clear c4b0
                try clear c4b1
                try clear c5
                try clear c5b0
                try clear c5b1
                try clear c6
                try clear c13
                try clear c13b0
                try clear c13b1
                try clear c14
                try clear c16
                try clear p2
                obtain ⟨x8_2, rfl, HA, HK2, HB⟩ := hrel
                cases gk with
                | zero => exact absurd HA.out (by simp [bagnallkeep_BaseSigns.l0])
                | succ k2 =>
                  have H := HA.out
                  clear HA
                  simp only [bagnallkeep_BaseSigns.l0] at H
                  by_cases c17 : x8_2 < (t132.size : Int)
                  · rw [if_pos c17] at H
                    have c17b0 : decide (x8_2 < (t132.size : Int)) = true := decide_eq_true c17
                    clear c17
                    by_cases c18 : 0 ≤ x8_2
                    · rw [if_pos c18] at H
                      have c18b0 : decide (0 ≤ x8_2) = true := decide_eq_true c18
                      clear c18
                      by_cases c20 : (bt t132 x8_2) ≥ 65
                      · rw [if_pos c20] at H
                        have c20b0 : decide (65 ≤ (bt t132 x8_2)) = true := decide_eq_true c20
                        clear c20
                        by_cases c21 : (bt t132 x8_2) ≤ 90
                        · rw [if_pos c21] at H
                          have c21b0 : decide ((bt t132 x8_2) ≤ 90) = true := decide_eq_true c21
                          clear c21
                          have H' := Aside0.mk H
                          clear H
                          have p19 : 0 ≤ (x8_2 : Int) := of_decide_eq_true (by first | (with_reducible assumption) | assumption)
                          have q19 : x8_2 < (t132.size : Int) := of_decide_eq_true (by first | (with_reducible assumption) | assumption)
                          have hx19 := bt_at t132 x8_2
                          replace p19 := eq_true p19
                          replace q19 := eq_true q19
                          go_wp2
                          go_roundg k2
                          case measure => have := HJ7.out; have := HK2.out; omega
                          case rel => exact ⟨(wrap64 (x8_2 + 1)), (by first | rfl | (simp; done) | (simp [*]; done)), H', ⟨by have := HJ7.out; have := HK2.out; omega⟩, ⟨by repeat (first | (with_reducible first | exact HB.out | apply below_alloc | apply pw_below_drewN | apply below_drew1) | exact HB.out)⟩⟩
                        · rw [if_neg c21] at H
                          have c21b0 : decide ((bt t132 x8_2) ≤ 90) = false := decide_eq_false c21
                          clear c21
                          by_cases c22 : (bt t132 x8_2) ≥ 97
                          · rw [if_pos c22] at H
                            have c22b0 : decide (97 ≤ (bt t132 x8_2)) = true := decide_eq_true c22
                            clear c22
                            by_cases c23 : (bt t132 x8_2) ≤ 122
                            · rw [if_pos c23] at H
                              have c23b0 : decide ((bt t132 x8_2) ≤ 122) = true := decide_eq_true c23
                              clear c23
                              have H' := Aside0.mk H
                              clear H
                              have p19 : 0 ≤ (x8_2 : Int) := of_decide_eq_true (by first | (with_reducible assumption) | assumption)
                              have q19 : x8_2 < (t132.size : Int) := of_decide_eq_true (by first | (with_reducible assumption) | assumption)
                              have hx19 := bt_at t132 x8_2
                              replace p19 := eq_true p19
                              replace q19 := eq_true q19
                              go_wp2
                              go_roundg k2
                              case measure => have := HJ7.out; have := HK2.out; omega
                              case rel => exact ⟨(wrap64 (x8_2 + 1)), (by first | rfl | (simp; done) | (simp [*]; done)), H', ⟨by have := HJ7.out; have := HK2.out; omega⟩, ⟨by repeat (first | (with_reducible first | exact HB.out | apply below_alloc | apply pw_below_drewN | apply below_drew1) | exact HB.out)⟩⟩
                            · rw [if_neg c23] at H
                              have c23b0 : decide ((bt t132 x8_2) ≤ 122) = false := decide_eq_false c23
                              clear c23
                              by_cases c24 : (bt t132 x8_2) ≥ 48
                              · rw [if_pos c24] at H
                                have c24b0 : decide (48 ≤ (bt t132 x8_2)) = true := decide_eq_true c24
                                clear c24
                                by_cases c25 : (bt t132 x8_2) ≤ 57
                                · rw [if_pos c25] at H
                                  have c25b0 : decide ((bt t132 x8_2) ≤ 57) = true := decide_eq_true c25
                                  clear c25
                                  have H' := Aside0.mk H
                                  clear H
                                  have p19 : 0 ≤ (x8_2 : Int) := of_decide_eq_true (by first | (with_reducible assumption) | assumption)
                                  have q19 : x8_2 < (t132.size : Int) := of_decide_eq_true (by first | (with_reducible assumption) | assumption)
                                  have hx19 := bt_at t132 x8_2
                                  replace p19 := eq_true p19
                                  replace q19 := eq_true q19
                                  go_wp2
                                  go_roundg k2
                                  case measure => have := HJ7.out; have := HK2.out; omega
                                  case rel => exact ⟨(wrap64 (x8_2 + 1)), (by first | rfl | (simp; done) | (simp [*]; done)), H', ⟨by have := HJ7.out; have := HK2.out; omega⟩, ⟨by repeat (first | (with_reducible first | exact HB.out | apply below_alloc | apply pw_below_drewN | apply below_drew1) | exact HB.out)⟩⟩
                                · rw [if_neg c25] at H
                                  have c25b0 : decide ((bt t132 x8_2) ≤ 57) = false := decide_eq_false c25
                                  clear c25
                                  by_cases c26 : (bt t132 x8_2) = 43
                                  · rw [if_pos c26] at H
                                    have c26b0 : ((bt t132 x8_2) == 43) = true := beq_iff_eq.mpr c26
                                    have c26b1 : ((bt t132 x8_2) != 43) = false := bne_eq_false_iff_eq.mpr c26
                                    clear c26
                                    have H' := Aside0.mk H
                                    clear H
                                    have p19 : 0 ≤ (x8_2 : Int) := of_decide_eq_true (by first | (with_reducible assumption) | assumption)
                                    have q19 : x8_2 < (t132.size : Int) := of_decide_eq_true (by first | (with_reducible assumption) | assumption)
                                    have hx19 := bt_at t132 x8_2
                                    replace p19 := eq_true p19
                                    replace q19 := eq_true q19
                                    go_wp2
                                    go_roundg k2
                                    case measure => have := HJ7.out; have := HK2.out; omega
                                    case rel => exact ⟨(wrap64 (x8_2 + 1)), (by first | rfl | (simp; done) | (simp [*]; done)), H', ⟨by have := HJ7.out; have := HK2.out; omega⟩, ⟨by repeat (first | (with_reducible first | exact HB.out | apply below_alloc | apply pw_below_drewN | apply below_drew1) | exact HB.out)⟩⟩
                                  · rw [if_neg c26] at H
                                    have c26b0 : ((bt t132 x8_2) == 43) = false := beq_eq_false_iff_ne.mpr c26
                                    have c26b1 : ((bt t132 x8_2) != 43) = true := bne_iff_ne.mpr c26
                                    by_cases c27 : ((bt t132 x8_2) = 47)
                                    · rw [if_pos c27] at H
                                      have c27b0 : ((bt t132 x8_2) == 47) = true := beq_iff_eq.mpr c27
                                      have c27b1 : ((bt t132 x8_2) != 47) = false := bne_eq_false_iff_eq.mpr c27
                                      clear c27
                                      have H' := Aside0.mk H
                                      clear H
                                      have p19 : 0 ≤ (x8_2 : Int) := of_decide_eq_true (by first | (with_reducible assumption) | assumption)
                                      have q19 : x8_2 < (t132.size : Int) := of_decide_eq_true (by first | (with_reducible assumption) | assumption)
                                      have hx19 := bt_at t132 x8_2
                                      replace p19 := eq_true p19
                                      replace q19 := eq_true q19
                                      go_wp2
                                      go_roundg k2
                                      case measure => have := HJ7.out; have := HK2.out; omega
                                      case rel => exact ⟨(wrap64 (x8_2 + 1)), (by first | rfl | (simp; done) | (simp [*]; done)), H', ⟨by have := HJ7.out; have := HK2.out; omega⟩, ⟨by repeat (first | (with_reducible first | exact HB.out | apply below_alloc | apply pw_below_drewN | apply below_drew1) | exact HB.out)⟩⟩
                                    · rw [if_neg c27] at H
                                      have c27b0 : ((bt t132 x8_2) == 47) = false := beq_eq_false_iff_ne.mpr c27
                                      have c27b1 : ((bt t132 x8_2) != 47) = true := bne_iff_ne.mpr c27
                                      obtain rfl := Option.some.inj H
                                      have p19 : 0 ≤ (x8_2 : Int) := of_decide_eq_true (by first | (with_reducible assumption) | assumption)
                                      have q19 : x8_2 < (t132.size : Int) := of_decide_eq_true (by first | (with_reducible assumption) | assumption)
                                      have hx19 := bt_at t132 x8_2
                                      replace p19 := eq_true p19
                                      replace q19 := eq_true q19
                                      go_wp2
                                      go_ret
                                      exact ⟨by first | rfl | (simp [errW_none, errW_some] <;> rfl) | (simp only [← hji3]; first | rfl | (simp [errW_none, errW_some] <;> rfl)) | (simp [*, errW_none, errW_some] <;> rfl), by repeat (first | (with_reducible first | exact HB.out | apply below_alloc | apply pw_below_drewN | apply below_drew1) | exact HB.out)⟩
                              · rw [if_neg c24] at H
                                have c24b0 : decide (48 ≤ (bt t132 x8_2)) = false := decide_eq_false c24
                                clear c24
                                by_cases c28 : (bt t132 x8_2) = 43
                                · rw [if_pos c28] at H
                                  have c28b0 : ((bt t132 x8_2) == 43) = true := beq_iff_eq.mpr c28
                                  have c28b1 : ((bt t132 x8_2) != 43) = false := bne_eq_false_iff_eq.mpr c28
                                  clear c28
                                  have H' := Aside0.mk H
                                  clear H
                                  have p19 : 0 ≤ (x8_2 : Int) := of_decide_eq_true (by first | (with_reducible assumption) | assumption)
                                  have q19 : x8_2 < (t132.size : Int) := of_decide_eq_true (by first | (with_reducible assumption) | assumption)
                                  have hx19 := bt_at t132 x8_2
                                  replace p19 := eq_true p19
                                  replace q19 := eq_true q19
                                  go_wp2
                                  go_roundg k2
                                  case measure => have := HJ7.out; have := HK2.out; omega
                                  case rel => exact ⟨(wrap64 (x8_2 + 1)), (by first | rfl | (simp; done) | (simp [*]; done)), H', ⟨by have := HJ7.out; have := HK2.out; omega⟩, ⟨by repeat (first | (with_reducible first | exact HB.out | apply below_alloc | apply pw_below_drewN | apply below_drew1) | exact HB.out)⟩⟩
                                · rw [if_neg c28] at H
                                  have c28b0 : ((bt t132 x8_2) == 43) = false := beq_eq_false_iff_ne.mpr c28
                                  have c28b1 : ((bt t132 x8_2) != 43) = true := bne_iff_ne.mpr c28
                                  by_cases c29 : ((bt t132 x8_2) = 47)
                                  · rw [if_pos c29] at H
                                    have c29b0 : ((bt t132 x8_2) == 47) = true := beq_iff_eq.mpr c29
                                    have c29b1 : ((bt t132 x8_2) != 47) = false := bne_eq_false_iff_eq.mpr c29
                                    clear c29
                                    have H' := Aside0.mk H
                                    clear H
                                    have p19 : 0 ≤ (x8_2 : Int) := of_decide_eq_true (by first | (with_reducible assumption) | assumption)
                                    have q19 : x8_2 < (t132.size : Int) := of_decide_eq_true (by first | (with_reducible assumption) | assumption)
                                    have hx19 := bt_at t132 x8_2
                                    replace p19 := eq_true p19
                                    replace q19 := eq_true q19
                                    go_wp2
                                    go_roundg k2
                                    case measure => have := HJ7.out; have := HK2.out; omega
                                    case rel => exact ⟨(wrap64 (x8_2 + 1)), (by first | rfl | (simp; done) | (simp [*]; done)), H', ⟨by have := HJ7.out; have := HK2.out; omega⟩, ⟨by repeat (first | (with_reducible first | exact HB.out | apply below_alloc | apply pw_below_drewN | apply below_drew1) | exact HB.out)⟩⟩
                                  · rw [if_neg c29] at H
                                    have c29b0 : ((bt t132 x8_2) == 47) = false := beq_eq_false_iff_ne.mpr c29
                                    have c29b1 : ((bt t132 x8_2) != 47) = true := bne_iff_ne.mpr c29
                                    obtain rfl := Option.some.inj H
                                    have p19 : 0 ≤ (x8_2 : Int) := of_decide_eq_true (by first | (with_reducible assumption) | assumption)
                                    have q19 : x8_2 < (t132.size : Int) := of_decide_eq_true (by first | (with_reducible assumption) | assumption)
                                    have hx19 := bt_at t132 x8_2
                                    replace p19 := eq_true p19
                                    replace q19 := eq_true q19
                                    go_wp2
                                    go_ret
                                    exact ⟨by first | rfl | (simp [errW_none, errW_some] <;> rfl) | (simp only [← hji3]; first | rfl | (simp [errW_none, errW_some] <;> rfl)) | (simp [*, errW_none, errW_some] <;> rfl), by repeat (first | (with_reducible first | exact HB.out | apply below_alloc | apply pw_below_drewN | apply below_drew1) | exact HB.out)⟩
                          · rw [if_neg c22] at H
                            have c22b0 : decide (97 ≤ (bt t132 x8_2)) = false := decide_eq_false c22
                            clear c22
                            by_cases c30 : (bt t132 x8_2) ≥ 48
                            · rw [if_pos c30] at H
                              have c30b0 : decide (48 ≤ (bt t132 x8_2)) = true := decide_eq_true c30
                              clear c30
                              by_cases c31 : (bt t132 x8_2) ≤ 57
                              · rw [if_pos c31] at H
                                have c31b0 : decide ((bt t132 x8_2) ≤ 57) = true := decide_eq_true c31
                                clear c31
                                have H' := Aside0.mk H
                                clear H
                                have p19 : 0 ≤ (x8_2 : Int) := of_decide_eq_true (by first | (with_reducible assumption) | assumption)
                                have q19 : x8_2 < (t132.size : Int) := of_decide_eq_true (by first | (with_reducible assumption) | assumption)
                                have hx19 := bt_at t132 x8_2
                                replace p19 := eq_true p19
                                replace q19 := eq_true q19
                                go_wp2
                                go_roundg k2
                                case measure => have := HJ7.out; have := HK2.out; omega
                                case rel => exact ⟨(wrap64 (x8_2 + 1)), (by first | rfl | (simp; done) | (simp [*]; done)), H', ⟨by have := HJ7.out; have := HK2.out; omega⟩, ⟨by repeat (first | (with_reducible first | exact HB.out | apply below_alloc | apply pw_below_drewN | apply below_drew1) | exact HB.out)⟩⟩
                              · rw [if_neg c31] at H
                                have c31b0 : decide ((bt t132 x8_2) ≤ 57) = false := decide_eq_false c31
                                clear c31
                                by_cases c32 : (bt t132 x8_2) = 43
                                · rw [if_pos c32] at H
                                  have c32b0 : ((bt t132 x8_2) == 43) = true := beq_iff_eq.mpr c32
                                  have c32b1 : ((bt t132 x8_2) != 43) = false := bne_eq_false_iff_eq.mpr c32
                                  clear c32
                                  have H' := Aside0.mk H
                                  clear H
                                  have p19 : 0 ≤ (x8_2 : Int) := of_decide_eq_true (by first | (with_reducible assumption) | assumption)
                                  have q19 : x8_2 < (t132.size : Int) := of_decide_eq_true (by first | (with_reducible assumption) | assumption)
                                  have hx19 := bt_at t132 x8_2
                                  replace p19 := eq_true p19
                                  replace q19 := eq_true q19
                                  go_wp2
                                  go_roundg k2
                                  case measure => have := HJ7.out; have := HK2.out; omega
                                  case rel => exact ⟨(wrap64 (x8_2 + 1)), (by first | rfl | (simp; done) | (simp [*]; done)), H', ⟨by have := HJ7.out; have := HK2.out; omega⟩, ⟨by repeat (first | (with_reducible first | exact HB.out | apply below_alloc | apply pw_below_drewN | apply below_drew1) | exact HB.out)⟩⟩
                                · rw [if_neg c32] at H
                                  have c32b0 : ((bt t132 x8_2) == 43) = false := beq_eq_false_iff_ne.mpr c32
                                  have c32b1 : ((bt t132 x8_2) != 43) = true := bne_iff_ne.mpr c32
                                  by_cases c33 : ((bt t132 x8_2) = 47)
                                  · rw [if_pos c33] at H
                                    have c33b0 : ((bt t132 x8_2) == 47) = true := beq_iff_eq.mpr c33
                                    have c33b1 : ((bt t132 x8_2) != 47) = false := bne_eq_false_iff_eq.mpr c33
                                    clear c33
                                    have H' := Aside0.mk H
                                    clear H
                                    have p19 : 0 ≤ (x8_2 : Int) := of_decide_eq_true (by first | (with_reducible assumption) | assumption)
                                    have q19 : x8_2 < (t132.size : Int) := of_decide_eq_true (by first | (with_reducible assumption) | assumption)
                                    have hx19 := bt_at t132 x8_2
                                    replace p19 := eq_true p19
                                    replace q19 := eq_true q19
                                    go_wp2
                                    go_roundg k2
                                    case measure => have := HJ7.out; have := HK2.out; omega
                                    case rel => exact ⟨(wrap64 (x8_2 + 1)), (by first | rfl | (simp; done) | (simp [*]; done)), H', ⟨by have := HJ7.out; have := HK2.out; omega⟩, ⟨by repeat (first | (with_reducible first | exact HB.out | apply below_alloc | apply pw_below_drewN | apply below_drew1) | exact HB.out)⟩⟩
                                  · rw [if_neg c33] at H
                                    have c33b0 : ((bt t132 x8_2) == 47) = false := beq_eq_false_iff_ne.mpr c33
                                    have c33b1 : ((bt t132 x8_2) != 47) = true := bne_iff_ne.mpr c33
                                    obtain rfl := Option.some.inj H
                                    have p19 : 0 ≤ (x8_2 : Int) := of_decide_eq_true (by first | (with_reducible assumption) | assumption)
                                    have q19 : x8_2 < (t132.size : Int) := of_decide_eq_true (by first | (with_reducible assumption) | assumption)
                                    have hx19 := bt_at t132 x8_2
                                    replace p19 := eq_true p19
                                    replace q19 := eq_true q19
                                    go_wp2
                                    go_ret
                                    exact ⟨by first | rfl | (simp [errW_none, errW_some] <;> rfl) | (simp only [← hji3]; first | rfl | (simp [errW_none, errW_some] <;> rfl)) | (simp [*, errW_none, errW_some] <;> rfl), by repeat (first | (with_reducible first | exact HB.out | apply below_alloc | apply pw_below_drewN | apply below_drew1) | exact HB.out)⟩
                            · rw [if_neg c30] at H
                              have c30b0 : decide (48 ≤ (bt t132 x8_2)) = false := decide_eq_false c30
                              clear c30
                              by_cases c34 : (bt t132 x8_2) = 43
                              · rw [if_pos c34] at H
                                have c34b0 : ((bt t132 x8_2) == 43) = true := beq_iff_eq.mpr c34
                                have c34b1 : ((bt t132 x8_2) != 43) = false := bne_eq_false_iff_eq.mpr c34
                                clear c34
                                have H' := Aside0.mk H
                                clear H
                                have p19 : 0 ≤ (x8_2 : Int) := of_decide_eq_true (by first | (with_reducible assumption) | assumption)
                                have q19 : x8_2 < (t132.size : Int) := of_decide_eq_true (by first | (with_reducible assumption) | assumption)
                                have hx19 := bt_at t132 x8_2
                                replace p19 := eq_true p19
                                replace q19 := eq_true q19
                                go_wp2
                                go_roundg k2
                                case measure => have := HJ7.out; have := HK2.out; omega
                                case rel => exact ⟨(wrap64 (x8_2 + 1)), (by first | rfl | (simp; done) | (simp [*]; done)), H', ⟨by have := HJ7.out; have := HK2.out; omega⟩, ⟨by repeat (first | (with_reducible first | exact HB.out | apply below_alloc | apply pw_below_drewN | apply below_drew1) | exact HB.out)⟩⟩
                              · rw [if_neg c34] at H
                                have c34b0 : ((bt t132 x8_2) == 43) = false := beq_eq_false_iff_ne.mpr c34
                                have c34b1 : ((bt t132 x8_2) != 43) = true := bne_iff_ne.mpr c34
                                by_cases c35 : ((bt t132 x8_2) = 47)
                                · rw [if_pos c35] at H
                                  have c35b0 : ((bt t132 x8_2) == 47) = true := beq_iff_eq.mpr c35
                                  have c35b1 : ((bt t132 x8_2) != 47) = false := bne_eq_false_iff_eq.mpr c35
                                  clear c35
                                  have H' := Aside0.mk H
                                  clear H
                                  have p19 : 0 ≤ (x8_2 : Int) := of_decide_eq_true (by first | (with_reducible assumption) | assumption)
                                  have q19 : x8_2 < (t132.size : Int) := of_decide_eq_true (by first | (with_reducible assumption) | assumption)
                                  have hx19 := bt_at t132 x8_2
                                  replace p19 := eq_true p19
                                  replace q19 := eq_true q19
                                  go_wp2
                                  go_roundg k2
                                  case measure => have := HJ7.out; have := HK2.out; omega
                                  case rel => exact ⟨(wrap64 (x8_2 + 1)), (by first | rfl | (simp; done) | (simp [*]; done)), H', ⟨by have := HJ7.out; have := HK2.out; omega⟩, ⟨by repeat (first | (with_reducible first | exact HB.out | apply below_alloc | apply pw_below_drewN | apply below_drew1) | exact HB.out)⟩⟩
                                · rw [if_neg c35] at H
                                  have c35b0 : ((bt t132 x8_2) == 47) = false := beq_eq_false_iff_ne.mpr c35
                                  have c35b1 : ((bt t132 x8_2) != 47) = true := bne_iff_ne.mpr c35
                                  obtain rfl := Option.some.inj H
                                  have p19 : 0 ≤ (x8_2 : Int) := of_decide_eq_true (by first | (with_reducible assumption) | assumption)
                                  have q19 : x8_2 < (t132.size : Int) := of_decide_eq_true (by first | (with_reducible assumption) | assumption)
                                  have hx19 := bt_at t132 x8_2
                                  replace p19 := eq_true p19
                                  replace q19 := eq_true q19
                                  go_wp2
                                  go_ret
                                  exact ⟨by first | rfl | (simp [errW_none, errW_some] <;> rfl) | (simp only [← hji3]; first | rfl | (simp [errW_none, errW_some] <;> rfl)) | (simp [*, errW_none, errW_some] <;> rfl), by repeat (first | (with_reducible first | exact HB.out | apply below_alloc | apply pw_below_drewN | apply below_drew1) | exact HB.out)⟩
                      · rw [if_neg c20] at H
                        have c20b0 : decide (65 ≤ (bt t132 x8_2)) = false := decide_eq_false c20
                        clear c20
                        by_cases c36 : (bt t132 x8_2) ≥ 97
                        · rw [if_pos c36] at H
                          have c36b0 : decide (97 ≤ (bt t132 x8_2)) = true := decide_eq_true c36
                          clear c36
                          by_cases c37 : (bt t132 x8_2) ≤ 122
                          · rw [if_pos c37] at H
                            have c37b0 : decide ((bt t132 x8_2) ≤ 122) = true := decide_eq_true c37
                            clear c37
                            have H' := Aside0.mk H
                            clear H
                            have p19 : 0 ≤ (x8_2 : Int) := of_decide_eq_true (by first | (with_reducible assumption) | assumption)
                            have q19 : x8_2 < (t132.size : Int) := of_decide_eq_true (by first | (with_reducible assumption) | assumption)
                            have hx19 := bt_at t132 x8_2
                            replace p19 := eq_true p19
                            replace q19 := eq_true q19
                            go_wp2
                            go_roundg k2
                            case measure => have := HJ7.out; have := HK2.out; omega
                            case rel => exact ⟨(wrap64 (x8_2 + 1)), (by first | rfl | (simp; done) | (simp [*]; done)), H', ⟨by have := HJ7.out; have := HK2.out; omega⟩, ⟨by repeat (first | (with_reducible first | exact HB.out | apply below_alloc | apply pw_below_drewN | apply below_drew1) | exact HB.out)⟩⟩
                          · rw [if_neg c37] at H
                            have c37b0 : decide ((bt t132 x8_2) ≤ 122) = false := decide_eq_false c37
                            clear c37
                            by_cases c38 : (bt t132 x8_2) ≥ 48
                            · rw [if_pos c38] at H
                              have c38b0 : decide (48 ≤ (bt t132 x8_2)) = true := decide_eq_true c38
                              clear c38
                              by_cases c39 : (bt t132 x8_2) ≤ 57
                              · rw [if_pos c39] at H
                                have c39b0 : decide ((bt t132 x8_2) ≤ 57) = true := decide_eq_true c39
                                clear c39
                                have H' := Aside0.mk H
                                clear H
                                have p19 : 0 ≤ (x8_2 : Int) := of_decide_eq_true (by first | (with_reducible assumption) | assumption)
                                have q19 : x8_2 < (t132.size : Int) := of_decide_eq_true (by first | (with_reducible assumption) | assumption)
                                have hx19 := bt_at t132 x8_2
                                replace p19 := eq_true p19
                                replace q19 := eq_true q19
                                go_wp2
                                go_roundg k2
                                case measure => have := HJ7.out; have := HK2.out; omega
                                case rel => exact ⟨(wrap64 (x8_2 + 1)), (by first | rfl | (simp; done) | (simp [*]; done)), H', ⟨by have := HJ7.out; have := HK2.out; omega⟩, ⟨by repeat (first | (with_reducible first | exact HB.out | apply below_alloc | apply pw_below_drewN | apply below_drew1) | exact HB.out)⟩⟩
                              · rw [if_neg c39] at H
                                have c39b0 : decide ((bt t132 x8_2) ≤ 57) = false := decide_eq_false c39
                                clear c39
                                by_cases c40 : (bt t132 x8_2) = 43
                                · rw [if_pos c40] at H
                                  have c40b0 : ((bt t132 x8_2) == 43) = true := beq_iff_eq.mpr c40
                                  have c40b1 : ((bt t132 x8_2) != 43) = false := bne_eq_false_iff_eq.mpr c40
                                  clear c40
                                  have H' := Aside0.mk H
                                  clear H
                                  have p19 : 0 ≤ (x8_2 : Int) := of_decide_eq_true (by first | (with_reducible assumption) | assumption)
                                  have q19 : x8_2 < (t132.size : Int) := of_decide_eq_true (by first | (with_reducible assumption) | assumption)
                                  have hx19 := bt_at t132 x8_2
                                  replace p19 := eq_true p19
                                  replace q19 := eq_true q19
                                  go_wp2
                                  go_roundg k2
                                  case measure => have := HJ7.out; have := HK2.out; omega
                                  case rel => exact ⟨(wrap64 (x8_2 + 1)), (by first | rfl | (simp; done) | (simp [*]; done)), H', ⟨by have := HJ7.out; have := HK2.out; omega⟩, ⟨by repeat (first | (with_reducible first | exact HB.out | apply below_alloc | apply pw_below_drewN | apply below_drew1) | exact HB.out)⟩⟩
                                · rw [if_neg c40] at H
                                  have c40b0 : ((bt t132 x8_2) == 43) = false := beq_eq_false_iff_ne.mpr c40
                                  have c40b1 : ((bt t132 x8_2) != 43) = true := bne_iff_ne.mpr c40
                                  by_cases c41 : ((bt t132 x8_2) = 47)
                                  · rw [if_pos c41] at H
                                    have c41b0 : ((bt t132 x8_2) == 47) = true := beq_iff_eq.mpr c41
                                    have c41b1 : ((bt t132 x8_2) != 47) = false := bne_eq_false_iff_eq.mpr c41
                                    clear c41
                                    have H' := Aside0.mk H
                                    clear H
                                    have p19 : 0 ≤ (x8_2 : Int) := of_decide_eq_true (by first | (with_reducible assumption) | assumption)
                                    have q19 : x8_2 < (t132.size : Int) := of_decide_eq_true (by first | (with_reducible assumption) | assumption)
                                    have hx19 := bt_at t132 x8_2
                                    replace p19 := eq_true p19
                                    replace q19 := eq_true q19
                                    go_wp2
                                    go_roundg k2
                                    case measure => have := HJ7.out; have := HK2.out; omega
                                    case rel => exact ⟨(wrap64 (x8_2 + 1)), (by first | rfl | (simp; done) | (simp [*]; done)), H', ⟨by have := HJ7.out; have := HK2.out; omega⟩, ⟨by repeat (first | (with_reducible first | exact HB.out | apply below_alloc | apply pw_below_drewN | apply below_drew1) | exact HB.out)⟩⟩
                                  · rw [if_neg c41] at H
                                    have c41b0 : ((bt t132 x8_2) == 47) = false := beq_eq_false_iff_ne.mpr c41
                                    have c41b1 : ((bt t132 x8_2) != 47) = true := bne_iff_ne.mpr c41
                                    obtain rfl := Option.some.inj H
                                    have p19 : 0 ≤ (x8_2 : Int) := of_decide_eq_true (by first | (with_reducible assumption) | assumption)
                                    have q19 : x8_2 < (t132.size : Int) := of_decide_eq_true (by first | (with_reducible assumption) | assumption)
                                    have hx19 := bt_at t132 x8_2
                                    replace p19 := eq_true p19
                                    replace q19 := eq_true q19
                                    go_wp2
                                    go_ret
                                    exact ⟨by first | rfl | (simp [errW_none, errW_some] <;> rfl) | (simp only [← hji3]; first | rfl | (simp [errW_none, errW_some] <;> rfl)) | (simp [*, errW_none, errW_some] <;> rfl), by repeat (first | (with_reducible first | exact HB.out | apply below_alloc | apply pw_below_drewN | apply below_drew1) | exact HB.out)⟩
                            · rw [if_neg c38] at H
                              have c38b0 : decide (48 ≤ (bt t132 x8_2)) = false := decide_eq_false c38
                              clear c38
                              by_cases c42 : (bt t132 x8_2) = 43
                              · rw [if_pos c42] at H
                                have c42b0 : ((bt t132 x8_2) == 43) = true := beq_iff_eq.mpr c42
                                have c42b1 : ((bt t132 x8_2) != 43) = false := bne_eq_false_iff_eq.mpr c42
                                clear c42
                                have H' := Aside0.mk H
                                clear H
                                have p19 : 0 ≤ (x8_2 : Int) := of_decide_eq_true (by first | (with_reducible assumption) | assumption)
                                have q19 : x8_2 < (t132.size : Int) := of_decide_eq_true (by first | (with_reducible assumption) | assumption)
                                have hx19 := bt_at t132 x8_2
                                replace p19 := eq_true p19
                                replace q19 := eq_true q19
                                go_wp2
                                go_roundg k2
                                case measure => have := HJ7.out; have := HK2.out; omega
                                case rel => exact ⟨(wrap64 (x8_2 + 1)), (by first | rfl | (simp; done) | (simp [*]; done)), H', ⟨by have := HJ7.out; have := HK2.out; omega⟩, ⟨by repeat (first | (with_reducible first | exact HB.out | apply below_alloc | apply pw_below_drewN | apply below_drew1) | exact HB.out)⟩⟩
                              · rw [if_neg c42] at H
                                have c42b0 : ((bt t132 x8_2) == 43) = false := beq_eq_false_iff_ne.mpr c42
                                have c42b1 : ((bt t132 x8_2) != 43) = true := bne_iff_ne.mpr c42
                                by_cases c43 : ((bt t132 x8_2) = 47)
                                · rw [if_pos c43] at H
                                  have c43b0 : ((bt t132 x8_2) == 47) = true := beq_iff_eq.mpr c43
                                  have c43b1 : ((bt t132 x8_2) != 47) = false := bne_eq_false_iff_eq.mpr c43
                                  clear c43
                                  have H' := Aside0.mk H
                                  clear H
                                  have p19 : 0 ≤ (x8_2 : Int) := of_decide_eq_true (by first | (with_reducible assumption) | assumption)
                                  have q19 : x8_2 < (t132.size : Int) := of_decide_eq_true (by first | (with_reducible assumption) | assumption)
                                  have hx19 := bt_at t132 x8_2
                                  replace p19 := eq_true p19
                                  replace q19 := eq_true q19
                                  go_wp2
                                  go_roundg k2
                                  case measure => have := HJ7.out; have := HK2.out; omega
                                  case rel => exact ⟨(wrap64 (x8_2 + 1)), (by first | rfl | (simp; done) | (simp [*]; done)), H', ⟨by have := HJ7.out; have := HK2.out; omega⟩, ⟨by repeat (first | (with_reducible first | exact HB.out | apply below_alloc | apply pw_below_drewN | apply below_drew1) | exact HB.out)⟩⟩
                                · rw [if_neg c43] at H
                                  have c43b0 : ((bt t132 x8_2) == 47) = false := beq_eq_false_iff_ne.mpr c43
                                  have c43b1 : ((bt t132 x8_2) != 47) = true := bne_iff_ne.mpr c43
                                  obtain rfl := Option.some.inj H
                                  have p19 : 0 ≤ (x8_2 : Int) := of_decide_eq_true (by first | (with_reducible assumption) | assumption)
                                  have q19 : x8_2 < (t132.size : Int) := of_decide_eq_true (by first | (with_reducible assumption) | assumption)
                                  have hx19 := bt_at t132 x8_2
                                  replace p19 := eq_true p19
                                  replace q19 := eq_true q19
                                  go_wp2
                                  go_ret
                                  exact ⟨by first | rfl | (simp [errW_none, errW_some] <;> rfl) | (simp only [← hji3]; first | rfl | (simp [errW_none, errW_some] <;> rfl)) | (simp [*, errW_none, errW_some] <;> rfl), by repeat (first | (with_reducible first | exact HB.out | apply below_alloc | apply pw_below_drewN | apply below_drew1) | exact HB.out)⟩
                        · rw [if_neg c36] at H
                          have c36b0 : decide (97 ≤ (bt t132 x8_2)) = false := decide_eq_false c36
                          clear c36
                          by_cases c44 : (bt t132 x8_2) ≥ 48
                          · rw [if_pos c44] at H
                            have c44b0 : decide (48 ≤ (bt t132 x8_2)) = true := decide_eq_true c44
                            clear c44
                            by_cases c45 : (bt t132 x8_2) ≤ 57
                            · rw [if_pos c45] at H
                              have c45b0 : decide ((bt t132 x8_2) ≤ 57) = true := decide_eq_true c45
                              clear c45
                              have H' := Aside0.mk H
                              clear H
                              have p19 : 0 ≤ (x8_2 : Int) := of_decide_eq_true (by first | (with_reducible assumption) | assumption)
                              have q19 : x8_2 < (t132.size : Int) := of_decide_eq_true (by first | (with_reducible assumption) | assumption)
                              have hx19 := bt_at t132 x8_2
                              replace p19 := eq_true p19
                              replace q19 := eq_true q19
                              go_wp2
                              go_roundg k2
                              case measure => have := HJ7.out; have := HK2.out; omega
                              case rel => exact ⟨(wrap64 (x8_2 + 1)), (by first | rfl | (simp; done) | (simp [*]; done)), H', ⟨by have := HJ7.out; have := HK2.out; omega⟩, ⟨by repeat (first | (with_reducible first | exact HB.out | apply below_alloc | apply pw_below_drewN | apply below_drew1) | exact HB.out)⟩⟩
                            · rw [if_neg c45] at H
                              have c45b0 : decide ((bt t132 x8_2) ≤ 57) = false := decide_eq_false c45
                              clear c45
                              by_cases c46 : (bt t132 x8_2) = 43
                              · rw [if_pos c46] at H
                                have c46b0 : ((bt t132 x8_2) == 43) = true := beq_iff_eq.mpr c46
                                have c46b1 : ((bt t132 x8_2) != 43) = false := bne_eq_false_iff_eq.mpr c46
                                clear c46
                                have H' := Aside0.mk H
                                clear H
                                have p19 : 0 ≤ (x8_2 : Int) := of_decide_eq_true (by first | (with_reducible assumption) | assumption)
                                have q19 : x8_2 < (t132.size : Int) := of_decide_eq_true (by first | (with_reducible assumption) | assumption)
                                have hx19 := bt_at t132 x8_2
                                replace p19 := eq_true p19
                                replace q19 := eq_true q19
                                go_wp2
                                go_roundg k2
                                case measure => have := HJ7.out; have := HK2.out; omega
                                case rel => exact ⟨(wrap64 (x8_2 + 1)), (by first | rfl | (simp; done) | (simp [*]; done)), H', ⟨by have := HJ7.out; have := HK2.out; omega⟩, ⟨by repeat (first | (with_reducible first | exact HB.out | apply below_alloc | apply pw_below_drewN | apply below_drew1) | exact HB.out)⟩⟩
                              · rw [if_neg c46] at H
                                have c46b0 : ((bt t132 x8_2) == 43) = false := beq_eq_false_iff_ne.mpr c46
                                have c46b1 : ((bt t132 x8_2) != 43) = true := bne_iff_ne.mpr c46
                                by_cases c47 : ((bt t132 x8_2) = 47)
                                · rw [if_pos c47] at H
                                  have c47b0 : ((bt t132 x8_2) == 47) = true := beq_iff_eq.mpr c47
                                  have c47b1 : ((bt t132 x8_2) != 47) = false := bne_eq_false_iff_eq.mpr c47
                                  clear c47
                                  have H' := Aside0.mk H
                                  clear H
                                  have p19 : 0 ≤ (x8_2 : Int) := of_decide_eq_true (by first | (with_reducible assumption) | assumption)
                                  have q19 : x8_2 < (t132.size : Int) := of_decide_eq_true (by first | (with_reducible assumption) | assumption)
                                  have hx19 := bt_at t132 x8_2
                                  replace p19 := eq_true p19
                                  replace q19 := eq_true q19
                                  go_wp2
                                  go_roundg k2
                                  case measure => have := HJ7.out; have := HK2.out; omega
                                  case rel => exact ⟨(wrap64 (x8_2 + 1)), (by first | rfl | (simp; done) | (simp [*]; done)), H', ⟨by have := HJ7.out; have := HK2.out; omega⟩, ⟨by repeat (first | (with_reducible first | exact HB.out | apply below_alloc | apply pw_below_drewN | apply below_drew1) | exact HB.out)⟩⟩
                                · rw [if_neg c47] at H
                                  have c47b0 : ((bt t132 x8_2) == 47) = false := beq_eq_false_iff_ne.mpr c47
                                  have c47b1 : ((bt t132 x8_2) != 47) = true := bne_iff_ne.mpr c47
                                  obtain rfl := Option.some.inj H
                                  have p19 : 0 ≤ (x8_2 : Int) := of_decide_eq_true (by first | (with_reducible assumption) | assumption)
                                  have q19 : x8_2 < (t132.size : Int) := of_decide_eq_true (by first | (with_reducible assumption) | assumption)
                                  have hx19 := bt_at t132 x8_2
                                  replace p19 := eq_true p19
                                  replace q19 := eq_true q19
                                  go_wp2
                                  go_ret
                                  exact ⟨by first | rfl | (simp [errW_none, errW_some] <;> rfl) | (simp only [← hji3]; first | rfl | (simp [errW_none, errW_some] <;> rfl)) | (simp [*, errW_none, errW_some] <;> rfl), by repeat (first | (with_reducible first | exact HB.out | apply below_alloc | apply pw_below_drewN | apply below_drew1) | exact HB.out)⟩
                          · rw [if_neg c44] at H
                            have c44b0 : decide (48 ≤ (bt t132 x8_2)) = false := decide_eq_false c44
                            clear c44
                            by_cases c48 : (bt t132 x8_2) = 43
                            · rw [if_pos c48] at H
                              have c48b0 : ((bt t132 x8_2) == 43) = true := beq_iff_eq.mpr c48
                              have c48b1 : ((bt t132 x8_2) != 43) = false := bne_eq_false_iff_eq.mpr c48
                              clear c48
                              have H' := Aside0.mk H
                              clear H
                              have p19 : 0 ≤ (x8_2 : Int) := of_decide_eq_true (by first | (with_reducible assumption) | assumption)
                              have q19 : x8_2 < (t132.size : Int) := of_decide_eq_true (by first | (with_reducible assumption) | assumption)
                              have hx19 := bt_at t132 x8_2
                              replace p19 := eq_true p19
                              replace q19 := eq_true q19
                              go_wp2
                              go_roundg k2
                              case measure => have := HJ7.out; have := HK2.out; omega
                              case rel => exact ⟨(wrap64 (x8_2 + 1)), (by first | rfl | (simp; done) | (simp [*]; done)), H', ⟨by have := HJ7.out; have := HK2.out; omega⟩, ⟨by repeat (first | (with_reducible first | exact HB.out | apply below_alloc | apply pw_below_drewN | apply below_drew1) | exact HB.out)⟩⟩
                            · rw [if_neg c48] at H
                              have c48b0 : ((bt t132 x8_2) == 43) = false := beq_eq_false_iff_ne.mpr c48
                              have c48b1 : ((bt t132 x8_2) != 43) = true := bne_iff_ne.mpr c48
                              by_cases c49 : ((bt t132 x8_2) = 47)
                              · rw [if_pos c49] at H
                                have c49b0 : ((bt t132 x8_2) == 47) = true := beq_iff_eq.mpr c49
                                have c49b1 : ((bt t132 x8_2) != 47) = false := bne_eq_false_iff_eq.mpr c49
                                clear c49
                                have H' := Aside0.mk H
                                clear H
                                have p19 : 0 ≤ (x8_2 : Int) := of_decide_eq_true (by first | (with_reducible assumption) | assumption)
                                have q19 : x8_2 < (t132.size : Int) := of_decide_eq_true (by first | (with_reducible assumption) | assumption)
                                have hx19 := bt_at t132 x8_2
                                replace p19 := eq_true p19
                                replace q19 := eq_true q19
                                go_wp2
                                go_roundg k2
                                case measure => have := HJ7.out; have := HK2.out; omega
                                case rel => exact ⟨(wrap64 (x8_2 + 1)), (by first | rfl | (simp; done) | (simp [*]; done)), H', ⟨by have := HJ7.out; have := HK2.out; omega⟩, ⟨by repeat (first | (with_reducible first | exact HB.out | apply below_alloc | apply pw_below_drewN | apply below_drew1) | exact HB.out)⟩⟩
                              · rw [if_neg c49] at H
                                have c49b0 : ((bt t132 x8_2) == 47) = false := beq_eq_false_iff_ne.mpr c49
                                have c49b1 : ((bt t132 x8_2) != 47) = true := bne_iff_ne.mpr c49
                                obtain rfl := Option.some.inj H
                                have p19 : 0 ≤ (x8_2 : Int) := of_decide_eq_true (by first | (with_reducible assumption) | assumption)
                                have q19 : x8_2 < (t132.size : Int) := of_decide_eq_true (by first | (with_reducible assumption) | assumption)
                                have hx19 := bt_at t132 x8_2
                                replace p19 := eq_true p19
                                replace q19 := eq_true q19
                                go_wp2
                                go_ret
                                exact ⟨by first | rfl | (simp [errW_none, errW_some] <;> rfl) | (simp only [← hji3]; first | rfl | (simp [errW_none, errW_some] <;> rfl)) | (simp [*, errW_none, errW_some] <;> rfl), by repeat (first | (with_reducible first | exact HB.out | apply below_alloc | apply pw_below_drewN | apply below_drew1) | exact HB.out)⟩
                    · rw [if_neg c18] at H
                      exact absurd H (by simp)
                  · rw [if_neg c17] at H
                    have c17b0 : decide (x8_2 < (t132.size : Int)) = false := decide_eq_false c17
                    clear c17
                    replace H := Option.bind_eq_some_iff.mp H
                    obtain ⟨t135, A500, H⟩ := H
                    replace H : (if 0 ≤ (wrap64 (3 * t135)) then (if (wrap64 (3 * t135)) ≤ ((l0.take ((ji3) : Int).toNat).length : Int) then (if ([] : List Int).length + ((l0.take ((ji3) : Int).toNat).take ((wrap64 (3 * t135)) : Int).toNat).length < 140737488355328 then ((base_Text.f (([] : List Int) ++ ((l0.take ((ji3) : Int).toNat).take ((wrap64 (3 * t135)) : Int).toNat))).bind fun bt140 => (if bt140.2 = 0 then (if 0 ≤ (wrap64 (4 * t135)) then (if (wrap64 (4 * t135)) ≤ (t132.size : Int) then (some (bt140.1.toList == (t132.extract 0 ((wrap64 (4 * t135)) : Int).toNat).toList)) else (none)) else (none)) else (some false))) else (none)) else (none)) else (none)) = some r := H
                    have A50 := Aside0.mk A500
                    clear A500
                    obtain ⟨ji51, hji51⟩ : ∃ j_ : Int, (wrap64 (3 * t135)) = j_ := ⟨_, rfl⟩
                    replace H : (if 0 ≤ (ji51) then (if (ji51) ≤ ((l0.take ((ji3) : Int).toNat).length : Int) then (if ([] : List Int).length + ((l0.take ((ji3) : Int).toNat).take ((ji51) : Int).toNat).length < 140737488355328 then ((base_Text.f (([] : List Int) ++ ((l0.take ((ji3) : Int).toNat).take ((ji51) : Int).toNat))).bind fun bt140 => (if bt140.2 = 0 then (if 0 ≤ (wrap64 (4 * t135)) then (if (wrap64 (4 * t135)) ≤ (t132.size : Int) then (some (bt140.1.toList == (t132.extract 0 ((wrap64 (4 * t135)) : Int).toNat).toList)) else (none)) else (none)) else (some false))) else (none)) else (none)) else (none)) = some r := by first | (rw [hji51] at H; exact H) | (simp only [hji51] at H ⊢; exact H)
                    (try rw [hji51] at A50)
                    have hji51w : (IntKind.i64.wrap (3 * t135)) = ji51 := (i64_w _).trans hji51
                    by_cases c52 : 0 ≤ (ji51)
                    · rw [if_pos c52] at H
                      have c52b0 := eq_true c52
                      have c52b1 : decide (0 ≤ (ji51)) = true := decide_eq_true c52
                      clear c52
                      by_cases c53 : (ji51) ≤ ((l0.take ((ji3) : Int).toNat).length : Int)
                      · rw [if_pos c53] at H
                        have c53b0 := eq_true c53
                        have c53b1 : decide ((ji51) ≤ ((l0.take ((ji3) : Int).toNat).length : Int)) = true := decide_eq_true c53
                        clear c53
                        by_cases c54 : ([] : List Int).length + ((l0.take ((ji3) : Int).toNat).take ((ji51) : Int).toNat).length < 140737488355328
                        · rw [if_pos c54] at H
                          have LMc54 := Aside0.mk c54
                          clear c54
                          obtain ⟨y137, hy137⟩ : ∃ y_ : List Int, y_ = (([] : List Int) ++ ((l0.take ((ji3) : Int).toNat).take ((ji51) : Int).toNat)) := ⟨_, rfl⟩
                          replace H : ((base_Text.f y137).bind fun bt140 => (if bt140.2 = 0 then (if 0 ≤ (wrap64 (4 * t135)) then (if (wrap64 (4 * t135)) ≤ (t132.size : Int) then (some (bt140.1.toList == (t132.extract 0 ((wrap64 (4 * t135)) : Int).toNat).toList)) else (none)) else (none)) else (some false))) = some r := by first | (rw [hy137]; with_reducible exact H) | (have H2_ := (Option.bind_some _ _).symm.trans H; rw [hy137]; with_reducible exact H2_) | (have H2_ := (Option.bind_some _ _).symm.trans H; with_reducible exact H2_) | with_reducible exact H | (rw [hy137]; exact H) | exact H
                          have Ny137 := Aside0.mk hy137
                          clear hy137
                          replace H := Option.bind_eq_some_iff.mp H
                          obtain ⟨⟨t140, t141⟩, A550, H⟩ := H
                          replace H : (if t141 = 0 then (if 0 ≤ (wrap64 (4 * t135)) then (if (wrap64 (4 * t135)) ≤ (t132.size : Int) then (some (t140.toList == (t132.extract 0 ((wrap64 (4 * t135)) : Int).toNat).toList)) else (none)) else (none)) else (some false)) = some r := H
                          have A55 := Aside0.mk A550
                          clear A550
                          by_cases c56 : t141 = 0
                          · rw [if_pos c56] at H
                            have c56b0 : (t141 == 0) = true := beq_iff_eq.mpr c56
                            have c56b1 : (t141 != 0) = false := bne_eq_false_iff_eq.mpr c56
                            clear c56
                            obtain ⟨ji57, hji57⟩ : ∃ j_ : Int, (wrap64 (4 * t135)) = j_ := ⟨_, rfl⟩
                            replace H : (if 0 ≤ (ji57) then (if (ji57) ≤ (t132.size : Int) then (some (t140.toList == (t132.extract 0 ((ji57) : Int).toNat).toList)) else (none)) else (none)) = some r := by first | (rw [hji57] at H; exact H) | (simp only [hji57] at H ⊢; exact H)
                            (try rw [hji57] at A50)
                            (try rw [hji57] at A55)
                            have hji57w : (IntKind.i64.wrap (4 * t135)) = ji57 := (i64_w _).trans hji57
                            by_cases c58 : 0 ≤ (ji57)
                            · rw [if_pos c58] at H
                              have c58b0 := eq_true c58
                              have c58b1 : decide (0 ≤ (ji57)) = true := decide_eq_true c58
                              clear c58
                              by_cases c59 : (ji57) ≤ (t132.size : Int)
                              · rw [if_pos c59] at H
                                have c59b0 := eq_true c59
                                have c59b1 : decide ((ji57) ≤ (t132.size : Int)) = true := decide_eq_true c59
                                clear c59
                                obtain rfl := Option.some.inj H
                                try have hc_ : ji51 ≤ (c0 : Int) := by have h1_ : (ji51 : Int) ≤ ((l0.take ((ji3) : Int).toNat).length : Int) := of_decide_eq_true c53b1; have h2_ := HC0.out; rw [List.length_take] at h1_; omega
                                go_wp2_with (first | ((with_reducible refine gate_callee (f := 12) rfl ?_); refine goesL_ (some 75) rfl rfl Try.func12 (by kernel_rfl) rfl #[.int .i64 a1, .int .i64 (wrap64 ((wrap64 (((l0.take ((ji3) : Int).toNat).length : Int) / 3)) + 1))] rfl (by (try simp only [List.map_toArray, List.map_cons, List.map_nil]); first | done | (simp only [hji3]; rfl) | (rw [show wrap64 ((wrap64 (((l0.take ((ji3) : Int).toNat).length : Int) / 3)) + 1) = max ji3 0 / 3 + 1 from (by have h_ : ((ji3) : Int) ≤ (l0.length : Int) := (by rw [← hji3_]; split <;> omega); rw [List.length_take]; rw [show ((min ji3.toNat l0.length : Nat) : Int) = ji3 from (by omega), show wrap64 (ji3 / 3) = ji3 / 3 from (by unfold wrap64; omega), show max ji3 0 = ji3 from (by omega)]; unfold wrap64; omega)]; first | done | rfl) | rfl | (simp only [List.length_drop, List.length_take]; rfl)) ?_; (with_reducible refine (bagnallkeep_Picked.calls a1 (wrap64 ((wrap64 (((l0.take ((ji3) : Int).toNat).length : Int) / 3)) + 1)) t135 _ A50.out).mono ?_); rintro e w' ⟨rfl, ⟨nd, rfl⟩⟩; refine ⟨_, rfl, ?_⟩; obtain ⟨i060, hi060, _, hsz60, _⟩ := info_parts info5; obtain ⟨hcut60, hA60, hC60⟩ := print_take_of (P := Try.prog) (Value.int .u8) 0 25 5 .i64 Try.underlying25 hi060 hsz60 A0 c0 (l0.take ((ji3) : Int).toNat) (ji51) (of_decide_eq_true (by first | (with_reducible assumption) | assumption)) (of_decide_eq_true (by first | (with_reducible assumption) | assumption)) HC128.out; have HR136 := Aside0.mk (Kd.C_of_reads (h1 := fun _ => rfl) (hA60 _ (Kd.reads_of_C HR128.out))); have HC136 := Aside0.mk hC60; clear hA60 hC60 hi060 hsz60) | ((with_reducible refine gate_builtin (b := .append) (xs := #[.const _, .tmp 80]) rfl ?_); at_builtin; refine Kd.R_append_rows (Kd.int .u8) (w0 := w) w.heap.size rfl (.const (.slice none 0 0)) (.tmp 80) 25 5 (.int .u8 0) 1 rfl Try.underlying25 info5 rfl (by decide) (by omega) (.slice none 0 0) ([] : List Int) ((l0.take ((ji3) : Int).toNat).take ((ji51) : Int).toNat) _ _ _ (fun _ => True) (fun _ => False) rfl rfl ?aO ?aR (fun _ _ h => h) (fun _ h => h.elim) ?aF ?aB ?aS ?aL ?_; (case aR => first | (refine Eq.subst (motive := fun m_ => ReadsRow _ _ _ _ m_ _) (show ((l0.take ((ji3) : Int).toNat).take ((ji51) : Int).toNat).length = (ji51).toNat from (by rw [List.length_take]; have h_ : ((ji51) : Int) ≤ ((l0.take ((ji3) : Int).toNat).length : Int) := of_decide_eq_true (by first | (with_reducible assumption) | assumption); omega)) ?_; repeat (first | exact (Kd.C_below HR136.out (by repeat (first | (with_reducible first | exact HB.out | apply below_alloc | apply pw_below_drewN | apply below_drew1) | exact HB.out))) | (with_reducible refine Kd.C_alloc ?_ _) | (with_reducible refine Kd.C_drewN ?_ _) | (with_reducible refine Kd.C_drew ?_)); done) | (rw [← show ((l0.take ((ji3) : Int).toNat).take ((ji51) : Int).toNat).length = (ji51).toNat from (by rw [List.length_take]; have h_ : ((ji51) : Int) ≤ ((l0.take ((ji3) : Int).toNat).length : Int) := of_decide_eq_true (by first | (with_reducible assumption) | assumption); omega)]; repeat (first | exact (Kd.C_below HR136.out (by repeat (first | (with_reducible first | exact HB.out | apply below_alloc | apply pw_below_drewN | apply below_drew1) | exact HB.out))) | (with_reducible refine Kd.C_alloc ?_ _) | (with_reducible refine Kd.C_drewN ?_ _) | (with_reducible refine Kd.C_drew ?_))) | (repeat (first | exact (Kd.C_below HR136.out (by repeat (first | (with_reducible first | exact HB.out | apply below_alloc | apply pw_below_drewN | apply below_drew1) | exact HB.out))) | (with_reducible refine Kd.C_alloc ?_ _) | (with_reducible refine Kd.C_drewN ?_ _) | (with_reducible refine Kd.C_drew ?_)))); (case aB => exact (by repeat (first | (with_reducible first | exact HB.out | apply below_alloc | apply pw_below_drewN | apply below_drew1) | exact HB.out))); (case aF => exact (fun _ _ => trivial)); (case aO => exact ((Kd.R_nil _ _ _ _ (fun _ => True)))); (case aS => exact (below_size (by repeat (first | (with_reducible first | exact HB.out | apply below_alloc | apply pw_below_drewN | apply below_drew1) | exact HB.out)))); (case aL => have := LMc54.out; have hlx_ := (show ((l0.take ((ji3) : Int).toNat).take ((ji51) : Int).toNat).length = (ji51).toNat from (by rw [List.length_take]; have h_ : ((ji51) : Int) ≤ ((l0.take ((ji3) : Int).toNat).length : Int) := of_decide_eq_true (by first | (with_reducible assumption) | assumption); omega)); omega); intro v138 w61 ho hb hg hat; rw [← Ny137.out] at ho; have n0_ := Aside0.mk (hb); have n1_ := Aside0.mk (ho); clear HB; have HB := n0_; have HO139 := n1_; clear n0_ n1_; clear ho hb hg hat; obtain ⟨Ao62, co62, eo62⟩ := Kd.R_slice HO139.out; subst eo62) | ((with_reducible refine gate_callee (f := 14) rfl ?_); refine goesL_ (some 82) rfl rfl Try.func14 (by kernel_rfl) rfl #[.slice Ao62 y137.length co62] rfl (by (try simp only [List.map_toArray, List.map_cons, List.map_nil]); first | done | rfl | (simp only [List.length_drop, List.length_take]; rfl)) ?_; (with_reducible refine (base_Text.calls _ _ y137 t140 t141 _ ?side1 ?side2 A55.out).mono ?_); (case side1 => repeat (first | exact (Kd.R_reads' HO139.out).2.2 | (with_reducible refine Kd.C_alloc ?_ _) | (with_reducible refine Kd.C_drewN ?_ _) | (with_reducible refine Kd.C_drew ?_))); (case side2 => exact (Kd.R_reads' HO139.out).2.1); rintro e w63 ⟨rfl, hb⟩; refine ⟨_, rfl, ?_⟩; have n0_ := Aside0.mk (Kd.R_below (by (with_reducible repeat (first | apply Kd.R_alloc | apply Kd.R_drewN | apply Kd.R_drew)); exact HO139.out) hb); have n1_ := Aside0.mk (below_step (by repeat (first | (with_reducible first | exact HB.out | apply below_alloc | apply pw_below_drewN | apply below_drew1) | exact HB.out)) hb); clear HO139; clear HB; have HO139 := n0_; have HB := n1_; clear n0_ n1_; (try clear hb); (try clear hb2); (try clear hk); (try clear hi)))
                                go_ret
                                exact ⟨by first | rfl | (simp [errW_none, errW_some] <;> rfl) | (simp only [← hji3, ← hji51, ← hji57]; first | rfl | (simp [errW_none, errW_some] <;> rfl)) | (simp [*, errW_none, errW_some] <;> rfl), by repeat (first | (with_reducible first | exact HB.out | apply below_alloc | apply pw_below_drewN | apply below_drew1) | exact HB.out)⟩
                              · rw [if_neg c59] at H
                                exact absurd H (by simp)
                            · rw [if_neg c58] at H
                              exact absurd H (by simp)
                          · rw [if_neg c56] at H
                            have c56b0 : (t141 == 0) = false := beq_eq_false_iff_ne.mpr c56
                            have c56b1 : (t141 != 0) = true := bne_iff_ne.mpr c56
                            obtain rfl := Option.some.inj H
                            try have hc_ : ji51 ≤ (c0 : Int) := by have h1_ : (ji51 : Int) ≤ ((l0.take ((ji3) : Int).toNat).length : Int) := of_decide_eq_true c53b1; have h2_ := HC0.out; rw [List.length_take] at h1_; omega
                            go_wp2_with (first | ((with_reducible refine gate_callee (f := 12) rfl ?_); refine goesL_ (some 75) rfl rfl Try.func12 (by kernel_rfl) rfl #[.int .i64 a1, .int .i64 (wrap64 ((wrap64 (((l0.take ((ji3) : Int).toNat).length : Int) / 3)) + 1))] rfl (by (try simp only [List.map_toArray, List.map_cons, List.map_nil]); first | done | (simp only [hji3]; rfl) | (rw [show wrap64 ((wrap64 (((l0.take ((ji3) : Int).toNat).length : Int) / 3)) + 1) = max ji3 0 / 3 + 1 from (by have h_ : ((ji3) : Int) ≤ (l0.length : Int) := (by rw [← hji3_]; split <;> omega); rw [List.length_take]; rw [show ((min ji3.toNat l0.length : Nat) : Int) = ji3 from (by omega), show wrap64 (ji3 / 3) = ji3 / 3 from (by unfold wrap64; omega), show max ji3 0 = ji3 from (by omega)]; unfold wrap64; omega)]; first | done | rfl) | rfl | (simp only [List.length_drop, List.length_take]; rfl)) ?_; (with_reducible refine (bagnallkeep_Picked.calls a1 (wrap64 ((wrap64 (((l0.take ((ji3) : Int).toNat).length : Int) / 3)) + 1)) t135 _ A50.out).mono ?_); rintro e w' ⟨rfl, ⟨nd, rfl⟩⟩; refine ⟨_, rfl, ?_⟩; obtain ⟨i064, hi064, _, hsz64, _⟩ := info_parts info5; obtain ⟨hcut64, hA64, hC64⟩ := print_take_of (P := Try.prog) (Value.int .u8) 0 25 5 .i64 Try.underlying25 hi064 hsz64 A0 c0 (l0.take ((ji3) : Int).toNat) (ji51) (of_decide_eq_true (by first | (with_reducible assumption) | assumption)) (of_decide_eq_true (by first | (with_reducible assumption) | assumption)) HC128.out; have HR136 := Aside0.mk (Kd.C_of_reads (h1 := fun _ => rfl) (hA64 _ (Kd.reads_of_C HR128.out))); have HC136 := Aside0.mk hC64; clear hA64 hC64 hi064 hsz64) | ((with_reducible refine gate_builtin (b := .append) (xs := #[.const _, .tmp 80]) rfl ?_); at_builtin; refine Kd.R_append_rows (Kd.int .u8) (w0 := w) w.heap.size rfl (.const (.slice none 0 0)) (.tmp 80) 25 5 (.int .u8 0) 1 rfl Try.underlying25 info5 rfl (by decide) (by omega) (.slice none 0 0) ([] : List Int) ((l0.take ((ji3) : Int).toNat).take ((ji51) : Int).toNat) _ _ _ (fun _ => True) (fun _ => False) rfl rfl ?aO ?aR (fun _ _ h => h) (fun _ h => h.elim) ?aF ?aB ?aS ?aL ?_; (case aR => first | (refine Eq.subst (motive := fun m_ => ReadsRow _ _ _ _ m_ _) (show ((l0.take ((ji3) : Int).toNat).take ((ji51) : Int).toNat).length = (ji51).toNat from (by rw [List.length_take]; have h_ : ((ji51) : Int) ≤ ((l0.take ((ji3) : Int).toNat).length : Int) := of_decide_eq_true (by first | (with_reducible assumption) | assumption); omega)) ?_; repeat (first | exact (Kd.C_below HR136.out (by repeat (first | (with_reducible first | exact HB.out | apply below_alloc | apply pw_below_drewN | apply below_drew1) | exact HB.out))) | (with_reducible refine Kd.C_alloc ?_ _) | (with_reducible refine Kd.C_drewN ?_ _) | (with_reducible refine Kd.C_drew ?_)); done) | (rw [← show ((l0.take ((ji3) : Int).toNat).take ((ji51) : Int).toNat).length = (ji51).toNat from (by rw [List.length_take]; have h_ : ((ji51) : Int) ≤ ((l0.take ((ji3) : Int).toNat).length : Int) := of_decide_eq_true (by first | (with_reducible assumption) | assumption); omega)]; repeat (first | exact (Kd.C_below HR136.out (by repeat (first | (with_reducible first | exact HB.out | apply below_alloc | apply pw_below_drewN | apply below_drew1) | exact HB.out))) | (with_reducible refine Kd.C_alloc ?_ _) | (with_reducible refine Kd.C_drewN ?_ _) | (with_reducible refine Kd.C_drew ?_))) | (repeat (first | exact (Kd.C_below HR136.out (by repeat (first | (with_reducible first | exact HB.out | apply below_alloc | apply pw_below_drewN | apply below_drew1) | exact HB.out))) | (with_reducible refine Kd.C_alloc ?_ _) | (with_reducible refine Kd.C_drewN ?_ _) | (with_reducible refine Kd.C_drew ?_)))); (case aB => exact (by repeat (first | (with_reducible first | exact HB.out | apply below_alloc | apply pw_below_drewN | apply below_drew1) | exact HB.out))); (case aF => exact (fun _ _ => trivial)); (case aO => exact ((Kd.R_nil _ _ _ _ (fun _ => True)))); (case aS => exact (below_size (by repeat (first | (with_reducible first | exact HB.out | apply below_alloc | apply pw_below_drewN | apply below_drew1) | exact HB.out)))); (case aL => have := LMc54.out; have hlx_ := (show ((l0.take ((ji3) : Int).toNat).take ((ji51) : Int).toNat).length = (ji51).toNat from (by rw [List.length_take]; have h_ : ((ji51) : Int) ≤ ((l0.take ((ji3) : Int).toNat).length : Int) := of_decide_eq_true (by first | (with_reducible assumption) | assumption); omega)); omega); intro v138 w65 ho hb hg hat; rw [← Ny137.out] at ho; have n0_ := Aside0.mk (hb); have n1_ := Aside0.mk (ho); clear HB; have HB := n0_; have HO139 := n1_; clear n0_ n1_; clear ho hb hg hat; obtain ⟨Ao66, co66, eo66⟩ := Kd.R_slice HO139.out; subst eo66) | ((with_reducible refine gate_callee (f := 14) rfl ?_); refine goesL_ (some 82) rfl rfl Try.func14 (by kernel_rfl) rfl #[.slice Ao66 y137.length co66] rfl (by (try simp only [List.map_toArray, List.map_cons, List.map_nil]); first | done | rfl | (simp only [List.length_drop, List.length_take]; rfl)) ?_; (with_reducible refine (base_Text.calls _ _ y137 t140 t141 _ ?side1 ?side2 A55.out).mono ?_); (case side1 => repeat (first | exact (Kd.R_reads' HO139.out).2.2 | (with_reducible refine Kd.C_alloc ?_ _) | (with_reducible refine Kd.C_drewN ?_ _) | (with_reducible refine Kd.C_drew ?_))); (case side2 => exact (Kd.R_reads' HO139.out).2.1); rintro e w67 ⟨rfl, hb⟩; refine ⟨_, rfl, ?_⟩; have n0_ := Aside0.mk (Kd.R_below (by (with_reducible repeat (first | apply Kd.R_alloc | apply Kd.R_drewN | apply Kd.R_drew)); exact HO139.out) hb); have n1_ := Aside0.mk (below_step (by repeat (first | (with_reducible first | exact HB.out | apply below_alloc | apply pw_below_drewN | apply below_drew1) | exact HB.out)) hb); clear HO139; clear HB; have HO139 := n0_; have HB := n1_; clear n0_ n1_; (try clear hb); (try clear hb2); (try clear hk); (try clear hi)))
                            go_ret
                            exact ⟨by first | rfl | (simp [errW_none, errW_some] <;> rfl) | (simp only [← hji3, ← hji51]; first | rfl | (simp [errW_none, errW_some] <;> rfl)) | (simp [*, errW_none, errW_some] <;> rfl), by repeat (first | (with_reducible first | exact HB.out | apply below_alloc | apply pw_below_drewN | apply below_drew1) | exact HB.out)⟩
                        · rw [if_neg c54] at H
                          exact absurd H (by simp)
                      · rw [if_neg c53] at H
                        exact absurd H (by simp)
                    · rw [if_neg c52] at H
                      exact absurd H (by simp)
      · rw [if_neg c6] at H
        exact absurd H (by simp)
    · rw [if_neg c5] at H
      exact absurd H (by simp)
  · rw [if_neg c4] at H
    exact absurd H (by simp)

/-- THE ONE PURE STATEMENT of bagnallkeep_BaseSigns: yours. -/
def bagnallkeep_BaseSigns.Pure : Prop := ∀ (l0 : List Int) (a1 : Int), l0.length ≤ maxLen → l0.length * 1 ≤ 140737488351232 → (∀ x ∈ l0, (Lit.int .u8 x).wf = true) → (Lit.int .i64 a1).wf = true → ∃ k, bagnallkeep_BaseSigns.f k l0 a1 = some true
theorem bagnallkeep_BaseSigns.walk (P : bagnallkeep_BaseSigns.Pure) (a0 : Option Addr) (len0 cap0 : Nat) (z0 : List Int) (a1 : Int) (w : World) (w0 : (a0 = none ∧ len0 = 0 ∧ cap0 = 0 ∧ z0 = []) ∨ ∃ x, a0 = some x ∧ len0 ≤ cap0 ∧ cap0 ≤ maxLen ∧ z0.length = cap0 ∧ (∀ i, i < z0.length → w.cell? (x.add i) = some (.int .u8 (z0.getD i 0))) ∧ ∀ n ∈ z0, (Lit.int .u8 n).wf = true) (y0 : len0 * 1 ≤ 140737488351232) (w1 : (Lit.int .i64 a1).wf = true) :
    Calls Try.prog 5 #[.slice a0 len0 cap0, .int .i64 a1] w fun e w' => e = .returned (.bool true) ∧ Below w.heap.size w w' := by
  obtain ⟨l0, rfl, hr0, hm0, hw0, hc0⟩ := ReadsInt.ofRowC w0
  obtain ⟨k, h⟩ := P l0 a1 hm0 y0 hw0 w1
  refine (bagnallkeep_BaseSigns.calls k _ _ l0 a1 true w (Kd.C_of_reads (d := (0 : Int)) (h1 := fun _ => rfl) hr0) hc0 h).mono ?_
  rintro e w' ⟨rfl, hd⟩
  exact ⟨rfl, hd⟩

end Go.Proofs.Ytolnkahidgobhaa.QBase
