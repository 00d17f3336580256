/- Functions of the program as plain functions, and the walks that show it. Written by the session's own program pp.py. -/
import Derived.Test.YtolnkahidgobhaaQOutx0
import Derived.Test.YtolnkahidgobhaaQOutx1
import Derived.Test.YtolnkahidgobhaaQOutx5
import Derived.Test.YtolnkahidgobhaaOut6
namespace Go.Proofs.Ytolnkahidgobhaa.QOut
open Go.RowKit Go.Proofs.YtolnkahidgobhaaW.PrintWords Go.Proofs.YtolnkahidgobhaaW.PrintLast Go.Proofs.YtolnkahidgobhaaW.PrintMore
attribute [local go_sem] max2_int min2_int max_two min_two max_three min_three max_four min_four   -- for this text's walks alone
set_option linter.unusedVariables false
set_option linter.unusedSimpArgs false

/-! ### bagnallkeep_OutQuiet: function 10 -/
mutual
def bagnallkeep_OutQuiet.l0 : Nat → List (S43) → List (S45) → Int → Int → Int → Int → Int → Option (Bool)
  | 0, _, _, _, _, _, _, _ => none
  | k + 1, x3, x4, x6, x7, x8, x9, x10 => if x10 < (x3.length : Int) then (if 0 ≤ x10 then (if ((rd_T43 x3 x10).f0) = 2 then (bagnallkeep_OutQuiet.j1 k x3 x4 x6 x7 (wrap64 (x8 + ((rd_T43 x3 x10).f2))) x9 x10 ((rd_T43 x3 x10).f0) ((rd_T43 x3 x10).f1) ((rd_T43 x3 x10).f2)) else (bagnallkeep_OutQuiet.j1 k x3 x4 x6 x7 x8 x9 x10 ((rd_T43 x3 x10).f0) ((rd_T43 x3 x10).f1) ((rd_T43 x3 x10).f2))) else (none)) else (some true)
def bagnallkeep_OutQuiet.j1 : Nat → List (S43) → List (S45) → Int → Int → Int → Int → Int → Int → ByteArray → Int → Option (Bool)
  | 0, _, _, _, _, _, _, _, _, _, _ => none
  | k + 1, x3, x4, x6, x7, x8, x9, x10, x202000, x202001, x202002 => if 0 ≤ x10 then (if x10 < (x4.length : Int) then (if ((rd_T45 x4 x10).f1) > 0 then (if x6 > 0 then (some false) else (if x8 < x9 then (some false) else (bagnallkeep_OutQuiet.j2 k x3 x4 ((rd_T45 x4 x10).f1) x7 x8 x9 x10 x202000 x202001 x202002))) else (bagnallkeep_OutQuiet.j2 k x3 x4 x6 x7 x8 x9 x10 x202000 x202001 x202002)) else (none)) else (none)
def bagnallkeep_OutQuiet.j2 : Nat → List (S43) → List (S45) → Int → Int → Int → Int → Int → Int → ByteArray → Int → Option (Bool)
  | 0, _, _, _, _, _, _, _, _, _, _ => none
  | k + 1, x3, x4, x6, x7, x8, x9, x10, x202000, x202001, x202002 => if x202000 = 3 then (bagnallkeep_OutQuiet.j3 k x3 x4 x6 x7 x8 x9 x10 true x202000 x202001 x202002) else (bagnallkeep_OutQuiet.j3 k x3 x4 x6 x7 x8 x9 x10 (x202000 == 4) x202000 x202001 x202002)
def bagnallkeep_OutQuiet.j3 : Nat → List (S43) → List (S45) → Int → Int → Int → Int → Int → Bool → Int → ByteArray → Int → Option (Bool)
  | 0, _, _, _, _, _, _, _, _, _, _, _ => none
  | k + 1, x3, x4, x6, x7, x8, x9, x10, x63, x202000, x202001, x202002 => if x63 = true then (if 0 ≤ x10 then (if x10 < (x4.length : Int) then (if x6 > 0 then (bagnallkeep_OutQuiet.j4 k x3 x4 x6 x7 x8 x9 x10 ((((rd_T45 x4 x10).f0) == 0) != (x202002 == x6)) x202000 x202001 x202002) else (bagnallkeep_OutQuiet.j4 k x3 x4 x6 x7 x8 x9 x10 ((((rd_T45 x4 x10).f0) == 0) != false) x202000 x202001 x202002)) else (none)) else (none)) else (bagnallkeep_OutQuiet.l0 k x3 x4 x6 x7 x8 x9 (wrap64 (x10 + 1)))
def bagnallkeep_OutQuiet.j4 : Nat → List (S43) → List (S45) → Int → Int → Int → Int → Int → Bool → Int → ByteArray → Int → Option (Bool)
  | 0, _, _, _, _, _, _, _, _, _, _, _ => none
  | k + 1, x3, x4, x6, x7, x8, x9, x10, x78, x202000, x202001, x202002 => if x78 = true then (some false) else (if 0 ≤ x10 then (if x10 < (x4.length : Int) then (if ((rd_T45 x4 x10).f0) = 0 then ((out_Wait.f k (wrap64 (x7 + 1))).bind fun t206 => (if x202000 = 3 then (bagnallkeep_OutQuiet.l0 k x3 x4 0 0 x8 0 (wrap64 (x10 + 1))) else (bagnallkeep_OutQuiet.l0 k x3 x4 0 (wrap64 (x7 + 1)) x8 (wrap64 (x8 + t206)) (wrap64 (x10 + 1))))) else (bagnallkeep_OutQuiet.l0 k x3 x4 x6 x7 x8 x9 (wrap64 (x10 + 1)))) else (none)) else (none))
end
def bagnallkeep_OutQuiet.f (k : Nat) (l0 : List Int) : Option (Bool) := (bagnallkeep_Turns.f l0 90).bind fun t193 => ((bagnallkeep_outOf.f t193).bind fun bt196 => (if bt196.2 = true then (bagnallkeep_OutQuiet.l0 k t193 bt196.1 0 0 0 0 0) else (some false)))
theorem bagnallkeep_OutQuiet.mono_l : ∀ k, (∀ y0 y1 y2 y3 y4 y5 y6, LeO (bagnallkeep_OutQuiet.l0 k y0 y1 y2 y3 y4 y5 y6) (bagnallkeep_OutQuiet.l0 (k + 1) y0 y1 y2 y3 y4 y5 y6)) ∧ (∀ y0 y1 y2 y3 y4 y5 y6 y7 y8 y9, LeO (bagnallkeep_OutQuiet.j1 k y0 y1 y2 y3 y4 y5 y6 y7 y8 y9) (bagnallkeep_OutQuiet.j1 (k + 1) y0 y1 y2 y3 y4 y5 y6 y7 y8 y9)) ∧ (∀ y0 y1 y2 y3 y4 y5 y6 y7 y8 y9, LeO (bagnallkeep_OutQuiet.j2 k y0 y1 y2 y3 y4 y5 y6 y7 y8 y9) (bagnallkeep_OutQuiet.j2 (k + 1) y0 y1 y2 y3 y4 y5 y6 y7 y8 y9)) ∧ (∀ y0 y1 y2 y3 y4 y5 y6 y7 y8 y9 y10, LeO (bagnallkeep_OutQuiet.j3 k y0 y1 y2 y3 y4 y5 y6 y7 y8 y9 y10) (bagnallkeep_OutQuiet.j3 (k + 1) y0 y1 y2 y3 y4 y5 y6 y7 y8 y9 y10)) ∧ (∀ y0 y1 y2 y3 y4 y5 y6 y7 y8 y9 y10, LeO (bagnallkeep_OutQuiet.j4 k y0 y1 y2 y3 y4 y5 y6 y7 y8 y9 y10) (bagnallkeep_OutQuiet.j4 (k + 1) y0 y1 y2 y3 y4 y5 y6 y7 y8 y9 y10))
  | 0 => ⟨fun _ _ _ _ _ _ _ r h => by simp [bagnallkeep_OutQuiet.l0] at h, fun _ _ _ _ _ _ _ _ _ _ r h => by simp [bagnallkeep_OutQuiet.j1] at h, fun _ _ _ _ _ _ _ _ _ _ r h => by simp [bagnallkeep_OutQuiet.j2] at h, fun _ _ _ _ _ _ _ _ _ _ _ r h => by simp [bagnallkeep_OutQuiet.j3] at h, fun _ _ _ _ _ _ _ _ _ _ _ r h => by simp [bagnallkeep_OutQuiet.j4] at h⟩
  | k + 1 => by
    obtain ⟨ih0, ih1, ih2, ih3, ih4⟩ := bagnallkeep_OutQuiet.mono_l k
    refine ⟨?_, ?_, ?_, ?_, ?_⟩
    · intro y0 y1 y2 y3 y4 y5 y6
      unfold bagnallkeep_OutQuiet.l0
      repeat' first
      | (with_reducible exact ih0 _ _ _ _ _ _ _)
      | (with_reducible exact ih1 _ _ _ _ _ _ _ _ _ _)
      | (with_reducible exact ih2 _ _ _ _ _ _ _ _ _ _)
      | (with_reducible exact ih3 _ _ _ _ _ _ _ _ _ _ _)
      | (with_reducible exact ih4 _ _ _ _ _ _ _ _ _ _ _)
      | (with_reducible exact out_Wait.mono _ _)
      | (with_reducible exact LeO.refl _)
      | (with_reducible exact LeO.none _)
      | (with_reducible refine LeO.ite ?_ ?_)
      | (with_reducible refine LeO.bind ?_ (fun _ => ?_))
      | exact ih0 _ _ _ _ _ _ _
      | exact ih1 _ _ _ _ _ _ _ _ _ _
      | exact ih2 _ _ _ _ _ _ _ _ _ _
      | exact ih3 _ _ _ _ _ _ _ _ _ _ _
      | exact ih4 _ _ _ _ _ _ _ _ _ _ _
      | exact out_Wait.mono _ _
      | exact LeO.none _
      | refine LeO.ite ?_ ?_
      | refine LeO.bind ?_ (fun _ => ?_)
    · intro y0 y1 y2 y3 y4 y5 y6 y7 y8 y9
      unfold bagnallkeep_OutQuiet.j1
      repeat' first
      | (with_reducible exact ih0 _ _ _ _ _ _ _)
      | (with_reducible exact ih1 _ _ _ _ _ _ _ _ _ _)
      | (with_reducible exact ih2 _ _ _ _ _ _ _ _ _ _)
      | (with_reducible exact ih3 _ _ _ _ _ _ _ _ _ _ _)
      | (with_reducible exact ih4 _ _ _ _ _ _ _ _ _ _ _)
      | (with_reducible exact out_Wait.mono _ _)
      | (with_reducible exact LeO.refl _)
      | (with_reducible exact LeO.none _)
      | (with_reducible refine LeO.ite ?_ ?_)
      | (with_reducible refine LeO.bind ?_ (fun _ => ?_))
      | exact ih0 _ _ _ _ _ _ _
      | exact ih1 _ _ _ _ _ _ _ _ _ _
      | exact ih2 _ _ _ _ _ _ _ _ _ _
      | exact ih3 _ _ _ _ _ _ _ _ _ _ _
      | exact ih4 _ _ _ _ _ _ _ _ _ _ _
      | exact out_Wait.mono _ _
      | exact LeO.none _
      | refine LeO.ite ?_ ?_
      | refine LeO.bind ?_ (fun _ => ?_)
    · intro y0 y1 y2 y3 y4 y5 y6 y7 y8 y9
      unfold bagnallkeep_OutQuiet.j2
      repeat' first
      | (with_reducible exact ih0 _ _ _ _ _ _ _)
      | (with_reducible exact ih1 _ _ _ _ _ _ _ _ _ _)
      | (with_reducible exact ih2 _ _ _ _ _ _ _ _ _ _)
      | (with_reducible exact ih3 _ _ _ _ _ _ _ _ _ _ _)
      | (with_reducible exact ih4 _ _ _ _ _ _ _ _ _ _ _)
      | (with_reducible exact out_Wait.mono _ _)
      | (with_reducible exact LeO.refl _)
      | (with_reducible exact LeO.none _)
      | (with_reducible refine LeO.ite ?_ ?_)
      | (with_reducible refine LeO.bind ?_ (fun _ => ?_))
      | exact ih0 _ _ _ _ _ _ _
      | exact ih1 _ _ _ _ _ _ _ _ _ _
      | exact ih2 _ _ _ _ _ _ _ _ _ _
      | exact ih3 _ _ _ _ _ _ _ _ _ _ _
      | exact ih4 _ _ _ _ _ _ _ _ _ _ _
      | exact out_Wait.mono _ _
      | exact LeO.none _
      | refine LeO.ite ?_ ?_
      | refine LeO.bind ?_ (fun _ => ?_)
    · intro y0 y1 y2 y3 y4 y5 y6 y7 y8 y9 y10
      unfold bagnallkeep_OutQuiet.j3
      repeat' first
      | (with_reducible exact ih0 _ _ _ _ _ _ _)
      | (with_reducible exact ih1 _ _ _ _ _ _ _ _ _ _)
      | (with_reducible exact ih2 _ _ _ _ _ _ _ _ _ _)
      | (with_reducible exact ih3 _ _ _ _ _ _ _ _ _ _ _)
      | (with_reducible exact ih4 _ _ _ _ _ _ _ _ _ _ _)
      | (with_reducible exact out_Wait.mono _ _)
      | (with_reducible exact LeO.refl _)
      | (with_reducible exact LeO.none _)
      | (with_reducible refine LeO.ite ?_ ?_)
      | (with_reducible refine LeO.bind ?_ (fun _ => ?_))
      | exact ih0 _ _ _ _ _ _ _
      | exact ih1 _ _ _ _ _ _ _ _ _ _
      | exact ih2 _ _ _ _ _ _ _ _ _ _
      | exact ih3 _ _ _ _ _ _ _ _ _ _ _
      | exact ih4 _ _ _ _ _ _ _ _ _ _ _
      | exact out_Wait.mono _ _
      | exact LeO.none _
      | refine LeO.ite ?_ ?_
      | refine LeO.bind ?_ (fun _ => ?_)
    · intro y0 y1 y2 y3 y4 y5 y6 y7 y8 y9 y10
      unfold bagnallkeep_OutQuiet.j4
      repeat' first
      | (with_reducible exact ih0 _ _ _ _ _ _ _)
      | (with_reducible exact ih1 _ _ _ _ _ _ _ _ _ _)
      | (with_reducible exact ih2 _ _ _ _ _ _ _ _ _ _)
      | (with_reducible exact ih3 _ _ _ _ _ _ _ _ _ _ _)
      | (with_reducible exact ih4 _ _ _ _ _ _ _ _ _ _ _)
      | (with_reducible exact out_Wait.mono _ _)
      | (with_reducible exact LeO.refl _)
      | (with_reducible exact LeO.none _)
      | (with_reducible refine LeO.ite ?_ ?_)
      | (with_reducible refine LeO.bind ?_ (fun _ => ?_))
      | exact ih0 _ _ _ _ _ _ _
      | exact ih1 _ _ _ _ _ _ _ _ _ _
      | exact ih2 _ _ _ _ _ _ _ _ _ _
      | exact ih3 _ _ _ _ _ _ _ _ _ _ _
      | exact ih4 _ _ _ _ _ _ _ _ _ _ _
      | exact out_Wait.mono _ _
      | exact LeO.none _
      | refine LeO.ite ?_ ?_
      | refine LeO.bind ?_ (fun _ => ?_)
theorem bagnallkeep_OutQuiet.mono : ∀ a0 k, LeO (bagnallkeep_OutQuiet.f k a0) (bagnallkeep_OutQuiet.f (k + 1) a0) := by
  intro a0 k
  obtain ⟨ih0, ih1, ih2, ih3, ih4⟩ := bagnallkeep_OutQuiet.mono_l k
  unfold bagnallkeep_OutQuiet.f
  repeat' first
      | (with_reducible exact ih0 _ _ _ _ _ _ _)
      | (with_reducible exact ih1 _ _ _ _ _ _ _ _ _ _)
      | (with_reducible exact ih2 _ _ _ _ _ _ _ _ _ _)
      | (with_reducible exact ih3 _ _ _ _ _ _ _ _ _ _ _)
      | (with_reducible exact ih4 _ _ _ _ _ _ _ _ _ _ _)
      | (with_reducible exact out_Wait.mono _ _)
      | (with_reducible exact LeO.refl _)
      | (with_reducible exact LeO.none _)
      | (with_reducible refine LeO.ite ?_ ?_)
      | (with_reducible refine LeO.bind ?_ (fun _ => ?_))
      | exact ih0 _ _ _ _ _ _ _
      | exact ih1 _ _ _ _ _ _ _ _ _ _
      | exact ih2 _ _ _ _ _ _ _ _ _ _
      | exact ih3 _ _ _ _ _ _ _ _ _ _ _
      | exact ih4 _ _ _ _ _ _ _ _ _ _ _
      | exact out_Wait.mono _ _
      | exact LeO.none _
      | refine LeO.ite ?_ ?_
      | refine LeO.bind ?_ (fun _ => ?_)
set_option maxHeartbeats 8000000 in
set_option maxRecDepth 100000 in
theorem bagnallkeep_OutQuiet.calls (k : Nat) (A0 : Option Addr) (c0 : Nat) (l0 : List Int) (r : Bool) (w : World) (hr0 : Kd.C (Kd.int .i64) w A0 l0.length l0) (hc0 : l0.length ≤ c0) (h : bagnallkeep_OutQuiet.f k l0 = some r) :
    Calls Try.prog 10 #[.slice A0 l0.length c0] w fun e w' => e = .returned (.bool r) ∧ Below w.heap.size w w' := by
  have hu43 := Try.underlying43
  have HR0 := Aside0.mk hr0
  have HC0 := Aside0.mk hc0
  clear hr0 hc0
  have HB := Aside0.mk (Below.refl w.heap.size w)
  have H : ((bagnallkeep_Turns.f l0 90).bind fun t193 => ((bagnallkeep_outOf.f t193).bind fun bt196 => (if bt196.2 = true then (bagnallkeep_OutQuiet.l0 k t193 bt196.1 0 0 0 0 0) else (some false)))) = some r := h
  clear h
  replace H := Option.bind_eq_some_iff.mp H
  obtain ⟨t193, A20, H⟩ := H
  replace H : ((bagnallkeep_outOf.f t193).bind fun bt196 => (if bt196.2 = true then (bagnallkeep_OutQuiet.l0 k t193 bt196.1 0 0 0 0 0) else (some false))) = some r := H
  have A2 := Aside0.mk A20
  clear A20
  replace H := Option.bind_eq_some_iff.mp H
  obtain ⟨⟨t196, t197⟩, A30, H⟩ := H
  replace H : (if t197 = true then (bagnallkeep_OutQuiet.l0 k t193 t196 0 0 0 0 0) else (some false)) = some r := H
  have A3 := Aside0.mk A30
  clear A30
  by_cases c4 : t197 = true
  · subst c4
    have H1 : (bagnallkeep_OutQuiet.l0 k t193 t196 0 0 0 0 0) = some r := by rw [if_pos rfl] at H; exact H
    clear H
    have H := H1
    clear H1
    have H' := Aside0.mk H
    clear H
    go_enter Try.func10, Try.ntmps10
    go_wp2_with (first | (go_at_call 18; (with_reducible refine (bagnallkeep_Turns.calls _ _ l0 90 t193 _ ?side1 ?side2 A2.out).mono ?_); (case side1 => repeat (first | exact HR0.out | (with_reducible refine Kd.C_alloc ?_ _) | (with_reducible refine Kd.C_drewN ?_ _) | (with_reducible refine Kd.C_drew ?_))); (case side2 => exact HC0.out); rintro e w5 ⟨v194, rfl, ho0, hb⟩; have n0_ := Aside0.mk (Kd.R_lower ho0 (below_size (by repeat (first | (with_reducible first | exact HB.out | apply below_alloc | apply pw_below_drewN | apply below_drew1) | exact HB.out)))); have n1_ := Aside0.mk (below_step (by repeat (first | (with_reducible first | exact HB.out | apply below_alloc | apply pw_below_drewN | apply below_drew1) | exact HB.out)) hb); clear HB; have HO195 := n0_; have HB := n1_; clear n0_ n1_; (try clear hb); (try clear hb2); (try clear hk); (try clear hi); (try clear ho0); obtain ⟨Ao6, co6, eo6⟩ := Kd.R_slice HO195.out; subst eo6) | (go_at_call 19; (with_reducible refine (bagnallkeep_outOf.calls _ _ t193 t196 true _ ?side1 ?side2 A3.out).mono ?_); (case side1 => repeat (first | exact (Kd.R_reads' HO195.out).2.2 | (with_reducible refine Kd.C_alloc ?_ _) | (with_reducible refine Kd.C_drewN ?_ _) | (with_reducible refine Kd.C_drew ?_))); (case side2 => exact (Kd.R_reads' HO195.out).2.1); rintro e w7 ⟨v198, rfl, ho0, hb⟩; have n0_ := Aside0.mk (Kd.R_below (by (with_reducible repeat (first | apply Kd.R_alloc | apply Kd.R_drewN | apply Kd.R_drew)); exact HO195.out) hb); have n1_ := Aside0.mk (Kd.S_lower ho0 (below_size (by repeat (first | (with_reducible first | exact HB.out | apply below_alloc | apply pw_below_drewN | apply below_drew1) | exact HB.out)))); have n2_ := Aside0.mk (below_step (by repeat (first | (with_reducible first | exact HB.out | apply below_alloc | apply pw_below_drewN | apply below_drew1) | exact HB.out)) hb); clear HO195; clear HB; have HO195 := n0_; have HO199 := n1_; have HB := n2_; clear n0_ n1_ n2_; (try clear hb); (try clear hb2); (try clear hk); (try clear hi); (try clear ho0)))
    repeat (go_quiet (first | (go_at_call 18; (with_reducible refine (bagnallkeep_Turns.calls _ _ l0 90 t193 _ ?side1 ?side2 A2.out).mono ?_); (case side1 => repeat (first | exact HR0.out | (with_reducible refine Kd.C_alloc ?_ _) | (with_reducible refine Kd.C_drewN ?_ _) | (with_reducible refine Kd.C_drew ?_))); (case side2 => exact HC0.out); rintro e w5 ⟨v194, rfl, ho0, hb⟩; have n0_ := Aside0.mk (Kd.R_lower ho0 (below_size (by repeat (first | (with_reducible first | exact HB.out | apply below_alloc | apply pw_below_drewN | apply below_drew1) | exact HB.out)))); have n1_ := Aside0.mk (below_step (by repeat (first | (with_reducible first | exact HB.out | apply below_alloc | apply pw_below_drewN | apply below_drew1) | exact HB.out)) hb); clear HB; have HO195 := n0_; have HB := n1_; clear n0_ n1_; (try clear hb); (try clear hb2); (try clear hk); (try clear hi); (try clear ho0); obtain ⟨Ao6, co6, eo6⟩ := Kd.R_slice HO195.out; subst eo6) | (go_at_call 19; (with_reducible refine (bagnallkeep_outOf.calls _ _ t193 t196 true _ ?side1 ?side2 A3.out).mono ?_); (case side1 => repeat (first | exact (Kd.R_reads' HO195.out).2.2 | (with_reducible refine Kd.C_alloc ?_ _) | (with_reducible refine Kd.C_drewN ?_ _) | (with_reducible refine Kd.C_drew ?_))); (case side2 => exact (Kd.R_reads' HO195.out).2.1); rintro e w7 ⟨v198, rfl, ho0, hb⟩; have n0_ := Aside0.mk (Kd.R_below (by (with_reducible repeat (first | apply Kd.R_alloc | apply Kd.R_drewN | apply Kd.R_drew)); exact HO195.out) hb); have n1_ := Aside0.mk (Kd.S_lower ho0 (below_size (by repeat (first | (with_reducible first | exact HB.out | apply below_alloc | apply pw_below_drewN | apply below_drew1) | exact HB.out)))); have n2_ := Aside0.mk (below_step (by repeat (first | (with_reducible first | exact HB.out | apply below_alloc | apply pw_below_drewN | apply below_drew1) | exact HB.out)) hb); clear HO195; clear HB; have HO195 := n0_; have HO199 := n1_; have HB := n2_; clear n0_ n1_ n2_; (try clear hb); (try clear hb2); (try clear hk); (try clear hi); (try clear ho0))); try go_wp2_with (first | (go_at_call 18; (with_reducible refine (bagnallkeep_Turns.calls _ _ l0 90 t193 _ ?side1 ?side2 A2.out).mono ?_); (case side1 => repeat (first | exact HR0.out | (with_reducible refine Kd.C_alloc ?_ _) | (with_reducible refine Kd.C_drewN ?_ _) | (with_reducible refine Kd.C_drew ?_))); (case side2 => exact HC0.out); rintro e w5 ⟨v194, rfl, ho0, hb⟩; have n0_ := Aside0.mk (Kd.R_lower ho0 (below_size (by repeat (first | (with_reducible first | exact HB.out | apply below_alloc | apply pw_below_drewN | apply below_drew1) | exact HB.out)))); have n1_ := Aside0.mk (below_step (by repeat (first | (with_reducible first | exact HB.out | apply below_alloc | apply pw_below_drewN | apply below_drew1) | exact HB.out)) hb); clear HB; have HO195 := n0_; have HB := n1_; clear n0_ n1_; (try clear hb); (try clear hb2); (try clear hk); (try clear hi); (try clear ho0); obtain ⟨Ao6, co6, eo6⟩ := Kd.R_slice HO195.out; subst eo6) | (go_at_call 19; (with_reducible refine (bagnallkeep_outOf.calls _ _ t193 t196 true _ ?side1 ?side2 A3.out).mono ?_); (case side1 => repeat (first | exact (Kd.R_reads' HO195.out).2.2 | (with_reducible refine Kd.C_alloc ?_ _) | (with_reducible refine Kd.C_drewN ?_ _) | (with_reducible refine Kd.C_drew ?_))); (case side2 => exact (Kd.R_reads' HO195.out).2.1); rintro e w7 ⟨v198, rfl, ho0, hb⟩; have n0_ := Aside0.mk (Kd.R_below (by (with_reducible repeat (first | apply Kd.R_alloc | apply Kd.R_drewN | apply Kd.R_drew)); exact HO195.out) hb); have n1_ := Aside0.mk (Kd.S_lower ho0 (below_size (by repeat (first | (with_reducible first | exact HB.out | apply below_alloc | apply pw_below_drewN | apply below_drew1) | exact HB.out)))); have n2_ := Aside0.mk (below_step (by repeat (first | (with_reducible first | exact HB.out | apply below_alloc | apply pw_below_drewN | apply below_drew1) | exact HB.out)) hb); clear HO195; clear HB; have HO195 := n0_; have HO199 := n1_; have HB := n2_; clear n0_ n1_ n2_; (try clear hb); (try clear hb2); (try clear hk); (try clear hi); (try clear ho0))))
    go_loopg [6, 7, 8, 9, 10] k (fun kq v6 v7 v8 v9 v10 w' => ∃ (x6_1 : Int) (x7_1 : Int) (x8_1 : Int) (x9_1 : Int) (x10_1 : Int), v6 = .int .i64 x6_1 ∧ v7 = .int .i64 x7_1 ∧ v8 = .int .i64 x8_1 ∧ v9 = .int .i64 x9_1 ∧ v10 = .int .i64 x10_1 ∧ Aside0 (bagnallkeep_OutQuiet.l0 kq t193 t196 x6_1 x7_1 x8_1 x9_1 x10_1 = some r) ∧ Aside0 (kq ≤ k) ∧ Aside0 (Kd.R k43 43 w' w.heap.size (fun _ => True) (.slice Ao6 t193.length co6) t193) ∧ Aside0 (Kd.S k45 45 w' w.heap.size (fun _ => True) v198 t196) ∧ Aside0 (Below w.heap.size w w'))
    case atStart => exact ⟨(0), (0), (0), (0), (0), (by first | rfl | (simp; done) | (simp [*]; done)), (by first | rfl | (simp; done) | (simp [*]; done)), (by first | rfl | (simp; done) | (simp [*]; done)), (by first | rfl | (simp; done) | (simp [*]; done)), (by first | rfl | (simp; done) | (simp [*]; done)), H', ⟨Nat.le_refl _⟩, ⟨by (with_reducible repeat (first | apply Kd.R_alloc | apply Kd.R_drewN | apply Kd.R_drew)); exact HO195.out⟩, ⟨by (with_reducible repeat (first | apply Kd.S_alloc | apply Kd.S_drewN | apply Kd.S_drew)); exact HO199.out⟩, ⟨by repeat (first | (with_reducible first | exact HB.out | apply below_alloc | apply pw_below_drewN | apply below_drew1) | exact HB.out)⟩⟩
    case round =>
      clear H'
      try clear c1
      try clear p2
      try clear c4
      obtain ⟨x6_1, x7_1, x8_1, x9_1, x10_1, rfl, rfl, rfl, rfl, rfl, HA, HK1, HO_3, HO_4, HB⟩ := hrel
      cases gk with
      | zero => exact absurd HA.out (by simp [bagnallkeep_OutQuiet.l0])
      | succ k1 =>
        have H := HA.out
        clear HA
        simp only [bagnallkeep_OutQuiet.l0] at H
        by_cases c8 : x10_1 < (t193.length : Int)
        · rw [if_pos c8] at H
          have c8b0 : decide (x10_1 < (t193.length : Int)) = true := decide_eq_true c8
          clear c8
          by_cases c9 : 0 ≤ x10_1
          · rw [if_pos c9] at H
            have c9b0 : decide (0 ≤ x10_1) = true := decide_eq_true c9
            clear c9
            have HC10 := Aside0.mk H
            clear H
            have p200 : 0 ≤ (x10_1 : Int) := of_decide_eq_true (by first | (with_reducible assumption) | assumption)
            have q200 : x10_1 < (t193.length : Int) := of_decide_eq_true (by first | (with_reducible assumption) | assumption)
            obtain ⟨ad200, e200, hx200_0, hx200_1, hx200_2⟩ := at_T43 (Kd.R_reads' HO_3.out).2.2 x10_1 p200 q200
            cases e200
            replace p200 := eq_true p200
            replace q200 := eq_true q200
            go_upto_if 33 with (first | ((with_reducible refine gate_dst (N := 11) rfl ?_); refine box_event ?hg (N := 11) ?hd (cs := #[.int .i64 0, .string (⟨#[]⟩ : ByteArray), .int .i64 0]) (t := 43) ?hr ?_; (case hd => rfl); (case hg => rfl); (case hr => first | (go_simp; done) | (go_simp; rfl)); intro gb201 hg w11 hbox hb; have n0_ := Aside0.mk (Kd.R_below (Kd.R_elderB (by (with_reducible repeat (first | apply Kd.R_alloc | apply Kd.R_drewN | apply Kd.R_drew)); exact HO_3.out) gb201 (Nat.le_of_eq hg.symm)) hb); have n1_ := Aside0.mk (Kd.S_below (by (with_reducible repeat (first | apply Kd.S_alloc | apply Kd.S_drewN | apply Kd.S_drew)); exact HO_4.out) hb); have n2_ := Aside0.mk (below_step (by repeat (first | (with_reducible first | exact HB.out | apply below_alloc | apply pw_below_drewN | apply below_drew1) | exact HB.out)) hb); have n3_ := Aside0.mk (hbox); have n4_ := Aside0.mk ((by rw [hg]; exact (below_size (by repeat (first | (with_reducible first | exact HB.out | apply below_alloc | apply pw_below_drewN | apply below_drew1) | exact HB.out))) : w.heap.size ≤ gb201)); have n5_ := Aside0.mk ((by rw [hg]; exact (below_size (by repeat (first | (with_reducible first | exact HB.out | apply below_alloc | apply pw_below_drewN | apply below_drew1) | exact HB.out))) : w.heap.size ≤ gb201)); clear HO_3; clear HO_4; clear HB; have HO_3 := n0_; have HO_4 := n1_; have HB := n2_; have BK201 := n3_; have GW201 := n4_; have GE201 := n5_; clear n0_ n1_ n2_ n3_ n4_ n5_; clear hb hbox hg; have hcz12_0 : w11.cell? ⟨gb201, 0, none⟩ = some (.int .i64 0) := (blk_cell BK201.out 0).trans rfl; have hcz12_1 : w11.cell? ⟨gb201, 1, none⟩ = some (.string (⟨#[]⟩ : ByteArray)) := (blk_cell BK201.out 1).trans rfl; have hcz12_2 : w11.cell? ⟨gb201, 2, none⟩ = some (.int .i64 0) := (blk_cell BK201.out 2).trans rfl; have hfz12_0 := blk_frozen BK201.out 0; have hfz12_1 := blk_frozen BK201.out 1; have hfz12_2 := blk_frozen BK201.out 2))
            repeat (go_quiet (first | ((with_reducible refine gate_dst (N := 11) rfl ?_); refine box_event ?hg (N := 11) ?hd (cs := #[.int .i64 0, .string (⟨#[]⟩ : ByteArray), .int .i64 0]) (t := 43) ?hr ?_; (case hd => rfl); (case hg => rfl); (case hr => first | (go_simp; done) | (go_simp; rfl)); intro gb201 hg w11 hbox hb; have n0_ := Aside0.mk (Kd.R_below (Kd.R_elderB (by (with_reducible repeat (first | apply Kd.R_alloc | apply Kd.R_drewN | apply Kd.R_drew)); exact HO_3.out) gb201 (Nat.le_of_eq hg.symm)) hb); have n1_ := Aside0.mk (Kd.S_below (by (with_reducible repeat (first | apply Kd.S_alloc | apply Kd.S_drewN | apply Kd.S_drew)); exact HO_4.out) hb); have n2_ := Aside0.mk (below_step (by repeat (first | (with_reducible first | exact HB.out | apply below_alloc | apply pw_below_drewN | apply below_drew1) | exact HB.out)) hb); have n3_ := Aside0.mk (hbox); have n4_ := Aside0.mk ((by rw [hg]; exact (below_size (by repeat (first | (with_reducible first | exact HB.out | apply below_alloc | apply pw_below_drewN | apply below_drew1) | exact HB.out))) : w.heap.size ≤ gb201)); have n5_ := Aside0.mk ((by rw [hg]; exact (below_size (by repeat (first | (with_reducible first | exact HB.out | apply below_alloc | apply pw_below_drewN | apply below_drew1) | exact HB.out))) : w.heap.size ≤ gb201)); clear HO_3; clear HO_4; clear HB; have HO_3 := n0_; have HO_4 := n1_; have HB := n2_; have BK201 := n3_; have GW201 := n4_; have GE201 := n5_; clear n0_ n1_ n2_ n3_ n4_ n5_; clear hb hbox hg; have hcz12_0 : w11.cell? ⟨gb201, 0, none⟩ = some (.int .i64 0) := (blk_cell BK201.out 0).trans rfl; have hcz12_1 : w11.cell? ⟨gb201, 1, none⟩ = some (.string (⟨#[]⟩ : ByteArray)) := (blk_cell BK201.out 1).trans rfl; have hcz12_2 : w11.cell? ⟨gb201, 2, none⟩ = some (.int .i64 0) := (blk_cell BK201.out 2).trans rfl; have hfz12_0 := blk_frozen BK201.out 0; have hfz12_1 := blk_frozen BK201.out 1; have hfz12_2 := blk_frozen BK201.out 2)); go_upto_if 33 with (first | ((with_reducible refine gate_dst (N := 11) rfl ?_); refine box_event ?hg (N := 11) ?hd (cs := #[.int .i64 0, .string (⟨#[]⟩ : ByteArray), .int .i64 0]) (t := 43) ?hr ?_; (case hd => rfl); (case hg => rfl); (case hr => first | (go_simp; done) | (go_simp; rfl)); intro gb201 hg w11 hbox hb; have n0_ := Aside0.mk (Kd.R_below (Kd.R_elderB (by (with_reducible repeat (first | apply Kd.R_alloc | apply Kd.R_drewN | apply Kd.R_drew)); exact HO_3.out) gb201 (Nat.le_of_eq hg.symm)) hb); have n1_ := Aside0.mk (Kd.S_below (by (with_reducible repeat (first | apply Kd.S_alloc | apply Kd.S_drewN | apply Kd.S_drew)); exact HO_4.out) hb); have n2_ := Aside0.mk (below_step (by repeat (first | (with_reducible first | exact HB.out | apply below_alloc | apply pw_below_drewN | apply below_drew1) | exact HB.out)) hb); have n3_ := Aside0.mk (hbox); have n4_ := Aside0.mk ((by rw [hg]; exact (below_size (by repeat (first | (with_reducible first | exact HB.out | apply below_alloc | apply pw_below_drewN | apply below_drew1) | exact HB.out))) : w.heap.size ≤ gb201)); have n5_ := Aside0.mk ((by rw [hg]; exact (below_size (by repeat (first | (with_reducible first | exact HB.out | apply below_alloc | apply pw_below_drewN | apply below_drew1) | exact HB.out))) : w.heap.size ≤ gb201)); clear HO_3; clear HO_4; clear HB; have HO_3 := n0_; have HO_4 := n1_; have HB := n2_; have BK201 := n3_; have GW201 := n4_; have GE201 := n5_; clear n0_ n1_ n2_ n3_ n4_ n5_; clear hb hbox hg; have hcz12_0 : w11.cell? ⟨gb201, 0, none⟩ = some (.int .i64 0) := (blk_cell BK201.out 0).trans rfl; have hcz12_1 : w11.cell? ⟨gb201, 1, none⟩ = some (.string (⟨#[]⟩ : ByteArray)) := (blk_cell BK201.out 1).trans rfl; have hcz12_2 : w11.cell? ⟨gb201, 2, none⟩ = some (.int .i64 0) := (blk_cell BK201.out 2).trans rfl; have hfz12_0 := blk_frozen BK201.out 0; have hfz12_1 := blk_frozen BK201.out 1; have hfz12_2 := blk_frozen BK201.out 2)))
            (try simp only [Act.put, List.setIfInBounds_toArray, List.set_cons_zero, List.set_cons_succ])
            go_cut [8] (fun v8 wc => ∃ (kq : Nat) (x8_9 : Int), v8 = .int .i64 x8_9 ∧ Aside0 (bagnallkeep_OutQuiet.j1 kq t193 t196 x6_1 x7_1 x8_9 x9_1 x10_1 ((rd_T43 t193 x10_1).f0) ((rd_T43 t193 x10_1).f1) ((rd_T43 t193 x10_1).f2) = some r) ∧ Aside0 (kq ≤ k1) ∧ Aside0 (Kd.R k43 43 wc w.heap.size (fun k_ => k_ ≠ gb201) (.slice (some ad200) t193.length co6) t193) ∧ Aside0 (Kd.S k45 45 wc w.heap.size (fun _ => True) v198 t196) ∧ Aside0 (wc.heap[gb201]? = some (.cells #[.int .i64 ((rd_T43 t193 x10_1).f0), .string ((rd_T43 t193 x10_1).f1), .int .i64 ((rd_T43 t193 x10_1).f2)] 43 (0, 0))) ∧ Aside0 (Below w.heap.size w wc))
            case first =>
              have H := HC10.out
              clear HC10
              by_cases c13 : ((rd_T43 t193 x10_1).f0) = 2
              · rw [if_pos c13] at H
                have c13b0 : (((rd_T43 t193 x10_1).f0) == 2) = true := beq_iff_eq.mpr c13
                have c13b1 : (((rd_T43 t193 x10_1).f0) != 2) = false := bne_eq_false_iff_eq.mpr c13
                clear c13
                (first | rw [c13b0] | (simp only [i64_w, i32_w]; rw [c13b0]) | skip)
                have H' := Aside0.mk H
                clear H
                have hcz14_0 : w11.cell? ⟨gb201, 0, none⟩ = some (.int .i64 0) := (blk_cell BK201.out 0).trans rfl
                have hcz14_1 : w11.cell? ⟨gb201, 1, none⟩ = some (.string (⟨#[]⟩ : ByteArray)) := (blk_cell BK201.out 1).trans rfl
                have hcz14_2 : w11.cell? ⟨gb201, 2, none⟩ = some (.int .i64 0) := (blk_cell BK201.out 2).trans rfl
                have hfz14_0 := blk_frozen BK201.out 0
                have hfz14_1 := blk_frozen BK201.out 1
                have hfz14_2 := blk_frozen BK201.out 2
                go_wp2
                repeat (go_quiet (fail); try go_wp2)
                go_meet
                case rel => exact ⟨_, (wrap64 (x8_1 + ((rd_T43 t193 x10_1).f2))), (by first | rfl | (simp; done) | (simp [*]; done)), H', ⟨by have := HK1.out; first | omega | exact Nat.le_refl _⟩, ⟨by (with_reducible repeat (first | apply Kd.R_alloc | apply Kd.R_drewN | apply Kd.R_drew)); exact Kd.R_mono (Kd.R_far (p := ⟨gb201, 2, none⟩) (Kd.R_far (p := ⟨gb201, 1, none⟩) (Kd.R_far (p := ⟨gb201, 0, none⟩) (Kd.R_mono HO_3.out (fun k_ hk => (⟨hk, hk.2⟩ : _ ∧ k_ ≠ gb201))) (fun _ hk => hk.2) (.int .i64 ((rd_T43 t193 x10_1).f0))) (fun _ hk => hk.2) (.string ((rd_T43 t193 x10_1).f1))) (fun _ hk => hk.2) (.int .i64 ((rd_T43 t193 x10_1).f2))) (fun _ hk => hk.1.2)⟩, ⟨by (with_reducible repeat (first | apply Kd.S_alloc | apply Kd.S_drewN | apply Kd.S_drew)); exact Kd.S_mono (Kd.S_far (p := ⟨gb201, 2, none⟩) (Kd.S_far (p := ⟨gb201, 1, none⟩) (Kd.S_far (p := ⟨gb201, 0, none⟩) (Kd.S_types HO_4.out BK201.out (by decide)) (fun _ hk => hk.2) (.int .i64 ((rd_T43 t193 x10_1).f0))) (fun _ hk => hk.2) (.string ((rd_T43 t193 x10_1).f1))) (fun _ hk => hk.2) (.int .i64 ((rd_T43 t193 x10_1).f2))) (fun _ hk => trivial)⟩, ⟨by (with_reducible repeat (first | refine blk_drewN ?_ _ | refine blk_drew ?_ | refine blk_alloc ?_ _)); refine blk_put (cs := #[.int .i64 ((rd_T43 t193 x10_1).f0), .string ((rd_T43 t193 x10_1).f1), .int .i64 0]) ?_ 2 _ rfl; (with_reducible repeat (first | refine blk_drewN ?_ _ | refine blk_drew ?_ | refine blk_alloc ?_ _)); refine blk_put (cs := #[.int .i64 ((rd_T43 t193 x10_1).f0), .string (⟨#[]⟩ : ByteArray), .int .i64 0]) ?_ 1 _ rfl; (with_reducible repeat (first | refine blk_drewN ?_ _ | refine blk_drew ?_ | refine blk_alloc ?_ _)); refine blk_put (cs := #[.int .i64 0, .string (⟨#[]⟩ : ByteArray), .int .i64 0]) ?_ 0 _ rfl; (with_reducible repeat (first | refine blk_drewN ?_ _ | refine blk_drew ?_ | refine blk_alloc ?_ _)); exact BK201.out⟩, ⟨by repeat (first | (with_reducible first | exact HB.out | apply below_alloc | apply pw_below_drewN | apply below_drew1 | refine below_set ?_ GE201.out) | exact HB.out)⟩⟩
              · rw [if_neg c13] at H
                have c13b0 : (((rd_T43 t193 x10_1).f0) == 2) = false := beq_eq_false_iff_ne.mpr c13
                have c13b1 : (((rd_T43 t193 x10_1).f0) != 2) = true := bne_iff_ne.mpr c13
                (first | rw [c13b0] | (simp only [i64_w, i32_w]; rw [c13b0]) | skip)
                have H' := Aside0.mk H
                clear H
                go_wp2
                repeat (go_quiet (fail); try go_wp2)
                go_meet
                case rel => exact ⟨_, (x8_1), (by first | rfl | (simp; done) | (simp [*]; done)), H', ⟨by have := HK1.out; first | omega | exact Nat.le_refl _⟩, ⟨by (with_reducible repeat (first | apply Kd.R_alloc | apply Kd.R_drewN | apply Kd.R_drew)); exact Kd.R_mono (Kd.R_far (p := ⟨gb201, 2, none⟩) (Kd.R_far (p := ⟨gb201, 1, none⟩) (Kd.R_far (p := ⟨gb201, 0, none⟩) (Kd.R_mono HO_3.out (fun k_ hk => (⟨hk, hk.2⟩ : _ ∧ k_ ≠ gb201))) (fun _ hk => hk.2) (.int .i64 ((rd_T43 t193 x10_1).f0))) (fun _ hk => hk.2) (.string ((rd_T43 t193 x10_1).f1))) (fun _ hk => hk.2) (.int .i64 ((rd_T43 t193 x10_1).f2))) (fun _ hk => hk.1.2)⟩, ⟨by (with_reducible repeat (first | apply Kd.S_alloc | apply Kd.S_drewN | apply Kd.S_drew)); exact Kd.S_mono (Kd.S_far (p := ⟨gb201, 2, none⟩) (Kd.S_far (p := ⟨gb201, 1, none⟩) (Kd.S_far (p := ⟨gb201, 0, none⟩) (Kd.S_types HO_4.out BK201.out (by decide)) (fun _ hk => hk.2) (.int .i64 ((rd_T43 t193 x10_1).f0))) (fun _ hk => hk.2) (.string ((rd_T43 t193 x10_1).f1))) (fun _ hk => hk.2) (.int .i64 ((rd_T43 t193 x10_1).f2))) (fun _ hk => trivial)⟩, ⟨by (with_reducible repeat (first | refine blk_drewN ?_ _ | refine blk_drew ?_ | refine blk_alloc ?_ _)); refine blk_put (cs := #[.int .i64 ((rd_T43 t193 x10_1).f0), .string ((rd_T43 t193 x10_1).f1), .int .i64 0]) ?_ 2 _ rfl; (with_reducible repeat (first | refine blk_drewN ?_ _ | refine blk_drew ?_ | refine blk_alloc ?_ _)); refine blk_put (cs := #[.int .i64 ((rd_T43 t193 x10_1).f0), .string (⟨#[]⟩ : ByteArray), .int .i64 0]) ?_ 1 _ rfl; (with_reducible repeat (first | refine blk_drewN ?_ _ | refine blk_drew ?_ | refine blk_alloc ?_ _)); refine blk_put (cs := #[.int .i64 0, .string (⟨#[]⟩ : ByteArray), .int .i64 0]) ?_ 0 _ rfl; (with_reducible repeat (first | refine blk_drewN ?_ _ | refine blk_drew ?_ | refine blk_alloc ?_ _)); exact BK201.out⟩, ⟨by repeat (first | (with_reducible first | exact HB.out | apply below_alloc | apply pw_below_drewN | apply below_drew1 | refine below_set ?_ GE201.out) | exact HB.out)⟩⟩
            case rest =>
              clear HC10
              try clear c1
              try clear p2
              try clear q2
              try clear hx2
              try clear c4
              try clear p6
              try clear c8
              try clear c8b0
              try clear c9
              try clear c9b0
              try clear c10
              try clear c13
              try clear c13b0
              try clear c13b1
              try clear hcz12_0
              try clear hcz12_1
              try clear hcz12_2
              try clear hcz14_0
              try clear hcz14_1
              try clear hcz14_2
              try clear hfz12_0
              try clear hfz12_1
              try clear hfz12_2
              try clear hfz14_0
              try clear hfz14_1
              try clear hfz14_2
              try clear hx200_0
              try clear hx200_1
              try clear hx200_2
              try clear p2
              try clear p200
              try clear q200
              obtain ⟨kq, x8_9, rfl, HA, HJ9, HO_3, HO_4, BK201, HB⟩ := hcut
              cases kq with
              | zero => exact absurd HA.out (by simp [bagnallkeep_OutQuiet.j1])
              | succ kj9 =>
                have H := HA.out
                clear HA
                simp only [bagnallkeep_OutQuiet.j1] at H
                by_cases c15 : 0 ≤ x10_1
                · rw [if_pos c15] at H
                  have c15b0 : decide (0 ≤ x10_1) = true := decide_eq_true c15
                  clear c15
                  by_cases c16 : x10_1 < (t196.length : Int)
                  · rw [if_pos c16] at H
                    have c16b0 : decide (x10_1 < (t196.length : Int)) = true := decide_eq_true c16
                    clear c16
                    have HC17 := Aside0.mk H
                    clear H
                    obtain ⟨Ao18, co18, eo18⟩ := Kd.S_slice HO_4.out
                    subst eo18
                    have p202 : 0 ≤ (x10_1 : Int) := of_decide_eq_true (by first | (with_reducible assumption) | assumption)
                    have q202 : x10_1 < (t196.length : Int) := of_decide_eq_true (by first | (with_reducible assumption) | assumption)
                    obtain ⟨ad202, A202_2, c202_2, e202, hx202_0, hx202_1, hx202_2, hl202_2, hi202_2⟩ := at_T45 (Kd.S_reads' HO_4.out).2.2 x10_1 p202 q202
                    cases e202
                    obtain ⟨ce202, hce202, hMe202, hcc202⟩ := Kd.S_get HO_4.out z45 x10_1 p202 (by first | exact q202 | exact of_decide_eq_true (by first | (with_reducible assumption) | assumption) | (have e_ := (Kd.S_reads' HO_4.out).1; omega))
                    obtain ⟨ve202_2, rfl, ge202_2⟩ := k45_openM hMe202
                    have hv202_2 := hcc202 2 _ rfl
                    rw [add_field _ _ 2 (by omega)] at hv202_2
                    replace hv202_2 := Option.some.inj (hv202_2.symm.trans hx202_2)
                    rw [hv202_2] at ge202_2
                    have HL202_2 := Aside0.mk (show Kd.R Kd.string 9 _ _ _ _ ((rd_T45 t196 x10_1).f2) from ge202_2)
                    clear hv202_2 ge202_2
                    clear hcc202 hce202
                    have HR202_2 := Aside0.mk hi202_2
                    have HC202_2 := Aside0.mk hl202_2
                    clear hi202_2 hl202_2
                    replace p202 := eq_true p202
                    replace q202 := eq_true q202
                    go_upto_if 43 with (fail)
                    repeat (go_quiet (fail); go_upto_if 43 with (fail))
                    go_cut [6] (fun v6 wc => ∃ (kq : Nat) (x6_16 : Int), v6 = .int .i64 x6_16 ∧ Aside0 (bagnallkeep_OutQuiet.j2 kq t193 t196 x6_16 x7_1 x8_9 x9_1 x10_1 ((rd_T43 t193 x10_1).f0) ((rd_T43 t193 x10_1).f1) ((rd_T43 t193 x10_1).f2) = some r) ∧ Aside0 (kq ≤ kj9) ∧ Aside0 (Kd.R k43 43 wc w.heap.size (fun k_ => k_ ≠ gb201) (.slice (some ad200) t193.length co6) t193) ∧ Aside0 (Kd.S k45 45 wc w.heap.size (fun _ => True) (.slice (some ad202) t196.length co18) t196) ∧ Aside0 (wc.heap[gb201]? = some (.cells #[.int .i64 ((rd_T43 t193 x10_1).f0), .string ((rd_T43 t193 x10_1).f1), .int .i64 ((rd_T43 t193 x10_1).f2)] 43 (0, 0))) ∧ Aside0 (Kd.C Kd.string wc A202_2 ((rd_T45 t196 x10_1).f2).length ((rd_T45 t196 x10_1).f2)) ∧ Aside0 (Below w.heap.size w wc))
                    case first =>
                      have H := HC17.out
                      clear HC17
                      by_cases c19 : ((rd_T45 t196 x10_1).f1) > 0
                      · rw [if_pos c19] at H
                        have c19b0 : decide (0 < ((rd_T45 t196 x10_1).f1)) = true := decide_eq_true c19
                        clear c19
                        (first | rw [c19b0] | (simp only [i64_w, i32_w]; rw [c19b0]) | skip)
                        by_cases c20 : x6_1 > 0
                        · rw [if_pos c20] at H
                          have c20b0 : decide (0 < x6_1) = true := decide_eq_true c20
                          clear c20
                          obtain rfl := Option.some.inj H
                          go_wp2
                          repeat (go_quiet (fail); try go_wp2)
                          go_ret
                          exact ⟨by first | rfl | (simp [errW_none, errW_some] <;> rfl) | (simp [*, errW_none, errW_some] <;> rfl), by repeat (first | (with_reducible first | exact HB.out | apply below_alloc | apply pw_below_drewN | apply below_drew1 | refine below_set ?_ GE201.out) | exact HB.out)⟩
                        · rw [if_neg c20] at H
                          have c20b0 : decide (0 < x6_1) = false := decide_eq_false c20
                          clear c20
                          by_cases c21 : x8_9 < x9_1
                          · rw [if_pos c21] at H
                            have c21b0 : decide (x8_9 < x9_1) = true := decide_eq_true c21
                            clear c21
                            obtain rfl := Option.some.inj H
                            go_wp2
                            repeat (go_quiet (fail); try go_wp2)
                            go_ret
                            exact ⟨by first | rfl | (simp [errW_none, errW_some] <;> rfl) | (simp [*, errW_none, errW_some] <;> rfl), by repeat (first | (with_reducible first | exact HB.out | apply below_alloc | apply pw_below_drewN | apply below_drew1 | refine below_set ?_ GE201.out) | exact HB.out)⟩
                          · rw [if_neg c21] at H
                            have c21b0 : decide (x8_9 < x9_1) = false := decide_eq_false c21
                            clear c21
                            have H' := Aside0.mk H
                            clear H
                            have p203 : 0 ≤ (x10_1 : Int) := of_decide_eq_true (by first | (with_reducible assumption) | assumption)
                            have q203 : x10_1 < (t196.length : Int) := of_decide_eq_true (by first | (with_reducible assumption) | assumption)
                            obtain ⟨ad203, A203_2, c203_2, e203, hx203_0, hx203_1, hx203_2, hl203_2, hi203_2⟩ := at_T45 (Kd.S_reads' HO_4.out).2.2 x10_1 p203 q203
                            obtain rfl : ad202 = ad203 := (by injection e203)
                            obtain ⟨ce203, hce203, hMe203, hcc203⟩ := Kd.S_get HO_4.out z45 x10_1 p203 (by first | exact q203 | exact of_decide_eq_true (by first | (with_reducible assumption) | assumption) | (have e_ := (Kd.S_reads' HO_4.out).1; omega))
                            obtain ⟨ve203_2, rfl, ge203_2⟩ := k45_openM hMe203
                            have hv203_2 := hcc203 2 _ rfl
                            rw [add_field _ _ 2 (by omega)] at hv203_2
                            replace hv203_2 := Option.some.inj (hv203_2.symm.trans hx203_2)
                            rw [hv203_2] at ge203_2
                            have HL203_2 := Aside0.mk (show Kd.R Kd.string 9 _ _ _ _ ((rd_T45 t196 x10_1).f2) from ge203_2)
                            clear hv203_2 ge203_2
                            clear hcc203 hce203
                            have HR203_2 := Aside0.mk hi203_2
                            have HC203_2 := Aside0.mk hl203_2
                            clear hi203_2 hl203_2
                            replace p203 := eq_true p203
                            replace q203 := eq_true q203
                            go_wp2
                            repeat (go_quiet (fail); try go_wp2)
                            go_meet
                            case rel => exact ⟨_, ((rd_T45 t196 x10_1).f1), (by first | rfl | (simp; done) | (simp [*]; done)), H', ⟨by have := HK1.out; have := HJ9.out; first | omega | exact Nat.le_refl _⟩, ⟨by (with_reducible repeat (first | apply Kd.R_alloc | apply Kd.R_drewN | apply Kd.R_drew)); exact HO_3.out⟩, ⟨by (with_reducible repeat (first | apply Kd.S_alloc | apply Kd.S_drewN | apply Kd.S_drew)); exact HO_4.out⟩, ⟨by (with_reducible repeat (first | refine blk_drewN ?_ _ | refine blk_drew ?_ | refine blk_alloc ?_ _)); exact BK201.out⟩, ⟨by repeat (first | (with_reducible exact HR202_2.out) | (with_reducible refine Kd.C_alloc ?_ _) | (with_reducible refine Kd.C_drewN ?_ _) | (with_reducible refine Kd.C_drew ?_) | exact HR202_2.out)⟩, ⟨by repeat (first | (with_reducible first | exact HB.out | apply below_alloc | apply pw_below_drewN | apply below_drew1 | refine below_set ?_ GE201.out) | exact HB.out)⟩⟩
                      · rw [if_neg c19] at H
                        have c19b0 : decide (0 < ((rd_T45 t196 x10_1).f1)) = false := decide_eq_false c19
                        clear c19
                        (first | rw [c19b0] | (simp only [i64_w, i32_w]; rw [c19b0]) | skip)
                        have H' := Aside0.mk H
                        clear H
                        go_wp2
                        repeat (go_quiet (fail); try go_wp2)
                        go_meet
                        case rel => exact ⟨_, (x6_1), (by first | rfl | (simp; done) | (simp [*]; done)), H', ⟨by have := HK1.out; have := HJ9.out; first | omega | exact Nat.le_refl _⟩, ⟨by (with_reducible repeat (first | apply Kd.R_alloc | apply Kd.R_drewN | apply Kd.R_drew)); exact HO_3.out⟩, ⟨by (with_reducible repeat (first | apply Kd.S_alloc | apply Kd.S_drewN | apply Kd.S_drew)); exact HO_4.out⟩, ⟨by (with_reducible repeat (first | refine blk_drewN ?_ _ | refine blk_drew ?_ | refine blk_alloc ?_ _)); exact BK201.out⟩, ⟨by repeat (first | (with_reducible exact HR202_2.out) | (with_reducible refine Kd.C_alloc ?_ _) | (with_reducible refine Kd.C_drewN ?_ _) | (with_reducible refine Kd.C_drew ?_) | exact HR202_2.out)⟩, ⟨by repeat (first | (with_reducible first | exact HB.out | apply below_alloc | apply pw_below_drewN | apply below_drew1 | refine below_set ?_ GE201.out) | exact HB.out)⟩⟩
                    case rest =>
                      clear HC17
                      try clear c1
                      try clear c2
                      try clear p2
                      try clear q2
                      try clear hx2
                      try clear c4
                      try clear p6
                      try clear c8
                      try clear c8b0
                      try clear c9
                      try clear c9b0
                      try clear c10
                      try clear c13
                      try clear c13b0
                      try clear c13b1
                      try clear c15
                      try clear c15b0
                      try clear c16
                      try clear c16b0
                      try clear c19
                      try clear c19b0
                      try clear c20
                      try clear c20b0
                      try clear p20
                      try clear q20
                      try clear hx20
                      try clear c21
                      try clear c21b0
                      try clear hcz12_0
                      try clear hcz12_1
                      try clear hcz12_2
                      try clear hcz14_0
                      try clear hcz14_1
                      try clear hcz14_2
                      try clear hfz12_0
                      try clear hfz12_1
                      try clear hfz12_2
                      try clear hfz14_0
                      try clear hfz14_1
                      try clear hfz14_2
                      try clear hx200_0
                      try clear hx200_1
                      try clear hx200_2
                      try clear hx202_0
                      try clear hx202_1
                      try clear hx202_2
                      try clear hx203_0
                      try clear hx203_1
                      try clear hx203_2
                      try clear p2
                      try clear p200
                      try clear p202
                      try clear p203
                      try clear p6
                      try clear q2
                      try clear q200
                      try clear q202
                      try clear q203
                      obtain ⟨kq, x6_16, rfl, HA, HJ16, HO_3, HO_4, BK201, HR202_2, HB⟩ := hcut
                      cases kq with
                      | zero => exact absurd HA.out (by simp [bagnallkeep_OutQuiet.j2])
                      | succ kj16 =>
                        have H := HA.out
                        clear HA
                        simp only [bagnallkeep_OutQuiet.j2] at H
                        have HC22 := Aside0.mk H
                        clear H
                        go_upto_region 19 with (fail)
                        repeat (go_quiet (fail); go_upto_region 19 with (fail))
                        go_cut [63] (fun v63 wc => ∃ (kq : Nat) (x63_21 : Bool), v63 = .bool x63_21 ∧ Aside0 (bagnallkeep_OutQuiet.j3 kq t193 t196 x6_16 x7_1 x8_9 x9_1 x10_1 x63_21 ((rd_T43 t193 x10_1).f0) ((rd_T43 t193 x10_1).f1) ((rd_T43 t193 x10_1).f2) = some r) ∧ Aside0 (kq ≤ kj16) ∧ Aside0 (Kd.R k43 43 wc w.heap.size (fun k_ => k_ ≠ gb201) (.slice (some ad200) t193.length co6) t193) ∧ Aside0 (Kd.S k45 45 wc w.heap.size (fun _ => True) (.slice (some ad202) t196.length co18) t196) ∧ Aside0 (wc.heap[gb201]? = some (.cells #[.int .i64 ((rd_T43 t193 x10_1).f0), .string ((rd_T43 t193 x10_1).f1), .int .i64 ((rd_T43 t193 x10_1).f2)] 43 (0, 0))) ∧ Aside0 (Kd.C Kd.string wc A202_2 ((rd_T45 t196 x10_1).f2).length ((rd_T45 t196 x10_1).f2)) ∧ Aside0 (Below w.heap.size w wc))
                        case first =>
                          have H := HC22.out
                          clear HC22
                          by_cases c23 : ((rd_T43 t193 x10_1).f0) = 3
                          · rw [if_pos c23] at H
                            have c23b0 : (((rd_T43 t193 x10_1).f0) == 3) = true := beq_iff_eq.mpr c23
                            have c23b1 : (((rd_T43 t193 x10_1).f0) != 3) = false := bne_eq_false_iff_eq.mpr c23
                            clear c23
                            (first | rw [c23b0] | (simp only [i64_w, i32_w]; rw [c23b0]) | skip)
                            have H' := Aside0.mk H
                            clear H
                            have hcz24_0 : wc.cell? ⟨gb201, 0, none⟩ = some (.int .i64 ((rd_T43 t193 x10_1).f0)) := (blk_cell BK201.out 0).trans rfl
                            have hcz24_1 : wc.cell? ⟨gb201, 1, none⟩ = some (.string ((rd_T43 t193 x10_1).f1)) := (blk_cell BK201.out 1).trans rfl
                            have hcz24_2 : wc.cell? ⟨gb201, 2, none⟩ = some (.int .i64 ((rd_T43 t193 x10_1).f2)) := (blk_cell BK201.out 2).trans rfl
                            have hfz24_0 := blk_frozen BK201.out 0
                            have hfz24_1 := blk_frozen BK201.out 1
                            have hfz24_2 := blk_frozen BK201.out 2
                            go_wp2
                            repeat (go_quiet (fail); try go_wp2)
                            go_meet
                            case rel => exact ⟨_, (true), (by first | rfl | (simp; done) | (simp [*]; done)), H', ⟨by have := HK1.out; have := HJ9.out; have := HJ16.out; first | omega | exact Nat.le_refl _⟩, ⟨by (with_reducible repeat (first | apply Kd.R_alloc | apply Kd.R_drewN | apply Kd.R_drew)); exact HO_3.out⟩, ⟨by (with_reducible repeat (first | apply Kd.S_alloc | apply Kd.S_drewN | apply Kd.S_drew)); exact HO_4.out⟩, ⟨by (with_reducible repeat (first | refine blk_drewN ?_ _ | refine blk_drew ?_ | refine blk_alloc ?_ _)); exact BK201.out⟩, ⟨by repeat (first | (with_reducible exact HR202_2.out) | (with_reducible refine Kd.C_alloc ?_ _) | (with_reducible refine Kd.C_drewN ?_ _) | (with_reducible refine Kd.C_drew ?_) | exact HR202_2.out)⟩, ⟨by repeat (first | (with_reducible first | exact HB.out | apply below_alloc | apply pw_below_drewN | apply below_drew1 | refine below_set ?_ GE201.out) | exact HB.out)⟩⟩
                          · rw [if_neg c23] at H
                            have c23b0 : (((rd_T43 t193 x10_1).f0) == 3) = false := beq_eq_false_iff_ne.mpr c23
                            have c23b1 : (((rd_T43 t193 x10_1).f0) != 3) = true := bne_iff_ne.mpr c23
                            (first | rw [c23b0] | (simp only [i64_w, i32_w]; rw [c23b0]) | skip)
                            have H' := Aside0.mk H
                            clear H
                            have hcz25_0 : wc.cell? ⟨gb201, 0, none⟩ = some (.int .i64 ((rd_T43 t193 x10_1).f0)) := (blk_cell BK201.out 0).trans rfl
                            have hcz25_1 : wc.cell? ⟨gb201, 1, none⟩ = some (.string ((rd_T43 t193 x10_1).f1)) := (blk_cell BK201.out 1).trans rfl
                            have hcz25_2 : wc.cell? ⟨gb201, 2, none⟩ = some (.int .i64 ((rd_T43 t193 x10_1).f2)) := (blk_cell BK201.out 2).trans rfl
                            have hfz25_0 := blk_frozen BK201.out 0
                            have hfz25_1 := blk_frozen BK201.out 1
                            have hfz25_2 := blk_frozen BK201.out 2
                            go_wp2
                            repeat (go_quiet (fail); try go_wp2)
                            go_meet
                            case rel => exact ⟨_, ((((rd_T43 t193 x10_1).f0) == 4)), (by first | rfl | (simp; done) | (simp [*]; done)), H', ⟨by have := HK1.out; have := HJ9.out; have := HJ16.out; first | omega | exact Nat.le_refl _⟩, ⟨by (with_reducible repeat (first | apply Kd.R_alloc | apply Kd.R_drewN | apply Kd.R_drew)); exact HO_3.out⟩, ⟨by (with_reducible repeat (first | apply Kd.S_alloc | apply Kd.S_drewN | apply Kd.S_drew)); exact HO_4.out⟩, ⟨by (with_reducible repeat (first | refine blk_drewN ?_ _ | refine blk_drew ?_ | refine blk_alloc ?_ _)); exact BK201.out⟩, ⟨by repeat (first | (with_reducible exact HR202_2.out) | (with_reducible refine Kd.C_alloc ?_ _) | (with_reducible refine Kd.C_drewN ?_ _) | (with_reducible refine Kd.C_drew ?_) | exact HR202_2.out)⟩, ⟨by repeat (first | (with_reducible first | exact HB.out | apply below_alloc | apply pw_below_drewN | apply below_drew1 | refine below_set ?_ GE201.out) | exact HB.out)⟩⟩
                        case rest =>
                          clear HC22
                          try clear c1
                          try clear c2
                          try clear p2
                          try clear q2
                          try clear hx2
                          try clear c4
                          try clear p6
                          try clear c8
                          try clear c8b0
                          try clear c9
                          try clear c9b0
                          try clear c10
                          try clear c13
                          try clear c13b0
                          try clear c13b1
                          try clear c15
                          try clear c15b0
                          try clear c16
                          try clear c16b0
                          try clear c19
                          try clear c19b0
                          try clear c20
                          try clear c20b0
                          try clear p20
                          try clear q20
                          try clear hx20
                          try clear c21
                          try clear c21b0
                          try clear c23
                          try clear c23b0
                          try clear c23b1
                          try clear hcz12_0
                          try clear hcz12_1
                          try clear hcz12_2
                          try clear hcz14_0
                          try clear hcz14_1
                          try clear hcz14_2
                          try clear hcz24_0
                          try clear hcz24_1
                          try clear hcz24_2
                          try clear hcz25_0
                          try clear hcz25_1
                          try clear hcz25_2
                          try clear hfz12_0
                          try clear hfz12_1
                          try clear hfz12_2
                          try clear hfz14_0
                          try clear hfz14_1
                          try clear hfz14_2
                          try clear hfz24_0
                          try clear hfz24_1
                          try clear hfz24_2
                          try clear hfz25_0
                          try clear hfz25_1
                          try clear hfz25_2
                          try clear hx200_0
                          try clear hx200_1
                          try clear hx200_2
                          try clear hx202_0
                          try clear hx202_1
                          try clear hx202_2
                          try clear hx203_0
                          try clear hx203_1
                          try clear hx203_2
                          try clear p2
                          try clear p20
                          try clear p200
                          try clear p202
                          try clear p203
                          try clear p6
                          try clear q2
                          try clear q20
                          try clear q200
                          try clear q202
                          try clear q203
                          obtain ⟨kq, x63_21, rfl, HA, HJ21, HO_3, HO_4, BK201, HR202_2, HB⟩ := hcut
                          cases kq with
                          | zero => exact absurd HA.out (by simp [bagnallkeep_OutQuiet.j3])
                          | succ kj21 =>
                            have H := HA.out
                            clear HA
                            simp only [bagnallkeep_OutQuiet.j3] at H
                            by_cases c26 : x63_21 = true
                            · subst c26
                              have H1 : (if 0 ≤ x10_1 then (if x10_1 < (t196.length : Int) then (if x6_16 > 0 then (bagnallkeep_OutQuiet.j4 kj21 t193 t196 x6_16 x7_1 x8_9 x9_1 x10_1 ((((rd_T45 t196 x10_1).f0) == 0) != (((rd_T43 t193 x10_1).f2) == x6_16)) ((rd_T43 t193 x10_1).f0) ((rd_T43 t193 x10_1).f1) ((rd_T43 t193 x10_1).f2)) else (bagnallkeep_OutQuiet.j4 kj21 t193 t196 x6_16 x7_1 x8_9 x9_1 x10_1 ((((rd_T45 t196 x10_1).f0) == 0) != false) ((rd_T43 t193 x10_1).f0) ((rd_T43 t193 x10_1).f1) ((rd_T43 t193 x10_1).f2))) else (none)) else (none)) = some r := by rw [if_pos rfl] at H; exact H
                              clear H
                              have H := H1
                              clear H1
                              have HC27 := Aside0.mk H
                              clear H
                              go_upto_region 20 with (fail)
                              repeat (go_quiet (fail); go_upto_region 20 with (fail))
                              go_cut [78] (fun v78 wc => ∃ (kq : Nat) (x78_26 : Bool), v78 = .bool x78_26 ∧ Aside0 (bagnallkeep_OutQuiet.j4 kq t193 t196 x6_16 x7_1 x8_9 x9_1 x10_1 x78_26 ((rd_T43 t193 x10_1).f0) ((rd_T43 t193 x10_1).f1) ((rd_T43 t193 x10_1).f2) = some r) ∧ Aside0 (kq ≤ kj21) ∧ Aside0 (Kd.R k43 43 wc w.heap.size (fun k_ => k_ ≠ gb201) (.slice (some ad200) t193.length co6) t193) ∧ Aside0 (Kd.S k45 45 wc w.heap.size (fun _ => True) (.slice (some ad202) t196.length co18) t196) ∧ Aside0 (wc.heap[gb201]? = some (.cells #[.int .i64 ((rd_T43 t193 x10_1).f0), .string ((rd_T43 t193 x10_1).f1), .int .i64 ((rd_T43 t193 x10_1).f2)] 43 (0, 0))) ∧ Aside0 (Kd.C Kd.string wc A202_2 ((rd_T45 t196 x10_1).f2).length ((rd_T45 t196 x10_1).f2)) ∧ Aside0 (Below w.heap.size w wc))
                              case first =>
                                have H := HC27.out
                                clear HC27
                                by_cases c28 : 0 ≤ x10_1
                                · rw [if_pos c28] at H
                                  have c28b0 : decide (0 ≤ x10_1) = true := decide_eq_true c28
                                  clear c28
                                  (first | rw [c28b0] | (simp only [i64_w, i32_w]; rw [c28b0]) | skip)
                                  by_cases c29 : x10_1 < (t196.length : Int)
                                  · rw [if_pos c29] at H
                                    have c29b0 : decide (x10_1 < (t196.length : Int)) = true := decide_eq_true c29
                                    clear c29
                                    by_cases c30 : x6_16 > 0
                                    · rw [if_pos c30] at H
                                      have c30b0 : decide (0 < x6_16) = true := decide_eq_true c30
                                      clear c30
                                      have H' := Aside0.mk H
                                      clear H
                                      have p204 : 0 ≤ (x10_1 : Int) := of_decide_eq_true (by first | (with_reducible assumption) | assumption)
                                      have q204 : x10_1 < (t196.length : Int) := of_decide_eq_true (by first | (with_reducible assumption) | assumption)
                                      obtain ⟨ad204, A204_2, c204_2, e204, hx204_0, hx204_1, hx204_2, hl204_2, hi204_2⟩ := at_T45 (Kd.S_reads' HO_4.out).2.2 x10_1 p204 q204
                                      obtain rfl : ad202 = ad204 := (by injection e204)
                                      obtain ⟨ce204, hce204, hMe204, hcc204⟩ := Kd.S_get HO_4.out z45 x10_1 p204 (by first | exact q204 | exact of_decide_eq_true (by first | (with_reducible assumption) | assumption) | (have e_ := (Kd.S_reads' HO_4.out).1; omega))
                                      obtain ⟨ve204_2, rfl, ge204_2⟩ := k45_openM hMe204
                                      have hv204_2 := hcc204 2 _ rfl
                                      rw [add_field _ _ 2 (by omega)] at hv204_2
                                      replace hv204_2 := Option.some.inj (hv204_2.symm.trans hx204_2)
                                      rw [hv204_2] at ge204_2
                                      have HL204_2 := Aside0.mk (show Kd.R Kd.string 9 _ _ _ _ ((rd_T45 t196 x10_1).f2) from ge204_2)
                                      clear hv204_2 ge204_2
                                      clear hcc204 hce204
                                      have HR204_2 := Aside0.mk hi204_2
                                      have HC204_2 := Aside0.mk hl204_2
                                      clear hi204_2 hl204_2
                                      replace p204 := eq_true p204
                                      replace q204 := eq_true q204
                                      have hcz31_0 : wc.cell? ⟨gb201, 0, none⟩ = some (.int .i64 ((rd_T43 t193 x10_1).f0)) := (blk_cell BK201.out 0).trans rfl
                                      have hcz31_1 : wc.cell? ⟨gb201, 1, none⟩ = some (.string ((rd_T43 t193 x10_1).f1)) := (blk_cell BK201.out 1).trans rfl
                                      have hcz31_2 : wc.cell? ⟨gb201, 2, none⟩ = some (.int .i64 ((rd_T43 t193 x10_1).f2)) := (blk_cell BK201.out 2).trans rfl
                                      have hfz31_0 := blk_frozen BK201.out 0
                                      have hfz31_1 := blk_frozen BK201.out 1
                                      have hfz31_2 := blk_frozen BK201.out 2
                                      go_wp2
                                      repeat (go_quiet (fail); try go_wp2)
                                      go_meet
                                      case rel => exact ⟨_, (((((rd_T45 t196 x10_1).f0) == 0) != (((rd_T43 t193 x10_1).f2) == x6_16))), (by first | rfl | (simp; done) | (simp [*]; done)), H', ⟨by have := HK1.out; have := HJ9.out; have := HJ16.out; have := HJ21.out; first | omega | exact Nat.le_refl _⟩, ⟨by (with_reducible repeat (first | apply Kd.R_alloc | apply Kd.R_drewN | apply Kd.R_drew)); exact HO_3.out⟩, ⟨by (with_reducible repeat (first | apply Kd.S_alloc | apply Kd.S_drewN | apply Kd.S_drew)); exact HO_4.out⟩, ⟨by (with_reducible repeat (first | refine blk_drewN ?_ _ | refine blk_drew ?_ | refine blk_alloc ?_ _)); exact BK201.out⟩, ⟨by repeat (first | (with_reducible exact HR202_2.out) | (with_reducible refine Kd.C_alloc ?_ _) | (with_reducible refine Kd.C_drewN ?_ _) | (with_reducible refine Kd.C_drew ?_) | exact HR202_2.out)⟩, ⟨by repeat (first | (with_reducible first | exact HB.out | apply below_alloc | apply pw_below_drewN | apply below_drew1 | refine below_set ?_ GE201.out) | exact HB.out)⟩⟩
                                    · rw [if_neg c30] at H
                                      have c30b0 : decide (0 < x6_16) = false := decide_eq_false c30
                                      clear c30
                                      have H' := Aside0.mk H
                                      clear H
                                      have p204 : 0 ≤ (x10_1 : Int) := of_decide_eq_true (by first | (with_reducible assumption) | assumption)
                                      have q204 : x10_1 < (t196.length : Int) := of_decide_eq_true (by first | (with_reducible assumption) | assumption)
                                      obtain ⟨ad204, A204_2, c204_2, e204, hx204_0, hx204_1, hx204_2, hl204_2, hi204_2⟩ := at_T45 (Kd.S_reads' HO_4.out).2.2 x10_1 p204 q204
                                      obtain rfl : ad202 = ad204 := (by injection e204)
                                      obtain ⟨ce204, hce204, hMe204, hcc204⟩ := Kd.S_get HO_4.out z45 x10_1 p204 (by first | exact q204 | exact of_decide_eq_true (by first | (with_reducible assumption) | assumption) | (have e_ := (Kd.S_reads' HO_4.out).1; omega))
                                      obtain ⟨ve204_2, rfl, ge204_2⟩ := k45_openM hMe204
                                      have hv204_2 := hcc204 2 _ rfl
                                      rw [add_field _ _ 2 (by omega)] at hv204_2
                                      replace hv204_2 := Option.some.inj (hv204_2.symm.trans hx204_2)
                                      rw [hv204_2] at ge204_2
                                      have HL204_2 := Aside0.mk (show Kd.R Kd.string 9 _ _ _ _ ((rd_T45 t196 x10_1).f2) from ge204_2)
                                      clear hv204_2 ge204_2
                                      clear hcc204 hce204
                                      have HR204_2 := Aside0.mk hi204_2
                                      have HC204_2 := Aside0.mk hl204_2
                                      clear hi204_2 hl204_2
                                      replace p204 := eq_true p204
                                      replace q204 := eq_true q204
                                      go_wp2
                                      repeat (go_quiet (fail); try go_wp2)
                                      go_meet
                                      case rel => exact ⟨_, (((((rd_T45 t196 x10_1).f0) == 0) != false)), (by first | rfl | (simp; done) | (simp [*]; done)), H', ⟨by have := HK1.out; have := HJ9.out; have := HJ16.out; have := HJ21.out; first | omega | exact Nat.le_refl _⟩, ⟨by (with_reducible repeat (first | apply Kd.R_alloc | apply Kd.R_drewN | apply Kd.R_drew)); exact HO_3.out⟩, ⟨by (with_reducible repeat (first | apply Kd.S_alloc | apply Kd.S_drewN | apply Kd.S_drew)); exact HO_4.out⟩, ⟨by (with_reducible repeat (first | refine blk_drewN ?_ _ | refine blk_drew ?_ | refine blk_alloc ?_ _)); exact BK201.out⟩, ⟨by repeat (first | (with_reducible exact HR202_2.out) | (with_reducible refine Kd.C_alloc ?_ _) | (with_reducible refine Kd.C_drewN ?_ _) | (with_reducible refine Kd.C_drew ?_) | exact HR202_2.out)⟩, ⟨by repeat (first | (with_reducible first | exact HB.out | apply below_alloc | apply pw_below_drewN | apply below_drew1 | refine below_set ?_ GE201.out) | exact HB.out)⟩⟩
                                  · rw [if_neg c29] at H
                                    exact absurd H (by simp)
                                · rw [if_neg c28] at H
                                  exact absurd H (by simp)
                              case rest =>
                                clear HC27
                                try clear c1
                                try clear c2
                                try clear p2
                                try clear q2
                                try clear hx2
                                try clear c3
                                try clear c4
                                try clear p6
                                try clear c8
                                try clear c8b0
                                try clear c9
                                try clear c9b0
                                try clear c10
                                try clear c13
                                try clear c13b0
                                try clear c13b1
                                try clear c15
                                try clear c15b0
                                try clear c16
                                try clear c16b0
                                try clear c19
                                try clear c19b0
                                try clear c20
                                try clear c20b0
                                try clear p20
                                try clear q20
                                try clear hx20
                                try clear c21
                                try clear c21b0
                                try clear c23
                                try clear c23b0
                                try clear c23b1
                                try clear c26
                                try clear c28
                                try clear c28b0
                                try clear c29
                                try clear c29b0
                                try clear c30
                                try clear c30b0
                                try clear hcz12_0
                                try clear hcz12_1
                                try clear hcz12_2
                                try clear hcz14_0
                                try clear hcz14_1
                                try clear hcz14_2
                                try clear hcz24_0
                                try clear hcz24_1
                                try clear hcz24_2
                                try clear hcz25_0
                                try clear hcz25_1
                                try clear hcz25_2
                                try clear hcz31_0
                                try clear hcz31_1
                                try clear hcz31_2
                                try clear hfz12_0
                                try clear hfz12_1
                                try clear hfz12_2
                                try clear hfz14_0
                                try clear hfz14_1
                                try clear hfz14_2
                                try clear hfz24_0
                                try clear hfz24_1
                                try clear hfz24_2
                                try clear hfz25_0
                                try clear hfz25_1
                                try clear hfz25_2
                                try clear hfz31_0
                                try clear hfz31_1
                                try clear hfz31_2
                                try clear hx200_0
                                try clear hx200_1
                                try clear hx200_2
                                try clear hx202_0
                                try clear hx202_1
                                try clear hx202_2
                                try clear hx203_0
                                try clear hx203_1
                                try clear hx203_2
                                try clear hx204_0
                                try clear hx204_1
                                try clear hx204_2
                                try clear p2
                                try clear p20
                                try clear p200
                                try clear p202
                                try clear p203
                                try clear p204
                                try clear p6
                                try clear q2
                                try clear q20
                                try clear q200
                                try clear q202
                                try clear q203
                                try clear q204
                                obtain ⟨kq, x78_26, rfl, HA, HJ26, HO_3, HO_4, BK201, HR202_2, HB⟩ := hcut
                                cases kq with
                                | zero => exact absurd HA.out (by simp [bagnallkeep_OutQuiet.j4])
                                | succ kj26 =>
                                  have H := HA.out
                                  clear HA
                                  simp only [bagnallkeep_OutQuiet.j4] at H
                                  by_cases c32 : x78_26 = true
                                  · subst c32
                                    have H1 : (some false) = some r := by rw [if_pos rfl] at H; exact H
                                    clear H
                                    have H := H1
                                    clear H1
                                    obtain rfl := Option.some.inj H
                                    go_wp2
                                    repeat (go_quiet (fail); try go_wp2)
                                    go_ret
                                    exact ⟨by first | rfl | (simp [errW_none, errW_some] <;> rfl) | (simp [*, errW_none, errW_some] <;> rfl), by repeat (first | (with_reducible first | exact HB.out | apply below_alloc | apply pw_below_drewN | apply below_drew1 | refine below_set ?_ GE201.out) | exact HB.out)⟩
                                  · replace c32 := Bool.eq_false_iff.mpr c32
                                    subst c32
                                    have H1 : (if 0 ≤ x10_1 then (if x10_1 < (t196.length : Int) then (if ((rd_T45 t196 x10_1).f0) = 0 then ((out_Wait.f kj26 (wrap64 (x7_1 + 1))).bind fun t206 => (if ((rd_T43 t193 x10_1).f0) = 3 then (bagnallkeep_OutQuiet.l0 kj26 t193 t196 0 0 x8_9 0 (wrap64 (x10_1 + 1))) else (bagnallkeep_OutQuiet.l0 kj26 t193 t196 0 (wrap64 (x7_1 + 1)) x8_9 (wrap64 (x8_9 + t206)) (wrap64 (x10_1 + 1))))) else (bagnallkeep_OutQuiet.l0 kj26 t193 t196 x6_16 x7_1 x8_9 x9_1 (wrap64 (x10_1 + 1)))) else (none)) else (none)) = some r := by rw [if_neg (show ¬ (false = true) by decide)] at H; exact H
                                    clear H
                                    have H := H1
                                    clear H1
                                    by_cases c33 : 0 ≤ x10_1
                                    · rw [if_pos c33] at H
                                      have c33b0 : decide (0 ≤ x10_1) = true := decide_eq_true c33
                                      clear c33
                                      by_cases c34 : x10_1 < (t196.length : Int)
                                      · rw [if_pos c34] at H
                                        have c34b0 : decide (x10_1 < (t196.length : Int)) = true := decide_eq_true c34
                                        clear c34
                                        by_cases c35 : ((rd_T45 t196 x10_1).f0) = 0
                                        · rw [if_pos c35] at H
                                          have c35b0 : (((rd_T45 t196 x10_1).f0) == 0) = true := beq_iff_eq.mpr c35
                                          have c35b1 : (((rd_T45 t196 x10_1).f0) != 0) = false := bne_eq_false_iff_eq.mpr c35
                                          clear c35
                                          replace H := Option.bind_eq_some_iff.mp H
                                          obtain ⟨t206, A360, H⟩ := H
                                          replace H : (if ((rd_T43 t193 x10_1).f0) = 3 then (bagnallkeep_OutQuiet.l0 kj26 t193 t196 0 0 x8_9 0 (wrap64 (x10_1 + 1))) else (bagnallkeep_OutQuiet.l0 kj26 t193 t196 0 (wrap64 (x7_1 + 1)) x8_9 (wrap64 (x8_9 + t206)) (wrap64 (x10_1 + 1)))) = some r := H
                                          have A36 := Aside0.mk A360
                                          clear A360
                                          by_cases c37 : ((rd_T43 t193 x10_1).f0) = 3
                                          · rw [if_pos c37] at H
                                            have c37b0 : (((rd_T43 t193 x10_1).f0) == 3) = true := beq_iff_eq.mpr c37
                                            have c37b1 : (((rd_T43 t193 x10_1).f0) != 3) = false := bne_eq_false_iff_eq.mpr c37
                                            clear c37
                                            have H' := Aside0.mk H
                                            clear H
                                            have p205 : 0 ≤ (x10_1 : Int) := of_decide_eq_true (by first | (with_reducible assumption) | assumption)
                                            have q205 : x10_1 < (t196.length : Int) := of_decide_eq_true (by first | (with_reducible assumption) | assumption)
                                            obtain ⟨ad205, A205_2, c205_2, e205, hx205_0, hx205_1, hx205_2, hl205_2, hi205_2⟩ := at_T45 (Kd.S_reads' HO_4.out).2.2 x10_1 p205 q205
                                            obtain rfl : ad202 = ad205 := (by injection e205)
                                            obtain ⟨ce205, hce205, hMe205, hcc205⟩ := Kd.S_get HO_4.out z45 x10_1 p205 (by first | exact q205 | exact of_decide_eq_true (by first | (with_reducible assumption) | assumption) | (have e_ := (Kd.S_reads' HO_4.out).1; omega))
                                            obtain ⟨ve205_2, rfl, ge205_2⟩ := k45_openM hMe205
                                            have hv205_2 := hcc205 2 _ rfl
                                            rw [add_field _ _ 2 (by omega)] at hv205_2
                                            replace hv205_2 := Option.some.inj (hv205_2.symm.trans hx205_2)
                                            rw [hv205_2] at ge205_2
                                            have HL205_2 := Aside0.mk (show Kd.R Kd.string 9 _ _ _ _ ((rd_T45 t196 x10_1).f2) from ge205_2)
                                            clear hv205_2 ge205_2
                                            clear hcc205 hce205
                                            have HR205_2 := Aside0.mk hi205_2
                                            have HC205_2 := Aside0.mk hl205_2
                                            clear hi205_2 hl205_2
                                            replace p205 := eq_true p205
                                            replace q205 := eq_true q205
                                            go_wp2_with (first | (go_at_call 13; (with_reducible refine (out_Wait.calls kj26 (wrap64 (x7_1 + 1)) t206 _ A36.out).mono ?_); rintro e w38 ⟨rfl, hb⟩; have n0_ := Aside0.mk (Kd.R_below (by (with_reducible repeat (first | apply Kd.R_alloc | apply Kd.R_drewN | apply Kd.R_drew)); exact HO_3.out) hb); have n1_ := Aside0.mk (Kd.S_below (by (with_reducible repeat (first | apply Kd.S_alloc | apply Kd.S_drewN | apply Kd.S_drew)); exact HO_4.out) hb); have n2_ := Aside0.mk (Kd.R_below (by (with_reducible repeat (first | apply Kd.R_alloc | apply Kd.R_drewN | apply Kd.R_drew)); exact HL205_2.out) hb); have n3_ := Aside0.mk (blk_below (g := gb201) (o := .cells #[.int .i64 ((rd_T43 t193 x10_1).f0), .string ((rd_T43 t193 x10_1).f1), .int .i64 ((rd_T43 t193 x10_1).f2)] 43 (0, 0)) (by (with_reducible repeat (first | refine blk_drewN ?_ _ | refine blk_drew ?_ | refine blk_alloc ?_ _)); exact BK201.out) hb); have n4_ := Aside0.mk (Kd.C_below (by repeat (first | (with_reducible exact HR202_2.out) | (with_reducible refine Kd.C_alloc ?_ _) | (with_reducible refine Kd.C_drewN ?_ _) | (with_reducible refine Kd.C_drew ?_) | exact HR202_2.out)) hb); have n5_ := Aside0.mk (Kd.C_below (by repeat (first | (with_reducible exact HR205_2.out) | (with_reducible refine Kd.C_alloc ?_ _) | (with_reducible refine Kd.C_drewN ?_ _) | (with_reducible refine Kd.C_drew ?_) | exact HR205_2.out)) hb); have n6_ := Aside0.mk (below_step (by repeat (first | (with_reducible first | exact HB.out | apply below_alloc | apply pw_below_drewN | apply below_drew1 | refine below_set ?_ GE201.out) | exact HB.out)) hb); clear HO_3; clear HO_4; clear HL205_2; clear BK201; clear HR202_2; clear HR205_2; clear HB; have HO_3 := n0_; have HO_4 := n1_; have HL205_2 := n2_; have BK201 := n3_; have HR202_2 := n4_; have HR205_2 := n5_; have HB := n6_; clear n0_ n1_ n2_ n3_ n4_ n5_ n6_; (try clear hb); (try clear hb2); (try clear hk); (try clear hi); have hcz39_0 : w38.cell? ⟨gb201, 0, none⟩ = some (.int .i64 ((rd_T43 t193 x10_1).f0)) := (blk_cell BK201.out 0).trans rfl; have hcz39_1 : w38.cell? ⟨gb201, 1, none⟩ = some (.string ((rd_T43 t193 x10_1).f1)) := (blk_cell BK201.out 1).trans rfl; have hcz39_2 : w38.cell? ⟨gb201, 2, none⟩ = some (.int .i64 ((rd_T43 t193 x10_1).f2)) := (blk_cell BK201.out 2).trans rfl; have hfz39_0 := blk_frozen BK201.out 0; have hfz39_1 := blk_frozen BK201.out 1; have hfz39_2 := blk_frozen BK201.out 2))
                                            repeat (go_quiet (first | (go_at_call 13; (with_reducible refine (out_Wait.calls kj26 (wrap64 (x7_1 + 1)) t206 _ A36.out).mono ?_); rintro e w38 ⟨rfl, hb⟩; have n0_ := Aside0.mk (Kd.R_below (by (with_reducible repeat (first | apply Kd.R_alloc | apply Kd.R_drewN | apply Kd.R_drew)); exact HO_3.out) hb); have n1_ := Aside0.mk (Kd.S_below (by (with_reducible repeat (first | apply Kd.S_alloc | apply Kd.S_drewN | apply Kd.S_drew)); exact HO_4.out) hb); have n2_ := Aside0.mk (Kd.R_below (by (with_reducible repeat (first | apply Kd.R_alloc | apply Kd.R_drewN | apply Kd.R_drew)); exact HL205_2.out) hb); have n3_ := Aside0.mk (blk_below (g := gb201) (o := .cells #[.int .i64 ((rd_T43 t193 x10_1).f0), .string ((rd_T43 t193 x10_1).f1), .int .i64 ((rd_T43 t193 x10_1).f2)] 43 (0, 0)) (by (with_reducible repeat (first | refine blk_drewN ?_ _ | refine blk_drew ?_ | refine blk_alloc ?_ _)); exact BK201.out) hb); have n4_ := Aside0.mk (Kd.C_below (by repeat (first | (with_reducible exact HR202_2.out) | (with_reducible refine Kd.C_alloc ?_ _) | (with_reducible refine Kd.C_drewN ?_ _) | (with_reducible refine Kd.C_drew ?_) | exact HR202_2.out)) hb); have n5_ := Aside0.mk (Kd.C_below (by repeat (first | (with_reducible exact HR205_2.out) | (with_reducible refine Kd.C_alloc ?_ _) | (with_reducible refine Kd.C_drewN ?_ _) | (with_reducible refine Kd.C_drew ?_) | exact HR205_2.out)) hb); have n6_ := Aside0.mk (below_step (by repeat (first | (with_reducible first | exact HB.out | apply below_alloc | apply pw_below_drewN | apply below_drew1 | refine below_set ?_ GE201.out) | exact HB.out)) hb); clear HO_3; clear HO_4; clear HL205_2; clear BK201; clear HR202_2; clear HR205_2; clear HB; have HO_3 := n0_; have HO_4 := n1_; have HL205_2 := n2_; have BK201 := n3_; have HR202_2 := n4_; have HR205_2 := n5_; have HB := n6_; clear n0_ n1_ n2_ n3_ n4_ n5_ n6_; (try clear hb); (try clear hb2); (try clear hk); (try clear hi); have hcz39_0 : w38.cell? ⟨gb201, 0, none⟩ = some (.int .i64 ((rd_T43 t193 x10_1).f0)) := (blk_cell BK201.out 0).trans rfl; have hcz39_1 : w38.cell? ⟨gb201, 1, none⟩ = some (.string ((rd_T43 t193 x10_1).f1)) := (blk_cell BK201.out 1).trans rfl; have hcz39_2 : w38.cell? ⟨gb201, 2, none⟩ = some (.int .i64 ((rd_T43 t193 x10_1).f2)) := (blk_cell BK201.out 2).trans rfl; have hfz39_0 := blk_frozen BK201.out 0; have hfz39_1 := blk_frozen BK201.out 1; have hfz39_2 := blk_frozen BK201.out 2)); try go_wp2_with (first | (go_at_call 13; (with_reducible refine (out_Wait.calls kj26 (wrap64 (x7_1 + 1)) t206 _ A36.out).mono ?_); rintro e w38 ⟨rfl, hb⟩; have n0_ := Aside0.mk (Kd.R_below (by (with_reducible repeat (first | apply Kd.R_alloc | apply Kd.R_drewN | apply Kd.R_drew)); exact HO_3.out) hb); have n1_ := Aside0.mk (Kd.S_below (by (with_reducible repeat (first | apply Kd.S_alloc | apply Kd.S_drewN | apply Kd.S_drew)); exact HO_4.out) hb); have n2_ := Aside0.mk (Kd.R_below (by (with_reducible repeat (first | apply Kd.R_alloc | apply Kd.R_drewN | apply Kd.R_drew)); exact HL205_2.out) hb); have n3_ := Aside0.mk (blk_below (g := gb201) (o := .cells #[.int .i64 ((rd_T43 t193 x10_1).f0), .string ((rd_T43 t193 x10_1).f1), .int .i64 ((rd_T43 t193 x10_1).f2)] 43 (0, 0)) (by (with_reducible repeat (first | refine blk_drewN ?_ _ | refine blk_drew ?_ | refine blk_alloc ?_ _)); exact BK201.out) hb); have n4_ := Aside0.mk (Kd.C_below (by repeat (first | (with_reducible exact HR202_2.out) | (with_reducible refine Kd.C_alloc ?_ _) | (with_reducible refine Kd.C_drewN ?_ _) | (with_reducible refine Kd.C_drew ?_) | exact HR202_2.out)) hb); have n5_ := Aside0.mk (Kd.C_below (by repeat (first | (with_reducible exact HR205_2.out) | (with_reducible refine Kd.C_alloc ?_ _) | (with_reducible refine Kd.C_drewN ?_ _) | (with_reducible refine Kd.C_drew ?_) | exact HR205_2.out)) hb); have n6_ := Aside0.mk (below_step (by repeat (first | (with_reducible first | exact HB.out | apply below_alloc | apply pw_below_drewN | apply below_drew1 | refine below_set ?_ GE201.out) | exact HB.out)) hb); clear HO_3; clear HO_4; clear HL205_2; clear BK201; clear HR202_2; clear HR205_2; clear HB; have HO_3 := n0_; have HO_4 := n1_; have HL205_2 := n2_; have BK201 := n3_; have HR202_2 := n4_; have HR205_2 := n5_; have HB := n6_; clear n0_ n1_ n2_ n3_ n4_ n5_ n6_; (try clear hb); (try clear hb2); (try clear hk); (try clear hi); have hcz39_0 : w38.cell? ⟨gb201, 0, none⟩ = some (.int .i64 ((rd_T43 t193 x10_1).f0)) := (blk_cell BK201.out 0).trans rfl; have hcz39_1 : w38.cell? ⟨gb201, 1, none⟩ = some (.string ((rd_T43 t193 x10_1).f1)) := (blk_cell BK201.out 1).trans rfl; have hcz39_2 : w38.cell? ⟨gb201, 2, none⟩ = some (.int .i64 ((rd_T43 t193 x10_1).f2)) := (blk_cell BK201.out 2).trans rfl; have hfz39_0 := blk_frozen BK201.out 0; have hfz39_1 := blk_frozen BK201.out 1; have hfz39_2 := blk_frozen BK201.out 2)))
                                            go_roundg kj26
                                            case measure => have := HK1.out; have := HJ9.out; have := HJ16.out; have := HJ21.out; have := HJ26.out; omega
                                            case rel => exact ⟨(0), (0), (x8_9), (0), (wrap64 (x10_1 + 1)), (by first | rfl | (simp; done) | (simp [*]; done)), (by first | rfl | (simp; done) | (simp [*]; done)), (by first | rfl | (simp; done) | (simp [*]; done)), (by first | rfl | (simp; done) | (simp [*]; done)), (by first | rfl | (simp; done) | (simp [*]; done)), H', ⟨by have := HK1.out; have := HJ9.out; have := HJ16.out; have := HJ21.out; have := HJ26.out; omega⟩, ⟨by (with_reducible repeat (first | apply Kd.R_alloc | apply Kd.R_drewN | apply Kd.R_drew)); exact Kd.R_mono HO_3.out (fun _ hk => trivial)⟩, ⟨by (with_reducible repeat (first | apply Kd.S_alloc | apply Kd.S_drewN | apply Kd.S_drew)); exact HO_4.out⟩, ⟨by repeat (first | (with_reducible first | exact HB.out | apply below_alloc | apply pw_below_drewN | apply below_drew1 | refine below_set ?_ GE201.out) | exact HB.out)⟩⟩
                                          · rw [if_neg c37] at H
                                            have c37b0 : (((rd_T43 t193 x10_1).f0) == 3) = false := beq_eq_false_iff_ne.mpr c37
                                            have c37b1 : (((rd_T43 t193 x10_1).f0) != 3) = true := bne_iff_ne.mpr c37
                                            have H' := Aside0.mk H
                                            clear H
                                            have p205 : 0 ≤ (x10_1 : Int) := of_decide_eq_true (by first | (with_reducible assumption) | assumption)
                                            have q205 : x10_1 < (t196.length : Int) := of_decide_eq_true (by first | (with_reducible assumption) | assumption)
                                            obtain ⟨ad205, A205_2, c205_2, e205, hx205_0, hx205_1, hx205_2, hl205_2, hi205_2⟩ := at_T45 (Kd.S_reads' HO_4.out).2.2 x10_1 p205 q205
                                            obtain rfl : ad202 = ad205 := (by injection e205)
                                            obtain ⟨ce205, hce205, hMe205, hcc205⟩ := Kd.S_get HO_4.out z45 x10_1 p205 (by first | exact q205 | exact of_decide_eq_true (by first | (with_reducible assumption) | assumption) | (have e_ := (Kd.S_reads' HO_4.out).1; omega))
                                            obtain ⟨ve205_2, rfl, ge205_2⟩ := k45_openM hMe205
                                            have hv205_2 := hcc205 2 _ rfl
                                            rw [add_field _ _ 2 (by omega)] at hv205_2
                                            replace hv205_2 := Option.some.inj (hv205_2.symm.trans hx205_2)
                                            rw [hv205_2] at ge205_2
                                            have HL205_2 := Aside0.mk (show Kd.R Kd.string 9 _ _ _ _ ((rd_T45 t196 x10_1).f2) from ge205_2)
                                            clear hv205_2 ge205_2
                                            clear hcc205 hce205
                                            have HR205_2 := Aside0.mk hi205_2
                                            have HC205_2 := Aside0.mk hl205_2
                                            clear hi205_2 hl205_2
                                            replace p205 := eq_true p205
                                            replace q205 := eq_true q205
                                            go_wp2_with (first | (go_at_call 13; (with_reducible refine (out_Wait.calls kj26 (wrap64 (x7_1 + 1)) t206 _ A36.out).mono ?_); rintro e w40 ⟨rfl, hb⟩; have n0_ := Aside0.mk (Kd.R_below (by (with_reducible repeat (first | apply Kd.R_alloc | apply Kd.R_drewN | apply Kd.R_drew)); exact HO_3.out) hb); have n1_ := Aside0.mk (Kd.S_below (by (with_reducible repeat (first | apply Kd.S_alloc | apply Kd.S_drewN | apply Kd.S_drew)); exact HO_4.out) hb); have n2_ := Aside0.mk (Kd.R_below (by (with_reducible repeat (first | apply Kd.R_alloc | apply Kd.R_drewN | apply Kd.R_drew)); exact HL205_2.out) hb); have n3_ := Aside0.mk (blk_below (g := gb201) (o := .cells #[.int .i64 ((rd_T43 t193 x10_1).f0), .string ((rd_T43 t193 x10_1).f1), .int .i64 ((rd_T43 t193 x10_1).f2)] 43 (0, 0)) (by (with_reducible repeat (first | refine blk_drewN ?_ _ | refine blk_drew ?_ | refine blk_alloc ?_ _)); exact BK201.out) hb); have n4_ := Aside0.mk (Kd.C_below (by repeat (first | (with_reducible exact HR202_2.out) | (with_reducible refine Kd.C_alloc ?_ _) | (with_reducible refine Kd.C_drewN ?_ _) | (with_reducible refine Kd.C_drew ?_) | exact HR202_2.out)) hb); have n5_ := Aside0.mk (Kd.C_below (by repeat (first | (with_reducible exact HR205_2.out) | (with_reducible refine Kd.C_alloc ?_ _) | (with_reducible refine Kd.C_drewN ?_ _) | (with_reducible refine Kd.C_drew ?_) | exact HR205_2.out)) hb); have n6_ := Aside0.mk (below_step (by repeat (first | (with_reducible first | exact HB.out | apply below_alloc | apply pw_below_drewN | apply below_drew1 | refine below_set ?_ GE201.out) | exact HB.out)) hb); clear HO_3; clear HO_4; clear HL205_2; clear BK201; clear HR202_2; clear HR205_2; clear HB; have HO_3 := n0_; have HO_4 := n1_; have HL205_2 := n2_; have BK201 := n3_; have HR202_2 := n4_; have HR205_2 := n5_; have HB := n6_; clear n0_ n1_ n2_ n3_ n4_ n5_ n6_; (try clear hb); (try clear hb2); (try clear hk); (try clear hi); have hcz41_0 : w40.cell? ⟨gb201, 0, none⟩ = some (.int .i64 ((rd_T43 t193 x10_1).f0)) := (blk_cell BK201.out 0).trans rfl; have hcz41_1 : w40.cell? ⟨gb201, 1, none⟩ = some (.string ((rd_T43 t193 x10_1).f1)) := (blk_cell BK201.out 1).trans rfl; have hcz41_2 : w40.cell? ⟨gb201, 2, none⟩ = some (.int .i64 ((rd_T43 t193 x10_1).f2)) := (blk_cell BK201.out 2).trans rfl; have hfz41_0 := blk_frozen BK201.out 0; have hfz41_1 := blk_frozen BK201.out 1; have hfz41_2 := blk_frozen BK201.out 2))
                                            repeat (go_quiet (first | (go_at_call 13; (with_reducible refine (out_Wait.calls kj26 (wrap64 (x7_1 + 1)) t206 _ A36.out).mono ?_); rintro e w40 ⟨rfl, hb⟩; have n0_ := Aside0.mk (Kd.R_below (by (with_reducible repeat (first | apply Kd.R_alloc | apply Kd.R_drewN | apply Kd.R_drew)); exact HO_3.out) hb); have n1_ := Aside0.mk (Kd.S_below (by (with_reducible repeat (first | apply Kd.S_alloc | apply Kd.S_drewN | apply Kd.S_drew)); exact HO_4.out) hb); have n2_ := Aside0.mk (Kd.R_below (by (with_reducible repeat (first | apply Kd.R_alloc | apply Kd.R_drewN | apply Kd.R_drew)); exact HL205_2.out) hb); have n3_ := Aside0.mk (blk_below (g := gb201) (o := .cells #[.int .i64 ((rd_T43 t193 x10_1).f0), .string ((rd_T43 t193 x10_1).f1), .int .i64 ((rd_T43 t193 x10_1).f2)] 43 (0, 0)) (by (with_reducible repeat (first | refine blk_drewN ?_ _ | refine blk_drew ?_ | refine blk_alloc ?_ _)); exact BK201.out) hb); have n4_ := Aside0.mk (Kd.C_below (by repeat (first | (with_reducible exact HR202_2.out) | (with_reducible refine Kd.C_alloc ?_ _) | (with_reducible refine Kd.C_drewN ?_ _) | (with_reducible refine Kd.C_drew ?_) | exact HR202_2.out)) hb); have n5_ := Aside0.mk (Kd.C_below (by repeat (first | (with_reducible exact HR205_2.out) | (with_reducible refine Kd.C_alloc ?_ _) | (with_reducible refine Kd.C_drewN ?_ _) | (with_reducible refine Kd.C_drew ?_) | exact HR205_2.out)) hb); have n6_ := Aside0.mk (below_step (by repeat (first | (with_reducible first | exact HB.out | apply below_alloc | apply pw_below_drewN | apply below_drew1 | refine below_set ?_ GE201.out) | exact HB.out)) hb); clear HO_3; clear HO_4; clear HL205_2; clear BK201; clear HR202_2; clear HR205_2; clear HB; have HO_3 := n0_; have HO_4 := n1_; have HL205_2 := n2_; have BK201 := n3_; have HR202_2 := n4_; have HR205_2 := n5_; have HB := n6_; clear n0_ n1_ n2_ n3_ n4_ n5_ n6_; (try clear hb); (try clear hb2); (try clear hk); (try clear hi); have hcz41_0 : w40.cell? ⟨gb201, 0, none⟩ = some (.int .i64 ((rd_T43 t193 x10_1).f0)) := (blk_cell BK201.out 0).trans rfl; have hcz41_1 : w40.cell? ⟨gb201, 1, none⟩ = some (.string ((rd_T43 t193 x10_1).f1)) := (blk_cell BK201.out 1).trans rfl; have hcz41_2 : w40.cell? ⟨gb201, 2, none⟩ = some (.int .i64 ((rd_T43 t193 x10_1).f2)) := (blk_cell BK201.out 2).trans rfl; have hfz41_0 := blk_frozen BK201.out 0; have hfz41_1 := blk_frozen BK201.out 1; have hfz41_2 := blk_frozen BK201.out 2)); try go_wp2_with (first | (go_at_call 13; (with_reducible refine (out_Wait.calls kj26 (wrap64 (x7_1 + 1)) t206 _ A36.out).mono ?_); rintro e w40 ⟨rfl, hb⟩; have n0_ := Aside0.mk (Kd.R_below (by (with_reducible repeat (first | apply Kd.R_alloc | apply Kd.R_drewN | apply Kd.R_drew)); exact HO_3.out) hb); have n1_ := Aside0.mk (Kd.S_below (by (with_reducible repeat (first | apply Kd.S_alloc | apply Kd.S_drewN | apply Kd.S_drew)); exact HO_4.out) hb); have n2_ := Aside0.mk (Kd.R_below (by (with_reducible repeat (first | apply Kd.R_alloc | apply Kd.R_drewN | apply Kd.R_drew)); exact HL205_2.out) hb); have n3_ := Aside0.mk (blk_below (g := gb201) (o := .cells #[.int .i64 ((rd_T43 t193 x10_1).f0), .string ((rd_T43 t193 x10_1).f1), .int .i64 ((rd_T43 t193 x10_1).f2)] 43 (0, 0)) (by (with_reducible repeat (first | refine blk_drewN ?_ _ | refine blk_drew ?_ | refine blk_alloc ?_ _)); exact BK201.out) hb); have n4_ := Aside0.mk (Kd.C_below (by repeat (first | (with_reducible exact HR202_2.out) | (with_reducible refine Kd.C_alloc ?_ _) | (with_reducible refine Kd.C_drewN ?_ _) | (with_reducible refine Kd.C_drew ?_) | exact HR202_2.out)) hb); have n5_ := Aside0.mk (Kd.C_below (by repeat (first | (with_reducible exact HR205_2.out) | (with_reducible refine Kd.C_alloc ?_ _) | (with_reducible refine Kd.C_drewN ?_ _) | (with_reducible refine Kd.C_drew ?_) | exact HR205_2.out)) hb); have n6_ := Aside0.mk (below_step (by repeat (first | (with_reducible first | exact HB.out | apply below_alloc | apply pw_below_drewN | apply below_drew1 | refine below_set ?_ GE201.out) | exact HB.out)) hb); clear HO_3; clear HO_4; clear HL205_2; clear BK201; clear HR202_2; clear HR205_2; clear HB; have HO_3 := n0_; have HO_4 := n1_; have HL205_2 := n2_; have BK201 := n3_; have HR202_2 := n4_; have HR205_2 := n5_; have HB := n6_; clear n0_ n1_ n2_ n3_ n4_ n5_ n6_; (try clear hb); (try clear hb2); (try clear hk); (try clear hi); have hcz41_0 : w40.cell? ⟨gb201, 0, none⟩ = some (.int .i64 ((rd_T43 t193 x10_1).f0)) := (blk_cell BK201.out 0).trans rfl; have hcz41_1 : w40.cell? ⟨gb201, 1, none⟩ = some (.string ((rd_T43 t193 x10_1).f1)) := (blk_cell BK201.out 1).trans rfl; have hcz41_2 : w40.cell? ⟨gb201, 2, none⟩ = some (.int .i64 ((rd_T43 t193 x10_1).f2)) := (blk_cell BK201.out 2).trans rfl; have hfz41_0 := blk_frozen BK201.out 0; have hfz41_1 := blk_frozen BK201.out 1; have hfz41_2 := blk_frozen BK201.out 2)))
                                            go_roundg kj26
                                            case measure => have := HK1.out; have := HJ9.out; have := HJ16.out; have := HJ21.out; have := HJ26.out; omega
                                            case rel => exact ⟨(0), (wrap64 (x7_1 + 1)), (x8_9), (wrap64 (x8_9 + t206)), (wrap64 (x10_1 + 1)), (by first | rfl | (simp; done) | (simp [*]; done)), (by first | rfl | (simp; done) | (simp [*]; done)), (by first | rfl | (simp; done) | (simp [*]; done)), (by first | rfl | (simp; done) | (simp [*]; done)), (by first | rfl | (simp; done) | (simp [*]; done)), H', ⟨by have := HK1.out; have := HJ9.out; have := HJ16.out; have := HJ21.out; have := HJ26.out; omega⟩, ⟨by (with_reducible repeat (first | apply Kd.R_alloc | apply Kd.R_drewN | apply Kd.R_drew)); exact Kd.R_mono HO_3.out (fun _ hk => trivial)⟩, ⟨by (with_reducible repeat (first | apply Kd.S_alloc | apply Kd.S_drewN | apply Kd.S_drew)); exact HO_4.out⟩, ⟨by repeat (first | (with_reducible first | exact HB.out | apply below_alloc | apply pw_below_drewN | apply below_drew1 | refine below_set ?_ GE201.out) | exact HB.out)⟩⟩
                                        · rw [if_neg c35] at H
                                          have c35b0 : (((rd_T45 t196 x10_1).f0) == 0) = false := beq_eq_false_iff_ne.mpr c35
                                          have c35b1 : (((rd_T45 t196 x10_1).f0) != 0) = true := bne_iff_ne.mpr c35
                                          have H' := Aside0.mk H
                                          clear H
                                          have p205 : 0 ≤ (x10_1 : Int) := of_decide_eq_true (by first | (with_reducible assumption) | assumption)
                                          have q205 : x10_1 < (t196.length : Int) := of_decide_eq_true (by first | (with_reducible assumption) | assumption)
                                          obtain ⟨ad205, A205_2, c205_2, e205, hx205_0, hx205_1, hx205_2, hl205_2, hi205_2⟩ := at_T45 (Kd.S_reads' HO_4.out).2.2 x10_1 p205 q205
                                          obtain rfl : ad202 = ad205 := (by injection e205)
                                          obtain ⟨ce205, hce205, hMe205, hcc205⟩ := Kd.S_get HO_4.out z45 x10_1 p205 (by first | exact q205 | exact of_decide_eq_true (by first | (with_reducible assumption) | assumption) | (have e_ := (Kd.S_reads' HO_4.out).1; omega))
                                          obtain ⟨ve205_2, rfl, ge205_2⟩ := k45_openM hMe205
                                          have hv205_2 := hcc205 2 _ rfl
                                          rw [add_field _ _ 2 (by omega)] at hv205_2
                                          replace hv205_2 := Option.some.inj (hv205_2.symm.trans hx205_2)
                                          rw [hv205_2] at ge205_2
                                          have HL205_2 := Aside0.mk (show Kd.R Kd.string 9 _ _ _ _ ((rd_T45 t196 x10_1).f2) from ge205_2)
                                          clear hv205_2 ge205_2
                                          clear hcc205 hce205
                                          have HR205_2 := Aside0.mk hi205_2
                                          have HC205_2 := Aside0.mk hl205_2
                                          clear hi205_2 hl205_2
                                          replace p205 := eq_true p205
                                          replace q205 := eq_true q205
                                          go_wp2
                                          repeat (go_quiet (fail); try go_wp2)
                                          go_roundg kj26
                                          case measure => have := HK1.out; have := HJ9.out; have := HJ16.out; have := HJ21.out; have := HJ26.out; omega
                                          case rel => exact ⟨(x6_16), (x7_1), (x8_9), (x9_1), (wrap64 (x10_1 + 1)), (by first | rfl | (simp; done) | (simp [*]; done)), (by first | rfl | (simp; done) | (simp [*]; done)), (by first | rfl | (simp; done) | (simp [*]; done)), (by first | rfl | (simp; done) | (simp [*]; done)), (by first | rfl | (simp; done) | (simp [*]; done)), H', ⟨by have := HK1.out; have := HJ9.out; have := HJ16.out; have := HJ21.out; have := HJ26.out; omega⟩, ⟨by (with_reducible repeat (first | apply Kd.R_alloc | apply Kd.R_drewN | apply Kd.R_drew)); exact Kd.R_mono HO_3.out (fun _ hk => trivial)⟩, ⟨by (with_reducible repeat (first | apply Kd.S_alloc | apply Kd.S_drewN | apply Kd.S_drew)); exact HO_4.out⟩, ⟨by repeat (first | (with_reducible first | exact HB.out | apply below_alloc | apply pw_below_drewN | apply below_drew1 | refine below_set ?_ GE201.out) | exact HB.out)⟩⟩
                                      · rw [if_neg c34] at H
                                        exact absurd H (by simp)
                                    · rw [if_neg c33] at H
                                      exact absurd H (by simp)
                            · replace c26 := Bool.eq_false_iff.mpr c26
                              subst c26
                              have H1 : (bagnallkeep_OutQuiet.l0 kj21 t193 t196 x6_16 x7_1 x8_9 x9_1 (wrap64 (x10_1 + 1))) = some r := by rw [if_neg (show ¬ (false = true) by decide)] at H; exact H
                              clear H
                              have H := H1
                              clear H1
                              have H' := Aside0.mk H
                              clear H
                              go_wp2
                              repeat (go_quiet (fail); try go_wp2)
                              go_roundg kj21
                              case measure => have := HK1.out; have := HJ9.out; have := HJ16.out; have := HJ21.out; omega
                              case rel => exact ⟨(x6_16), (x7_1), (x8_9), (x9_1), (wrap64 (x10_1 + 1)), (by first | rfl | (simp; done) | (simp [*]; done)), (by first | rfl | (simp; done) | (simp [*]; done)), (by first | rfl | (simp; done) | (simp [*]; done)), (by first | rfl | (simp; done) | (simp [*]; done)), (by first | rfl | (simp; done) | (simp [*]; done)), H', ⟨by have := HK1.out; have := HJ9.out; have := HJ16.out; have := HJ21.out; omega⟩, ⟨by (with_reducible repeat (first | apply Kd.R_alloc | apply Kd.R_drewN | apply Kd.R_drew)); exact Kd.R_mono HO_3.out (fun _ hk => trivial)⟩, ⟨by (with_reducible repeat (first | apply Kd.S_alloc | apply Kd.S_drewN | apply Kd.S_drew)); exact HO_4.out⟩, ⟨by repeat (first | (with_reducible first | exact HB.out | apply below_alloc | apply pw_below_drewN | apply below_drew1 | refine below_set ?_ GE201.out) | exact HB.out)⟩⟩
                  · rw [if_neg c16] at H
                    exact absurd H (by simp)
                · rw [if_neg c15] at H
                  exact absurd H (by simp)
          · rw [if_neg c9] at H
            exact absurd H (by simp)
        · rw [if_neg c8] at H
          have c8b0 : decide (x10_1 < (t193.length : Int)) = false := decide_eq_false c8
          clear c8
          obtain rfl := Option.some.inj H
          go_wp2
          repeat (go_quiet (fail); try go_wp2)
          go_ret
          exact ⟨by first | rfl | (simp [errW_none, errW_some] <;> rfl) | (simp [*, errW_none, errW_some] <;> rfl), by repeat (first | (with_reducible first | exact HB.out | apply below_alloc | apply pw_below_drewN | apply below_drew1) | exact HB.out)⟩
  · replace c4 := Bool.eq_false_iff.mpr c4
    subst c4
    have H1 : (some false) = some r := by rw [if_neg (show ¬ (false = true) by decide)] at H; exact H
    clear H
    have H := H1
    clear H1
    obtain rfl := Option.some.inj H
    go_enter Try.func10, Try.ntmps10
    go_wp2_with (first | (go_at_call 18; (with_reducible refine (bagnallkeep_Turns.calls _ _ l0 90 t193 _ ?side1 ?side2 A2.out).mono ?_); (case side1 => repeat (first | exact HR0.out | (with_reducible refine Kd.C_alloc ?_ _) | (with_reducible refine Kd.C_drewN ?_ _) | (with_reducible refine Kd.C_drew ?_))); (case side2 => exact HC0.out); rintro e w42 ⟨v194, rfl, ho0, hb⟩; have n0_ := Aside0.mk (Kd.R_lower ho0 (below_size (by repeat (first | (with_reducible first | exact HB.out | apply below_alloc | apply pw_below_drewN | apply below_drew1) | exact HB.out)))); have n1_ := Aside0.mk (below_step (by repeat (first | (with_reducible first | exact HB.out | apply below_alloc | apply pw_below_drewN | apply below_drew1) | exact HB.out)) hb); clear HB; have HO195 := n0_; have HB := n1_; clear n0_ n1_; (try clear hb); (try clear hb2); (try clear hk); (try clear hi); (try clear ho0); obtain ⟨Ao43, co43, eo43⟩ := Kd.R_slice HO195.out; subst eo43) | (go_at_call 19; (with_reducible refine (bagnallkeep_outOf.calls _ _ t193 t196 false _ ?side1 ?side2 A3.out).mono ?_); (case side1 => repeat (first | exact (Kd.R_reads' HO195.out).2.2 | (with_reducible refine Kd.C_alloc ?_ _) | (with_reducible refine Kd.C_drewN ?_ _) | (with_reducible refine Kd.C_drew ?_))); (case side2 => exact (Kd.R_reads' HO195.out).2.1); rintro e w44 ⟨v198, rfl, ho0, hb⟩; have n0_ := Aside0.mk (Kd.R_below (by (with_reducible repeat (first | apply Kd.R_alloc | apply Kd.R_drewN | apply Kd.R_drew)); exact HO195.out) hb); have n1_ := Aside0.mk (Kd.S_lower ho0 (below_size (by repeat (first | (with_reducible first | exact HB.out | apply below_alloc | apply pw_below_drewN | apply below_drew1) | exact HB.out)))); have n2_ := Aside0.mk (below_step (by repeat (first | (with_reducible first | exact HB.out | apply below_alloc | apply pw_below_drewN | apply below_drew1) | exact HB.out)) hb); clear HO195; clear HB; have HO195 := n0_; have HO199 := n1_; have HB := n2_; clear n0_ n1_ n2_; (try clear hb); (try clear hb2); (try clear hk); (try clear hi); (try clear ho0)))
    repeat (go_quiet (first | (go_at_call 18; (with_reducible refine (bagnallkeep_Turns.calls _ _ l0 90 t193 _ ?side1 ?side2 A2.out).mono ?_); (case side1 => repeat (first | exact HR0.out | (with_reducible refine Kd.C_alloc ?_ _) | (with_reducible refine Kd.C_drewN ?_ _) | (with_reducible refine Kd.C_drew ?_))); (case side2 => exact HC0.out); rintro e w42 ⟨v194, rfl, ho0, hb⟩; have n0_ := Aside0.mk (Kd.R_lower ho0 (below_size (by repeat (first | (with_reducible first | exact HB.out | apply below_alloc | apply pw_below_drewN | apply below_drew1) | exact HB.out)))); have n1_ := Aside0.mk (below_step (by repeat (first | (with_reducible first | exact HB.out | apply below_alloc | apply pw_below_drewN | apply below_drew1) | exact HB.out)) hb); clear HB; have HO195 := n0_; have HB := n1_; clear n0_ n1_; (try clear hb); (try clear hb2); (try clear hk); (try clear hi); (try clear ho0); obtain ⟨Ao43, co43, eo43⟩ := Kd.R_slice HO195.out; subst eo43) | (go_at_call 19; (with_reducible refine (bagnallkeep_outOf.calls _ _ t193 t196 false _ ?side1 ?side2 A3.out).mono ?_); (case side1 => repeat (first | exact (Kd.R_reads' HO195.out).2.2 | (with_reducible refine Kd.C_alloc ?_ _) | (with_reducible refine Kd.C_drewN ?_ _) | (with_reducible refine Kd.C_drew ?_))); (case side2 => exact (Kd.R_reads' HO195.out).2.1); rintro e w44 ⟨v198, rfl, ho0, hb⟩; have n0_ := Aside0.mk (Kd.R_below (by (with_reducible repeat (first | apply Kd.R_alloc | apply Kd.R_drewN | apply Kd.R_drew)); exact HO195.out) hb); have n1_ := Aside0.mk (Kd.S_lower ho0 (below_size (by repeat (first | (with_reducible first | exact HB.out | apply below_alloc | apply pw_below_drewN | apply below_drew1) | exact HB.out)))); have n2_ := Aside0.mk (below_step (by repeat (first | (with_reducible first | exact HB.out | apply below_alloc | apply pw_below_drewN | apply below_drew1) | exact HB.out)) hb); clear HO195; clear HB; have HO195 := n0_; have HO199 := n1_; have HB := n2_; clear n0_ n1_ n2_; (try clear hb); (try clear hb2); (try clear hk); (try clear hi); (try clear ho0))); try go_wp2_with (first | (go_at_call 18; (with_reducible refine (bagnallkeep_Turns.calls _ _ l0 90 t193 _ ?side1 ?side2 A2.out).mono ?_); (case side1 => repeat (first | exact HR0.out | (with_reducible refine Kd.C_alloc ?_ _) | (with_reducible refine Kd.C_drewN ?_ _) | (with_reducible refine Kd.C_drew ?_))); (case side2 => exact HC0.out); rintro e w42 ⟨v194, rfl, ho0, hb⟩; have n0_ := Aside0.mk (Kd.R_lower ho0 (below_size (by repeat (first | (with_reducible first | exact HB.out | apply below_alloc | apply pw_below_drewN | apply below_drew1) | exact HB.out)))); have n1_ := Aside0.mk (below_step (by repeat (first | (with_reducible first | exact HB.out | apply below_alloc | apply pw_below_drewN | apply below_drew1) | exact HB.out)) hb); clear HB; have HO195 := n0_; have HB := n1_; clear n0_ n1_; (try clear hb); (try clear hb2); (try clear hk); (try clear hi); (try clear ho0); obtain ⟨Ao43, co43, eo43⟩ := Kd.R_slice HO195.out; subst eo43) | (go_at_call 19; (with_reducible refine (bagnallkeep_outOf.calls _ _ t193 t196 false _ ?side1 ?side2 A3.out).mono ?_); (case side1 => repeat (first | exact (Kd.R_reads' HO195.out).2.2 | (with_reducible refine Kd.C_alloc ?_ _) | (with_reducible refine Kd.C_drewN ?_ _) | (with_reducible refine Kd.C_drew ?_))); (case side2 => exact (Kd.R_reads' HO195.out).2.1); rintro e w44 ⟨v198, rfl, ho0, hb⟩; have n0_ := Aside0.mk (Kd.R_below (by (with_reducible repeat (first | apply Kd.R_alloc | apply Kd.R_drewN | apply Kd.R_drew)); exact HO195.out) hb); have n1_ := Aside0.mk (Kd.S_lower ho0 (below_size (by repeat (first | (with_reducible first | exact HB.out | apply below_alloc | apply pw_below_drewN | apply below_drew1) | exact HB.out)))); have n2_ := Aside0.mk (below_step (by repeat (first | (with_reducible first | exact HB.out | apply below_alloc | apply pw_below_drewN | apply below_drew1) | exact HB.out)) hb); clear HO195; clear HB; have HO195 := n0_; have HO199 := n1_; have HB := n2_; clear n0_ n1_ n2_; (try clear hb); (try clear hb2); (try clear hk); (try clear hi); (try clear ho0))))
    go_ret
    exact ⟨by first | rfl | (simp [errW_none, errW_some] <;> rfl) | (simp [*, errW_none, errW_some] <;> rfl), by repeat (first | (with_reducible first | exact HB.out | apply below_alloc | apply pw_below_drewN | apply below_drew1) | exact HB.out)⟩

/-- THE ONE PURE STATEMENT of bagnallkeep_OutQuiet: yours. -/
def bagnallkeep_OutQuiet.Pure : Prop := ∀ (l0 : List Int), l0.length ≤ maxLen → l0.length * 8 ≤ 140737488351232 → (∀ x ∈ l0, (Lit.int .i64 x).wf = true) → ∃ k, bagnallkeep_OutQuiet.f k l0 = some true
theorem bagnallkeep_OutQuiet.walk (P : bagnallkeep_OutQuiet.Pure) (a0 : Option Addr) (len0 cap0 : Nat) (z0 : List Int) (w : World) (w0 : (a0 = none ∧ len0 = 0 ∧ cap0 = 0 ∧ z0 = []) ∨ ∃ x, a0 = some x ∧ len0 ≤ cap0 ∧ cap0 ≤ maxLen ∧ z0.length = cap0 ∧ (∀ i, i < z0.length → w.cell? (x.add i) = some (.int .i64 (z0.getD i 0))) ∧ ∀ n ∈ z0, (Lit.int .i64 n).wf = true) (y0 : len0 * 8 ≤ 140737488351232) :
    Calls Try.prog 10 #[.slice a0 len0 cap0] w fun e w' => e = .returned (.bool true) ∧ Below w.heap.size w w' := by
  obtain ⟨l0, rfl, hr0, hm0, hw0, hc0⟩ := ReadsInt.ofRowC w0
  obtain ⟨k, h⟩ := P l0 hm0 y0 hw0
  refine (bagnallkeep_OutQuiet.calls k _ _ l0 true w (Kd.C_of_reads (d := (0 : Int)) (h1 := fun _ => rfl) hr0) hc0 h).mono ?_
  rintro e w' ⟨rfl, hd⟩
  exact ⟨rfl, hd⟩

end Go.Proofs.Ytolnkahidgobhaa.QOut
