/- Functions of the program as plain functions, and the walks that show it. Written by the session's own program pp.py. -/
import Derived.Test.YtfdceninhieheaaQSignx0
import Derived.Test.YtfdceninhieheaaQSignx5
import Derived.Test.YtfdceninhieheaaQSignx7
import Derived.Test.YtfdceninhieheaaQSignx10
namespace Go.Proofs.Ytfdceninhieheaa.QSign
open Go.RowKit Go.Proofs.YtfdceninhieheaaW.PrintWords Go.Proofs.YtfdceninhieheaaW.PrintLast Go.Proofs.YtfdceninhieheaaW.PrintMore
attribute [local go_sem] max2_int min2_int max_two min_two max_three min_three max_four min_four   -- for this text's walks alone
set_option linter.unusedVariables false
set_option linter.unusedSimpArgs false

/-! ### bagnallkeep_SignPowers: function 4 -/
def bagnallkeep_SignPowers.j0 : Nat → Int → Int → Int → Int → Bool → Option (Bool)
  | 0, _, _, _, _, _ => none
  | k + 1, x5, x6, x7, x9, x36 => if x36 = true then (some false) else (if (Int.tmod (wrap64 (x5 + x6)) 3911) = 0 then (some ((Int.tmod (wrap64 (x7 * x9)) 7823) == 1)) else ((sign_Public.f k (Int.tmod (wrap64 (x5 + x6)) 3911)).bind fun bt159 => (if bt159.2 = 0 then (some (bt159.1 == (Int.tmod (wrap64 (x7 * x9)) 7823))) else (some false))))
def bagnallkeep_SignPowers.f (k : Nat) (a0 : Int) (a1 : Int) : Option (Bool) := (bagnallkeep_SecretOf.f a0).bind fun t152 => ((bagnallkeep_SecretOf.f a1).bind fun t153 => ((sign_Public.f k t152).bind fun bt154 => ((sign_Public.f k t153).bind fun bt156 => (if bt154.2 = 0 then (if bt156.2 = 0 then ((bagnallkeep_signSure.f k).bind fun t158 => (bagnallkeep_SignPowers.j0 k t152 t153 bt154.1 bt156.1 (!t158))) else (bagnallkeep_SignPowers.j0 k t152 t153 bt154.1 bt156.1 true)) else (bagnallkeep_SignPowers.j0 k t152 t153 bt154.1 bt156.1 true)))))
theorem bagnallkeep_SignPowers.mono_l : ∀ k, (∀ y0 y1 y2 y3 y4, LeO (bagnallkeep_SignPowers.j0 k y0 y1 y2 y3 y4) (bagnallkeep_SignPowers.j0 (k + 1) y0 y1 y2 y3 y4))
  | 0 => fun _ _ _ _ _ r h => by simp [bagnallkeep_SignPowers.j0] at h
  | k + 1 => by
    have ih0 := bagnallkeep_SignPowers.mono_l k
    · intro y0 y1 y2 y3 y4
      unfold bagnallkeep_SignPowers.j0
      repeat' first
      | (with_reducible exact ih0 _ _ _ _ _)
      | (with_reducible exact bagnallkeep_signSure.mono _)
      | (with_reducible exact sign_Public.mono _ _)
      | (with_reducible exact LeO.refl _)
      | (with_reducible exact LeO.none _)
      | (with_reducible refine LeO.ite ?_ ?_)
      | (with_reducible refine LeO.bind ?_ (fun _ => ?_))
      | exact ih0 _ _ _ _ _
      | exact bagnallkeep_signSure.mono _
      | exact sign_Public.mono _ _
      | exact LeO.none _
      | refine LeO.ite ?_ ?_
      | refine LeO.bind ?_ (fun _ => ?_)
theorem bagnallkeep_SignPowers.mono : ∀ a0 a1 k, LeO (bagnallkeep_SignPowers.f k a0 a1) (bagnallkeep_SignPowers.f (k + 1) a0 a1) := by
  intro a0 a1 k
  have ih0 := bagnallkeep_SignPowers.mono_l k
  unfold bagnallkeep_SignPowers.f
  repeat' first
      | (with_reducible exact ih0 _ _ _ _ _)
      | (with_reducible exact bagnallkeep_signSure.mono _)
      | (with_reducible exact sign_Public.mono _ _)
      | (with_reducible exact LeO.refl _)
      | (with_reducible exact LeO.none _)
      | (with_reducible refine LeO.ite ?_ ?_)
      | (with_reducible refine LeO.bind ?_ (fun _ => ?_))
      | exact ih0 _ _ _ _ _
      | exact bagnallkeep_signSure.mono _
      | exact sign_Public.mono _ _
      | exact LeO.none _
      | refine LeO.ite ?_ ?_
      | refine LeO.bind ?_ (fun _ => ?_)
set_option maxHeartbeats 8000000 in
set_option maxRecDepth 100000 in
theorem bagnallkeep_SignPowers.calls (k : Nat) (a0 : Int) (a1 : Int) (r : Bool) (w : World) (h : bagnallkeep_SignPowers.f k a0 a1 = some r) :
    Calls Try.prog 4 #[.int .i64 a0, .int .i64 a1] w fun e w' => e = .returned (.bool r) ∧ Below w.heap.size w w' := by
  have HB := Aside0.mk (Below.refl w.heap.size w)
  have H : ((bagnallkeep_SecretOf.f a0).bind fun t152 => ((bagnallkeep_SecretOf.f a1).bind fun t153 => ((sign_Public.f k t152).bind fun bt154 => ((sign_Public.f k t153).bind fun bt156 => (if bt154.2 = 0 then (if bt156.2 = 0 then ((bagnallkeep_signSure.f k).bind fun t158 => (bagnallkeep_SignPowers.j0 k t152 t153 bt154.1 bt156.1 (!t158))) else (bagnallkeep_SignPowers.j0 k t152 t153 bt154.1 bt156.1 true)) else (bagnallkeep_SignPowers.j0 k t152 t153 bt154.1 bt156.1 true)))))) = some r := h
  clear h
  replace H := Option.bind_eq_some_iff.mp H
  obtain ⟨t152, A30, H⟩ := H
  replace H : ((bagnallkeep_SecretOf.f a1).bind fun t153 => ((sign_Public.f k t152).bind fun bt154 => ((sign_Public.f k t153).bind fun bt156 => (if bt154.2 = 0 then (if bt156.2 = 0 then ((bagnallkeep_signSure.f k).bind fun t158 => (bagnallkeep_SignPowers.j0 k t152 t153 bt154.1 bt156.1 (!t158))) else (bagnallkeep_SignPowers.j0 k t152 t153 bt154.1 bt156.1 true)) else (bagnallkeep_SignPowers.j0 k t152 t153 bt154.1 bt156.1 true))))) = some r := H
  have A3 := Aside0.mk A30
  clear A30
  replace H := Option.bind_eq_some_iff.mp H
  obtain ⟨t153, A40, H⟩ := H
  replace H : ((sign_Public.f k t152).bind fun bt154 => ((sign_Public.f k t153).bind fun bt156 => (if bt154.2 = 0 then (if bt156.2 = 0 then ((bagnallkeep_signSure.f k).bind fun t158 => (bagnallkeep_SignPowers.j0 k t152 t153 bt154.1 bt156.1 (!t158))) else (bagnallkeep_SignPowers.j0 k t152 t153 bt154.1 bt156.1 true)) else (bagnallkeep_SignPowers.j0 k t152 t153 bt154.1 bt156.1 true)))) = some r := H
  have A4 := Aside0.mk A40
  clear A40
  replace H := Option.bind_eq_some_iff.mp H
  obtain ⟨⟨t154, t155⟩, A50, H⟩ := H
  replace H : ((sign_Public.f k t153).bind fun bt156 => (if t155 = 0 then (if bt156.2 = 0 then ((bagnallkeep_signSure.f k).bind fun t158 => (bagnallkeep_SignPowers.j0 k t152 t153 t154 bt156.1 (!t158))) else (bagnallkeep_SignPowers.j0 k t152 t153 t154 bt156.1 true)) else (bagnallkeep_SignPowers.j0 k t152 t153 t154 bt156.1 true))) = some r := H
  have A5 := Aside0.mk A50
  clear A50
  replace H := Option.bind_eq_some_iff.mp H
  obtain ⟨⟨t156, t157⟩, A60, H⟩ := H
  replace H : (if t155 = 0 then (if t157 = 0 then ((bagnallkeep_signSure.f k).bind fun t158 => (bagnallkeep_SignPowers.j0 k t152 t153 t154 t156 (!t158))) else (bagnallkeep_SignPowers.j0 k t152 t153 t154 t156 true)) else (bagnallkeep_SignPowers.j0 k t152 t153 t154 t156 true)) = some r := H
  have A6 := Aside0.mk A60
  clear A60
  have HC7 := Aside0.mk H
  clear H
  go_enter Try.func4, Try.ntmps4
  go_upto_region 5 with (first | ((with_reducible refine gate_callee (f := 18) rfl ?_); refine goesL_ (some 14) rfl rfl Try.func18 (by kernel_rfl) rfl #[.int .i64 a0] rfl (by (try simp only [List.map_toArray, List.map_cons, List.map_nil]); first | done | rfl | (simp only [List.length_drop, List.length_take]; rfl)) ?_; (with_reducible refine (bagnallkeep_SecretOf.calls a0 t152 _ A3.out).mono ?_); rintro e w' ⟨rfl, ⟨nd, rfl⟩⟩; refine ⟨_, rfl, ?_⟩) | ((with_reducible refine gate_callee (f := 18) rfl ?_); refine goesL_ (some 16) rfl rfl Try.func18 (by kernel_rfl) rfl #[.int .i64 a1] rfl (by (try simp only [List.map_toArray, List.map_cons, List.map_nil]); first | done | rfl | (simp only [List.length_drop, List.length_take]; rfl)) ?_; (with_reducible refine (bagnallkeep_SecretOf.calls a1 t153 _ A4.out).mono ?_); rintro e w' ⟨rfl, ⟨nd, rfl⟩⟩; refine ⟨_, rfl, ?_⟩) | ((with_reducible refine gate_callee (f := 19) rfl ?_); refine goesL_ (some 19) rfl rfl Try.func19 (by kernel_rfl) rfl #[.int .i64 t152] rfl (by (try simp only [List.map_toArray, List.map_cons, List.map_nil]); first | done | rfl | (simp only [List.length_drop, List.length_take]; rfl)) ?_; (with_reducible refine (sign_Public.calls k t152 t154 t155 _ A5.out).mono ?_); rintro e w' ⟨rfl, ⟨nd, rfl⟩⟩; refine ⟨_, rfl, ?_⟩) | ((with_reducible refine gate_callee (f := 19) rfl ?_); refine goesL_ (some 24) rfl rfl Try.func19 (by kernel_rfl) rfl #[.int .i64 t153] rfl (by (try simp only [List.map_toArray, List.map_cons, List.map_nil]); first | done | rfl | (simp only [List.length_drop, List.length_take]; rfl)) ?_; (with_reducible refine (sign_Public.calls k t153 t156 t157 _ A6.out).mono ?_); rintro e w' ⟨rfl, ⟨nd, rfl⟩⟩; refine ⟨_, rfl, ?_⟩))
  (try simp only [Act.put, List.setIfInBounds_toArray, List.set_cons_zero, List.set_cons_succ])
  go_cut [36] (fun v36 wc => ∃ (kq : Nat) (x36_6 : Bool), v36 = .bool x36_6 ∧ Aside0 (bagnallkeep_SignPowers.j0 kq t152 t153 t154 t156 x36_6 = some r) ∧ Aside0 (kq ≤ k) ∧ Aside0 (Below w.heap.size w wc))
  case first =>
    have H := HC7.out
    clear HC7
    by_cases c8 : t155 = 0
    · rw [if_pos c8] at H
      have c8b0 : (t155 == 0) = true := beq_iff_eq.mpr c8
      have c8b1 : (t155 != 0) = false := bne_eq_false_iff_eq.mpr c8
      clear c8
      (first | rw [c8b0] | (simp only [i64_w, i32_w]; rw [c8b0]) | skip)
      by_cases c9 : t157 = 0
      · rw [if_pos c9] at H
        have c9b0 : (t157 == 0) = true := beq_iff_eq.mpr c9
        have c9b1 : (t157 != 0) = false := bne_eq_false_iff_eq.mpr c9
        clear c9
        replace H := Option.bind_eq_some_iff.mp H
        obtain ⟨t158, A100, H⟩ := H
        replace H : (bagnallkeep_SignPowers.j0 k t152 t153 t154 t156 (!t158)) = some r := H
        have A10 := Aside0.mk A100
        clear A100
        have H' := Aside0.mk H
        clear H
        go_wp2_with (first | (go_at_call 20; (with_reducible refine (bagnallkeep_signSure.calls k  t158 _ A10.out).mono ?_); rintro e w11 ⟨rfl, hb⟩; have n0_ := Aside0.mk (below_step (by repeat (first | (with_reducible first | exact HB.out | apply below_alloc | apply pw_below_drewN | apply below_drew1) | exact HB.out)) hb); clear HB; have HB := n0_; clear n0_; (try clear hb); (try clear hb2); (try clear hk); (try clear hi)))
        go_meet
        case rel => exact ⟨_, (!t158), (by first | rfl | (simp; done) | (simp [*]; done)), H', ⟨by first | omega | exact Nat.le_refl _⟩, ⟨by repeat (first | (with_reducible first | exact HB.out | apply below_alloc | apply pw_below_drewN | apply below_drew1) | exact HB.out)⟩⟩
      · rw [if_neg c9] at H
        have c9b0 : (t157 == 0) = false := beq_eq_false_iff_ne.mpr c9
        have c9b1 : (t157 != 0) = true := bne_iff_ne.mpr c9
        have H' := Aside0.mk H
        clear H
        go_wp2
        go_meet
        case rel => exact ⟨_, (true), (by first | rfl | (simp; done) | (simp [*]; done)), H', ⟨by first | omega | exact Nat.le_refl _⟩, ⟨by repeat (first | (with_reducible first | exact HB.out | apply below_alloc | apply pw_below_drewN | apply below_drew1) | exact HB.out)⟩⟩
    · rw [if_neg c8] at H
      have c8b0 : (t155 == 0) = false := beq_eq_false_iff_ne.mpr c8
      have c8b1 : (t155 != 0) = true := bne_iff_ne.mpr c8
      (first | rw [c8b0] | (simp only [i64_w, i32_w]; rw [c8b0]) | skip)
      have H' := Aside0.mk H
      clear H
      go_wp2
      go_meet
      case rel => exact ⟨_, (true), (by first | rfl | (simp; done) | (simp [*]; done)), H', ⟨by first | omega | exact Nat.le_refl _⟩, ⟨by repeat (first | (with_reducible first | exact HB.out | apply below_alloc | apply pw_below_drewN | apply below_drew1) | exact HB.out)⟩⟩
  case rest =>
    clear HC7
    try clear c1
    try clear p2
    try clear c4
    try clear c8
    try clear c8b0
    try clear c8b1
    try clear c9
    try clear c9b0
    try clear c9b1
    obtain ⟨kq, x36_6, rfl, HA, HJ6, HB⟩ := hcut
    cases kq with
    | zero => exact absurd HA.out (by simp [bagnallkeep_SignPowers.j0])
    | succ kj6 =>
      have H := HA.out
      clear HA
      simp only [bagnallkeep_SignPowers.j0] at H
      by_cases c12 : x36_6 = true
      · subst c12
        have H1 : (some false) = some r := by rw [if_pos rfl] at H; exact H
        clear H
        have H := H1
        clear H1
        obtain rfl := Option.some.inj H
        go_wp2
        go_ret
        exact ⟨by first | rfl | (simp [errW_none, errW_some] <;> rfl) | (simp [*, errW_none, errW_some] <;> rfl), by repeat (first | (with_reducible first | exact HB.out | apply below_alloc | apply pw_below_drewN | apply below_drew1) | exact HB.out)⟩
      · replace c12 := Bool.eq_false_iff.mpr c12
        subst c12
        have H1 : (if (Int.tmod (wrap64 (t152 + t153)) 3911) = 0 then (some ((Int.tmod (wrap64 (t154 * t156)) 7823) == 1)) else ((sign_Public.f kj6 (Int.tmod (wrap64 (t152 + t153)) 3911)).bind fun bt159 => (if bt159.2 = 0 then (some (bt159.1 == (Int.tmod (wrap64 (t154 * t156)) 7823))) else (some false)))) = some r := by rw [if_neg (show ¬ (false = true) by decide)] at H; exact H
        clear H
        have H := H1
        clear H1
        by_cases c13 : (Int.tmod (wrap64 (t152 + t153)) 3911) = 0
        · rw [if_pos c13] at H
          have c13b0 : ((Int.tmod (wrap64 (t152 + t153)) 3911) == 0) = true := beq_iff_eq.mpr c13
          have c13b1 : ((Int.tmod (wrap64 (t152 + t153)) 3911) != 0) = false := bne_eq_false_iff_eq.mpr c13
          clear c13
          obtain rfl := Option.some.inj H
          go_wp2
          go_ret
          exact ⟨by first | rfl | (simp [errW_none, errW_some] <;> rfl) | (simp [*, errW_none, errW_some] <;> rfl), by repeat (first | (with_reducible first | exact HB.out | apply below_alloc | apply pw_below_drewN | apply below_drew1) | exact HB.out)⟩
        · rw [if_neg c13] at H
          have c13b0 : ((Int.tmod (wrap64 (t152 + t153)) 3911) == 0) = false := beq_eq_false_iff_ne.mpr c13
          have c13b1 : ((Int.tmod (wrap64 (t152 + t153)) 3911) != 0) = true := bne_iff_ne.mpr c13
          replace H := Option.bind_eq_some_iff.mp H
          obtain ⟨⟨t159, t160⟩, A140, H⟩ := H
          replace H : (if t160 = 0 then (some (t159 == (Int.tmod (wrap64 (t154 * t156)) 7823))) else (some false)) = some r := H
          have A14 := Aside0.mk A140
          clear A140
          by_cases c15 : t160 = 0
          · rw [if_pos c15] at H
            have c15b0 : (t160 == 0) = true := beq_iff_eq.mpr c15
            have c15b1 : (t160 != 0) = false := bne_eq_false_iff_eq.mpr c15
            clear c15
            obtain rfl := Option.some.inj H
            go_wp2_with (first | ((with_reducible refine gate_callee (f := 19) rfl ?_); refine goesL_ (some 52) rfl rfl Try.func19 (by kernel_rfl) rfl #[.int .i64 (Int.tmod (wrap64 (t152 + t153)) 3911)] rfl (by (try simp only [List.map_toArray, List.map_cons, List.map_nil]); first | done | rfl | (simp only [List.length_drop, List.length_take]; rfl)) ?_; (with_reducible refine (sign_Public.calls kj6 (Int.tmod (wrap64 (t152 + t153)) 3911) t159 t160 _ A14.out).mono ?_); rintro e w' ⟨rfl, ⟨nd, rfl⟩⟩; refine ⟨_, rfl, ?_⟩))
            go_ret
            exact ⟨by first | rfl | (simp [errW_none, errW_some] <;> rfl) | (simp [*, errW_none, errW_some] <;> rfl), by repeat (first | (with_reducible first | exact HB.out | apply below_alloc | apply pw_below_drewN | apply below_drew1) | exact HB.out)⟩
          · rw [if_neg c15] at H
            have c15b0 : (t160 == 0) = false := beq_eq_false_iff_ne.mpr c15
            have c15b1 : (t160 != 0) = true := bne_iff_ne.mpr c15
            obtain rfl := Option.some.inj H
            go_wp2_with (first | ((with_reducible refine gate_callee (f := 19) rfl ?_); refine goesL_ (some 52) rfl rfl Try.func19 (by kernel_rfl) rfl #[.int .i64 (Int.tmod (wrap64 (t152 + t153)) 3911)] rfl (by (try simp only [List.map_toArray, List.map_cons, List.map_nil]); first | done | rfl | (simp only [List.length_drop, List.length_take]; rfl)) ?_; (with_reducible refine (sign_Public.calls kj6 (Int.tmod (wrap64 (t152 + t153)) 3911) t159 t160 _ A14.out).mono ?_); rintro e w' ⟨rfl, ⟨nd, rfl⟩⟩; refine ⟨_, rfl, ?_⟩))
            go_ret
            exact ⟨by first | rfl | (simp [errW_none, errW_some] <;> rfl) | (simp [*, errW_none, errW_some] <;> rfl), by repeat (first | (with_reducible first | exact HB.out | apply below_alloc | apply pw_below_drewN | apply below_drew1) | exact HB.out)⟩

/-- THE ONE PURE STATEMENT of bagnallkeep_SignPowers: yours. -/
def bagnallkeep_SignPowers.Pure : Prop := ∀ (a0 : Int) (a1 : Int), (Lit.int .i64 a0).wf = true → (Lit.int .i64 a1).wf = true → ∃ k, bagnallkeep_SignPowers.f k a0 a1 = some true
theorem bagnallkeep_SignPowers.walk (P : bagnallkeep_SignPowers.Pure) (a0 : Int) (a1 : Int) (w : World) (w0 : (Lit.int .i64 a0).wf = true) (w1 : (Lit.int .i64 a1).wf = true) :
    Calls Try.prog 4 #[.int .i64 a0, .int .i64 a1] w fun e w' => e = .returned (.bool true) ∧ Below w.heap.size w w' := by
  obtain ⟨k, h⟩ := P a0 a1 w0 w1
  refine (bagnallkeep_SignPowers.calls k a0 a1 true w h).mono ?_
  rintro e w' ⟨rfl, hd⟩
  exact ⟨rfl, hd⟩

end Go.Proofs.Ytfdceninhieheaa.QSign
