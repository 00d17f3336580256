/- json.plain: are all fields empty that a kind does not use? -/
import Derived.Test.YtmhfkbgdkgfafaaDoorQJsonx0
namespace Go.Proofs.YtmhfkbgdkgfafaaDoor.QJson
open Go.RowKit Go.Proofs.YtmhfkbgdkgfafaaDoorW.PrintWords Go.Proofs.YtmhfkbgdkgfafaaDoorW.PrintLast Go.Proofs.YtmhfkbgdkgfafaaDoorW.PrintMore
set_option linter.unusedVariables false
set_option linter.unusedSimpArgs false

def plainB (k n : Int) (t : ByteArray) (ks ps : Nat) : Bool := (k == 4 || n == 0) && (k == 5 || t.toList.isEmpty) && (k == 7 || ks == 0) && (k == 6 || k == 7 || ps == 0)
def json_plain.f (a0_0 : Int) (a0_1 : Int) (a0_2 : ByteArray) (l0_3 : List ByteArray) (l0_4 : List S26) : Option Bool := some (plainB a0_0 a0_1 a0_2 l0_3.length l0_4.length)

set_option maxHeartbeats 8000000 in
set_option maxRecDepth 100000 in
theorem json_plain.calls (a0_0 : Int) (a0_1 : Int) (a0_2 : ByteArray) (A0_3 : Option Addr) (c0_3 : Nat) (l0_3 : List ByteArray) (A0_4 : Option Addr) (c0_4 : Nat) (l0_4 : List (S26)) (r : Bool) (w : World) (hr0_3 : Kd.C Kd.string w A0_3 l0_3.length l0_3) (hc0_3 : l0_3.length ≤ c0_3) (hr0_4 : Kd.C k26 w A0_4 l0_4.length l0_4) (hc0_4 : l0_4.length ≤ c0_4) (h : json_plain.f a0_0 a0_1 a0_2 l0_3 l0_4 = some r) :
    Calls Tryd.prog 15 #[.agg #[.int .i64 a0_0, .int .i64 a0_1, .string a0_2, .slice A0_3 l0_3.length c0_3, .slice A0_4 l0_4.length c0_4]] w fun e w' => e = .returned (.bool r) ∧ Below w.heap.size w w' := by
  obtain rfl := Option.some.inj h
  generalize hks : l0_3.length = ks
  generalize hps : l0_4.length = ps
  have h0 := (⟨trivial⟩ : Aside0 True)
  clear hr0_3 hr0_4 hc0_3 hc0_4 h hks hps
  obtain ⟨r, hr⟩ : ∃ r, r = plainB a0_0 a0_1 a0_2 ks ps := ⟨_, rfl⟩
  rw [← hr]
  by_cases h4 : a0_0 = 4
  · subst h4
    by_cases ht : a0_2.toList = []
    · have q_t : a0_2.toList.isEmpty = true := by rw [ht]; rfl
      have q_t2 : (a0_2.toList == []) = true := by rw [ht]; rfl
      by_cases h_ks : ks = 0
      · subst h_ks
        by_cases h_ps : ps = 0
        · subst h_ps
          have HR := Aside0.mk (show r = true by rw [hr]; unfold plainB; simp [*])
          clear hr
          go_enter Tryd.func15, Tryd.ntmps15
          go_wp2
          go_ret
          exact ⟨by rw [HR.out]; rfl, (below_alloc (below_alloc (Below.refl _ _) _) _)⟩
        · have q_ps : ((ps : Int) == 0) = false := beq_eq_false_iff_ne.2 (by omega)
          have q_ps2 : (ps == 0) = false := beq_eq_false_iff_ne.2 h_ps
          have HR := Aside0.mk (show r = false by rw [hr]; unfold plainB; simp [*])
          clear hr
          go_enter Tryd.func15, Tryd.ntmps15
          go_wp2
          go_ret
          exact ⟨by rw [HR.out]; rfl, (below_alloc (below_alloc (Below.refl _ _) _) _)⟩
      · have q_ks : ((ks : Int) == 0) = false := beq_eq_false_iff_ne.2 (by omega)
        have q_ks2 : (ks == 0) = false := beq_eq_false_iff_ne.2 h_ks
        have HR := Aside0.mk (show r = false by rw [hr]; unfold plainB; simp [*])
        clear hr
        go_enter Tryd.func15, Tryd.ntmps15
        go_wp2
        go_ret
        exact ⟨by rw [HR.out]; rfl, (below_alloc (below_alloc (Below.refl _ _) _) _)⟩
    · have q_t : a0_2.toList.isEmpty = false := by simpa using ht
      have q_t2 : (a0_2.toList == []) = false := beq_eq_false_iff_ne.2 ht
      have HR := Aside0.mk (show r = false by rw [hr]; unfold plainB; simp [*])
      clear hr
      go_enter Tryd.func15, Tryd.ntmps15
      go_wp2
      go_ret
      exact ⟨by rw [HR.out]; rfl, (below_alloc (below_alloc (Below.refl _ _) _) _)⟩
  · have k4 : (a0_0 == 4) = false := beq_eq_false_iff_ne.2 h4
    by_cases h5 : a0_0 = 5
    · subst h5
      by_cases hn : a0_1 = 0
      · subst hn
        by_cases h_ks : ks = 0
        · subst h_ks
          by_cases h_ps : ps = 0
          · subst h_ps
            have HR := Aside0.mk (show r = true by rw [hr]; unfold plainB; simp [*])
            clear hr
            go_enter Tryd.func15, Tryd.ntmps15
            go_wp2
            go_ret
            exact ⟨by rw [HR.out]; rfl, (below_alloc (below_alloc (Below.refl _ _) _) _)⟩
          · have q_ps : ((ps : Int) == 0) = false := beq_eq_false_iff_ne.2 (by omega)
            have q_ps2 : (ps == 0) = false := beq_eq_false_iff_ne.2 h_ps
            have HR := Aside0.mk (show r = false by rw [hr]; unfold plainB; simp [*])
            clear hr
            go_enter Tryd.func15, Tryd.ntmps15
            go_wp2
            go_ret
            exact ⟨by rw [HR.out]; rfl, (below_alloc (below_alloc (Below.refl _ _) _) _)⟩
        · have q_ks : ((ks : Int) == 0) = false := beq_eq_false_iff_ne.2 (by omega)
          have q_ks2 : (ks == 0) = false := beq_eq_false_iff_ne.2 h_ks
          have HR := Aside0.mk (show r = false by rw [hr]; unfold plainB; simp [*])
          clear hr
          go_enter Tryd.func15, Tryd.ntmps15
          go_wp2
          go_ret
          exact ⟨by rw [HR.out]; rfl, (below_alloc (below_alloc (Below.refl _ _) _) _)⟩
      · have q_n : (a0_1 == 0) = false := beq_eq_false_iff_ne.2 hn
        have HR := Aside0.mk (show r = false by rw [hr]; unfold plainB; simp [*])
        clear hr
        go_enter Tryd.func15, Tryd.ntmps15
        go_wp2
        go_ret
        exact ⟨by rw [HR.out]; rfl, (below_alloc (below_alloc (Below.refl _ _) _) _)⟩
    · have k5 : (a0_0 == 5) = false := beq_eq_false_iff_ne.2 h5
      by_cases h6 : a0_0 = 6
      · subst h6
        by_cases hn : a0_1 = 0
        · subst hn
          by_cases ht : a0_2.toList = []
          · have q_t : a0_2.toList.isEmpty = true := by rw [ht]; rfl
            have q_t2 : (a0_2.toList == []) = true := by rw [ht]; rfl
            by_cases h_ks : ks = 0
            · subst h_ks
              have HR := Aside0.mk (show r = true by rw [hr]; unfold plainB; simp [*])
              clear hr
              go_enter Tryd.func15, Tryd.ntmps15
              go_wp2
              go_ret
              exact ⟨by rw [HR.out]; rfl, (below_alloc (below_alloc (Below.refl _ _) _) _)⟩
            · have q_ks : ((ks : Int) == 0) = false := beq_eq_false_iff_ne.2 (by omega)
              have q_ks2 : (ks == 0) = false := beq_eq_false_iff_ne.2 h_ks
              have HR := Aside0.mk (show r = false by rw [hr]; unfold plainB; simp [*])
              clear hr
              go_enter Tryd.func15, Tryd.ntmps15
              go_wp2
              go_ret
              exact ⟨by rw [HR.out]; rfl, (below_alloc (below_alloc (Below.refl _ _) _) _)⟩
          · have q_t : a0_2.toList.isEmpty = false := by simpa using ht
            have q_t2 : (a0_2.toList == []) = false := beq_eq_false_iff_ne.2 ht
            have HR := Aside0.mk (show r = false by rw [hr]; unfold plainB; simp [*])
            clear hr
            go_enter Tryd.func15, Tryd.ntmps15
            go_wp2
            go_ret
            exact ⟨by rw [HR.out]; rfl, (below_alloc (below_alloc (Below.refl _ _) _) _)⟩
        · have q_n : (a0_1 == 0) = false := beq_eq_false_iff_ne.2 hn
          have HR := Aside0.mk (show r = false by rw [hr]; unfold plainB; simp [*])
          clear hr
          go_enter Tryd.func15, Tryd.ntmps15
          go_wp2
          go_ret
          exact ⟨by rw [HR.out]; rfl, (below_alloc (below_alloc (Below.refl _ _) _) _)⟩
      · have k6 : (a0_0 == 6) = false := beq_eq_false_iff_ne.2 h6
        by_cases h7 : a0_0 = 7
        · subst h7
          by_cases hn : a0_1 = 0
          · subst hn
            by_cases ht : a0_2.toList = []
            · have q_t : a0_2.toList.isEmpty = true := by rw [ht]; rfl
              have q_t2 : (a0_2.toList == []) = true := by rw [ht]; rfl
              have HR := Aside0.mk (show r = true by rw [hr]; unfold plainB; simp [*])
              clear hr
              go_enter Tryd.func15, Tryd.ntmps15
              go_wp2
              go_ret
              exact ⟨by rw [HR.out]; rfl, (below_alloc (below_alloc (Below.refl _ _) _) _)⟩
            · have q_t : a0_2.toList.isEmpty = false := by simpa using ht
              have q_t2 : (a0_2.toList == []) = false := beq_eq_false_iff_ne.2 ht
              have HR := Aside0.mk (show r = false by rw [hr]; unfold plainB; simp [*])
              clear hr
              go_enter Tryd.func15, Tryd.ntmps15
              go_wp2
              go_ret
              exact ⟨by rw [HR.out]; rfl, (below_alloc (below_alloc (Below.refl _ _) _) _)⟩
          · have q_n : (a0_1 == 0) = false := beq_eq_false_iff_ne.2 hn
            have HR := Aside0.mk (show r = false by rw [hr]; unfold plainB; simp [*])
            clear hr
            go_enter Tryd.func15, Tryd.ntmps15
            go_wp2
            go_ret
            exact ⟨by rw [HR.out]; rfl, (below_alloc (below_alloc (Below.refl _ _) _) _)⟩
        · have k7 : (a0_0 == 7) = false := beq_eq_false_iff_ne.2 h7
          by_cases hn : a0_1 = 0
          · subst hn
            by_cases ht : a0_2.toList = []
            · have q_t : a0_2.toList.isEmpty = true := by rw [ht]; rfl
              have q_t2 : (a0_2.toList == []) = true := by rw [ht]; rfl
              by_cases h_ks : ks = 0
              · subst h_ks
                by_cases h_ps : ps = 0
                · subst h_ps
                  have HR := Aside0.mk (show r = true by rw [hr]; unfold plainB; simp [*])
                  clear hr
                  go_enter Tryd.func15, Tryd.ntmps15
                  go_wp2
                  go_ret
                  exact ⟨by rw [HR.out]; rfl, (below_alloc (below_alloc (Below.refl _ _) _) _)⟩
                · have q_ps : ((ps : Int) == 0) = false := beq_eq_false_iff_ne.2 (by omega)
                  have q_ps2 : (ps == 0) = false := beq_eq_false_iff_ne.2 h_ps
                  have HR := Aside0.mk (show r = false by rw [hr]; unfold plainB; simp [*])
                  clear hr
                  go_enter Tryd.func15, Tryd.ntmps15
                  go_wp2
                  go_ret
                  exact ⟨by rw [HR.out]; rfl, (below_alloc (below_alloc (Below.refl _ _) _) _)⟩
              · have q_ks : ((ks : Int) == 0) = false := beq_eq_false_iff_ne.2 (by omega)
                have q_ks2 : (ks == 0) = false := beq_eq_false_iff_ne.2 h_ks
                have HR := Aside0.mk (show r = false by rw [hr]; unfold plainB; simp [*])
                clear hr
                go_enter Tryd.func15, Tryd.ntmps15
                go_wp2
                go_ret
                exact ⟨by rw [HR.out]; rfl, (below_alloc (below_alloc (Below.refl _ _) _) _)⟩
            · have q_t : a0_2.toList.isEmpty = false := by simpa using ht
              have q_t2 : (a0_2.toList == []) = false := beq_eq_false_iff_ne.2 ht
              have HR := Aside0.mk (show r = false by rw [hr]; unfold plainB; simp [*])
              clear hr
              go_enter Tryd.func15, Tryd.ntmps15
              go_wp2
              go_ret
              exact ⟨by rw [HR.out]; rfl, (below_alloc (below_alloc (Below.refl _ _) _) _)⟩
          · have q_n : (a0_1 == 0) = false := beq_eq_false_iff_ne.2 hn
            have HR := Aside0.mk (show r = false by rw [hr]; unfold plainB; simp [*])
            clear hr
            go_enter Tryd.func15, Tryd.ntmps15
            go_wp2
            go_ret
            exact ⟨by rw [HR.out]; rfl, (below_alloc (below_alloc (Below.refl _ _) _) _)⟩

end Go.Proofs.YtmhfkbgdkgfafaaDoor.QJson
