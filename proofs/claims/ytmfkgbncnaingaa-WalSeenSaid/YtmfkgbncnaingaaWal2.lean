/- Whether records may be. -/
import Derived.Test.YtmfkgbncnaingaaWal1
namespace Go.Proofs.Ytmfkgbncnaingaa.Wal
open Go.RowKit Go.Proofs.Ytmfkgbncnaingaa.QWal Go.Proofs.YtmfkgbncnaingaaW.PrintWords Go.Proofs.YtmfkgbncnaingaaW.PrintLast Go.Proofs.YtmfkgbncnaingaaW.PrintMore

/-- May a record of so many bytes be? -/
def may (n : Nat) : Bool := decide (1 ≤ n ∧ n ≤ 60)
theorem May_calls (A : Option Addr) (n c : Nat) (w : World) : Calls Try.prog 60 #[.slice A n c] w fun e w' => e = .returned (.bool (may n)) ∧ w = w' := by
  by_cases h1 : 1 ≤ n
  · have hb1 : decide ((n : Int) ≥ 1) = true := decide_eq_true (by omega)
    by_cases h2 : n ≤ 60
    · have hm : may n = true := decide_eq_true ⟨h1, h2⟩
      rw [hm]
      have hb2 : decide ((n : Int) ≤ 60) = true := decide_eq_true (by omega)
      go_enter Try.func60, Try.ntmps60
      go_wp2
      go_ret
      exact ⟨rfl, rfl⟩
    · have hm : may n = false := decide_eq_false (fun h => h2 h.2)
      rw [hm]
      have hb2 : decide ((n : Int) ≤ 60) = false := decide_eq_false (by omega)
      go_enter Try.func60, Try.ntmps60
      go_wp2
      go_ret
      exact ⟨rfl, rfl⟩
  · have hm : may n = false := decide_eq_false (fun h => h1 h.1)
    rw [hm]
    have hb1 : decide ((1 : Int) ≤ (n : Int)) = false := decide_eq_false (by omega)
    go_enter Try.func60, Try.ntmps60
    go_wp2
    go_ret
    exact ⟨rfl, rfl⟩

theorem odd_calls (A : Option Addr) (n c : Nat) (w : World) : Calls Try.prog 59 #[.slice A n c] w fun e w' => e = .returned (.bool (!may n)) ∧ w = w' := by
  go_enter Try.func59, Try.ntmps59
  go_wp2_with (go_at_call 60; refine (May_calls A n c _).mono ?_; rintro e w' ⟨rfl, rfl⟩)
  go_ret
  exact ⟨rfl, rfl⟩

/-- Are all records such that may be? -/
def mayAll (l : List (List Int)) : Bool := l.all fun x => may x.length
theorem mayAll_append (a b : List (List Int)) : mayAll (a ++ b) = (mayAll a && mayAll b) := List.all_append
theorem mayAll_cons (x : List Int) (l : List (List Int)) : mayAll (x :: l) = (may x.length && mayAll l) := rfl

set_option maxRecDepth 100000 in
set_option maxHeartbeats 4000000 in
theorem Index_calls (A0 : Option Addr) (c0 : Nat) (l : List (List Int)) (w : World) (hr : Kd.C (Kd.slice 5 (Kd.int .u8)) w A0 l.length l) (hl : l.length ≤ 100000) :
    Calls Try.prog 73 #[.slice A0 l.length c0, .func (.func 59) #[] #[]] w fun e w' => ∃ r : Int, e = .returned (.int .i64 r) ∧ w = w' ∧ decide (0 ≤ r) = !mayAll l := by
  have HR := Aside0.mk hr
  clear hr
  go_enter Try.func73, Try.ntmps73
  go_wp2
  go_loopg [5, 8] (l.length) (fun kq v5 v8 wr => ∃ (i : Nat), v8 = .int .i64 i ∧ Aside0 (kq + i = l.length) ∧ Aside0 (mayAll (l.take i) = true) ∧ Aside0 (w = wr))
  case atStart => exact ⟨0, rfl, ⟨by omega⟩, ⟨rfl⟩, ⟨rfl⟩⟩
  case round =>
    obtain ⟨i, rfl, hK, hM, hW⟩ := hrel
    obtain rfl := hW.out
    by_cases hlt : i < l.length
    · obtain ⟨ad, A1, c1, rfl, hx0, hl1, hrd1⟩ := at_L1 HR.out (i : Int) (by omega) (by omega)
      have hel : rd_L1 l (i : Int) = l[i] := by simp [rd_L1, List.getD_eq_getElem?_getD, hlt]
      rw [hel] at hx0 hl1 hrd1
      rw [Int.toNat_natCast] at hx0
      have hsplit : l.take (i + 1) = l.take i ++ [l[i]] := List.take_succ_eq_append_getElem hlt
      have hall : mayAll l = (mayAll (l.take i) && (may l[i].length && mayAll (l.drop (i + 1)))) := by
        have h1 : l = l.take i ++ l[i] :: l.drop (i + 1) := by rw [← List.drop_eq_getElem_cons hlt, List.take_append_drop]
        exact (congrArg mayAll h1).trans (by rw [mayAll_append, mayAll_cons])
      clear hel hrd1
      cases hm : may l[i].length with
      | true =>
        have HM := Aside0.mk (show mayAll (l.take (i + 1)) = true by rw [hsplit, mayAll_append, hM.out, mayAll_cons, hm]; rfl)
        have HOdd := Aside0.mk (odd_calls A1 l[i].length c1 w)
        rw [hm] at HOdd
        generalize l[i] = x at *
        clear hall hsplit hm
        go_wp2_with (go_at_call 59; refine HOdd.out.mono ?_; rintro e w' ⟨rfl, rfl⟩)
        go_roundg (gk - 1)
        case measure => have := hK.out; omega
        case rel => exact ⟨i + 1, by go_num, ⟨by have := hK.out; omega⟩, HM, ⟨rfl⟩⟩
      | false =>
        have HOdd := Aside0.mk (odd_calls A1 l[i].length c1 w)
        rw [hm] at HOdd hall
        have HA := Aside0.mk (show mayAll l = false by rw [hall]; simp)
        generalize l[i] = x at *
        clear hall hsplit hm
        go_wp2_with (go_at_call 59; refine HOdd.out.mono ?_; rintro e w' ⟨rfl, rfl⟩)
        go_ret
        exact ⟨_, rfl, rfl, by rw [HA.out, decide_eq_true (by omega)]; rfl⟩
    · have HA := Aside0.mk (show mayAll l = true by have := hM.out; rwa [List.take_of_length_le (by omega)] at this)
      go_wp2
      go_ret
      exact ⟨_, rfl, rfl, by rw [HA.out]; rfl⟩

theorem Contains_calls (A0 : Option Addr) (c0 : Nat) (l : List (List Int)) (w : World) (hr : Kd.C (Kd.slice 5 (Kd.int .u8)) w A0 l.length l) (hl : l.length ≤ 100000) :
    Calls Try.prog 61 #[.slice A0 l.length c0, .func (.func 59) #[] #[]] w fun e w' => e = .returned (.bool (!mayAll l)) ∧ w = w' := by
  have HI := fun w h => Aside0.mk (Index_calls A0 c0 l w h hl)
  have HR := Aside0.mk hr
  clear hr
  go_enter Try.func61, Try.ntmps61
  go_wp2_with (go_at_call 73; refine (HI _ HR.out).out.mono ?_; rintro e w' ⟨r, rfl, rfl, hd⟩)
  go_ret
  exact ⟨by rw [← hd]; rfl, rfl⟩

end Go.Proofs.Ytmfkgbncnaingaa.Wal
