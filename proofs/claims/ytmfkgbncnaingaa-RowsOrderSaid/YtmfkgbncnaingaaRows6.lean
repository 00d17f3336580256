/- The fault of changes. -/
import Derived.Test.YtmfkgbncnaingaaRows5
import Derived.Test.YtmfkgbncnaingaaQRowsx2
namespace Go.Proofs.Ytmfkgbncnaingaa.Rows
open Go.RowKit Go.Lib Go.Proofs.Ytmfkgbncnaingaa.QRows Go.Proofs.YtmfkgbncnaingaaW.PrintWords Go.Proofs.YtmfkgbncnaingaaW.PrintLast Go.Proofs.YtmfkgbncnaingaaW.PrintMore

/-- A key that may be. -/
def keyOk (a : ByteArray) : Bool := if a.toList = ([] : List UInt8) then false else decide ((a.size : Int) ≤ 20)
theorem key_is (a : ByteArray) : rows_key.f a = some (keyOk a) := by
  unfold rows_key.f keyOk; split <;> rfl
/-- A change that may not be. -/
def odd (x : S67) : Bool := !keyOk x.f0 || decide ((x.f1.size : Int) > 20)
theorem odd_calls (x : S67) (w : World) : Calls Try.prog 75 #[.agg #[.string x.f0, .string x.f1]] w fun e w' => e = .returned (.bool (odd x)) ∧ Below w.heap.size w w' := by
  have HK := fun w => Aside0.mk (rows_key.calls x.f0 (keyOk x.f0) w (key_is x.f0))
  unfold odd
  cases hk : keyOk x.f0 with
  | true =>
    rw [hk] at HK
    clear hk
    go_enter Try.func75, Try.ntmps75
    go_wp2_with (go_at_call 66; refine (HK _).out.mono ?_; rintro e w' ⟨rfl, hd⟩; have hB : Below (w.alloc (.cells #[.string x.f0, .string x.f1] 67)).heap.size (w.alloc (.cells #[.string x.f0, .string x.f1] 67)) w' := (by obtain ⟨m, rfl⟩ := hd.out; exact pw_below_drewN (Below.refl _ _) m); obtain ⟨hy0, hy1⟩ := box_cells hB; have HB := Aside0.mk (show Below w.heap.size w w' from (below_alloc (Below.refl _ _) _).trans (hB.mono (by show w.heap.size ≤ (w.heap.push _).size; rw [Array.size_push]; omega))); clear hd hB)
    go_ret
    exact ⟨rfl, HB.out⟩
  | false =>
    rw [hk] at HK
    clear hk
    go_enter Try.func75, Try.ntmps75
    go_wp2_with (go_at_call 66; refine (HK _).out.mono ?_; rintro e w' ⟨rfl, hd⟩; have hB : Below (w.alloc (.cells #[.string x.f0, .string x.f1] 67)).heap.size (w.alloc (.cells #[.string x.f0, .string x.f1] 67)) w' := (by obtain ⟨m, rfl⟩ := hd.out; exact pw_below_drewN (Below.refl _ _) m); obtain ⟨hy0, hy1⟩ := box_cells hB; have HB := Aside0.mk (show Below w.heap.size w w' from (below_alloc (Below.refl _ _) _).trans (hB.mono (by show w.heap.size ≤ (w.heap.push _).size; rw [Array.size_push]; omega))); clear hd hB)
    go_ret
    exact ⟨rfl, HB.out⟩

set_option maxRecDepth 100000 in
set_option maxHeartbeats 4000000 in
theorem Index_calls (A0 : Option Addr) (c0 : Nat) (l : List S67) (w : World) (hr : k67.C w A0 l.length l) (hl : l.length ≤ 100000) :
    Calls Try.prog 90 #[.slice A0 l.length c0, .func (.func 75) #[] #[]] w fun e w' => ∃ r : Int, e = .returned (.int .i64 r) ∧ Below w.heap.size w w' ∧ decide (0 ≤ r) = l.any odd := by
  have HR := Aside0.mk hr
  clear hr
  go_enter Try.func90, Try.ntmps90
  go_wp2
  go_loopg [5, 8] (l.length) (fun kq v5 v8 wr => ∃ (i : Nat), v8 = .int .i64 i ∧ Aside0 (kq + i = l.length) ∧ Aside0 ((l.take i).any odd = false) ∧ Aside0 (Below w.heap.size w wr))
  case atStart => exact ⟨0, rfl, ⟨by omega⟩, ⟨rfl⟩, ⟨Below.refl _ _⟩⟩
  case round =>
    obtain ⟨i, rfl, hK, hM, hW⟩ := hrel
    by_cases hlt : i < l.length
    · have hb1 : (i : Int) < (l.length : Int) := by omega
      have hwi : IntKind.i64.wrap ((i : Int) + 1) = (i : Int) + 1 := by rw [IntKind.wrap_i64]; omega
      obtain ⟨ad, rfl, hx0, hx1⟩ := at_T67 (Kd.C_below HR.out hW.out) (i : Int) (by omega) hb1
      have hel : rd_T67 l (i : Int) = l[i] := by simp [rd_T67, List.getD_eq_getElem?_getD, hlt]
      rw [hel] at hx0 hx1
      rw [Int.toNat_natCast] at hx0 hx1
      have hsplit : l.take (i + 1) = l.take i ++ [l[i]] := List.take_succ_eq_append_getElem hlt
      have hall : l.any odd = ((l.take i).any odd || (odd l[i] || (l.drop (i + 1)).any odd)) := by
        have h1 : l = l.take i ++ l[i] :: l.drop (i + 1) := by rw [← List.drop_eq_getElem_cons hlt, List.take_append_drop]
        exact (congrArg (List.any · odd) h1).trans (by rw [List.any_append, List.any_cons])
      have HOdd := fun w => Aside0.mk (odd_calls l[i] w)
      cases hm : odd l[i] with
      | false =>
        have HM := Aside0.mk (show (l.take (i + 1)).any odd = false by rw [hsplit, List.any_append, hM.out, List.any_cons, hm]; rfl)
        rw [hm] at HOdd
        generalize l[i] = x at *
        clear hall hsplit hm hel
        go_wp2_with (go_at_call 75; refine (HOdd _).out.mono ?_; rintro e w' ⟨rfl, hb⟩; have HB := Aside0.mk hb; clear hb)
        go_roundg (gk - 1)
        case measure => have := hK.out; omega
        case rel => exact ⟨i + 1, by go_num, ⟨by have := hK.out; omega⟩, HM, ⟨hW.out.trans (HB.out.mono hW.out.size)⟩⟩
      | true =>
        rw [hm] at HOdd hall
        have HA := Aside0.mk (show l.any odd = true by rw [hall]; simp)
        generalize l[i] = x at *
        clear hall hsplit hm hel
        go_wp2_with (go_at_call 75; refine (HOdd _).out.mono ?_; rintro e w' ⟨rfl, hb⟩; have HB := Aside0.mk hb; clear hb)
        go_ret
        exact ⟨_, rfl, hW.out.trans (HB.out.mono hW.out.size), by rw [HA.out, decide_eq_true (by omega)]⟩
    · have HA := Aside0.mk (show l.any odd = false by have := hM.out; rwa [List.take_of_length_le (by omega)] at this)
      go_wp2
      go_ret
      exact ⟨_, rfl, hW.out, by rw [HA.out]; rfl⟩

theorem Contains_calls (A0 : Option Addr) (c0 : Nat) (l : List S67) (w : World) (hr : k67.C w A0 l.length l) (hl : l.length ≤ 100000) :
    Calls Try.prog 76 #[.slice A0 l.length c0, .func (.func 75) #[] #[]] w fun e w' => e = .returned (.bool (l.any odd)) ∧ Below w.heap.size w w' := by
  have HI := fun w h => Aside0.mk (Index_calls A0 c0 l w h hl)
  have HR := Aside0.mk hr
  clear hr
  go_enter Try.func76, Try.ntmps76
  go_wp2_with (go_at_call 90; refine (HI _ HR.out).out.mono ?_; rintro e w' ⟨r, rfl, hb, hd⟩; have HB := Aside0.mk hb; clear hb)
  go_ret
  exact ⟨by rw [← hd]; rfl, HB.out⟩

/-- The fault of changes. -/
def faultOf (l cs : List S67) : Int := if 60 < cs.length then 1 else if cs.any odd = true then 1 else if 40 < (changed l cs).length then 10 else 0
set_option maxRecDepth 100000 in
set_option maxHeartbeats 4000000 in
theorem Fault_calls (A0 A1 : Option Addr) (c0 c1 : Nat) (l cs : List S67) (w : World) (h0 : k67.C w A0 l.length l) (h1 : k67.C w A1 cs.length cs) (hl0 : l.length ≤ 400) (hl1 : cs.length ≤ 100000) :
    Calls Try.prog 63 #[.slice A0 l.length c0, .slice A1 cs.length c1] w fun e w' => e = .returned (.int .i64 (faultOf l cs)) ∧ Below w.heap.size w w' := by
  have HL := Aside0.mk h0
  have HC := Aside0.mk h1
  clear h0 h1
  unfold faultOf
  by_cases hb : 60 < cs.length
  · rw [if_pos hb]
    have hb1 : (60 : Int) < (cs.length : Int) := by omega
    have hb2 : decide ((60 : Int) < (cs.length : Int)) = true := decide_eq_true hb1
    go_enter Try.func63, Try.ntmps63
    go_wp2
    go_ret
    exact ⟨rfl, Below.refl _ _⟩
  · rw [if_neg hb]
    have hb1 : ¬ (60 : Int) < (cs.length : Int) := by omega
    have hb2 : decide ((60 : Int) < (cs.length : Int)) = false := decide_eq_false hb1
    have HF := fun w h => Aside0.mk (Contains_calls A1 c1 cs w h hl1)
    cases ha : cs.any odd with
    | true =>
      rw [ha] at HF
      rw [if_pos rfl]
      go_enter Try.func63, Try.ntmps63
      go_wp2_with (go_at_call 76; refine (HF _ HC.out).out.mono ?_; rintro e w1 ⟨rfl, hb⟩; have HB := Aside0.mk hb; clear hb)
      go_ret
      exact ⟨rfl, HB.out⟩
    | false =>
      rw [ha] at HF
      rw [if_neg (by simp)]
      have HG := fun w h0 h1 => Aside0.mk (Changed_calls A0 A1 c0 c1 l cs w h0 h1 hl0 (by omega))
      by_cases hn : 40 < (changed l cs).length
      · rw [if_pos hn]
        have hn1 : (40 : Int) < ((changed l cs).length : Int) := by omega
        go_enter Try.func63, Try.ntmps63
        go_wp2_with (first | (go_at_call 76; refine (HF _ HC.out).out.mono ?_; rintro e w1 ⟨rfl, hb⟩; have HB := Aside0.mk hb; clear hb) | (go_at_call 64; refine (HG _ (Kd.C_below HL.out HB.out) (Kd.C_below HC.out HB.out)).out.mono ?_; rintro e w2 ⟨v, rfl, hv, hb⟩; obtain ⟨A, c, rfl, -, -⟩ := Kd.R_reads hv; have HB2 := Aside0.mk hb; clear hb hv))
        go_ret
        exact ⟨rfl, HB.out.trans (HB2.out.mono HB.out.size)⟩
      · rw [if_neg hn]
        have hn1 : ¬ (40 : Int) < ((changed l cs).length : Int) := by omega
        go_enter Try.func63, Try.ntmps63
        go_wp2_with (first | (go_at_call 76; refine (HF _ HC.out).out.mono ?_; rintro e w1 ⟨rfl, hb⟩; have HB := Aside0.mk hb; clear hb) | (go_at_call 64; refine (HG _ (Kd.C_below HL.out HB.out) (Kd.C_below HC.out HB.out)).out.mono ?_; rintro e w2 ⟨v, rfl, hv, hb⟩; obtain ⟨A, c, rfl, -, -⟩ := Kd.R_reads hv; have HB2 := Aside0.mk hb; clear hb hv))
        go_ret
        exact ⟨rfl, HB.out.trans (HB2.out.mono HB.out.size)⟩

end Go.Proofs.Ytmfkgbncnaingaa.Rows
