/- What rows.place, rows.Changed and rows.Fault come to. -/
import Derived.Test.YtmfkgbncnaingaaRows6
namespace Go.Proofs.Ytmfkgbncnaingaa.QRows
open Go.RowKit Go.Proofs.Ytmfkgbncnaingaa.Rows Go.Proofs.YtmfkgbncnaingaaW.PrintWords Go.Proofs.YtmfkgbncnaingaaW.PrintLast Go.Proofs.YtmfkgbncnaingaaW.PrintMore

def rows_place.f (l0 : List S67) (a1 : ByteArray) : Option (Int × Bool) := if l0.length ≤ 100000 then some (((found l0 a1).1 : Nat), (found l0 a1).2) else none
theorem rows_place.calls (A0 : Option Addr) (c0 : Nat) (l0 : List S67) (a1 : ByteArray) (r1 : Int) (r2 : Bool) (w : World) (hr0 : Kd.C k67 w A0 l0.length l0) (_hc0 : l0.length ≤ c0) (h : rows_place.f l0 a1 = some (r1, r2)) :
    Calls Try.prog 78 #[.slice A0 l0.length c0, .string a1] w fun e w' => e = .returned (.tuple #[.int .i64 r1, .bool r2]) ∧ Below w.heap.size w w' := by
  unfold rows_place.f at h
  by_cases hl : l0.length ≤ 100000
  · rw [if_pos hl] at h
    simp only [Option.some.injEq, Prod.mk.injEq] at h
    obtain ⟨rfl, rfl⟩ := h
    exact place_calls A0 c0 l0 a1 w hr0 hl
  · rw [if_neg hl] at h; cases h

def rows_Changed.f (l0 l1 : List S67) : Option (List S67) := if l0.length ≤ 400 ∧ l1.length ≤ 400 then some (changed l0 l1) else none
theorem rows_Changed.calls (A0 : Option Addr) (c0 : Nat) (l0 : List S67) (A1 : Option Addr) (c1 : Nat) (l1 : List S67) (r : List S67) (w : World) (hr0 : Kd.C k67 w A0 l0.length l0) (_hc0 : l0.length ≤ c0) (hr1 : Kd.C k67 w A1 l1.length l1) (_hc1 : l1.length ≤ c1) (h : rows_Changed.f l0 l1 = some r) :
    Calls Try.prog 64 #[.slice A0 l0.length c0, .slice A1 l1.length c1] w fun e w' => ∃ v0_ : Value, e = .returned (v0_) ∧ Kd.R k67 67 w' w.heap.size (fun _ => True) v0_ r ∧ Below w.heap.size w w' := by
  unfold rows_Changed.f at h
  by_cases hl : l0.length ≤ 400 ∧ l1.length ≤ 400
  · rw [if_pos hl] at h
    obtain rfl := Option.some.inj h
    exact Changed_calls A0 A1 c0 c1 l0 l1 w hr0 hr1 hl.1 hl.2
  · rw [if_neg hl] at h; cases h

def rows_Fault.f (l0 l1 : List S67) : Option Int := if l0.length ≤ 400 ∧ l1.length ≤ 100000 then some (faultOf l0 l1) else none
theorem rows_Fault.calls (A0 : Option Addr) (c0 : Nat) (l0 : List S67) (A1 : Option Addr) (c1 : Nat) (l1 : List S67) (r : Int) (w : World) (hr0 : Kd.C k67 w A0 l0.length l0) (_hc0 : l0.length ≤ c0) (hr1 : Kd.C k67 w A1 l1.length l1) (_hc1 : l1.length ≤ c1) (h : rows_Fault.f l0 l1 = some r) :
    Calls Try.prog 63 #[.slice A0 l0.length c0, .slice A1 l1.length c1] w fun e w' => e = .returned (.int .i64 r) ∧ Below w.heap.size w w' := by
  unfold rows_Fault.f at h
  by_cases hl : l0.length ≤ 400 ∧ l1.length ≤ 100000
  · rw [if_pos hl] at h
    obtain rfl := Option.some.inj h
    exact Fault_calls A0 A1 c0 c1 l0 l1 w hr0 hr1 hl.1 hl.2
  · rw [if_neg hl] at h; cases h

end Go.Proofs.Ytmfkgbncnaingaa.QRows
