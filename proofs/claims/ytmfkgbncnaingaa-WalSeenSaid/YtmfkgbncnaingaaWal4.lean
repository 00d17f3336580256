/- What wal.Pack comes to. -/
import Derived.Test.YtmfkgbncnaingaaWal3
namespace Go.Proofs.Ytmfkgbncnaingaa.Wal
open Go.RowKit Go.Proofs.Ytmfkgbncnaingaa.QWal Go.Proofs.YtmfkgbncnaingaaW.PrintWords Go.Proofs.YtmfkgbncnaingaaW.PrintLast Go.Proofs.YtmfkgbncnaingaaW.PrintMore

theorem Pack_bad (A0 : Option Addr) (c0 : Nat) (l : List (List Int)) (w : World) (hr : Kd.C (Kd.slice 5 (Kd.int .u8)) w A0 l.length l) (hb : l.length < 1 ∨ 60 < l.length ∨ mayAll l = false) :
    Calls Try.prog 37 #[.slice A0 l.length c0] w fun e w' => e = .returned (.tuple #[.slice none 0 0, .int .i64 1]) ∧ w = w' := by
  have HR := Aside0.mk hr
  clear hr
  by_cases h1 : l.length < 1
  · have hb1 : decide ((l.length : Int) < 1) = true := decide_eq_true (by omega)
    clear hb h1
    go_enter Try.func37, Try.ntmps37
    go_wp2
    go_ret2
    exact ⟨rfl, rfl⟩
  · have hb1 : decide ((l.length : Int) < 1) = false := decide_eq_false (by omega)
    by_cases h2 : 60 < l.length
    · have hb2 : decide ((60 : Int) < (l.length : Int)) = true := decide_eq_true (by omega)
      clear hb h1 h2
      go_enter Try.func37, Try.ntmps37
      go_wp2
      go_ret2
      exact ⟨rfl, rfl⟩
    · have hb2 : decide ((60 : Int) < (l.length : Int)) = false := decide_eq_false (by omega)
      have hm : mayAll l = false := by rcases hb with h | h | h; exact absurd h h1; exact absurd h h2; exact h
      have HC := fun w h => Aside0.mk (Contains_calls A0 c0 l w h (by omega))
      rw [hm] at HC
      clear hb h1 h2 hm
      go_enter Try.func37, Try.ntmps37
      go_wp2_with (go_at_call 61; refine (HC _ HR.out).out.mono ?_; rintro e w' ⟨rfl, rfl⟩)
      go_ret2
      exact ⟨rfl, rfl⟩

theorem Pack_good (A0 : Option Addr) (c0 : Nat) (l : List (List Int)) (w : World) (hr : Kd.C (Kd.slice 5 (Kd.int .u8)) w A0 l.length l) (h1 : 1 ≤ l.length) (h2 : l.length ≤ 60) (hm : mayAll l = true) (hf : Fit l) :
    Calls Try.prog 37 #[.slice A0 l.length c0] w fun e w' => ∃ v, e = .returned (.tuple #[v, .int .i64 0]) ∧ (Kd.int .u8).R 5 w' w.heap.size (fun _ => True) v (ofGo l) ∧ Below w.heap.size w w' := by
  have HR := Aside0.mk hr
  have hb1 : decide ((l.length : Int) < 1) = false := decide_eq_false (by omega)
  have hb2 : decide ((60 : Int) < (l.length : Int)) = false := decide_eq_false (by omega)
  have HC := fun w h => Aside0.mk (Contains_calls A0 c0 l w h (by omega))
  rw [hm] at HC
  have HOf := fun w h => Aside0.mk (Of_calls A0 c0 l w h (by omega) hf)
  clear hr h1 h2 hm hf
  go_enter Try.func37, Try.ntmps37
  go_wp2_with (first | (go_at_call 61; refine (HC _ HR.out).out.mono ?_; rintro e w' ⟨rfl, rfl⟩) | (go_at_call 62; refine (HOf _ HR.out).out.mono ?_; rintro e w3 ⟨v, rfl, hv, hB⟩; have HV := Aside0.mk hv; have HB := Aside0.mk hB; clear hv hB))
  go_ret2
  exact ⟨_, rfl, HV.out, HB.out⟩

end Go.Proofs.Ytmfkgbncnaingaa.Wal
namespace Go.Proofs.Ytmfkgbncnaingaa.QWal
open Go.RowKit Go.Proofs.Ytmfkgbncnaingaa.Wal Go.Proofs.YtmfkgbncnaingaaW.PrintWords Go.Proofs.YtmfkgbncnaingaaW.PrintLast Go.Proofs.YtmfkgbncnaingaaW.PrintMore

/-- Are all of them bytes? -/
def bytesIn (l : List Int) : Bool := l.all fun x => decide (0 ≤ x) && decide (x < 256)
theorem bytesIn_iff (l : List Int) : bytesIn l = true ↔ ∀ x ∈ l, 0 ≤ x ∧ x < 256 := by simp [bytesIn]
def fitIn (l : List (List Int)) : Bool := l.all fun x => decide (x.length ≤ 255) && bytesIn x
theorem fitIn_iff (l : List (List Int)) : fitIn l = true ↔ Fit l := by simp [fitIn, Fit, bytesIn_iff]
def wal_Pack.f (l : List (List Int)) : Option (List Int × Int) :=
  if l.length < 1 ∨ 60 < l.length ∨ mayAll l = false then some ([], 1) else if fitIn l = true then some (ofGo l, 0) else none
theorem wal_Pack.calls (A0 : Option Addr) (c0 : Nat) (l0 : List (List Int)) (r1 : List Int) (r2 : Int) (w : World) (hr0 : Kd.C (Kd.slice 5 (Kd.int .u8)) w A0 l0.length l0) (_hc0 : l0.length ≤ c0) (h : wal_Pack.f l0 = some (r1, r2)) :
    Calls Try.prog 37 #[.slice A0 l0.length c0] w fun e w' => ∃ v0_ : Value, e = .returned (.tuple #[v0_, .int .i64 r2]) ∧ Kd.R (Kd.int .u8) 5 w' w.heap.size (fun _ => True) v0_ r1 ∧ Below w.heap.size w w' := by
  unfold wal_Pack.f at h
  by_cases hb : l0.length < 1 ∨ 60 < l0.length ∨ mayAll l0 = false
  · rw [if_pos hb] at h
    simp only [Option.some.injEq, Prod.mk.injEq] at h
    obtain ⟨rfl, rfl⟩ := h
    refine (Pack_bad A0 c0 l0 w hr0 hb).mono ?_
    rintro e w' ⟨rfl, rfl⟩
    exact ⟨_, rfl, Kd.R_nil _ _ _ _ _, Below.refl _ _⟩
  · rw [if_neg hb] at h
    by_cases hf : fitIn l0 = true
    · rw [if_pos hf] at h
      simp only [Option.some.injEq, Prod.mk.injEq] at h
      obtain ⟨rfl, rfl⟩ := h
      exact Pack_good A0 c0 l0 w hr0 (by omega) (by omega) (by cases hm : mayAll l0; exact absurd (Or.inr (Or.inr hm)) hb; rfl) ((fitIn_iff l0).1 hf)
    · rw [if_neg hf] at h; cases h

end Go.Proofs.Ytmfkgbncnaingaa.QWal
