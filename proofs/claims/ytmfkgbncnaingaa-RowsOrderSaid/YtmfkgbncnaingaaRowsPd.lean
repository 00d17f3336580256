/- Good tables are checked to be good; what is found in them. -/
import Derived.Test.YtmfkgbncnaingaaRowsPc
import Derived.Test.YtmfkgbncnaingaaQRowsx3
import Derived.Test.YtmfkgbncnaingaaRows7
namespace Go.Proofs.Ytmfkgbncnaingaa.Rows
open Go.RowKit Go.Lib Go.Proofs.Ytmfkgbncnaingaa.QRows Go.Proofs.YtmfkgbncnaingaaW.PrintWords Go.Proofs.YtmfkgbncnaingaaW.PrintLast Go.Proofs.YtmfkgbncnaingaaW.PrintMore

/-- A row that may stand in a table. -/
def Fine (x : S67) : Prop := keyOk x.f0 = true ∧ x.f1.size ≤ 20 ∧ ¬ x.f1.toList = ([] : List UInt8)
theorem check_loop (T : List S67) (hs : Sorted T) (hg : ∀ x ∈ T, Fine x) (hl : T.length ≤ 40) : ∀ (d i : Nat), i + d = T.length → rows_Check.l0 (2 * d + 1) T T (T.length : Int) (i : Int) = some 0 := by
  intro d
  induction d with
  | zero => intro i hi; rw [rows_Check.l0, if_neg (by omega)]
  | succ d ih =>
    intro i hi
    have hi' : i < T.length := by omega
    obtain ⟨g1, g2, g3⟩ := hg _ (List.getElem_mem hi')
    have hn := ih (i + 1) (by omega)
    rw [show 2 * (d + 1) + 1 = 2 * d + 1 + 1 + 1 by omega, rows_Check.l0, if_pos (by omega), if_pos (by omega), if_pos (by omega), rd_T67_get T i hi', key_is, g1, Option.bind_some, if_pos rfl, rows_Check.j1, if_neg (by rw [decide_eq_true_eq]; omega), if_neg g3, show wrap64 ((i : Int) + 1) = ((i + 1 : Nat) : Int) by unfold wrap64; omega]
    by_cases h0 : i = 0
    · rw [if_neg (by omega)]; exact hn
    · rw [if_pos (by omega), show wrap64 ((i : Int) - 1) = ((i - 1 : Nat) : Int) by unfold wrap64; omega, if_pos (by omega), if_pos (by omega), rd_T67_get T (i - 1) (by omega), if_pos (hs.lt (by omega) hi')]
      exact hn
theorem check_ok (T : List S67) (hs : Sorted T) (hg : ∀ x ∈ T, Fine x) (hl : T.length ≤ 40) : rows_Check.f (2 * T.length + 1) T = some 0 := by
  unfold rows_Check.f
  rw [if_neg (by omega)]
  exact check_loop T hs hg hl T.length 0 (by omega)
/-- What a key has in a table. -/
theorem found_row (T : List S67) (t : ByteArray) (hs : Sorted T) : ((found T t).2 = true ∧ ∃ hh : (found T t).1 < T.length, T[(found T t).1].f0.toList = t.toList) ∨ ((found T t).2 = false ∧ ∀ x ∈ T, ¬ x.f0.toList = t.toList) := by
  obtain ⟨h1, h2, h3, h4⟩ := found_is T t hs
  cases hb : (found T t).2 with
  | true => exact .inl ⟨rfl, h4.1 hb⟩
  | false =>
    refine .inr ⟨rfl, fun x hx e => ?_⟩
    obtain ⟨i, hi, rfl⟩ := List.getElem_of_mem hx
    have hir : ∀ a : List UInt8, ¬ Op.bytesLess a a = true := fun a h => by rw [less_irrefl] at h; cases h
    by_cases hlt : i < (found T t).1
    · have := h2 i hi hlt
      rw [e] at this; exact hir _ this
    · have hf : (found T t).1 < T.length := by omega
      by_cases he : i = (found T t).1
      · subst he
        rw [h4.2 ⟨hf, e⟩] at hb; cases hb
      · have h5 := hs.lt (show (found T t).1 < i by omega) hi
        rw [e] at h5
        exact h3 _ hf (Nat.le_refl _) h5

end Go.Proofs.Ytmfkgbncnaingaa.Rows
