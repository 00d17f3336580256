/- Plain lemmas on tables in the order of their keys. -/
import Derived.Test.YtmfkgbncnaingaaRows5
namespace Go.Proofs.Ytmfkgbncnaingaa.Rows
open Go.RowKit Go.Lib Go.Proofs.Ytmfkgbncnaingaa.QRows Go.Proofs.YtmfkgbncnaingaaW.PrintWords Go.Proofs.YtmfkgbncnaingaaW.PrintLast Go.Proofs.YtmfkgbncnaingaaW.PrintMore

theorem less_irrefl (a : List UInt8) : Op.bytesLess a a = false := by
  induction a with
  | nil => rfl
  | cons x l ih => simp [Op.bytesLess, ih]
theorem less_trans (a b c : List UInt8) (h1 : Op.bytesLess a b = true) (h2 : Op.bytesLess b c = true) : Op.bytesLess a c = true := by
  induction a generalizing b c with
  | nil =>
    cases c with
    | nil => cases b <;> simp [Op.bytesLess] at h2
    | cons z n => rfl
  | cons x l ih =>
    cases b with
    | nil => simp [Op.bytesLess] at h1
    | cons y m =>
      cases c with
      | nil => simp [Op.bytesLess] at h2
      | cons z n =>
        simp only [Op.bytesLess, Bool.or_eq_true, Bool.and_eq_true, decide_eq_true_eq, beq_iff_eq] at h1 h2 ⊢
        rcases h1 with h1 | ⟨rfl, h1⟩
        · rcases h2 with h2 | ⟨rfl, h2⟩
          · left; exact UInt8.lt_trans h1 h2
          · left; exact h1
        · rcases h2 with h2 | ⟨rfl, h2⟩
          · left; exact h2
          · right; exact ⟨rfl, ih m n h1 h2⟩
theorem less_total (a b : List UInt8) : Op.bytesLess a b = true ∨ a = b ∨ Op.bytesLess b a = true := by
  induction a generalizing b with
  | nil => cases b with
    | nil => right; left; rfl
    | cons y m => left; rfl
  | cons x l ih =>
    cases b with
    | nil => right; right; rfl
    | cons y m =>
      simp only [Op.bytesLess, Bool.or_eq_true, Bool.and_eq_true, decide_eq_true_eq, beq_iff_eq]
      rcases UInt8.lt_or_lt_of_ne (a := x) (b := y) |> fun h => (Classical.em (x = y)) with h | h
      · subst h
        rcases ih m with h | h | h
        · left; right; exact ⟨rfl, h⟩
        · right; left; rw [h]
        · right; right; right; exact ⟨rfl, h⟩
      · rcases UInt8.lt_or_lt_of_ne h with h | h
        · left; left; exact h
        · right; right; left; exact h
theorem cmp_neg (a b : ByteArray) : cmpOf a b < 0 ↔ Op.bytesLess a.toList b.toList = true := by
  unfold cmpOf
  by_cases h : Op.bytesLess a.toList b.toList = true
  · rw [if_pos h]; exact ⟨fun _ => h, fun _ => by decide⟩
  · rw [if_neg h]
    refine ⟨fun h1 => ?_, fun h1 => absurd h1 h⟩
    split at h1 <;> exact absurd h1 (by decide)
theorem cmp_zero (a b : ByteArray) : cmpOf a b = 0 ↔ a.toList = b.toList := by
  unfold cmpOf
  by_cases h : Op.bytesLess a.toList b.toList = true
  · rw [if_pos h]
    refine ⟨fun h1 => absurd h1 (by decide), fun h1 => ?_⟩
    rw [h1, less_irrefl] at h; cases h
  · rw [if_neg h]
    by_cases h2 : a.toList = b.toList
    · rw [if_pos h2]; exact ⟨fun _ => h2, fun _ => rfl⟩
    · rw [if_neg h2]; exact ⟨fun h1 => absurd h1 (by decide), fun h1 => absurd h1 h2⟩

/-- The keys stand in their order. -/
def Sorted (xs : List S67) : Prop := xs.Pairwise fun a b => Op.bytesLess a.f0.toList b.f0.toList = true
theorem rd_T67_get (l : List S67) (i : Nat) (h : i < l.length) : rd_T67 l (i : Int) = l[i] := by simp [rd_T67, List.getD_eq_getElem?_getD, h]
theorem Sorted.lt {xs : List S67} (h : Sorted xs) {i j : Nat} (hij : i < j) (hj : j < xs.length) : Op.bytesLess (xs[i]'(by omega)).f0.toList xs[j].f0.toList = true :=
  List.pairwise_iff_getElem.1 h i j (by omega) hj hij
/-- Where the search ends: behind all smaller keys, ahead of all others. -/
theorem bs_is (xs : List S67) (t : ByteArray) (hs : Sorted xs) : ∀ (d i j : Nat), j - i ≤ d → i ≤ j → j ≤ xs.length →
    (∀ h (hh : h < xs.length), h < i → Op.bytesLess xs[h].f0.toList t.toList = true) → (∀ h (hh : h < xs.length), j ≤ h → ¬ Op.bytesLess xs[h].f0.toList t.toList = true) →
    (∀ h (hh : h < xs.length), h < bs xs t i j → Op.bytesLess xs[h].f0.toList t.toList = true) ∧ (∀ h (hh : h < xs.length), bs xs t i j ≤ h → ¬ Op.bytesLess xs[h].f0.toList t.toList = true) := by
  intro d
  induction d with
  | zero =>
    intro i j h1 h2 h3 h4 h5
    rw [bs, if_neg (by omega)]
    exact ⟨h4, fun h hh hk => h5 h hh (by omega)⟩
  | succ d ih =>
    intro i j h1 h2 h3 h4 h5
    rw [bs]
    by_cases h : i < j
    · rw [if_pos h]
      have hm : (i + j) / 2 < xs.length := by omega
      rw [rd_T67_get xs _ hm]
      by_cases hc : cmpOf xs[(i + j) / 2].f0 t < 0
      · rw [if_pos hc]
        have hc' := (cmp_neg _ _).1 hc
        refine ih _ _ (by omega) (by omega) h3 (fun k hk hk2 => ?_) h5
        by_cases he : k = (i + j) / 2
        · subst he; exact hc'
        · exact less_trans _ _ _ (hs.lt (show k < (i + j) / 2 by omega) hm) hc'
      · rw [if_neg hc]
        have hc' : ¬ Op.bytesLess xs[(i + j) / 2].f0.toList t.toList = true := fun h => hc ((cmp_neg _ _).2 h)
        refine ih _ _ (by omega) (by omega) (by omega) h4 (fun k hk hk2 hl => ?_)
        by_cases he : k = (i + j) / 2
        · subst he; exact hc' hl
        · exact hc' (less_trans _ _ _ (hs.lt (show (i + j) / 2 < k by omega) hk) hl)
    · rw [if_neg h]
      exact ⟨h4, fun k hk hk2 => h5 k hk (by omega)⟩
/-- What is found in a table. -/
theorem found_is (xs : List S67) (t : ByteArray) (hs : Sorted xs) :
    (found xs t).1 ≤ xs.length ∧ (∀ h (hh : h < xs.length), h < (found xs t).1 → Op.bytesLess xs[h].f0.toList t.toList = true) ∧ (∀ h (hh : h < xs.length), (found xs t).1 ≤ h → ¬ Op.bytesLess xs[h].f0.toList t.toList = true) ∧
    ((found xs t).2 = true ↔ ∃ hh : (found xs t).1 < xs.length, (xs[(found xs t).1]).f0.toList = t.toList) := by
  have h1 := bs_is xs t hs xs.length 0 xs.length (by omega) (by omega) (Nat.le_refl _) (fun h hh h2 => absurd h2 (by omega)) (fun h hh h2 => absurd hh (by omega))
  have h2 := bs_le xs t xs.length 0 xs.length (by omega) (by omega)
  refine ⟨h2.2, h1.1, h1.2, ?_⟩
  unfold found
  dsimp only
  rw [Bool.and_eq_true, decide_eq_true_eq, beq_iff_eq]
  constructor
  · rintro ⟨ha, hb⟩
    rw [rd_T67_get xs _ ha] at hb
    exact ⟨ha, (cmp_zero _ _).1 hb⟩
  · rintro ⟨ha, hb⟩
    refine ⟨ha, ?_⟩
    rw [rd_T67_get xs _ ha]
    exact (cmp_zero _ _).2 hb

end Go.Proofs.Ytmfkgbncnaingaa.Rows
