/- What a change of a table does. -/
import Derived.Test.YtmfkgbncnaingaaRowsPa
namespace Go.Proofs.Ytmfkgbncnaingaa.Rows
open Go.RowKit Go.Lib Go.Proofs.Ytmfkgbncnaingaa.QRows Go.Proofs.YtmfkgbncnaingaaW.PrintWords Go.Proofs.YtmfkgbncnaingaaW.PrintLast Go.Proofs.YtmfkgbncnaingaaW.PrintMore

/-- A table parts at a key: what stands ahead, what has the key, what stands behind. -/
theorem change_split (xs : List S67) (c : S67) (hs : Sorted xs) : ∃ A M B, xs = A ++ (M ++ B) ∧ (∀ a ∈ A, Op.bytesLess a.f0.toList c.f0.toList = true) ∧ (∀ m ∈ M, m.f0.toList = c.f0.toList) ∧ (∀ b ∈ B, Op.bytesLess c.f0.toList b.f0.toList = true) ∧
    change xs c = A ++ ((if c.f1.toList = ([] : List UInt8) then [] else [c]) ++ B) := by
  obtain ⟨h1, h2, h3, h4⟩ := found_is xs c.f0 hs
  have hA : ∀ a ∈ xs.take (found xs c.f0).1, Op.bytesLess a.f0.toList c.f0.toList = true := fun a ha => by
    obtain ⟨i, hi, rfl⟩ := List.getElem_of_mem ha
    rw [List.length_take] at hi
    rw [List.getElem_take]
    exact h2 i (by omega) (by omega)
  cases hb : (found xs c.f0).2 with
  | true =>
    obtain ⟨hh, he⟩ := h4.1 hb
    refine ⟨xs.take (found xs c.f0).1, [xs[(found xs c.f0).1]], xs.drop ((found xs c.f0).1 + 1), ?_, hA, ?_, ?_, ?_⟩
    · rw [List.singleton_append, ← List.drop_eq_getElem_cons hh, List.take_append_drop]
    · intro m hm
      rw [List.mem_singleton.1 hm]; exact he
    · intro b hb
      obtain ⟨i, hi, rfl⟩ := List.getElem_of_mem hb
      rw [List.length_drop] at hi
      rw [List.getElem_drop, ← he]
      exact hs.lt (by omega) (by omega)
    · unfold change
      rw [if_pos hb]
      split
      · rfl
      · rw [List.set_eq_take_append_cons_drop, if_pos hh]; rfl
  | false =>
    refine ⟨xs.take (found xs c.f0).1, [], xs.drop (found xs c.f0).1, ?_, hA, ?_, ?_, ?_⟩
    · rw [List.nil_append, List.take_append_drop]
    · intro m hm; cases hm
    · intro b hbm
      obtain ⟨i, hi, rfl⟩ := List.getElem_of_mem hbm
      rw [List.length_drop] at hi
      rw [List.getElem_drop]
      have hn := h3 ((found xs c.f0).1 + i) (by omega) (by omega)
      have hf : (found xs c.f0).1 < xs.length := by omega
      have hne : ¬ xs[(found xs c.f0).1].f0.toList = c.f0.toList := fun e => by
        rw [h4.2 ⟨hf, e⟩] at hb; cases hb
      have hlt : Op.bytesLess c.f0.toList xs[(found xs c.f0).1].f0.toList = true := by
        rcases less_total xs[(found xs c.f0).1].f0.toList c.f0.toList with h | h | h
        · exact absurd h (h3 _ hf (Nat.le_refl _))
        · exact absurd h hne
        · exact h
      by_cases hi0 : i = 0
      · subst hi0; exact hlt
      · exact less_trans _ _ _ hlt (hs.lt (by omega) (by omega))
    · unfold change
      rw [hb, if_neg (by simp)]
      split
      · rw [List.nil_append, List.take_append_drop]
      · rfl

theorem change_sorted (xs : List S67) (c : S67) (hs : Sorted xs) : Sorted (change xs c) := by
  obtain ⟨A, M, B, h1, h2, h3, h4, h5⟩ := change_split xs c hs
  rw [h5]
  rw [h1] at hs
  unfold Sorted at hs ⊢
  rw [List.pairwise_append] at hs ⊢
  obtain ⟨p1, p2, p3⟩ := hs
  rw [List.pairwise_append] at p2
  refine ⟨p1, ?_, ?_⟩
  · split
    · exact p2.2.1
    · rw [List.singleton_append, List.pairwise_cons]
      exact ⟨h4, p2.2.1⟩
  · intro a ha b hb
    rcases List.mem_append.1 hb with hb | hb
    · split at hb
      · cases hb
      · rw [List.mem_singleton.1 hb]; exact h2 a ha
    · exact p3 a ha b (List.mem_append_right _ hb)
theorem change_mem (xs : List S67) (c x : S67) (hs : Sorted xs) : x ∈ change xs c ↔ (x ∈ xs ∧ ¬ x.f0.toList = c.f0.toList) ∨ (x = c ∧ ¬ c.f1.toList = ([] : List UInt8)) := by
  obtain ⟨A, M, B, h1, h2, h3, h4, h5⟩ := change_split xs c hs
  have hne : ∀ {a b : List UInt8}, Op.bytesLess a b = true → ¬ a = b := fun h e => by rw [e, less_irrefl] at h; cases h
  rw [h5, h1]
  simp only [List.mem_append]
  constructor
  · rintro (h | h | h)
    · exact .inl ⟨.inl h, hne (h2 x h)⟩
    · split at h
      · cases h
      · rename_i hc
        exact .inr ⟨List.mem_singleton.1 h, hc⟩
    · exact .inl ⟨.inr (.inr h), fun e => hne (h4 x h) e.symm⟩
  · rintro (⟨h | h | h, hx⟩ | ⟨rfl, hx⟩)
    · exact .inl h
    · exact absurd (h3 x h) hx
    · exact .inr (.inr h)
    · refine .inr (.inl ?_)
      rw [if_neg hx]; exact List.mem_singleton.2 rfl
theorem changed_sorted (l cs : List S67) (hs : Sorted l) : Sorted (changed l cs) := by
  unfold changed
  induction cs generalizing l with
  | nil => exact hs
  | cons c t ih => exact ih _ (change_sorted l c hs)
theorem changed_append (l a b : List S67) : changed l (a ++ b) = changed (changed l a) b := by unfold changed; exact List.foldl_append

/-- Sorted tables with the same rows are the same. -/
theorem sorted_ext : ∀ (a b : List S67), Sorted a → Sorted b → (∀ x, x ∈ a ↔ x ∈ b) → a = b := by
  have hne : ∀ {a : List UInt8}, ¬ Op.bytesLess a a = true := fun h => by rw [less_irrefl] at h; cases h
  intro a
  induction a with
  | nil =>
    intro b _ _ h
    cases b with
    | nil => rfl
    | cons y m => exact absurd ((h y).2 List.mem_cons_self) (by simp)
  | cons x l ih =>
    intro b ha hb h
    cases b with
    | nil => exact absurd ((h x).1 List.mem_cons_self) (by simp)
    | cons y m =>
      have ha' := List.pairwise_cons.1 ha
      have hb' := List.pairwise_cons.1 hb
      have hxy : x = y := by
        rcases List.mem_cons.1 ((h x).1 List.mem_cons_self) with e | e
        · exact e
        · rcases List.mem_cons.1 ((h y).2 List.mem_cons_self) with e2 | e2
          · exact e2.symm
          · exact absurd (less_trans _ _ _ (hb'.1 x e) (ha'.1 y e2)) hne
      subst hxy
      congr 1
      refine ih m ha'.2 hb'.2 fun z => ⟨fun hz => ?_, fun hz => ?_⟩
      · rcases List.mem_cons.1 ((h z).1 (List.mem_cons_of_mem _ hz)) with e | e
        · subst e; exact absurd (ha'.1 z hz) hne
        · exact e
      · rcases List.mem_cons.1 ((h z).2 (List.mem_cons_of_mem _ hz)) with e | e
        · subst e; exact absurd (hb'.1 z hz) hne
        · exact e

end Go.Proofs.Ytmfkgbncnaingaa.Rows
