/- The last change of a key is what stands in a table. -/
import Derived.Test.YtmfkgbncnaingaaRowsPb
namespace Go.Proofs.Ytmfkgbncnaingaa.Rows
open Go.RowKit Go.Lib Go.Proofs.Ytmfkgbncnaingaa.QRows Go.Proofs.YtmfkgbncnaingaaW.PrintWords Go.Proofs.YtmfkgbncnaingaaW.PrintLast Go.Proofs.YtmfkgbncnaingaaW.PrintMore

/-- The last change of a key. -/
def lastOf (cs : List S67) (k : List UInt8) : Option S67 := cs.foldl (fun r c => if c.f0.toList = k then some c else r) none
theorem lastOf_snoc (cs : List S67) (c : S67) (k : List UInt8) : lastOf (cs ++ [c]) k = if c.f0.toList = k then some c else lastOf cs k := by
  unfold lastOf; rw [List.foldl_append]; rfl
theorem changed_snoc (l cs : List S67) (c : S67) : changed l (cs ++ [c]) = change (changed l cs) c := by unfold changed; rw [List.foldl_append]; rfl
/-- What stands in a changed table. -/
def Stands (l cs : List S67) (x : S67) : Prop := match lastOf cs x.f0.toList with
  | none => x ∈ l
  | some c => x = c ∧ ¬ c.f1.toList = ([] : List UInt8)
theorem snoc_cases {P : List S67 → Prop} (h0 : P []) (h1 : ∀ l c, P l → P (l ++ [c])) : ∀ l, P l := by
  have h : ∀ l : List S67, P l.reverse := by
    intro l
    induction l with
    | nil => exact h0
    | cons c l ih => rw [List.reverse_cons]; exact h1 _ _ ih
  intro l
  have := h l.reverse
  rwa [List.reverse_reverse] at this
theorem changed_mem (l : List S67) (hs : Sorted l) (x : S67) (cs : List S67) : x ∈ changed l cs ↔ Stands l cs x := by
  refine snoc_cases (P := fun cs => x ∈ changed l cs ↔ Stands l cs x) ?_ ?_ cs
  · exact Iff.rfl
  · intro a c ih
    rw [changed_snoc, change_mem _ _ _ (changed_sorted l a hs), ih]
    unfold Stands
    rw [lastOf_snoc]
    by_cases h : c.f0.toList = x.f0.toList
    · rw [if_pos h]
      dsimp only
      constructor
      · rintro (⟨_, h2⟩ | h2)
        · exact absurd h.symm h2
        · exact h2
      · exact fun h2 => .inr h2
    · rw [if_neg h]
      constructor
      · rintro (⟨h1, _⟩ | ⟨h2, _⟩)
        · exact h1
        · exact absurd (by rw [h2]) h
      · exact fun h1 => .inl ⟨h1, fun e => h e.symm⟩
/-- Changes with the same last one of each key make the same table. -/
theorem changed_same (l cs ds : List S67) (hs : Sorted l) (h : ∀ k, lastOf cs k = lastOf ds k) : changed l cs = changed l ds :=
  sorted_ext _ _ (changed_sorted l cs hs) (changed_sorted l ds hs) fun x => by
    rw [changed_mem l hs, changed_mem l hs]; unfold Stands; rw [h]
/-- Made again they change nothing. -/
theorem changed_again (cs : List S67) : changed (changed [] cs) cs = changed [] cs := by
  have h0 : Sorted [] := List.Pairwise.nil
  refine sorted_ext _ _ (changed_sorted _ _ (changed_sorted _ _ h0)) (changed_sorted _ _ h0) fun x => ?_
  rw [changed_mem _ (changed_sorted _ _ h0)]
  unfold Stands
  rw [changed_mem _ h0]
  unfold Stands
  cases lastOf cs x.f0.toList <;> rfl

end Go.Proofs.Ytmfkgbncnaingaa.Rows
