/- For every list of numbers and every number, RowsLast returns true: what is found of a key is its last change. -/
import Derived.Test.YtmfkgbncnaingaaRowsPe
import Derived.Test.YtmfkgbncnaingaaQRowsx8
namespace Go.Proofs.Ytmfkgbncnaingaa.Pure
open Go.RowKit Go.Proofs.Ytmfkgbncnaingaa.Rows Go.Proofs.Ytmfkgbncnaingaa.QRows Go.Proofs.YtmfkgbncnaingaaW.PrintWords Go.Proofs.YtmfkgbncnaingaaW.PrintLast

/-- What the last change of a key says. -/
def wantOf (cs : List S67) (k : List UInt8) : List UInt8 := match lastOf cs k with
  | none => []
  | some c => c.f1.toList
theorem wantOf_snoc (cs : List S67) (c : S67) (k : List UInt8) : wantOf (cs ++ [c]) k = if c.f0.toList = k then c.f1.toList else wantOf cs k := by
  unfold wantOf
  rw [lastOf_snoc]
  split
  · rename_i h
    by_cases h1 : c.f0.toList = k
    · rw [if_pos h1] at h; cases h
    · rw [if_neg h1] at h ⊢; rw [h]
  · rename_i d h
    by_cases h1 : c.f0.toList = k
    · rw [if_pos h1] at h ⊢; rw [Option.some.inj h]
    · rw [if_neg h1] at h ⊢; rw [h]
theorem find_ok {cs : List S67} (hc : ∀ c ∈ cs, Small c) (hl : (changed [] cs).length ≤ 40) (k : ByteArray) {m : Nat} (hm : 81 ≤ m) :
    ∃ v e, rows_Find.f m (changed [] cs) k = some (v, e) ∧ v.toList = wantOf cs k.toList ∧ ((e = 0 ∧ ¬ v.toList = ([] : List UInt8)) ∨ (e = 8 ∧ v.toList = ([] : List UInt8))) := by
  have hG := Good.nil.changed hc hl
  have hS : Sorted ([] : List S67) := List.Pairwise.nil
  unfold rows_Find.f
  rw [check_ok' hG hm, Option.bind_some, if_pos rfl]
  unfold rows_Value.f rows_place.f
  rw [if_pos (by omega), Option.bind_some]
  rcases found_row (changed [] cs) k hG.sorted with ⟨h1, hh, h2⟩ | ⟨h1, h2⟩
  · dsimp only
    rw [if_pos h1, if_pos (by omega), if_pos (by omega), rd_T67_get _ _ hh, Option.bind_some, if_pos rfl]
    refine ⟨_, _, rfl, ?_, .inl ⟨rfl, ?_⟩⟩
    · have hx := List.getElem_mem hh
      rw [changed_mem [] hS] at hx
      unfold Stands at hx
      rw [h2] at hx
      unfold wantOf
      cases hq : lastOf cs k.toList with
      | none => rw [hq] at hx; cases hx
      | some c => rw [hq] at hx; rw [hx.1]
    · exact (hG.fine _ (List.getElem_mem hh)).2.2
  · dsimp only
    rw [h1, if_neg (by simp), Option.bind_some, if_neg (by simp)]
    have hz : (⟨#[]⟩ : ByteArray).toList = [] := by decide +kernel
    refine ⟨_, _, rfl, ?_, .inr ⟨rfl, hz⟩⟩
    rw [hz]
    unfold wantOf
    cases hq : lastOf cs k.toList with
    | none => rfl
    | some c =>
      have hk := lastOf_key hq
      by_cases hne : c.f1.toList = ([] : List UInt8)
      · exact hne.symm
      · exfalso
        refine h2 c ?_ hk.2
        rw [changed_mem [] hS]
        unfold Stands
        rw [hk.2, hq]
        exact ⟨rfl, hne⟩
theorem last_loop (cs T : List S67) (hT : Rows.Good T) (hl : cs.length ≤ 1000) (k v : ByteArray) (e : Int) (hv : v.toList = wantOf cs k.toList) (he : (e = 0 ∧ ¬ v.toList = ([] : List UInt8)) ∨ (e = 8 ∧ v.toList = ([] : List UInt8))) :
    ∀ (d i : Nat), i + d = cs.length → ∀ x : ByteArray, x.toList = wantOf (cs.take i) k.toList → bagnallkeep_RowsLast.l0 (d + 82) cs T true k v e x (i : Int) = some true := by
  intro d
  induction d with
  | zero =>
    intro i hi x hx
    rw [List.take_of_length_le (by omega)] at hx
    rw [show 0 + 82 = 81 + 1 by rfl, bagnallkeep_RowsLast.l0, if_neg (by omega), if_pos rfl, if_pos (by rw [hv, hx])]
    rcases he with ⟨rfl, hn⟩ | ⟨rfl, hn⟩
    · have hn' : ¬ x.toList = ([] : List UInt8) := by rw [hx, ← hv]; exact hn
      rw [if_pos (by rw [bne_iff_ne.2 hn']; rfl), if_pos rfl, check_ok' hT (by omega)]; rfl
    · have hn' : x.toList = ([] : List UInt8) := by rw [hx, ← hv]; exact hn
      rw [if_pos (by rw [hn']; rfl), if_neg (by omega), if_pos rfl, check_ok' hT (by omega)]; rfl
  | succ d ih =>
    intro i hi x hx
    have hi' : i < cs.length := by omega
    rw [show d + 1 + 82 = d + 82 + 1 by omega, bagnallkeep_RowsLast.l0, if_pos (by omega), if_pos (by omega), rd_T67_get cs i hi', show wrap64 ((i : Int) + 1) = ((i + 1 : Nat) : Int) by unfold wrap64; omega]
    have hs : cs.take (i + 1) = cs.take i ++ [cs[i]] := List.take_succ_eq_append_getElem hi'
    by_cases h : cs[i].f0.toList = k.toList
    · rw [if_pos h]
      exact ih (i + 1) (by omega) _ (by rw [hs, wantOf_snoc, if_pos h])
    · rw [if_neg h]
      exact ih (i + 1) (by omega) _ (by rw [hs, wantOf_snoc, if_neg h]; exact hx)

theorem RowsLast : bagnallkeep_RowsLast.Pure := by
  intro l n _ _ _ _
  have hc := changes_small l 50
  have hn := changes_length l 50
  have hf := changes_few l 50
  have hn' : (changesOf l 50).length ≤ 50 := hn
  generalize hcs : changesOf l 50 = cs at *
  have hG := Good.nil.changed hc hf
  refine ⟨cs.length + 82, ?_⟩
  unfold bagnallkeep_RowsLast.f
  rw [Changes_is l 50 (by omega), hcs, Option.bind_some, rowsOf_ok hc (by omega) hf (by omega), Option.bind_some, Changes_is [n] 1 (by omega), Option.bind_some]
  dsimp only
  have h1 : changesOf [n] 1 = [rowOf n] := rfl
  rw [h1, if_pos (by simp), copied_is _ (by omega), Option.bind_some]
  obtain ⟨v, e, hF, hv, he⟩ := find_ok hc hf ((rd_T67 [rowOf n] 0).f0) (m := cs.length + 82) (by omega)
  rw [hF, Option.bind_some]
  have h2 := last_loop cs (changed [] cs) hG (by omega) ((rd_T67 [rowOf n] 0).f0) v e hv he cs.length 0 (by omega) ⟨#[]⟩ (show (⟨#[]⟩ : ByteArray).toList = [] by decide +kernel)
  exact h2

end Go.Proofs.Ytmfkgbncnaingaa.Pure
