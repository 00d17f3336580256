/- For every list of numbers and every number, RowsParts returns true: changes made one behind the other make what they make at once, and made again they change nothing. -/
import Derived.Test.YtmfkgbncnaingaaRowsPe
import Derived.Test.YtmfkgbncnaingaaQRowsx11
namespace Go.Proofs.Ytmfkgbncnaingaa.Pure
open Go.RowKit Go.Proofs.Ytmfkgbncnaingaa.Rows Go.Proofs.Ytmfkgbncnaingaa.QRows Go.Proofs.YtmfkgbncnaingaaW.PrintWords Go.Proofs.YtmfkgbncnaingaaW.PrintLast

theorem RowsParts : bagnallkeep_RowsParts.Pure := by
  intro l n _ _ _ _
  have hc := changes_small l 40
  have hk := changes_keys l 40
  have hn : (changesOf l 40).length ≤ 40 := changes_length l 40
  have hf := changes_few l 40
  generalize hcs : changesOf l 40 = cs at *
  have hp := Picked_is n (cs.length + 1) (by omega) (by omega)
  have hpl := pickN_lt n (cs.length + 1) (by omega)
  generalize pickN n (cs.length + 1) = p at *
  have hS : Sorted ([] : List S67) := List.Pairwise.nil
  have h8 : keys8.length = 8 := rfl
  have ht : ∀ c ∈ cs.take p, Small c := fun c h => hc c (List.mem_of_mem_take h)
  have hd : ∀ c ∈ cs.drop p, Small c := fun c h => hc c (List.mem_of_mem_drop h)
  have hfew : ∀ ds : List S67, (∀ c ∈ ds, c ∈ cs) → (changed [] ds).length ≤ 40 := fun ds h => by
    have := changed_few keys8 (fun c hcc => hk c (h c hcc)) (T := []) hS (fun _ h => by cases h)
    omega
  have hA := Good.nil.changed ht (hfew _ fun c h => List.mem_of_mem_take h)
  have hG := Good.nil.changed hc hf
  have hb : changed (changed [] (cs.take p)) (cs.drop p) = changed [] cs := by rw [← changed_append, List.take_append_drop]
  refine ⟨1000, ?_⟩
  unfold bagnallkeep_RowsParts.f
  rw [Changes_is l 40 (by omega), hcs, Option.bind_some, show wrap64 ((cs.length : Int) + 1) = ((cs.length + 1 : Nat) : Int) by unfold wrap64; omega, hp, Option.bind_some, rowsOf_ok hc (by omega) hf (by omega), Option.bind_some, if_pos (by omega), if_pos (by omega), Int.toNat_natCast, rowsOf_ok ht (by rw [List.length_take]; omega) (hfew _ fun c h => List.mem_of_mem_take h) (by omega), Option.bind_some]
  dsimp only
  rw [copied_is _ (by have := hA.room; omega), Option.bind_some, copied_is _ (by rw [List.length_drop]; omega), Option.bind_some, set_ok hA hd (by rw [List.length_drop]; omega) (by rw [hb]; exact hf) (by omega), Option.bind_some, copied_is _ (by omega), Option.bind_some, copied_is _ (by omega), Option.bind_some, set_ok hG hc (by omega) (by rw [changed_again]; exact hf) (by omega), Option.bind_some, hb, changed_again]
  dsimp only
  rw [if_pos rfl, if_pos rfl, if_pos rfl, if_pos rfl, same_ok _ (by omega) (by omega), Option.bind_some, if_pos rfl]
  rfl

end Go.Proofs.Ytmfkgbncnaingaa.Pure
