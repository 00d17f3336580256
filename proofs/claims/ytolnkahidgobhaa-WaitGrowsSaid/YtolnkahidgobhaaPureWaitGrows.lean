/- For every number, WaitGrows returns true: waits double up to MaxWait. -/
import Derived.Test.YtolnkahidgobhaaQWaitx3
namespace Go.Proofs.Ytolnkahidgobhaa.Pure
open Go.RowKit Go.Proofs.Ytolnkahidgobhaa.QWait Go.Proofs.YtolnkahidgobhaaW.PrintWords Go.Proofs.YtolnkahidgobhaaW.PrintLast Go.Proofs.YtolnkahidgobhaaW.PrintMore

theorem picked60 (a : Int) : ∃ m : Nat, m < 60 ∧ bagnallkeep_Picked.f a 60 = some (m : Int) := by
  have hr0 := Int.emod_nonneg a (show (60 : Int) ≠ 0 by decide)
  have hr1 := Int.emod_lt_of_pos a (show (0 : Int) < 60 by decide)
  have ht := Int.tmod_eq_emod (a := a) (b := 60)
  refine ⟨(a % 60).toNat, by omega, ?_⟩
  unfold bagnallkeep_Picked.f
  rw [if_neg (by decide)]
  by_cases hc : 0 ≤ a ∨ (60 : Int) ∣ a
  · rw [if_pos hc] at ht
    rw [if_neg (by omega), ht]
    congr 1; omega
  · rw [if_neg hc] at ht
    rw [if_pos (by omega), ht]
    congr 1; unfold wrap64; omega

theorem all60 : ∀ m : Nat, m < 60 → ((out_Wait.f 100 (m : Int)).bind fun t102 => ((out_Wait.f 100 (wrap64 ((m : Int) + 1))).bind fun t103 => ((out_Wait.f 100 0).bind fun t104 => (if t104 = 0 then ((out_Wait.f 100 1).bind fun t105 => (if t105 = 1 then (if t102 ≥ 0 then (if t103 ≤ 16 then (if (m : Int) = 0 then (some (decide (t103 ≥ t102))) else (if t103 = (mn (wrap64 (2 * t102)) 16) then (some (decide (t103 ≥ t102))) else (some false))) else (some false)) else (some false)) else (some false))) else (some false))))) = some true := by
  decide +kernel

theorem WaitGrows : bagnallkeep_WaitGrows.Pure := by
  intro a _
  obtain ⟨m, hm, h⟩ := picked60 a
  refine ⟨100, ?_⟩
  unfold bagnallkeep_WaitGrows.f
  rw [h, Option.bind_some]
  exact all60 m hm

end Go.Proofs.Ytolnkahidgobhaa.Pure
