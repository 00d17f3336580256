/- For every number, OutFull returns true: so many items go in as many batches as MaxBatch goes into them, rounded up. No condition. -/
import Derived.Test.YtolnkahidgobhaaQOutx7
import Derived.Test.YtolnkahidgobhaaOutPa
namespace Go.Proofs.Ytolnkahidgobhaa.Pure
open Go.RowKit Go.Proofs.Ytolnkahidgobhaa.QOut Go.Proofs.Ytolnkahidgobhaa.Out Go.Proofs.YtolnkahidgobhaaW.PrintWords Go.Proofs.YtolnkahidgobhaaW.PrintLast Go.Proofs.YtolnkahidgobhaaW.PrintMore

theorem picked_of (a n : Int) (h0 : 0 < n) (h1 : n ≤ 1000000) : bagnallkeep_Picked.f a n = some (a % n) := by
  have hf := tmod_fix (a := a) h0 h1
  unfold bagnallkeep_Picked.f
  rw [if_neg (by omega)]
  by_cases hc : Int.tmod a n < 0
  · rw [if_pos hc, hf.1 hc]
  · rw [if_neg hc, hf.2 hc]

set_option maxRecDepth 100000 in
theorem all40 : ∀ m : Nat, m < 40 → bagnallkeep_OutFull.l0 200 (wrap64 (1 + (m : Int))) ([] : List (S43)) 0 = some true := by
  decide +kernel

theorem OutFull : bagnallkeep_OutFull.Pure := by
  intro a _
  refine ⟨200, ?_⟩
  unfold bagnallkeep_OutFull.f
  rw [picked_of a 40 (by decide) (by decide), Option.bind_some]
  have h0 := Int.emod_nonneg a (show (40 : Int) ≠ 0 by decide)
  have h1 := Int.emod_lt_of_pos a (show (0 : Int) < 40 by decide)
  have h := all40 (a % 40).toNat (by omega)
  rwa [Int.toNat_of_nonneg h0] at h

end Go.Proofs.Ytolnkahidgobhaa.Pure
