/- A write behind any moves is read back behind what they left. -/
import Derived.Test.YtmfkgbncnaingaaQDiskx4
import Derived.Test.YtmfkgbncnaingaaDiskPa
namespace Go.Proofs.Ytmfkgbncnaingaa.Pure
open Go.RowKit Go.Proofs.Ytmfkgbncnaingaa.QDisk Go.Proofs.Ytmfkgbncnaingaa.Disk Go.Proofs.YtmfkgbncnaingaaW.PrintWords Go.Proofs.YtmfkgbncnaingaaW.PrintLast Go.Proofs.YtmfkgbncnaingaaW.PrintMore

theorem DiskBehind : bagnallkeep_DiskBehind.Pure := by
  intro l0 l1 h0 h0' _ h1 h1' _
  have hM : bagnallkeep_Moves.f l0 50 = some ((l0.take 50).map moveOf) := moves_f l0 (by omega) 50 (by omega)
  have hlen := moves_len l0 50
  have hsh := short_moves (l0.take 50)
  have hrl := run_len (l0.take 50) [] 0
  have hk : (l0.take 50).length ≤ 50 := by rw [List.length_take]; omega
  have hC : bagnallkeep_cutBytes.f l1 = some (l1.take 200) := dcut l1 (by omega)
  have hc : (l1.take 200).length ≤ 200 := by rw [List.length_take]; omega
  revert hM hlen hsh hrl hC hc
  generalize (l0.take 50).map moveOf = m
  generalize l1.take 200 = c
  intro hM hlen hsh hrl hC hc
  have hC2 : bagnallkeep_cutBytes.f c = some c := by rw [dcut c (by omega), List.take_of_length_le hc]
  have hD : (run m [] 0).2.1.length ≤ 400 := by have : ([] : List Int).length = 0 := rfl; omega
  have hR : (run (m ++ [(⟨1, c, 0⟩ : S32)]) [] 0).2.1 = (run m [] 0).2.1 ++ c := by
    rw [run_append, run_one]
    show (Disk.step 1 c 0 (run m [] 0).2.1 (run m [] 0).2.2).2.1 = _
    unfold Disk.step
    rw [if_pos rfl, if_pos (by omega)]
  refine ⟨2000, ?_⟩
  unfold bagnallkeep_DiskBehind.f
  rw [hM, Option.bind_some, hC, Option.bind_some, moved_f (by omega) hsh, Option.bind_some, if_pos (by rw [List.length_nil]; omega), Option.bind_some, List.nil_append, hC2, Option.bind_some, if_pos (by omega),
    moved_f (by rw [List.length_append, List.length_singleton]; omega) (short_snoc hsh _ (by show c.length ≤ _; omega)), Option.bind_some, hR]
  generalize (run m [] 0).2.1 = D at hD
  rw [if_pos rfl, if_pos rfl, if_pos (by rw [List.length_nil]; omega), Option.bind_some, List.nil_append, if_pos (by omega), same_f _ _ (by rw [List.length_append]; omega) _ (by rw [List.length_append]; omega), Option.bind_some]
  exact congrArg some (decide_eq_true rfl)

end Go.Proofs.Ytmfkgbncnaingaa.Pure
