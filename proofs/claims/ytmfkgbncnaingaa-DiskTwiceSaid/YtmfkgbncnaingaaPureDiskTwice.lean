/- A second fall behind a first changes nothing. -/
import Derived.Test.YtmfkgbncnaingaaQDiskx8
import Derived.Test.YtmfkgbncnaingaaDiskPa
namespace Go.Proofs.Ytmfkgbncnaingaa.Pure
open Go.RowKit Go.Proofs.Ytmfkgbncnaingaa.QDisk Go.Proofs.Ytmfkgbncnaingaa.Disk Go.Proofs.YtmfkgbncnaingaaW.PrintWords Go.Proofs.YtmfkgbncnaingaaW.PrintLast Go.Proofs.YtmfkgbncnaingaaW.PrintMore

theorem fall_end {s n : Int} (h : 0 ≤ n) : fallTo s s n = s := by unfold fallTo; split <;> omega

theorem DiskTwice : bagnallkeep_DiskTwice.Pure := by
  intro l0 a1 a2 h0 h0' _ _ _
  have hM : bagnallkeep_Moves.f l0 60 = some ((l0.take 60).map moveOf) := moves_f l0 (by omega) 60 (by omega)
  have hlen := moves_len l0 60
  have hsh := short_moves (l0.take 60)
  have hok := run_ok ((l0.take 60).map moveOf) ok0
  have hP := dpicked a1 20 (by decide) (by decide)
  have hp0 := Int.emod_nonneg a1 (show (20 : Int) ≠ 0 by decide)
  have hQ := dpicked a2 20 (by decide) (by decide)
  have hq0 := Int.emod_nonneg a2 (show (20 : Int) ≠ 0 by decide)
  revert hM hlen hsh hok hP hp0 hQ hq0
  generalize (l0.take 60).map moveOf = m
  generalize a1 % 20 = n
  generalize a2 % 20 = n2
  intro hM hlen hsh hok hP hp0 hQ hq0
  obtain ⟨hD, hs0, hs1⟩ := hok
  have hr := fallTo_range (n := n) hs0 hs1 hp0
  have hR : (run (m ++ [(⟨4, ([] : List Int), n⟩ : S32)]) [] 0).2 = ((run m [] 0).2.1.take (fallTo (run m [] 0).2.1.length (run m [] 0).2.2 n).toNat, fallTo (run m [] 0).2.1.length (run m [] 0).2.2 n) := by
    rw [run_append, run_one]
    show (Disk.step 4 [] n (run m [] 0).2.1 (run m [] 0).2.2).2 = _
    unfold Disk.step
    rw [if_neg (by decide), if_neg (by decide), if_neg (by decide), if_pos rfl, if_neg (by omega)]
  have hlm : (m ++ [(⟨4, ([] : List Int), n⟩ : S32)]).length ≤ 61 := by rw [List.length_append, List.length_singleton]; omega
  have hsm := short_snoc hsh (⟨4, ([] : List Int), n⟩ : S32) (Nat.zero_le _)
  have hl0 : (((run m [] 0).2.1.take (fallTo (run m [] 0).2.1.length (run m [] 0).2.2 n).toNat).length : Int) = fallTo (run m [] 0).2.1.length (run m [] 0).2.2 n := by rw [List.length_take]; omega
  have hmlt : m.length < 3518437208883 := by omega
  revert hR hlm hsm hl0 hr
  generalize (run m [] 0).2.1.take (fallTo (run m [] 0).2.1.length (run m [] 0).2.2 n).toNat = E
  generalize fallTo (run m [] 0).2.1.length (run m [] 0).2.2 n = e
  generalize hq : (m ++ [(⟨4, ([] : List Int), n⟩ : S32)]) = q
  intro hr hR hlm hsm hl0
  have hR2 : (run (q ++ [(⟨4, ([] : List Int), n2⟩ : S32)]) [] 0).2.1 = E := by
    rw [run_append, run_one]
    show (Disk.step 4 [] n2 (run q [] 0).2.1 (run q [] 0).2.2).2.1 = _
    rw [show (run q [] 0).2.1 = E from congrArg Prod.fst hR, show (run q [] 0).2.2 = e from congrArg Prod.snd hR]
    unfold Disk.step
    rw [if_neg (by decide), if_neg (by decide), if_neg (by decide), if_pos rfl, if_neg (by omega)]
    show E.take (fallTo E.length e n2).toNat = E
    rw [hl0, fall_end hq0, List.take_of_length_le (by omega)]
  have hE : E.length ≤ 1200 := by omega
  refine ⟨2000, ?_⟩
  unfold bagnallkeep_DiskTwice.f
  rw [hM, Option.bind_some, hP, Option.bind_some, if_pos hmlt, Option.bind_some, hq, moved_f (by omega) hsm, Option.bind_some, if_pos (by rw [List.length_nil]; omega), Option.bind_some, List.nil_append, hQ, Option.bind_some, if_pos (by omega),
    moved_f (by rw [List.length_append, List.length_singleton]; omega) (short_snoc hsm _ (Nat.zero_le _)), Option.bind_some, hR2, held_f (by omega) hsm, Option.bind_some, hR]
  rw [if_pos rfl, if_pos rfl, if_pos rfl, if_pos hl0, same_f _ _ (show E.length ≤ _ by omega) _ (show E.length < _ by omega), Option.bind_some]
  exact congrArg some (decide_eq_true rfl)

end Go.Proofs.Ytmfkgbncnaingaa.Pure
