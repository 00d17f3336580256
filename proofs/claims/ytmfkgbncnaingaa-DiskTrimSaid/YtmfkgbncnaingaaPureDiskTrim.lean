/- A cut takes effect whole or not at all, and leaves the disk synced to its end. -/
import Derived.Test.YtmfkgbncnaingaaQDiskx9
import Derived.Test.YtmfkgbncnaingaaDiskPa
namespace Go.Proofs.Ytmfkgbncnaingaa.Pure
open Go.RowKit Go.Proofs.Ytmfkgbncnaingaa.QDisk Go.Proofs.Ytmfkgbncnaingaa.Disk Go.Proofs.YtmfkgbncnaingaaW.PrintWords Go.Proofs.YtmfkgbncnaingaaW.PrintLast Go.Proofs.YtmfkgbncnaingaaW.PrintMore

theorem DiskTrim : bagnallkeep_DiskTrim.Pure := by
  intro l0 a1 h0 h0' _ _
  have hM : bagnallkeep_Moves.f l0 60 = some ((l0.take 60).map moveOf) := moves_f l0 (by omega) 60 (by omega)
  have hlen := moves_len l0 60
  have hsh := short_moves (l0.take 60)
  have hok := run_ok ((l0.take 60).map moveOf) ok0
  revert hM hlen hsh hok
  generalize (l0.take 60).map moveOf = m
  intro hM hlen hsh hok
  obtain ⟨hD, hs0, hs1⟩ := hok
  have hP := dpicked a1 (wrap64 ((run m [] 0).2.1.length + 3)) (by rw [dw64 (by omega) (by omega)]; omega) (by rw [dw64 (by omega) (by omega)]; omega)
  have hw : wrap64 (((run m [] 0).2.1.length : Int) + 3) = (run m [] 0).2.1.length + 3 := dw64 (by omega) (by omega)
  have hp0 := Int.emod_nonneg a1 (show wrap64 (((run m [] 0).2.1.length : Int) + 3) ≠ 0 by omega)
  have hp1 := Int.emod_lt_of_pos a1 (show 0 < wrap64 (((run m [] 0).2.1.length : Int) + 3) by omega)
  revert hP hp0 hp1
  generalize a1 % (wrap64 (((run m [] 0).2.1.length : Int) + 3)) = n
  intro hP hp0 hp1
  have hR : (run (m ++ [(⟨3, ([] : List Int), n⟩ : S32)]) [] 0).2 = if ((run m [] 0).2.1.length : Int) < n then ((run m [] 0).2.1, (run m [] 0).2.2) else ((run m [] 0).2.1.take n.toNat, n) := by
    rw [run_append, run_one]
    show (Disk.step 3 [] n (run m [] 0).2.1 (run m [] 0).2.2).2 = _
    unfold Disk.step
    rw [if_neg (by decide), if_neg (by decide), if_pos rfl]
    by_cases h : ((run m [] 0).2.1.length : Int) < n
    · rw [if_pos (Or.inr h), if_pos h]
    · rw [if_neg (by omega), if_neg h]
  have hml : (m ++ [(⟨3, ([] : List Int), n⟩ : S32)]).length ≤ 61 := by rw [List.length_append, List.length_singleton]; omega
  have hms := short_snoc hsh (⟨3, ([] : List Int), n⟩ : S32) (Nat.zero_le _)
  refine ⟨1999 + 1, ?_⟩
  unfold bagnallkeep_DiskTrim.f
  rw [hM, Option.bind_some, moved_f (by omega) hsh, Option.bind_some, hP, Option.bind_some, if_pos (by rw [List.length_nil]; omega), Option.bind_some, List.nil_append, if_pos (by omega), Option.bind_some,
    moved_f (by omega) hms, Option.bind_some, held_f (by omega) hms, Option.bind_some]
  rw [if_pos rfl, if_pos rfl]
  revert hD hs0 hs1 hw hp0 hp1 hR
  generalize (run m [] 0).2.1 = D
  generalize (run m [] 0).2.2 = s
  generalize (run (m ++ [(⟨3, ([] : List Int), n⟩ : S32)]) [] 0).2 = E
  intro hD hs0 hs1 hw hp0 hp1 hR
  show bagnallkeep_DiskTrim.j0 (1999 + 1) D n E.1 E.2 false = some true
  by_cases h : (D.length : Int) < n
  · rw [if_pos h] at hR
    rw [hR]
    simp only [bagnallkeep_DiskTrim.j0]
    rw [if_neg Bool.false_ne_true, if_pos (show n > (D.length : Int) from h), same_f _ _ (by omega) _ (by omega), Option.bind_some]
    exact congrArg some (decide_eq_true rfl)
  · rw [if_neg h] at hR
    rw [hR]
    simp only [bagnallkeep_DiskTrim.j0]
    rw [if_neg Bool.false_ne_true, if_neg (show ¬ n > (D.length : Int) from h), if_pos (by omega), if_pos (by omega), same_f _ _ (by rw [List.length_take]; omega) _ (by rw [List.length_take]; omega), Option.bind_some, if_pos (decide_eq_true rfl)]
    exact congrArg some (beq_self_eq_true n)

end Go.Proofs.Ytmfkgbncnaingaa.Pure
