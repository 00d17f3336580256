/- A fall keeps what was synced and a head of what was held. -/
import Derived.Test.YtmfkgbncnaingaaQDiskx7
import Derived.Test.YtmfkgbncnaingaaDiskPa
namespace Go.Proofs.Ytmfkgbncnaingaa.Pure
open Go.RowKit Go.Proofs.Ytmfkgbncnaingaa.QDisk Go.Proofs.Ytmfkgbncnaingaa.Disk Go.Proofs.YtmfkgbncnaingaaW.PrintWords Go.Proofs.YtmfkgbncnaingaaW.PrintLast Go.Proofs.YtmfkgbncnaingaaW.PrintMore

theorem fall_nat {len s n : Int} : fallTo len s n = mn len (s + n) := by unfold fallTo mn; split <;> split <;> omega

theorem DiskSafe : bagnallkeep_DiskSafe.Pure := by
  intro l0 a1 h0 h0' _ h1
  have hM : bagnallkeep_Moves.f l0 60 = some ((l0.take 60).map moveOf) := moves_f l0 (by omega) 60 (by omega)
  have hlen := moves_len l0 60
  have hsh := short_moves (l0.take 60)
  have hok := run_ok ((l0.take 60).map moveOf) ok0
  have hP := dpicked a1 20 (by decide) (by decide)
  have hp0 := Int.emod_nonneg a1 (show (20 : Int) ≠ 0 by decide)
  have hp1 := Int.emod_lt_of_pos a1 (show (0 : Int) < 20 by decide)
  revert hM hlen hsh hok hP hp0 hp1
  generalize (l0.take 60).map moveOf = m
  generalize a1 % 20 = n
  intro hM hlen hsh hok hP hp0 hp1
  obtain ⟨hD, hs0, hs1⟩ := hok
  have hR : (run (m ++ [(⟨4, ([] : List Int), n⟩ : S32)]) [] 0).2.1 = (run m [] 0).2.1.take (fallTo (run m [] 0).2.1.length (run m [] 0).2.2 n).toNat := by
    rw [run_append, run_one]
    show (Disk.step 4 [] n (run m [] 0).2.1 (run m [] 0).2.2).2.1 = _
    unfold Disk.step
    rw [if_neg (by decide), if_neg (by decide), if_neg (by decide), if_pos rfl, if_neg (by omega)]
  refine ⟨2000, ?_⟩
  unfold bagnallkeep_DiskSafe.f
  rw [hM, Option.bind_some, hP, Option.bind_some, moved_f (by omega) hsh, Option.bind_some, held_f (by omega) hsh, Option.bind_some, if_pos (by rw [List.length_nil]; omega), Option.bind_some, List.nil_append, if_pos (by omega),
    moved_f (by rw [List.length_append, List.length_singleton]; omega) (short_snoc hsh _ (Nat.zero_le _)), Option.bind_some, hR]
  generalize (run m [] 0).2.1 = D at hD hs1
  generalize (run m [] 0).2.2 = s at hs0 hs1
  have hf := fall_nat (len := (D.length : Int)) (s := s) (n := n)
  have hr := fallTo_range (n := n) hs0 hs1 hp0
  have hl : ((D.take (fallTo D.length s n).toNat).length : Int) = fallTo D.length s n := by rw [List.length_take]; omega
  rw [if_pos rfl, if_pos rfl, if_pos rfl, if_pos rfl, if_neg (by show ¬ (s > (D.length : Int)); omega)]
  show (if ((D.take (fallTo D.length s n).toNat).length : Int) = mn (D.length : Int) (wrap64 (s + n)) then _ else _) = _
  rw [if_pos (by rw [hl, dw64 (by omega) (by omega), hf])]
  show (if 0 ≤ ((D.take (fallTo D.length s n).toNat).length : Int) then (if ((D.take (fallTo D.length s n).toNat).length : Int) ≤ (D.length : Int) then ((bagnallkeep_sameBytes.f 2000 (D.take (fallTo D.length s n).toNat) (D.take (((D.take (fallTo D.length s n).toNat).length : Int)).toNat)).bind fun t204 => some t204) else none) else none) = _
  rw [hl, if_pos hr.1, if_pos hr.2, same_f _ _ (by rw [List.length_take]; omega) _ (by rw [List.length_take]; omega), Option.bind_some]
  exact congrArg some (decide_eq_true rfl)

end Go.Proofs.Ytmfkgbncnaingaa.Pure
