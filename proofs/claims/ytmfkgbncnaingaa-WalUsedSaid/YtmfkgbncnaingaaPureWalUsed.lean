/- For all bytes, WalUsed returns true: the bytes that are used tell the same batches; fewer bytes use no more. No condition. -/
import Derived.Test.YtmfkgbncnaingaaQWalx11
import Derived.Test.YtmfkgbncnaingaaWalPb
namespace Go.Proofs.Ytmfkgbncnaingaa.Pure
open Go.RowKit Go.Proofs.Ytmfkgbncnaingaa.QWal Go.Proofs.Ytmfkgbncnaingaa.Wal Go.Proofs.YtmfkgbncnaingaaW.PrintWords Go.Proofs.YtmfkgbncnaingaaW.PrintLast Go.Proofs.YtmfkgbncnaingaaW.PrintMore

theorem WalUsed : bagnallkeep_WalUsed.Pure := by
  intro l0 a1 _ h0 w0 _
  have b0 := (bytes_wf w0).take 200
  have hl : (l0.take 200).length ≤ 200 := by rw [List.length_take]; omega
  have hcut := cut_tells l0 (by omega)
  generalize l0.take 200 = c at b0 hl hcut
  have htt : ∀ n, (c.take n).take 200 = c.take n := fun n => List.take_of_length_le (by rw [List.length_take]; omega)
  have hc2 : bagnallkeep_cutBytes.f c = some c := by rw [cut_tells c (by omega), List.take_of_length_le hl]
  obtain ⟨rest, e1, e2, e3⟩ := read_is b0
  have e4 := congrArg List.length e1
  rw [List.length_append] at e4
  have hsame := batches_same (readOf c).1 (readOf c).1 (small_read b0 (by omega))
  have hused : c.take (readOf c).2 = flat (readOf c).1 := by
    have h : ∀ X : List Int, c = X ++ rest → c.take X.length = X := fun X e => by rw [e, List.take_left]
    rw [e2]; exact h _ e1
  have hread : readOf (c.take (readOf c).2) = readOf c := by
    have h := readOf_flat (readOf c).1 e3 []
    rw [List.append_nil, read_nil] at h
    rw [hused, h]
    refine Prod.ext ?_ ?_
    · exact List.append_nil _
    · exact e2.symm
  have m0 := Int.emod_nonneg a1 (show ((c.length : Int) + 1) ≠ 0 by omega)
  have m1 := Int.emod_lt_of_pos a1 (show 0 < ((c.length : Int) + 1) by omega)
  generalize ht : a1 % ((c.length : Int) + 1) = t at m0 m1
  have hless : (readOf (c.take t.toNat)).2 ≤ (readOf c).2 := by
    obtain ⟨r1, f1, f2, f3⟩ := read_is (b0.take t.toNat)
    have e : c = flat (readOf (c.take t.toNat)).1 ++ (r1 ++ c.drop t.toNat) := by
      rw [← List.append_assoc, ← f1, List.take_append_drop]
    have h := readOf_flat _ f3 (r1 ++ c.drop t.toNat)
    rw [← e] at h
    rw [congrArg Prod.snd h, f2]
    exact Nat.le_add_right _ _
  obtain ⟨K, hK⟩ := hsame
  have hj : bagnallkeep_WalUsed.j0 (K + 1) a1 c (readOf c).1 ((readOf c).2 : Int) false = some true := by
    rw [bagnallkeep_WalUsed.j0, if_neg (by decide), if_pos (by omega), if_pos (by omega), Int.toNat_natCast, cut_tells _ (by rw [List.length_take]; omega), Option.bind_some, htt, scan_tells (b0.take _) (by rw [List.length_take]; omega), Option.bind_some, hread, show wrap64 ((c.length : Int) + 1) = (c.length : Int) + 1 from w64 (by omega) (by omega), picked _ _ (by omega) (by omega), Option.bind_some, ht, if_pos m0, if_pos (by omega), cut_tells _ (by rw [List.length_take]; omega), Option.bind_some, htt, scan_tells (b0.take _) (by rw [List.length_take]; omega), Option.bind_some, one_tells, Option.bind_some, if_pos rfl, if_pos rfl, if_pos rfl, if_pos one_five, if_pos rfl, if_pos (by show ((readOf (c.take t.toNat)).2 : Int) ≤ _; omega), hK _ (Nat.le_refl _), decide_eq_true rfl]
    rfl
  refine ⟨K + 1, ?_⟩
  unfold bagnallkeep_WalUsed.f
  rw [hcut, Option.bind_some, hc2, Option.bind_some, scan_tells b0 (by omega), Option.bind_some, if_pos rfl, if_neg (by show ¬ ((readOf c).2 : Int) < 0; omega), decide_eq_false (show ¬ ((readOf c).2 : Int) > (c.length : Int) by omega)]
  exact hj

end Go.Proofs.Ytmfkgbncnaingaa.Pure
