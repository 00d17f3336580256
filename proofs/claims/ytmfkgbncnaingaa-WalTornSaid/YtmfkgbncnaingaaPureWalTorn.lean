/- For all lists, WalTorn returns true: of any beginning of what was packed the batches are read that end within it. No condition. -/
import Derived.Test.YtmfkgbncnaingaaQWalx6
import Derived.Test.YtmfkgbncnaingaaWalPb
namespace Go.Proofs.Ytmfkgbncnaingaa.Pure
open Go.RowKit Go.Proofs.Ytmfkgbncnaingaa.QWal Go.Proofs.Ytmfkgbncnaingaa.Wal Go.Proofs.YtmfkgbncnaingaaW.PrintWords Go.Proofs.YtmfkgbncnaingaaW.PrintLast Go.Proofs.YtmfkgbncnaingaaW.PrintMore

theorem torn_loop (bs : List (List (List Int))) (hn : ∀ z ∈ bs, Nice z) (hl : bs.length ≤ 20) (k : Int) (hk0 : 0 ≤ k) (hk1 : k ≤ ((flat bs).length : Int)) (K : Nat) (hK : ∀ m, K ≤ m → ∀ n, bagnallkeep_sameBatches.f m (bs.take n) (bs.take n) = some true) :
    ∀ (d n : Nat), n + d = bs.length → ((flat (bs.take n)).length : Int) ≤ k → ∀ m, K + d ≤ m → bagnallkeep_WalTorn.l0 (m + 1) bs (flat bs) (ends bs bs.length) k (n : Int) = some true := by
  obtain ⟨hf, hB⟩ := flat_len bs hn
  have hend : ∀ n, n ≤ bs.length → ((flat (bs.take n)).length : Int) ≤ k → (n = bs.length ∨ k < ((flat (bs.take (n + 1))).length : Int)) → readOf ((flat bs).take k.toNat) = (bs.take n, (flat (bs.take n)).length) := fun n h1 h2 h3 =>
    read_cut (fun z hz => (hn z hz).good) hB n k.toNat h1 (by omega) (by omega)
  intro d
  induction d with
  | zero =>
    intro n hd hle m hm
    have hr := hend n (by omega) hle (.inl (by omega))
    rw [bagnallkeep_WalTorn.l0, show wrap64 ((n : Int) + 1) = ((n + 1 : Nat) : Int) by rw [w64 (by omega) (by omega)]; omega, if_neg (by rw [ends_length]; omega), if_pos hk0, if_pos hk1, Option.bind_some, if_pos (by show 0 + ((flat bs).take k.toNat).length < _; rw [List.length_take]; omega), List.nil_append, scan_tells (hB.take _) (by rw [List.length_take]; omega), Option.bind_some, one_tells, Option.bind_some, if_pos rfl, if_pos rfl, if_pos one_five, if_pos (by omega), if_pos (by rw [ends_length]; omega), ends_get _ _ _ (by omega), hr, if_pos rfl, if_pos (by omega), Int.toNat_natCast, hK _ (by omega)]
    rfl
  | succ d ih =>
    intro n hd hle m hm
    rw [bagnallkeep_WalTorn.l0, show wrap64 ((n : Int) + 1) = ((n + 1 : Nat) : Int) by rw [w64 (by omega) (by omega)]; omega, if_pos (by rw [ends_length]; omega), if_pos (by omega), ends_get _ _ _ (by omega)]
    by_cases h : ((flat (bs.take (n + 1))).length : Int) ≤ k
    · obtain ⟨m, rfl⟩ : ∃ q, m = q + 1 := ⟨m - 1, by omega⟩
      rw [if_pos h]
      exact ih (n + 1) (by omega) h m (by omega)
    · have hr := hend n (by omega) hle (.inr (by omega))
      rw [if_neg h, if_pos hk0, if_pos hk1, Option.bind_some, if_pos (by show 0 + ((flat bs).take k.toNat).length < _; rw [List.length_take]; omega), List.nil_append, scan_tells (hB.take _) (by rw [List.length_take]; omega), Option.bind_some, one_tells, Option.bind_some, if_pos rfl, if_pos rfl, if_pos one_five, if_pos (by omega), if_pos (by rw [ends_length]; omega), ends_get _ _ _ (by omega), hr, if_pos rfl, if_pos (by omega), Int.toNat_natCast, hK _ (by omega)]
      rfl
/-- Batches are told to be themselves, for all beginnings with the same rounds. -/
theorem self_same (bs : List (List (List Int))) (hn : ∀ z ∈ bs, Nice z) (hl : bs.length ≤ 20) : ∃ K, ∀ m, K ≤ m → ∀ n, bagnallkeep_sameBatches.f m (bs.take n) (bs.take n) = some true := by
  have h1 : ∀ N, ∃ K, ∀ m, K ≤ m → ∀ n, n ≤ N → bagnallkeep_sameBatches.f m (bs.take n) (bs.take n) = some true := by
    have hs : ∀ n, Small (bs.take n) := fun n => by
      have hn' : ∀ z ∈ bs.take n, Nice z := fun z hz => hn z (List.mem_of_mem_take hz)
      have := (flat_len _ hn').1
      rw [List.length_take] at this
      exact small_good _ (fun z hz => (hn' z hz).good) (by omega)
    intro N
    induction N with
    | zero =>
      obtain ⟨K, hK⟩ := batches_same _ _ (hs 0)
      exact ⟨K, fun m hm n hn => by rw [show n = 0 by omega, hK m hm]; simp⟩
    | succ N ih =>
      obtain ⟨K, hK⟩ := ih
      obtain ⟨K2, hK2⟩ := batches_same _ _ (hs (N + 1))
      refine ⟨max K K2, fun m hm n hn => ?_⟩
      by_cases h : n ≤ N
      · exact hK m (by omega) n h
      · rw [show n = N + 1 by omega, hK2 m (by omega)]; simp
  obtain ⟨K, hK⟩ := h1 20
  refine ⟨K, fun m hm n => ?_⟩
  by_cases h : n ≤ 20
  · exact hK m hm n h
  · have := hK m hm 20 (by omega)
    rw [List.take_of_length_le (by omega)] at this ⊢
    exact this

theorem WalTorn : bagnallkeep_WalTorn.Pure := by
  intro l0 a1 _ _ _ _
  obtain ⟨bs, ⟨hb, hn⟩, K, hK⟩ := batches l0 12 (by omega)
  obtain ⟨hf, hB⟩ := flat_len bs hn
  obtain ⟨K2, hK2⟩ := self_same bs hn (by omega)
  have m0 := Int.emod_nonneg a1 (show (((flat bs).length : Int) + 1) ≠ 0 by omega)
  have m1 := Int.emod_lt_of_pos a1 (show 0 < (((flat bs).length : Int) + 1) by omega)
  have h := hK (K + K2 + 100 + 1) (by omega)
  rw [show ((12 : Nat) : Int) = 12 from rfl] at h
  refine ⟨K + K2 + 100 + 1, ?_⟩
  unfold bagnallkeep_WalTorn.f
  rw [h, Option.bind_some, packed_tells bs hn (by omega) _ (by omega), Option.bind_some, if_pos rfl]
  dsimp only
  rw [show wrap64 (((flat bs).length : Int) + 1) = ((flat bs).length : Int) + 1 from w64 (by omega) (by omega), picked _ _ (by omega) (by omega), Option.bind_some]
  exact torn_loop bs hn (by omega) _ m0 (by omega) K2 hK2 bs.length 0 (by omega) (by simpa [flat] using m0) _ (by omega)

end Go.Proofs.Ytmfkgbncnaingaa.Pure
