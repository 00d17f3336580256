/- For all lists, WalSeen returns true: a changed byte makes other batches, those ahead stay. No condition. -/
import Derived.Test.YtmfkgbncnaingaaQWalx9
import Derived.Test.YtmfkgbncnaingaaWalPb
import Derived.Laws.BitsAllLaws
namespace Go.Proofs.Ytmfkgbncnaingaa.Pure
open Go.RowKit Go.Proofs.Ytmfkgbncnaingaa.QWal Go.Proofs.Ytmfkgbncnaingaa.Wal Go.Proofs.YtmfkgbncnaingaaW.PrintWords Go.Proofs.YtmfkgbncnaingaaW.PrintLast Go.Proofs.YtmfkgbncnaingaaW.PrintMore

theorem self_some (bs : List (List (List Int))) (hn : ∀ z ∈ bs, Nice z) (hl : bs.length ≤ 20) (n : Nat) : ∃ K, ∀ m, K ≤ m → bagnallkeep_sameBatches.f m (bs.take n) (bs.take n) = some true := by
  have hn' : ∀ z ∈ bs.take n, Nice z := fun z hz => hn z (List.mem_of_mem_take hz)
  have := (flat_len _ hn').1
  rw [List.length_take] at this
  obtain ⟨K, hK⟩ := batches_same (bs.take n) (bs.take n) (small_good _ (fun z hz => (hn' z hz).good) (by omega))
  exact ⟨K, fun m hm => by rw [hK m hm]; simp⟩
theorem xor_byte {a b : Int} (ha : 0 ≤ a ∧ a < 256) (hb : 0 ≤ b ∧ b < 256) : (0 ≤ Go.bits .xor .u8 a b ∧ Go.bits .xor .u8 a b < 256) ∧ (Go.bits .xor .u8 a b = a ↔ b = 0) := by
  obtain ⟨x, rfl⟩ := Int.eq_ofNat_of_zero_le ha.1
  obtain ⟨y, rfl⟩ := Int.eq_ofNat_of_zero_le hb.1
  have h := u8_xor_nat x y (by omega) (by omega)
  have hx : x ^^^ y < 2 ^ 8 := Nat.xor_lt_two_pow (by omega) (by omega)
  rw [h]
  refine ⟨⟨by omega, by omega⟩, ⟨fun e => ?_, fun e => ?_⟩⟩
  · have e' : x ^^^ y = x := by omega
    have e2 : x ^^^ (x ^^^ y) = x ^^^ x := by rw [e']
    rw [← Nat.xor_assoc, Nat.xor_self, Nat.zero_xor] at e2
    omega
  · have : y = 0 := by omega
    rw [this, Nat.xor_zero]

theorem seen_end (bs : List (List (List Int))) (hn : ∀ z ∈ bs, Nice z) (hl : bs.length ≤ 20) (by_ : Int) (hby : 0 ≤ by_ ∧ by_ < 256) (k : Nat) (hk1 : k < (flat bs).length) (n : Nat) (hnl : n ≤ bs.length) (hnk : (flat (bs.take n)).length ≤ k) :
    ∃ K, ∀ m, K ≤ m → bagnallkeep_WalSeen.j2 (m + 1) by_ bs (flat bs) (k : Int) (n : Int) = some true := by
  obtain ⟨hf, hB⟩ := flat_len bs hn
  have hg : ∀ z ∈ bs, Wal.Good z := fun z hz => (hn z hz).good
  have hbk := hB _ (List.getElem_mem hk1)
  obtain ⟨hx, hx0⟩ := xor_byte hbk hby
  obtain ⟨v, hv⟩ : ∃ v, Go.bits .xor .u8 (flat bs)[k] by_ = v := ⟨_, rfl⟩
  rw [hv] at hx hx0
  have hBc : Bytes ((flat bs).set k v) := fun y hy => by
    rcases List.mem_or_eq_of_mem_set hy with hy | rfl
    · exact hB y hy
    · exact hx
  have hlc : ((flat bs).set k v).length = (flat bs).length := List.length_set
  have hpre : ∃ rest, (flat bs).set k v = flat (bs.take n) ++ rest := by
    have e : flat bs = flat (bs.take n) ++ flat (bs.drop n) := by rw [← flat_append, List.take_append_drop]
    refine ⟨(flat (bs.drop n)).set (k - (flat (bs.take n)).length) v, ?_⟩
    conv => lhs; rw [e]
    rw [List.set_append_right _ _ hnk]
  obtain ⟨rest, hrest⟩ := hpre
  have hread := readOf_flat (bs.take n) (fun z hz => hg z (List.mem_of_mem_take hz)) rest
  rw [← hrest] at hread
  have hx1 : (readOf ((flat bs).set k v)).1.take n = bs.take n := by
    rw [hread]
    have : (bs.take n).length = n := by rw [List.length_take]; omega
    exact List.take_left' this
  have hx2 : n ≤ (readOf ((flat bs).set k v)).1.length := by
    rw [hread, List.length_append, List.length_take]; omega
  have hsm := small_read hBc (by omega)
  have hlast : decide ((readOf ((flat bs).set k v)).1 = bs) = (by_ == 0) := by
    by_cases h0 : by_ = 0
    · have e : (flat bs).set k v = flat bs := by rw [hx0.2 h0, List.set_getElem_self]
      have h := readOf_flat bs hg []
      rw [List.append_nil, read_nil] at h
      rw [e, h, h0]; simp
    · rw [decide_eq_false, beq_eq_false_iff_ne.2 h0]
      intro e
      obtain ⟨r, e1, _, _⟩ := read_is hBc
      rw [e] at e1
      have h2 := congrArg List.length e1
      rw [hlc, List.length_append] at h2
      have h3 : r = [] := List.eq_nil_of_length_eq_zero (by omega)
      rw [h3, List.append_nil] at e1
      have h4 : ((flat bs).set k v)[k]'(by omega) = v := List.getElem_set_self _
      have h5 : ((flat bs).set k v)[k]'(by omega) = (flat bs)[k] := by simp only [e1]
      exact h0 (hx0.1 (by rw [← h4, h5]))
  obtain ⟨K1, hK1⟩ := self_some bs hn hl n
  obtain ⟨K2, hK2⟩ := batches_same _ bs hsm
  refine ⟨max K1 K2, fun m hm => ?_⟩
  rw [bagnallkeep_WalSeen.j2, if_pos (by show 0 + (flat bs).length < _; omega), Option.bind_some, List.nil_append, if_pos (by omega), if_pos (by omega), Option.bind_some, Int.toNat_natCast, rd_get _ _ hk1, hv, if_pos (by show 0 + ((flat bs).set k v).length < _; omega), List.nil_append, scan_tells hBc (by omega), Option.bind_some, if_pos rfl]
  dsimp only
  rw [if_neg (by omega), if_pos (by omega), if_pos (by omega), if_pos (by omega), Int.toNat_natCast, hx1, hK1 _ (by omega), Option.bind_some, if_pos rfl, hK2 _ (by omega), Option.bind_some, hlast]
  simp

theorem seen_loop (bs : List (List (List Int))) (hn : ∀ z ∈ bs, Nice z) (hl : bs.length ≤ 20) (by_ : Int) (hby : 0 ≤ by_ ∧ by_ < 256) (k : Nat) (hk1 : k < (flat bs).length) :
    ∀ (d n : Nat), n + d = bs.length → (flat (bs.take n)).length ≤ k → ∃ K, ∀ m, K ≤ m → bagnallkeep_WalSeen.l0 m by_ bs (flat bs) (ends bs bs.length) (k : Int) (n : Int) = some true := by
  intro d
  induction d with
  | zero =>
    intro n hd hle
    obtain ⟨K, hK⟩ := seen_end bs hn hl by_ hby k hk1 n (by omega) hle
    refine ⟨K + 2, fun m hm => ?_⟩
    obtain ⟨m, rfl⟩ : ∃ q, m = q + 2 := ⟨m - 2, by omega⟩
    rw [bagnallkeep_WalSeen.l0, show wrap64 ((n : Int) + 1) = ((n + 1 : Nat) : Int) by rw [w64 (by omega) (by omega)]; omega, if_neg (by rw [ends_length]; omega)]
    exact hK m (by omega)
  | succ d ih =>
    intro n hd hle
    by_cases h : (flat (bs.take (n + 1))).length ≤ k
    · obtain ⟨K, hK⟩ := ih (n + 1) (by omega) h
      refine ⟨K + 1, fun m hm => ?_⟩
      obtain ⟨m, rfl⟩ : ∃ q, m = q + 1 := ⟨m - 1, by omega⟩
      rw [bagnallkeep_WalSeen.l0, show wrap64 ((n : Int) + 1) = ((n + 1 : Nat) : Int) by rw [w64 (by omega) (by omega)]; omega, if_pos (by rw [ends_length]; omega), if_pos (by omega), ends_get _ _ _ (by omega), if_pos (by omega)]
      exact hK m (by omega)
    · obtain ⟨K, hK⟩ := seen_end bs hn hl by_ hby k hk1 n (by omega) hle
      refine ⟨K + 2, fun m hm => ?_⟩
      obtain ⟨m, rfl⟩ : ∃ q, m = q + 2 := ⟨m - 2, by omega⟩
      rw [bagnallkeep_WalSeen.l0, show wrap64 ((n : Int) + 1) = ((n + 1 : Nat) : Int) by rw [w64 (by omega) (by omega)]; omega, if_pos (by rw [ends_length]; omega), if_pos (by omega), ends_get _ _ _ (by omega), if_neg (by omega)]
      exact hK m (by omega)

theorem WalSeen : bagnallkeep_WalSeen.Pure := by
  intro l0 a1 a2 _ _ _ _ h2
  have hby : 0 ≤ a2 ∧ a2 < 256 := by
    simp [Lit.wf, IntKind.min, IntKind.max, IntKind.bits, IntKind.signed] at h2
    omega
  obtain ⟨bs, ⟨hb, hn0⟩, K, hK⟩ := batches l0 8 (by omega)
  have hone : Nice [[1, 2]] := ⟨by decide, fun x hx => by rw [List.mem_singleton.1 hx]; exact ⟨by decide, fun y hy => by simp at hy; omega⟩⟩
  have hn : ∀ z ∈ bs ++ [[[1, 2]]], Nice z := fun z hz => by
    rcases List.mem_append.1 hz with hz | hz
    · exact hn0 z hz
    · rw [List.mem_singleton.1 hz]; exact hone
  have hl : (bs ++ [[[1, 2]]]).length = bs.length + 1 := by simp
  have hlen : 1 ≤ (flat (bs ++ [[[1, 2]]])).length := by
    rw [flat_append, List.length_append]
    have : (flat [[[1, 2]]]).length = 6 := by decide
    omega
  have hlt : bs.length < 5864062014805 := by omega
  have hKs := hK
  generalize hB : bs ++ [[[1, 2]]] = cs at hn hl hlen
  obtain ⟨hf, hBy⟩ := flat_len cs hn
  have m0 := Int.emod_nonneg a1 (show ((flat cs).length : Int) ≠ 0 by omega)
  have m1 := Int.emod_lt_of_pos a1 (show 0 < ((flat cs).length : Int) by omega)
  obtain ⟨K2, hK2⟩ := seen_loop cs hn (by omega) a2 hby (a1 % ((flat cs).length : Int)).toNat (by omega) cs.length 0 (by omega) (by simp [flat])
  have h := hK (K + K2 + 100 + 1) (by omega)
  rw [show ((8 : Nat) : Int) = 8 from rfl] at h
  refine ⟨K + K2 + 100 + 1, ?_⟩
  unfold bagnallkeep_WalSeen.f
  rw [h, Option.bind_some, if_pos hlt, Option.bind_some, hB, packed_tells cs hn (by omega) _ (by omega), Option.bind_some, if_pos rfl]
  dsimp only
  rw [bagnallkeep_WalSeen.j0, if_neg (by rw [beq_iff_eq]; omega), picked _ _ (by omega) (by omega), Option.bind_some]
  have h5 := hK2 (K + K2 + 100) (by omega)
  rw [show (((a1 % ((flat cs).length : Int)).toNat : Nat) : Int) = a1 % ((flat cs).length : Int) by omega] at h5
  exact h5

end Go.Proofs.Ytmfkgbncnaingaa.Pure
