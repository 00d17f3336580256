/- For every list of bytes and every number, BaseSigns returns true: the encoding contains only the 64 digits, and four digits correspond to three bytes. No condition. -/
import Derived.Test.YtolnkahidgobhaaQBasex4
import Derived.Test.YtolnkahidgobhaaBasePb
namespace Go.Proofs.Ytolnkahidgobhaa.Pure
open Go.RowKit Go.Proofs.Ytolnkahidgobhaa.QBase Go.Proofs.Ytolnkahidgobhaa.Base Go.Proofs.YtolnkahidgobhaaW.PrintWords Go.Proofs.YtolnkahidgobhaaW.PrintLast Go.Proofs.YtolnkahidgobhaaW.PrintMore

def Good (c : Int) : Prop := (65 ≤ c ∧ c ≤ 90) ∨ (97 ≤ c ∧ c ≤ 122) ∨ (48 ≤ c ∧ c ≤ 57) ∨ c = 43 ∨ c = 47
instance (c : Int) : Decidable (Good c) := by unfold Good; infer_instance
theorem good_signs : ∀ n : Nat, n < 64 → Good (bt signs (n : Int)) := by decide +kernel
theorem bt_enc (l : List Int) (i : Nat) (h : i < (enc l).length) : Good (bt ⟨(enc l).toArray⟩ (i : Int)) := by
  obtain ⟨e, h0, h1, h2⟩ := enc_signs l _ (List.getElem_mem h)
  have h3 : bt ⟨(enc l).toArray⟩ (i : Int) = ((enc l)[i].toNat : Int) := by
    unfold bt
    rw [dif_pos (by rw [size_of]; simpa using h)]
    simp [ByteArray.getElem_eq_getElem_data]
  rw [h3, h2, sgn_toNat]
  have := good_signs e.toNat (by omega)
  rwa [Int.toNat_of_nonneg h0] at this

theorem picked_of (a n : Int) (h0 : 0 < n) (h1 : n ≤ 1000000) : bagnallkeep_Picked.f a n = some (a % n) := by
  have hr0 := Int.emod_nonneg a (show n ≠ 0 by omega)
  have hr1 := Int.emod_lt_of_pos a h0
  have ht := Int.tmod_eq_emod (a := a) (b := n)
  unfold bagnallkeep_Picked.f
  rw [if_neg (by omega)]
  by_cases hc : 0 ≤ a ∨ n ∣ a
  · rw [if_pos hc] at ht
    rw [if_neg (by omega), ht]; congr 1; omega
  · rw [if_neg hc] at ht
    rw [if_pos (by omega), ht]; congr 1; unfold wrap64; omega

theorem signs_loop (a : Int) (x : List Int) (bx : Bytes x) (hx : x.length ≤ 200) : ∀ (d i k : Nat), i + d = (enc x).length → d < k → bagnallkeep_BaseSigns.l0 k a x ⟨(enc x).toArray⟩ i = some true := by
  have hex := enc_length x
  intro d
  induction d with
  | zero =>
    intro i k hd hk
    obtain ⟨k, rfl⟩ : ∃ m, k = m + 1 := ⟨k - 1, by omega⟩
    rw [bagnallkeep_BaseSigns.l0, if_neg (by rw [size_of]; omega)]
    have hw : wrap64 ((wrap64 ((x.length : Int) / 3)) + 1) = (x.length : Int) / 3 + 1 := by
      rw [show wrap64 ((x.length : Int) / 3) = (x.length : Int) / 3 by unfold wrap64; omega]; unfold wrap64; omega
    rw [hw, picked_of a _ (by omega) (by omega), Option.bind_some]
    have h0 := Int.emod_nonneg a (show (x.length : Int) / 3 + 1 ≠ 0 by omega)
    have h1 := Int.emod_lt_of_pos a (show 0 < (x.length : Int) / 3 + 1 by omega)
    generalize a % ((x.length : Int) / 3 + 1) = t at h0 h1 ⊢
    obtain ⟨n, rfl⟩ := Int.eq_ofNat_of_zero_le h0
    have hn : 3 * n ≤ x.length := by omega
    have w3 : wrap64 (3 * (n : Int)) = ((3 * n : Nat) : Int) := by unfold wrap64; omega
    have w4 : wrap64 (4 * (n : Int)) = ((4 * n : Nat) : Int) := by unfold wrap64; omega
    have hl : (x.take (3 * n)).length = 3 * n := by rw [List.length_take]; omega
    rw [w3, w4, if_pos (by omega), if_pos (by omega), Int.toNat_natCast, Int.toNat_natCast, if_pos (by simp; omega), List.nil_append, Text_tells _ (bx.take _) (by omega), Option.bind_some, if_pos rfl, if_pos (by omega), if_pos (by rw [size_of]; omega), toList_of]
    have hsplit : enc x = enc (x.take (3 * n)) ++ enc (x.drop (3 * n)) := by rw [← enc_append _ _ (by rw [hl]; omega), List.take_append_drop]
    have hl4 : (enc (x.take (3 * n))).length = 4 * n := by rw [enc_length, hl]; omega
    have he : ((⟨(enc x).toArray⟩ : ByteArray).extract 0 (4 * n)).toList = enc (x.take (3 * n)) := by
      rw [ByteArray.toList_eq, ByteArray.data_extract]
      simp only [Array.toList_extract]
      rw [hsplit]
      simp [List.extract, hl4]
    rw [he]
    simp
  | succ d ih =>
    intro i k hd hk
    obtain ⟨k, rfl⟩ : ∃ m, k = m + 1 := ⟨k - 1, by omega⟩
    have hg := bt_enc x i (by omega)
    have hi : wrap64 ((i : Int) + 1) = ((i + 1 : Nat) : Int) := by unfold wrap64; omega
    have hnext := ih (i + 1) k (by omega) (by omega)
    rw [bagnallkeep_BaseSigns.l0, if_pos (by rw [size_of]; omega), if_pos (by omega), hi]
    unfold Good at hg
    generalize bt ⟨(enc x).toArray⟩ (i : Int) = c at hg ⊢
    repeat' split
    all_goals first | exact hnext | (exfalso; omega)

theorem BaseSigns : bagnallkeep_BaseSigns.Pure := by
  intro l0 a _ h0 w0 _
  have b0 := bytes_wf w0
  have k0 : mn (l0.length : Int) 200 = ((min l0.length 200 : Nat) : Int) := mn_nat l0.length 200
  have e0 : ((min l0.length 200 : Nat) : Int).toNat = min l0.length 200 := by omega
  have hx : (l0.take (min l0.length 200)).length = min l0.length 200 := by rw [List.length_take]; omega
  have bx := b0.take (min l0.length 200)
  refine ⟨1001, ?_⟩
  unfold bagnallkeep_BaseSigns.f
  rw [k0, e0]
  generalize l0.take (min l0.length 200) = x at *
  have hex := enc_length x
  rw [if_pos (by omega), if_pos (by omega), if_pos (by simp; omega), List.nil_append, Text_tells x bx (by omega), Option.bind_some, if_pos rfl, Sure_tells, Option.bind_some, bagnallkeep_BaseSigns.j0, if_neg (by decide)]
  exact signs_loop a x bx (by omega) _ 0 1000 (Nat.zero_add _) (by omega)

end Go.Proofs.Ytolnkahidgobhaa.Pure
