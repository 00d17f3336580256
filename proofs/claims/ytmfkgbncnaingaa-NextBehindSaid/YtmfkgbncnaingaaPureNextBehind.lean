/- For every three strings, NextBehind returns true: Next of a head is the smallest string behind all that begin with the head. -/
import Derived.Test.YtmfkgbncnaingaaQNextx3
import Derived.Test.YtmfkgbncnaingaaNextMath
namespace Go.Proofs.Ytmfkgbncnaingaa.Pure
open Go.RowKit Go.Proofs.Ytmfkgbncnaingaa.QNext Go.Proofs.YtmfkgbncnaingaaW.PrintWords Go.Proofs.YtmfkgbncnaingaaW.PrintLast Go.Proofs.YtmfkgbncnaingaaW.PrintMore Go.Proofs.Ytmfkgbncnaingaa.NextMath

theorem w64 {n : Int} (h0 : -9223372036854775808 ≤ n) (h1 : n ≤ 9223372036854775807) : wrap64 n = n := by unfold wrap64; omega

theorem dl (s : ByteArray) : s.toList = s.data.toList := ByteArray.toList_eq s
theorem dlen (s : ByteArray) : s.data.toList.length = s.size := rfl
theorem ext0 (s : ByteArray) (k : Nat) : (s.extract 0 k).data.toList = s.data.toList.take k := by
  simp [ByteArray.data_extract]
theorem extEnd (s : ByteArray) (a : Nat) : (s.extract a s.size).data.toList = s.data.toList.drop a := by
  rw [ByteArray.data_extract, Array.toList_extract, List.extract_eq_take_drop, ← dlen s, ← List.length_drop, List.take_length]

theorem suffix_snoc (x : ByteArray) (p : List UInt8) (c : UInt8) (hx : x.data.toList = p ++ [c]) (hs : x.size ≤ 140737488351232) : strings_HasSuffix.f x (⟨#[255]⟩ : ByteArray) = some (c == 255) := by
  have hl : x.size = p.length + 1 := by rw [← dlen, hx]; simp
  have h1 : (⟨#[255]⟩ : ByteArray).size = 1 := rfl
  unfold strings_HasSuffix.f stringslite_HasSuffix.f
  rw [h1, if_pos (by omega), w64 (by omega) (by omega), if_pos (by omega), if_pos (by omega), Option.bind_some, dl, extEnd, hx, show ((x.size : Int) - ((1 : Nat) : Int)).toNat = p.length by omega, List.drop_left, dl]
  show some ([c] == [255]) = some (c == 255)
  simp

theorem suffix_nil (x : ByteArray) (hx : x.data.toList = []) : strings_HasSuffix.f x (⟨#[255]⟩ : ByteArray) = some false := by
  have hl : x.size = 0 := by rw [← dlen, hx]; rfl
  have h1 : (⟨#[255]⟩ : ByteArray).size = 1 := rfl
  unfold strings_HasSuffix.f stringslite_HasSuffix.f
  rw [h1, if_neg (by omega)]; rfl

theorem next_l0 : ∀ (n k : Nat) (x : ByteArray), x.size = n → n ≤ 140737488351232 → n < k → ∃ r, rows_Next.l0 k x = some r ∧ r.data.toList = (nextS x.data.toList).getD [] := by
  intro n
  induction n with
  | zero =>
    intro k x hn _ hk
    obtain ⟨k, rfl⟩ : ∃ m, k = m + 1 := ⟨k - 1, by omega⟩
    have hx : x.data.toList = [] := List.eq_nil_of_length_eq_zero (by rw [dlen, hn])
    refine ⟨⟨#[]⟩, ?_, by rw [hx]; rfl⟩
    simp only [rows_Next.l0]
    rw [suffix_nil x hx, Option.bind_some, if_neg (by decide), if_pos (by rw [dl, hx])]
  | succ n ih =>
    intro k x hn hb hk
    obtain ⟨k, rfl⟩ : ∃ m, k = m + 1 := ⟨k - 1, by omega⟩
    obtain ⟨p, c, hx⟩ : ∃ p c, x.data.toList = p ++ [c] := by
      have hne : x.data.toList ≠ [] := by intro h; have := dlen x; rw [h] at this; simp at this; omega
      exact ⟨_, _, (List.dropLast_concat_getLast hne).symm⟩
    have hl : x.size = p.length + 1 := by rw [← dlen, hx]; simp
    have hw : wrap64 ((x.size : Int) - 1) = (p.length : Int) := by rw [w64 (by omega) (by omega)]; omega
    have hcut : (x.extract 0 p.length).data.toList = p := by rw [ext0, hx, List.take_left]
    have hcs : (x.extract 0 p.length).size = p.length := by rw [← dlen, hcut]
    simp only [rows_Next.l0]
    rw [suffix_snoc x p c hx (by omega), Option.bind_some, hw]
    by_cases hc : c = 255
    · subst hc
      obtain ⟨r, hr, hr2⟩ := ih k (x.extract 0 p.length) (by omega) (by omega) (by omega)
      refine ⟨r, ?_, by rw [hx, nextS_snoc_255, hr2, hcut]⟩
      rw [if_pos (by decide), if_pos (by omega), if_pos (by omega)]
      exact hr
    · have hbt : bt x (p.length : Int) = (c.toNat : Int) := by
        unfold bt
        rw [dif_pos (show ((p.length : Nat) : Int).toNat < x.size by omega)]
        have : x[p.length]'(by omega) = c := by
          have h2 : x.data.toList[p.length]'(by rw [dlen]; omega) = c := by simp [hx]
          show x.data[p.length]'_ = c
          simpa using h2
        simpa using congrArg (fun z : UInt8 => (z.toNat : Int)) this
      have hc1 : c.toNat ≠ 255 := fun e => hc (UInt8.toNat.inj e)
      have hc2 := c.toNat_lt
      refine ⟨(x.extract 0 p.length) ++ strOfNums [((c.toNat : Int) + 1) % 256], ?_, ?_⟩
      · rw [if_neg (by simpa using hc), if_neg (by rw [dl, hx]; simp), if_pos (by omega), if_pos (by omega), if_pos (by omega), Option.bind_some, hbt]
        simp only [Int.toNat_natCast]
        rw [if_pos (by rw [hcs, strOfNums_size]; simp; omega)]
      · rw [hx, nextS_snoc hc, ByteArray.data_append, Array.toList_append, hcut, strOfNums_data]
        simp only [Option.getD_some, List.map_cons, List.map_nil]
        congr 2
        apply UInt8.toNat.inj
        rw [u8_toNat_succ hc, UInt8.toNat_ofNat']
        omega

theorem all_l0 (x : ByteArray) (hall : ∀ c ∈ x.data.toList, c = 255) (hs : x.size ≤ 140737488351232) : ∀ (d k i : Nat), x.size - i = d → i ≤ x.size → d < k → bagnallkeep_NextBehind.l0 k x (i : Int) = some true := by
  intro d
  induction d with
  | zero =>
    intro k i hd hi hk
    obtain ⟨k, rfl⟩ : ∃ m, k = m + 1 := ⟨k - 1, by omega⟩
    simp only [bagnallkeep_NextBehind.l0]
    rw [if_neg (by omega)]
  | succ d ih =>
    intro k i hd hi hk
    obtain ⟨k, rfl⟩ : ∃ m, k = m + 1 := ⟨k - 1, by omega⟩
    have hlt : i < x.size := by omega
    have hbt : bt x (i : Int) = 255 := by
      unfold bt
      rw [dif_pos (show ((i : Nat) : Int).toNat < x.size by omega)]
      have h2 : x[i]'hlt = 255 := by
        have h3 : x.data.toList[i]'(by rw [dlen]; omega) = 255 := hall _ (List.getElem_mem _)
        show x.data[i]'_ = 255
        simpa using h3
      simpa using congrArg (fun z : UInt8 => (z.toNat : Int)) h2
    simp only [bagnallkeep_NextBehind.l0]
    rw [if_pos (by omega), if_pos (by omega), hbt, if_pos rfl, w64 (by omega) (by omega)]
    exact ih k (i + 1) (by omega) (by omega) (by omega)

theorem NextBehind : bagnallkeep_NextBehind.Pure := by
  intro h t o hh ht ho
  have hK : h.size + 10 = (h.size + 8) + 2 := rfl
  refine ⟨h.size + 10, ?_⟩
  obtain ⟨n, hn, hn2⟩ := next_l0 h.size (h.size + 10) h rfl hh (by omega)
  obtain ⟨a, ha, ha2⟩ := next_l0 1 (h.size + 9) ⟨#[97]⟩ rfl (by omega) (by omega)
  have hj : ∀ b : Bool, b = preB h.data.toList o.data.toList → bagnallkeep_NextBehind.j0 (h.size + 10) h t o n b = some true := by
    intro b hb
    simp only [bagnallkeep_NextBehind.j0]
    unfold rows_Next.f
    rw [ha, Option.bind_some, if_pos (by rw [dl, ha2]; rfl)]
    cases hS : nextS h.data.toList with
    | none =>
      rw [if_pos (by rw [dl, hn2, hS]; rfl)]
      exact all_l0 h (nextS_none hS) hh h.size (h.size + 9) 0 (by omega) (by omega) (by omega)
    | some m =>
      obtain ⟨h1, h2⟩ := nextS_some hS
      have hm : n.data.toList = m := by rw [hn2, hS]; rfl
      have hmne : m ≠ [] := by
        intro e; have := h1 []; rw [e, List.append_nil] at this; cases hd : h.data.toList <;> simp [hd, Go.Op.bytesLess] at this
      have h2o := h2 o.data.toList
      rw [if_neg (by rw [dl, hm]; exact hmne), if_pos (by omega), if_pos (by rw [dl, dl, hm, ByteArray.data_append, Array.toList_append]; exact h1 _), hb, h2o, dl, dl, dl, hm]
      unfold le
      by_cases e1 : Go.Op.bytesLess h.data.toList o.data.toList = true
      · rw [if_pos e1, e1]; simp
      · rw [if_neg e1]
        by_cases e2 : h.data.toList = o.data.toList
        · rw [if_pos e2, e2]; simp
        · rw [if_neg e2, Bool.eq_false_iff.2 e1, beq_eq_false_iff_ne.2 e2]; rfl
  unfold bagnallkeep_NextBehind.f
  unfold rows_Next.f
  rw [hn, Option.bind_some]
  by_cases hlen : h.size ≤ o.size
  · rw [if_pos (by omega), if_pos (by omega), if_pos (by omega)]
    apply hj
    rw [dl, dl, ext0, Int.toNat_natCast, ← dlen h]
    exact preB_take _ _ (by rw [dlen, dlen]; exact hlen)
  · rw [if_neg (by omega)]
    apply hj
    rw [preB_short _ _ (by rw [dlen, dlen]; omega)]

end Go.Proofs.Ytmfkgbncnaingaa.Pure
