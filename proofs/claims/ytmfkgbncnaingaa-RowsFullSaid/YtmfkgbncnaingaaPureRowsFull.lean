/- For all numbers, RowsFull returns true: no more rows than there is room for. No condition. -/
import Derived.Test.YtmfkgbncnaingaaQRowsx17
namespace Go.Proofs.Ytmfkgbncnaingaa.Pure
open Go.RowKit Go.Proofs.Ytmfkgbncnaingaa.QRows Go.Proofs.Ytmfkgbncnaingaa.Rows Go.Proofs.YtmfkgbncnaingaaW.PrintWords Go.Proofs.YtmfkgbncnaingaaW.PrintLast Go.Proofs.YtmfkgbncnaingaaW.PrintMore

/-- The fresh row of a number. -/
def fresh (i : Nat) : S67 := ⟨(⟨#[107]⟩ : ByteArray) ++ (strOfNums [(wrap64 ((i : Int) + 33)) % 256]), (⟨#[118]⟩ : ByteArray)⟩
theorem fresh_data : ∀ i : Nat, i < 60 → (fresh i).f0.data.toList = [107, (i + 33).toUInt8] ∧ (1 : Int) + (strOfNums [(wrap64 ((i : Int) + 33)) % 256]).size ≤ 9223372036854775807 := by decide +kernel
theorem fresh_list {i : Nat} (h : i < 60) : (fresh i).f0.toList = [107, (i + 33).toUInt8] := by rw [ByteArray.toList_eq]; exact (fresh_data i h).1
theorem fresh_size {i : Nat} (h : i < 60) : (fresh i).f0.size = 2 := by
  have h1 : (fresh i).f0.data.toList.length = 2 := by rw [(fresh_data i h).1]; rfl
  show (fresh i).f0.data.size = 2
  rw [← Array.length_toList]; exact h1
theorem one_list : (⟨#[118]⟩ : ByteArray).toList = [118] := by rw [ByteArray.toList_eq]
theorem fresh_less : ∀ b : Nat, b < 60 → ∀ a : Nat, a < b → Op.bytesLess [107, (a + 33).toUInt8] [107, (b + 33).toUInt8] = true := by decide +kernel
theorem fresh_cmp {a b : Nat} (h : a < b) (hb : b < 60) : cmpOf (fresh a).f0 (fresh b).f0 = -1 := by
  unfold cmpOf; rw [fresh_list (by omega), fresh_list hb, if_pos (fresh_less b hb a h)]
theorem fresh_odd {i : Nat} (h : i < 60) : odd (fresh i) = false := by
  unfold odd keyOk
  rw [fresh_list h, if_neg (by simp), fresh_size h]
  show (!decide (((2 : Nat) : Int) ≤ 20) || decide (((⟨#[118]⟩ : ByteArray).size : Int) > 20)) = false
  decide +kernel
/-- The search behind all. -/
theorem bs_all (xs : List S67) (t : ByteArray) : ∀ (d i j : Nat), j - i ≤ d → i ≤ j → (∀ h, h < j → cmpOf (rd_T67 xs (h : Int)).f0 t < 0) → bs xs t i j = j := by
  intro d
  induction d with
  | zero => intro i j h1 h2 _; rw [bs, if_neg (by omega)]; omega
  | succ d ih =>
    intro i j h1 h2 hc
    rw [bs]
    by_cases h : i < j
    · rw [if_pos h, if_pos (hc _ (by omega))]
      exact ih _ _ (by omega) (by omega) hc
    · rw [if_neg h]; omega
theorem found_all (xs : List S67) (t : ByteArray) (hc : ∀ h, h < xs.length → cmpOf (rd_T67 xs (h : Int)).f0 t < 0) : found xs t = (xs.length, false) := by
  unfold found
  rw [bs_all xs t xs.length 0 xs.length (by omega) (by omega) hc, decide_eq_false (by omega), Bool.false_and]
def freshes (n : Nat) : List S67 := (List.range n).map fresh
theorem freshes_succ (n : Nat) : freshes (n + 1) = freshes n ++ [fresh n] := by unfold freshes; rw [List.range_succ, List.map_append]; rfl
theorem freshes_length (n : Nat) : (freshes n).length = n := by simp [freshes]
theorem freshes_changed : ∀ n, n ≤ 60 → changed [] (freshes n) = freshes n := by
  intro n
  induction n with
  | zero => intro _; rfl
  | succ n ih =>
    intro hn
    rw [freshes_succ]
    unfold changed at ih ⊢
    rw [List.foldl_append, ih (by omega)]
    show change (freshes n) (fresh n) = _
    have hf : found (freshes n) (fresh n).f0 = (n, false) := by
      have h := found_all (freshes n) (fresh n).f0 (fun h hh => by
        rw [freshes_length] at hh
        have e : rd_T67 (freshes n) (h : Int) = fresh h := by simp [rd_T67, freshes, List.getD_eq_getElem?_getD, hh]
        rw [e, fresh_cmp hh (by omega)]; decide)
      rw [h, freshes_length]
    unfold change
    rw [hf, if_neg (by simp), show (fresh n).f1.toList = [118] from one_list, if_neg (by simp)]
    have hl := freshes_length n
    rw [List.take_of_length_le (by omega), List.drop_of_length_le (by omega)]
theorem freshes_odd : ∀ n, n ≤ 60 → (freshes n).any odd = false := by
  intro n hn
  rw [List.any_eq_false]
  intro x hx
  unfold freshes at hx
  obtain ⟨i, hi, rfl⟩ := List.mem_map.1 hx
  rw [fresh_odd (by have := List.mem_range.1 hi; omega)]; simp
theorem set_fresh (n : Nat) (hn : n ≤ 60) (m : Nat) : rows_Set.f (m + 1) [] (freshes n) = some (if 40 < n then ([], 10) else (freshes n, 0)) := by
  have hl := freshes_length n
  unfold rows_Set.f rows_Check.f
  rw [if_neg (by decide), rows_Check.l0, if_neg (by decide), Option.bind_some, if_pos rfl]
  unfold rows_Fault.f
  rw [if_pos ⟨by decide, by omega⟩, Option.bind_some]
  have hF : faultOf [] (freshes n) = if 40 < n then 10 else 0 := by
    unfold faultOf
    rw [if_neg (by omega), freshes_odd n hn, if_neg (by simp), freshes_changed n hn, hl]
  rw [hF]
  by_cases h : 40 < n
  · rw [if_pos h, if_neg (by decide), if_pos h]
  · rw [if_neg h, if_pos rfl, if_neg h]
    unfold rows_Changed.f
    rw [if_pos ⟨by decide, by omega⟩, Option.bind_some, freshes_changed n hn]
theorem full_loop (n : Nat) (hn : n < 60) : ∀ (d i : Nat), i + d = n → bagnallkeep_RowsFull.l0 (d + 2) (n : Int) (freshes i) (i : Int) = some true := by
  intro d
  induction d with
  | zero =>
    intro i hi
    obtain rfl : i = n := by omega
    rw [bagnallkeep_RowsFull.l0, if_neg (by omega), set_fresh i (by omega) 0, Option.bind_some]
    have hl := freshes_length i
    by_cases h : 40 < i
    · rw [if_pos (by omega), if_pos h, if_pos rfl]; rfl
    · rw [if_neg (by omega), if_neg h, if_pos rfl]
      dsimp only
      rw [hl]; simp
  | succ d ih =>
    intro i hi
    have hl := freshes_length i
    rw [bagnallkeep_RowsFull.l0, if_pos (by omega), Option.bind_some, if_pos (by have := (fresh_data i (by omega)).2; omega), if_pos (by omega), show wrap64 ((i : Int) + 1) = ((i + 1 : Nat) : Int) by unfold wrap64; omega]
    have h := ih (i + 1) (by omega)
    rw [freshes_succ] at h
    exact h
theorem full_pick (a : Int) : bagnallkeep_Picked.f a 60 = some (a % 60) := by
  unfold bagnallkeep_Picked.f
  have hr0 := Int.emod_nonneg a (show (60 : Int) ≠ 0 by omega)
  have hr1 := Int.emod_lt_of_pos a (show (0 : Int) < 60 by omega)
  have ht := Int.tmod_eq_emod (a := a) (b := 60)
  rw [if_neg (by decide)]
  by_cases hc : 0 ≤ a ∨ (60 : Int) ∣ a
  · rw [if_pos hc] at ht
    rw [if_neg (by omega)]; congr 1; omega
  · rw [if_neg hc] at ht
    by_cases h : Int.tmod a 60 < 0
    · rw [if_pos h]; congr 1; unfold wrap64; omega
    · rw [if_neg h]; congr 1; omega

theorem RowsFull : bagnallkeep_RowsFull.Pure := by
  intro a0 _
  have hr0 := Int.emod_nonneg a0 (show (60 : Int) ≠ 0 by omega)
  have hr1 := Int.emod_lt_of_pos a0 (show (0 : Int) < 60 by omega)
  have h := full_loop (a0 % 60).toNat (by omega) (a0 % 60).toNat 0 (by omega)
  rw [Int.toNat_of_nonneg hr0] at h
  refine ⟨(a0 % 60).toNat + 2, ?_⟩
  unfold bagnallkeep_RowsFull.f
  rw [full_pick, Option.bind_some]
  exact h

end Go.Proofs.Ytmfkgbncnaingaa.Pure
