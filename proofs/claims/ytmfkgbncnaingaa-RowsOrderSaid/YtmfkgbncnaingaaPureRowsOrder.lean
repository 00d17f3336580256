/- For every list of numbers and every number, RowsOrder returns true: changes of unlike keys may change places. -/
import Derived.Test.YtmfkgbncnaingaaRowsPe
import Derived.Test.YtmfkgbncnaingaaQRowsx16
namespace Go.Proofs.Ytmfkgbncnaingaa.Pure
open Go.RowKit Go.Proofs.Ytmfkgbncnaingaa.Rows Go.Proofs.Ytmfkgbncnaingaa.QRows Go.Proofs.YtmfkgbncnaingaaW.PrintWords Go.Proofs.YtmfkgbncnaingaaW.PrintLast

/-- No two changes have one key. -/
def Apart (cs : List S67) : Prop := cs.Pairwise fun a b => ¬ a.f0.toList = b.f0.toList
theorem lastOf_apart {cs : List S67} (h : Apart cs) {c : S67} (hc : c ∈ cs) : lastOf cs c.f0.toList = some c := by
  revert h hc
  refine snoc_cases (P := fun cs => Apart cs → c ∈ cs → lastOf cs c.f0.toList = some c) ?_ ?_ cs
  · intro _ h; cases h
  · intro l d ih h hc
    unfold Apart at h
    rw [List.pairwise_append] at h
    rw [lastOf_snoc]
    rcases List.mem_append.1 hc with hm | hm
    · rw [if_neg (fun e => h.2.2 c hm d (by simp) e.symm)]
      exact ih h.1 hm
    · rw [List.mem_singleton.1 hm, if_pos rfl]
theorem lastOf_eq {cs ds : List S67} (h1 : Apart cs) (h2 : Apart ds) (h : ∀ x, x ∈ cs ↔ x ∈ ds) (k : List UInt8) : lastOf cs k = lastOf ds k := by
  cases hc : lastOf cs k with
  | some c =>
    obtain ⟨hm, rfl⟩ := lastOf_key hc
    exact (lastOf_apart h2 ((h c).1 hm)).symm
  | none =>
    cases hd : lastOf ds k with
    | none => rfl
    | some d =>
      obtain ⟨hm, rfl⟩ := lastOf_key hd
      rw [lastOf_apart h1 ((h d).2 hm)] at hc; cases hc

/-- A change that has a fresh key comes to the others. -/
def fresh (cs : List S67) (c : S67) : List S67 := if cs.any (fun y => y.f0.toList == c.f0.toList) then cs else cs ++ [c]
theorem fresh_apart {cs : List S67} (h : Apart cs) (c : S67) : Apart (fresh cs c) := by
  unfold fresh
  split
  · exact h
  · rename_i hn
    unfold Apart at *
    rw [List.pairwise_append]
    refine ⟨h, List.pairwise_singleton _ _, fun a ha b hb e => hn ?_⟩
    rw [List.mem_singleton.1 hb] at e
    rw [List.any_eq_true]
    exact ⟨a, ha, by rw [beq_iff_eq]; exact e⟩
theorem fresh_mem {cs : List S67} {c x : S67} (h : x ∈ fresh cs c) : x ∈ cs ∨ x = c := by
  unfold fresh at h
  split at h
  · exact .inl h
  · rcases List.mem_append.1 h with h | h
    · exact .inl h
    · exact .inr (List.mem_singleton.1 h)
theorem fresh_length (cs : List S67) (c : S67) : (fresh cs c).length ≤ cs.length + 1 := by
  unfold fresh; split <;> simp
theorem freshes (l cs : List S67) (h : Apart cs) : Apart (l.foldl fresh cs) ∧ (∀ x ∈ l.foldl fresh cs, x ∈ cs ∨ x ∈ l) ∧ (l.foldl fresh cs).length ≤ cs.length + l.length := by
  induction l generalizing cs with
  | nil => exact ⟨h, fun x hx => .inl hx, Nat.le_refl _⟩
  | cons c l ih =>
    obtain ⟨h1, h2, h3⟩ := ih (fresh cs c) (fresh_apart h c)
    refine ⟨h1, fun x hx => ?_, ?_⟩
    · rcases h2 x hx with hm | hm
      · rcases fresh_mem hm with hm | rfl
        · exact .inl hm
        · exact .inr List.mem_cons_self
      · exact .inr (List.mem_cons_of_mem _ hm)
    · rw [List.length_cons]
      have := fresh_length cs c
      rw [List.foldl_cons]; omega

theorem w64 {n : Int} (h0 : -9223372036854775808 ≤ n) (h1 : n ≤ 9223372036854775807) : wrap64 n = n := by unfold wrap64; omega

theorem l1_is (x1 : Int) (all cs : List S67) (i : Nat) (hi : i < all.length) (ha : all.length ≤ 1000) (hcl : cs.length ≤ 1000) (m : Nat) : ∀ (d j : Nat), j + d = cs.length →
    bagnallkeep_RowsOrder.l1 (d + 1 + m) x1 all cs (i : Int) (!(cs.take j).any (fun y => y.f0.toList == all[i].f0.toList)) (j : Int) = bagnallkeep_RowsOrder.l0 m x1 all (fresh cs all[i]) ((i + 1 : Nat) : Int) := by
  intro d
  induction d with
  | zero =>
    intro j hj
    rw [show 0 + 1 + m = m + 1 by omega, bagnallkeep_RowsOrder.l1, if_neg (by omega), List.take_of_length_le (by omega), w64 (n := (i : Int) + 1) (by omega) (by omega)]
    unfold fresh
    cases h : cs.any (fun y => y.f0.toList == all[i].f0.toList) with
    | true => rw [Bool.not_true, if_neg (by simp), if_pos rfl]; rfl
    | false =>
      rw [Bool.not_false, if_pos rfl, if_pos (by omega), if_pos (by omega), if_pos (by omega), rd_T67_get all i hi, if_neg (by simp)]
      rfl
  | succ d ih =>
    intro j hj
    have hj' : j < cs.length := by omega
    have hn := ih (j + 1) (by omega)
    have hs : cs.take (j + 1) = cs.take j ++ [cs[j]] := List.take_succ_eq_append_getElem hj'
    rw [hs, List.any_append, List.any_cons, List.any_nil, Bool.or_false] at hn
    rw [show d + 1 + 1 + m = d + 1 + m + 1 by omega, bagnallkeep_RowsOrder.l1, if_pos (by omega), w64 (n := (j : Int) + 1) (by omega) (by omega)]
    cases h : (cs.take j).any (fun y => y.f0.toList == all[i].f0.toList) with
    | true =>
      rw [h] at hn
      rw [Bool.not_true, if_neg (by simp)]
      rw [Bool.true_or, Bool.not_true] at hn
      exact hn
    | false =>
      rw [h, Bool.false_or] at hn
      rw [Bool.not_false, if_pos rfl, if_pos (by omega), if_pos (by omega), if_pos (by omega), rd_T67_get all i hi, rd_T67_get cs j hj']
      exact hn

theorem l0_is (x1 : Int) (all : List S67) (ha : all.length ≤ 100) : ∀ (d i : Nat), i + d = all.length → ∀ cs : List S67, cs.length ≤ i →
    (∃ k, bagnallkeep_RowsOrder.l2 k x1 ((all.drop i).foldl fresh cs) [] 0 = some true) → ∃ k, bagnallkeep_RowsOrder.l0 k x1 all cs (i : Int) = some true := by
  intro d
  induction d with
  | zero =>
    intro i hi cs _ ⟨k, h⟩
    rw [List.drop_of_length_le (by omega)] at h
    refine ⟨k + 1, ?_⟩
    rw [bagnallkeep_RowsOrder.l0, if_neg (by omega)]
    exact h
  | succ d ih =>
    intro i hi cs hcl ⟨k, h⟩
    have hi' : i < all.length := by omega
    rw [List.drop_eq_getElem_cons hi', List.foldl_cons] at h
    obtain ⟨m, hm⟩ := ih (i + 1) (by omega) (fresh cs all[i]) (by have := fresh_length cs all[i]; omega) ⟨k, h⟩
    refine ⟨cs.length + 1 + m + 1, ?_⟩
    rw [bagnallkeep_RowsOrder.l0, if_pos (by omega)]
    have := l1_is x1 all cs i hi' (by omega) (by omega) m cs.length 0 (by omega)
    rw [List.take_zero] at this
    exact this.trans hm

/-- The changes the other way round, and turned. -/
def turned (cs : List S67) (p : Nat) : Nat → List S67
  | 0 => []
  | i + 1 => (if h : (i + p) % cs.length < cs.length then [cs[(i + p) % cs.length]] else []) ++ turned cs p i
theorem turned_length (cs : List S67) (p : Nat) : ∀ i, (turned cs p i).length ≤ i
  | 0 => Nat.le_refl _
  | i + 1 => by
    have := turned_length cs p i
    unfold turned
    rw [List.length_append]
    split
    · rw [List.length_singleton]; omega
    · rw [List.length_nil]; omega
theorem turned_mem (cs : List S67) (p : Nat) (h0 : 0 < cs.length) (x : S67) : ∀ i, x ∈ turned cs p i ↔ ∃ j, j < i ∧ ∃ h : (j + p) % cs.length < cs.length, x = cs[(j + p) % cs.length]
  | 0 => ⟨fun h => (by cases h), fun ⟨j, hj, _⟩ => (by omega)⟩
  | i + 1 => by
    have ih := turned_mem cs p h0 x i
    have hlt := Nat.mod_lt (i + p) h0
    unfold turned
    rw [dif_pos hlt, List.mem_append, List.mem_singleton, ih]
    constructor
    · rintro (h | ⟨j, hj, h⟩)
      · exact ⟨i, by omega, hlt, h⟩
      · exact ⟨j, by omega, h⟩
    · rintro ⟨j, hj, h, e⟩
      by_cases hji : j = i
      · subst hji; exact .inl e
      · exact .inr ⟨j, by omega, h, e⟩
theorem mod_inj {n p a b : Nat} (ha : a < n) (hb : b < n) (h : (a + p) % n = (b + p) % n) : a = b := by
  have h1 := Nat.div_add_mod (a + p) n
  have h2 := Nat.div_add_mod (b + p) n
  rw [h] at h1
  have h3 : (a + p) / n = (b + p) / n ∨ (a + p) / n < (b + p) / n ∨ (b + p) / n < (a + p) / n := by omega
  rcases h3 with h3 | h3 | h3
  · rw [h3] at h1; omega
  · have h4 : n * ((a + p) / n + 1) ≤ n * ((b + p) / n) := Nat.mul_le_mul_left n h3
    rw [Nat.mul_succ] at h4; omega
  · have h4 : n * ((b + p) / n + 1) ≤ n * ((a + p) / n) := Nat.mul_le_mul_left n h3
    rw [Nat.mul_succ] at h4; omega
theorem turned_apart (cs : List S67) (p : Nat) (h0 : 0 < cs.length) (h : Apart cs) : ∀ i, i ≤ cs.length → Apart (turned cs p i)
  | 0, _ => List.Pairwise.nil
  | i + 1, hi => by
    have ih := turned_apart cs p h0 h i (by omega)
    have hlt := Nat.mod_lt (i + p) h0
    unfold turned Apart
    rw [dif_pos hlt, List.singleton_append, List.pairwise_cons]
    refine ⟨fun b hb e => ?_, ih⟩
    obtain ⟨j, hj, hjl, rfl⟩ := (turned_mem cs p h0 b i).1 hb
    have hp := List.pairwise_iff_getElem.1 h
    rcases Nat.lt_trichotomy ((i + p) % cs.length) ((j + p) % cs.length) with hl | hl | hl
    · exact hp _ _ hlt hjl hl e
    · have := mod_inj (n := cs.length) (by omega) (by omega) hl; omega
    · exact hp _ _ hjl hlt hl e.symm
theorem turned_all (cs : List S67) (p : Nat) (h0 : 0 < cs.length) (x : S67) : x ∈ cs ↔ x ∈ turned cs p cs.length := by
  rw [turned_mem cs p h0]
  constructor
  · intro hx
    obtain ⟨i, hi, rfl⟩ := List.getElem_of_mem hx
    -- j with (j + p) % n = i
    have hpm := Nat.mod_lt p h0
    have e1 := Nat.div_add_mod p cs.length
    by_cases hc : p % cs.length ≤ i
    · refine ⟨i - p % cs.length, by omega, Nat.mod_lt _ h0, ?_⟩
      congr 1
      have : i - p % cs.length + p = i + cs.length * (p / cs.length) := by omega
      rw [this, Nat.add_mul_mod_self_left, Nat.mod_eq_of_lt hi]
    · refine ⟨i + cs.length - p % cs.length, by omega, Nat.mod_lt _ h0, ?_⟩
      congr 1
      have : i + cs.length - p % cs.length + p = i + cs.length * (p / cs.length + 1) := by rw [Nat.mul_succ]; omega
      rw [this, Nat.add_mul_mod_self_left, Nat.mod_eq_of_lt hi]
  · rintro ⟨j, _, h, rfl⟩
    exact List.getElem_mem h

theorem l2_is (x1 : Int) (cs : List S67) (hl : cs.length ≤ 100) (p : Nat) (hp : 0 < cs.length → bagnallkeep_Picked.f x1 (cs.length : Int) = some (p : Int) ∧ p < cs.length) : ∀ (d i : Nat), i + d = cs.length →
    (∃ k, bagnallkeep_RowsOrder.l2 k x1 cs (turned cs p cs.length) (cs.length : Int) = some true) → ∃ k, bagnallkeep_RowsOrder.l2 k x1 cs (turned cs p i) (i : Int) = some true := by
  intro d
  induction d with
  | zero =>
    intro i hi h
    obtain rfl : i = cs.length := by omega
    exact h
  | succ d ih =>
    intro i hi h
    obtain ⟨m, hm⟩ := ih (i + 1) (by omega) h
    obtain ⟨hp1, hp2⟩ := hp (by omega)
    have hlt := Nat.mod_lt (i + p) (show 0 < cs.length by omega)
    have htl := turned_length cs p i
    refine ⟨m + 1, ?_⟩
    rw [bagnallkeep_RowsOrder.l2, if_pos (by omega), hp1, Option.bind_some, if_neg (by omega), w64 (n := (i : Int) + (p : Int)) (by omega) (by omega), w64 (n := (i : Int) + 1) (by omega) (by omega),
      show Int.tmod ((i : Int) + (p : Int)) (cs.length : Int) = (((i + p) % cs.length : Nat) : Int) by rw [← Int.natCast_add]; rfl, if_pos (by omega), if_pos (by omega), rd_T67_get cs _ hlt, Option.bind_some, if_pos (by rw [List.length_singleton]; omega)]
    unfold turned at hm
    rw [dif_pos hlt] at hm
    exact hm

theorem RowsOrder : bagnallkeep_RowsOrder.Pure := by
  intro l n _ _ _ _
  have hc := changes_small l 40
  have hk := changes_keys l 40
  have hn : (changesOf l 40).length ≤ 40 := changes_length l 40
  generalize hall : changesOf l 40 = all at *
  have hS : Sorted ([] : List S67) := List.Pairwise.nil
  have h8 : keys8.length = 8 := rfl
  obtain ⟨a1, a2, a3⟩ := freshes all [] (show Apart [] from List.Pairwise.nil)
  have a2' : ∀ x ∈ all.foldl fresh [], x ∈ all := fun x hx => (a2 x hx).resolve_left (by simp)
  have a3' : (all.foldl fresh []).length ≤ 40 := by simpa using Nat.le_trans a3 (by simpa using hn)
  suffices hsuf : ∃ k, bagnallkeep_RowsOrder.l2 k n (all.foldl fresh []) [] 0 = some true by
    obtain ⟨k, h⟩ := l0_is n all (by omega) all.length 0 (by omega) [] (by simp) (by rw [List.drop_zero]; exact hsuf)
    refine ⟨k, ?_⟩
    unfold bagnallkeep_RowsOrder.f
    rw [Changes_is l 40 (by omega), hall, Option.bind_some]
    exact h
  generalize hcs : all.foldl fresh [] = cs at *
  have hsm : ∀ c ∈ cs, Small c := fun c h => hc c (a2' c h)
  have hks : ∀ c ∈ cs, c.f0.toList ∈ keys8 := fun c h => hk c (a2' c h)
  have hpp : 0 < cs.length → bagnallkeep_Picked.f n (cs.length : Int) = some ((pickN n cs.length : Nat) : Int) ∧ pickN n cs.length < cs.length := fun h => ⟨Picked_is n cs.length h (by omega), pickN_lt n cs.length h⟩
  generalize pickN n cs.length = p at *
  have hto : ∀ x, x ∈ cs ↔ x ∈ turned cs p cs.length := fun x => by
    by_cases h0 : 0 < cs.length
    · exact turned_all cs p h0 x
    · have : cs = [] := List.eq_nil_of_length_eq_zero (by omega)
      subst this
      exact Iff.rfl
  have hta : Apart (turned cs p cs.length) := by
    by_cases h0 : 0 < cs.length
    · exact turned_apart cs p h0 a1 cs.length (Nat.le_refl _)
    · have : cs = [] := List.eq_nil_of_length_eq_zero (by omega)
      subst this
      exact List.Pairwise.nil
  have htl := turned_length cs p cs.length
  refine l2_is n cs (by omega) p hpp cs.length 0 (by omega) ⟨1000, ?_⟩
  generalize turned cs p cs.length = ds at *
  have hds : ∀ c ∈ ds, Small c := fun c h => hsm c ((hto c).2 h)
  have hdk : ∀ c ∈ ds, c.f0.toList ∈ keys8 := fun c h => hks c ((hto c).2 h)
  have hB := Good.nil.changed (changes_small [8, 9, 10, 11, 12] 5) (changes_few [8, 9, 10, 11, 12] 5)
  have hBk : ∀ x ∈ changed [] (changesOf [8, 9, 10, 11, 12] 5), x.f0.toList ∈ keys8 := fun x hx => by
    rw [changed_mem [] hS] at hx
    unfold Stands at hx
    cases hl : lastOf (changesOf [8, 9, 10, 11, 12] 5) x.f0.toList with
    | none => rw [hl] at hx; cases hx
    | some c => rw [hl] at hx; rw [hx.1]; exact changes_keys _ _ c (lastOf_key hl).1
  have hrow := rowsOf_ok (m := 999) (changes_small [8, 9, 10, 11, 12] 5) (by have : (changesOf [8, 9, 10, 11, 12] 5).length ≤ 5 := changes_length _ _; omega) (changes_few [8, 9, 10, 11, 12] 5) (by omega)
  have hch := Changes_is [8, 9, 10, 11, 12] 5 (by omega)
  generalize changed [] (changesOf [8, 9, 10, 11, 12] 5) = base at *
  have h1 := changed_few keys8 hks hB.sorted hBk
  have h2 := changed_few keys8 hdk hB.sorted hBk
  have heq : changed base cs = changed base ds := changed_same base cs ds hB.sorted (lastOf_eq a1 hta hto)
  have hbr := hB.room
  rw [show (1000 : Nat) = 999 + 1 by rfl, bagnallkeep_RowsOrder.l2, if_neg (by omega), hch, Option.bind_some, hrow, Option.bind_some]
  dsimp only
  rw [copied_is _ (by omega), Option.bind_some, copied_is _ (by omega), Option.bind_some, set_ok hB hsm (by omega) (by omega) (by omega), Option.bind_some, Option.bind_some, copied_is _ (by omega), Option.bind_some, set_ok hB hds (by omega) (by omega) (by omega), Option.bind_some]
  dsimp only
  rw [if_pos rfl, if_pos rfl, if_pos rfl, heq, same_ok _ (by omega) (by omega)]
  rfl

end Go.Proofs.Ytmfkgbncnaingaa.Pure
