/- ValueOf in plain words: what it makes may be, and is small. -/
import Derived.Test.YtmhfkbgdkgfafaaGreatDoorVoA
namespace Go.Proofs.YtmhfkbgdkgfafaaGreatDoor.Js
open Go.RowKit Go.Proofs.YtmhfkbgdkgfafaaGreatDoor.QJson Go.Proofs.YtmhfkbgdkgfafaaGreatDoorW.PrintWords Go.Proofs.YtmhfkbgdkgfafaaGreatDoorW.PrintLast Go.Proofs.YtmhfkbgdkgfafaaGreatDoorW.PrintMore
set_option linter.unusedVariables false
set_option linter.unusedSimpArgs false

theorem picked (a n : Int) (h0 : 0 < n) (h1 : n ≤ 1000000) : bagnallkeep_Picked.f a n = some (a % n) := by
  unfold bagnallkeep_Picked.f
  rw [if_neg (by omega)]
  have hr0 := Int.emod_nonneg a (show n ≠ 0 by omega)
  have hr1 := Int.emod_lt_of_pos a h0
  have ht := Int.tmod_eq_emod (a := a) (b := n)
  by_cases hc : 0 ≤ a ∨ n ∣ a
  · rw [if_pos hc] at ht
    rw [if_neg (by omega), ht]
    congr 1; omega
  · rw [if_neg hc] at ht
    rw [if_pos (by omega), show wrap64 (Int.tmod a n + n) = Int.tmod a n + n by unfold wrap64; omega, ht]
    congr 1; omega
theorem join_bound (B : Nat) (xs : List (List UInt8)) (h : ∀ x ∈ xs, x.length ≤ B) : (Lib.join xs [44]).length ≤ xs.length * (B + 1) := by
  induction xs with
  | nil => simp [Lib.join_nil]
  | cons y ys ih =>
    have hy := h y (List.mem_cons_self ..)
    have ih := ih (fun x hx => h x (List.mem_cons_of_mem _ hx))
    rw [List.length_cons, Nat.add_mul, Nat.one_mul]
    cases ys with
    | nil => rw [Lib.join_one]; omega
    | cons z zs =>
      have he : Lib.join (y :: z :: zs) [44] = y ++ [44] ++ Lib.join (z :: zs) [44] := by
        simp [Lib.join, List.intercalate, List.intersperse]
      rw [he]
      simp only [List.length_append, List.length_cons, List.length_nil] at ih ⊢
      omega

/-- Its plain values and its keys are short. -/
inductive Tame : S26 → Prop
  | mk {v : S26} (lf : v.f0 ≠ 6 → v.f0 ≠ 7 → (vt v).length ≤ 160) (kk : ∀ k ∈ v.f3, (quote k.data.toList).length ≤ 6) (ps : ∀ p ∈ v.f4, Tame p) : Tame v
theorem Tame.leaf {v : S26} (h : Tame v) (h6 : v.f0 ≠ 6) (h7 : v.f0 ≠ 7) : (vt v).length ≤ 160 := by cases h with | mk lf _ _ => exact lf h6 h7
theorem Tame.key {v : S26} (h : Tame v) : ∀ k ∈ v.f3, (quote k.data.toList).length ≤ 6 := by cases h with | mk _ kk _ => exact kk
theorem Tame.part {v p : S26} (h : Tame v) (hp : p ∈ v.f4) : Tame p := by cases h with | mk _ _ ps => exact ps p hp
/-- A value that may be, so deep at most, and small. -/
structure Fine (d : Nat) (v : S26) : Prop where
  wf : WF d v
  cn : cnt v ≤ 4 ^ d
  tx : (vt v).length ≤ 40 * 4 ^ d
  tm : Tame v
def keys4 : List ByteArray := [⟨#[97]⟩, ⟨#[98, 34]⟩, ⟨#[107, 101, 121]⟩, ⟨#[122]⟩]
theorem keys4_asc (i : Nat) : Ascs (keys4.take i) := by
  intro j h
  rw [List.length_take] at h
  have hj : j + 1 < 4 := by have : keys4.length = 4 := rfl; omega
  rw [List.getElem_take, List.getElem_take]
  have hall : ∀ j : Fin 3, Op.bytesLess ((keys4.getD j.val ⟨#[]⟩).toList) ((keys4.getD (j.val + 1) ⟨#[]⟩).toList) = true := by decide +kernel
  have := hall ⟨j, by omega⟩
  have e1 : keys4.getD j ⟨#[]⟩ = keys4[j]'(by show j < 4; omega) := by simp [List.getD_eq_getElem?_getD, show j < keys4.length from (by show j < 4; omega)]
  have e2 : keys4.getD (j + 1) ⟨#[]⟩ = keys4[j + 1]'(by show j + 1 < 4; omega) := by simp [List.getD_eq_getElem?_getD, show j + 1 < keys4.length from (by show j + 1 < 4; omega)]
  rw [e1, e2] at this
  exact this
theorem keys4_text : ∀ k ∈ keys4, (quote k.data.toList).length ≤ 6 := by
  intro k hk
  have : keys4.all (fun k => decide ((quote k.data.toList).length ≤ 6)) = true := by decide +kernel
  exact of_decide_eq_true (List.all_eq_true.1 this k hk)
theorem leaf_fine (d : Nat) (hd : 1 ≤ d) (k n : Int) (t : ByteArray) (k1 : 1 ≤ k) (k5 : k ≤ 5) (n0 : -1000000 < n) (n1 : n < 1000000) (hp : plainB k n t 0 0 = true) (ht : k = 5 → (quote t.data.toList).length ≤ 100) : Fine d ⟨k, n, t, [], []⟩ := by
  obtain ⟨e, rfl⟩ : ∃ e, d = e + 1 := ⟨d - 1, by omega⟩
  have h4 : 4 ≤ 4 ^ (e + 1) := by rw [Nat.pow_succ]; have := Nat.one_le_pow e 4 (by decide); omega
  have hlen : (vt ⟨k, n, t, [], []⟩).length ≤ 160 := by
    rw [vt]
    have h5 := itoa_length n (by omega) (by omega)
    split
    · simp only [List.length_cons, List.length_nil]; omega
    split
    · simp only [List.length_cons, List.length_nil]; omega
    split
    · omega
    split
    · rename_i h; have := ht h; omega
    split
    · omega
    split
    · omega
    · simp only [List.length_cons, List.length_nil]; omega
  refine ⟨.mk k1 (by show k ≤ 7; omega) hp (fun h => absurd h (by show k ≠ 7; omega)) (by show _ < n; omega) (by show n < _; omega) (fun i h => absurd h (by simp)) (fun p hp => by cases hp), by rw [cnt_eq]; show 1 + 0 ≤ _; omega, by omega, .mk (fun _ _ => hlen) (fun k hk => by cases hk) (fun p hp => by cases hp)⟩
theorem rowEnd (e : Nat) (kd : Int) (hkd : kd = 6 ∨ kd = 7) (ks : List ByteArray) (ps : List S26) (hl : ps.length ≤ 3) (hk7 : kd = 7 → ks = keys4.take ps.length) (hk6 : kd = 6 → ks = []) (hp : ∀ p ∈ ps, Fine e p) : Fine (e + 1) ⟨kd, 0, ⟨#[]⟩, ks, ps⟩ := by
  have hkl : kd = 7 → ks.length = ps.length := fun h => by rw [hk7 h, List.length_take]; show min _ 4 = _; omega
  have hasc : Ascs ks := by
    rcases hkd with h | h
    · rw [hk6 h]; exact fun i h => absurd h (by simp)
    · rw [hk7 h]; exact keys4_asc _
  have hc : cnts ps ≤ ps.length * 4 ^ e := by
    clear hk7 hk6 hkl hl
    induction ps with
    | nil => simp [cnts]
    | cons p ps ih =>
      have h1 := (hp p (List.mem_cons_self ..)).cn
      have h2 := ih (fun q hq => hp q (List.mem_cons_of_mem _ hq))
      rw [cnts, List.length_cons, Nat.add_mul, Nat.one_mul]; omega
  have h4 := Nat.one_le_pow e 4 (by decide)
  have hpl : plainB kd 0 ⟨#[]⟩ ks.length ps.length = true := by
    have he : (⟨#[]⟩ : ByteArray).toList.isEmpty = true := by decide +kernel
    rcases hkd with h | h
    · rw [hk6 h, h]; unfold plainB; rw [he]; simp
    · rw [h]; unfold plainB; rw [he]; simp
  have hjoin : (Lib.join (vts kd ks ps) [44]).length ≤ ps.length * (40 * 4 ^ e + 7 + 1) := by
    have h := join_bound (40 * 4 ^ e + 7) (vts kd ks ps) (fun x hx => by
      obtain ⟨i, hi⟩ := List.getElem?_of_mem hx
      have hil : i < ps.length := by
        have := (List.getElem?_eq_some_iff.1 hi).1
        rw [vts_length] at this; exact this
      rw [vts_get kd ps ks i hil] at hi
      rw [← Option.some.inj hi]
      have h1 := (hp _ (List.getElem_mem hil)).tx
      unfold item
      split
      · rename_i h7
        have hm : ks.getD i ⟨#[]⟩ ∈ keys4 := by
          have h2 : i < ks.length := by rw [hkl h7]; exact hil
          rw [List.getD_eq_getElem?_getD, List.getElem?_eq_getElem h2, Option.getD_some]
          have h5 : ks[i] ∈ keys4.take ps.length := by
            have h6 := List.getElem_mem h2
            have h8 : ∀ x ∈ ks, x ∈ keys4.take ps.length := fun x hx => by rw [hk7 h7] at hx; exact hx
            exact h8 _ h6
          exact List.mem_of_mem_take h5
        have h4 := keys4_text _ hm
        simp only [List.length_append, List.length_cons]; omega
      · omega)
    rw [vts_length] at h
    exact h
  have hmul : ps.length * (40 * 4 ^ e + 7 + 1) ≤ 3 * (40 * 4 ^ e + 7 + 1) := Nat.mul_le_mul_right _ hl
  have hmul2 : ps.length * 4 ^ e ≤ 3 * 4 ^ e := Nat.mul_le_mul_right _ hl
  refine ⟨.mk (by show 1 ≤ kd; omega) (by show kd ≤ 7; omega) hpl hkl (by show _ < (0 : Int); decide) (by show (0 : Int) < _; decide) hasc (fun p hq => (hp p hq).wf), by rw [cnt_eq, Nat.pow_succ]; show 1 + cnts ps ≤ _; omega, ?_, .mk (fun h6 h7 => absurd hkd (fun h => h.elim h6 h7)) (fun k hk => ?_) (fun p hq => (hp p hq).tm)⟩
  rotate_left
  · rcases hkd with h | h
    · rw [hk6 h] at hk; cases hk
    · rw [hk7 h] at hk; exact keys4_text _ (List.mem_of_mem_take hk)
  rw [Nat.pow_succ]
  rcases hkd with rfl | rfl
  · rw [vt, if_neg (by decide), if_neg (by decide), if_neg (by decide), if_neg (by decide), if_pos rfl]
    simp only [List.length_cons, List.length_append, List.length_nil]; omega
  · rw [vt, if_neg (by decide), if_neg (by decide), if_neg (by decide), if_neg (by decide), if_neg (by decide), if_pos rfl]
    simp only [List.length_cons, List.length_append, List.length_nil]; omega

/-- So it is of ValueOf at a depth. -/
def Made (e : Nat) : Prop := ∀ (l : List Int) (m : Nat), 10 * e ≤ m → ∃ r1 r2 r3 r4 r5 r6, bagnallkeep_ValueOf.f m l (e : Int) = some (r1, r2, r3, r4, r5, r6) ∧ Fine e ⟨r1, r2, r3, r4, r5⟩
theorem vo_loop (e : Nat) (he : e ≤ 5) (IH : Made e) (x : Int) (kd : Int) (hkd : kd = 6 ∨ kd = 7) :
    ∀ (q i m : Nat) (l : List Int) (ks : List ByteArray) (ps : List S26), i + q = 3 → 10 * e + q + 1 ≤ m → ps.length = i → (kd = 7 → ks = keys4.take ps.length) → (kd = 6 → ks = []) → (∀ p ∈ ps, Fine e p) →
    ∃ ks' ps' l', bagnallkeep_ValueOf.l0 m l ((e + 1 : Nat) : Int) x (i : Int) kd 0 ⟨#[]⟩ ks ps = some (kd, 0, ⟨#[]⟩, ks', ps', l') ∧ Fine (e + 1) ⟨kd, 0, ⟨#[]⟩, ks', ps'⟩ := by
  intro q
  induction q with
  | zero =>
    intro i m l ks ps hi hm hl h7 h6 hp
    obtain ⟨m, rfl⟩ : ∃ z, m = z + 1 := ⟨m - 1, by omega⟩
    rw [bagnallkeep_ValueOf.l0, picked _ 4 (by decide) (by decide), Option.bind_some, if_neg (by omega)]
    exact ⟨ks, ps, l, rfl, rowEnd e kd hkd ks ps (by omega) h7 h6 hp⟩
  | succ q ih =>
    intro i m l ks ps hi hm hl h7 h6 hp
    obtain ⟨m, rfl⟩ : ∃ z, m = z + 1 := ⟨m - 1, by omega⟩
    rw [bagnallkeep_ValueOf.l0, picked _ 4 (by decide) (by decide), Option.bind_some]
    by_cases hlt : (i : Int) < wrap64 (Int.tdiv x 9) % 4
    · obtain ⟨r1, r2, r3, r4, r5, r6, hf, hr⟩ := IH l m (by omega)
      have hw : wrap64 (((e + 1 : Nat) : Int) - 1) = (e : Int) := by unfold wrap64; omega
      have hwi : wrap64 ((i : Int) + 1) = ((i + 1 : Nat) : Int) := by unfold wrap64; omega
      rw [if_pos hlt, hw, hf, Option.bind_some, if_pos (by omega), Option.bind_some]
      have hp' : ∀ p ∈ ps ++ [(⟨r1, r2, r3, r4, r5⟩ : S26)], Fine e p := fun p hq => by
        rcases List.mem_append.1 hq with hq | hq
        · exact hp p hq
        · rw [List.mem_singleton.1 hq]; exact hr
      have hl' : (ps ++ [(⟨r1, r2, r3, r4, r5⟩ : S26)]).length = i + 1 := by rw [List.length_append, hl]; rfl
      rcases hkd with h | h
      · subst h
        rw [if_neg (by decide), hwi]
        exact ih (i + 1) m r6 ks _ (by omega) (by omega) hl' (fun h => by cases h) h6 hp'
      · subst h
        have hks := h7 rfl
        have hkl : ks.length = i := by rw [hks, List.length_take, hl]; show min _ 4 = _; omega
        rw [if_pos rfl, Option.bind_some, if_pos (by omega), if_pos (by show (i : Int) < 4; omega), if_pos (by omega), hwi]
        have hk' : ks ++ [rdOf ByteArray.empty keys4 (i : Int)] = keys4.take (ps ++ [(⟨r1, r2, r3, r4, r5⟩ : S26)]).length := by
          have hil : i < keys4.length := by show i < 4; omega
          rw [hl', hks, hl, List.take_succ_eq_append_getElem hil]
          congr 1
          simp [rdOf, List.getD_eq_getElem?_getD, hil]
        exact ih (i + 1) m r6 _ _ (by omega) (by omega) hl' (fun _ => hk') (fun h => by cases h) hp'
    · rw [if_neg hlt]
      exact ⟨ks, ps, l, rfl, rowEnd e kd hkd ks ps (by omega) h7 h6 hp⟩

theorem vo_j1 (d : Nat) (hd : 1 ≤ d) (x y : Int) (y0 : 0 ≤ y) (y9 : y < 9) (hloop : 5 ≤ y → ∃ e, d = e + 1 ∧ e ≤ 5 ∧ Made e) (l : List Int) (m : Nat) (hm : 10 * d ≤ m + 4) :
    ∃ r1 r2 r3 r4 r5 r6, bagnallkeep_ValueOf.j1 m l (d : Int) x y = some (r1, r2, r3, r4, r5, r6) ∧ Fine d ⟨r1, r2, r3, r4, r5⟩ := by
  obtain ⟨m, rfl⟩ : ∃ z, m = z + 1 := ⟨m - 1, by omega⟩
  rw [bagnallkeep_ValueOf.j1]
  have he : (⟨#[]⟩ : ByteArray).toList.isEmpty = true := by decide +kernel
  by_cases h2 : y < 2
  · rw [if_pos h2]
    have ht0 := Int.lt_tmod_of_pos (wrap64 (Int.tdiv x 9)) (show (0 : Int) < 1000000 by decide)
    have ht1 := Int.tmod_lt_of_pos (wrap64 (Int.tdiv x 9)) (show (0 : Int) < 1000000 by decide)
    exact ⟨_, _, _, _, _, _, rfl, leaf_fine d hd 4 _ _ (by decide) (by decide) ht0 ht1 (by unfold plainB; rw [he]; simp) (fun h => by cases h)⟩
  · rw [if_neg h2]
    by_cases h3 : y = 2
    · rw [if_pos h3, Option.bind_some, picked _ 3 (by decide) (by decide), Option.bind_some]
      have hr0 := Int.emod_nonneg (wrap64 (Int.tdiv x 9)) (show (3 : Int) ≠ 0 by decide)
      have hr1 := Int.emod_lt_of_pos (wrap64 (Int.tdiv x 9)) (show (0 : Int) < 3 by decide)
      generalize wrap64 (Int.tdiv x 9) % 3 = z at hr0 hr1
      rw [if_pos hr0, if_pos (by show z < 3; exact hr1)]
      have hz : 1 ≤ rd [1, 2, 3] z ∧ rd [1, 2, 3] z ≤ 3 := by
        have hc : z = 0 ∨ z = 1 ∨ z = 2 := by omega
        rcases hc with rfl | rfl | rfl <;> decide
      exact ⟨_, _, _, _, _, _, rfl, leaf_fine d hd _ 0 _ (by omega) (by omega) (by decide) (by decide) (by unfold plainB; rw [he]; simp) (fun h => by omega)⟩
    · rw [if_neg h3]
      by_cases h5 : y < 5
      · rw [if_pos h5, Option.bind_some, picked _ 7 (by decide) (by decide), Option.bind_some]
        have hr0 := Int.emod_nonneg (wrap64 (Int.tdiv x 9)) (show (7 : Int) ≠ 0 by decide)
        have hr1 := Int.emod_lt_of_pos (wrap64 (Int.tdiv x 9)) (show (0 : Int) < 7 by decide)
        generalize wrap64 (Int.tdiv x 9) % 7 = z at hr0 hr1
        rw [if_pos hr0, if_pos (by show z < 7; exact hr1)]
        have hz : (quote (rdOf ByteArray.empty [(⟨#[]⟩ : ByteArray), (⟨#[120]⟩ : ByteArray), (⟨#[97, 34, 98]⟩ : ByteArray), (⟨#[10, 92]⟩ : ByteArray), (⟨#[1, 31]⟩ : ByteArray), (⟨#[107, 101, 121]⟩ : ByteArray), (⟨#[47]⟩ : ByteArray)] z).data.toList).length ≤ 100 := by
          have hall : ∀ q : Fin 7, (quote (rdOf ByteArray.empty [(⟨#[]⟩ : ByteArray), (⟨#[120]⟩ : ByteArray), (⟨#[97, 34, 98]⟩ : ByteArray), (⟨#[10, 92]⟩ : ByteArray), (⟨#[1, 31]⟩ : ByteArray), (⟨#[107, 101, 121]⟩ : ByteArray), (⟨#[47]⟩ : ByteArray)] (q.val : Int)).data.toList).length ≤ 100 := by decide +kernel
          have := hall ⟨z.toNat, by omega⟩
          simp only [Int.toNat_of_nonneg hr0] at this
          exact this
        exact ⟨_, _, _, _, _, _, rfl, leaf_fine d hd 5 0 _ (by decide) (by decide) (by decide) (by decide) (by unfold plainB; simp) (fun _ => hz)⟩
      · rw [if_neg h5]
        obtain ⟨e, rfl, he5, hMe⟩ := hloop (by omega)
        obtain ⟨m, rfl⟩ : ∃ z, m = z + 1 := ⟨m - 1, by omega⟩
        by_cases h6 : y > 6
        · rw [if_pos h6, bagnallkeep_ValueOf.j2]
          obtain ⟨ks, ps, l', h, hf⟩ := vo_loop e he5 hMe x 7 (.inr rfl) 3 0 m l [] [] rfl (by omega) rfl (fun _ => rfl) (fun _ => rfl) (fun p hp => by cases hp)
          exact ⟨_, _, _, _, _, _, h, hf⟩
        · rw [if_neg h6, bagnallkeep_ValueOf.j2]
          obtain ⟨ks, ps, l', h, hf⟩ := vo_loop e he5 hMe x 6 (.inl rfl) 3 0 m l [] [] rfl (by omega) rfl (fun h => by cases h) (fun _ => rfl) (fun p hp => by cases hp)
          exact ⟨_, _, _, _, _, _, h, hf⟩
theorem vo_j0 (d : Nat) (hd : 1 ≤ d) (hM : 2 ≤ d → ∃ e, d = e + 1 ∧ e ≤ 5 ∧ Made e) (x : Int) (l : List Int) (m : Nat) (hm : 10 * d ≤ m + 2) :
    ∃ r1 r2 r3 r4 r5 r6, bagnallkeep_ValueOf.j0 m l (d : Int) x = some (r1, r2, r3, r4, r5, r6) ∧ Fine d ⟨r1, r2, r3, r4, r5⟩ := by
  obtain ⟨m, rfl⟩ : ∃ z, m = z + 1 := ⟨m - 1, by omega⟩
  rw [bagnallkeep_ValueOf.j0, picked _ 9 (by decide) (by decide), Option.bind_some]
  have hr0 := Int.emod_nonneg x (show (9 : Int) ≠ 0 by decide)
  have hr1 := Int.emod_lt_of_pos x (show (0 : Int) < 9 by decide)
  have hs0 := Int.emod_nonneg x (show (5 : Int) ≠ 0 by decide)
  have hs1 := Int.emod_lt_of_pos x (show (0 : Int) < 5 by decide)
  by_cases h1 : (d : Int) ≤ 1
  · rw [if_pos h1, picked _ 5 (by decide) (by decide), Option.bind_some]
    exact vo_j1 d hd x _ hs0 (by omega) (fun h => by omega) l m (by omega)
  · rw [if_neg h1]
    exact vo_j1 d hd x _ hr0 hr1 (fun _ => hM (by omega)) l m (by omega)
theorem made : ∀ (d : Nat), d ≤ 4 → Made (d + 1)
  | d, hd4 => fun l m hm => by
    have hM : 2 ≤ d + 1 → ∃ e, d + 1 = e + 1 ∧ e ≤ 5 ∧ Made e := fun h => by
      obtain ⟨e, rfl⟩ : ∃ e, d = e + 1 := ⟨d - 1, by omega⟩
      exact ⟨e + 1, rfl, by omega, made e (by omega)⟩
    obtain ⟨m, rfl⟩ : ∃ z, m = z + 1 := ⟨m - 1, by omega⟩
    rw [bagnallkeep_ValueOf.f]
    by_cases h0 : (l.length : Int) > 0
    · rw [if_pos h0, if_pos (by omega), if_pos (by omega)]
      exact vo_j0 (d + 1) (by omega) hM _ _ m (by omega)
    · rw [if_neg h0]
      exact vo_j0 (d + 1) (by omega) hM _ _ m (by omega)

/-! ### its contract in plain words -/
/-- Where a value's rows stand. -/
structure Val (w : World) (v : S26) (A3 : Option Addr) (c3 : Nat) (A4 : Option Addr) (c4 : Nat) : Prop where
  k3 : Kd.C Kd.string w A3 v.f3.length v.f3
  l3 : v.f3.length ≤ c3
  k4 : Kd.C k26 w A4 v.f4.length v.f4
  l4 : v.f4.length ≤ c4
theorem Val.below {w w' : World} {v : S26} {A3 A4 : Option Addr} {c3 c4 : Nat} (h : Val w v A3 c3 A4 c4) (hb : Below w.heap.size w w') : Val w' v A3 c3 A4 c4 := ⟨Kd.C_below h.k3 hb, h.l3, Kd.C_below h.k4 hb, h.l4⟩
/-- A variable that holds a value. -/
structure Box (w : World) (g : Nat) (v : S26) (A3 : Option Addr) (c3 : Nat) (A4 : Option Addr) (c4 : Nat) : Prop where
  lt : g < w.heap.size
  cs : ∀ (j : Nat) (u : Value), (#[.int .i64 v.f0, .int .i64 v.f1, .string v.f2, .slice A3 v.f3.length c3, .slice A4 v.f4.length c4] : Array Value)[j]? = some u → w.cell? ⟨g, j, none⟩ = some u
theorem Box.below {w w' : World} {g : Nat} {v : S26} {A3 A4 : Option Addr} {c3 c4 : Nat} (h : Box w g v A3 c3 A4 c4) (hb : Below w.heap.size w w') : Box w' g v A3 c3 A4 c4 :=
  ⟨Nat.lt_of_lt_of_le h.lt hb.size, fun j u hu => (hb.cell (p := ⟨g, j, none⟩) h.lt).trans (h.cs j u hu)⟩
theorem Box.new (w : World) (v : S26) (A3 : Option Addr) (c3 : Nat) (A4 : Option Addr) (c4 : Nat) : Box (w.alloc (.cells #[.int .i64 v.f0, .int .i64 v.f1, .string v.f2, .slice A3 v.f3.length c3, .slice A4 v.f4.length c4] 26)) w.heap.size v A3 c3 A4 c4 :=
  ⟨by simp, fun j u hu => box_cells w _ j u hu⟩
theorem Box.all {w : World} {g : Nat} {v : S26} {A3 A4 : Option Addr} {c3 c4 : Nat} (h : Box w g v A3 c3 A4 c4) :
    w.cell? ⟨g, 0, none⟩ = some (.int .i64 v.f0) ∧ w.cell? ⟨g, 1, none⟩ = some (.int .i64 v.f1) ∧ w.cell? ⟨g, 2, none⟩ = some (.string v.f2) ∧ w.cell? ⟨g, 3, none⟩ = some (.slice A3 v.f3.length c3) ∧ w.cell? ⟨g, 4, none⟩ = some (.slice A4 v.f4.length c4) :=
  ⟨h.cs 0 _ rfl, h.cs 1 _ rfl, h.cs 2 _ rfl, h.cs 3 _ rfl, h.cs 4 _ rfl⟩
/-- ValueOf at a depth, in plain words. -/
theorem valueOf_calls (e : Nat) (he : e ≤ 4) (A0 : Option Addr) (c0 : Nat) (l : List Int) (w : World) (hr : Kd.C (Kd.int .i64) w A0 l.length l) (hc : l.length ≤ c0) :
    Calls Tryz.prog 10 #[.slice A0 l.length c0, .int .i64 ((e + 1 : Nat) : Int)] w fun e_ w' => ∃ (v : S26) (A3 : Option Addr) (c3 : Nat) (A4 : Option Addr) (c4 : Nat) (v5 : Value), e_ = .returned (.tuple #[.agg #[.int .i64 v.f0, .int .i64 v.f1, .string v.f2, .slice A3 v.f3.length c3, .slice A4 v.f4.length c4], v5]) ∧ Fine (e + 1) v ∧ Val w' v A3 c3 A4 c4 ∧ Below w.heap.size w w' := by
  obtain ⟨r1, r2, r3, r4, r5, r6, h, hf⟩ := made e he l (10 * (e + 1)) (Nat.le_refl _)
  refine (bagnallkeep_ValueOf.calls _ (fun k => k < w.heap.size) A0 c0 l _ r1 r2 r3 r4 r5 r6 w (Kd.V_mk hc (Kd.C_F (Kd.heap_int .i64) hr)) h).mono ?_
  rintro e_ w' ⟨v3, v4, v5, rfl, h3, h4, _, hb⟩
  obtain ⟨A3, c3, rfl, l3, g3⟩ := Kd.R_reads h3
  obtain ⟨A4, c4, rfl, l4, g4⟩ := Kd.R_reads h4
  exact ⟨⟨r1, r2, r3, r4, r5⟩, A3, c3, A4, c4, v5, rfl, hf, ⟨g3, l3, g4, l4⟩, hb⟩
theorem chk01 (v : S26) : (chk v = 1 ∧ big v = true) ∨ (chk v = 0 ∧ big v = false) := by
  unfold chk
  cases h : big v with
  | true => exact .inl ⟨rfl, rfl⟩
  | false => exact .inr ⟨rfl, rfl⟩

end Go.Proofs.YtmhfkbgdkgfafaaGreatDoor.Js
