/- ValueOf in plain words: what it makes may be, and is small. -/
import Derived.Test.YtmhfkbgdkgfafaaDoorJsH
import Derived.Test.YtmhfkbgdkgfafaaDoorQJsonx2
namespace Go.Proofs.YtmhfkbgdkgfafaaDoor.Js
open Go.RowKit Go.Proofs.YtmhfkbgdkgfafaaDoor.QJson Go.Proofs.YtmhfkbgdkgfafaaDoorW.PrintWords Go.Proofs.YtmhfkbgdkgfafaaDoorW.PrintLast Go.Proofs.YtmhfkbgdkgfafaaDoorW.PrintMore
set_option linter.unusedVariables false
set_option linter.unusedSimpArgs false

theorem picked (a n : Int) (h0 : 0 < n) (h1 : n ≤ 1000000) : bagnallkeep_Picked.f a n = some (a % n) := by
  unfold bagnallkeep_Picked.f
  rw [if_neg (by omega)]
  have hr0 := Int.emod_nonneg a (show n ≠ 0 by omega)
  have hr1 := Int.emod_lt_of_pos a h0
  have ht := Int.tmod_eq_emod (a := a) (b := n)
  by_cases hc : 0 ≤ a ∨ n ∣ a
  · rw [if_pos hc] at ht
    rw [if_neg (by omega), ht]
    congr 1; omega
  · rw [if_neg hc] at ht
    rw [if_pos (by omega), show wrap64 (Int.tmod a n + n) = Int.tmod a n + n by unfold wrap64; omega, ht]
    congr 1; omega
theorem dec_length : ∀ (f u : Nat), u < 10 ^ f → (Lib.decDigits u).length ≤ f + 1
  | 0, u, h => by
    unfold Lib.decDigits
    rw [dif_pos (by omega)]; simp
  | f + 1, u, h => by
    unfold Lib.decDigits
    split
    · simp
    · rw [List.length_append]
      have := dec_length f (u / 10) (by rw [Nat.div_lt_iff_lt_mul (by decide)]; rw [Nat.pow_succ] at h; exact h)
      simp only [List.length_cons, List.length_nil]; omega
theorem itoa_length (n : Int) (h0 : -1000000000000000000 < n) (h1 : n < 1000000000000000000) : (Lib.itoa n).length ≤ 20 := by
  unfold Lib.itoa
  split
  · have := dec_length 18 n.natAbs (by omega)
    rw [List.length_cons]; omega
  · have := dec_length 18 n.toNat (by omega)
    omega
theorem join_bound (B : Nat) (xs : List (List UInt8)) (h : ∀ x ∈ xs, x.length ≤ B) : (Lib.join xs [44]).length ≤ xs.length * (B + 1) := by
  induction xs with
  | nil => simp [Lib.join_nil]
  | cons y ys ih =>
    have hy := h y (List.mem_cons_self ..)
    have ih := ih (fun x hx => h x (List.mem_cons_of_mem _ hx))
    rw [List.length_cons, Nat.add_mul, Nat.one_mul]
    cases ys with
    | nil => rw [Lib.join_one]; omega
    | cons z zs =>
      have he : Lib.join (y :: z :: zs) [44] = y ++ [44] ++ Lib.join (z :: zs) [44] := by
        simp [Lib.join, List.intercalate, List.intersperse]
      rw [he]
      simp only [List.length_append, List.length_cons, List.length_nil] at ih ⊢
      omega

/-- A value that may be, so deep at most, and small. -/
structure Fine (d : Nat) (v : S26) : Prop where
  wf : WF d v
  cn : cnt v ≤ 4 ^ d
  tx : (vt v).length ≤ 40 * 4 ^ d
def keys4 : List ByteArray := [⟨#[97]⟩, ⟨#[98, 34]⟩, ⟨#[107, 101, 121]⟩, ⟨#[122]⟩]
theorem keys4_asc (i : Nat) : Ascs (keys4.take i) := by
  intro j h
  rw [List.length_take] at h
  have hj : j + 1 < 4 := by have : keys4.length = 4 := rfl; omega
  rw [List.getElem_take, List.getElem_take]
  have hall : ∀ j : Fin 3, Op.bytesLess ((keys4.getD j.val ⟨#[]⟩).toList) ((keys4.getD (j.val + 1) ⟨#[]⟩).toList) = true := by decide +kernel
  have := hall ⟨j, by omega⟩
  have e1 : keys4.getD j ⟨#[]⟩ = keys4[j]'(by show j < 4; omega) := by simp [List.getD_eq_getElem?_getD, show j < keys4.length from (by show j < 4; omega)]
  have e2 : keys4.getD (j + 1) ⟨#[]⟩ = keys4[j + 1]'(by show j + 1 < 4; omega) := by simp [List.getD_eq_getElem?_getD, show j + 1 < keys4.length from (by show j + 1 < 4; omega)]
  rw [e1, e2] at this
  exact this
theorem keys4_text : ∀ k ∈ keys4, (quote k.data.toList).length ≤ 6 := by
  intro k hk
  have : keys4.all (fun k => decide ((quote k.data.toList).length ≤ 6)) = true := by decide +kernel
  exact of_decide_eq_true (List.all_eq_true.1 this k hk)
theorem leaf_fine (d : Nat) (hd : 1 ≤ d) (k n : Int) (t : ByteArray) (k1 : 1 ≤ k) (k5 : k ≤ 5) (n0 : -1000000 < n) (n1 : n < 1000000) (hp : plainB k n t 0 0 = true) (ht : k = 5 → (quote t.data.toList).length ≤ 100) : Fine d ⟨k, n, t, [], []⟩ := by
  obtain ⟨e, rfl⟩ : ∃ e, d = e + 1 := ⟨d - 1, by omega⟩
  have h4 : 4 ≤ 4 ^ (e + 1) := by rw [Nat.pow_succ]; have := Nat.one_le_pow e 4 (by decide); omega
  refine ⟨.mk k1 (by show k ≤ 7; omega) hp (fun h => absurd h (by show k ≠ 7; omega)) (by show _ < n; omega) (by show n < _; omega) (fun i h => absurd h (by simp)) (fun p hp => by cases hp), by rw [cnt_eq]; show 1 + 0 ≤ _; omega, ?_⟩
  rw [vt]
  have h5 := itoa_length n (by omega) (by omega)
  split
  · simp only [List.length_cons, List.length_nil]; omega
  split
  · simp only [List.length_cons, List.length_nil]; omega
  split
  · omega
  split
  · rename_i h; have := ht h; omega
  split
  · omega
  split
  · omega
  · simp only [List.length_cons, List.length_nil]; omega
theorem rowEnd (e : Nat) (kd : Int) (hkd : kd = 6 ∨ kd = 7) (ks : List ByteArray) (ps : List S26) (hl : ps.length ≤ 3) (hk7 : kd = 7 → ks = keys4.take ps.length) (hk6 : kd = 6 → ks = []) (hp : ∀ p ∈ ps, Fine e p) : Fine (e + 1) ⟨kd, 0, ⟨#[]⟩, ks, ps⟩ := by
  have hkl : kd = 7 → ks.length = ps.length := fun h => by rw [hk7 h, List.length_take]; show min _ 4 = _; omega
  have hasc : Ascs ks := by
    rcases hkd with h | h
    · rw [hk6 h]; exact fun i h => absurd h (by simp)
    · rw [hk7 h]; exact keys4_asc _
  have hc : cnts ps ≤ ps.length * 4 ^ e := by
    clear hk7 hk6 hkl hl
    induction ps with
    | nil => simp [cnts]
    | cons p ps ih =>
      have h1 := (hp p (List.mem_cons_self ..)).cn
      have h2 := ih (fun q hq => hp q (List.mem_cons_of_mem _ hq))
      rw [cnts, List.length_cons, Nat.add_mul, Nat.one_mul]; omega
  have h4 := Nat.one_le_pow e 4 (by decide)
  have hpl : plainB kd 0 ⟨#[]⟩ ks.length ps.length = true := by
    have he : (⟨#[]⟩ : ByteArray).toList.isEmpty = true := by decide +kernel
    rcases hkd with h | h
    · rw [hk6 h, h]; unfold plainB; rw [he]; simp
    · rw [h]; unfold plainB; rw [he]; simp
  have hjoin : (Lib.join (vts kd ks ps) [44]).length ≤ ps.length * (40 * 4 ^ e + 7 + 1) := by
    have h := join_bound (40 * 4 ^ e + 7) (vts kd ks ps) (fun x hx => by
      obtain ⟨i, hi⟩ := List.getElem?_of_mem hx
      have hil : i < ps.length := by
        have := (List.getElem?_eq_some_iff.1 hi).1
        rw [vts_length] at this; exact this
      rw [vts_get kd ps ks i hil] at hi
      rw [← Option.some.inj hi]
      have h1 := (hp _ (List.getElem_mem hil)).tx
      unfold item
      split
      · rename_i h7
        have hm : ks.getD i ⟨#[]⟩ ∈ keys4 := by
          have h2 : i < ks.length := by rw [hkl h7]; exact hil
          rw [List.getD_eq_getElem?_getD, List.getElem?_eq_getElem h2, Option.getD_some]
          have h5 : ks[i] ∈ keys4.take ps.length := by
            have h6 := List.getElem_mem h2
            have h8 : ∀ x ∈ ks, x ∈ keys4.take ps.length := fun x hx => by rw [hk7 h7] at hx; exact hx
            exact h8 _ h6
          exact List.mem_of_mem_take h5
        have h4 := keys4_text _ hm
        simp only [List.length_append, List.length_cons]; omega
      · omega)
    rw [vts_length] at h
    exact h
  have hmul : ps.length * (40 * 4 ^ e + 7 + 1) ≤ 3 * (40 * 4 ^ e + 7 + 1) := Nat.mul_le_mul_right _ hl
  have hmul2 : ps.length * 4 ^ e ≤ 3 * 4 ^ e := Nat.mul_le_mul_right _ hl
  refine ⟨.mk (by show 1 ≤ kd; omega) (by show kd ≤ 7; omega) hpl hkl (by show _ < (0 : Int); decide) (by show (0 : Int) < _; decide) hasc (fun p hq => (hp p hq).wf), by rw [cnt_eq, Nat.pow_succ]; show 1 + cnts ps ≤ _; omega, ?_⟩
  rw [Nat.pow_succ]
  rcases hkd with rfl | rfl
  · rw [vt, if_neg (by decide), if_neg (by decide), if_neg (by decide), if_neg (by decide), if_pos rfl]
    simp only [List.length_cons, List.length_append, List.length_nil]; omega
  · rw [vt, if_neg (by decide), if_neg (by decide), if_neg (by decide), if_neg (by decide), if_neg (by decide), if_pos rfl]
    simp only [List.length_cons, List.length_append, List.length_nil]; omega

/-- So it is of ValueOf at a depth. -/
def Made (e : Nat) : Prop := ∀ (l : List Int) (m : Nat), 10 * e ≤ m → ∃ r1 r2 r3 r4 r5 r6, bagnallkeep_ValueOf.f m l (e : Int) = some (r1, r2, r3, r4, r5, r6) ∧ Fine e ⟨r1, r2, r3, r4, r5⟩
theorem vo_loop (e : Nat) (he : e ≤ 5) (IH : Made e) (x : Int) (kd : Int) (hkd : kd = 6 ∨ kd = 7) :
    ∀ (q i m : Nat) (l : List Int) (ks : List ByteArray) (ps : List S26), i + q = 3 → 10 * e + q + 1 ≤ m → ps.length = i → (kd = 7 → ks = keys4.take ps.length) → (kd = 6 → ks = []) → (∀ p ∈ ps, Fine e p) →
    ∃ ks' ps' l', bagnallkeep_ValueOf.l0 m l ((e + 1 : Nat) : Int) x (i : Int) kd 0 ⟨#[]⟩ ks ps = some (kd, 0, ⟨#[]⟩, ks', ps', l') ∧ Fine (e + 1) ⟨kd, 0, ⟨#[]⟩, ks', ps'⟩ := by
  intro q
  induction q with
  | zero =>
    intro i m l ks ps hi hm hl h7 h6 hp
    obtain ⟨m, rfl⟩ : ∃ z, m = z + 1 := ⟨m - 1, by omega⟩
    rw [bagnallkeep_ValueOf.l0, picked _ 4 (by decide) (by decide), Option.bind_some, if_neg (by omega)]
    exact ⟨ks, ps, l, rfl, rowEnd e kd hkd ks ps (by omega) h7 h6 hp⟩
  | succ q ih =>
    intro i m l ks ps hi hm hl h7 h6 hp
    obtain ⟨m, rfl⟩ : ∃ z, m = z + 1 := ⟨m - 1, by omega⟩
    rw [bagnallkeep_ValueOf.l0, picked _ 4 (by decide) (by decide), Option.bind_some]
    by_cases hlt : (i : Int) < wrap64 (Int.tdiv x 9) % 4
    · obtain ⟨r1, r2, r3, r4, r5, r6, hf, hr⟩ := IH l m (by omega)
      have hw : wrap64 (((e + 1 : Nat) : Int) - 1) = (e : Int) := by unfold wrap64; omega
      have hwi : wrap64 ((i : Int) + 1) = ((i + 1 : Nat) : Int) := by unfold wrap64; omega
      rw [if_pos hlt, hw, hf, Option.bind_some, if_pos (by omega), Option.bind_some]
      have hp' : ∀ p ∈ ps ++ [(⟨r1, r2, r3, r4, r5⟩ : S26)], Fine e p := fun p hq => by
        rcases List.mem_append.1 hq with hq | hq
        · exact hp p hq
        · rw [List.mem_singleton.1 hq]; exact hr
      have hl' : (ps ++ [(⟨r1, r2, r3, r4, r5⟩ : S26)]).length = i + 1 := by rw [List.length_append, hl]; rfl
      rcases hkd with h | h
      · subst h
        rw [if_neg (by decide), hwi]
        exact ih (i + 1) m r6 ks _ (by omega) (by omega) hl' (fun h => by cases h) h6 hp'
      · subst h
        have hks := h7 rfl
        have hkl : ks.length = i := by rw [hks, List.length_take, hl]; show min _ 4 = _; omega
        rw [if_pos rfl, Option.bind_some, if_pos (by omega), if_pos (by show (i : Int) < 4; omega), if_pos (by omega), hwi]
        have hk' : ks ++ [rdOf ByteArray.empty keys4 (i : Int)] = keys4.take (ps ++ [(⟨r1, r2, r3, r4, r5⟩ : S26)]).length := by
          have hil : i < keys4.length := by show i < 4; omega
          rw [hl', hks, hl, List.take_succ_eq_append_getElem hil]
          congr 1
          simp [rdOf, List.getD_eq_getElem?_getD, hil]
        exact ih (i + 1) m r6 _ _ (by omega) (by omega) hl' (fun _ => hk') (fun h => by cases h) hp'
    · rw [if_neg hlt]
      exact ⟨ks, ps, l, rfl, rowEnd e kd hkd ks ps (by omega) h7 h6 hp⟩

theorem vo_j1 (d : Nat) (hd : 1 ≤ d) (x y : Int) (y0 : 0 ≤ y) (y9 : y < 9) (hloop : 5 ≤ y → ∃ e, d = e + 1 ∧ e ≤ 5 ∧ Made e) (l : List Int) (m : Nat) (hm : 10 * d ≤ m + 4) :
    ∃ r1 r2 r3 r4 r5 r6, bagnallkeep_ValueOf.j1 m l (d : Int) x y = some (r1, r2, r3, r4, r5, r6) ∧ Fine d ⟨r1, r2, r3, r4, r5⟩ := by
  obtain ⟨m, rfl⟩ : ∃ z, m = z + 1 := ⟨m - 1, by omega⟩
  rw [bagnallkeep_ValueOf.j1]
  have he : (⟨#[]⟩ : ByteArray).toList.isEmpty = true := by decide +kernel
  by_cases h2 : y < 2
  · rw [if_pos h2]
    have ht0 := Int.lt_tmod_of_pos (wrap64 (Int.tdiv x 9)) (show (0 : Int) < 1000000 by decide)
    have ht1 := Int.tmod_lt_of_pos (wrap64 (Int.tdiv x 9)) (show (0 : Int) < 1000000 by decide)
    exact ⟨_, _, _, _, _, _, rfl, leaf_fine d hd 4 _ _ (by decide) (by decide) ht0 ht1 (by unfold plainB; rw [he]; simp) (fun h => by cases h)⟩
  · rw [if_neg h2]
    by_cases h3 : y = 2
    · rw [if_pos h3, Option.bind_some, picked _ 3 (by decide) (by decide), Option.bind_some]
      have hr0 := Int.emod_nonneg (wrap64 (Int.tdiv x 9)) (show (3 : Int) ≠ 0 by decide)
      have hr1 := Int.emod_lt_of_pos (wrap64 (Int.tdiv x 9)) (show (0 : Int) < 3 by decide)
      generalize wrap64 (Int.tdiv x 9) % 3 = z at hr0 hr1
      rw [if_pos hr0, if_pos (by show z < 3; exact hr1)]
      have hz : 1 ≤ rd [1, 2, 3] z ∧ rd [1, 2, 3] z ≤ 3 := by
        have hc : z = 0 ∨ z = 1 ∨ z = 2 := by omega
        rcases hc with rfl | rfl | rfl <;> decide
      exact ⟨_, _, _, _, _, _, rfl, leaf_fine d hd _ 0 _ (by omega) (by omega) (by decide) (by decide) (by unfold plainB; rw [he]; simp) (fun h => by omega)⟩
    · rw [if_neg h3]
      by_cases h5 : y < 5
      · rw [if_pos h5, Option.bind_some, picked _ 7 (by decide) (by decide), Option.bind_some]
        have hr0 := Int.emod_nonneg (wrap64 (Int.tdiv x 9)) (show (7 : Int) ≠ 0 by decide)
        have hr1 := Int.emod_lt_of_pos (wrap64 (Int.tdiv x 9)) (show (0 : Int) < 7 by decide)
        generalize wrap64 (Int.tdiv x 9) % 7 = z at hr0 hr1
        rw [if_pos hr0, if_pos (by show z < 7; exact hr1)]
        have hz : (quote (rdOf ByteArray.empty [(⟨#[]⟩ : ByteArray), (⟨#[120]⟩ : ByteArray), (⟨#[97, 34, 98]⟩ : ByteArray), (⟨#[10, 92]⟩ : ByteArray), (⟨#[1, 31]⟩ : ByteArray), (⟨#[107, 101, 121]⟩ : ByteArray), (⟨#[47]⟩ : ByteArray)] z).data.toList).length ≤ 100 := by
          have hall : ∀ q : Fin 7, (quote (rdOf ByteArray.empty [(⟨#[]⟩ : ByteArray), (⟨#[120]⟩ : ByteArray), (⟨#[97, 34, 98]⟩ : ByteArray), (⟨#[10, 92]⟩ : ByteArray), (⟨#[1, 31]⟩ : ByteArray), (⟨#[107, 101, 121]⟩ : ByteArray), (⟨#[47]⟩ : ByteArray)] (q.val : Int)).data.toList).length ≤ 100 := by decide +kernel
          have := hall ⟨z.toNat, by omega⟩
          simp only [Int.toNat_of_nonneg hr0] at this
          exact this
        exact ⟨_, _, _, _, _, _, rfl, leaf_fine d hd 5 0 _ (by decide) (by decide) (by decide) (by decide) (by unfold plainB; simp) (fun _ => hz)⟩
      · rw [if_neg h5]
        obtain ⟨e, rfl, he5, hMe⟩ := hloop (by omega)
        obtain ⟨m, rfl⟩ : ∃ z, m = z + 1 := ⟨m - 1, by omega⟩
        by_cases h6 : y > 6
        · rw [if_pos h6, bagnallkeep_ValueOf.j2]
          obtain ⟨ks, ps, l', h, hf⟩ := vo_loop e he5 hMe x 7 (.inr rfl) 3 0 m l [] [] rfl (by omega) rfl (fun _ => rfl) (fun _ => rfl) (fun p hp => by cases hp)
          exact ⟨_, _, _, _, _, _, h, hf⟩
        · rw [if_neg h6, bagnallkeep_ValueOf.j2]
          obtain ⟨ks, ps, l', h, hf⟩ := vo_loop e he5 hMe x 6 (.inl rfl) 3 0 m l [] [] rfl (by omega) rfl (fun h => by cases h) (fun _ => rfl) (fun p hp => by cases hp)
          exact ⟨_, _, _, _, _, _, h, hf⟩
theorem vo_j0 (d : Nat) (hd : 1 ≤ d) (hM : 2 ≤ d → ∃ e, d = e + 1 ∧ e ≤ 5 ∧ Made e) (x : Int) (l : List Int) (m : Nat) (hm : 10 * d ≤ m + 2) :
    ∃ r1 r2 r3 r4 r5 r6, bagnallkeep_ValueOf.j0 m l (d : Int) x = some (r1, r2, r3, r4, r5, r6) ∧ Fine d ⟨r1, r2, r3, r4, r5⟩ := by
  obtain ⟨m, rfl⟩ : ∃ z, m = z + 1 := ⟨m - 1, by omega⟩
  rw [bagnallkeep_ValueOf.j0, picked _ 9 (by decide) (by decide), Option.bind_some]
  have hr0 := Int.emod_nonneg x (show (9 : Int) ≠ 0 by decide)
  have hr1 := Int.emod_lt_of_pos x (show (0 : Int) < 9 by decide)
  have hs0 := Int.emod_nonneg x (show (5 : Int) ≠ 0 by decide)
  have hs1 := Int.emod_lt_of_pos x (show (0 : Int) < 5 by decide)
  by_cases h1 : (d : Int) ≤ 1
  · rw [if_pos h1, picked _ 5 (by decide) (by decide), Option.bind_some]
    exact vo_j1 d hd x _ hs0 (by omega) (fun h => by omega) l m (by omega)
  · rw [if_neg h1]
    exact vo_j1 d hd x _ hr0 hr1 (fun _ => hM (by omega)) l m (by omega)
theorem made : ∀ (d : Nat), d ≤ 4 → Made (d + 1)
  | d, hd4 => fun l m hm => by
    have hM : 2 ≤ d + 1 → ∃ e, d + 1 = e + 1 ∧ e ≤ 5 ∧ Made e := fun h => by
      obtain ⟨e, rfl⟩ : ∃ e, d = e + 1 := ⟨d - 1, by omega⟩
      exact ⟨e + 1, rfl, by omega, made e (by omega)⟩
    obtain ⟨m, rfl⟩ : ∃ z, m = z + 1 := ⟨m - 1, by omega⟩
    rw [bagnallkeep_ValueOf.f]
    by_cases h0 : (l.length : Int) > 0
    · rw [if_pos h0, if_pos (by omega), if_pos (by omega)]
      exact vo_j0 (d + 1) (by omega) hM _ _ m (by omega)
    · rw [if_neg h0]
      exact vo_j0 (d + 1) (by omega) hM _ _ m (by omega)

end Go.Proofs.YtmhfkbgdkgfafaaDoor.Js
