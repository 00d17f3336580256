/- Plain lemmas on the encoding. -/
import Derived.Test.YtolnkahidgobhaaBase2
namespace Go.Proofs.Ytolnkahidgobhaa.Pure
open Go.RowKit Go.Proofs.Ytolnkahidgobhaa.QBase Go.Proofs.Ytolnkahidgobhaa.Base Go.Proofs.YtolnkahidgobhaaW.PrintWords Go.Proofs.YtolnkahidgobhaaW.PrintLast Go.Proofs.YtolnkahidgobhaaW.PrintMore

theorem idx_sgn_nat : ∀ n : Nat, n < 64 → idx (sgn (n : Int)) = n := by decide +kernel
theorem idx_sgn {e : Int} (h0 : 0 ≤ e) (h1 : e < 64) : idx (sgn e) = e := by
  have h := idx_sgn_nat e.toNat (by omega)
  rwa [Int.toNat_of_nonneg h0] at h
theorem sgn_idx_nat : ∀ n : Nat, n < 256 → idx n.toUInt8 < 0 ∨ sgn (idx n.toUInt8) = n.toUInt8 := by decide +kernel
theorem sgn_idx {c : UInt8} (h : ¬ idx c < 0) : sgn (idx c) = c := by
  have h1 := sgn_idx_nat c.toNat (UInt8.toNat_lt c)
  have e : c.toNat.toUInt8 = c := by simp
  rw [e] at h1
  exact h1.resolve_left h

abbrev enc (l : List Int) : List UInt8 := encGo 0 0 l
theorem enc0 : enc [] = [] := rfl
theorem enc1 (a : Int) : enc [a] = [sgn (a / 4 % 64), sgn (a % 4 * 16 % 64)] := by
  rw [enc, encGo, if_neg (by decide), if_neg (by decide), encGo, if_pos rfl, Int.zero_mul, Int.zero_add]
theorem enc2 (a b : Int) : enc [a, b] = [sgn (a / 4 % 64), sgn ((a % 4 * 256 + b) / 16 % 64), sgn ((a % 4 * 256 + b) % 16 * 4 % 64)] := by
  rw [enc, encGo, if_neg (by decide), if_neg (by decide), encGo, if_neg (by decide), if_pos rfl, encGo, if_neg (by decide), if_pos rfl, Int.zero_mul, Int.zero_add]
theorem enc3 (a b c : Int) (l : List Int) : enc (a :: b :: c :: l) = sgn (a / 4 % 64) :: sgn ((a % 4 * 256 + b) / 16 % 64) :: sgn (((a % 4 * 256 + b) % 16 * 256 + c) / 64 % 64) :: sgn (((a % 4 * 256 + b) % 16 * 256 + c) % 64) :: enc l := by
  rw [enc, encGo, if_neg (by decide), if_neg (by decide), encGo, if_neg (by decide), if_pos rfl, encGo, if_pos rfl, Int.zero_mul, Int.zero_add]

theorem dec1 (c0 : UInt8) : decGo 0 0 [c0] = none := by
  rw [decGo]
  split
  · rfl
  · rw [if_pos rfl, decGo, if_pos rfl]
theorem dec2 (c0 c1 : UInt8) (h0 : ¬ idx c0 < 0) (h1 : ¬ idx c1 < 0) : decGo 0 0 [c0, c1] = if (idx c0 * 64 + idx c1) % 16 = 0 then some [(idx c0 * 64 + idx c1) / 16] else none := by
  rw [decGo, if_neg h0, if_pos rfl, decGo, if_neg h1, if_neg (by decide), if_pos rfl, decGo, if_neg (by decide), Int.zero_mul, Int.zero_add]
  split <;> rfl
theorem dec3 (c0 c1 c2 : UInt8) (h0 : ¬ idx c0 < 0) (h1 : ¬ idx c1 < 0) (h2 : ¬ idx c2 < 0) : decGo 0 0 [c0, c1, c2] = if ((idx c0 * 64 + idx c1) % 16 * 64 + idx c2) % 4 = 0 then some [(idx c0 * 64 + idx c1) / 16, ((idx c0 * 64 + idx c1) % 16 * 64 + idx c2) / 4] else none := by
  rw [decGo, if_neg h0, if_pos rfl, decGo, if_neg h1, if_neg (by decide), if_pos rfl, decGo, if_neg h2, if_neg (by decide), if_neg (by decide), if_pos rfl, decGo, if_neg (by decide), Int.zero_mul, Int.zero_add]
  split <;> rfl
theorem dec4 (c0 c1 c2 c3 : UInt8) (l : List UInt8) (h0 : ¬ idx c0 < 0) (h1 : ¬ idx c1 < 0) (h2 : ¬ idx c2 < 0) (h3 : ¬ idx c3 < 0) : decGo 0 0 (c0 :: c1 :: c2 :: c3 :: l) = (decGo 0 0 l).map fun r => (idx c0 * 64 + idx c1) / 16 :: ((idx c0 * 64 + idx c1) % 16 * 64 + idx c2) / 4 :: (((idx c0 * 64 + idx c1) % 16 * 64 + idx c2) % 4 * 64 + idx c3) :: r := by
  rw [decGo, if_neg h0, if_pos rfl, decGo, if_neg h1, if_neg (by decide), if_pos rfl, decGo, if_neg h2, if_neg (by decide), if_neg (by decide), if_pos rfl, decGo, if_neg h3, if_neg (by decide), if_neg (by decide), if_neg (by decide), Int.zero_mul, Int.zero_add, Option.map_map, Option.map_map]
  rfl

theorem dec_bad0 (c0 : UInt8) (l : List UInt8) (h : idx c0 < 0) : decGo 0 0 (c0 :: l) = none := by rw [decGo, if_pos h]
theorem dec_bad1 (c0 c1 : UInt8) (l : List UInt8) (h0 : ¬ idx c0 < 0) (h : idx c1 < 0) : decGo 0 0 (c0 :: c1 :: l) = none := by rw [decGo, if_neg h0, if_pos rfl, decGo, if_pos h]
theorem dec_bad2 (c0 c1 c2 : UInt8) (l : List UInt8) (h0 : ¬ idx c0 < 0) (h1 : ¬ idx c1 < 0) (h : idx c2 < 0) : decGo 0 0 (c0 :: c1 :: c2 :: l) = none := by
  rw [decGo, if_neg h0, if_pos rfl, decGo, if_neg h1, if_neg (by decide), if_pos rfl, decGo, if_pos h]; rfl
theorem dec_bad3 (c0 c1 c2 c3 : UInt8) (l : List UInt8) (h0 : ¬ idx c0 < 0) (h1 : ¬ idx c1 < 0) (h2 : ¬ idx c2 < 0) (h : idx c3 < 0) : decGo 0 0 (c0 :: c1 :: c2 :: c3 :: l) = none := by
  rw [decGo, if_neg h0, if_pos rfl, decGo, if_neg h1, if_neg (by decide), if_pos rfl, decGo, if_neg h2, if_neg (by decide), if_neg (by decide), if_pos rfl, decGo, if_pos h]; rfl

/-- All are bytes. -/
def Bytes (l : List Int) : Prop := ∀ x ∈ l, 0 ≤ x ∧ x < 256
theorem Bytes.tail {a : Int} {l : List Int} (h : Bytes (a :: l)) : Bytes l := fun x hx => h x (List.mem_cons_of_mem _ hx)
theorem Bytes.head {a : Int} {l : List Int} (h : Bytes (a :: l)) : 0 ≤ a ∧ a < 256 := h a List.mem_cons_self

theorem back : ∀ l : List Int, Bytes l → decGo 0 0 (enc l) = some l
  | [], _ => rfl
  | [a], h => by
    have ha := h.head
    rw [enc1, dec2 _ _ (by rw [idx_sgn (by omega) (by omega)]; omega) (by rw [idx_sgn (by omega) (by omega)]; omega), idx_sgn (by omega) (by omega), idx_sgn (by omega) (by omega), if_pos (by omega)]
    congr 2; omega
  | [a, b], h => by
    have ha := h.head
    have hb := h.tail.head
    rw [enc2, dec3 _ _ _ (by rw [idx_sgn (by omega) (by omega)]; omega) (by rw [idx_sgn (by omega) (by omega)]; omega) (by rw [idx_sgn (by omega) (by omega)]; omega), idx_sgn (by omega) (by omega), idx_sgn (by omega) (by omega), idx_sgn (by omega) (by omega), if_pos (by omega)]
    congr 2
    · omega
    · congr 1; omega
  | a :: b :: c :: l, h => by
    have ha := h.head
    have hb := h.tail.head
    have hc := h.tail.tail.head
    rw [enc3, dec4 _ _ _ _ _ (by rw [idx_sgn (by omega) (by omega)]; omega) (by rw [idx_sgn (by omega) (by omega)]; omega) (by rw [idx_sgn (by omega) (by omega)]; omega) (by rw [idx_sgn (by omega) (by omega)]; omega), back l h.tail.tail.tail, idx_sgn (by omega) (by omega), idx_sgn (by omega) (by omega), idx_sgn (by omega) (by omega), idx_sgn (by omega) (by omega), Option.map_some]
    congr 2
    · omega
    · congr 1
      · omega
      · congr 1; omega

theorem fixed : ∀ (s : List UInt8) (r : List Int), decGo 0 0 s = some r → enc r = s ∧ Bytes r ∧ r.length ≤ s.length
  | [], r, h => by
    have : r = [] := (Option.some.inj h).symm
    subst this
    exact ⟨rfl, (by intro x hx; cases hx), Nat.le_refl _⟩
  | [c0], r, h => by rw [dec1] at h; cases h
  | [c0, c1], r, h => by
    by_cases h0 : idx c0 < 0
    · rw [dec_bad0 _ _ h0] at h; cases h
    by_cases h1 : idx c1 < 0
    · rw [dec_bad1 _ _ _ h0 h1] at h; cases h
    rw [dec2 _ _ h0 h1] at h
    have r0 := idx_range c0
    have r1 := idx_range c1
    split at h
    · rename_i hz
      have : r = [(idx c0 * 64 + idx c1) / 16] := (Option.some.inj h).symm
      subst this
      refine ⟨?_, fun x hx => by rw [List.mem_singleton.1 hx]; omega, by simp⟩
      rw [enc1, show (idx c0 * 64 + idx c1) / 16 / 4 % 64 = idx c0 by omega, show (idx c0 * 64 + idx c1) / 16 % 4 * 16 % 64 = idx c1 by omega, sgn_idx h0, sgn_idx h1]
    · cases h
  | [c0, c1, c2], r, h => by
    by_cases h0 : idx c0 < 0
    · rw [dec_bad0 _ _ h0] at h; cases h
    by_cases h1 : idx c1 < 0
    · rw [dec_bad1 _ _ _ h0 h1] at h; cases h
    by_cases h2 : idx c2 < 0
    · rw [dec_bad2 _ _ _ _ h0 h1 h2] at h; cases h
    rw [dec3 _ _ _ h0 h1 h2] at h
    have r0 := idx_range c0
    have r1 := idx_range c1
    have r2 := idx_range c2
    split at h
    · rename_i hz
      have : r = [(idx c0 * 64 + idx c1) / 16, ((idx c0 * 64 + idx c1) % 16 * 64 + idx c2) / 4] := (Option.some.inj h).symm
      subst this
      refine ⟨?_, fun x hx => by
        rcases List.mem_cons.1 hx with rfl | hx
        · omega
        · rw [List.mem_singleton.1 hx]; omega, by simp⟩
      rw [enc2, show (idx c0 * 64 + idx c1) / 16 / 4 % 64 = idx c0 by omega, show ((idx c0 * 64 + idx c1) / 16 % 4 * 256 + ((idx c0 * 64 + idx c1) % 16 * 64 + idx c2) / 4) / 16 % 64 = idx c1 by omega, show ((idx c0 * 64 + idx c1) / 16 % 4 * 256 + ((idx c0 * 64 + idx c1) % 16 * 64 + idx c2) / 4) % 16 * 4 % 64 = idx c2 by omega, sgn_idx h0, sgn_idx h1, sgn_idx h2]
    · cases h
  | c0 :: c1 :: c2 :: c3 :: l, r, h => by
    by_cases h0 : idx c0 < 0
    · rw [dec_bad0 _ _ h0] at h; cases h
    by_cases h1 : idx c1 < 0
    · rw [dec_bad1 _ _ _ h0 h1] at h; cases h
    by_cases h2 : idx c2 < 0
    · rw [dec_bad2 _ _ _ _ h0 h1 h2] at h; cases h
    by_cases h3 : idx c3 < 0
    · rw [dec_bad3 _ _ _ _ _ h0 h1 h2 h3] at h; cases h
    rw [dec4 _ _ _ _ _ h0 h1 h2 h3] at h
    have r0 := idx_range c0
    have r1 := idx_range c1
    have r2 := idx_range c2
    have r3 := idx_range c3
    cases hl : decGo 0 0 l with
    | none => rw [hl] at h; cases h
    | some q =>
      rw [hl, Option.map_some] at h
      obtain ⟨i1, i2, i3⟩ := fixed l q hl
      have := (Option.some.inj h).symm
      subst this
      refine ⟨?_, fun x hx => ?_, by simp; omega⟩
      · rw [enc3, i1]
        rw [show (idx c0 * 64 + idx c1) / 16 / 4 % 64 = idx c0 by omega, show ((idx c0 * 64 + idx c1) / 16 % 4 * 256 + ((idx c0 * 64 + idx c1) % 16 * 64 + idx c2) / 4) / 16 % 64 = idx c1 by omega, show (((idx c0 * 64 + idx c1) / 16 % 4 * 256 + ((idx c0 * 64 + idx c1) % 16 * 64 + idx c2) / 4) % 16 * 256 + (((idx c0 * 64 + idx c1) % 16 * 64 + idx c2) % 4 * 64 + idx c3)) / 64 % 64 = idx c2 by omega, show (((idx c0 * 64 + idx c1) / 16 % 4 * 256 + ((idx c0 * 64 + idx c1) % 16 * 64 + idx c2) / 4) % 16 * 256 + (((idx c0 * 64 + idx c1) % 16 * 64 + idx c2) % 4 * 64 + idx c3)) % 64 = idx c3 by omega, sgn_idx h0, sgn_idx h1, sgn_idx h2, sgn_idx h3]
      · rcases List.mem_cons.1 hx with rfl | hx
        · omega
        rcases List.mem_cons.1 hx with rfl | hx
        · omega
        rcases List.mem_cons.1 hx with rfl | hx
        · omega
        exact i2 x hx

theorem enc_length : ∀ l : List Int, (enc l).length = (4 * l.length + 2) / 3
  | [] => rfl
  | [a] => by rw [enc1]; simp
  | [a, b] => by rw [enc2]; simp
  | a :: b :: c :: l => by rw [enc3]; simp only [List.length_cons]; rw [enc_length l]; omega

theorem enc_append : ∀ (x y : List Int), x.length % 3 = 0 → enc (x ++ y) = enc x ++ enc y
  | [], y, _ => rfl
  | [a], y, h => by simp at h
  | [a, b], y, h => by simp at h
  | a :: b :: c :: l, y, h => by
    rw [List.cons_append, List.cons_append, List.cons_append, enc3, enc3, enc_append l y (by simp only [List.length_cons] at h; omega)]
    rfl

theorem enc_signs : ∀ (l : List Int) (c : UInt8), c ∈ enc l → ∃ e : Int, 0 ≤ e ∧ e < 64 ∧ c = sgn e := by
  have hk : ∀ x : Int, 0 ≤ x % 64 ∧ x % 64 < 64 := fun x => ⟨by omega, by omega⟩
  have hg : ∀ (m b : Int) (l : List Int) (c : UInt8), (m = 4 → True) → c ∈ encGo m b l → ∃ e : Int, 0 ≤ e ∧ e < 64 ∧ c = sgn e := by
    intro m b l
    induction l generalizing m b with
    | nil =>
      intro c _ h
      rw [encGo] at h
      split at h
      · rw [List.mem_singleton.1 h]; exact ⟨_, (hk _).1, (hk _).2, rfl⟩
      · split at h
        · rw [List.mem_singleton.1 h]; exact ⟨_, (hk _).1, (hk _).2, rfl⟩
        · cases h
    | cons x l ih =>
      intro c _ h
      rw [encGo] at h
      split at h
      · rcases List.mem_cons.1 h with rfl | h
        · exact ⟨_, (hk _).1, (hk _).2, rfl⟩
        rcases List.mem_cons.1 h with rfl | h
        · exact ⟨_, (hk _).1, (hk _).2, rfl⟩
        exact ih _ _ c (fun _ => trivial) h
      · split at h
        · rcases List.mem_cons.1 h with rfl | h
          · exact ⟨_, (hk _).1, (hk _).2, rfl⟩
          exact ih _ _ c (fun _ => trivial) h
        · rcases List.mem_cons.1 h with rfl | h
          · exact ⟨_, (hk _).1, (hk _).2, rfl⟩
          exact ih _ _ c (fun _ => trivial) h
  intro l c h
  exact hg 0 0 l c (fun _ => trivial) h

end Go.Proofs.Ytolnkahidgobhaa.Pure
