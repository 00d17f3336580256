/- What the printed functions of package sign that hash, and the laws' helpers, come to, in plain words. -/
import Derived.Test.YtfdceninhieheaaQSignx1
import Derived.Test.YtfdceninhieheaaQSignx2
import Derived.Test.YtfdceninhieheaaQSignx3
import Derived.Test.YtfdceninhieheaaSignMath
import Derived.OpenShut
namespace Go.Proofs.Ytfdceninhieheaa.Pure
open Go.RowKit Go.Proofs.Ytfdceninhieheaa.QSign Go.Proofs.YtfdceninhieheaaW.PrintWords Go.Proofs.YtfdceninhieheaaW.PrintLast Go.Proofs.YtfdceninhieheaaW.PrintMore Go.Proofs.Ytfdceninhieheaa.SignMath

theorem w64 {n : Int} (h0 : -9223372036854775808 ≤ n) (h1 : n ≤ 9223372036854775807) : wrap64 n = n := by unfold wrap64; omega

theorem picked (a n : Int) (h0 : 0 < n) (h1 : n ≤ 1000000) : bagnallkeep_Picked.f a n = some (a % n) := by
  unfold bagnallkeep_Picked.f
  rw [if_neg (by omega)]
  have hr0 := Int.emod_nonneg a (show n ≠ 0 by omega)
  have hr1 := Int.emod_lt_of_pos a h0
  have ht := Int.tmod_eq_emod (a := a) (b := n)
  by_cases hc : 0 ≤ a ∨ n ∣ a
  · rw [if_pos hc] at ht
    rw [if_neg (by omega), ht]
    congr 1; omega
  · rw [if_neg hc] at ht
    rw [if_pos (by omega), w64 (by omega) (by omega), ht]
    congr 1; omega

theorem cut (l : List Int) (hl : l.length ≤ 140737488351232) : bagnallkeep_cutBytes.f l = some (l.take 200) := by
  unfold bagnallkeep_cutBytes.f
  have hm : mn (l.length : Int) 200 = ((min l.length 200 : Nat) : Int) := by unfold mn; split <;> omega
  rw [hm, if_pos (by omega), if_pos (by omega), if_pos (by simp; omega)]
  simp only [Int.toNat_natCast, List.nil_append]
  congr 1
  by_cases h : l.length ≤ 200
  · rw [Nat.min_eq_left h, List.take_of_length_le h, List.take_of_length_le (Nat.le_refl _)]
  · rw [Nat.min_eq_right (by omega)]

theorem cut_cut (l : List Int) : (l.take 200).take 200 = l.take 200 := by rw [List.take_take, Nat.min_self]

theorem cut_len (l : List Int) : (l.take 200).length ≤ 200 := by rw [List.length_take]; omega

def Bytes (l : List Int) : Prop := ∀ x ∈ l, 0 ≤ x ∧ x ≤ 255
theorem bytes_of {l : List Int} (h : ∀ x ∈ l, (Lit.int .u8 x).wf = true) : Bytes l := fun x hx => bounds_u8 (h x hx)
theorem Bytes.take {l : List Int} (h : Bytes l) (n : Nat) : Bytes (l.take n) := fun x hx => h x (List.mem_of_mem_take hx)
theorem Bytes.append {l m : List Int} (h : Bytes l) (k : Bytes m) : Bytes (l ++ m) := fun x hx => (List.mem_append.1 hx).elim (h x) (k x)

theorem hash_l0 (l : List Int) (hb : Bytes l) (hlen : l.length ≤ 600) : ∀ (d k i : Nat) (n : Int), l.length - i = d → i ≤ l.length → d < k → 0 ≤ n → n < 3911 → sign_hash.l0 k n l (l.length : Int) (i : Int) = some (hs n (l.drop i)) := by
  intro d
  induction d with
  | zero =>
    intro k i n hd hi hk h0 h1
    obtain ⟨k, rfl⟩ : ∃ m, k = m + 1 := ⟨k - 1, by omega⟩
    obtain rfl : i = l.length := by omega
    simp only [sign_hash.l0]
    rw [if_neg (by omega), List.drop_length]; rfl
  | succ d ih =>
    intro k i n hd hi hk h0 h1
    obtain ⟨k, rfl⟩ : ∃ m, k = m + 1 := ⟨k - 1, by omega⟩
    have hlt : i < l.length := by omega
    have hx := hb (l[i]) (List.getElem_mem hlt)
    have hrd : rd l (i : Int) = l[i] := by simp [rd, List.getD_eq_getElem?_getD, hlt]
    simp only [sign_hash.l0]
    rw [if_pos (by omega), if_pos (by omega), if_pos (by omega), hrd, w64 (n := l[i]) (by omega) (by omega), w64 (n := n * 257) (by omega) (by omega), w64 (n := n * 257 + l[i]) (by omega) (by omega), w64 (n := n * 257 + l[i] + 1) (by omega) (by omega), w64 (n := (i : Int) + 1) (by omega) (by omega)]
    rw [Int.tmod_eq_emod_of_nonneg (by omega)]
    have hstep := ih k (i + 1) ((n * 257 + l[i] + 1) % 3911) (by omega) (by omega) (by omega) (Int.emod_nonneg _ (by decide)) (Int.emod_lt_of_pos _ (by decide))
    rw [show ((i : Int) + 1) = ((i + 1 : Nat) : Int) by omega, hstep, List.drop_eq_getElem_cons hlt]
    rfl

theorem hash_f (l : List Int) (hb : Bytes l) (hlen : l.length ≤ 600) (k : Nat) (hk : 600 < k) (n : Int) (h0 : 0 ≤ n) : sign_hash.f k n l = some (hs (n % 3911) l) := by
  unfold sign_hash.f
  rw [Int.tmod_eq_emod_of_nonneg h0]
  have := hash_l0 l hb hlen l.length k 0 (n % 3911) (by omega) (by omega) (by omega) (Int.emod_nonneg _ (by decide)) (Int.emod_lt_of_pos _ (by decide))
  simpa using this

theorem Hash_f (l : List Int) (hb : Bytes l) (hlen : l.length ≤ 600) (k : Nat) (hk : 601 < k) (n : Int) (h0 : 0 ≤ n) (h1 : n < 7823) : sign_Hash.f k n l = some (hs (n % 3911) l, 0) := by
  obtain ⟨k, rfl⟩ : ∃ m, k = m + 1 := ⟨k - 1, by omega⟩
  unfold sign_Hash.f
  rw [if_neg (by omega), decide_eq_false (by omega)]
  simp only [sign_Hash.j0]
  rw [if_neg (by decide), if_neg (by omega), hash_f l hb hlen k (by omega) n h0]
  rfl

theorem hs_mod (l : List Int) (n : Int) (_h0 : 0 ≤ n) : 0 ≤ hs (n % 3911) l ∧ hs (n % 3911) l < 3911 := hs_range l _ (Int.emod_nonneg _ (by decide)) (Int.emod_lt_of_pos _ (by decide))

end Go.Proofs.Ytfdceninhieheaa.Pure
