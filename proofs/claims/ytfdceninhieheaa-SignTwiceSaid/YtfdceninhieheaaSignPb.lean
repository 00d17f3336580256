/- What the printed functions of package sign that reckon with keys come to: powers of 4, keys, signatures, checks. -/
import Derived.Test.YtfdceninhieheaaQSignx9
import Derived.Test.YtfdceninhieheaaQSignx10
import Derived.Test.YtfdceninhieheaaQSignx12
import Derived.Test.YtfdceninhieheaaSignPa
namespace Go.Proofs.Ytfdceninhieheaa.Pure
open Go.RowKit Go.Proofs.Ytfdceninhieheaa.QSign Go.Proofs.YtfdceninhieheaaW.PrintWords Go.Proofs.YtfdceninhieheaaW.PrintLast Go.Proofs.YtfdceninhieheaaW.PrintMore Go.Proofs.Ytfdceninhieheaa.SignMath

theorem pow_half (n m : Nat) : n ^ m = (n * n) ^ (m / 2) * n ^ (m % 2) := by
  rw [← Nat.pow_two, ← Nat.pow_mul, ← Nat.pow_add, Nat.div_add_mod]

theorem pw_odd {out n b m : Nat} (h : m % 2 = 1) : out * n % b * (n * n % b) ^ (m / 2) % b = out * n ^ m % b := by
  rw [pow_half n m, h, Nat.pow_one, Nat.mul_mod, Nat.mod_mod, ← Nat.pow_mod, ← Nat.mul_mod, Nat.mul_assoc, Nat.mul_comm n]

theorem pw_even {out n b m : Nat} (h : m % 2 = 0) : out * (n * n % b) ^ (m / 2) % b = out * n ^ m % b := by
  rw [pow_half n m, h, Nat.pow_zero, Nat.mul_one, Nat.mul_mod, ← Nat.pow_mod, ← Nat.mul_mod]

theorem tmod_cast (x y : Nat) : Int.tmod (x : Int) (y : Int) = ((x % y : Nat) : Int) := by
  rw [Int.tmod_eq_emod_of_nonneg (by omega)]; rfl

theorem mul_small {x y : Nat} (hx : x ≤ 10000) (hy : y ≤ 10000) : wrap64 ((x : Int) * (y : Int)) = ((x * y : Nat) : Int) := by
  have h : x * y ≤ 10000 * 10000 := Nat.mul_le_mul hx hy
  rw [← Int.natCast_mul, w64 (by omega) (by omega)]

theorem power_l0 (b : Nat) (hb0 : 1 < b) (hb : b ≤ 10000) : ∀ (f k m n out : Nat), m < 2 ^ f → m ≤ 10000 → f < k → n < b → out < b →
    sign_power.l0 k (n : Int) (m : Int) (b : Int) (out : Int) = some ((out * n ^ m % b : Nat) : Int) := by
  intro f
  induction f with
  | zero =>
    intro k m n out h1 h2 hk hn ho
    obtain ⟨k, rfl⟩ : ∃ q, k = q + 1 := ⟨k - 1, by omega⟩
    obtain rfl : m = 0 := by simpa using h1
    simp only [sign_power.l0]
    rw [if_neg (by omega), Nat.pow_zero, Nat.mul_one, Nat.mod_eq_of_lt ho]
  | succ f ih =>
    intro k m n out h1 h2 hk hn ho
    obtain ⟨k, rfl⟩ : ∃ q, k = q + 1 := ⟨k - 1, by omega⟩
    simp only [sign_power.l0]
    by_cases h0 : m = 0
    · subst h0
      rw [if_neg (by omega), Nat.pow_zero, Nat.mul_one, Nat.mod_eq_of_lt ho]
    · have hd : wrap64 (Int.tdiv (m : Int) 2) = ((m / 2 : Nat) : Int) := by
        rw [Int.tdiv_eq_ediv_of_nonneg (by omega), w64 (by omega) (by omega)]; rfl
      have ht : Int.tmod (m : Int) 2 = ((m % 2 : Nat) : Int) := tmod_cast m 2
      have hp : m / 2 < 2 ^ f := by rw [Nat.pow_succ] at h1; omega
      have m1 := Nat.mod_lt (n * n) (show 0 < b by omega)
      have m2 := Nat.mod_lt (out * n) (show 0 < b by omega)
      rw [if_pos (by omega), hd, ht, mul_small (by omega) (by omega), tmod_cast, mul_small (by omega) (by omega), tmod_cast]
      by_cases hodd : m % 2 = 1
      · rw [if_pos (by omega), if_neg (by omega), ih k (m / 2) _ _ hp (by omega) (by omega) m1 m2, pw_odd hodd]
      · rw [if_neg (by omega), if_neg (by omega), ih k (m / 2) _ _ hp (by omega) (by omega) m1 ho, pw_even (by omega)]

theorem power_f (k n m b : Nat) (hk : 13 < k) (ht : m < 8192) (hb0 : 1 < b) (hb : b ≤ 10000) : sign_power.f k (n : Int) (m : Int) (b : Int) = some ((n ^ m % b : Nat) : Int) := by
  unfold sign_power.f
  rw [if_neg (by omega), tmod_cast]
  have := power_l0 b hb0 hb 13 k m (n % b) 1 (by omega) (by omega) hk (Nat.mod_lt _ (by omega)) hb0
  rw [show ((1 : Nat) : Int) = 1 from rfl] at this
  rw [this, Nat.one_mul, ← Nat.pow_mod]

theorem secret_f (s : Nat) (h0 : 0 < s) (h1 : s < 3911) : sign_secret.f (s : Int) = some true := by
  unfold sign_secret.f
  rw [if_pos (by omega), decide_eq_true (by omega)]

theorem secretOf (a : Int) : ∃ s : Nat, 0 < s ∧ s < 3911 ∧ (s : Int) = 1 + a % 3910 ∧ bagnallkeep_SecretOf.f a = some (s : Int) := by
  have h0 := Int.emod_nonneg a (show (3910 : Int) ≠ 0 by decide)
  have h1 := Int.emod_lt_of_pos a (show (0 : Int) < 3910 by decide)
  refine ⟨(1 + a % 3910).toNat, by omega, by omega, by omega, ?_⟩
  unfold bagnallkeep_SecretOf.f
  rw [picked a 3910 (by decide) (by decide)]
  simp only [Option.bind_some]
  rw [w64 (by omega) (by omega)]
  congr 1; omega

theorem pow4 (k s : Nat) (hk : 13 < k) (h1 : s < 3911) : sign_power.f k 4 (s : Int) 7823 = some ((e s : Nat) : Int) :=
  power_f k 4 s 7823 hk (by omega) (by decide) (by decide)

theorem Public_f (k s : Nat) (hk : 13 < k) (h0 : 0 < s) (h1 : s < 3911) : sign_Public.f k (s : Int) = some (((e s : Nat) : Int), 0) := by
  unfold sign_Public.f
  rw [secret_f s h0 h1]
  simp only [Option.bind_some, if_true]
  rw [pow4 k s hk h1]; rfl

theorem Key_f (k s : Nat) (hk : 13 < k) (h0 : 0 < s) (h1 : s < 3911) : sign_Key.f k ((e s : Nat) : Int) = some true := by
  have := e_ge_two h0 h1
  have := e_lt s
  have hp := power_f k (e s) 3911 7823 hk (by decide) (by decide) (by decide)
  unfold sign_Key.f
  rw [if_pos (by omega), if_pos (by omega), show (3911 : Int) = ((3911 : Nat) : Int) from rfl, show (7823 : Int) = ((7823 : Nat) : Int) from rfl, hp, e_key s 3911 rfl]
  rfl

theorem May_f (k s S : Nat) (hk : 13 < k) (h0 : 0 < s) (h1 : s < 3911) (hS : S < 3911) : sign_May.f k ((e s : Nat) : Int) (S : Int) = some true := by
  unfold sign_May.f
  rw [Key_f k s hk h0 h1]
  simp only [Option.bind_some, if_true]
  rw [if_pos (by omega), decide_eq_true (by omega)]

/-- The hash that a signature by the number n of a text speaks of. -/
def hN (n : Nat) (t : List Int) : Nat := (hs (((e n : Nat) : Int) % 3911) t).toNat
theorem hN_cast (n : Nat) (t : List Int) : ((hN n t : Nat) : Int) = hs (((e n : Nat) : Int) % 3911) t := by
  have := hs_mod t ((e n : Nat) : Int) (by omega)
  unfold hN; omega
theorem hN_lt (n : Nat) (t : List Int) : hN n t < 3911 := by
  have := hs_mod t ((e n : Nat) : Int) (by omega)
  unfold hN; omega

theorem hashN (l : List Int) (hb : Bytes l) (hlen : l.length ≤ 600) (k n : Nat) (hk : 600 < k) : sign_hash.f k ((e n : Nat) : Int) l = some ((hN n l : Nat) : Int) := by
  rw [hash_f l hb hlen k hk _ (by omega), hN_cast]

theorem HashN (l : List Int) (hb : Bytes l) (hlen : l.length ≤ 600) (k n : Nat) (hk : 601 < k) : sign_Hash.f k ((e n : Nat) : Int) l = some (((hN n l : Nat) : Int), 0) := by
  have := e_lt n
  rw [Hash_f l hb hlen k hk _ (by omega) (by omega), hN_cast]

theorem pow7 (k n m : Nat) (hk : 13 < k) (hm : m < 8192) : sign_power.f k (n : Int) (m : Int) 7823 = some ((n ^ m % 7823 : Nat) : Int) :=
  power_f k n m 7823 hk hm (by decide) (by decide)

theorem tmod7 {x y : Nat} (hx : x < 7823) (hy : y < 7823) : Int.tmod (wrap64 ((x : Int) * (y : Int))) 7823 = ((x * y % 7823 : Nat) : Int) := by
  rw [mul_small (by omega) (by omega)]; exact tmod_cast _ 7823

theorem check_pick (a n S : Nat) (h : Nat) (hS : S < 3911) :
    (if ((e S : Nat) : Int) = ((e n * (e a ^ h % 7823) % 7823 : Nat) : Int) then some (0 : Int) else some 9) = some (if S = sg n a h then 0 else 9) := by
  have hiff := check_iff S n a h
  rw [Nat.mod_eq_of_lt hS] at hiff
  by_cases hc : S = sg n a h
  · rw [if_pos hc, if_pos (congrArg (fun x : Nat => (x : Int)) (hiff.2 hc))]
  · rw [if_neg hc, if_neg (fun h => hc (hiff.1 (Int.ofNat_inj.1 h)))]

theorem Check_f (k a n S : Nat) (l : List Int) (hb : Bytes l) (hlen : l.length ≤ 600) (hk : 601 < k) (ha0 : 0 < a) (ha1 : a < 3911) (hn0 : 0 < n) (hn1 : n < 3911) (hS : S < 3911) :
    sign_Check.f k ((e a : Nat) : Int) l ((e n : Nat) : Int) (S : Int) = some (if S = sg n a (hN n l) then 0 else 9) := by
  obtain ⟨k, rfl⟩ : ∃ q, k = q + 1 := ⟨k - 1, by omega⟩
  have l1 := hN_lt n l
  have hfin := check_pick a n S (hN n l) hS
  have hp := pow7 k (e a) (hN n l) (by omega) (by omega)
  have hx := Nat.mod_lt (e a ^ hN n l) (show 0 < 7823 by decide)
  generalize e a ^ hN n l % 7823 = x at hp hx hfin
  unfold sign_Check.f
  rw [Key_f _ a (by omega) ha0 ha1]
  simp only [Option.bind_some, if_true]
  rw [May_f _ n S (by omega) hn0 hn1 hS]
  simp only [Option.bind_some, sign_Check.j0]
  rw [if_neg (by decide), if_neg (by omega), pow4 k S (by omega) hS]
  simp only [Option.bind_some]
  rw [hashN l hb hlen k n (by omega)]
  simp only [Option.bind_some]
  rw [hp, Option.bind_some, tmod7 (e_lt n) hx]
  exact hfin

theorem Make_f (k a n : Nat) (l : List Int) (hb : Bytes l) (hlen : l.length ≤ 600) (hk : 601 < k) (ha0 : 0 < a) (ha1 : a < 3911) (hn0 : 0 < n) (hn1 : n < 3911) :
    sign_Make.f k (a : Int) (n : Int) l = some (((e n : Nat) : Int), ((sg n a (hN n l) : Nat) : Int), 0) := by
  obtain ⟨k, rfl⟩ : ∃ q, k = q + 1 := ⟨k - 1, by omega⟩
  have l1 := hN_lt n l
  unfold sign_Make.f
  rw [secret_f a ha0 ha1]
  simp only [Option.bind_some, if_true]
  rw [secret_f n hn0 hn1]
  simp only [Option.bind_some, sign_Make.j0]
  rw [if_neg (by decide), if_neg (by omega), pow4 k n (by omega) hn1]
  simp only [Option.bind_some]
  rw [hashN l hb hlen k n (by omega)]
  simp only [Option.bind_some]
  have hm : a * hN n l ≤ 3911 * 3911 := Nat.mul_le_mul (by omega) (by omega)
  rw [mul_small (by omega) (by omega), ← Int.natCast_add, w64 (by omega) (by omega), show (3911 : Int) = ((3911 : Nat) : Int) from rfl, tmod_cast]
  rfl

theorem signSure_f (k : Nat) (hk : 601 < k) : bagnallkeep_signSure.f k = some true := by
  have hc := Check_f k 1 1 0 [] (by intro x hx; cases hx) (by decide) hk (by decide) (by decide) (by decide) (by decide) (by decide)
  rw [show ((e 1 : Nat) : Int) = 4 by decide, show ((0 : Nat) : Int) = 0 from rfl] at hc
  unfold bagnallkeep_signSure.f
  rw [show (1 : Int) = ((1 : Nat) : Int) from rfl, Public_f k 1 (by omega) (by decide) (by decide)]
  simp only [Option.bind_some, if_true]
  rw [if_pos (by decide), hc, if_neg (by decide)]
  rfl

end Go.Proofs.Ytfdceninhieheaa.Pure
