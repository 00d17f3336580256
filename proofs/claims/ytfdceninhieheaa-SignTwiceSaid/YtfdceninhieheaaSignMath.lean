/- Plain numbers for the signatures' laws: powers of 4 modulo 7823, hashes modulo 3911, inverses modulo 3911. No program in sight. -/
namespace Go.Proofs.Ytfdceninhieheaa.SignMath

/-- A power of 4. -/
def e (m : Nat) : Nat := 4 ^ m % 7823

theorem e_lt (m : Nat) : e m < 7823 := Nat.mod_lt _ (by decide)

theorem e_add (a b : Nat) : e (a + b) = e a * e b % 7823 := by
  unfold e; rw [Nat.pow_add, Nat.mul_mod]

theorem e_order : e 3911 = 1 := by decide +kernel

theorem e_zero : e 0 = 1 := by decide

theorem e_mulorder (q : Nat) : e (3911 * q) = 1 := by
  induction q with
  | zero => exact e_zero
  | succ q ih => rw [Nat.mul_succ, e_add, ih, e_order]

theorem e_mod (m : Nat) : e (m % 3911) = e m := by
  conv => rhs; rw [← Nat.div_add_mod m 3911, e_add, e_mulorder, Nat.one_mul, Nat.mod_eq_of_lt (e_lt _)]

def ordOk : Bool := (List.range 3911).all fun d => d == 0 || 4 ^ d % 7823 != 1
theorem ordOk_true : ordOk = true := by decide +kernel

theorem e_ne_one {d : Nat} (h0 : 0 < d) (h1 : d < 3911) : e d ≠ 1 := by
  have h := List.all_eq_true.1 ordOk_true d (List.mem_range.2 h1)
  simp only [Bool.or_eq_true, beq_iff_eq, bne_iff_ne] at h
  rcases h with h | h
  · omega
  · exact h

theorem e_pow (a b : Nat) : e a ^ b % 7823 = e (a * b) := by
  unfold e; rw [← Nat.pow_mod, ← Nat.pow_mul]

theorem e_inj_lt {a b : Nat} (hab : a < b) (hb : b < 3911) : e a ≠ e b := by
  intro h
  have h1 : e (3911 - a + a) = e (3911 - a + b) := by rw [e_add, e_add, h]
  rw [show 3911 - a + a = 3911 by omega, show 3911 - a + b = 3911 + (b - a) by omega, e_add 3911, e_order, Nat.one_mul, Nat.mod_eq_of_lt (e_lt _)] at h1
  exact e_ne_one (show 0 < b - a by omega) (by omega) h1.symm

theorem e_inj {a b : Nat} (ha : a < 3911) (hb : b < 3911) (h : e a = e b) : a = b := by
  rcases Nat.lt_trichotomy a b with h1 | h1 | h1
  · exact absurd h (e_inj_lt h1 hb)
  · exact h1
  · exact absurd h.symm (e_inj_lt h1 ha)

theorem e_eq_iff (a b : Nat) : e a = e b ↔ a % 3911 = b % 3911 := by
  constructor
  · intro h
    rw [← e_mod a, ← e_mod b] at h
    exact e_inj (Nat.mod_lt _ (by decide)) (Nat.mod_lt _ (by decide)) h
  · intro h
    rw [← e_mod a, ← e_mod b, h]

theorem e_ne_zero (m : Nat) : e m ≠ 0 := by
  intro h
  have h0 : ∀ q, 0 < q → e (m * q) = 0 := fun q hq => by rw [← e_pow, h, Nat.zero_pow hq]
  have h1 := h0 3911 (by decide)
  rw [Nat.mul_comm, e_mulorder] at h1
  exact absurd h1 (by decide)

theorem e_ge_two {s : Nat} (h0 : 0 < s) (h1 : s < 3911) : 2 ≤ e s := by
  have := e_ne_zero s
  have := e_ne_one h0 h1
  omega

theorem e_key (s q : Nat) (hq : q = 3911) : e s ^ q % 7823 = 1 := by rw [e_pow, hq, Nat.mul_comm, e_mulorder]

/-! Inverses modulo 3911 -/
def q2 : Nat := 3909
def invOk : Bool := (List.range 3911).all fun b => b == 0 || b ^ q2 % 3911 * b % 3911 == 1
theorem invOk_true : invOk = true := by decide +kernel

theorem inv {b : Nat} (h0 : 0 < b) (h1 : b < 3911) : b ^ q2 % 3911 * b % 3911 = 1 := by
  have h := List.all_eq_true.1 invOk_true b (List.mem_range.2 h1)
  simp only [Bool.or_eq_true, beq_iff_eq] at h
  rcases h with h | h
  · omega
  · exact h

theorem mul_cancel {x y h : Nat} (h0 : 0 < h) (h1 : h < 3911) (hxy : x * h % 3911 = y * h % 3911) : x % 3911 = y % 3911 := by
  have key : ∀ z : Nat, z * h % 3911 * (h ^ q2 % 3911) % 3911 = z % 3911 := by
    intro z
    rw [Nat.mul_mod, Nat.mod_mod, ← Nat.mul_mod, Nat.mul_assoc, Nat.mul_mod, Nat.mul_comm h, inv h0 h1, Nat.mul_one, Nat.mod_mod]
  rw [← key x, ← key y, hxy]

/-- What the code reckons as the secret: a times the difference of hashes, over the difference. -/
theorem solve {a b d : Nat} (h0 : 0 < b) (h1 : b < 3911) (ha : a < 3911) (hd : d = a * b % 3911) : d * (b ^ q2 % 3911) % 3911 = a := by
  subst hd
  rw [Nat.mul_mod, Nat.mod_mod, ← Nat.mul_mod, Nat.mul_assoc, Nat.mul_mod, Nat.mul_comm b, inv h0 h1, Nat.mul_one, Nat.mod_mod, Nat.mod_eq_of_lt ha]

/-- The hash of a text, of bytes as whole numbers. -/
def hs (n : Int) (l : List Int) : Int := l.foldl (fun n b => (n * 257 + b + 1) % 3911) n

theorem hs_append (n : Int) (l m : List Int) : hs n (l ++ m) = hs (hs n l) m := List.foldl_append ..

theorem hs_range (l : List Int) : ∀ n : Int, 0 ≤ n → n < 3911 → 0 ≤ hs n l ∧ hs n l < 3911 := by
  induction l with
  | nil => exact fun n h0 h1 => ⟨h0, h1⟩
  | cons x l ih => exact fun n h0 h1 => ih _ (Int.emod_nonneg _ (by decide)) (Int.emod_lt_of_pos _ (by decide))

/-- The S of a signature. -/
def sg (n a h : Nat) : Nat := (n + a * h) % 3911
theorem sg_lt (n a h : Nat) : sg n a h < 3911 := Nat.mod_lt _ (by decide)

/-- Is a signature's S the right one for a key and a hash? -/
theorem check_iff (s n a h : Nat) : e s = e n * (e a ^ h % 7823) % 7823 ↔ s % 3911 = sg n a h := by
  rw [e_pow, ← e_add, e_eq_iff]; rfl

theorem sg_eq_iff {n a h a' h' : Nat} : sg n a h = sg n a' h' ↔ a * h % 3911 = a' * h' % 3911 := by
  unfold sg; omega

end Go.Proofs.Ytfdceninhieheaa.SignMath
