/- What the printed function Secret comes to: of two signatures with one nonce and unlike hashes it reckons the secret. -/
import Derived.Test.YtfdceninhieheaaQSignx16
import Derived.Test.YtfdceninhieheaaSignPb
namespace Go.Proofs.Ytfdceninhieheaa.Pure
open Go.RowKit Go.Proofs.Ytfdceninhieheaa.QSign Go.Proofs.YtfdceninhieheaaW.PrintWords Go.Proofs.YtfdceninhieheaaW.PrintLast Go.Proofs.YtfdceninhieheaaW.PrintMore Go.Proofs.Ytfdceninhieheaa.SignMath

/-- A difference modulo 3911, as the code reckons it. -/
theorem diffQ (x y : Nat) (hx : x < 3911) (hy : y < 3911) : Int.tmod (wrap64 (wrap64 ((x : Int) - (y : Int)) + 3911)) 3911 = (((x + 3911 - y) % 3911 : Nat) : Int) := by
  rw [w64 (n := (x : Int) - y) (by omega) (by omega), w64 (by omega) (by omega), show (x : Int) - y + 3911 = ((x + 3911 - y : Nat) : Int) by omega]
  exact tmod_cast (x + 3911 - y) 3911

theorem diff_sg (n a h j : Nat) (hh : h < 3911) (hj : j < 3911) : (sg n a h + 3911 - sg n a j) % 3911 = a * ((h + 3911 - j) % 3911) % 3911 := by
  unfold sg
  have e1 : a * ((h + 3911 - j) % 3911) % 3911 = (a * (h + 3911 - j)) % 3911 := by rw [Nat.mul_mod, Nat.mod_mod, ← Nat.mul_mod]
  have e2 : a * (h + 3911 - j) + a * j = a * h + 3911 * a := by
    rw [← Nat.mul_add, show h + 3911 - j + j = h + 3911 by omega, Nat.mul_add, Nat.mul_comm a 3911]
  rw [e1]
  generalize a * (h + 3911 - j) = p at e2 ⊢
  generalize a * h = q at e2 ⊢
  generalize a * j = r at e2 ⊢
  omega

theorem mulQ {x y : Nat} (hx : x < 3911) (hy : y < 3911) : Int.tmod (wrap64 ((x : Int) * (y : Int))) 3911 = ((x * y % 3911 : Nat) : Int) := by
  rw [mul_small (by omega) (by omega)]; exact tmod_cast _ 3911

theorem powQ (k b : Nat) (hk : 13 < k) : sign_power.f k (b : Int) 3909 3911 = some ((b ^ q2 % 3911 : Nat) : Int) :=
  power_f k b q2 3911 hk (by decide) (by decide) (by decide)

theorem Secret_f (k a n : Nat) (t u : List Int) (ht : Bytes t) (hu : Bytes u) (lt : t.length ≤ 600) (lu : u.length ≤ 600) (hk : 700 < k) (_ha0 : 0 < a) (ha1 : a < 3911) (hn0 : 0 < n) (hn1 : n < 3911) :
    sign_Secret.f k t u ((e n : Nat) : Int) ((sg n a (hN n t) : Nat) : Int) ((e n : Nat) : Int) ((sg n a (hN n u) : Nat) : Int) = some (if hN n t = hN n u then (0, 8) else ((a : Int), 0)) := by
  obtain ⟨k, rfl⟩ : ∃ q, k = q + 2 := ⟨k - 2, by omega⟩
  have l1 := hN_lt n t
  have l2 := hN_lt n u
  have s1 := sg_lt n a (hN n t)
  have s2 := sg_lt n a (hN n u)
  have hd := diff_sg n a (hN n t) (hN n u) l1 l2
  unfold sign_Secret.f
  rw [May_f _ n _ (by omega) hn0 hn1 s1, Option.bind_some, if_pos rfl, May_f _ n _ (by omega) hn0 hn1 s2, Option.bind_some]
  simp only [sign_Secret.j0]
  rw [if_neg (by decide), if_neg (by omega), decide_eq_false (by omega)]
  simp only [sign_Secret.j1]
  rw [if_neg (by decide), if_pos trivial, hashN t ht lt k n (by omega), Option.bind_some, hashN u hu lu k n (by omega), Option.bind_some]
  generalize sg n a (hN n t) = S1 at s1 hd ⊢
  generalize sg n a (hN n u) = S2 at s2 hd ⊢
  generalize hN n t = h at l1 hd ⊢
  generalize hN n u = j at l2 hd ⊢
  by_cases hEq : h = j
  · subst hEq
    rw [if_pos (by rw [Int.sub_self]; exact w64 (by decide) (by decide)), if_pos rfl]
  · rw [if_neg (by rw [w64 (by omega) (by omega)]; omega), if_neg hEq, diffQ h j l1 l2, diffQ S1 S2 s1 s2, powQ k _ (by omega), Option.bind_some, mulQ (Nat.mod_lt _ (by decide)) (Nat.mod_lt _ (by decide)), solve (by omega) (Nat.mod_lt _ (by decide)) ha1 hd]

end Go.Proofs.Ytfdceninhieheaa.Pure
