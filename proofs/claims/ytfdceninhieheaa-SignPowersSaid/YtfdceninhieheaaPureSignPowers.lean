/- For every two numbers, SignPowers returns true: the product of two public keys is the public key of the sum of their secrets. -/
import Derived.Test.YtfdceninhieheaaQSignx11
import Derived.Test.YtfdceninhieheaaSignPb
namespace Go.Proofs.Ytfdceninhieheaa.Pure
open Go.RowKit Go.Proofs.Ytfdceninhieheaa.QSign Go.Proofs.YtfdceninhieheaaW.PrintWords Go.Proofs.YtfdceninhieheaaW.PrintLast Go.Proofs.Ytfdceninhieheaa.SignMath

theorem tmodQ (x : Nat) (hx : x ≤ 10000) : Int.tmod (wrap64 (x : Int)) 3911 = ((x % 3911 : Nat) : Int) := by
  rw [w64 (by omega) (by omega)]; exact tmod_cast x 3911

theorem SignPowers : bagnallkeep_SignPowers.Pure := by
  intro x y _ _
  refine ⟨1001, ?_⟩
  obtain ⟨a, a0, a1, _, ha⟩ := secretOf x
  obtain ⟨b, b0, b1, _, hb⟩ := secretOf y
  unfold bagnallkeep_SignPowers.f
  rw [ha, Option.bind_some, hb, Option.bind_some, Public_f 1001 a (by omega) a0 a1, Option.bind_some, Public_f 1001 b (by omega) b0 b1, Option.bind_some]
  rw [if_pos rfl, if_pos rfl, signSure_f 1001 (by omega), Option.bind_some]
  simp only [bagnallkeep_SignPowers.j0]
  rw [if_neg (by decide), ← Int.natCast_add, tmodQ (a + b) (by omega), tmod7 (e_lt a) (e_lt b), ← e_add]
  by_cases h : (a + b) % 3911 = 0
  · rw [if_pos (by omega), ← e_mod, h, e_zero]; rfl
  · rw [if_neg (by omega), Public_f 1000 _ (by omega) (by omega) (Nat.mod_lt _ (by decide)), Option.bind_some, if_pos rfl, e_mod, beq_self_eq_true]

end Go.Proofs.Ytfdceninhieheaa.Pure
