/- For every secret, every nonce and every text, SignGood returns true: what is signed is good, and with any other S it is not. -/
import Derived.Test.YtfdceninhieheaaQSignx13
import Derived.Test.YtfdceninhieheaaSignPb
namespace Go.Proofs.Ytfdceninhieheaa.Pure
open Go.RowKit Go.Proofs.Ytfdceninhieheaa.QSign Go.Proofs.YtfdceninhieheaaW.PrintWords Go.Proofs.YtfdceninhieheaaW.PrintLast Go.Proofs.Ytfdceninhieheaa.SignMath

theorem other_S {s t : Nat} (ht : t < 3910) : ¬ (s + 1 + t) % 3911 = s := by omega

theorem next_S {s t : Nat} (hs : s < 3911) (ht : t < 3910) : Int.tmod (wrap64 (wrap64 ((s : Int) + 1) + (t : Int))) 3911 = (((s + 1 + t) % 3911 : Nat) : Int) := by
  rw [w64 (n := (s : Int) + 1) (by omega) (by omega), w64 (by omega) (by omega)]
  exact tmod_cast (s + 1 + t) 3911

theorem SignGood : bagnallkeep_SignGood.Pure := by
  intro x y b z _ _ _ hb2 hb3 _
  refine ⟨1001, ?_⟩
  obtain ⟨a, a0, a1, _, ha⟩ := secretOf x
  obtain ⟨n, n0, n1, _, hn⟩ := secretOf y
  have Hb := (bytes_of hb3).take 200
  have lb := cut_len b
  have z0 := Int.emod_nonneg z (show (3910 : Int) ≠ 0 by decide)
  have z1 := Int.emod_lt_of_pos z (show (0 : Int) < 3910 by decide)
  obtain ⟨t, ht⟩ : ∃ t : Nat, z % 3910 = (t : Int) := ⟨(z % 3910).toNat, by omega⟩
  have hlt : t < 3910 := by omega
  have hs := sg_lt n a (hN n (b.take 200))
  have hc := Check_f 1001 a n (sg n a (hN n (b.take 200))) (b.take 200) Hb (by omega) (by omega) a0 a1 n0 n1 hs
  rw [if_pos rfl] at hc
  unfold bagnallkeep_SignGood.f
  rw [ha, Option.bind_some, cut b (by omega), Option.bind_some, Public_f 1001 a (by omega) a0 a1, Option.bind_some, hn, Option.bind_some, cut (b.take 200) (by omega), cut_cut, Option.bind_some, Make_f 1001 a n _ Hb (by omega) (by omega) a0 a1 n0 n1, Option.bind_some]
  rw [if_pos rfl, if_pos rfl, Option.bind_some, hc, Option.bind_some, if_pos rfl, signSure_f 1001 (by omega), Option.bind_some]
  simp only [bagnallkeep_SignGood.j0]
  generalize hsg : sg n a (hN n (b.take 200)) = s at hs ⊢
  have hS := next_S hs hlt
  have hne : ¬ (s + 1 + t) % 3911 = s := other_S hlt
  have hck := Check_f 1000 a n ((s + 1 + t) % 3911) (b.take 200) Hb (by omega) (by omega) a0 a1 n0 n1 (Nat.mod_lt _ (by decide))
  rw [hsg, if_neg hne] at hck
  rw [if_neg (by decide), picked z 3910 (by decide) (by decide), Option.bind_some, ht, hS, hck, Option.bind_some]
  rfl

end Go.Proofs.Ytfdceninhieheaa.Pure
