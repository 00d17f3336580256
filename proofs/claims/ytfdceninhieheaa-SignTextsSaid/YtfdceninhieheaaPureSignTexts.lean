/- For every secret, every nonce and every two texts, SignTexts returns true: a signature is good for another text exactly if that text has the same hash. -/
import Derived.Test.YtfdceninhieheaaQSignx15
import Derived.Test.YtfdceninhieheaaSignPb
namespace Go.Proofs.Ytfdceninhieheaa.Pure
open Go.RowKit Go.Proofs.Ytfdceninhieheaa.QSign Go.Proofs.YtfdceninhieheaaW.PrintWords Go.Proofs.YtfdceninhieheaaW.PrintLast Go.Proofs.Ytfdceninhieheaa.SignMath

theorem SignTexts : bagnallkeep_SignTexts.Pure := by
  intro x y b c _ _ _ hb2 hb3 _ hc2 hc3
  refine ⟨1001, ?_⟩
  obtain ⟨a, a0, a1, _, ha⟩ := secretOf x
  obtain ⟨n, n0, n1, _, hn⟩ := secretOf y
  have Hb := (bytes_of hb3).take 200
  have Hc := (bytes_of hc3).take 200
  have lb := cut_len b
  have lc := cut_len c
  have hs := sg_lt n a (hN n (b.take 200))
  have hl := hN_lt n (b.take 200)
  have hl2 := hN_lt n (c.take 200)
  have hk := Check_f 1001 a n (sg n a (hN n (b.take 200))) (c.take 200) Hc (by omega) (by omega) a0 a1 n0 n1 hs
  unfold bagnallkeep_SignTexts.f
  rw [ha, Option.bind_some, Public_f 1001 a (by omega) a0 a1, Option.bind_some, hn, Option.bind_some, cut b (by omega), Option.bind_some, Make_f 1001 a n _ Hb (by omega) (by omega) a0 a1 n0 n1, Option.bind_some, Option.bind_some, HashN _ Hb (by omega) 1001 n (by omega), Option.bind_some, cut c (by omega), Option.bind_some, HashN _ Hc (by omega) 1001 n (by omega), Option.bind_some]
  rw [if_pos rfl, if_pos rfl, if_pos rfl, if_pos rfl, signSure_f 1001 (by omega), Option.bind_some, if_pos rfl, Option.bind_some, hk, Option.bind_some]
  generalize hN n (b.take 200) = h at hl ⊢
  generalize hN n (c.take 200) = j at hl2 ⊢
  by_cases hEq : h = j
  · subst hEq
    rw [if_pos rfl]
    show some (((0 : Int) == 0) == ((h : Int) == (h : Int))) = some true
    rw [beq_self_eq_true (h : Int)]; rfl
  · rw [if_neg (fun hh => hEq (by
      have h1 := sg_eq_iff.1 hh
      rw [Nat.mul_comm a, Nat.mul_comm a] at h1
      have h2 := mul_cancel a0 a1 h1
      rw [Nat.mod_eq_of_lt hl, Nat.mod_eq_of_lt hl2] at h2; exact h2))]
    show some (((9 : Int) == 0) == ((h : Int) == (j : Int))) = some true
    rw [show ((h : Int) == (j : Int)) = false from beq_eq_false_iff_ne.2 (fun hh => hEq (Int.ofNat_inj.1 hh))]; rfl

end Go.Proofs.Ytfdceninhieheaa.Pure
