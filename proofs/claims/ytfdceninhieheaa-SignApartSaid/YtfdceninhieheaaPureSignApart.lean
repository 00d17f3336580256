/- For every two secrets, every nonce and every text, SignApart returns true: unlike secrets have unlike keys, and a signature is good for another key only where its hash is 0. -/
import Derived.Test.YtfdceninhieheaaQSignx14
import Derived.Test.YtfdceninhieheaaSignPb
namespace Go.Proofs.Ytfdceninhieheaa.Pure
open Go.RowKit Go.Proofs.Ytfdceninhieheaa.QSign Go.Proofs.YtfdceninhieheaaW.PrintWords Go.Proofs.YtfdceninhieheaaW.PrintLast Go.Proofs.Ytfdceninhieheaa.SignMath

theorem SignApart : bagnallkeep_SignApart.Pure := by
  intro x y z b _ _ _ _ hb2 hb3
  refine ⟨1001, ?_⟩
  obtain ⟨a, a0, a1, _, ha⟩ := secretOf x
  obtain ⟨c, c0, c1, _, hc⟩ := secretOf y
  obtain ⟨n, n0, n1, _, hn⟩ := secretOf z
  have Hb := (bytes_of hb3).take 200
  have lb := cut_len b
  have hs := sg_lt n a (hN n (b.take 200))
  have hl := hN_lt n (b.take 200)
  have hk := Check_f 1000 c n (sg n a (hN n (b.take 200))) (b.take 200) Hb (by omega) (by omega) c0 c1 n0 n1 hs
  have hac : (((e a : Nat) : Int) == ((e c : Nat) : Int)) = ((a : Int) == (c : Int)) := by
    rw [Bool.eq_iff_iff, beq_iff_eq, beq_iff_eq]
    constructor
    · intro h; rw [e_inj a1 c1 (Int.ofNat_inj.1 h)]
    · intro h; rw [Int.ofNat_inj.1 h]
  unfold bagnallkeep_SignApart.f
  rw [ha, Option.bind_some, Public_f 1001 a (by omega) a0 a1, Option.bind_some, hc, Option.bind_some, Public_f 1001 c (by omega) c0 c1, Option.bind_some, Option.bind_some, hn, Option.bind_some, cut b (by omega), Option.bind_some, Make_f 1001 a n _ Hb (by omega) (by omega) a0 a1 n0 n1, Option.bind_some, Option.bind_some, HashN _ Hb (by omega) 1001 n (by omega), Option.bind_some]
  rw [if_pos rfl, if_pos rfl, if_pos rfl, if_pos rfl, signSure_f 1001 (by omega), Option.bind_some, if_pos rfl, Option.bind_some, Option.bind_some, hac, bne_self_eq_false]
  simp only [bagnallkeep_SignApart.j0]
  rw [if_neg (by decide), cut b (by omega), Option.bind_some, hk, Option.bind_some]
  generalize hN n (b.take 200) = h at hl ⊢
  by_cases hEq : a = c
  · subst hEq
    rw [if_pos rfl, if_pos rfl]; rfl
  · rw [if_neg (fun hh => hEq (e_inj a1 c1 (Int.ofNat_inj.1 hh)))]
    by_cases h0 : h = 0
    · subst h0
      rw [if_pos (sg_eq_iff.2 (by simp))]; rfl
    · rw [if_neg (fun hh => hEq (by
        have h1 := mul_cancel (by omega) hl (sg_eq_iff.1 hh)
        rw [Nat.mod_eq_of_lt a1, Nat.mod_eq_of_lt c1] at h1; exact h1))]
      rw [show ((h : Int) == 0) = false from beq_eq_false_iff_ne.2 (by omega)]; rfl

end Go.Proofs.Ytfdceninhieheaa.Pure
