/- For every secret, every nonce and every two texts, SignTwice returns true: two signatures with one nonce and unlike hashes tell the secret. -/
import Derived.Test.YtfdceninhieheaaQSignx17
import Derived.Test.YtfdceninhieheaaSignPc
namespace Go.Proofs.Ytfdceninhieheaa.Pure
open Go.RowKit Go.Proofs.Ytfdceninhieheaa.QSign Go.Proofs.YtfdceninhieheaaW.PrintWords Go.Proofs.YtfdceninhieheaaW.PrintLast Go.Proofs.Ytfdceninhieheaa.SignMath

theorem SignTwice : bagnallkeep_SignTwice.Pure := by
  intro x y b c _ _ _ hb2 hb3 _ hc2 hc3
  refine ⟨1003, ?_⟩
  obtain ⟨a, a0, a1, _, ha⟩ := secretOf x
  obtain ⟨n, n0, n1, _, hn⟩ := secretOf y
  have Hb := (bytes_of hb3).take 200
  have Hc := (bytes_of hc3).take 200
  have lb := cut_len b
  have lc := cut_len c
  unfold bagnallkeep_SignTwice.f
  rw [ha, Option.bind_some, hn, Option.bind_some, cut b (by omega), Option.bind_some, cut c (by omega), Option.bind_some, cut (b.take 200) (by omega), cut_cut, Option.bind_some, Make_f 1003 a n _ Hb (by omega) (by omega) a0 a1 n0 n1, Option.bind_some, cut (c.take 200) (by omega), cut_cut, Option.bind_some, Make_f 1003 a n _ Hc (by omega) (by omega) a0 a1 n0 n1, Option.bind_some, Option.bind_some, HashN _ Hb (by omega) 1003 n (by omega), Option.bind_some, Option.bind_some, HashN _ Hc (by omega) 1003 n (by omega), Option.bind_some]
  rw [Secret_f 1003 a n _ _ Hb Hc (by omega) (by omega) (by omega) a0 a1 n0 n1, Option.bind_some]
  rw [if_pos rfl, if_pos rfl, if_pos rfl, if_pos rfl, signSure_f 1003 (by omega), Option.bind_some]
  generalize hN n (b.take 200) = h
  generalize hN n (c.take 200) = j
  simp only [bagnallkeep_SignTwice.j0]
  rw [if_neg (by decide)]
  by_cases hEq : h = j
  · subst hEq
    rw [if_pos rfl, if_pos rfl, if_pos rfl]; rfl
  · rw [if_neg (fun hh => hEq (Int.ofNat_inj.1 hh)), if_neg hEq, if_pos rfl, beq_self_eq_true]

end Go.Proofs.Ytfdceninhieheaa.Pure
