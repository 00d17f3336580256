/- For every number and every two byte slices, HashParts returns true: the hash of the joined text is the hash of the second part begun at the hash of the first. -/
import Derived.Test.YtfdceninhieheaaQSignx4
import Derived.Test.YtfdceninhieheaaSignPa
namespace Go.Proofs.Ytfdceninhieheaa.Pure
open Go.RowKit Go.Proofs.Ytfdceninhieheaa.QSign Go.Proofs.YtfdceninhieheaaW.PrintWords Go.Proofs.YtfdceninhieheaaW.PrintLast Go.Proofs.Ytfdceninhieheaa.SignMath

theorem HashParts : bagnallkeep_HashParts.Pure := by
  intro r b c hr hb1 hb2 hb3 hc1 hc2 hc3
  refine ⟨1000, ?_⟩
  have Hb := (bytes_of hb3).take 200
  have Hc := (bytes_of hc3).take 200
  have lb := cut_len b
  have lc := cut_len c
  have n0 := Int.emod_nonneg r (show (7823 : Int) ≠ 0 by decide)
  have n1 := Int.emod_lt_of_pos r (show (0 : Int) < 7823 by decide)
  have h1 := hs_mod (b.take 200) (r % 7823) n0
  unfold bagnallkeep_HashParts.f
  rw [picked r 7823 (by decide) (by decide)]
  simp only [Option.bind_some]
  rw [cut b (by omega)]
  simp only [Option.bind_some]
  rw [cut c (by omega)]
  simp only [Option.bind_some]
  rw [cut (b.take 200) (by omega), cut_cut]
  simp only [Option.bind_some]
  rw [Hash_f _ Hb (by omega) 1000 (by omega) _ n0 n1]
  simp only [Option.bind_some]
  rw [cut (c.take 200) (by omega), cut_cut]
  simp only [Option.bind_some]
  rw [Hash_f _ Hc (by omega) 1000 (by omega) _ h1.1 (by omega)]
  simp only [Option.bind_some]
  rw [if_pos (by omega), Hash_f _ (Hb.append Hc) (by rw [List.length_append]; omega) 1000 (by omega) _ n0 n1]
  simp only [Option.bind_some]
  rw [Hash_f [0] (by intro x hx; simp at hx; omega) (by decide) 1000 (by omega) 0 (by decide) (by decide)]
  simp only [Option.bind_some, if_true]
  rw [if_pos (by decide), hs_append, Int.emod_eq_of_lt h1.1 h1.2, if_pos rfl, if_pos h1.1, decide_eq_true h1.2]

end Go.Proofs.Ytfdceninhieheaa.Pure
