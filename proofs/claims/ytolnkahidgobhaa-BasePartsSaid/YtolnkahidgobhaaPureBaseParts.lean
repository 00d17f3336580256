/- For all lists of bytes, BaseParts returns true: encodings can be concatenated if the first part has a multiple of three bytes. No condition. -/
import Derived.Test.YtolnkahidgobhaaBasePb
namespace Go.Proofs.Ytolnkahidgobhaa.Pure
open Go.RowKit Go.Proofs.Ytolnkahidgobhaa.QBase Go.Proofs.Ytolnkahidgobhaa.Base Go.Proofs.YtolnkahidgobhaaW.PrintWords Go.Proofs.YtolnkahidgobhaaW.PrintLast Go.Proofs.YtolnkahidgobhaaW.PrintMore

theorem BaseParts : bagnallkeep_BaseParts.Pure := by
  intro l0 l1 _ h0 w0 _ h1 w1
  have b0 := bytes_wf w0
  have b1 := bytes_wf w1
  have m0 := mn_nat l0.length 200
  have m1 := mn_nat l1.length 200
  have k0 : mn (l0.length : Int) 200 = ((min l0.length 200 : Nat) : Int) := m0
  have k1 : mn (l1.length : Int) 200 = ((min l1.length 200 : Nat) : Int) := m1
  have e0 : (((min l0.length 200 : Nat) : Int) / 3 * 3).toNat = min l0.length 200 / 3 * 3 := by omega
  have e1 : ((min l1.length 200 : Nat) : Int).toNat = min l1.length 200 := by omega
  have hx : (l0.take (min l0.length 200 / 3 * 3)).length = min l0.length 200 / 3 * 3 := by rw [List.length_take]; omega
  have hy : (l1.take (min l1.length 200)).length = min l1.length 200 := by rw [List.length_take]; omega
  have bx := b0.take (min l0.length 200 / 3 * 3)
  have by_ := b1.take (min l1.length 200)
  unfold bagnallkeep_BaseParts.f
  rw [k0, k1, e0, e1]
  generalize l0.take (min l0.length 200 / 3 * 3) = x at *
  generalize l1.take (min l1.length 200) = y at *
  rw [if_pos (by omega), if_pos (by omega), if_pos (by omega), if_pos (by omega), if_pos (by simp; omega), List.nil_append, List.nil_append, Text_tells x bx (by omega), Option.bind_some, if_pos (by simp; omega), Text_tells y by_ (by omega), Option.bind_some, Option.bind_some, if_pos (by omega), Text_tells (x ++ y) (bx.append by_) (by rw [List.length_append]; omega), Option.bind_some, if_pos rfl, if_pos rfl, if_pos rfl, Sure_tells, Option.bind_some, if_pos rfl, if_pos (by simp only [size_of]; rw [enc_length, enc_length]; omega), enc_append x y (by omega)]
  have : (⟨(enc x).toArray⟩ : ByteArray) ++ ⟨(enc y).toArray⟩ = ⟨(enc x ++ enc y).toArray⟩ := by
    apply ByteArray.ext; rw [ByteArray.data_append]; simp
  rw [this]
  simp

end Go.Proofs.Ytolnkahidgobhaa.Pure
