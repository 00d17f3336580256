/- For all lists of bytes, BaseBack returns true: decoding encoded bytes returns them; the encoding is a third longer and injective. No condition. -/
import Derived.Test.YtolnkahidgobhaaQBasex6
import Derived.Test.YtolnkahidgobhaaBasePb
namespace Go.Proofs.Ytolnkahidgobhaa.Pure
open Go.RowKit Go.Proofs.Ytolnkahidgobhaa.QBase Go.Proofs.Ytolnkahidgobhaa.Base Go.Proofs.YtolnkahidgobhaaW.PrintWords Go.Proofs.YtolnkahidgobhaaW.PrintLast Go.Proofs.YtolnkahidgobhaaW.PrintMore

theorem same_loop (x y : List Int) (he : x.length = y.length) (hx : x.length ≤ 10000) : ∀ (d i k : Nat), i + d = x.length → d < k → bagnallkeep_sameBytes.l0 k x y i = some (decide (x.drop i = y.drop i)) := by
  intro d
  induction d with
  | zero =>
    intro i k hd hk
    obtain ⟨k, rfl⟩ : ∃ m, k = m + 1 := ⟨k - 1, by omega⟩
    rw [bagnallkeep_sameBytes.l0, if_neg (by omega), List.drop_of_length_le (by omega), List.drop_of_length_le (by omega)]
    rfl
  | succ d ih =>
    intro i k hd hk
    obtain ⟨k, rfl⟩ : ∃ m, k = m + 1 := ⟨k - 1, by omega⟩
    have h1 : i < x.length := by omega
    have h2 : i < y.length := by omega
    have r1 : rd x (i : Int) = x[i] := by simp [rd, List.getD_eq_getElem?_getD, h1]
    have r2 : rd y (i : Int) = y[i] := by simp [rd, List.getD_eq_getElem?_getD, h2]
    rw [bagnallkeep_sameBytes.l0, if_pos (by omega), if_pos (by omega), if_pos (by omega), r1, r2]
    have hd : x.drop i = y.drop i ↔ x[i] = y[i] ∧ x.drop (i + 1) = y.drop (i + 1) := by
      rw [List.drop_eq_getElem_cons h1, List.drop_eq_getElem_cons h2, List.cons.injEq]
    by_cases h : x[i] = y[i]
    · rw [if_pos h, show wrap64 ((i : Int) + 1) = ((i + 1 : Nat) : Int) by unfold wrap64; omega, ih (i + 1) k (by omega) (by omega)]
      congr 1
      exact decide_eq_decide.2 ⟨fun e => hd.2 ⟨h, e⟩, fun e => (hd.1 e).2⟩
    · rw [if_neg h, decide_eq_false (fun e => h (hd.1 e).1)]
theorem same_tells (x y : List Int) (hx : x.length ≤ 10000) (k : Nat) (hk : x.length < k) : bagnallkeep_sameBytes.f k x y = some (decide (x = y)) := by
  unfold bagnallkeep_sameBytes.f
  by_cases he : x.length = y.length
  · rw [if_pos (by omega)]
    have h := same_loop x y he hx x.length 0 k (by omega) hk
    simpa using h
  · rw [if_neg (by omega), decide_eq_false (fun e => he (by rw [e]))]

theorem BaseBack : bagnallkeep_BaseBack.Pure := by
  intro l0 l1 _ h0 w0 _ h1 w1
  have b0 := bytes_wf w0
  have b1 := bytes_wf w1
  have k0 : mn (l0.length : Int) 300 = ((min l0.length 300 : Nat) : Int) := mn_nat l0.length 300
  have k1 : mn (l1.length : Int) 300 = ((min l1.length 300 : Nat) : Int) := mn_nat l1.length 300
  have e0 : ((min l0.length 300 : Nat) : Int).toNat = min l0.length 300 := by omega
  have e1 : ((min l1.length 300 : Nat) : Int).toNat = min l1.length 300 := by omega
  have hx : (l0.take (min l0.length 300)).length = min l0.length 300 := by rw [List.length_take]; omega
  have hy : (l1.take (min l1.length 300)).length = min l1.length 300 := by rw [List.length_take]; omega
  have bx := b0.take (min l0.length 300)
  have by_ := b1.take (min l1.length 300)
  refine ⟨1000, ?_⟩
  unfold bagnallkeep_BaseBack.f
  rw [k0, k1, e0, e1]
  generalize l0.take (min l0.length 300) = x at *
  generalize l1.take (min l1.length 300) = y at *
  have hxl : x.length ≤ 300 := by omega
  have hex := enc_length x
  rw [if_pos (by omega), if_pos (by omega), if_pos (by omega), if_pos (by omega), if_pos (by simp; omega), List.nil_append, List.nil_append, Text_tells x bx (by omega), Option.bind_some, if_pos (by simp; omega), Text_tells y by_ (by omega), Option.bind_some, Bytes_tells _ (by show (⟨(enc x).toArray⟩ : ByteArray).size ≤ 1200; rw [size_of]; omega), Option.bind_some]
  have hd : (⟨(enc x).toArray⟩ : ByteArray).data.toList = enc x := by simp
  rw [hd, back x bx, show told (some x) = (x, 0) from rfl, if_pos rfl, if_pos rfl, if_pos rfl, Sure_tells, Option.bind_some, if_pos rfl, same_tells x x (by omega) _ (by omega), Option.bind_some, decide_eq_true rfl, if_pos rfl, same_tells x y (by omega) _ (by omega), Option.bind_some, toList_of, toList_of]
  have hinj : (enc x == enc y) = decide (x = y) := by
    by_cases h : x = y
    · rw [decide_eq_true h, h]; simp
    · rw [decide_eq_false h]
      have : enc x ≠ enc y := fun e => h (by have h2 := back x bx; rw [e, back y by_] at h2; exact (Option.some.inj h2).symm)
      simpa using this
  rw [hinj, beq_self_eq_true, if_pos rfl, size_of, hex]
  have h4 : wrap64 (Int.tdiv (wrap64 ((wrap64 (4 * (x.length : Int))) + 2)) 3) = (((4 * x.length + 2) / 3 : Nat) : Int) := by
    rw [show wrap64 (4 * (x.length : Int)) = 4 * (x.length : Int) by unfold wrap64; omega, show wrap64 (4 * (x.length : Int) + 2) = 4 * (x.length : Int) + 2 by unfold wrap64; omega, Int.tdiv_eq_ediv_of_nonneg (by omega), show (((4 * x.length + 2) / 3 : Nat) : Int) = (4 * (x.length : Int) + 2) / 3 by omega]
    unfold wrap64; omega
  rw [h4, beq_self_eq_true]

end Go.Proofs.Ytolnkahidgobhaa.Pure
