/- What the disk's functions come to in the laws: moves one behind the other, plain lists of bytes. -/
import Derived.Test.YtmfkgbncnaingaaQDiskx1
import Derived.Test.YtmfkgbncnaingaaQDiskx2
import Derived.Test.YtmfkgbncnaingaaQDiskx3
import Derived.Test.YtmfkgbncnaingaaQDiskx5
import Derived.Test.YtmfkgbncnaingaaDisk5
import Derived.OpenShut
namespace Go.Proofs.Ytmfkgbncnaingaa.Pure
open Go.RowKit Go.Proofs.Ytmfkgbncnaingaa.QDisk Go.Proofs.Ytmfkgbncnaingaa.Disk Go.Proofs.YtmfkgbncnaingaaW.PrintWords Go.Proofs.YtmfkgbncnaingaaW.PrintLast Go.Proofs.YtmfkgbncnaingaaW.PrintMore

theorem dw64 {n : Int} (h0 : -9223372036854775808 ≤ n) (h1 : n ≤ 9223372036854775807) : wrap64 n = n := by unfold wrap64; omega

theorem dpicked (a n : Int) (h0 : 0 < n) (h1 : n ≤ 1000000) : bagnallkeep_Picked.f a n = some (a % n) := by
  have hf := tmod_fix (a := a) h0 h1
  unfold bagnallkeep_Picked.f
  rw [if_neg (by omega)]
  by_cases h : Int.tmod a n < 0
  · rw [if_pos h, hf.1 h]
  · rw [if_neg h, hf.2 h]

theorem dcut (l : List Int) (hl : l.length ≤ 140737488351232) : bagnallkeep_cutBytes.f l = some (l.take 200) := by
  unfold bagnallkeep_cutBytes.f
  have hm : mn (l.length : Int) 200 = ((min l.length 200 : Nat) : Int) := by unfold mn; split <;> omega
  rw [hm, if_pos (by omega), if_pos (by omega), if_pos (by simp; omega)]
  simp only [Int.toNat_natCast, List.nil_append]
  congr 1
  by_cases h : l.length ≤ 200
  · rw [Nat.min_eq_left h, List.take_of_length_le h, List.take_of_length_le (Nat.le_refl _)]
  · rw [Nat.min_eq_right (by omega)]

theorem same_l0 (l m : List Int) (hl : l.length = m.length) (hb : l.length ≤ 140737488355328) : ∀ (d k i : Nat), l.length - i = d → i ≤ l.length → d < k → bagnallkeep_sameBytes.l0 k l m (i : Int) = some (decide (l.drop i = m.drop i)) := by
  intro d
  induction d with
  | zero =>
    intro k i hd hi hk
    obtain ⟨k, rfl⟩ : ∃ q, k = q + 1 := ⟨k - 1, by omega⟩
    simp only [bagnallkeep_sameBytes.l0]
    rw [if_neg (by omega), List.drop_of_length_le (by omega), List.drop_of_length_le (by omega)]; rfl
  | succ d ih =>
    intro k i hd hi hk
    obtain ⟨k, rfl⟩ : ∃ q, k = q + 1 := ⟨k - 1, by omega⟩
    have h1 : i < l.length := by omega
    have h2 : i < m.length := by omega
    have e1 : rd l (i : Int) = l[i] := by simp [rd, List.getD_eq_getElem?_getD, h1]
    have e2 : rd m (i : Int) = m[i] := by simp [rd, List.getD_eq_getElem?_getD, h2]
    simp only [bagnallkeep_sameBytes.l0]
    rw [if_pos (by omega), if_pos (by omega), if_pos (by omega), e1, e2, List.drop_eq_getElem_cons h1, List.drop_eq_getElem_cons h2, dw64 (by omega) (by omega)]
    by_cases hx : l[i] = m[i]
    · rw [if_pos hx, show ((i : Int) + 1) = ((i + 1 : Nat) : Int) by omega, ih k (i + 1) (by omega) (by omega) (by omega), hx]
      exact congrArg some (decide_eq_decide.2 ⟨fun h => by rw [h], fun h => (List.cons.inj h).2⟩)
    · rw [if_neg hx]
      exact (congrArg some (decide_eq_false (fun h => hx (List.cons.inj h).1))).symm

theorem same_f (l m : List Int) (hb : l.length ≤ 140737488355328) (k : Nat) (hk : l.length < k) : bagnallkeep_sameBytes.f k l m = some (decide (l = m)) := by
  unfold bagnallkeep_sameBytes.f
  by_cases h : l.length = m.length
  · rw [if_pos (by omega)]
    have := same_l0 l m h hb l.length k 0 (by omega) (by omega) hk
    simpa using this
  · rw [if_neg (by omega)]
    congr 1; symm
    exact decide_eq_false (fun e => h (by rw [e]))

theorem run_append (l m : List S32) : ∀ (D : List Int) (s : Int), run (l ++ m) D s = ((run l D s).1 ++ (run m (run l D s).2.1 (run l D s).2.2).1, (run m (run l D s).2.1 (run l D s).2.2).2) := by
  induction l with
  | nil => intro D s; simp [run]
  | cons a l ih => intro D s; simp [run, ih]

theorem run_one (m : S32) (D : List Int) (s : Int) : run [m] D s = ([(Disk.step m.f0 m.f1 m.f2 D s).1], (Disk.step m.f0 m.f1 m.f2 D s).2) := by simp [run]

theorem run_ok (l : List S32) : ∀ {D : List Int} {s : Int}, Ok D s → Ok (run l D s).2.1 (run l D s).2.2 := by
  induction l with
  | nil => intro D s h; exact h
  | cons a l ih => intro D s h; exact ih (h.step a.f0 a.f1 a.f2)

theorem ok0 : Ok [] 0 := ⟨by decide, by decide, by decide⟩

theorem data_len (x : Int) : (moveOf x).f1.length ≤ 8 := by
  have h0 := Int.emod_nonneg (wrap64 (Int.tdiv x 8)) (show (9 : Int) ≠ 0 by decide)
  have h1 := Int.emod_lt_of_pos (wrap64 (Int.tdiv x 8)) (show (0 : Int) < 9 by decide)
  unfold moveOf
  split
  · simp
  · split
    · simp
    · split
      · simp
      · simp only [dataOf, List.length_map, List.length_range, cnt]; omega

theorem step_len (k : Int) (b : List Int) (n : Int) (D : List Int) (s : Int) : (Disk.step k b n D s).2.1.length ≤ D.length + b.length := by
  unfold Disk.step
  repeat' split
  all_goals first | (simp; done) | (simp; omega) | (show (List.take _ D).length ≤ _; rw [List.length_take]; omega)

theorem run_len (l : List Int) : ∀ (D : List Int) (s : Int), (run (l.map moveOf) D s).2.1.length ≤ D.length + 8 * l.length := by
  induction l with
  | nil => intro D s; simp [run]
  | cons x l ih =>
    intro D s
    have h1 := ih (Disk.step (moveOf x).f0 (moveOf x).f1 (moveOf x).f2 D s).2.1 (Disk.step (moveOf x).f0 (moveOf x).f1 (moveOf x).f2 D s).2.2
    have h2 := step_len (moveOf x).f0 (moveOf x).f1 (moveOf x).f2 D s
    have h3 := data_len x
    simp only [List.map_cons, run, List.length_cons]
    omega

theorem short_moves (l : List Int) : short (l.map moveOf) = true := by
  rw [short_iff]
  intro m hm
  obtain ⟨x, _, rfl⟩ := List.mem_map.1 hm
  have := data_len x; omega

theorem short_snoc {l : List S32} (h : short l = true) (m : S32) (hm : m.f1.length ≤ 140737488351232) : short (l ++ [m]) = true := by
  rw [short_iff] at h ⊢
  intro q hq
  rcases List.mem_append.1 hq with hq | hq
  · exact h q hq
  · rw [List.mem_singleton.1 hq]; exact hm

theorem play_f {l : List S32} (hl : l.length ≤ 100) (hs : short l = true) : disk_Play.f l = some ((run l [] 0).1, (run l [] 0).2.1, 0) := by
  unfold disk_Play.f; rw [if_neg (by omega), if_pos hs]
theorem held_f {l : List S32} (hl : l.length ≤ 100) (hs : short l = true) : disk_Held.f l = some (((run l [] 0).2.1.length : Int), (run l [] 0).2.2, 0) := by
  unfold disk_Held.f; rw [if_neg (by omega), if_pos hs]

theorem moved_f {l : List S32} (hl : l.length ≤ 100) (hs : short l = true) : bagnallkeep_moved.f l = some ((run l [] 0).2.1, true) := by
  unfold bagnallkeep_moved.f
  rw [play_f hl hs, Option.bind_some, play_f (by decide) (by decide), Option.bind_some]
  generalize (run l [] 0) = R
  rfl

theorem moves_f (l : List Int) (hl : l.length ≤ 140737488351232) (n : Nat) (hn : n ≤ 1000) : bagnallkeep_Moves.f l n = some ((l.take n).map moveOf) := by
  unfold bagnallkeep_Moves.f; rw [if_pos ⟨hl, by omega⟩]; simp

theorem moves_len (l : List Int) (n : Nat) : ((l.take n).map moveOf).length ≤ n := by rw [List.length_map, List.length_take]; omega

end Go.Proofs.Ytmfkgbncnaingaa.Pure
