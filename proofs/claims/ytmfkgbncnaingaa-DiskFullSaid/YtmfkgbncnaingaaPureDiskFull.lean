/- A write passes exactly where it fits. -/
import Derived.Test.YtmfkgbncnaingaaQDiskx6
import Derived.Test.YtmfkgbncnaingaaDiskPa
namespace Go.Proofs.Ytmfkgbncnaingaa.Pure
open Go.RowKit Go.Proofs.Ytmfkgbncnaingaa.QDisk Go.Proofs.Ytmfkgbncnaingaa.Disk Go.Proofs.YtmfkgbncnaingaaW.PrintWords Go.Proofs.YtmfkgbncnaingaaW.PrintLast Go.Proofs.YtmfkgbncnaingaaW.PrintMore

theorem full_last (k : Nat) (x5 x6 x10 : Int) (x7 x8 : List Int) (h : (x8.length : Int) = x10) : bagnallkeep_DiskFull.l0 (k + 1) x5 x6 x7 x8 x10 2 = some true := by
  simp only [bagnallkeep_DiskFull.l0]
  rw [if_neg (by decide), h]
  exact congrArg some (beq_self_eq_true _)

theorem full_step (k : Nat) (x5 x6 x10 x11 x12 c : Int) (x7 x8 : List Int) (h0 : 0 ≤ x11) (h1 : x11 < x7.length) (hr : rd x7 x11 = c) (hc : c = if x10 + x12 ≤ 1200 then 0 else 10) (hb0 : 0 ≤ x10) (hb1 : x10 ≤ 3000) (hb2 : 0 ≤ x12) (hb3 : x12 ≤ 3000) :
    bagnallkeep_DiskFull.j2 (k + 1) x5 x6 x7 x8 x10 x11 x12 = bagnallkeep_DiskFull.l0 k x5 x6 x7 x8 (if x10 + x12 ≤ 1200 then x10 + x12 else x10) (wrap64 (x11 + 1)) := by
  simp only [bagnallkeep_DiskFull.j2]
  rw [if_pos h0, if_pos h1, hr, dw64 (n := x10 + x12) (by omega) (by omega)]
  by_cases h : x10 + x12 ≤ 1200
  · rw [if_pos h] at hc; subst hc
    rw [if_neg (by simp [h]), if_pos rfl, if_pos h]
  · rw [if_neg h] at hc; subst hc
    rw [if_neg (by simp [h]), if_neg (by decide), if_neg h]

theorem full_all (n m : Int) (h0 : 0 ≤ n) (h1 : n < 1250) (h2 : 0 ≤ m) (h3 : m < 1250) (c0 c1 : Int) (D : List Int)
    (hc0 : c0 = if 0 + n ≤ 1200 then 0 else 10) (hc1 : c1 = if (if 0 + n ≤ 1200 then 0 + n else 0) + m ≤ 1200 then 0 else 10)
    (hD : (D.length : Int) = if (if 0 + n ≤ 1200 then 0 + n else 0) + m ≤ 1200 then (if 0 + n ≤ 1200 then 0 + n else 0) + m else (if 0 + n ≤ 1200 then 0 + n else 0)) (k : Nat) :
    bagnallkeep_DiskFull.l0 (k + 5) n m [c0, c1] D 0 0 = some true := by
  have e0 : bagnallkeep_DiskFull.l0 (k + 5) n m [c0, c1] D 0 0 = bagnallkeep_DiskFull.j2 (k + 3 + 1) n m [c0, c1] D 0 0 n := by
    rw [show k + 5 = (k + 4) + 1 from rfl]
    simp only [bagnallkeep_DiskFull.l0]
    rw [if_pos (by decide), if_neg (by decide)]
  rw [e0, full_step (k + 3) n m 0 0 n c0 [c0, c1] D (by decide) (by show (0:Int) < ((2:Nat):Int); decide) rfl hc0 (by decide) (by decide) h0 (by omega)]
  have hu : 0 ≤ (if 0 + n ≤ 1200 then 0 + n else 0) ∧ (if 0 + n ≤ 1200 then 0 + n else 0) ≤ 1250 := by split <;> omega
  revert hc1 hD hu
  generalize (if 0 + n ≤ 1200 then 0 + n else 0) = u
  intro hc1 hD hu
  have e1 : bagnallkeep_DiskFull.l0 (k + 3) n m [c0, c1] D u (wrap64 (0 + 1)) = bagnallkeep_DiskFull.j2 (k + 1 + 1) n m [c0, c1] D u 1 m := by
    rw [show wrap64 (0 + 1) = 1 from dw64 (by decide) (by decide), show k + 3 = (k + 2) + 1 from rfl]
    simp only [bagnallkeep_DiskFull.l0]
    rw [if_pos (by decide), if_pos (by decide)]
  rw [e1, full_step (k + 1) n m u 1 m c1 [c0, c1] D (by decide) (by show (1:Int) < ((2:Nat):Int); decide) rfl hc1 hu.1 (by omega) h2 (by omega), show wrap64 (1 + 1) = 2 from dw64 (by decide) (by decide)]
  exact full_last k n m _ _ D hD

theorem full_one (n s : Int) (D : List Int) (u : Int) (hu : (D.length : Int) = u) (h0 : 0 ≤ n) : (Disk.step 1 (List.replicate n.toNat 0) 0 D s).1 = (if u + n ≤ 1200 then 0 else 10) ∧ ((Disk.step 1 (List.replicate n.toNat 0) 0 D s).2.1.length : Int) = (if u + n ≤ 1200 then u + n else u) := by
  unfold Disk.step
  rw [if_pos rfl, List.length_replicate]
  by_cases h : u + n ≤ 1200
  · rw [if_pos (by omega), if_pos h, if_pos h]
    refine ⟨rfl, ?_⟩
    show ((D ++ List.replicate n.toNat 0).length : Int) = _
    rw [List.length_append, List.length_replicate]; omega
  · rw [if_neg (by omega), if_neg h, if_neg h]
    exact ⟨rfl, hu⟩

theorem full_run (n m : Int) (h0 : 0 ≤ n) (h2 : 0 ≤ m) : ∃ c0 c1 D s, run [(⟨1, List.replicate n.toNat 0, 0⟩ : S32), (⟨1, List.replicate m.toNat 0, 0⟩ : S32)] [] 0 = ([c0, c1], D, s) ∧ (c0 = if 0 + n ≤ 1200 then 0 else 10) ∧ (c1 = if (if 0 + n ≤ 1200 then 0 + n else 0) + m ≤ 1200 then 0 else 10) ∧
    ((D.length : Int) = if (if 0 + n ≤ 1200 then 0 + n else 0) + m ≤ 1200 then (if 0 + n ≤ 1200 then 0 + n else 0) + m else (if 0 + n ≤ 1200 then 0 + n else 0)) := by
  have h := full_one n 0 [] 0 rfl h0
  have h' := full_one m (Disk.step 1 (List.replicate n.toNat 0) 0 [] 0).2.2 (Disk.step 1 (List.replicate n.toNat 0) 0 [] 0).2.1 _ h.2 h2
  exact ⟨_, _, _, _, rfl, h.1, h'.1, h'.2⟩

theorem DiskFull : bagnallkeep_DiskFull.Pure := by
  intro a0 a1 _ _
  have hP := dpicked a0 1250 (by decide) (by decide)
  have hp0 := Int.emod_nonneg a0 (show (1250 : Int) ≠ 0 by decide)
  have hp1 := Int.emod_lt_of_pos a0 (show (0 : Int) < 1250 by decide)
  have hQ := dpicked a1 1250 (by decide) (by decide)
  have hq0 := Int.emod_nonneg a1 (show (1250 : Int) ≠ 0 by decide)
  have hq1 := Int.emod_lt_of_pos a1 (show (0 : Int) < 1250 by decide)
  revert hP hp0 hp1 hQ hq0 hq1
  generalize a0 % 1250 = n
  generalize a1 % 1250 = m
  intro hP hp0 hp1 hQ hq0 hq1
  obtain ⟨c0, c1, D, s, hR, h0, h1, h2⟩ := full_run n m hp0 hq0
  have hsh : short [(⟨1, List.replicate n.toNat 0, 0⟩ : S32), (⟨1, List.replicate m.toNat 0, 0⟩ : S32)] = true := by
    rw [short_iff]
    intro q hq
    rcases List.mem_cons.1 hq with rfl | hq
    · show (List.replicate n.toNat (0 : Int)).length ≤ _; rw [List.length_replicate]; omega
    · rw [List.mem_singleton.1 hq]; show (List.replicate m.toNat (0 : Int)).length ≤ _; rw [List.length_replicate]; omega
  refine ⟨6, ?_⟩
  unfold bagnallkeep_DiskFull.f
  rw [hP, Option.bind_some, hQ, Option.bind_some, if_pos hp0, if_pos (by omega), if_pos hq0, if_pos (by omega), play_f (by show (2:Nat) ≤ 100; decide) hsh, Option.bind_some, hR, if_pos rfl]
  show bagnallkeep_DiskFull.j0 (5 + 1) n m [c0, c1] D false = some true
  simp only [bagnallkeep_DiskFull.j0]
  rw [if_neg Bool.false_ne_true]
  exact full_all n m hp0 hp1 hq0 hq1 c0 c1 D h0 h1 h2 0

end Go.Proofs.Ytmfkgbncnaingaa.Pure
