/- json.Check, json.Text at values that may be. -/
import Derived.Test.YtmhfkbgdkgfafaaDoorJsF
import Derived.Test.YtmhfkbgdkgfafaaDoorQJsonx7
import Derived.Test.YtmhfkbgdkgfafaaDoorQJsonx8
namespace Go.Proofs.YtmhfkbgdkgfafaaDoor.Js
open Go.RowKit Go.Proofs.YtmhfkbgdkgfafaaDoor.QJson Go.Proofs.YtmhfkbgdkgfafaaDoorW.PrintWords Go.Proofs.YtmhfkbgdkgfafaaDoorW.PrintLast Go.Proofs.YtmhfkbgdkgfafaaDoorW.PrintMore
set_option linter.unusedVariables false
set_option linter.unusedSimpArgs false

mutual
/-- How many values there are. -/
def cnt : S26 → Nat
  | ⟨_, _, _, _, ps⟩ => 1 + cnts ps
def cnts : List S26 → Nat
  | [] => 0
  | p :: ps => cnt p + cnts ps
end
theorem cnt_eq (v : S26) : cnt v = 1 + cnts v.f4 := by obtain ⟨k, n, t, ks, ps⟩ := v; rw [cnt]
theorem cnts_drop (ps : List S26) (i : Nat) (hi : i < ps.length) : cnts (ps.drop i) = cnt ps[i] + cnts (ps.drop (i + 1)) := by
  rw [List.drop_eq_getElem_cons hi, cnts]
theorem cnts_le (ps : List S26) : ∀ p ∈ ps, cnt p ≤ cnts ps := by
  induction ps with
  | nil => intro p hp; cases hp
  | cons q qs ih =>
    intro p hp
    rw [cnts]
    rcases List.mem_cons.1 hp with rfl | hp
    · omega
    · have := ih p hp; omega
/-- A bound for all of a list. -/
theorem all_bound {P : S26 → Nat → Prop} (ps : List S26) (h : ∀ p ∈ ps, ∃ K, ∀ m, K ≤ m → P p m) : ∃ K, ∀ p ∈ ps, ∀ m, K ≤ m → P p m := by
  induction ps with
  | nil => exact ⟨0, fun p hp => by cases hp⟩
  | cons q qs ih =>
    obtain ⟨K1, h1⟩ := h q (List.mem_cons_self ..)
    obtain ⟨K2, h2⟩ := ih (fun p hp => h p (List.mem_cons_of_mem _ hp))
    refine ⟨K1 + K2, fun p hp m hm => ?_⟩
    rcases List.mem_cons.1 hp with rfl | hp
    · exact h1 m (by omega)
    · exact h2 p hp m (by omega)
theorem rd_at (ps : List S26) (i : Nat) (hi : i < ps.length) : rd_T26 ps (i : Int) = ps[i] := by simp [rd_T26, List.getD_eq_getElem?_getD, hi]
theorem w64n (n : Nat) (h : n ≤ 4000000) : wrap64 (n : Int) = (n : Int) := by unfold wrap64; omega

theorem count_loop (ps : List S26) (K : Nat) (hK : ∀ p ∈ ps, ∀ m, K ≤ m → json_count.f m p.f0 p.f1 p.f2 p.f3 p.f4 = some (cnt p : Int)) (hl : ps.length ≤ 1000001) :
    ∀ (d i a m : Nat), i + d = ps.length → K + d + 1 ≤ m → a + cnts (ps.drop i) ≤ 2000000 → json_count.l0 m (a : Int) ps (ps.length : Int) (i : Int) = some ((a + cnts (ps.drop i) : Nat) : Int) := by
  intro d
  induction d with
  | zero =>
    intro i a m hi hm ha
    obtain ⟨m, rfl⟩ : ∃ q, m = q + 1 := ⟨m - 1, by omega⟩
    rw [json_count.l0, if_neg (by omega), List.drop_of_length_le (by omega)]
    rw [cnts, Nat.add_zero]
  | succ d ih =>
    intro i a m hi hm ha
    obtain ⟨m, rfl⟩ : ∃ q, m = q + 1 := ⟨m - 1, by omega⟩
    have hlt : i < ps.length := by omega
    have hd := cnts_drop ps i hlt
    rw [json_count.l0, if_pos (by omega), if_pos (by omega), if_pos (by omega), rd_at ps i hlt, hK _ (List.getElem_mem hlt) m (by omega), Option.bind_some]
    rw [show ((a : Int) + (cnt ps[i] : Int)) = ((a + cnt ps[i] : Nat) : Int) by omega, w64n _ (by omega), show ((i : Int) + 1) = ((i + 1 : Nat) : Int) by omega, w64n _ (by omega)]
    rw [ih (i + 1) (a + cnt ps[i]) m (by omega) (by omega) (by omega), hd, Nat.add_assoc]
theorem count_some : ∀ (d : Nat) (v : S26), WF d v → cnt v ≤ 1000000 → (∀ e u, WF e u → u.f4.length ≤ 1000001 ∨ 1000000 < cnt u) → ∃ K, ∀ m, K ≤ m → json_count.f m v.f0 v.f1 v.f2 v.f3 v.f4 = some (cnt v : Int)
  | 0, v, hv, _, _ => nomatch hv
  | d + 1, v, hv, hc, hl => by
    have hce := cnt_eq v
    obtain ⟨K, hK⟩ := all_bound (P := fun p m => json_count.f m p.f0 p.f1 p.f2 p.f3 p.f4 = some (cnt p : Int)) v.f4 (fun p hp => count_some d p (hv.part hp) (by have := cnts_le v.f4 p hp; omega) hl)
    refine ⟨K + v.f4.length + 2, fun m hm => ?_⟩
    obtain ⟨m, rfl⟩ : ∃ q, m = q + 1 := ⟨m - 1, by omega⟩
    have h1 := count_loop v.f4 K hK (by rcases hl _ v hv with h | h <;> omega) v.f4.length 0 1 m (by omega) (by omega) (by rw [List.drop_zero]; omega)
    rw [List.drop_zero, ← hce] at h1
    rw [json_count.f]
    exact h1
theorem cnts_len (ps : List S26) : ps.length ≤ cnts ps := by
  induction ps with
  | nil => simp [cnts]
  | cons q qs ih => rw [cnts, List.length_cons, cnt_eq]; omega
theorem count_calls_some (d : Nat) (v : S26) (hv : WF d v) (hc : cnt v ≤ 1000000) : ∃ K, json_count.f K v.f0 v.f1 v.f2 v.f3 v.f4 = some (cnt v : Int) := by
  obtain ⟨K, h⟩ := count_some d v hv hc (fun e u _ => by
    have h1 := cnts_len u.f4
    have h2 := cnt_eq u
    omega)
  exact ⟨K, h K (Nat.le_refl _)⟩

theorem ascend_loop (ks : List ByteArray) (ha : Ascs ks) (hl : ks.length ≤ 1000001) : ∀ (d i m : Nat), i + d = ks.length → d + 1 ≤ m → json_ascend.l0 m ks ks (ks.length : Int) (i : Int) = some true := by
  intro d
  induction d with
  | zero =>
    intro i m hi hm
    obtain ⟨m, rfl⟩ : ∃ q, m = q + 1 := ⟨m - 1, by omega⟩
    rw [json_ascend.l0, if_neg (by omega)]
  | succ d ih =>
    intro i m hi hm
    obtain ⟨m, rfl⟩ : ∃ q, m = q + 1 := ⟨m - 1, by omega⟩
    have hn := ih (i + 1) m (by omega) (by omega)
    rw [json_ascend.l0, if_pos (by omega), if_pos (by omega), if_pos (by omega)]
    rw [show ((i : Int) + 1) = ((i + 1 : Nat) : Int) by omega, w64n _ (by omega)]
    by_cases h0 : i = 0
    · rw [if_neg (by omega)]; exact hn
    · have hlt : i - 1 + 1 < ks.length := by omega
      have h1 := ha (i - 1) hlt
      have e0 : wrap64 ((i : Int) - 1) = ((i - 1 : Nat) : Int) := by unfold wrap64; omega
      have e1 : rdOf ByteArray.empty ks ((i - 1 : Nat) : Int) = ks[i - 1] := by simp [rdOf, List.getD_eq_getElem?_getD, show i - 1 < ks.length by omega]
      have e2 : rdOf ByteArray.empty ks (i : Int) = ks[i - 1 + 1] := by simp [rdOf, List.getD_eq_getElem?_getD, show i < ks.length by omega, show i - 1 + 1 = i by omega]
      rw [if_pos (by omega), e0, if_pos (by omega), if_pos (by omega), e1, e2, if_pos h1]
      exact hn
theorem fault_loop (a : Nat) (ps : List S26) (K : Nat) (ha : a ≤ 100) (hK : ∀ p ∈ ps, ∀ m, K ≤ m → json_fault.f m p.f0 p.f1 p.f2 p.f3 p.f4 ((a + 1 : Nat) : Int) = some 0) (hl : ps.length ≤ 1000001) :
    ∀ (d i m : Nat), i + d = ps.length → K + d + 1 ≤ m → json_fault.l0 m (a : Int) ps (ps.length : Int) (i : Int) = some 0 := by
  intro d
  induction d with
  | zero =>
    intro i m hi hm
    obtain ⟨m, rfl⟩ : ∃ q, m = q + 1 := ⟨m - 1, by omega⟩
    rw [json_fault.l0, if_neg (by omega)]
  | succ d ih =>
    intro i m hi hm
    obtain ⟨m, rfl⟩ : ∃ q, m = q + 1 := ⟨m - 1, by omega⟩
    have hlt : i < ps.length := by omega
    rw [json_fault.l0, if_pos (by omega), if_pos (by omega), if_pos (by omega), rd_at ps i hlt]
    rw [show ((a : Int) + 1) = ((a + 1 : Nat) : Int) by omega, w64n _ (by omega), hK _ (List.getElem_mem hlt) m (by omega), Option.bind_some, if_pos rfl]
    rw [show ((i : Int) + 1) = ((i + 1 : Nat) : Int) by omega, w64n _ (by omega)]
    exact ih (i + 1) m (by omega) (by omega)
theorem fault_some : ∀ (d : Nat) (v : S26) (a : Nat), WF d v → cnt v ≤ 1000000 → a + d ≤ 6 → ∃ K, ∀ m, K ≤ m → json_fault.f m v.f0 v.f1 v.f2 v.f3 v.f4 (a : Int) = some 0
  | 0, v, _, hv, _, _ => nomatch hv
  | d + 1, v, a, hv, hc, hd => by
    have hce := cnt_eq v
    have hcl := cnts_len v.f4
    obtain ⟨K, hK⟩ := all_bound (P := fun p m => json_fault.f m p.f0 p.f1 p.f2 p.f3 p.f4 ((a + 1 : Nat) : Int) = some 0) v.f4 (fun p hp => fault_some d p (a + 1) (hv.part hp) (by have := cnts_le v.f4 p hp; omega) (by omega))
    have hkl : v.f3.length ≤ 1000001 := by have := hv.keysLen; omega
    refine ⟨K + v.f4.length + v.f3.length + 6, fun m hm => ?_⟩
    obtain ⟨m, rfl⟩ : ∃ q, m = q + 4 := ⟨m - 4, by omega⟩
    have hnum := hv.num
    have hkind := hv.kind
    have hpl := hv.plainOk
    have has := hv.ascOk
    have hkp := hv.keys
    have h1 := fault_loop a v.f4 K (by omega) hK (by omega) v.f4.length 0 (m + 1) (by omega) (by omega)
    have h2 : json_ascend.f (m + 2) v.f3 = some true := ascend_loop v.f3 has hkl v.f3.length 0 (m + 2) (by omega) (by omega)
    have h3 : json_fault.j1 (m + 2) (a : Int) false v.f0 v.f1 v.f2 v.f3 v.f4 = some 0 := by
      rw [json_fault.j1, if_neg (by decide), if_neg (by omega), if_neg (by omega)]
      exact h1
    rw [json_fault.f, if_neg (by omega), if_neg (by omega), decide_eq_false (by omega), json_fault.j0, if_neg (by decide), json_plain.f, Option.bind_some, if_pos hpl]
    by_cases h7 : v.f0 = 7
    · rw [if_pos h7, if_pos (by have := hkp h7; omega), h2, Option.bind_some]; exact h3
    · rw [if_neg h7, h2, Option.bind_some]; exact h3

end Go.Proofs.YtmhfkbgdkgfafaaDoor.Js
