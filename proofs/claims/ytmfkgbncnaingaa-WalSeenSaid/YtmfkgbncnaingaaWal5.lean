/- The first frame of bytes. -/
import Derived.Test.YtmfkgbncnaingaaWal4
import Derived.Deep.RegionHeld3
namespace Go.Proofs.Ytmfkgbncnaingaa.Wal
open Go.RowKit Go.Proofs.Ytmfkgbncnaingaa.QWal Go.Proofs.YtmfkgbncnaingaaW.PrintWords Go.Proofs.YtmfkgbncnaingaaW.PrintLast Go.Proofs.YtmfkgbncnaingaaW.PrintMore

/-- Two pairs of bytes, compared. -/
theorem eq2 (W : World) (s1 s2 y0 y1 : Int) : Sem.run Try.prog (Op.equalIn 10000 135 (.agg #[.int .u8 s1, .int .u8 s2]) (.agg #[.int .u8 y0, .int .u8 y1])) W = .ok (s1 == y0 && s2 == y1) W := by
  have h1 := fun d a b W => run_equalIn_int (P := Try.prog) W d 5 .u8 .u8 a b Try.underlying5
  have h5 := Try.sizeOf5
  have ha := Try.isAgg5
  rw [show (10000 : Nat) = 9998 + 1 + 1 from rfl]
  unfold Op.equalIn
  simp [run_underlying Try.underlying135, h5, part, ha, Std.Legacy.Range.forIn_eq_forIn_range', List.range', Std.Legacy.Range.size, h1]
  by_cases h : s1 = y0
  · by_cases h2 : s2 = y1
    · simp [h, h2]
    · simp [h, h2]
  · simp [h]

theorem below_undrew {w w3 : World} (h : Below w.drew.heap.size w.drew w3) : Below w.heap.size w w3 := ⟨h.os, h.tape, h.output, h.size, h.block⟩

/-- Is the beginning no frame's, by its first two bytes? -/
def noHead (b : List Int) : Prop := b.length < 2 ∨ rd b 0 < 1 ∨ 60 < rd b 0 ∨ 1 < rd b 1
/-- Behind how many bytes the sums stand. -/
def wide (b : List Int) : Nat := 2 + (rd b 0).toNat
/-- The first frame is not there, or not as it must be. -/
def noSums (b : List Int) : Prop := b.length < wide b + 2 ∨ sumsOf (b.take (wide b)) ≠ (rd b (wide b), rd b ((wide b : Int) + 1))

set_option maxRecDepth 100000 in
set_option maxHeartbeats 4000000 in
theorem first_head (A : Option Addr) (c : Nat) (b : List Int) (w : World) (hr : Kd.C (Kd.int .u8) w A b.length b) (h : noHead b) :
    Calls Try.prog 72 #[.slice A b.length c] w fun e w' => e = .returned (.tuple #[.slice none 0 0, .bool false, .int .i64 0]) ∧ w = w' := by
  by_cases h0 : b.length < 2
  · have hb0 : decide ((b.length : Int) < 2) = true := decide_eq_true (by omega)
    clear h hr
    go_enter Try.func72, Try.ntmps72
    go_wp2
    go_ret3
    exact ⟨rfl, rfl⟩
  · have hb0 : decide ((b.length : Int) < 2) = false := decide_eq_false (by omega)
    obtain ⟨ad, rfl, hx0⟩ := Kd.at_int hr 0 (by omega) (by omega)
    obtain ⟨ad', e, hx1⟩ := Kd.at_int hr 1 (by omega) (by omega)
    injection e with e
    subst e
    have hx0' : w.cell? ad = some (.int .u8 (rd b 0)) := by rw [← hx0]; simp [Addr.add]
    have hx1' : w.cell? ⟨ad.block, ad.off + 1, none⟩ = some (.int .u8 (rd b 1)) := by rw [← hx1]; simp [Addr.add]
    have hl0 : (0 : Int) < (b.length : Int) := by omega
    have hl1 : (1 : Int) < (b.length : Int) := by omega
    unfold noHead at h
    clear hr hx0 hx1
    generalize rd b 0 = x0 at *
    generalize rd b 1 = x1 at *
    by_cases h1 : x0 < 1
    · have hb1 := decide_eq_true h1
      clear h h1 h0
      go_enter Try.func72, Try.ntmps72
      go_wp2
      go_ret3
      exact ⟨rfl, rfl⟩
    · have hb1 := decide_eq_false h1
      by_cases h2 : 60 < x0
      · have hb2 := decide_eq_true h2
        clear h h1 h0 h2
        go_enter Try.func72, Try.ntmps72
        go_wp2
        go_ret3
        exact ⟨rfl, rfl⟩
      · have hb2 := decide_eq_false h2
        have hb3 := decide_eq_true (show 1 < x1 by rcases h with h | h | h | h; exact absurd h h0; exact absurd h h1; exact absurd h h2; exact h)
        clear h h1 h0 h2
        go_enter Try.func72, Try.ntmps72
        go_wp2
        go_ret3
        exact ⟨rfl, rfl⟩

set_option maxRecDepth 100000 in
set_option maxHeartbeats 4000000 in
theorem first_short (A : Option Addr) (c : Nat) (b : List Int) (w : World) (hr : Kd.C (Kd.int .u8) w A b.length b) (h : ¬ noHead b) (hs : b.length < wide b + 2) :
    Calls Try.prog 72 #[.slice A b.length c] w fun e w' => e = .returned (.tuple #[.slice none 0 0, .bool false, .int .i64 0]) ∧ Below w.heap.size w w' := by
  unfold noHead at h
  unfold wide at hs
  obtain ⟨ad, rfl, hx0⟩ := Kd.at_int hr 0 (by omega) (by omega)
  obtain ⟨ad', e, hx1⟩ := Kd.at_int hr 1 (by omega) (by omega)
  injection e with e
  subst e
  have hx0' : w.cell? ad = some (.int .u8 (rd b 0)) := by rw [← hx0]; simp [Addr.add]
  have hx1' : w.cell? ⟨ad.block, ad.off + 1, none⟩ = some (.int .u8 (rd b 1)) := by rw [← hx1]; simp [Addr.add]
  have hl0 : (0 : Int) < (b.length : Int) := by omega
  have hl1 : (1 : Int) < (b.length : Int) := by omega
  have hb0 : decide ((b.length : Int) < 2) = false := decide_eq_false (by omega)
  clear hr hx0 hx1
  generalize rd b 0 = x0 at *
  generalize rd b 1 = x1 at *
  have hb1 : decide (x0 < 1) = false := decide_eq_false (by omega)
  have hb2 : decide (60 < x0) = false := decide_eq_false (by omega)
  have hb3 : decide (1 < x1) = false := decide_eq_false (by omega)
  have hb4 : decide ((b.length : Int) < 2 + x0 + 2) = true := decide_eq_true (by omega)
  have h5 : 1 ≤ x0 := by omega
  have h6 : x0 ≤ 60 := by omega
  clear h hs
  go_enter Try.func72, Try.ntmps72
  go_wp2
  go_quiet (fail)
  go_wp2
  go_ret3
  exact ⟨rfl, pw_below_drewN (Below.refl _ _) _⟩

set_option maxRecDepth 100000 in
set_option maxHeartbeats 4000000 in
theorem first_sums (A : Option Addr) (c : Nat) (b : List Int) (w : World) (hr : Kd.C (Kd.int .u8) w A b.length b) (hc : b.length ≤ c) (h : ¬ noHead b) (hs : ¬ b.length < wide b + 2) (hx : ∀ x ∈ b, 0 ≤ x ∧ x < 256) (hbl0 : b.length ≤ 100000) (hn : sumsOf (b.take (wide b)) ≠ (rd b (wide b), rd b ((wide b : Int) + 1))) :
    Calls Try.prog 72 #[.slice A b.length c] w fun e w' => e = .returned (.tuple #[.slice none 0 0, .bool false, .int .i64 0]) ∧ Below w.heap.size w w' := by
  have hr0 := hr
  unfold noHead at h
  have hwd : (wide b : Int) = 2 + rd b 0 := by unfold wide; omega
  have hk1 : 3 ≤ wide b := by omega
  obtain ⟨ad, rfl, hx0⟩ := Kd.at_int hr 0 (by omega) (by omega)
  obtain ⟨ad', e, hx1⟩ := Kd.at_int hr 1 (by omega) (by omega)
  injection e with e
  subst e
  obtain ⟨ad', e, hy0⟩ := Kd.at_int hr (wide b) (by omega) (by omega)
  injection e with e
  subst e
  obtain ⟨ad', e, hy1⟩ := Kd.at_int hr ((wide b : Int) + 1) (by omega) (by omega)
  injection e with e
  subst e
  have hx0' : w.cell? ad = some (.int .u8 (rd b 0)) := by rw [← hx0]; simp [Addr.add]
  have hx1' : w.cell? ⟨ad.block, ad.off + 1, none⟩ = some (.int .u8 (rd b 1)) := by rw [← hx1]; simp [Addr.add]
  have hl0 : (0 : Int) < (b.length : Int) := by omega
  have hl1 : (1 : Int) < (b.length : Int) := by omega
  have hb0 : decide ((b.length : Int) < 2) = false := decide_eq_false (by omega)
  have hb1 : decide (rd b 0 < 1) = false := decide_eq_false (by omega)
  have hb2 : decide (60 < rd b 0) = false := decide_eq_false (by omega)
  have hb3 : decide (1 < rd b 1) = false := decide_eq_false (by omega)
  have hb4 : decide ((b.length : Int) < (wide b : Int) + 2) = false := decide_eq_false (by omega)
  have h5 : 1 ≤ rd b 0 := by omega
  have h6 : rd b 0 ≤ 60 := by omega
  rw [Int.toNat_natCast] at hy0
  rw [show ((wide b : Int) + 1).toNat = wide b + 1 by omega] at hy1
  generalize rd b 0 = x0 at *
  generalize rd b 1 = x1 at *
  generalize rd b (wide b) = y0 at *
  generalize rd b ((wide b : Int) + 1) = y1 at *
  have hkk : 2 + x0 = (wide b : Int) := hwd.symm
  have hlk : (wide b : Int) ≤ (b.length : Int) := by omega
  have hlk2 : (wide b : Int) + 2 ≤ (c : Int) := by omega
  generalize wide b = k at *
  have hy1' : w.cell? ⟨(ad.add k).block, (ad.add k).off + 1, none⟩ = some (.int .u8 y1) := by rw [← add_field ad k 1 (by omega)]; exact hy1
  have hcne : (c = k) = False := eq_false (by omega)
  have hlen : (b.take k).length = k := by rw [List.length_take]; omega
  have hbl : b.length ≤ 100000 := hbl0
  have HS := fun w' (h : Kd.C (Kd.int .u8) w' (some ad) b.length b) => Aside0.mk (by have h2 := sums_calls (some ad) c (b.take k) w' (Kd.C_take h (by omega)) (by omega) (fun x h => hx x (List.mem_of_mem_take h)); rw [hlen] at h2; exact h2 : Calls Try.prog 89 #[.slice (some ad) k c] w' fun e w'' => e = .returned (.agg #[.int .u8 (sumsOf (b.take k)).1, .int .u8 (sumsOf (b.take k)).2]) ∧ Below w'.heap.size w' w'')
  have hkc : (k : Int) ≤ (c : Int) := by omega
  have harr : ∀ W, Sem.run Try.prog (Instr.arrayAt 135 (.slice (some (ad.add k)) 2 (c - k))) W = .ok (.pointer (some (ad.add k))) W := fun W => by
    simp [Instr.arrayAt, run_underlying Try.underlying135]
  have hk2 : (k : Int) ≤ (k : Int) + 2 := by omega
  have htn : ((k : Int) + 2).toNat - k = 2 := by omega
  have harr2 : ∀ W, Sem.run Try.prog (Instr.arrayAt 135 (.slice (some (ad.add k)) (((k : Int) + 2).toNat - k) (c - k))) W = .ok (.pointer (some (ad.add k))) W := fun W => by rw [htn]; exact harr W
  have heq : ∀ W, Sem.run Try.prog (Op.equalIn 10000 135 (.agg #[.int .u8 (sumsOf (b.take k)).1, .int .u8 (sumsOf (b.take k)).2]) (.agg #[.int .u8 y0, .int .u8 y1])) W = .ok false W := fun W => by
    rw [eq2]
    congr 1
    by_cases h1 : (sumsOf (b.take k)).1 = y0
    · by_cases h2 : (sumsOf (b.take k)).2 = y1
      · exact absurd (Prod.ext h1 h2) hn
      · simp [h2]
    · simp [h1]
  have hwk : IntKind.i64.wrap ((k : Int) + 2) = (k : Int) + 2 := IntWalk.i64_in _ (by omega)
  generalize sumsOf (b.take k) = sm at *
  obtain ⟨s1, s2⟩ := sm
  have HR := Aside0.mk (Kd.C_drew hr0)
  clear h hx0 hx1 hs hwd hr hr0 hx hlen hbl
  go_enter Try.func72, Try.ntmps72
  go_wp2
  go_region_held3 (fun x => x.cell? (ad.add k) = some (.int .u8 y0) ∧ x.cell? ⟨(ad.add k).block, (ad.add k).off + 1, none⟩ = some (.int .u8 y1)) (first | exact ⟨hy0, hy1'⟩ | exact hk.out) (first | (go_at_call 89; refine (HS _ HR.out).out.mono ?_; rintro e w3 ⟨rfl, hb⟩; have hk := Aside0.mk (And.intro (pw_cell_below hb hy0) (pw_cell_below hb hy1')); have HB := Aside0.mk hb; clear hb))
  all_goals
    go_wp2
    go_ret3
    exact ⟨rfl, below_undrew HB.out⟩

set_option maxRecDepth 100000 in
set_option maxHeartbeats 4000000 in
theorem first_ok (A : Option Addr) (c : Nat) (b : List Int) (w : World) (hr : Kd.C (Kd.int .u8) w A b.length b) (hc : b.length ≤ c) (h : ¬ noHead b) (hs : ¬ b.length < wide b + 2) (hx : ∀ x ∈ b, 0 ≤ x ∧ x < 256) (hbl0 : b.length ≤ 100000) (hn : sumsOf (b.take (wide b)) = (rd b (wide b), rd b ((wide b : Int) + 1))) :
    Calls Try.prog 72 #[.slice A b.length c] w fun e w' => ∃ A', e = .returned (.tuple #[.slice A' (wide b - 2) (wide b - 2), .bool (rd b 1 == 1), .int .i64 ((wide b : Int) + 2)]) ∧ (Kd.int .u8).C w A' (wide b - 2) ((b.take (wide b)).drop 2) ∧ Below w.heap.size w w' := by
  have hr0 := hr
  unfold noHead at h
  have hwd : (wide b : Int) = 2 + rd b 0 := by unfold wide; omega
  have hk1 : 3 ≤ wide b := by omega
  obtain ⟨ad, rfl, hx0⟩ := Kd.at_int hr 0 (by omega) (by omega)
  obtain ⟨ad', e, hx1⟩ := Kd.at_int hr 1 (by omega) (by omega)
  injection e with e
  subst e
  obtain ⟨ad', e, hy0⟩ := Kd.at_int hr (wide b) (by omega) (by omega)
  injection e with e
  subst e
  obtain ⟨ad', e, hy1⟩ := Kd.at_int hr ((wide b : Int) + 1) (by omega) (by omega)
  injection e with e
  subst e
  have hx0' : w.cell? ad = some (.int .u8 (rd b 0)) := by rw [← hx0]; simp [Addr.add]
  have hx1' : w.cell? ⟨ad.block, ad.off + 1, none⟩ = some (.int .u8 (rd b 1)) := by rw [← hx1]; simp [Addr.add]
  have hl0 : (0 : Int) < (b.length : Int) := by omega
  have hl1 : (1 : Int) < (b.length : Int) := by omega
  have hb0 : decide ((b.length : Int) < 2) = false := decide_eq_false (by omega)
  have hb1 : decide (rd b 0 < 1) = false := decide_eq_false (by omega)
  have hb2 : decide (60 < rd b 0) = false := decide_eq_false (by omega)
  have hb3 : decide (1 < rd b 1) = false := decide_eq_false (by omega)
  have hb4 : decide ((b.length : Int) < (wide b : Int) + 2) = false := decide_eq_false (by omega)
  have h5 : 1 ≤ rd b 0 := by omega
  have h6 : rd b 0 ≤ 60 := by omega
  rw [Int.toNat_natCast] at hy0
  rw [show ((wide b : Int) + 1).toNat = wide b + 1 by omega] at hy1
  generalize rd b 0 = x0 at *
  generalize rd b 1 = x1 at *
  generalize rd b (wide b) = y0 at *
  generalize rd b ((wide b : Int) + 1) = y1 at *
  have hkk : 2 + x0 = (wide b : Int) := hwd.symm
  have hlk : (wide b : Int) ≤ (b.length : Int) := by omega
  have hlk2 : (wide b : Int) + 2 ≤ (c : Int) := by omega
  generalize wide b = k at *
  have hy1' : w.cell? ⟨(ad.add k).block, (ad.add k).off + 1, none⟩ = some (.int .u8 y1) := by rw [← add_field ad k 1 (by omega)]; exact hy1
  have hcne : (c = k) = False := eq_false (by omega)
  have hlen : (b.take k).length = k := by rw [List.length_take]; omega
  have hbl : b.length ≤ 100000 := hbl0
  have HS := fun w' (h : Kd.C (Kd.int .u8) w' (some ad) b.length b) => Aside0.mk (by have h2 := sums_calls (some ad) c (b.take k) w' (Kd.C_take h (by omega)) (by omega) (fun x h => hx x (List.mem_of_mem_take h)); rw [hlen] at h2; exact h2 : Calls Try.prog 89 #[.slice (some ad) k c] w' fun e w'' => e = .returned (.agg #[.int .u8 (sumsOf (b.take k)).1, .int .u8 (sumsOf (b.take k)).2]) ∧ Below w'.heap.size w' w'')
  have hkc : (k : Int) ≤ (c : Int) := by omega
  have harr : ∀ W, Sem.run Try.prog (Instr.arrayAt 135 (.slice (some (ad.add k)) 2 (c - k))) W = .ok (.pointer (some (ad.add k))) W := fun W => by
    simp [Instr.arrayAt, run_underlying Try.underlying135]
  have hk2 : (k : Int) ≤ (k : Int) + 2 := by omega
  have htn : ((k : Int) + 2).toNat - k = 2 := by omega
  have harr2 : ∀ W, Sem.run Try.prog (Instr.arrayAt 135 (.slice (some (ad.add k)) (((k : Int) + 2).toNat - k) (c - k))) W = .ok (.pointer (some (ad.add k))) W := fun W => by rw [htn]; exact harr W
  have heq : ∀ W, Sem.run Try.prog (Op.equalIn 10000 135 (.agg #[.int .u8 (sumsOf (b.take k)).1, .int .u8 (sumsOf (b.take k)).2]) (.agg #[.int .u8 y0, .int .u8 y1])) W = .ok true W := fun W => by
    rw [eq2, hn]; simp
  have hk3 : (2 : Int) ≤ (k : Int) := by omega
  have hk4 : (k = 2) = False := eq_false (by omega)
  have HC2 := Aside0.mk (show Kd.C (Kd.int .u8) w (some ⟨ad.block, ad.off + 2, none⟩) (k - 2) ((b.take k).drop 2) by
    have h1 := Kd.C_drop (c := k) (m := 2) (Kd.C_take hr0 (show k ≤ b.length by omega)) (by rw [List.length_take]; omega) (by rw [List.length_take]; omega)
    rw [if_neg (show ¬ k = 2 by omega), List.length_drop, List.length_take, Nat.min_eq_left (by omega)] at h1
    have h2 : (some ad : Option Addr).map (·.add (2 * (Kd.int .u8).sz)) = some ⟨ad.block, ad.off + 2, none⟩ := by
      show some (ad.add 2) = _
      simp [Addr.add]
    rw [h2] at h1
    exact h1)
  have hwk : IntKind.i64.wrap ((k : Int) + 2) = (k : Int) + 2 := IntWalk.i64_in _ (by omega)
  generalize sumsOf (b.take k) = sm at *
  obtain ⟨s1, s2⟩ := sm
  have HR := Aside0.mk (Kd.C_drew hr0)
  clear h hx0 hx1 hs hwd hr hr0 hx hlen hbl
  go_enter Try.func72, Try.ntmps72
  go_wp2
  go_region_held3 (fun x => x.cell? (ad.add k) = some (.int .u8 y0) ∧ x.cell? ⟨(ad.add k).block, (ad.add k).off + 1, none⟩ = some (.int .u8 y1)) (first | exact ⟨hy0, hy1'⟩ | exact hk.out) (first | (go_at_call 89; refine (HS _ HR.out).out.mono ?_; rintro e w3 ⟨rfl, hb⟩; have hk := Aside0.mk (And.intro (pw_cell_below hb hy0) (pw_cell_below hb hy1')); have HB := Aside0.mk hb; have h13 := pw_cell_below hb hx1'; clear hb))
  all_goals
    go_wp2
    go_quiet (fail)
    go_wp2
    go_ret3
    exact ⟨_, rfl, HC2.out, pw_below_drewN (below_undrew HB.out) _⟩

end Go.Proofs.Ytmfkgbncnaingaa.Wal
