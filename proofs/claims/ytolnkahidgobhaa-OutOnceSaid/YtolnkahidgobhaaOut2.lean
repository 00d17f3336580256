/- What Tick and End do to an outbox. -/
import Derived.Test.YtolnkahidgobhaaOut1
namespace Go.Proofs.Ytolnkahidgobhaa.Out
open Go.RowKit Go.Proofs.Ytolnkahidgobhaa.QOut Go.Proofs.YtolnkahidgobhaaW.PrintWords Go.Proofs.YtolnkahidgobhaaW.PrintLast Go.Proofs.YtolnkahidgobhaaW.PrintMore
attribute [local go_sem] max2_int min2_int max_two min_two

/-- The empty literal is a row. -/
theorem empty_row (w : World) : Kd.string.R 9 (w.alloc (.cells #[] 9)) w.heap.size (fun _ => True) (.slice (some ⟨w.heap.size, 0, none⟩) 0 0) [] :=
  Kd.R_of_own (xs := ([] : List ByteArray)) (own_lit_of (enc := Value.string) w w.heap.size 9 ([] : List ByteArray) (Nat.le_refl _) (by decide)) (fun _ _ => trivial)

set_option maxRecDepth 100000 in
set_option maxHeartbeats 1000000 in
theorem Clone_calls (w : World) (A : Option Addr) (c : Nat) (xs : List ByteArray) (h : Kd.string.C w A xs.length xs) (hl : xs.length ≤ 100000) :
    Calls Try.prog 34 #[.slice A xs.length c] w fun e w' => ∃ v, e = .returned v ∧ Kd.string.R 9 w' w.heap.size (fun _ => True) v xs ∧ Below w.heap.size w w' := by
  have HC := Aside0.mk h
  have hq := fun (w : World) (a : Option Addr) (n c n' c' : Nat) => Lib.run_eql_slice_nil (P := Try.prog) w 41 9 a n c n' c' Try.underlying41
  cases A with
  | none =>
    have h0 : xs = [] := by
      have h1 := HC.out
      cases xs with
      | nil => rfl
      | cons x l => obtain ⟨_, _, h2⟩ := h1; obtain ⟨ad, h3, _⟩ := h2 (by simp); cases h3
    subst h0
    go_enter Try.func34, Try.ntmps34
    go_wp2
    go_ret
    exact ⟨_, rfl, Kd.R_nil _ _ _ _ _, Below.refl _ _⟩
  | some ad =>
    clear h
    go_enter Try.func34, Try.ntmps34
    go_wp2_with (first | (at_builtin; refine Kd.R_append_rows Kd.string (w0 := w) w.heap.size rfl (.tmp 5) (.tmp 6) 41 9 (.string ⟨#[]⟩) 16 rfl Try.underlying41 info9 rfl (by decide) (by omega) _ [] xs _ _ _ (fun _ => True) (fun _ => False) rfl rfl (empty_row w) (Kd.C_alloc HC.out _) (fun _ _ h => h) (fun _ h => h.elim) (fun _ _ => trivial) (below_alloc (Below.refl _ _) _) (by simp) (by simp; omega) ?_; intro v1 w1 ho hb _ _; have HO := Aside0.mk ho; have HB := Aside0.mk hb; clear ho hb))
    go_ret
    exact ⟨_, rfl, HO.out, HB.out⟩

/-- What an outbox may hold, with so much gone by. -/
structure Inv (m : Nat) (s : St) : Prop where
  len : s.items.length ≤ 60
  size : 0 ≤ s.size ∧ s.size ≤ s.items.length ∧ s.size ≤ 4
  batch : 0 ≤ s.batch ∧ s.batch ≤ m
  fails : 0 ≤ s.fails ∧ s.fails ≤ m
  clock : 0 ≤ s.clock ∧ s.clock ≤ 1000 * m
  frm : 0 ≤ s.frm ∧ s.frm ≤ 1000 * m + 16

/-- What Tick comes to. -/
def tick (n : Int) (s : St) : (Int × List ByteArray) × St :=
  if s.away = true ∨ s.items.length = 0 ∨ s.clock + n < s.frm then ((0, []), { s with clock := s.clock + n })
  else if s.size = 0 then ((s.batch + 1, s.items.take (mn s.items.length 4).toNat), { s with clock := s.clock + n, size := mn s.items.length 4, batch := s.batch + 1, away := true })
  else ((s.batch, s.items.take s.size.toNat), { s with clock := s.clock + n, away := true })

/-- What Tick leaves. -/
def Ticked (w : World) (base g : Nat) (v : Value) (r : (Int × List ByteArray) × St) (e : Ending) (w' : World) : Prop :=
  ∃ u, e = .returned (.tuple #[.int .i64 r.1.1, u]) ∧ At w' base g v r.2 ∧ Eff w w' g v v ∧ Kd.string.R 9 w' w.heap.size (fun _ => True) u r.1.2

theorem set_clock {w : World} {base g : Nat} {v : Value} {s : St} (h : At w base g v s) (c : Int) : At (w.setCell ⟨g, 5, none⟩ (.int .i64 c)) base g v { s with clock := c } :=
  ⟨by simpa using blk_set h.blk 5 (.int .i64 c), h.ge, Kd.R_far h.row (fun k hk => hk) _⟩

set_option maxRecDepth 100000 in
set_option maxHeartbeats 1000000 in
theorem Tick_none (w : World) (base g : Nat) (v : Value) (s : St) (n : Int) (m : Nat) (h : At w base g v s) (hI : Inv m s) (hm : m ≤ 1000) (hn0 : 0 ≤ n) (hn1 : n ≤ 1000) (hq : s.away = true ∨ s.items.length = 0 ∨ s.clock + n < s.frm) :
    Calls Try.prog 31 #[.pointer (some ⟨g, 0, none⟩), .int .i64 n] w (Ticked w base g v (tick n s)) := by
  unfold tick
  rw [if_pos hq]
  have HAt := Aside0.mk h
  have HI := Aside0.mk hI
  obtain ⟨Ad, cd, rfl, hlc, hrd⟩ := Kd.R_reads h.row
  have hc0 : w.cell? ⟨g, 0, none⟩ = some (.slice Ad s.items.length cd) := (blk_cell h.blk 0).trans rfl
  have hc3 : w.cell? ⟨g, 3, none⟩ = some (.bool s.away) := (blk_cell h.blk 3).trans rfl
  have hc5 : w.cell? ⟨g, 5, none⟩ = some (.int .i64 s.clock) := (blk_cell h.blk 5).trans rfl
  have hc6 : w.cell? ⟨g, 6, none⟩ = some (.int .i64 s.frm) := (blk_cell h.blk 6).trans rfl
  have hf5 := blk_frozen h.blk 5
  have hw1 : wrap64 (s.clock + n) = s.clock + n := by have := hI.clock; unfold wrap64; omega
  have hfin : ∀ k, At ((w.setCell ⟨g, 5, none⟩ (.int .i64 (s.clock + n))).drewN k) base g (.slice Ad s.items.length cd) { s with clock := s.clock + n } ∧ Eff w ((w.setCell ⟨g, 5, none⟩ (.int .i64 (s.clock + n))).drewN k) g (.slice Ad s.items.length cd) (.slice Ad s.items.length cd) := fun k => ⟨(set_clock h _).drewN k, (Eff.set w g 5 _ _).trans (Eff.drewN _ _ _ _)⟩
  have HF := Aside0.mk hfin
  clear h hI hrd hlc hfin
  by_cases h1 : s.away = true
  · clear hq
    rw [h1] at hc3
    clear h1
    go_enter Try.func31, Try.ntmps31
    go_wp2
    go_quiet (fail)
    go_wp2
    go_ret2
    exact ⟨_, rfl, (HF.out _).1, (HF.out _).2, Kd.R_nil _ _ _ _ _⟩
  · have h1' : s.away = false := by simpa using h1
    by_cases h2 : s.items.length = 0
    · clear hq
      rw [h1'] at hc3
      have hb2 : ((s.items.length : Int) == 0) = true := beq_iff_eq.mpr (by omega)
      clear h1 h1' h2
      go_enter Try.func31, Try.ntmps31
      go_wp2
      go_quiet (fail)
      go_wp2
      go_ret2
      exact ⟨_, rfl, (HF.out _).1, (HF.out _).2, Kd.R_nil _ _ _ _ _⟩
    · have h3 : s.clock + n < s.frm := by rcases hq with h | h | h; exact absurd h h1; exact absurd h h2; exact h
      have hb2 : ((s.items.length : Int) == 0) = false := beq_eq_false_iff_ne.mpr (by omega)
      have hb3 := decide_eq_true h3
      rw [h1'] at hc3
      clear hq h1 h1' h2 h3
      go_enter Try.func31, Try.ntmps31
      go_wp2
      go_quiet (fail)
      go_wp2
      go_ret2
      exact ⟨_, rfl, (HF.out _).1, (HF.out _).2, Kd.R_nil _ _ _ _ _⟩

/-- A copy of a beginning. -/
theorem Clone_take (w : World) (A : Option Addr) (c k : Nat) (xs : List ByteArray) (h : Kd.string.C w A xs.length xs) (hk : k ≤ xs.length) (hl : xs.length ≤ 100000) :
    Calls Try.prog 34 #[.slice A k c] w fun e w' => ∃ v, e = .returned v ∧ Kd.string.R 9 w' w.heap.size (fun _ => True) v (xs.take k) ∧ Below w.heap.size w w' := by
  have h1 := Kd.C_take h hk
  have hlen : (xs.take k).length = k := by rw [List.length_take]; omega
  have h2 := Clone_calls w A c (xs.take k) h1 (by omega)
  rw [hlen] at h2
  exact h2

/-- Behind the stores of a Tick. -/
theorem tick_fin {w w' w2 : World} {base g : Nat} {v u : Value} {s' : St} {xs : List ByteArray} (h : At w' base g v s') (hE : Eff w w' g v v) (hB : Below w'.heap.size w' w2) (hu : Kd.string.R 9 w2 w'.heap.size (fun _ => True) u xs) :
    At w2 base g v s' ∧ Eff w w2 g v v ∧ Kd.string.R 9 w2 w.heap.size (fun _ => True) u xs :=
  ⟨h.below hB, hE.trans (Eff.below g v hB), Kd.R_lower hu hE.size⟩

theorem mn_range (n : Nat) : 0 ≤ mn (n : Int) 4 ∧ mn (n : Int) 4 ≤ n ∧ mn (n : Int) 4 ≤ 4 := by unfold mn; split <;> omega

set_option maxRecDepth 100000 in
set_option maxHeartbeats 1000000 in
theorem Tick_some (w : World) (base g : Nat) (v : Value) (s : St) (n : Int) (m : Nat) (h : At w base g v s) (hI : Inv m s) (hm : m ≤ 1000) (hn0 : 0 ≤ n) (hn1 : n ≤ 1000) (hq : ¬ (s.away = true ∨ s.items.length = 0 ∨ s.clock + n < s.frm)) :
    Calls Try.prog 31 #[.pointer (some ⟨g, 0, none⟩), .int .i64 n] w (Ticked w base g v (tick n s)) := by
  unfold tick
  rw [if_neg hq]
  have HAt := Aside0.mk h
  have HI := Aside0.mk hI
  obtain ⟨Ad, cd, rfl, hlc, hrd⟩ := Kd.R_reads h.row
  have h1 : s.away = false := by cases he : s.away; rfl; exact absurd (Or.inl he) hq
  have hc0 : w.cell? ⟨g, 0, none⟩ = some (.slice Ad s.items.length cd) := (blk_cell h.blk 0).trans rfl
  have hc3 : w.cell? ⟨g, 3, none⟩ = some (.bool false) := by rw [← h1]; exact (blk_cell h.blk 3).trans rfl
  have hc5 : w.cell? ⟨g, 5, none⟩ = some (.int .i64 s.clock) := (blk_cell h.blk 5).trans rfl
  have hc6 : w.cell? ⟨g, 6, none⟩ = some (.int .i64 s.frm) := (blk_cell h.blk 6).trans rfl
  have hf5 := blk_frozen h.blk 5
  have hw1 : wrap64 (s.clock + n) = s.clock + n := by have := hI.clock; unfold wrap64; omega
  have hw2 : wrap64 (s.batch + 1) = s.batch + 1 := by have := hI.batch; unfold wrap64; omega
  have hb2 : ((s.items.length : Int) == 0) = false := beq_eq_false_iff_ne.mpr (by omega)
  have hb3 : decide (s.clock + n < s.frm) = false := decide_eq_false (by omega)
  have hHF : ∀ k, At ((w.setCell ⟨g, 5, none⟩ (.int .i64 (s.clock + n))).drewN k) base g (.slice Ad s.items.length cd) { s with clock := s.clock + n } ∧ Eff w ((w.setCell ⟨g, 5, none⟩ (.int .i64 (s.clock + n))).drewN k) g (.slice Ad s.items.length cd) (.slice Ad s.items.length cd) := fun k => ⟨(set_clock h _).drewN k, (Eff.set w g 5 _ _).trans (Eff.drewN _ _ _ _)⟩
  have HF := Aside0.mk hHF
  have Hl := Aside0.mk (show s.items.length ≤ 100000 by have := hI.len; omega)
  by_cases h0 : s.size = 0
  · rw [if_pos h0]
    have hb4 : (s.size == 0) = true := beq_iff_eq.mpr h0
    obtain ⟨hz0, hz1, hz2⟩ := mn_range s.items.length
    have hzz : (if (4 : Int) < (s.items.length : Int) then (4 : Int) else (s.items.length : Int)) = mn s.items.length 4 := rfl
    obtain ⟨z, hz⟩ : ∃ z, mn (s.items.length : Int) 4 = z := ⟨_, rfl⟩
    rw [hz] at hz0 hz1 hz2 hzz ⊢
    clear hz
    have Hz := Aside0.mk (show z.toNat ≤ s.items.length by omega)
    have hz3 := decide_eq_true hz0
    have hzc : z ≤ (cd : Int) := by omega
    clear h hI hrd hq h1 h0 hHF HAt
    go_enter Try.func31, Try.ntmps31
    go_wp2
    go_quiet (fail)
    obtain ⟨hA1, hE1⟩ := HF.out nq
    clear HF hc0 hc3 hc5 hc6 hf5
    generalize (w.setCell ⟨g, 5, none⟩ (.int .i64 (s.clock + n))).drewN nq = w1 at hA1 hE1 ⊢
    have hc0 : w1.cell? ⟨g, 0, none⟩ = some (.slice Ad s.items.length cd) := (blk_cell hA1.blk 0).trans rfl
    have hc1 : w1.cell? ⟨g, 1, none⟩ = some (.int .i64 s.size) := (blk_cell hA1.blk 1).trans rfl
    have hc2 : w1.cell? ⟨g, 2, none⟩ = some (.int .i64 s.batch) := (blk_cell hA1.blk 2).trans rfl
    have hc3 : w1.cell? ⟨g, 3, none⟩ = some (.bool s.away) := (blk_cell hA1.blk 3).trans rfl
    have hf1 := blk_frozen hA1.blk 1
    have hf2 := blk_frozen hA1.blk 2
    have hf3 := blk_frozen hA1.blk 3
    have hfin0 : At (((w1.setCell ⟨g, 1, none⟩ (.int .i64 z)).setCell ⟨g, 2, none⟩ (.int .i64 (s.batch + 1))).setCell ⟨g, 3, none⟩ (.bool true)) base g (.slice Ad s.items.length cd) { s with clock := s.clock + n, size := z, batch := s.batch + 1, away := true } :=
      ⟨by simpa using blk_set (blk_set (blk_set hA1.blk 1 (.int .i64 z)) 2 (.int .i64 (s.batch + 1))) 3 (.bool true), hA1.ge, Kd.R_far (Kd.R_far (Kd.R_far hA1.row (fun k hk => hk) _) (fun k hk => hk) _) (fun k hk => hk) _⟩
    have HF := Aside0.mk (And.intro hfin0 (((hE1.trans (Eff.set w1 g 1 (.int .i64 z) _)).trans (Eff.set _ g 2 (.int .i64 (s.batch + 1)) _)).trans (Eff.set _ g 3 (.bool true) _)))
    clear hA1 hE1 hfin0
    go_wp2
    clear hc0 hc1 hc2 hc3 hf1 hf2 hf3
    generalize ((w1.setCell ⟨g, 1, none⟩ (.int .i64 z)).setCell ⟨g, 2, none⟩ (.int .i64 (s.batch + 1))).setCell ⟨g, 3, none⟩ (.bool true) = w2 at HF ⊢
    have hc0 : w2.cell? ⟨g, 0, none⟩ = some (.slice Ad s.items.length cd) := (blk_cell HF.out.1.blk 0).trans rfl
    have hc1 : w2.cell? ⟨g, 1, none⟩ = some (.int .i64 z) := (blk_cell HF.out.1.blk 1).trans rfl
    have hc2 : w2.cell? ⟨g, 2, none⟩ = some (.int .i64 (s.batch + 1)) := (blk_cell HF.out.1.blk 2).trans rfl
    have HC := Aside0.mk (Kd.C_drew (Kd.R_reads' HF.out.1.row).2.2)
    go_region_held3 (fun x => x.cell? ⟨g, 0, none⟩ = some (.slice Ad s.items.length cd) ∧ x.cell? ⟨g, 1, none⟩ = some (.int .i64 z) ∧ x.cell? ⟨g, 2, none⟩ = some (.int .i64 (s.batch + 1))) (first | exact ⟨hc0, hc1, hc2⟩ | exact hk.out) (first | (go_at_call 34; refine (Clone_take _ Ad cd z.toNat s.items HC.out Hz.out Hl.out).mono ?_; rintro e w3 ⟨u, rfl, hu, hb⟩; have hk := Aside0.mk (And.intro (pw_cell_below hb hc0) (And.intro (pw_cell_below hb hc1) (pw_cell_below hb hc2))); have HU := Aside0.mk hu; have HB := Aside0.mk hb; clear hu hb))
    all_goals
      go_wp2
      go_ret2
      obtain ⟨x1, x2, x3⟩ := tick_fin HF.out.1.drew (HF.out.2.trans (Eff.drewN _ g _ 1)) HB.out HU.out
      exact ⟨_, rfl, x1, x2, x3⟩
  · rw [if_neg h0]
    have hb4 : (s.size == 0) = false := beq_eq_false_iff_ne.mpr h0
    obtain ⟨hz0, hz1, hz2⟩ := hI.size
    have Hz := Aside0.mk (show s.size.toNat ≤ s.items.length by omega)
    have hz3 := decide_eq_true hz0
    have hzc : s.size ≤ (cd : Int) := by omega
    clear h hI hrd hq h1 h0 hHF HAt
    go_enter Try.func31, Try.ntmps31
    go_wp2
    go_quiet (fail)
    obtain ⟨hA1, hE1⟩ := HF.out nq
    clear HF hc0 hc3 hc5 hc6 hf5
    generalize (w.setCell ⟨g, 5, none⟩ (.int .i64 (s.clock + n))).drewN nq = w1 at hA1 hE1 ⊢
    obtain ⟨hc0, hc1, hc2, hc3, _, _, _, hf⟩ := hA1.cells
    have hfin0 : At (w1.setCell ⟨g, 3, none⟩ (.bool true)) base g (.slice Ad s.items.length cd) { s with clock := s.clock + n, away := true } :=
      ⟨by simpa using blk_set hA1.blk 3 (.bool true), hA1.ge, Kd.R_far hA1.row (fun k hk => hk) _⟩
    have HF := Aside0.mk (And.intro hfin0 (hE1.trans (Eff.set w1 g 3 (.bool true) _)))
    clear hA1 hE1 hfin0
    go_wp2
    clear hc0 hc1 hc2 hc3 hf
    generalize w1.setCell ⟨g, 3, none⟩ (.bool true) = w2 at HF ⊢
    obtain ⟨hc0, hc1, hc2, _, _, _, _, _⟩ := HF.out.1.cells
    have HC := Aside0.mk (Kd.C_drew (Kd.R_reads' HF.out.1.row).2.2)
    go_region_held3 (fun x => x.cell? ⟨g, 0, none⟩ = some (.slice Ad s.items.length cd) ∧ x.cell? ⟨g, 1, none⟩ = some (.int .i64 s.size) ∧ x.cell? ⟨g, 2, none⟩ = some (.int .i64 s.batch)) (first | exact ⟨hc0, hc1, hc2⟩ | exact hk.out) (first | (go_at_call 34; refine (Clone_take _ Ad cd s.size.toNat s.items HC.out Hz.out Hl.out).mono ?_; rintro e w3 ⟨u, rfl, hu, hb⟩; have hk := Aside0.mk (And.intro (pw_cell_below hb hc0) (And.intro (pw_cell_below hb hc1) (pw_cell_below hb hc2))); have HU := Aside0.mk hu; have HB := Aside0.mk hb; clear hu hb))
    all_goals
      go_wp2
      go_ret2
      obtain ⟨x1, x2, x3⟩ := tick_fin HF.out.1.drew (HF.out.2.trans (Eff.drewN _ g _ 1)) HB.out HU.out
      exact ⟨_, rfl, x1, x2, x3⟩

theorem Tick_calls (w : World) (base g : Nat) (v : Value) (s : St) (n : Int) (m : Nat) (h : At w base g v s) (hI : Inv m s) (hm : m ≤ 1000) (hn0 : 0 ≤ n) (hn1 : n ≤ 1000) :
    Calls Try.prog 31 #[.pointer (some ⟨g, 0, none⟩), .int .i64 n] w (Ticked w base g v (tick n s)) := by
  by_cases hq : s.away = true ∨ s.items.length = 0 ∨ s.clock + n < s.frm
  · exact Tick_none w base g v s n m h hI hm hn0 hn1 hq
  · exact Tick_some w base g v s n m h hI hm hn0 hn1 hq

end Go.Proofs.Ytolnkahidgobhaa.Out
