/- What End does to an outbox. -/
import Derived.Test.YtolnkahidgobhaaOut2
namespace Go.Proofs.Ytolnkahidgobhaa.Out
open Go.RowKit Go.Proofs.Ytolnkahidgobhaa.QOut Go.Proofs.YtolnkahidgobhaaW.PrintWords Go.Proofs.YtolnkahidgobhaaW.PrintLast Go.Proofs.YtolnkahidgobhaaW.PrintMore

/-- How long behind so many failures. -/
def waitN (n : Int) : Int := if n ≤ 0 then 0 else if n = 1 then 1 else if n = 2 then 2 else if n = 3 then 4 else if n = 4 then 8 else 16
theorem waitN_range (n : Int) : 0 ≤ waitN n ∧ waitN n ≤ 16 := by unfold waitN; repeat' split <;> omega
theorem wait_all : ∀ m : Nat, m < 1010 → out_Wait.f 20 (m : Int) = some (waitN m) := by decide +kernel
theorem Wait_calls (w : World) (n : Int) (h0 : 0 ≤ n) (h1 : n < 1010) : Calls Try.prog 13 #[.int .i64 n] w fun e w' => e = .returned (.int .i64 (waitN n)) ∧ Below w.heap.size w w' := by
  have h := wait_all n.toNat (by omega)
  rw [Int.toNat_of_nonneg h0] at h
  exact out_Wait.calls 20 n _ w h

/-- What End comes to. -/
def fin (b : Int) (came : Bool) (s : St) : Int × St :=
  if s.away = false ∨ b ≠ s.batch then (8, s)
  else if came = false then (0, { s with away := false, fails := s.fails + 1, frm := s.clock + waitN (s.fails + 1) })
  else (0, { s with away := false, items := s.items.drop s.size.toNat, size := 0, fails := 0, frm := s.clock })

/-- What End leaves. -/
def Ended (w : World) (base g : Nat) (v : Value) (r : Int × St) (e : Ending) (w' : World) : Prop :=
  ∃ v', e = .returned (.int .i64 r.1) ∧ At w' base g v' r.2 ∧ Eff w w' g v v'

theorem set_away {w : World} {base g : Nat} {v : Value} {s : St} (h : At w base g v s) (c : Bool) : At (w.setCell ⟨g, 3, none⟩ (.bool c)) base g v { s with away := c } :=
  ⟨by simpa using blk_set h.blk 3 (.bool c), h.ge, Kd.R_far h.row (fun k hk => hk) _⟩
theorem set_fails {w : World} {base g : Nat} {v : Value} {s : St} (h : At w base g v s) (c : Int) : At (w.setCell ⟨g, 4, none⟩ (.int .i64 c)) base g v { s with fails := c } :=
  ⟨by simpa using blk_set h.blk 4 (.int .i64 c), h.ge, Kd.R_far h.row (fun k hk => hk) _⟩
theorem set_frm {w : World} {base g : Nat} {v : Value} {s : St} (h : At w base g v s) (c : Int) : At (w.setCell ⟨g, 6, none⟩ (.int .i64 c)) base g v { s with frm := c } :=
  ⟨by simpa using blk_set h.blk 6 (.int .i64 c), h.ge, Kd.R_far h.row (fun k hk => hk) _⟩
theorem set_size {w : World} {base g : Nat} {v : Value} {s : St} (h : At w base g v s) (c : Int) : At (w.setCell ⟨g, 1, none⟩ (.int .i64 c)) base g v { s with size := c } :=
  ⟨by simpa using blk_set h.blk 1 (.int .i64 c), h.ge, Kd.R_far h.row (fun k hk => hk) _⟩
/-- A row that was made since is put in. -/
theorem set_items {w w3 : World} {base g : Nat} {v u : Value} {s : St} {xs : List ByteArray} (h : At w base g v s) (hB : Below w.heap.size w w3) (hu : Kd.string.R 9 w3 w.heap.size (fun _ => True) u xs) (hb : base ≤ w.heap.size) :
    At (w3.setCell ⟨g, 0, none⟩ u) base g u { s with items := xs } ∧ Eff w (w3.setCell ⟨g, 0, none⟩ u) g v u := by
  have h3 := h.below hB
  have hlt := blk_lt h.blk
  have hr : Kd.string.R 9 w3 base (fun k => k ≠ g) u xs := Kd.R_lower (Kd.R_mono (Kd.R_bound hu) (fun k hk => by have := hk.2.1; omega)) hb
  refine ⟨⟨by simpa using blk_set h3.blk 0 u, h.ge, Kd.R_far hr (fun k hk => hk) u⟩, ?_⟩
  refine ⟨hB.os, hB.tape, hB.output, by simpa [World.setCell] using hB.size, fun k hk h1 _ => (Below.heap_setCell w3 ⟨g, 0, none⟩ u k h1).trans (hB.block k hk), fun b hb => .inr (Kd.R_base hu b hb)⟩

set_option maxRecDepth 100000 in
set_option maxHeartbeats 1000000 in
theorem End_none (w : World) (base g : Nat) (v : Value) (s : St) (b : Int) (came : Bool) (h : At w base g v s) (hq : s.away = false ∨ b ≠ s.batch) :
    Calls Try.prog 32 #[.pointer (some ⟨g, 0, none⟩), .int .i64 b, .bool came] w (Ended w base g v (fin b came s)) := by
  unfold fin
  rw [if_pos hq]
  have HAt := Aside0.mk h
  obtain ⟨_, _, hc2, hc3, _, _, _, _⟩ := h.cells
  clear h
  by_cases h1 : s.away = false
  · rw [h1] at hc3
    clear hq h1
    go_enter Try.func32, Try.ntmps32
    go_wp2
    go_ret
    exact ⟨_, rfl, HAt.out, Eff.refl _ _ _⟩
  · have h1' : s.away = true := by simpa using h1
    have h2 : (b == s.batch) = false := beq_eq_false_iff_ne.mpr (by rcases hq with h | h; exact absurd h h1; exact h)
    rw [h1'] at hc3
    clear hq h1 h1'
    go_enter Try.func32, Try.ntmps32
    go_wp2
    go_ret
    exact ⟨_, rfl, HAt.out, Eff.refl _ _ _⟩

set_option maxRecDepth 100000 in
set_option maxHeartbeats 1000000 in
theorem End_failed (w : World) (base g : Nat) (v : Value) (s : St) (b : Int) (m : Nat) (h : At w base g v s) (hI : Inv m s) (hm : m ≤ 1000) (hq : ¬ (s.away = false ∨ b ≠ s.batch)) :
    Calls Try.prog 32 #[.pointer (some ⟨g, 0, none⟩), .int .i64 b, .bool false] w (Ended w base g v (fin b false s)) := by
  unfold fin
  rw [if_neg hq, if_pos rfl]
  have h1' : s.away = true := by cases he : s.away; exact absurd (Or.inl he) hq; rfl
  have h2 : b = s.batch := by by_cases e : b = s.batch; exact e; exact absurd (Or.inr e) hq
  subst h2
  obtain ⟨_, _, hc2, hc3, hc4, _, _, hf⟩ := h.cells
  rw [h1'] at hc3
  have hw1 : wrap64 (s.fails + 1) = s.fails + 1 := by have := hI.fails; unfold wrap64; omega
  have hr := waitN_range (s.fails + 1)
  have hw2 : wrap64 (s.clock + waitN (s.fails + 1)) = s.clock + waitN (s.fails + 1) := by have := hI.clock; unfold wrap64; omega
  have hw3 : IntKind.i64.wrap (s.clock + waitN (s.fails + 1)) = s.clock + waitN (s.fails + 1) := IntWalk.i64_in _ (by have := hI.clock; omega)
  have HW := fun w => Aside0.mk (Wait_calls w (s.fails + 1) (by have := hI.fails; omega) (by have := hI.fails; omega))
  have HF := Aside0.mk (And.intro (set_fails (set_away h false) (s.fails + 1)) ((Eff.set w g 3 (.bool false) v).trans (Eff.set _ g 4 (.int .i64 (s.fails + 1)) v)))
  clear h hI hq h1' hr
  go_enter Try.func32, Try.ntmps32
  go_wp2
  clear hc2 hc3 hc4 hf hw1
  generalize (w.setCell ⟨g, 3, none⟩ (.bool false)).setCell ⟨g, 4, none⟩ (.int .i64 (s.fails + 1)) = w2 at HF ⊢
  obtain ⟨_, _, _, _, hc4, hc5, hc6, hf⟩ := HF.out.1.cells
  go_region_held3 (fun x => x.cell? ⟨g, 4, none⟩ = some (.int .i64 (s.fails + 1)) ∧ x.cell? ⟨g, 5, none⟩ = some (.int .i64 s.clock)) (first | exact ⟨hc4, hc5⟩ | exact hk.out | exact hk2.out _) (first | (go_at_call 13; refine (HW _).out.mono ?_; rintro e w3 ⟨rfl, hb⟩; have hk := Aside0.mk (And.intro (pw_cell_below hb hc4) (pw_cell_below hb hc5)); have HB := Aside0.mk hb; have h6 := pw_cell_below hb hc6; have hA3 := (HF.out.1.drew).below hb; have hf3 := hA3.cells.2.2.2.2.2.2.2; have H3 := Aside0.mk hA3; have hk2 := Aside0.mk (fun u : Value => show ((w3.setCell ⟨g, 6, none⟩ u).cell? ⟨g, 4, none⟩ = some (.int .i64 (s.fails + 1)) ∧ (w3.setCell ⟨g, 6, none⟩ u).cell? ⟨g, 5, none⟩ = some (.int .i64 s.clock)) from ⟨(blk_cell (blk_set hA3.blk 6 u) 4).trans rfl, (blk_cell (blk_set hA3.blk 6 u) 5).trans rfl⟩); clear hb hA3))
  all_goals
    go_wp2
    go_ret
    exact ⟨v, rfl, set_frm H3.out _, ((HF.out.2.trans (Eff.drewN _ g _ 1)).trans (Eff.below g v HB.out)).trans (Eff.set _ g 6 _ v)⟩

/-- A copy of an end. -/
theorem Clone_drop (w : World) (A : Option Addr) (c k c' : Nat) (xs : List ByteArray) (h : Kd.string.C w A xs.length xs) (hk : k ≤ xs.length) (hc : xs.length ≤ c) (hl : xs.length ≤ 100000) :
    Calls Try.prog 34 #[.slice (if c = k then A else Option.map (fun x => x.add k) A) (xs.length - k) c'] w fun e w' => ∃ v, e = .returned v ∧ Kd.string.R 9 w' w.heap.size (fun _ => True) v (xs.drop k) ∧ Below w.heap.size w w' := by
  have h1 := Kd.C_drop (c := c) h hk hc
  have hlen : (xs.drop k).length = xs.length - k := List.length_drop
  have h2 := Clone_calls w _ c' (xs.drop k) h1 (by omega)
  rw [hlen] at h2
  have h3 : (k * Kd.string.sz) = k := Nat.mul_one k
  rw [h3] at h2
  exact h2

set_option maxRecDepth 100000 in
set_option maxHeartbeats 1000000 in
theorem End_came (w : World) (base g : Nat) (v : Value) (s : St) (b : Int) (m : Nat) (h : At w base g v s) (hI : Inv m s) (hq : ¬ (s.away = false ∨ b ≠ s.batch)) (hb : base ≤ w.heap.size) :
    Calls Try.prog 32 #[.pointer (some ⟨g, 0, none⟩), .int .i64 b, .bool true] w (Ended w base g v (fin b true s)) := by
  unfold fin
  rw [if_neg hq, if_neg (by decide)]
  have h1' : s.away = true := by cases he : s.away; exact absurd (Or.inl he) hq; rfl
  have h2 : b = s.batch := by by_cases e : b = s.batch; exact e; exact absurd (Or.inr e) hq
  subst h2
  obtain ⟨_, _, hc2, hc3, hc4, _, _, hf⟩ := h.cells
  rw [h1'] at hc3
  obtain ⟨Ad, cd, rfl, hlc, hrd⟩ := Kd.R_reads h.row
  obtain ⟨hz0, hz1, hz2⟩ := hI.size
  have hz3 := decide_eq_true hz0
  have Hl := Aside0.mk (show s.items.length ≤ 100000 by have := hI.len; omega)
  have HF := Aside0.mk (And.intro (set_away h false) (Eff.set w g 3 (.bool false) (.slice Ad s.items.length cd)))
  clear h hI hq h1' hrd
  go_enter Try.func32, Try.ntmps32
  go_wp2
  clear hc2 hc3 hc4 hf
  generalize w.setCell ⟨g, 3, none⟩ (.bool false) = w2 at HF ⊢
  obtain ⟨hc0, hc1, _, _, _, _, _, hf⟩ := HF.out.1.cells
  have HC := Aside0.mk (Kd.C_drew (Kd.R_reads' HF.out.1.row).2.2)
  have Hb := Aside0.mk (Nat.le_trans hb HF.out.2.size)
  have Hz := Aside0.mk (show s.size.toNat ≤ s.items.length by omega)
  clear hb
  by_cases hce : cd = s.size.toNat
  · have HD := fun (w : World) (h : Kd.string.C w Ad s.items.length s.items) => Aside0.mk (by have h2 := Clone_drop w Ad cd s.size.toNat 0 s.items h Hz.out hlc Hl.out; rw [if_pos hce, show s.items.length - s.size.toNat = 0 by omega] at h2; exact h2)
    have HL := Aside0.mk (show (s.items.drop s.size.toNat).length = 0 by rw [List.length_drop]; omega)
    subst hce
    go_region_with (first | (go_at_call 34; refine ((HD _ HC.out).out).mono ?_; rintro e w3 ⟨u, rfl, hu, hB⟩; obtain ⟨A3, c3, rfl, _, _⟩ := Kd.R_reads hu; have hx := set_items HF.out.1.drew hB hu Hb.out; rw [HL.out] at hx; have hcc := pw_cell_below hB hc0; have hff := (HF.out.1.drew.below hB).cells.2.2.2.2.2.2.2; have HX := Aside0.mk hx; clear hu hB hx))
    all_goals
      clear hcc hff
      generalize w3.setCell ⟨g, 0, none⟩ (.slice A3 0 c3) = w4 at HX ⊢
      obtain ⟨_, hd1, _, _, hd4, hd5, hd6, hdf⟩ := HX.out.1.cells
      go_wp2
      go_ret
      exact ⟨_, rfl, set_frm (set_fails (set_size HX.out.1 0) 0) _, ((((HF.out.2.trans (Eff.drewN _ g _ 1)).trans HX.out.2).trans (Eff.set _ g 1 _ _)).trans (Eff.set _ g 4 _ _)).trans (Eff.set _ g 6 _ _)⟩
  · have HD := fun (w : World) (h : Kd.string.C w Ad s.items.length s.items) => Aside0.mk (by have h2 := Clone_drop w Ad cd s.size.toNat (cd - s.size.toNat) s.items h Hz.out hlc Hl.out; rw [if_neg hce] at h2; exact h2)
    have HL := Aside0.mk (List.length_drop (i := s.size.toNat) (l := s.items))
    have hce2 := eq_false hce
    clear hce
    go_region_with (first | (go_at_call 34; refine ((HD _ HC.out).out).mono ?_; rintro e w3 ⟨u, rfl, hu, hB⟩; obtain ⟨A3, c3, rfl, _, _⟩ := Kd.R_reads hu; have hx := set_items HF.out.1.drew hB hu Hb.out; rw [HL.out] at hx; have hcc := pw_cell_below hB hc0; have hff := (HF.out.1.drew.below hB).cells.2.2.2.2.2.2.2; have HX := Aside0.mk hx; clear hu hB hx))
    all_goals
      clear hcc hff
      generalize w3.setCell ⟨g, 0, none⟩ (.slice A3 (s.items.length - s.size.toNat) c3) = w4 at HX ⊢
      obtain ⟨_, hd1, _, _, hd4, hd5, hd6, hdf⟩ := HX.out.1.cells
      go_wp2
      go_ret
      exact ⟨_, rfl, set_frm (set_fails (set_size HX.out.1 0) 0) _, ((((HF.out.2.trans (Eff.drewN _ g _ 1)).trans HX.out.2).trans (Eff.set _ g 1 _ _)).trans (Eff.set _ g 4 _ _)).trans (Eff.set _ g 6 _ _)⟩

theorem End_calls (w : World) (base g : Nat) (v : Value) (s : St) (b : Int) (came : Bool) (m : Nat) (h : At w base g v s) (hI : Inv m s) (hm : m ≤ 1000) (hb : base ≤ w.heap.size) :
    Calls Try.prog 32 #[.pointer (some ⟨g, 0, none⟩), .int .i64 b, .bool came] w (Ended w base g v (fin b came s)) := by
  by_cases hq : s.away = false ∨ b ≠ s.batch
  · exact End_none w base g v s b came h hq
  · cases came with
    | false => exact End_failed w base g v s b m h hI hm hq
    | true => exact End_came w base g v s b m h hI hq hb

end Go.Proofs.Ytolnkahidgobhaa.Out
