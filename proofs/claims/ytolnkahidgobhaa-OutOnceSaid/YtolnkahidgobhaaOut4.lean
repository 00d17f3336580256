/- What a turn does to an outbox: the method do. -/
import Derived.Test.YtolnkahidgobhaaOut3
import Derived.Laws.Rows
namespace Go.Proofs.Ytolnkahidgobhaa.Out
open Go.RowKit Go.Proofs.Ytolnkahidgobhaa.QOut Go.Proofs.YtolnkahidgobhaaW.PrintWords Go.Proofs.YtolnkahidgobhaaW.PrintLast Go.Proofs.YtolnkahidgobhaaW.PrintMore

/-- What a turn comes to: code, batch, items. -/
def step (k : Int) (b : ByteArray) (n : Int) (s : St) : (Int × Int × List ByteArray) × St :=
  if k = 1 then (((push b s).1, 0, []), (push b s).2)
  else if k = 2 then (if n < 1 ∨ 1000 < n then ((2, 0, []), s) else ((0, (tick n s).1.1, (tick n s).1.2), (tick n s).2))
  else if k = 3 ∨ k = 4 then (((fin n (k == 3) s).1, 0, []), (fin n (k == 3) s).2)
  else ((3, 0, []), s)

/-- What a turn leaves. -/
def Done (w : World) (base g : Nat) (v : Value) (r : (Int × Int × List ByteArray) × St) (e : Ending) (w' : World) : Prop :=
  ∃ v' u, e = .returned (.agg #[.int .i64 r.1.1, .int .i64 r.1.2.1, u]) ∧ At w' base g v' r.2 ∧ Eff w w' g v v' ∧ Kd.string.R 9 w' w.heap.size (fun k => some k ≠ v'.ownBlock) u r.1.2.2

theorem Eff.set_new {w w1 : World} {g : Nat} {v v1 : Value} (h : Eff w w1 g v v1) (p i : Nat) (u : Value) (hp : w.heap.size ≤ p) : Eff w (w1.setCell ⟨p, i, none⟩ u) g v v1 :=
  ⟨h.os, h.tape, h.output, by simpa [World.setCell] using h.size, fun k hk h1 h2 => (Below.heap_setCell w1 ⟨p, i, none⟩ u k (by show k ≠ p; omega)).trans (h.block k hk h1 h2), h.own⟩
/-- A block of another type is written. -/
theorem At.other {w : World} {base g p t : Nat} {v : Value} {s : St} {cs : Array Value} (h : At w base g v s) (hb : w.heap[p]? = some (.cells cs t (0, 0))) (ht : t = 45 ∨ t = 43) (i : Nat) (u : Value) : At (w.setCell ⟨p, i, none⟩ u) base g v s := by
  have hne : g ≠ p := by
    rintro rfl
    have := hb.symm.trans h.blk
    injection this with this; injection this with _ h2; rcases ht with ht | ht <;> · rw [ht] at h2; exact absurd h2 (by decide)
  exact ⟨by rw [blk_far h.blk hne], h.ge, Kd.R_set h.row hb (fun q hq => by rcases List.mem_cons.1 hq with rfl | hq <;> first | (rcases ht with rfl | rfl <;> decide) | cases hq) i u⟩
/-- The block of a result has its values. -/
theorem box_kept {w w1 : World} {base g : Nat} {v v1 : Value} {s : St} {o o' : Obj} (hA : At w base g v s) (hE : Eff ((w.alloc o).alloc o') w1 g v v1) : w1.heap[w.heap.size + 1]? = some o' := by
  have hlt := blk_lt hA.blk
  have hl2 : ((w.alloc o).alloc o').heap.size = w.heap.size + 2 := by simp
  rw [hE.block (w.heap.size + 1) (by omega) (by omega) (fun e => by have := Kd.R_lt hA.row _ e.symm; omega)]
  have h3 := blk_new (w.alloc o) o'
  have h4 : (w.alloc o).heap.size = w.heap.size + 1 := by simp
  rw [h4] at h3
  exact h3
theorem box_cells {w : World} {p : Nat} {x0 x1 x2 : Value} (h : w.heap[p]? = some (.cells #[x0, x1, x2] 45 (0, 0))) : w.cell? ⟨p, 0, none⟩ = some x0 ∧ w.cell? ⟨p, 1, none⟩ = some x1 ∧ w.cell? ⟨p, 2, none⟩ = some x2 ∧ ∀ i, w.frozen? ⟨p, i, none⟩ = false :=
  ⟨(blk_cell h 0).trans rfl, (blk_cell h 1).trans rfl, (blk_cell h 2).trans rfl, fun i => blk_frozen h i⟩
/-- A result is put down. -/
theorem put {w w1 : World} {base g p : Nat} {v v1 x0 x1 x2 : Value} {s : St} (hA : At w1 base g v1 s) (hp : w1.heap[p]? = some (.cells #[x0, x1, x2] 45 (0, 0))) (hE : Eff w w1 g v v1) (hw : w.heap.size ≤ p) (c b u : Value) {y : Value} {xs : List ByteArray} {ok : Nat → Prop} (hr : Kd.string.R 9 w1 w.heap.size ok y xs) :
    At (((w1.setCell ⟨p, 0, none⟩ c).setCell ⟨p, 1, none⟩ b).setCell ⟨p, 2, none⟩ u) base g v1 s ∧ Eff w (((w1.setCell ⟨p, 0, none⟩ c).setCell ⟨p, 1, none⟩ b).setCell ⟨p, 2, none⟩ u) g v v1 ∧ Kd.string.R 9 (((w1.setCell ⟨p, 0, none⟩ c).setCell ⟨p, 1, none⟩ b).setCell ⟨p, 2, none⟩ u) w.heap.size ok y xs ∧ (((w1.setCell ⟨p, 0, none⟩ c).setCell ⟨p, 1, none⟩ b).setCell ⟨p, 2, none⟩ u).heap[p]? = some (.cells #[c, b, u] 45 (0, 0)) := by
  have h1 : (w1.setCell ⟨p, 0, none⟩ c).heap[p]? = some (.cells #[c, x1, x2] 45 (0, 0)) := by simpa using blk_set hp 0 c
  have h2 : ((w1.setCell ⟨p, 0, none⟩ c).setCell ⟨p, 1, none⟩ b).heap[p]? = some (.cells #[c, b, x2] 45 (0, 0)) := by simpa using blk_set h1 1 b
  have hq : ∀ q, q ∈ (9 : Nat) :: Kd.string.E → q ≠ 45 := fun q hq => by rcases List.mem_cons.1 hq with rfl | hq <;> first | decide | cases hq
  refine ⟨((hA.other hp (.inl rfl) 0 c).other h1 (.inl rfl) 1 b).other h2 (.inl rfl) 2 u, ((hE.set_new p 0 c hw).set_new p 1 b hw).set_new p 2 u hw, Kd.R_set (Kd.R_set (Kd.R_set hr hp hq 0 c) h1 hq 1 b) h2 hq 2 u, by simpa using blk_set h2 2 u⟩
theorem Eff.two {w w1 : World} {g : Nat} {v v1 : Value} {o o' : Obj} (h : Eff ((w.alloc o).alloc o') w1 g v v1) : Eff w w1 g v v1 := ((Eff.alloc w g v o).trans (Eff.alloc _ g v o')).trans h

set_option maxRecDepth 100000 in
set_option maxHeartbeats 2000000 in
theorem do_push (w : World) (base g : Nat) (v : Value) (b : ByteArray) (s : St) (n : Int) (h : At w base g v s) (hl : s.items.length ≤ 60) (hb : b.size ≤ 140737488351232) :
    Calls Try.prog 27 #[.pointer (some ⟨g, 0, none⟩), .agg #[.int .i64 1, .string b, .int .i64 n]] w (Done w base g v (step 1 b n s)) := by
  have hs : step 1 b n s = (((push b s).1, 0, []), (push b s).2) := by simp [step]
  rw [hs]
  have HAt := Aside0.mk h
  clear h
  go_enter Try.func27, Try.ntmps27
  go_wp2_with (first | (go_at_call 30; refine (Push_calls _ base g v s b ((HAt.out.alloc _).alloc _) hl hb).mono ?_; rintro e w1 ⟨v1, rfl, hA, hE⟩; have hbx := box_kept HAt.out hE; obtain ⟨hx0, hx1, hx2, hx3⟩ := box_cells hbx; have HP := Aside0.mk (put hA hbx hE.two (Nat.le_succ _) (.int .i64 (push b s).1) (.int .i64 0) (.slice none 0 0) (Kd.R_nil Kd.string 9 w1 w.heap.size (fun k => some k ≠ v1.ownBlock))); clear hA hE hbx))
  refine bodyPost_ret (results_cell_row rfl _ _ (w.heap.size + 1) 45 _ (0, 0) _ rfl HP.out.2.2.2 Try.underlying45 rfl (by kernel_rfl)) rfl ?_
  exact ⟨_, _, rfl, HP.out.1, HP.out.2.1, HP.out.2.2.1⟩

set_option maxRecDepth 100000 in
set_option maxHeartbeats 2000000 in
theorem do_tick (w : World) (base g : Nat) (v : Value) (b : ByteArray) (s : St) (n : Int) (m : Nat) (h : At w base g v s) (hI : Inv m s) (hm : m ≤ 1000) :
    Calls Try.prog 27 #[.pointer (some ⟨g, 0, none⟩), .agg #[.int .i64 2, .string b, .int .i64 n]] w (Done w base g v (step 2 b n s)) := by
  have HAt := Aside0.mk h
  clear h
  by_cases h1 : n < 1
  · have hs : step 2 b n s = ((2, 0, []), s) := by simp [step, h1]
    rw [hs]
    have hb1 := decide_eq_true h1
    clear h1 hs
    go_enter Try.func27, Try.ntmps27
    go_wp2
    refine bodyPost_ret (results_cell_row rfl _ _ (w.heap.size + 1) 45 #[.int .i64 2, .int .i64 0, .slice none 0 0] (0, 0) _ rfl (by have h3 := blk_new (w.alloc (.cells #[.int .i64 2, .string b, .int .i64 n] 43 (0, 0))) (.cells #[.int .i64 2, .int .i64 0, .slice none 0 0] 45 (0, 0)); simpa using h3) Try.underlying45 rfl (by kernel_rfl)) rfl ?_
    exact ⟨_, _, rfl, (HAt.out.alloc _).alloc _, (Eff.alloc w g v _).trans (Eff.alloc _ g v _), Kd.R_nil _ _ _ _ _⟩
  · by_cases h2 : 1000 < n
    · have hs : step 2 b n s = ((2, 0, []), s) := by simp [step, h2]
      rw [hs]
      have hb1 := decide_eq_false h1
      have hb2 := decide_eq_true h2
      clear h1 h2 hs
      go_enter Try.func27, Try.ntmps27
      go_wp2
      refine bodyPost_ret (results_cell_row rfl _ _ (w.heap.size + 1) 45 #[.int .i64 2, .int .i64 0, .slice none 0 0] (0, 0) _ rfl (by have h3 := blk_new (w.alloc (.cells #[.int .i64 2, .string b, .int .i64 n] 43 (0, 0))) (.cells #[.int .i64 2, .int .i64 0, .slice none 0 0] 45 (0, 0)); simpa using h3) Try.underlying45 rfl (by kernel_rfl)) rfl ?_
      exact ⟨_, _, rfl, (HAt.out.alloc _).alloc _, (Eff.alloc w g v _).trans (Eff.alloc _ g v _), Kd.R_nil _ _ _ _ _⟩
    · have hs : step 2 b n s = ((0, (tick n s).1.1, (tick n s).1.2), (tick n s).2) := by simp [step, h1, h2]
      rw [hs]
      have hb1 := decide_eq_false h1
      have hb2 := decide_eq_false h2
      have HN := Aside0.mk (show 0 ≤ n ∧ n ≤ 1000 by omega)
      clear h1 h2 hs
      go_enter Try.func27, Try.ntmps27
      go_wp2_with (first | (go_at_call 31; refine (Tick_calls _ base g v s n m ((HAt.out.alloc _).alloc _) hI hm HN.out.1 HN.out.2).mono ?_; rintro e w1 ⟨u, rfl, hA, hE, hr⟩; obtain ⟨A3, c3, rfl, _, _⟩ := Kd.R_reads hr; have hbx := box_kept HAt.out hE; obtain ⟨hx0, hx1, hx2, hx3⟩ := box_cells hbx; have HP := Aside0.mk (put hA hbx hE.two (Nat.le_succ _) (.int .i64 0) (.int .i64 (tick n s).1.1) (.slice A3 (tick n s).1.2.length c3) (Kd.R_lower (Kd.R_mono (Kd.R_bound hr) (fun k hk e => by have h1 := Kd.R_lt HAt.out.row k e.symm; have h2 := hk.2.1; simp at h2; omega : ∀ k, _ → some k ≠ v.ownBlock)) (by simp; omega))); clear hA hE hbx hr))
      refine bodyPost_ret (results_cell_row rfl _ _ (w.heap.size + 1) 45 _ (0, 0) _ rfl HP.out.2.2.2 Try.underlying45 rfl (by kernel_rfl)) rfl ?_
      exact ⟨_, _, rfl, HP.out.1, HP.out.2.1, HP.out.2.2.1⟩

set_option maxRecDepth 100000 in
set_option maxHeartbeats 2000000 in
theorem do_done (w : World) (base g : Nat) (v : Value) (b : ByteArray) (s : St) (n : Int) (m : Nat) (h : At w base g v s) (hI : Inv m s) (hm : m ≤ 1000) (hb : base ≤ w.heap.size) :
    Calls Try.prog 27 #[.pointer (some ⟨g, 0, none⟩), .agg #[.int .i64 3, .string b, .int .i64 n]] w (Done w base g v (step 3 b n s)) := by
  have HAt := Aside0.mk h
  have Hb := Aside0.mk (show base ≤ w.heap.size + 1 + 1 by omega)
  clear h hb
  have hs : step 3 b n s = (((fin n true s).1, 0, []), (fin n true s).2) := by simp [step]
  rw [hs]
  clear hs
  go_enter Try.func27, Try.ntmps27
  go_wp2_with (first | (go_at_call 32; refine (End_calls _ base g v s n true m ((HAt.out.alloc _).alloc _) hI hm (by simpa using Hb.out)).mono ?_; rintro e w1 ⟨v1, rfl, hA, hE⟩; have hbx := box_kept HAt.out hE; obtain ⟨hx0, hx1, hx2, hx3⟩ := box_cells hbx; have HP := Aside0.mk (put hA hbx hE.two (Nat.le_succ _) (.int .i64 (fin n true s).1) (.int .i64 0) (.slice none 0 0) (Kd.R_nil Kd.string 9 w1 w.heap.size (fun k => some k ≠ v1.ownBlock))); clear hA hE hbx))
  refine bodyPost_ret (results_cell_row rfl _ _ (w.heap.size + 1) 45 _ (0, 0) _ rfl HP.out.2.2.2 Try.underlying45 rfl (by kernel_rfl)) rfl ?_
  exact ⟨_, _, rfl, HP.out.1, HP.out.2.1, HP.out.2.2.1⟩

set_option maxRecDepth 100000 in
set_option maxHeartbeats 2000000 in
theorem do_fail (w : World) (base g : Nat) (v : Value) (b : ByteArray) (s : St) (n : Int) (m : Nat) (h : At w base g v s) (hI : Inv m s) (hm : m ≤ 1000) (hb : base ≤ w.heap.size) :
    Calls Try.prog 27 #[.pointer (some ⟨g, 0, none⟩), .agg #[.int .i64 4, .string b, .int .i64 n]] w (Done w base g v (step 4 b n s)) := by
  have HAt := Aside0.mk h
  have Hb := Aside0.mk (show base ≤ w.heap.size + 1 + 1 by omega)
  clear h hb
  have hs : step 4 b n s = (((fin n false s).1, 0, []), (fin n false s).2) := by simp [step]
  rw [hs]
  clear hs
  go_enter Try.func27, Try.ntmps27
  go_wp2_with (first | (go_at_call 32; refine (End_calls _ base g v s n false m ((HAt.out.alloc _).alloc _) hI hm (by simpa using Hb.out)).mono ?_; rintro e w1 ⟨v1, rfl, hA, hE⟩; have hbx := box_kept HAt.out hE; obtain ⟨hx0, hx1, hx2, hx3⟩ := box_cells hbx; have HP := Aside0.mk (put hA hbx hE.two (Nat.le_succ _) (.int .i64 (fin n false s).1) (.int .i64 0) (.slice none 0 0) (Kd.R_nil Kd.string 9 w1 w.heap.size (fun k => some k ≠ v1.ownBlock))); clear hA hE hbx))
  refine bodyPost_ret (results_cell_row rfl _ _ (w.heap.size + 1) 45 _ (0, 0) _ rfl HP.out.2.2.2 Try.underlying45 rfl (by kernel_rfl)) rfl ?_
  exact ⟨_, _, rfl, HP.out.1, HP.out.2.1, HP.out.2.2.1⟩

set_option maxRecDepth 100000 in
set_option maxHeartbeats 2000000 in
theorem do_other (w : World) (base g : Nat) (v : Value) (b : ByteArray) (s : St) (n k : Int) (h : At w base g v s) (h1 : k ≠ 1) (h2 : k ≠ 2) (h3 : k ≠ 3) (h4 : k ≠ 4) :
    Calls Try.prog 27 #[.pointer (some ⟨g, 0, none⟩), .agg #[.int .i64 k, .string b, .int .i64 n]] w (Done w base g v (step k b n s)) := by
  have HAt := Aside0.mk h
  clear h
  have hs : step k b n s = ((3, 0, []), s) := by simp [step, h1, h2, h3, h4]
  rw [hs]
  have e1 := beq_eq_false_iff_ne.2 h1
  have e2 := beq_eq_false_iff_ne.2 h2
  have e3 := beq_eq_false_iff_ne.2 h3
  have e4 := beq_eq_false_iff_ne.2 h4
  clear h1 h2 h3 h4 hs
  go_enter Try.func27, Try.ntmps27
  go_wp2
  refine bodyPost_ret (results_cell_row rfl _ _ (w.heap.size + 1) 45 #[.int .i64 3, .int .i64 0, .slice none 0 0] (0, 0) _ rfl (by have h3 := blk_new (w.alloc (.cells #[.int .i64 k, .string b, .int .i64 n] 43 (0, 0))) (.cells #[.int .i64 3, .int .i64 0, .slice none 0 0] 45 (0, 0)); simpa using h3) Try.underlying45 rfl (by kernel_rfl)) rfl ?_
  exact ⟨_, _, rfl, (HAt.out.alloc _).alloc _, (Eff.alloc w g v _).trans (Eff.alloc _ g v _), Kd.R_nil _ _ _ _ _⟩

/-- One turn, whatever it is. -/
theorem do_any (w : World) (base g : Nat) (v : Value) (b : ByteArray) (s : St) (n k : Int) (m : Nat) (h : At w base g v s) (hI : Inv m s) (hm : m ≤ 1000) (hb : base ≤ w.heap.size) (hlb : b.size ≤ 140737488351232) :
    Calls Try.prog 27 #[.pointer (some ⟨g, 0, none⟩), .agg #[.int .i64 k, .string b, .int .i64 n]] w (Done w base g v (step k b n s)) := by
  by_cases h1 : k = 1
  · subst h1; exact do_push w base g v b s n h hI.len hlb
  · by_cases h2 : k = 2
    · subst h2; exact do_tick w base g v b s n m h hI hm
    · by_cases h3 : k = 3
      · subst h3; exact do_done w base g v b s n m h hI hm hb
      · by_cases h4 : k = 4
        · subst h4; exact do_fail w base g v b s n m h hI hm hb
        · exact do_other w base g v b s n k h h1 h2 h3 h4

end Go.Proofs.Ytolnkahidgobhaa.Out
