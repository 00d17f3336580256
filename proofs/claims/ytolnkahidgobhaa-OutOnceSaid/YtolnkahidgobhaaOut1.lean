/- The methods of an outbox: what a call of each does to the outbox's block, to its row of items, and to nothing else. -/
import Derived.Test.YtolnkahidgobhaaQOutx0
import Derived.Test.YtolnkahidgobhaaQOutx5
import Derived.StillTailTactics
import Derived.Lib.SliceRun
namespace Go.Proofs.Ytolnkahidgobhaa.Out
open Go.RowKit Go.Proofs.Ytolnkahidgobhaa.QOut Go.Proofs.YtolnkahidgobhaaW.PrintWords Go.Proofs.YtolnkahidgobhaaW.PrintLast Go.Proofs.YtolnkahidgobhaaW.PrintMore
attribute [local go_sem] max2_int min2_int max_two min_two

theorem info9 : (Try.prog.info? 9).map (fun i => (i.zero, i.size, i.bytes)) = some (some (.string ⟨#[]⟩), 1, 16) := by kernel_rfl

/-- What an outbox holds. -/
structure St where
  items : List ByteArray
  size : Int
  batch : Int
  away : Bool
  fails : Int
  clock : Int
  frm : Int

/-- An outbox at block g: its items lie in a row of the call's own, apart from g. -/
structure At (w : World) (base g : Nat) (v : Value) (s : St) : Prop where
  blk : w.heap[g]? = some (.cells #[v, .int .i64 s.size, .int .i64 s.batch, .bool s.away, .int .i64 s.fails, .int .i64 s.clock, .int .i64 s.frm] 63 (0, 0))
  ge : base ≤ g
  row : Kd.string.R 9 w base (fun k => k ≠ g) v s.items

/-- What a method may have done: of the elder blocks only block g and the row of items (v) may differ; the row of items is the same one or a new one. -/
structure Eff (w w' : World) (g : Nat) (v v' : Value) : Prop where
  os : w'.os = w.os
  tape : w'.tape = w.tape
  output : w'.output = w.output
  size : w.heap.size ≤ w'.heap.size
  block : ∀ k, k < w.heap.size → k ≠ g → some k ≠ v.ownBlock → w'.heap[k]? = w.heap[k]?
  own : ∀ b, v'.ownBlock = some b → v.ownBlock = some b ∨ w.heap.size ≤ b

theorem Eff.refl (w : World) (g : Nat) (v : Value) : Eff w w g v v := ⟨rfl, rfl, rfl, Nat.le_refl _, fun _ _ _ _ => rfl, fun _ h => .inl h⟩
theorem Eff.trans {a b c : World} {g : Nat} {u v x : Value} (h : Eff a b g u v) (k : Eff b c g v x) : Eff a c g u x :=
  ⟨k.os.trans h.os, k.tape.trans h.tape, k.output.trans h.output, Nat.le_trans h.size k.size, fun i hi h1 h2 => by
    rw [← h.block i hi h1 h2]
    refine k.block i (Nat.lt_of_lt_of_le hi h.size) h1 (fun e => ?_)
    rcases h.own i e.symm with e | hj
    · exact h2 e.symm
    · omega, fun i hi => by
    rcases k.own i hi with e | hj
    · exact h.own i e
    · exact .inr (Nat.le_trans h.size hj)⟩
theorem Eff.drewN (w : World) (g : Nat) (v : Value) (n : Nat) : Eff w (w.drewN n) g v v := ⟨rfl, rfl, rfl, Nat.le_refl _, fun _ _ _ _ => rfl, fun _ h => .inl h⟩
theorem Eff.set (w : World) (g i : Nat) (u v : Value) : Eff w (w.setCell ⟨g, i, none⟩ u) g v v :=
  ⟨rfl, rfl, rfl, by simp [World.setCell], fun k _ h1 _ => Below.heap_setCell w ⟨g, i, none⟩ u k h1, fun _ h => .inl h⟩
theorem Eff.alloc (w : World) (g : Nat) (v : Value) (o : Obj) : Eff w (w.alloc o) g v v := ⟨rfl, rfl, rfl, by simp, fun k hk _ _ => Below.heap_alloc _ _ _ hk, fun _ h => .inl h⟩
theorem Eff.grown {w w1 : World} (g : Nat) {v v1 : Value} (hg : w.grownBy w1 v.ownBlock) (ha : v1.ownBlock = v.ownBlock ∨ ∃ b, v1.ownBlock = some b ∧ w.heap.size ≤ b) : Eff w w1 g v v1 :=
  ⟨hg.os, hg.tape, hg.output, hg.size, fun k hk _ h2 => hg.block k hk h2, fun i hi => by
    rcases ha with e | ⟨b, e, hb⟩
    · exact .inl (e ▸ hi)
    · rw [e] at hi; exact .inr (Option.some.inj hi ▸ hb)⟩
/-- A call that changed nothing old. -/
theorem Eff.below {w w1 : World} (g : Nat) (v : Value) (h : Below w.heap.size w w1) : Eff w w1 g v v := ⟨h.os, h.tape, h.output, h.size, fun k hk _ _ => h.block k hk, fun _ h => .inl h⟩

/-- All cells of an outbox. -/
theorem At.cells {w : World} {base g : Nat} {v : Value} {s : St} (h : At w base g v s) :
    w.cell? ⟨g, 0, none⟩ = some v ∧ w.cell? ⟨g, 1, none⟩ = some (.int .i64 s.size) ∧ w.cell? ⟨g, 2, none⟩ = some (.int .i64 s.batch) ∧ w.cell? ⟨g, 3, none⟩ = some (.bool s.away) ∧ w.cell? ⟨g, 4, none⟩ = some (.int .i64 s.fails) ∧ w.cell? ⟨g, 5, none⟩ = some (.int .i64 s.clock) ∧ w.cell? ⟨g, 6, none⟩ = some (.int .i64 s.frm) ∧ ∀ i, w.frozen? ⟨g, i, none⟩ = false :=
  ⟨(blk_cell h.blk 0).trans rfl, (blk_cell h.blk 1).trans rfl, (blk_cell h.blk 2).trans rfl, (blk_cell h.blk 3).trans rfl, (blk_cell h.blk 4).trans rfl, (blk_cell h.blk 5).trans rfl, (blk_cell h.blk 6).trans rfl, fun i => blk_frozen h.blk i⟩

theorem At.drew {w : World} {base g : Nat} {v : Value} {s : St} (h : At w base g v s) : At w.drew base g v s := ⟨h.blk, h.ge, Kd.R_drew h.row⟩
theorem At.drewN {w : World} {base g : Nat} {v : Value} {s : St} (h : At w base g v s) (n : Nat) : At (w.drewN n) base g v s := ⟨h.blk, h.ge, Kd.R_drewN h.row n⟩
theorem At.alloc {w : World} {base g : Nat} {v : Value} {s : St} (h : At w base g v s) (o : Obj) : At (w.alloc o) base g v s := ⟨blk_alloc h.blk o, h.ge, Kd.R_alloc h.row o⟩
theorem At.below {w w1 : World} {base g : Nat} {v : Value} {s : St} (h : At w base g v s) (hb : Below w.heap.size w w1) : At w1 base g v s :=
  ⟨by rw [hb.block g (blk_lt h.blk)]; exact h.blk, h.ge, Kd.R_below h.row hb⟩
theorem Eff.toBelow {w w1 : World} {base g : Nat} {v v1 : Value} {s : St} (h : Eff w w1 g v v1) (ha : At w base g v s) (hb : base ≤ w.heap.size) : Below base w w1 :=
  ⟨h.os, h.tape, h.output, h.size, fun k hk => h.block k (by omega) (by have := ha.ge; omega) (fun e => by have := Kd.R_base ha.row k e.symm; omega)⟩

/-- The row of items was appended to and put back. -/
theorem stored {w w1 : World} {base g : Nat} {v v1 : Value} {s : St} {D1 : List ByteArray} (h : At w base g v s) (ho : Kd.string.R 9 w1 base (fun k => k ≠ g) v1 D1) (hg : w.grownBy w1 v.ownBlock) (ha : v1.ownBlock = v.ownBlock ∨ ∃ b, v1.ownBlock = some b ∧ w.heap.size ≤ b) :
    At (w1.setCell ⟨g, 0, none⟩ v1) base g v1 { s with items := D1 } ∧ Eff w (w1.setCell ⟨g, 0, none⟩ v1) g v v1 := by
  have hb1 : w1.heap[g]? = _ := blk_grown h.blk hg (Kd.R_ne h.row h.blk (by decide))
  exact ⟨⟨by simpa using blk_set hb1 0 v1, h.ge, Kd.R_far ho (fun k hk => hk) v1⟩, (Eff.grown g hg ha).trans (Eff.set w1 g 0 v1 v1)⟩

/-- What Push comes to. -/
def push (b : ByteArray) (s : St) : Int × St :=
  if b.size = 0 ∨ 20 < b.size then (1, s) else if s.items.length = 60 then (10, s) else (0, { s with items := s.items ++ [b] })

theorem toList_nil (b : ByteArray) : b.toList.isEmpty = decide (b.size = 0) := by
  have h2 : b.size = b.toList.length := by rw [ByteArray.toList_eq]; rfl
  rw [h2]
  cases b.toList with
  | nil => rfl
  | cons a l => rfl

set_option maxHeartbeats 1000000 in
theorem Push_calls (w : World) (base g : Nat) (v : Value) (s : St) (b : ByteArray) (h : At w base g v s) (hs : s.items.length ≤ 60) (hb : b.size ≤ 140737488351232) :
    Calls Try.prog 30 #[.pointer (some ⟨g, 0, none⟩), .string b] w fun e w' => ∃ v', e = .returned (.int .i64 (push b s).1) ∧ At w' base g v' (push b s).2 ∧ Eff w w' g v v' := by
  have HAt := Aside0.mk h
  have HS := Aside0.mk hs
  obtain ⟨hblk, hge, hrow⟩ := h
  obtain ⟨Ad, cd, rfl, hlc, hrd⟩ := Kd.R_reads hrow
  have hc0 : w.cell? ⟨g, 0, none⟩ = some (.slice Ad s.items.length cd) := (blk_cell hblk 0).trans rfl
  have HR := Aside0.mk hrow
  have HB := Aside0.mk hblk
  have hgl := blk_lt hblk
  have hnil := toList_nil b
  clear hrow hblk hrd
  unfold push
  by_cases h1 : b.size = 0
  · rw [if_pos (Or.inl h1)]
    have hz : b.toList.isEmpty = true := by rw [hnil]; exact decide_eq_true h1
    have hz2 : b.toList = [] := List.isEmpty_iff.1 hz
    clear hnil h1
    go_enter Try.func30, Try.ntmps30
    go_wp2
    go_ret
    exact ⟨_, rfl, HAt.out, Eff.refl _ _ _⟩
  · have hz : b.toList.isEmpty = false := by rw [hnil]; exact decide_eq_false h1
    have hz2 : b.toList ≠ [] := fun e => by rw [e] at hz; exact absurd hz (by decide)
    by_cases h2 : 20 < b.size
    · rw [if_pos (Or.inr h2)]
      have ht : decide (20 < (b.size : Int)) = true := decide_eq_true (by omega)
      clear hnil h1 h2
      go_enter Try.func30, Try.ntmps30
      go_wp2
      go_ret
      exact ⟨_, rfl, HAt.out, Eff.refl _ _ _⟩
    · rw [if_neg (by omega)]
      have ht : decide (20 < (b.size : Int)) = false := decide_eq_false (by omega)
      by_cases h3 : s.items.length = 60
      · rw [if_pos h3]
        have h3b : ((s.items.length : Int) == 60) = true := beq_iff_eq.mpr (by omega)
        have H3 := Aside0.mk h3
        clear hnil h1 h2 h3
        go_enter Try.func30, Try.ntmps30
        go_wp2
        go_ret
        exact ⟨_, rfl, HAt.out, Eff.refl _ _ _⟩
      · rw [if_neg h3]
        have h3b : ((s.items.length : Int) == 60) = false := beq_eq_false_iff_ne.mpr (by omega)
        clear hnil h1 h2 h3
        go_enter Try.func30, Try.ntmps30
        go_wp2_with (first | (at_builtin; refine Kd.R_append Kd.string (w0 := w) base rfl (.tmp 24) (.tmp 26) 41 9 (.string ⟨#[]⟩) 16 rfl Try.underlying41 info9 rfl (by decide) (by omega) _ s.items b [.string b] (fun k => k ≠ g) (fun _ => False) rfl rfl rfl (fun _ h => h.elim) (fun k hk => by omega) HR.out (Below.refl _ _) (by have := HAt.out.ge; omega) (by have := HS.out; omega) ?_; intro v1 w1 ho _ hg ha; obtain ⟨A1, c1, rfl, _, _⟩ := Kd.R_reads ho; have hfin := Aside0.mk (stored HAt.out ho hg ha); have hb1 := blk_grown HB.out hg (Kd.R_ne HR.out HB.out (by decide)); have hc1 := (blk_cell hb1 0).trans rfl; have hf1 := blk_frozen hb1 0; clear ho hg ha hb1))
        go_ret
        have hx := hfin.out
        rw [List.length_append, List.length_singleton] at hx
        exact ⟨_, rfl, hx.1, hx.2⟩

end Go.Proofs.Ytolnkahidgobhaa.Out
