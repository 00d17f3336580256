/- The loop over turns: what out.Play comes to. -/
import Derived.Test.YtolnkahidgobhaaOut4
namespace Go.Proofs.Ytolnkahidgobhaa.Out
open Go.RowKit Go.Proofs.Ytolnkahidgobhaa.QOut Go.Proofs.YtolnkahidgobhaaW.PrintWords Go.Proofs.YtolnkahidgobhaaW.PrintLast Go.Proofs.YtolnkahidgobhaaW.PrintMore

/-- An outbox at its beginning. -/
def st0 : St := ⟨[], 0, 0, false, 0, 0, 0⟩
/-- What one turn tells. -/
def sent (r : (Int × Int × List ByteArray) × St) : S45 := ⟨r.1.1, r.1.2.1, r.1.2.2⟩
/-- All turns, one behind the other. -/
def run : List S43 → St → List S45
  | [], _ => []
  | t :: l, s => sent (step t.f0 t.f1 t.f2 s) :: run l (step t.f0 t.f1 t.f2 s).2

theorem Inv.first : Inv 0 st0 := ⟨by decide, by decide, by decide, by decide, by decide, by decide⟩
theorem Inv.more {m : Nat} {s : St} (h : Inv m s) : Inv (m + 1) s := ⟨h.len, h.size, by have := h.batch; omega, by have := h.fails; omega, by have := h.clock; omega, by have := h.frm; omega⟩
theorem Inv.push {m : Nat} {s : St} (h : Inv m s) (b : ByteArray) : Inv (m + 1) (push b s).2 := by
  unfold Out.push
  split
  · exact h.more
  · split
    · exact h.more
    · have h1 := h.len
      exact ⟨by simp; omega, by have := h.size; simp; omega, h.more.batch, h.more.fails, h.more.clock, h.more.frm⟩
theorem Inv.tick {m : Nat} {s : St} (h : Inv m s) (n : Int) (h0 : 1 ≤ n) (h1 : n ≤ 1000) : Inv (m + 1) (tick n s).2 := by
  have hc := h.clock
  have hb := h.batch
  have hr := mn_range s.items.length
  unfold Out.tick
  split
  · exact ⟨h.len, h.size, h.more.batch, h.more.fails, by simp; omega, h.more.frm⟩
  · split
    · exact ⟨h.len, hr, by simp; omega, h.more.fails, by simp; omega, h.more.frm⟩
    · exact ⟨h.len, h.size, h.more.batch, h.more.fails, by simp; omega, h.more.frm⟩
theorem Inv.fin {m : Nat} {s : St} (h : Inv m s) (b : Int) (came : Bool) : Inv (m + 1) (fin b came s).2 := by
  have hf := h.fails
  have hc := h.clock
  have hr := waitN_range (s.fails + 1)
  have hl := h.len
  unfold Out.fin
  split
  · exact h.more
  · split
    · exact ⟨h.len, h.size, h.more.batch, by simp; omega, h.more.clock, by simp; omega⟩
    · exact ⟨by simp; omega, by simp, h.more.batch, by simp; omega, h.more.clock, by simp; omega⟩
theorem Inv.step {m : Nat} {s : St} (h : Inv m s) (k : Int) (b : ByteArray) (n : Int) : Inv (m + 1) (step k b n s).2 := by
  unfold Out.step
  split
  · exact h.push b
  · split
    · split
      · exact h.more
      · exact h.tick n (by omega) (by omega)
    · split
      · exact h.fin n _
      · exact h.more

theorem info45 : (Try.prog.info? 45).map (fun i => (i.zero, i.size, i.bytes)) = some (some (.agg #[.int .i64 0, .int .i64 0, .slice none 0 0]), 3, 40) := by kernel_rfl

/-- The rows that are told outlast what a turn does. -/
theorem told_eff {w w1 : World} {base g : Nat} {v v1 u : Value} {xs : List S45} (h : Kd.S k45 45 w base (fun k => k ≠ g ∧ some k ≠ v.ownBlock) u xs) (hE : Eff w w1 g v v1) : Kd.S k45 45 w1 base (fun k => (k ≠ g ∧ some k ≠ v1.ownBlock) ∧ k < w.heap.size) u xs := by
  refine Kd.S_mono (Kd.S_step (Kd.S_bound h) (fun k hk hlt => hE.block k hlt hk.1.1 hk.1.2)) (fun k hk => ⟨⟨hk.1.1, fun e => ?_⟩, hk.2.2.1⟩)
  rcases hE.own k e.symm with e | hj
  · exact hk.1.2 e.symm
  · have := hk.2.2.1; omega

/-- The outbox outlasts an append to what is told. -/
theorem At.grown {w w1 : World} {base g : Nat} {v : Value} {s : St} {ok : Nat → Prop} {u : Value} {xs : List S45} (h : At w base g v s) (hr : Kd.S k45 45 w base ok u xs) (hg : w.grownBy w1 u.ownBlock) : At w1 base g v s := by
  have hR := Kd.S_R hr
  refine ⟨blk_grown h.blk hg (Kd.R_ne hR h.blk (by decide)), h.ge, ?_⟩
  refine Kd.R_mono (Kd.R_move (Kd.R_bound h.row) (fun k hk => ?_)) (fun k hk => hk.1)
  obtain ⟨_, _, hlt, q, hq, cells, hc⟩ := hk
  have hq2 : q = 9 := by rcases List.mem_cons.1 hq with hq | hq; exact hq; cases hq
  subst hq2
  refine hg.block k hlt (fun e => ?_)
  obtain ⟨inner, hown⟩ := Kd.R_own hR
  obtain ⟨c2, h2⟩ := own_typed hown k e.symm
  rw [hc] at h2; injection h2 with h2; injection h2 with _ h3; exact absurd h3 (by decide)

/-- What a round's append asks. -/
structure Round (w wr w1 : World) (v1 v5 u : Value) (cs : List S45) (r : (Int × Int × List ByteArray) × St) : Prop where
  row : k45.M w1 w.heap.size (fun k => wr.heap.size < k ∧ some k ≠ v1.ownBlock) (sent r) [.int .i64 r.1.1, .int .i64 r.1.2.1, u]
  okp : ∀ k, (wr.heap.size < k ∧ some k ≠ v1.ownBlock) → (k ≠ w.heap.size ∧ some k ≠ v1.ownBlock) ∧ some k ≠ v5.ownBlock
  fresh : ∀ k, w1.heap.size ≤ k → k ≠ w.heap.size ∧ some k ≠ v1.ownBlock
  told : Kd.S k45 45 w1 w.heap.size (fun k => (k ≠ w.heap.size ∧ some k ≠ v1.ownBlock) ∧ ¬ (wr.heap.size < k ∧ some k ≠ v1.ownBlock)) v5 cs
  below : Below w.heap.size w w1
  size : w.heap.size ≤ w1.heap.size
theorem round_facts {w wr w1 : World} {v v1 v5 u : Value} {cs : List S45} {s : St} {o : Obj} {r : (Int × Int × List ByteArray) × St} (hAt : At wr w.heap.size w.heap.size v s) (hB : Below w.heap.size w wr) (hC : Kd.S k45 45 wr w.heap.size (fun k => k ≠ w.heap.size ∧ some k ≠ v.ownBlock) v5 cs)
    (hA : At w1 w.heap.size w.heap.size v1 r.2) (hE : Eff (wr.alloc o) w1 w.heap.size v v1) (hu : Kd.string.R 9 w1 (wr.alloc o).heap.size (fun k => some k ≠ v1.ownBlock) u r.1.2.2) : Round w wr w1 v1 v5 u cs r := by
  have hs : (wr.alloc o).heap.size = wr.heap.size + 1 := by simp
  have h1 := hB.size
  have h2 := hE.size
  have h3 := blk_lt hAt.blk
  rw [hs] at h2
  refine ⟨?_, fun k hk => ⟨⟨by have := hk.1; omega, hk.2⟩, fun e => by have := Kd.R_lt (Kd.S_R hC) k e.symm; have := hk.1; omega⟩, fun k hk => ⟨by omega, fun e => by have := Kd.R_lt hA.row k e.symm; omega⟩, ?_, (below_alloc hB o).trans (hE.toBelow (hAt.alloc o) (by rw [hs]; omega)), by omega⟩
  · exact k45_mkM _ _ _ (sent r) (Kd.R_lower (Kd.R_mono (Kd.R_bound hu) (fun k hk => ⟨by have := hk.2.1; rw [hs] at this; omega, hk.1⟩)) (by rw [hs]; omega))
  · exact Kd.S_mono (told_eff (Kd.S_alloc hC o) hE) (fun k hk => ⟨hk.1, fun h => by have := hk.2; rw [hs] at this; have := h.1; omega⟩)

/-- What Play hands back, where the turns are not too many. -/
def Played (w : World) (r : List S45) (e : Ending) (w' : World) : Prop :=
  ∃ u, e = .returned (.tuple #[u, .int .i64 0]) ∧ Kd.S k45 45 w' w.heap.size (fun _ => True) u r ∧ Below w.heap.size w w'

set_option maxRecDepth 100000 in
set_option maxHeartbeats 4000000 in
theorem play_calls (A0 : Option Addr) (c0 : Nat) (l : List S43) (w : World) (hr : Kd.C k43 w A0 l.length l) (hl : l.length ≤ 100) (hb : ∀ m ∈ l, m.f1.size ≤ 140737488351232) :
    Calls Try.prog 23 #[.slice A0 l.length c0] w (Played w (run l st0)) := by
  have HR := Aside0.mk hr
  have HB := Aside0.mk hb
  have ht : decide (100 < (l.length : Int)) = false := decide_eq_false (by omega)
  have HL := Aside0.mk hl
  generalize hR : run l st0 = R
  have HRun := Aside0.mk hR
  clear hr hb hR
  go_enter Try.func23, Try.ntmps23
  go_wp2
  go_loopg [5, 15] (l.length) (fun kq v5 v15 wr => ∃ (i : Nat) (cs : List S45) (s : St) (v : Value), v15 = .int .i64 i ∧ Aside0 (kq + i = l.length) ∧ Aside0 (cs.length = i) ∧ Aside0 (cs ++ run (l.drop i) s = R) ∧ Aside0 (At wr w.heap.size w.heap.size v s) ∧ Aside0 (Inv i s) ∧ Aside0 (Kd.S k45 45 wr w.heap.size (fun k => k ≠ w.heap.size ∧ some k ≠ v.ownBlock) v5 cs) ∧ Aside0 (Below w.heap.size w wr))
  case atStart =>
    refine ⟨0, [], st0, .slice none 0 0, rfl, ⟨by omega⟩, ⟨rfl⟩, ⟨?_⟩, ⟨⟨by simpa [st0] using heap_alloc_new w _, Nat.le_refl _, Kd.R_nil _ _ _ _ _⟩⟩, ⟨Inv.first⟩, ⟨Kd.S_nil _ _ _ _ _⟩, ⟨below_alloc (Below.refl _ _) _⟩⟩
    rw [← HRun.out]; rfl
  case round =>
    obtain ⟨i, cs, s, v, rfl, hK, hLen, hRi, hAt, hI, hCs, hBel⟩ := hrel
    by_cases hlt : i < l.length
    · have hm := List.getElem_mem hlt
      obtain ⟨ad, rfl, hx0, hx1, hx2⟩ := at_T43 (Kd.C_below HR.out hBel.out) (i : Int) (by omega) (by omega)
      have hel : rd_T43 l (i : Int) = l[i] := by simp [rd_T43, List.getD_eq_getElem?_getD, hlt]
      rw [hel] at hx0 hx1 hx2
      rw [Int.toNat_natCast] at hx0 hx1 hx2
      have HBm := Aside0.mk (HB.out _ hm)
      clear hel hm
      have hRi' : cs ++ run (l.drop i) s = (cs ++ [sent (step l[i].f0 l[i].f1 l[i].f2 s)]) ++ run (l.drop (i + 1)) (step l[i].f0 l[i].f1 l[i].f2 s).2 := by
        rw [List.drop_eq_getElem_cons hlt, run]; simp
      have HRi := Aside0.mk (hRi'.symm.trans hRi.out)
      clear hRi hRi'
      have HI := Aside0.mk (hI.out.step l[i].f0 l[i].f1 l[i].f2)
      generalize hst : step l[i].f0 l[i].f1 l[i].f2 s = st at HRi HI
      have HSt := Aside0.mk hst
      clear hst
      generalize l[i] = m at *
      go_wp2_with (first | (go_at_call 27; refine (do_any _ w.heap.size w.heap.size v m.f1 s m.f2 m.f0 i (hAt.out.alloc _) hI.out (by have := HL.out; omega) (by have := hBel.out.size; simp; omega) HBm.out).mono ?_; rintro e w1 ⟨v1, u, he, hA, hE, hu⟩; rw [HSt.out] at he hA hu; subst he; obtain ⟨A3, c3, rfl, _, _⟩ := Kd.R_reads hu; have HX := Aside0.mk (round_facts hAt.out hBel.out hCs.out hA hE hu); have HA := Aside0.mk hA; clear hA hE hu) | (at_builtin; refine Kd.S_append k45 (w0 := w) w.heap.size rfl (.tmp 19) (.tmp 23) 38 45 (.agg #[.int .i64 0, .int .i64 0, .slice none 0 0]) 40 rfl Try.underlying38 info45 rfl (by decide) (by omega) _ cs (sent st) [.int .i64 st.1.1, .int .i64 st.1.2.1, .slice A3 st.1.2.2.length c3] (fun k => k ≠ w.heap.size ∧ some k ≠ v1.ownBlock) (fun k => wr.heap.size < k ∧ some k ≠ v1.ownBlock) rfl (by first | (go_simp; done) | (go_simp; rfl)) HX.out.row HX.out.okp HX.out.fresh HX.out.told HX.out.below HX.out.size (by have := hLen.out; have := hK.out; have := HL.out; omega) ?_; intro v2 w2 ho hb hg _; have HC2 := Aside0.mk ho; have HB2 := Aside0.mk hb; have HA2 := Aside0.mk (HA.out.grown HX.out.told hg); clear ho hb hg))
      go_roundg (gk - 1)
      case measure => have := hK.out; omega
      case rel => exact ⟨i + 1, cs ++ [sent st], st.2, v1, by have hL_ := HL.out; go_num, ⟨by have := hK.out; omega⟩, ⟨by rw [List.length_append, hLen.out]; rfl⟩, HRi, HA2, HI, HC2, HB2⟩
    · have hil : i = l.length := by have := hK.out; omega
      have HD := Aside0.mk (show l.drop i = [] from List.drop_of_length_le (by omega))
      clear hil
      go_wp2
      go_ret2
      have hR := hRi.out
      rw [HD.out] at hR
      have e1 : cs = R := by simpa [run] using hR
      refine ⟨_, rfl, ?_, hBel.out⟩
      rw [← e1]; exact Kd.S_mono hCs.out (fun _ _ => trivial)

set_option maxRecDepth 100000 in
set_option maxHeartbeats 4000000 in
theorem play_many (A0 : Option Addr) (c0 n : Nat) (w : World) (hl : 100 < n) :
    Calls Try.prog 23 #[.slice A0 n c0] w fun e w' => e = .returned (.tuple #[.slice none 0 0, .int .i64 1]) ∧ w = w' := by
  have ht : decide (100 < (n : Int)) = true := decide_eq_true (by omega)
  go_enter Try.func23, Try.ntmps23
  go_wp2
  go_ret2
  exact ⟨rfl, rfl⟩

end Go.Proofs.Ytolnkahidgobhaa.Out
namespace Go.Proofs.Ytolnkahidgobhaa.QOut
open Go.RowKit Go.Proofs.Ytolnkahidgobhaa.Out Go.Proofs.YtolnkahidgobhaaW.PrintWords Go.Proofs.YtolnkahidgobhaaW.PrintLast Go.Proofs.YtolnkahidgobhaaW.PrintMore

/-- Are all bodies short enough to be? -/
def short (l : List S43) : Bool := l.all fun m => decide (m.f1.size ≤ 140737488351232)
theorem short_iff (l : List S43) : short l = true ↔ ∀ m ∈ l, m.f1.size ≤ 140737488351232 := by simp [short]

def out_Play.f (l : List S43) : Option (List S45 × Int) :=
  if 100 < l.length then some ([], 1) else if short l = true then some (run l st0, 0) else none
theorem out_Play.calls (A0 : Option Addr) (c0 : Nat) (l0 : List S43) (r1 : List S45) (r2 : Int) (w : World) (hr0 : Kd.C k43 w A0 l0.length l0) (_hc0 : l0.length ≤ c0) (h : out_Play.f l0 = some (r1, r2)) :
    Calls Try.prog 23 #[.slice A0 l0.length c0] w fun e w' => ∃ v0_ : Value, e = .returned (.tuple #[v0_, .int .i64 r2]) ∧ Kd.S k45 45 w' w.heap.size (fun _ => True) v0_ r1 ∧ Below w.heap.size w w' := by
  unfold out_Play.f at h
  by_cases hm : 100 < l0.length
  · rw [if_pos hm] at h
    simp only [Option.some.injEq, Prod.mk.injEq] at h
    obtain ⟨rfl, rfl⟩ := h
    refine (play_many A0 c0 l0.length w hm).mono ?_
    rintro e w' ⟨rfl, rfl⟩
    exact ⟨_, rfl, Kd.S_nil _ _ _ _ _, Below.refl _ _⟩
  · rw [if_neg hm] at h
    by_cases hs : short l0 = true
    · rw [if_pos hs] at h
      simp only [Option.some.injEq, Prod.mk.injEq] at h
      obtain ⟨rfl, rfl⟩ := h
      exact play_calls A0 c0 l0 w hr0 (by omega) ((short_iff l0).1 hs)
    · rw [if_neg hs] at h; cases h

end Go.Proofs.Ytolnkahidgobhaa.QOut
