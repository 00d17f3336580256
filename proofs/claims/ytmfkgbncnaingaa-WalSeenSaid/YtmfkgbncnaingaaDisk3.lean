/- The loop over moves: what play comes to. -/
import Derived.Test.YtmfkgbncnaingaaDisk2
import Derived.Test.YtmfkgbncnaingaaQDiskx0
namespace Go.Proofs.Ytmfkgbncnaingaa.Disk
open Go.RowKit Go.Proofs.Ytmfkgbncnaingaa.QDisk Go.Proofs.YtmfkgbncnaingaaW.PrintWords Go.Proofs.YtmfkgbncnaingaaW.PrintLast Go.Proofs.YtmfkgbncnaingaaW.PrintMore

theorem infoE : (Try.prog.info? 37).map (fun i => (i.zero, i.size, i.bytes)) = some (some (.int .i64 0), 1, 8) := by kernel_rfl

/-- All moves, one behind the other: the codes, the bytes, how many of them are synced. -/
def run : List S32 → List Int → Int → List Int × List Int × Int
  | [], D, s => ([], D, s)
  | m :: l, D, s => let r := step m.f0 m.f1 m.f2 D s; let t := run l r.2.1 r.2.2; (r.1 :: t.1, t.2)

/-- The disk is sound. -/
def Ok (D : List Int) (s : Int) : Prop := D.length ≤ 1200 ∧ 0 ≤ s ∧ s ≤ D.length

theorem Ok.step {D : List Int} {s : Int} (h : Ok D s) (k : Int) (b : List Int) (n : Int) : Ok (Disk.step k b n D s).2.1 (Disk.step k b n D s).2.2 := by
  obtain ⟨h1, h2, h3⟩ := h
  have hT : ∀ m : Int, 0 ≤ m → m ≤ D.length → Ok (D.take m.toNat) m := fun m h0 h4 => ⟨by rw [List.length_take]; omega, h0, by rw [List.length_take]; omega⟩
  unfold Disk.step
  split
  · split
    · exact ⟨by show (D ++ b).length ≤ 1200; rw [List.length_append]; omega, h2, by show s ≤ ((D ++ b).length : Int); rw [List.length_append]; omega⟩
    · exact ⟨h1, h2, h3⟩
  · split
    · exact ⟨h1, by show (0 : Int) ≤ D.length; omega, by show (D.length : Int) ≤ D.length; omega⟩
    · split
      · split
        · exact ⟨h1, h2, h3⟩
        · exact hT _ (by omega) (by omega)
      · split
        · split
          · exact ⟨h1, h2, h3⟩
          · have := fallTo_range h2 h3 (show 0 ≤ n by omega)
            exact hT _ this.1 this.2
        · exact ⟨h1, h2, h3⟩

/-- One move, whatever it is. -/
theorem do_any (w : World) (base g : Nat) (v : Value) (D b : List Int) (s n k : Int) (A : Option Addr) (c : Nat) (h : At w base g v D s) (hb : (Kd.int .u8).C w A b.length b) (ho : Ok D s) (hlb : b.length ≤ 140737488351232) :
    Calls Try.prog 71 #[.pointer (some ⟨g, 0, none⟩), .agg #[.int .i64 k, .slice A b.length c, .int .i64 n]] w (Post w base g (Disk.step k b n D s)) := by
  by_cases h1 : k = 1
  · subst h1; exact do_write w base g v D b s n A c h hb ho.1 hlb
  · by_cases h2 : k = 2
    · subst h2; exact do_sync w base g v D b s n A c h
    · by_cases h3 : k = 3
      · subst h3; exact do_trim w base g v D b s n A c h ho.1
      · by_cases h4 : k = 4
        · subst h4; exact do_fall w base g v D b s n A c h ho.2.1 ho.2.2 ho.1
        · exact do_other w base g v D b s n k A c h h1 h2 h3 h4

/-- A row of codes outlasts what a method does. -/
theorem codes_eff {w w1 : World} {base g : Nat} {ok : Nat → Prop} {v : Value} {xs : List Int} {c : Array Value} (h : (Kd.int .i64).R 37 w base ok v xs) (hg : w.heap[g]? = some (.cells c 101 (0, 0))) (hE : Eff w w1 base g) : (Kd.int .i64).R 37 w1 base ok v xs := by
  refine Kd.R_mono (Kd.R_move (Kd.R_bound h) (fun k hk => ?_)) (fun k hk => hk.1)
  obtain ⟨_, _, hlt, q, hq, cells, hc⟩ := hk
  have hq2 : q = 37 := by rcases List.mem_cons.1 hq with hq | hq; exact hq; cases hq
  subst hq2
  refine hE.block k hlt (.inr ⟨?_, fun cs he => ?_⟩)
  · rintro rfl; rw [hc] at hg; injection hg with hg; injection hg with _ h2; exact absurd h2 (by decide)
  · rw [hc] at he; injection he with he; injection he with _ h2; exact absurd h2 (by decide)

theorem Eff.below {w w1 : World} {base g : Nat} (h : Eff w w1 base g) (hb : base ≤ w.heap.size) : Below base w w1 :=
  ⟨h.os, h.tape, h.output, h.size, fun k hk => h.block k (by omega) (.inl hk)⟩

/-- The disk outlasts an append to the row of codes. -/
theorem At.grown {w w1 : World} {base g : Nat} {v : Value} {D : List Int} {s : Int} {ok : Nat → Prop} {cv : Value} {cs : List Int} (h : At w base g v D s) (hr : (Kd.int .i64).R 37 w base ok cv cs) (hg : w.grownBy w1 cv.ownBlock) : At w1 base g v D s := by
  refine ⟨blk_grown h.blk hg (Kd.R_ne hr h.blk (by decide)), h.ge, ?_⟩
  refine Kd.R_mono (Kd.R_move (Kd.R_bound h.row) (fun k hk => ?_)) (fun k hk => hk.1)
  obtain ⟨_, _, hlt, q, hq, cells, hc⟩ := hk
  have hq2 : q = 5 := by rcases List.mem_cons.1 hq with hq | hq; exact hq; cases hq
  subst hq2
  refine hg.block k hlt (fun e => ?_)
  obtain ⟨inner, hown⟩ := Kd.R_own hr
  obtain ⟨c2, h2⟩ := own_typed hown k e.symm
  rw [hc] at h2; injection h2 with h2; injection h2 with _ h3; exact absurd h3 (by decide)

/-- What play hands back, where the moves are not too many. -/
def Played (w : World) (r : List Int × List Int × Int) (e : Ending) (w' : World) : Prop :=
  ∃ g v cv, e = .returned (.tuple #[.pointer (some ⟨g, 0, none⟩), cv, .int .i64 0]) ∧ At w' w.heap.size g v r.2.1 r.2.2 ∧ Ok r.2.1 r.2.2 ∧ (Kd.int .i64).R 37 w' w.heap.size (fun _ => True) cv r.1 ∧ Below w.heap.size w w'

set_option maxRecDepth 100000 in
set_option maxHeartbeats 4000000 in
theorem play_calls (A0 : Option Addr) (c0 : Nat) (l : List S32) (w : World) (hr : Kd.C k32 w A0 l.length l) (hl : l.length ≤ 100) (hb : ∀ m ∈ l, m.f1.length ≤ 140737488351232) :
    Calls Try.prog 56 #[.slice A0 l.length c0] w (Played w (run l [] 0)) := by
  have HR := Aside0.mk hr
  have HB := Aside0.mk hb
  have ht : decide (100 < (l.length : Int)) = false := decide_eq_false (by omega)
  generalize hR : run l [] 0 = R
  have HRun := Aside0.mk hR
  clear hr hb hR
  go_enter Try.func56, Try.ntmps56
  go_wp2
  go_loopg [6, 16] (l.length) (fun kq v6 v16 wr => ∃ (i : Nat) (cs : List Int) (D : List Int) (s : Int) (v : Value), v16 = .int .i64 i ∧ Aside0 (kq + i = l.length) ∧ Aside0 (cs.length = i) ∧ Aside0 ((cs ++ (run (l.drop i) D s).1, (run (l.drop i) D s).2) = R) ∧ Aside0 (At wr w.heap.size w.heap.size v D s) ∧ Aside0 (Ok D s) ∧ Aside0 ((Kd.int .i64).R 37 wr w.heap.size (fun _ => True) v6 cs) ∧ Aside0 (Below w.heap.size w wr))
  case atStart =>
    refine ⟨0, [], [], 0, .slice none 0 0, rfl, ⟨by omega⟩, ⟨rfl⟩, ⟨?_⟩, ⟨⟨by simpa using heap_alloc_new w _, Nat.le_refl _, Kd.R_nil _ _ _ _ _⟩⟩, ⟨⟨by decide, by decide, by decide⟩⟩, ⟨Kd.R_nil _ _ _ _ _⟩, ⟨below_alloc (Below.refl _ _) _⟩⟩
    rw [← HRun.out]; rfl
  case round =>
    obtain ⟨i, cs, D, s, v, rfl, hK, hLen, hRi, hAt, hOk, hCs, hBel⟩ := hrel
    by_cases hlt : i < l.length
    · have hm := List.getElem_mem hlt
      obtain ⟨ad, A1, c1, rfl, hx0, hx1, hx2, hl1, hrd1⟩ := at_T32 (Kd.C_below HR.out hBel.out) (i : Int) (by omega) (by omega)
      have hel : rd_T32 l (i : Int) = l[i] := by simp [rd_T32, List.getD_eq_getElem?_getD, hlt]
      rw [hel] at hx0 hx1 hx2 hl1 hrd1
      rw [Int.toNat_natCast] at hx0 hx1 hx2
      have HRd := Aside0.mk hrd1
      have HBm := Aside0.mk (HB.out _ hm)
      clear hrd1 hel hm
      have hRi' : (cs ++ (run (l.drop i) D s).1, (run (l.drop i) D s).2) = ((cs ++ [(Disk.step l[i].f0 l[i].f1 l[i].f2 D s).1]) ++ (run (l.drop (i + 1)) (Disk.step l[i].f0 l[i].f1 l[i].f2 D s).2.1 (Disk.step l[i].f0 l[i].f1 l[i].f2 D s).2.2).1, (run (l.drop (i + 1)) (Disk.step l[i].f0 l[i].f1 l[i].f2 D s).2.1 (Disk.step l[i].f0 l[i].f1 l[i].f2 D s).2.2).2) := by
        rw [List.drop_eq_getElem_cons hlt, run]; simp
      have HRi := Aside0.mk (hRi'.symm.trans hRi.out)
      clear hRi hRi'
      generalize hst : Disk.step l[i].f0 l[i].f1 l[i].f2 D s = st at HRi
      have HSt := Aside0.mk hst
      clear hst
      generalize l[i] = m at *
      go_wp2_with (first | (go_at_call 71; refine (do_any _ w.heap.size w.heap.size v D m.f1 s m.f2 m.f0 A1 c1 (hAt.out.alloc _) (Kd.C_alloc HRd.out _) hOk.out HBm.out).mono ?_; rintro e w1 ⟨rfl, ⟨v1, hA⟩, hE⟩; have HA := Aside0.mk hA; have HC1 := Aside0.mk (codes_eff (Kd.R_alloc hCs.out _) (hAt.out.alloc _).blk hE); have HB1 := Aside0.mk ((below_alloc hBel.out _).trans (hE.below (by have := hBel.out.size; simp; omega))); clear hA hE) | (at_builtin; refine Kd.R_append (Kd.int .i64) (w0 := w) w.heap.size rfl (.tmp 20) (.tmp 24) 36 37 (.int .i64 0) 8 rfl Try.underlying36 infoE rfl (by decide) (by omega) _ cs (Disk.step m.f0 m.f1 m.f2 D s).1 [.int .i64 (Disk.step m.f0 m.f1 m.f2 D s).1] (fun _ => True) (fun _ => False) rfl rfl rfl (fun _ h => h.elim) (fun _ _ => trivial) HC1.out HB1.out (by have := HB1.out.size; omega) (by have := hLen.out; omega) ?_; intro v2 w2 ho hb hg _; have HC2 := Aside0.mk ho; have HB2 := Aside0.mk hb; have HA2 := Aside0.mk (HA.out.grown HC1.out hg); clear ho hb hg))
      go_roundg (gk - 1)
      case measure => have := hK.out; omega
      case rel => exact ⟨i + 1, cs ++ [(Disk.step m.f0 m.f1 m.f2 D s).1], (Disk.step m.f0 m.f1 m.f2 D s).2.1, (Disk.step m.f0 m.f1 m.f2 D s).2.2, v1, by go_num, ⟨by have := hK.out; omega⟩, ⟨by rw [List.length_append, hLen.out]; rfl⟩, ⟨by rw [HSt.out]; exact HRi.out⟩, HA2, ⟨hOk.out.step _ _ _⟩, HC2, HB2⟩
    · have hil : i = l.length := by have := hK.out; omega
      have HD := Aside0.mk (show l.drop i = [] from List.drop_of_length_le (by omega))
      clear hil
      go_wp2
      go_ret3
      have hR := hRi.out
      rw [HD.out] at hR
      have e1 : cs = R.1 := by have := congrArg Prod.fst hR; simpa [run] using this
      have e2 : D = R.2.1 := by have := congrArg (fun z => z.2.1) hR; simpa [run] using this
      have e3 : s = R.2.2 := by have := congrArg (fun z => z.2.2) hR; simpa [run] using this
      refine ⟨_, v, _, rfl, ?_, ?_, ?_, hBel.out⟩
      · rw [← e2, ← e3]; exact hAt.out
      · rw [← e2, ← e3]; exact hOk.out
      · rw [← e1]; exact hCs.out

set_option maxRecDepth 100000 in
set_option maxHeartbeats 4000000 in
theorem play_many (A0 : Option Addr) (c0 n : Nat) (w : World) (hl : 100 < n) :
    Calls Try.prog 56 #[.slice A0 n c0] w fun e w' => e = .returned (.tuple #[.pointer none, .slice none 0 0, .int .i64 1]) ∧ w = w' := by
  have ht : decide (100 < (n : Int)) = true := decide_eq_true (by omega)
  go_enter Try.func56, Try.ntmps56
  go_wp2
  go_ret3
  exact ⟨rfl, rfl⟩

end Go.Proofs.Ytmfkgbncnaingaa.Disk
