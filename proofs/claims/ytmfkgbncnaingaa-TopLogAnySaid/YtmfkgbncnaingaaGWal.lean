/- 14 texts of this family in one. -/
import Derived.Test.YtmfkgbncnaingaaQNextx0
import Derived.StillTailTactics
import Derived.Deep.QuietTactic
import Derived.BigQuiet
import Derived.Test.YtmfkgbncnaingaaProg
import Derived.Below
import Derived.Deep.Draws
import Derived.Deep.AppendLies
import Derived.Maps.AppendAt
import Derived.OwnWalk
import Derived.Laws.BytesArg
import Derived.Laws.MakeOwn
import Derived.Laws.OwnMore
import Derived.Deep.OwnRows
import Derived.Tactics
import Derived.Lib.ConvBytes
import Derived.Laws.Slices
import Derived.WalkKit
import Derived.KernelRfl
import Derived.RowKit3
import Derived.Deep.LoopGhost
import Derived.WideLaws
import Derived.Deep.DeepCutAuto
import Derived.Deep.CutBlock
import Derived.Deep.RegionHeld3
import Derived.Laws.Rows
import Derived.Lib.AppendStr
import Derived.ArgAppend
import Derived.Laws.IdiomCopy
import Derived.OrdersHeld
import Derived.Laws.BitsLemmas
import Derived.RowKit
import Derived.Laws.Cover1
import Derived.Test.YtmfkgbncnaingaaWWords
import Derived.Test.YtmfkgbncnaingaaWLast
import Derived.Test.YtmfkgbncnaingaaWTab
import Derived.Test.YtmfkgbncnaingaaWFour
import Derived.Test.YtmfkgbncnaingaaWQPut
import Derived.Test.YtmfkgbncnaingaaWApart
import Derived.Test.YtmfkgbncnaingaaWArr
import Derived.Test.YtmfkgbncnaingaaWZeros
import Derived.Test.YtmfkgbncnaingaaWFoot
import Derived.Test.YtmfkgbncnaingaaWKept
import Derived.Test.YtmfkgbncnaingaaWShare
import Derived.Test.YtmfkgbncnaingaaWN
import Derived.Test.YtmfkgbncnaingaaWFootNe
import Derived.Test.YtmfkgbncnaingaaWAt
import Derived.Test.YtmfkgbncnaingaaWEqStruct
import Derived.Test.YtmfkgbncnaingaaWRepsOne
import Derived.Test.YtmfkgbncnaingaaWInv
import Derived.Test.YtmfkgbncnaingaaWInvWords
import Derived.Test.YtmfkgbncnaingaaWGuard
import Derived.Test.YtmfkgbncnaingaaWNEv
import Derived.Test.YtmfkgbncnaingaaWMore
import Derived.Lib.SliceRun

section
/- The methods of a disk: what a call of each does to the disk's block and to nothing else. -/
namespace Go.Proofs.Ytmfkgbncnaingaa.Disk
open Go.RowKit Go.Proofs.YtmfkgbncnaingaaW.PrintWords Go.Proofs.YtmfkgbncnaingaaW.PrintLast Go.Proofs.YtmfkgbncnaingaaW.PrintMore
attribute [local go_sem] max2_int min2_int max_two min_two

theorem info5 : (Try.prog.info? 5).map (fun i => (i.zero, i.size, i.bytes)) = some (some (.int .u8 0), 1, 1) := by kernel_rfl

/-- A disk at block g: its bytes lie in a row of the call's own, apart from g. -/
structure At (w : World) (base g : Nat) (v : Value) (D : List Int) (s : Int) : Prop where
  blk : w.heap[g]? = some (.cells #[v, .int .i64 s] 101 (0, 0))
  ge : base ≤ g
  row : (Kd.int .u8).R 5 w base (fun k => k ≠ g) v D

/-- What a method may have done: only block g, and rows of bytes from base on, may differ. -/
structure Eff (w w' : World) (base g : Nat) : Prop where
  os : w'.os = w.os
  tape : w'.tape = w.tape
  output : w'.output = w.output
  size : w.heap.size ≤ w'.heap.size
  block : ∀ k, k < w.heap.size → (k < base ∨ (k ≠ g ∧ ∀ cs, w.heap[k]? ≠ some (.cells cs 5 (0, 0)))) → w'.heap[k]? = w.heap[k]?

theorem Eff.refl (w : World) (base g : Nat) : Eff w w base g := ⟨rfl, rfl, rfl, Nat.le_refl _, fun _ _ _ => rfl⟩
theorem Eff.trans {a b c : World} {base g : Nat} (h : Eff a b base g) (k : Eff b c base g) : Eff a c base g :=
  ⟨k.os.trans h.os, k.tape.trans h.tape, k.output.trans h.output, Nat.le_trans h.size k.size, fun i hi hc => by
    have e := h.block i hi hc
    rw [← e]
    refine k.block i (Nat.lt_of_lt_of_le hi h.size) ?_
    rcases hc with hc | ⟨h1, h2⟩
    · exact .inl hc
    · exact .inr ⟨h1, fun cs => by rw [e]; exact h2 cs⟩⟩
theorem Eff.drewN (w : World) (base g n : Nat) : Eff w (w.drewN n) base g := ⟨rfl, rfl, rfl, Nat.le_refl _, fun _ _ _ => rfl⟩
theorem Eff.set (w : World) (base g i : Nat) (u : Value) (hg : base ≤ g) : Eff w (w.setCell ⟨g, i, none⟩ u) base g :=
  ⟨rfl, rfl, rfl, by simp [World.setCell], fun k hk hc => Below.heap_setCell w ⟨g, i, none⟩ u k (by
    rcases hc with hc | ⟨h1, _⟩
    · show k ≠ g; omega
    · exact h1)⟩
/-- A row of bytes of the call's own was appended to. -/
theorem Eff.grown {w w1 : World} {base g : Nat} {ok : Nat → Prop} {v : Value} {D : List Int} (hr : (Kd.int .u8).R 5 w base ok v D) (hg : w.grownBy w1 v.ownBlock) : Eff w w1 base g :=
  ⟨hg.os, hg.tape, hg.output, hg.size, fun k hk hc => hg.block k hk (fun e => by
    obtain ⟨inner, ho⟩ := Kd.R_own hr
    obtain ⟨cs, ht⟩ := own_typed ho k e.symm
    rcases hc with hc | ⟨_, h2⟩
    · have := own_base ho k e.symm; omega
    · exact h2 cs ht)⟩

theorem stored {w w1 : World} {base g : Nat} {v v1 : Value} {D D1 : List Int} {s : Int} (h : At w base g v D s) (ho : (Kd.int .u8).R 5 w1 base (fun k => k ≠ g) v1 D1) (hg : w.grownBy w1 v.ownBlock) :
    At (w1.setCell ⟨g, 0, none⟩ v1) base g v1 D1 s ∧ Eff w (w1.setCell ⟨g, 0, none⟩ v1) base g := by
  have hb1 : w1.heap[g]? = _ := blk_grown h.blk hg (Kd.R_ne h.row h.blk (by decide))
  exact ⟨⟨by simpa using blk_set hb1 0 v1, h.ge, Kd.R_far ho (fun k hk => hk) v1⟩, (Eff.grown h.row hg).trans (Eff.set w1 base g 0 v1 h.ge)⟩

set_option maxHeartbeats 1000000 in
theorem Write_calls (w : World) (base g : Nat) (v : Value) (D b : List Int) (s : Int) (A : Option Addr) (c : Nat) (h : At w base g v D s) (hb : (Kd.int .u8).C w A b.length b) (hs : D.length + b.length ≤ 1200) :
    Calls Try.prog 85 #[.pointer (some ⟨g, 0, none⟩), .slice A b.length c] w fun e w' => ∃ v', e = .returned (.int .i64 0) ∧ At w' base g v' (D ++ b) s ∧ Eff w w' base g := by
  have HAt := Aside0.mk h
  obtain ⟨hblk, hge, hrow⟩ := h
  obtain ⟨Ad, cd, rfl, hlc, hrd⟩ := Kd.R_reads hrow
  have hc0 : w.cell? ⟨g, 0, none⟩ = some (.slice Ad D.length cd) := (blk_cell hblk 0).trans rfl
  have ht : decide (1200 < (D.length : Int) + (b.length : Int)) = false := decide_eq_false (by omega)
  have HR := Aside0.mk hrow
  have HB := Aside0.mk hblk
  have HC := Aside0.mk hb
  have hgl := blk_lt hblk
  clear hrow hblk hrd hb
  go_enter Try.func85, Try.ntmps85
  go_wp2_with (first | ((with_reducible refine gate_builtin (b := .append) (xs := #[.tmp 18, .tmp 19]) rfl ?_); at_builtin; refine Kd.R_append_rows (Kd.int .u8) (w0 := w) base rfl (.tmp 18) (.tmp 19) 25 5 (.int .u8 0) 1 rfl Try.underlying25 info5 rfl (by decide) (by omega) _ D b _ _ _ (fun k => k ≠ g) (fun _ => False) rfl rfl HR.out HC.out (fun _ _ h => h) (fun _ h => h.elim) (fun k hk => by omega) (Below.refl _ _) (by omega) (by omega) ?_; intro v1 w1 ho _ hg _; obtain ⟨A1, c1, rfl, _, _⟩ := Kd.R_reads ho; have hfin := Aside0.mk (stored HAt.out ho hg); have hb1 := blk_grown HB.out hg (Kd.R_ne HR.out HB.out (by decide)); have hc1 := (blk_cell hb1 0).trans rfl; have hf1 := blk_frozen hb1 0; clear ho hg hb1))
  go_ret
  have hx := hfin.out
  rw [List.length_append] at hx
  exact ⟨_, rfl, hx⟩

set_option maxHeartbeats 1000000 in
theorem Write_full (w : World) (base g : Nat) (v : Value) (D b : List Int) (s : Int) (A : Option Addr) (c : Nat) (h : At w base g v D s) (hs : ¬ D.length + b.length ≤ 1200) (h1 : D.length ≤ 1200) (h2 : b.length ≤ 140737488351232) :
    Calls Try.prog 85 #[.pointer (some ⟨g, 0, none⟩), .slice A b.length c] w fun e w' => e = .returned (.int .i64 10) ∧ w = w' := by
  obtain ⟨hblk, hge, hrow⟩ := h
  obtain ⟨Ad, cd, rfl, hlc, hrd⟩ := Kd.R_reads hrow
  have hc0 : w.cell? ⟨g, 0, none⟩ = some (.slice Ad D.length cd) := (blk_cell hblk 0).trans rfl
  have ht : decide (1200 < (D.length : Int) + (b.length : Int)) = true := decide_eq_true (by omega)
  clear hrow hblk hrd
  go_enter Try.func85, Try.ntmps85
  go_wp2
  go_ret
  exact ⟨rfl, rfl⟩

set_option maxHeartbeats 1000000 in
theorem Sync_calls (w : World) (base g : Nat) (v : Value) (D : List Int) (s : Int) (h : At w base g v D s) :
    Calls Try.prog 86 #[.pointer (some ⟨g, 0, none⟩)] w fun e w' => e = .returned (.tuple #[]) ∧ At w' base g v D D.length ∧ Eff w w' base g := by
  have HAt := Aside0.mk h
  obtain ⟨hblk, hge, hrow⟩ := h
  obtain ⟨Ad, cd, rfl, hlc, hrd⟩ := Kd.R_reads hrow
  have hc0 : w.cell? ⟨g, 0, none⟩ = some (.slice Ad D.length cd) := (blk_cell hblk 0).trans rfl
  have hc1 : w.cell? ⟨g, 1, none⟩ = some (.int .i64 s) := (blk_cell hblk 1).trans rfl
  have hf1 := blk_frozen hblk 1
  have hfin := Aside0.mk (show At (w.setCell ⟨g, 1, none⟩ (.int .i64 D.length)) base g _ D D.length ∧ Eff w (w.setCell ⟨g, 1, none⟩ (.int .i64 D.length)) base g from ⟨⟨by simpa using blk_set hblk 1 (.int .i64 D.length), hge, Kd.R_far hrow (fun k hk => hk) _⟩, Eff.set w base g 1 _ hge⟩)
  clear hrow hblk hrd
  go_enter Try.func86, Try.ntmps86
  go_wp2
  go_end0
  exact ⟨rfl, hfin.out⟩

set_option maxHeartbeats 1000000 in
theorem Trim_calls (w : World) (base g : Nat) (v : Value) (D : List Int) (s n : Int) (h : At w base g v D s) (h0 : 0 ≤ n) (h1 : n ≤ D.length) (hd : D.length ≤ 1200) :
    Calls Try.prog 87 #[.pointer (some ⟨g, 0, none⟩), .int .i64 n] w fun e w' => e = .returned (.tuple #[]) ∧ (∃ v', At w' base g v' (D.take n.toNat) n) ∧ Eff w w' base g := by
  have HAt := Aside0.mk h
  obtain ⟨hblk, hge, hrow⟩ := h
  obtain ⟨Ad, cd, rfl, hlc, hrd⟩ := Kd.R_reads hrow
  have hc0 : w.cell? ⟨g, 0, none⟩ = some (.slice Ad D.length cd) := (blk_cell hblk 0).trans rfl
  have hc1 : w.cell? ⟨g, 1, none⟩ = some (.int .i64 s) := (blk_cell hblk 1).trans rfl
  have hf0 := blk_frozen hblk 0
  have hf1 := blk_frozen hblk 1
  have hb0 := decide_eq_true h0
  clear hrow hblk hrd
  have hfin := Aside0.mk (show At ((w.setCell ⟨g, 0, none⟩ (.slice Ad n.toNat cd)).setCell ⟨g, 1, none⟩ (.int .i64 n)) base g (.slice Ad n.toNat cd) (D.take n.toNat) n ∧ Eff w ((w.setCell ⟨g, 0, none⟩ (.slice Ad n.toNat cd)).setCell ⟨g, 1, none⟩ (.int .i64 n)) base g from
    ⟨⟨by simpa using blk_set (blk_set HAt.out.blk 0 (.slice Ad n.toNat cd)) 1 (.int .i64 n), hge, Kd.R_far (Kd.R_far (Kd.R_take HAt.out.row (by omega)) (fun k hk => hk) _) (fun k hk => hk) _⟩, (Eff.set w base g 0 _ hge).trans (Eff.set _ base g 1 _ hge)⟩)
  go_enter Try.func87, Try.ntmps87
  go_wp2
  go_end0
  exact ⟨rfl, ⟨_, hfin.out.1⟩, hfin.out.2⟩

/-- Behind a fall that leaves n bytes that are not synced: how many bytes there are. -/
def fallTo (len s n : Int) : Int := s + (if len - s < n then len - s else n)
theorem fallTo_range {len s n : Int} (h0 : 0 ≤ s) (h1 : s ≤ len) (h2 : 0 ≤ n) : 0 ≤ fallTo len s n ∧ fallTo len s n ≤ len := by unfold fallTo; split <;> omega

theorem At.drew {w : World} {base g : Nat} {v : Value} {D : List Int} {s : Int} (h : At w base g v D s) : At w.drew base g v D s := ⟨h.blk, h.ge, Kd.R_drew h.row⟩
theorem At.drewN {w : World} {base g : Nat} {v : Value} {D : List Int} {s : Int} (h : At w base g v D s) (n : Nat) : At (w.drewN n) base g v D s := ⟨h.blk, h.ge, Kd.R_drewN h.row n⟩

set_option maxRecDepth 100000 in
set_option maxHeartbeats 1000000 in
theorem Fall_calls (w : World) (base g : Nat) (v : Value) (D : List Int) (s n : Int) (h : At w base g v D s) (hs0 : 0 ≤ s) (hs1 : s ≤ D.length) (h0 : 0 ≤ n) (hd : D.length ≤ 1200) :
    Calls Try.prog 88 #[.pointer (some ⟨g, 0, none⟩), .int .i64 n] w fun e w' => e = .returned (.tuple #[]) ∧ (∃ v', At w' base g v' (D.take (fallTo D.length s n).toNat) (fallTo D.length s n)) ∧ Eff w w' base g := by
  have HAt := Aside0.mk h
  have hr := fallTo_range hs0 hs1 h0
  have HT := Aside0.mk (Trim_calls w.drew base g v D s (fallTo D.length s n) h.drew hr.1 hr.2 hd)
  obtain ⟨hblk, hge, hrow⟩ := h
  obtain ⟨Ad, cd, rfl, hlc, hrd⟩ := Kd.R_reads hrow
  have hc0 : w.cell? ⟨g, 0, none⟩ = some (.slice Ad D.length cd) := (blk_cell hblk 0).trans rfl
  have hc1 : w.cell? ⟨g, 1, none⟩ = some (.int .i64 s) := (blk_cell hblk 1).trans rfl
  clear hrow hblk hrd
  have hw1 : IntKind.i64.wrap ((D.length : Int) - s) = (D.length : Int) - s := IntWalk.i64_in _ (by omega)
  have hw2 : IntKind.i64.wrap (s + if (D.length : Int) - s < n then (D.length : Int) - s else n) = fallTo D.length s n := by
    unfold fallTo; apply IntWalk.i64_in; split <;> omega
  go_enter Try.func88, Try.ntmps88
  go_wp2_with fail
  go_still_tail 18, (by kernel_rfl)
  change wpList _ _ _ _ _ w.drew

  clear hw1 hw2
  go_wp2_with (go_at_call 87; refine HT.out.mono ?_; rintro e w1 ⟨rfl, ⟨v1, hA1⟩, hE⟩; have HA1 := Aside0.mk hA1; have HE := Aside0.mk hE; clear hA1 hE)
  all_goals (go_end0; exact ⟨rfl, ⟨v1, HA1.out⟩, (Eff.drewN w base g 1).trans HE.out⟩)

/-- What a move comes to: its code, the bytes, how many of them are synced. -/
def step (k : Int) (b : List Int) (n : Int) (D : List Int) (s : Int) : Int × List Int × Int :=
  if k = 1 then (if D.length + b.length ≤ 1200 then (0, D ++ b, s) else (10, D, s))
  else if k = 2 then (0, D, D.length)
  else if k = 3 then (if n < 0 ∨ (D.length : Int) < n then (2, D, s) else (0, D.take n.toNat, n))
  else if k = 4 then (if n < 0 then (2, D, s) else (0, D.take (fallTo D.length s n).toNat, fallTo D.length s n))
  else (3, D, s)

end Go.Proofs.Ytmfkgbncnaingaa.Disk
end

section
/- What a move does to a disk: the method do. -/
namespace Go.Proofs.Ytmfkgbncnaingaa.Disk
open Go.RowKit Go.Proofs.YtmfkgbncnaingaaW.PrintWords Go.Proofs.YtmfkgbncnaingaaW.PrintLast Go.Proofs.YtmfkgbncnaingaaW.PrintMore

theorem At.alloc {w : World} {base g : Nat} {v : Value} {D : List Int} {s : Int} (h : At w base g v D s) (o : Obj) : At (w.alloc o) base g v D s := ⟨blk_alloc h.blk o, h.ge, Kd.R_alloc h.row o⟩
theorem Eff.alloc (w : World) (base g : Nat) (o : Obj) : Eff w (w.alloc o) base g := ⟨rfl, rfl, rfl, by simp, fun k hk _ => Below.heap_alloc _ _ _ hk⟩

/-- What a move leaves. -/
def Post (w : World) (base g : Nat) (r : Int × List Int × Int) (e : Ending) (w' : World) : Prop := e = .returned (.int .i64 r.1) ∧ (∃ v', At w' base g v' r.2.1 r.2.2) ∧ Eff w w' base g

set_option maxRecDepth 100000 in
set_option maxHeartbeats 2000000 in
theorem do_write (w : World) (base g : Nat) (v : Value) (D b : List Int) (s n : Int) (A : Option Addr) (c : Nat) (h : At w base g v D s) (hb : (Kd.int .u8).C w A b.length b) (hl : D.length ≤ 1200) (hlb : b.length ≤ 140737488351232) :
    Calls Try.prog 71 #[.pointer (some ⟨g, 0, none⟩), .agg #[.int .i64 1, .slice A b.length c, .int .i64 n]] w (Post w base g (step 1 b n D s)) := by
  have HAt := Aside0.mk h
  have HC := Aside0.mk hb
  clear h hb
  by_cases hf : D.length + b.length ≤ 1200
  · have hs : step 1 b n D s = (0, D ++ b, s) := by simp [step, hf]
    rw [hs]
    have HF := Aside0.mk hf
    clear hf
    go_enter Try.func71, Try.ntmps71
    go_wp2_with (go_at_call 85; refine (Write_calls _ base g v D b s A c (HAt.out.alloc _) (Kd.C_alloc HC.out _) HF.out).mono ?_; rintro e w1 ⟨v1, rfl, hA, hE⟩; have HA := Aside0.mk hA; have HE := Aside0.mk hE; clear hA hE)
    go_ret
    exact ⟨rfl, ⟨_, HA.out⟩, (Eff.alloc w base g _).trans HE.out⟩
  · have hs : step 1 b n D s = (10, D, s) := by simp [step, hf]
    rw [hs]
    have HF := Aside0.mk hf
    clear hf
    go_enter Try.func71, Try.ntmps71
    go_wp2_with (go_at_call 85; refine (Write_full _ base g v D b s A c (HAt.out.alloc _) HF.out hl hlb).mono ?_; rintro e w1 ⟨rfl, rfl⟩)
    go_ret
    exact ⟨rfl, ⟨_, HAt.out.alloc _⟩, Eff.alloc w base g _⟩

set_option maxRecDepth 100000 in
set_option maxHeartbeats 2000000 in
theorem do_sync (w : World) (base g : Nat) (v : Value) (D b : List Int) (s n : Int) (A : Option Addr) (c : Nat) (h : At w base g v D s) :
    Calls Try.prog 71 #[.pointer (some ⟨g, 0, none⟩), .agg #[.int .i64 2, .slice A b.length c, .int .i64 n]] w (Post w base g (step 2 b n D s)) := by
  have HAt := Aside0.mk h
  clear h
  have hs : step 2 b n D s = (0, D, (D.length : Int)) := by simp [step]
  rw [hs]
  go_enter Try.func71, Try.ntmps71
  go_wp2_with (go_at_call 86; refine (Sync_calls _ base g v D s (HAt.out.alloc _)).mono ?_; rintro e w1 ⟨rfl, hA, hE⟩; have HA := Aside0.mk hA; have HE := Aside0.mk hE; clear hA hE)
  go_ret
  exact ⟨rfl, ⟨_, HA.out⟩, (Eff.alloc w base g _).trans HE.out⟩

set_option maxRecDepth 100000 in
set_option maxHeartbeats 2000000 in
theorem do_fall (w : World) (base g : Nat) (v : Value) (D b : List Int) (s n : Int) (A : Option Addr) (c : Nat) (h : At w base g v D s) (hs0 : 0 ≤ s) (hs1 : s ≤ D.length) (hl : D.length ≤ 1200) :
    Calls Try.prog 71 #[.pointer (some ⟨g, 0, none⟩), .agg #[.int .i64 4, .slice A b.length c, .int .i64 n]] w (Post w base g (step 4 b n D s)) := by
  have HAt := Aside0.mk h
  clear h
  by_cases hn : n < 0
  · have hs : step 4 b n D s = (2, D, s) := by simp [step, hn]
    rw [hs]
    have hb := decide_eq_true hn
    clear hn
    go_enter Try.func71, Try.ntmps71
    go_wp2
    go_ret
    exact ⟨rfl, ⟨_, HAt.out.alloc _⟩, Eff.alloc w base g _⟩
  · have hs : step 4 b n D s = (0, D.take (fallTo D.length s n).toNat, fallTo D.length s n) := by simp [step, hn]
    rw [hs]
    have hb := decide_eq_false hn
    have HN := Aside0.mk hn
    clear hn
    go_enter Try.func71, Try.ntmps71
    go_wp2_with (go_at_call 88; refine (Fall_calls _ base g v D s n (HAt.out.alloc _) hs0 hs1 (by have := HN.out; omega) hl).mono ?_; rintro e w1 ⟨rfl, ⟨v1, hA⟩, hE⟩; have HA := Aside0.mk hA; have HE := Aside0.mk hE; clear hA hE)
    go_ret
    exact ⟨rfl, ⟨_, HA.out⟩, (Eff.alloc w base g _).trans HE.out⟩

set_option maxRecDepth 100000 in
set_option maxHeartbeats 2000000 in
theorem do_other (w : World) (base g : Nat) (v : Value) (D b : List Int) (s n k : Int) (A : Option Addr) (c : Nat) (h : At w base g v D s) (h1 : k ≠ 1) (h2 : k ≠ 2) (h3 : k ≠ 3) (h4 : k ≠ 4) :
    Calls Try.prog 71 #[.pointer (some ⟨g, 0, none⟩), .agg #[.int .i64 k, .slice A b.length c, .int .i64 n]] w (Post w base g (step k b n D s)) := by
  have HAt := Aside0.mk h
  clear h
  have hs : step k b n D s = (3, D, s) := by simp [step, h1, h2, h3, h4]
  rw [hs]
  have e1 := beq_eq_false_iff_ne.2 h1
  have e2 := beq_eq_false_iff_ne.2 h2
  have e3 := beq_eq_false_iff_ne.2 h3
  have e4 := beq_eq_false_iff_ne.2 h4
  clear h1 h2 h3 h4
  go_enter Try.func71, Try.ntmps71
  go_wp2
  go_ret
  exact ⟨rfl, ⟨_, HAt.out.alloc _⟩, Eff.alloc w base g _⟩

set_option maxRecDepth 100000 in
set_option maxHeartbeats 2000000 in
theorem do_trim (w : World) (base g : Nat) (v : Value) (D b : List Int) (s n : Int) (A : Option Addr) (c : Nat) (h : At w base g v D s) (hl : D.length ≤ 1200) :
    Calls Try.prog 71 #[.pointer (some ⟨g, 0, none⟩), .agg #[.int .i64 3, .slice A b.length c, .int .i64 n]] w (Post w base g (step 3 b n D s)) := by
  have HAt := Aside0.mk h
  obtain ⟨Ad, cd, rfl, hlc, hrd⟩ := Kd.R_reads h.row
  have hc0 : ∀ o, (w.alloc o).cell? ⟨g, 0, none⟩ = some (.slice Ad D.length cd) := fun o => (blk_cell (h.alloc o).blk 0).trans rfl
  clear h hrd
  by_cases hn : n < 0
  · have hs : step 3 b n D s = (2, D, s) := by simp [step, hn]
    rw [hs]
    have hb := decide_eq_true hn
    clear hn
    go_enter Try.func71, Try.ntmps71
    go_wp2
    go_quiet (fail)
    go_wp2
    go_ret
    exact ⟨rfl, ⟨_, (HAt.out.alloc _).drewN _⟩, (Eff.alloc w base g _).trans (Eff.drewN _ base g _)⟩
  · by_cases hm : (D.length : Int) < n
    · have hs : step 3 b n D s = (2, D, s) := by simp [step, hm]
      rw [hs]
      have hb := decide_eq_false hn
      have hb2 := decide_eq_true hm
      clear hn hm
      go_enter Try.func71, Try.ntmps71
      go_wp2
      go_quiet (fail)
      go_wp2
      go_ret
      exact ⟨rfl, ⟨_, (HAt.out.alloc _).drewN _⟩, (Eff.alloc w base g _).trans (Eff.drewN _ base g _)⟩
    · have hs : step 3 b n D s = (0, D.take n.toNat, n) := by simp [step, hn, hm]
      rw [hs]
      have hb := decide_eq_false hn
      have hb2 := decide_eq_false hm
      have HN := Aside0.mk (And.intro hn hm)
      clear hn hm
      go_enter Try.func71, Try.ntmps71
      go_wp2
      go_quiet (fail)
      go_wp2_with (go_at_call 87; refine (Trim_calls _ base g _ D s n ((HAt.out.alloc _).drewN _) (by have := HN.out; omega) (by have := HN.out; omega) hl).mono ?_; rintro e w1 ⟨rfl, ⟨v1, hA⟩, hE⟩; have HA := Aside0.mk hA; have HE := Aside0.mk hE; clear hA hE)
      go_ret
      exact ⟨rfl, ⟨_, HA.out⟩, ((Eff.alloc w base g _).trans (Eff.drewN _ base g _)).trans HE.out⟩

end Go.Proofs.Ytmfkgbncnaingaa.Disk
end

section
/- Functions of the program as plain functions, and the walks that show it. Written by the session's own program pp.py. -/
namespace Go.Proofs.Ytmfkgbncnaingaa.QDisk
open Go.RowKit Go.Proofs.YtmfkgbncnaingaaW.PrintWords Go.Proofs.YtmfkgbncnaingaaW.PrintLast Go.Proofs.YtmfkgbncnaingaaW.PrintMore
attribute [local go_sem] max2_int min2_int max_two min_two max_three min_three max_four min_four   -- for this text's walks alone
set_option linter.unusedVariables false
set_option linter.unusedSimpArgs false



def errW : Option Int → Value
  | none => .nilIface
  | some c => .iface 0 (.int .i64 c)
theorem errW_none : errW none = .nilIface := rfl
theorem errW_some (c : Int) : errW (some c) = .iface 0 (.int .i64 c) := rfl

theorem info5 : (Try.prog.info? 5).map (fun i => (i.zero, i.size, i.bytes)) = some (some (.int .u8 0), 1, 1) := by kernel_rfl
theorem info32 : (Try.prog.info? 32).map (fun i => (i.zero, i.size, i.bytes)) = some (some (.agg #[(.int .i64 0), (.slice none 0 0), (.int .i64 0)]), 3, 40) := by kernel_rfl
-- the values' own types
def rd_L1 (xs : List (List Int)) (i : Int) : (List Int) := xs.getD i.toNat ([] : List Int)
theorem at_L1 {w : World} {A : Option Addr} {n : Nat} {xs : List (List Int)} (h : Kd.C (Kd.slice 3 (Kd.int .i64)) w A n xs) (i : Int) (h0 : 0 ≤ i) (h1 : i < n) : ∃ ad A0 c0, A = some ad ∧ w.cell? (ad.add i.toNat) = some (.slice A0 (rd_L1 xs i).length c0) ∧ (rd_L1 xs i).length ≤ c0 ∧ (Kd.int .i64).C w A0 (rd_L1 xs i).length (rd_L1 xs i) := by
  obtain ⟨ad, c, e, _, hK, hc0⟩ := Kd.C_get h ([] : List Int) i h0 h1
  have hc : ∀ j u, c[j]? = some u → w.cell? (ad.add (i.toNat * 1 + j)) = some u := hc0
  obtain ⟨A0, c0, rfl, l0, g0⟩ := hK
  exact ⟨ad, A0, c0, e, by have hq := hc 0 _ rfl; rwa [Nat.mul_one, Nat.add_zero] at hq, l0, g0⟩

def rd_L3 (xs : List (List Int)) (i : Int) : (List Int) := xs.getD i.toNat ([] : List Int)
theorem at_L3 {w : World} {A : Option Addr} {n : Nat} {xs : List (List Int)} (h : Kd.C (Kd.slice 5 (Kd.int .u8)) w A n xs) (i : Int) (h0 : 0 ≤ i) (h1 : i < n) : ∃ ad A0 c0, A = some ad ∧ w.cell? (ad.add i.toNat) = some (.slice A0 (rd_L3 xs i).length c0) ∧ (rd_L3 xs i).length ≤ c0 ∧ (Kd.int .u8).C w A0 (rd_L3 xs i).length (rd_L3 xs i) := by
  obtain ⟨ad, c, e, _, hK, hc0⟩ := Kd.C_get h ([] : List Int) i h0 h1
  have hc : ∀ j u, c[j]? = some u → w.cell? (ad.add (i.toNat * 1 + j)) = some u := hc0
  obtain ⟨A0, c0, rfl, l0, g0⟩ := hK
  exact ⟨ad, A0, c0, e, by have hq := hc 0 _ rfl; rwa [Nat.mul_one, Nat.add_zero] at hq, l0, g0⟩

/-! #### struct type 32 -/
structure S32 where
  f0 : Int
  f1 : (List Int)
  f2 : Int
def z32 : S32 := ⟨(0 : Int), ([] : List Int), (0 : Int)⟩
def k32 : Kd S32 := Kd.iso (Kd.pair (Kd.int .i64) (Kd.pair (Kd.slice 5 (Kd.int .u8)) (Kd.int .i64))) (fun x : S32 => (x.f0, x.f1, x.f2))
theorem k32_open {w : World} {x : S32} {cs : List Value} (h : k32.K w x cs) : ∃ A1 c1, cs = [.int .i64 x.f0, .slice A1 x.f1.length c1, .int .i64 x.f2] ∧ x.f1.length ≤ c1 ∧ (Kd.int .u8).C w A1 x.f1.length x.f1 := by
  obtain ⟨_, _, rfl, rfl, ⟨_, _, rfl, ⟨A1, c1, rfl, l1, g1⟩, rfl⟩⟩ := h
  exact ⟨A1, c1, rfl, l1, g1⟩
theorem k32_openM {w : World} {base : Nat} {ok : Nat → Prop} {x : S32} {cs : List Value} (h : k32.M w base ok x cs) : ∃ v1, cs = [.int .i64 x.f0, v1, .int .i64 x.f2] ∧ (Kd.int .u8).R 5 w base ok v1 x.f1 := by
  obtain ⟨_, _, rfl, rfl, ⟨_, _, rfl, ⟨v1, rfl, g1⟩, rfl⟩⟩ := h
  exact ⟨v1, rfl, g1⟩
theorem k32_mk (w : World) (x : S32) {A1 : Option Addr} {c1 : Nat} (l1 : x.f1.length ≤ c1) (g1 : (Kd.int .u8).C w A1 x.f1.length x.f1) : k32.K w x [.int .i64 x.f0, .slice A1 x.f1.length c1, .int .i64 x.f2] := ⟨[.int .i64 x.f0], [.slice A1 x.f1.length c1, .int .i64 x.f2], rfl, rfl, ⟨[.slice A1 x.f1.length c1], [.int .i64 x.f2], rfl, ⟨A1, c1, rfl, l1, g1⟩, rfl⟩⟩
theorem k32_mkM (w : World) (base : Nat) (ok : Nat → Prop) (x : S32) {v1 : Value} (g1 : (Kd.int .u8).R 5 w base ok v1 x.f1) : k32.M w base ok x [.int .i64 x.f0, v1, .int .i64 x.f2] := ⟨[.int .i64 x.f0], [v1, .int .i64 x.f2], rfl, rfl, ⟨[v1], [.int .i64 x.f2], rfl, ⟨v1, rfl, g1⟩, rfl⟩⟩
theorem k32_openF {W : World} {ok : Nat → Prop} {x : S32} {cs : List Value} (h : Kd.FK k32 W ok x cs) : ∃ A1 c1, cs = [.int .i64 x.f0, .slice A1 x.f1.length c1, .int .i64 x.f2] ∧ x.f1.length ≤ c1 ∧ Kd.F (Kd.int .u8) W ok A1 x.f1.length x.f1 := by
  obtain ⟨A1, c1, rfl, l1, _⟩ := k32_open (Kd.FK_now h)
  exact ⟨A1, c1, rfl, l1, (fun W' hW => by obtain ⟨A1_, c1_, he, l1_, g1_⟩ := k32_open (h W' hW); injection (Option.some.inj (show some (Value.slice A1 x.f1.length c1) = some (Value.slice A1_ x.f1.length c1_) from congrArg (fun l => l[1]?) he)) with ha_ _ _; rw [ha_]; exact g1_)⟩
theorem k32_mkF (W : World) (ok : Nat → Prop) (x : S32) {A1 : Option Addr} {c1 : Nat} (l1 : x.f1.length ≤ c1) (g1 : Kd.F (Kd.int .u8) W ok A1 x.f1.length x.f1) : Kd.FK k32 W ok x [.int .i64 x.f0, .slice A1 x.f1.length c1, .int .i64 x.f2] := fun W2 hW => k32_mk W2 x l1 (g1 W2 hW)
def rd_T32 (xs : List S32) (i : Int) : S32 := xs.getD i.toNat z32
theorem at_T32 {w : World} {A : Option Addr} {n : Nat} {xs : List S32} (h : Kd.C k32 w A n xs) (i : Int) (h0 : 0 ≤ i) (h1 : i < n) : ∃ ad A1 c1, A = some ad ∧ w.cell? (ad.add (i.toNat * 3)) = some (.int .i64 (rd_T32 xs i).f0) ∧ w.cell? ⟨(ad.add (i.toNat * 3)).block, (ad.add (i.toNat * 3)).off + 1, none⟩ = some (.slice A1 (rd_T32 xs i).f1.length c1) ∧ w.cell? ⟨(ad.add (i.toNat * 3)).block, (ad.add (i.toNat * 3)).off + 2, none⟩ = some (.int .i64 (rd_T32 xs i).f2) ∧ (rd_T32 xs i).f1.length ≤ c1 ∧ (Kd.int .u8).C w A1 (rd_T32 xs i).f1.length (rd_T32 xs i).f1 := by
  obtain ⟨ad, c, e, _, hK, hc0⟩ := Kd.C_get h z32 i h0 h1
  have hc : ∀ j u, c[j]? = some u → w.cell? (ad.add (i.toNat * 3 + j)) = some u := hc0
  obtain ⟨A1, c1, rfl, l1, g1⟩ := k32_open hK
  exact ⟨ad, A1, c1, e, hc 0 _ rfl, by rw [← add_field _ _ 1 (by omega)]; exact hc 1 _ rfl, by rw [← add_field _ _ 2 (by omega)]; exact hc 2 _ rfl, l1, g1⟩

def rd_L5 (xs : List (List S32)) (i : Int) : (List S32) := xs.getD i.toNat ([] : List S32)
theorem at_L5 {w : World} {A : Option Addr} {n : Nat} {xs : List (List S32)} (h : Kd.C (Kd.slice 32 k32) w A n xs) (i : Int) (h0 : 0 ≤ i) (h1 : i < n) : ∃ ad A0 c0, A = some ad ∧ w.cell? (ad.add i.toNat) = some (.slice A0 (rd_L5 xs i).length c0) ∧ (rd_L5 xs i).length ≤ c0 ∧ k32.C w A0 (rd_L5 xs i).length (rd_L5 xs i) := by
  obtain ⟨ad, c, e, _, hK, hc0⟩ := Kd.C_get h ([] : List S32) i h0 h1
  have hc : ∀ j u, c[j]? = some u → w.cell? (ad.add (i.toNat * 1 + j)) = some u := hc0
  obtain ⟨A0, c0, rfl, l0, g0⟩ := hK
  exact ⟨ad, A0, c0, e, by have hq := hc 0 _ rfl; rwa [Nat.mul_one, Nat.add_zero] at hq, l0, g0⟩

def rd_L6 (xs : List (List Int)) (i : Int) : (List Int) := xs.getD i.toNat ([] : List Int)
theorem at_L6 {w : World} {A : Option Addr} {n : Nat} {xs : List (List Int)} (h : Kd.C (Kd.slice 37 (Kd.int .i64)) w A n xs) (i : Int) (h0 : 0 ≤ i) (h1 : i < n) : ∃ ad A0 c0, A = some ad ∧ w.cell? (ad.add i.toNat) = some (.slice A0 (rd_L6 xs i).length c0) ∧ (rd_L6 xs i).length ≤ c0 ∧ (Kd.int .i64).C w A0 (rd_L6 xs i).length (rd_L6 xs i) := by
  obtain ⟨ad, c, e, _, hK, hc0⟩ := Kd.C_get h ([] : List Int) i h0 h1
  have hc : ∀ j u, c[j]? = some u → w.cell? (ad.add (i.toNat * 1 + j)) = some u := hc0
  obtain ⟨A0, c0, rfl, l0, g0⟩ := hK
  exact ⟨ad, A0, c0, e, by have hq := hc 0 _ rfl; rwa [Nat.mul_one, Nat.add_zero] at hq, l0, g0⟩

end Go.Proofs.Ytmfkgbncnaingaa.QDisk
end

section
/- The loop over moves: what play comes to. -/
namespace Go.Proofs.Ytmfkgbncnaingaa.Disk
open Go.RowKit Go.Proofs.Ytmfkgbncnaingaa.QDisk Go.Proofs.YtmfkgbncnaingaaW.PrintWords Go.Proofs.YtmfkgbncnaingaaW.PrintLast Go.Proofs.YtmfkgbncnaingaaW.PrintMore

theorem infoE : (Try.prog.info? 37).map (fun i => (i.zero, i.size, i.bytes)) = some (some (.int .i64 0), 1, 8) := by kernel_rfl

/-- All moves, one behind the other: the codes, the bytes, how many of them are synced. -/
def run : List S32 → List Int → Int → List Int × List Int × Int
  | [], D, s => ([], D, s)
  | m :: l, D, s => let r := step m.f0 m.f1 m.f2 D s; let t := run l r.2.1 r.2.2; (r.1 :: t.1, t.2)

/-- The disk is sound. -/
def Ok (D : List Int) (s : Int) : Prop := D.length ≤ 1200 ∧ 0 ≤ s ∧ s ≤ D.length

theorem Ok.step {D : List Int} {s : Int} (h : Ok D s) (k : Int) (b : List Int) (n : Int) : Ok (Disk.step k b n D s).2.1 (Disk.step k b n D s).2.2 := by
  obtain ⟨h1, h2, h3⟩ := h
  have hT : ∀ m : Int, 0 ≤ m → m ≤ D.length → Ok (D.take m.toNat) m := fun m h0 h4 => ⟨by rw [List.length_take]; omega, h0, by rw [List.length_take]; omega⟩
  unfold Disk.step
  split
  · split
    · exact ⟨by show (D ++ b).length ≤ 1200; rw [List.length_append]; omega, h2, by show s ≤ ((D ++ b).length : Int); rw [List.length_append]; omega⟩
    · exact ⟨h1, h2, h3⟩
  · split
    · exact ⟨h1, by show (0 : Int) ≤ D.length; omega, by show (D.length : Int) ≤ D.length; omega⟩
    · split
      · split
        · exact ⟨h1, h2, h3⟩
        · exact hT _ (by omega) (by omega)
      · split
        · split
          · exact ⟨h1, h2, h3⟩
          · have := fallTo_range h2 h3 (show 0 ≤ n by omega)
            exact hT _ this.1 this.2
        · exact ⟨h1, h2, h3⟩

/-- One move, whatever it is. -/
theorem do_any (w : World) (base g : Nat) (v : Value) (D b : List Int) (s n k : Int) (A : Option Addr) (c : Nat) (h : At w base g v D s) (hb : (Kd.int .u8).C w A b.length b) (ho : Ok D s) (hlb : b.length ≤ 140737488351232) :
    Calls Try.prog 71 #[.pointer (some ⟨g, 0, none⟩), .agg #[.int .i64 k, .slice A b.length c, .int .i64 n]] w (Post w base g (Disk.step k b n D s)) := by
  by_cases h1 : k = 1
  · subst h1; exact do_write w base g v D b s n A c h hb ho.1 hlb
  · by_cases h2 : k = 2
    · subst h2; exact do_sync w base g v D b s n A c h
    · by_cases h3 : k = 3
      · subst h3; exact do_trim w base g v D b s n A c h ho.1
      · by_cases h4 : k = 4
        · subst h4; exact do_fall w base g v D b s n A c h ho.2.1 ho.2.2 ho.1
        · exact do_other w base g v D b s n k A c h h1 h2 h3 h4

/-- A row of codes outlasts what a method does. -/
theorem codes_eff {w w1 : World} {base g : Nat} {ok : Nat → Prop} {v : Value} {xs : List Int} {c : Array Value} (h : (Kd.int .i64).R 37 w base ok v xs) (hg : w.heap[g]? = some (.cells c 101 (0, 0))) (hE : Eff w w1 base g) : (Kd.int .i64).R 37 w1 base ok v xs := by
  refine Kd.R_mono (Kd.R_move (Kd.R_bound h) (fun k hk => ?_)) (fun k hk => hk.1)
  obtain ⟨_, _, hlt, q, hq, cells, hc⟩ := hk
  have hq2 : q = 37 := by rcases List.mem_cons.1 hq with hq | hq; exact hq; cases hq
  subst hq2
  refine hE.block k hlt (.inr ⟨?_, fun cs he => ?_⟩)
  · rintro rfl; rw [hc] at hg; injection hg with hg; injection hg with _ h2; exact absurd h2 (by decide)
  · rw [hc] at he; injection he with he; injection he with _ h2; exact absurd h2 (by decide)

theorem Eff.below {w w1 : World} {base g : Nat} (h : Eff w w1 base g) (hb : base ≤ w.heap.size) : Below base w w1 :=
  ⟨h.os, h.tape, h.output, h.size, fun k hk => h.block k (by omega) (.inl hk)⟩

/-- The disk outlasts an append to the row of codes. -/
theorem At.grown {w w1 : World} {base g : Nat} {v : Value} {D : List Int} {s : Int} {ok : Nat → Prop} {cv : Value} {cs : List Int} (h : At w base g v D s) (hr : (Kd.int .i64).R 37 w base ok cv cs) (hg : w.grownBy w1 cv.ownBlock) : At w1 base g v D s := by
  refine ⟨blk_grown h.blk hg (Kd.R_ne hr h.blk (by decide)), h.ge, ?_⟩
  refine Kd.R_mono (Kd.R_move (Kd.R_bound h.row) (fun k hk => ?_)) (fun k hk => hk.1)
  obtain ⟨_, _, hlt, q, hq, cells, hc⟩ := hk
  have hq2 : q = 5 := by rcases List.mem_cons.1 hq with hq | hq; exact hq; cases hq
  subst hq2
  refine hg.block k hlt (fun e => ?_)
  obtain ⟨inner, hown⟩ := Kd.R_own hr
  obtain ⟨c2, h2⟩ := own_typed hown k e.symm
  rw [hc] at h2; injection h2 with h2; injection h2 with _ h3; exact absurd h3 (by decide)

/-- What play hands back, where the moves are not too many. -/
def Played (w : World) (r : List Int × List Int × Int) (e : Ending) (w' : World) : Prop :=
  ∃ g v cv, e = .returned (.tuple #[.pointer (some ⟨g, 0, none⟩), cv, .int .i64 0]) ∧ At w' w.heap.size g v r.2.1 r.2.2 ∧ Ok r.2.1 r.2.2 ∧ (Kd.int .i64).R 37 w' w.heap.size (fun _ => True) cv r.1 ∧ Below w.heap.size w w'

set_option maxRecDepth 100000 in
set_option maxHeartbeats 4000000 in
theorem play_calls (A0 : Option Addr) (c0 : Nat) (l : List S32) (w : World) (hr : Kd.C k32 w A0 l.length l) (hl : l.length ≤ 100) (hb : ∀ m ∈ l, m.f1.length ≤ 140737488351232) :
    Calls Try.prog 56 #[.slice A0 l.length c0] w (Played w (run l [] 0)) := by
  have HR := Aside0.mk hr
  have HB := Aside0.mk hb
  have ht : decide (100 < (l.length : Int)) = false := decide_eq_false (by omega)
  generalize hR : run l [] 0 = R
  have HRun := Aside0.mk hR
  clear hr hb hR
  go_enter Try.func56, Try.ntmps56
  go_wp2
  go_loopg [6, 16] (l.length) (fun kq v6 v16 wr => ∃ (i : Nat) (cs : List Int) (D : List Int) (s : Int) (v : Value), v16 = .int .i64 i ∧ Aside0 (kq + i = l.length) ∧ Aside0 (cs.length = i) ∧ Aside0 ((cs ++ (run (l.drop i) D s).1, (run (l.drop i) D s).2) = R) ∧ Aside0 (At wr w.heap.size w.heap.size v D s) ∧ Aside0 (Ok D s) ∧ Aside0 ((Kd.int .i64).R 37 wr w.heap.size (fun _ => True) v6 cs) ∧ Aside0 (Below w.heap.size w wr))
  case atStart =>
    refine ⟨0, [], [], 0, .slice none 0 0, rfl, ⟨by omega⟩, ⟨rfl⟩, ⟨?_⟩, ⟨⟨by simpa using heap_alloc_new w _, Nat.le_refl _, Kd.R_nil _ _ _ _ _⟩⟩, ⟨⟨by decide, by decide, by decide⟩⟩, ⟨Kd.R_nil _ _ _ _ _⟩, ⟨below_alloc (Below.refl _ _) _⟩⟩
    rw [← HRun.out]; rfl
  case round =>
    obtain ⟨i, cs, D, s, v, rfl, hK, hLen, hRi, hAt, hOk, hCs, hBel⟩ := hrel
    by_cases hlt : i < l.length
    · have hm := List.getElem_mem hlt
      obtain ⟨ad, A1, c1, rfl, hx0, hx1, hx2, hl1, hrd1⟩ := at_T32 (Kd.C_below HR.out hBel.out) (i : Int) (by omega) (by omega)
      have hel : rd_T32 l (i : Int) = l[i] := by simp [rd_T32, List.getD_eq_getElem?_getD, hlt]
      rw [hel] at hx0 hx1 hx2 hl1 hrd1
      rw [Int.toNat_natCast] at hx0 hx1 hx2
      have HRd := Aside0.mk hrd1
      have HBm := Aside0.mk (HB.out _ hm)
      clear hrd1 hel hm
      have hRi' : (cs ++ (run (l.drop i) D s).1, (run (l.drop i) D s).2) = ((cs ++ [(Disk.step l[i].f0 l[i].f1 l[i].f2 D s).1]) ++ (run (l.drop (i + 1)) (Disk.step l[i].f0 l[i].f1 l[i].f2 D s).2.1 (Disk.step l[i].f0 l[i].f1 l[i].f2 D s).2.2).1, (run (l.drop (i + 1)) (Disk.step l[i].f0 l[i].f1 l[i].f2 D s).2.1 (Disk.step l[i].f0 l[i].f1 l[i].f2 D s).2.2).2) := by
        rw [List.drop_eq_getElem_cons hlt, run]; simp
      have HRi := Aside0.mk (hRi'.symm.trans hRi.out)
      clear hRi hRi'
      generalize hst : Disk.step l[i].f0 l[i].f1 l[i].f2 D s = st at HRi
      have HSt := Aside0.mk hst
      clear hst
      generalize l[i] = m at *
      go_wp2_with (first | (go_at_call 71; refine (do_any _ w.heap.size w.heap.size v D m.f1 s m.f2 m.f0 A1 c1 (hAt.out.alloc _) (Kd.C_alloc HRd.out _) hOk.out HBm.out).mono ?_; rintro e w1 ⟨rfl, ⟨v1, hA⟩, hE⟩; have HA := Aside0.mk hA; have HC1 := Aside0.mk (codes_eff (Kd.R_alloc hCs.out _) (hAt.out.alloc _).blk hE); have HB1 := Aside0.mk ((below_alloc hBel.out _).trans (hE.below (by have := hBel.out.size; simp; omega))); clear hA hE) | (at_builtin; refine Kd.R_append (Kd.int .i64) (w0 := w) w.heap.size rfl (.tmp 20) (.tmp 24) 36 37 (.int .i64 0) 8 rfl Try.underlying36 infoE rfl (by decide) (by omega) _ cs (Disk.step m.f0 m.f1 m.f2 D s).1 [.int .i64 (Disk.step m.f0 m.f1 m.f2 D s).1] (fun _ => True) (fun _ => False) rfl rfl rfl (fun _ h => h.elim) (fun _ _ => trivial) HC1.out HB1.out (by have := HB1.out.size; omega) (by have := hLen.out; omega) ?_; intro v2 w2 ho hb hg _; have HC2 := Aside0.mk ho; have HB2 := Aside0.mk hb; have HA2 := Aside0.mk (HA.out.grown HC1.out hg); clear ho hb hg))
      go_roundg (gk - 1)
      case measure => have := hK.out; omega
      case rel => exact ⟨i + 1, cs ++ [(Disk.step m.f0 m.f1 m.f2 D s).1], (Disk.step m.f0 m.f1 m.f2 D s).2.1, (Disk.step m.f0 m.f1 m.f2 D s).2.2, v1, by go_num, ⟨by have := hK.out; omega⟩, ⟨by rw [List.length_append, hLen.out]; rfl⟩, ⟨by rw [HSt.out]; exact HRi.out⟩, HA2, ⟨hOk.out.step _ _ _⟩, HC2, HB2⟩
    · have hil : i = l.length := by have := hK.out; omega
      have HD := Aside0.mk (show l.drop i = [] from List.drop_of_length_le (by omega))
      clear hil
      go_wp2
      go_ret3
      have hR := hRi.out
      rw [HD.out] at hR
      have e1 : cs = R.1 := by have := congrArg Prod.fst hR; simpa [run] using this
      have e2 : D = R.2.1 := by have := congrArg (fun z => z.2.1) hR; simpa [run] using this
      have e3 : s = R.2.2 := by have := congrArg (fun z => z.2.2) hR; simpa [run] using this
      refine ⟨_, v, _, rfl, ?_, ?_, ?_, hBel.out⟩
      · rw [← e2, ← e3]; exact hAt.out
      · rw [← e2, ← e3]; exact hOk.out
      · rw [← e1]; exact hCs.out

set_option maxRecDepth 100000 in
set_option maxHeartbeats 4000000 in
theorem play_many (A0 : Option Addr) (c0 n : Nat) (w : World) (hl : 100 < n) :
    Calls Try.prog 56 #[.slice A0 n c0] w fun e w' => e = .returned (.tuple #[.pointer none, .slice none 0 0, .int .i64 1]) ∧ w = w' := by
  have ht : decide (100 < (n : Int)) = true := decide_eq_true (by omega)
  go_enter Try.func56, Try.ntmps56
  go_wp2
  go_ret3
  exact ⟨rfl, rfl⟩

end Go.Proofs.Ytmfkgbncnaingaa.Disk
end

section
/- What disk.Play and disk.Held come to. -/
namespace Go.Proofs.Ytmfkgbncnaingaa.Disk
open Go.RowKit Go.Proofs.Ytmfkgbncnaingaa.QDisk Go.Proofs.YtmfkgbncnaingaaW.PrintWords Go.Proofs.YtmfkgbncnaingaaW.PrintLast Go.Proofs.YtmfkgbncnaingaaW.PrintMore

/-- The empty literal is a row. -/
theorem empty_row (w : World) : (Kd.int .u8).R 5 (w.alloc (.cells #[] 5)) w.heap.size (fun _ => True) (.slice (some ⟨w.heap.size, 0, none⟩) 0 0) [] :=
  Kd.R_of_own (xs := ([] : List Int)) (own_lit_of (enc := Value.int .u8) w w.heap.size 5 ([] : List Int) (Nat.le_refl _) (by decide)) (fun _ _ => trivial)

set_option maxRecDepth 100000 in
set_option maxHeartbeats 1000000 in
theorem Clone_calls (w : World) (A : Option Addr) (c : Nat) (xs : List Int) (h : (Kd.int .u8).C w A xs.length xs) (hl : xs.length ≤ 140737488351232) :
    Calls Try.prog 57 #[.slice A xs.length c] w fun e w' => ∃ v, e = .returned v ∧ (Kd.int .u8).R 5 w' w.heap.size (fun _ => True) v xs ∧ Below w.heap.size w w' := by
  have HC := Aside0.mk h
  have hq := fun (w : World) (a : Option Addr) (n c n' c' : Nat) => Lib.run_eql_slice_nil (P := Try.prog) w 25 5 a n c n' c' Try.underlying25
  cases A with
  | none =>
    have h0 : xs = [] := by
      have h1 := HC.out
      cases xs with
      | nil => rfl
      | cons x l => obtain ⟨_, _, h2⟩ := h1; obtain ⟨ad, h3, _⟩ := h2 (by simp); cases h3
    subst h0
    go_enter Try.func57, Try.ntmps57
    go_wp2
    go_ret
    exact ⟨_, rfl, Kd.R_nil _ _ _ _ _, Below.refl _ _⟩
  | some ad =>
    clear h
    go_enter Try.func57, Try.ntmps57
    go_wp2_with (first | (at_builtin; refine Kd.R_append_rows (Kd.int .u8) (w0 := w) w.heap.size rfl (.tmp 5) (.tmp 6) 25 5 (.int .u8 0) 1 rfl Try.underlying25 info5 rfl (by decide) (by omega) _ [] xs _ _ _ (fun _ => True) (fun _ => False) rfl rfl (empty_row w) (Kd.C_alloc HC.out _) (fun _ _ h => h) (fun _ h => h.elim) (fun _ _ => trivial) (below_alloc (Below.refl _ _) _) (by simp) (by simp; omega) ?_; intro v1 w1 ho hb _ _; have HO := Aside0.mk ho; have HB := Aside0.mk hb; clear ho hb))
    go_ret
    exact ⟨_, rfl, HO.out, HB.out⟩

theorem C_of_At {w : World} {base g : Nat} {v : Value} {D : List Int} {s : Int} (h : At w base g v D s) : ∃ A c, v = .slice A D.length c ∧ (Kd.int .u8).C w A D.length D := by
  obtain ⟨A, c, rfl, _, hC⟩ := Kd.R_reads h.row
  exact ⟨A, c, rfl, hC⟩

end Go.Proofs.Ytmfkgbncnaingaa.Disk
namespace Go.Proofs.Ytmfkgbncnaingaa.QDisk
open Go.RowKit Go.Proofs.Ytmfkgbncnaingaa.Disk Go.Proofs.YtmfkgbncnaingaaW.PrintWords Go.Proofs.YtmfkgbncnaingaaW.PrintLast Go.Proofs.YtmfkgbncnaingaaW.PrintMore

/-- Are all data short enough to be? -/
def short (l : List S32) : Bool := l.all fun m => decide (m.f1.length ≤ 140737488351232)
theorem short_iff (l : List S32) : short l = true ↔ ∀ m ∈ l, m.f1.length ≤ 140737488351232 := by simp [short]

def disk_Play.f (l : List S32) : Option (List Int × List Int × Int) :=
  if 100 < l.length then some ([], [], 1) else if short l = true then some ((run l [] 0).1, (run l [] 0).2.1, 0) else none
def disk_Held.f (l : List S32) : Option (Int × Int × Int) :=
  if 100 < l.length then some (0, 0, 1) else if short l = true then some (((run l [] 0).2.1.length : Int), (run l [] 0).2.2, 0) else none

set_option maxRecDepth 100000 in
set_option maxHeartbeats 4000000 in
theorem disk_Play.calls (A0 : Option Addr) (c0 : Nat) (l0 : List S32) (r1 r2 : List Int) (r3 : Int) (w : World) (hr0 : Kd.C k32 w A0 l0.length l0) (_hc0 : l0.length ≤ c0) (h : disk_Play.f l0 = some (r1, r2, r3)) :
    Calls Try.prog 32 #[.slice A0 l0.length c0] w fun e w' => ∃ v0_ v1_ : Value, e = .returned (.tuple #[v0_, v1_, .int .i64 r3]) ∧ Kd.R (Kd.int .i64) 37 w' w.heap.size (fun _ => True) v0_ r1 ∧ Kd.R (Kd.int .u8) 5 w' w.heap.size (fun _ => True) v1_ r2 ∧ Below w.heap.size w w' := by
  unfold disk_Play.f at h
  have HR := Aside0.mk hr0
  clear hr0
  by_cases hm : 100 < l0.length
  · rw [if_pos hm] at h
    simp only [Option.some.injEq, Prod.mk.injEq] at h
    obtain ⟨rfl, rfl, rfl⟩ := h
    have HM := Aside0.mk hm
    clear hm
    go_enter Try.func32, Try.ntmps32
    go_wp2_with (go_at_call 56; refine (play_many A0 c0 l0.length _ HM.out).mono ?_; rintro e w' ⟨rfl, rfl⟩)
    go_ret3
    exact ⟨_, _, rfl, Kd.R_nil _ _ _ _ _, Kd.R_nil _ _ _ _ _, Below.refl _ _⟩
  · rw [if_neg hm] at h
    by_cases hs : short l0 = true
    · rw [if_pos hs] at h
      simp only [Option.some.injEq, Prod.mk.injEq] at h
      obtain ⟨rfl, rfl, rfl⟩ := h
      have HP := Aside0.mk (play_calls A0 c0 l0 w HR.out (by omega) ((short_iff l0).1 hs))
      clear hm hs
      generalize run l0 [] 0 = R at HP ⊢
      go_enter Try.func32, Try.ntmps32
      go_wp2_with (first | (go_at_call 56; refine HP.out.mono ?_; rintro e w1 ⟨g, v, cv, rfl, hA, hOk, hC, hB⟩; obtain ⟨A1, c1, rfl, hcd⟩ := C_of_At hA; have hc0 := (blk_cell hA.blk 0).trans rfl; have HA := Aside0.mk hA; have HOk := Aside0.mk hOk; have HC := Aside0.mk hC; have HB := Aside0.mk hB; have HD := Aside0.mk hcd; clear hA hOk hC hB hcd) | (go_at_call 57; refine (Clone_calls _ A1 c1 R.2.1 HD.out (by have := HOk.out.1; omega)).mono ?_; rintro e w2 ⟨v2, rfl, hO, hB2⟩; have HO := Aside0.mk hO; have HB2 := Aside0.mk hB2; clear hO hB2))
      go_ret3
      exact ⟨_, _, rfl, Kd.R_below HC.out HB2.out, Kd.R_lower HO.out HB.out.size, HB.out.trans (HB2.out.mono HB.out.size)⟩
    · rw [if_neg hs] at h; cases h

set_option maxRecDepth 100000 in
set_option maxHeartbeats 4000000 in
theorem disk_Held.calls (A0 : Option Addr) (c0 : Nat) (l0 : List S32) (r1 r2 r3 : Int) (w : World) (hr0 : Kd.C k32 w A0 l0.length l0) (_hc0 : l0.length ≤ c0) (h : disk_Held.f l0 = some (r1, r2, r3)) :
    Calls Try.prog 33 #[.slice A0 l0.length c0] w fun e w' => e = .returned (.tuple #[.int .i64 r1, .int .i64 r2, .int .i64 r3]) ∧ Below w.heap.size w w' := by
  unfold disk_Held.f at h
  have HR := Aside0.mk hr0
  clear hr0
  by_cases hm : 100 < l0.length
  · rw [if_pos hm] at h
    simp only [Option.some.injEq, Prod.mk.injEq] at h
    obtain ⟨rfl, rfl, rfl⟩ := h
    have HM := Aside0.mk hm
    clear hm
    go_enter Try.func33, Try.ntmps33
    go_wp2_with (go_at_call 56; refine (play_many A0 c0 l0.length _ HM.out).mono ?_; rintro e w' ⟨rfl, rfl⟩)
    go_ret3
    exact ⟨rfl, Below.refl _ _⟩
  · rw [if_neg hm] at h
    by_cases hs : short l0 = true
    · rw [if_pos hs] at h
      simp only [Option.some.injEq, Prod.mk.injEq] at h
      obtain ⟨rfl, rfl, rfl⟩ := h
      have HP := Aside0.mk (play_calls A0 c0 l0 w HR.out (by omega) ((short_iff l0).1 hs))
      clear hm hs
      generalize run l0 [] 0 = R at HP ⊢
      go_enter Try.func33, Try.ntmps33
      go_wp2_with (first | (go_at_call 56; refine HP.out.mono ?_; rintro e w1 ⟨g, v, cv, rfl, hA, hOk, hC, hB⟩; obtain ⟨A1, c1, rfl, hcd⟩ := C_of_At hA; have hc0 := (blk_cell hA.blk 0).trans rfl; have hc1 := (blk_cell hA.blk 1).trans rfl; have HB := Aside0.mk hB; clear hA hOk hC hB hcd))
      go_quiet (fail)
      go_wp2
      go_ret3
      exact ⟨rfl, pw_below_drewN HB.out _⟩
    · rw [if_neg hs] at h; cases h

end Go.Proofs.Ytmfkgbncnaingaa.QDisk
end

section
/- Functions of the program as plain functions, and the walks that show it. Written by the session's own program pp.py. -/
namespace Go.Proofs.Ytmfkgbncnaingaa.QWal
open Go.RowKit Go.Proofs.YtmfkgbncnaingaaW.PrintWords Go.Proofs.YtmfkgbncnaingaaW.PrintLast Go.Proofs.YtmfkgbncnaingaaW.PrintMore
attribute [local go_sem] max2_int min2_int max_two min_two max_three min_three max_four min_four   -- for this text's walks alone
set_option linter.unusedVariables false
set_option linter.unusedSimpArgs false



def errW : Option Int → Value
  | none => .nilIface
  | some c => .iface 0 (.int .i64 c)
theorem errW_none : errW none = .nilIface := rfl
theorem errW_some (c : Int) : errW (some c) = .iface 0 (.int .i64 c) := rfl

theorem info3 : (Try.prog.info? 3).map (fun i => (i.zero, i.size, i.bytes)) = some (some (.int .i64 0), 1, 8) := by kernel_rfl
theorem info5 : (Try.prog.info? 5).map (fun i => (i.zero, i.size, i.bytes)) = some (some (.int .u8 0), 1, 1) := by kernel_rfl
theorem info25 : (Try.prog.info? 25).map (fun i => (i.zero, i.size, i.bytes)) = some (some (.slice none 0 0), 1, 24) := by kernel_rfl
theorem info53 : (Try.prog.info? 53).map (fun i => (i.zero, i.size, i.bytes)) = some (some (.slice none 0 0), 1, 24) := by kernel_rfl
-- the values' own types
def rd_L1 (xs : List (List Int)) (i : Int) : (List Int) := xs.getD i.toNat ([] : List Int)
theorem at_L1 {w : World} {A : Option Addr} {n : Nat} {xs : List (List Int)} (h : Kd.C (Kd.slice 5 (Kd.int .u8)) w A n xs) (i : Int) (h0 : 0 ≤ i) (h1 : i < n) : ∃ ad A0 c0, A = some ad ∧ w.cell? (ad.add i.toNat) = some (.slice A0 (rd_L1 xs i).length c0) ∧ (rd_L1 xs i).length ≤ c0 ∧ (Kd.int .u8).C w A0 (rd_L1 xs i).length (rd_L1 xs i) := by
  obtain ⟨ad, c, e, _, hK, hc0⟩ := Kd.C_get h ([] : List Int) i h0 h1
  have hc : ∀ j u, c[j]? = some u → w.cell? (ad.add (i.toNat * 1 + j)) = some u := hc0
  obtain ⟨A0, c0, rfl, l0, g0⟩ := hK
  exact ⟨ad, A0, c0, e, by have hq := hc 0 _ rfl; rwa [Nat.mul_one, Nat.add_zero] at hq, l0, g0⟩

def rd_L2 (xs : List (List (List Int))) (i : Int) : (List (List Int)) := xs.getD i.toNat ([] : List (List Int))
theorem at_L2 {w : World} {A : Option Addr} {n : Nat} {xs : List (List (List Int))} (h : Kd.C (Kd.slice 25 (Kd.slice 5 (Kd.int .u8))) w A n xs) (i : Int) (h0 : 0 ≤ i) (h1 : i < n) : ∃ ad A0 c0, A = some ad ∧ w.cell? (ad.add i.toNat) = some (.slice A0 (rd_L2 xs i).length c0) ∧ (rd_L2 xs i).length ≤ c0 ∧ (Kd.slice 5 (Kd.int .u8)).C w A0 (rd_L2 xs i).length (rd_L2 xs i) := by
  obtain ⟨ad, c, e, _, hK, hc0⟩ := Kd.C_get h ([] : List (List Int)) i h0 h1
  have hc : ∀ j u, c[j]? = some u → w.cell? (ad.add (i.toNat * 1 + j)) = some u := hc0
  obtain ⟨A0, c0, rfl, l0, g0⟩ := hK
  exact ⟨ad, A0, c0, e, by have hq := hc 0 _ rfl; rwa [Nat.mul_one, Nat.add_zero] at hq, l0, g0⟩

def rd_L4 (xs : List (List (List (List Int)))) (i : Int) : (List (List (List Int))) := xs.getD i.toNat ([] : List (List (List Int)))
theorem at_L4 {w : World} {A : Option Addr} {n : Nat} {xs : List (List (List (List Int)))} (h : Kd.C (Kd.slice 53 (Kd.slice 25 (Kd.slice 5 (Kd.int .u8)))) w A n xs) (i : Int) (h0 : 0 ≤ i) (h1 : i < n) : ∃ ad A0 c0, A = some ad ∧ w.cell? (ad.add i.toNat) = some (.slice A0 (rd_L4 xs i).length c0) ∧ (rd_L4 xs i).length ≤ c0 ∧ (Kd.slice 25 (Kd.slice 5 (Kd.int .u8))).C w A0 (rd_L4 xs i).length (rd_L4 xs i) := by
  obtain ⟨ad, c, e, _, hK, hc0⟩ := Kd.C_get h ([] : List (List (List Int))) i h0 h1
  have hc : ∀ j u, c[j]? = some u → w.cell? (ad.add (i.toNat * 1 + j)) = some u := hc0
  obtain ⟨A0, c0, rfl, l0, g0⟩ := hK
  exact ⟨ad, A0, c0, e, by have hq := hc 0 _ rfl; rwa [Nat.mul_one, Nat.add_zero] at hq, l0, g0⟩

end Go.Proofs.Ytmfkgbncnaingaa.QWal
end

section
/- The sums of bytes. -/
namespace Go.Proofs.Ytmfkgbncnaingaa.Wal
open Go.RowKit Go.Proofs.YtmfkgbncnaingaaW.PrintWords Go.Proofs.YtmfkgbncnaingaaW.PrintLast Go.Proofs.YtmfkgbncnaingaaW.PrintMore

/-- The two sums, from a and b on. -/
def sumsGo : List Int → Int → Int → Int × Int
  | [], a, b => (a, b)
  | x :: l, a, b => sumsGo l ((a + x + 1) % 251) ((b + (a + x + 1) % 251) % 251)
def sumsOf (l : List Int) : Int × Int := sumsGo l 0 0
theorem sumsGo_range (l : List Int) (a b : Int) (ha : 0 ≤ a ∧ a < 251) (hb : 0 ≤ b ∧ b < 251) : (0 ≤ (sumsGo l a b).1 ∧ (sumsGo l a b).1 < 251) ∧ 0 ≤ (sumsGo l a b).2 ∧ (sumsGo l a b).2 < 251 := by
  induction l generalizing a b with
  | nil => exact ⟨ha, hb⟩
  | cons x l ih => exact ih _ _ ⟨by omega, by omega⟩ ⟨by omega, by omega⟩
theorem sumsOf_range (l : List Int) : (0 ≤ (sumsOf l).1 ∧ (sumsOf l).1 < 251) ∧ 0 ≤ (sumsOf l).2 ∧ (sumsOf l).2 < 251 := sumsGo_range l 0 0 (by omega) (by omega)

set_option maxRecDepth 100000 in
set_option maxHeartbeats 4000000 in
theorem sums_calls (A0 : Option Addr) (c0 : Nat) (l : List Int) (w : World) (hr : Kd.C (Kd.int .u8) w A0 l.length l) (hl : l.length ≤ 100000) (hx : ∀ x ∈ l, 0 ≤ x ∧ x < 256) :
    Calls Try.prog 89 #[.slice A0 l.length c0] w fun e w' => e = .returned (.agg #[.int .u8 (sumsOf l).1, .int .u8 (sumsOf l).2]) ∧ Below w.heap.size w w' := by
  have HR := Aside0.mk hr
  have HX := Aside0.mk hx
  have hrg := sumsOf_range l
  have HRun := Aside0.mk (show sumsGo l 0 0 = sumsOf l from rfl)
  generalize sumsOf l = R at HRun hrg ⊢
  obtain ⟨r1, r2⟩ := R
  have hc1 : IntKind.u8.wrap r1 = r1 := by rw [IntKind.wrap_u8]; have := hrg.1; simp only [] at this; omega
  have hc2 : IntKind.u8.wrap r2 = r2 := by rw [IntKind.wrap_u8]; have := hrg.2; simp only [] at this; omega
  clear hr hx hrg
  go_enter Try.func89, Try.ntmps89
  go_wp2
  go_loopg [3, 4, 9] (l.length) (fun kq v3 v4 v9 wr => ∃ (i : Nat) (a b : Int), v9 = .int .i64 i ∧ v3 = .int .i64 a ∧ v4 = .int .i64 b ∧ Aside0 (kq + i = l.length) ∧ Aside0 ((0 ≤ a ∧ a < 251) ∧ 0 ≤ b ∧ b < 251) ∧ Aside0 (sumsGo (l.drop i) a b = (r1, r2)) ∧ Aside0 (wr.heap[w.heap.size]? = some (.cells #[.int .u8 0, .int .u8 0] 135 (0, 0))) ∧ Aside0 (Below w.heap.size w wr))
  case atStart =>
    exact ⟨0, 0, 0, rfl, rfl, rfl, ⟨by omega⟩, ⟨by decide⟩, HRun, ⟨by simpa using heap_alloc_new w _⟩, ⟨below_alloc (Below.refl _ _) _⟩⟩
  case round =>
    obtain ⟨i, a, b, rfl, rfl, rfl, hK, hab, hRi, hBk, hBel⟩ := hrel
    by_cases hlt : i < l.length
    · obtain ⟨ad, rfl, hx0⟩ := Kd.at_int (Kd.C_below HR.out hBel.out) (i : Int) (by omega) (by omega)
      have hel : rd l (i : Int) = l[i] := by simp [rd, List.getD_eq_getElem?_getD, hlt]
      rw [hel] at hx0
      rw [Int.toNat_natCast] at hx0
      obtain ⟨hx1, hx2⟩ := HX.out _ (List.getElem_mem hlt)
      have hRi' := hRi.out
      rw [List.drop_eq_getElem_cons hlt, sumsGo] at hRi'
      generalize l[i] = x at *
      obtain ⟨⟨ha0, ha1⟩, hb0, hb1⟩ := hab.out
      obtain ⟨a2, ha2⟩ : ∃ z, (a + x + 1) % 251 = z := ⟨_, rfl⟩
      rw [ha2] at hRi'
      obtain ⟨b2, hb2⟩ : ∃ z, (b + a2) % 251 = z := ⟨_, rfl⟩
      rw [hb2] at hRi'
      have HRi := Aside0.mk hRi'
      have htm1 : Int.tmod (a + x + 1) 251 = a2 := by rw [Int.tmod_eq_emod_of_nonneg (by omega)]; exact ha2
      have ha3 : 0 ≤ a2 ∧ a2 < 251 := by omega
      obtain ⟨ha4, ha5⟩ := ha3
      have htm2 : Int.tmod (b + a2) 251 = b2 := by rw [Int.tmod_eq_emod_of_nonneg (by omega)]; exact hb2
      have HAB := Aside0.mk (show (0 ≤ a2 ∧ a2 < 251) ∧ 0 ≤ b2 ∧ b2 < 251 by omega)
      clear hRi hRi' hel ha2 hb2
      go_wp2
      go_roundg (l.length - (i + 1))
      case measure => have := hK.out; omega
      case rel => exact ⟨i + 1, a2, b2, by go_num, rfl, rfl, ⟨by omega⟩, HAB, HRi, hBk, hBel⟩
    · have hR := hRi.out
      rw [List.drop_of_length_le (by omega), sumsGo] at hR
      simp only [Prod.mk.injEq] at hR
      obtain ⟨rfl, rfl⟩ := hR
      have hbk := hBk.out
      have hd0 : wr.cell? ⟨w.heap.size, 0, none⟩ = some (.int .u8 0) := (blk_cell hbk 0).trans rfl
      have hd1 : wr.cell? ⟨w.heap.size, 1, none⟩ = some (.int .u8 0) := (blk_cell hbk 1).trans rfl
      have hf := fun i => blk_frozen hbk i
      have HBk2 := Aside0.mk (show ((wr.setCell ⟨w.heap.size, 0, none⟩ (.int .u8 a)).setCell ⟨w.heap.size, 1, none⟩ (.int .u8 b)).heap[w.heap.size]? = some (.cells #[.int .u8 a, .int .u8 b] 135 (0, 0)) by simpa using blk_set (blk_set hbk 0 (.int .u8 a)) 1 (.int .u8 b))
      have HB2 := Aside0.mk ((hBel.out.setCell (p := ⟨w.heap.size, 0, none⟩) (Nat.le_refl _) (.int .u8 a)).setCell (p := ⟨w.heap.size, 1, none⟩) (Nat.le_refl _) (.int .u8 b))
      clear hbk
      go_wp2
      refine bodyPost_ret (results_cell_row rfl _ _ w.heap.size 135 _ (0, 0) _ rfl HBk2.out Try.underlying135 rfl (by kernel_rfl)) rfl ?_
      exact ⟨rfl, HB2.out⟩

end Go.Proofs.Ytmfkgbncnaingaa.Wal
end

section
/- Whether records may be. -/
namespace Go.Proofs.Ytmfkgbncnaingaa.Wal
open Go.RowKit Go.Proofs.Ytmfkgbncnaingaa.QWal Go.Proofs.YtmfkgbncnaingaaW.PrintWords Go.Proofs.YtmfkgbncnaingaaW.PrintLast Go.Proofs.YtmfkgbncnaingaaW.PrintMore

/-- May a record of so many bytes be? -/
def may (n : Nat) : Bool := decide (1 ≤ n ∧ n ≤ 60)
theorem May_calls (A : Option Addr) (n c : Nat) (w : World) : Calls Try.prog 60 #[.slice A n c] w fun e w' => e = .returned (.bool (may n)) ∧ w = w' := by
  by_cases h1 : 1 ≤ n
  · have hb1 : decide ((n : Int) ≥ 1) = true := decide_eq_true (by omega)
    by_cases h2 : n ≤ 60
    · have hm : may n = true := decide_eq_true ⟨h1, h2⟩
      rw [hm]
      have hb2 : decide ((n : Int) ≤ 60) = true := decide_eq_true (by omega)
      go_enter Try.func60, Try.ntmps60
      go_wp2
      go_ret
      exact ⟨rfl, rfl⟩
    · have hm : may n = false := decide_eq_false (fun h => h2 h.2)
      rw [hm]
      have hb2 : decide ((n : Int) ≤ 60) = false := decide_eq_false (by omega)
      go_enter Try.func60, Try.ntmps60
      go_wp2
      go_ret
      exact ⟨rfl, rfl⟩
  · have hm : may n = false := decide_eq_false (fun h => h1 h.1)
    rw [hm]
    have hb1 : decide ((1 : Int) ≤ (n : Int)) = false := decide_eq_false (by omega)
    go_enter Try.func60, Try.ntmps60
    go_wp2
    go_ret
    exact ⟨rfl, rfl⟩

theorem odd_calls (A : Option Addr) (n c : Nat) (w : World) : Calls Try.prog 59 #[.slice A n c] w fun e w' => e = .returned (.bool (!may n)) ∧ w = w' := by
  go_enter Try.func59, Try.ntmps59
  go_wp2_with (go_at_call 60; refine (May_calls A n c _).mono ?_; rintro e w' ⟨rfl, rfl⟩)
  go_ret
  exact ⟨rfl, rfl⟩

/-- Are all records such that may be? -/
def mayAll (l : List (List Int)) : Bool := l.all fun x => may x.length
theorem mayAll_append (a b : List (List Int)) : mayAll (a ++ b) = (mayAll a && mayAll b) := List.all_append
theorem mayAll_cons (x : List Int) (l : List (List Int)) : mayAll (x :: l) = (may x.length && mayAll l) := rfl

set_option maxRecDepth 100000 in
set_option maxHeartbeats 4000000 in
theorem Index_calls (A0 : Option Addr) (c0 : Nat) (l : List (List Int)) (w : World) (hr : Kd.C (Kd.slice 5 (Kd.int .u8)) w A0 l.length l) (hl : l.length ≤ 100000) :
    Calls Try.prog 73 #[.slice A0 l.length c0, .func (.func 59) #[] #[]] w fun e w' => ∃ r : Int, e = .returned (.int .i64 r) ∧ w = w' ∧ decide (0 ≤ r) = !mayAll l := by
  have HR := Aside0.mk hr
  clear hr
  go_enter Try.func73, Try.ntmps73
  go_wp2
  go_loopg [5, 8] (l.length) (fun kq v5 v8 wr => ∃ (i : Nat), v8 = .int .i64 i ∧ Aside0 (kq + i = l.length) ∧ Aside0 (mayAll (l.take i) = true) ∧ Aside0 (w = wr))
  case atStart => exact ⟨0, rfl, ⟨by omega⟩, ⟨rfl⟩, ⟨rfl⟩⟩
  case round =>
    obtain ⟨i, rfl, hK, hM, hW⟩ := hrel
    obtain rfl := hW.out
    by_cases hlt : i < l.length
    · obtain ⟨ad, A1, c1, rfl, hx0, hl1, hrd1⟩ := at_L1 HR.out (i : Int) (by omega) (by omega)
      have hel : rd_L1 l (i : Int) = l[i] := by simp [rd_L1, List.getD_eq_getElem?_getD, hlt]
      rw [hel] at hx0 hl1 hrd1
      rw [Int.toNat_natCast] at hx0
      have hsplit : l.take (i + 1) = l.take i ++ [l[i]] := List.take_succ_eq_append_getElem hlt
      have hall : mayAll l = (mayAll (l.take i) && (may l[i].length && mayAll (l.drop (i + 1)))) := by
        have h1 : l = l.take i ++ l[i] :: l.drop (i + 1) := by rw [← List.drop_eq_getElem_cons hlt, List.take_append_drop]
        exact (congrArg mayAll h1).trans (by rw [mayAll_append, mayAll_cons])
      clear hel hrd1
      cases hm : may l[i].length with
      | true =>
        have HM := Aside0.mk (show mayAll (l.take (i + 1)) = true by rw [hsplit, mayAll_append, hM.out, mayAll_cons, hm]; rfl)
        have HOdd := Aside0.mk (odd_calls A1 l[i].length c1 w)
        rw [hm] at HOdd
        generalize l[i] = x at *
        clear hall hsplit hm
        go_wp2_with (go_at_call 59; refine HOdd.out.mono ?_; rintro e w' ⟨rfl, rfl⟩)
        go_roundg (gk - 1)
        case measure => have := hK.out; omega
        case rel => exact ⟨i + 1, by go_num, ⟨by have := hK.out; omega⟩, HM, ⟨rfl⟩⟩
      | false =>
        have HOdd := Aside0.mk (odd_calls A1 l[i].length c1 w)
        rw [hm] at HOdd hall
        have HA := Aside0.mk (show mayAll l = false by rw [hall]; simp)
        generalize l[i] = x at *
        clear hall hsplit hm
        go_wp2_with (go_at_call 59; refine HOdd.out.mono ?_; rintro e w' ⟨rfl, rfl⟩)
        go_ret
        exact ⟨_, rfl, rfl, by rw [HA.out, decide_eq_true (by omega)]; rfl⟩
    · have HA := Aside0.mk (show mayAll l = true by have := hM.out; rwa [List.take_of_length_le (by omega)] at this)
      go_wp2
      go_ret
      exact ⟨_, rfl, rfl, by rw [HA.out]; rfl⟩

theorem Contains_calls (A0 : Option Addr) (c0 : Nat) (l : List (List Int)) (w : World) (hr : Kd.C (Kd.slice 5 (Kd.int .u8)) w A0 l.length l) (hl : l.length ≤ 100000) :
    Calls Try.prog 61 #[.slice A0 l.length c0, .func (.func 59) #[] #[]] w fun e w' => e = .returned (.bool (!mayAll l)) ∧ w = w' := by
  have HI := fun w h => Aside0.mk (Index_calls A0 c0 l w h hl)
  have HR := Aside0.mk hr
  clear hr
  go_enter Try.func61, Try.ntmps61
  go_wp2_with (go_at_call 73; refine (HI _ HR.out).out.mono ?_; rintro e w' ⟨r, rfl, rfl, hd⟩)
  go_ret
  exact ⟨by rw [← hd]; rfl, rfl⟩

end Go.Proofs.Ytmfkgbncnaingaa.Wal
end

section
/- Frames of records. -/
namespace Go.Proofs.Ytmfkgbncnaingaa.Wal
open Go.RowKit Go.Proofs.Ytmfkgbncnaingaa.QWal Go.Proofs.YtmfkgbncnaingaaW.PrintWords Go.Proofs.YtmfkgbncnaingaaW.PrintLast Go.Proofs.YtmfkgbncnaingaaW.PrintMore

/-- A record's frame, and what is summed of it. -/
def headOf (xs : List Int) (last : Bool) : List Int := [(xs.length : Int), if last then 1 else 0] ++ xs
def frameOf (xs : List Int) (last : Bool) : List Int := headOf xs last ++ [(sumsOf (headOf xs last)).1, (sumsOf (headOf xs last)).2]

/-- A literal row is read. -/
theorem lit_reads (w : World) (xs : List Int) (h : xs.length ≤ 100000) : (Kd.int .u8).C (w.alloc (.cells (nums .u8 xs).toArray 5)) (some ⟨w.heap.size, 0, none⟩) xs.length xs := by
  have h1 := own_lit w w.heap.size 5 .u8 xs (Nat.le_refl _) (by omega)
  obtain ⟨A, c, e, h2⟩ := own_reads h1
  injection e with e1 _ _
  subst e1
  exact Kd.C_of_reads (h1 := fun _ => rfl) (readsInt_of.1 h2)
/-- A block of two bytes is read. -/
theorem two_reads {w : World} {g : Nat} {a b : Int} (h : w.heap[g]? = some (.cells #[.int .u8 a, .int .u8 b] 135 (0, 0))) : (Kd.int .u8).C w (some ⟨g, 0, none⟩) 2 [a, b] := by
  refine Kd.C_of_reads (d := 0) (h1 := fun _ => rfl) (readsInt_of.1 ⟨rfl, by decide, fun _ => ⟨_, rfl, fun j hj => ?_⟩⟩)
  rw [add_plain]
  match j, hj with
  | 0, _ => exact (blk_cell h 0).trans rfl
  | 1, _ => exact (blk_cell h 1).trans rfl
  | j + 2, hj => exact absurd hj (by omega)

/-- The end of a row of the call's own. -/
theorem tail_reads {w : World} {base g n c : Nat} {ok : Nat → Prop} {out t : List Int} (h : (Kd.int .u8).R 5 w base ok (.slice (some ⟨g, 0, none⟩) n c) (out ++ t)) (ht : 0 < t.length) : (Kd.int .u8).C w (some ⟨g, out.length, none⟩) t.length t ∧ (c = out.length) = False := by
  obtain ⟨hn, hc, hC⟩ := Kd.R_reads' h
  rw [List.length_append] at hn
  have h1 := Kd.C_drop (m := out.length) (c := c) hC (by rw [List.length_append]; omega) (by rw [List.length_append]; omega)
  rw [if_neg (by omega), List.drop_left] at h1
  have h2 : (out.length * (Kd.int .u8).sz) = out.length := Nat.mul_one _
  rw [h2] at h1
  refine ⟨?_, eq_false (by omega)⟩
  simpa [add_plain] using h1

set_option maxRecDepth 100000 in
set_option maxHeartbeats 4000000 in
theorem frame_last (w : World) (base : Nat) (v : Value) (out xs : List Int) (A : Option Addr) (c : Nat) (HO0 : (Kd.int .u8).R 5 w base (fun _ => True) v out) (hb : base ≤ w.heap.size) (hr : ∀ W', Below base w W' → (Kd.int .u8).C W' A xs.length xs) (hx : ∀ x ∈ xs, 0 ≤ x ∧ x < 256) (hl : xs.length ≤ 255) (ho : out.length ≤ 100000) :
    Calls Try.prog 74 #[v, .slice A xs.length c, .bool true] w fun e w' => ∃ v', e = .returned v' ∧ (Kd.int .u8).R 5 w' base (fun _ => True) v' (out ++ frameOf xs true) ∧ Below base w w' := by
  obtain ⟨Ad, cd, rfl, hlc, hrd⟩ := Kd.R_reads HO0
  have HO := Aside0.mk HO0
  have HR := Aside0.mk hr
  have HX := Aside0.mk hx
  have Hb := Aside0.mk hb
  have hwl : IntKind.u8.wrap (xs.length : Int) = (xs.length : Int) := by rw [IntKind.wrap_u8]; omega
  have hwm : (xs.length : Int) % 256 = (xs.length : Int) := by omega
  have HL1 := Aside0.mk (show (out ++ [(xs.length : Int), 1]).length = out.length + 2 by simp)
  have HL2 := Aside0.mk (show (out ++ [(xs.length : Int), 1] ++ xs).length = out.length + 2 + xs.length by simp; omega)
  have HL3 := Aside0.mk (show out.length + 2 + xs.length = out.length + (xs.length + 1 + 1) by omega)
  have HH := Aside0.mk (show ∀ x ∈ headOf xs true, 0 ≤ x ∧ x < 256 from fun x h => by
    rcases List.mem_cons.1 h with rfl | h
    · omega
    rcases List.mem_cons.1 h with rfl | h
    · decide
    exact hx x h)
  clear HO0 hr hx hb hrd
  go_enter Try.func74, Try.ntmps74
  go_wp2_with (first
    | ((with_reducible refine gate_builtin (b := .append) (xs := #[.tmp 13, .tmp 18]) rfl ?_); at_builtin; refine Kd.R_append_rows (Kd.int .u8) (w0 := w) base rfl (.tmp 13) (.tmp 18) 25 5 (.int .u8 0) 1 rfl Try.underlying25 info5 rfl (by decide) (by omega) _ out [(xs.length : Int), 1] _ _ _ (fun _ => True) (fun _ => False) rfl (by first | rfl | (go_simp; rfl)) (Kd.R_alloc HO.out _) (lit_reads w [(xs.length : Int), 1] (by simp)) (fun _ _ h => h) (fun _ h => h.elim) (fun _ _ => trivial) ((Below.refl base w).alloc Hb.out _) (by have := Hb.out; simp; omega) (by simp; omega) ?_; intro v1 w1 h1 hb1 _ _; obtain ⟨A1, c1, rfl, _, _⟩ := Kd.R_reads h1; rw [HL1.out] at h1; have H1 := Aside0.mk h1; have HB1 := Aside0.mk hb1; clear h1 hb1)
    | ((with_reducible refine gate_builtin (b := .append) (xs := #[.tmp 19, .tmp 20]) rfl ?_); at_builtin; refine Kd.R_append_rows (Kd.int .u8) (w0 := w) base rfl (.tmp 19) (.tmp 20) 25 5 (.int .u8 0) 1 rfl Try.underlying25 info5 rfl (by decide) (by omega) _ (out ++ [(xs.length : Int), 1]) xs _ _ _ (fun _ => True) (fun _ => False) rfl rfl H1.out (HR.out _ HB1.out) (fun _ _ h => h) (fun _ h => h.elim) (fun _ _ => trivial) HB1.out (by have := Hb.out; have := HB1.out.size; omega) (by simp; omega) ?_; intro v2 w2 h2 hb2 _ _; obtain ⟨g2, c2, rfl, hg2, hg3, _⟩ := Kd.R_form h2 (by rw [HL2.out]; omega); rw [HL2.out] at h2; rw [List.append_assoc] at h2; obtain ⟨ht2, hcne⟩ := tail_reads (out := out) (t := headOf xs true) h2 (by simp [headOf]); have HT := Aside0.mk ht2; have H2 := Aside0.mk h2; clear ht2; have HB2 := Aside0.mk hb2; clear h2 hb2)
    | (go_at_call 89; refine (sums_calls (some ⟨g2, out.length, none⟩) _ (headOf xs true) _ HT.out ?_ ?_).mono ?_; (simp [headOf]; omega); (exact HH.out); rintro e w3 ⟨rfl, hb3⟩; have HB3 := Aside0.mk (below_then HB2.out (Nat.le_trans hg2 (Nat.le_of_lt hg3)) hb3); have hsz3 := Nat.le_trans (Nat.le_trans hg2 (Nat.le_of_lt hg3)) hb3.size; have h3 := Kd.R_below H2.out hb3; rw [HL3.out] at h3; have H3 := Aside0.mk h3; clear h3; clear hb3)
    | ((with_reducible refine gate_builtin (b := .append) (xs := #[.tmp 26, .tmp 27]) rfl ?_); at_builtin; refine Kd.R_append_rows (Kd.int .u8) (w0 := w) base rfl (.tmp 26) (.tmp 27) 25 5 (.int .u8 0) 1 rfl Try.underlying25 info5 rfl (by decide) (by omega) _ (out ++ headOf xs true) [(sumsOf (headOf xs true)).1, (sumsOf (headOf xs true)).2] _ _ _ (fun _ => True) (fun _ => False) rfl (by first | rfl | (go_simp; rfl)) (Kd.R_alloc H3.out _) (two_reads (heap_alloc_new _ _)) (fun _ _ h => h) (fun _ h => h.elim) (fun _ _ => trivial) (HB3.out.alloc hsz3 _) (by simp; omega) (by simp [headOf]; omega) ?_; intro v4 w4 h4 hb4 _ _; have H4 := Aside0.mk h4; have HB4 := Aside0.mk hb4; clear h4 hb4))
  go_ret
  exact ⟨_, rfl, by have h := H4.out; rw [List.append_assoc] at h; exact h, HB4.out⟩

set_option maxRecDepth 100000 in
set_option maxHeartbeats 4000000 in
theorem frame_more (w : World) (base : Nat) (v : Value) (out xs : List Int) (A : Option Addr) (c : Nat) (HO0 : (Kd.int .u8).R 5 w base (fun _ => True) v out) (hb : base ≤ w.heap.size) (hr : ∀ W', Below base w W' → (Kd.int .u8).C W' A xs.length xs) (hx : ∀ x ∈ xs, 0 ≤ x ∧ x < 256) (hl : xs.length ≤ 255) (ho : out.length ≤ 100000) :
    Calls Try.prog 74 #[v, .slice A xs.length c, .bool false] w fun e w' => ∃ v', e = .returned v' ∧ (Kd.int .u8).R 5 w' base (fun _ => True) v' (out ++ frameOf xs false) ∧ Below base w w' := by
  obtain ⟨Ad, cd, rfl, hlc, hrd⟩ := Kd.R_reads HO0
  have HO := Aside0.mk HO0
  have HR := Aside0.mk hr
  have HX := Aside0.mk hx
  have Hb := Aside0.mk hb
  have hwl : IntKind.u8.wrap (xs.length : Int) = (xs.length : Int) := by rw [IntKind.wrap_u8]; omega
  have hwm : (xs.length : Int) % 256 = (xs.length : Int) := by omega
  have HL1 := Aside0.mk (show (out ++ [(xs.length : Int), 0]).length = out.length + 2 by simp)
  have HL2 := Aside0.mk (show (out ++ [(xs.length : Int), 0] ++ xs).length = out.length + 2 + xs.length by simp; omega)
  have HL3 := Aside0.mk (show out.length + 2 + xs.length = out.length + (xs.length + 1 + 1) by omega)
  have HH := Aside0.mk (show ∀ x ∈ headOf xs false, 0 ≤ x ∧ x < 256 from fun x h => by
    rcases List.mem_cons.1 h with rfl | h
    · omega
    rcases List.mem_cons.1 h with rfl | h
    · decide
    exact hx x h)
  clear HO0 hr hx hb hrd
  go_enter Try.func74, Try.ntmps74
  go_wp2_with (first
    | ((with_reducible refine gate_builtin (b := .append) (xs := #[.tmp 13, .tmp 18]) rfl ?_); at_builtin; refine Kd.R_append_rows (Kd.int .u8) (w0 := w) base rfl (.tmp 13) (.tmp 18) 25 5 (.int .u8 0) 1 rfl Try.underlying25 info5 rfl (by decide) (by omega) _ out [(xs.length : Int), 0] _ _ _ (fun _ => True) (fun _ => False) rfl (by first | rfl | (go_simp; rfl)) (Kd.R_alloc HO.out _) (lit_reads w [(xs.length : Int), 0] (by simp)) (fun _ _ h => h) (fun _ h => h.elim) (fun _ _ => trivial) ((Below.refl base w).alloc Hb.out _) (by have := Hb.out; simp; omega) (by simp; omega) ?_; intro v1 w1 h1 hb1 _ _; obtain ⟨A1, c1, rfl, _, _⟩ := Kd.R_reads h1; rw [HL1.out] at h1; have H1 := Aside0.mk h1; have HB1 := Aside0.mk hb1; clear h1 hb1)
    | ((with_reducible refine gate_builtin (b := .append) (xs := #[.tmp 19, .tmp 20]) rfl ?_); at_builtin; refine Kd.R_append_rows (Kd.int .u8) (w0 := w) base rfl (.tmp 19) (.tmp 20) 25 5 (.int .u8 0) 1 rfl Try.underlying25 info5 rfl (by decide) (by omega) _ (out ++ [(xs.length : Int), 0]) xs _ _ _ (fun _ => True) (fun _ => False) rfl rfl H1.out (HR.out _ HB1.out) (fun _ _ h => h) (fun _ h => h.elim) (fun _ _ => trivial) HB1.out (by have := Hb.out; have := HB1.out.size; omega) (by simp; omega) ?_; intro v2 w2 h2 hb2 _ _; obtain ⟨g2, c2, rfl, hg2, hg3, _⟩ := Kd.R_form h2 (by rw [HL2.out]; omega); rw [HL2.out] at h2; rw [List.append_assoc] at h2; obtain ⟨ht2, hcne⟩ := tail_reads (out := out) (t := headOf xs false) h2 (by simp [headOf]); have HT := Aside0.mk ht2; have H2 := Aside0.mk h2; clear ht2; have HB2 := Aside0.mk hb2; clear h2 hb2)
    | (go_at_call 89; refine (sums_calls (some ⟨g2, out.length, none⟩) _ (headOf xs false) _ HT.out ?_ ?_).mono ?_; (simp [headOf]; omega); (exact HH.out); rintro e w3 ⟨rfl, hb3⟩; have HB3 := Aside0.mk (below_then HB2.out (Nat.le_trans hg2 (Nat.le_of_lt hg3)) hb3); have hsz3 := Nat.le_trans (Nat.le_trans hg2 (Nat.le_of_lt hg3)) hb3.size; have h3 := Kd.R_below H2.out hb3; rw [HL3.out] at h3; have H3 := Aside0.mk h3; clear h3; clear hb3)
    | ((with_reducible refine gate_builtin (b := .append) (xs := #[.tmp 26, .tmp 27]) rfl ?_); at_builtin; refine Kd.R_append_rows (Kd.int .u8) (w0 := w) base rfl (.tmp 26) (.tmp 27) 25 5 (.int .u8 0) 1 rfl Try.underlying25 info5 rfl (by decide) (by omega) _ (out ++ headOf xs false) [(sumsOf (headOf xs false)).1, (sumsOf (headOf xs false)).2] _ _ _ (fun _ => True) (fun _ => False) rfl (by first | rfl | (go_simp; rfl)) (Kd.R_alloc H3.out _) (two_reads (heap_alloc_new _ _)) (fun _ _ h => h) (fun _ h => h.elim) (fun _ _ => trivial) (HB3.out.alloc hsz3 _) (by simp; omega) (by simp [headOf]; omega) ?_; intro v4 w4 h4 hb4 _ _; have H4 := Aside0.mk h4; have HB4 := Aside0.mk hb4; clear h4 hb4))
  go_ret
  exact ⟨_, rfl, by have h := H4.out; rw [List.append_assoc] at h; exact h, HB4.out⟩

theorem frame_calls (w : World) (base : Nat) (v : Value) (out xs : List Int) (A : Option Addr) (c : Nat) (last : Bool) (HO0 : (Kd.int .u8).R 5 w base (fun _ => True) v out) (hb : base ≤ w.heap.size) (hr : ∀ W', Below base w W' → (Kd.int .u8).C W' A xs.length xs) (hx : ∀ x ∈ xs, 0 ≤ x ∧ x < 256) (hl : xs.length ≤ 255) (ho : out.length ≤ 100000) :
    Calls Try.prog 74 #[v, .slice A xs.length c, .bool last] w fun e w' => ∃ v', e = .returned v' ∧ (Kd.int .u8).R 5 w' base (fun _ => True) v' (out ++ frameOf xs last) ∧ Below base w w' := by
  cases last with
  | true => exact frame_last w base v out xs A c HO0 hb hr hx hl ho
  | false => exact frame_more w base v out xs A c HO0 hb hr hx hl ho

/-- A batch's bytes. -/
def ofGo : List (List Int) → List Int
  | [] => []
  | x :: l => frameOf x l.isEmpty ++ ofGo l
theorem frameOf_length (xs : List Int) (last : Bool) : (frameOf xs last).length = xs.length + 4 := by simp [frameOf, headOf]
/-- Records that are bytes, and short. -/
def Fit (l : List (List Int)) : Prop := ∀ x ∈ l, x.length ≤ 255 ∧ ∀ y ∈ x, 0 ≤ y ∧ y < 256

set_option maxRecDepth 100000 in
set_option maxHeartbeats 4000000 in
theorem Of_calls (A0 : Option Addr) (c0 : Nat) (l : List (List Int)) (w : World) (hr : Kd.C (Kd.slice 5 (Kd.int .u8)) w A0 l.length l) (hl : l.length ≤ 100) (hf : Fit l) :
    Calls Try.prog 62 #[.slice A0 l.length c0] w fun e w' => ∃ v, e = .returned v ∧ (Kd.int .u8).R 5 w' w.heap.size (fun _ => True) v (ofGo l) ∧ Below w.heap.size w w' := by
  have HR := Aside0.mk hr
  have HF := Aside0.mk hf
  generalize hR : ofGo l = R
  have HRun := Aside0.mk hR
  clear hr hR hf
  go_enter Try.func62, Try.ntmps62
  go_wp2
  go_loopg [3, 8] (l.length) (fun kq v3 v8 wr => ∃ (i : Nat) (os : List Int), v8 = .int .i64 i ∧ Aside0 (kq + i = l.length) ∧ Aside0 (os.length ≤ 259 * i) ∧ Aside0 (os ++ ofGo (l.drop i) = R) ∧ Aside0 ((Kd.int .u8).R 5 wr w.heap.size (fun _ => True) v3 os) ∧ Aside0 (Below w.heap.size w wr))
  case atStart => exact ⟨0, [], rfl, ⟨by omega⟩, ⟨Nat.le_refl 0⟩, HRun, ⟨Kd.R_nil _ _ _ _ _⟩, ⟨Below.refl _ _⟩⟩
  case round =>
    obtain ⟨i, os, rfl, hK, hLen, hRi, hOs, hBel⟩ := hrel
    by_cases hlt : i < l.length
    · obtain ⟨ad, A1, c1, rfl, hx00, hl1, hrd1⟩ := at_L1 HR.out (i : Int) (by omega) (by omega)
      have hx0 := pw_cell_below hBel.out hx00
      have hel : rd_L1 l (i : Int) = l[i] := by simp [rd_L1, List.getD_eq_getElem?_getD, hlt]
      rw [hel] at hx0 hl1 hrd1
      rw [Int.toNat_natCast] at hx0
      have hfit := HF.out _ (List.getElem_mem hlt)
      have hRi' := hRi.out
      rw [List.drop_eq_getElem_cons hlt, ofGo] at hRi'
      have hE : (l.drop (i + 1)).isEmpty = decide (i + 1 = l.length) := by
        by_cases h : i + 1 = l.length
        · rw [decide_eq_true h, List.drop_of_length_le (by omega)]; rfl
        · rw [decide_eq_false h]
          cases hd : l.drop (i + 1) with
          | nil => have := congrArg List.length hd; rw [List.length_drop] at this; simp at this; omega
          | cons _ _ => rfl
      rw [hE] at hRi'
      generalize l[i] = x at *
      have HRd := Aside0.mk hrd1
      have HFit := Aside0.mk hfit
      have hos := hLen.out
      clear hel hRi hE hx00 hfit hrd1
      have HFr := fun (b : Bool) => Aside0.mk (frame_calls wr w.heap.size u3 os x A1 c1 b hOs.out hBel.out.size (fun W' hW => Kd.C_below HRd.out (hBel.out.trans hW)) HFit.out.2 HFit.out.1 (by omega))
      by_cases hlast : i + 1 = l.length
      · rw [decide_eq_true hlast] at hRi'
        have hb1 : ((i : Int) == (l.length : Int) - 1) = true := beq_iff_eq.mpr (by omega)
        have HRi := Aside0.mk (show (os ++ frameOf x true) ++ ofGo (l.drop (i + 1)) = R by rw [List.append_assoc]; exact hRi')
        have HOL := Aside0.mk (show (os ++ frameOf x true).length ≤ 259 * (i + 1) by rw [List.length_append, frameOf_length]; have := HFit.out.1; omega)
        clear hRi'
        go_wp2_with (go_at_call 74; refine (HFr true).out.mono ?_; rintro e w3 ⟨v3, rfl, h3, hb3⟩; have H3 := Aside0.mk h3; have HB3 := Aside0.mk (hBel.out.trans hb3); clear h3 hb3)
        go_roundg (l.length - (i + 1))
        case measure => have := hK.out; omega
        case rel => exact ⟨i + 1, _, by go_num, ⟨by omega⟩, HOL, HRi, H3, HB3⟩
      · rw [decide_eq_false hlast] at hRi'
        have hb1 : ((i : Int) == (l.length : Int) - 1) = false := beq_eq_false_iff_ne.mpr (by omega)
        have HRi := Aside0.mk (show (os ++ frameOf x false) ++ ofGo (l.drop (i + 1)) = R by rw [List.append_assoc]; exact hRi')
        have HOL := Aside0.mk (show (os ++ frameOf x false).length ≤ 259 * (i + 1) by rw [List.length_append, frameOf_length]; have := HFit.out.1; omega)
        clear hRi'
        go_wp2_with (go_at_call 74; refine (HFr false).out.mono ?_; rintro e w3 ⟨v3, rfl, h3, hb3⟩; have H3 := Aside0.mk h3; have HB3 := Aside0.mk (hBel.out.trans hb3); clear h3 hb3)
        go_roundg (l.length - (i + 1))
        case measure => have := hK.out; omega
        case rel => exact ⟨i + 1, _, by go_num, ⟨by omega⟩, HOL, HRi, H3, HB3⟩
    · have HT := Aside0.mk (show os = R by have h := hRi.out; rw [List.drop_of_length_le (by omega), ofGo, List.append_nil] at h; exact h)
      go_wp2
      go_ret
      exact ⟨_, rfl, by rw [← HT.out]; exact hOs.out, hBel.out⟩

end Go.Proofs.Ytmfkgbncnaingaa.Wal
end

section
/- What wal.Pack comes to. -/
namespace Go.Proofs.Ytmfkgbncnaingaa.Wal
open Go.RowKit Go.Proofs.Ytmfkgbncnaingaa.QWal Go.Proofs.YtmfkgbncnaingaaW.PrintWords Go.Proofs.YtmfkgbncnaingaaW.PrintLast Go.Proofs.YtmfkgbncnaingaaW.PrintMore

theorem Pack_bad (A0 : Option Addr) (c0 : Nat) (l : List (List Int)) (w : World) (hr : Kd.C (Kd.slice 5 (Kd.int .u8)) w A0 l.length l) (hb : l.length < 1 ∨ 60 < l.length ∨ mayAll l = false) :
    Calls Try.prog 37 #[.slice A0 l.length c0] w fun e w' => e = .returned (.tuple #[.slice none 0 0, .int .i64 1]) ∧ w = w' := by
  have HR := Aside0.mk hr
  clear hr
  by_cases h1 : l.length < 1
  · have hb1 : decide ((l.length : Int) < 1) = true := decide_eq_true (by omega)
    clear hb h1
    go_enter Try.func37, Try.ntmps37
    go_wp2
    go_ret2
    exact ⟨rfl, rfl⟩
  · have hb1 : decide ((l.length : Int) < 1) = false := decide_eq_false (by omega)
    by_cases h2 : 60 < l.length
    · have hb2 : decide ((60 : Int) < (l.length : Int)) = true := decide_eq_true (by omega)
      clear hb h1 h2
      go_enter Try.func37, Try.ntmps37
      go_wp2
      go_ret2
      exact ⟨rfl, rfl⟩
    · have hb2 : decide ((60 : Int) < (l.length : Int)) = false := decide_eq_false (by omega)
      have hm : mayAll l = false := by rcases hb with h | h | h; exact absurd h h1; exact absurd h h2; exact h
      have HC := fun w h => Aside0.mk (Contains_calls A0 c0 l w h (by omega))
      rw [hm] at HC
      clear hb h1 h2 hm
      go_enter Try.func37, Try.ntmps37
      go_wp2_with (go_at_call 61; refine (HC _ HR.out).out.mono ?_; rintro e w' ⟨rfl, rfl⟩)
      go_ret2
      exact ⟨rfl, rfl⟩

theorem Pack_good (A0 : Option Addr) (c0 : Nat) (l : List (List Int)) (w : World) (hr : Kd.C (Kd.slice 5 (Kd.int .u8)) w A0 l.length l) (h1 : 1 ≤ l.length) (h2 : l.length ≤ 60) (hm : mayAll l = true) (hf : Fit l) :
    Calls Try.prog 37 #[.slice A0 l.length c0] w fun e w' => ∃ v, e = .returned (.tuple #[v, .int .i64 0]) ∧ (Kd.int .u8).R 5 w' w.heap.size (fun _ => True) v (ofGo l) ∧ Below w.heap.size w w' := by
  have HR := Aside0.mk hr
  have hb1 : decide ((l.length : Int) < 1) = false := decide_eq_false (by omega)
  have hb2 : decide ((60 : Int) < (l.length : Int)) = false := decide_eq_false (by omega)
  have HC := fun w h => Aside0.mk (Contains_calls A0 c0 l w h (by omega))
  rw [hm] at HC
  have HOf := fun w h => Aside0.mk (Of_calls A0 c0 l w h (by omega) hf)
  clear hr h1 h2 hm hf
  go_enter Try.func37, Try.ntmps37
  go_wp2_with (first | (go_at_call 61; refine (HC _ HR.out).out.mono ?_; rintro e w' ⟨rfl, rfl⟩) | (go_at_call 62; refine (HOf _ HR.out).out.mono ?_; rintro e w3 ⟨v, rfl, hv, hB⟩; have HV := Aside0.mk hv; have HB := Aside0.mk hB; clear hv hB))
  go_ret2
  exact ⟨_, rfl, HV.out, HB.out⟩

end Go.Proofs.Ytmfkgbncnaingaa.Wal
namespace Go.Proofs.Ytmfkgbncnaingaa.QWal
open Go.RowKit Go.Proofs.Ytmfkgbncnaingaa.Wal Go.Proofs.YtmfkgbncnaingaaW.PrintWords Go.Proofs.YtmfkgbncnaingaaW.PrintLast Go.Proofs.YtmfkgbncnaingaaW.PrintMore

/-- Are all of them bytes? -/
def bytesIn (l : List Int) : Bool := l.all fun x => decide (0 ≤ x) && decide (x < 256)
theorem bytesIn_iff (l : List Int) : bytesIn l = true ↔ ∀ x ∈ l, 0 ≤ x ∧ x < 256 := by simp [bytesIn]
def fitIn (l : List (List Int)) : Bool := l.all fun x => decide (x.length ≤ 255) && bytesIn x
theorem fitIn_iff (l : List (List Int)) : fitIn l = true ↔ Fit l := by simp [fitIn, Fit, bytesIn_iff]
def wal_Pack.f (l : List (List Int)) : Option (List Int × Int) :=
  if l.length < 1 ∨ 60 < l.length ∨ mayAll l = false then some ([], 1) else if fitIn l = true then some (ofGo l, 0) else none
theorem wal_Pack.calls (A0 : Option Addr) (c0 : Nat) (l0 : List (List Int)) (r1 : List Int) (r2 : Int) (w : World) (hr0 : Kd.C (Kd.slice 5 (Kd.int .u8)) w A0 l0.length l0) (_hc0 : l0.length ≤ c0) (h : wal_Pack.f l0 = some (r1, r2)) :
    Calls Try.prog 37 #[.slice A0 l0.length c0] w fun e w' => ∃ v0_ : Value, e = .returned (.tuple #[v0_, .int .i64 r2]) ∧ Kd.R (Kd.int .u8) 5 w' w.heap.size (fun _ => True) v0_ r1 ∧ Below w.heap.size w w' := by
  unfold wal_Pack.f at h
  by_cases hb : l0.length < 1 ∨ 60 < l0.length ∨ mayAll l0 = false
  · rw [if_pos hb] at h
    simp only [Option.some.injEq, Prod.mk.injEq] at h
    obtain ⟨rfl, rfl⟩ := h
    refine (Pack_bad A0 c0 l0 w hr0 hb).mono ?_
    rintro e w' ⟨rfl, rfl⟩
    exact ⟨_, rfl, Kd.R_nil _ _ _ _ _, Below.refl _ _⟩
  · rw [if_neg hb] at h
    by_cases hf : fitIn l0 = true
    · rw [if_pos hf] at h
      simp only [Option.some.injEq, Prod.mk.injEq] at h
      obtain ⟨rfl, rfl⟩ := h
      exact Pack_good A0 c0 l0 w hr0 (by omega) (by omega) (by cases hm : mayAll l0; exact absurd (Or.inr (Or.inr hm)) hb; rfl) ((fitIn_iff l0).1 hf)
    · rw [if_neg hf] at h; cases h

end Go.Proofs.Ytmfkgbncnaingaa.QWal
end

section
/- The first frame of bytes. -/
namespace Go.Proofs.Ytmfkgbncnaingaa.Wal
open Go.RowKit Go.Proofs.Ytmfkgbncnaingaa.QWal Go.Proofs.YtmfkgbncnaingaaW.PrintWords Go.Proofs.YtmfkgbncnaingaaW.PrintLast Go.Proofs.YtmfkgbncnaingaaW.PrintMore

/-- Two pairs of bytes, compared. -/
theorem eq2 (W : World) (s1 s2 y0 y1 : Int) : Sem.run Try.prog (Op.equalIn 10000 135 (.agg #[.int .u8 s1, .int .u8 s2]) (.agg #[.int .u8 y0, .int .u8 y1])) W = .ok (s1 == y0 && s2 == y1) W := by
  have h1 := fun d a b W => run_equalIn_int (P := Try.prog) W d 5 .u8 .u8 a b Try.underlying5
  have h5 := Try.sizeOf5
  have ha := Try.isAgg5
  rw [show (10000 : Nat) = 9998 + 1 + 1 from rfl]
  unfold Op.equalIn
  simp [run_underlying Try.underlying135, h5, part, ha, Std.Legacy.Range.forIn_eq_forIn_range', List.range', Std.Legacy.Range.size, h1]
  by_cases h : s1 = y0
  · by_cases h2 : s2 = y1
    · simp [h, h2]
    · simp [h, h2]
  · simp [h]

theorem below_undrew {w w3 : World} (h : Below w.drew.heap.size w.drew w3) : Below w.heap.size w w3 := ⟨h.os, h.tape, h.output, h.size, h.block⟩

/-- Is the beginning no frame's, by its first two bytes? -/
def noHead (b : List Int) : Prop := b.length < 2 ∨ rd b 0 < 1 ∨ 60 < rd b 0 ∨ 1 < rd b 1
/-- Behind how many bytes the sums stand. -/
def wide (b : List Int) : Nat := 2 + (rd b 0).toNat
/-- The first frame is not there, or not as it must be. -/
def noSums (b : List Int) : Prop := b.length < wide b + 2 ∨ sumsOf (b.take (wide b)) ≠ (rd b (wide b), rd b ((wide b : Int) + 1))

set_option maxRecDepth 100000 in
set_option maxHeartbeats 4000000 in
theorem first_head (A : Option Addr) (c : Nat) (b : List Int) (w : World) (hr : Kd.C (Kd.int .u8) w A b.length b) (h : noHead b) :
    Calls Try.prog 72 #[.slice A b.length c] w fun e w' => e = .returned (.tuple #[.slice none 0 0, .bool false, .int .i64 0]) ∧ w = w' := by
  by_cases h0 : b.length < 2
  · have hb0 : decide ((b.length : Int) < 2) = true := decide_eq_true (by omega)
    clear h hr
    go_enter Try.func72, Try.ntmps72
    go_wp2
    go_ret3
    exact ⟨rfl, rfl⟩
  · have hb0 : decide ((b.length : Int) < 2) = false := decide_eq_false (by omega)
    obtain ⟨ad, rfl, hx0⟩ := Kd.at_int hr 0 (by omega) (by omega)
    obtain ⟨ad', e, hx1⟩ := Kd.at_int hr 1 (by omega) (by omega)
    injection e with e
    subst e
    have hx0' : w.cell? ad = some (.int .u8 (rd b 0)) := by rw [← hx0]; simp [Addr.add]
    have hx1' : w.cell? ⟨ad.block, ad.off + 1, none⟩ = some (.int .u8 (rd b 1)) := by rw [← hx1]; simp [Addr.add]
    have hl0 : (0 : Int) < (b.length : Int) := by omega
    have hl1 : (1 : Int) < (b.length : Int) := by omega
    unfold noHead at h
    clear hr hx0 hx1
    generalize rd b 0 = x0 at *
    generalize rd b 1 = x1 at *
    by_cases h1 : x0 < 1
    · have hb1 := decide_eq_true h1
      clear h h1 h0
      go_enter Try.func72, Try.ntmps72
      go_wp2
      go_ret3
      exact ⟨rfl, rfl⟩
    · have hb1 := decide_eq_false h1
      by_cases h2 : 60 < x0
      · have hb2 := decide_eq_true h2
        clear h h1 h0 h2
        go_enter Try.func72, Try.ntmps72
        go_wp2
        go_ret3
        exact ⟨rfl, rfl⟩
      · have hb2 := decide_eq_false h2
        have hb3 := decide_eq_true (show 1 < x1 by rcases h with h | h | h | h; exact absurd h h0; exact absurd h h1; exact absurd h h2; exact h)
        clear h h1 h0 h2
        go_enter Try.func72, Try.ntmps72
        go_wp2
        go_ret3
        exact ⟨rfl, rfl⟩

set_option maxRecDepth 100000 in
set_option maxHeartbeats 4000000 in
theorem first_short (A : Option Addr) (c : Nat) (b : List Int) (w : World) (hr : Kd.C (Kd.int .u8) w A b.length b) (h : ¬ noHead b) (hs : b.length < wide b + 2) :
    Calls Try.prog 72 #[.slice A b.length c] w fun e w' => e = .returned (.tuple #[.slice none 0 0, .bool false, .int .i64 0]) ∧ Below w.heap.size w w' := by
  unfold noHead at h
  unfold wide at hs
  obtain ⟨ad, rfl, hx0⟩ := Kd.at_int hr 0 (by omega) (by omega)
  obtain ⟨ad', e, hx1⟩ := Kd.at_int hr 1 (by omega) (by omega)
  injection e with e
  subst e
  have hx0' : w.cell? ad = some (.int .u8 (rd b 0)) := by rw [← hx0]; simp [Addr.add]
  have hx1' : w.cell? ⟨ad.block, ad.off + 1, none⟩ = some (.int .u8 (rd b 1)) := by rw [← hx1]; simp [Addr.add]
  have hl0 : (0 : Int) < (b.length : Int) := by omega
  have hl1 : (1 : Int) < (b.length : Int) := by omega
  have hb0 : decide ((b.length : Int) < 2) = false := decide_eq_false (by omega)
  clear hr hx0 hx1
  generalize rd b 0 = x0 at *
  generalize rd b 1 = x1 at *
  have hb1 : decide (x0 < 1) = false := decide_eq_false (by omega)
  have hb2 : decide (60 < x0) = false := decide_eq_false (by omega)
  have hb3 : decide (1 < x1) = false := decide_eq_false (by omega)
  have hb4 : decide ((b.length : Int) < 2 + x0 + 2) = true := decide_eq_true (by omega)
  have h5 : 1 ≤ x0 := by omega
  have h6 : x0 ≤ 60 := by omega
  clear h hs
  go_enter Try.func72, Try.ntmps72
  go_wp2
  go_quiet (fail)
  go_wp2
  go_ret3
  exact ⟨rfl, pw_below_drewN (Below.refl _ _) _⟩

set_option maxRecDepth 100000 in
set_option maxHeartbeats 4000000 in
theorem first_sums (A : Option Addr) (c : Nat) (b : List Int) (w : World) (hr : Kd.C (Kd.int .u8) w A b.length b) (hc : b.length ≤ c) (h : ¬ noHead b) (hs : ¬ b.length < wide b + 2) (hx : ∀ x ∈ b, 0 ≤ x ∧ x < 256) (hbl0 : b.length ≤ 100000) (hn : sumsOf (b.take (wide b)) ≠ (rd b (wide b), rd b ((wide b : Int) + 1))) :
    Calls Try.prog 72 #[.slice A b.length c] w fun e w' => e = .returned (.tuple #[.slice none 0 0, .bool false, .int .i64 0]) ∧ Below w.heap.size w w' := by
  have hr0 := hr
  unfold noHead at h
  have hwd : (wide b : Int) = 2 + rd b 0 := by unfold wide; omega
  have hk1 : 3 ≤ wide b := by omega
  obtain ⟨ad, rfl, hx0⟩ := Kd.at_int hr 0 (by omega) (by omega)
  obtain ⟨ad', e, hx1⟩ := Kd.at_int hr 1 (by omega) (by omega)
  injection e with e
  subst e
  obtain ⟨ad', e, hy0⟩ := Kd.at_int hr (wide b) (by omega) (by omega)
  injection e with e
  subst e
  obtain ⟨ad', e, hy1⟩ := Kd.at_int hr ((wide b : Int) + 1) (by omega) (by omega)
  injection e with e
  subst e
  have hx0' : w.cell? ad = some (.int .u8 (rd b 0)) := by rw [← hx0]; simp [Addr.add]
  have hx1' : w.cell? ⟨ad.block, ad.off + 1, none⟩ = some (.int .u8 (rd b 1)) := by rw [← hx1]; simp [Addr.add]
  have hl0 : (0 : Int) < (b.length : Int) := by omega
  have hl1 : (1 : Int) < (b.length : Int) := by omega
  have hb0 : decide ((b.length : Int) < 2) = false := decide_eq_false (by omega)
  have hb1 : decide (rd b 0 < 1) = false := decide_eq_false (by omega)
  have hb2 : decide (60 < rd b 0) = false := decide_eq_false (by omega)
  have hb3 : decide (1 < rd b 1) = false := decide_eq_false (by omega)
  have hb4 : decide ((b.length : Int) < (wide b : Int) + 2) = false := decide_eq_false (by omega)
  have h5 : 1 ≤ rd b 0 := by omega
  have h6 : rd b 0 ≤ 60 := by omega
  rw [Int.toNat_natCast] at hy0
  rw [show ((wide b : Int) + 1).toNat = wide b + 1 by omega] at hy1
  generalize rd b 0 = x0 at *
  generalize rd b 1 = x1 at *
  generalize rd b (wide b) = y0 at *
  generalize rd b ((wide b : Int) + 1) = y1 at *
  have hkk : 2 + x0 = (wide b : Int) := hwd.symm
  have hlk : (wide b : Int) ≤ (b.length : Int) := by omega
  have hlk2 : (wide b : Int) + 2 ≤ (c : Int) := by omega
  generalize wide b = k at *
  have hy1' : w.cell? ⟨(ad.add k).block, (ad.add k).off + 1, none⟩ = some (.int .u8 y1) := by rw [← add_field ad k 1 (by omega)]; exact hy1
  have hcne : (c = k) = False := eq_false (by omega)
  have hlen : (b.take k).length = k := by rw [List.length_take]; omega
  have hbl : b.length ≤ 100000 := hbl0
  have HS := fun w' (h : Kd.C (Kd.int .u8) w' (some ad) b.length b) => Aside0.mk (by have h2 := sums_calls (some ad) c (b.take k) w' (Kd.C_take h (by omega)) (by omega) (fun x h => hx x (List.mem_of_mem_take h)); rw [hlen] at h2; exact h2 : Calls Try.prog 89 #[.slice (some ad) k c] w' fun e w'' => e = .returned (.agg #[.int .u8 (sumsOf (b.take k)).1, .int .u8 (sumsOf (b.take k)).2]) ∧ Below w'.heap.size w' w'')
  have hkc : (k : Int) ≤ (c : Int) := by omega
  have harr : ∀ W, Sem.run Try.prog (Instr.arrayAt 135 (.slice (some (ad.add k)) 2 (c - k))) W = .ok (.pointer (some (ad.add k))) W := fun W => by
    simp [Instr.arrayAt, run_underlying Try.underlying135]
  have hk2 : (k : Int) ≤ (k : Int) + 2 := by omega
  have htn : ((k : Int) + 2).toNat - k = 2 := by omega
  have harr2 : ∀ W, Sem.run Try.prog (Instr.arrayAt 135 (.slice (some (ad.add k)) (((k : Int) + 2).toNat - k) (c - k))) W = .ok (.pointer (some (ad.add k))) W := fun W => by rw [htn]; exact harr W
  have heq : ∀ W, Sem.run Try.prog (Op.equalIn 10000 135 (.agg #[.int .u8 (sumsOf (b.take k)).1, .int .u8 (sumsOf (b.take k)).2]) (.agg #[.int .u8 y0, .int .u8 y1])) W = .ok false W := fun W => by
    rw [eq2]
    congr 1
    by_cases h1 : (sumsOf (b.take k)).1 = y0
    · by_cases h2 : (sumsOf (b.take k)).2 = y1
      · exact absurd (Prod.ext h1 h2) hn
      · simp [h2]
    · simp [h1]
  have hwk : IntKind.i64.wrap ((k : Int) + 2) = (k : Int) + 2 := IntWalk.i64_in _ (by omega)
  generalize sumsOf (b.take k) = sm at *
  obtain ⟨s1, s2⟩ := sm
  have HR := Aside0.mk (Kd.C_drew hr0)
  clear h hx0 hx1 hs hwd hr hr0 hx hlen hbl
  go_enter Try.func72, Try.ntmps72
  go_wp2
  go_region_held3 (fun x => x.cell? (ad.add k) = some (.int .u8 y0) ∧ x.cell? ⟨(ad.add k).block, (ad.add k).off + 1, none⟩ = some (.int .u8 y1)) (first | exact ⟨hy0, hy1'⟩ | exact hk.out) (first | (go_at_call 89; refine (HS _ HR.out).out.mono ?_; rintro e w3 ⟨rfl, hb⟩; have hk := Aside0.mk (And.intro (pw_cell_below hb hy0) (pw_cell_below hb hy1')); have HB := Aside0.mk hb; clear hb))
  all_goals
    go_wp2
    go_ret3
    exact ⟨rfl, below_undrew HB.out⟩

set_option maxRecDepth 100000 in
set_option maxHeartbeats 4000000 in
theorem first_ok (A : Option Addr) (c : Nat) (b : List Int) (w : World) (hr : Kd.C (Kd.int .u8) w A b.length b) (hc : b.length ≤ c) (h : ¬ noHead b) (hs : ¬ b.length < wide b + 2) (hx : ∀ x ∈ b, 0 ≤ x ∧ x < 256) (hbl0 : b.length ≤ 100000) (hn : sumsOf (b.take (wide b)) = (rd b (wide b), rd b ((wide b : Int) + 1))) :
    Calls Try.prog 72 #[.slice A b.length c] w fun e w' => ∃ A', e = .returned (.tuple #[.slice A' (wide b - 2) (wide b - 2), .bool (rd b 1 == 1), .int .i64 ((wide b : Int) + 2)]) ∧ (Kd.int .u8).C w A' (wide b - 2) ((b.take (wide b)).drop 2) ∧ Below w.heap.size w w' := by
  have hr0 := hr
  unfold noHead at h
  have hwd : (wide b : Int) = 2 + rd b 0 := by unfold wide; omega
  have hk1 : 3 ≤ wide b := by omega
  obtain ⟨ad, rfl, hx0⟩ := Kd.at_int hr 0 (by omega) (by omega)
  obtain ⟨ad', e, hx1⟩ := Kd.at_int hr 1 (by omega) (by omega)
  injection e with e
  subst e
  obtain ⟨ad', e, hy0⟩ := Kd.at_int hr (wide b) (by omega) (by omega)
  injection e with e
  subst e
  obtain ⟨ad', e, hy1⟩ := Kd.at_int hr ((wide b : Int) + 1) (by omega) (by omega)
  injection e with e
  subst e
  have hx0' : w.cell? ad = some (.int .u8 (rd b 0)) := by rw [← hx0]; simp [Addr.add]
  have hx1' : w.cell? ⟨ad.block, ad.off + 1, none⟩ = some (.int .u8 (rd b 1)) := by rw [← hx1]; simp [Addr.add]
  have hl0 : (0 : Int) < (b.length : Int) := by omega
  have hl1 : (1 : Int) < (b.length : Int) := by omega
  have hb0 : decide ((b.length : Int) < 2) = false := decide_eq_false (by omega)
  have hb1 : decide (rd b 0 < 1) = false := decide_eq_false (by omega)
  have hb2 : decide (60 < rd b 0) = false := decide_eq_false (by omega)
  have hb3 : decide (1 < rd b 1) = false := decide_eq_false (by omega)
  have hb4 : decide ((b.length : Int) < (wide b : Int) + 2) = false := decide_eq_false (by omega)
  have h5 : 1 ≤ rd b 0 := by omega
  have h6 : rd b 0 ≤ 60 := by omega
  rw [Int.toNat_natCast] at hy0
  rw [show ((wide b : Int) + 1).toNat = wide b + 1 by omega] at hy1
  generalize rd b 0 = x0 at *
  generalize rd b 1 = x1 at *
  generalize rd b (wide b) = y0 at *
  generalize rd b ((wide b : Int) + 1) = y1 at *
  have hkk : 2 + x0 = (wide b : Int) := hwd.symm
  have hlk : (wide b : Int) ≤ (b.length : Int) := by omega
  have hlk2 : (wide b : Int) + 2 ≤ (c : Int) := by omega
  generalize wide b = k at *
  have hy1' : w.cell? ⟨(ad.add k).block, (ad.add k).off + 1, none⟩ = some (.int .u8 y1) := by rw [← add_field ad k 1 (by omega)]; exact hy1
  have hcne : (c = k) = False := eq_false (by omega)
  have hlen : (b.take k).length = k := by rw [List.length_take]; omega
  have hbl : b.length ≤ 100000 := hbl0
  have HS := fun w' (h : Kd.C (Kd.int .u8) w' (some ad) b.length b) => Aside0.mk (by have h2 := sums_calls (some ad) c (b.take k) w' (Kd.C_take h (by omega)) (by omega) (fun x h => hx x (List.mem_of_mem_take h)); rw [hlen] at h2; exact h2 : Calls Try.prog 89 #[.slice (some ad) k c] w' fun e w'' => e = .returned (.agg #[.int .u8 (sumsOf (b.take k)).1, .int .u8 (sumsOf (b.take k)).2]) ∧ Below w'.heap.size w' w'')
  have hkc : (k : Int) ≤ (c : Int) := by omega
  have harr : ∀ W, Sem.run Try.prog (Instr.arrayAt 135 (.slice (some (ad.add k)) 2 (c - k))) W = .ok (.pointer (some (ad.add k))) W := fun W => by
    simp [Instr.arrayAt, run_underlying Try.underlying135]
  have hk2 : (k : Int) ≤ (k : Int) + 2 := by omega
  have htn : ((k : Int) + 2).toNat - k = 2 := by omega
  have harr2 : ∀ W, Sem.run Try.prog (Instr.arrayAt 135 (.slice (some (ad.add k)) (((k : Int) + 2).toNat - k) (c - k))) W = .ok (.pointer (some (ad.add k))) W := fun W => by rw [htn]; exact harr W
  have heq : ∀ W, Sem.run Try.prog (Op.equalIn 10000 135 (.agg #[.int .u8 (sumsOf (b.take k)).1, .int .u8 (sumsOf (b.take k)).2]) (.agg #[.int .u8 y0, .int .u8 y1])) W = .ok true W := fun W => by
    rw [eq2, hn]; simp
  have hk3 : (2 : Int) ≤ (k : Int) := by omega
  have hk4 : (k = 2) = False := eq_false (by omega)
  have HC2 := Aside0.mk (show Kd.C (Kd.int .u8) w (some ⟨ad.block, ad.off + 2, none⟩) (k - 2) ((b.take k).drop 2) by
    have h1 := Kd.C_drop (c := k) (m := 2) (Kd.C_take hr0 (show k ≤ b.length by omega)) (by rw [List.length_take]; omega) (by rw [List.length_take]; omega)
    rw [if_neg (show ¬ k = 2 by omega), List.length_drop, List.length_take, Nat.min_eq_left (by omega)] at h1
    have h2 : (some ad : Option Addr).map (·.add (2 * (Kd.int .u8).sz)) = some ⟨ad.block, ad.off + 2, none⟩ := by
      show some (ad.add 2) = _
      simp [Addr.add]
    rw [h2] at h1
    exact h1)
  have hwk : IntKind.i64.wrap ((k : Int) + 2) = (k : Int) + 2 := IntWalk.i64_in _ (by omega)
  generalize sumsOf (b.take k) = sm at *
  obtain ⟨s1, s2⟩ := sm
  have HR := Aside0.mk (Kd.C_drew hr0)
  clear h hx0 hx1 hs hwd hr hr0 hx hlen hbl
  go_enter Try.func72, Try.ntmps72
  go_wp2
  go_region_held3 (fun x => x.cell? (ad.add k) = some (.int .u8 y0) ∧ x.cell? ⟨(ad.add k).block, (ad.add k).off + 1, none⟩ = some (.int .u8 y1)) (first | exact ⟨hy0, hy1'⟩ | exact hk.out) (first | (go_at_call 89; refine (HS _ HR.out).out.mono ?_; rintro e w3 ⟨rfl, hb⟩; have hk := Aside0.mk (And.intro (pw_cell_below hb hy0) (pw_cell_below hb hy1')); have HB := Aside0.mk hb; have h13 := pw_cell_below hb hx1'; clear hb))
  all_goals
    go_wp2
    go_quiet (fail)
    go_wp2
    go_ret3
    exact ⟨_, rfl, HC2.out, pw_below_drewN (below_undrew HB.out) _⟩

end Go.Proofs.Ytmfkgbncnaingaa.Wal
end

section
/- Reading batches. -/
namespace Go.Proofs.Ytmfkgbncnaingaa.Wal
open Go.RowKit Go.Proofs.Ytmfkgbncnaingaa.QWal Go.Proofs.YtmfkgbncnaingaaW.PrintWords Go.Proofs.YtmfkgbncnaingaaW.PrintLast Go.Proofs.YtmfkgbncnaingaaW.PrintMore

instance (b : List Int) : Decidable (noHead b) := by unfold noHead; infer_instance
instance (b : List Int) : Decidable (noSums b) := by unfold noSums; infer_instance
/-- The first frame: its record, whether it is the last one, how many bytes it has. -/
def firstOf (b : List Int) : Option (List Int × Bool × Nat) :=
  if noHead b then none else if noSums b then none else some ((b.take (wide b)).drop 2, rd b 1 == 1, wide b + 2)
theorem firstOf_some {b r : List Int} {last : Bool} {n : Nat} (h : firstOf b = some (r, last, n)) : ¬ noHead b ∧ ¬ noSums b ∧ r = (b.take (wide b)).drop 2 ∧ last = (rd b 1 == 1) ∧ n = wide b + 2 ∧ n ≤ b.length ∧ r.length + 4 = n ∧ 1 ≤ r.length := by
  unfold firstOf at h
  split at h
  · cases h
  · rename_i h1
    split at h
    · cases h
    · rename_i h2
      have h3 := Option.some.inj h
      simp only [Prod.mk.injEq] at h3
      obtain ⟨rfl, rfl, rfl⟩ := h3
      have h4 : ¬ b.length < wide b + 2 := fun h => h2 (.inl h)
      have h5 : 3 ≤ wide b := by unfold noHead at h1; unfold wide; omega
      refine ⟨h1, h2, rfl, rfl, rfl, by omega, ?_, ?_⟩ <;> (rw [List.length_drop, List.length_take]; omega)

/-- What first leaves. -/
def Firsted (w : World) (r : Option (List Int × Bool × Nat)) (e : Ending) (w' : World) : Prop :=
  Below w.heap.size w w' ∧ match r with
  | none => e = .returned (.tuple #[.slice none 0 0, .bool false, .int .i64 0])
  | some (x, last, n) => ∃ A', e = .returned (.tuple #[.slice A' x.length x.length, .bool last, .int .i64 n]) ∧ (Kd.int .u8).C w A' x.length x
theorem first_calls (A : Option Addr) (c : Nat) (b : List Int) (w : World) (hr : Kd.C (Kd.int .u8) w A b.length b) (hc : b.length ≤ c) (hl : b.length ≤ 100000) (hx : ∀ x ∈ b, 0 ≤ x ∧ x < 256) :
    Calls Try.prog 72 #[.slice A b.length c] w (Firsted w (firstOf b)) := by
  unfold firstOf
  by_cases h1 : noHead b
  · rw [if_pos h1]
    refine (first_head A c b w hr h1).mono ?_
    rintro e w' ⟨rfl, rfl⟩
    exact ⟨Below.refl _ _, rfl⟩
  · rw [if_neg h1]
    by_cases h2 : noSums b
    · rw [if_pos h2]
      by_cases h3 : b.length < wide b + 2
      · refine (first_short A c b w hr h1 h3).mono ?_
        rintro e w' ⟨rfl, hB⟩
        exact ⟨hB, rfl⟩
      · refine (first_sums A c b w hr hc h1 h3 hx hl (h2.resolve_left h3)).mono ?_
        rintro e w' ⟨rfl, hB⟩
        exact ⟨hB, rfl⟩
    · rw [if_neg h2]
      have h3 : ¬ b.length < wide b + 2 := fun h => h2 (.inl h)
      have h4 : sumsOf (b.take (wide b)) = (rd b (wide b), rd b ((wide b : Int) + 1)) := by
        by_cases e : sumsOf (b.take (wide b)) = (rd b (wide b), rd b ((wide b : Int) + 1))
        · exact e
        · exact absurd (.inr e) h2
      refine (first_ok A c b w hr hc h1 h3 hx hl h4).mono ?_
      rintro e w' ⟨A', rfl, hC, hB⟩
      have hlen : ((b.take (wide b)).drop 2).length = wide b - 2 := by rw [List.length_drop, List.length_take]; omega
      exact ⟨hB, A', by rw [hlen]; norm_cast, by rw [hlen]; exact hC⟩

/-- All batches of bytes, behind those records of a batch; where one stands; how many bytes are used. -/
def readGo (c : List Int) (batch : List (List Int)) (p used : Nat) : List (List (List Int)) × Nat :=
  match _h : firstOf c with
  | none => ([], used)
  | some (r, last, n) =>
    if last then ((batch ++ [r]) :: (readGo (c.drop n) [] (p + n) (p + n)).1, (readGo (c.drop n) [] (p + n) (p + n)).2)
    else readGo (c.drop n) (batch ++ [r]) (p + n) used
termination_by c.length
decreasing_by all_goals (have := firstOf_some (by assumption); rw [List.length_drop]; omega)
theorem readGo_none {c : List Int} (h : firstOf c = none) (batch : List (List Int)) (p used : Nat) : readGo c batch p used = ([], used) := by rw [readGo]; split; rfl; rename_i e; rw [h] at e; cases e
theorem readGo_last {c r : List Int} {n : Nat} (h : firstOf c = some (r, true, n)) (batch : List (List Int)) (p used : Nat) : readGo c batch p used = ((batch ++ [r]) :: (readGo (c.drop n) [] (p + n) (p + n)).1, (readGo (c.drop n) [] (p + n) (p + n)).2) := by
  rw [readGo]; split
  · rename_i e; rw [h] at e; cases e
  · rename_i e; rw [h] at e; injection e with e; simp only [Prod.mk.injEq] at e; obtain ⟨rfl, rfl, rfl⟩ := e; rw [if_pos rfl]
theorem readGo_more {c r : List Int} {n : Nat} (h : firstOf c = some (r, false, n)) (batch : List (List Int)) (p used : Nat) : readGo c batch p used = readGo (c.drop n) (batch ++ [r]) (p + n) used := by
  rw [readGo]; split
  · rename_i e; rw [h] at e; cases e
  · rename_i e; rw [h] at e; injection e with e; simp only [Prod.mk.injEq] at e; obtain ⟨rfl, rfl, rfl⟩ := e; rw [if_neg (by decide)]
def readOf (b : List Int) : List (List (List Int)) × Nat := readGo b [] 0 0

end Go.Proofs.Ytmfkgbncnaingaa.Wal
end

section
/- What wal.Scan comes to. -/
namespace Go.Proofs.Ytmfkgbncnaingaa.Wal
open Go.RowKit Go.Proofs.Ytmfkgbncnaingaa.QWal Go.Proofs.YtmfkgbncnaingaaW.PrintWords Go.Proofs.YtmfkgbncnaingaaW.PrintLast Go.Proofs.YtmfkgbncnaingaaW.PrintMore

abbrev k2 : Kd (List Int) := Kd.slice 5 (Kd.int .u8)
abbrev k3 : Kd (List (List Int)) := Kd.slice 25 (Kd.slice 5 (Kd.int .u8))

/-- The call of first, as Read makes it. -/
theorem first_at (A : Option Addr) (c p : Nat) (b : List Int) (w : World) (hr : Kd.C (Kd.int .u8) w A b.length b) (hc : b.length ≤ c) (hl : b.length ≤ 100000) (hx : ∀ x ∈ b, 0 ≤ x ∧ x < 256) (hp : p ≤ b.length) (c' : Nat) (hc' : b.length - p ≤ c') :
    Calls Try.prog 72 #[.slice (if c = p then A else Option.map (fun x => x.add p) A) (b.length - p) c'] w (Firsted w (firstOf (b.drop p))) := by
  have h1 := Kd.C_drop (c := c) (m := p) hr hp hc
  have h2 : (p * (Kd.int .u8).sz) = p := Nat.mul_one _
  rw [h2] at h1
  have h3 := first_calls _ c' (b.drop p) w h1 (by rw [List.length_drop]; exact hc') (by rw [List.length_drop]; omega) (fun x h => hx x (List.mem_of_mem_drop h))
  rw [List.length_drop] at h3
  exact h3

/-- What is held at a round of Read. -/
structure Held (w wr : World) (v2 v4 : Value) (outs : List (List (List Int))) (batch : List (List Int)) : Prop where
  outs : k3.R 53 wr w.heap.size (fun k_ => True ∧ some k_ ≠ v4.ownBlock) v2 outs
  batch : k2.R 25 wr w.heap.size (fun k_ => some k_ ≠ v2.ownBlock) v4 batch
  below : Below w.heap.size w wr
theorem Held.step {w wr w1 : World} {v2 v4 : Value} {outs : List (List (List Int))} {batch : List (List Int)} (h : Held w wr v2 v4 outs batch) (hb : Below wr.heap.size wr w1) : Held w w1 v2 v4 outs batch :=
  ⟨Kd.R_below h.outs hb, Kd.R_below h.batch hb, h.below.trans (hb.mono h.below.size)⟩

/-- What an append to the batch asks, and leaves. -/
theorem Held.row {w wr w3 : World} {v2 v4 v : Value} {outs : List (List (List Int))} {batch : List (List Int)} {r : List Int} (h : Held w wr v2 v4 outs batch) (hv : (Kd.int .u8).R 5 w3 wr.heap.size (fun _ => True) v r) : k2.M w3 w.heap.size (fun k => wr.heap.size ≤ k) r [v] :=
  Kd.M_row (Kd.R_lower (Kd.R_mono (Kd.R_bound hv) (fun _ hk => hk.2.1)) h.below.size)
theorem Held.okp {w wr : World} {v2 v4 : Value} {outs : List (List (List Int))} {batch : List (List Int)} (h : Held w wr v2 v4 outs batch) : ∀ k, wr.heap.size ≤ k → some k ≠ v2.ownBlock ∧ some k ≠ v4.ownBlock := fun k hk =>
  ⟨fun e => by have := Kd.R_lt h.outs k e.symm; omega, fun e => by have := Kd.R_lt h.batch k e.symm; omega⟩
theorem Held.fresh {w wr : World} {v2 v4 : Value} {outs : List (List (List Int))} {batch : List (List Int)} (h : Held w wr v2 v4 outs batch) : ∀ k, wr.heap.size ≤ k → some k ≠ v2.ownBlock := fun k hk => (h.okp k hk).1

set_option maxRecDepth 100000 in
set_option maxHeartbeats 4000000 in
theorem Read_calls (A0 : Option Addr) (c0 : Nat) (b : List Int) (w : World) (hr : Kd.C (Kd.int .u8) w A0 b.length b) (hc : b.length ≤ c0) (hl : b.length ≤ 100000) (hx : ∀ x ∈ b, 0 ≤ x ∧ x < 256) :
    Calls Try.prog 58 #[.slice A0 b.length c0] w fun e w' => ∃ v, e = .returned (.tuple #[v, .int .i64 (readOf b).2]) ∧ k3.R 53 w' w.heap.size (fun _ => True) v (readOf b).1 ∧ Below w.heap.size w w' := by
  have HR := Aside0.mk hr
  have HX := Aside0.mk hx
  have HRun := Aside0.mk (show readGo b [] 0 0 = readOf b from rfl)
  generalize readOf b = R at HRun ⊢
  clear hr hx
  go_enter Try.func58, Try.ntmps58
  go_wp2
  go_loopg [2, 3, 4, 5] (b.length) (fun kq v2 v3 v4 v5 wr => ∃ (p used : Nat) (outs : List (List (List Int))) (batch : List (List Int)), v5 = .int .i64 p ∧ v3 = .int .i64 used ∧ Aside0 (kq + p = b.length) ∧ Aside0 (outs.length ≤ p ∧ batch.length ≤ p) ∧ Aside0 ((outs ++ (readGo (b.drop p) batch p used).1, (readGo (b.drop p) batch p used).2) = R) ∧ Aside0 (Held w wr v2 v4 outs batch))
  case atStart =>
    exact ⟨0, 0, [], [], rfl, rfl, ⟨by omega⟩, ⟨by simp⟩, ⟨by rw [← HRun.out]; rfl⟩, ⟨⟨Kd.R_nil _ _ _ _ _, Kd.R_nil _ _ _ _ _, Below.refl _ _⟩⟩⟩
  case round =>
    obtain ⟨p, used, outs, batch, rfl, rfl, hK, hLen, hRi, hH⟩ := hrel
    have hp : p ≤ b.length := by have := hK.out; omega
    have hlo : (0 : Int) ≤ (p : Int) := by omega
    have hhi : (p : Int) ≤ (b.length : Int) := by omega
    have hhi2 : (p : Int) ≤ (c0 : Int) := by omega
    have HF := fun (c' : Nat) (h' : b.length - p ≤ c') (w' : World) (h : Kd.C (Kd.int .u8) w' A0 b.length b) => Aside0.mk (first_at A0 c0 p b w' h hc hl HX.out hp c' h')
    cases hfo : firstOf (b.drop p) with
    | none =>
      rw [hfo] at HF
      have hRR := hRi.out
      rw [readGo_none hfo] at hRR
      have HE := Aside0.mk hRR
      clear hfo hRi hRR
      by_cases hce : c0 = p
      · subst hce
        have hbp : b.length = c0 := by omega
        have HF2 := fun w' h => Aside0.mk (by have h2 := (HF 0 (by omega) w' h).out; rw [if_pos rfl, show b.length - c0 = 0 by omega] at h2; exact h2)
        clear HF
        go_wp2_with (first | (go_at_call 72; refine (HF2 _ (Kd.C_below HR.out hH.out.below)).out.mono ?_; rintro e w1 ⟨hb1, rfl⟩; have H1 := Aside0.mk (hH.out.step hb1); clear hb1))
        go_ret2
        have e1 : outs = R.1 := by rw [← HE.out]; simp
        have e2 : used = R.2 := by rw [← HE.out]
        exact ⟨u2, by rw [← e2]; rfl, by rw [← e1]; exact Kd.R_mono H1.out.outs (fun _ _ => trivial), H1.out.below⟩
      · have HF2 := fun w' h => Aside0.mk (by have h2 := (HF (c0 - p) (by omega) w' h).out; rw [if_neg hce] at h2; exact h2)
        have hce2 := eq_false hce
        clear HF hce
        go_wp2_with (first | (go_at_call 72; refine (HF2 _ (Kd.C_below HR.out hH.out.below)).out.mono ?_; rintro e w1 ⟨hb1, rfl⟩; have H1 := Aside0.mk (hH.out.step hb1); clear hb1))
        go_ret2
        have e1 : outs = R.1 := by rw [← HE.out]; simp
        have e2 : used = R.2 := by rw [← HE.out]
        exact ⟨u2, by rw [← e2]; rfl, by rw [← e1]; exact Kd.R_mono H1.out.outs (fun _ _ => trivial), H1.out.below⟩
    | some t =>
      obtain ⟨r, last, n⟩ := t
      obtain ⟨-, -, -, -, -, hn1, hn2, hn3⟩ := firstOf_some hfo
      rw [List.length_drop] at hn1
      have hce : ¬ c0 = p := by omega
      rw [hfo] at HF
      have HRl := Aside0.mk (show r.length ≤ 140737488351232 by omega)
      have HBl := Aside0.mk (show (batch ++ [r]).length = batch.length + 1 by simp)
      have hn0 : ((n : Int) == 0) = false := beq_eq_false_iff_ne.mpr (by omega)
      have hdd : (b.drop p).drop n = b.drop (p + n) := List.drop_drop
      have HF2 := fun w' h => Aside0.mk (by have h2 := (HF (c0 - p) (by omega) w' h).out; rw [if_neg hce] at h2; exact h2)
      have hce2 := eq_false hce
      have HPN := Aside0.mk (And.intro (show p + n ≤ b.length by omega) (show 1 ≤ n by omega))
      have hpn1 : (p : Int) + (n : Int) ≤ (b.length : Int) := by omega
      cases last with
      | true =>
        have hRR := hRi.out
        rw [readGo_last hfo, hdd] at hRR
        have HE := Aside0.mk hRR
        clear hfo hRi hRR HF hce hn1 hn2 hn3 hdd
        go_wp2_with (first | (go_at_call 72; refine (HF2 _ (Kd.C_below HR.out hH.out.below)).out.mono ?_; rintro e w1 ⟨hb1, A', rfl, hC1⟩; have H1 := Aside0.mk (hH.out.step hb1); have HC1 := Aside0.mk (Kd.C_below hC1 hb1); have HS1 := Aside0.mk hb1.size; clear hb1 hC1) | (go_at_call 57; refine (Disk.Clone_calls _ A' r.length r HC1.out HRl.out).mono ?_; rintro e w3 ⟨v, rfl, hv, hb3⟩; obtain ⟨A3, c3, rfl, _, _⟩ := Kd.R_reads hv; have H3 := Aside0.mk (H1.out.step hb3); have HV := Aside0.mk (Kd.R_lower hv HS1.out); have HS3 := Aside0.mk (Nat.le_trans HS1.out hb3.size); clear hv hb3) | ((with_reducible refine gate_builtin (b := .append) (xs := #[.tmp 21, .tmp 24]) rfl ?_); at_builtin; refine Kd.R_append (Kd.slice 5 (Kd.int .u8)) (w0 := w) w.heap.size rfl (.tmp 21) (.tmp 24) 53 25 (.slice none 0 0) 24 rfl Try.underlying53 info25 rfl (by decide) (by omega) _ batch r [.slice A3 r.length c3] (fun k_ => some k_ ≠ u2.ownBlock) (fun k_ => wr.heap.size ≤ k_) rfl (by first | (go_simp; done) | (go_simp; rfl)) (hH.out.row HV.out) hH.out.okp (fun k_ hk_ => hH.out.fresh k_ (Nat.le_trans HS3.out hk_)) H3.out.batch H3.out.below H3.out.below.size (by have := hLen.out.2; omega) ?_; intro v4 w4 h4 hb4 hg4 hat4; obtain ⟨A4, c4, rfl, _, _⟩ := Kd.R_reads h4; have HO4 := Aside0.mk (Kd.R_after H3.out.outs hg4 hat4); rw [HBl.out] at h4 HO4; have H4 := Aside0.mk h4; have HB4 := Aside0.mk hb4; clear h4 hb4 hg4 hat4) | ((with_reducible refine gate_builtin (b := .append) (xs := #[.tmp 30, .tmp 32]) rfl ?_); at_builtin; refine Kd.R_append (Kd.slice 25 (Kd.slice 5 (Kd.int .u8))) (w0 := w) w.heap.size rfl (.tmp 30) (.tmp 32) 45 53 (.slice none 0 0) 24 rfl Try.underlying45 info53 rfl (by decide) (by omega) _ outs (batch ++ [r]) [.slice A4 (batch.length + 1) c4] (fun _ => True) (fun k_ => some k_ ≠ u2.ownBlock) rfl (by first | (go_simp; done) | (go_simp; rfl)) (Kd.M_row H4.out) (fun k_ hk_ => ⟨trivial, hk_⟩) (fun _ _ => trivial) (Kd.R_mono HO4.out (fun _ _ => trivial)) HB4.out HB4.out.size (by have := hLen.out.1; omega) ?_; intro v5 w5 h5 hb5 _ _; have H5 := Aside0.mk h5; have HB5 := Aside0.mk hb5; clear h5 hb5))
        go_roundg (b.length - (p + n))
        case measure => have := hK.out; have := HPN.out; omega
        case rel => exact ⟨p + n, p + n, outs ++ [batch ++ [r]], [], by go_num, by go_num, ⟨by have := HPN.out; omega⟩, ⟨by have := hLen.out; have := HPN.out; simp; omega⟩, ⟨by rw [← HE.out]; simp⟩, ⟨⟨Kd.R_apart_nil H5.out, Kd.R_nil _ _ _ _ _, HB5.out⟩⟩⟩
      | false =>
        have hRR := hRi.out
        rw [readGo_more hfo, hdd] at hRR
        have HE := Aside0.mk hRR
        clear hfo hRi hRR HF hce hn1 hn2 hn3 hdd
        go_wp2_with (first | (go_at_call 72; refine (HF2 _ (Kd.C_below HR.out hH.out.below)).out.mono ?_; rintro e w1 ⟨hb1, A', rfl, hC1⟩; have H1 := Aside0.mk (hH.out.step hb1); have HC1 := Aside0.mk (Kd.C_below hC1 hb1); have HS1 := Aside0.mk hb1.size; clear hb1 hC1) | (go_at_call 57; refine (Disk.Clone_calls _ A' r.length r HC1.out HRl.out).mono ?_; rintro e w3 ⟨v, rfl, hv, hb3⟩; obtain ⟨A3, c3, rfl, _, _⟩ := Kd.R_reads hv; have H3 := Aside0.mk (H1.out.step hb3); have HV := Aside0.mk (Kd.R_lower hv HS1.out); have HS3 := Aside0.mk (Nat.le_trans HS1.out hb3.size); clear hv hb3) | ((with_reducible refine gate_builtin (b := .append) (xs := #[.tmp 21, .tmp 24]) rfl ?_); at_builtin; refine Kd.R_append (Kd.slice 5 (Kd.int .u8)) (w0 := w) w.heap.size rfl (.tmp 21) (.tmp 24) 53 25 (.slice none 0 0) 24 rfl Try.underlying53 info25 rfl (by decide) (by omega) _ batch r [.slice A3 r.length c3] (fun k_ => some k_ ≠ u2.ownBlock) (fun k_ => wr.heap.size ≤ k_) rfl (by first | (go_simp; done) | (go_simp; rfl)) (hH.out.row HV.out) hH.out.okp (fun k_ hk_ => hH.out.fresh k_ (Nat.le_trans HS3.out hk_)) H3.out.batch H3.out.below H3.out.below.size (by have := hLen.out.2; omega) ?_; intro v4 w4 h4 hb4 hg4 hat4; obtain ⟨A4, c4, rfl, _, _⟩ := Kd.R_reads h4; have HO4 := Aside0.mk (Kd.R_after H3.out.outs hg4 hat4); rw [HBl.out] at h4 HO4; have H4 := Aside0.mk h4; have HB4 := Aside0.mk hb4; clear h4 hb4 hg4 hat4))
        go_roundg (b.length - (p + n))
        case measure => have := hK.out; have := HPN.out; omega
        case rel => exact ⟨p + n, used, outs, batch ++ [r], by go_num, rfl, ⟨by have := HPN.out; omega⟩, ⟨by have := hLen.out; have := HPN.out; simp; omega⟩, HE, ⟨⟨HO4.out, H4.out, HB4.out⟩⟩⟩

theorem Scan_many (A0 : Option Addr) (c0 n : Nat) (w : World) (hl : 1200 < n) :
    Calls Try.prog 36 #[.slice A0 n c0] w fun e w' => e = .returned (.tuple #[.slice none 0 0, .int .i64 0, .int .i64 1]) ∧ w = w' := by
  have ht : decide ((1200 : Int) < (n : Int)) = true := decide_eq_true (by omega)
  go_enter Try.func36, Try.ntmps36
  go_wp2
  go_ret3
  exact ⟨rfl, rfl⟩

theorem Scan_walk (A0 : Option Addr) (c0 : Nat) (b : List Int) (w : World) (hr : Kd.C (Kd.int .u8) w A0 b.length b) (hc : b.length ≤ c0) (hl : b.length ≤ 1200) (hx : ∀ x ∈ b, 0 ≤ x ∧ x < 256) :
    Calls Try.prog 36 #[.slice A0 b.length c0] w fun e w' => ∃ v, e = .returned (.tuple #[v, .int .i64 (readOf b).2, .int .i64 0]) ∧ k3.R 53 w' w.heap.size (fun _ => True) v (readOf b).1 ∧ Below w.heap.size w w' := by
  have ht : decide ((1200 : Int) < (b.length : Int)) = false := decide_eq_false (by omega)
  have HRd := fun w h => Aside0.mk (Read_calls A0 c0 b w h hc (by omega) hx)
  have HR := Aside0.mk hr
  clear hr hx
  go_enter Try.func36, Try.ntmps36
  go_wp2_with (go_at_call 58; refine (HRd _ HR.out).out.mono ?_; rintro e w1 ⟨v, rfl, hv, hb⟩; have HV := Aside0.mk hv; have HB := Aside0.mk hb; clear hv hb)
  go_ret3
  exact ⟨_, rfl, HV.out, HB.out⟩

end Go.Proofs.Ytmfkgbncnaingaa.Wal
namespace Go.Proofs.Ytmfkgbncnaingaa.QWal
open Go.RowKit Go.Proofs.Ytmfkgbncnaingaa.Wal Go.Proofs.YtmfkgbncnaingaaW.PrintWords Go.Proofs.YtmfkgbncnaingaaW.PrintLast Go.Proofs.YtmfkgbncnaingaaW.PrintMore

def wal_Scan.f (l : List Int) : Option (List (List (List Int)) × Int × Int) :=
  if 1200 < l.length then some ([], 0, 1) else if bytesIn l = true then some ((readOf l).1, ((readOf l).2 : Int), 0) else none
theorem wal_Scan.calls (A0 : Option Addr) (c0 : Nat) (l0 : List Int) (r1 : List (List (List Int))) (r2 r3 : Int) (w : World) (hr0 : Kd.C (Kd.int .u8) w A0 l0.length l0) (hc0 : l0.length ≤ c0) (h : wal_Scan.f l0 = some (r1, r2, r3)) :
    Calls Try.prog 36 #[.slice A0 l0.length c0] w fun e w' => ∃ v0_ : Value, e = .returned (.tuple #[v0_, .int .i64 r2, .int .i64 r3]) ∧ Kd.R (Kd.slice 25 (Kd.slice 5 (Kd.int .u8))) 53 w' w.heap.size (fun _ => True) v0_ r1 ∧ Below w.heap.size w w' := by
  unfold wal_Scan.f at h
  by_cases hm : 1200 < l0.length
  · rw [if_pos hm] at h
    simp only [Option.some.injEq, Prod.mk.injEq] at h
    obtain ⟨rfl, rfl, rfl⟩ := h
    refine (Scan_many A0 c0 l0.length w hm).mono ?_
    rintro e w' ⟨rfl, rfl⟩
    exact ⟨_, rfl, Kd.R_nil _ _ _ _ _, Below.refl _ _⟩
  · rw [if_neg hm] at h
    by_cases hf : bytesIn l0 = true
    · rw [if_pos hf] at h
      simp only [Option.some.injEq, Prod.mk.injEq] at h
      obtain ⟨rfl, rfl, rfl⟩ := h
      exact Scan_walk A0 c0 l0 w hr0 hc0 (by omega) ((bytesIn_iff l0).1 hf)
    · rw [if_neg hf] at h; cases h

end Go.Proofs.Ytmfkgbncnaingaa.QWal
end

section
/- Plain lemmas on packed batches: what is packed is read, and what is read was packed. -/
namespace Go.Proofs.Ytmfkgbncnaingaa.Wal
open Go.RowKit Go.Proofs.Ytmfkgbncnaingaa.QWal Go.Proofs.YtmfkgbncnaingaaW.PrintWords Go.Proofs.YtmfkgbncnaingaaW.PrintLast Go.Proofs.YtmfkgbncnaingaaW.PrintMore

/-- A record that can be packed. -/
def Rec (x : List Int) : Prop := 1 ≤ x.length ∧ x.length ≤ 60
/-- A batch that can be packed. -/
def Good (z : List (List Int)) : Prop := z ≠ [] ∧ ∀ x ∈ z, Rec x
def Bytes (l : List Int) : Prop := ∀ x ∈ l, 0 ≤ x ∧ x < 256
/-- Batches, one behind the other. -/
def flat : List (List (List Int)) → List Int
  | [] => []
  | z :: l => ofGo z ++ flat l
/-- Frames of which none is the last one. -/
def pre : List (List Int) → List Int
  | [] => []
  | x :: l => frameOf x false ++ pre l

theorem rd_get (l : List Int) (i : Nat) (h : i < l.length) : rd l (i : Int) = l[i] := by simp [rd, List.getD_eq_getElem?_getD, h]
theorem drop_rd (c : List Int) (i : Nat) (h : i < c.length) : c.drop i = rd c (i : Int) :: c.drop (i + 1) := by
  rw [List.drop_eq_getElem_cons h, rd_get c i h]
theorem flat_append (l m : List (List (List Int))) : flat (l ++ m) = flat l ++ flat m := by
  induction l with
  | nil => rfl
  | cons z l ih => rw [List.cons_append, flat, flat, ih, List.append_assoc]
theorem pre_append (l m : List (List Int)) : pre (l ++ m) = pre l ++ pre m := by
  induction l with
  | nil => rfl
  | cons z l ih => rw [List.cons_append, pre, pre, ih, List.append_assoc]
theorem pre_one (x : List Int) : pre [x] = frameOf x false := by simp [pre]
theorem ofGo_snoc (l : List (List Int)) (r : List Int) : ofGo (l ++ [r]) = pre l ++ frameOf r true := by
  induction l with
  | nil => simp [pre, ofGo]
  | cons x l ih => rw [List.cons_append, ofGo, ih, pre, List.append_assoc]; congr 2; simp

theorem firstOf_frame (x : List Int) (last : Bool) (rest : List Int) (h : Rec x) : firstOf (frameOf x last ++ rest) = some (x, last, x.length + 4) := by
  obtain ⟨h1, h2⟩ := h
  have hs : ∃ s t : Int, sumsOf (headOf x last) = (s, t) := ⟨_, _, rfl⟩
  obtain ⟨s, t, hs⟩ := hs
  have e : frameOf x last ++ rest = headOf x last ++ (s :: t :: rest) := by simp [frameOf, hs]
  have hl : (headOf x last).length = x.length + 2 := by simp [headOf]
  rw [e]
  have h0 : rd (headOf x last ++ (s :: t :: rest)) 0 = (x.length : Int) := by simp [headOf, rd]
  have hb : rd (headOf x last ++ (s :: t :: rest)) 1 = if last then 1 else 0 := by simp [headOf, rd]
  have hw : wide (headOf x last ++ (s :: t :: rest)) = x.length + 2 := by unfold wide; rw [h0]; omega
  have ht : (headOf x last ++ (s :: t :: rest)).take (x.length + 2) = headOf x last := by rw [← hl, List.take_left]
  have hS : rd (headOf x last ++ (s :: t :: rest)) ((x.length + 2 : Nat) : Int) = s := by
    rw [rd_get _ _ (by rw [List.length_append, hl, List.length_cons]; omega), List.getElem_append_right (by omega)]; simp [hl]
  have hT : rd (headOf x last ++ (s :: t :: rest)) (((x.length + 2 : Nat) : Int) + 1) = t := by
    rw [show (((x.length + 2 : Nat) : Int) + 1) = ((x.length + 3 : Nat) : Int) by omega, rd_get _ _ (by rw [List.length_append, hl, List.length_cons, List.length_cons]; omega), List.getElem_append_right (by omega)]
    simp [hl]
  have hlen : (headOf x last ++ (s :: t :: rest)).length = x.length + 4 + rest.length := by rw [List.length_append, hl, List.length_cons, List.length_cons]; omega
  have n1 : ¬ noHead (headOf x last ++ (s :: t :: rest)) := by
    unfold noHead; rw [h0, hb, hlen]; cases last <;> simp <;> omega
  have n2 : ¬ noSums (headOf x last ++ (s :: t :: rest)) := by
    unfold noSums; rw [hw, ht, hS, hT, hlen, hs]
    rintro (h | h)
    · omega
    · exact h rfl
  unfold firstOf
  rw [if_neg n1, if_neg n2, hw, ht, hb]
  have e1 : (headOf x last).drop 2 = x := by simp [headOf]
  have e2 : ((if last = true then (1 : Int) else 0) == 1) = last := by cases last <;> rfl
  rw [e1, e2]

theorem firstOf_shape {c r : List Int} {last : Bool} {n : Nat} (hc : Bytes c) (h : firstOf c = some (r, last, n)) : c = frameOf r last ++ c.drop n ∧ Rec r ∧ n = r.length + 4 := by
  obtain ⟨h1, h2, hr, hb, hn, hle, hl, hl1⟩ := firstOf_some h
  have hw : wide c + 2 ≤ c.length := by omega
  unfold noHead at h1
  have h5 : sumsOf (c.take (wide c)) = (rd c (wide c), rd c ((wide c : Int) + 1)) := by
    by_cases e : sumsOf (c.take (wide c)) = (rd c (wide c), rd c ((wide c : Int) + 1))
    · exact e
    · exact absurd (.inr e) h2
  have hr0 : rd c 0 = (r.length : Int) := by
    have : wide c = 2 + (rd c 0).toNat := rfl
    omega
  have hr1 : 0 ≤ rd c 1 ∧ rd c 1 ≤ 1 := by
    have e := rd_get c 1 (by omega)
    have := hc _ (List.getElem_mem (show 1 < c.length by omega))
    have e : rd c 1 = c[1] := e
    omega
  have hb1 : rd c 1 = if last then 1 else 0 := by
    rw [hb]
    by_cases e : rd c 1 = 1
    · rw [e]; rfl
    · rw [show rd c 1 = 0 by omega]; rfl
  have ht : c.take (wide c) = headOf r last := by
    have e0 : c = rd c 0 :: rd c 1 :: c.drop 2 := by
      have a := drop_rd c 0 (by omega)
      have b := drop_rd c 1 (by omega)
      rw [List.drop_zero] at a
      rw [b] at a
      exact a
    have e1 : c.take (wide c) = rd c 0 :: rd c 1 :: (c.take (wide c)).drop 2 := by
      have a := drop_rd (c.take (wide c)) 0 (by rw [List.length_take]; omega)
      have b := drop_rd (c.take (wide c)) 1 (by rw [List.length_take]; omega)
      rw [List.drop_zero, b] at a
      have g : ∀ i : Nat, i < wide c → rd (c.take (wide c)) (i : Int) = rd c (i : Int) := fun i hi => by
        rw [rd_get _ _ (by rw [List.length_take]; omega), rd_get _ _ (by omega), List.getElem_take]
      rw [g 0 (by omega), g 1 (by omega)] at a
      exact a
    rw [e1, ← hr, hr0, hb1]; rfl
  refine ⟨?_, ⟨by omega, by omega⟩, by omega⟩
  have h6 : c.drop (wide c) = rd c (wide c) :: rd c ((wide c : Int) + 1) :: c.drop n := by
    rw [drop_rd c _ (by omega), drop_rd c _ (by omega), hn]; rfl
  have h7 : c = headOf r last ++ (rd c (wide c) :: rd c ((wide c : Int) + 1) :: c.drop n) := by
    rw [← h6, ← ht, List.take_append_drop]
  have h8 : frameOf r last = headOf r last ++ [rd c (wide c), rd c ((wide c : Int) + 1)] := by
    unfold frameOf; rw [← ht, h5]
  rw [h8, List.append_assoc]; exact h7

theorem read_batch : ∀ (z : List (List Int)), Good z → ∀ (acc : List (List Int)) (p u : Nat) (rest : List Int), readGo (ofGo z ++ rest) acc p u = ((acc ++ z) :: (readGo rest [] (p + (ofGo z).length) (p + (ofGo z).length)).1, (readGo rest [] (p + (ofGo z).length) (p + (ofGo z).length)).2) := by
  intro z
  induction z with
  | nil => exact fun h => absurd rfl h.1
  | cons x l ih =>
    intro h acc p u rest
    have hx := h.2 x List.mem_cons_self
    rw [ofGo, List.append_assoc]
    cases l with
    | nil =>
      rw [show ([] : List (List Int)).isEmpty = true from rfl, readGo_last (firstOf_frame x _ _ hx), ← frameOf_length x true, List.drop_left]
      simp [ofGo]
    | cons y l =>
      rw [show (y :: l).isEmpty = false from rfl, readGo_more (firstOf_frame x _ _ hx), ← frameOf_length x false, List.drop_left, ih ⟨by simp, fun x hx => h.2 x (List.mem_cons_of_mem _ hx)⟩]
      simp only [List.length_append, List.append_assoc, List.singleton_append, Nat.add_assoc]

theorem read_shift : ∀ (n : Nat) (c : List Int), c.length ≤ n → ∀ (acc : List (List Int)) (p u d : Nat), readGo c acc (p + d) (u + d) = ((readGo c acc p u).1, (readGo c acc p u).2 + d) := by
  intro n
  induction n with
  | zero =>
    intro c hc acc p u d
    have e : firstOf c = none := by
      unfold firstOf; rw [if_pos (by unfold noHead; omega)]
    rw [readGo_none e, readGo_none e]
  | succ n ih =>
    intro c hc acc p u d
    cases e : firstOf c with
    | none => rw [readGo_none e, readGo_none e]
    | some q =>
      obtain ⟨r, last, m⟩ := q
      have hs := firstOf_some e
      have hd : (c.drop m).length ≤ n := by rw [List.length_drop]; omega
      cases last with
      | true => rw [readGo_last e, readGo_last e, show p + d + m = p + m + d by omega, ih _ hd]
      | false => rw [readGo_more e, readGo_more e, show p + d + m = p + m + d by omega, ih _ hd]

theorem readOf_flat (bs : List (List (List Int))) (h : ∀ z ∈ bs, Good z) (rest : List Int) : readOf (flat bs ++ rest) = (bs ++ (readOf rest).1, (flat bs).length + (readOf rest).2) := by
  induction bs with
  | nil => simp [flat]
  | cons z l ih =>
    have hs := read_shift _ (flat l ++ rest) (Nat.le_refl _) [] 0 0 (ofGo z).length
    have hi := ih fun z hz => h z (List.mem_cons_of_mem _ hz)
    unfold readOf at hi
    rw [hi] at hs
    rw [flat, List.append_assoc]
    unfold readOf
    rw [read_batch z (h z List.mem_cons_self), hs, List.length_append, List.nil_append]
    simp only [Prod.mk.injEq, List.cons_append, true_and]
    omega
theorem read_nil : readOf [] = ([], 0) := by
  unfold readOf; rw [readGo_none]; unfold firstOf; rw [if_pos (.inl (by simp))]

theorem read_shape : ∀ (n : Nat) (c : List Int), c.length ≤ n → Bytes c → ∀ (acc : List (List Int)), (∀ x ∈ acc, Rec x) → ∀ (p u : Nat),
    ((readGo c acc p u).1 = [] ∧ (readGo c acc p u).2 = u) ∨ ∃ rest, pre acc ++ c = flat (readGo c acc p u).1 ++ rest ∧ (readGo c acc p u).2 + (pre acc).length = p + (flat (readGo c acc p u).1).length ∧ ∀ z ∈ (readGo c acc p u).1, Good z := by
  intro n
  induction n with
  | zero =>
    intro c hc _ acc _ p u
    have e : firstOf c = none := by
      unfold firstOf; rw [if_pos (by unfold noHead; omega)]
    exact .inl (by rw [readGo_none e]; exact ⟨rfl, rfl⟩)
  | succ n ih =>
    intro c hc hB acc ha p u
    cases e : firstOf c with
    | none => exact .inl (by rw [readGo_none e]; exact ⟨rfl, rfl⟩)
    | some q =>
      obtain ⟨r, last, m⟩ := q
      obtain ⟨hs, hr, hm⟩ := firstOf_shape hB e
      have hsome := firstOf_some e
      have hd : (c.drop m).length ≤ n := by rw [List.length_drop]; omega
      have hBd : Bytes (c.drop m) := fun x hx => hB x (List.mem_of_mem_drop hx)
      have hrec : ∀ x ∈ acc ++ [r], Rec x := fun x hx => by
        rcases List.mem_append.1 hx with hx | hx
        · exact ha x hx
        · rw [List.mem_singleton.1 hx]; exact hr
      have hfl := frameOf_length r last
      cases last with
      | true =>
        rw [readGo_last e]
        have hg : Good (acc ++ [r]) := ⟨by simp, hrec⟩
        rcases ih (c.drop m) hd hBd [] (by simp) (p + m) (p + m) with ⟨h1, h2⟩ | ⟨rest, h1, h2, h3⟩
        · refine .inr ⟨c.drop m, ?_, ?_, ?_⟩
          · simp only [h1, flat, ofGo_snoc, List.append_nil, List.append_assoc]
            rw [← hs]
          · simp only [h1, h2, flat, ofGo_snoc, List.append_nil, List.length_append]
            omega
          · simp only [h1]
            intro z hz
            rw [List.mem_singleton.1 hz]; exact hg
        · refine .inr ⟨rest, ?_, ?_, ?_⟩
          · have h1 : c.drop m = flat (readGo (c.drop m) [] (p + m) (p + m)).1 ++ rest := h1
            show _ = flat ((acc ++ [r]) :: (readGo (c.drop m) [] (p + m) (p + m)).1) ++ rest
            rw [flat, ofGo_snoc, List.append_assoc, ← h1, List.append_assoc, ← hs]
          · have h2 : (readGo (c.drop m) [] (p + m) (p + m)).2 + 0 = _ := h2
            show (readGo (c.drop m) [] (p + m) (p + m)).2 + _ = _ + (flat ((acc ++ [r]) :: (readGo (c.drop m) [] (p + m) (p + m)).1)).length
            rw [flat, ofGo_snoc, List.length_append, List.length_append]
            omega
          · intro z hz
            rcases List.mem_cons.1 hz with rfl | hz
            · exact hg
            · exact h3 z hz
      | false =>
        rw [readGo_more e]
        rcases ih (c.drop m) hd hBd (acc ++ [r]) hrec (p + m) u with h | ⟨rest, h1, h2, h3⟩
        · exact .inl h
        · refine .inr ⟨rest, ?_, ?_, h3⟩
          · rw [pre_append, pre_one, List.append_assoc, ← hs] at h1; exact h1
          · rw [pre_append, pre_one, List.length_append] at h2; omega

/-- What is read was packed. -/
theorem read_is {c : List Int} (hc : Bytes c) : ∃ rest, c = flat (readOf c).1 ++ rest ∧ (readOf c).2 = (flat (readOf c).1).length ∧ ∀ z ∈ (readOf c).1, Good z := by
  rcases read_shape _ c (Nat.le_refl _) hc [] (by simp) 0 0 with ⟨h1, h2⟩ | ⟨rest, h1, h2, h3⟩
  · refine ⟨c, ?_, ?_, ?_⟩
    · show c = flat (readGo c [] 0 0).1 ++ c
      rw [h1]; rfl
    · show (readGo c [] 0 0).2 = (flat (readGo c [] 0 0).1).length
      rw [h1, h2]; rfl
    · show ∀ z ∈ (readGo c [] 0 0).1, Good z
      rw [h1]; simp
  · exact ⟨rest, h1, by simp only [pre, List.length_nil, Nat.add_zero, Nat.zero_add] at h2; exact h2, h3⟩

/-- A torn batch is not read. -/
theorem read_torn {z : List (List Int)} {t : List (List (List Int))} {k : Nat} (hg : ∀ y ∈ z :: t, Good y) (hB : Bytes ((flat (z :: t)).take k)) (hk : k < (ofGo z).length) : readOf ((flat (z :: t)).take k) = ([], 0) := by
  obtain ⟨rest, h1, h2, h3⟩ := read_is hB
  cases e : (readOf ((flat (z :: t)).take k)).1 with
  | nil =>
    rw [e] at h2
    exact Prod.ext e h2
  | cons y X =>
    exfalso
    rw [e] at h1 h3
    have hf : flat (z :: t) = flat (y :: X) ++ (rest ++ (flat (z :: t)).drop k) := by
      rw [← List.append_assoc, ← h1, List.take_append_drop]
    have a := readOf_flat (z :: t) hg []
    have b := readOf_flat (y :: X) h3 (rest ++ (flat (z :: t)).drop k)
    rw [List.append_nil, hf, b] at a
    have hzy : y = z := by
      have := (Prod.mk.inj a).1
      rw [List.cons_append, List.cons_append] at this
      exact (List.cons.inj this).1
    have hl := congrArg List.length h1
    rw [List.length_take, List.length_append, flat, flat, List.length_append, List.length_append, hzy] at hl
    omega

/-- Of a beginning of what was packed those batches are read that end within it. -/
theorem read_cut {bs : List (List (List Int))} (hg : ∀ z ∈ bs, Good z) (hB : Bytes (flat bs)) (n k : Nat) (hn : n ≤ bs.length) (h1 : (flat (bs.take n)).length ≤ k) (h2 : n = bs.length ∨ k < (flat (bs.take (n + 1))).length) :
    readOf ((flat bs).take k) = (bs.take n, (flat (bs.take n)).length) := by
  have e : flat bs = flat (bs.take n) ++ flat (bs.drop n) := by rw [← flat_append, List.take_append_drop]
  have e2 : (flat bs).take k = flat (bs.take n) ++ (flat (bs.drop n)).take (k - (flat (bs.take n)).length) := by
    rw [e, List.take_append, List.take_of_length_le h1]
  have hgt : ∀ z ∈ bs.take n, Good z := fun z hz => hg z (List.mem_of_mem_take hz)
  have hgd : ∀ z ∈ bs.drop n, Good z := fun z hz => hg z (List.mem_of_mem_drop hz)
  have hr : readOf ((flat (bs.drop n)).take (k - (flat (bs.take n)).length)) = ([], 0) := by
    cases ed : bs.drop n with
    | nil => rw [flat, List.take_nil, read_nil]
    | cons z t =>
      rw [ed] at hgd e
      have hn' : n < bs.length := by
        have := congrArg List.length ed
        rw [List.length_drop, List.length_cons] at this; omega
      have hz : bs.take (n + 1) = bs.take n ++ [z] := by
        rw [List.take_succ_eq_append_getElem hn']
        rw [List.drop_eq_getElem_cons hn'] at ed
        rw [(List.cons.inj ed).1]
      have h3 := h2.resolve_left (by omega)
      rw [hz, flat_append, List.length_append] at h3
      refine read_torn hgd (fun x hx => hB x ?_) ?_
      · rw [e]; exact List.mem_append_right _ (List.mem_of_mem_take hx)
      · have : flat [z] = ofGo z := by simp [flat]
        rw [this] at h3; omega
  rw [e2, readOf_flat _ hgt, hr]; simp

end Go.Proofs.Ytmfkgbncnaingaa.Wal
end
