/- The methods of a disk: what a call of each does to the disk's block and to nothing else. -/
import Derived.Test.YtmfkgbncnaingaaQNextx0
import Derived.StillTailTactics
namespace Go.Proofs.Ytmfkgbncnaingaa.Disk
open Go.RowKit Go.Proofs.YtmfkgbncnaingaaW.PrintWords Go.Proofs.YtmfkgbncnaingaaW.PrintLast Go.Proofs.YtmfkgbncnaingaaW.PrintMore
attribute [local go_sem] max2_int min2_int max_two min_two

theorem info5 : (Try.prog.info? 5).map (fun i => (i.zero, i.size, i.bytes)) = some (some (.int .u8 0), 1, 1) := by kernel_rfl

/-- A disk at block g: its bytes lie in a row of the call's own, apart from g. -/
structure At (w : World) (base g : Nat) (v : Value) (D : List Int) (s : Int) : Prop where
  blk : w.heap[g]? = some (.cells #[v, .int .i64 s] 101 (0, 0))
  ge : base ≤ g
  row : (Kd.int .u8).R 5 w base (fun k => k ≠ g) v D

/-- What a method may have done: only block g, and rows of bytes from base on, may differ. -/
structure Eff (w w' : World) (base g : Nat) : Prop where
  os : w'.os = w.os
  tape : w'.tape = w.tape
  output : w'.output = w.output
  size : w.heap.size ≤ w'.heap.size
  block : ∀ k, k < w.heap.size → (k < base ∨ (k ≠ g ∧ ∀ cs, w.heap[k]? ≠ some (.cells cs 5 (0, 0)))) → w'.heap[k]? = w.heap[k]?

theorem Eff.refl (w : World) (base g : Nat) : Eff w w base g := ⟨rfl, rfl, rfl, Nat.le_refl _, fun _ _ _ => rfl⟩
theorem Eff.trans {a b c : World} {base g : Nat} (h : Eff a b base g) (k : Eff b c base g) : Eff a c base g :=
  ⟨k.os.trans h.os, k.tape.trans h.tape, k.output.trans h.output, Nat.le_trans h.size k.size, fun i hi hc => by
    have e := h.block i hi hc
    rw [← e]
    refine k.block i (Nat.lt_of_lt_of_le hi h.size) ?_
    rcases hc with hc | ⟨h1, h2⟩
    · exact .inl hc
    · exact .inr ⟨h1, fun cs => by rw [e]; exact h2 cs⟩⟩
theorem Eff.drewN (w : World) (base g n : Nat) : Eff w (w.drewN n) base g := ⟨rfl, rfl, rfl, Nat.le_refl _, fun _ _ _ => rfl⟩
theorem Eff.set (w : World) (base g i : Nat) (u : Value) (hg : base ≤ g) : Eff w (w.setCell ⟨g, i, none⟩ u) base g :=
  ⟨rfl, rfl, rfl, by simp [World.setCell], fun k hk hc => Below.heap_setCell w ⟨g, i, none⟩ u k (by
    rcases hc with hc | ⟨h1, _⟩
    · show k ≠ g; omega
    · exact h1)⟩
/-- A row of bytes of the call's own was appended to. -/
theorem Eff.grown {w w1 : World} {base g : Nat} {ok : Nat → Prop} {v : Value} {D : List Int} (hr : (Kd.int .u8).R 5 w base ok v D) (hg : w.grownBy w1 v.ownBlock) : Eff w w1 base g :=
  ⟨hg.os, hg.tape, hg.output, hg.size, fun k hk hc => hg.block k hk (fun e => by
    obtain ⟨inner, ho⟩ := Kd.R_own hr
    obtain ⟨cs, ht⟩ := own_typed ho k e.symm
    rcases hc with hc | ⟨_, h2⟩
    · have := own_base ho k e.symm; omega
    · exact h2 cs ht)⟩

theorem stored {w w1 : World} {base g : Nat} {v v1 : Value} {D D1 : List Int} {s : Int} (h : At w base g v D s) (ho : (Kd.int .u8).R 5 w1 base (fun k => k ≠ g) v1 D1) (hg : w.grownBy w1 v.ownBlock) :
    At (w1.setCell ⟨g, 0, none⟩ v1) base g v1 D1 s ∧ Eff w (w1.setCell ⟨g, 0, none⟩ v1) base g := by
  have hb1 : w1.heap[g]? = _ := blk_grown h.blk hg (Kd.R_ne h.row h.blk (by decide))
  exact ⟨⟨by simpa using blk_set hb1 0 v1, h.ge, Kd.R_far ho (fun k hk => hk) v1⟩, (Eff.grown h.row hg).trans (Eff.set w1 base g 0 v1 h.ge)⟩

set_option maxHeartbeats 1000000 in
theorem Write_calls (w : World) (base g : Nat) (v : Value) (D b : List Int) (s : Int) (A : Option Addr) (c : Nat) (h : At w base g v D s) (hb : (Kd.int .u8).C w A b.length b) (hs : D.length + b.length ≤ 1200) :
    Calls Try.prog 85 #[.pointer (some ⟨g, 0, none⟩), .slice A b.length c] w fun e w' => ∃ v', e = .returned (.int .i64 0) ∧ At w' base g v' (D ++ b) s ∧ Eff w w' base g := by
  have HAt := Aside0.mk h
  obtain ⟨hblk, hge, hrow⟩ := h
  obtain ⟨Ad, cd, rfl, hlc, hrd⟩ := Kd.R_reads hrow
  have hc0 : w.cell? ⟨g, 0, none⟩ = some (.slice Ad D.length cd) := (blk_cell hblk 0).trans rfl
  have ht : decide (1200 < (D.length : Int) + (b.length : Int)) = false := decide_eq_false (by omega)
  have HR := Aside0.mk hrow
  have HB := Aside0.mk hblk
  have HC := Aside0.mk hb
  have hgl := blk_lt hblk
  clear hrow hblk hrd hb
  go_enter Try.func85, Try.ntmps85
  go_wp2_with (first | ((with_reducible refine gate_builtin (b := .append) (xs := #[.tmp 18, .tmp 19]) rfl ?_); at_builtin; refine Kd.R_append_rows (Kd.int .u8) (w0 := w) base rfl (.tmp 18) (.tmp 19) 25 5 (.int .u8 0) 1 rfl Try.underlying25 info5 rfl (by decide) (by omega) _ D b _ _ _ (fun k => k ≠ g) (fun _ => False) rfl rfl HR.out HC.out (fun _ _ h => h) (fun _ h => h.elim) (fun k hk => by omega) (Below.refl _ _) (by omega) (by omega) ?_; intro v1 w1 ho _ hg _; obtain ⟨A1, c1, rfl, _, _⟩ := Kd.R_reads ho; have hfin := Aside0.mk (stored HAt.out ho hg); have hb1 := blk_grown HB.out hg (Kd.R_ne HR.out HB.out (by decide)); have hc1 := (blk_cell hb1 0).trans rfl; have hf1 := blk_frozen hb1 0; clear ho hg hb1))
  go_ret
  have hx := hfin.out
  rw [List.length_append] at hx
  exact ⟨_, rfl, hx⟩

set_option maxHeartbeats 1000000 in
theorem Write_full (w : World) (base g : Nat) (v : Value) (D b : List Int) (s : Int) (A : Option Addr) (c : Nat) (h : At w base g v D s) (hs : ¬ D.length + b.length ≤ 1200) (h1 : D.length ≤ 1200) (h2 : b.length ≤ 140737488351232) :
    Calls Try.prog 85 #[.pointer (some ⟨g, 0, none⟩), .slice A b.length c] w fun e w' => e = .returned (.int .i64 10) ∧ w = w' := by
  obtain ⟨hblk, hge, hrow⟩ := h
  obtain ⟨Ad, cd, rfl, hlc, hrd⟩ := Kd.R_reads hrow
  have hc0 : w.cell? ⟨g, 0, none⟩ = some (.slice Ad D.length cd) := (blk_cell hblk 0).trans rfl
  have ht : decide (1200 < (D.length : Int) + (b.length : Int)) = true := decide_eq_true (by omega)
  clear hrow hblk hrd
  go_enter Try.func85, Try.ntmps85
  go_wp2
  go_ret
  exact ⟨rfl, rfl⟩

set_option maxHeartbeats 1000000 in
theorem Sync_calls (w : World) (base g : Nat) (v : Value) (D : List Int) (s : Int) (h : At w base g v D s) :
    Calls Try.prog 86 #[.pointer (some ⟨g, 0, none⟩)] w fun e w' => e = .returned (.tuple #[]) ∧ At w' base g v D D.length ∧ Eff w w' base g := by
  have HAt := Aside0.mk h
  obtain ⟨hblk, hge, hrow⟩ := h
  obtain ⟨Ad, cd, rfl, hlc, hrd⟩ := Kd.R_reads hrow
  have hc0 : w.cell? ⟨g, 0, none⟩ = some (.slice Ad D.length cd) := (blk_cell hblk 0).trans rfl
  have hc1 : w.cell? ⟨g, 1, none⟩ = some (.int .i64 s) := (blk_cell hblk 1).trans rfl
  have hf1 := blk_frozen hblk 1
  have hfin := Aside0.mk (show At (w.setCell ⟨g, 1, none⟩ (.int .i64 D.length)) base g _ D D.length ∧ Eff w (w.setCell ⟨g, 1, none⟩ (.int .i64 D.length)) base g from ⟨⟨by simpa using blk_set hblk 1 (.int .i64 D.length), hge, Kd.R_far hrow (fun k hk => hk) _⟩, Eff.set w base g 1 _ hge⟩)
  clear hrow hblk hrd
  go_enter Try.func86, Try.ntmps86
  go_wp2
  go_end0
  exact ⟨rfl, hfin.out⟩

set_option maxHeartbeats 1000000 in
theorem Trim_calls (w : World) (base g : Nat) (v : Value) (D : List Int) (s n : Int) (h : At w base g v D s) (h0 : 0 ≤ n) (h1 : n ≤ D.length) (hd : D.length ≤ 1200) :
    Calls Try.prog 87 #[.pointer (some ⟨g, 0, none⟩), .int .i64 n] w fun e w' => e = .returned (.tuple #[]) ∧ (∃ v', At w' base g v' (D.take n.toNat) n) ∧ Eff w w' base g := by
  have HAt := Aside0.mk h
  obtain ⟨hblk, hge, hrow⟩ := h
  obtain ⟨Ad, cd, rfl, hlc, hrd⟩ := Kd.R_reads hrow
  have hc0 : w.cell? ⟨g, 0, none⟩ = some (.slice Ad D.length cd) := (blk_cell hblk 0).trans rfl
  have hc1 : w.cell? ⟨g, 1, none⟩ = some (.int .i64 s) := (blk_cell hblk 1).trans rfl
  have hf0 := blk_frozen hblk 0
  have hf1 := blk_frozen hblk 1
  have hb0 := decide_eq_true h0
  clear hrow hblk hrd
  have hfin := Aside0.mk (show At ((w.setCell ⟨g, 0, none⟩ (.slice Ad n.toNat cd)).setCell ⟨g, 1, none⟩ (.int .i64 n)) base g (.slice Ad n.toNat cd) (D.take n.toNat) n ∧ Eff w ((w.setCell ⟨g, 0, none⟩ (.slice Ad n.toNat cd)).setCell ⟨g, 1, none⟩ (.int .i64 n)) base g from
    ⟨⟨by simpa using blk_set (blk_set HAt.out.blk 0 (.slice Ad n.toNat cd)) 1 (.int .i64 n), hge, Kd.R_far (Kd.R_far (Kd.R_take HAt.out.row (by omega)) (fun k hk => hk) _) (fun k hk => hk) _⟩, (Eff.set w base g 0 _ hge).trans (Eff.set _ base g 1 _ hge)⟩)
  go_enter Try.func87, Try.ntmps87
  go_wp2
  go_end0
  exact ⟨rfl, ⟨_, hfin.out.1⟩, hfin.out.2⟩

/-- Behind a fall that leaves n bytes that are not synced: how many bytes there are. -/
def fallTo (len s n : Int) : Int := s + (if len - s < n then len - s else n)
theorem fallTo_range {len s n : Int} (h0 : 0 ≤ s) (h1 : s ≤ len) (h2 : 0 ≤ n) : 0 ≤ fallTo len s n ∧ fallTo len s n ≤ len := by unfold fallTo; split <;> omega

theorem At.drew {w : World} {base g : Nat} {v : Value} {D : List Int} {s : Int} (h : At w base g v D s) : At w.drew base g v D s := ⟨h.blk, h.ge, Kd.R_drew h.row⟩
theorem At.drewN {w : World} {base g : Nat} {v : Value} {D : List Int} {s : Int} (h : At w base g v D s) (n : Nat) : At (w.drewN n) base g v D s := ⟨h.blk, h.ge, Kd.R_drewN h.row n⟩

set_option maxRecDepth 100000 in
set_option maxHeartbeats 1000000 in
theorem Fall_calls (w : World) (base g : Nat) (v : Value) (D : List Int) (s n : Int) (h : At w base g v D s) (hs0 : 0 ≤ s) (hs1 : s ≤ D.length) (h0 : 0 ≤ n) (hd : D.length ≤ 1200) :
    Calls Try.prog 88 #[.pointer (some ⟨g, 0, none⟩), .int .i64 n] w fun e w' => e = .returned (.tuple #[]) ∧ (∃ v', At w' base g v' (D.take (fallTo D.length s n).toNat) (fallTo D.length s n)) ∧ Eff w w' base g := by
  have HAt := Aside0.mk h
  have hr := fallTo_range hs0 hs1 h0
  have HT := Aside0.mk (Trim_calls w.drew base g v D s (fallTo D.length s n) h.drew hr.1 hr.2 hd)
  obtain ⟨hblk, hge, hrow⟩ := h
  obtain ⟨Ad, cd, rfl, hlc, hrd⟩ := Kd.R_reads hrow
  have hc0 : w.cell? ⟨g, 0, none⟩ = some (.slice Ad D.length cd) := (blk_cell hblk 0).trans rfl
  have hc1 : w.cell? ⟨g, 1, none⟩ = some (.int .i64 s) := (blk_cell hblk 1).trans rfl
  clear hrow hblk hrd
  have hw1 : IntKind.i64.wrap ((D.length : Int) - s) = (D.length : Int) - s := IntWalk.i64_in _ (by omega)
  have hw2 : IntKind.i64.wrap (s + if (D.length : Int) - s < n then (D.length : Int) - s else n) = fallTo D.length s n := by
    unfold fallTo; apply IntWalk.i64_in; split <;> omega
  go_enter Try.func88, Try.ntmps88
  go_wp2_with fail
  go_still_tail 18, (by kernel_rfl)
  change wpList _ _ _ _ _ w.drew

  clear hw1 hw2
  go_wp2_with (go_at_call 87; refine HT.out.mono ?_; rintro e w1 ⟨rfl, ⟨v1, hA1⟩, hE⟩; have HA1 := Aside0.mk hA1; have HE := Aside0.mk hE; clear hA1 hE)
  all_goals (go_end0; exact ⟨rfl, ⟨v1, HA1.out⟩, (Eff.drewN w base g 1).trans HE.out⟩)

/-- What a move comes to: its code, the bytes, how many of them are synced. -/
def step (k : Int) (b : List Int) (n : Int) (D : List Int) (s : Int) : Int × List Int × Int :=
  if k = 1 then (if D.length + b.length ≤ 1200 then (0, D ++ b, s) else (10, D, s))
  else if k = 2 then (0, D, D.length)
  else if k = 3 then (if n < 0 ∨ (D.length : Int) < n then (2, D, s) else (0, D.take n.toNat, n))
  else if k = 4 then (if n < 0 then (2, D, s) else (0, D.take (fallTo D.length s n).toNat, fallTo D.length s n))
  else (3, D, s)

end Go.Proofs.Ytmfkgbncnaingaa.Disk
