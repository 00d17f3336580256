/- 21 texts of this family in one. -/
import Derived.Test.YtmfkgbncnaingaaGRows
import Derived.Test.YtmfkgbncnaingaaGWal
import Derived.Lib.AppendStr
import Derived.Deep.RegionHeld3
import Derived.Deep.RegionWith
import Derived.StillTailTactics
import Derived.Laws.Strings
import Derived.Test.YtmfkgbncnaingaaProg
import Derived.Below
import Derived.Deep.Draws
import Derived.Deep.AppendLies
import Derived.Maps.AppendAt
import Derived.OwnWalk
import Derived.Laws.BytesArg
import Derived.Laws.MakeOwn
import Derived.Laws.OwnMore
import Derived.Deep.OwnRows
import Derived.Tactics
import Derived.Lib.ConvBytes
import Derived.Laws.Slices
import Derived.WalkKit
import Derived.KernelRfl
import Derived.RowKit3
import Derived.Deep.LoopGhost
import Derived.Deep.QuietTactic
import Derived.BigQuiet
import Derived.WideLaws
import Derived.Deep.DeepCutAuto
import Derived.Deep.CutBlock
import Derived.Laws.Rows
import Derived.ArgAppend
import Derived.Laws.IdiomCopy
import Derived.OrdersHeld
import Derived.Laws.BitsLemmas
import Derived.RowKit
import Derived.Laws.Cover1
import Derived.Test.YtmfkgbncnaingaaWWords
import Derived.Test.YtmfkgbncnaingaaWLast
import Derived.Test.YtmfkgbncnaingaaWTab
import Derived.Test.YtmfkgbncnaingaaWFour
import Derived.Test.YtmfkgbncnaingaaWQPut
import Derived.Test.YtmfkgbncnaingaaWApart
import Derived.Test.YtmfkgbncnaingaaWArr
import Derived.Test.YtmfkgbncnaingaaWZeros
import Derived.Test.YtmfkgbncnaingaaWFoot
import Derived.Test.YtmfkgbncnaingaaWKept
import Derived.Test.YtmfkgbncnaingaaWShare
import Derived.Test.YtmfkgbncnaingaaWN
import Derived.Test.YtmfkgbncnaingaaWFootNe
import Derived.Test.YtmfkgbncnaingaaWAt
import Derived.Test.YtmfkgbncnaingaaWEqStruct
import Derived.Test.YtmfkgbncnaingaaWRepsOne
import Derived.Test.YtmfkgbncnaingaaWInv
import Derived.Test.YtmfkgbncnaingaaWInvWords
import Derived.Test.YtmfkgbncnaingaaWGuard
import Derived.Test.YtmfkgbncnaingaaWNEv
import Derived.Test.YtmfkgbncnaingaaWMore
import Derived.Deep.Slices
import Derived.Deep.Fields

section
/- The record of a row. -/
namespace Go.Proofs.Ytmfkgbncnaingaa.Sto
open Go.Lib (strCells run_append_own_string run_append_grow_string)
open Go.RowKit Go.Proofs.Ytmfkgbncnaingaa.Reg Go.Proofs.Ytmfkgbncnaingaa.QRows Go.Proofs.Ytmfkgbncnaingaa.Rows Go.Proofs.YtmfkgbncnaingaaW.PrintWords Go.Proofs.YtmfkgbncnaingaaW.PrintLast Go.Proofs.YtmfkgbncnaingaaW.PrintMore
set_option linter.unusedVariables false
set_option linter.unusedSimpArgs false

/-- The record of a row: the length of its key, the key, the value. -/
def recOf (x : S67) : List Int := (x.f0.size : Int) :: (bytesOf x.f0 ++ bytesOf x.f1)

/-- A row of bytes of the call's own. -/
def FRow (B : Nat) (l : List Int) (v : Value) (w : World) : Prop := (Kd.int .u8).R 5 w B (fun _ => True) v l
theorem FRow.last {B : Nat} {l : List Int} {v : Value} {w w' : World} (h : FRow B l v w) (hb : Below w.heap.size w w') : FRow B l v w' := Kd.R_below h hb

def F1 (B g : Nat) (x : S67) : Nat → Value → World → Prop
  | 0 => FIs (.pointer (some ⟨g, 0, none⟩))
  | 1 => FIs (.string x.f0)
  | 2 => FIs (.int .i64 x.f0.size)
  | 3 => FIs (.int .u8 x.f0.size)
  | 4 => FLit B #[.int .u8 x.f0.size] 5 1
  | 5 => FIs (.pointer (some ⟨g, 0, none⟩))
  | 6 => FIs (.string x.f0)
  | 7 => FRow B ((x.f0.size : Int) :: bytesOf x.f0)
  | 8 => FIs (.pointer (some ⟨g, 1, none⟩))
  | _ => FIs (.string x.f1)
theorem F1.last {B g : Nat} {x : S67} (k : Nat) (v : Value) (w w' : World) (h : F1 B g x k v w) (hb : Below w.heap.size w w') : F1 B g x k v w' := by
  unfold F1 at *
  split at h <;> first | exact FIs.last h hb | exact FLit.last h hb | exact FRow.last h hb

theorem info5u : (Try.prog.info? 5).map (fun i => (i.zero, i.size, i.bytes)) = some (some (.int .u8 0), 1, 1) := by kernel_rfl
theorem under9 : Try.prog.underlying 9 = some .string := by kernel_rfl
set_option maxRecDepth 100000 in
/-- append([]byte{n}, s...), s not empty: a new row. -/
theorem append_first (w : World) (B g : Nat) (n : Int) (s : ByteArray) (hg : w.heap[g]? = some (.cells #[.int .u8 n] 5 (0, 0))) (hB : B ≤ g) (h1 : 1 ≤ s.size) (h2 : s.size ≤ 1000) (ty : TypeId) :
    ∃ v' w', (Builtin.append_ #[25, 9] ty #[.slice (some ⟨g, 0, none⟩) 1 1, .string s]).run Try.prog w = .ok v' w' ∧ FRow B (n :: bytesOf s) v' w' ∧ Below w.heap.size w w' := by
  obtain ⟨i0, hi, hzz⟩ := Option.map_eq_some_iff.1 info5u
  simp only [Prod.mk.injEq] at hzz
  obtain ⟨hz0, hz1, hz2⟩ := hzz
  have hlt := (Array.getElem?_eq_some_iff.1 hg).1
  have hown : w.ownsRow B 5 1 (.slice (some ⟨g, 0, none⟩) 1 1) 1 [.int .u8 n] := by
    refine ⟨rfl, .inr ⟨g, 1, #[.int .u8 n], rfl, hB, hg, Nat.le_refl _, by decide, rfl, rfl⟩⟩
  have hA := run_append_own_string (P := Try.prog) (w := w) B 25 9 ty 5 i0 Try.underlying25 under9 hi hz0 hz1 hz2 (.slice (some ⟨g, 0, none⟩) 1 1) 1 [.int .u8 n] hown s (by show 1 + s.size ≤ 9223372036854775807; omega) (by omega) (by omega)
  have hG := run_append_grow_string (P := Try.prog) (w := w) 25 9 ty 5 i0 (.int .u8 0) Try.underlying25 under9 hi hz0 ⟨g, 0, none⟩ 1 1 [.int .u8 n] (by rw [hz1]; rfl) (fun j v hj => by
    cases j with
    | zero => injection hj with hj; subst hj; simp [World.cell?, hg, Addr.add]
    | succ j => cases hj) s (by omega) (by omega) (growslice_fits (by omega) (by rw [hz2]; omega))
  obtain ⟨v', w', hr, ho, hgr, -⟩ := hA
  refine ⟨v', w', hr, ?_, ?_⟩
  · refine Kd.R_of_own (xs := n :: bytesOf s) ?_ (fun _ _ => trivial)
    have e1 : (n :: bytesOf s).length = 1 + s.size := by rw [List.length_cons, bytesOf_length]; omega
    have e2 : encs (Value.int .u8) (n :: bytesOf s) = [.int .u8 n] ++ strCells s := by simp [encs, bytesOf, strCells]
    rw [e1, e2]; exact ho
  · rw [hG] at hr
    injection hr with e1 e2
    subst e2
    exact below_alloc (Below.refl _ _).drew _

section
variable {P : Program} {ops : Array Oper} {rest : List Oper} {o : Oper} {a : Act} {Q : Exit → Act → World → Prop}
/-- append([]byte, s...), s a string: the row in Kd's words. -/
theorem R_append_str {w0 W : World} (base : Nat) (hgd : o.guard = none) (s x : Operand) (t u e : TypeId)
    (ho : o.op = .call { callee := .builtin .append, args := #[s, x], argTypes := #[t, u] })
    (ht : P.underlying t = some (.slice e)) (hu : P.underlying u = some .string) (hinfo : (P.info? e).map (fun i => (i.zero, i.size, i.bytes)) = some (some (.int .u8 0), 1, 1))
    (v : Value) (xs : List Int) (y : ByteArray) (hs : a.eval s = v) (hx : a.eval x = .string y) {ok : Nat → Prop}
    (HO : (Kd.int .u8).R e W base ok v xs) (HB : Below base w0 W) (hbase : base ≤ W.heap.size) (hl : xs.length + y.size ≤ 140737488355328)
    (h : ∀ v1 w1, (Kd.int .u8).R e w1 base (fun _ => True) v1 (xs ++ bytesOf y) → Below base w0 w1 → W.grownBy w1 v.ownBlock → wpList P ops Q rest (a.put o.dst v1) w1) :
    wpList P ops Q (o :: rest) a W := by
  have hown := Kd.own_of_R HO
  have hn : encs (Value.int .u8) xs = nums .u8 xs := rfl
  rw [hn] at hown
  refine print_append_str base hgd s x t u e ho ht hu hinfo v xs y hs hx hown HB hbase hl ?_
  intro v1 w1 h1 h2 h3
  exact h v1 w1 (Kd.R_of_own (xs := xs ++ bytesOf y) h1 (fun _ _ => trivial)) h2 h3
end
set_option maxRecDepth 100000 in
set_option maxHeartbeats 4000000 in
theorem record_calls (x : S67) (w : World) (h0 : 1 ≤ x.f0.size) (h1 : x.f0.size ≤ 20) (h2 : x.f1.size ≤ 20) :
    Calls Try.prog 100 #[.agg #[.string x.f0, .string x.f1]] w fun e w' => ∃ v, e = .returned v ∧ (Kd.int .u8).R 5 w' w.heap.size (fun _ => True) v (recOf x) ∧ Below w.heap.size w w' := by
  obtain ⟨ks, vs⟩ := x
  dsimp only at *
  have hk1 : IntKind.u8.wrap (ks.size : Int) = (ks.size : Int) := by rw [IntKind.wrap_u8]; omega
  go_enter Try.func100, Try.ntmps100
  go_wp2
  have hblk : (w.alloc (.cells #[.string ks, .string vs] 67)).heap[w.heap.size]? = some (.cells #[.string ks, .string vs] 67 (0, 0)) := new_block _ _
  have HB0 := Aside0.mk (show Below w.heap.size w (w.alloc (.cells #[.string ks, .string vs] 67)) from below_alloc (Below.refl _ _) _)
  generalize w.alloc (.cells #[.string ks, .string vs] 67) = w0 at *
  have HBlk := Aside0.mk hblk
  obtain ⟨z, hz⟩ : ∃ z, z = w.heap.size := ⟨_, rfl⟩
  rw [← hz] at HBlk
  have HZ := Aside0.mk hz
  have HS := Aside0.mk (And.intro h0 h1)
  clear hblk hz
  simp only [← HZ.out]
  refine region_facts (by kernel_rfl) 10 (F1 w0.heap.size z ⟨ks, vs⟩) (by kernel_rfl) F1.last ?_ ?_
  · refine ⟨?_, ?_, ?_, ?_, ?_, ?_, ?_, ?_, ?_, ?_, trivial⟩
    · intro ev w1 hb hc hf hg hbase hdep
      refine ⟨fun _ => ?_, fun h => absurd trivial h⟩
      have e0 : ev (.tmp 1) = .pointer (some ⟨z, 0, none⟩) := hbase 1 (by decide)
      unfold Gives
      go_simp
      exact ⟨rfl, Below.refl _ _⟩
    · intro ev w1 hb hc hf hg hbase hdep
      refine ⟨fun _ => ?_, fun h => absurd trivial h⟩
      have e1 : ev (.tmp 3) = .pointer (some ⟨z, 0, none⟩) := hdep 0 (by decide)
      have hq : w1.cell? ⟨z, 0, none⟩ = some (.string ks) := cell_below (by simp [World.cell?, HBlk.out]) hb
      unfold Gives
      go_simp
      exact ⟨rfl, Below.refl _ _⟩
    · intro ev w1 hb hc hf hg hbase hdep
      refine ⟨fun _ => ?_, fun h => absurd trivial h⟩
      have e1 : ev (.tmp 4) = .string ks := hdep 1 (by decide)
      unfold Gives
      go_simp
      exact ⟨rfl, Below.refl _ _⟩
    · intro ev w1 hb hc hf hg hbase hdep
      refine ⟨fun _ => ?_, fun h => absurd trivial h⟩
      have e1 : ev (.tmp 5) = .int .i64 ks.size := hdep 2 (by decide)
      unfold Gives
      go_simp
      exact ⟨rfl, Below.refl _ _⟩
    · intro ev w1 hb hc hf hg hbase hdep
      refine ⟨fun _ => ?_, fun h => absurd trivial h⟩
      have e1 : ev (.tmp 6) = .int .u8 ks.size := hdep 3 (by decide)
      unfold Gives
      go_simp
      exact ⟨⟨_, rfl, hb.size, new_block _ _⟩, below_alloc (Below.refl _ _) _⟩
    · intro ev w1 hb hc hf hg hbase hdep
      refine ⟨fun _ => ?_, fun h => absurd trivial h⟩
      have e0 : ev (.tmp 1) = .pointer (some ⟨z, 0, none⟩) := hbase 1 (by decide)
      unfold Gives
      go_simp
      exact ⟨rfl, Below.refl _ _⟩
    · intro ev w1 hb hc hf hg hbase hdep
      refine ⟨fun _ => ?_, fun h => absurd trivial h⟩
      have e1 : ev (.tmp 8) = .pointer (some ⟨z, 0, none⟩) := hdep 5 (by decide)
      have hq : w1.cell? ⟨z, 0, none⟩ = some (.string ks) := cell_below (by simp [World.cell?, HBlk.out]) hb
      unfold Gives
      go_simp
      exact ⟨rfl, Below.refl _ _⟩
    · intro ev w1 hb hc hf hg hbase hdep
      refine ⟨fun _ => ?_, fun h => absurd trivial h⟩
      obtain ⟨g, e1, hg0, hg1⟩ : FLit w0.heap.size #[.int .u8 ks.size] 5 1 (ev (.tmp 7)) w1 := hdep 4 (by decide)
      have e2 : ev (.tmp 9) = .string ks := hdep 6 (by decide)
      obtain ⟨v', w', hr, hF, hBe⟩ := append_first w1 w0.heap.size g ks.size ks hg1 hg0 HS.out.1 (by have := HS.out.2; omega) 25
      exact gives_append (sl := .tmp 7) (x := .tmp 9) (t := 25) (u := 9) rfl (by rw [e1, e2]; exact hr) ⟨hF, hBe⟩
    · intro ev w1 hb hc hf hg hbase hdep
      refine ⟨fun _ => ?_, fun h => absurd trivial h⟩
      have e0 : ev (.tmp 1) = .pointer (some ⟨z, 0, none⟩) := hbase 1 (by decide)
      unfold Gives
      go_simp
      exact ⟨rfl, Below.refl _ _⟩
    · intro ev w1 hb hc hf hg hbase hdep
      refine ⟨fun _ => ?_, fun h => absurd trivial h⟩
      have e1 : ev (.tmp 11) = .pointer (some ⟨z, 1, none⟩) := hdep 8 (by decide)
      have hq : w1.cell? ⟨z, 1, none⟩ = some (.string vs) := cell_below (by simp [World.cell?, HBlk.out]) hb
      unfold Gives
      go_simp
      exact ⟨rfl, Below.refl _ _⟩
  · intro y w1 hb hbase hF
    have e10 : FRow w0.heap.size ((ks.size : Int) :: bytesOf ks) (y 10) w1 := hF 7 (by decide)
    have e12 : y 12 = .string vs := hF 9 (by decide)
    have e0 : y 0 = .agg #[.string ks, .string vs] := hbase 0 (by decide)
    have e1 : y 1 = .pointer (some ⟨z, 0, none⟩) := hbase 1 (by decide)
    have e2 : y 2 = .slice none 0 0 := hbase 2 (by decide)
    have e13 : y 13 = undef := hbase 13 (by decide)
    simp only [List.drop_succ_cons, List.drop_zero, List.size_toArray, List.length_cons, List.length_nil, Nat.reduceAdd, List.range, List.range.loop, List.map_cons, List.map_nil, e12, e0, e1, e2, e13]
    have HR := Aside0.mk e10
    have HB1 := Aside0.mk (HB0.out.trans (hb.mono HB0.out.size))
    have HSZ := Aside0.mk hb.size
    clear hF hbase e12 e0 e1 e2 e13 e10 hb
    go_wp2_with (at_builtin; refine R_append_str (w0 := w) w.heap.size rfl (.tmp 10) (.tmp 12) 25 9 5 rfl Try.underlying25 under9 info5u _ ((ks.size : Int) :: bytesOf ks) vs rfl rfl (Kd.R_lower HR.out HB0.out.size) HB1.out HB1.out.size (by have := HS.out.2; simp [bytesOf_length]; omega) ?_; intro v2 w2 ho hb _; have HO := Aside0.mk ho; have HB2 := Aside0.mk hb; clear ho hb)
    go_ret
    exact ⟨_, rfl, HO.out, HB2.out⟩

end Go.Proofs.Ytmfkgbncnaingaa.Sto
end

section
/- The bytes of a batch of rows. -/
namespace Go.Proofs.Ytmfkgbncnaingaa.Sto
open Go.RowKit Go.Proofs.Ytmfkgbncnaingaa.Reg Go.Proofs.Ytmfkgbncnaingaa.QRows Go.Proofs.Ytmfkgbncnaingaa.Rows Go.Proofs.Ytmfkgbncnaingaa.Wal Go.Proofs.YtmfkgbncnaingaaW.PrintWords Go.Proofs.YtmfkgbncnaingaaW.PrintLast Go.Proofs.YtmfkgbncnaingaaW.PrintMore
set_option linter.unusedVariables false
set_option linter.unusedSimpArgs false

/-- A row that may be written. -/
def Wr (x : S67) : Prop := 1 ≤ x.f0.size ∧ x.f0.size ≤ 20 ∧ x.f1.size ≤ 20
theorem bytesOf_bytes (s : ByteArray) : ∀ y ∈ bytesOf s, 0 ≤ y ∧ y < 256 := by
  intro y hy
  obtain ⟨b, _, rfl⟩ := List.mem_map.1 hy
  have := b.toNat_lt
  omega
theorem recOf_fit {l : List S67} (h : ∀ x ∈ l, Wr x) : Fit (l.map recOf) := by
  intro r hr
  obtain ⟨x, hx, rfl⟩ := List.mem_map.1 hr
  obtain ⟨h1, h2, h3⟩ := h x hx
  refine ⟨by simp [recOf, bytesOf_length]; omega, fun y hy => ?_⟩
  rcases List.mem_cons.1 hy with rfl | hy
  · omega
  · rcases List.mem_append.1 hy with hy | hy <;> exact bytesOf_bytes _ y hy
theorem info25 : (Try.prog.info? 25).map (fun i => (i.zero, i.size, i.bytes)) = some (some (.slice none 0 0), 1, 24) := by kernel_rfl

/-- What an append of a new record asks. -/
structure Recd (w wr w2 : World) (u v : Value) (outs : List (List Int)) (r : List Int) : Prop where
  row : k2.M w2 w.heap.size (fun k => wr.heap.size ≤ k) r [v]
  okp : ∀ k, wr.heap.size ≤ k → True ∧ some k ≠ u.ownBlock
  outs : k2.R 25 w2 w.heap.size (fun _ => True) u outs
  below : Below w.heap.size w w2
theorem recd {w wr w2 : World} {u v : Value} {outs : List (List Int)} {r : List Int} {o : Obj} (hO : k2.R 25 wr w.heap.size (fun _ => True) u outs) (hW : Below w.heap.size w wr) (hv : (Kd.int .u8).R 5 w2 (wr.alloc o).heap.size (fun _ => True) v r) (hb : Below (wr.alloc o).heap.size (wr.alloc o) w2) : Recd w wr w2 u v outs r := by
  have hs : (wr.alloc o).heap.size = wr.heap.size + 1 := by simp
  have hz := hW.size
  have hb2 : Below wr.heap.size wr w2 := (below_alloc (Below.refl _ _) o).trans (hb.mono (by omega))
  refine ⟨Kd.M_row (Kd.R_lower (Kd.R_mono (Kd.R_bound hv) (fun k hk => by have := hk.2.1; omega)) (by omega)), fun k hk => ⟨trivial, fun e => by have := Kd.R_lt hO k e.symm; omega⟩, Kd.R_below hO hb2, hW.trans (hb2.mono hz)⟩

set_option maxRecDepth 100000 in
set_option maxHeartbeats 4000000 in
theorem batch_calls (A0 : Option Addr) (c0 : Nat) (l : List S67) (w : World) (hr : k67.C w A0 l.length l) (hl : l.length ≤ 100) (hs : ∀ x ∈ l, Wr x) :
    Calls Try.prog 97 #[.slice A0 l.length c0] w fun e w' => ∃ v, e = .returned v ∧ (Kd.int .u8).R 5 w' w.heap.size (fun _ => True) v (ofGo (l.map recOf)) ∧ Below w.heap.size w w' := by
  have HR := Aside0.mk hr
  have HS := Aside0.mk hs
  have HL := Aside0.mk hl
  clear hr hs hl
  go_enter Try.func97, Try.ntmps97
  go_wp2
  go_loopg [3, 8] (l.length) (fun kq v3 v8 wr => ∃ (i : Nat), v8 = .int .i64 i ∧ Aside0 (kq + i = l.length) ∧ Aside0 (k2.R 25 wr w.heap.size (fun _ => True) v3 ((l.take i).map recOf)) ∧ Aside0 (Below w.heap.size w wr))
  case atStart => exact ⟨0, rfl, ⟨by omega⟩, ⟨Kd.R_nil _ _ _ _ _⟩, ⟨Below.refl _ _⟩⟩
  case round =>
    obtain ⟨i, rfl, hK, hO, hW⟩ := hrel
    by_cases hlt : i < l.length
    · have hb1 : (i : Int) < (l.length : Int) := by omega
      have hwi : IntKind.i64.wrap ((i : Int) + 1) = (i : Int) + 1 := by have := HL.out; rw [IntKind.wrap_i64]; omega
      obtain ⟨ad, rfl, hx0, hx1⟩ := at_T67 (Kd.C_below HR.out hW.out) (i : Int) (by omega) hb1
      have hel : rd_T67 l (i : Int) = l[i] := by simp [rd_T67, List.getD_eq_getElem?_getD, hlt]
      rw [hel] at hx0 hx1
      rw [Int.toNat_natCast] at hx0 hx1
      have HWr := Aside0.mk (HS.out _ (List.getElem_mem hlt))
      have HN : Aside0 ((l.take (i + 1)).map recOf = (l.take i).map recOf ++ [recOf l[i]]) := Aside0.mk (by rw [List.take_succ_eq_append_getElem hlt, List.map_append, List.map_singleton])
      have HLen : Aside0 (((l.take i).map recOf).length = i) := Aside0.mk (by rw [List.length_map, List.length_take]; omega)
      generalize l[i] = x at *
      clear hel
      have HRec := fun w => Aside0.mk (record_calls x w HWr.out.1 HWr.out.2.1 HWr.out.2.2)
      generalize recOf x = r at *
      generalize (l.take i).map recOf = outs at *
      go_wp2_with (first | (go_at_call 100; refine (HRec _).out.mono ?_; rintro e w2 ⟨v, rfl, hv, hb⟩; obtain ⟨A3, c3, rfl, _, _⟩ := Kd.R_reads hv; have HX := Aside0.mk (recd hO.out hW.out hv hb); clear hv hb) | (at_builtin; refine Kd.R_append (Kd.slice 5 (Kd.int .u8)) (w0 := w) w.heap.size rfl (.tmp 12) (.tmp 15) 53 25 (.slice none 0 0) 24 rfl Try.underlying53 info25 rfl (by decide) (by omega) _ outs r [.slice A3 r.length c3] (fun _ => True) (fun k_ => wr.heap.size ≤ k_) rfl (by first | (go_simp; done) | (go_simp; rfl)) HX.out.row HX.out.okp (fun _ _ => trivial) HX.out.outs HX.out.below HX.out.below.size (by have := HLen.out; have := HL.out; omega) ?_; intro v4 w4 h4 hb4 _ _; have H4 := Aside0.mk h4; have HB4 := Aside0.mk hb4; clear h4 hb4))
      go_roundg (gk - 1)
      case measure => have := hK.out; omega
      case rel => exact ⟨i + 1, by go_num, ⟨by have := hK.out; omega⟩, ⟨by rw [HN.out]; exact H4.out⟩, HB4⟩
    · have hE : Aside0 ((l.take i).map recOf = l.map recOf) := Aside0.mk (by rw [List.take_of_length_le (by omega)])
      rw [hE.out] at hO
      have hlen : (l.map recOf).length = l.length := List.length_map _
      have HF := Aside0.mk (recOf_fit HS.out)
      have HOf := fun A c w h => Aside0.mk (Of_calls A c (l.map recOf) w h (by have := HL.out; omega) HF.out)
      obtain ⟨A, c, rfl, hc, -⟩ := Kd.R_reads hO.out
      have HC := Aside0.mk (Kd.R_reads' hO.out).2.2
      generalize hrs : l.map recOf = rs at *
      have HRS := Aside0.mk hrs
      clear hrs
      clear hlen hc
      go_wp2_with (go_at_call 62; refine (HOf _ _ _ HC.out).out.mono ?_; rintro e w3 ⟨v, rfl, hv, hb⟩; have HV := Aside0.mk (Kd.R_lower hv hW.out.size); have HB := Aside0.mk (hW.out.trans (hb.mono hW.out.size)); clear hv hb)
      go_ret
      exact ⟨_, rfl, by rw [HRS.out]; exact HV.out, HB.out⟩

end Go.Proofs.Ytmfkgbncnaingaa.Sto
end

section
/- The methods of a disk that lies in a store. -/
namespace Go.Proofs.Ytmfkgbncnaingaa.Sto
open Go.Proofs.Ytmfkgbncnaingaa.Disk (Eff fallTo fallTo_range)
open Go.RowKit Go.Proofs.Ytmfkgbncnaingaa.QRows Go.Proofs.YtmfkgbncnaingaaW.PrintWords Go.Proofs.YtmfkgbncnaingaaW.PrintLast Go.Proofs.YtmfkgbncnaingaaW.PrintMore
attribute [local go_sem] max2_int min2_int max_two min_two
set_option linter.unusedVariables false
set_option linter.unusedSimpArgs false

/-- A disk at block g: its bytes lie in a row of the call's own, apart from g. -/
structure Dk (rv : Value) (w : World) (base g : Nat) (v : Value) (D : List Int) (s : Int) : Prop where
  blk : w.heap[g]? = some (.cells #[v, .int .i64 s, rv] 117 (0, 0))
  ge : base ≤ g
  row : (Kd.int .u8).R 5 w base (fun k => k ≠ g) v D

theorem stored {rv : Value} {w w1 : World} {base g : Nat} {v v1 : Value} {D D1 : List Int} {s : Int} (h : Dk rv w base g v D s) (ho : (Kd.int .u8).R 5 w1 base (fun k => k ≠ g) v1 D1) (hg : w.grownBy w1 v.ownBlock) :
    Dk rv (w1.setCell ⟨g, 0, none⟩ v1) base g v1 D1 s ∧ Eff w (w1.setCell ⟨g, 0, none⟩ v1) base g := by
  have hb1 : w1.heap[g]? = _ := blk_grown h.blk hg (Kd.R_ne h.row h.blk (by decide))
  exact ⟨⟨by simpa using blk_set hb1 0 v1, h.ge, Kd.R_far ho (fun k hk => hk) v1⟩, (Eff.grown h.row hg).trans (Eff.set w1 base g 0 v1 h.ge)⟩

set_option maxHeartbeats 1000000 in
theorem Write_calls (rv : Value) (w : World) (base g : Nat) (v : Value) (D b : List Int) (s : Int) (A : Option Addr) (c : Nat) (h : Dk rv w base g v D s) (hb : (Kd.int .u8).C w A b.length b) (hs : D.length + b.length ≤ 1200) :
    Calls Try.prog 85 #[.pointer (some ⟨g, 0, none⟩), .slice A b.length c] w fun e w' => ∃ v', e = .returned (.int .i64 0) ∧ Dk rv w' base g v' (D ++ b) s ∧ Eff w w' base g := by
  have HAt := Aside0.mk h
  obtain ⟨hblk, hge, hrow⟩ := h
  obtain ⟨Ad, cd, rfl, hlc, hrd⟩ := Kd.R_reads hrow
  have hc0 : w.cell? ⟨g, 0, none⟩ = some (.slice Ad D.length cd) := (blk_cell hblk 0).trans rfl
  have ht : decide (1200 < (D.length : Int) + (b.length : Int)) = false := decide_eq_false (by omega)
  have HR := Aside0.mk hrow
  have HB := Aside0.mk hblk
  have HC := Aside0.mk hb
  have hgl := blk_lt hblk
  clear hrow hblk hrd hb
  go_enter Try.func85, Try.ntmps85
  go_wp2_with (first | ((with_reducible refine gate_builtin (b := .append) (xs := #[.tmp 18, .tmp 19]) rfl ?_); at_builtin; refine Kd.R_append_rows (Kd.int .u8) (w0 := w) base rfl (.tmp 18) (.tmp 19) 25 5 (.int .u8 0) 1 rfl Try.underlying25 Disk.info5 rfl (by decide) (by omega) _ D b _ _ _ (fun k => k ≠ g) (fun _ => False) rfl rfl HR.out HC.out (fun _ _ h => h) (fun _ h => h.elim) (fun k hk => by omega) (Below.refl _ _) (by omega) (by omega) ?_; intro v1 w1 ho _ hg _; obtain ⟨A1, c1, rfl, _, _⟩ := Kd.R_reads ho; have hfin := Aside0.mk (stored HAt.out ho hg); have hb1 := blk_grown HB.out hg (Kd.R_ne HR.out HB.out (by decide)); have hc1 := (blk_cell hb1 0).trans rfl; have hf1 := blk_frozen hb1 0; clear ho hg hb1))
  go_ret
  have hx := hfin.out
  rw [List.length_append] at hx
  exact ⟨_, rfl, hx⟩

set_option maxHeartbeats 1000000 in
theorem Write_full (rv : Value) (w : World) (base g : Nat) (v : Value) (D b : List Int) (s : Int) (A : Option Addr) (c : Nat) (h : Dk rv w base g v D s) (hs : ¬ D.length + b.length ≤ 1200) (h1 : D.length ≤ 1200) (h2 : b.length ≤ 140737488351232) :
    Calls Try.prog 85 #[.pointer (some ⟨g, 0, none⟩), .slice A b.length c] w fun e w' => e = .returned (.int .i64 10) ∧ w = w' := by
  obtain ⟨hblk, hge, hrow⟩ := h
  obtain ⟨Ad, cd, rfl, hlc, hrd⟩ := Kd.R_reads hrow
  have hc0 : w.cell? ⟨g, 0, none⟩ = some (.slice Ad D.length cd) := (blk_cell hblk 0).trans rfl
  have ht : decide (1200 < (D.length : Int) + (b.length : Int)) = true := decide_eq_true (by omega)
  clear hrow hblk hrd
  go_enter Try.func85, Try.ntmps85
  go_wp2
  go_ret
  exact ⟨rfl, rfl⟩

set_option maxHeartbeats 1000000 in
theorem Sync_calls (rv : Value) (w : World) (base g : Nat) (v : Value) (D : List Int) (s : Int) (h : Dk rv w base g v D s) :
    Calls Try.prog 86 #[.pointer (some ⟨g, 0, none⟩)] w fun e w' => e = .returned (.tuple #[]) ∧ Dk rv w' base g v D D.length ∧ Eff w w' base g := by
  have HAt := Aside0.mk h
  obtain ⟨hblk, hge, hrow⟩ := h
  obtain ⟨Ad, cd, rfl, hlc, hrd⟩ := Kd.R_reads hrow
  have hc0 : w.cell? ⟨g, 0, none⟩ = some (.slice Ad D.length cd) := (blk_cell hblk 0).trans rfl
  have hc1 : w.cell? ⟨g, 1, none⟩ = some (.int .i64 s) := (blk_cell hblk 1).trans rfl
  have hf1 := blk_frozen hblk 1
  have hfin := Aside0.mk (show Dk rv (w.setCell ⟨g, 1, none⟩ (.int .i64 D.length)) base g _ D D.length ∧ Eff w (w.setCell ⟨g, 1, none⟩ (.int .i64 D.length)) base g from ⟨⟨by simpa using blk_set hblk 1 (.int .i64 D.length), hge, Kd.R_far hrow (fun k hk => hk) _⟩, Eff.set w base g 1 _ hge⟩)
  clear hrow hblk hrd
  go_enter Try.func86, Try.ntmps86
  go_wp2
  go_end0
  exact ⟨rfl, hfin.out⟩

set_option maxHeartbeats 1000000 in
theorem Trim_calls (rv : Value) (w : World) (base g : Nat) (v : Value) (D : List Int) (s n : Int) (h : Dk rv w base g v D s) (h0 : 0 ≤ n) (h1 : n ≤ D.length) (hd : D.length ≤ 1200) :
    Calls Try.prog 87 #[.pointer (some ⟨g, 0, none⟩), .int .i64 n] w fun e w' => e = .returned (.tuple #[]) ∧ (∃ v', Dk rv w' base g v' (D.take n.toNat) n) ∧ Eff w w' base g := by
  have HAt := Aside0.mk h
  obtain ⟨hblk, hge, hrow⟩ := h
  obtain ⟨Ad, cd, rfl, hlc, hrd⟩ := Kd.R_reads hrow
  have hc0 : w.cell? ⟨g, 0, none⟩ = some (.slice Ad D.length cd) := (blk_cell hblk 0).trans rfl
  have hc1 : w.cell? ⟨g, 1, none⟩ = some (.int .i64 s) := (blk_cell hblk 1).trans rfl
  have hf0 := blk_frozen hblk 0
  have hf1 := blk_frozen hblk 1
  have hb0 := decide_eq_true h0
  clear hrow hblk hrd
  have hfin := Aside0.mk (show Dk rv ((w.setCell ⟨g, 0, none⟩ (.slice Ad n.toNat cd)).setCell ⟨g, 1, none⟩ (.int .i64 n)) base g (.slice Ad n.toNat cd) (D.take n.toNat) n ∧ Eff w ((w.setCell ⟨g, 0, none⟩ (.slice Ad n.toNat cd)).setCell ⟨g, 1, none⟩ (.int .i64 n)) base g from
    ⟨⟨by simpa using blk_set (blk_set HAt.out.blk 0 (.slice Ad n.toNat cd)) 1 (.int .i64 n), hge, Kd.R_far (Kd.R_far (Kd.R_take HAt.out.row (by omega)) (fun k hk => hk) _) (fun k hk => hk) _⟩, (Eff.set w base g 0 _ hge).trans (Eff.set _ base g 1 _ hge)⟩)
  go_enter Try.func87, Try.ntmps87
  go_wp2
  go_end0
  exact ⟨rfl, ⟨_, hfin.out.1⟩, hfin.out.2⟩

theorem Dk.drew {rv : Value} {w : World} {base g : Nat} {v : Value} {D : List Int} {s : Int} (h : Dk rv w base g v D s) : Dk rv w.drew base g v D s := ⟨h.blk, h.ge, Kd.R_drew h.row⟩
theorem Dk.drewN {rv : Value} {w : World} {base g : Nat} {v : Value} {D : List Int} {s : Int} (h : Dk rv w base g v D s) (n : Nat) : Dk rv (w.drewN n) base g v D s := ⟨h.blk, h.ge, Kd.R_drewN h.row n⟩

set_option maxRecDepth 100000 in
set_option maxHeartbeats 1000000 in
theorem Fall_calls (rv : Value) (w : World) (base g : Nat) (v : Value) (D : List Int) (s n : Int) (h : Dk rv w base g v D s) (hs0 : 0 ≤ s) (hs1 : s ≤ D.length) (h0 : 0 ≤ n) (hd : D.length ≤ 1200) :
    Calls Try.prog 88 #[.pointer (some ⟨g, 0, none⟩), .int .i64 n] w fun e w' => e = .returned (.tuple #[]) ∧ (∃ v', Dk rv w' base g v' (D.take (fallTo D.length s n).toNat) (fallTo D.length s n)) ∧ Eff w w' base g := by
  have HAt := Aside0.mk h
  have hr := fallTo_range hs0 hs1 h0
  have HT := Aside0.mk (Trim_calls rv w.drew base g v D s (fallTo D.length s n) h.drew hr.1 hr.2 hd)
  obtain ⟨hblk, hge, hrow⟩ := h
  obtain ⟨Ad, cd, rfl, hlc, hrd⟩ := Kd.R_reads hrow
  have hc0 : w.cell? ⟨g, 0, none⟩ = some (.slice Ad D.length cd) := (blk_cell hblk 0).trans rfl
  have hc1 : w.cell? ⟨g, 1, none⟩ = some (.int .i64 s) := (blk_cell hblk 1).trans rfl
  clear hrow hblk hrd
  have hw1 : IntKind.i64.wrap ((D.length : Int) - s) = (D.length : Int) - s := IntWalk.i64_in _ (by omega)
  have hw2 : IntKind.i64.wrap (s + if (D.length : Int) - s < n then (D.length : Int) - s else n) = fallTo D.length s n := by
    unfold fallTo; apply IntWalk.i64_in; split <;> omega
  go_enter Try.func88, Try.ntmps88
  go_wp2_with fail
  go_still_tail 18, (by kernel_rfl)
  change wpList _ _ _ _ _ w.drew

  clear hw1 hw2
  go_wp2_with (go_at_call 87; refine HT.out.mono ?_; rintro e w1 ⟨rfl, ⟨v1, hA1⟩, hE⟩; have HA1 := Aside0.mk hA1; have HE := Aside0.mk hE; clear hA1 hE)
  all_goals (go_end0; exact ⟨rfl, ⟨v1, HA1.out⟩, (Eff.drewN w base g 1).trans HE.out⟩)


theorem Dk.alloc {rv : Value} {w : World} {base g : Nat} {v : Value} {D : List Int} {s : Int} (h : Dk rv w base g v D s) (o : Obj) : Dk rv (w.alloc o) base g v D s := ⟨blk_alloc h.blk o, h.ge, Kd.R_alloc h.row o⟩
theorem Dk.below {rv : Value} {w w1 : World} {base g : Nat} {v : Value} {D : List Int} {s : Int} (h : Dk rv w base g v D s) (hb : Below w.heap.size w w1) : Dk rv w1 base g v D s :=
  ⟨by rw [hb.block g (Array.getElem?_eq_some_iff.1 h.blk).1]; exact h.blk, h.ge, Kd.R_below h.row hb⟩
theorem Eff.below {w w1 : World} {base g : Nat} (hb : Below w.heap.size w w1) : Eff w w1 base g := ⟨hb.os, hb.tape, hb.output, hb.size, fun k hk _ => hb.block k hk⟩

/-- The rows of a table outlast what a method of the disk does. -/
theorem rows_eff {w w1 : World} {base g : Nat} {v : Value} {T : List S67} (h : k67.R 67 w base (fun k => k ≠ g) v T) (hE : Eff w w1 base g) : k67.R 67 w1 base (fun k => k ≠ g) v T := by
  refine Kd.R_mono (Kd.R_move (Kd.R_bound h) (fun k hk => ?_)) (fun k hk => hk.1)
  obtain ⟨hne, _, hlt, q, hq, cells, hc⟩ := hk
  have hq2 : q = 67 := by rcases List.mem_cons.1 hq with hq | hq; exact hq; cases hq
  subst hq2
  exact hE.block k hlt (.inr ⟨hne, fun cs e => by rw [hc] at e; injection e with e; injection e with _ e; exact absurd e (by decide)⟩)

end Go.Proofs.Ytmfkgbncnaingaa.Sto
end

section
/- What a commit refuses. -/
namespace Go.Proofs.Ytmfkgbncnaingaa.Sto
open Go.Proofs.Ytmfkgbncnaingaa.Disk (Eff fallTo fallTo_range)
open Go.RowKit Go.Proofs.Ytmfkgbncnaingaa.QRows Go.Proofs.Ytmfkgbncnaingaa.Rows Go.Proofs.Ytmfkgbncnaingaa.Wal Go.Proofs.YtmfkgbncnaingaaW.PrintWords Go.Proofs.YtmfkgbncnaingaaW.PrintLast Go.Proofs.YtmfkgbncnaingaaW.PrintMore
set_option linter.unusedVariables false
set_option linter.unusedSimpArgs false

/-- The bytes of a batch. -/
def batchOf (l : List S67) : List Int := ofGo (l.map recOf)
theorem batch_length (l : List S67) (h : ∀ x ∈ l, Wr x) : (batchOf l).length ≤ 50 * l.length := by
  unfold batchOf
  induction l with
  | nil => simp [ofGo]
  | cons x t ih =>
    have hx := h x List.mem_cons_self
    have ih := ih (fun y hy => h y (List.mem_cons_of_mem _ hy))
    unfold Wr at hx
    rw [List.map_cons, ofGo, List.length_append, frameOf_length, List.length_cons]
    have : (recOf x).length = x.f0.size + x.f1.size + 1 := by simp [recOf, bytesOf_length]
    omega
/-- What a commit refuses. -/
def faultS (D : List Int) (T l : List S67) : Int := if l.length = 0 then 1 else if faultOf T l ≠ 0 then faultOf T l else if 1200 < D.length + (batchOf l).length then 10 else 0
theorem wr_of_fault {T l : List S67} (h : faultOf T l = 0) : l.length ≤ 60 ∧ (∀ x ∈ l, Wr x) ∧ (changed T l).length ≤ 40 := by
  unfold faultOf at h
  by_cases h1 : 60 < l.length
  · rw [if_pos h1] at h; omega
  · rw [if_neg h1] at h
    by_cases h2 : l.any odd = true
    · rw [if_pos h2] at h; omega
    · rw [if_neg h2] at h
      by_cases h3 : 40 < (changed T l).length
      · rw [if_pos h3] at h; omega
      · refine ⟨by omega, fun x hx => ?_, by omega⟩
        have h4 : odd x = false := by
          cases ho : odd x with
          | false => rfl
          | true => exact absurd (List.any_eq_true.2 ⟨x, hx, ho⟩) h2
        unfold odd at h4
        simp only [Bool.or_eq_false_iff, Bool.not_eq_false', decide_eq_false_iff_not] at h4
        have h5 := h4.1
        unfold keyOk at h5
        by_cases h6 : x.f0.toList = ([] : List UInt8)
        · rw [if_pos h6] at h5; cases h5
        · rw [if_neg h6, decide_eq_true_eq] at h5
          refine ⟨?_, by omega, by have := h4.2; omega⟩
          apply Decidable.byContradiction
          intro h7
          apply h6
          have h8 : x.f0 = ⟨#[]⟩ := by
            have : x.f0.data.size = 0 := by have : x.f0.size = 0 := by omega
                                            exact this
            cases hf : x.f0 with
            | mk d => rw [hf] at this; congr 1; exact Array.eq_empty_of_size_eq_zero this
          rw [h8]; decide +kernel

set_option maxRecDepth 100000 in
set_option maxHeartbeats 4000000 in
theorem Fault_many (x : Value) (A1 : Option Addr) (n c1 : Nat) (w : World) (hn : 60 < n) :
    Calls Try.prog 63 #[x, .slice A1 n c1] w fun e w' => e = .returned (.int .i64 1) ∧ w = w' := by
  have hb1 : (60 : Int) < (n : Int) := by omega
  have hb2 : decide ((60 : Int) < (n : Int)) = true := decide_eq_true hb1
  go_enter Try.func63, Try.ntmps63
  go_wp2
  go_ret
  exact ⟨rfl, rfl⟩
/-- Fault, whatever the changes are. -/
theorem Fault_any (A0 A1 : Option Addr) (c0 c1 : Nat) (T l : List S67) (w : World) (h0 : k67.C w A0 T.length T) (h1 : k67.C w A1 l.length l) (hT : T.length ≤ 400) :
    Calls Try.prog 63 #[.slice A0 T.length c0, .slice A1 l.length c1] w fun e w' => e = .returned (.int .i64 (faultOf T l)) ∧ Below w.heap.size w w' := by
  by_cases h : 60 < l.length
  · refine (Fault_many _ A1 l.length c1 w h).mono ?_
    rintro e w' ⟨rfl, rfl⟩
    exact ⟨by unfold faultOf; rw [if_pos h], Below.refl _ _⟩
  · exact Fault_calls A0 A1 c0 c1 T l w h0 h1 hT (by omega)

set_option maxRecDepth 100000 in
set_option maxHeartbeats 4000000 in
theorem fault_calls (w : World) (base g : Nat) (v rv : Value) (D : List Int) (s : Int) (T l : List S67) (A1 : Option Addr) (c1 : Nat) (h : Dk rv w base g v D s) (ht : k67.R 67 w base (fun k => k ≠ g) rv T) (hr : k67.C w A1 l.length l) (hD : D.length ≤ 1200) (hT : T.length ≤ 40) :
    Calls Try.prog 96 #[.pointer (some ⟨g, 0, none⟩), .slice A1 l.length c1] w fun e w' => e = .returned (.int .i64 (faultS D T l)) ∧ Below w.heap.size w w' := by
  unfold faultS
  by_cases h0 : l.length = 0
  · rw [if_pos h0]
    have hb : ((l.length : Int) == 0) = true := by simp [h0]
    have H0 := Aside0.mk h0
    clear h0 hr h ht
    generalize l.length = n at *
    go_enter Try.func96, Try.ntmps96
    go_wp2
    go_ret
    exact ⟨rfl, Below.refl _ _⟩
  · rw [if_neg h0]
    have hb : ((l.length : Int) == 0) = false := by simp [h0]
    obtain ⟨hblk, hge, hrow⟩ := h
    obtain ⟨Ad, cd, rfl, hlc, hrd⟩ := Kd.R_reads hrow
    obtain ⟨At, ct, rfl, hlt, htd⟩ := Kd.R_reads ht
    have hc0 : w.cell? ⟨g, 0, none⟩ = some (.slice Ad D.length cd) := (blk_cell hblk 0).trans rfl
    have hc2 : w.cell? ⟨g, 2, none⟩ = some (.slice At T.length ct) := (blk_cell hblk 2).trans rfl
    have HF := fun w h0 h1 => Aside0.mk (Fault_any At A1 ct c1 T l w h0 h1 (by omega))
    have HT := Aside0.mk htd
    have HL := Aside0.mk hr
    have H0 := Aside0.mk h0
    clear hrow hblk hrd hlc ht hr h0 hlt htd
    by_cases hf : faultOf T l = 0
    · rw [if_neg (by omega)]
      obtain ⟨hl60, hwr, -⟩ := wr_of_fault hf
      have HB := fun w h => Aside0.mk (batch_calls A1 c1 l w h (by omega) hwr)
      have hbl := batch_length l hwr
      rw [hf] at HF
      have HBE : Aside0 (batchOf l = ofGo (l.map recOf)) := ⟨rfl⟩
      have HBL := Aside0.mk (show (batchOf l).length ≤ 50 * l.length ∧ l.length ≤ 60 ∧ D.length ≤ 1200 from ⟨hbl, hl60, hD⟩)
      have HWr := Aside0.mk hwr
      clear hf hwr hbl
      obtain ⟨b, hbb⟩ : ∃ b, b = batchOf l := ⟨_, rfl⟩
      rw [← hbb] at HBE HBL
      rw [← HBE.out] at HB
      rw [← hbb]
      have hwa : IntKind.i64.wrap ((D.length : Int) + (b.length : Int)) = (D.length : Int) + (b.length : Int) := by have := HBL.out; rw [IntKind.wrap_i64]; omega
      have HBB := Aside0.mk hbb
      clear hbb hl60 hD
      by_cases hfull : 1200 < D.length + b.length
      · rw [if_pos hfull]
        have hb2 : decide ((1200 : Int) < (D.length : Int) + (b.length : Int)) = true := decide_eq_true (by omega)
        clear hfull
        go_enter Try.func96, Try.ntmps96
        go_wp2_with (go_at_call 63; refine (HF _ HT.out HL.out).out.mono ?_; rintro e w1 ⟨rfl, hb⟩; have HB1 := Aside0.mk hb; have hk := cell_below hc0 hb; have HL1 := Aside0.mk (Kd.C_drew (Kd.C_below HL.out hb)); clear hb)
        go_region_held3 (fun x => x.cell? ⟨g, 0, none⟩ = some (.slice Ad D.length cd)) (first | exact hk | exact hk2.out) (first | (go_at_call 97; refine (HB _ HL1.out).out.mono ?_; rintro e w3 ⟨v3, rfl, hv, hb⟩; obtain ⟨A3, c3, rfl, _, _⟩ := Kd.R_reads hv; have hk2 := Aside0.mk (pw_cell_below hb hk); have HB3 := Aside0.mk (below_undrew hb); clear hb hv))
        all_goals
          go_wp2
          go_ret
          exact ⟨rfl, HB1.out.trans (HB3.out.mono HB1.out.size)⟩
      · rw [if_neg hfull]
        have hb2 : decide ((1200 : Int) < (D.length : Int) + (b.length : Int)) = false := decide_eq_false (by omega)
        clear hfull
        go_enter Try.func96, Try.ntmps96
        go_wp2_with (go_at_call 63; refine (HF _ HT.out HL.out).out.mono ?_; rintro e w1 ⟨rfl, hb⟩; have HB1 := Aside0.mk hb; have hk := cell_below hc0 hb; have HL1 := Aside0.mk (Kd.C_drew (Kd.C_below HL.out hb)); clear hb)
        go_region_held3 (fun x => x.cell? ⟨g, 0, none⟩ = some (.slice Ad D.length cd)) (first | exact hk | exact hk2.out) (first | (go_at_call 97; refine (HB _ HL1.out).out.mono ?_; rintro e w3 ⟨v3, rfl, hv, hb⟩; obtain ⟨A3, c3, rfl, _, _⟩ := Kd.R_reads hv; have hk2 := Aside0.mk (pw_cell_below hb hk); have HB3 := Aside0.mk (below_undrew hb); clear hb hv))
        all_goals
          go_wp2
          go_ret
          exact ⟨rfl, HB1.out.trans (HB3.out.mono HB1.out.size)⟩
    · rw [if_pos hf]
      have hf0 : (faultOf T l == 0) = false := beq_eq_false_iff_ne.2 hf
      have hf1 : (faultOf T l != 0) = true := bne_iff_ne.2 hf
      clear hf
      generalize faultOf T l = f at *
      go_enter Try.func96, Try.ntmps96
      go_wp2_with (go_at_call 63; refine (HF _ HT.out HL.out).out.mono ?_; rintro e w1 ⟨rfl, hb⟩; have HB1 := Aside0.mk hb; clear hb)
      go_ret
      exact ⟨rfl, HB1.out⟩

end Go.Proofs.Ytmfkgbncnaingaa.Sto
end

section
/- What a commit does, and what writing anew does. -/
namespace Go.Proofs.Ytmfkgbncnaingaa.Sto
open Go.Proofs.Ytmfkgbncnaingaa.Disk (Eff fallTo fallTo_range)
open Go.RowKit Go.Proofs.Ytmfkgbncnaingaa.QRows Go.Proofs.Ytmfkgbncnaingaa.Rows Go.Proofs.Ytmfkgbncnaingaa.Wal Go.Proofs.YtmfkgbncnaingaaW.PrintWords Go.Proofs.YtmfkgbncnaingaaW.PrintLast Go.Proofs.YtmfkgbncnaingaaW.PrintMore
set_option linter.unusedVariables false
set_option linter.unusedSimpArgs false

/-- A store: its bytes, all synced, and its table. -/
def Held (w : World) (base g : Nat) (D : List Int) (T : List S67) : Prop := ∃ v rv, Dk rv w base g v D D.length ∧ k67.R 67 w base (fun k => k ≠ g) rv T
theorem Held.below {w w1 : World} {base g : Nat} {D : List Int} {T : List S67} (h : Held w base g D T) (hb : Below w.heap.size w w1) : Held w1 base g D T := by
  obtain ⟨v, rv, h1, h2⟩ := h; exact ⟨v, rv, h1.below hb, Kd.R_below h2 hb⟩
/-- A new table is put into the store. -/
theorem rows_put {w5 w6 : World} {base g : Nat} {v rv v6 : Value} {D : List Int} {s : Int} {T : List S67} (hD : Dk rv w5 base g v D s) (hb : Below w5.heap.size w5 w6) (hbase : base ≤ w5.heap.size) (hT : k67.R 67 w6 w5.heap.size (fun _ => True) v6 T) :
    Dk v6 (w6.setCell ⟨g, 2, none⟩ v6) base g v D s ∧ k67.R 67 (w6.setCell ⟨g, 2, none⟩ v6) base (fun k => k ≠ g) v6 T ∧ Eff w5 (w6.setCell ⟨g, 2, none⟩ v6) base g := by
  have hD6 := hD.below hb
  have hlt := (Array.getElem?_eq_some_iff.1 hD.blk).1
  have hR : k67.R 67 w6 base (fun k => k ≠ g) v6 T := Kd.R_lower (Kd.R_mono (Kd.R_bound hT) (fun k hk => by have := hk.2.1; omega)) hbase
  exact ⟨⟨by simpa using blk_set hD6.blk 2 v6, hD.ge, Kd.R_far hD6.row (fun k hk => hk) v6⟩, Kd.R_far hR (fun k hk => hk) v6, (Eff.below hb).trans (Disk.Eff.set w6 base g 2 v6 hD.ge)⟩

/-- What a commit comes to: its code, the bytes, the table. -/
def commitS (D : List Int) (T l : List S67) : Int × List Int × List S67 := if faultS D T l = 0 then (0, D ++ batchOf l, changed T l) else (faultS D T l, D, T)
theorem faultS_zero {D : List Int} {T l : List S67} (h : faultS D T l = 0) : faultOf T l = 0 ∧ D.length + (batchOf l).length ≤ 1200 := by
  unfold faultS at h
  split at h
  · omega
  · split at h
    · rename_i h1; exact absurd h h1
    · rename_i h1
      split at h
      · omega
      · exact ⟨by omega, by omega⟩

set_option maxRecDepth 100000 in
set_option maxHeartbeats 8000000 in
theorem Commit_calls (w : World) (base g : Nat) (D : List Int) (T l : List S67) (A1 : Option Addr) (c1 : Nat) (h : Held w base g D T) (hbase : base ≤ w.heap.size) (hr : ∀ w', Below base w w' → k67.C w' A1 l.length l) (hD : D.length ≤ 1200) (hT : T.length ≤ 40) :
    Calls Try.prog 82 #[.pointer (some ⟨g, 0, none⟩), .slice A1 l.length c1] w fun e w' => e = .returned (.int .i64 (commitS D T l).1) ∧ Held w' base g (commitS D T l).2.1 (commitS D T l).2.2 ∧ Eff w w' base g := by
  obtain ⟨v, rv, hd, ht⟩ := h
  have HF := Aside0.mk (fault_calls w base g v rv D D.length T l A1 c1 hd ht (hr w (Below.refl _ _)) hD hT)
  unfold commitS
  by_cases hz : faultS D T l = 0
  · rw [if_pos hz]
    obtain ⟨hf0, hfit⟩ := faultS_zero hz
    obtain ⟨hl60, hwr, hch⟩ := wr_of_fault hf0
    rw [hz] at HF
    have HB := fun w h => Aside0.mk (batch_calls A1 c1 l w h (by omega) hwr)
    have HBE : Aside0 (batchOf l = ofGo (l.map recOf)) := ⟨rfl⟩
    have HFit := Aside0.mk hfit
    obtain ⟨b, hbb⟩ : ∃ b, b = batchOf l := ⟨_, rfl⟩
    rw [← hbb] at HBE HFit
    rw [← HBE.out] at HB
    rw [← hbb]
    have HN := Aside0.mk (And.intro hT hl60)
    obtain ⟨At, ct, rfl, hlt, htd⟩ := Kd.R_reads ht
    clear hlt htd
    have HD := Aside0.mk hd
    have HT := Aside0.mk ht
    have HL := Aside0.mk hr
    have HBase := Aside0.mk hbase
    obtain ⟨T', hT'⟩ : ∃ T', T' = changed T l := ⟨_, rfl⟩
    rw [← hT']
    have HT' := Aside0.mk hT'
    clear hbb hz hf0 hfit hl60 hwr hch hd ht hr hbase hT hT' hD
    go_enter Try.func82, Try.ntmps82
    go_wp2_with (go_at_call 96; refine HF.out.mono ?_; rintro e w1 ⟨rfl, hb⟩; have HD1 := Aside0.mk (HD.out.below hb).drew; have HT1 := Aside0.mk (Kd.R_drew (Kd.R_below HT.out hb)); have HE1 := Aside0.mk ((Eff.below (base := base) (g := g) hb).trans (Disk.Eff.drewN w1 base g 1)); clear hb; have HL1 := Aside0.mk (HL.out _ (Disk.Eff.below HE1.out HBase.out)))
    go_region_with (first
      | (go_at_call 97; refine (HB _ HL1.out).out.mono ?_; rintro e w3 ⟨v3, rfl, hv, hb⟩; obtain ⟨A3, c3, rfl, _, hC3⟩ := Kd.R_reads hv; have HC3 := Aside0.mk hC3; have HD3 := Aside0.mk (HD1.out.below hb); have HT3 := Aside0.mk (Kd.R_below HT1.out hb); have HE3 := Aside0.mk (HE1.out.trans (Eff.below hb)); clear hb hv hC3)
      | (go_at_call 85; refine (Write_calls _ _ base g v D b D.length A3 c3 HD3.out HC3.out HFit.out).mono ?_; rintro e w4 ⟨v4, rfl, hd4, he4⟩; have HD4 := Aside0.mk hd4; have HT4 := Aside0.mk (rows_eff HT3.out he4); have HE4 := Aside0.mk (HE3.out.trans he4); clear hd4 he4))
    go_wp2_with (first
      | (go_at_call 86; refine (Sync_calls _ _ base g v4 (D ++ b) D.length HD4.out).mono ?_; rintro e w5 ⟨rfl, hd5, he5⟩; have HD5 := Aside0.mk hd5; have HT5 := Aside0.mk (rows_eff HT4.out he5); have HE5 := Aside0.mk (HE4.out.trans he5); have hc2 := (blk_cell hd5.blk 2).trans rfl; have HL5 := Aside0.mk (HL.out _ (Disk.Eff.below HE5.out HBase.out)); clear hd5 he5)
      | (go_at_call 64; refine (Changed_calls At A1 ct c1 T l _ (Kd.R_reads' HT5.out).2.2 HL5.out (by have := HN.out.1; omega) (by have := HN.out.2; omega)).mono ?_; rintro e w6 ⟨v6, rfl, hv, hb⟩; obtain ⟨A6, c6, rfl, _, _⟩ := Kd.R_reads hv; have HP := Aside0.mk (rows_put HD5.out hb (Nat.le_trans HBase.out HE5.out.size) hv); have HE6 := Aside0.mk (HE5.out.trans HP.out.2.2); have hq2 := (blk_cell (HD5.out.below hb).blk 2).trans rfl; have hf2 := blk_frozen (HD5.out.below hb).blk 2; clear hv hb))
    go_ret
    exact ⟨rfl, ⟨_, _, HP.out.1, by rw [HT'.out]; exact HP.out.2.1⟩, HE6.out⟩
  · rw [if_neg hz]
    have hz0 : (faultS D T l == 0) = false := beq_eq_false_iff_ne.2 hz
    have hz1 : (faultS D T l != 0) = true := bne_iff_ne.2 hz
    have HH := Aside0.mk (show Held w base g D T from ⟨v, rv, hd, ht⟩)
    clear hz hd ht hr hbase hD hT
    generalize faultS D T l = f at *
    go_enter Try.func82, Try.ntmps82
    go_wp2_with (go_at_call 96; refine HF.out.mono ?_; rintro e w1 ⟨rfl, hb⟩; have HB1 := Aside0.mk hb; clear hb)
    go_ret
    exact ⟨rfl, HH.out.below HB1.out, Eff.below HB1.out⟩

end Go.Proofs.Ytmfkgbncnaingaa.Sto
end

section
/- The row of a record. -/
namespace Go.Proofs.Ytmfkgbncnaingaa.Sto
open Go.RowKit Go.Proofs.Ytmfkgbncnaingaa.Reg Go.Proofs.Ytmfkgbncnaingaa.QRows Go.Proofs.Ytmfkgbncnaingaa.Rows Go.Proofs.Ytmfkgbncnaingaa.Wal Go.Proofs.YtmfkgbncnaingaaW.PrintWords Go.Proofs.YtmfkgbncnaingaaW.PrintLast Go.Proofs.YtmfkgbncnaingaaW.PrintMore
set_option linter.unusedVariables false
set_option linter.unusedSimpArgs false

theorem str_bytes (s : ByteArray) : strOfNums (bytesOf s) = s := by
  unfold strOfNums bytesOf
  cases s with
  | mk d => 
    congr 1
    rw [List.map_map]
    apply Array.ext'
    simp [Function.comp_def]
theorem rec_length (x : S67) : (recOf x).length = x.f0.size + x.f1.size + 1 := by simp [recOf, bytesOf_length]
theorem rec_key (x : S67) : ((recOf x).take (x.f0.size + 1)).drop 1 = bytesOf x.f0 := by
  unfold recOf
  rw [List.take_succ_cons, List.drop_succ_cons, List.drop_zero, ← bytesOf_length, List.take_left]
theorem rec_val (x : S67) : (recOf x).drop (x.f0.size + 1) = bytesOf x.f1 := by
  unfold recOf
  rw [List.drop_succ_cons, ← bytesOf_length, List.drop_left]

def F6 (ad A1 : Addr) (A2 : Option Addr) (N c n m : Nat) (ks vs : ByteArray) : Nat → Value → World → Prop
  | 0 => FIs (.slice (some ad) N c)
  | 1 => FIs (.int .i64 n)
  | 2 => FIs (.int .i64 ((n : Int) + 1))
  | 3 => FIs (.slice (some A1) n (c - 1))
  | 4 => FIs (.string ks)
  | 5 => FIs (.slice (some ad) N c)
  | 6 => FIs (.int .i64 n)
  | 7 => FIs (.int .i64 ((n : Int) + 1))
  | 8 => FIs (.slice A2 m (c - (n + 1)))
  | 9 => FIs (.string vs)
  | _ => FIs (.agg #[.string ks, .string vs])
theorem F6.last {ad A1 : Addr} {A2 : Option Addr} {N c n m : Nat} {ks vs : ByteArray} (k : Nat) (v : Value) (w w' : World) (h : F6 ad A1 A2 N c n m ks vs k v w) (hb : Below w.heap.size w w') : F6 ad A1 A2 N c n m ks vs k v w' := by
  unfold F6 at *
  split at h <;> exact FIs.last h hb
theorem info5e : ∃ i, Try.prog.info? 5 = some i ∧ i.size = 1 := by
  obtain ⟨i0, hi, hzz⟩ := Option.map_eq_some_iff.1 info5u
  simp only [Prod.mk.injEq] at hzz
  exact ⟨i0, hi, hzz.2.1⟩
theorem under5 : Try.prog.underlying 5 = some (.int .u8) := by kernel_rfl

set_option maxRecDepth 100000 in
set_option maxHeartbeats 4000000 in
theorem row_calls (x : S67) (hx : Wr x) (A : Option Addr) (c : Nat) (w : World) (hr : (Kd.int .u8).C w A (recOf x).length (recOf x)) (hc : (recOf x).length ≤ c) :
    Calls Try.prog 81 #[.slice A (recOf x).length c] w fun e w' => e = .returned (.tuple #[.agg #[.string x.f0, .string x.f1], .bool true]) ∧ Below w.heap.size w w' := by
  obtain ⟨h1, h2, h3⟩ := hx
  have hl := rec_length x
  obtain ⟨ad, rfl, hx0⟩ := Kd.at_int hr 0 (by omega) (by omega)
  have hx0' : w.cell? ad = some (.int .u8 x.f0.size) := by rw [← show rd (recOf x) 0 = (x.f0.size : Int) from rfl, ← hx0]; simp [Addr.add]
  have hcv1 : (Kd.int .u8).C w (some (ad.add 1)) x.f0.size (bytesOf x.f0) := by
    have h := Kd.C_mid (c := c) (lo := 1) (hi := x.f0.size + 1) hr (by omega) (by omega) hc
    rw [rec_key, bytesOf_length, if_neg (by omega)] at h
    exact h
  have hcv2 : (Kd.int .u8).C w (if c = x.f0.size + 1 then some ad else some (ad.add (x.f0.size + 1))) x.f1.size (bytesOf x.f1) := by
    have h := Kd.C_drop (c := c) (m := x.f0.size + 1) hr (by omega) hc
    rw [rec_val, bytesOf_length] at h
    have e : (x.f0.size + 1) * (Kd.int .u8).sz = x.f0.size + 1 := Nat.mul_one _
    rw [e] at h
    exact h
  rw [hl] at hc ⊢
  have hn1 : (1 : Int) ≤ (x.f0.size : Int) := by omega
  have hn2 : (x.f0.size : Int) ≤ 20 := by omega
  have hlt1 : decide ((x.f0.size : Int) < 1) = false := decide_eq_false (by omega)
  have hlt2 : decide ((20 : Int) < (x.f0.size : Int)) = false := decide_eq_false (by omega)
  have hlt3 : decide ((((x.f0.size + x.f1.size + 1 : Nat)) : Int) < (x.f0.size : Int) + 1) = false := decide_eq_false (by omega)
  have hlt4 : decide ((x.f0.size : Int) + 1 + 20 < (((x.f0.size + x.f1.size + 1 : Nat)) : Int)) = false := decide_eq_false (by omega)
  have hz0 : (0 : Int) < (((x.f0.size + x.f1.size + 1 : Nat)) : Int) := by omega
  have hC1 := Aside0.mk hcv1
  have hC2 := Aside0.mk hcv2
  have hc1 : (c = 1) = False := eq_false (by omega)
  have hcb : (x.f0.size : Int) + 1 ≤ (c : Int) := by omega
  have hcb2 : (x.f0.size : Int) + 1 ≤ ((x.f0.size + x.f1.size + 1 : Nat) : Int) := by omega
  have hcb3 : (1 : Int) ≤ (x.f0.size : Int) + 1 := by omega
  have HX := Aside0.mk (And.intro h1 (And.intro h2 h3))
  clear hr hx0 hcv1 hcv2 h1 h2 h3
  obtain ⟨ks, vs⟩ := x
  dsimp only at *
  generalize hNN : ks.size + vs.size + 1 = N at *
  generalize hn : ks.size = n at *
  have HNN := Aside0.mk hNN.symm
  clear hn hNN
  have hxa : ∀ o, (w.alloc o).cell? ad = some (.int .u8 n) := fun o => cell_below hx0' (below_alloc (Below.refl _ _) o)
  obtain ⟨A1, hA1⟩ : ∃ A1, A1 = ad.add 1 := ⟨_, rfl⟩
  rw [← hA1] at hC1
  obtain ⟨i5, hi5, hi5s⟩ := info5e
  have hs1 : ∀ W, Sem.run Try.prog (Instr.slice 25 (.slice (some ad) N c) (some (.int .i64 1)) (some (.int .i64 ((n : Int) + 1))) none) W = .ok (.slice (some A1) n (c - 1)) W := fun W => by
    have h := cut_mid (P := Try.prog) 25 5 .i64 .i64 Try.underlying25 hi5 1 hi5s (some ad) N c 1 ((n : Int) + 1) (by omega) (by omega) (by omega) hc W
    rw [h, if_neg (by show ¬ c = 1; omega), show ((n : Int) + 1).toNat - (1 : Int).toNat = n by omega]
    rw [hA1]; rfl
  obtain ⟨A2, hA2⟩ : ∃ A2, A2 = if c = n + 1 then some ad else some (ad.add (n + 1)) := ⟨_, rfl⟩
  rw [← hA2] at hC2
  have hs2 : ∀ W, Sem.run Try.prog (Instr.slice 25 (.slice (some ad) N c) (some (.int .i64 ((n : Int) + 1))) none none) W = .ok (.slice A2 (N - (n + 1)) (c - (n + 1))) W := fun W => by
    have h := cut_from (P := Try.prog) 25 5 .i64 Try.underlying25 hi5 1 hi5s (some ad) N c ((n : Int) + 1) (by omega) (by omega) W
    rw [h, show ((n : Int) + 1).toNat = n + 1 by omega, hA2, Nat.mul_one]; rfl
  rw [show N - (n + 1) = vs.size by have := HX.out; have := HNN.out; omega] at hs2
  have hw : IntKind.i64.wrap ((n : Int) + 1) = (n : Int) + 1 := by rw [IntKind.wrap_i64]; omega
  clear hx0' hA2 hA1
  go_enter Try.func81, Try.ntmps81
  go_wp2
  have hblk : (w.alloc (.cells #[.string ⟨#[]⟩, .string ⟨#[]⟩] 67)).heap[w.heap.size]? = some (.cells #[.string ⟨#[]⟩, .string ⟨#[]⟩] 67 (0, 0)) := new_block _ _
  have HB0 := Aside0.mk (show Below w.heap.size w (w.alloc (.cells #[.string ⟨#[]⟩, .string ⟨#[]⟩] 67)) from below_alloc (Below.refl _ _) _)
  generalize w.alloc (.cells #[.string ⟨#[]⟩, .string ⟨#[]⟩] 67) = w0 at *
  have HBlk := Aside0.mk hblk
  obtain ⟨z, hz⟩ : ∃ z, z = w.heap.size := ⟨_, rfl⟩
  rw [← hz] at HBlk
  have HZ := Aside0.mk hz
  clear hblk hz hxa
  simp only [← HZ.out]
  refine region_facts (by kernel_rfl) 11 (F6 ad A1 A2 N c n vs.size ks vs) (by kernel_rfl) F6.last ?_ ?_
  · refine ⟨?_, ?_, ?_, ?_, ?_, ?_, ?_, ?_, ?_, ?_, ?_, trivial⟩
    · intro ev w1 hb hc hf hg hbase hdep
      refine ⟨fun _ => ?_, fun h => absurd trivial h⟩
      have e0 : ev (.tmp 0) = .slice (some ad) N c := hbase 0 (by decide)
      unfold Gives
      go_simp
      exact ⟨rfl, Below.refl _ _⟩
    · intro ev w1 hb hc hf hg hbase hdep
      refine ⟨fun _ => ?_, fun h => absurd trivial h⟩
      have e0 : ev (.tmp 4) = .int .i64 n := hbase 4 (by decide)
      unfold Gives
      go_simp
      exact ⟨rfl, Below.refl _ _⟩
    · intro ev w1 hb hc hf hg hbase hdep
      refine ⟨fun _ => ?_, fun h => absurd trivial h⟩
      have e1 : ev (.tmp 32) = .int .i64 n := hdep 1 (by decide)
      unfold Gives
      go_simp
      exact ⟨rfl, Below.refl _ _⟩
    · intro ev w1 hb hc hf hg hbase hdep
      refine ⟨fun _ => ?_, fun h => absurd trivial h⟩
      have e1 : ev (.tmp 31) = .slice (some ad) N c := hdep 0 (by decide)
      have e2 : ev (.tmp 33) = .int .i64 ((n : Int) + 1) := hdep 2 (by decide)
      unfold Gives
      go_simp
      exact ⟨rfl, Below.refl _ _⟩
    · intro ev w1 hb hc hf hg hbase hdep
      refine ⟨fun _ => ?_, fun h => absurd trivial h⟩
      have e1 : ev (.tmp 34) = .slice (some A1) n (c - 1) := hdep 3 (by decide)
      have hcv := Kd.C_string (P := Try.prog) (src := 25) (dst := 9) (c := c - 1) Try.underlying25 under5 under9 (Kd.C_below (Kd.C_below hC1.out HB0.out) hb)
      rw [str_bytes] at hcv
      unfold Gives
      go_simp
      exact ⟨rfl, Below.refl _ _⟩
    · intro ev w1 hb hc hf hg hbase hdep
      refine ⟨fun _ => ?_, fun h => absurd trivial h⟩
      have e0 : ev (.tmp 0) = .slice (some ad) N c := hbase 0 (by decide)
      unfold Gives
      go_simp
      exact ⟨rfl, Below.refl _ _⟩
    · intro ev w1 hb hc hf hg hbase hdep
      refine ⟨fun _ => ?_, fun h => absurd trivial h⟩
      have e0 : ev (.tmp 4) = .int .i64 n := hbase 4 (by decide)
      unfold Gives
      go_simp
      exact ⟨rfl, Below.refl _ _⟩
    · intro ev w1 hb hc hf hg hbase hdep
      refine ⟨fun _ => ?_, fun h => absurd trivial h⟩
      have e1 : ev (.tmp 37) = .int .i64 n := hdep 6 (by decide)
      unfold Gives
      go_simp
      exact ⟨rfl, Below.refl _ _⟩
    · intro ev w1 hb hc hf hg hbase hdep
      refine ⟨fun _ => ?_, fun h => absurd trivial h⟩
      have e1 : ev (.tmp 36) = .slice (some ad) N c := hdep 5 (by decide)
      have e2 : ev (.tmp 38) = .int .i64 ((n : Int) + 1) := hdep 7 (by decide)
      unfold Gives
      go_simp
      exact ⟨rfl, Below.refl _ _⟩
    · intro ev w1 hb hc hf hg hbase hdep
      refine ⟨fun _ => ?_, fun h => absurd trivial h⟩
      have e1 : ev (.tmp 39) = .slice A2 vs.size (c - (n + 1)) := hdep 8 (by decide)
      have hcv := Kd.C_string (P := Try.prog) (src := 25) (dst := 9) (c := c - (n + 1)) Try.underlying25 under5 under9 (Kd.C_below (Kd.C_below hC2.out HB0.out) hb)
      rw [str_bytes] at hcv
      unfold Gives
      go_simp
      exact ⟨rfl, Below.refl _ _⟩
    · intro ev w1 hb hc hf hg hbase hdep
      refine ⟨fun _ => ?_, fun h => absurd trivial h⟩
      have e1 : ev (.tmp 35) = .string ks := hdep 4 (by decide)
      have e2 : ev (.tmp 40) = .string vs := hdep 9 (by decide)
      unfold Gives
      go_simp
      exact ⟨rfl, Below.refl _ _⟩
  · intro y w1 hb hbase hF
    have e41 : y 41 = .agg #[.string ks, .string vs] := hF 10 (by decide)
    have e2 : y 2 = .pointer (some ⟨z, 0, none⟩) := hbase 2 (by decide)
    have e3 : y 3 = .bool false := hbase 3 (by decide)
    have hg1 : w1.heap[z]? = _ := lasts HBlk.out hb
    have hq0 : w1.cell? ⟨z, 0, none⟩ = some (.string ⟨#[]⟩) := by simp [World.cell?, hg1]
    have hq1 : w1.cell? ⟨z, 1, none⟩ = some (.string ⟨#[]⟩) := by simp [World.cell?, hg1]
    have hf0 : ∀ j, w1.frozen? ⟨z, j, none⟩ = false := fun j => by simp [World.frozen?, hg1]
    have hset : ((w1.setCell ⟨z, 0, none⟩ (.string ks)).setCell ⟨z, 1, none⟩ (.string vs)).heap[z]? = some (.cells #[.string ks, .string vs] 67 (0, 0)) := by simpa using blk_set (blk_set hg1 0 (.string ks)) 1 (.string vs)
    have HSet := Aside0.mk hset
    have HB1 := Aside0.mk (show Below w.heap.size w ((w1.setCell ⟨z, 0, none⟩ (.string ks)).setCell ⟨z, 1, none⟩ (.string vs)) from ((HB0.out.trans (hb.mono HB0.out.size)).setCell (by show w.heap.size ≤ z; rw [HZ.out]; omega) _).setCell (by show w.heap.size ≤ z; rw [HZ.out]; omega) _)
    simp only [List.drop_succ_cons, List.drop_zero, List.size_toArray, List.length_cons, List.length_nil, Nat.reduceAdd, List.range, List.range.loop, List.map_cons, List.map_nil, e41, e2, e3]
    clear hF hbase e41 e2 e3 hb hg1 hset
    go_wp2
    have k0 : ((w1.setCell ⟨z, 0, none⟩ (.string ks)).setCell ⟨z, 1, none⟩ (.string vs)).cell? ⟨z, 0, none⟩ = some (.string ks) := by simp [World.cell?, HSet.out]
    have k1 : ((w1.setCell ⟨z, 0, none⟩ (.string ks)).setCell ⟨z, 1, none⟩ (.string vs)).cell? ⟨z, 1, none⟩ = some (.string vs) := by simp [World.cell?, HSet.out]
    generalize (w1.setCell ⟨z, 0, none⟩ (.string ks)).setCell ⟨z, 1, none⟩ (.string vs) = w2 at *
    exact bodyPost_ret (v := .tuple #[.agg #[.string ks, .string vs], .bool true]) (by simp [results, Try.results81, go_sem, k0, k1]) rfl ⟨rfl, HB1.out⟩

end Go.Proofs.Ytmfkgbncnaingaa.Sto
end

section
/- What a file of good batches is read as. -/
namespace Go.Proofs.Ytmfkgbncnaingaa.Sto
open Go.RowKit Go.Proofs.Ytmfkgbncnaingaa.Reg Go.Proofs.Ytmfkgbncnaingaa.QRows Go.Proofs.Ytmfkgbncnaingaa.Rows Go.Proofs.Ytmfkgbncnaingaa.Wal Go.Proofs.YtmfkgbncnaingaaW.PrintWords Go.Proofs.YtmfkgbncnaingaaW.PrintLast Go.Proofs.YtmfkgbncnaingaaW.PrintMore
set_option linter.unusedVariables false
set_option linter.unusedSimpArgs false

/-- The table that batches make. -/
def tableOf (Ls : List (List S67)) : List S67 := Ls.foldl changed []
theorem tableOf_take (Ls : List (List S67)) (i : Nat) (h : i < Ls.length) : tableOf (Ls.take (i + 1)) = changed (tableOf (Ls.take i)) Ls[i] := by
  unfold tableOf; rw [List.take_succ_eq_append_getElem h, List.foldl_append]; rfl
/-- Batches that a store may have written. -/
structure Logs (Ls : List (List S67)) : Prop where
  wr : ∀ l ∈ Ls, ∀ x ∈ l, Wr x
  short : ∀ l ∈ Ls, l.length ≤ 60
  room : ∀ i, (tableOf (Ls.take i)).length ≤ 40
  many : Ls.length ≤ 1200

theorem at_row {w : World} {A : Option Addr} {n : Nat} {xs : List (List Int)} (h : k2.C w A n xs) (i : Nat) (h1 : i < n) : ∃ ad A0 c0, A = some ad ∧ w.cell? (ad.add i) = some (.slice A0 (xs.getD i []).length c0) ∧ (xs.getD i []).length ≤ c0 ∧ (Kd.int .u8).C w A0 (xs.getD i []).length (xs.getD i []) := by
  obtain ⟨ad, c, e, _, hK, hc0⟩ := Kd.C_get h ([] : List Int) (i : Int) (by omega) (by omega)
  have hc : ∀ j u, c[j]? = some u → w.cell? (ad.add ((i : Int).toNat * 1 + j)) = some u := hc0
  obtain ⟨A0, c0, rfl, l0, g0⟩ := hK
  rw [Int.toNat_natCast] at *
  exact ⟨ad, A0, c0, e, by have hq := hc 0 _ rfl; rwa [Nat.mul_one, Nat.add_zero] at hq, l0, g0⟩
theorem at_rows {w : World} {A : Option Addr} {n : Nat} {xs : List (List (List Int))} (h : k3.C w A n xs) (i : Nat) (h1 : i < n) : ∃ ad A0 c0, A = some ad ∧ w.cell? (ad.add i) = some (.slice A0 (xs.getD i []).length c0) ∧ (xs.getD i []).length ≤ c0 ∧ k2.C w A0 (xs.getD i []).length (xs.getD i []) := by
  obtain ⟨ad, c, e, _, hK, hc0⟩ := Kd.C_get h ([] : List (List Int)) (i : Int) (by omega) (by omega)
  have hc : ∀ j u, c[j]? = some u → w.cell? (ad.add ((i : Int).toNat * 1 + j)) = some u := hc0
  obtain ⟨A0, c0, rfl, l0, g0⟩ := hK
  rw [Int.toNat_natCast] at *
  exact ⟨ad, A0, c0, e, by have hq := hc 0 _ rfl; rwa [Nat.mul_one, Nat.add_zero] at hq, l0, g0⟩

set_option maxRecDepth 100000 in
set_option maxHeartbeats 8000000 in
theorem read_calls (A : Option Addr) (c : Nat) (b : List Int) (Ls : List (List S67)) (w : World) (hr : (Kd.int .u8).C w A b.length b) (hc : b.length ≤ c) (hl : b.length ≤ 100000) (hx : ∀ x ∈ b, 0 ≤ x ∧ x < 256) (hread : (readOf b).1 = Ls.map (·.map recOf)) (hL : Logs Ls) :
    Calls Try.prog 68 #[.slice A b.length c] w fun e w' => ∃ v, e = .returned (.tuple #[v, .int .i64 (readOf b).2, .int .i64 0]) ∧ k67.R 67 w' w.heap.size (fun _ => True) v (tableOf Ls) ∧ Below w.heap.size w w' := by
  have HRead := Aside0.mk (Read_calls A c b w hr hc hl hx)
  have HL := Aside0.mk hL
  rw [hread] at HRead
  have hlen : (Ls.map (·.map recOf)).length = Ls.length := List.length_map _
  generalize (readOf b).2 = used at *
  obtain ⟨rs, hrs⟩ : ∃ rs, rs = Ls.map (·.map recOf) := ⟨_, rfl⟩
  rw [← hrs] at HRead hlen
  have HRS := Aside0.mk hrs
  have HLen := Aside0.mk hlen
  have hmany := hL.many
  clear hr hc hl hx hread hL hrs hlen
  go_enter Try.func68, Try.ntmps68
  go_wp2_with (go_at_call 58; refine HRead.out.mono ?_; rintro e w1 ⟨v1, rfl, hv, hb⟩; obtain ⟨A5, c5, rfl, _, hC5⟩ := Kd.R_reads hv; rw [HLen.out] at hC5 ⊢; have HC := Aside0.mk hC5; have HB1 := Aside0.mk hb; clear hv hb hC5)
  go_loopg [7, 22] (Ls.length) (fun kq v7 v22 wr => ∃ (i : Nat), v22 = .int .i64 i ∧ Aside0 (kq + i = Ls.length) ∧ Aside0 (k67.R 67 wr w.heap.size (fun _ => True) v7 (tableOf (Ls.take i))) ∧ Aside0 (Below w1.heap.size w1 wr) ∧ Aside0 (Below w.heap.size w wr))
  case atStart => exact ⟨0, rfl, ⟨by omega⟩, ⟨Kd.R_nil _ _ _ _ _⟩, ⟨Below.refl _ _⟩, HB1⟩
  case round =>
    obtain ⟨i, rfl, hK, hT, hW1, hW⟩ := hrel
    by_cases hlt : i < Ls.length
    · have hb1 : (i : Int) < (Ls.length : Int) := by omega
      have hwi : IntKind.i64.wrap ((i : Int) + 1) = (i : Int) + 1 := by rw [IntKind.wrap_i64]; omega
      obtain ⟨ad, A6, c6, rfl, hx0, -, hC6⟩ := at_rows (Kd.C_below HC.out hW1.out) i hlt
      have hel : rs.getD i [] = (Ls[i]).map recOf := by rw [HRS.out]; simp [List.getD_eq_getElem?_getD, hlt]
      rw [hel, List.length_map] at hx0 hC6
      have HWr := Aside0.mk (HL.out.wr _ (List.getElem_mem hlt))
      have hsh := HL.out.short _ (List.getElem_mem hlt)
      have hnext := tableOf_take Ls i hlt
      have hroom2 := And.intro (HL.out.room i) (HL.out.room (i + 1))
      obtain ⟨T', hT'⟩ : ∃ T', T' = tableOf (Ls.take (i + 1)) := ⟨_, rfl⟩
      rw [← hT'] at hnext hroom2
      have HTE := Aside0.mk hT'
      have HNext := Aside0.mk hnext
      have HRoom := Aside0.mk hroom2
      have HC6 := Aside0.mk hC6
      generalize Ls[i] = l at *
      generalize tableOf (Ls.take i) = T at *
      clear hel hC6 hT' hnext hroom2
      obtain ⟨wo, rfl⟩ : ∃ wo : World, wo = wr := ⟨_, rfl⟩
      obtain ⟨gko, rfl⟩ : ∃ gko : Nat, gko = gk := ⟨_, rfl⟩
      go_wp2
      go_loopg [10, 28] (l.length) (fun kq v10 v28 wj => ∃ (j : Nat), v28 = .int .i64 j ∧ Aside0 (kq + j = l.length) ∧ Aside0 (k67.R 67 wj wo.heap.size (fun _ => True) v10 (l.take j)) ∧ Aside0 (Below wo.heap.size wo wj))
      case atStart => exact ⟨0, rfl, ⟨by omega⟩, ⟨Kd.R_nil _ _ _ _ _⟩, ⟨Below.refl _ _⟩⟩
      case round =>
        obtain ⟨j, rfl, hKj, hTj, hWj⟩ := hrel
        by_cases hltj : j < l.length
        · have hbj : (j : Int) < (l.length : Int) := by omega
          have hwj : IntKind.i64.wrap ((j : Int) + 1) = (j : Int) + 1 := by rw [IntKind.wrap_i64]; omega
          obtain ⟨ad2, A7, c7, rfl, hx1, hc7, hC7⟩ := at_row (Kd.C_below HC6.out hWj.out) j hltj
          have hel : (l.map recOf).getD j [] = recOf l[j] := by simp [List.getD_eq_getElem?_getD, hltj]
          rw [hel] at hx1 hc7 hC7
          have HN := Aside0.mk (show l.take (j + 1) = l.take j ++ [l[j]] from List.take_succ_eq_append_getElem hltj)
          have hwx := HWr.out _ (List.getElem_mem hltj)
          generalize l[j] = x at *
          have HLj : Aside0 ((l.take j).length = j) := Aside0.mk (by rw [List.length_take]; omega)
          have HRow := fun w h => Aside0.mk (row_calls x hwx A7 c7 w h hc7)
          have HC7 := Aside0.mk hC7
          generalize l.take j = lj at *
          generalize (recOf x).length = nx at *
          clear hel hC7 hc7 hwx
          go_wp2_with (first
            | (go_at_call 81; refine (HRow _ HC7.out).out.mono ?_; rintro e w4 ⟨rfl, hb⟩; have HT4 := Aside0.mk (Kd.R_below hTj.out hb); have HW4 := Aside0.mk (hWj.out.trans (hb.mono hWj.out.size)); clear hb)
            | (at_builtin; refine Kd.R_append_rows k67 (w0 := wo) wo.heap.size rfl (.tmp 39) (.tmp 41) 58 67 (.agg #[(.string ⟨#[]⟩), (.string ⟨#[]⟩)]) 32 rfl Try.underlying58 info67 rfl (by decide) (by omega) _ lj [x] _ _ _ (fun _ => True) (fun _ => False) rfl rfl (Kd.R_alloc (Kd.R_alloc HT4.out _) _) (one_reads (c := x) (new_block_at (by simp))) (fun x cs h => by rw [k67_open h]; exact k67_mkM _ _ _ x) (fun _ h => h.elim) (fun _ _ => trivial) (below_alloc (below_alloc HW4.out _) _) (by have := HW4.out.size; simp; omega) (by rw [HLj.out]; omega) ?_; intro v5 w5 ho hbb _ _; have HO5 := Aside0.mk ho; have HB5 := Aside0.mk hbb; clear ho hbb))
          go_roundg (gk - 1)
          case measure => have := hKj.out; omega
          case rel => exact ⟨j + 1, by go_num, ⟨by have := hKj.out; omega⟩, ⟨by rw [HN.out]; exact HO5.out⟩, HB5⟩
        · have hE : Aside0 (l.take j = l) := Aside0.mk (List.take_of_length_le (by omega))
          rw [hE.out] at hTj
          obtain ⟨At, ct, rfl, _, _⟩ := Kd.R_reads hT.out
          obtain ⟨Al, cl, rfl, _, _⟩ := Kd.R_reads hTj.out
          have HTc := Aside0.mk (Kd.C_below (Kd.R_reads' hT.out).2.2 hWj.out)
          have HLc := Aside0.mk (Kd.R_reads' hTj.out).2.2
          have hroom : decide ((40 : Int) < (T'.length : Int)) = false := decide_eq_false (by have := HRoom.out.2; omega)
          rw [HNext.out] at hroom
          have hsz := hWj.out.size
          go_wp2_with (go_at_call 64; refine (Changed_calls At Al ct cl T l _ HTc.out HLc.out (by have := HRoom.out.1; omega) (by omega)).mono ?_; rintro e w6 ⟨v6, rfl, hv, hb⟩; obtain ⟨A8, c8, rfl, _, _⟩ := Kd.R_reads hv; have HV := Aside0.mk (Kd.R_lower hv (Nat.le_trans hW.out.size hsz)); have HB6 := Aside0.mk (hWj.out.trans (hb.mono hsz)); clear hb hv)
          go_roundg (gko - 1)
          case measure => have := hK.out; omega
          case rel => exact ⟨i + 1, by go_num, ⟨by have := hK.out; omega⟩, ⟨by rw [← HTE.out, HNext.out]; exact HV.out⟩, ⟨hW1.out.trans (HB6.out.mono hW1.out.size)⟩, ⟨hW.out.trans (HB6.out.mono hW.out.size)⟩⟩
    · have hE : Aside0 (tableOf (Ls.take i) = tableOf Ls) := Aside0.mk (by rw [List.take_of_length_le (by omega)])
      rw [hE.out] at hT
      go_wp2
      go_ret3
      exact ⟨_, rfl, hT.out, hW.out⟩
end Go.Proofs.Ytmfkgbncnaingaa.Sto
end

section
/- Plain: logs of batches, and what is read of them. -/
namespace Go.Proofs.Ytmfkgbncnaingaa.Sto
open Go.RowKit Go.Proofs.Ytmfkgbncnaingaa.QRows Go.Proofs.Ytmfkgbncnaingaa.Rows Go.Proofs.Ytmfkgbncnaingaa.Wal Go.Proofs.YtmfkgbncnaingaaW.PrintWords Go.Proofs.YtmfkgbncnaingaaW.PrintLast
set_option linter.unusedVariables false
set_option linter.unusedSimpArgs false

/-- The bytes of batches, one behind the other. -/
def bytesOfLog (Ls : List (List S67)) : List Int := flat (Ls.map (·.map recOf))
theorem log_append (a b : List (List S67)) : bytesOfLog (a ++ b) = bytesOfLog a ++ bytesOfLog b := by
  unfold bytesOfLog; rw [List.map_append, flat_append]
theorem log_one (l : List S67) : bytesOfLog [l] = batchOf l := by simp [bytesOfLog, flat, batchOf]
theorem log_nil : bytesOfLog [] = [] := rfl
theorem tableOf_append (a b : List (List S67)) : tableOf (a ++ b) = b.foldl changed (tableOf a) := by unfold tableOf; rw [List.foldl_append]
theorem tableOf_snoc (a : List (List S67)) (l : List S67) : tableOf (a ++ [l]) = changed (tableOf a) l := by rw [tableOf_append]; rfl

/-- What a store has written. -/
structure LI (Ls : List (List S67)) : Prop where
  ok : ∀ l ∈ Ls, l ≠ [] ∧ l.length ≤ 60 ∧ ∀ x ∈ l, Wr x
  room : ∀ i, (tableOf (Ls.take i)).length ≤ 40
  disk : (bytesOfLog Ls).length ≤ 1200
theorem LI.nil : LI [] := ⟨fun l h => (by cases h), fun i => by rw [List.take_nil]; exact Nat.zero_le _, by rw [log_nil]; decide⟩
theorem recOf_rec {x : S67} (h : Wr x) : Rec (recOf x) := by
  have := rec_length x; unfold Wr at h; unfold Rec; omega
theorem good_batch {l : List S67} (h0 : l ≠ []) (h : ∀ x ∈ l, Wr x) : Wal.Good (l.map recOf) :=
  ⟨by simpa using h0, fun r hr => by obtain ⟨x, hx, rfl⟩ := List.mem_map.1 hr; exact recOf_rec (h x hx)⟩
theorem LI.good {Ls : List (List S67)} (h : LI Ls) : ∀ z ∈ Ls.map (·.map recOf), Wal.Good z := fun z hz => by
  obtain ⟨l, hl, rfl⟩ := List.mem_map.1 hz
  obtain ⟨h1, _, h3⟩ := h.ok l hl
  exact good_batch h1 h3

theorem bytes_append {x y : List Int} (h : Bytes x) (k : Bytes y) : Bytes (x ++ y) := fun z hz => by
  rcases List.mem_append.1 hz with hz | hz
  · exact h z hz
  · exact k z hz
theorem bytes_ofGo {z : List (List Int)} (h : Fit z) : Bytes (ofGo z) := by
  induction z with
  | nil => intro x hx; cases hx
  | cons x l ih =>
    obtain ⟨ha, hb⟩ := h x List.mem_cons_self
    rw [Wal.ofGo]
    refine bytes_append ?_ (ih fun y hy => h y (List.mem_cons_of_mem _ hy))
    have hs := sumsOf_range (headOf x l.isEmpty)
    unfold frameOf
    refine bytes_append (bytes_append ?_ hb) ?_
    · intro y hy
      rcases List.mem_cons.1 hy with rfl | hy
      · omega
      · rw [List.mem_singleton.1 hy]; split <;> omega
    · intro y hy
      rcases List.mem_cons.1 hy with rfl | hy
      · omega
      · rw [List.mem_singleton.1 hy]; omega
theorem batch_bytes {l : List S67} (h : ∀ x ∈ l, Wr x) : Bytes (batchOf l) := bytes_ofGo (recOf_fit h)
theorem LI.bytes {Ls : List (List S67)} (h : LI Ls) : Bytes (bytesOfLog Ls) := by
  have : ∀ Ls : List (List S67), (∀ l ∈ Ls, ∀ x ∈ l, Wr x) → Bytes (bytesOfLog Ls) := by
    intro Ls
    induction Ls with
    | nil => intro _ x hx; cases hx
    | cons l t ih =>
      intro hh
      have e : bytesOfLog (l :: t) = batchOf l ++ bytesOfLog t := by
        rw [show l :: t = [l] ++ t by rfl, log_append, log_one]
      rw [e]
      exact bytes_append (batch_bytes (hh l List.mem_cons_self)) (ih fun m hm => hh m (List.mem_cons_of_mem _ hm))
  exact this Ls fun l hl => (h.ok l hl).2.2
theorem batch_min {l : List S67} (h0 : l ≠ []) (h : ∀ x ∈ l, Wr x) : 6 ≤ (batchOf l).length := by
  cases l with
  | nil => exact absurd rfl h0
  | cons x t =>
    have hx := h x List.mem_cons_self
    unfold Wr at hx
    unfold batchOf
    rw [List.map_cons, ofGo, List.length_append, frameOf_length, rec_length]
    omega
theorem LI.many {Ls : List (List S67)} (h : LI Ls) : Ls.length ≤ 1200 := by
  have : ∀ Ls : List (List S67), (∀ l ∈ Ls, l ≠ [] ∧ ∀ x ∈ l, Wr x) → Ls.length ≤ (bytesOfLog Ls).length := by
    intro Ls
    induction Ls with
    | nil => intro _; exact Nat.zero_le _
    | cons l t ih =>
      intro hh
      have e : bytesOfLog (l :: t) = batchOf l ++ bytesOfLog t := by
        rw [show l :: t = [l] ++ t by rfl, log_append, log_one]
      have h1 := ih fun m hm => hh m (List.mem_cons_of_mem _ hm)
      have h2 := hh l List.mem_cons_self
      have h3 := batch_min h2.1 h2.2
      rw [e, List.length_append, List.length_cons]; omega
  have h1 := this Ls fun l hl => ⟨(h.ok l hl).1, (h.ok l hl).2.2⟩
  have := h.disk
  omega
theorem LI.logs {Ls : List (List S67)} (h : LI Ls) : Logs Ls := ⟨fun l hl => (h.ok l hl).2.2, fun l hl => (h.ok l hl).2.1, h.room, h.many⟩
/-- All is read. -/
theorem LI.read {Ls : List (List S67)} (h : LI Ls) : readOf (bytesOfLog Ls) = (Ls.map (·.map recOf), (bytesOfLog Ls).length) := by
  have h1 := readOf_flat (Ls.map (·.map recOf)) h.good []
  rw [List.append_nil, read_nil, List.append_nil] at h1
  exact h1
/-- A torn batch behind is not read. -/
theorem LI.torn {Ls : List (List S67)} (h : LI Ls) {l : List S67} (h0 : l ≠ []) (hw : ∀ x ∈ l, Wr x) {k : Nat} (hk : k < (batchOf l).length) : readOf (bytesOfLog Ls ++ (batchOf l).take k) = (Ls.map (·.map recOf), (bytesOfLog Ls).length) := by
  have h1 := readOf_flat (Ls.map (·.map recOf)) h.good ((batchOf l).take k)
  have hf : flat [l.map recOf] = batchOf l := log_one l
  have h2 := read_torn (z := l.map recOf) (t := []) (k := k) (fun y hy => by rw [List.mem_singleton.1 hy]; exact good_batch h0 hw) (by rw [hf]; exact fun x hx => batch_bytes hw x (List.mem_of_mem_take hx)) hk
  rw [hf] at h2
  rw [h2, List.append_nil] at h1
  exact h1

theorem faultS_ne {D : List Int} {T l : List S67} (h : faultS D T l = 0) : l ≠ [] := by
  rintro rfl
  unfold faultS at h
  rw [if_pos (show ([] : List S67).length = 0 from rfl)] at h; omega
theorem LI.snoc {Ls : List (List S67)} (h : LI Ls) {l : List S67} (hf : faultS (bytesOfLog Ls) (tableOf Ls) l = 0) : LI (Ls ++ [l]) := by
  obtain ⟨h1, h2⟩ := faultS_zero hf
  obtain ⟨h3, h4, h5⟩ := wr_of_fault h1
  refine ⟨fun m hm => ?_, fun i => ?_, by rw [log_append, log_one, List.length_append]; exact h2⟩
  · rcases List.mem_append.1 hm with hm | hm
    · exact h.ok m hm
    · rw [List.mem_singleton.1 hm]; exact ⟨faultS_ne hf, h3, h4⟩
  · by_cases hi : i ≤ Ls.length
    · rw [List.take_append_of_le_length hi]; exact h.room i
    · rw [List.take_of_length_le (by simp; omega), tableOf_snoc]; exact h5

theorem toList_size (s : ByteArray) : s.toList.length = s.size := by rw [ByteArray.toList_eq, Array.length_toList]; rfl
/-! ### the table -/
theorem wr_small {x : S67} (h : Wr x) : Small x := by
  refine ⟨?_, h.2.2⟩
  unfold keyOk
  have hx : ¬ x.f0.toList = ([] : List UInt8) := fun e => by
    have h1 := h.1
    have h2 : x.f0.toList.length = x.f0.size := toList_size _
    rw [e] at h2
    simp at h2; omega
  rw [if_neg hx, decide_eq_true_eq]
  have := h.2.1; omega
theorem LI.small {Ls : List (List S67)} (h : LI Ls) : ∀ l ∈ Ls, ∀ x ∈ l, Small x := fun l hl x hx => wr_small ((h.ok l hl).2.2 x hx)
theorem LI.table {Ls : List (List S67)} (h : LI Ls) : Rows.Good (tableOf Ls) := by
  have : ∀ i, Rows.Good (tableOf (Ls.take i)) := by
    intro i
    induction i with
    | zero => rw [List.take_zero]; exact Good.nil
    | succ i ih =>
      by_cases hi : i < Ls.length
      · have hr := h.room (i + 1)
        rw [tableOf_take Ls i hi] at hr ⊢
        exact ih.changed (h.small _ (List.getElem_mem hi)) hr
      · rw [List.take_of_length_le (by omega)] at ih ⊢; exact ih
  have h1 := this Ls.length
  rwa [List.take_length] at h1
theorem fine_wr {x : S67} (h : Fine x) : Wr x := by
  obtain ⟨h1, h2, _⟩ := h
  unfold keyOk at h1
  by_cases h6 : x.f0.toList = ([] : List UInt8)
  · rw [if_pos h6] at h1; cases h1
  · rw [if_neg h6, decide_eq_true_eq] at h1
    refine ⟨?_, by omega, h2⟩
    have h2 : x.f0.toList.length = x.f0.size := toList_size _
    have h3 : x.f0.toList.length ≠ 0 := fun e => h6 (List.eq_nil_of_length_eq_zero e)
    omega
theorem LI.tableWr {Ls : List (List S67)} (h : LI Ls) : ∀ x ∈ tableOf Ls, Wr x := fun x hx => fine_wr (h.table.fine x hx)

theorem snoc_any {α : Type} {P : List α → Prop} (h0 : P []) (h1 : ∀ l c, P l → P (l ++ [c])) : ∀ l, P l := by
  have h : ∀ l : List α, P l.reverse := by
    intro l
    induction l with
    | nil => exact h0
    | cons c l ih => rw [List.reverse_cons]; exact h1 _ _ ih
  intro l
  have := h l.reverse
  rwa [List.reverse_reverse] at this
/-- How many bytes rows cost. -/
def cost : List S67 → Nat
  | [] => 0
  | x :: l => (recOf x).length + 4 + cost l
theorem cost_append (a b : List S67) : cost (a ++ b) = cost a + cost b := by
  induction a with
  | nil => simp [cost]
  | cons x l ih => simp [cost, ih]; omega
theorem cost_batch (l : List S67) : (batchOf l).length = cost l := by
  unfold batchOf
  induction l with
  | nil => rfl
  | cons x l ih => rw [List.map_cons, ofGo, List.length_append, frameOf_length, cost, ih]
theorem cost_change (T : List S67) (c : S67) (hs : Sorted T) : cost (change T c) ≤ cost T + cost [c] := by
  obtain ⟨A, M, B, h1, _, _, _, h5⟩ := change_split T c hs
  rw [h5, h1, cost_append, cost_append, cost_append, cost_append]
  split <;> simp [cost] <;> omega
theorem cost_changed (cs : List S67) : ∀ T : List S67, Sorted T → cost (changed T cs) ≤ cost T + cost cs := by
  induction cs with
  | nil => intro T _; exact Nat.le_refl _
  | cons c l ih =>
    intro T hs
    have h1 := ih (change T c) (change_sorted T c hs)
    have h2 := cost_change T c hs
    have h3 : cost (c :: l) = cost [c] + cost l := by simp [cost]
    have h4 : changed T (c :: l) = changed (change T c) l := rfl
    rw [h4]; omega
theorem cost_table (Ls : List (List S67)) : cost (tableOf Ls) ≤ (bytesOfLog Ls).length := by
  refine snoc_any (P := fun Ls => cost (tableOf Ls) ≤ (bytesOfLog Ls).length) ?_ ?_ Ls
  · simp [tableOf, cost]
  · intro Ls l ih
    have hs : Sorted (tableOf Ls) := by
      have : ∀ (Ls : List (List S67)) (T : List S67), Sorted T → Sorted (Ls.foldl changed T) := by
        intro Ls
        induction Ls with
        | nil => intro T h; exact h
        | cons m t ih => intro T h; exact ih _ (changed_sorted T m h)
      exact this Ls [] List.Pairwise.nil
    rw [tableOf_snoc, log_append, log_one, List.length_append, cost_batch]
    have := cost_changed l (tableOf Ls) hs
    omega

/-- A table made of itself is itself. -/
theorem table_self {T : List S67} (h : Rows.Good T) : changed [] T = T := by
  have hS : Sorted ([] : List S67) := List.Pairwise.nil
  refine sorted_ext _ _ (changed_sorted _ _ hS) h.sorted fun x => ?_
  rw [changed_mem _ hS]
  unfold Stands
  have hu : ∀ a ∈ T, ∀ b ∈ T, a.f0.toList = b.f0.toList → a = b := by
    intro a ha b hb e
    obtain ⟨i, hi, rfl⟩ := List.getElem_of_mem ha
    obtain ⟨j, hj, rfl⟩ := List.getElem_of_mem hb
    rcases Nat.lt_trichotomy i j with h1 | h1 | h1
    · have := h.sorted.lt h1 hj; rw [e, less_irrefl] at this; cases this
    · subst h1; rfl
    · have := h.sorted.lt h1 hi; rw [e, less_irrefl] at this; cases this
  constructor
  · intro h1
    cases hl : lastOf T x.f0.toList with
    | none => rw [hl] at h1; cases h1
    | some c => rw [hl] at h1; rw [h1.1]; exact (lastOf_key hl).1
  · intro hx
    have hs : ∃ c, lastOf T x.f0.toList = some c := by
      cases hl : lastOf T x.f0.toList with
      | some c => exact ⟨c, rfl⟩
      | none =>
        exfalso
        revert hl hx
        refine snoc_cases (P := fun T => x ∈ T → lastOf T x.f0.toList = none → False) ?_ ?_ T
        · intro h; cases h
        · intro l d ih hx hl
          rw [lastOf_snoc] at hl
          split at hl
          · cases hl
          · rename_i hne
            rcases List.mem_append.1 hx with hm | hm
            · exact ih hm hl
            · rw [List.mem_singleton.1 hm] at hne; exact hne rfl
    obtain ⟨c, hl⟩ := hs
    obtain ⟨hm, hk⟩ := lastOf_key hl
    rw [hl]
    obtain rfl := hu c hm x hx hk
    exact ⟨rfl, (h.fine _ hx).2.2⟩

/-- A log written anew. -/
def packed (Ls : List (List S67)) : List (List S67) := if tableOf Ls = [] then [] else [tableOf Ls]
theorem packed_bytes (Ls : List (List S67)) : bytesOfLog (packed Ls) = batchOf (tableOf Ls) := by
  unfold packed
  split
  · rename_i h; rw [h]; rfl
  · rw [log_one]
theorem LI.packed {Ls : List (List S67)} (h : LI Ls) : LI (packed Ls) ∧ tableOf (packed Ls) = tableOf Ls := by
  have hT := h.table
  have hself := table_self hT
  have hc := cost_table Ls
  have hd := h.disk
  unfold Sto.packed
  split
  · rename_i he
    exact ⟨LI.nil, he.symm⟩
  · rename_i he
    have ht1 : tableOf [tableOf Ls] = tableOf Ls := hself
    refine ⟨⟨fun l hl => ?_, fun i => ?_, by rw [log_one, cost_batch]; omega⟩, ht1⟩
    · rw [List.mem_singleton.1 hl]; exact ⟨he, by have := hT.room; omega, h.tableWr⟩
    · cases i with
      | zero => rw [List.take_zero]; exact Nat.zero_le _
      | succ i => rw [List.take_of_length_le (by simp)]; rw [ht1]; exact hT.room

end Go.Proofs.Ytmfkgbncnaingaa.Sto
end

section
/- What writing anew does, and what a crash does. -/
namespace Go.Proofs.Ytmfkgbncnaingaa.Sto
open Go.Proofs.Ytmfkgbncnaingaa.Disk (Eff fallTo fallTo_range)
open Go.RowKit Go.Proofs.Ytmfkgbncnaingaa.QRows Go.Proofs.Ytmfkgbncnaingaa.Rows Go.Proofs.Ytmfkgbncnaingaa.Wal Go.Proofs.YtmfkgbncnaingaaW.PrintWords Go.Proofs.YtmfkgbncnaingaaW.PrintLast Go.Proofs.YtmfkgbncnaingaaW.PrintMore
set_option linter.unusedVariables false
set_option linter.unusedSimpArgs false

set_option maxRecDepth 100000 in
set_option maxHeartbeats 8000000 in
theorem Pack_calls (w : World) (base g : Nat) (D : List Int) (T : List S67) (h : Held w base g D T) (hbase : base ≤ w.heap.size) (hD : D.length ≤ 1200) (hT : T.length ≤ 40) (hw : ∀ x ∈ T, Wr x) (hb : (batchOf T).length ≤ 1200) :
    Calls Try.prog 83 #[.pointer (some ⟨g, 0, none⟩)] w fun e w' => e = .returned (.tuple #[]) ∧ Held w' base g (batchOf T) T ∧ Eff w w' base g := by
  obtain ⟨v, rv, hd, ht⟩ := h
  obtain ⟨At, ct, rfl, hlt, htd⟩ := Kd.R_reads ht
  have HB := fun w h => Aside0.mk (batch_calls At ct T w h (by omega) hw)
  have HBE : Aside0 (batchOf T = ofGo (T.map recOf)) := ⟨rfl⟩
  have HFit := Aside0.mk hb
  have HTr := Aside0.mk (Trim_calls (.slice At T.length ct) w base g v D D.length 0 hd (by omega) (by omega) hD)
  rw [show (0 : Int).toNat = 0 from rfl, List.take_zero] at HTr
  obtain ⟨b, hbb⟩ : ∃ b, b = batchOf T := ⟨_, rfl⟩
  rw [← hbb] at HBE HFit
  rw [← HBE.out] at HB
  rw [← hbb]
  have HT := Aside0.mk ht
  have HBase := Aside0.mk hbase
  have e00 : ([] : List Int).length = 0 := rfl
  clear hbb hlt htd hd ht hb hw hbase hD e00
  go_enter Try.func83, Try.ntmps83
  go_wp2_with (go_at_call 87; refine HTr.out.mono ?_; rintro e w1 ⟨rfl, ⟨v1, hd1⟩, he1⟩; have HD1 := Aside0.mk hd1.drew; have HT1 := Aside0.mk (Kd.R_drew (rows_eff HT.out he1)); have HE1 := Aside0.mk (he1.trans (Disk.Eff.drewN w1 base g 1)); have hk := (blk_cell HD1.out.blk 2).trans rfl; clear hd1 he1)
  go_region_held3 (fun x => x.cell? ⟨g, 2, none⟩ = some (.slice At T.length ct)) (first | exact hk | exact hk3 | exact hk4) (first
    | (go_at_call 97; refine (HB _ (Kd.R_reads' HT1.out).2.2).out.mono ?_; rintro e w3 ⟨v3, rfl, hv, hb⟩; obtain ⟨A3, c3, rfl, _, hC3⟩ := Kd.R_reads hv; have HC3 := Aside0.mk hC3; have HD3 := Aside0.mk (HD1.out.below hb); have HT3 := Aside0.mk (Kd.R_below HT1.out hb); have HE3 := Aside0.mk (HE1.out.trans (Eff.below hb)); have hk3 := (blk_cell HD3.out.blk 2).trans rfl; clear hb hv hC3)
    | (go_at_call 85; refine (Write_calls _ _ base g v1 [] b 0 A3 c3 HD3.out HC3.out (by have := HFit.out; simp; omega)).mono ?_; rintro e w4 ⟨v4, rfl, hd4, he4⟩; have HD4 := Aside0.mk hd4; have HT4 := Aside0.mk (rows_eff HT3.out he4); have HE4 := Aside0.mk (HE3.out.trans he4); have hk4 := (blk_cell HD4.out.blk 2).trans rfl; clear hd4 he4))
  all_goals
    go_wp2_with (go_at_call 86; refine (Sync_calls _ _ base g v4 ([] ++ b) 0 HD4.out).mono ?_; rintro e w5 ⟨rfl, hd5, he5⟩; have HD5 := Aside0.mk hd5; have HT5 := Aside0.mk (rows_eff HT4.out he5); have HE5 := Aside0.mk (HE4.out.trans he5); clear hd5 he5)
    go_end0
    exact ⟨rfl, ⟨_, _, HD5.out, HT5.out⟩, HE5.out⟩

/-- What a crash within a commit comes to: its code, and the log that is left. -/
def crashS (Ls : List (List S67)) (l : List S67) (n : Int) : Int × List (List S67) :=
  if n < 0 then (2, Ls) else if faultS (bytesOfLog Ls) (tableOf Ls) l ≠ 0 then (faultS (bytesOfLog Ls) (tableOf Ls) l, Ls) else (0, if ((batchOf l).length : Int) ≤ n then Ls ++ [l] else Ls)
/-- What lies on the disk behind the fall. -/
structure Fallen (Ls Ls' : List (List S67)) (b : List Int) (n : Int) (D2 : List Int) (k : Int) : Prop where
  is : ((bytesOfLog Ls ++ b).take k.toNat) = D2
  len : (D2.length : Int) = k
  read : readOf D2 = (Ls'.map (·.map recOf), (bytesOfLog Ls').length)
  cut : D2.take (bytesOfLog Ls').length = bytesOfLog Ls'
  le : (bytesOfLog Ls').length ≤ D2.length
  bytes : Bytes D2
  logs : LI Ls'
theorem fallen {Ls : List (List S67)} (hL : LI Ls) {l : List S67} {n : Int} (hn : 0 ≤ n) (hf : faultS (bytesOfLog Ls) (tableOf Ls) l = 0) :
    ∃ D2, Fallen Ls (if ((batchOf l).length : Int) ≤ n then Ls ++ [l] else Ls) (batchOf l) n D2 (fallTo ((bytesOfLog Ls ++ batchOf l).length : Nat) ((bytesOfLog Ls).length : Nat) n) := by
  obtain ⟨h1, h2⟩ := faultS_zero hf
  obtain ⟨h3, h4, h5⟩ := wr_of_fault h1
  have h0 := faultS_ne hf
  have hS := hL.snoc hf
  have hlen : ((bytesOfLog Ls ++ batchOf l).take (fallTo ((bytesOfLog Ls ++ batchOf l).length : Nat) ((bytesOfLog Ls).length : Nat) n).toNat).length = (fallTo ((bytesOfLog Ls ++ batchOf l).length : Nat) ((bytesOfLog Ls).length : Nat) n).toNat := by
    rw [List.length_take, List.length_append]; unfold fallTo; split <;> omega
  have hpos : 0 ≤ fallTo ((bytesOfLog Ls ++ batchOf l).length : Nat) ((bytesOfLog Ls).length : Nat) n := by
    rw [List.length_append]; unfold fallTo; split <;> omega
  have hbytes : Bytes ((bytesOfLog Ls ++ batchOf l).take (fallTo ((bytesOfLog Ls ++ batchOf l).length : Nat) ((bytesOfLog Ls).length : Nat) n).toNat) :=
    fun x hx => bytes_append hL.bytes (batch_bytes h4) x (List.mem_of_mem_take hx)
  by_cases hb : ((batchOf l).length : Int) ≤ n
  · rw [if_pos hb]
    have e : (bytesOfLog Ls ++ batchOf l).take (fallTo ((bytesOfLog Ls ++ batchOf l).length : Nat) ((bytesOfLog Ls).length : Nat) n).toNat = bytesOfLog (Ls ++ [l]) := by
      rw [log_append, log_one]
      exact List.take_of_length_le (by rw [List.length_append]; unfold fallTo; split <;> omega)
    refine ⟨_, rfl, by omega, ?_, ?_, ?_, hbytes, hS⟩
    · rw [e]; exact hS.read
    · rw [e, List.take_length]
    · rw [e]; exact Nat.le_refl _
  · rw [if_neg hb]
    have e : (fallTo ((bytesOfLog Ls ++ batchOf l).length : Nat) ((bytesOfLog Ls).length : Nat) n).toNat = (bytesOfLog Ls).length + n.toNat := by rw [List.length_append]; unfold fallTo; split <;> omega
    refine ⟨_, rfl, by omega, ?_, ?_, ?_, hbytes, hL⟩
    · rw [e, List.take_length_add_append]
      exact hL.torn h0 h4 (by omega)
    · rw [e, List.take_length_add_append, List.take_left]
    · rw [hlen, e]; omega

theorem rows_set {w : World} {base g : Nat} {v rv v6 : Value} {D : List Int} {s : Int} {T : List S67} (hD : Dk rv w base g v D s) (hT : k67.R 67 w base (fun k => k ≠ g) v6 T) :
    Dk v6 (w.setCell ⟨g, 2, none⟩ v6) base g v D s ∧ k67.R 67 (w.setCell ⟨g, 2, none⟩ v6) base (fun k => k ≠ g) v6 T ∧ Eff w (w.setCell ⟨g, 2, none⟩ v6) base g :=
  ⟨⟨by simpa using blk_set hD.blk 2 v6, hD.ge, Kd.R_far hD.row (fun k hk => hk) v6⟩, Kd.R_far hT (fun k hk => hk) v6, Disk.Eff.set w base g 2 v6 hD.ge⟩

set_option maxRecDepth 100000 in
set_option maxHeartbeats 8000000 in
theorem Crash_calls (w : World) (base g : Nat) (Ls : List (List S67)) (l : List S67) (A1 : Option Addr) (c1 : Nat) (n : Int) (hL : LI Ls) (h : Held w base g (bytesOfLog Ls) (tableOf Ls)) (hbase : base ≤ w.heap.size) (hr : ∀ w', Below base w w' → k67.C w' A1 l.length l) :
    Calls Try.prog 84 #[.pointer (some ⟨g, 0, none⟩), .slice A1 l.length c1, .int .i64 n] w fun e w' => e = .returned (.int .i64 (crashS Ls l n).1) ∧ Held w' base g (bytesOfLog (crashS Ls l n).2) (tableOf (crashS Ls l n).2) ∧ Eff w w' base g := by
  unfold crashS
  by_cases hn : n < 0
  · rw [if_pos hn]
    have hn1 := decide_eq_true hn
    have HH := Aside0.mk h
    clear hn h hr hL
    go_enter Try.func84, Try.ntmps84
    go_wp2
    go_ret
    exact ⟨rfl, HH.out, Disk.Eff.refl _ _ _⟩
  · rw [if_neg hn]
    have hn1 := decide_eq_false hn
    have HH := Aside0.mk h
    have hD := hL.disk
    have hT := hL.table.room
    obtain ⟨v, rv, hd, ht⟩ := h
    have HF := Aside0.mk (fault_calls w base g v rv (bytesOfLog Ls) (bytesOfLog Ls).length (tableOf Ls) l A1 c1 hd ht (hr w (Below.refl _ _)) hD hT)
    by_cases hz : faultS (bytesOfLog Ls) (tableOf Ls) l = 0
    · rw [if_neg (by omega)]
      obtain ⟨D2, hD2⟩ := fallen hL (show 0 ≤ n by omega) hz
      obtain ⟨hf0, hfit⟩ := faultS_zero hz
      obtain ⟨hl60, hwr, hch⟩ := wr_of_fault hf0
      rw [hz] at HF
      generalize (if ((batchOf l).length : Int) ≤ n then Ls ++ [l] else Ls) = Ls' at *
      have HB := fun w h => Aside0.mk (batch_calls A1 c1 l w h (by omega) hwr)
      have HBE : Aside0 (batchOf l = ofGo (l.map recOf)) := ⟨rfl⟩
      obtain ⟨b, hbb⟩ : ∃ b, b = batchOf l := ⟨_, rfl⟩
      rw [← hbb] at HBE hfit hD2
      rw [← HBE.out] at HB
      have HFit := Aside0.mk hfit
      have HX := Aside0.mk hD2
      have HN0 := Aside0.mk (show 0 ≤ n by omega)
      obtain ⟨At, ct, rfl, hlt, htd⟩ := Kd.R_reads ht
      have HD := Aside0.mk hd
      have HT := Aside0.mk ht
      have HL := Aside0.mk hr
      have HBase := Aside0.mk hbase
      have HLI := Aside0.mk hL
      clear hlt htd hbb hz hf0 hfit hl60 hwr hch hd ht hr hbase hT hD hD2 hn HH hL
      generalize hDD : bytesOfLog Ls = D at *
      generalize hTT : tableOf Ls = T at *
      have HDD := Aside0.mk hDD
      have HTT := Aside0.mk hTT
      have HK := Aside0.mk HX.out.is
      rw [HDD.out] at HK
      clear hDD hTT
      generalize hkk : fallTo ((D ++ b).length : Nat) (D.length : Nat) n = k at *
      have HKK := Aside0.mk hkk
      clear hkk
      have HU : Aside0 (∃ u, (bytesOfLog Ls').length = u) := ⟨⟨_, rfl⟩⟩
      obtain ⟨u, hu⟩ := HU.out
      have HUU := Aside0.mk hu
      have HRd := fun A c w h hc => Aside0.mk (by
        have h2 := read_calls A c D2 Ls' w h hc (by have h3 := congrArg List.length HK.out; rw [List.length_take, List.length_append] at h3; have := HFit.out; omega) HX.out.bytes (by rw [HX.out.read]) HX.out.logs.logs
        rw [HX.out.read] at h2
        dsimp only at h2
        rw [hu] at h2
        exact h2)
      have HLe := Aside0.mk HX.out.le
      have HCut := Aside0.mk HX.out.cut
      have HLn := Aside0.mk HX.out.len
      have HD2l := Aside0.mk (show D2.length ≤ 1200 by have h3 := congrArg List.length HK.out; rw [List.length_take, List.length_append] at h3; have := HFit.out; omega)
      have HDl := Aside0.mk (show D.length ≤ (D ++ b).length by rw [List.length_append]; omega)
      have HDl2 := Aside0.mk (show (D ++ b).length ≤ 1200 by rw [List.length_append]; exact HFit.out)
      rw [hu] at HLe HCut
      clear hu HU
      go_enter Try.func84, Try.ntmps84
      go_wp2_with (go_at_call 96; refine HF.out.mono ?_; rintro e w1 ⟨rfl, hb⟩; have HD1 := Aside0.mk (HD.out.below hb).drew; have HT1 := Aside0.mk (Kd.R_drew (Kd.R_below HT.out hb)); have HE1 := Aside0.mk ((Eff.below (base := base) (g := g) hb).trans (Disk.Eff.drewN w1 base g 1)); clear hb; have HL1 := Aside0.mk (HL.out _ (Disk.Eff.below HE1.out HBase.out)))
      go_region_with (first
        | (go_at_call 97; refine (HB _ HL1.out).out.mono ?_; rintro e w3 ⟨v3, rfl, hv, hb⟩; obtain ⟨A3, c3, rfl, _, hC3⟩ := Kd.R_reads hv; have HC3 := Aside0.mk hC3; have HD3 := Aside0.mk (HD1.out.below hb); have HT3 := Aside0.mk (Kd.R_below HT1.out hb); have HE3 := Aside0.mk (HE1.out.trans (Eff.below hb)); clear hb hv hC3)
        | (go_at_call 85; refine (Write_calls _ _ base g v D b D.length A3 c3 HD3.out HC3.out HFit.out).mono ?_; rintro e w4 ⟨v4, rfl, hd4, he4⟩; have HD4 := Aside0.mk hd4; have HT4 := Aside0.mk (rows_eff HT3.out he4); have HE4 := Aside0.mk (HE3.out.trans he4); clear hd4 he4))
      go_wp2_with (first
        | (go_at_call 88; refine (Fall_calls _ _ base g v4 (D ++ b) D.length n HD4.out (by omega) (by have := HDl.out; omega) HN0.out HDl2.out).mono ?_; rintro e w5 ⟨rfl, ⟨v5, hd5⟩, he5⟩; rw [HKK.out, HK.out] at hd5; obtain ⟨A5, c5, rfl, hc5, hC5⟩ := Kd.R_reads hd5.row; have HD5 := Aside0.mk hd5; have HE5 := Aside0.mk (HE4.out.trans he5); have hc0 := (blk_cell hd5.blk 0).trans rfl; have HC5 := Aside0.mk hC5; have Hc5 := Aside0.mk hc5; clear hd5 he5 hC5 hc5)
        | (go_at_call 68; refine (HRd A5 c5 _ HC5.out Hc5.out).out.mono ?_; rintro e w6 ⟨v6, rfl, hv, hb⟩; obtain ⟨A6, c6, rfl, _, _⟩ := Kd.R_reads hv; have HD6 := Aside0.mk (HD5.out.below hb); have HE6 := Aside0.mk (HE5.out.trans (Eff.below hb)); have HT6 := Aside0.mk (show k67.R 67 _ base (fun k => k ≠ g) _ _ from Kd.R_lower (Kd.R_mono (Kd.R_bound hv) (fun k hk => by have h1 := hk.2.1; have h2 := (Array.getElem?_eq_some_iff.1 HD5.out.blk).1; omega)) (Nat.le_trans HBase.out HE5.out.size)); clear hv hb))
      go_at_call 87
      refine (Trim_calls _ _ base g _ D2 k u HD6.out (by omega) (by have := HLe.out; omega) HD2l.out).mono ?_
      rintro e w7 ⟨rfl, ⟨v7, hd7⟩, he7⟩
      have hd7' : Dk (.slice At T.length ct) w7 base g v7 (bytesOfLog Ls') u := by (have h9 := hd7; rw [Int.toNat_natCast, HCut.out] at h9; exact h9)
      have HT7 := Aside0.mk (rows_eff HT6.out he7)
      have HP := Aside0.mk (rows_set hd7' HT7.out)
      have HE7 := Aside0.mk ((HE6.out.trans he7).trans HP.out.2.2)
      have hq2 := (blk_cell hd7.blk 2).trans rfl
      have hf2 := blk_frozen hd7.blk 2
      clear hd7 he7 hd7'
      go_wp2
      go_ret
      exact ⟨rfl, ⟨_, _, by rw [HUU.out]; exact HP.out.1, HP.out.2.1⟩, HE7.out⟩
    · rw [if_pos hz]
      have hz0 : (faultS (bytesOfLog Ls) (tableOf Ls) l == 0) = false := beq_eq_false_iff_ne.2 hz
      have hz1 : (faultS (bytesOfLog Ls) (tableOf Ls) l != 0) = true := bne_iff_ne.2 hz
      clear hz hd ht hr hbase hD hT hn hL
      generalize faultS (bytesOfLog Ls) (tableOf Ls) l = f at *
      go_enter Try.func84, Try.ntmps84
      go_wp2_with (go_at_call 96; refine HF.out.mono ?_; rintro e w1 ⟨rfl, hb⟩; have HB1 := Aside0.mk hb; clear hb)
      go_ret
      exact ⟨rfl, HH.out.below HB1.out, Eff.below HB1.out⟩

end Go.Proofs.Ytmfkgbncnaingaa.Sto
end

section
/- Plain byte lists: the least list behind all that begin with a head, and what stands between the two. -/
namespace Go.Proofs.Ytmfkgbncnaingaa.NextMath
open Go.Op (bytesLess)

/-- The next list, if there is one. -/
def nextS : List UInt8 → Option (List UInt8)
  | [] => none
  | c :: r => match nextS r with
    | some n => some (c :: n)
    | none => if c = 255 then none else some [c + 1]

def preB : List UInt8 → List UInt8 → Bool
  | [], _ => true
  | _ :: _, [] => false
  | c :: r, d :: o => c == d && preB r o

/-- h is at most o. -/
def le (h o : List UInt8) : Bool := bytesLess h o || h == o

theorem u8_lt_succ {c : UInt8} (h : c ≠ 255) : c < c + 1 := by
  have h1 : c.toNat ≠ 255 := fun e => h (UInt8.toNat.inj e)
  have h2 := c.toNat_lt
  rw [UInt8.lt_iff_toNat_lt, UInt8.toNat_add, show (1 : UInt8).toNat = 1 from rfl, Nat.mod_eq_of_lt (by omega)]
  omega

theorem u8_toNat_succ {c : UInt8} (h : c ≠ 255) : (c + 1).toNat = c.toNat + 1 := by
  have h1 : c.toNat ≠ 255 := fun e => h (UInt8.toNat.inj e)
  have h2 := c.toNat_lt
  rw [UInt8.toNat_add, show (1 : UInt8).toNat = 1 from rfl, Nat.mod_eq_of_lt (by omega)]

theorem le_cons (c d : UInt8) (r o : List UInt8) : le (c :: r) (d :: o) = (decide (c < d) || (c == d && le r o)) := by
  unfold le
  rw [bytesLess]
  by_cases h : c = d
  · subst h
    simp
  · have : ((c :: r) == (d :: o)) = false := by simp [h]
    rw [this, beq_eq_false_iff_ne.2 h]; simp

theorem le_all (h : List UInt8) : (∀ x ∈ h, x = 255) → ∀ o, le h o = preB h o := by
  induction h with
  | nil => intro _ o; cases o <;> simp [le, preB, bytesLess]
  | cons c r ih =>
    intro hall o
    obtain rfl : c = 255 := hall c (by simp)
    cases o with
    | nil => simp [le, preB, bytesLess]
    | cons d o =>
      rw [le_cons, preB, ih (fun x hx => hall x (by simp [hx]))]
      have : ¬ (255 : UInt8) < d := by
        have := d.toNat_lt
        rw [UInt8.lt_iff_toNat_lt, show (255 : UInt8).toNat = 255 from rfl]; omega
      simp [this]

theorem nextS_none {h : List UInt8} : nextS h = none → ∀ x ∈ h, x = 255 := by
  induction h with
  | nil => intro _ x hx; cases hx
  | cons c r ih =>
    intro hn
    rw [nextS] at hn
    split at hn
    · cases hn
    · rename_i hr
      split at hn
      · rename_i hc
        intro x hx
        rcases List.mem_cons.1 hx with rfl | hx
        · exact hc
        · exact ih hr x hx
      · cases hn

theorem nextS_some {h : List UInt8} : ∀ {n}, nextS h = some n → (∀ t, bytesLess (h ++ t) n = true) ∧ ∀ o, preB h o = (le h o && bytesLess o n) := by
  induction h with
  | nil => intro n hn; cases hn
  | cons c r ih =>
    intro n hn
    rw [nextS] at hn
    split at hn
    · rename_i n' hr
      obtain rfl := Option.some.inj hn
      obtain ⟨h1, h2⟩ := ih hr
      refine ⟨fun t => ?_, fun o => ?_⟩
      · rw [List.cons_append, bytesLess, h1 t]; simp
      · cases o with
        | nil => simp [preB, le, bytesLess]
        | cons d o =>
          rw [preB, le_cons, bytesLess, h2]
          by_cases hcd : c = d
          · subst hcd; simp
          · rw [beq_eq_false_iff_ne.2 hcd, beq_eq_false_iff_ne.2 (Ne.symm hcd)]
            rcases UInt8.lt_or_lt_of_ne hcd with hlt | hlt
            · have : ¬ d < c := by rw [UInt8.lt_iff_toNat_lt] at *; omega
              simp [this]
            · have : ¬ c < d := by rw [UInt8.lt_iff_toNat_lt] at *; omega
              simp [this]
    · rename_i hr
      split at hn
      · cases hn
      · rename_i hc
        obtain rfl := Option.some.inj hn
        have hall := nextS_none hr
        refine ⟨fun t => ?_, fun o => ?_⟩
        · rw [List.cons_append, bytesLess]; simp [u8_lt_succ hc]
        · cases o with
          | nil => simp [preB, le, bytesLess]
          | cons d o =>
            have hsucc := u8_toNat_succ hc
            rw [preB, le_cons, bytesLess, le_all r hall]
            have hnil : bytesLess o [] = false := by cases o <;> rfl
            rw [hnil]
            by_cases hcd : c = d
            · subst hcd; simp [u8_lt_succ hc]
            · rw [beq_eq_false_iff_ne.2 hcd]
              rcases UInt8.lt_or_lt_of_ne hcd with hlt | hlt
              · have : ¬ d < c + 1 := by rw [UInt8.lt_iff_toNat_lt] at *; omega
                simp [this]
              · have : ¬ c < d := by rw [UInt8.lt_iff_toNat_lt] at *; omega
                simp [this]

theorem nextS_snoc_255 (p : List UInt8) : nextS (p ++ [255]) = nextS p := by
  induction p with
  | nil => rfl
  | cons c r ih => rw [List.cons_append, nextS, nextS, ih]

theorem nextS_snoc {c : UInt8} (hc : c ≠ 255) (p : List UInt8) : nextS (p ++ [c]) = some (p ++ [c + 1]) := by
  induction p with
  | nil => simp [nextS, hc]
  | cons d r ih => rw [List.cons_append, nextS, ih]; rfl

theorem preB_take (h o : List UInt8) (hl : h.length ≤ o.length) : (o.take h.length == h) = preB h o := by
  induction h generalizing o with
  | nil => simp [preB]
  | cons c r ih =>
    cases o with
    | nil => simp at hl
    | cons d o =>
      rw [List.length_cons, List.take_succ_cons, preB, ← ih o (by simpa using hl)]
      rw [BEq.comm (a := c)]; rfl

theorem preB_short (h o : List UInt8) (hl : o.length < h.length) : preB h o = false := by
  induction h generalizing o with
  | nil => simp at hl
  | cons c r ih =>
    cases o with
    | nil => rfl
    | cons d o => rw [preB, ih o (by simpa using hl), Bool.and_false]

end Go.Proofs.Ytmfkgbncnaingaa.NextMath
end

section
/- What begins with a head, in plain words; Beginning's contract for every head. -/
namespace Go.Proofs.Ytmfkgbncnaingaa.Sto
open Go.RowKit Go.Proofs.Ytmfkgbncnaingaa.Rows Go.Proofs.Ytmfkgbncnaingaa.QRows Go.Proofs.YtmfkgbncnaingaaW.PrintWords Go.Proofs.YtmfkgbncnaingaaW.PrintLast Go.Proofs.YtmfkgbncnaingaaW.PrintMore Go.Proofs.Ytmfkgbncnaingaa.NextMath
set_option linter.unusedVariables false
set_option linter.unusedSimpArgs false

theorem w64 {n : Int} (h0 : -9223372036854775808 ≤ n) (h1 : n ≤ 9223372036854775807) : wrap64 n = n := by unfold wrap64; omega

theorem dl (s : ByteArray) : s.toList = s.data.toList := ByteArray.toList_eq s
theorem dlen (s : ByteArray) : s.data.toList.length = s.size := rfl
theorem ext0 (s : ByteArray) (k : Nat) : (s.extract 0 k).data.toList = s.data.toList.take k := by
  simp [ByteArray.data_extract]
theorem extEnd (s : ByteArray) (a : Nat) : (s.extract a s.size).data.toList = s.data.toList.drop a := by
  rw [ByteArray.data_extract, Array.toList_extract, List.extract_eq_take_drop, ← dlen s, ← List.length_drop, List.take_length]

theorem suffix_snoc (x : ByteArray) (p : List UInt8) (c : UInt8) (hx : x.data.toList = p ++ [c]) (hs : x.size ≤ 140737488351232) : strings_HasSuffix.f x (⟨#[255]⟩ : ByteArray) = some (c == 255) := by
  have hl : x.size = p.length + 1 := by rw [← dlen, hx]; simp
  have h1 : (⟨#[255]⟩ : ByteArray).size = 1 := rfl
  unfold strings_HasSuffix.f stringslite_HasSuffix.f
  rw [h1, if_pos (by omega), w64 (by omega) (by omega), if_pos (by omega), if_pos (by omega), Option.bind_some, dl, extEnd, hx, show ((x.size : Int) - ((1 : Nat) : Int)).toNat = p.length by omega, List.drop_left, dl]
  show some ([c] == [255]) = some (c == 255)
  simp

theorem suffix_nil (x : ByteArray) (hx : x.data.toList = []) : strings_HasSuffix.f x (⟨#[255]⟩ : ByteArray) = some false := by
  have hl : x.size = 0 := by rw [← dlen, hx]; rfl
  have h1 : (⟨#[255]⟩ : ByteArray).size = 1 := rfl
  unfold strings_HasSuffix.f stringslite_HasSuffix.f
  rw [h1, if_neg (by omega)]; rfl

theorem next_l0 : ∀ (n k : Nat) (x : ByteArray), x.size = n → n ≤ 140737488351232 → n < k → ∃ r, rows_Next.l0 k x = some r ∧ r.data.toList = (nextS x.data.toList).getD [] := by
  intro n
  induction n with
  | zero =>
    intro k x hn _ hk
    obtain ⟨k, rfl⟩ : ∃ m, k = m + 1 := ⟨k - 1, by omega⟩
    have hx : x.data.toList = [] := List.eq_nil_of_length_eq_zero (by rw [dlen, hn])
    refine ⟨⟨#[]⟩, ?_, by rw [hx]; rfl⟩
    simp only [rows_Next.l0]
    rw [suffix_nil x hx, Option.bind_some, if_neg (by decide), if_pos (by rw [dl, hx])]
  | succ n ih =>
    intro k x hn hb hk
    obtain ⟨k, rfl⟩ : ∃ m, k = m + 1 := ⟨k - 1, by omega⟩
    obtain ⟨p, c, hx⟩ : ∃ p c, x.data.toList = p ++ [c] := by
      have hne : x.data.toList ≠ [] := by intro h; have := dlen x; rw [h] at this; simp at this; omega
      exact ⟨_, _, (List.dropLast_concat_getLast hne).symm⟩
    have hl : x.size = p.length + 1 := by rw [← dlen, hx]; simp
    have hw : wrap64 ((x.size : Int) - 1) = (p.length : Int) := by rw [w64 (by omega) (by omega)]; omega
    have hcut : (x.extract 0 p.length).data.toList = p := by rw [ext0, hx, List.take_left]
    have hcs : (x.extract 0 p.length).size = p.length := by rw [← dlen, hcut]
    simp only [rows_Next.l0]
    rw [suffix_snoc x p c hx (by omega), Option.bind_some, hw]
    by_cases hc : c = 255
    · subst hc
      obtain ⟨r, hr, hr2⟩ := ih k (x.extract 0 p.length) (by omega) (by omega) (by omega)
      refine ⟨r, ?_, by rw [hx, nextS_snoc_255, hr2, hcut]⟩
      rw [if_pos (by decide), if_pos (by omega), if_pos (by omega)]
      exact hr
    · have hbt : bt x (p.length : Int) = (c.toNat : Int) := by
        unfold bt
        rw [dif_pos (show ((p.length : Nat) : Int).toNat < x.size by omega)]
        have : x[p.length]'(by omega) = c := by
          have h2 : x.data.toList[p.length]'(by rw [dlen]; omega) = c := by simp [hx]
          show x.data[p.length]'_ = c
          simpa using h2
        simpa using congrArg (fun z : UInt8 => (z.toNat : Int)) this
      have hc1 : c.toNat ≠ 255 := fun e => hc (UInt8.toNat.inj e)
      have hc2 := c.toNat_lt
      refine ⟨(x.extract 0 p.length) ++ strOfNums [((c.toNat : Int) + 1) % 256], ?_, ?_⟩
      · rw [if_neg (by simpa using hc), if_neg (by rw [dl, hx]; simp), if_pos (by omega), if_pos (by omega), if_pos (by omega), Option.bind_some, hbt]
        simp only [Int.toNat_natCast]
        rw [if_pos (by rw [hcs, strOfNums_size]; simp; omega)]
      · rw [hx, nextS_snoc hc, ByteArray.data_append, Array.toList_append, hcut, strOfNums_data]
        simp only [Option.getD_some, List.map_cons, List.map_nil]
        congr 2
        apply UInt8.toNat.inj
        rw [u8_toNat_succ hc, UInt8.toNat_ofNat']
        omega

/-- Does a row stand between a head and what stands next? -/
def inB (t nx : List UInt8) (x : S67) : Bool := !Op.bytesLess x.f0.toList t && (decide (nx = []) || Op.bytesLess x.f0.toList nx)
theorem filter_cut {α : Type} (p : α → Bool) (T : List α) (lo hi : Nat) (h1 : lo ≤ hi) (h2 : hi ≤ T.length) (ha : ∀ i (h : i < T.length), i < lo → p T[i] = false) (hb : ∀ i (h : i < T.length), lo ≤ i → i < hi → p T[i] = true) (hc : ∀ i (h : i < T.length), hi ≤ i → p T[i] = false) : T.filter p = (T.take hi).drop lo := by
  have hT : T = T.take lo ++ ((T.take hi).drop lo ++ T.drop hi) := by
    have e1 : T.take lo = (T.take hi).take lo := by rw [List.take_take, Nat.min_eq_left h1]
    rw [e1, ← List.append_assoc, List.take_append_drop, List.take_append_drop]
  have f1 : (T.take lo).filter p = [] := by
    rw [List.filter_eq_nil_iff]
    intro x hx
    obtain ⟨i, hi1, rfl⟩ := List.getElem_of_mem hx
    rw [List.length_take] at hi1
    rw [List.getElem_take, ha i (by omega) (by omega)]; simp
  have f2 : ((T.take hi).drop lo).filter p = (T.take hi).drop lo := by
    rw [List.filter_eq_self]
    intro x hx
    obtain ⟨i, hi1, rfl⟩ := List.getElem_of_mem hx
    rw [List.length_drop, List.length_take] at hi1
    rw [List.getElem_drop, List.getElem_take]
    exact hb _ (by omega) (by omega) (by omega)
  have f3 : (T.drop hi).filter p = [] := by
    rw [List.filter_eq_nil_iff]
    intro x hx
    obtain ⟨i, hi1, rfl⟩ := List.getElem_of_mem hx
    rw [List.length_drop] at hi1
    rw [List.getElem_drop, hc _ (by omega) (by omega)]; simp
  calc T.filter p = (T.take lo ++ ((T.take hi).drop lo ++ T.drop hi)).filter p := by rw [← hT]
    _ = _ := by rw [List.filter_append, List.filter_append, f1, f2, f3, List.nil_append, List.append_nil]

theorem begins (T : List S67) (hs : Sorted T) (t nx : ByteArray) (h : nx.toList = ([] : List UInt8) ∨ Op.bytesLess t.toList nx.toList = true) : rows_Beginning.of T t nx = some (T.filter (inB t.toList nx.toList)) := by
  have hir : ∀ a : List UInt8, ¬ Op.bytesLess a a = true := fun a h => by rw [less_irrefl] at h; cases h
  obtain ⟨a1, a2, a3, -⟩ := found_is T t hs
  unfold rows_Beginning.of
  by_cases he : nx.toList = ([] : List UInt8)
  · rw [if_pos he, filter_cut (inB t.toList nx.toList) T (found T t).1 T.length a1 (Nat.le_refl _) ?_ ?_ (fun i h1 h2 => by omega), List.take_length]
    · intro i h1 h2; unfold inB; rw [a2 i h1 h2]; rfl
    · intro i h1 h2 _; unfold inB; rw [he, Bool.eq_false_iff.2 (a3 i h1 h2)]; rfl
  · have hlt := h.resolve_left he
    obtain ⟨b1, b2, b3, -⟩ := found_is T nx hs
    have hle : (found T t).1 ≤ (found T nx).1 := by
      apply Decidable.byContradiction
      intro hc
      have h1 : (found T nx).1 < T.length := by omega
      have h2 := a2 _ h1 (by omega)
      exact b3 _ h1 (Nat.le_refl _) (less_trans _ _ _ h2 hlt)
    rw [if_neg he, if_pos hle, filter_cut (inB t.toList nx.toList) T (found T t).1 (found T nx).1 hle b1 ?_ ?_ ?_]
    · intro i h1 h2; unfold inB; rw [a2 i h1 h2]; rfl
    · intro i h1 h2 h3; unfold inB; rw [b2 i h1 h3, Bool.eq_false_iff.2 (a3 i h1 h2), Bool.or_true]; rfl
    · intro i h1 h2; unfold inB; rw [Bool.eq_false_iff.2 (b3 i h1 h2), decide_eq_false he, Bool.or_false, Bool.and_false]


/-- The rows of a table that begin with a head. -/
def beginOf (T : List S67) (t : ByteArray) : List S67 := T.filter (inB t.toList ((nextS t.data.toList).getD []))
theorem next_less (t nx : ByteArray) (h : nx.data.toList = (nextS t.data.toList).getD []) : nx.toList = ([] : List UInt8) ∨ Op.bytesLess t.toList nx.toList = true := by
  rw [dl, dl, h]
  cases hn : nextS t.data.toList with
  | none => exact .inl rfl
  | some n =>
    refine .inr ?_
    have := (nextS_some hn).1 []
    rwa [List.append_nil] at this
theorem Begin_any (A0 : Option Addr) (c0 : Nat) (T : List S67) (t : ByteArray) (w : World) (hr : k67.C w A0 T.length T) (hc : T.length ≤ c0) (hl : T.length ≤ 100000) (hs : Sorted T) (ht : t.size ≤ 140737488351232) :
    Calls Try.prog 67 #[.slice A0 T.length c0, .string t] w fun e w' => ∃ v, e = .returned v ∧ k67.R 67 w' w.heap.size (fun _ => True) v (beginOf T t) ∧ Below w.heap.size w w' := by
  obtain ⟨nx, hx, hnx⟩ := next_l0 t.size (t.size + 1) t rfl ht (by omega)
  have hb := begins T hs t nx (next_less t nx hnx)
  have hE : beginOf T t = T.filter (inB t.toList nx.toList) := by unfold beginOf; rw [dl nx, hnx]
  rw [hE]
  have hx' : rows_Next.f (t.size + 1) t = some nx := hx
  unfold rows_Beginning.of at hb
  by_cases he : nx.toList = ([] : List UInt8)
  · rw [if_pos he] at hb
    rw [← Option.some.inj hb]
    exact Beginning_end (t.size + 1) A0 c0 T t nx w hr hc hl hx' he
  · rw [if_neg he] at hb
    by_cases hle : (found T t).1 ≤ (found T nx).1
    · rw [if_pos hle] at hb
      rw [← Option.some.inj hb]
      exact Beginning_cut (t.size + 1) A0 c0 T t nx w hr hc hl hx' he hle
    · rw [if_neg hle] at hb; cases hb

/-- What a key has in a table. -/
def valueOf (T : List S67) (t : ByteArray) : ByteArray × Bool := if (found T t).2 = true then ((rd_T67 T ((found T t).1 : Nat)).f1, true) else (⟨#[]⟩, false)
theorem Value_is (T : List S67) (t : ByteArray) (hs : Sorted T) (hl : T.length ≤ 100000) : rows_Value.f T t = some (valueOf T t) := by
  unfold rows_Value.f rows_place.f valueOf
  rw [if_pos hl, Option.bind_some]
  dsimp only
  rcases found_row T t hs with ⟨h1, hh, _⟩ | ⟨h1, _⟩
  · rw [if_pos h1, if_pos (by omega), if_pos (by omega), if_pos h1]
  · rw [h1, if_neg (by simp), if_neg (by simp)]

end Go.Proofs.Ytmfkgbncnaingaa.Sto
end

section
/- Functions of the program as plain functions, and the walks that show it. Written by the session's own program pp.py. -/
namespace Go.Proofs.Ytmfkgbncnaingaa.QStore
open Go.RowKit Go.Proofs.Ytmfkgbncnaingaa.QRows Go.Proofs.Ytmfkgbncnaingaa.QWal Go.Proofs.YtmfkgbncnaingaaW.PrintWords Go.Proofs.YtmfkgbncnaingaaW.PrintLast Go.Proofs.YtmfkgbncnaingaaW.PrintMore
attribute [local go_sem] max2_int min2_int max_two min_two max_three min_three max_four min_four   -- for this text's walks alone
set_option linter.unusedVariables false
set_option linter.unusedSimpArgs false



def errW : Option Int → Value
  | none => .nilIface
  | some c => .iface 0 (.int .i64 c)
theorem errW_none : errW none = .nilIface := rfl
theorem errW_some (c : Int) : errW (some c) = .iface 0 (.int .i64 c) := rfl

theorem info3 : (Try.prog.info? 3).map (fun i => (i.zero, i.size, i.bytes)) = some (some (.int .i64 0), 1, 8) := by kernel_rfl
theorem info5 : (Try.prog.info? 5).map (fun i => (i.zero, i.size, i.bytes)) = some (some (.int .u8 0), 1, 1) := by kernel_rfl
theorem info9 : (Try.prog.info? 9).map (fun i => (i.zero, i.size, i.bytes)) = some (some (.string ⟨#[]⟩), 1, 16) := by kernel_rfl
theorem info67 : (Try.prog.info? 67).map (fun i => (i.zero, i.size, i.bytes)) = some (some (.agg #[(.string ⟨#[]⟩), (.string ⟨#[]⟩)]), 2, 32) := by kernel_rfl
theorem info81 : (Try.prog.info? 81).map (fun i => (i.zero, i.size, i.bytes)) = some (some (.agg #[(.int .i64 0), (.slice none 0 0)]), 2, 32) := by kernel_rfl
theorem info83 : (Try.prog.info? 83).map (fun i => (i.zero, i.size, i.bytes)) = some (some (.agg #[(.int .i64 0), (.slice none 0 0), (.string ⟨#[]⟩), (.int .i64 0)]), 4, 56) := by kernel_rfl
-- the values' own types
theorem k67_mkF (W : World) (ok : Nat → Prop) (x : S67) : Kd.FK k67 W ok x [.string x.f0, .string x.f1] := fun W2 _ => k67_mk W2 x
def rd_L3 (xs : List (List S67)) (i : Int) : (List S67) := xs.getD i.toNat ([] : List S67)
theorem at_L3 {w : World} {A : Option Addr} {n : Nat} {xs : List (List S67)} (h : Kd.C (Kd.slice 67 k67) w A n xs) (i : Int) (h0 : 0 ≤ i) (h1 : i < n) : ∃ ad A0 c0, A = some ad ∧ w.cell? (ad.add i.toNat) = some (.slice A0 (rd_L3 xs i).length c0) ∧ (rd_L3 xs i).length ≤ c0 ∧ k67.C w A0 (rd_L3 xs i).length (rd_L3 xs i) := by
  obtain ⟨ad, c, e, _, hK, hc0⟩ := Kd.C_get h ([] : List S67) i h0 h1
  have hc : ∀ j u, c[j]? = some u → w.cell? (ad.add (i.toNat * 1 + j)) = some u := hc0
  obtain ⟨A0, c0, rfl, l0, g0⟩ := hK
  exact ⟨ad, A0, c0, e, by have hq := hc 0 _ rfl; rwa [Nat.mul_one, Nat.add_zero] at hq, l0, g0⟩

def rd_L6 (xs : List (List Int)) (i : Int) : (List Int) := xs.getD i.toNat ([] : List Int)
theorem at_L6 {w : World} {A : Option Addr} {n : Nat} {xs : List (List Int)} (h : Kd.C (Kd.slice 3 (Kd.int .i64)) w A n xs) (i : Int) (h0 : 0 ≤ i) (h1 : i < n) : ∃ ad A0 c0, A = some ad ∧ w.cell? (ad.add i.toNat) = some (.slice A0 (rd_L6 xs i).length c0) ∧ (rd_L6 xs i).length ≤ c0 ∧ (Kd.int .i64).C w A0 (rd_L6 xs i).length (rd_L6 xs i) := by
  obtain ⟨ad, c, e, _, hK, hc0⟩ := Kd.C_get h ([] : List Int) i h0 h1
  have hc : ∀ j u, c[j]? = some u → w.cell? (ad.add (i.toNat * 1 + j)) = some u := hc0
  obtain ⟨A0, c0, rfl, l0, g0⟩ := hK
  exact ⟨ad, A0, c0, e, by have hq := hc 0 _ rfl; rwa [Nat.mul_one, Nat.add_zero] at hq, l0, g0⟩

/-! #### struct type 114 -/
structure S114 where
  f0 : Int
  f1 : (List Int)
  f2 : Int
def z114 : S114 := ⟨(0 : Int), ([] : List Int), (0 : Int)⟩
def k114 : Kd S114 := Kd.iso (Kd.pair (Kd.int .i64) (Kd.pair (Kd.slice 3 (Kd.int .i64)) (Kd.int .i64))) (fun x : S114 => (x.f0, x.f1, x.f2))
theorem k114_open {w : World} {x : S114} {cs : List Value} (h : k114.K w x cs) : ∃ A1 c1, cs = [.int .i64 x.f0, .slice A1 x.f1.length c1, .int .i64 x.f2] ∧ x.f1.length ≤ c1 ∧ (Kd.int .i64).C w A1 x.f1.length x.f1 := by
  obtain ⟨_, _, rfl, rfl, ⟨_, _, rfl, ⟨A1, c1, rfl, l1, g1⟩, rfl⟩⟩ := h
  exact ⟨A1, c1, rfl, l1, g1⟩
theorem k114_openM {w : World} {base : Nat} {ok : Nat → Prop} {x : S114} {cs : List Value} (h : k114.M w base ok x cs) : ∃ v1, cs = [.int .i64 x.f0, v1, .int .i64 x.f2] ∧ (Kd.int .i64).R 3 w base ok v1 x.f1 := by
  obtain ⟨_, _, rfl, rfl, ⟨_, _, rfl, ⟨v1, rfl, g1⟩, rfl⟩⟩ := h
  exact ⟨v1, rfl, g1⟩
theorem k114_mk (w : World) (x : S114) {A1 : Option Addr} {c1 : Nat} (l1 : x.f1.length ≤ c1) (g1 : (Kd.int .i64).C w A1 x.f1.length x.f1) : k114.K w x [.int .i64 x.f0, .slice A1 x.f1.length c1, .int .i64 x.f2] := ⟨[.int .i64 x.f0], [.slice A1 x.f1.length c1, .int .i64 x.f2], rfl, rfl, ⟨[.slice A1 x.f1.length c1], [.int .i64 x.f2], rfl, ⟨A1, c1, rfl, l1, g1⟩, rfl⟩⟩
theorem k114_mkM (w : World) (base : Nat) (ok : Nat → Prop) (x : S114) {v1 : Value} (g1 : (Kd.int .i64).R 3 w base ok v1 x.f1) : k114.M w base ok x [.int .i64 x.f0, v1, .int .i64 x.f2] := ⟨[.int .i64 x.f0], [v1, .int .i64 x.f2], rfl, rfl, ⟨[v1], [.int .i64 x.f2], rfl, ⟨v1, rfl, g1⟩, rfl⟩⟩
theorem k114_openF {W : World} {ok : Nat → Prop} {x : S114} {cs : List Value} (h : Kd.FK k114 W ok x cs) : ∃ A1 c1, cs = [.int .i64 x.f0, .slice A1 x.f1.length c1, .int .i64 x.f2] ∧ x.f1.length ≤ c1 ∧ Kd.F (Kd.int .i64) W ok A1 x.f1.length x.f1 := by
  obtain ⟨A1, c1, rfl, l1, _⟩ := k114_open (Kd.FK_now h)
  exact ⟨A1, c1, rfl, l1, (fun W' hW => by obtain ⟨A1_, c1_, he, l1_, g1_⟩ := k114_open (h W' hW); injection (Option.some.inj (show some (Value.slice A1 x.f1.length c1) = some (Value.slice A1_ x.f1.length c1_) from congrArg (fun l => l[1]?) he)) with ha_ _ _; rw [ha_]; exact g1_)⟩
theorem k114_mkF (W : World) (ok : Nat → Prop) (x : S114) {A1 : Option Addr} {c1 : Nat} (l1 : x.f1.length ≤ c1) (g1 : Kd.F (Kd.int .i64) W ok A1 x.f1.length x.f1) : Kd.FK k114 W ok x [.int .i64 x.f0, .slice A1 x.f1.length c1, .int .i64 x.f2] := fun W2 hW => k114_mk W2 x l1 (g1 W2 hW)
def rd_T114 (xs : List S114) (i : Int) : S114 := xs.getD i.toNat z114
theorem at_T114 {w : World} {A : Option Addr} {n : Nat} {xs : List S114} (h : Kd.C k114 w A n xs) (i : Int) (h0 : 0 ≤ i) (h1 : i < n) : ∃ ad A1 c1, A = some ad ∧ w.cell? (ad.add (i.toNat * 3)) = some (.int .i64 (rd_T114 xs i).f0) ∧ w.cell? ⟨(ad.add (i.toNat * 3)).block, (ad.add (i.toNat * 3)).off + 1, none⟩ = some (.slice A1 (rd_T114 xs i).f1.length c1) ∧ w.cell? ⟨(ad.add (i.toNat * 3)).block, (ad.add (i.toNat * 3)).off + 2, none⟩ = some (.int .i64 (rd_T114 xs i).f2) ∧ (rd_T114 xs i).f1.length ≤ c1 ∧ (Kd.int .i64).C w A1 (rd_T114 xs i).f1.length (rd_T114 xs i).f1 := by
  obtain ⟨ad, c, e, _, hK, hc0⟩ := Kd.C_get h z114 i h0 h1
  have hc : ∀ j u, c[j]? = some u → w.cell? (ad.add (i.toNat * 3 + j)) = some u := hc0
  obtain ⟨A1, c1, rfl, l1, g1⟩ := k114_open hK
  exact ⟨ad, A1, c1, e, hc 0 _ rfl, by rw [← add_field _ _ 1 (by omega)]; exact hc 1 _ rfl, by rw [← add_field _ _ 2 (by omega)]; exact hc 2 _ rfl, l1, g1⟩

/-! #### struct type 83 -/
structure S83 where
  f0 : Int
  f1 : (List S67)
  f2 : ByteArray
  f3 : Int
def z83 : S83 := ⟨(0 : Int), ([] : List S67), (⟨#[]⟩ : ByteArray), (0 : Int)⟩
def k83 : Kd S83 := Kd.iso (Kd.pair (Kd.int .i64) (Kd.pair (Kd.slice 67 k67) (Kd.pair Kd.string (Kd.int .i64)))) (fun x : S83 => (x.f0, x.f1, x.f2, x.f3))
theorem k83_open {w : World} {x : S83} {cs : List Value} (h : k83.K w x cs) : ∃ A1 c1, cs = [.int .i64 x.f0, .slice A1 x.f1.length c1, .string x.f2, .int .i64 x.f3] ∧ x.f1.length ≤ c1 ∧ k67.C w A1 x.f1.length x.f1 := by
  obtain ⟨_, _, rfl, rfl, ⟨_, _, rfl, ⟨A1, c1, rfl, l1, g1⟩, ⟨_, _, rfl, rfl, rfl⟩⟩⟩ := h
  exact ⟨A1, c1, rfl, l1, g1⟩
theorem k83_openM {w : World} {base : Nat} {ok : Nat → Prop} {x : S83} {cs : List Value} (h : k83.M w base ok x cs) : ∃ v1, cs = [.int .i64 x.f0, v1, .string x.f2, .int .i64 x.f3] ∧ k67.R 67 w base ok v1 x.f1 := by
  obtain ⟨_, _, rfl, rfl, ⟨_, _, rfl, ⟨v1, rfl, g1⟩, ⟨_, _, rfl, rfl, rfl⟩⟩⟩ := h
  exact ⟨v1, rfl, g1⟩
theorem k83_mk (w : World) (x : S83) {A1 : Option Addr} {c1 : Nat} (l1 : x.f1.length ≤ c1) (g1 : k67.C w A1 x.f1.length x.f1) : k83.K w x [.int .i64 x.f0, .slice A1 x.f1.length c1, .string x.f2, .int .i64 x.f3] := ⟨[.int .i64 x.f0], [.slice A1 x.f1.length c1, .string x.f2, .int .i64 x.f3], rfl, rfl, ⟨[.slice A1 x.f1.length c1], [.string x.f2, .int .i64 x.f3], rfl, ⟨A1, c1, rfl, l1, g1⟩, ⟨[.string x.f2], [.int .i64 x.f3], rfl, rfl, rfl⟩⟩⟩
theorem k83_mkM (w : World) (base : Nat) (ok : Nat → Prop) (x : S83) {v1 : Value} (g1 : k67.R 67 w base ok v1 x.f1) : k83.M w base ok x [.int .i64 x.f0, v1, .string x.f2, .int .i64 x.f3] := ⟨[.int .i64 x.f0], [v1, .string x.f2, .int .i64 x.f3], rfl, rfl, ⟨[v1], [.string x.f2, .int .i64 x.f3], rfl, ⟨v1, rfl, g1⟩, ⟨[.string x.f2], [.int .i64 x.f3], rfl, rfl, rfl⟩⟩⟩
theorem k83_openF {W : World} {ok : Nat → Prop} {x : S83} {cs : List Value} (h : Kd.FK k83 W ok x cs) : ∃ A1 c1, cs = [.int .i64 x.f0, .slice A1 x.f1.length c1, .string x.f2, .int .i64 x.f3] ∧ x.f1.length ≤ c1 ∧ Kd.F k67 W ok A1 x.f1.length x.f1 := by
  obtain ⟨A1, c1, rfl, l1, _⟩ := k83_open (Kd.FK_now h)
  exact ⟨A1, c1, rfl, l1, (fun W' hW => by obtain ⟨A1_, c1_, he, l1_, g1_⟩ := k83_open (h W' hW); injection (Option.some.inj (show some (Value.slice A1 x.f1.length c1) = some (Value.slice A1_ x.f1.length c1_) from congrArg (fun l => l[1]?) he)) with ha_ _ _; rw [ha_]; exact g1_)⟩
theorem k83_mkF (W : World) (ok : Nat → Prop) (x : S83) {A1 : Option Addr} {c1 : Nat} (l1 : x.f1.length ≤ c1) (g1 : Kd.F k67 W ok A1 x.f1.length x.f1) : Kd.FK k83 W ok x [.int .i64 x.f0, .slice A1 x.f1.length c1, .string x.f2, .int .i64 x.f3] := fun W2 hW => k83_mk W2 x l1 (g1 W2 hW)
def rd_T83 (xs : List S83) (i : Int) : S83 := xs.getD i.toNat z83
theorem at_T83 {w : World} {A : Option Addr} {n : Nat} {xs : List S83} (h : Kd.C k83 w A n xs) (i : Int) (h0 : 0 ≤ i) (h1 : i < n) : ∃ ad A1 c1, A = some ad ∧ w.cell? (ad.add (i.toNat * 4)) = some (.int .i64 (rd_T83 xs i).f0) ∧ w.cell? ⟨(ad.add (i.toNat * 4)).block, (ad.add (i.toNat * 4)).off + 1, none⟩ = some (.slice A1 (rd_T83 xs i).f1.length c1) ∧ w.cell? ⟨(ad.add (i.toNat * 4)).block, (ad.add (i.toNat * 4)).off + 2, none⟩ = some (.string (rd_T83 xs i).f2) ∧ w.cell? ⟨(ad.add (i.toNat * 4)).block, (ad.add (i.toNat * 4)).off + 3, none⟩ = some (.int .i64 (rd_T83 xs i).f3) ∧ (rd_T83 xs i).f1.length ≤ c1 ∧ k67.C w A1 (rd_T83 xs i).f1.length (rd_T83 xs i).f1 := by
  obtain ⟨ad, c, e, _, hK, hc0⟩ := Kd.C_get h z83 i h0 h1
  have hc : ∀ j u, c[j]? = some u → w.cell? (ad.add (i.toNat * 4 + j)) = some u := hc0
  obtain ⟨A1, c1, rfl, l1, g1⟩ := k83_open hK
  exact ⟨ad, A1, c1, e, hc 0 _ rfl, by rw [← add_field _ _ 1 (by omega)]; exact hc 1 _ rfl, by rw [← add_field _ _ 2 (by omega)]; exact hc 2 _ rfl, by rw [← add_field _ _ 3 (by omega)]; exact hc 3 _ rfl, l1, g1⟩

def rd_L9 (xs : List (List S83)) (i : Int) : (List S83) := xs.getD i.toNat ([] : List S83)
theorem at_L9 {w : World} {A : Option Addr} {n : Nat} {xs : List (List S83)} (h : Kd.C (Kd.slice 83 k83) w A n xs) (i : Int) (h0 : 0 ≤ i) (h1 : i < n) : ∃ ad A0 c0, A = some ad ∧ w.cell? (ad.add i.toNat) = some (.slice A0 (rd_L9 xs i).length c0) ∧ (rd_L9 xs i).length ≤ c0 ∧ k83.C w A0 (rd_L9 xs i).length (rd_L9 xs i) := by
  obtain ⟨ad, c, e, _, hK, hc0⟩ := Kd.C_get h ([] : List S83) i h0 h1
  have hc : ∀ j u, c[j]? = some u → w.cell? (ad.add (i.toNat * 1 + j)) = some u := hc0
  obtain ⟨A0, c0, rfl, l0, g0⟩ := hK
  exact ⟨ad, A0, c0, e, by have hq := hc 0 _ rfl; rwa [Nat.mul_one, Nat.add_zero] at hq, l0, g0⟩

/-! #### struct type 81 -/
structure S81 where
  f0 : Int
  f1 : (List S67)
def z81 : S81 := ⟨(0 : Int), ([] : List S67)⟩
def k81 : Kd S81 := Kd.iso (Kd.pair (Kd.int .i64) (Kd.slice 67 k67)) (fun x : S81 => (x.f0, x.f1))
theorem k81_open {w : World} {x : S81} {cs : List Value} (h : k81.K w x cs) : ∃ A1 c1, cs = [.int .i64 x.f0, .slice A1 x.f1.length c1] ∧ x.f1.length ≤ c1 ∧ k67.C w A1 x.f1.length x.f1 := by
  obtain ⟨_, _, rfl, rfl, ⟨A1, c1, rfl, l1, g1⟩⟩ := h
  exact ⟨A1, c1, rfl, l1, g1⟩
theorem k81_openM {w : World} {base : Nat} {ok : Nat → Prop} {x : S81} {cs : List Value} (h : k81.M w base ok x cs) : ∃ v1, cs = [.int .i64 x.f0, v1] ∧ k67.R 67 w base ok v1 x.f1 := by
  obtain ⟨_, _, rfl, rfl, ⟨v1, rfl, g1⟩⟩ := h
  exact ⟨v1, rfl, g1⟩
theorem k81_mk (w : World) (x : S81) {A1 : Option Addr} {c1 : Nat} (l1 : x.f1.length ≤ c1) (g1 : k67.C w A1 x.f1.length x.f1) : k81.K w x [.int .i64 x.f0, .slice A1 x.f1.length c1] := ⟨[.int .i64 x.f0], [.slice A1 x.f1.length c1], rfl, rfl, ⟨A1, c1, rfl, l1, g1⟩⟩
theorem k81_mkM (w : World) (base : Nat) (ok : Nat → Prop) (x : S81) {v1 : Value} (g1 : k67.R 67 w base ok v1 x.f1) : k81.M w base ok x [.int .i64 x.f0, v1] := ⟨[.int .i64 x.f0], [v1], rfl, rfl, ⟨v1, rfl, g1⟩⟩
theorem k81_openF {W : World} {ok : Nat → Prop} {x : S81} {cs : List Value} (h : Kd.FK k81 W ok x cs) : ∃ A1 c1, cs = [.int .i64 x.f0, .slice A1 x.f1.length c1] ∧ x.f1.length ≤ c1 ∧ Kd.F k67 W ok A1 x.f1.length x.f1 := by
  obtain ⟨A1, c1, rfl, l1, _⟩ := k81_open (Kd.FK_now h)
  exact ⟨A1, c1, rfl, l1, (fun W' hW => by obtain ⟨A1_, c1_, he, l1_, g1_⟩ := k81_open (h W' hW); injection (Option.some.inj (show some (Value.slice A1 x.f1.length c1) = some (Value.slice A1_ x.f1.length c1_) from congrArg (fun l => l[1]?) he)) with ha_ _ _; rw [ha_]; exact g1_)⟩
theorem k81_mkF (W : World) (ok : Nat → Prop) (x : S81) {A1 : Option Addr} {c1 : Nat} (l1 : x.f1.length ≤ c1) (g1 : Kd.F k67 W ok A1 x.f1.length x.f1) : Kd.FK k81 W ok x [.int .i64 x.f0, .slice A1 x.f1.length c1] := fun W2 hW => k81_mk W2 x l1 (g1 W2 hW)
def rd_T81 (xs : List S81) (i : Int) : S81 := xs.getD i.toNat z81
theorem at_T81 {w : World} {A : Option Addr} {n : Nat} {xs : List S81} (h : Kd.C k81 w A n xs) (i : Int) (h0 : 0 ≤ i) (h1 : i < n) : ∃ ad A1 c1, A = some ad ∧ w.cell? (ad.add (i.toNat * 2)) = some (.int .i64 (rd_T81 xs i).f0) ∧ w.cell? ⟨(ad.add (i.toNat * 2)).block, (ad.add (i.toNat * 2)).off + 1, none⟩ = some (.slice A1 (rd_T81 xs i).f1.length c1) ∧ (rd_T81 xs i).f1.length ≤ c1 ∧ k67.C w A1 (rd_T81 xs i).f1.length (rd_T81 xs i).f1 := by
  obtain ⟨ad, c, e, _, hK, hc0⟩ := Kd.C_get h z81 i h0 h1
  have hc : ∀ j u, c[j]? = some u → w.cell? (ad.add (i.toNat * 2 + j)) = some u := hc0
  obtain ⟨A1, c1, rfl, l1, g1⟩ := k81_open hK
  exact ⟨ad, A1, c1, e, hc 0 _ rfl, by rw [← add_field _ _ 1 (by omega)]; exact hc 1 _ rfl, l1, g1⟩

def rd_L11 (xs : List (List S81)) (i : Int) : (List S81) := xs.getD i.toNat ([] : List S81)
theorem at_L11 {w : World} {A : Option Addr} {n : Nat} {xs : List (List S81)} (h : Kd.C (Kd.slice 81 k81) w A n xs) (i : Int) (h0 : 0 ≤ i) (h1 : i < n) : ∃ ad A0 c0, A = some ad ∧ w.cell? (ad.add i.toNat) = some (.slice A0 (rd_L11 xs i).length c0) ∧ (rd_L11 xs i).length ≤ c0 ∧ k81.C w A0 (rd_L11 xs i).length (rd_L11 xs i) := by
  obtain ⟨ad, c, e, _, hK, hc0⟩ := Kd.C_get h ([] : List S81) i h0 h1
  have hc : ∀ j u, c[j]? = some u → w.cell? (ad.add (i.toNat * 1 + j)) = some u := hc0
  obtain ⟨A0, c0, rfl, l0, g0⟩ := hK
  exact ⟨ad, A0, c0, e, by have hq := hc 0 _ rfl; rwa [Nat.mul_one, Nat.add_zero] at hq, l0, g0⟩

def rd_L12 (xs : List (List Int)) (i : Int) : (List Int) := xs.getD i.toNat ([] : List Int)
theorem at_L12 {w : World} {A : Option Addr} {n : Nat} {xs : List (List Int)} (h : Kd.C (Kd.slice 5 (Kd.int .u8)) w A n xs) (i : Int) (h0 : 0 ≤ i) (h1 : i < n) : ∃ ad A0 c0, A = some ad ∧ w.cell? (ad.add i.toNat) = some (.slice A0 (rd_L12 xs i).length c0) ∧ (rd_L12 xs i).length ≤ c0 ∧ (Kd.int .u8).C w A0 (rd_L12 xs i).length (rd_L12 xs i) := by
  obtain ⟨ad, c, e, _, hK, hc0⟩ := Kd.C_get h ([] : List Int) i h0 h1
  have hc : ∀ j u, c[j]? = some u → w.cell? (ad.add (i.toNat * 1 + j)) = some u := hc0
  obtain ⟨A0, c0, rfl, l0, g0⟩ := hK
  exact ⟨ad, A0, c0, e, by have hq := hc 0 _ rfl; rwa [Nat.mul_one, Nat.add_zero] at hq, l0, g0⟩

def rd_L13 (xs : List (List (List Int))) (i : Int) : (List (List Int)) := xs.getD i.toNat ([] : List (List Int))
theorem at_L13 {w : World} {A : Option Addr} {n : Nat} {xs : List (List (List Int))} (h : Kd.C (Kd.slice 25 (Kd.slice 5 (Kd.int .u8))) w A n xs) (i : Int) (h0 : 0 ≤ i) (h1 : i < n) : ∃ ad A0 c0, A = some ad ∧ w.cell? (ad.add i.toNat) = some (.slice A0 (rd_L13 xs i).length c0) ∧ (rd_L13 xs i).length ≤ c0 ∧ (Kd.slice 5 (Kd.int .u8)).C w A0 (rd_L13 xs i).length (rd_L13 xs i) := by
  obtain ⟨ad, c, e, _, hK, hc0⟩ := Kd.C_get h ([] : List (List Int)) i h0 h1
  have hc : ∀ j u, c[j]? = some u → w.cell? (ad.add (i.toNat * 1 + j)) = some u := hc0
  obtain ⟨A0, c0, rfl, l0, g0⟩ := hK
  exact ⟨ad, A0, c0, e, by have hq := hc 0 _ rfl; rwa [Nat.mul_one, Nat.add_zero] at hq, l0, g0⟩

def rd_L14 (xs : List (List (List (List Int)))) (i : Int) : (List (List (List Int))) := xs.getD i.toNat ([] : List (List (List Int)))
theorem at_L14 {w : World} {A : Option Addr} {n : Nat} {xs : List (List (List (List Int)))} (h : Kd.C (Kd.slice 53 (Kd.slice 25 (Kd.slice 5 (Kd.int .u8)))) w A n xs) (i : Int) (h0 : 0 ≤ i) (h1 : i < n) : ∃ ad A0 c0, A = some ad ∧ w.cell? (ad.add i.toNat) = some (.slice A0 (rd_L14 xs i).length c0) ∧ (rd_L14 xs i).length ≤ c0 ∧ (Kd.slice 25 (Kd.slice 5 (Kd.int .u8))).C w A0 (rd_L14 xs i).length (rd_L14 xs i) := by
  obtain ⟨ad, c, e, _, hK, hc0⟩ := Kd.C_get h ([] : List (List (List Int))) i h0 h1
  have hc : ∀ j u, c[j]? = some u → w.cell? (ad.add (i.toNat * 1 + j)) = some u := hc0
  obtain ⟨A0, c0, rfl, l0, g0⟩ := hK
  exact ⟨ad, A0, c0, e, by have hq := hc 0 _ rfl; rwa [Nat.mul_one, Nat.add_zero] at hq, l0, g0⟩

end Go.Proofs.Ytmfkgbncnaingaa.QStore
end

section
/- What an act does to a store: the method Do. -/
namespace Go.Proofs.Ytmfkgbncnaingaa.Sto
open Go.Proofs.Ytmfkgbncnaingaa.Disk (Eff)
open Go.Proofs.Ytmfkgbncnaingaa.QStore (S81 S83 k81 k83 k81_mkM)
open Go.RowKit Go.Proofs.Ytmfkgbncnaingaa.Reg Go.Proofs.Ytmfkgbncnaingaa.QRows Go.Proofs.Ytmfkgbncnaingaa.Rows Go.Proofs.Ytmfkgbncnaingaa.Wal Go.Proofs.YtmfkgbncnaingaaW.PrintWords Go.Proofs.YtmfkgbncnaingaaW.PrintLast Go.Proofs.YtmfkgbncnaingaaW.PrintMore
set_option linter.unusedVariables false
set_option linter.unusedSimpArgs false

/-- What an act tells, and the log that it leaves. -/
def doS (a : S83) (Ls : List (List S67)) : S81 × List (List S67) :=
  if a.f0 = 1 then (⟨faultS (bytesOfLog Ls) (tableOf Ls) a.f1, []⟩, if faultS (bytesOfLog Ls) (tableOf Ls) a.f1 = 0 then Ls ++ [a.f1] else Ls)
  else if a.f0 = 2 then ((if (valueOf (tableOf Ls) a.f2).2 = true then ⟨0, [⟨a.f2, (valueOf (tableOf Ls) a.f2).1⟩]⟩ else ⟨8, []⟩), Ls)
  else if a.f0 = 3 then (⟨0, beginOf (tableOf Ls) a.f2⟩, Ls)
  else if a.f0 = 4 then (⟨0, []⟩, packed Ls)
  else if a.f0 = 5 then (⟨(crashS Ls a.f1 a.f3).1, []⟩, (crashS Ls a.f1 a.f3).2)
  else (⟨3, []⟩, Ls)
theorem LI.crash {Ls : List (List S67)} (h : LI Ls) (l : List S67) (n : Int) : LI (crashS Ls l n).2 := by
  unfold crashS
  split
  · exact h
  · split
    · exact h
    · rename_i hf
      dsimp only
      split
      · exact h.snoc (by omega)
      · exact h
theorem LI.doS {Ls : List (List S67)} (h : LI Ls) (a : S83) : LI (doS a Ls).2 := by
  unfold Sto.doS
  split
  · dsimp only
    split
    · rename_i hf; exact h.snoc hf
    · exact h
  · split
    · exact h
    · split
      · exact h
      · split
        · exact h.packed.1
        · split
          · exact h.crash _ _
          · exact h

/-- What an act leaves. -/
def Done (w : World) (base g : Nat) (r : S81 × List (List S67)) (e : Ending) (w' : World) : Prop :=
  ∃ u, e = .returned (.agg #[.int .i64 r.1.f0, u]) ∧ Held w' base g (bytesOfLog r.2) (tableOf r.2) ∧ Eff w w' base g ∧ k67.R 67 w' w.heap.size (fun k => True) u r.1.f1

theorem eff_new {w w1 : World} {base g : Nat} (h : Eff w w1 base g) (p i : Nat) (u : Value) (hp : w.heap.size ≤ p) : Eff w (w1.setCell ⟨p, i, none⟩ u) base g :=
  ⟨h.os, h.tape, h.output, by simpa [World.setCell] using h.size, fun k hk hc => (Below.heap_setCell w1 ⟨p, i, none⟩ u k (by show k ≠ p; omega)).trans (h.block k hk hc)⟩
/-- A block of another type is written. -/
theorem Held.other {w : World} {base g p t : Nat} {D : List Int} {T : List S67} {cs : Array Value} (h : Held w base g D T) (hb : w.heap[p]? = some (.cells cs t (0, 0))) (ht : t = 81) (i : Nat) (u : Value) : Held (w.setCell ⟨p, i, none⟩ u) base g D T := by
  subst ht
  obtain ⟨v, rv, hd, hr⟩ := h
  have hne : g ≠ p := by
    rintro rfl
    have := hb.symm.trans hd.blk
    injection this with this; injection this with _ h2; exact absurd h2 (by decide)
  exact ⟨v, rv, ⟨by rw [blk_far hd.blk hne], hd.ge, Kd.R_set hd.row hb (fun q hq => by rcases List.mem_cons.1 hq with rfl | hq <;> first | decide | cases hq) i u⟩, Kd.R_set hr hb (fun q hq => by rcases List.mem_cons.1 hq with rfl | hq <;> first | decide | cases hq) i u⟩
/-- The block of a result has its values. -/
theorem box_kept {w w1 : World} {base g : Nat} {D : List Int} {T : List S67} {o : Obj} {cs : Array Value} (hH : Held w base g D T) (hE : Eff ((w.alloc o).alloc (.cells cs 81)) w1 base g) : w1.heap[w.heap.size + 1]? = some (.cells cs 81 (0, 0)) := by
  obtain ⟨v, rv, hd, hr⟩ := hH
  have hlt := (Array.getElem?_eq_some_iff.1 hd.blk).1
  have hl2 : ((w.alloc o).alloc (.cells cs 81)).heap.size = w.heap.size + 2 := by simp
  have h3 := new_block (w.alloc o) (.cells cs 81 (0, 0))
  have h4 : (w.alloc o).heap.size = w.heap.size + 1 := by simp
  rw [h4] at h3
  rw [hE.block (w.heap.size + 1) (by omega) (.inr ⟨by omega, fun c e => by
    rw [h3] at e; injection e with e; injection e with _ e; exact absurd e (by decide)⟩)]
  exact h3
theorem box_cells {w : World} {p : Nat} {x0 x1 : Value} (h : w.heap[p]? = some (.cells #[x0, x1] 81 (0, 0))) : w.cell? ⟨p, 0, none⟩ = some x0 ∧ w.cell? ⟨p, 1, none⟩ = some x1 ∧ ∀ i, w.frozen? ⟨p, i, none⟩ = false :=
  ⟨(blk_cell h 0).trans rfl, (blk_cell h 1).trans rfl, fun i => blk_frozen h i⟩
/-- A result is put down. -/
theorem put {w w1 : World} {base g p : Nat} {D : List Int} {T : List S67} {x0 x1 : Value} (hA : Held w1 base g D T) (hp : w1.heap[p]? = some (.cells #[x0, x1] 81 (0, 0))) (hE : Eff w w1 base g) (hw : w.heap.size ≤ p) (c u : Value) {y : Value} {xs : List S67} {ok : Nat → Prop} (hr : k67.R 67 w1 w.heap.size ok y xs) :
    Held ((w1.setCell ⟨p, 0, none⟩ c).setCell ⟨p, 1, none⟩ u) base g D T ∧ Eff w ((w1.setCell ⟨p, 0, none⟩ c).setCell ⟨p, 1, none⟩ u) base g ∧ k67.R 67 ((w1.setCell ⟨p, 0, none⟩ c).setCell ⟨p, 1, none⟩ u) w.heap.size ok y xs ∧ ((w1.setCell ⟨p, 0, none⟩ c).setCell ⟨p, 1, none⟩ u).heap[p]? = some (.cells #[c, u] 81 (0, 0)) := by
  have h1 : (w1.setCell ⟨p, 0, none⟩ c).heap[p]? = some (.cells #[c, x1] 81 (0, 0)) := by simpa using blk_set hp 0 c
  have hq : ∀ q, q ∈ (67 : Nat) :: k67.E → q ≠ 81 := fun q hq => by rcases List.mem_cons.1 hq with rfl | hq <;> first | decide | cases hq
  exact ⟨(hA.other hp rfl 0 c).other h1 rfl 1 u, eff_new (eff_new hE p 0 c hw) p 1 u hw, Kd.R_set (Kd.R_set hr hp hq 0 c) h1 hq 1 u, by simpa using blk_set h1 1 u⟩
theorem eff_two {w w1 : World} {base g : Nat} {o o' : Obj} (h : Eff ((w.alloc o).alloc o') w1 base g) : Eff w w1 base g := ((Eff.below (below_alloc (Below.refl _ _) o)).trans (Eff.below (below_alloc (Below.refl _ _) o'))).trans h
theorem Held.two {w : World} {base g : Nat} {D : List Int} {T : List S67} (h : Held w base g D T) (o o' : Obj) : Held ((w.alloc o).alloc o') base g D T := (h.below (below_alloc (Below.refl _ _) o)).below (below_alloc (Below.refl _ _) o')

set_option maxRecDepth 100000 in
set_option maxHeartbeats 4000000 in
theorem do_commit (w : World) (base g : Nat) (Ls : List (List S67)) (l : List S67) (A1 : Option Addr) (c1 : Nat) (key : ByteArray) (n : Int) (hL : LI Ls) (h : Held w base g (bytesOfLog Ls) (tableOf Ls)) (hbase : base ≤ w.heap.size) (hr : ∀ w', Below base w w' → k67.C w' A1 l.length l) :
    Calls Try.prog 69 #[.pointer (some ⟨g, 0, none⟩), .agg #[.int .i64 1, .slice A1 l.length c1, .string key, .int .i64 n]] w (Done w base g (doS ⟨1, l, key, n⟩ Ls)) := by
  have HH := Aside0.mk h
  have HL := Aside0.mk hr
  have HBase := Aside0.mk hbase
  have HLI := Aside0.mk hL
  have hs : doS ⟨1, l, key, n⟩ Ls = (⟨(commitS (bytesOfLog Ls) (tableOf Ls) l).1, []⟩, if faultS (bytesOfLog Ls) (tableOf Ls) l = 0 then Ls ++ [l] else Ls) := by
    unfold doS commitS
    rw [if_pos rfl]
    by_cases hf : faultS (bytesOfLog Ls) (tableOf Ls) l = 0
    · simp only [if_pos hf]; rw [hf]
    · simp only [if_neg hf]
  have hs2 : Aside0 ((bytesOfLog (if faultS (bytesOfLog Ls) (tableOf Ls) l = 0 then Ls ++ [l] else Ls), tableOf (if faultS (bytesOfLog Ls) (tableOf Ls) l = 0 then Ls ++ [l] else Ls)) = (commitS (bytesOfLog Ls) (tableOf Ls) l).2) := ⟨by
    unfold commitS
    by_cases hf : faultS (bytesOfLog Ls) (tableOf Ls) l = 0
    · rw [if_pos hf, if_pos hf, log_append, log_one, tableOf_snoc]
    · rw [if_neg hf, if_neg hf]⟩
  rw [hs]
  have HC := fun w h hb hr => Aside0.mk (Commit_calls w base g (bytesOfLog Ls) (tableOf Ls) l A1 c1 h hb hr hL.disk hL.table.room)
  have HD := Aside0.mk hs2.out
  generalize commitS (bytesOfLog Ls) (tableOf Ls) l = cm at *
  generalize (if faultS (bytesOfLog Ls) (tableOf Ls) l = 0 then Ls ++ [l] else Ls) = Ls' at *
  obtain ⟨code, D', T'⟩ := cm
  have hDT := HD.out
  simp only [Prod.mk.injEq] at hDT
  obtain ⟨e1, e2⟩ := hDT
  subst e1; subst e2
  clear hs hs2 h hr hbase hL HD
  go_enter Try.func69, Try.ntmps69
  go_wp2_with (go_at_call 82; refine (HC _ (HH.out.two _ _) (by have := HBase.out; simp; omega) (fun w' hb => HL.out w' (((below_alloc (Below.refl _ _) _).mono HBase.out |>.trans ((below_alloc (Below.refl _ _) _).mono (by have := HBase.out; simp; omega))).trans hb))).out.mono ?_; rintro e w1 ⟨rfl, hA, hE⟩; have hbx := box_kept HH.out hE; obtain ⟨hx0, hx1, hx3⟩ := box_cells hbx; have HP := Aside0.mk (put hA hbx (eff_two hE) (Nat.le_succ _) (.int .i64 code) (.slice none 0 0) (Kd.R_nil k67 67 w1 w.heap.size (fun k => True))); clear hA hE hbx)
  refine bodyPost_ret (results_cell_row rfl _ _ (w.heap.size + 1) 81 _ (0, 0) _ rfl HP.out.2.2.2 Try.underlying81 rfl (by kernel_rfl)) rfl ?_
  exact ⟨_, rfl, HP.out.1, HP.out.2.1, HP.out.2.2.1⟩

set_option maxRecDepth 100000 in
set_option maxHeartbeats 4000000 in
theorem do_crash (w : World) (base g : Nat) (Ls : List (List S67)) (l : List S67) (A1 : Option Addr) (c1 : Nat) (key : ByteArray) (n : Int) (hL : LI Ls) (h : Held w base g (bytesOfLog Ls) (tableOf Ls)) (hbase : base ≤ w.heap.size) (hr : ∀ w', Below base w w' → k67.C w' A1 l.length l) :
    Calls Try.prog 69 #[.pointer (some ⟨g, 0, none⟩), .agg #[.int .i64 5, .slice A1 l.length c1, .string key, .int .i64 n]] w (Done w base g (doS ⟨5, l, key, n⟩ Ls)) := by
  have HH := Aside0.mk h
  have HL := Aside0.mk hr
  have HBase := Aside0.mk hbase
  have hs : doS ⟨5, l, key, n⟩ Ls = (⟨(crashS Ls l n).1, []⟩, (crashS Ls l n).2) := by simp [doS]
  rw [hs]
  have HC := fun w h hb hr => Aside0.mk (Crash_calls w base g Ls l A1 c1 n hL h hb hr)
  generalize crashS Ls l n = cm at *
  obtain ⟨code, Ls'⟩ := cm
  clear hs h hr hbase hL
  go_enter Try.func69, Try.ntmps69
  go_wp2_with (go_at_call 84; refine (HC _ (HH.out.two _ _) (by have := HBase.out; simp; omega) (fun w' hb => HL.out w' (((below_alloc (Below.refl _ _) _).mono HBase.out |>.trans ((below_alloc (Below.refl _ _) _).mono (by have := HBase.out; simp; omega))).trans hb))).out.mono ?_; rintro e w1 ⟨rfl, hA, hE⟩; have hbx := box_kept HH.out hE; obtain ⟨hx0, hx1, hx3⟩ := box_cells hbx; have HP := Aside0.mk (put hA hbx (eff_two hE) (Nat.le_succ _) (.int .i64 code) (.slice none 0 0) (Kd.R_nil k67 67 w1 w.heap.size (fun k => True))); clear hA hE hbx)
  refine bodyPost_ret (results_cell_row rfl _ _ (w.heap.size + 1) 81 _ (0, 0) _ rfl HP.out.2.2.2 Try.underlying81 rfl (by kernel_rfl)) rfl ?_
  exact ⟨_, rfl, HP.out.1, HP.out.2.1, HP.out.2.2.1⟩

set_option maxRecDepth 100000 in
set_option maxHeartbeats 4000000 in
theorem do_pack (w : World) (base g : Nat) (Ls : List (List S67)) (l : List S67) (A1 : Option Addr) (c1 : Nat) (key : ByteArray) (n : Int) (hL : LI Ls) (h : Held w base g (bytesOfLog Ls) (tableOf Ls)) (hbase : base ≤ w.heap.size) :
    Calls Try.prog 69 #[.pointer (some ⟨g, 0, none⟩), .agg #[.int .i64 4, .slice A1 l.length c1, .string key, .int .i64 n]] w (Done w base g (doS ⟨4, l, key, n⟩ Ls)) := by
  have HH := Aside0.mk h
  have HBase := Aside0.mk hbase
  have hs : doS ⟨4, l, key, n⟩ Ls = (⟨0, []⟩, packed Ls) := by simp [doS]
  rw [hs]
  have hpk := hL.packed
  have HC := fun w h hb => Aside0.mk (Pack_calls w base g (bytesOfLog Ls) (tableOf Ls) h hb hL.disk hL.table.room hL.tableWr (by have := cost_table Ls; have := hL.disk; rw [cost_batch]; omega))
  rw [← packed_bytes] at HC
  have HT := Aside0.mk hpk.2
  clear hs h hbase hL hpk
  go_enter Try.func69, Try.ntmps69
  go_wp2_with (go_at_call 83; refine (HC _ (HH.out.two _ _) (by have := HBase.out; simp; omega)).out.mono ?_; rintro e w1 ⟨rfl, hA, hE⟩; have hbx := box_kept HH.out hE; obtain ⟨hx0, hx1, hx3⟩ := box_cells hbx; have HP := Aside0.mk (put hA hbx (eff_two hE) (Nat.le_succ _) (.int .i64 0) (.slice none 0 0) (Kd.R_nil k67 67 w1 w.heap.size (fun k => True))); clear hA hE hbx)
  refine bodyPost_ret (results_cell_row rfl _ _ (w.heap.size + 1) 81 _ (0, 0) _ rfl HP.out.2.2.2 Try.underlying81 rfl (by kernel_rfl)) rfl ?_
  exact ⟨_, rfl, by rw [HT.out]; exact HP.out.1, HP.out.2.1, HP.out.2.2.1⟩

set_option maxRecDepth 100000 in
set_option maxHeartbeats 4000000 in
theorem do_other (w : World) (base g : Nat) (Ls : List (List S67)) (k : Int) (l : List S67) (A1 : Option Addr) (c1 : Nat) (key : ByteArray) (n : Int) (h : Held w base g (bytesOfLog Ls) (tableOf Ls)) (h1 : k ≠ 1) (h2 : k ≠ 2) (h3 : k ≠ 3) (h4 : k ≠ 4) (h5 : k ≠ 5) :
    Calls Try.prog 69 #[.pointer (some ⟨g, 0, none⟩), .agg #[.int .i64 k, .slice A1 l.length c1, .string key, .int .i64 n]] w (Done w base g (doS ⟨k, l, key, n⟩ Ls)) := by
  have HH := Aside0.mk h
  have hs : doS ⟨k, l, key, n⟩ Ls = (⟨3, []⟩, Ls) := by simp [doS, h1, h2, h3, h4, h5]
  rw [hs]
  have e1 := beq_eq_false_iff_ne.2 h1
  have e2 := beq_eq_false_iff_ne.2 h2
  have e3 := beq_eq_false_iff_ne.2 h3
  have e4 := beq_eq_false_iff_ne.2 h4
  have e5 := beq_eq_false_iff_ne.2 h5
  clear hs h h1 h2 h3 h4 h5
  go_enter Try.func69, Try.ntmps69
  go_wp2
  refine bodyPost_ret (results_cell_row rfl _ _ (w.heap.size + 1) 81 #[.int .i64 3, .slice none 0 0] (0, 0) _ rfl (by have h3 := new_block (w.alloc (.cells #[.int .i64 k, .slice A1 l.length c1, .string key, .int .i64 n] 83)) (.cells #[.int .i64 3, .slice none 0 0] 81); simpa using h3) Try.underlying81 rfl (by kernel_rfl)) rfl ?_
  exact ⟨_, rfl, HH.out.two _ _, eff_two (Disk.Eff.refl _ _ _), Kd.R_nil _ _ _ _ _⟩

/-- The boxes of an act and of its result. -/
structure Two (w W0 : World) (base g : Nat) (D : List Int) (T : List S67) (key : ByteArray) : Prop where
  size : W0.heap.size = w.heap.size + 2
  below : Below w.heap.size w W0
  key : W0.cell? ⟨w.heap.size, 2, none⟩ = some (.string key)
  res : W0.heap[w.heap.size + 1]? = some (.cells #[.int .i64 0, .slice none 0 0] 81 (0, 0))
  held : Held W0 base g D T
theorem two_facts {base g : Nat} {D : List Int} {T : List S67} {k n : Int} {l : Value} {key : ByteArray} (w : World) (h : Held w base g D T) : Two w ((w.alloc (.cells #[.int .i64 k, l, .string key, .int .i64 n] 83)).alloc (.cells #[.int .i64 0, .slice none 0 0] 81)) base g D T key := by
  have h3 := new_block (w.alloc (.cells #[.int .i64 k, l, .string key, .int .i64 n] 83)) (.cells #[.int .i64 0, .slice none 0 0] 81 (0, 0))
  have h4 : (w.alloc (.cells #[.int .i64 k, l, .string key, .int .i64 n] 83)).heap.size = w.heap.size + 1 := by simp
  rw [h4] at h3
  have h5 := lasts (new_block w (.cells #[.int .i64 k, l, .string key, .int .i64 n] 83 (0, 0))) (below_alloc (Below.refl _ _) (.cells #[.int .i64 0, .slice none 0 0] 81 (0, 0)))
  exact ⟨by simp, below_alloc (below_alloc (Below.refl _ _) _) _, by simp [World.cell?, h5], h3, h.two _ _⟩

set_option maxRecDepth 100000 in
set_option maxHeartbeats 4000000 in
theorem do_get (w : World) (base g : Nat) (Ls : List (List S67)) (l : List S67) (A1 : Option Addr) (c1 : Nat) (key : ByteArray) (n : Int) (hL : LI Ls) (h : Held w base g (bytesOfLog Ls) (tableOf Ls)) (hbase : base ≤ w.heap.size) :
    Calls Try.prog 69 #[.pointer (some ⟨g, 0, none⟩), .agg #[.int .i64 2, .slice A1 l.length c1, .string key, .int .i64 n]] w (Done w base g (doS ⟨2, l, key, n⟩ Ls)) := by
  have hs : doS ⟨2, l, key, n⟩ Ls = ((if (valueOf (tableOf Ls) key).2 = true then ⟨0, [⟨key, (valueOf (tableOf Ls) key).1⟩]⟩ else ⟨8, []⟩), Ls) := by simp [doS]
  rw [hs]
  have HH := Aside0.mk h
  have HBase := Aside0.mk hbase
  have hT := hL.table
  have hV := Value_is (tableOf Ls) key hT.sorted (by have := hT.room; omega)
  obtain ⟨v, rv, hd, ht⟩ := h
  obtain ⟨At, ct, rfl, hct, htd⟩ := Kd.R_reads ht
  have HV := fun w h => Aside0.mk (rows_Value.calls At ct (tableOf Ls) key (valueOf (tableOf Ls) key).1 (valueOf (tableOf Ls) key).2 w h hct hV)
  have HC := Aside0.mk htd
  have HBlk := Aside0.mk hd.blk
  generalize valueOf (tableOf Ls) key = vb at *
  obtain ⟨val, b⟩ := vb
  dsimp only at *
  generalize (tableOf Ls).length = tl at *
  clear hs hL hT hV hct htd hd ht hbase
  cases b with
  | false =>
    rw [if_neg (by simp)]
    go_enter Try.func69, Try.ntmps69
    go_wp2
    have hZ := two_facts (k := 2) (l := .slice A1 l.length c1) (key := key) (n := n) w HH.out
    generalize hW0 : (w.alloc (.cells #[.int .i64 2, .slice A1 l.length c1, .string key, .int .i64 n] 83)).alloc (.cells #[.int .i64 0, .slice none 0 0] 81) = W0 at *
    have HZ := Aside0.mk hZ
    have hkey := hZ.key
    have hk2 := cell_below (show w.cell? ⟨g, 2, none⟩ = some (.slice At tl ct) by simp [World.cell?, HBlk.out]) (hZ.below.drew)
    have HC0 := Aside0.mk (Kd.C_drew (Kd.C_below HC.out hZ.below))
    clear hZ hW0
    go_region_held3 (fun x => x.cell? ⟨g, 2, none⟩ = some (.slice At tl ct) ∧ x.cell? ⟨w.heap.size, 2, none⟩ = some (.string key)) (first | exact ⟨hk2, cell_below hkey ((Below.refl _ _).drew)⟩ | exact hk3.out) (first | (go_at_call 65; refine (HV _ HC0.out).out.mono ?_; rintro e w3 ⟨rfl, hb⟩; have hk3 := Aside0.mk (And.intro (pw_cell_below hb hk2) (pw_cell_below hb (cell_below hkey ((Below.refl _ _).drew)))); have HB3 := Aside0.mk (below_undrew hb); clear hb))
    all_goals
      have hbx := lasts HZ.out.res HB3.out
      obtain ⟨hx0, hx1, hx3⟩ := box_cells hbx
      have HP := Aside0.mk (put (HZ.out.held.below HB3.out) hbx (Eff.below (HZ.out.below.trans (HB3.out.mono HZ.out.below.size))) (Nat.le_succ _) (.int .i64 8) (.slice none 0 0) (Kd.R_nil k67 67 w3 w.heap.size (fun k => True)))
      clear hbx
      go_wp2
      refine bodyPost_ret (results_cell_row rfl _ _ (w.heap.size + 1) 81 _ (0, 0) _ rfl HP.out.2.2.2 Try.underlying81 rfl (by kernel_rfl)) rfl ?_
      exact ⟨_, rfl, HP.out.1, HP.out.2.1, HP.out.2.2.1⟩
  | true =>
    rw [if_pos rfl]
    go_enter Try.func69, Try.ntmps69
    go_wp2
    have hZ := two_facts (k := 2) (l := .slice A1 l.length c1) (key := key) (n := n) w HH.out
    generalize hW0 : (w.alloc (.cells #[.int .i64 2, .slice A1 l.length c1, .string key, .int .i64 n] 83)).alloc (.cells #[.int .i64 0, .slice none 0 0] 81) = W0 at *
    have HZ := Aside0.mk hZ
    have hkey := hZ.key
    have hk2 := cell_below (show w.cell? ⟨g, 2, none⟩ = some (.slice At tl ct) by simp [World.cell?, HBlk.out]) (hZ.below.drew)
    have HC0 := Aside0.mk (Kd.C_drew (Kd.C_below HC.out hZ.below))
    clear hZ hW0
    go_region_held3 (fun x => x.cell? ⟨g, 2, none⟩ = some (.slice At tl ct) ∧ x.cell? ⟨w.heap.size, 2, none⟩ = some (.string key)) (first | exact ⟨hk2, cell_below hkey ((Below.refl _ _).drew)⟩ | exact hk3.out) (first | (go_at_call 65; refine (HV _ HC0.out).out.mono ?_; rintro e w3 ⟨rfl, hb⟩; have hk3 := Aside0.mk (And.intro (pw_cell_below hb hk2) (pw_cell_below hb (cell_below hkey ((Below.refl _ _).drew)))); have HB3 := Aside0.mk (below_undrew hb); clear hb))
    all_goals
      have hkey3 := cell_below hkey HB3.out
      have hsz := HB3.out.size
      have hz2 := HZ.out.size
      have hbx0 := lasts HZ.out.res HB3.out
      have hnew := new_block w3 (.cells #[.string key, .string val] 67 (0, 0))
      have hal := Aside0.mk (below_alloc (Below.refl w3.heap.size w3) (.cells #[.string key, .string val] 67 (0, 0)))
      have hbx := lasts hbx0 hal.out
      obtain ⟨hx0, hx1, hx3⟩ := box_cells hbx
      have HP := Aside0.mk (put ((HZ.out.held.below HB3.out).below hal.out) hbx ((Eff.below (HZ.out.below.trans (HB3.out.mono HZ.out.below.size))).trans (Eff.below hal.out)) (Nat.le_succ _) (.int .i64 0) (.slice (some ⟨w3.heap.size, 0, none⟩) 1 1) (row_close (base := w.heap.size) (ok := fun k => True) (xs := [(⟨key, val⟩ : S67)]) (by omega) trivial hnew (Nat.le_refl _) (show (1 : Nat) ≤ maxLen by decide) rfl rfl))
      clear hbx hnew hbx0 hz2 hsz
      go_wp2
      refine bodyPost_ret (results_cell_row rfl _ _ (w.heap.size + 1) 81 _ (0, 0) _ rfl HP.out.2.2.2 Try.underlying81 rfl (by kernel_rfl)) rfl ?_
      exact ⟨_, rfl, HP.out.1, HP.out.2.1, HP.out.2.2.1⟩

/-- A row of the call's own. -/
def FT (B : Nat) (T : List S67) (v : Value) (w : World) : Prop := k67.R 67 w B (fun _ => True) v T
theorem FT.last {B : Nat} {T : List S67} {v : Value} {w w' : World} (h : FT B T v w) (hb : Below w.heap.size w w') : FT B T v w' := Kd.R_below h hb
def F10 (B g z : Nat) (At : Option Addr) (tl ct : Nat) (key : ByteArray) (T : List S67) : Nat → Value → World → Prop
  | 0 => FIs (.pointer (some ⟨g, 0, none⟩))
  | 1 => FIs (.pointer (some ⟨g, 0, none⟩))
  | 2 => FIs (.pointer (some ⟨g, 2, none⟩))
  | 3 => FIs (.slice At tl ct)
  | 4 => FIs (.pointer (some ⟨z, 2, none⟩))
  | 5 => FIs (.string key)
  | 6 => FT B T
  | _ => fun v w => ∃ u, v = .agg #[.int .i64 0, u] ∧ FT B T u w
theorem F10.last {B g z : Nat} {At : Option Addr} {tl ct : Nat} {key : ByteArray} {T : List S67} (k : Nat) (v : Value) (w w' : World) (h : F10 B g z At tl ct key T k v w) (hb : Below w.heap.size w w') : F10 B g z At tl ct key T k v w' := by
  unfold F10 at *
  split at h <;> first | exact FIs.last h hb | exact FT.last h hb | exact ⟨h.choose, h.choose_spec.1, FT.last h.choose_spec.2 hb⟩

set_option maxRecDepth 100000 in
set_option maxHeartbeats 4000000 in
theorem do_range (w : World) (base g : Nat) (Ls : List (List S67)) (l : List S67) (A1 : Option Addr) (c1 : Nat) (key : ByteArray) (n : Int) (hL : LI Ls) (h : Held w base g (bytesOfLog Ls) (tableOf Ls)) (hbase : base ≤ w.heap.size) (hkl : key.size ≤ 140737488351232) :
    Calls Try.prog 69 #[.pointer (some ⟨g, 0, none⟩), .agg #[.int .i64 3, .slice A1 l.length c1, .string key, .int .i64 n]] w (Done w base g (doS ⟨3, l, key, n⟩ Ls)) := by
  have hs : doS ⟨3, l, key, n⟩ Ls = (⟨0, beginOf (tableOf Ls) key⟩, Ls) := by simp [doS]
  rw [hs]
  have HH := Aside0.mk h
  have HBase := Aside0.mk hbase
  have hT := hL.table
  obtain ⟨v, rv, hd, ht⟩ := h
  obtain ⟨At, ct, rfl, hct, htd⟩ := Kd.R_reads ht
  have HV := fun w h => Aside0.mk (Begin_any At ct (tableOf Ls) key w h hct (by have := hT.room; omega) hT.sorted hkl)
  have HC := Aside0.mk htd
  have HBlk := Aside0.mk hd.blk
  generalize beginOf (tableOf Ls) key = R at *
  generalize (tableOf Ls).length = tl at *
  clear hs hL hT hct htd hd ht hbase hkl
  go_enter Try.func69, Try.ntmps69
  go_wp2
  have hZ := two_facts (k := 3) (l := .slice A1 l.length c1) (key := key) (n := n) w HH.out
  generalize hW0 : (w.alloc (.cells #[.int .i64 3, .slice A1 l.length c1, .string key, .int .i64 n] 83)).alloc (.cells #[.int .i64 0, .slice none 0 0] 81) = W0 at *
  have HZ := Aside0.mk hZ
  have hkey := hZ.key
  have hk2 := cell_below (show w.cell? ⟨g, 2, none⟩ = some (.slice At tl ct) by simp [World.cell?, HBlk.out]) hZ.below
  have HC0 := Aside0.mk (Kd.C_below HC.out hZ.below)
  have HBlk2 := Aside0.mk (lasts HBlk.out hZ.below)
  obtain ⟨z, hz⟩ : ∃ z, z = w.heap.size := ⟨_, rfl⟩
  simp only [← hz] at hkey ⊢
  have HZ0 := Aside0.mk hz
  have HK := Aside0.mk hkey
  have HK2 := Aside0.mk hk2
  clear hZ hW0 hz hkey hk2
  refine region_facts (by kernel_rfl) 8 (F10 W0.heap.size g z At tl ct key R) (by kernel_rfl) F10.last ?_ ?_
  · refine ⟨?_, ?_, ?_, ?_, ?_, ?_, ?_, ?_, trivial⟩
    · intro ev w1 hb hc hf hg hbase hdep
      refine ⟨fun _ => ?_, fun h => absurd trivial h⟩
      have e0 : ev (.tmp 0) = .pointer (some ⟨g, 0, none⟩) := hbase 0 (by decide)
      unfold Gives
      go_simp
      exact ⟨rfl, Below.refl _ _⟩
    · intro ev w1 hb hc hf hg hbase hdep
      refine ⟨fun _ => ?_, fun h => absurd trivial h⟩
      have e1 : ev (.tmp 39) = .pointer (some ⟨g, 0, none⟩) := hdep 0 (by decide)
      unfold Gives
      go_simp
      exact ⟨rfl, Below.refl _ _⟩
    · intro ev w1 hb hc hf hg hbase hdep
      refine ⟨fun _ => ?_, fun h => absurd trivial h⟩
      have e1 : ev (.tmp 40) = .pointer (some ⟨g, 0, none⟩) := hdep 1 (by decide)
      unfold Gives
      go_simp
      exact ⟨rfl, Below.refl _ _⟩
    · intro ev w1 hb hc hf hg hbase hdep
      refine ⟨fun _ => ?_, fun h => absurd trivial h⟩
      have e1 : ev (.tmp 41) = .pointer (some ⟨g, 2, none⟩) := hdep 2 (by decide)
      have hq := cell_below HK2.out hb
      unfold Gives
      go_simp
      exact ⟨rfl, Below.refl _ _⟩
    · intro ev w1 hb hc hf hg hbase hdep
      refine ⟨fun _ => ?_, fun h => absurd trivial h⟩
      have e0 : ev (.tmp 3) = .pointer (some ⟨z, 0, none⟩) := hbase 3 (by decide)
      unfold Gives
      go_simp
      exact ⟨rfl, Below.refl _ _⟩
    · intro ev w1 hb hc hf hg hbase hdep
      refine ⟨fun _ => ?_, fun h => absurd trivial h⟩
      have e1 : ev (.tmp 43) = .pointer (some ⟨z, 2, none⟩) := hdep 4 (by decide)
      have hq := cell_below HK.out hb
      unfold Gives
      go_simp
      exact ⟨rfl, Below.refl _ _⟩
    · intro ev w1 hb hc hf hg hbase hdep
      refine ⟨fun _ => ?_, fun h => absurd trivial h⟩
      have e1 : ev (.tmp 42) = .slice At tl ct := hdep 3 (by decide)
      have e2 : ev (.tmp 44) = .string key := hdep 5 (by decide)
      unfold Gives
      go_simp
      refine (HV w1 (Kd.C_below HC0.out hb)).out.mono ?_
      rintro e w2 ⟨v, rfl, hv, hb2⟩
      exact ⟨v, rfl, Kd.R_lower hv hb.size, hb2⟩
    · intro ev w1 hb hc hf hg hbase hdep
      refine ⟨fun _ => ?_, fun h => absurd trivial h⟩
      have e0 : FT W0.heap.size R (ev (.tmp 45)) w1 := hdep 6 (by decide)
      obtain ⟨A9, c9, e1, _, _⟩ := Kd.R_reads e0
      have E0 := Aside0.mk e0
      clear e0
      unfold Gives
      go_simp
      exact ⟨⟨_, rfl, by rw [← e1]; exact E0.out⟩, Below.refl _ _⟩
  · intro y w1 hb hbase hF
    obtain ⟨u, e46, hFT⟩ : ∃ u, y 46 = .agg #[.int .i64 0, u] ∧ FT W0.heap.size R u w1 := hF 7 (by decide)
    obtain ⟨A9, c9, rfl, _, _⟩ := Kd.R_reads hFT
    have e4 : y 4 = .pointer (some ⟨z + 1, 0, none⟩) := hbase 4 (by decide)
    have hbx := lasts HZ.out.res hb
    have hR : k67.R 67 w1 w.heap.size (fun _ => True) (.slice A9 R.length c9) R := Kd.R_lower hFT (by have := HZ.out.size; omega)
    have HP0 := put (HZ.out.held.below hb) hbx (Eff.below (HZ.out.below.trans (hb.mono HZ.out.below.size))) (Nat.le_succ _) (.int .i64 0) (.slice A9 R.length c9) hR
    rw [← HZ0.out] at hbx HP0
    obtain ⟨hx0, hx1, hx3⟩ := box_cells hbx
    have HP := Aside0.mk HP0
    have HLst := Aside0.mk hb
    simp only [List.drop_succ_cons, List.drop_zero, List.size_toArray, List.length_cons, List.length_nil, Nat.reduceAdd, List.range, List.range.loop, List.map_cons, List.map_nil, e46, e4]
    clear hF hbase e46 e4 hb hbx hR HP0 hFT
    go_wp2
    refine bodyPost_ret (results_cell_row rfl _ _ (z + 1) 81 _ (0, 0) _ rfl HP.out.2.2.2 Try.underlying81 rfl (by kernel_rfl)) rfl ?_
    exact ⟨_, rfl, HP.out.1, HP.out.2.1, by have h9 := HP.out.2.2.1; rw [HZ0.out] at h9 ⊢; exact h9⟩

/-- One act, whatever it is. -/
theorem do_any (w : World) (base g : Nat) (Ls : List (List S67)) (k : Int) (l : List S67) (A1 : Option Addr) (c1 : Nat) (key : ByteArray) (n : Int) (hL : LI Ls) (h : Held w base g (bytesOfLog Ls) (tableOf Ls)) (hbase : base ≤ w.heap.size) (hr : ∀ w', Below base w w' → k67.C w' A1 l.length l) (hkl : key.size ≤ 140737488351232) :
    Calls Try.prog 69 #[.pointer (some ⟨g, 0, none⟩), .agg #[.int .i64 k, .slice A1 l.length c1, .string key, .int .i64 n]] w (Done w base g (doS ⟨k, l, key, n⟩ Ls)) := by
  by_cases h1 : k = 1
  · subst h1; exact do_commit w base g Ls l A1 c1 key n hL h hbase hr
  · by_cases h2 : k = 2
    · subst h2; exact do_get w base g Ls l A1 c1 key n hL h hbase
    · by_cases h3 : k = 3
      · subst h3; exact do_range w base g Ls l A1 c1 key n hL h hbase hkl
      · by_cases h4 : k = 4
        · subst h4; exact do_pack w base g Ls l A1 c1 key n hL h hbase
        · by_cases h5 : k = 5
          · subst h5; exact do_crash w base g Ls l A1 c1 key n hL h hbase hr
          · exact do_other w base g Ls k l A1 c1 key n h h1 h2 h3 h4 h5

end Go.Proofs.Ytmfkgbncnaingaa.Sto
end

section
/- The loop over acts: what store.Play comes to; what store.Recover comes to. -/
namespace Go.Proofs.Ytmfkgbncnaingaa.Sto
open Go.Proofs.Ytmfkgbncnaingaa.Disk (Eff)
open Go.Proofs.Ytmfkgbncnaingaa.QStore (S81 S83 k81 k83 k81_mkM rd_T83 at_T83 info81)
open Go.RowKit Go.Proofs.Ytmfkgbncnaingaa.Reg Go.Proofs.Ytmfkgbncnaingaa.QRows Go.Proofs.Ytmfkgbncnaingaa.Rows Go.Proofs.Ytmfkgbncnaingaa.Wal Go.Proofs.YtmfkgbncnaingaaW.PrintWords Go.Proofs.YtmfkgbncnaingaaW.PrintLast Go.Proofs.YtmfkgbncnaingaaW.PrintMore
set_option linter.unusedVariables false
set_option linter.unusedSimpArgs false

/-- All acts, one behind the other: what they tell, and the log that is left. -/
def playS : List S83 → List (List S67) → List S81 × List (List S67)
  | [], Ls => ([], Ls)
  | a :: l, Ls => ((doS a Ls).1 :: (playS l (doS a Ls).2).1, (playS l (doS a Ls).2).2)

/-- The rows that are told outlast what an act does. -/
theorem told_eff {w w1 : World} {base g : Nat} {u : Value} {xs : List S81} (h : Kd.S k81 81 w base (fun k => k ≠ g) u xs) (hE : Eff w w1 base g) : Kd.S k81 81 w1 base (fun k => k ≠ g ∧ k < w.heap.size) u xs := by
  have hE5 : ∀ q ∈ k81.E, q ≠ 5 := by decide
  refine Kd.S_mono (Kd.S_step (Kd.S_bound h) (fun k hk hlt => hE.block k hlt (.inr ⟨hk.1, fun cs e => ?_⟩))) (fun k hk => ⟨hk.1, hk.2.2.1⟩)
  obtain ⟨_, _, _, q, hq, cells, hc⟩ := hk
  rw [hc] at e; injection e with e; injection e with _ e
  rcases List.mem_cons.1 hq with hq | hq
  · rw [hq] at e; exact absurd e (by decide)
  · exact hE5 q hq e
/-- The store outlasts an append to what is told. -/
theorem Held.grown {w w1 : World} {base g : Nat} {D : List Int} {T : List S67} {ok : Nat → Prop} {u : Value} {xs : List S81} (h : Held w base g D T) (hr : Kd.S k81 81 w base ok u xs) (hg : w.grownBy w1 u.ownBlock) : Held w1 base g D T := by
  obtain ⟨v, rv, hd, ht⟩ := h
  have hR := Kd.S_R hr
  obtain ⟨inner, hown⟩ := Kd.R_own hR
  have hne : ∀ k q cells, w.heap[k]? = some (.cells cells q (0, 0)) → q ≠ 81 → some k ≠ u.ownBlock := fun k q cells hc hq e => by
    obtain ⟨c2, h2⟩ := own_typed hown k e.symm
    rw [hc] at h2; injection h2 with h2; injection h2 with _ h3; exact hq h3
  refine ⟨v, rv, ⟨blk_grown hd.blk hg (Kd.R_ne hR hd.blk (by decide)), hd.ge, ?_⟩, ?_⟩
  · refine Kd.R_mono (Kd.R_move (Kd.R_bound hd.row) (fun k hk => ?_)) (fun k hk => hk.1)
    obtain ⟨_, _, hlt, q, hq, cells, hc⟩ := hk
    have hq2 : q = 5 := by rcases List.mem_cons.1 hq with hq | hq; exact hq; cases hq
    subst hq2
    exact hg.block k hlt (hne k 5 cells hc (by decide))
  · refine Kd.R_mono (Kd.R_move (Kd.R_bound ht) (fun k hk => ?_)) (fun k hk => hk.1)
    obtain ⟨_, _, hlt, q, hq, cells, hc⟩ := hk
    have hq2 : q = 67 := by rcases List.mem_cons.1 hq with hq | hq; exact hq; cases hq
    subst hq2
    exact hg.block k hlt (hne k 67 cells hc (by decide))

/-- What a round's append asks. -/
structure Round (w wr w1 : World) (v5 u : Value) (cs : List S81) (p : S81) : Prop where
  row : k81.M w1 w.heap.size (fun k => wr.heap.size < k) p [.int .i64 p.f0, u]
  okp : ∀ k, wr.heap.size < k → k ≠ w.heap.size ∧ some k ≠ v5.ownBlock
  fresh : ∀ k, w1.heap.size ≤ k → k ≠ w.heap.size
  told : Kd.S k81 81 w1 w.heap.size (fun k => k ≠ w.heap.size ∧ ¬ wr.heap.size < k) v5 cs
  below : Below w.heap.size w w1
  size : w.heap.size ≤ w1.heap.size
theorem round_facts {w wr w1 : World} {v5 u : Value} {cs : List S81} {o : Obj} {D : List Int} {T : List S67} {p : S81} (hAt : Held wr w.heap.size w.heap.size D T) (hB : Below w.heap.size w wr) (hC : Kd.S k81 81 wr w.heap.size (fun k => k ≠ w.heap.size) v5 cs)
    (hE : Eff (wr.alloc o) w1 w.heap.size w.heap.size) (hu : k67.R 67 w1 (wr.alloc o).heap.size (fun _ => True) u p.f1) : Round w wr w1 v5 u cs p := by
  have hs : (wr.alloc o).heap.size = wr.heap.size + 1 := by simp
  have h1 := hB.size
  have h2 := hE.size
  obtain ⟨v, rv, hd, ht⟩ := hAt
  have h3 := blk_lt hd.blk
  rw [hs] at h2
  refine ⟨?_, fun k hk => ⟨by omega, fun e => by have := Kd.R_lt (Kd.S_R hC) k e.symm; omega⟩, fun k hk => by omega, ?_, (below_alloc hB o).trans (Disk.Eff.below hE (by rw [hs]; omega)), by omega⟩
  · exact k81_mkM _ _ _ p (Kd.R_lower (Kd.R_mono (Kd.R_bound hu) (fun k hk => by have := hk.2.1; rw [hs] at this; omega)) (by rw [hs]; omega))
  · exact Kd.S_mono (told_eff (Kd.S_alloc hC o) hE) (fun k hk => ⟨hk.1, by have := hk.2; rw [hs] at this; omega⟩)

/-- What Play hands back, where the acts are not too many. -/
def Played (w : World) (r : List S81 × List (List S67)) (e : Ending) (w' : World) : Prop :=
  ∃ u v, e = .returned (.tuple #[u, v, .int .i64 0]) ∧ Kd.S k81 81 w' w.heap.size (fun _ => True) u r.1 ∧ (Kd.int .u8).R 5 w' w.heap.size (fun _ => True) v (bytesOfLog r.2) ∧ Below w.heap.size w w'

theorem Held.first (w : World) : Held (w.alloc (.cells #[.slice none 0 0, .int .i64 0, .slice none 0 0] 117)) w.heap.size w.heap.size (bytesOfLog []) (tableOf []) :=
  ⟨_, _, ⟨new_block _ _, Nat.le_refl _, Kd.R_nil _ _ _ _ _⟩, Kd.R_nil _ _ _ _ _⟩

set_option maxRecDepth 100000 in
set_option maxHeartbeats 8000000 in
theorem play_calls (A0 : Option Addr) (c0 : Nat) (l : List S83) (w : World) (hr : Kd.C k83 w A0 l.length l) (hl : l.length ≤ 100) (hb : ∀ m ∈ l, m.f2.size ≤ 140737488351232) :
    Calls Try.prog 53 #[.slice A0 l.length c0] w (Played w (playS l [])) := by
  have HR := Aside0.mk hr
  have HB := Aside0.mk hb
  have ht : decide (100 < (l.length : Int)) = false := decide_eq_false (by omega)
  have HL := Aside0.mk hl
  generalize hR : playS l [] = R
  have HRun := Aside0.mk hR
  clear hr hb hR
  go_enter Try.func53, Try.ntmps53
  go_wp2
  go_loopg [2, 15] (l.length) (fun kq v2 v15 wr => ∃ (i : Nat) (cs : List S81) (Ls : List (List S67)), v15 = .int .i64 i ∧ Aside0 (kq + i = l.length) ∧ Aside0 (cs.length = i) ∧ Aside0 ((cs ++ (playS (l.drop i) Ls).1, (playS (l.drop i) Ls).2) = R) ∧ Aside0 (LI Ls) ∧ Aside0 (Held wr w.heap.size w.heap.size (bytesOfLog Ls) (tableOf Ls)) ∧ Aside0 (Kd.S k81 81 wr w.heap.size (fun k => k ≠ w.heap.size) v2 cs) ∧ Aside0 (Below w.heap.size w wr))
  case atStart =>
    refine ⟨0, [], [], rfl, ⟨by omega⟩, ⟨rfl⟩, ⟨?_⟩, ⟨LI.nil⟩, ⟨Held.first w⟩, ⟨Kd.S_nil _ _ _ _ _⟩, ⟨below_alloc (Below.refl _ _) _⟩⟩
    rw [← HRun.out]; rfl
  case round =>
    obtain ⟨i, cs, Ls, rfl, hK, hLen, hRi, hLI, hAt, hCs, hBel⟩ := hrel
    by_cases hlt : i < l.length
    · have hm := List.getElem_mem hlt
      have hwi : IntKind.i64.wrap ((i : Int) + 1) = (i : Int) + 1 := by have := HL.out; rw [IntKind.wrap_i64]; omega
      obtain ⟨ad0, A1', c1', he0, -, hy1, -, -, -, hC1⟩ := at_T83 HR.out (i : Int) (by omega) (by omega)
      obtain ⟨ad, A1, c1, rfl, hx0, hx1, hx2, hx3, -, -⟩ := at_T83 (Kd.C_below HR.out hBel.out) (i : Int) (by omega) (by omega)
      obtain rfl : ad = ad0 := by injection he0
      have hsame : A1' = A1 ∧ c1' = c1 := by
        have h9 := cell_below hy1 hBel.out
        rw [h9] at hx1
        injection hx1 with hx1
        injection hx1 with e1 _ e2
        exact ⟨e1, e2⟩
      obtain ⟨rfl, rfl⟩ := hsame
      have hel : rd_T83 l (i : Int) = l[i] := by simp [rd_T83, List.getD_eq_getElem?_getD, hlt]
      rw [hel] at hx0 hx1 hx2 hx3 hC1
      rw [Int.toNat_natCast] at hx0 hx1 hx2 hx3
      have HBm := Aside0.mk (HB.out _ hm)
      have HC1 := Aside0.mk hC1
      clear hel hm he0 hy1 hC1
      have hRi' : (cs ++ (playS (l.drop i) Ls).1, (playS (l.drop i) Ls).2) = ((cs ++ [(doS l[i] Ls).1]) ++ (playS (l.drop (i + 1)) (doS l[i] Ls).2).1, (playS (l.drop (i + 1)) (doS l[i] Ls).2).2) := by
        rw [List.drop_eq_getElem_cons hlt, playS]; simp
      have HRi := Aside0.mk (hRi'.symm.trans hRi.out)
      clear hRi hRi'
      have HI := Aside0.mk (hLI.out.doS l[i])
      generalize hst : doS l[i] Ls = st at HRi HI
      have HSt := Aside0.mk hst
      clear hst
      generalize l[i] = m at *
      obtain ⟨k, rows, key, n⟩ := m
      dsimp only at *
      go_wp2_with (first | (go_at_call 69; refine (do_any _ w.heap.size w.heap.size Ls k rows _ _ key n hLI.out (hAt.out.below (below_alloc (Below.refl _ _) _)) (by have := hBel.out.size; simp; omega) (fun w' hb => Kd.C_below HC1.out ((below_alloc hBel.out _).trans hb)) HBm.out).mono ?_; rintro e w1 ⟨u, he, hA, hE, hu⟩; rw [HSt.out] at he hA hu; subst he; obtain ⟨A3, c3, rfl, _, _⟩ := Kd.R_reads hu; have HX := Aside0.mk (round_facts (p := st.1) hAt.out hBel.out hCs.out hE hu); have HA := Aside0.mk hA; clear hA hE hu) | (at_builtin; refine Kd.S_append k81 (w0 := w) w.heap.size rfl (.tmp 19) (.tmp 23) 77 81 (.agg #[.int .i64 0, .slice none 0 0]) 32 rfl Try.underlying77 info81 rfl (by decide) (by omega) _ cs st.1 [.int .i64 st.1.f0, .slice A3 st.1.f1.length c3] (fun k => k ≠ w.heap.size) (fun k => wr.heap.size < k) rfl (by first | (go_simp; done) | (go_simp; rfl)) HX.out.row HX.out.okp HX.out.fresh HX.out.told HX.out.below HX.out.size (by have := hLen.out; have := hK.out; have := HL.out; omega) ?_; intro v2 w2 ho hb hg _; have HC2 := Aside0.mk ho; have HB2 := Aside0.mk hb; have HA2 := Aside0.mk (HA.out.grown HX.out.told hg); clear ho hb hg))
      go_roundg (gk - 1)
      case measure => have := hK.out; omega
      case rel => exact ⟨i + 1, cs ++ [st.1], st.2, by go_num, ⟨by have := hK.out; omega⟩, ⟨by rw [List.length_append, hLen.out]; rfl⟩, HRi, HI, HA2, HC2, HB2⟩
    · have hil : i = l.length := by have := hK.out; omega
      have HD := Aside0.mk (show l.drop i = [] from List.drop_of_length_le (by omega))
      clear hil
      have hR := hRi.out
      rw [HD.out] at hR
      have e1 : (cs, Ls) = R := by simpa [playS] using hR
      have HE := Aside0.mk e1
      obtain ⟨v, rv, hd, hrr⟩ := hAt.out
      obtain ⟨Ad, cd, rfl, hcd, hCd⟩ := Kd.R_reads hd.row
      have hc0 := (blk_cell hd.blk 0).trans rfl
      have hdl := hLI.out.disk
      have HCl := fun w h => Aside0.mk (Disk.Clone_calls w Ad cd (bytesOfLog Ls) h (by omega))
      have HCd := Aside0.mk hCd
      clear hR e1 hRi hd hrr hcd hCd hdl hAt
      go_wp2_with (go_at_call 57; refine (HCl _ HCd.out).out.mono ?_; rintro e w3 ⟨v3, rfl, hv, hb⟩; have HV := Aside0.mk (Kd.R_lower hv hBel.out.size); have HS3 := Aside0.mk (Kd.S_below hCs.out hb); have HB3 := Aside0.mk (hBel.out.trans (hb.mono hBel.out.size)); clear hv hb)
      go_ret3
      exact ⟨_, _, rfl, by rw [← HE.out]; exact Kd.S_mono HS3.out (fun _ _ => trivial), by rw [← HE.out]; exact HV.out, HB3.out⟩

set_option maxRecDepth 100000 in
set_option maxHeartbeats 4000000 in
theorem play_many (A0 : Option Addr) (c0 n : Nat) (w : World) (hl : 100 < n) :
    Calls Try.prog 53 #[.slice A0 n c0] w fun e w' => e = .returned (.tuple #[.slice none 0 0, .slice none 0 0, .int .i64 1]) ∧ w = w' := by
  have ht : decide (100 < (n : Int)) = true := decide_eq_true (by omega)
  go_enter Try.func53, Try.ntmps53
  go_wp2
  go_ret3
  exact ⟨rfl, rfl⟩

set_option maxRecDepth 100000 in
set_option maxHeartbeats 4000000 in
theorem Recover_calls (A : Option Addr) (c : Nat) (b : List Int) (Ls : List (List S67)) (w : World) (hr : (Kd.int .u8).C w A b.length b) (hc : b.length ≤ c) (hl : b.length ≤ 1200) (hx : ∀ x ∈ b, 0 ≤ x ∧ x < 256) (hread : (readOf b).1 = Ls.map (·.map recOf)) (hL : Logs Ls) :
    Calls Try.prog 50 #[.slice A b.length c] w fun e w' => ∃ v, e = .returned (.tuple #[v, .int .i64 (readOf b).2, .int .i64 0]) ∧ k67.R 67 w' w.heap.size (fun _ => True) v (tableOf Ls) ∧ Below w.heap.size w w' := by
  have HR := Aside0.mk (read_calls A c b Ls w hr hc (by omega) hx hread hL)
  have ht : decide ((1200 : Int) < (b.length : Int)) = false := decide_eq_false (by omega)
  clear hr hc hl hx hread hL
  go_enter Try.func50, Try.ntmps50
  go_wp2_with (go_at_call 68; refine HR.out.mono ?_; rintro e w1 ⟨v, rfl, hv, hb⟩; have HV := Aside0.mk hv; have HB := Aside0.mk hb; clear hv hb)
  go_ret3
  exact ⟨_, rfl, HV.out, HB.out⟩

theorem bytesOf_inj {a b : ByteArray} (h : bytesOf a = bytesOf b) : a = b := by rw [← str_bytes a, h, str_bytes]
theorem recOf_inj {x y : S67} (h : recOf x = recOf y) : x = y := by
  have h1 := rec_key x
  have h2 := rec_val x
  have h0 : (x.f0.size : Int) = (y.f0.size : Int) := by
    unfold recOf at h; injection h
  have hs : x.f0.size = y.f0.size := by omega
  rw [h, hs] at h1 h2
  have k1 := rec_key y
  have k2 := rec_val y
  obtain ⟨a, b⟩ := x
  obtain ⟨c, d⟩ := y
  have e1 : a = c := bytesOf_inj (h1.symm.trans k1)
  have e2 : b = d := bytesOf_inj (h2.symm.trans k2)
  rw [e1, e2]
theorem recs_inj {a b : List S67} (h : a.map recOf = b.map recOf) : a = b := by
  induction a generalizing b with
  | nil => cases b with
    | nil => rfl
    | cons y m => cases h
  | cons x l ih =>
    cases b with
    | nil => cases h
    | cons y m =>
      rw [List.map_cons, List.map_cons] at h
      injection h with h1 h2
      rw [recOf_inj h1, ih h2]
theorem logs_inj {a b : List (List S67)} (h : a.map (·.map recOf) = b.map (·.map recOf)) : a = b := by
  induction a generalizing b with
  | nil => cases b with
    | nil => rfl
    | cons y m => cases h
  | cons x l ih =>
    cases b with
    | nil => cases h
    | cons y m =>
      rw [List.map_cons, List.map_cons] at h
      injection h with h1 h2
      rw [recs_inj h1, ih h2]

end Go.Proofs.Ytmfkgbncnaingaa.Sto
namespace Go.Proofs.Ytmfkgbncnaingaa.QStore
open Go.RowKit Go.Proofs.Ytmfkgbncnaingaa.Sto Go.Proofs.Ytmfkgbncnaingaa.QRows Go.Proofs.Ytmfkgbncnaingaa.Wal Go.Proofs.YtmfkgbncnaingaaW.PrintWords Go.Proofs.YtmfkgbncnaingaaW.PrintLast Go.Proofs.YtmfkgbncnaingaaW.PrintMore

/-- Are all keys short enough to be? -/
def short (l : List S83) : Bool := l.all fun m => decide (m.f2.size ≤ 140737488351232)
theorem short_iff (l : List S83) : short l = true ↔ ∀ m ∈ l, m.f2.size ≤ 140737488351232 := by simp [short]

def store_Play.f (l : List S83) : Option (List S81 × List Int × Int) :=
  if 100 < l.length then some ([], [], 1) else if short l = true then some ((playS l []).1, bytesOfLog (playS l []).2, 0) else none
theorem store_Play.calls (A0 : Option Addr) (c0 : Nat) (l0 : List S83) (r1 : List S81) (r2 : List Int) (r3 : Int) (w : World) (hr0 : Kd.C k83 w A0 l0.length l0) (_hc0 : l0.length ≤ c0) (h : store_Play.f l0 = some (r1, r2, r3)) :
    Calls Try.prog 53 #[.slice A0 l0.length c0] w fun e w' => ∃ v0_ v1_ : Value, e = .returned (.tuple #[v0_, v1_, .int .i64 r3]) ∧ Kd.S k81 81 w' w.heap.size (fun _ => True) v0_ r1 ∧ Kd.R (Kd.int .u8) 5 w' w.heap.size (fun _ => True) v1_ r2 ∧ Below w.heap.size w w' := by
  unfold store_Play.f at h
  by_cases hm : 100 < l0.length
  · rw [if_pos hm] at h
    simp only [Option.some.injEq, Prod.mk.injEq] at h
    obtain ⟨rfl, rfl, rfl⟩ := h
    refine (play_many A0 c0 l0.length w hm).mono ?_
    rintro e w' ⟨rfl, rfl⟩
    exact ⟨_, _, rfl, Kd.S_nil _ _ _ _ _, Kd.R_nil _ _ _ _ _, Below.refl _ _⟩
  · rw [if_neg hm] at h
    by_cases hs : short l0 = true
    · rw [if_pos hs] at h
      simp only [Option.some.injEq, Prod.mk.injEq] at h
      obtain ⟨rfl, rfl, rfl⟩ := h
      exact play_calls A0 c0 l0 w hr0 (by omega) ((short_iff l0).1 hs)
    · rw [if_neg hs] at h; cases h

/-- Bytes of a good log. -/
def GoodLog (b : List Int) (Ls : List (List S67)) : Prop := b.length ≤ 1200 ∧ Bytes b ∧ (readOf b).1 = Ls.map (·.map recOf) ∧ Logs Ls
open Classical in
noncomputable def store_Recover.f (b : List Int) : Option (List S67 × Int × Int) := if h : ∃ Ls, GoodLog b Ls then some (tableOf h.choose, ((readOf b).2 : Int), 0) else none
theorem Recover_is {b : List Int} {Ls : List (List S67)} (h : GoodLog b Ls) : store_Recover.f b = some (tableOf Ls, ((readOf b).2 : Int), 0) := by
  unfold store_Recover.f
  have hx : ∃ Ls, GoodLog b Ls := ⟨Ls, h⟩
  rw [dif_pos hx]
  have e : hx.choose = Ls := logs_inj (hx.choose_spec.2.2.1.symm.trans h.2.2.1)
  rw [e]
theorem store_Recover.calls (A0 : Option Addr) (c0 : Nat) (l0 : List Int) (r1 : List S67) (r2 r3 : Int) (w : World) (hr0 : Kd.C (Kd.int .u8) w A0 l0.length l0) (hc0 : l0.length ≤ c0) (h : store_Recover.f l0 = some (r1, r2, r3)) :
    Calls Try.prog 50 #[.slice A0 l0.length c0] w fun e w' => ∃ v0_ : Value, e = .returned (.tuple #[v0_, .int .i64 r2, .int .i64 r3]) ∧ Kd.R k67 67 w' w.heap.size (fun _ => True) v0_ r1 ∧ Below w.heap.size w w' := by
  by_cases hx : ∃ Ls, GoodLog l0 Ls
  · obtain ⟨Ls, hg⟩ := hx
    rw [Recover_is hg] at h
    simp only [Option.some.injEq, Prod.mk.injEq] at h
    obtain ⟨rfl, rfl, rfl⟩ := h
    exact Recover_calls A0 c0 l0 Ls w hr0 hc0 hg.1 hg.2.1 hg.2.2.1 hg.2.2.2
  · unfold store_Recover.f at h
    rw [dif_neg hx] at h; cases h

end Go.Proofs.Ytmfkgbncnaingaa.QStore
end

section
/- What bagnallkeep.stored comes to. -/
namespace Go.Proofs.Ytmfkgbncnaingaa.Sto
open Go.Proofs.Ytmfkgbncnaingaa.QStore (S81 S83 k81 k83 k81_mkM k83_mk k83_open rd_T83 rd_T81 at_T83 at_T81 info81 info83 store_Play.f store_Play.calls short_iff)
open Go.RowKit Go.Proofs.Ytmfkgbncnaingaa.Reg Go.Proofs.Ytmfkgbncnaingaa.QRows Go.Proofs.Ytmfkgbncnaingaa.Rows Go.Proofs.Ytmfkgbncnaingaa.Wal Go.Proofs.YtmfkgbncnaingaaW.PrintWords Go.Proofs.YtmfkgbncnaingaaW.PrintLast Go.Proofs.YtmfkgbncnaingaaW.PrintMore
set_option linter.unusedVariables false
set_option linter.unusedSimpArgs false

theorem heap83 : Kd.Heap k83 := by
  unfold k83
  refine Kd.heap_iso _ ?_
  refine Kd.heap_pair (Kd.heap_int _) (Kd.heap_pair (Kd.heap_slice _ ?_) (Kd.heap_pair ?_ (Kd.heap_int _)))
  · unfold k67; exact Kd.heap_iso _ (Kd.heap_pair Kd.heap_string Kd.heap_string)
  · exact Kd.heap_string

def rowKV : S67 := ⟨⟨#[107]⟩, ⟨#[118]⟩⟩
def act1 : S83 := ⟨1, [rowKV], ⟨#[]⟩, 0⟩
def act2 : S83 := ⟨2, [], ⟨#[107]⟩, 0⟩
theorem table_one : changed [] [rowKV] = [rowKV] := by
  show change [] _ = _
  have h0 : found ([] : List S67) rowKV.f0 = (0, false) := by
    unfold found; rw [bs]; rfl
  unfold change
  rw [h0, if_neg (by simp), if_neg (by decide +kernel)]; rfl
theorem wr_one : Wr rowKV := by unfold Wr; decide +kernel
theorem sure_play : ∃ x p, playS [act1, act2] [] = ([x, p], [[rowKV]]) ∧ p.f1.length = 1 := by
  have hfault : faultS (bytesOfLog []) (tableOf []) [rowKV] = 0 := by
    have h1 : faultOf [] [rowKV] = 0 := by
      unfold faultOf
      rw [if_neg (by decide), if_neg (by rw [not_odd (fun c hc => by rw [List.mem_singleton.1 hc]; exact wr_small wr_one)]; simp), if_neg (by rw [table_one]; decide)]
    have h2 := batch_length [rowKV] (fun x hx => by rw [List.mem_singleton.1 hx]; exact wr_one)
    unfold faultS
    rw [if_neg (by decide), show tableOf [] = [] from rfl, h1, if_neg (by omega), if_neg (by rw [log_nil]; simp at h2 ⊢; omega)]
  have h1 : doS act1 [] = (⟨0, []⟩, [[rowKV]]) := by
    unfold doS act1
    rw [if_pos rfl]
    dsimp only
    rw [if_pos hfault, hfault]; rfl
  have hG : Rows.Good (tableOf [[rowKV]]) := by
    have : tableOf [[rowKV]] = changed [] [rowKV] := rfl
    rw [this]
    exact Good.nil.changed (fun c hc => by rw [List.mem_singleton.1 hc]; exact wr_small wr_one) (by rw [table_one]; decide)
  have hT : tableOf [[rowKV]] = [rowKV] := table_one
  have hv : (valueOf (tableOf [[rowKV]]) ⟨#[107]⟩).2 = true := by
    unfold valueOf
    rcases found_row (tableOf [[rowKV]]) ⟨#[107]⟩ hG.sorted with ⟨h1, _⟩ | ⟨_, h2⟩
    · rw [if_pos h1]
    · exact absurd rfl (h2 rowKV (by rw [hT]; exact List.mem_singleton.2 rfl))
  have h2 : (doS act2 [[rowKV]]).2 = [[rowKV]] ∧ (doS act2 [[rowKV]]).1.f1.length = 1 := by
    unfold doS act2
    rw [if_neg (by decide), if_pos rfl]
    refine ⟨rfl, ?_⟩
    dsimp only
    rw [if_pos hv]; rfl
  refine ⟨⟨0, []⟩, (doS act2 [[rowKV]]).1, ?_, h2.2⟩
  unfold playS
  rw [h1]
  unfold playS
  dsimp only
  unfold playS
  rw [h2.1]

/-- The literal of two acts. -/
theorem two_lit (w : World) : Kd.C k83 ((w.alloc (.cells #[.string ⟨#[107]⟩, .string ⟨#[118]⟩] 67)).alloc (.cells #[.int .i64 1, .slice (some ⟨w.heap.size, 0, none⟩) 1 1, .string ⟨#[]⟩, .int .i64 0, .int .i64 2, .slice none 0 0, .string ⟨#[107]⟩, .int .i64 0] 83)) (some ⟨w.heap.size + 1, 0, none⟩) 2 [act1, act2] := by
  have h4 : (w.alloc (.cells #[.string ⟨#[107]⟩, .string ⟨#[118]⟩] 67)).heap.size = w.heap.size + 1 := by simp
  have h0 := lasts (new_block w (.cells #[.string ⟨#[107]⟩, .string ⟨#[118]⟩] 67 (0, 0))) (below_alloc (Below.refl _ _) (.cells #[.int .i64 1, .slice (some ⟨w.heap.size, 0, none⟩) 1 1, .string ⟨#[]⟩, .int .i64 0, .int .i64 2, .slice none 0 0, .string ⟨#[107]⟩, .int .i64 0] 83))
  have h1 := new_block (w.alloc (.cells #[.string ⟨#[107]⟩, .string ⟨#[118]⟩] 67)) (.cells #[.int .i64 1, .slice (some ⟨w.heap.size, 0, none⟩) 1 1, .string ⟨#[]⟩, .int .i64 0, .int .i64 2, .slice none 0 0, .string ⟨#[107]⟩, .int .i64 0] 83 (0, 0))
  rw [h4] at h1
  generalize (w.alloc (.cells #[.string ⟨#[107]⟩, .string ⟨#[118]⟩] 67)).alloc _ = W at *
  refine ⟨rfl, by omega, fun _ => ⟨_, rfl, fun j p hj => ?_⟩⟩
  cases j with
  | zero =>
    injection hj with hj
    subst hj
    refine ⟨_, rfl, k83_mk W act1 (A1 := some ⟨w.heap.size, 0, none⟩) (c1 := 1) (Nat.le_refl _) (one_reads (c := rowKV) h0), fun k u hk => ?_⟩
    rw [Addr.add_lit]
    match k, hk with
    | 0, hk | 1, hk | 2, hk | 3, hk => simp [act1] at hk; subst hk; simp [World.cell?, h1]
    | k + 4, hk => simp [act1] at hk
  | succ j =>
    cases j with
    | zero =>
      injection hj with hj
      subst hj
      refine ⟨_, rfl, k83_mk W act2 (A1 := none) (c1 := 0) (Nat.le_refl _) (Kd.C_nil _ _), fun k u hk => ?_⟩
      rw [Addr.add_lit]
      match k, hk with
      | 0, hk | 1, hk | 2, hk | 3, hk => simp [act2] at hk; subst hk; simp [World.cell?, h1, Kd.iso, Kd.pair, Kd.int, Kd.string, Kd.slice, Kd.scalar, k83]
      | k + 4, hk => simp [act2] at hk
    | succ j => cases hj

/-- What stored tells. -/
def told (l : List S83) (p : List S81 × List Int × Int) : List S81 × List Int × Bool := (p.1, p.2.1, (p.2.2 == 0) && decide (p.1.length = l.length))
set_option maxRecDepth 100000 in
set_option maxHeartbeats 8000000 in
theorem stored_calls (A0 : Option Addr) (c0 : Nat) (l : List S83) (p : List S81 × List Int × Int) (w : World) (hr0 : Kd.C k83 w A0 l.length l) (hl : l.length ≤ 1000000) (h : store_Play.f l = some p) :
    Calls Try.prog 48 #[.slice A0 l.length c0] w fun e w' => ∃ v0_ v1_ : Value, e = .returned (.tuple #[v0_, v1_, .bool (told l p).2.2]) ∧ Kd.S k81 81 w' w.heap.size (fun _ => True) v0_ (told l p).1 ∧ Kd.R (Kd.int .u8) 5 w' w.heap.size (fun _ => True) v1_ (told l p).2.1 ∧ Below w.heap.size w w' := by
  obtain ⟨r1, r2, r3⟩ := p
  unfold told
  dsimp only
  have HP := fun A c w h hc => Aside0.mk (store_Play.calls A c l r1 r2 r3 w h hc (by assumption))
  obtain ⟨x, q, hs, hq⟩ := sure_play
  have hS : store_Play.f [act1, act2] = some ([x, q], bytesOfLog [[rowKV]], 0) := by
    unfold store_Play.f
    rw [if_neg (by decide), if_pos (show QStore.short [act1, act2] = true by decide +kernel), hs]
  have HS := fun z w h => Aside0.mk (store_Play.calls (some ⟨z, 0, none⟩) 2 [act1, act2] [x, q] _ 0 w h (Nat.le_refl _) hS)
  have HQ := Aside0.mk hq
  have HF := Aside0.mk (Kd.C_F heap83 hr0)
  have HL := Aside0.mk hl
  clear hs hS hq h hr0 hl
  have tok1 : True := trivial
  go_enter Try.func48, Try.ntmps48
  go_wp2_with (first
    | ((with_reducible refine gate_builtin (b := .append) (xs := #[.const _, .tmp 12]) rfl ?_); at_builtin; refine Kd.N_append_rows k83 (w0 := w) w.heap.size rfl (.const (.slice none 0 0)) (.tmp 12) 75 83 (.agg #[(.int .i64 0), (.slice none 0 0), (.string ⟨#[]⟩), (.int .i64 0)]) 56 rfl Try.underlying75 info83 rfl (by decide) (by omega) (.slice none 0 0) ([] : List (S83)) l _ _ _ (fun k_ => True) (fun k_ => k_ < w.heap.size) rfl rfl (Kd.N_nil _ _ _ _ _) HF.out (fun k_ hk => ⟨trivial, by simp [Value.ownBlock]⟩) (fun _ _ => trivial) (Below.refl _ _) (Nat.le_refl _) (by have := HL.out; simp; omega) ?_; intro v1 w1 ho hb _ _; obtain ⟨A1, c1, rfl⟩ := Kd.N_slice ho; have HN := Aside0.mk ho; have HB1 := Aside0.mk hb; clear ho hb)
    | (go_at_call 53; have _t := tok1; clear _t tok1; refine (HP _ _ _ (Kd.N_reads' HN.out).2.2 (Kd.N_reads' HN.out).2.1).out.mono ?_; rintro e w2 ⟨v2, v3, rfl, hs, hr, hb⟩; obtain ⟨A2, c2, rfl, _, _⟩ := Kd.R_reads (Kd.S_R hs); obtain ⟨A3, c3, rfl, _, _⟩ := Kd.R_reads hr; have HS2 := Aside0.mk hs; have HR2 := Aside0.mk hr; have HB2 := Aside0.mk (HB1.out.trans (hb.mono HB1.out.size)); clear hs hr hb)
    | (go_at_call 53; refine (HS _ _ (two_lit w2)).out.mono ?_; rintro e w4 ⟨v4, v5, rfl, hs, hr, hb⟩; obtain ⟨A4, c4, rfl, _, hC4⟩ := Kd.R_reads (Kd.S_R hs); obtain ⟨A5, c5, rfl, _, _⟩ := Kd.R_reads hr; have hb24 := (below_alloc (below_alloc (Below.refl w2.heap.size w2) _) _).trans (hb.mono (by simp; omega)); have HS4 := Aside0.mk (Kd.S_below HS2.out hb24); have HR4 := Aside0.mk (Kd.R_below HR2.out hb24); have HB4 := Aside0.mk (HB2.out.trans (hb24.mono HB2.out.size)); have HC4 := Aside0.mk hC4; clear hs hr hb hb24 hC4))
  obtain ⟨ad4, A6, c6, rfl, -, hx1, -, -⟩ := at_T81 HC4.out (1 : Int) (by omega) (show (1 : Int) < 2 by omega)
  have hx : w4.cell? ⟨(ad4.add 2).block, (ad4.add 2).off + 1, none⟩ = some (.slice A6 1 c6) := by have h9 : w4.cell? ⟨(ad4.add 2).block, (ad4.add 2).off + 1, none⟩ = some (.slice A6 q.f1.length c6) := hx1; rw [HQ.out] at h9; exact h9
  have hxb : w4.cell? ⟨ad4.block, ad4.off + 2 + 1, none⟩ = some (.slice A6 1 c6) := hx
  have hxc : w4.cell? ⟨ad4.block, ad4.off + 3, none⟩ = some (.slice A6 1 c6) := hx
  clear hx1
  have h12 : (1 : Int) < 2 := by omega
  by_cases h0 : r3 = 0
  · subst h0
    by_cases h1 : r1.length = l.length
    · have h1' : ((r1.length : Int) == (l.length : Int)) = true := by rw [h1]; simp
      have hd : Aside0 (((0 : Int) == 0 && decide (r1.length = l.length)) = true) := ⟨by simp [h1]⟩
      have H1 := Aside0.mk h1
      clear h1
      go_quiet (fail)
      go_wp2
      go_ret3
      exact ⟨_, _, by rw [hd.out]; rfl, Kd.S_lower (Kd.S_drewN HS4.out _) HB1.out.size, Kd.R_lower (Kd.R_drewN HR4.out _) HB1.out.size, pw_below_drewN HB4.out _⟩
    · have h1' : ((r1.length : Int) == (l.length : Int)) = false := beq_eq_false_iff_ne.2 (by omega)
      have hd : Aside0 (((0 : Int) == 0 && decide (r1.length = l.length)) = false) := ⟨by simp [h1]⟩
      clear h1
      go_quiet (fail)
      go_wp2
      go_ret3
      exact ⟨_, _, by rw [hd.out]; rfl, Kd.S_lower (Kd.S_drewN HS4.out _) HB1.out.size, Kd.R_lower (Kd.R_drewN HR4.out _) HB1.out.size, pw_below_drewN HB4.out _⟩
  · have h0' : (r3 == 0) = false := beq_eq_false_iff_ne.2 h0
    have hd : Aside0 ((r3 == 0 && decide (r1.length = l.length)) = false) := ⟨by simp [h0]⟩
    clear h0
    go_quiet (fail)
    go_wp2
    go_ret3
    exact ⟨_, _, by rw [hd.out]; rfl, Kd.S_lower (Kd.S_drewN HS4.out _) HB1.out.size, Kd.R_lower (Kd.R_drewN HR4.out _) HB1.out.size, pw_below_drewN HB4.out _⟩

end Go.Proofs.Ytmfkgbncnaingaa.Sto
namespace Go.Proofs.Ytmfkgbncnaingaa.QStore
open Go.RowKit Go.Proofs.Ytmfkgbncnaingaa.Sto Go.Proofs.Ytmfkgbncnaingaa.QRows Go.Proofs.YtmfkgbncnaingaaW.PrintWords Go.Proofs.YtmfkgbncnaingaaW.PrintLast Go.Proofs.YtmfkgbncnaingaaW.PrintMore
def bagnallkeep_stored.f (l0 : List S83) : Option (List S81 × List Int × Bool) := if l0.length ≤ 1000000 then (store_Play.f l0).bind fun p => some (told l0 p) else none
theorem bagnallkeep_stored.calls (A0 : Option Addr) (c0 : Nat) (l0 : List S83) (r1 : List S81) (r2 : List Int) (r3 : Bool) (w : World) (hr0 : Kd.C k83 w A0 l0.length l0) (_hc0 : l0.length ≤ c0) (h : bagnallkeep_stored.f l0 = some (r1, r2, r3)) :
    Calls Try.prog 48 #[.slice A0 l0.length c0] w fun e w' => ∃ v0_ v1_ : Value, e = .returned (.tuple #[v0_, v1_, .bool r3]) ∧ Kd.S k81 81 w' w.heap.size (fun _ => True) v0_ r1 ∧ Kd.R (Kd.int .u8) 5 w' w.heap.size (fun _ => True) v1_ r2 ∧ Below w.heap.size w w' := by
  unfold bagnallkeep_stored.f at h
  by_cases hl : l0.length ≤ 1000000
  · rw [if_pos hl] at h
    obtain ⟨p, hp, h⟩ := Option.bind_eq_some_iff.1 h
    have := stored_calls A0 c0 l0 p w hr0 hl hp
    have h2 := Option.some.inj h
    rw [h2] at this
    exact this
  · rw [if_neg hl] at h; cases h
end Go.Proofs.Ytmfkgbncnaingaa.QStore
end

section
/- What bagnallkeep.Acts comes to. -/
namespace Go.Proofs.Ytmfkgbncnaingaa.Sto
open Go.Proofs.Ytmfkgbncnaingaa.QStore (S81 S83 S114 k81 k83 k114 k83_mk k83_mkM k83_open rd_T83 rd_T114 at_T83 at_T114 info83)
open Go.RowKit Go.Proofs.Ytmfkgbncnaingaa.Reg Go.Proofs.Ytmfkgbncnaingaa.QRows Go.Proofs.Ytmfkgbncnaingaa.Rows Go.Proofs.Ytmfkgbncnaingaa.Wal Go.Proofs.YtmfkgbncnaingaaW.PrintWords Go.Proofs.YtmfkgbncnaingaaW.PrintLast Go.Proofs.YtmfkgbncnaingaaW.PrintMore
set_option linter.unusedVariables false
set_option linter.unusedSimpArgs false

def rowTV : S67 := ⟨⟨#[116]⟩, ⟨#[118]⟩⟩
def tab3 : Array ByteArray := #[⟨#[]⟩, ⟨#[97]⟩, ⟨#[107]⟩]
/-- The act that a wish asks for. -/
def actOf (x : S114) : S83 :=
  if pickN x.f0 9 = 4 then ⟨2, [], (rowOf x.f2).f0, 0⟩
  else if pickN x.f0 9 = 5 then ⟨3, [], tab3.getD (pickN x.f2 3) ⟨#[]⟩, 0⟩
  else if pickN x.f0 9 = 6 then ⟨4, [], ⟨#[]⟩, 0⟩
  else if pickN x.f0 9 = 7 ∨ pickN x.f0 9 = 8 then ⟨5, changesOf x.f1 3 ++ [rowTV], ⟨#[]⟩, (pickN x.f2 40 : Nat)⟩
  else ⟨1, changesOf x.f1 3 ++ [rowTV], ⟨#[]⟩, 0⟩
def actsOf (l : List S114) (n : Int) : List S83 := (l.take n.toNat).map actOf

theorem changesOf_length (l : List Int) : (changesOf l 3).length ≤ 3 := by
  unfold changesOf; rw [List.length_map, List.length_take]; show min 3 _ ≤ _; omega

/-- Behind the wish's box and the first act. -/
structure Ready (w0 w : World) (b7 b8 : Nat) (rv v1 : Value) (x : S114) : Prop where
  box7 : w.heap[b7]? = some (.cells #[.int .i64 x.f0, v1, .int .i64 x.f2] 114 (0, 0))
  box8 : w.heap[b8]? = some (.cells #[.int .i64 1, rv, .string ⟨#[]⟩, .int .i64 0] 83 (0, 0))
  rows : k67.R 67 w w0.heap.size (fun _ => True) rv (changesOf x.f1 3 ++ [rowTV])
  new8 : w0.heap.size ≤ b8
  below : Below w0.heap.size w0 w
theorem Ready.next {w0 w w' : World} {b7 b8 : Nat} {rv v1 : Value} {x : S114} (h : Ready w0 w b7 b8 rv v1 x) (hb : Below w.heap.size w w') : Ready w0 w' b7 b8 rv v1 x :=
  ⟨blk_below h.box7 hb, blk_below h.box8 hb, Kd.R_below h.rows hb, h.new8, h.below.trans (hb.mono h.below.size)⟩
/-- The act is made. -/
structure Made (w0 w : World) (b8 : Nat) (rv : Value) (a : S83) : Prop where
  box8 : w.heap[b8]? = some (.cells #[.int .i64 a.f0, rv, .string a.f2, .int .i64 a.f3] 83 (0, 0))
  rows : k67.R 67 w w0.heap.size (fun _ => True) rv a.f1
  below : Below w0.heap.size w0 w
theorem Ready.made {w0 w : World} {b7 b8 : Nat} {rv v1 : Value} {x : S114} (h : Ready w0 w b7 b8 rv v1 x) : Made w0 w b8 rv ⟨1, changesOf x.f1 3 ++ [rowTV], ⟨#[]⟩, 0⟩ := ⟨h.box8, h.rows, h.below⟩
theorem Ready.put {w0 w : World} {b7 b8 : Nat} {rv v1 : Value} {x : S114} (h : Ready w0 w b7 b8 rv v1 x) (k : Int) (key : ByteArray) :
    Made w0 ((((w.setCell ⟨b8, 0, none⟩ (.int .i64 k)).setCell ⟨b8, 1, none⟩ (.slice none 0 0)).setCell ⟨b8, 2, none⟩ (.string key)).setCell ⟨b8, 3, none⟩ (.int .i64 0)) b8 (.slice none 0 0) ⟨k, [], key, 0⟩ := by
  refine ⟨?_, Kd.R_nil _ _ _ _ _, below_set (below_set (below_set (below_set h.below h.new8) h.new8) h.new8) h.new8⟩
  exact blk_put (blk_put (blk_put (blk_put h.box8 0 _ rfl) 1 _ rfl) 2 _ rfl) 3 _ rfl
structure Half (w0 w : World) (b7 b8 : Nat) (rv v1 : Value) (x : S114) : Prop where
  box7 : w.heap[b7]? = some (.cells #[.int .i64 x.f0, v1, .int .i64 x.f2] 114 (0, 0))
  box8 : w.heap[b8]? = some (.cells #[.int .i64 5, rv, .string ⟨#[]⟩, .int .i64 0] 83 (0, 0))
  rows : k67.R 67 w w0.heap.size (fun _ => True) rv (changesOf x.f1 3 ++ [rowTV])
  new8 : w0.heap.size ≤ b8
  below : Below w0.heap.size w0 w
theorem Half.next {w0 w w' : World} {b7 b8 : Nat} {rv v1 : Value} {x : S114} (h : Half w0 w b7 b8 rv v1 x) (hb : Below w.heap.size w w') : Half w0 w' b7 b8 rv v1 x :=
  ⟨blk_below h.box7 hb, blk_below h.box8 hb, Kd.R_below h.rows hb, h.new8, h.below.trans (hb.mono h.below.size)⟩
theorem Ready.half {w0 w : World} {b7 b8 : Nat} {rv v1 : Value} {x : S114} (h : Ready w0 w b7 b8 rv v1 x) : Half w0 (w.setCell ⟨b8, 0, none⟩ (.int .i64 5)) b7 b8 rv v1 x := by
  have hne : b7 ≠ b8 := fun e => by have := h.box7; rw [e, h.box8] at this; injection this with this; injection this with _ h3; exact absurd h3 (by decide)
  exact ⟨by rw [Below.heap_setCell w ⟨b8, 0, none⟩ _ b7 hne]; exact h.box7, blk_put h.box8 0 _ rfl, Kd.R_set h.rows h.box8 (by decide) 0 _, h.new8, below_set h.below h.new8⟩
theorem Half.made {w0 w : World} {b7 b8 : Nat} {rv v1 : Value} {x : S114} (h : Half w0 w b7 b8 rv v1 x) (n : Int) : Made w0 (w.setCell ⟨b8, 3, none⟩ (.int .i64 n)) b8 rv ⟨5, changesOf x.f1 3 ++ [rowTV], ⟨#[]⟩, n⟩ :=
  ⟨blk_put h.box8 3 _ rfl, Kd.R_set h.rows h.box8 (by decide) 3 _, below_set h.below h.new8⟩
theorem one_int {w : World} {g : Nat} {x : Int} (h : w.heap[g]? = some (.cells #[.int .i64 x] 3 (0, 0))) : Kd.C (Kd.int .i64) w (some ⟨g, 0, none⟩) 1 [x] := by
  refine ⟨rfl, by first | omega | decide, fun _ => ⟨_, rfl, fun j p hj => ?_⟩⟩
  cases j with
  | zero =>
    injection hj with hj
    subst hj
    refine ⟨[.int .i64 x], rfl, rfl, fun k u hk => ?_⟩
    rw [Addr.add_lit]
    match k, hk with
    | 0, hk => simp at hk; subst hk; simp [World.cell?, h]
    | k + 1, hk => simp at hk
  | succ j => cases hj
def cells3 : Array Value := #[.string ⟨#[]⟩, .string ⟨#[97]⟩, .string ⟨#[107]⟩]
theorem cells3_at (p : Nat) (h : p < 3) : cells3[p]? = some (.string (tab3.getD p ⟨#[]⟩)) := by
  match p, h with
  | 0, _ | 1, _ | 2, _ => rfl

set_option maxRecDepth 100000 in
set_option maxHeartbeats 8000000 in
theorem Acts_calls (A0 : Option Addr) (c0 : Nat) (l : List S114) (n : Int) (w : World) (hr : Kd.C k114 w A0 l.length l) (_hc : l.length ≤ c0) (hn : n ≤ 1000) :
    Calls Try.prog 47 #[.slice A0 l.length c0, .int .i64 n] w fun e w' => ∃ v, e = .returned v ∧ Kd.S k83 83 w' w.heap.size (fun _ => True) v (actsOf l n) ∧ Below w.heap.size w w' := by
  have hu114 := Try.underlying114
  have hu67 := Try.underlying67
  have hu83 := Try.underlying83
  have HR := Aside0.mk hr
  have hm : l.length ≤ maxLen := hr.2.1
  unfold maxLen at hm
  clear hr
  go_enter Try.func47, Try.ntmps47
  go_wp2
  go_loopg [5, 6] (l.length) (fun kq v5 v6 wr => ∃ (i : Nat), v6 = .int .i64 i ∧ Aside0 (kq + i = l.length ∧ (i : Int) ≤ max n 0) ∧ Aside0 (Kd.S k83 83 wr w.heap.size (fun _ => True) v5 ((l.take i).map actOf)) ∧ Aside0 (Below w.heap.size w wr))
  case atStart => exact ⟨0, rfl, ⟨by omega, by omega⟩, ⟨Kd.S_nil _ _ _ _ _⟩, ⟨Below.refl _ _⟩⟩
  case round =>
    obtain ⟨i, rfl, hK, hO, hW⟩ := hrel
    by_cases hlt : i < l.length ∧ (i : Int) < n
    · obtain ⟨hlt, hin⟩ := hlt
      have hb1 : (i : Int) < (l.length : Int) := by omega
      have hb0 : (0 : Int) ≤ (i : Int) := by omega
      have hwi : IntKind.i64.wrap ((i : Int) + 1) = (i : Int) + 1 := by rw [IntKind.wrap_i64]; omega
      obtain ⟨ad, A1, c1, rfl, hx0, hx1, hx2, hc1, hC1⟩ := at_T114 (Kd.C_below HR.out hW.out) (i : Int) hb0 hb1
      obtain ⟨x, hxl⟩ : ∃ x, x = rd_T114 l (i : Int) := ⟨_, rfl⟩
      rw [← hxl] at hx0 hx1 hx2 hc1 hC1
      rw [Int.toNat_natCast] at hx0 hx1 hx2
      have HX := Aside0.mk hxl
      have HC1 := Aside0.mk (And.intro hc1 hC1)
      clear hxl hc1 hC1
      go_upto_region 6 with (fail)
      obtain ⟨ws, hws⟩ : ∃ ws, ws = wr.alloc (.cells #[.int .i64 x.f0, .slice A1 x.f1.length c1, .int .i64 x.f2] 114) := ⟨_, rfl⟩
      have hb7 : ws.heap[wr.heap.size]? = some (.cells #[.int .i64 x.f0, .slice A1 x.f1.length c1, .int .i64 x.f2] 114 (0, 0)) := by rw [hws]; exact new_block _ _
      have hB1 : Below wr.heap.size wr ws := by rw [hws]; exact below_alloc (Below.refl _ _) _
      rw [← hws]
      have hs1 : ws.heap.size = wr.heap.size + 1 := by rw [hws]; simp
      obtain ⟨b7, hb7e⟩ : ∃ b7, b7 = wr.heap.size := ⟨_, rfl⟩
      rw [← hb7e] at hb7 ⊢
      have hy0 : ws.cell? ⟨b7, 0, none⟩ = some (.int .i64 x.f0) := (blk_cell hb7 0).trans rfl
      have hy1 : ws.cell? ⟨b7, 1, none⟩ = some (.slice A1 x.f1.length c1) := (blk_cell hb7 1).trans rfl
      have HC2 := Aside0.mk (And.intro HC1.out.1 (Kd.C_below HC1.out.2 hB1))
      have HB7 := Aside0.mk hb7
      have HS1 := Aside0.mk (And.intro hb7e hs1)
      have HB1 := Aside0.mk hB1
      clear hws hb7 hB1 hb7e hs1 hx0 hx1 hx2
      go_upto_region 7 with (first
        | (go_at_call 39; refine (Changes_calls A1 c1 x.f1 3 _ HC2.out.2 HC2.out.1 (by decide)).mono ?_; rintro e w2 ⟨v2, rfl, hr, hb⟩; obtain ⟨A2, c2, rfl, _, _⟩ := Kd.R_reads hr; have HR2 := Aside0.mk hr; have HB2 := Aside0.mk hb; clear hr hb)
        | (at_builtin; refine Kd.R_append_rows k67 (w0 := ws) ws.heap.size rfl (.tmp 26) (.tmp 28) 58 67 (.agg #[(.string ⟨#[]⟩), (.string ⟨#[]⟩)]) 32 rfl Try.underlying58 info67 rfl (by decide) (by omega) _ _ [rowTV] _ _ _ (fun _ => True) (fun _ => False) rfl rfl (Kd.R_alloc HR2.out _) (one_reads (c := rowTV) (new_block_at rfl)) (fun x cs h => by rw [k67_open h]; exact k67_mkM _ _ _ x) (fun _ h => h.elim) (fun _ _ => trivial) (below_alloc HB2.out _) (by have := HB2.out.size; simp at this ⊢; omega) (by have h1 := changesOf_length x.f1; simp; omega) ?_; intro v3 w3 ho hbb _ _; obtain ⟨A3, c3, rfl, _, _⟩ := Kd.R_reads ho; have HR3 := Aside0.mk ho; have HB3 := Aside0.mk hbb; clear ho hbb))
      obtain ⟨w4, hw4⟩ : ∃ w4, w4 = w3.alloc (.cells #[.int .i64 1, .slice A3 ((changesOf x.f1 3).length + 1) c3, .string ⟨#[]⟩, .int .i64 0] 83) := ⟨_, rfl⟩
      obtain ⟨b8, hb8⟩ : ∃ b8, b8 = w3.heap.size := ⟨_, rfl⟩
      obtain ⟨rv, hrv⟩ : ∃ rv, rv = Value.slice A3 ((changesOf x.f1 3).length + 1) c3 := ⟨_, rfl⟩
      obtain ⟨v1, hv1⟩ : ∃ v1, v1 = Value.slice A1 x.f1.length c1 := ⟨_, rfl⟩
      have hR4 : Ready wr w4 b7 b8 rv v1 x := by
        have h1 := HR3.out
        have h2 : wr.heap.size ≤ ws.heap.size := by have := HS1.out.2; omega
        rw [show (changesOf x.f1 3 ++ [rowTV]).length = (changesOf x.f1 3).length + 1 by simp, ← hrv] at h1
        rw [hw4, ← hrv, hb8, hv1]
        exact ⟨blk_below HB7.out (below_alloc HB3.out _), new_block _ _, Kd.R_lower (Kd.R_alloc h1 _) h2, Nat.le_trans h2 HB3.out.size, HB1.out.trans ((below_alloc HB3.out _).mono HB1.out.size)⟩
      rw [← hw4, ← hb8]
      have HR4 := Aside0.mk hR4
      have hz0 : w4.cell? ⟨b7, 0, none⟩ = some (.int .i64 x.f0) := (blk_cell hR4.box7 0).trans rfl
      clear hw4 hb8 hrv hv1 hR4 hy0 hy1 HB7 HR3 HR2 HB2 HB3 HC2
      obtain ⟨p, hp⟩ : ∃ p, p = pickN x.f0 9 := ⟨_, rfl⟩
      have HP := Aside0.mk hp
      clear hp
      go_upto_block 2 with (go_at_call 31; refine (Picked8 x.f0 9 (by omega) (by omega) _).mono ?_; rintro e w5 ⟨rfl, hb⟩; have HR5 := Aside0.mk (HR4.out.next hb); clear hb; rw [← HP.out])
      go_cut [] (fun wc => ∃ rv2, Aside0 (Made wr wc b8 rv2 (actOf x)))
      case first =>
        clear hz0
        have hc0 : w5.cell? ⟨b7, 0, none⟩ = some (.int .i64 x.f0) := (blk_cell HR5.out.box7 0).trans rfl
        have hc2 : w5.cell? ⟨b7, 2, none⟩ = some (.int .i64 x.f2) := (blk_cell HR5.out.box7 2).trans rfl
        have hf8 : ∀ j, w5.frozen? ⟨b8, j, none⟩ = false := fun j => by simp [World.frozen?, HR5.out.box8]
        have hd0 : w5.cell? ⟨b8, 0, none⟩ = some (.int .i64 1) := (blk_cell HR5.out.box8 0).trans rfl
        have hd1 : w5.cell? ⟨b8, 1, none⟩ = some rv := (blk_cell HR5.out.box8 1).trans rfl
        have hd2 : w5.cell? ⟨b8, 2, none⟩ = some (.string ⟨#[]⟩) := (blk_cell HR5.out.box8 2).trans rfl
        have hd3 : w5.cell? ⟨b8, 3, none⟩ = some (.int .i64 0) := (blk_cell HR5.out.box8 3).trans rfl
        by_cases h4 : p = 4
        · subst h4
          have hact : Aside0 (actOf x = ⟨2, [], (rowOf x.f2).f0, 0⟩) := ⟨by unfold actOf; rw [← HP.out, if_pos rfl]⟩
          go_wp2_with (go_at_call 39; (refine (Changes_calls (some ⟨w5.heap.size, 0, none⟩) 1 [x.f2] 1 _ (one_int (new_block _ _)) (Nat.le_refl _) (by decide)).mono ?_; rintro e w6 ⟨v6, rfl, hr, hb⟩; obtain ⟨A6, c6, rfl, _, hC6⟩ := Kd.R_reads hr; obtain ⟨ad6, rfl, hk6, -⟩ := at_T67 hC6 (0 : Int) (by omega) (by simp [changesOf]); obtain ⟨g6, rfl⟩ := Kd.R_head hr; have hb6 := (below_alloc (Below.refl w5.heap.size w5) _).trans (hb.mono (by simp)); have HR6 := Aside0.mk (HR5.out.next hb6); have hf6 : ∀ j, w6.frozen? ⟨b8, j, none⟩ = false := (fun j => by simp [World.frozen?, HR6.out.box8]); have hg0 : w6.cell? ⟨b8, 0, none⟩ = some (.int .i64 1) := (blk_cell HR6.out.box8 0).trans rfl; have hg1 : w6.cell? ⟨b8, 1, none⟩ = some rv := (blk_cell HR6.out.box8 1).trans rfl; have hg2 : w6.cell? ⟨b8, 2, none⟩ = some (.string ⟨#[]⟩) := (blk_cell HR6.out.box8 2).trans rfl; have hg3 : w6.cell? ⟨b8, 3, none⟩ = some (.int .i64 0) := (blk_cell HR6.out.box8 3).trans rfl; have hk7 : w6.cell? ⟨g6, 0, none⟩ = some (.string (rowOf x.f2).f0) := hk6; have hl6 : (0 : Int) < ((changesOf [x.f2] 1).length : Int) := (by simp [changesOf]); clear hr hb hb6 hC6 hk6))
          go_meet
          case rel => exact ⟨_, ⟨by rw [hact.out]; exact HR6.out.put 2 _⟩⟩
        by_cases h5 : p = 5
        · subst h5
          have hact : Aside0 (actOf x = ⟨3, [], tab3.getD (pickN x.f2 3) ⟨#[]⟩, 0⟩) := ⟨by unfold actOf; rw [← HP.out, if_neg (by decide), if_pos rfl]⟩
          obtain ⟨q, hq⟩ : ∃ q, q = pickN x.f2 3 := ⟨_, rfl⟩
          have hq3 : q < 3 := by rw [hq]; exact pickN_lt _ _ (by omega)
          have hqi : (q : Int) < 3 := by omega
          have hq0 : (0 : Int) ≤ (q : Int) := by omega
          rw [← hq] at hact
          have HQ := Aside0.mk hq
          clear hq
          have HK3 := Aside0.mk (cells3_at q hq3)
          obtain ⟨ks, hks⟩ : ∃ ks, ks = tab3.getD q ⟨#[]⟩ := ⟨_, rfl⟩
          rw [← hks] at HK3 hact
          clear hks
          have hc9 : (w5.alloc (.cells #[.string ⟨#[]⟩, .string ⟨#[97]⟩, .string ⟨#[107]⟩] 9)).cell? ⟨b7, 2, none⟩ = some (.int .i64 x.f2) := cell_below hc2 (below_alloc (Below.refl _ _) _)
          go_wp2_with (go_at_call 31; (refine (Picked8 x.f2 3 (by omega) (by omega) _).mono ?_; rintro e w6 ⟨rfl, hb⟩; rw [← HQ.out]; have hk7 : w6.cell? ⟨w5.heap.size, q, none⟩ = some (.string ks) := ((blk_cell (blk_below (new_block w5 (.cells cells3 9)) hb) q).trans HK3.out); have hb6 := (below_alloc (Below.refl w5.heap.size w5) _).trans (hb.mono (by simp)); have HR6 := Aside0.mk (HR5.out.next hb6); have hf6 : ∀ j, w6.frozen? ⟨b8, j, none⟩ = false := (fun j => by simp [World.frozen?, HR6.out.box8]); have hg0 : w6.cell? ⟨b8, 0, none⟩ = some (.int .i64 1) := (blk_cell HR6.out.box8 0).trans rfl; have hg1 : w6.cell? ⟨b8, 1, none⟩ = some rv := (blk_cell HR6.out.box8 1).trans rfl; have hg2 : w6.cell? ⟨b8, 2, none⟩ = some (.string ⟨#[]⟩) := (blk_cell HR6.out.box8 2).trans rfl; have hg3 : w6.cell? ⟨b8, 3, none⟩ = some (.int .i64 0) := (blk_cell HR6.out.box8 3).trans rfl; clear hb hb6))
          go_meet
          case rel => exact ⟨_, ⟨by rw [hact.out]; exact HR6.out.put 3 _⟩⟩
        by_cases h6 : p = 6
        · subst h6
          have hact : Aside0 (actOf x = ⟨4, [], ⟨#[]⟩, 0⟩) := ⟨by unfold actOf; rw [← HP.out, if_neg (by decide), if_neg (by decide), if_pos rfl]⟩
          go_wp2
          go_meet
          case rel => exact ⟨_, ⟨by rw [hact.out]; exact HR5.out.put 4 ⟨#[]⟩⟩⟩
        by_cases h7 : p = 7
        · subst h7
          have hact : Aside0 (actOf x = ⟨5, changesOf x.f1 3 ++ [rowTV], ⟨#[]⟩, (pickN x.f2 40 : Nat)⟩) := ⟨by unfold actOf; rw [← HP.out, if_neg (by decide), if_neg (by decide), if_neg (by decide), if_pos (by decide)]⟩
          go_upto_region 17 with (fail)
          obtain ⟨w6, hw6⟩ : ∃ w6, w6 = w5.setCell ⟨b8, 0, none⟩ (.int .i64 5) := ⟨_, rfl⟩
          have hH := HR5.out.half
          rw [← hw6] at hH ⊢
          have HH := Aside0.mk hH
          have he2 : w6.cell? ⟨b7, 2, none⟩ = some (.int .i64 x.f2) := (blk_cell hH.box7 2).trans rfl
          clear hw6 hH hc0 hc2 hd0 hd1 hd2 hd3 hf8
          go_wp2_with (go_at_call 31; refine (Picked8 x.f2 40 (by omega) (by omega) _).mono ?_; rintro e w7 ⟨rfl, hb⟩; have HR7 := Aside0.mk (HH.out.next hb); have hf6 : ∀ j, w7.frozen? ⟨b8, j, none⟩ = false := (fun j => by simp [World.frozen?, HR7.out.box8]); have hg3 : w7.cell? ⟨b8, 3, none⟩ = some (.int .i64 0) := (blk_cell HR7.out.box8 3).trans rfl; clear hb)
          go_meet
          case rel => exact ⟨_, ⟨by rw [hact.out]; exact HR7.out.made _⟩⟩
        by_cases h8 : p = 8
        · subst h8
          have hact : Aside0 (actOf x = ⟨5, changesOf x.f1 3 ++ [rowTV], ⟨#[]⟩, (pickN x.f2 40 : Nat)⟩) := ⟨by unfold actOf; rw [← HP.out, if_neg (by decide), if_neg (by decide), if_neg (by decide), if_pos (by decide)]⟩
          go_upto_region 17 with (fail)
          obtain ⟨w6, hw6⟩ : ∃ w6, w6 = w5.setCell ⟨b8, 0, none⟩ (.int .i64 5) := ⟨_, rfl⟩
          have hH := HR5.out.half
          rw [← hw6] at hH ⊢
          have HH := Aside0.mk hH
          have he2 : w6.cell? ⟨b7, 2, none⟩ = some (.int .i64 x.f2) := (blk_cell hH.box7 2).trans rfl
          clear hw6 hH hc0 hc2 hd0 hd1 hd2 hd3 hf8
          go_wp2_with (go_at_call 31; refine (Picked8 x.f2 40 (by omega) (by omega) _).mono ?_; rintro e w7 ⟨rfl, hb⟩; have HR7 := Aside0.mk (HH.out.next hb); have hf6 : ∀ j, w7.frozen? ⟨b8, j, none⟩ = false := (fun j => by simp [World.frozen?, HR7.out.box8]); have hg3 : w7.cell? ⟨b8, 3, none⟩ = some (.int .i64 0) := (blk_cell HR7.out.box8 3).trans rfl; clear hb)
          go_meet
          case rel => exact ⟨_, ⟨by rw [hact.out]; exact HR7.out.made _⟩⟩
        have g4 : ((p : Int) == 4) = false := beq_eq_false_iff_ne.2 (by omega)
        have g5 : ((p : Int) == 5) = false := beq_eq_false_iff_ne.2 (by omega)
        have g6 : ((p : Int) == 6) = false := beq_eq_false_iff_ne.2 (by omega)
        have g7 : ((p : Int) == 7) = false := beq_eq_false_iff_ne.2 (by omega)
        have g8 : ((p : Int) == 8) = false := beq_eq_false_iff_ne.2 (by omega)
        have hact : Aside0 (actOf x = ⟨1, changesOf x.f1 3 ++ [rowTV], ⟨#[]⟩, 0⟩) := ⟨by unfold actOf; rw [← HP.out, if_neg h4, if_neg h5, if_neg h6, if_neg (by omega)]⟩
        clear h4 h5 h6 h7 h8
        go_wp2
        go_meet
        case rel => exact ⟨_, ⟨by rw [hact.out]; exact HR5.out.made⟩⟩
      case rest =>
        obtain ⟨rv2, HM⟩ := hcut
        have hM := HM.out
        have hc0 : wc.cell? ⟨b8, 0, none⟩ = some (.int .i64 (actOf x).f0) := (blk_cell hM.box8 0).trans rfl
        have hc1 : wc.cell? ⟨b8, 1, none⟩ = some rv2 := (blk_cell hM.box8 1).trans rfl
        have hc2 : wc.cell? ⟨b8, 2, none⟩ = some (.string (actOf x).f2) := (blk_cell hM.box8 2).trans rfl
        have hc3 : wc.cell? ⟨b8, 3, none⟩ = some (.int .i64 (actOf x).f3) := (blk_cell hM.box8 3).trans rfl
        have hr2 := hM.rows
        obtain ⟨A7, c7, rfl, _, _⟩ := Kd.R_reads hr2
        have HRow := Aside0.mk (Kd.R_lower (Kd.R_mono (Kd.R_bound hr2) (fun k hk => hk.2.1)) hW.out.size)
        have HS := Aside0.mk (Kd.S_below (Kd.S_mono (Kd.S_bound hO.out) (ok' := fun k => True ∧ ¬ wr.heap.size ≤ k) (fun k hk => ⟨trivial, by have := hk.2.2.1; omega⟩)) hM.below)
        have HN : Aside0 (∀ k, wr.heap.size ≤ k → some k ≠ u5.ownBlock) := ⟨fun k hk e => by have := Kd.S_lt hO.out k e.symm; omega⟩
        have HB5 := Aside0.mk (hW.out.trans (hM.below.mono hW.out.size))
        have hlen : ((l.take i).map actOf).length = i := by rw [List.length_map, List.length_take]; omega
        have HLEN := Aside0.mk hlen
        clear hr2 hM hlen
        clear HM
        go_wp2_with (at_builtin; (refine Kd.S_append k83 (w0 := w) w.heap.size rfl (.tmp 64) (.tmp 66) 75 83 (.agg #[(.int .i64 0), (.slice none 0 0), (.string ⟨#[]⟩), (.int .i64 0)]) 56 rfl Try.underlying75 info83 rfl (by decide) (by omega) u5 ((l.take i).map actOf) (actOf x) [.int .i64 (actOf x).f0, .slice A7 (actOf x).f1.length c7, .string (actOf x).f2, .int .i64 (actOf x).f3] (fun _ => True) (fun k => wr.heap.size ≤ k) rfl (by first | (go_simp; done) | (go_simp; rfl)) (k83_mkM _ _ _ (actOf x) HRow.out) (fun k hk => ⟨trivial, HN.out k hk⟩) (fun _ _ => trivial) HS.out HB5.out HB5.out.size (by rw [HLEN.out]; omega) ?_; intro v9 w9 ho hb _ _; have HS9 := Aside0.mk ho; have HB9 := Aside0.mk hb; clear ho hb))
        go_roundg (gk - 1)
        case measure => have := hK.out; omega
        case rel => exact ⟨i + 1, by go_num, ⟨by have := hK.out; omega, by have := hK.out; omega⟩, ⟨by rw [List.take_succ_eq_append_getElem hlt, List.map_append, List.map_singleton, show l[i] = rd_T114 l (i : Int) by unfold rd_T114; simp [List.getD_eq_getElem?_getD, hlt], ← HX.out]; exact HS9.out⟩, HB9⟩
    · have hE : Aside0 ((l.take i).map actOf = actsOf l n) := Aside0.mk (by
        unfold actsOf
        congr 1
        have h := hK.out
        by_cases h1 : i < l.length
        · have h2 : (i : Int) = max n 0 := by omega
          congr 1; omega
        · rw [List.take_of_length_le (by omega), List.take_of_length_le (by omega)])
      have hle : ¬ (i < l.length) ∨ (i < l.length ∧ ¬ (i : Int) < n) := by omega
      rcases hle with h1 | ⟨h1, h2⟩
      · have hb1 : ¬ (i : Int) < (l.length : Int) := by omega
        have hb2 : decide ((i : Int) < (l.length : Int)) = false := decide_eq_false hb1
        clear hlt
        go_wp2
        go_ret
        exact ⟨_, rfl, by rw [← hE.out]; exact hO.out, hW.out⟩
      · have hb1 : (i : Int) < (l.length : Int) := by omega
        have hb2 : decide ((i : Int) < n) = false := decide_eq_false h2
        clear hlt
        go_wp2
        go_ret
        exact ⟨_, rfl, by rw [← hE.out]; exact hO.out, hW.out⟩
end Go.Proofs.Ytmfkgbncnaingaa.Sto
namespace Go.Proofs.Ytmfkgbncnaingaa.QStore
open Go.RowKit Go.Proofs.Ytmfkgbncnaingaa.Sto Go.Proofs.Ytmfkgbncnaingaa.QRows Go.Proofs.YtmfkgbncnaingaaW.PrintWords Go.Proofs.YtmfkgbncnaingaaW.PrintLast Go.Proofs.YtmfkgbncnaingaaW.PrintMore
def bagnallkeep_Acts.f (l0 : List S114) (a1 : Int) : Option (List S83) := if a1 ≤ 1000 then some (actsOf l0 a1) else none
theorem bagnallkeep_Acts.calls (A0 : Option Addr) (c0 : Nat) (l0 : List S114) (a1 : Int) (r : List S83) (w : World) (hr0 : Kd.C k114 w A0 l0.length l0) (hc0 : l0.length ≤ c0) (h : bagnallkeep_Acts.f l0 a1 = some r) :
    Calls Try.prog 47 #[.slice A0 l0.length c0, .int .i64 a1] w fun e w' => ∃ v0_ : Value, e = .returned (v0_) ∧ Kd.S k83 83 w' w.heap.size (fun _ => True) v0_ r ∧ Below w.heap.size w w' := by
  unfold bagnallkeep_Acts.f at h
  by_cases hn : a1 ≤ 1000
  · rw [if_pos hn] at h
    obtain rfl := Option.some.inj h
    exact Acts_calls A0 c0 l0 a1 w hr0 hc0 hn
  · rw [if_neg hn] at h; cases h
end Go.Proofs.Ytmfkgbncnaingaa.QStore
end

section
/- Functions of the program as plain functions, and the walks that show it. Written by the session's own program pp.py. -/
namespace Go.Proofs.Ytmfkgbncnaingaa.QStore
open Go.RowKit Go.Proofs.Ytmfkgbncnaingaa.QRows Go.Proofs.Ytmfkgbncnaingaa.QWal Go.Proofs.YtmfkgbncnaingaaW.PrintWords Go.Proofs.YtmfkgbncnaingaaW.PrintLast Go.Proofs.YtmfkgbncnaingaaW.PrintMore
attribute [local go_sem] max2_int min2_int max_two min_two max_three min_three max_four min_four   -- for this text's walks alone
set_option linter.unusedVariables false
set_option linter.unusedSimpArgs false

/-! ### bagnallkeep_sameBytes: function 30 -/
def bagnallkeep_sameBytes.l0 : Nat → List Int → List Int → Int → Option (Bool)
  | 0, _, _, _ => none
  | k + 1, x0, x1, x5 => if x5 < (x0.length : Int) then (if 0 ≤ x5 then (if x5 < (x1.length : Int) then (if (rd x0 x5) = (rd x1 x5) then (bagnallkeep_sameBytes.l0 k x0 x1 (wrap64 (x5 + 1))) else (some false)) else (none)) else (none)) else (some true)
def bagnallkeep_sameBytes.f (k : Nat) (l0 : List Int) (l1 : List Int) : Option (Bool) := if (l0.length : Int) = (l1.length : Int) then (bagnallkeep_sameBytes.l0 k l0 l1 0) else (some false)
theorem bagnallkeep_sameBytes.mono_l : ∀ k, (∀ y0 y1 y2, LeO (bagnallkeep_sameBytes.l0 k y0 y1 y2) (bagnallkeep_sameBytes.l0 (k + 1) y0 y1 y2))
  | 0 => fun _ _ _ r h => by simp [bagnallkeep_sameBytes.l0] at h
  | k + 1 => by
    have ih0 := bagnallkeep_sameBytes.mono_l k
    · intro y0 y1 y2
      unfold bagnallkeep_sameBytes.l0
      repeat' first
      | (with_reducible exact ih0 _ _ _)
      | (with_reducible exact LeO.refl _)
      | (with_reducible exact LeO.none _)
      | (with_reducible refine LeO.ite ?_ ?_)
      | (with_reducible refine LeO.bind ?_ (fun _ => ?_))
      | exact ih0 _ _ _
      | exact LeO.none _
      | refine LeO.ite ?_ ?_
      | refine LeO.bind ?_ (fun _ => ?_)
theorem bagnallkeep_sameBytes.mono : ∀ a0 a1 k, LeO (bagnallkeep_sameBytes.f k a0 a1) (bagnallkeep_sameBytes.f (k + 1) a0 a1) := by
  intro a0 a1 k
  have ih0 := bagnallkeep_sameBytes.mono_l k
  unfold bagnallkeep_sameBytes.f
  repeat' first
      | (with_reducible exact ih0 _ _ _)
      | (with_reducible exact LeO.refl _)
      | (with_reducible exact LeO.none _)
      | (with_reducible refine LeO.ite ?_ ?_)
      | (with_reducible refine LeO.bind ?_ (fun _ => ?_))
      | exact ih0 _ _ _
      | exact LeO.none _
      | refine LeO.ite ?_ ?_
      | refine LeO.bind ?_ (fun _ => ?_)
set_option maxHeartbeats 8000000 in
set_option maxRecDepth 100000 in
theorem bagnallkeep_sameBytes.calls (k : Nat) (A0 : Option Addr) (c0 : Nat) (l0 : List Int) (A1 : Option Addr) (c1 : Nat) (l1 : List Int) (r : Bool) (w : World) (hr0 : Kd.C (Kd.int .u8) w A0 l0.length l0) (hc0 : l0.length ≤ c0) (hr1 : Kd.C (Kd.int .u8) w A1 l1.length l1) (hc1 : l1.length ≤ c1) (h : bagnallkeep_sameBytes.f k l0 l1 = some r) :
    Calls Try.prog 30 #[.slice A0 l0.length c0, .slice A1 l1.length c1] w fun e w' => e = .returned (.bool r) ∧ Drawn0 w w' := by
  have HR0 := Aside0.mk hr0
  have HC0 := Aside0.mk hc0
  clear hr0 hc0
  have HR1 := Aside0.mk hr1
  have HC1 := Aside0.mk hc1
  clear hr1 hc1
  have H : (if (l0.length : Int) = (l1.length : Int) then (bagnallkeep_sameBytes.l0 k l0 l1 0) else (some false)) = some r := h
  clear h
  by_cases c3 : (l0.length : Int) = (l1.length : Int)
  · rw [if_pos c3] at H
    have c3b0 : ((l0.length : Int) == (l1.length : Int)) = true := beq_iff_eq.mpr c3
    have c3b1 : ((l0.length : Int) != (l1.length : Int)) = false := bne_eq_false_iff_eq.mpr c3
    have c3b2 : (l0.length == l1.length) = true := by first | simpa using c3 | (simp at c3 ⊢; omega)
    clear c3
    have H' := Aside0.mk H
    clear H
    go_enter Try.func30, Try.ntmps30
    go_wp2
    repeat (go_quiet (fail); try go_wp2)
    go_loopg [5] k (fun kq v5 w' => ∃ (x5_1 : Int), v5 = .int .i64 x5_1 ∧ Aside0 (bagnallkeep_sameBytes.l0 kq l0 l1 x5_1 = some r) ∧ Aside0 (kq ≤ k) ∧ Drawn0 w w')
    case atStart => exact ⟨(0), (by first | rfl | (simp; done) | (simp [*]; done)), H', ⟨Nat.le_refl _⟩, by repeat (first | exact Drawn0.refl _ | apply Drawn0.step)⟩
    case round =>
      clear H'
      try clear c1
      try clear p2
      try clear c3
      try clear c3b0
      try clear c3b1
      try clear c3b2
      obtain ⟨x5_1, rfl, HA, HK1, ⟨m1, rfl⟩⟩ := hrel
      cases gk with
      | zero => exact absurd HA.out (by simp [bagnallkeep_sameBytes.l0])
      | succ k1 =>
        have H := HA.out
        clear HA
        simp only [bagnallkeep_sameBytes.l0] at H
        by_cases c4 : x5_1 < (l0.length : Int)
        · rw [if_pos c4] at H
          have c4b0 : decide (x5_1 < (l0.length : Int)) = true := decide_eq_true c4
          clear c4
          by_cases c5 : 0 ≤ x5_1
          · rw [if_pos c5] at H
            have c5b0 : decide (0 ≤ x5_1) = true := decide_eq_true c5
            clear c5
            by_cases c6 : x5_1 < (l1.length : Int)
            · rw [if_pos c6] at H
              have c6b0 : decide (x5_1 < (l1.length : Int)) = true := decide_eq_true c6
              clear c6
              by_cases c7 : (rd l0 x5_1) = (rd l1 x5_1)
              · rw [if_pos c7] at H
                have c7b0 : ((rd l0 x5_1) == (rd l1 x5_1)) = true := beq_iff_eq.mpr c7
                have c7b1 : ((rd l0 x5_1) != (rd l1 x5_1)) = false := bne_eq_false_iff_eq.mpr c7
                clear c7
                have H' := Aside0.mk H
                clear H
                have p101 : 0 ≤ (x5_1 : Int) := of_decide_eq_true (by first | (with_reducible assumption) | assumption)
                have q101 : x5_1 < (l0.length : Int) := of_decide_eq_true (by first | (with_reducible assumption) | assumption)
                obtain ⟨ad101, e101, hx101_0⟩ := Kd.at_int HR0.out x5_1 p101 q101
                cases e101
                replace p101 := eq_true p101
                replace q101 := eq_true q101
                have p102 : 0 ≤ (x5_1 : Int) := of_decide_eq_true (by first | (with_reducible assumption) | assumption)
                have q102 : x5_1 < (l1.length : Int) := of_decide_eq_true (by first | (with_reducible assumption) | assumption)
                obtain ⟨ad102, e102, hx102_0⟩ := Kd.at_int HR1.out x5_1 p102 q102
                cases e102
                replace p102 := eq_true p102
                replace q102 := eq_true q102
                go_wp2
                repeat (go_quiet (fail); try go_wp2)
                go_roundg k1
                case measure => have := HK1.out; omega
                case rel => exact ⟨(wrap64 (x5_1 + 1)), (by first | rfl | (simp; done) | (simp [*]; done)), H', ⟨by have := HK1.out; omega⟩, by repeat (first | exact Drawn0.refl _ | apply Drawn0.step)⟩
              · rw [if_neg c7] at H
                have c7b0 : ((rd l0 x5_1) == (rd l1 x5_1)) = false := beq_eq_false_iff_ne.mpr c7
                have c7b1 : ((rd l0 x5_1) != (rd l1 x5_1)) = true := bne_iff_ne.mpr c7
                obtain rfl := Option.some.inj H
                have p101 : 0 ≤ (x5_1 : Int) := of_decide_eq_true (by first | (with_reducible assumption) | assumption)
                have q101 : x5_1 < (l0.length : Int) := of_decide_eq_true (by first | (with_reducible assumption) | assumption)
                obtain ⟨ad101, e101, hx101_0⟩ := Kd.at_int HR0.out x5_1 p101 q101
                cases e101
                replace p101 := eq_true p101
                replace q101 := eq_true q101
                have p102 : 0 ≤ (x5_1 : Int) := of_decide_eq_true (by first | (with_reducible assumption) | assumption)
                have q102 : x5_1 < (l1.length : Int) := of_decide_eq_true (by first | (with_reducible assumption) | assumption)
                obtain ⟨ad102, e102, hx102_0⟩ := Kd.at_int HR1.out x5_1 p102 q102
                cases e102
                replace p102 := eq_true p102
                replace q102 := eq_true q102
                go_wp2
                repeat (go_quiet (fail); try go_wp2)
                go_ret
                exact ⟨by first | rfl | (simp; done) | (simp [*]; done), by repeat (first | exact Drawn0.refl _ | apply Drawn0.step)⟩
            · rw [if_neg c6] at H
              exact absurd H (by simp)
          · rw [if_neg c5] at H
            exact absurd H (by simp)
        · rw [if_neg c4] at H
          have c4b0 : decide (x5_1 < (l0.length : Int)) = false := decide_eq_false c4
          clear c4
          obtain rfl := Option.some.inj H
          go_wp2
          repeat (go_quiet (fail); try go_wp2)
          go_ret
          exact ⟨by first | rfl | (simp; done) | (simp [*]; done), by repeat (first | exact Drawn0.refl _ | apply Drawn0.step)⟩
  · rw [if_neg c3] at H
    have c3b0 : ((l0.length : Int) == (l1.length : Int)) = false := beq_eq_false_iff_ne.mpr c3
    have c3b1 : ((l0.length : Int) != (l1.length : Int)) = true := bne_iff_ne.mpr c3
    have c3b2 : (l0.length == l1.length) = false := by first | simpa using c3 | (simp at c3 ⊢; omega)
    obtain rfl := Option.some.inj H
    go_enter Try.func30, Try.ntmps30
    go_wp2
    repeat (go_quiet (fail); try go_wp2)
    go_ret
    exact ⟨by first | rfl | (simp; done) | (simp [*]; done), by repeat (first | exact Drawn0.refl _ | apply Drawn0.step)⟩

end Go.Proofs.Ytmfkgbncnaingaa.QStore
end

section
/- Functions of the program as plain functions, and the walks that show it. Written by the session's own program pp.py. -/
namespace Go.Proofs.Ytmfkgbncnaingaa.QStore
open Go.RowKit Go.Proofs.Ytmfkgbncnaingaa.QRows Go.Proofs.Ytmfkgbncnaingaa.QWal Go.Proofs.YtmfkgbncnaingaaW.PrintWords Go.Proofs.YtmfkgbncnaingaaW.PrintLast Go.Proofs.YtmfkgbncnaingaaW.PrintMore
attribute [local go_sem] max2_int min2_int max_two min_two max_three min_three max_four min_four   -- for this text's walks alone
set_option linter.unusedVariables false
set_option linter.unusedSimpArgs false

/-! ### bagnallkeep_rowsBehind: function 51 -/
def bagnallkeep_rowsBehind.f (k : Nat) (l0 : List (S67)) (l1 : List (S67)) : Option ((List (S67)) × Bool) := (bagnallkeep_copiedRows.f l0).bind fun t337 => (if t337.length + l1.length < 4398046511104 then ((bagnallkeep_rowsOf.f k (t337 ++ l1)).bind fun bt343 => (some (bt343.1, bt343.2))) else (none))
theorem bagnallkeep_rowsBehind.mono : ∀ a0 a1 k, LeO (bagnallkeep_rowsBehind.f k a0 a1) (bagnallkeep_rowsBehind.f (k + 1) a0 a1) := by
  intro a0 a1 k
  unfold bagnallkeep_rowsBehind.f
  repeat' first
      | (with_reducible exact bagnallkeep_rowsOf.mono _ _)
      | (with_reducible exact LeO.refl _)
      | (with_reducible exact LeO.none _)
      | (with_reducible refine LeO.ite ?_ ?_)
      | (with_reducible refine LeO.bind ?_ (fun _ => ?_))
      | exact bagnallkeep_rowsOf.mono _ _
      | exact LeO.none _
      | refine LeO.ite ?_ ?_
      | refine LeO.bind ?_ (fun _ => ?_)
set_option maxHeartbeats 8000000 in
set_option maxRecDepth 100000 in
theorem bagnallkeep_rowsBehind.calls (k : Nat) (A0 : Option Addr) (c0 : Nat) (l0 : List (S67)) (A1 : Option Addr) (c1 : Nat) (l1 : List (S67)) (r1 : List (S67)) (r2 : Bool) (w : World) (hr0 : Kd.C k67 w A0 l0.length l0) (hc0 : l0.length ≤ c0) (hr1 : Kd.C k67 w A1 l1.length l1) (hc1 : l1.length ≤ c1) (h : bagnallkeep_rowsBehind.f k l0 l1 = some (r1, r2)) :
    Calls Try.prog 51 #[.slice A0 l0.length c0, .slice A1 l1.length c1] w fun e w' => ∃ v0_ : Value, e = .returned (.tuple #[v0_, .bool r2]) ∧ Kd.R k67 67 w' w.heap.size (fun _ => True) v0_ r1 ∧ Below w.heap.size w w' := by
  have HR0 := Aside0.mk hr0
  have HC0 := Aside0.mk hc0
  clear hr0 hc0
  have HR1 := Aside0.mk hr1
  have HC1 := Aside0.mk hc1
  clear hr1 hc1
  have HB := Aside0.mk (Below.refl w.heap.size w)
  have H : ((bagnallkeep_copiedRows.f l0).bind fun t337 => (if t337.length + l1.length < 4398046511104 then ((bagnallkeep_rowsOf.f k (t337 ++ l1)).bind fun bt343 => (some (bt343.1, bt343.2))) else (none))) = some (r1, r2) := h
  clear h
  replace H := Option.bind_eq_some_iff.mp H
  obtain ⟨t337, A30, H⟩ := H
  replace H : (if t337.length + l1.length < 4398046511104 then ((bagnallkeep_rowsOf.f k (t337 ++ l1)).bind fun bt343 => (some (bt343.1, bt343.2))) else (none)) = some (r1, r2) := H
  have A3 := Aside0.mk A30
  clear A30
  by_cases c4 : t337.length + l1.length < 4398046511104
  · rw [if_pos c4] at H
    have LMc4 := Aside0.mk c4
    clear c4
    obtain ⟨y340, hy340⟩ : ∃ y_ : List (S67), y_ = (t337 ++ l1) := ⟨_, rfl⟩
    replace H : ((bagnallkeep_rowsOf.f k y340).bind fun bt343 => (some (bt343.1, bt343.2))) = some (r1, r2) := by first | (rw [hy340]; with_reducible exact H) | (have H2_ := (Option.bind_some _ _).symm.trans H; rw [hy340]; with_reducible exact H2_) | (have H2_ := (Option.bind_some _ _).symm.trans H; with_reducible exact H2_) | with_reducible exact H | (rw [hy340]; exact H) | exact H
    have Ny340 := Aside0.mk hy340
    clear hy340
    replace H := Option.bind_eq_some_iff.mp H
    obtain ⟨⟨t343, t344⟩, A50, H⟩ := H
    replace H : (some (t343, t344)) = some (r1, r2) := H
    have A5 := Aside0.mk A50
    clear A50
    simp only [Option.some.injEq, Prod.mk.injEq] at H
    obtain ⟨rfl, rfl⟩ := H
    go_enter Try.func51, Try.ntmps51
    go_wp2_with (first | ((with_reducible refine gate_callee (f := 42) rfl ?_); refine goesL_ (some 10) rfl rfl Try.func42 (by kernel_rfl) rfl #[.slice A0 l0.length c0] rfl (by (try simp only [List.map_toArray, List.map_cons, List.map_nil]); first | done | rfl | (simp only [List.length_drop, List.length_take]; rfl)) ?_; (with_reducible refine (bagnallkeep_copiedRows.calls _ _ l0 t337 _ ?side1 ?side2 A3.out).mono ?_); (case side1 => repeat (first | exact HR0.out | (with_reducible refine Kd.C_alloc ?_ _) | (with_reducible refine Kd.C_drewN ?_ _) | (with_reducible refine Kd.C_drew ?_))); (case side2 => exact HC0.out); rintro e w6 ⟨v338, rfl, ho0, hb⟩; refine ⟨_, rfl, ?_⟩; have n0_ := Aside0.mk (Kd.R_lower ho0 (below_size (by repeat (first | (with_reducible first | exact HB.out | apply below_alloc | apply pw_below_drewN | apply below_drew1) | exact HB.out)))); have n1_ := Aside0.mk (below_step (by repeat (first | (with_reducible first | exact HB.out | apply below_alloc | apply pw_below_drewN | apply below_drew1) | exact HB.out)) hb); clear HB; have HO339 := n0_; have HB := n1_; clear n0_ n1_; (try clear hb); (try clear hb2); (try clear hk); (try clear hi); (try clear ho0)) | ((with_reducible refine gate_builtin (b := .append) (xs := #[.tmp 10, .tmp 11]) rfl ?_); at_builtin; refine Kd.R_append_rows k67 (w0 := w) w.heap.size rfl (.tmp 10) (.tmp 11) 58 67 (.agg #[(.string ⟨#[]⟩), (.string ⟨#[]⟩)]) 32 rfl Try.underlying58 info67 rfl (by decide) (by omega) v338 t337 l1 _ _ _ (fun _ => True) (fun _ => False) rfl rfl ?aO ?aR (fun _ _ h => h) (fun _ h => h.elim) ?aF ?aB ?aS ?aL ?_; (case aR => repeat (first | exact (Kd.C_below HR1.out HB.out) | (with_reducible refine Kd.C_alloc ?_ _) | (with_reducible refine Kd.C_drewN ?_ _) | (with_reducible refine Kd.C_drew ?_))); (case aB => exact (by repeat (first | (with_reducible first | exact HB.out | apply below_alloc | apply pw_below_drewN | apply below_drew1) | exact HB.out))); (case aF => exact (fun _ _ => trivial)); (case aO => exact (by (with_reducible repeat (first | apply Kd.R_alloc | apply Kd.R_drewN | apply Kd.R_drew)); exact HO339.out)); (case aS => exact (below_size (by repeat (first | (with_reducible first | exact HB.out | apply below_alloc | apply pw_below_drewN | apply below_drew1) | exact HB.out)))); (case aL => have := LMc4.out; omega); intro v341 w7 ho hb hg hat; rw [← Ny340.out] at ho; have n0_ := Aside0.mk (hb); have n1_ := Aside0.mk (ho); clear HB; clear HO339; have HB := n0_; have HO342 := n1_; clear n0_ n1_; clear ho hb hg hat; obtain ⟨Ao8, co8, eo8⟩ := Kd.R_slice HO342.out; subst eo8) | ((with_reducible refine gate_callee (f := 40) rfl ?_); refine goesL_ (some 13) rfl rfl Try.func40 (by kernel_rfl) rfl #[.slice Ao8 y340.length co8] rfl (by (try simp only [List.map_toArray, List.map_cons, List.map_nil]); first | done | rfl | (simp only [List.length_drop, List.length_take]; rfl)) ?_; (with_reducible refine (bagnallkeep_rowsOf.calls k _ _ y340 t343 t344 _ ?side1 ?side2 A5.out).mono ?_); (case side1 => repeat (first | exact (Kd.R_reads' HO342.out).2.2 | (with_reducible refine Kd.C_alloc ?_ _) | (with_reducible refine Kd.C_drewN ?_ _) | (with_reducible refine Kd.C_drew ?_))); (case side2 => exact (Kd.R_reads' HO342.out).2.1); rintro e w9 ⟨v345, rfl, ho0, hb⟩; refine ⟨_, rfl, ?_⟩; have n0_ := Aside0.mk (Kd.R_elder' (by (with_reducible repeat (first | apply Kd.R_alloc | apply Kd.R_drewN | apply Kd.R_drew)); exact HO342.out) (Kd.R_base ho0) hb); have n1_ := Aside0.mk (Kd.R_lower (Kd.R_new' ho0 (Kd.R_lt (by (with_reducible repeat (first | apply Kd.R_alloc | apply Kd.R_drewN | apply Kd.R_drew)); exact HO342.out))) (below_size (by repeat (first | (with_reducible first | exact HB.out | apply below_alloc | apply pw_below_drewN | apply below_drew1) | exact HB.out)))); have n2_ := Aside0.mk (below_step (by repeat (first | (with_reducible first | exact HB.out | apply below_alloc | apply pw_below_drewN | apply below_drew1) | exact HB.out)) hb); clear HO342; clear HB; have HO342 := n0_; have HO346 := n1_; have HB := n2_; clear n0_ n1_ n2_; (try clear hb); (try clear hb2); (try clear hk); (try clear hi); (try clear ho0)))
    go_ret2
    exact ⟨_, by first | rfl | (simp [errW_none, errW_some] <;> rfl) | (simp [*, errW_none, errW_some] <;> rfl), by (with_reducible repeat (first | apply Kd.R_alloc | apply Kd.R_drewN | apply Kd.R_drew)); exact Kd.R_mono HO346.out (fun _ hk => trivial), by repeat (first | (with_reducible first | exact HB.out | apply below_alloc | apply pw_below_drewN | apply below_drew1) | exact HB.out)⟩
  · rw [if_neg c4] at H
    exact absurd H (by simp)

-- NOT PRINTED: function 23 (bagnallkeep_StoreThere)

end Go.Proofs.Ytmfkgbncnaingaa.QStore
end

section
/- What the helpers of the store's laws come to, in plain words. -/
namespace Go.Proofs.Ytmfkgbncnaingaa.Sto
open Go.Proofs.Ytmfkgbncnaingaa.QStore Go.Proofs.Ytmfkgbncnaingaa.NextMath
open Go.RowKit Go.Proofs.Ytmfkgbncnaingaa.Reg Go.Proofs.Ytmfkgbncnaingaa.QRows Go.Proofs.Ytmfkgbncnaingaa.Rows Go.Proofs.Ytmfkgbncnaingaa.Wal Go.Proofs.YtmfkgbncnaingaaW.PrintWords Go.Proofs.YtmfkgbncnaingaaW.PrintLast Go.Proofs.YtmfkgbncnaingaaW.PrintMore
set_option linter.unusedVariables false
set_option linter.unusedSimpArgs false

/-- A slice that reads as xs. -/
def Gets {α : Type} (d : Kd α) (w : World) (v : Value) (xs : List α) : Prop := ∃ A c, v = .slice A xs.length c ∧ xs.length ≤ c ∧ Kd.C d w A xs.length xs
theorem Gets.below {α : Type} {d : Kd α} {w w' : World} {v : Value} {xs : List α} (h : Gets d w v xs) (hb : Below w.heap.size w w') : Gets d w' v xs := by
  obtain ⟨A, c, h1, h2, h3⟩ := h; exact ⟨A, c, h1, h2, Kd.C_below h3 hb⟩
theorem gets_R {α : Type} {d : Kd α} {e base : Nat} {ok : Nat → Prop} {w : World} {v : Value} {xs : List α} (h : d.R e w base ok v xs) : Gets d w v xs := by
  obtain ⟨A, c, h1, h2, h3⟩ := Kd.R_reads h; exact ⟨A, c, h1, h2, h3⟩

/-! ### What acts come to -/
theorem playS_append (a b : List S83) : ∀ Ls, playS (a ++ b) Ls = ((playS a Ls).1 ++ (playS b (playS a Ls).2).1, (playS b (playS a Ls).2).2) := by
  induction a with
  | nil => intro Ls; simp [playS]
  | cons x a ih => intro Ls; simp only [List.cons_append, playS, ih]
theorem playS_length (a : List S83) : ∀ Ls, (playS a Ls).1.length = a.length := by
  induction a with
  | nil => intro Ls; rfl
  | cons x a ih => intro Ls; simp only [playS, List.length_cons, ih]
theorem LI.playS {Ls : List (List S67)} (a : List S83) : ∀ {Ls : List (List S67)}, LI Ls → LI (Sto.playS a Ls).2 := by
  induction a with
  | nil => intro Ls h; exact h
  | cons x a ih => intro Ls h; simp only [Sto.playS]; exact ih (h.doS x)
theorem playS_one (x : S83) (Ls : List (List S67)) : playS [x] Ls = ([(doS x Ls).1], (doS x Ls).2) := rfl
/-- The file behind acts. -/
def logOf (l : List S83) : List (List S67) := (playS l []).2
def toldOf (l : List S83) : List S81 := (playS l []).1
theorem logOf_snoc (l : List S83) (x : S83) : logOf (l ++ [x]) = (doS x (logOf l)).2 := by unfold logOf; rw [playS_append]; rfl
theorem toldOf_snoc (l : List S83) (x : S83) : toldOf (l ++ [x]) = toldOf l ++ [(doS x (logOf l)).1] := by unfold toldOf; rw [playS_append]; rfl
theorem toldOf_length (l : List S83) : (toldOf l).length = l.length := playS_length l []
theorem LI.log (l : List S83) : LI (logOf l) := LI.playS (Ls := []) l LI.nil

theorem begin_all (T : List S67) : beginOf T ⟨#[]⟩ = T := by
  unfold beginOf
  refine List.filter_eq_self.2 fun x _ => ?_
  have h1 : (nextS (⟨#[]⟩ : ByteArray).data.toList).getD [] = [] := rfl
  rw [h1]
  unfold inB
  have h2 : (⟨#[]⟩ : ByteArray).toList = [] := by decide +kernel
  have h3 : Op.bytesLess x.f0.toList [] = false := by cases x.f0.toList <;> rfl
  rw [h2, h3]; rfl
def actAll : S83 := ⟨3, [], ⟨#[]⟩, 0⟩
theorem do_all (Ls : List (List S67)) : doS actAll Ls = (⟨0, tableOf Ls⟩, Ls) := by
  unfold doS actAll
  rw [if_neg (by decide), if_neg (by decide), if_pos rfl]
  dsimp only
  rw [begin_all]

/-- Acts that Play takes. -/
def Short (l : List S83) : Prop := l.length ≤ 100 ∧ ∀ m ∈ l, m.f2.size ≤ 140737488351232
theorem Short.snoc {l : List S83} {x : S83} (h : Short l) (hl : l.length ≤ 99) (hx : x.f2.size ≤ 140737488351232) : Short (l ++ [x]) :=
  ⟨by simp; omega, fun m hm => by rcases List.mem_append.1 hm with hm | hm; exact h.2 m hm; rw [List.mem_singleton.1 hm]; exact hx⟩
theorem act_size (x : S114) : (actOf x).f2.size ≤ 1000 := by
  have h1 : ∀ p, (keyTab.getD p ⟨#[]⟩).size ≤ 1000 := fun p => by
    by_cases h : p < 8
    · match p, h with
      | 0, _ | 1, _ | 2, _ | 3, _ | 4, _ | 5, _ | 6, _ | 7, _ => decide
    · rw [Array.getD, dif_neg (by show ¬ p < 8; omega)]; decide
  have h2 : ∀ p, (tab3.getD p ⟨#[]⟩).size ≤ 1000 := fun p => by
    by_cases h : p < 3
    · match p, h with
      | 0, _ | 1, _ | 2, _ => decide
    · rw [Array.getD, dif_neg (by show ¬ p < 3; omega)]; decide
  unfold actOf
  split
  · exact h1 _
  · split
    · exact h2 _
    · split
      · decide
      · split <;> exact Nat.zero_le _
theorem Short.acts (l : List S114) (n : Int) (hn : n ≤ 100) : Short (actsOf l n) := by
  unfold actsOf
  refine ⟨by rw [List.length_map, List.length_take]; omega, fun m hm => ?_⟩
  obtain ⟨x, _, rfl⟩ := List.mem_map.1 hm
  exact Nat.le_trans (act_size x) (by decide)
theorem Short.sub {l m : List S83} (h : Short l) (hs : m.Sublist l) : Short m := ⟨Nat.le_trans hs.length_le h.1, fun x hx => h.2 x (hs.subset hx)⟩

theorem stored_ok (A0 : Option Addr) (c0 : Nat) (l : List S83) (w : World) (hr0 : Kd.C k83 w A0 l.length l) (hc : l.length ≤ c0) (hs : Short l) :
    Calls Try.prog 48 #[.slice A0 l.length c0] w fun e w' => ∃ A1 c1 A2 c2, e = .returned (.tuple #[.slice A1 l.length c1, .slice A2 (bytesOfLog (logOf l)).length c2, .bool true]) ∧ l.length ≤ c1 ∧ Kd.C k81 w' A1 (toldOf l).length (toldOf l) ∧ (bytesOfLog (logOf l)).length ≤ c2 ∧ Kd.C (Kd.int .u8) w' A2 (bytesOfLog (logOf l)).length (bytesOfLog (logOf l)) ∧ Below w.heap.size w w' := by
  have h1 : bagnallkeep_stored.f l = some (toldOf l, bytesOfLog (logOf l), true) := by
    unfold bagnallkeep_stored.f store_Play.f told
    rw [if_pos (by have := hs.1; omega), if_neg (by have := hs.1; omega), if_pos ((short_iff l).2 hs.2), Option.bind_some]
    dsimp only
    rw [playS_length, decide_eq_true rfl]; rfl
  refine (bagnallkeep_stored.calls A0 c0 l _ _ _ w hr0 hc h1).mono ?_
  rintro e w' ⟨v0, v1, rfl, h0, h2, hb⟩
  obtain ⟨A1, c1, rfl, k1, g1⟩ := Kd.R_reads (Kd.S_R h0)
  obtain ⟨A2, c2, rfl, k2, g2⟩ := Kd.R_reads h2
  exact ⟨A1, c1, A2, c2, by rw [toldOf_length], by rw [toldOf_length] at k1; exact k1, g1, k2, g2, hb⟩

end Go.Proofs.Ytmfkgbncnaingaa.Sto
end

section
/- What bagnallkeep.allRows comes to. -/
namespace Go.Proofs.Ytmfkgbncnaingaa.Sto
open Go.Proofs.Ytmfkgbncnaingaa.QStore (S81 S83 S114 k81 k83 k114 k83_mk k83_mkM k83_mkF k83_open rd_T83 rd_T81 rd_T114 at_T83 at_T81 at_T114 info83)
open Go.RowKit Go.Proofs.Ytmfkgbncnaingaa.Reg Go.Proofs.Ytmfkgbncnaingaa.QRows Go.Proofs.Ytmfkgbncnaingaa.Rows Go.Proofs.Ytmfkgbncnaingaa.Wal Go.Proofs.YtmfkgbncnaingaaW.PrintWords Go.Proofs.YtmfkgbncnaingaaW.PrintLast Go.Proofs.YtmfkgbncnaingaaW.PrintMore
set_option linter.unusedVariables false
set_option linter.unusedSimpArgs false
set_option maxRecDepth 100000 in
set_option maxHeartbeats 8000000 in
theorem all_ok (A0 : Option Addr) (c0 : Nat) (l : List S83) (w : World) (hr0 : Kd.C k83 w A0 l.length l) (hc : l.length ≤ c0) (hs : Short l) (hl : l.length ≤ 99) :
    Calls Try.prog 49 #[.slice A0 l.length c0] w fun e w' => ∃ A1 c1, e = .returned (.tuple #[.slice A1 (tableOf (logOf l)).length c1, .bool true]) ∧ (tableOf (logOf l)).length ≤ c1 ∧ Kd.C k67 w' A1 (tableOf (logOf l)).length (tableOf (logOf l)) ∧ Below w.heap.size w w' := by
  have hu83 := Try.underlying83
  have HF := Aside0.mk (Kd.C_F heap83 hr0)
  have HL := Aside0.mk hl
  have HS0 := hs.snoc hl (x := actAll) (by decide)
  have HT0 : rd_T81 (toldOf (l ++ [actAll])) (l.length : Int) = ⟨0, tableOf (logOf l)⟩ := by
    rw [toldOf_snoc, do_all]; unfold rd_T81
    rw [Int.toNat_natCast, List.getD_eq_getElem?_getD, List.getElem?_append_right (by rw [toldOf_length]; exact Nat.le_refl _), toldOf_length, Nat.sub_self]; rfl
  have hml : (l ++ [actAll]).length = l.length + 1 := by simp
  obtain ⟨m, hm⟩ : ∃ m, m = l ++ [actAll] := ⟨_, rfl⟩
  rw [← hm] at HS0 HT0 hml
  have HM := Aside0.mk hm
  obtain ⟨T, hT⟩ : ∃ T, T = tableOf (logOf l) := ⟨_, rfl⟩
  rw [← hT] at HT0 ⊢
  have HT := Aside0.mk HT0
  have HS := fun A c w h hc => Aside0.mk (stored_ok A c m w h hc HS0)
  have hw : IntKind.i64.wrap ((m.length : Int) - 1) = (l.length : Int) := by rw [IntKind.wrap_i64]; omega
  have hb1 : (0 : Int) ≤ (l.length : Int) := by omega
  have hb2 : (l.length : Int) < (m.length : Int) := by omega
  have HLen := Aside0.mk hml
  clear hr0 hl hs HS0 HT0 hm hT hml
  go_enter Try.func49, Try.ntmps49
  go_wp2_with (first
    | ((with_reducible refine gate_builtin (b := .append) (xs := #[.const _, .tmp 8]) rfl ?_); at_builtin; refine Kd.N_append_rows k83 (w0 := w) w.heap.size rfl (.const (.slice none 0 0)) (.tmp 8) 75 83 (.agg #[(.int .i64 0), (.slice none 0 0), (.string ⟨#[]⟩), (.int .i64 0)]) 56 rfl Try.underlying75 info83 rfl (by decide) (by omega) (.slice none 0 0) ([] : List (S83)) l _ _ _ (fun k_ => True) (fun k_ => k_ < w.heap.size) rfl rfl (Kd.N_nil _ _ _ _ _) HF.out (fun k_ hk => ⟨trivial, by simp [Value.ownBlock]⟩) (fun _ _ => trivial) (Below.refl _ _) (Nat.le_refl _) (by have := HL.out; simp; omega) ?_; intro v1 w1 ho hb _ _; obtain ⟨A1, c1, rfl⟩ := Kd.N_slice ho; have HN := Aside0.mk ho; have HB1 := Aside0.mk hb; clear ho hb)
    | ((with_reducible refine gate_builtin (b := .append) (xs := #[.tmp 9, .tmp 11]) rfl ?_); at_builtin; refine Kd.N_append k83 (w0 := w) w.heap.size rfl (.tmp 9) (.tmp 11) 75 83 (.agg #[(.int .i64 0), (.slice none 0 0), (.string ⟨#[]⟩), (.int .i64 0)]) 56 rfl Try.underlying75 info83 rfl (by decide) (by omega) _ l actAll [.int .i64 3, .slice none 0 0, .string (⟨#[]⟩ : ByteArray), .int .i64 0] (fun _ => True) (fun _ => False) rfl (by first | (go_simp; done) | (go_simp; rfl)) (k83_mkF _ _ actAll (Nat.le_refl _) (Kd.F_nil _ _ _)) (fun _ h => h.elim) (fun _ _ => trivial) HN.out HB1.out HB1.out.size (by have := HL.out; omega) ?_; intro v2 w2 ho hb _ _; rw [← HM.out] at ho; obtain ⟨A2, c2, rfl⟩ := Kd.N_slice ho; have HN2 := Aside0.mk ho; have HB2 := Aside0.mk hb; clear ho hb)
    | (go_at_call 48; refine (HS _ _ _ (Kd.N_reads' HN2.out).2.2 (Kd.N_reads' HN2.out).2.1).out.mono ?_; rintro e w3 ⟨A3, c3, A4, c4, rfl, _, hC, _, _, hb⟩; obtain ⟨ad, A6, c6, rfl, hx0, hx1, hl6, hC6⟩ := at_T81 hC (l.length : Int) hb1 (by rw [toldOf_length]; exact hb2); rw [HT.out, Int.toNat_natCast] at hx1; rw [HT.out] at hl6 hC6; dsimp only at hx1 hl6 hC6; have HC6 := Aside0.mk (And.intro hl6 hC6); have HB3 := Aside0.mk (HB2.out.trans (hb.mono HB2.out.size)); clear hC hb hx0 hl6 hC6))
  go_ret2
  exact ⟨A6, c6, rfl, HC6.out.1, HC6.out.2, HB3.out⟩

open Go.Proofs.Ytmfkgbncnaingaa.QStore in
theorem behind_ok (A0 A1 : Option Addr) (c0 c1 : Nat) (T cs : List S67) (w : World) (h0 : Kd.C k67 w A0 T.length T) (k0 : T.length ≤ c0) (h1 : Kd.C k67 w A1 cs.length cs) (k1 : cs.length ≤ c1) (hT : Rows.Good T) (hc : ∀ c ∈ cs, Small c) (hn : T.length + cs.length ≤ 60) (hl : (changed T cs).length ≤ 40) :
    Calls Try.prog 51 #[.slice A0 T.length c0, .slice A1 cs.length c1] w fun e w' => ∃ A2 c2, e = .returned (.tuple #[.slice A2 (changed T cs).length c2, .bool true]) ∧ (changed T cs).length ≤ c2 ∧ Kd.C k67 w' A2 (changed T cs).length (changed T cs) ∧ Below w.heap.size w w' := by
  have hz : changed [] (T ++ cs) = changed T cs := by
    show List.foldl change [] (T ++ cs) = _
    rw [List.foldl_append]
    show changed (changed [] T) cs = _
    rw [table_self hT]
  have h2 : bagnallkeep_rowsBehind.f 81 T cs = some (changed T cs, true) := by
    unfold bagnallkeep_rowsBehind.f
    rw [copied_is T (by omega), Option.bind_some, if_pos (by omega), rowsOf_ok (cs := T ++ cs) (fun c hx => by
      rcases List.mem_append.1 hx with hx | hx
      · exact wr_small (fine_wr (hT.fine c hx))
      · exact hc c hx) (by rw [List.length_append]; exact hn) (by rw [hz]; exact hl) (Nat.le_refl _), Option.bind_some, hz]
  refine (bagnallkeep_rowsBehind.calls 81 A0 c0 T A1 c1 cs _ _ w h0 k0 h1 k1 h2).mono ?_
  rintro e w' ⟨v, rfl, hr, hb⟩
  obtain ⟨A2, c2, rfl, k2, g2⟩ := Kd.R_reads hr
  exact ⟨A2, c2, rfl, k2, g2, hb⟩

theorem bytes_eq {a b : ByteArray} : (a.toList == b.toList) = decide (a = b) := by
  by_cases h : a = b
  · subst h; simp
  · have h2 : a.toList ≠ b.toList := fun e => h (by
      rw [ByteArray.toList_eq, ByteArray.toList_eq] at e
      cases a; cases b; simp at e; subst e; rfl)
    rw [decide_eq_false h]
    exact beq_eq_false_iff_ne.2 h2
deriving instance DecidableEq for QRows.S67
theorem row_eq (x y : S67) : (!(x.f0.toList == y.f0.toList) || !(x.f1.toList == y.f1.toList)) = !decide (x = y) := by
  rw [bytes_eq, bytes_eq]
  obtain ⟨a, b⟩ := x; obtain ⟨c, d⟩ := y
  by_cases h1 : a = c <;> by_cases h2 : b = d <;> simp [h1, h2]
theorem same_loop2 (a b : List S67) (hl : a.length = b.length) (hm : a.length ≤ 1000000) : ∀ (d i : Nat), i + d = a.length → a.take i = b.take i → bagnallkeep_sameRows.l0 (d + 1) a b (i : Int) = some (decide (a = b)) := by
  intro d
  induction d with
  | zero =>
    intro i hi ht
    rw [bagnallkeep_sameRows.l0, if_neg (by omega)]
    rw [List.take_of_length_le (by omega), List.take_of_length_le (by omega)] at ht
    rw [decide_eq_true ht]
  | succ d ih =>
    intro i hi ht
    have hia : i < a.length := by omega
    have hib : i < b.length := by omega
    have ea : rd_T67 a (i : Int) = a[i] := by unfold rd_T67; simp [List.getD_eq_getElem?_getD, hia]
    have eb : rd_T67 b (i : Int) = b[i] := by unfold rd_T67; simp [List.getD_eq_getElem?_getD, hib]
    rw [bagnallkeep_sameRows.l0, if_pos (by omega), if_pos (by omega), if_pos (by omega), row_eq, ea, eb]
    by_cases he : a[i] = b[i]
    · rw [decide_eq_true he, if_neg (by decide), show wrap64 ((i : Int) + 1) = ((i + 1 : Nat) : Int) by unfold wrap64; omega]
      exact ih (i + 1) (by omega) (by rw [List.take_succ_eq_append_getElem hia, List.take_succ_eq_append_getElem hib, ht, he])
    · rw [decide_eq_false he, if_pos (by decide), decide_eq_false (fun e => he (by subst e; rfl))]
theorem same_is (a b : List S67) (hm : a.length ≤ 1000000) : bagnallkeep_sameRows.f (a.length + 1) a b = some (decide (a = b)) := by
  unfold bagnallkeep_sameRows.f
  by_cases hl : a.length = b.length
  · rw [if_pos (by omega)]
    exact same_loop2 a b hl hm a.length 0 (by omega) (by simp)
  · rw [if_neg (by omega), decide_eq_false (fun e => hl (by rw [e]))]
theorem same_rows (A0 A1 : Option Addr) (c0 c1 : Nat) (a b : List S67) (w : World) (h0 : Kd.C k67 w A0 a.length a) (k0 : a.length ≤ c0) (h1 : Kd.C k67 w A1 b.length b) (k1 : b.length ≤ c1) (hm : a.length ≤ 1000000) :
    Calls Try.prog 43 #[.slice A0 a.length c0, .slice A1 b.length c1] w fun e w' => e = .returned (.bool (decide (a = b))) ∧ Below w.heap.size w w' :=
  (bagnallkeep_sameRows.calls (a.length + 1) A0 c0 a A1 c1 b _ w h0 k0 h1 k1 (same_is a b hm)).mono fun e w' ⟨he, hd⟩ => ⟨he, by obtain ⟨m, rfl⟩ := hd; exact pw_below_drewN (Below.refl _ _) m⟩
open Go.Proofs.Ytmfkgbncnaingaa.QStore in
theorem sameB_loop (a : List Int) (hl : a.length ≤ 1000000) : ∀ (d i : Nat), i + d = a.length → bagnallkeep_sameBytes.l0 (d + 1) a a (i : Int) = some true := by
  intro d
  induction d with
  | zero => intro i hi; rw [bagnallkeep_sameBytes.l0, if_neg (by omega)]
  | succ d ih =>
    intro i hi
    rw [bagnallkeep_sameBytes.l0, if_pos (by omega), if_pos (by omega), if_pos (by omega), if_pos rfl, show wrap64 ((i : Int) + 1) = ((i + 1 : Nat) : Int) by unfold wrap64; omega]
    exact ih (i + 1) (by omega)
open Go.Proofs.Ytmfkgbncnaingaa.QStore in
theorem same_bytes (A0 A1 : Option Addr) (c0 c1 : Nat) (a : List Int) (w : World) (h0 : Kd.C (Kd.int .u8) w A0 a.length a) (k0 : a.length ≤ c0) (h1 : Kd.C (Kd.int .u8) w A1 a.length a) (k1 : a.length ≤ c1) (hm : a.length ≤ 1000000) :
    Calls Try.prog 30 #[.slice A0 a.length c0, .slice A1 a.length c1] w fun e w' => e = .returned (.bool true) ∧ Below w.heap.size w w' := by
  have h2 : bagnallkeep_sameBytes.f (a.length + 1) a a = some true := by
    unfold bagnallkeep_sameBytes.f
    rw [if_pos rfl]
    exact sameB_loop a hm a.length 0 (by omega)
  exact (bagnallkeep_sameBytes.calls (a.length + 1) A0 c0 a A1 c1 a _ w h0 k0 h1 k1 h2).mono fun e w' ⟨he, hd⟩ => ⟨he, by obtain ⟨m, rfl⟩ := hd; exact pw_below_drewN (Below.refl _ _) m⟩
theorem recover_ok (A0 : Option Addr) (c0 : Nat) (Ls : List (List S67)) (w : World) (h : LI Ls) (hr : Kd.C (Kd.int .u8) w A0 (bytesOfLog Ls).length (bytesOfLog Ls)) (hc : (bytesOfLog Ls).length ≤ c0) :
    Calls Try.prog 50 #[.slice A0 (bytesOfLog Ls).length c0] w fun e w' => ∃ A1 c1, e = .returned (.tuple #[.slice A1 (tableOf Ls).length c1, .int .i64 ((bytesOfLog Ls).length : Int), .int .i64 0]) ∧ (tableOf Ls).length ≤ c1 ∧ Kd.C k67 w' A1 (tableOf Ls).length (tableOf Ls) ∧ Below w.heap.size w w' := by
  refine (QStore.store_Recover.calls A0 c0 _ _ _ _ w hr hc (QStore.Recover_is (Ls := Ls) ⟨h.disk, h.bytes, by rw [h.read], h.logs⟩)).mono ?_
  rintro e w' ⟨v, rfl, hr, hb⟩
  obtain ⟨A2, c2, rfl, k2, g2⟩ := Kd.R_reads hr
  exact ⟨A2, c2, by rw [h.read], k2, g2, hb⟩

end Go.Proofs.Ytmfkgbncnaingaa.Sto
end

section
/- An argument of the laws: a slice of wishes, each with a slice of numbers. -/
namespace Go.Proofs.Ytmfkgbncnaingaa.Sto
open Go.Proofs.Ytmfkgbncnaingaa.QStore (S114 k114 k114_mk)
open Go.RowKit Go.Deep Go.ChangeShapes Go.WideShapes Go.Proofs.YtmfkgbncnaingaaW.PrintWords Go.Proofs.YtmfkgbncnaingaaW.PrintLast Go.Proofs.YtmfkgbncnaingaaW.PrintMore
set_option linter.unusedVariables false

section
variable {H : Type} {enc : TypeId × Value → H} {w : World} {base : Nat} {held : Bool}
/-- A slice of numbers, as it reads. -/
theorem numbers {fuel : Nat} {v : Value} {x : DataW H × List MemPlace} (h : DataW.trod enc Try.prog w base (fun _ => true) held fuel 24 [v] = some x) :
    ∃ A n c zs, v = .slice A n c ∧ zs.length = n ∧ n ≤ c ∧ Kd.C (Kd.int .i64) w A n zs := by
  rcases open_ints Try.underlying24 Try.underlying3 (by kernel_rfl) h with ⟨hcs, _⟩ | ⟨a, len, cap, zs, hcs, _, hl, hm, hz, _, hcell, hwz⟩
  · simp at hcs
    exact ⟨none, 0, 0, [], hcs, rfl, Nat.le_refl _, Kd.C_nil _ _⟩
  · simp at hcs hz
    unfold maxLen at hm
    refine ⟨some a, len, cap, zs.take len, hcs, by rw [List.length_take]; omega, hl, by rw [List.length_take]; omega, by omega, fun _ => ⟨a, rfl, fun j p hj => ?_⟩⟩
    obtain ⟨hjl, hp⟩ := List.getElem?_eq_some_iff.1 hj
    rw [List.length_take] at hjl
    refine ⟨[.int .i64 p], rfl, rfl, fun k u hk => ?_⟩
    match k, hk with
    | 0, hk =>
      simp at hk
      subst hk
      rw [show j * (Kd.int .i64).sz + 0 = j by show j * 1 + 0 = j; omega, hcell j (by omega), ← hp, List.getElem_take]
      simp [List.getD_eq_getElem?_getD, show j < zs.length by omega]
    | k + 1, hk => simp at hk
set_option maxRecDepth 100000 in
/-- One wish's cells. -/
theorem wish {fuel : Nat} {cs : List Value} {x : DataW H × List MemPlace} (h : DataW.trod enc Try.prog w base (fun _ => true) held fuel 114 cs = some x) : ∃ p : S114, k114.K w p cs := by
  obtain ⟨ys, n, _, _, hcl, hyl, hf⟩ := DataW.trod_struct Try.underlying114 h
  have hc3 : Try.prog.cellsOf 114 = 3 := by kernel_rfl
  have c3 : Try.prog.cellsOf 3 = 1 := by kernel_rfl
  have c24 : Try.prog.cellsOf 24 = 1 := by kernel_rfl
  rw [hc3] at hcl
  have hyl3 : ys.length = 3 := hyl
  clear hyl
  match cs, hcl, ys, hyl3 with
  | [v0, v1, v2], _, [y0, y1, y2], _ =>
    have h0 := hf 0 _ rfl
    have h1 := hf 1 _ rfl
    have h2 := hf 2 _ rfl
    simp [c3, c24] at h0 h1 h2
    obtain ⟨n0, e0, _⟩ := DataW.trod_int Try.underlying3 h0
    obtain ⟨n2, e2, _⟩ := DataW.trod_int Try.underlying3 h2
    obtain ⟨A, n1, c, zs, e1, hz, hl, hC⟩ := numbers h1
    simp at e0 e2
    subst e0 e2 e1 hz
    exact ⟨⟨n0, zs, n2⟩, k114_mk w ⟨n0, zs, n2⟩ hl hC⟩
theorem wishes {fuel : Nat} {A : Option Addr} {n c : Nat} {x : DataW H × List MemPlace} (h : DataW.trod enc Try.prog w base (fun _ => true) held fuel 74 [.slice A n c] = some x) :
    ∃ zs : List S114, zs.length = n ∧ n ≤ c ∧ Kd.C k114 w A n zs := by
  rcases open_slice Try.underlying74 h with ⟨hcs, _⟩ | ⟨a, len, cap, m, k, D, Pl, hcs, _, hl, hm, hmm, _, hi⟩
  · simp at hcs
    obtain ⟨rfl, rfl, rfl⟩ := hcs
    exact ⟨[], rfl, Nat.le_refl _, Kd.C_nil _ _⟩
  · simp at hcs
    obtain ⟨rfl, rfl, rfl⟩ := hcs
    simp at hmm
    subst hmm
    unfold maxLen at hm
    have hc3 : Try.prog.cellsOf 114 = 3 := by kernel_rfl
    rw [hc3] at hi
    have h2 : ∀ i, i < n → ∃ p : S114, ∃ cs, cs.length = 3 ∧ k114.K w p cs ∧ ∀ j u, cs[j]? = some u → w.cell? (a.add (i * 3 + j)) = some u := fun i him => by
      obtain ⟨cs, hc, ht⟩ := hi i (by omega)
      obtain ⟨_, hcl, hat⟩ := World.cells?_some hc
      obtain ⟨p, hK⟩ := wish ht
      refine ⟨p, cs, hcl, hK, fun j u hj => ?_⟩
      obtain ⟨hj3, _⟩ := List.getElem?_eq_some_iff.1 hj
      rw [← Go.Deep.add_add, hat j (by omega), hj]
    obtain ⟨f, hf⟩ : ∃ f : Nat → S114, ∀ i, i < n → ∃ cs, cs.length = 3 ∧ k114.K w (f i) cs ∧ ∀ j u, cs[j]? = some u → w.cell? (a.add (i * 3 + j)) = some u := by
      haveI : Inhabited S114 := ⟨⟨0, [], 0⟩⟩
      exact choose_lt h2
    refine ⟨(List.range n).map f, by simp, hl, by simp, by omega, fun _ => ⟨a, rfl, fun j p hj => ?_⟩⟩
    obtain ⟨hjl, hp⟩ := List.getElem?_eq_some_iff.1 hj
    simp at hjl hp
    subst hp
    exact hf j hjl
end
end Go.Proofs.Ytmfkgbncnaingaa.Sto
end
