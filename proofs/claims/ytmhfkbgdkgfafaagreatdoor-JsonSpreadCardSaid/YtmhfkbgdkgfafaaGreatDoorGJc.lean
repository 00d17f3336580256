/- 9 texts of this family in one. -/
import Derived.Test.YtmhfkbgdkgfafaaGreatDoorGJb
import Derived.Test.YtmhfkbgdkgfafaaGreatDoorGJa
import Derived.Shelf.Spec.SlicesInsert
import Derived.Lib.AppendZerosOnto
import Derived.Laws.NewBlocks
import Derived.Laws.CopyRow
import Derived.Laws.CopyOwn

section
/- json's parser: the item of an array. -/
namespace Go.Proofs.YtmhfkbgdkgfafaaGreatDoor.Js
open Go.RowKit Go.Proofs.YtmhfkbgdkgfafaaGreatDoor.QJson Go.Proofs.YtmhfkbgdkgfafaaGreatDoorW.PrintWords Go.Proofs.YtmhfkbgdkgfafaaGreatDoorW.PrintLast Go.Proofs.YtmhfkbgdkgfafaaGreatDoorW.PrintMore Go.Proofs.YtmhfkbgdkgfafaaGreatDoor.Reg
set_option linter.unusedVariables false
set_option linter.unusedSimpArgs false

/-- What a call that gives a value comes to; B: what it makes lies behind that. -/
def ValOut (W : World) (g : Nat) (o : Option (S26 × List UInt8)) (e : Ending) (w' : World) : Prop :=
  ∃ (v : S26) (v3 v4 : Value), e = .returned (.agg #[.int .i64 v.f0, .int .i64 v.f1, .string v.f2, v3, v4]) ∧ Kd.string.R 9 w' W.heap.size (fun _ => True) v3 v.f3 ∧ k26.R 26 w' W.heap.size (fun _ => True) v4 v.f4 ∧ W.grownBy w' (some g) ∧
    ((∃ r, o = some (v, r) ∧ PS w' g r false) ∨ (o = none ∧ PS w' g [] true))
/-- The contract of value, to a depth. -/
def ValOk (B d : Nat) : Prop := ∀ (l : List UInt8) (w : World) (g : Nat), PS w g l false → Glob B w → B ≤ g → l.length < d → l.length ≤ 1000000 →
  Calls Tryz.prog 21 #[.pointer (some ⟨g, 0, none⟩)] w fun e w' => ValOut w g (valueP d l) e w'
def zeroV : Array Value := #[.int .i64 0, .int .i64 0, .string ⟨#[]⟩, .slice none 0 0, .slice none 0 0]
/-- What stands while an array is read: the array's own cells, the parser's pointer in a box, and its parts. -/
structure ArrInv (B g bv bp base : Nat) (k : Int) (ps : List S26) (w : World) (v4 : Value) : Prop where
  box : w.heap[bv]? = some (.cells #[.int .i64 k, .int .i64 0, .string ⟨#[]⟩, .slice none 0 0, v4] 26 (0, 0))
  ptr : w.heap[bp]? = some (.cells #[.pointer (some ⟨g, 0, none⟩)] 49 (0, 0))
  parts : k26.R 26 w base (fun _ => True) v4 ps
  glob : Glob B w
  le : base ≤ w.heap.size
/-- What may stand in the way while the region draws. -/
structure Hold3 (B g bv bp : Nat) (V4 : Value) (W w : World) : Prop where
  box : w.heap[bv]? = some (.cells #[.int .i64 6, .int .i64 0, .string ⟨#[]⟩, .slice none 0 0, V4] 26 (0, 0))
  ptr : w.heap[bp]? = some (.cells #[.pointer (some ⟨g, 0, none⟩)] 49 (0, 0))
  glob : Glob B w
  grown : W.grownBy w (some g)
theorem Hold3.step {B g bv bp : Nat} {V4 : Value} {W w w' : World} (h : Hold3 B g bv bp V4 W w) (hB : B ≤ g) (hv : bv ≠ g) (hp : bp ≠ g) (k : w.grownBy w' (some g)) : Hold3 B g bv bp V4 W w' :=
  ⟨blk_grown h.box k (fun e => hv (by injection e)), blk_grown h.ptr k (fun e => hp (by injection e)), h.glob.step k hB, grown2 h.grown k⟩
def F3 (g bv : Nat) (V4 : Value) (W : World) (n : Nat) (o : Option (S26 × List UInt8)) : Nat → Value → World → Prop
  | 0, v, _ => v = .pointer (some ⟨bv, 4, none⟩)
  | 1, v, _ => v = V4
  | 2, v, _ => v = .pointer (some ⟨g, 0, none⟩)
  | 3, u, w => ∃ (v : S26) (v3 v4 : Value), u = .agg #[.int .i64 v.f0, .int .i64 v.f1, .string v.f2, v3, v4] ∧ Kd.string.R 9 w W.heap.size (fun _ => True) v3 v.f3 ∧ k26.R 26 w W.heap.size (fun _ => True) v4 v.f4 ∧ ((∃ r, o = some (v, r) ∧ PS w g r false) ∨ (o = none ∧ PS w g [] true))
  | 4, v, _ => v = .int .i64 n
  | 5, v, w => ∃ z, v = .slice (some ⟨z, 0, none⟩) 1 1 ∧ W.heap.size ≤ z ∧ w.heap[z]? = some (.cells zeroV 26 (0, 0))
  | _, _, _ => True
def G3 (g : Nat) (l : List UInt8) : Nat → World → Prop
  | 3, w => PS w g l false
  | _, _ => True
def St3 (g : Nat) : Nat → World → World → Prop
  | 3, w, w' => w.grownBy w' (some g)
  | _, w, w' => Below w.heap.size w w'
theorem St3.grown {g i : Nat} {w w' : World} (h : St3 g i w w') : w.grownBy w' (some g) := by
  unfold St3 at h
  split at h
  · exact h
  · exact grown_of_below h _
theorem St3.below {g i : Nat} {w w' : World} (h : St3 g i w w') (hi : i ≠ 3) : Below w.heap.size w w' := by
  unfold St3 at h
  split at h
  · exact absurd rfl hi
  · exact h
theorem R_far_of {α : Type} {d : Kd α} {e base : Nat} {ok : Nat → Prop} {w w' : World} {v : Value} {xs : List α} {g : Nat} (h : d.R e w base ok v xs) (hg : w.grownBy w' (some g)) (hb : g < base) : d.R e w' base ok v xs :=
  Kd.R_mono (Kd.R_grown (Kd.R_bound h) hg (fun k hk e => by injection e with e; have := hk.2.1; omega)) (fun k hk => hk.1)
theorem F3.last {g bv : Nat} {V4 : Value} {W : World} {n : Nat} {o : Option (S26 × List UInt8)} (hlt : g < W.heap.size) (i k : Nat) (v : Value) (w w' : World) (hik : i ≠ k) (h : F3 g bv V4 W n o k v w) (hs : St3 g i w w') : F3 g bv V4 W n o k v w' := by
  unfold F3 at h ⊢
  split
  · exact h
  · exact h
  · exact h
  · obtain ⟨x, v3, v4, h1, h2, h3, h4⟩ := h
    have hb := hs.below hik
    refine ⟨x, v3, v4, h1, Kd.R_below h2 hb, Kd.R_below h3 hb, ?_⟩
    rcases h4 with ⟨r, h5, h6⟩ | ⟨h5, h6⟩
    · exact .inl ⟨r, h5, (hb.block g h6.lt).trans h6⟩
    · exact .inr ⟨h5, (hb.block g h6.lt).trans h6⟩
  · exact h
  · obtain ⟨z, h1, h2, h3⟩ := h
    exact ⟨z, h1, h2, blk_grown h3 hs.grown (fun e => by injection e with e; omega)⟩
  · trivial
theorem G3.last {g : Nat} {l : List UInt8} (i k : Nat) (w w' : World) (hik : i ≠ k) (h : G3 g l k w) (hs : St3 g i w w') : G3 g l k w' := by
  unfold G3 at h ⊢
  split
  · have hb := hs.below hik
    exact (hb.block g (PS.lt h)).trans h
  · trivial
theorem wpOp_of {P : Program} {ops : Array Oper} {Q : Exit → Act → World → Prop} {i : Nat} {o : Oper} {a : Act} {w : World} {K : Value → World → Prop} {K' : Act → World → Prop} (ho : ops[i]? = some o) (hg : o.guard = none) (h : Gives P o a.eval w K) (hk : ∀ v w', K v w' → K' (a.put o.dst v) w') : wpOp P ops Q i K' a w := by
  unfold wpOp
  rw [ho]
  dsimp only
  rw [if_pos (by simp [Region.wanted, hg])]
  exact .inl (h.wp hk)

theorem wpOp_wp {P : Program} {ops : Array Oper} {Q : Exit → Act → World → Prop} {i : Nat} {o : Oper} {a : Act} {w : World} {K' : Act → World → Prop} {E : Prop} (ho : ops[i]? = some o) (hg : o.guard = none) (h : if Region.wanted o (yielded ops a.tmps) = true then Oper.wp P o a w K' Q else E) : wpOp P ops Q i K' a w := by
  unfold wpOp
  rw [ho]
  dsimp only
  have hw : Region.wanted o (yielded ops a.tmps) = true := by simp [Region.wanted, hg]
  rw [if_pos hw] at h ⊢
  exact .inl h
theorem any_step {P : Program} {ops : Array Oper} {Q : Exit → Act → World → Prop} {n : Nat} {listed : Array Bool} {a : Act} {w : World} (l : List Nat) (hl : Region.ready .any ops listed = l) (hne : l ≠ []) (h : ∀ i ∈ l, wpOp P ops Q i (wpAny P .any ops Q n (listed.setIfInBounds i true)) a w) : wpAny P .any ops Q (n + 1) listed a w :=
  ⟨fun h0 => absurd (hl.symm.trans h0) hne, fun i hi => h i (hl ▸ hi)⟩
theorem any_end {P : Program} {ops : Array Oper} {Q : Exit → Act → World → Prop} {listed : Array Bool} {a : Act} {w : World} (hl : Region.ready .any ops listed = []) (h : Q .normal a w) : wpAny P .any ops Q 0 listed a w := ⟨hl, h⟩
theorem z26M (w : World) (base : Nat) (ok : Nat → Prop) : k26.M w base ok z26 zeroV.toList := k26_mkM w base ok z26 (Kd.R_nil _ _ _ _ _) (Kd.R_nil _ _ _ _ _)
/-- A row of one zero value. -/
theorem zero_row {w : World} {z : Nat} (h : w.heap[z]? = some (.cells zeroV 26 (0, 0))) : ReadsRow (fun (x : S26) cs => x = z26 ∧ cs = zeroV.toList) 5 w (some ⟨z, 0, none⟩) 1 [z26] := by
  refine ⟨rfl, by omega, fun _ => ⟨_, rfl, fun j p hj => ?_⟩⟩
  cases j with
  | zero =>
    injection hj with hj
    subst hj
    refine ⟨_, rfl, ⟨rfl, rfl⟩, fun k u hk => ?_⟩
    rw [Addr.add_lit]
    simpa [World.cell?, h] using hk
  | succ j => cases hj
theorem below_row {B bs : Nat} {w w' : World} {row : Option Nat} (h : w.grownBy w' row) (hr : ∀ k, row = some k → bs ≤ k) (hB : B ≤ bs) (hs : B ≤ w.heap.size) : Below B w w' :=
  ⟨h.os, h.tape, h.output, h.size, fun k hk => h.block k (Nat.lt_of_lt_of_le hk hs) (fun e => by have := hr k e.symm; omega)⟩
def segOf (p : S26) (v3 v4 : Value) : List Value := [.int .i64 p.f0, .int .i64 p.f1, .string p.f2, v3, v4]
set_option maxRecDepth 100000 in
/-- The last element comes to be what it is to be. -/
theorem put_last {w : World} {base gr cap n : Nat} {ps : List S26} {okp : Nat → Prop} (h : k26.R 26 w base (fun _ => True) (.slice (some ⟨gr, 0, none⟩) (n + 1) cap) (ps ++ [z26])) (hn : n = ps.length) {p : S26} {v3 v4 : Value}
    (h3 : Kd.string.R 9 w base okp v3 p.f3) (h4 : k26.R 26 w base okp v4 p.f4) (hokp : ∀ k, okp k → k ≠ gr) :
    k26.R 26 (w.setCells gr (n * 5) (segOf p v3 v4)) base (fun _ => True) (.slice (some ⟨gr, 0, none⟩) (n + 1) cap) (ps ++ [p]) ∧ w.grownBy (w.setCells gr (n * 5) (segOf p v3 v4)) (some gr) ∧
      ∀ W : World, W.heap[gr]? = w.heap[gr]? → ∀ v, v = .agg #[.int .i64 p.f0, .int .i64 p.f1, .string p.f2, v3, v4] → (Instr.storeAt 26 (.pointer (some ⟨gr, n * 5, none⟩)) v).run Tryz.prog W = .ok () (W.setCells gr (n * 5) (segOf p v3 v4)) := by
  have hC := (Kd.R_reads' h).2.2
  obtain ⟨ad, c, e, _, hK, hc0⟩ := Kd.C_get hC z26 (n : Int) (by omega) (by rw [List.length_append, hn]; simp; omega)
  cases e
  have hcl : c.length = 5 := k26.K_len hK
  have hs := Kd.R_seg (d := k26) (x' := p) (c := c) (seg := segOf p v3 v4) (j := 0) (okp := okp) h (n : Int) (by omega) (by omega) hcl (fun j u hj => by
    have := hc0 j u hj
    rw [Addr.add_lit, Nat.zero_add] at this
    exact this) (by show 0 + 5 ≤ 5; omega) (by
    have e1 : (c.take 0 ++ segOf p v3 v4 ++ c.drop (0 + (segOf p v3 v4).length)) = segOf p v3 v4 := by
      rw [List.drop_of_length_le (by rw [hcl]; show 5 ≤ 0 + 5; omega)]; simp
    rw [e1]
    exact k26_mkM w base okp p h3 h4) (fun k hk => ⟨trivial, hokp k hk⟩)
  rw [Int.toNat_natCast, Nat.add_zero, show k26.sz = 5 from rfl] at hs
  refine ⟨?_, hs.2, ?_⟩
  · have e2 : (ps ++ [z26]).set n p = ps ++ [p] := by rw [hn]; simp
    rw [← e2]; exact hs.1
  · intro W hW v hv
    obtain ⟨inner, hown⟩ := Kd.R_own h
    rcases hown.2 with ⟨hv0, _⟩ | ⟨g', cap', cur, hv0, hb, hh, hnc, hcm, hcs, ht⟩
    · cases hv0
    · injection hv0 with ha h5 h6
      injection ha with ha
      injection ha with ha
      subst ha h6
      subst hv
      refine run_store_run 26 _ _ (by rw [hW]; exact hh) rfl (by kernel_rfl) ?_ ?_
      · have h7 : (ps ++ [z26]).length = n + 1 := by rw [List.length_append, hn]; rfl
        have h8 : n + 1 ≤ cap := by rw [← h7]; exact hnc
        rw [hcs]
        show n * 5 + 5 ≤ cap * 5
        omega
      · intro q hq
        exact k26.K_one (k26.K_of_M (k26_mkM w base okp p h3 h4)) q hq
theorem setCells_setCell {g b : Nat} (hne : g ≠ b) (j : Nat) (u : Value) : ∀ (vs : List Value) (o : Nat) (w : World), (w.setCell ⟨b, j, none⟩ u).setCells g o vs = (w.setCells g o vs).setCell ⟨b, j, none⟩ u
  | [], o, w => rfl
  | v :: vs, o, w => by
    rw [World.setCells, World.setCells, ← setCells_setCell hne j u vs (o + 1) (w.setCell ⟨g, o, none⟩ v)]
    congr 1
    unfold World.setCell
    simp only
    congr 1
    apply Array.ext
    · simp
    · intro i h1 h2
      simp only [Array.getElem_modify]
      by_cases e1 : g = i
      · have e2 : b ≠ i := fun e => hne (e1.trans e.symm)
        simp [e1, e2]
      · simp [e1]

theorem arr_end {B g bv bp base gr : Nat} {ps qs : List S26} {V4 V5 : Value} {w w6 w7 w8 : World} (HI : ArrInv B g bv bp base 6 ps w V4) (hI : Hold3 B g bv bp V4 w w6) (hG7 : w6.grownBy w7 V4.ownBlock) (hG9 : w7.grownBy w8 (some gr)) (hR9 : k26.R 26 w8 base (fun _ => True) V5 qs)
    (hbvA : w8.heap[bv]? = some (.cells #[.int .i64 6, .int .i64 0, .string ⟨#[]⟩, .slice none 0 0, V4] 26 (0, 0)))
    (hB : B ≤ g) (hBv : B ≤ bv) (hgb : g < base) (hvb : bv < base) (hpb : bp < base) (hgv : bv ≠ g) (hgp : bp ≠ g) (hvp : bv ≠ bp) (hgr : base ≤ gr) :
    Two g bv base w (w8.setCell ⟨bv, 4, none⟩ V5) ∧ (∀ r b, PS w6 g r b → PS (w8.setCell ⟨bv, 4, none⟩ V5) g r b) ∧ ArrInv B g bv bp base 6 qs (w8.setCell ⟨bv, 4, none⟩ V5) V5 := by
  have hbase4 : ∀ k, V4.ownBlock = some k → base ≤ k := fun k hk => Kd.R_base HI.parts k hk
  have hrg : ∀ k, k < base → V4.ownBlock ≠ some k := fun k hk e => by have := hbase4 k e; omega
  have hg2 := grown_set w8 bv 4 V5
  have hT : Two g bv base w (w8.setCell ⟨bv, 4, none⟩ V5) :=
    (Two.of_grown hI.grown).trans ((Two.of_row hG7 hbase4).trans ((Two.of_row hG9 (fun k hk => by injection hk with hk; omega)).trans (Two.of_grown' hg2)))
  have hn1 : some g ≠ V4.ownBlock := fun e => hrg g hgb e.symm
  have hn2 : some bp ≠ V4.ownBlock := fun e => hrg bp hpb e.symm
  have hn3 : some g ≠ some gr := fun e => by injection e with e; omega
  have hn4 : some bp ≠ some gr := fun e => by injection e with e; omega
  have hn5 : some g ≠ some bv := fun e => by injection e with e; omega
  have hn6 : some bp ≠ some bv := fun e => by injection e with e; omega
  have hBb : B ≤ base := by omega
  have hBg : B ≤ gr := by omega
  refine ⟨hT, fun r b hp => ?_, ?_⟩
  · have h1 : PS w7 g r b := blk_grown hp hG7 hn1
    have h2 : PS w8 g r b := blk_grown h1 hG9 hn3
    exact blk_grown h2 hg2 hn5
  · refine ⟨blk_set hbvA 4 _, ?_, R_far_of hR9 hg2 hvb, ?_, Nat.le_trans HI.le hT.size⟩
    · exact blk_grown (blk_grown (blk_grown hI.ptr hG7 hn2) hG9 hn4) hg2 hn6
    · have hb7 := below_row hG7 hbase4 hBb hI.glob.le
      have h1 : Glob B w7 := ⟨Nat.le_trans hI.glob.le hG7.size, fun w2 h2 => hI.glob.errs w2 (hb7.trans h2), fun w2 h2 => hI.glob.words w2 (hb7.trans h2)⟩
      exact (h1.step hG9 hBg).step hg2 hBv

set_option maxHeartbeats 8000000 in
set_option maxRecDepth 100000 in
theorem item3_calls (B d : Nat) (hV : ValOk B d) (g bv bp base : Nat) (hB : B ≤ g) (hBv : B ≤ bv) (hgb : g < base) (hvb : bv < base) (hpb : bp < base) (hgv : bv ≠ g) (hgp : bp ≠ g) (hvp : bv ≠ bp)
    (ps : List S26) (V4 : Value) (l : List UInt8) (w : World) (h : PS w g l false) (hi : ArrInv B g bv bp base 6 ps w V4) (hl : l.length < d) (hm : ps.length + l.length ≤ 1000000) :
    Calls Tryz.prog 33 #[.pointer (some ⟨bv, 0, none⟩), .pointer (some ⟨bp, 0, none⟩)] w fun e w' => ItemOut g bv base (arrI (valueP d)) (fun qs w => ∃ V, ArrInv B g bv bp base 6 qs w V) ps l w e w' := by
  obtain ⟨A4, n, c4, hV4, hn⟩ : ∃ A n c, V4 = .slice A n c ∧ n = ps.length := by
    obtain ⟨A, c, h1⟩ := Kd.R_slice hi.parts
    exact ⟨A, _, c, h1, rfl⟩
  subst hV4
  have HI := Aside0.mk hi
  have HP := Aside0.mk h
  have HV := Aside0.mk hV
  have HL := Aside0.mk (And.intro hl hm)
  have HN := Aside0.mk hn
  have HB := Aside0.mk hB
  have HNe := Aside0.mk (And.intro hgv (And.intro hgp hvp))
  have HLt := Aside0.mk (And.intro hgb (And.intro hvb hpb))
  have hW : w.drew.heap.size = w.heap.size := rfl
  clear hi h hV hl hm hn hB hgv hgp hvp hgb hvb hpb
  go_enter Tryz.func33, Tryz.ntmps33
  refine region_open (by kernel_rfl) 6 (Hold3 B g bv bp (.slice A4 n c4) w) (St3 g) (G3 g l) (F3 g bv (.slice A4 n c4) w n (valueP d l)) (by kernel_rfl) ⟨HI.out.box, HI.out.ptr, HI.out.glob.below (Below.refl _ _).drew, grown_of_below (Below.refl _ _).drew _⟩ ?_ (fun i k v w1 w2 hik hF _ hs => F3.last HP.out.lt i k v w1 w2 hik hF hs) (fun i k w1 w2 hik hG _ hs => G3.last i k w1 w2 hik hG hs) ?_ ?_
  · intro k _
    unfold G3
    split
    · exact HP.out
    · trivial
  · refine ⟨?_, ?_, ?_, ?_, ?_, ?_, trivial⟩
    · intro ev w1 hI hG hc hf hg hbase hdep
      refine ⟨fun _ => ?_, fun h => absurd trivial h⟩
      have e0 : ev (.tmp 0) = .pointer (some ⟨bv, 0, none⟩) := hbase 0 (by decide)
      unfold Gives
      go_simp
      exact ⟨rfl, Below.refl _ _⟩
    · intro ev w1 hI hG hc hf hg hbase hdep
      refine ⟨fun _ => ?_, fun h => absurd trivial h⟩
      have e1 : ev (.tmp 2) = .pointer (some ⟨bv, 4, none⟩) := hdep 0 (by decide)
      have hq : w1.cell? ⟨bv, 4, none⟩ = some (.slice A4 n c4) := blk_cell hI.box 4
      unfold Gives
      go_simp
      exact ⟨rfl, Below.refl _ _⟩
    · intro ev w1 hI hG hc hf hg hbase hdep
      refine ⟨fun _ => ?_, fun h => absurd trivial h⟩
      have e0 : ev (.tmp 1) = .pointer (some ⟨bp, 0, none⟩) := hbase 1 (by decide)
      have hq : w1.cell? ⟨bp, 0, none⟩ = some (.pointer (some ⟨g, 0, none⟩)) := blk_cell hI.ptr 0
      unfold Gives
      go_simp
      exact ⟨rfl, Below.refl _ _⟩
    · intro ev w1 hI hG hc hf hg hbase hdep
      refine ⟨fun _ => ?_, fun h => absurd trivial h⟩
      have e1 : ev (.tmp 4) = .pointer (some ⟨g, 0, none⟩) := hdep 2 (by decide)
      unfold Gives
      go_simp
      refine (HV.out l w1 g hG hI.glob HB.out HL.out.1 (by have := HL.out.2; omega)).mono ?_
      rintro e w2 ⟨v, v3, v5, rfl, h3, h4, hg2, hh⟩
      exact ⟨_, rfl, ⟨v, v3, v5, rfl, Kd.R_lower h3 hI.grown.size, Kd.R_lower h4 hI.grown.size, hh⟩, hI.step HB.out HNe.out.1 HNe.out.2.1 hg2, hg2⟩
    · intro ev w1 hI hG hc hf hg hbase hdep
      refine ⟨fun _ => ?_, fun h => absurd trivial h⟩
      have e1 : ev (.tmp 3) = .slice A4 n c4 := hdep 1 (by decide)
      unfold Gives
      go_simp
      exact ⟨rfl, Below.refl _ _⟩
    · intro ev w1 hI hG hc hf hg hbase hdep
      refine ⟨fun _ => ?_, fun h => absurd trivial h⟩
      unfold Gives
      go_simp
      exact ⟨⟨w1.heap.size, rfl, hI.grown.size, heap_alloc_new _ _⟩, hI.step HB.out HNe.out.1 HNe.out.2.1 (grown_of_below (below_alloc (Below.refl _ _) _) _), below_alloc (Below.refl _ _) _⟩
  · intro x w6 hI hbase hF
    have f0 : x 2 = .pointer (some ⟨bv, 4, none⟩) := hF 0 (by decide)
    have f1 : x 3 = .slice A4 n c4 := hF 1 (by decide)
    have f2 : x 4 = .pointer (some ⟨g, 0, none⟩) := hF 2 (by decide)
    obtain ⟨v, v3, v5, f3, hv3, hv5, hh⟩ := hF 3 (by decide)
    have f3' : x 5 = .agg #[.int .i64 v.f0, .int .i64 v.f1, .string v.f2, v3, v5] := f3
    have f4 : x 6 = .int .i64 n := hF 4 (by decide)
    obtain ⟨z, f5, hz, hzb⟩ := hF 5 (by decide)
    have f5' : x 7 = .slice (some ⟨z, 0, none⟩) 1 1 := f5
    have b0 : x 0 = .pointer (some ⟨bv, 0, none⟩) := hbase 0 (by decide)
    have b1 : x 1 = .pointer (some ⟨bp, 0, none⟩) := hbase 1 (by decide)
    have hparts := R_far_of HI.out.parts hI.grown HLt.out.1
    have hptL := Kd.R_lt HI.out.parts
    have hlen : n = ps.length := HN.out
    have hbig : (ps.length + 1) * 80 ≤ 140737488355328 := by have := HL.out.2; omega
    show wpAny _ _ _ _ 5 _ ⟨#[x 0, x 1, x 2, x 3, x 4, x 5, x 6, x 7, x 8, x 9, x 10], _⟩ w6
    rw [b0, b1, f0, f1, f2, f3', f4, f5']
    generalize x 8 = y8
    generalize x 9 = y9
    generalize x 10 = y10
    clear hF hbase f0 f1 f2 f3 f3' f4 f5 f5' b0 b1
    refine any_step [6] (by kernel_rfl) (by decide) ?_
    intro i hi
    rw [List.mem_singleton] at hi
    subst hi
    refine wpOp_wp rfl rfl (Kd.R_append_rows_step k26 (w0 := w6) (Rr := fun (x : S26) cs => x = z26 ∧ cs = zeroV.toList) base rfl (.tmp 3) (.tmp 7) 24 26 (.agg zeroV) 80 rfl Tryz.underlying24 info26 rfl (by decide) (by decide) (.slice A4 n c4) ps [z26] (some ⟨z, 0, none⟩) 1 1 (fun _ => True) (fun _ => False) rfl rfl hparts (zero_row hzb) (fun x cs h => by rw [h.1, h.2]; exact z26M _ _ _) (fun _ h => h.elim) (fun _ _ => trivial) (Below.refl _ _) (Nat.le_trans HI.out.le hI.grown.size) hbig ?_)
    intro v8 w7 hR8 hB7 hG7 hat
    obtain ⟨gr, cap, hv8, hgr, hgrl, _⟩ := Kd.R_form hR8 (by simp)
    have hl8 : (ps ++ [z26]).length = n + 1 := by rw [List.length_append, hlen]; rfl
    rw [hl8] at hv8
    subst hv8
    have hown8 : (Value.slice (some ⟨gr, 0, none⟩) (n + 1) cap).ownBlock = some gr := by simp [Value.ownBlock]
    rw [hown8] at hat
    have hgrb : gr < w.heap.size ∨ w6.heap.size ≤ gr := by
      rcases hat with h1 | ⟨b, h1, h2⟩
      · exact .inl (hptL gr h1.symm)
      · injection h1 with h1; exact .inr (by omega)
    have hrow6 : ∀ k, w.heap.size ≤ k → some k ≠ (Value.slice A4 n c4).ownBlock := fun k hk he => by have := hptL k he.symm; omega
    have hv3' : Kd.string.R 9 w7 w.heap.size (fun k => w.heap.size ≤ k ∧ k < w6.heap.size) v3 v.f3 := Kd.R_mono (Kd.R_grown (Kd.R_bound hv3) hG7 (fun k hk => hrow6 k hk.2.1)) (fun k hk => ⟨hk.2.1, hk.2.2.1⟩)
    have hv5' : k26.R 26 w7 w.heap.size (fun k => w.heap.size ≤ k ∧ k < w6.heap.size) v5 v.f4 := Kd.R_mono (Kd.R_grown (Kd.R_bound hv5) hG7 (fun k hk => hrow6 k hk.2.1)) (fun k hk => ⟨hk.2.1, hk.2.2.1⟩)
    obtain ⟨hR9, hG9, hrun⟩ := put_last hR8 hlen (Kd.R_lower hv3' HI.out.le) (Kd.R_lower hv5' HI.out.le) (fun k hk => by omega)
    have hbv7 : w7.heap[bv]? = some (.cells #[.int .i64 6, .int .i64 0, .string ⟨#[]⟩, .slice none 0 0, .slice A4 n c4] 26 (0, 0)) := blk_grown hI.box hG7 (fun he => by have := Kd.R_base HI.out.parts bv he.symm; have := HLt.out.2.1; omega)
    have hrg : gr ≠ g := by have := HLt.out.1; omega
    have hrv : gr ≠ bv := by have := HLt.out.2.1; omega
    have hbvA : (w7.setCells gr (n * 5) (segOf v v3 v5)).heap[bv]? = some (.cells #[.int .i64 6, .int .i64 0, .string ⟨#[]⟩, .slice none 0 0, .slice A4 n c4] 26 (0, 0)) := by
      rw [setCells_far _ _ _ (Ne.symm hrv)]; exact hbv7
    have hend := arr_end HI.out hI hG7 hG9 hR9 hbvA HB.out hBv HLt.out.1 HLt.out.2.1 HLt.out.2.2 HNe.out.1 HNe.out.2.1 HNe.out.2.2 hgr
    clear hlen
    have h7 : ∀ (o : Oper) (ev : Operand → Value) (W : World), o.op = .indexAddr 24 (.tmp 8) (.tmp 6) → ev (.tmp 8) = .slice (some ⟨gr, 0, none⟩) (n + 1) cap → ev (.tmp 6) = .int .i64 n → Gives Tryz.prog o ev W fun u w' => u = .pointer (some ⟨gr, n * 5, none⟩) ∧ w' = W := by
      intro o ev W ho e1 e2
      unfold Gives execOp
      rw [ho]
      have hin : (n : Int) < (n : Int) + 1 := by omega
      go_simp
    have h8 : ∀ (o : Oper) (ev : Operand → Value) (W : World), o.op = .store 26 (.tmp 9) (.tmp 5) → ev (.tmp 9) = .pointer (some ⟨gr, n * 5, none⟩) → ev (.tmp 5) = .agg #[.int .i64 v.f0, .int .i64 v.f1, .string v.f2, v3, v5] → W.heap[gr]? = w7.heap[gr]? → Gives Tryz.prog o ev W fun u w' => w' = W.setCells gr (n * 5) (segOf v v3 v5) := by
      intro o ev W ho e1 e2 e3
      have hr := hrun W e3 _ e2
      unfold Gives execOp
      rw [e2] at hr
      simp only [ho, e1, e2, Sem.run_bind, Sem.run_pure, Result.andThen_ok, hr]
    have h9 : ∀ (o : Oper) (ev : Operand → Value) (W : World), o.op = .fieldAddr 26 (.tmp 0) 4 → ev (.tmp 0) = .pointer (some ⟨bv, 0, none⟩) → Gives Tryz.prog o ev W fun u w' => u = .pointer (some ⟨bv, 4, none⟩) ∧ w' = W := by
      intro o ev W ho e1
      unfold Gives execOp
      rw [ho]
      go_simp
    have h10 : ∀ (o : Oper) (ev : Operand → Value) (W : World), o.op = .store 24 (.tmp 10) (.tmp 8) → ev (.tmp 10) = .pointer (some ⟨bv, 4, none⟩) → ev (.tmp 8) = .slice (some ⟨gr, 0, none⟩) (n + 1) cap → W.heap[bv]? = some (.cells #[.int .i64 6, .int .i64 0, .string ⟨#[]⟩, .slice none 0 0, .slice A4 n c4] 26 (0, 0)) → Gives Tryz.prog o ev W fun u w' => w' = W.setCell ⟨bv, 4, none⟩ (.slice (some ⟨gr, 0, none⟩) (n + 1) cap) := by
      intro o ev W ho e1 e2 e3
      have q1 := blk_cell e3 4
      have q2 := blk_frozen e3 4
      dsimp at q1
      unfold Gives execOp
      rw [ho]
      go_simp
    have hB7 : (w7.setCell ⟨bv, 4, none⟩ (.slice (some ⟨gr, 0, none⟩) (n + 1) cap)).heap[gr]? = w7.heap[gr]? := Below.heap_setCell _ _ _ _ hrv
    obtain ⟨w8, hw8⟩ : ∃ q, q = w7.setCells gr (n * 5) (segOf v v3 v5) := ⟨_, rfl⟩
    obtain ⟨wB, hwB⟩ : ∃ q, q = w7.setCell ⟨bv, 4, none⟩ (.slice (some ⟨gr, 0, none⟩) (n + 1) cap) := ⟨_, rfl⟩
    have hcomm := setCells_setCell hrv 4 (.slice (some ⟨gr, 0, none⟩) (n + 1) cap) (segOf v v3 v5) (n * 5) w7
    have h8A := fun o ev ho e1 e2 => h8 o ev w7 ho e1 e2 rfl
    have h8B := fun o ev ho e1 e2 => h8 o ev wB ho e1 e2 (by rw [hwB]; exact hB7)
    have h10A := fun o ev ho e1 e2 => h10 o ev w8 ho e1 e2 (by rw [hw8]; exact hbvA)
    have h10B := fun o ev ho e1 e2 => h10 o ev w7 ho e1 e2 hbv7
    rw [← hw8] at hend hcomm
    rw [← hwB] at hcomm
    obtain ⟨wF, hwF⟩ : ∃ q, q = w8.setCell ⟨bv, 4, none⟩ (.slice (some ⟨gr, 0, none⟩) (n + 1) cap) := ⟨_, rfl⟩
    rw [← hwF] at hend hcomm
    rw [hcomm] at h8B
    rw [← hw8] at h8A
    rw [← hwB] at h10B
    rw [← hwF] at h10A
    clear h8 h10 hrun hB7 hbvA hbv7
    have hfin : ∀ (u1 u2 : Value), bodyPost Tryz.prog Tryz.f33 (fun e w' => ItemOut g bv base (arrI (valueP d)) (fun qs w => ∃ V, ArrInv B g bv bp base 6 qs w V) ps l w e w') .normal ⟨#[.pointer (some ⟨bv, 0, none⟩), .pointer (some ⟨bp, 0, none⟩), .pointer (some ⟨bv, 4, none⟩), .slice A4 n c4, .pointer (some ⟨g, 0, none⟩), .agg #[.int .i64 v.f0, .int .i64 v.f1, .string v.f2, v3, v5], .int .i64 n, .slice (some ⟨z, 0, none⟩) 1 1, .slice (some ⟨gr, 0, none⟩) (n + 1) cap, u1, u2], []⟩ wF := by
      intro u1 u2
      go_end0
      obtain ⟨hT, hPS, hAI⟩ := hend
      refine ⟨rfl, hT, ?_⟩
      rcases hh with ⟨r, ho, hp⟩ | ⟨ho, hp⟩
      · exact .inl ⟨ps ++ [v], r, by unfold arrI; rw [ho], hPS _ _ hp, _, hAI⟩
      · exact .inr ⟨by unfold arrI; rw [ho], hPS _ _ hp, ps ++ [v], _, hAI⟩
    refine any_step [7, 9] (by kernel_rfl) (by decide) ?_
    intro i hi
    simp only [List.mem_cons, List.not_mem_nil, or_false] at hi
    rcases hi with rfl | rfl
    · refine wpOp_of (K := fun u w' => u = .pointer (some ⟨gr, n * 5, none⟩) ∧ w' = w7) rfl rfl ?_ ?_
      · exact h7 _ _ _ rfl rfl rfl
      rintro u w' ⟨hu, hw⟩
      subst hu
      rw [hw]
      clear hw
      refine any_step [8, 9] (by kernel_rfl) (by decide) ?_
      intro i hi
      simp only [List.mem_cons, List.not_mem_nil, or_false] at hi
      rcases hi with rfl | rfl
      · refine wpOp_of (K := fun u w' => w' = w8) rfl rfl ?_ ?_
        · exact h8A _ _ rfl rfl rfl
        intro u w' hw
        rw [hw]
        clear hw
        refine any_step [9] (by kernel_rfl) (by decide) ?_
        intro i hi
        rw [List.mem_singleton] at hi
        subst hi
        refine wpOp_of (K := fun u w' => u = .pointer (some ⟨bv, 4, none⟩) ∧ w' = w8) rfl rfl ?_ ?_
        · exact h9 _ _ _ rfl rfl
        rintro u w' ⟨hu, hw⟩
        subst hu
        rw [hw]
        clear hw
        refine any_step [10] (by kernel_rfl) (by decide) ?_
        intro i hi
        rw [List.mem_singleton] at hi
        subst hi
        refine wpOp_of (K := fun u w' => w' = wF) rfl rfl ?_ ?_
        · exact h10A _ _ rfl rfl rfl
        intro u w' hw
        rw [hw]
        clear hw
        refine any_end (by kernel_rfl) ?_
        exact hfin _ _
      · refine wpOp_of (K := fun u w' => u = .pointer (some ⟨bv, 4, none⟩) ∧ w' = w7) rfl rfl ?_ ?_
        · exact h9 _ _ _ rfl rfl
        rintro u w' ⟨hu, hw⟩
        subst hu
        rw [hw]
        clear hw
        refine any_step [8, 10] (by kernel_rfl) (by decide) ?_
        intro i hi
        simp only [List.mem_cons, List.not_mem_nil, or_false] at hi
        rcases hi with rfl | rfl
        · refine wpOp_of (K := fun u w' => w' = w8) rfl rfl ?_ ?_
          · exact h8A _ _ rfl rfl rfl
          intro u w' hw
          rw [hw]
          clear hw
          refine any_step [10] (by kernel_rfl) (by decide) ?_
          intro i hi
          rw [List.mem_singleton] at hi
          subst hi
          refine wpOp_of (K := fun u w' => w' = wF) rfl rfl ?_ ?_
          · exact h10A _ _ rfl rfl rfl
          intro u w' hw
          rw [hw]
          clear hw
          refine any_end (by kernel_rfl) ?_
          exact hfin _ _
        · refine wpOp_of (K := fun u w' => w' = wB) rfl rfl ?_ ?_
          · exact h10B _ _ rfl rfl rfl
          intro u w' hw
          rw [hw]
          clear hw
          refine any_step [8] (by kernel_rfl) (by decide) ?_
          intro i hi
          rw [List.mem_singleton] at hi
          subst hi
          refine wpOp_of (K := fun u w' => w' = wF) rfl rfl ?_ ?_
          · exact h8B _ _ rfl rfl rfl
          intro u w' hw
          rw [hw]
          clear hw
          refine any_end (by kernel_rfl) ?_
          exact hfin _ _
    · refine wpOp_of (K := fun u w' => u = .pointer (some ⟨bv, 4, none⟩) ∧ w' = w7) rfl rfl ?_ ?_
      · exact h9 _ _ _ rfl rfl
      rintro u w' ⟨hu, hw⟩
      subst hu
      rw [hw]
      clear hw
      refine any_step [7, 10] (by kernel_rfl) (by decide) ?_
      intro i hi
      simp only [List.mem_cons, List.not_mem_nil, or_false] at hi
      rcases hi with rfl | rfl
      · refine wpOp_of (K := fun u w' => u = .pointer (some ⟨gr, n * 5, none⟩) ∧ w' = w7) rfl rfl ?_ ?_
        · exact h7 _ _ _ rfl rfl rfl
        rintro u w' ⟨hu, hw⟩
        subst hu
        rw [hw]
        clear hw
        refine any_step [8, 10] (by kernel_rfl) (by decide) ?_
        intro i hi
        simp only [List.mem_cons, List.not_mem_nil, or_false] at hi
        rcases hi with rfl | rfl
        · refine wpOp_of (K := fun u w' => w' = w8) rfl rfl ?_ ?_
          · exact h8A _ _ rfl rfl rfl
          intro u w' hw
          rw [hw]
          clear hw
          refine any_step [10] (by kernel_rfl) (by decide) ?_
          intro i hi
          rw [List.mem_singleton] at hi
          subst hi
          refine wpOp_of (K := fun u w' => w' = wF) rfl rfl ?_ ?_
          · exact h10A _ _ rfl rfl rfl
          intro u w' hw
          rw [hw]
          clear hw
          refine any_end (by kernel_rfl) ?_
          exact hfin _ _
        · refine wpOp_of (K := fun u w' => w' = wB) rfl rfl ?_ ?_
          · exact h10B _ _ rfl rfl rfl
          intro u w' hw
          rw [hw]
          clear hw
          refine any_step [8] (by kernel_rfl) (by decide) ?_
          intro i hi
          rw [List.mem_singleton] at hi
          subst hi
          refine wpOp_of (K := fun u w' => w' = wF) rfl rfl ?_ ?_
          · exact h8B _ _ rfl rfl rfl
          intro u w' hw
          rw [hw]
          clear hw
          refine any_end (by kernel_rfl) ?_
          exact hfin _ _
      · refine wpOp_of (K := fun u w' => w' = wB) rfl rfl ?_ ?_
        · exact h10B _ _ rfl rfl rfl
        intro u w' hw
        rw [hw]
        clear hw
        refine any_step [7] (by kernel_rfl) (by decide) ?_
        intro i hi
        rw [List.mem_singleton] at hi
        subst hi
        refine wpOp_of (K := fun u w' => u = .pointer (some ⟨gr, n * 5, none⟩) ∧ w' = wB) rfl rfl ?_ ?_
        · exact h7 _ _ _ rfl rfl rfl
        rintro u w' ⟨hu, hw⟩
        subst hu
        rw [hw]
        clear hw
        refine any_step [8] (by kernel_rfl) (by decide) ?_
        intro i hi
        rw [List.mem_singleton] at hi
        subst hi
        refine wpOp_of (K := fun u w' => w' = wF) rfl rfl ?_ ?_
        · exact h8B _ _ rfl rfl rfl
        intro u w' hw
        rw [hw]
        clear hw
        refine any_end (by kernel_rfl) ?_
        exact hfin _ _

end Go.Proofs.YtmhfkbgdkgfafaaGreatDoor.Js
end

section
/- Rows of cells: copies within them, and the lists that come of it. -/
namespace Go.Proofs.YtmhfkbgdkgfafaaGreatDoor.Ins
open Go.RowKit Go.Lib Go.Proofs.YtmhfkbgdkgfafaaGreatDoor.QJson Go.Proofs.YtmhfkbgdkgfafaaGreatDoorW.PrintWords Go.Proofs.YtmhfkbgdkgfafaaGreatDoorW.PrintLast Go.Proofs.YtmhfkbgdkgfafaaGreatDoorW.PrintMore
set_option linter.unusedVariables false
set_option linter.unusedSimpArgs false

/-- copy of elements of any size into a row. -/
theorem run_copy_wide {P : Program} (w : World) (dT sT ty elem : TypeId) (sz g o dLen dCap : Nat) (a : Addr) (sLen sCap : Nat) (cur : Array Value) (t : TypeId) (cs : List Value)
    (hu : P.underlying dT = some (.slice elem)) (hs : (P.info? elem).map (·.size) = some sz)
    (hg : w.heap[g]? = some (.cells cur t (0, 0))) (hn : cs.length = Nat.min sLen dLen * sz)
    (hsrc : ∀ j v, cs[j]? = some v → w.cell? (a.add j) = some v) (hfit : o + cs.length ≤ cur.size) (h1 : ∀ v ∈ cs, v.oneCell' = true) :
    (Builtin.copy_ #[dT, sT] ty #[.slice (some ⟨g, o, none⟩) dLen dCap, .slice (some a) sLen sCap]).run P w =
      .ok (goInt (Nat.min sLen dLen)) (w.setRow g (cur.toList.take o ++ cs ++ cur.toList.drop (o + cs.length)).toArray) := by
  have hl := run_loadCells_list (P := P) w a cs hsrc
  have hst := run_storeCells_at P g o t cs 0 cur w hg (by simpa using hfit) h1
  cases hq : P.info? elem with
  | none => simp [hq] at hs
  | some i =>
    have hi : i.size = sz := by simpa [hq] using hs
    rw [Nat.add_zero] at hst
    simp [Builtin.copy_, run_underlying hu, Builtin.lenOf, Builtin.firstCells, sizeOf, typeInfo, hq, hi, ← hn, hl, hst]
def spl {α : Type} (A : List α) (o : Nat) (D : List α) : List α := A.take o ++ D ++ A.drop (o + D.length)
theorem spl_length {α : Type} (A : List α) (o : Nat) (D : List α) (h : o + D.length ≤ A.length) : (spl A o D).length = A.length := by
  unfold spl; rw [List.length_append, List.length_append, List.length_take, List.length_drop]; omega
theorem spl_size (A : Array Value) (o n : Nat) (D : List Value) (hA : A.size = n) (h : o + D.length ≤ n) : (spl A.toList o D).toArray.size = n := by
  have e : A.toList.length = n := by rw [Array.length_toList]; exact hA
  have h2 := spl_length A.toList o D (by omega)
  have h3 : (spl A.toList o D).toArray.size = (spl A.toList o D).length := List.size_toArray
  omega
theorem shift_take {α : Type} (l D C : List α) (p k m : Nat) (hp : C.length = k) (hD : D.length = m) (hl : p + k + m ≤ l.length) : (spl (spl l (p + k) D) p C).take (p + k + m) = l.take p ++ C ++ D := by
  have e1 : (spl l (p + k) D).take p = l.take p := by
    unfold spl
    rw [List.append_assoc, List.take_append_of_le_length (by rw [List.length_take]; omega), List.take_take, Nat.min_eq_left (by omega)]
  have e2 : (spl l (p + k) D).drop (p + C.length) = D ++ l.drop (p + k + D.length) := by
    unfold spl
    rw [List.append_assoc, hp]
    exact List.drop_left' (by rw [List.length_take]; omega)
  rw [spl, e1, e2, ← List.append_assoc]
  exact List.take_left' (by rw [List.length_append, List.length_append, List.length_take]; omega)
theorem grow_take {α : Type} (l D C : List α) (p k m : Nat) (hp : C.length = k) (hD : D.length = m) (hl : p + k + m ≤ l.length) : (spl (spl l p C) (p + k) D).take (p + k + m) = l.take p ++ C ++ D := by
  have e1 : (spl l p C).take (p + k) = l.take p ++ C := by
    unfold spl
    exact List.take_left' (by rw [List.length_append, List.length_take]; omega)
  rw [spl, e1]
  exact List.take_left' (by rw [List.length_append, List.length_append, List.length_take]; omega)
theorem zero_size (z : Value) (sz : Nat) (hz : z.cells.size = sz) (k : Nat) : (Builtin.zeroCells z.cells k).size = k * sz := by
  simp [Builtin.zeroCells, hz]
/-- What a row is. -/
theorem row_open {α : Type} {d : Kd α} {e : Nat} {w : World} {base : Nat} {ok : Nat → Prop} {v : Value} {xs : List α} (h : d.R e w base ok v xs) : (v = .slice none 0 0 ∧ xs = []) ∨
    ∃ g cap cur inn, v = .slice (some ⟨g, 0, none⟩) xs.length cap ∧ base ≤ g ∧ ok g ∧ w.heap[g]? = some (.cells cur e (0, 0)) ∧ xs.length ≤ cap ∧ cap ≤ maxLen ∧ cur.size = cap * d.sz ∧ cur.toList.take (xs.length * d.sz) = inn ∧ Reps (d.M w base (fun k => ok k ∧ some k ≠ v.ownBlock)) d.sz xs inn := by
  obtain ⟨hok, inner, ⟨_, ho⟩, hr⟩ := h
  rcases ho with ⟨rfl, hn⟩ | ⟨g, cap, cur, rfl, hb, hh, h1, h2, h3, h4⟩
  · exact .inl ⟨rfl, List.eq_nil_of_length_eq_zero hn⟩
  · exact .inr ⟨g, cap, cur, inner, rfl, hb, hok g rfl, hh, h1, h2, h3, h4, hr⟩
theorem row_close {α : Type} {d : Kd α} {e : Nat} {w : World} {base g cap : Nat} {ok : Nat → Prop} {cur : Array Value} {xs : List α} {inn : List Value} (hb : base ≤ g) (hok : ok g) (hh : w.heap[g]? = some (.cells cur e (0, 0))) (h1 : xs.length ≤ cap) (h2 : cap ≤ maxLen) (h3 : cur.size = cap * d.sz) (h4 : cur.toList.take (xs.length * d.sz) = inn)
    (hr : Reps (d.M w base (fun k => ok k ∧ k ≠ g)) d.sz xs inn) : d.R e w base ok (.slice (some ⟨g, 0, none⟩) xs.length cap) xs :=
  ⟨fun k hk => by injection hk with hk; rw [← hk]; exact hok, inn, ⟨hr.1, .inr ⟨g, cap, cur, rfl, hb, hh, h1, h2, h3, h4⟩⟩, hr.imp_ (fun x c hm => d.M_mono (fun k hk => ⟨hk.1, fun e => hk.2 (by simpa [Value.ownBlock] using e)⟩) hm)⟩
theorem reps_one {α : Type} {R : α → List Value → Prop} {size : Nat} {ps : List α} {cs : List Value} (h : Reps R size ps cs) (K : List Value → Prop) (hk : ∀ p c, R p c → ∀ u ∈ c, u.oneCell' = true) (hs : 0 < size) : ∀ v ∈ cs, v.oneCell' = true := by
  intro v hv
  obtain ⟨j, hj, rfl⟩ := List.getElem_of_mem hv
  have hl := h.1
  have hq : j / size < ps.length := by
    rw [Nat.div_lt_iff_lt_mul hs]; omega
  have h2 := h.2 (j / size) _ (List.getElem?_eq_getElem hq)
  refine hk _ _ h2 _ ?_
  have hm : j % size < size := Nat.mod_lt _ hs
  have he : j / size * size + j % size = j := by rw [Nat.mul_comm]; exact Nat.div_add_mod j size
  rw [List.mem_iff_getElem?]
  refine ⟨j % size, ?_⟩
  rw [List.getElem?_take_of_lt hm, List.getElem?_drop, he, List.getElem?_eq_getElem hj]
theorem reps_ins {α : Type} {R : α → List Value → Prop} {size : Nat} {xs : List α} {inn D : List Value} {c : α} (h : Reps R size xs inn) (hc : R c D) (hD : D.length = size) {i : Nat} (hi : i ≤ xs.length) :
    Reps R size (xs.take i ++ c :: xs.drop i) (inn.take (i * size) ++ D ++ inn.drop (i * size)) := by
  have h1 : Reps R size [c] D := (Reps.none R size).snoc hc hD
  have h2 := Kd.reps_take h hi
  have h3 := Kd.reps_drop (m := i) h
  have h4 := Kd.reps_append (Kd.reps_append h2 h1) h3
  rw [List.append_assoc] at h4
  rw [List.append_assoc] at h4 ⊢
  exact h4
end Go.Proofs.YtmhfkbgdkgfafaaGreatDoor.Ins
end

section
/- slices.Insert of one element at []Value. -/
namespace Go.Proofs.YtmhfkbgdkgfafaaGreatDoor.InsV
open Go.RowKit Go.Lib Go.Proofs.YtmhfkbgdkgfafaaGreatDoor.Ins Go.Proofs.YtmhfkbgdkgfafaaGreatDoor.QJson Go.Proofs.YtmhfkbgdkgfafaaGreatDoorW.PrintWords Go.Proofs.YtmhfkbgdkgfafaaGreatDoorW.PrintLast Go.Proofs.YtmhfkbgdkgfafaaGreatDoorW.PrintMore
set_option linter.unusedVariables false
set_option linter.unusedSimpArgs false

theorem sizeI : (Tryz.prog.info? 26).map (·.size) = some 5 := by kernel_rfl
theorem sizeOfI (w : World) : (sizeOf 26).run Tryz.prog w = .ok 5 w := by
  have h := sizeI
  cases hq : Tryz.prog.info? 26 with
  | none => simp [hq] at h
  | some i =>
    have hi : i.size = 5 := by simpa [hq] using h
    simp [sizeOf, typeInfo, hq, hi]
theorem fOv : Tryz.prog.funcs[101]? = some Tryz.f101 := by kernel_rfl
theorem overlaps_run (w : World) (a b : Addr) (la ca lb cb : Nat) (ca1 cb1 : Array Value) (ta tb : TypeId) (hne : a.block ≠ b.block) (hA : w.heap[a.block]? = some (.cells ca1 ta (0, 0))) (hB : w.heap[b.block]? = some (.cells cb1 tb (0, 0))) (hk : cb1.size ≠ 0) :
    (callFunc 101 #[.slice (some a) la ca, .slice (some b) lb cb]).run Tryz.prog w = .ok (.value (.bool false)) w := by
  rw [run_callFunc_extern fOv (by kernel_rfl) (by kernel_rfl) (by kernel_rfl) (e := Extern.SlicesOverlaps.overlaps #[24, 24] #[4]) (by kernel_rfl),
    Lib.run_overlaps_apart w 24 4 26 Tryz.underlying24 5 sizeOfI a b la ca lb cb hne ta tb ca1.size cb1.size (by simp [World.shape?, hA]) (by simp [World.shape?, hB]) hk (by simp [World.frozen?, hA]) (by simp [World.frozen?, hA])]
  rfl

set_option maxHeartbeats 4000000 in
set_option maxRecDepth 100000 in
/-- There is room: in place. -/
theorem Insert_shift (w : World) (g vb n cap i : Nat) (inn D : List Value) (cur : Array Value) (hin : inn.length = n * 5) (hDl : D.length = 5) (hD1 : ∀ v ∈ D, v.oneCell' = true) (hi1 : ∀ v ∈ inn, v.oneCell' = true) (hi : i < n) (hroom : n + 1 ≤ cap) (hcap : cap ≤ maxLen) (hvb : vb ≠ g) (hg : w.heap[g]? = some (.cells cur 26 (0, 0))) (hv : w.heap[vb]? = some (.cells D.toArray 26 (0, 0)))
    (hsz : cur.size = cap * 5) (hcur : cur.toList.take (n * 5) = inn) :
    Calls Tryz.prog 63 #[.slice (some ⟨g, 0, none⟩) n cap, .int .i64 i, .slice (some ⟨vb, 0, none⟩) 1 1] w fun e w' =>
      e = .returned (.slice (some ⟨g, 0, none⟩) (n + 1) cap) ∧ ∃ cur', w' = w.drew.setRow g cur' ∧ cur'.size = cap * 5 ∧ cur'.toList.take ((n + 1) * 5) = inn.take (i * 5) ++ D ++ inn.drop (i * 5) := by
  have mixed : Tryz.prog.follows .mixedOrders = true := by kernel_rfl
  have hc63 : cap ≤ 9223372036854775807 := by unfold maxLen at hcap; omega
  have hz2 : ¬ ((i : Int) = (n : Int)) := by omega
  have hz3 : ¬ ((cap : Int) < (n : Int) + 1) := by omega
  have hov : ∀ lb cb, (callFunc 101 #[.slice (some ⟨vb, 0, none⟩) 1 1, .slice (some ⟨g, (i + 1) * 5, none⟩) lb cb]).run Tryz.prog w = .ok (.value (.bool false)) w := fun lb cb =>
    overlaps_run w _ _ 1 1 lb cb _ _ _ _ hvb hv hg (by omega)
  obtain ⟨DR, hDR⟩ : ∃ q, q = inn.drop (i * 5) := ⟨_, rfl⟩
  have hDRl : DR.length = (n - i) * 5 := by rw [hDR, List.length_drop, hin]; omega
  have hDR1 : ∀ v ∈ DR, v.oneCell' = true := fun v h => hi1 v (by rw [hDR] at h; exact List.mem_of_mem_drop h)
  have hcell : ∀ j v, DR[j]? = some v → w.cell? ⟨g, i * 5 + j, none⟩ = some v := fun j v hj => by
    have hj1 : j < (n - i) * 5 := by
      have := (List.getElem?_eq_some_iff.1 hj).1
      omega
    rw [hDR, ← hcur, List.getElem?_drop, List.getElem?_take, if_pos (by omega)] at hj
    simpa [World.cell?, hg] using hj
  have hcp1 : ∀ ty dc sc, (Builtin.copy_ #[24, 24] ty #[.slice (some ⟨g, (i + 1) * 5, none⟩) (n - i) dc, .slice (some ⟨g, i * 5, none⟩) (n + 1 - i) sc]).run Tryz.prog w.drew = .ok (goInt (Nat.min (n + 1 - i) (n - i))) (w.drew.setRow g (spl cur.toList ((i + 1) * 5) DR).toArray) := fun ty dc sc => by
    exact run_copy_wide w.drew 24 24 ty 26 5 g ((i + 1) * 5) (n - i) dc ⟨g, i * 5, none⟩ (n + 1 - i) sc cur 26 DR Tryz.underlying24 sizeI hg (by rw [hDRl]; simp only [Nat.min_def]; split <;> omega)
      (fun j v hj => by rw [Addr.add_lit]; exact hcell j v hj) (by rw [hDRl]; omega) hDR1
  obtain ⟨cur1, hcur1⟩ : ∃ cur1, cur1 = (spl cur.toList ((i + 1) * 5) DR).toArray := ⟨_, rfl⟩
  have hc1s : cur1.size = cap * 5 := by rw [hcur1]; exact spl_size cur _ _ _ hsz (by rw [hDRl]; omega)
  rw [← hcur1] at hcp1
  have hg1 : ∀ W : World, W.heap = (w.drew.setRow g cur1).heap → W.heap[g]? = some (.cells cur1 26 (0, 0)) := fun W e => by rw [e]; exact setRow_heap _ _ _ _ _ _ hg
  have hcp2 : ∀ (W : World), W.heap = (w.drew.setRow g cur1).heap → ∀ ty dc, (Builtin.copy_ #[24, 24] ty #[.slice (some ⟨g, i * 5, none⟩) (n + 1 - i) dc, .slice (some ⟨vb, 0, none⟩) 1 1]).run Tryz.prog W = .ok (goInt (Nat.min 1 (n + 1 - i))) (W.setRow g (spl cur1.toList (i * 5) D).toArray) := fun W e ty dc => by
    exact run_copy_wide W 24 24 ty 26 5 g (i * 5) (n + 1 - i) dc ⟨vb, 0, none⟩ 1 1 cur1 26 D Tryz.underlying24 sizeI (hg1 W e) (by rw [hDl]; simp only [Nat.min_def]; split <;> omega)
      (fun j v hj => by
        rw [Addr.add_lit]
        have h2 : W.heap[vb]? = some (.cells D.toArray 26 (0, 0)) := by rw [e, setRow_other _ _ _ _ hvb]; exact hv
        simpa [World.cell?, h2] using hj) (by rw [hDl]; omega) hD1
  have hw1 : IntKind.i64.wrap ((i : Int) + 1) = (i : Int) + 1 := by rw [IntKind.wrap_i64]; omega
  have hw2 : IntKind.i64.wrap ((n : Int) + 1) = (n : Int) + 1 := by rw [IntKind.wrap_i64]; omega
  have hb1 : (0 : Int) ≤ (i : Int) + 1 := by omega
  have hin2 : i ≤ n := by omega
  have htn : ((i : Int) + 1).toNat = i + 1 := by omega
  have htm : ((n : Int) + 1).toNat = n + 1 := by omega
  have hb2 : ¬ (cap = i + 1) := by omega
  have hb3 : (i : Int) ≤ (n : Int) + 1 := by omega
  have hb4 : ¬ (cap = i) := by omega
  have hT : Aside0 ((spl cur1.toList (i * 5) D).take ((n + 1) * 5) = inn.take (i * 5) ++ D ++ inn.drop (i * 5)) := ⟨by
    have h := shift_take cur.toList DR D (i * 5) 5 ((n - i) * 5) hDl hDRl (by rw [Array.length_toList]; omega)
    rw [show i * 5 + 5 = (i + 1) * 5 by omega, show (i + 1) * 5 + (n - i) * 5 = (n + 1) * 5 by omega] at h
    rw [hcur1, h, hDR]
    congr 2
    rw [← hcur, List.take_take, Nat.min_eq_left (by omega)]
    all_goals first | rfl | (rw [Nat.mul_one])⟩
  have hS : Aside0 ((spl cur1.toList (i * 5) D).toArray.size = cap * 5) := Aside0.mk (spl_size cur1 _ _ _ hc1s (by rw [hDl]; omega))
  clear hcell hg1 hDR hDRl hDR1 hcur1 hcur hc1s hsz hin hDl hD1 hi1
  go_enter Tryz.func63, Tryz.ntmps63
  go_wp2_with (simp only [hov])
  go_region_law_o (refine Go.Proofs.step_copy_runI rfl _ _ 24 24 rfl _ _ (by simp [Act.eval, Act.put]) (by simp [Act.eval, Act.put]) (hcp1 _ _ _) ?_)
  go_wp2_with (at_builtin; refine Go.Proofs.wpList_copy_runI _ rfl _ _ 24 24 rfl _ _ rfl rfl (hcp2 _ rfl _ _) ?_)
  go_ret
  exact ⟨rfl, (spl cur1.toList (i * 5) D).toArray, setRow_setRow _ _ _ _, hS.out, hT.out⟩

set_option maxHeartbeats 4000000 in
set_option maxRecDepth 100000 in
/-- There is no room: a new row. -/
theorem Insert_grow (w : World) (g vb n cap i : Nat) (inn D : List Value) (cur : Array Value) (hin : inn.length = n * 5) (hDl : D.length = 5) (hD1 : ∀ v ∈ D, v.oneCell' = true) (hi1 : ∀ v ∈ inn, v.oneCell' = true) (hi : i < n) (hn : n ≤ 1000000) (hnc : n ≤ cap) (hroom : cap < n + 1) (hg : w.heap[g]? = some (.cells cur 26 (0, 0))) (hv : w.heap[vb]? = some (.cells D.toArray 26 (0, 0)))
    (hcur : cur.toList.take (n * 5) = inn) :
    Calls Tryz.prog 63 #[.slice (some ⟨g, 0, none⟩) n cap, .int .i64 i, .slice (some ⟨vb, 0, none⟩) 1 1] w fun e w' =>
      ∃ G cur', e = .returned (.slice (some ⟨w.heap.size, 0, none⟩) (n + 1) G) ∧ n + 1 ≤ G ∧ G ≤ maxLen ∧ Below w.heap.size w w' ∧ w'.heap[w.heap.size]? = some (.cells cur' 26 (0, 0)) ∧ cur'.size = G * 5 ∧ cur'.toList.take ((n + 1) * 5) = inn.take (i * 5) ++ D ++ inn.drop (i * 5) := by
  have mixed : Tryz.prog.follows .mixedOrders = true := by kernel_rfl
  have hz2 : ¬ ((i : Int) = (n : Int)) := by omega
  have hz3 : (cap : Int) < (n : Int) + 1 := by omega
  have hgw : g < w.heap.size := (Array.getElem?_eq_some_iff.1 hg).1
  have hvw : vb < w.heap.size := (Array.getElem?_eq_some_iff.1 hv).1
  obtain ⟨DR, hDR⟩ : ∃ q, q = inn.drop (i * 5) := ⟨_, rfl⟩
  obtain ⟨TK, hTK⟩ : ∃ q, q = inn.take (i * 5) := ⟨_, rfl⟩
  have hDRl : DR.length = (n - i) * 5 := by rw [hDR, List.length_drop, hin]; omega
  have hTKl : TK.length = i * 5 := by rw [hTK, List.length_take, hin]; omega
  have hDR1 : ∀ v ∈ DR, v.oneCell' = true := fun v h => hi1 v (by rw [hDR] at h; exact List.mem_of_mem_drop h)
  have hcell : ∀ j v, DR[j]? = some v → cur[i * 5 + j]? = some v := fun j v hj => by
    have hj1 : j < (n - i) * 5 := by
      have := (List.getElem?_eq_some_iff.1 hj).1
      omega
    rw [hDR, ← hcur, List.getElem?_drop, List.getElem?_take, if_pos (by omega)] at hj
    simpa using hj
  have hcellT : ∀ j v, TK[j]? = some v → cur[j]? = some v := fun j v hj => by
    have hj1 : j < i * 5 := by
      have := (List.getElem?_eq_some_iff.1 hj).1
      omega
    rw [hTK, ← hcur, List.getElem?_take, if_pos (by omega), List.getElem?_take, if_pos (by omega)] at hj
    simpa using hj
  obtain ⟨i0, hi0, hz0, hzs, hzb⟩ := info_parts info26
  have hold : (Builtin.firstCells i0.size i (.slice (some ⟨g, 0, none⟩) i cap)).run Tryz.prog w.drew = .ok TK.toArray w.drew := by
    rw [hzs]
    exact run_firstCells_some w.drew 5 i ⟨g, 0, none⟩ i cap _ (by rw [hTKl]) (fun j v hj => by
      rw [Addr.add_lit, Nat.zero_add]
      have h2 : w.drew.heap[g]? = some (.cells cur 26 (0, 0)) := hg
      simpa [World.cell?, h2] using hcellT j v hj)
  have hik : i + (n + 1 - i) = n + 1 := by omega
  have hkk : (n : Int) + 1 - (i : Int) = ((n + 1 - i : Nat) : Int) := by omega
  obtain ⟨z, hzz⟩ : ∃ z : Value, z = (.agg #[(.int .i64 0), (.int .i64 0), (.string ⟨#[]⟩), (.slice none 0 0), (.slice none 0 0)]) := ⟨_, rfl⟩
  have hzc : z.cells.size = 5 := by rw [hzz]; rfl
  rw [← hzz] at hz0
  obtain ⟨G, hG⟩ : ∃ G, G = grownCap w (n + 1) cap 26 := ⟨_, rfl⟩
  obtain ⟨ROW, hROW⟩ : ∃ ROW : Array Value, ROW = TK.toArray ++ Builtin.zeroCells z.cells (n + 1 - i) ++ Builtin.zeroCells z.cells (G - (n + 1)) := ⟨_, rfl⟩
  have hrz : ∀ ty, (Builtin.append_ #[24, 3] ty #[.slice (some ⟨g, 0, none⟩) i cap, .int .i64 ((n : Int) + 1 - (i : Int))]).run Tryz.prog w =
      .ok (.slice (some ⟨w.heap.size, 0, none⟩) (n + 1) G) (w.drew.alloc (.cells ROW 26)) := fun ty => by
    have h := Lib.run_append_grow_zeros w 24 3 ty 26 i0 z .i64 .i64 Tryz.underlying24 Tryz.underlying3 hi0 hz0 (some ⟨g, 0, none⟩) i cap TK hold (n + 1 - i) (by omega) (by omega) (by omega) (by omega) (by rw [hzb]; omega) (by rw [hzb, hik]; exact growslice_fits hroom (by omega))
    rw [hik, ← hG, ← hROW] at h
    rw [hkk]
    exact h
  have hGn : n + 1 ≤ G := by rw [hG]; exact grownCap_ge w _ _ _
  have hGm : G ≤ maxLen := by rw [hG]; exact grownCap_le_maxLen w (n + 1) cap 26 (by unfold maxLen; omega)
  have hG63 : G ≤ 9223372036854775807 := by unfold maxLen at hGm; omega
  have hRs : ROW.size = G * 5 := by
    rw [hROW]
    simp only [Array.size_append, List.size_toArray, zero_size z 5 hzc, hTKl]
    omega
  have hRt : ROW.toList.take (i * 5) = TK := by
    rw [hROW, Array.toList_append, Array.toList_append, List.append_assoc]
    exact List.take_left' hTKl
  have hNg : g ≠ w.heap.size := by omega
  have hNv : vb ≠ w.heap.size := by omega
  obtain ⟨W1, hW1⟩ : ∃ W1, W1 = w.drew.alloc (.cells ROW 26) := ⟨_, rfl⟩
  have hN1 : W1.heap[w.heap.size]? = some (.cells ROW 26 (0, 0)) := by
    rw [hW1]
    show (w.heap.push _)[w.heap.size]? = _
    rw [Array.getElem?_push_size]
  have hv1 : W1.heap[vb]? = some (.cells D.toArray 26 (0, 0)) := by
    rw [hW1]
    show (w.heap.push _)[vb]? = _
    rw [Array.getElem?_push_lt hvw, ← Array.getElem?_eq_getElem hvw]; exact hv
  have hg1 : W1.heap[g]? = some (.cells cur 26 (0, 0)) := by
    rw [hW1]
    show (w.heap.push _)[g]? = _
    rw [Array.getElem?_push_lt hgw, ← Array.getElem?_eq_getElem hgw]; exact hg
  obtain ⟨A1, hA1⟩ : ∃ A1, A1 = (spl ROW.toList (i * 5) D).toArray := ⟨_, rfl⟩
  have hA1s : A1.size = G * 5 := by
    rw [hA1]; exact spl_size ROW _ _ _ hRs (by rw [hDl]; omega)
  have hcpA : ∀ (W : World), W.heap = W1.heap → ∀ ty dc, (Builtin.copy_ #[24, 24] ty #[.slice (some ⟨w.heap.size, i * 5, none⟩) (n + 1 - i) dc, .slice (some ⟨vb, 0, none⟩) 1 1]).run Tryz.prog W = .ok (goInt (Nat.min 1 (n + 1 - i))) (W.setRow w.heap.size A1) := fun W e ty dc => by
    rw [hA1]
    exact run_copy_wide W 24 24 ty 26 5 w.heap.size (i * 5) (n + 1 - i) dc ⟨vb, 0, none⟩ 1 1 ROW 26 D Tryz.underlying24 sizeI (by rw [e]; exact hN1) (by rw [hDl]; simp only [Nat.min_def]; split <;> omega)
      (fun j v hj => by
        rw [Addr.add_lit]
        have h2 : W.heap[vb]? = some (.cells D.toArray 26 (0, 0)) := by rw [e]; exact hv1
        simpa [World.cell?, h2] using hj) (by rw [hDl]; omega) hD1
  obtain ⟨A2, hA2⟩ : ∃ A2, A2 = (spl A1.toList ((i + 1) * 5) DR).toArray := ⟨_, rfl⟩
  have hcpB : ∀ (W : World), W.heap = (W1.setRow w.heap.size A1).heap → ∀ ty dc sc, (Builtin.copy_ #[24, 24] ty #[.slice (some ⟨w.heap.size, (i + 1) * 5, none⟩) (n - i) dc, .slice (some ⟨g, i * 5, none⟩) (n - i) sc]).run Tryz.prog W = .ok (goInt (Nat.min (n - i) (n - i))) (W.setRow w.heap.size A2) := fun W e ty dc sc => by
    rw [hA2]
    exact run_copy_wide W 24 24 ty 26 5 w.heap.size ((i + 1) * 5) (n - i) dc ⟨g, i * 5, none⟩ (n - i) sc A1 26 DR Tryz.underlying24 sizeI (by rw [e]; exact setRow_heap _ _ _ _ _ _ hN1) (by rw [hDRl]; simp only [Nat.min_def]; split <;> omega)
      (fun j v hj => by
        rw [Addr.add_lit]
        have h2 : W.heap[g]? = some (.cells cur 26 (0, 0)) := by rw [e, setRow_other _ _ _ _ hNg]; exact hg1
        simpa [World.cell?, h2] using hcell j v hj) (by rw [hDRl]; omega) hDR1
  have hT : Aside0 (A2.toList.take ((n + 1) * 5) = inn.take (i * 5) ++ D ++ inn.drop (i * 5)) := Aside0.mk (by
    have h := grow_take ROW.toList DR D (i * 5) 5 ((n - i) * 5) hDl hDRl (by rw [Array.length_toList]; omega)
    rw [show i * 5 + 5 = (i + 1) * 5 by omega, show (i + 1) * 5 + (n - i) * 5 = (n + 1) * 5 by omega] at h
    rw [hA2, hA1]
    show (spl (spl ROW.toList (i * 5) D) ((i + 1) * 5) DR).take _ = _
    have e0 : ROW.toList.take (i * 5) = TK := by
      have h0 := hRt
      first | exact h0 | (rw [Nat.mul_one] at h0; exact h0)
    rw [h, e0, hTK, hDR])
  have hA2s : Aside0 (A2.size = G * 5) := Aside0.mk (by
    rw [hA2]; exact spl_size A1 _ _ _ hA1s (by rw [hDRl]; omega))
  have hB1 := Aside0.mk (show Below w.heap.size w W1 by rw [hW1]; exact (Below.refl _ _).drew.alloc (Nat.le_refl _) _)
  have hW := Aside0.mk hW1
  have hN := Aside0.mk hN1
  have hNN := Aside0.mk hGn
  have hMM := Aside0.mk hGm
  have hw1 : IntKind.i64.wrap ((i : Int) + 1) = (i : Int) + 1 := by rw [IntKind.wrap_i64]; omega
  have hw2 : IntKind.i64.wrap ((n : Int) + 1) = (n : Int) + 1 := by rw [IntKind.wrap_i64]; omega
  have hw3 : IntKind.i64.wrap ((n : Int) + 1 - (i : Int)) = (n : Int) + 1 - (i : Int) := by rw [IntKind.wrap_i64]; omega
  have hb1 : (0 : Int) ≤ (i : Int) + 1 := by omega
  have hin2 : i ≤ n := by omega
  have htn : ((i : Int) + 1).toNat = i + 1 := by omega
  have hGi : ¬ (G = i) := by omega
  have hGim : ¬ (G = i + 1) := by omega
  have hci : ¬ (cap = i) := by omega
  have hb3 : (i : Int) ≤ (n : Int) := by omega
  rw [← hW1] at hrz
  clear hcell hcellT hold hROW hG hRs hRt hA1 hA2 hA1s hDR hTK hDRl hTKl hDR1 hik hkk hcur hzz hzc hz0 hzs hzb hi0 hg1 hv1 hN1 hGn hGm hW1 hin hDl hD1 hi1
  go_enter Tryz.func63, Tryz.ntmps63
  go_wp2_with (first
    | (at_builtin; refine Lib.wpList_append_run _ rfl _ _ _ _ rfl _ _ rfl rfl _ _ (hrz _) ?_)
    | (at_builtin; refine Go.Proofs.wpList_copy_runI _ rfl _ _ 24 24 rfl _ _ rfl rfl (hcpA _ rfl _ _) ?_)
    | (at_builtin; refine Go.Proofs.wpList_copy_runI _ rfl _ _ 24 24 rfl _ _ rfl rfl (hcpB _ rfl _ _ _) ?_))
  go_region_law_o (refine Go.Proofs.step_copy_runI rfl _ _ 24 24 rfl (.slice (some ⟨w.heap.size, (i + 1) * 5, none⟩) (n - i) (G - (i + 1))) (.slice (some ⟨g, i * 5, none⟩) (n - i) (cap - i)) (by simp [Act.eval, Act.put]) (by simp [Act.eval, Act.put]) (hcpB _ (by rfl) 3 (G - (i + 1)) (cap - i)) ?_)
  go_wp2
  go_ret
  refine ⟨G, A2, rfl, hNN.out, hMM.out, ?_, ?_, hA2s.out, hT.out⟩
  · exact below_setRow (below_drew1 (below_setRow hB1.out (Nat.le_refl _) _)) (Nat.le_refl _) _
  · exact setRow_heap _ _ _ _ _ _ (setRow_heap _ _ _ _ _ _ hN.out)

/-- One element that lies in a block of its own. -/
theorem one_reads {w : World} {vb : Nat} {c : S26} {D : List Value} (hD : D.length = 5) (hv : w.heap[vb]? = some (.cells D.toArray 26 (0, 0))) : ReadsRow (fun (x : S26) cs => x = c ∧ cs = D) 5 w (some ⟨vb, 0, none⟩) 1 [c] := by
  refine ⟨rfl, by omega, fun _ => ⟨_, rfl, fun j p hj => ?_⟩⟩
  cases j with
  | zero =>
    injection hj with hj
    subst hj
    refine ⟨D, hD, ⟨rfl, rfl⟩, fun k u hk => ?_⟩
    rw [Addr.add_lit]
    simpa [World.cell?, hv] using hk
  | succ j => cases hj

set_option maxHeartbeats 4000000 in
set_option maxRecDepth 100000 in
/-- At the end. -/
theorem Insert_end1 (w : World) (base vb : Nat) (ok okp : Nat → Prop) (A : Option Addr) (cp : Nat) (xs : List S26) (c : S26) (D : List Value) (hcp : xs.length < cp) (hl : xs.length ≤ 1000000) (hbase : base ≤ w.heap.size) (hfresh : ∀ k, w.heap.size ≤ k → ok k) (HO : k26.R 26 w base ok (.slice A xs.length cp) xs) (hM : k26.M w base okp c D) (hokp : ∀ k, okp k → ok k ∧ some k ≠ (Value.slice A xs.length cp).ownBlock) (hv : w.heap[vb]? = some (.cells D.toArray 26 (0, 0))) :
    Calls Tryz.prog 63 #[.slice A xs.length cp, .int .i64 xs.length, .slice (some ⟨vb, 0, none⟩) 1 1] w fun e w' => ∃ v', e = .returned v' ∧ k26.R 26 w' base ok v' (xs ++ [c]) ∧ Below base w w' ∧ w.grownBy w' (Value.slice A xs.length cp).ownBlock ∧ (v'.ownBlock = (Value.slice A xs.length cp).ownBlock ∨ ∃ b, v'.ownBlock = some b ∧ w.heap.size ≤ b) := by
  have HR := Aside0.mk HO
  have HC := Aside0.mk (one_reads (c := c) (k26.K_len (k26.K_of_M hM)) hv)
  have HM := Aside0.mk hM
  have HF := Aside0.mk hfresh
  have HP := Aside0.mk hokp
  have HL := Aside0.mk (show (xs.length + 1) * 80 ≤ 140737488355328 by omega)
  have hne : ¬ (cp = xs.length) := by omega
  clear hfresh HO hv hM hokp
  go_enter Tryz.func63, Tryz.ntmps63
  go_wp2_with (first | (at_builtin; refine Kd.R_append_rows k26 (w0 := w) base rfl (.tmp 23) (.tmp 24) 24 26 (.agg #[(.int .i64 0), (.int .i64 0), (.string ⟨#[]⟩), (.slice none 0 0), (.slice none 0 0)]) 80 rfl Tryz.underlying24 info26 rfl (by decide) (by decide) (.slice A xs.length cp) xs [c] _ _ _ ok okp rfl rfl HR.out HC.out (fun x cs h => by rw [h.1, h.2]; exact HM.out) HP.out HF.out (Below.refl _ _) hbase HL.out ?_; intro v1 w1 ho hb hg hat; have H1 := Aside0.mk ho; have H2 := Aside0.mk hb; have H3 := Aside0.mk hat; have H4 := Aside0.mk hg; clear ho hb hat hg))
  go_ret
  exact ⟨_, rfl, H1.out, H2.out, H4.out, H3.out⟩
set_option maxHeartbeats 4000000 in
set_option maxRecDepth 100000 in
/-- At the end. -/
theorem Insert_end2 (w : World) (base vb : Nat) (ok okp : Nat → Prop) (A : Option Addr) (xs : List S26) (c : S26) (D : List Value) (hl : xs.length ≤ 1000000) (hbase : base ≤ w.heap.size) (hfresh : ∀ k, w.heap.size ≤ k → ok k) (HO : k26.R 26 w base ok (.slice A xs.length xs.length) xs) (hM : k26.M w base okp c D) (hokp : ∀ k, okp k → ok k ∧ some k ≠ (Value.slice A xs.length xs.length).ownBlock) (hv : w.heap[vb]? = some (.cells D.toArray 26 (0, 0))) :
    Calls Tryz.prog 63 #[.slice A xs.length xs.length, .int .i64 xs.length, .slice (some ⟨vb, 0, none⟩) 1 1] w fun e w' => ∃ v', e = .returned v' ∧ k26.R 26 w' base ok v' (xs ++ [c]) ∧ Below base w w' ∧ w.grownBy w' (Value.slice A xs.length xs.length).ownBlock ∧ (v'.ownBlock = (Value.slice A xs.length xs.length).ownBlock ∨ ∃ b, v'.ownBlock = some b ∧ w.heap.size ≤ b) := by
  have HR := Aside0.mk HO
  have HC := Aside0.mk (one_reads (c := c) (k26.K_len (k26.K_of_M hM)) hv)
  have HM := Aside0.mk hM
  have HF := Aside0.mk hfresh
  have HP := Aside0.mk hokp
  have HL := Aside0.mk (show (xs.length + 1) * 80 ≤ 140737488355328 by omega)
  clear hfresh HO hv hM hokp
  go_enter Tryz.func63, Tryz.ntmps63
  go_wp2_with (first | (at_builtin; refine Kd.R_append_rows k26 (w0 := w) base rfl (.tmp 23) (.tmp 24) 24 26 (.agg #[(.int .i64 0), (.int .i64 0), (.string ⟨#[]⟩), (.slice none 0 0), (.slice none 0 0)]) 80 rfl Tryz.underlying24 info26 rfl (by decide) (by decide) (.slice A xs.length xs.length) xs [c] _ _ _ ok okp rfl rfl HR.out HC.out (fun x cs h => by rw [h.1, h.2]; exact HM.out) HP.out HF.out (Below.refl _ _) hbase HL.out ?_; intro v1 w1 ho hb hg hat; have H1 := Aside0.mk ho; have H2 := Aside0.mk hb; have H3 := Aside0.mk hat; have H4 := Aside0.mk hg; clear ho hb hat hg))
  go_ret
  exact ⟨_, rfl, H1.out, H2.out, H4.out, H3.out⟩

/-- slices.Insert of one element. -/
theorem Insert_calls (w : World) (base vb i : Nat) (ok okp : Nat → Prop) (v : Value) (xs : List S26) (c : S26) (D : List Value) (hi : i ≤ xs.length) (hl : xs.length ≤ 1000000) (hbase : base ≤ w.heap.size) (hfresh : ∀ k, w.heap.size ≤ k → ok k) (HO : k26.R 26 w base ok v xs) (hM : k26.M w base okp c D) (hokp : ∀ k, okp k → ok k ∧ some k ≠ v.ownBlock) (hv : w.heap[vb]? = some (.cells D.toArray 26 (0, 0))) (hvb : v.ownBlock ≠ some vb) :
    Calls Tryz.prog 63 #[v, .int .i64 i, .slice (some ⟨vb, 0, none⟩) 1 1] w fun e w' => ∃ v', e = .returned v' ∧ k26.R 26 w' base ok v' (xs.take i ++ c :: xs.drop i) ∧ w.grownBy w' v.ownBlock ∧ (v'.ownBlock = v.ownBlock ∨ ∃ b, v'.ownBlock = some b ∧ w.heap.size ≤ b) := by
  have hxl : (xs.take i ++ c :: xs.drop i).length = xs.length + 1 := by rw [List.length_append, List.length_cons, List.length_take, List.length_drop]; omega
  by_cases he : i = xs.length
  · subst he
    rw [List.take_of_length_le (Nat.le_refl _), List.drop_of_length_le (Nat.le_refl _)]
    obtain ⟨A, cp, rfl, hcp, -⟩ := Kd.R_reads HO
    rcases Nat.eq_or_lt_of_le hcp with h | h
    · subst h
      refine (Insert_end2 w base vb ok okp A xs c D hl hbase hfresh HO hM hokp hv).mono ?_
      rintro e w' ⟨v', h1, h2, _, h3, h4⟩
      exact ⟨v', h1, h2, h3, h4⟩
    · refine (Insert_end1 w base vb ok okp A cp xs c D h hl hbase hfresh HO hM hokp hv).mono ?_
      rintro e w' ⟨v', h1, h2, _, h3, h4⟩
      exact ⟨v', h1, h2, h3, h4⟩
  · have hDl := k26.K_len (k26.K_of_M hM)
    have hD1 := k26.K_one (k26.K_of_M hM)
    rcases row_open HO with ⟨rfl, rfl⟩ | ⟨g, cap, cur, inn, rfl, hb, hok, hg, h1, h2, h3, h4, hr⟩
    · exact absurd hi (by simp only [List.length_nil] at *; omega)
    · have hob : (Value.slice (some ⟨g, 0, none⟩) xs.length cap).ownBlock = some g := by simp [Value.ownBlock]
      have hvg : vb ≠ g := fun e => hvb (by rw [e, hob])
      have hi1 := reps_one hr (fun _ => True) (fun p c h => k26.K_one (k26.K_of_M h)) (by decide)
      rw [hob] at hokp hr ⊢
      have hr' : Reps (k26.M w base (fun k => ok k ∧ some k ≠ some g ∧ k < w.heap.size)) k26.sz xs inn := hr.imp_ (fun p c h => k26.M_mono (fun k hk => ⟨hk.1.1, hk.1.2, hk.2.2.1⟩) (k26.M_bound h))
      have hM' : k26.M w base (fun k => ok k ∧ some k ≠ some g ∧ k < w.heap.size) c D := k26.M_mono (fun k hk => ⟨(hokp k hk.1).1, (hokp k hk.1).2, hk.2.2.1⟩) (k26.M_bound hM)
      have hins := reps_ins hr' hM' hDl (i := i) hi
      by_cases hroom : xs.length + 1 ≤ cap
      · refine (Insert_shift w g vb xs.length cap i inn D cur hr.1 hDl hD1 hi1 (by omega) hroom h2 hvg hg hv h3 h4).mono ?_
        rintro e w' ⟨rfl, cur', rfl, h5, h6⟩
        have hgr : w.grownBy (w.drew.setRow g cur') (some g) := ⟨rfl, rfl, rfl, (below_setRow (below_drew1 (Below.refl 0 w)) (Nat.zero_le g) cur').size, fun k hk hne => setRow_other _ _ _ _ (fun e => hne (by rw [e]))⟩
        refine ⟨_, rfl, ?_, hgr, .inl (by simp [Value.ownBlock])⟩
        rw [← hxl] at h6 hroom ⊢
        exact row_close (d := k26) hb hok (setRow_heap _ _ _ _ _ _ hg) hroom h2 h5 h6 (hins.imp_ (fun p c h => k26.M_mono (fun k hk => ⟨hk.1, fun e => hk.2.1 (by rw [e])⟩) (k26.M_move (w1 := w.drew.setRow g cur') (fun k hk => (show (w.drew.setRow g cur').heap[k]? = w.heap[k]? from setRow_other _ _ _ _ (fun e => hk.2.1 (by rw [e])))) h)))
      · refine (Insert_grow w g vb xs.length cap i inn D cur hr.1 hDl hD1 hi1 (by omega) hl h1 (by omega) hg hv h4).mono ?_
        rintro e w' ⟨G, cur', rfl, h5, h6, h7, h8, h9, h10⟩
        refine ⟨_, rfl, ?_, grown_of_below h7 _, .inr ⟨_, rfl, Nat.le_refl _⟩⟩
        rw [← hxl] at h5 h10 ⊢
        exact row_close (d := k26) hbase (hfresh _ (Nat.le_refl _)) h8 h5 h6 h9 h10 (hins.imp_ (fun p c h => k26.M_mono (fun k hk => ⟨hk.1, by have := hk.2.2; omega⟩) (k26.M_move (fun k hk => h7.block k hk.2.2) h)))

set_option maxHeartbeats 4000000 in
set_option maxRecDepth 100000 in
/-- At the end, its cells. -/
theorem Insert_end (w : World) (base vb n : Nat) (v : Value) (inn D : List Value) (hown : w.ownsRow base 26 5 v n inn) (hDl : D.length = 5) (hD1 : ∀ u ∈ D, u.oneCell' = true) (hl : n ≤ 1000000) (hbase : base ≤ w.heap.size) (hv : w.heap[vb]? = some (.cells D.toArray 26 (0, 0))) :
    Calls Tryz.prog 63 #[v, .int .i64 n, .slice (some ⟨vb, 0, none⟩) 1 1] w fun e w' => ∃ v', e = .returned v' ∧ w'.ownsRow base 26 5 v' (n + 1) (inn ++ D) ∧ w.grownBy w' v.ownBlock ∧ (v'.ownBlock = v.ownBlock ∨ ∃ b, v'.ownBlock = some b ∧ w.heap.size ≤ b) := by
  obtain ⟨i0, hi0, hz0, hzs, hzb⟩ := info_parts info26
  obtain ⟨v1, w1, hr, ho1, hg1, _, hat⟩ := run_append_own_at (P := Tryz.prog) w base 24 24 26 i0 (.agg #[(.int .i64 0), (.int .i64 0), (.string ⟨#[]⟩), (.slice none 0 0), (.slice none 0 0)]) 5 80 Tryz.underlying24 hi0 hz0 hzs hzb rfl (by decide) v n inn hown ⟨vb, 0, none⟩ 1 1 D (by rw [hDl]) (fun j u hj => by
    rw [Addr.add_lit]
    simpa [World.cell?, hv] using hj) hD1 (by unfold maxLen; omega) (by omega) hbase
  have HH := Aside0.mk (And.intro ho1 (And.intro hg1 hat))
  obtain ⟨A0, c0, hv0⟩ := own_slice hown
  have hle := own_cap (hv0 ▸ hown)
  subst hv0
  have hr' : ∀ ty, ty = 24 → (Builtin.append_ #[24, 24] ty #[.slice A0 n c0, .slice (some ⟨vb, 0, none⟩) 1 1]).run Tryz.prog w = .ok v1 w1 := fun ty h => by rw [h]; exact hr
  clear ho1 hg1 hat hown hv hr hi0 hz0 hzs hzb
  by_cases hcn : c0 = n
  · subst hcn
    go_enter Tryz.func63, Tryz.ntmps63
    go_wp2_with (first
      | (at_builtin; refine Lib.wpList_append_run _ rfl _ _ _ _ rfl _ _ rfl rfl _ _ (hr' _ rfl) ?_))
    go_ret
    exact ⟨_, rfl, HH.out.1, HH.out.2.1, HH.out.2.2.elim .inl (fun h => .inr ⟨_, h, Nat.le_refl _⟩)⟩
  · go_enter Tryz.func63, Tryz.ntmps63
    go_wp2_with (first
      | (at_builtin; refine Lib.wpList_append_run _ rfl _ _ _ _ rfl _ _ rfl rfl _ _ (hr' _ rfl) ?_))
    go_ret
    exact ⟨_, rfl, HH.out.1, HH.out.2.1, HH.out.2.2.elim .inl (fun h => .inr ⟨_, h, Nat.le_refl _⟩)⟩

/-- slices.Insert of one element: what lies within stays where it was. -/
theorem Insert_strong (w : World) (base vb i : Nat) (ok okI : Nat → Prop) (v : Value) (xs : List S26) (c : S26) (D : List Value) (hi : i ≤ xs.length) (hl : xs.length ≤ 1000000) (hbase : base ≤ w.heap.size) (HO : k26.R 26 w base ok v xs) (hM : k26.M w base okI c D) (hin : ∀ k, ok k → some k ≠ v.ownBlock → okI k) (hI : ∀ k, okI k → some k ≠ v.ownBlock ∧ k < w.heap.size) (hv : w.heap[vb]? = some (.cells D.toArray 26 (0, 0))) (hvb : v.ownBlock ≠ some vb) :
    Calls Tryz.prog 63 #[v, .int .i64 i, .slice (some ⟨vb, 0, none⟩) 1 1] w fun e w' => ∃ v', e = .returned v' ∧ OwnRow (k26.M w' base okI) 26 5 w' base v' (xs.take i ++ c :: xs.drop i) ∧ w.grownBy w' v.ownBlock ∧ (v'.ownBlock = v.ownBlock ∨ ∃ b, v'.ownBlock = some b ∧ w.heap.size ≤ b) := by
  have hDl := k26.K_len (k26.K_of_M hM)
  have hD1 := k26.K_one (k26.K_of_M hM)
  have hxl : (xs.take i ++ c :: xs.drop i).length = xs.length + 1 := by rw [List.length_append, List.length_cons, List.length_take, List.length_drop]; omega
  have hmove : ∀ w', w.grownBy w' v.ownBlock → ∀ p cs, k26.M w base okI p cs → k26.M w' base okI p cs := fun w' hg p cs h => k26.M_move (fun k hk => hg.block k (hI k hk).2 (hI k hk).1) h
  obtain ⟨hok, inner, hown, hr⟩ := HO
  have hr' : Reps (k26.M w base okI) k26.sz xs inner := hr.imp_ (fun p cs h => k26.M_mono (fun k hk => hin k hk.1 hk.2) h)
  have hins := reps_ins hr' hM hDl (i := i) hi
  by_cases he : i = xs.length
  · subst he
    refine (Insert_end w base vb xs.length v inner D hown hDl hD1 hl hbase hv).mono ?_
    rintro e w' ⟨v', rfl, h1, h2, h3⟩
    refine ⟨v', rfl, ⟨inner.take (xs.length * 5) ++ D ++ inner.drop (xs.length * 5), ?_, hins.imp_ (hmove w' h2)⟩, h2, h3⟩
    have hil : inner.length = xs.length * 5 := hr.1
    rw [hxl, List.take_of_length_le (by omega), List.drop_of_length_le (by omega), List.append_nil]
    exact h1
  · rcases hown.2 with ⟨rfl, hn⟩ | ⟨g, cap, cur, rfl, hb, hg, h1, h2, h3, h4⟩
    · exact absurd hi (by omega)
    · have hob : (Value.slice (some ⟨g, 0, none⟩) xs.length cap).ownBlock = some g := by simp [Value.ownBlock]
      have hvg : vb ≠ g := fun e => hvb (by rw [e, hob])
      have hi1 := reps_one hr (fun _ => True) (fun p c h => k26.K_one (k26.K_of_M h)) (by decide)
      by_cases hroom : xs.length + 1 ≤ cap
      · refine (Insert_shift w g vb xs.length cap i inner D cur hr.1 hDl hD1 hi1 (by omega) hroom h2 hvg hg hv h3 h4).mono ?_
        rintro e w' ⟨rfl, cur', rfl, h5, h6⟩
        have hgr : w.grownBy (w.drew.setRow g cur') (some g) := ⟨rfl, rfl, rfl, (below_setRow (below_drew1 (Below.refl 0 w)) (Nat.zero_le g) cur').size, fun k hk hne => setRow_other _ _ _ _ (fun e => hne (by rw [e]))⟩
        rw [hob] at hmove ⊢
        refine ⟨_, rfl, ⟨_, ?_, hins.imp_ (hmove _ hgr)⟩, hgr, .inl (by simp [Value.ownBlock])⟩
        rw [hxl]
        exact ⟨(by have h := hins.1; rw [hxl] at h; exact h), .inr ⟨g, cap, cur', rfl, hb, setRow_heap _ _ _ _ _ _ hg, hroom, h2, h5, h6⟩⟩
      · refine (Insert_grow w g vb xs.length cap i inner D cur hr.1 hDl hD1 hi1 (by omega) hl h1 (by omega) hg hv h4).mono ?_
        rintro e w' ⟨G, cur', rfl, h5, h6, h7, h8, h9, h10⟩
        have hgr := grown_of_below h7 (Value.slice (some ⟨g, 0, none⟩) xs.length cap).ownBlock
        refine ⟨_, rfl, ⟨_, ?_, hins.imp_ (hmove _ hgr)⟩, hgr, .inr ⟨_, rfl, Nat.le_refl _⟩⟩
        rw [hxl]
        exact ⟨(by have h := hins.1; rw [hxl] at h; exact h), .inr ⟨w.heap.size, G, cur', rfl, hbase, h8, h5, h6, h9, h10⟩⟩

end Go.Proofs.YtmhfkbgdkgfafaaGreatDoor.InsV
end

section
/- slices.Insert of one element at []string. -/
namespace Go.Proofs.YtmhfkbgdkgfafaaGreatDoor.InsS
open Go.RowKit Go.Lib Go.Proofs.YtmhfkbgdkgfafaaGreatDoor.Ins Go.Proofs.YtmhfkbgdkgfafaaGreatDoor.QJson Go.Proofs.YtmhfkbgdkgfafaaGreatDoorW.PrintWords Go.Proofs.YtmhfkbgdkgfafaaGreatDoorW.PrintLast Go.Proofs.YtmhfkbgdkgfafaaGreatDoorW.PrintMore
set_option linter.unusedVariables false
set_option linter.unusedSimpArgs false

theorem sizeI : (Tryz.prog.info? 9).map (·.size) = some 1 := by kernel_rfl
theorem sizeOfI (w : World) : (sizeOf 9).run Tryz.prog w = .ok 1 w := by
  have h := sizeI
  cases hq : Tryz.prog.info? 9 with
  | none => simp [hq] at h
  | some i =>
    have hi : i.size = 1 := by simpa [hq] using h
    simp [sizeOf, typeInfo, hq, hi]
theorem fOv : Tryz.prog.funcs[99]? = some Tryz.f99 := by kernel_rfl
theorem overlaps_run (w : World) (a b : Addr) (la ca lb cb : Nat) (ca1 cb1 : Array Value) (ta tb : TypeId) (hne : a.block ≠ b.block) (hA : w.heap[a.block]? = some (.cells ca1 ta (0, 0))) (hB : w.heap[b.block]? = some (.cells cb1 tb (0, 0))) (hk : cb1.size ≠ 0) :
    (callFunc 99 #[.slice (some a) la ca, .slice (some b) lb cb]).run Tryz.prog w = .ok (.value (.bool false)) w := by
  rw [run_callFunc_extern fOv (by kernel_rfl) (by kernel_rfl) (by kernel_rfl) (e := Extern.SlicesOverlaps.overlaps #[23, 23] #[4]) (by kernel_rfl),
    Lib.run_overlaps_apart w 23 4 9 Tryz.underlying23 1 sizeOfI a b la ca lb cb hne ta tb ca1.size cb1.size (by simp [World.shape?, hA]) (by simp [World.shape?, hB]) hk (by simp [World.frozen?, hA]) (by simp [World.frozen?, hA])]
  rfl

set_option maxHeartbeats 4000000 in
set_option maxRecDepth 100000 in
/-- There is room: in place. -/
theorem Insert_shift (w : World) (g vb n cap i : Nat) (inn D : List Value) (cur : Array Value) (hin : inn.length = n * 1) (hDl : D.length = 1) (hD1 : ∀ v ∈ D, v.oneCell' = true) (hi1 : ∀ v ∈ inn, v.oneCell' = true) (hi : i < n) (hroom : n + 1 ≤ cap) (hcap : cap ≤ maxLen) (hvb : vb ≠ g) (hg : w.heap[g]? = some (.cells cur 9 (0, 0))) (hv : w.heap[vb]? = some (.cells D.toArray 9 (0, 0)))
    (hsz : cur.size = cap * 1) (hcur : cur.toList.take (n * 1) = inn) :
    Calls Tryz.prog 62 #[.slice (some ⟨g, 0, none⟩) n cap, .int .i64 i, .slice (some ⟨vb, 0, none⟩) 1 1] w fun e w' =>
      e = .returned (.slice (some ⟨g, 0, none⟩) (n + 1) cap) ∧ ∃ cur', w' = w.drew.setRow g cur' ∧ cur'.size = cap * 1 ∧ cur'.toList.take ((n + 1) * 1) = inn.take (i * 1) ++ D ++ inn.drop (i * 1) := by
  have mixed : Tryz.prog.follows .mixedOrders = true := by kernel_rfl
  have hc63 : cap ≤ 9223372036854775807 := by unfold maxLen at hcap; omega
  have hz2 : ¬ ((i : Int) = (n : Int)) := by omega
  have hz3 : ¬ ((cap : Int) < (n : Int) + 1) := by omega
  have hov : ∀ lb cb, (callFunc 99 #[.slice (some ⟨vb, 0, none⟩) 1 1, .slice (some ⟨g, i + 1, none⟩) lb cb]).run Tryz.prog w = .ok (.value (.bool false)) w := fun lb cb =>
    overlaps_run w _ _ 1 1 lb cb _ _ _ _ hvb hv hg (by omega)
  obtain ⟨DR, hDR⟩ : ∃ q, q = inn.drop (i * 1) := ⟨_, rfl⟩
  have hDRl : DR.length = (n - i) * 1 := by rw [hDR, List.length_drop, hin]; omega
  have hDR1 : ∀ v ∈ DR, v.oneCell' = true := fun v h => hi1 v (by rw [hDR] at h; exact List.mem_of_mem_drop h)
  have hcell : ∀ j v, DR[j]? = some v → w.cell? ⟨g, i + j, none⟩ = some v := fun j v hj => by
    have hj1 : j < (n - i) * 1 := by
      have := (List.getElem?_eq_some_iff.1 hj).1
      omega
    rw [hDR, ← hcur, List.getElem?_drop, List.getElem?_take, if_pos (by omega)] at hj
    simpa [World.cell?, hg] using hj
  have hcp1 : ∀ ty dc sc, (Builtin.copy_ #[23, 23] ty #[.slice (some ⟨g, i + 1, none⟩) (n - i) dc, .slice (some ⟨g, i, none⟩) (n + 1 - i) sc]).run Tryz.prog w.drew = .ok (goInt (Nat.min (n + 1 - i) (n - i))) (w.drew.setRow g (spl cur.toList (i + 1) DR).toArray) := fun ty dc sc => by
    exact run_copy_wide w.drew 23 23 ty 9 1 g (i + 1) (n - i) dc ⟨g, i, none⟩ (n + 1 - i) sc cur 9 DR Tryz.underlying23 sizeI hg (by rw [hDRl]; simp only [Nat.min_def]; split <;> omega)
      (fun j v hj => by rw [Addr.add_lit]; exact hcell j v hj) (by rw [hDRl]; omega) hDR1
  obtain ⟨cur1, hcur1⟩ : ∃ cur1, cur1 = (spl cur.toList (i + 1) DR).toArray := ⟨_, rfl⟩
  have hc1s : cur1.size = cap * 1 := by rw [hcur1]; exact spl_size cur _ _ _ hsz (by rw [hDRl]; omega)
  rw [← hcur1] at hcp1
  have hg1 : ∀ W : World, W.heap = (w.drew.setRow g cur1).heap → W.heap[g]? = some (.cells cur1 9 (0, 0)) := fun W e => by rw [e]; exact setRow_heap _ _ _ _ _ _ hg
  have hcp2 : ∀ (W : World), W.heap = (w.drew.setRow g cur1).heap → ∀ ty dc, (Builtin.copy_ #[23, 23] ty #[.slice (some ⟨g, i, none⟩) (n + 1 - i) dc, .slice (some ⟨vb, 0, none⟩) 1 1]).run Tryz.prog W = .ok (goInt (Nat.min 1 (n + 1 - i))) (W.setRow g (spl cur1.toList (i) D).toArray) := fun W e ty dc => by
    exact run_copy_wide W 23 23 ty 9 1 g (i) (n + 1 - i) dc ⟨vb, 0, none⟩ 1 1 cur1 9 D Tryz.underlying23 sizeI (hg1 W e) (by rw [hDl]; simp only [Nat.min_def]; split <;> omega)
      (fun j v hj => by
        rw [Addr.add_lit]
        have h2 : W.heap[vb]? = some (.cells D.toArray 9 (0, 0)) := by rw [e, setRow_other _ _ _ _ hvb]; exact hv
        simpa [World.cell?, h2] using hj) (by rw [hDl]; omega) hD1
  have hw1 : IntKind.i64.wrap ((i : Int) + 1) = (i : Int) + 1 := by rw [IntKind.wrap_i64]; omega
  have hw2 : IntKind.i64.wrap ((n : Int) + 1) = (n : Int) + 1 := by rw [IntKind.wrap_i64]; omega
  have hb1 : (0 : Int) ≤ (i : Int) + 1 := by omega
  have hin2 : i ≤ n := by omega
  have htn : ((i : Int) + 1).toNat = i + 1 := by omega
  have htm : ((n : Int) + 1).toNat = n + 1 := by omega
  have hb2 : ¬ (cap = i + 1) := by omega
  have hb3 : (i : Int) ≤ (n : Int) + 1 := by omega
  have hb4 : ¬ (cap = i) := by omega
  have hT : Aside0 ((spl cur1.toList (i) D).take ((n + 1) * 1) = inn.take (i * 1) ++ D ++ inn.drop (i * 1)) := ⟨by
    have h := shift_take cur.toList DR D (i) 1 ((n - i) * 1) hDl hDRl (by rw [Array.length_toList]; omega)
    rw [show i + 1 = i + 1 by omega, show i + 1 + (n - i) * 1 = (n + 1) * 1 by omega] at h
    rw [hcur1, h, hDR]
    congr 2
    rw [← hcur, List.take_take, Nat.min_eq_left (by omega)]
    all_goals first | rfl | (rw [Nat.mul_one])⟩
  have hS : Aside0 ((spl cur1.toList (i) D).toArray.size = cap * 1) := Aside0.mk (spl_size cur1 _ _ _ hc1s (by rw [hDl]; omega))
  clear hcell hg1 hDR hDRl hDR1 hcur1 hcur hc1s hsz hin hDl hD1 hi1
  go_enter Tryz.func62, Tryz.ntmps62
  go_wp2_with (simp only [hov])
  go_region_law_o (refine Go.Proofs.step_copy_runI rfl _ _ 23 23 rfl _ _ (by simp [Act.eval, Act.put]) (by simp [Act.eval, Act.put]) (hcp1 _ _ _) ?_)
  go_wp2_with (at_builtin; refine Go.Proofs.wpList_copy_runI _ rfl _ _ 23 23 rfl _ _ rfl rfl (hcp2 _ rfl _ _) ?_)
  go_ret
  exact ⟨rfl, (spl cur1.toList (i) D).toArray, setRow_setRow _ _ _ _, hS.out, hT.out⟩

set_option maxHeartbeats 4000000 in
set_option maxRecDepth 100000 in
/-- There is no room: a new row. -/
theorem Insert_grow (w : World) (g vb n cap i : Nat) (inn D : List Value) (cur : Array Value) (hin : inn.length = n * 1) (hDl : D.length = 1) (hD1 : ∀ v ∈ D, v.oneCell' = true) (hi1 : ∀ v ∈ inn, v.oneCell' = true) (hi : i < n) (hn : n ≤ 1000000) (hnc : n ≤ cap) (hroom : cap < n + 1) (hg : w.heap[g]? = some (.cells cur 9 (0, 0))) (hv : w.heap[vb]? = some (.cells D.toArray 9 (0, 0)))
    (hcur : cur.toList.take (n * 1) = inn) :
    Calls Tryz.prog 62 #[.slice (some ⟨g, 0, none⟩) n cap, .int .i64 i, .slice (some ⟨vb, 0, none⟩) 1 1] w fun e w' =>
      ∃ G cur', e = .returned (.slice (some ⟨w.heap.size, 0, none⟩) (n + 1) G) ∧ n + 1 ≤ G ∧ G ≤ maxLen ∧ Below w.heap.size w w' ∧ w'.heap[w.heap.size]? = some (.cells cur' 9 (0, 0)) ∧ cur'.size = G * 1 ∧ cur'.toList.take ((n + 1) * 1) = inn.take (i * 1) ++ D ++ inn.drop (i * 1) := by
  have mixed : Tryz.prog.follows .mixedOrders = true := by kernel_rfl
  have hz2 : ¬ ((i : Int) = (n : Int)) := by omega
  have hz3 : (cap : Int) < (n : Int) + 1 := by omega
  have hgw : g < w.heap.size := (Array.getElem?_eq_some_iff.1 hg).1
  have hvw : vb < w.heap.size := (Array.getElem?_eq_some_iff.1 hv).1
  obtain ⟨DR, hDR⟩ : ∃ q, q = inn.drop (i * 1) := ⟨_, rfl⟩
  obtain ⟨TK, hTK⟩ : ∃ q, q = inn.take (i * 1) := ⟨_, rfl⟩
  have hDRl : DR.length = (n - i) * 1 := by rw [hDR, List.length_drop, hin]; omega
  have hTKl : TK.length = i * 1 := by rw [hTK, List.length_take, hin]; omega
  have hDR1 : ∀ v ∈ DR, v.oneCell' = true := fun v h => hi1 v (by rw [hDR] at h; exact List.mem_of_mem_drop h)
  have hcell : ∀ j v, DR[j]? = some v → cur[i + j]? = some v := fun j v hj => by
    have hj1 : j < (n - i) * 1 := by
      have := (List.getElem?_eq_some_iff.1 hj).1
      omega
    rw [hDR, ← hcur, List.getElem?_drop, List.getElem?_take, if_pos (by omega)] at hj
    simpa using hj
  have hcellT : ∀ j v, TK[j]? = some v → cur[j]? = some v := fun j v hj => by
    have hj1 : j < i * 1 := by
      have := (List.getElem?_eq_some_iff.1 hj).1
      omega
    rw [hTK, ← hcur, List.getElem?_take, if_pos (by omega), List.getElem?_take, if_pos (by omega)] at hj
    simpa using hj
  obtain ⟨i0, hi0, hz0, hzs, hzb⟩ := info_parts info9
  have hold : (Builtin.firstCells i0.size i (.slice (some ⟨g, 0, none⟩) i cap)).run Tryz.prog w.drew = .ok TK.toArray w.drew := by
    rw [hzs]
    exact run_firstCells_some w.drew 1 i ⟨g, 0, none⟩ i cap _ (by rw [hTKl]) (fun j v hj => by
      rw [Addr.add_lit, Nat.zero_add]
      have h2 : w.drew.heap[g]? = some (.cells cur 9 (0, 0)) := hg
      simpa [World.cell?, h2] using hcellT j v hj)
  have hik : i + (n + 1 - i) = n + 1 := by omega
  have hkk : (n : Int) + 1 - (i : Int) = ((n + 1 - i : Nat) : Int) := by omega
  obtain ⟨z, hzz⟩ : ∃ z : Value, z = (.string ⟨#[]⟩) := ⟨_, rfl⟩
  have hzc : z.cells.size = 1 := by rw [hzz]; rfl
  rw [← hzz] at hz0
  obtain ⟨G, hG⟩ : ∃ G, G = grownCap w (n + 1) cap 9 := ⟨_, rfl⟩
  obtain ⟨ROW, hROW⟩ : ∃ ROW : Array Value, ROW = TK.toArray ++ Builtin.zeroCells z.cells (n + 1 - i) ++ Builtin.zeroCells z.cells (G - (n + 1)) := ⟨_, rfl⟩
  have hrz : ∀ ty, (Builtin.append_ #[23, 3] ty #[.slice (some ⟨g, 0, none⟩) i cap, .int .i64 ((n : Int) + 1 - (i : Int))]).run Tryz.prog w =
      .ok (.slice (some ⟨w.heap.size, 0, none⟩) (n + 1) G) (w.drew.alloc (.cells ROW 9)) := fun ty => by
    have h := Lib.run_append_grow_zeros w 23 3 ty 9 i0 z .i64 .i64 Tryz.underlying23 Tryz.underlying3 hi0 hz0 (some ⟨g, 0, none⟩) i cap TK hold (n + 1 - i) (by omega) (by omega) (by omega) (by omega) (by rw [hzb]; omega) (by rw [hzb, hik]; exact growslice_fits hroom (by omega))
    rw [hik, ← hG, ← hROW] at h
    rw [hkk]
    exact h
  have hGn : n + 1 ≤ G := by rw [hG]; exact grownCap_ge w _ _ _
  have hGm : G ≤ maxLen := by rw [hG]; exact grownCap_le_maxLen w (n + 1) cap 9 (by unfold maxLen; omega)
  have hG63 : G ≤ 9223372036854775807 := by unfold maxLen at hGm; omega
  have hRs : ROW.size = G * 1 := by
    rw [hROW]
    simp only [Array.size_append, List.size_toArray, zero_size z 1 hzc, hTKl]
    omega
  have hRt : ROW.toList.take (i * 1) = TK := by
    rw [hROW, Array.toList_append, Array.toList_append, List.append_assoc]
    exact List.take_left' hTKl
  have hNg : g ≠ w.heap.size := by omega
  have hNv : vb ≠ w.heap.size := by omega
  obtain ⟨W1, hW1⟩ : ∃ W1, W1 = w.drew.alloc (.cells ROW 9) := ⟨_, rfl⟩
  have hN1 : W1.heap[w.heap.size]? = some (.cells ROW 9 (0, 0)) := by
    rw [hW1]
    show (w.heap.push _)[w.heap.size]? = _
    rw [Array.getElem?_push_size]
  have hv1 : W1.heap[vb]? = some (.cells D.toArray 9 (0, 0)) := by
    rw [hW1]
    show (w.heap.push _)[vb]? = _
    rw [Array.getElem?_push_lt hvw, ← Array.getElem?_eq_getElem hvw]; exact hv
  have hg1 : W1.heap[g]? = some (.cells cur 9 (0, 0)) := by
    rw [hW1]
    show (w.heap.push _)[g]? = _
    rw [Array.getElem?_push_lt hgw, ← Array.getElem?_eq_getElem hgw]; exact hg
  obtain ⟨A1, hA1⟩ : ∃ A1, A1 = (spl ROW.toList (i) D).toArray := ⟨_, rfl⟩
  have hA1s : A1.size = G * 1 := by
    rw [hA1]; exact spl_size ROW _ _ _ hRs (by rw [hDl]; omega)
  have hcpA : ∀ (W : World), W.heap = W1.heap → ∀ ty dc, (Builtin.copy_ #[23, 23] ty #[.slice (some ⟨w.heap.size, i, none⟩) (n + 1 - i) dc, .slice (some ⟨vb, 0, none⟩) 1 1]).run Tryz.prog W = .ok (goInt (Nat.min 1 (n + 1 - i))) (W.setRow w.heap.size A1) := fun W e ty dc => by
    rw [hA1]
    exact run_copy_wide W 23 23 ty 9 1 w.heap.size (i) (n + 1 - i) dc ⟨vb, 0, none⟩ 1 1 ROW 9 D Tryz.underlying23 sizeI (by rw [e]; exact hN1) (by rw [hDl]; simp only [Nat.min_def]; split <;> omega)
      (fun j v hj => by
        rw [Addr.add_lit]
        have h2 : W.heap[vb]? = some (.cells D.toArray 9 (0, 0)) := by rw [e]; exact hv1
        simpa [World.cell?, h2] using hj) (by rw [hDl]; omega) hD1
  obtain ⟨A2, hA2⟩ : ∃ A2, A2 = (spl A1.toList (i + 1) DR).toArray := ⟨_, rfl⟩
  have hcpB : ∀ (W : World), W.heap = (W1.setRow w.heap.size A1).heap → ∀ ty dc sc, (Builtin.copy_ #[23, 23] ty #[.slice (some ⟨w.heap.size, i + 1, none⟩) (n - i) dc, .slice (some ⟨g, i, none⟩) (n - i) sc]).run Tryz.prog W = .ok (goInt (Nat.min (n - i) (n - i))) (W.setRow w.heap.size A2) := fun W e ty dc sc => by
    rw [hA2]
    exact run_copy_wide W 23 23 ty 9 1 w.heap.size (i + 1) (n - i) dc ⟨g, i, none⟩ (n - i) sc A1 9 DR Tryz.underlying23 sizeI (by rw [e]; exact setRow_heap _ _ _ _ _ _ hN1) (by rw [hDRl]; simp only [Nat.min_def]; split <;> omega)
      (fun j v hj => by
        rw [Addr.add_lit]
        have h2 : W.heap[g]? = some (.cells cur 9 (0, 0)) := by rw [e, setRow_other _ _ _ _ hNg]; exact hg1
        simpa [World.cell?, h2] using hcell j v hj) (by rw [hDRl]; omega) hDR1
  have hT : Aside0 (A2.toList.take ((n + 1) * 1) = inn.take (i * 1) ++ D ++ inn.drop (i * 1)) := Aside0.mk (by
    have h := grow_take ROW.toList DR D (i) 1 ((n - i) * 1) hDl hDRl (by rw [Array.length_toList]; omega)
    rw [show i + 1 = i + 1 by omega, show i + 1 + (n - i) * 1 = (n + 1) * 1 by omega] at h
    rw [hA2, hA1]
    show (spl (spl ROW.toList (i) D) (i + 1) DR).take _ = _
    have e0 : ROW.toList.take (i) = TK := by
      have h0 := hRt
      first | exact h0 | (rw [Nat.mul_one] at h0; exact h0)
    rw [h, e0, hTK, hDR])
  have hA2s : Aside0 (A2.size = G * 1) := Aside0.mk (by
    rw [hA2]; exact spl_size A1 _ _ _ hA1s (by rw [hDRl]; omega))
  have hB1 := Aside0.mk (show Below w.heap.size w W1 by rw [hW1]; exact (Below.refl _ _).drew.alloc (Nat.le_refl _) _)
  have hW := Aside0.mk hW1
  have hN := Aside0.mk hN1
  have hNN := Aside0.mk hGn
  have hMM := Aside0.mk hGm
  have hw1 : IntKind.i64.wrap ((i : Int) + 1) = (i : Int) + 1 := by rw [IntKind.wrap_i64]; omega
  have hw2 : IntKind.i64.wrap ((n : Int) + 1) = (n : Int) + 1 := by rw [IntKind.wrap_i64]; omega
  have hw3 : IntKind.i64.wrap ((n : Int) + 1 - (i : Int)) = (n : Int) + 1 - (i : Int) := by rw [IntKind.wrap_i64]; omega
  have hb1 : (0 : Int) ≤ (i : Int) + 1 := by omega
  have hin2 : i ≤ n := by omega
  have htn : ((i : Int) + 1).toNat = i + 1 := by omega
  have hGi : ¬ (G = i) := by omega
  have hGim : ¬ (G = i + 1) := by omega
  have hci : ¬ (cap = i) := by omega
  have hb3 : (i : Int) ≤ (n : Int) := by omega
  rw [← hW1] at hrz
  clear hcell hcellT hold hROW hG hRs hRt hA1 hA2 hA1s hDR hTK hDRl hTKl hDR1 hik hkk hcur hzz hzc hz0 hzs hzb hi0 hg1 hv1 hN1 hGn hGm hW1 hin hDl hD1 hi1
  go_enter Tryz.func62, Tryz.ntmps62
  go_wp2_with (first
    | (at_builtin; refine Lib.wpList_append_run _ rfl _ _ _ _ rfl _ _ rfl rfl _ _ (hrz _) ?_)
    | (at_builtin; refine Go.Proofs.wpList_copy_runI _ rfl _ _ 23 23 rfl _ _ rfl rfl (hcpA _ rfl _ _) ?_)
    | (at_builtin; refine Go.Proofs.wpList_copy_runI _ rfl _ _ 23 23 rfl _ _ rfl rfl (hcpB _ rfl _ _ _) ?_))
  go_region_law_o (refine Go.Proofs.step_copy_runI rfl _ _ 23 23 rfl (.slice (some ⟨w.heap.size, i + 1, none⟩) (n - i) (G - (i + 1))) (.slice (some ⟨g, i, none⟩) (n - i) (cap - i)) (by simp [Act.eval, Act.put]) (by simp [Act.eval, Act.put]) (hcpB _ (by rfl) 3 (G - (i + 1)) (cap - i)) ?_)
  go_wp2
  go_ret
  refine ⟨G, A2, rfl, hNN.out, hMM.out, ?_, ?_, hA2s.out, hT.out⟩
  · exact below_setRow (below_drew1 (below_setRow hB1.out (Nat.le_refl _) _)) (Nat.le_refl _) _
  · exact setRow_heap _ _ _ _ _ _ (setRow_heap _ _ _ _ _ _ hN.out)

/-- One element that lies in a block of its own. -/
theorem one_reads {w : World} {vb : Nat} {c : ByteArray} {D : List Value} (hD : D.length = 1) (hv : w.heap[vb]? = some (.cells D.toArray 9 (0, 0))) : ReadsRow (fun (x : ByteArray) cs => x = c ∧ cs = D) 1 w (some ⟨vb, 0, none⟩) 1 [c] := by
  refine ⟨rfl, by omega, fun _ => ⟨_, rfl, fun j p hj => ?_⟩⟩
  cases j with
  | zero =>
    injection hj with hj
    subst hj
    refine ⟨D, hD, ⟨rfl, rfl⟩, fun k u hk => ?_⟩
    rw [Addr.add_lit]
    simpa [World.cell?, hv] using hk
  | succ j => cases hj

set_option maxHeartbeats 4000000 in
set_option maxRecDepth 100000 in
/-- At the end. -/
theorem Insert_end1 (w : World) (base vb : Nat) (ok okp : Nat → Prop) (A : Option Addr) (cp : Nat) (xs : List ByteArray) (c : ByteArray) (D : List Value) (hcp : xs.length < cp) (hl : xs.length ≤ 1000000) (hbase : base ≤ w.heap.size) (hfresh : ∀ k, w.heap.size ≤ k → ok k) (HO : Kd.string.R 9 w base ok (.slice A xs.length cp) xs) (hM : Kd.string.M w base okp c D) (hokp : ∀ k, okp k → ok k ∧ some k ≠ (Value.slice A xs.length cp).ownBlock) (hv : w.heap[vb]? = some (.cells D.toArray 9 (0, 0))) :
    Calls Tryz.prog 62 #[.slice A xs.length cp, .int .i64 xs.length, .slice (some ⟨vb, 0, none⟩) 1 1] w fun e w' => ∃ v', e = .returned v' ∧ Kd.string.R 9 w' base ok v' (xs ++ [c]) ∧ Below base w w' ∧ w.grownBy w' (Value.slice A xs.length cp).ownBlock ∧ (v'.ownBlock = (Value.slice A xs.length cp).ownBlock ∨ ∃ b, v'.ownBlock = some b ∧ w.heap.size ≤ b) := by
  have HR := Aside0.mk HO
  have HC := Aside0.mk (one_reads (c := c) (Kd.string.K_len (Kd.string.K_of_M hM)) hv)
  have HM := Aside0.mk hM
  have HF := Aside0.mk hfresh
  have HP := Aside0.mk hokp
  have HL := Aside0.mk (show (xs.length + 1) * 16 ≤ 140737488355328 by omega)
  have hne : ¬ (cp = xs.length) := by omega
  clear hfresh HO hv hM hokp
  go_enter Tryz.func62, Tryz.ntmps62
  go_wp2_with (first | (at_builtin; refine Kd.R_append_rows Kd.string (w0 := w) base rfl (.tmp 23) (.tmp 24) 23 9 (.string ⟨#[]⟩) 16 rfl Tryz.underlying23 info9 rfl (by decide) (by decide) (.slice A xs.length cp) xs [c] _ _ _ ok okp rfl rfl HR.out HC.out (fun x cs h => by rw [h.1, h.2]; exact HM.out) HP.out HF.out (Below.refl _ _) hbase HL.out ?_; intro v1 w1 ho hb hg hat; have H1 := Aside0.mk ho; have H2 := Aside0.mk hb; have H3 := Aside0.mk hat; have H4 := Aside0.mk hg; clear ho hb hat hg))
  go_ret
  exact ⟨_, rfl, H1.out, H2.out, H4.out, H3.out⟩
set_option maxHeartbeats 4000000 in
set_option maxRecDepth 100000 in
/-- At the end. -/
theorem Insert_end2 (w : World) (base vb : Nat) (ok okp : Nat → Prop) (A : Option Addr) (xs : List ByteArray) (c : ByteArray) (D : List Value) (hl : xs.length ≤ 1000000) (hbase : base ≤ w.heap.size) (hfresh : ∀ k, w.heap.size ≤ k → ok k) (HO : Kd.string.R 9 w base ok (.slice A xs.length xs.length) xs) (hM : Kd.string.M w base okp c D) (hokp : ∀ k, okp k → ok k ∧ some k ≠ (Value.slice A xs.length xs.length).ownBlock) (hv : w.heap[vb]? = some (.cells D.toArray 9 (0, 0))) :
    Calls Tryz.prog 62 #[.slice A xs.length xs.length, .int .i64 xs.length, .slice (some ⟨vb, 0, none⟩) 1 1] w fun e w' => ∃ v', e = .returned v' ∧ Kd.string.R 9 w' base ok v' (xs ++ [c]) ∧ Below base w w' ∧ w.grownBy w' (Value.slice A xs.length xs.length).ownBlock ∧ (v'.ownBlock = (Value.slice A xs.length xs.length).ownBlock ∨ ∃ b, v'.ownBlock = some b ∧ w.heap.size ≤ b) := by
  have HR := Aside0.mk HO
  have HC := Aside0.mk (one_reads (c := c) (Kd.string.K_len (Kd.string.K_of_M hM)) hv)
  have HM := Aside0.mk hM
  have HF := Aside0.mk hfresh
  have HP := Aside0.mk hokp
  have HL := Aside0.mk (show (xs.length + 1) * 16 ≤ 140737488355328 by omega)
  clear hfresh HO hv hM hokp
  go_enter Tryz.func62, Tryz.ntmps62
  go_wp2_with (first | (at_builtin; refine Kd.R_append_rows Kd.string (w0 := w) base rfl (.tmp 23) (.tmp 24) 23 9 (.string ⟨#[]⟩) 16 rfl Tryz.underlying23 info9 rfl (by decide) (by decide) (.slice A xs.length xs.length) xs [c] _ _ _ ok okp rfl rfl HR.out HC.out (fun x cs h => by rw [h.1, h.2]; exact HM.out) HP.out HF.out (Below.refl _ _) hbase HL.out ?_; intro v1 w1 ho hb hg hat; have H1 := Aside0.mk ho; have H2 := Aside0.mk hb; have H3 := Aside0.mk hat; have H4 := Aside0.mk hg; clear ho hb hat hg))
  go_ret
  exact ⟨_, rfl, H1.out, H2.out, H4.out, H3.out⟩

/-- slices.Insert of one element. -/
theorem Insert_calls (w : World) (base vb i : Nat) (ok okp : Nat → Prop) (v : Value) (xs : List ByteArray) (c : ByteArray) (D : List Value) (hi : i ≤ xs.length) (hl : xs.length ≤ 1000000) (hbase : base ≤ w.heap.size) (hfresh : ∀ k, w.heap.size ≤ k → ok k) (HO : Kd.string.R 9 w base ok v xs) (hM : Kd.string.M w base okp c D) (hokp : ∀ k, okp k → ok k ∧ some k ≠ v.ownBlock) (hv : w.heap[vb]? = some (.cells D.toArray 9 (0, 0))) (hvb : v.ownBlock ≠ some vb) :
    Calls Tryz.prog 62 #[v, .int .i64 i, .slice (some ⟨vb, 0, none⟩) 1 1] w fun e w' => ∃ v', e = .returned v' ∧ Kd.string.R 9 w' base ok v' (xs.take i ++ c :: xs.drop i) ∧ w.grownBy w' v.ownBlock ∧ (v'.ownBlock = v.ownBlock ∨ ∃ b, v'.ownBlock = some b ∧ w.heap.size ≤ b) := by
  have hxl : (xs.take i ++ c :: xs.drop i).length = xs.length + 1 := by rw [List.length_append, List.length_cons, List.length_take, List.length_drop]; omega
  by_cases he : i = xs.length
  · subst he
    rw [List.take_of_length_le (Nat.le_refl _), List.drop_of_length_le (Nat.le_refl _)]
    obtain ⟨A, cp, rfl, hcp, -⟩ := Kd.R_reads HO
    rcases Nat.eq_or_lt_of_le hcp with h | h
    · subst h
      refine (Insert_end2 w base vb ok okp A xs c D hl hbase hfresh HO hM hokp hv).mono ?_
      rintro e w' ⟨v', h1, h2, _, h3, h4⟩
      exact ⟨v', h1, h2, h3, h4⟩
    · refine (Insert_end1 w base vb ok okp A cp xs c D h hl hbase hfresh HO hM hokp hv).mono ?_
      rintro e w' ⟨v', h1, h2, _, h3, h4⟩
      exact ⟨v', h1, h2, h3, h4⟩
  · have hDl := Kd.string.K_len (Kd.string.K_of_M hM)
    have hD1 := Kd.string.K_one (Kd.string.K_of_M hM)
    rcases row_open HO with ⟨rfl, rfl⟩ | ⟨g, cap, cur, inn, rfl, hb, hok, hg, h1, h2, h3, h4, hr⟩
    · exact absurd hi (by simp only [List.length_nil] at *; omega)
    · have hob : (Value.slice (some ⟨g, 0, none⟩) xs.length cap).ownBlock = some g := by simp [Value.ownBlock]
      have hvg : vb ≠ g := fun e => hvb (by rw [e, hob])
      have hi1 := reps_one hr (fun _ => True) (fun p c h => Kd.string.K_one (Kd.string.K_of_M h)) (by decide)
      rw [hob] at hokp hr ⊢
      have hr' : Reps (Kd.string.M w base (fun k => ok k ∧ some k ≠ some g ∧ k < w.heap.size)) Kd.string.sz xs inn := hr.imp_ (fun p c h => Kd.string.M_mono (fun k hk => ⟨hk.1.1, hk.1.2, hk.2.2.1⟩) (Kd.string.M_bound h))
      have hM' : Kd.string.M w base (fun k => ok k ∧ some k ≠ some g ∧ k < w.heap.size) c D := Kd.string.M_mono (fun k hk => ⟨(hokp k hk.1).1, (hokp k hk.1).2, hk.2.2.1⟩) (Kd.string.M_bound hM)
      have hins := reps_ins hr' hM' hDl (i := i) hi
      by_cases hroom : xs.length + 1 ≤ cap
      · refine (Insert_shift w g vb xs.length cap i inn D cur hr.1 hDl hD1 hi1 (by omega) hroom h2 hvg hg hv h3 h4).mono ?_
        rintro e w' ⟨rfl, cur', rfl, h5, h6⟩
        have hgr : w.grownBy (w.drew.setRow g cur') (some g) := ⟨rfl, rfl, rfl, (below_setRow (below_drew1 (Below.refl 0 w)) (Nat.zero_le g) cur').size, fun k hk hne => setRow_other _ _ _ _ (fun e => hne (by rw [e]))⟩
        refine ⟨_, rfl, ?_, hgr, .inl (by simp [Value.ownBlock])⟩
        rw [← hxl] at h6 hroom ⊢
        exact row_close (d := Kd.string) hb hok (setRow_heap _ _ _ _ _ _ hg) hroom h2 h5 h6 (hins.imp_ (fun p c h => Kd.string.M_mono (fun k hk => ⟨hk.1, fun e => hk.2.1 (by rw [e])⟩) (Kd.string.M_move (w1 := w.drew.setRow g cur') (fun k hk => (show (w.drew.setRow g cur').heap[k]? = w.heap[k]? from setRow_other _ _ _ _ (fun e => hk.2.1 (by rw [e])))) h)))
      · refine (Insert_grow w g vb xs.length cap i inn D cur hr.1 hDl hD1 hi1 (by omega) hl h1 (by omega) hg hv h4).mono ?_
        rintro e w' ⟨G, cur', rfl, h5, h6, h7, h8, h9, h10⟩
        refine ⟨_, rfl, ?_, grown_of_below h7 _, .inr ⟨_, rfl, Nat.le_refl _⟩⟩
        rw [← hxl] at h5 h10 ⊢
        exact row_close (d := Kd.string) hbase (hfresh _ (Nat.le_refl _)) h8 h5 h6 h9 h10 (hins.imp_ (fun p c h => Kd.string.M_mono (fun k hk => ⟨hk.1, by have := hk.2.2; omega⟩) (Kd.string.M_move (fun k hk => h7.block k hk.2.2) h)))

set_option maxHeartbeats 4000000 in
set_option maxRecDepth 100000 in
/-- At the end, its cells. -/
theorem Insert_end (w : World) (base vb n : Nat) (v : Value) (inn D : List Value) (hown : w.ownsRow base 9 1 v n inn) (hDl : D.length = 1) (hD1 : ∀ u ∈ D, u.oneCell' = true) (hl : n ≤ 1000000) (hbase : base ≤ w.heap.size) (hv : w.heap[vb]? = some (.cells D.toArray 9 (0, 0))) :
    Calls Tryz.prog 62 #[v, .int .i64 n, .slice (some ⟨vb, 0, none⟩) 1 1] w fun e w' => ∃ v', e = .returned v' ∧ w'.ownsRow base 9 1 v' (n + 1) (inn ++ D) ∧ w.grownBy w' v.ownBlock ∧ (v'.ownBlock = v.ownBlock ∨ ∃ b, v'.ownBlock = some b ∧ w.heap.size ≤ b) := by
  obtain ⟨i0, hi0, hz0, hzs, hzb⟩ := info_parts info9
  obtain ⟨v1, w1, hr, ho1, hg1, _, hat⟩ := run_append_own_at (P := Tryz.prog) w base 23 23 9 i0 (.string ⟨#[]⟩) 1 16 Tryz.underlying23 hi0 hz0 hzs hzb rfl (by decide) v n inn hown ⟨vb, 0, none⟩ 1 1 D (by rw [hDl]) (fun j u hj => by
    rw [Addr.add_lit]
    simpa [World.cell?, hv] using hj) hD1 (by unfold maxLen; omega) (by omega) hbase
  have HH := Aside0.mk (And.intro ho1 (And.intro hg1 hat))
  obtain ⟨A0, c0, hv0⟩ := own_slice hown
  have hle := own_cap (hv0 ▸ hown)
  subst hv0
  have hr' : ∀ ty, ty = 23 → (Builtin.append_ #[23, 23] ty #[.slice A0 n c0, .slice (some ⟨vb, 0, none⟩) 1 1]).run Tryz.prog w = .ok v1 w1 := fun ty h => by rw [h]; exact hr
  clear ho1 hg1 hat hown hv hr hi0 hz0 hzs hzb
  by_cases hcn : c0 = n
  · subst hcn
    go_enter Tryz.func62, Tryz.ntmps62
    go_wp2_with (first
      | (at_builtin; refine Lib.wpList_append_run _ rfl _ _ _ _ rfl _ _ rfl rfl _ _ (hr' _ rfl) ?_))
    go_ret
    exact ⟨_, rfl, HH.out.1, HH.out.2.1, HH.out.2.2.elim .inl (fun h => .inr ⟨_, h, Nat.le_refl _⟩)⟩
  · go_enter Tryz.func62, Tryz.ntmps62
    go_wp2_with (first
      | (at_builtin; refine Lib.wpList_append_run _ rfl _ _ _ _ rfl _ _ rfl rfl _ _ (hr' _ rfl) ?_))
    go_ret
    exact ⟨_, rfl, HH.out.1, HH.out.2.1, HH.out.2.2.elim .inl (fun h => .inr ⟨_, h, Nat.le_refl _⟩)⟩

/-- slices.Insert of one element: what lies within stays where it was. -/
theorem Insert_strong (w : World) (base vb i : Nat) (ok okI : Nat → Prop) (v : Value) (xs : List ByteArray) (c : ByteArray) (D : List Value) (hi : i ≤ xs.length) (hl : xs.length ≤ 1000000) (hbase : base ≤ w.heap.size) (HO : Kd.string.R 9 w base ok v xs) (hM : Kd.string.M w base okI c D) (hin : ∀ k, ok k → some k ≠ v.ownBlock → okI k) (hI : ∀ k, okI k → some k ≠ v.ownBlock ∧ k < w.heap.size) (hv : w.heap[vb]? = some (.cells D.toArray 9 (0, 0))) (hvb : v.ownBlock ≠ some vb) :
    Calls Tryz.prog 62 #[v, .int .i64 i, .slice (some ⟨vb, 0, none⟩) 1 1] w fun e w' => ∃ v', e = .returned v' ∧ OwnRow (Kd.string.M w' base okI) 9 1 w' base v' (xs.take i ++ c :: xs.drop i) ∧ w.grownBy w' v.ownBlock ∧ (v'.ownBlock = v.ownBlock ∨ ∃ b, v'.ownBlock = some b ∧ w.heap.size ≤ b) := by
  have hDl := Kd.string.K_len (Kd.string.K_of_M hM)
  have hD1 := Kd.string.K_one (Kd.string.K_of_M hM)
  have hxl : (xs.take i ++ c :: xs.drop i).length = xs.length + 1 := by rw [List.length_append, List.length_cons, List.length_take, List.length_drop]; omega
  have hmove : ∀ w', w.grownBy w' v.ownBlock → ∀ p cs, Kd.string.M w base okI p cs → Kd.string.M w' base okI p cs := fun w' hg p cs h => Kd.string.M_move (fun k hk => hg.block k (hI k hk).2 (hI k hk).1) h
  obtain ⟨hok, inner, hown, hr⟩ := HO
  have hr' : Reps (Kd.string.M w base okI) Kd.string.sz xs inner := hr.imp_ (fun p cs h => Kd.string.M_mono (fun k hk => hin k hk.1 hk.2) h)
  have hins := reps_ins hr' hM hDl (i := i) hi
  by_cases he : i = xs.length
  · subst he
    refine (Insert_end w base vb xs.length v inner D hown hDl hD1 hl hbase hv).mono ?_
    rintro e w' ⟨v', rfl, h1, h2, h3⟩
    refine ⟨v', rfl, ⟨inner.take (xs.length * 1) ++ D ++ inner.drop (xs.length * 1), ?_, hins.imp_ (hmove w' h2)⟩, h2, h3⟩
    have hil : inner.length = xs.length * 1 := hr.1
    rw [hxl, List.take_of_length_le (by omega), List.drop_of_length_le (by omega), List.append_nil]
    exact h1
  · rcases hown.2 with ⟨rfl, hn⟩ | ⟨g, cap, cur, rfl, hb, hg, h1, h2, h3, h4⟩
    · exact absurd hi (by omega)
    · have hob : (Value.slice (some ⟨g, 0, none⟩) xs.length cap).ownBlock = some g := by simp [Value.ownBlock]
      have hvg : vb ≠ g := fun e => hvb (by rw [e, hob])
      have hi1 := reps_one hr (fun _ => True) (fun p c h => Kd.string.K_one (Kd.string.K_of_M h)) (by decide)
      by_cases hroom : xs.length + 1 ≤ cap
      · refine (Insert_shift w g vb xs.length cap i inner D cur hr.1 hDl hD1 hi1 (by omega) hroom h2 hvg hg hv h3 h4).mono ?_
        rintro e w' ⟨rfl, cur', rfl, h5, h6⟩
        have hgr : w.grownBy (w.drew.setRow g cur') (some g) := ⟨rfl, rfl, rfl, (below_setRow (below_drew1 (Below.refl 0 w)) (Nat.zero_le g) cur').size, fun k hk hne => setRow_other _ _ _ _ (fun e => hne (by rw [e]))⟩
        rw [hob] at hmove ⊢
        refine ⟨_, rfl, ⟨_, ?_, hins.imp_ (hmove _ hgr)⟩, hgr, .inl (by simp [Value.ownBlock])⟩
        rw [hxl]
        exact ⟨(by have h := hins.1; rw [hxl] at h; exact h), .inr ⟨g, cap, cur', rfl, hb, setRow_heap _ _ _ _ _ _ hg, hroom, h2, h5, h6⟩⟩
      · refine (Insert_grow w g vb xs.length cap i inner D cur hr.1 hDl hD1 hi1 (by omega) hl h1 (by omega) hg hv h4).mono ?_
        rintro e w' ⟨G, cur', rfl, h5, h6, h7, h8, h9, h10⟩
        have hgr := grown_of_below h7 (Value.slice (some ⟨g, 0, none⟩) xs.length cap).ownBlock
        refine ⟨_, rfl, ⟨_, ?_, hins.imp_ (hmove _ hgr)⟩, hgr, .inr ⟨_, rfl, Nat.le_refl _⟩⟩
        rw [hxl]
        exact ⟨(by have h := hins.1; rw [hxl] at h; exact h), .inr ⟨w.heap.size, G, cur', rfl, hbase, h8, h5, h6, h9, h10⟩⟩

end Go.Proofs.YtmhfkbgdkgfafaaGreatDoor.InsS
end

section
/- json's parser: the item of an object. -/
namespace Go.Proofs.YtmhfkbgdkgfafaaGreatDoor.Js
open Go.RowKit Go.Proofs.YtmhfkbgdkgfafaaGreatDoor.QJson Go.Proofs.YtmhfkbgdkgfafaaGreatDoorW.PrintWords Go.Proofs.YtmhfkbgdkgfafaaGreatDoorW.PrintLast Go.Proofs.YtmhfkbgdkgfafaaGreatDoorW.PrintMore Go.Proofs.YtmhfkbgdkgfafaaGreatDoor.Reg
set_option linter.unusedVariables false
set_option linter.unusedSimpArgs false

def s26_ren : Go.Shelf.Ren := ⟨fun | 26 => 61 | 33 => 97 | 34 => 98 | 38 => 125 | n => n, fun | 24 => 23 | 40 => 117 | n => n, fun | n => n⟩
theorem s26_lays : Go.Proofs.Lays2.n26 Tryz.prog s26_ren := {
  mixed := by kernel_rfl
  f26 := Tryz.func61.trans (congrArg some (by kernel_rfl))
  f33 := Tryz.func97.trans (congrArg some (by kernel_rfl))
  f34 := Tryz.func98.trans (congrArg some (by kernel_rfl))
  f38 := Tryz.func125.trans (congrArg some (by kernel_rfl))
  t0 := Tryz.underlying0
  a0 := Tryz.isAgg0
  z0 := Tryz.sizeOf0
  v0 := Tryz.zeroValue0
  t3 := Tryz.underlying3
  a3 := Tryz.isAgg3
  z3 := Tryz.sizeOf3
  v3 := Tryz.zeroValue3
  t4 := Tryz.underlying4
  a4 := Tryz.isAgg4
  z4 := Tryz.sizeOf4
  v4 := Tryz.zeroValue4
  t9 := Tryz.underlying9
  a9 := Tryz.isAgg9
  z9 := Tryz.sizeOf9
  v9 := Tryz.zeroValue9
  t24 := Tryz.underlying23
  a24 := Tryz.isAgg23
  z24 := Tryz.sizeOf23
  v24 := Tryz.zeroValue23
  t40 := Tryz.underlying117
  a40 := Tryz.isAgg117
  z40 := Tryz.sizeOf117
  v40 := Tryz.zeroValue117 }
theorem had_eq (ks : List ByteArray) (k : ByteArray) : decide (lowK ks k < ks.length ∧ ks.getD (lowK ks k) ⟨#[]⟩ = k) = hadK ks k := by
  unfold hadK
  rw [Bool.eq_iff_iff, decide_eq_true_iff, Bool.and_eq_true, decide_eq_true_iff, beq_iff_eq]
  constructor
  · rintro ⟨h1, h2⟩; exact ⟨h1, by rw [h2]⟩
  · rintro ⟨h1, h2⟩
    refine ⟨h1, ?_⟩
    rw [Lib.toList_data, Lib.toList_data] at h2
    have h3 := congrArg str h2
    rwa [str_back, str_back] at h3
/-- Where a key stands. -/
theorem search_calls {w : World} {base : Nat} {ok : Nat → Prop} {v : Value} {ks : List ByteArray} (h : Kd.string.R 9 w base ok v ks) (k : ByteArray) (hl : ks.length ≤ 1000000) :
    Calls Tryz.prog 61 #[v, .string k] w fun e w' => e = .returned (.tuple #[.int .i64 (lowK ks k : Nat), .bool (hadK ks k)]) ∧ Below w.heap.size w w' := by
  obtain ⟨A, c, rfl, hc, hC⟩ := Kd.R_reads h
  cases ks with
  | nil =>
    refine (Go.Proofs.Any2.slices_BinarySearch_string_empty s26_lays A c k w).mono ?_
    rintro e w' ⟨rfl, rfl⟩
    exact ⟨rfl, Below.refl _ _⟩
  | cons k0 ks =>
    obtain ⟨ad, hA, _⟩ := Kd.at_string hC 0 (by omega) (by first | (simp; done) | (simp; omega))
    subst hA
    rcases Kd.R_own h with ⟨inner, hown⟩
    rcases hown.2 with ⟨hv, _⟩ | ⟨g, cap, cur, hv, hb, hh, hnc, hcm, hcs, ht⟩
    · cases hv
    · injection hv with ha h2 h3
      injection ha with ha
      subst ha
      refine (Go.Proofs.Any2.slices_BinarySearch_string s26_lays g 0 (k0 :: ks).length c (fun j => (k0 :: ks).getD j ⟨#[]⟩) k w (by omega) (fun j hj => ?_)).mono ?_
      · obtain ⟨ad, e, hcell⟩ := Kd.at_string hC (j : Int) (by omega) (by omega)
        cases e
        rw [Int.toNat_natCast, Addr.add_lit] at hcell
        exact hcell
      · rintro e w' ⟨rfl, q, rfl⟩
        refine ⟨?_, pw_below_drewN (Below.refl _ _) q⟩
        have e1 := had_eq (k0 :: ks) k
        unfold lowK at e1
        rw [← e1]
        rfl

/-- What stands while an object is read. -/
structure ObjInv (B g bv bp base : Nat) (a : List ByteArray × List S26) (w : World) (v3 v4 : Value) : Prop where
  box : w.heap[bv]? = some (.cells #[.int .i64 7, .int .i64 0, .string ⟨#[]⟩, v3, v4] 26 (0, 0))
  ptr : w.heap[bp]? = some (.cells #[.pointer (some ⟨g, 0, none⟩)] 49 (0, 0))
  keys : Kd.string.R 9 w base (fun _ => True) v3 a.1
  parts : k26.R 26 w base (fun k => some k ≠ v3.ownBlock) v4 a.2
  same : a.1.length = a.2.length
  glob : Glob B w
  le : base ≤ w.heap.size
theorem ObjInv.grown {B g bv bp base : Nat} {a : List ByteArray × List S26} {w w' : World} {v3 v4 : Value} (h : ObjInv B g bv bp base a w v3 v4) (hg : w.grownBy w' (some g)) (hB : B ≤ g) (hgb : g < base) (hv : bv ≠ g) (hp : bp ≠ g) : ObjInv B g bv bp base a w' v3 v4 :=
  ⟨blk_grown h.box hg (fun e => hv (by injection e)), blk_grown h.ptr hg (fun e => hp (by injection e)), R_far_of h.keys hg hgb, R_far_of h.parts hg hgb, h.same, h.glob.step hg hB, Nat.le_trans h.le hg.size⟩
theorem ArrInv.grown {B g bv bp base : Nat} {k : Int} {ps : List S26} {w w' : World} {v4 : Value} (h : ArrInv B g bv bp base k ps w v4) (hg : w.grownBy w' (some g)) (hB : B ≤ g) (hgb : g < base) (hv : bv ≠ g) (hp : bp ≠ g) : ArrInv B g bv bp base k ps w' v4 :=
  ⟨blk_grown h.box hg (fun e => hv (by injection e)), blk_grown h.ptr hg (fun e => hp (by injection e)), R_far_of h.parts hg hgb, h.glob.step hg hB, Nat.le_trans h.le hg.size⟩
theorem objI_ok {V : List UInt8 → Option (S26 × List UInt8)} {a : List ByteArray × List S26} {l l1 r q r2 k : List UInt8} {p : S26} (h1 : tk [34] l = some l1) (h2 : textP (l1.length + 1) l1 = some (k, r)) (h3 : tk [58] (sk r) = some q) (h4 : V (sk q) = some (p, r2)) :
    objI V a l = if hadK a.1 (str k) = true then none else some ((a.1.take (lowK a.1 (str k)) ++ str k :: a.1.drop (lowK a.1 (str k)), a.2.take (lowK a.1 (str k)) ++ p :: a.2.drop (lowK a.1 (str k))), r2) := by
  unfold objI; rw [h1]; dsimp only; rw [h2]; dsimp only; rw [h3]; dsimp only; rw [h4]
theorem objI_n1 {V : List UInt8 → Option (S26 × List UInt8)} {a : List ByteArray × List S26} {l : List UInt8} (h1 : tk [34] l = none) : objI V a l = none := by
  unfold objI; rw [h1]
theorem objI_n2 {V : List UInt8 → Option (S26 × List UInt8)} {a : List ByteArray × List S26} {l l1 : List UInt8} (h1 : tk [34] l = some l1) (h2 : textP (l1.length + 1) l1 = none) : objI V a l = none := by
  unfold objI; rw [h1]; dsimp only; rw [h2]
theorem objI_n3 {V : List UInt8 → Option (S26 × List UInt8)} {a : List ByteArray × List S26} {l l1 r k : List UInt8} (h1 : tk [34] l = some l1) (h2 : textP (l1.length + 1) l1 = some (k, r)) (h3 : tk [58] (sk r) = none) : objI V a l = none := by
  unfold objI; rw [h1]; dsimp only; rw [h2]; dsimp only; rw [h3]
theorem objI_n4 {V : List UInt8 → Option (S26 × List UInt8)} {a : List ByteArray × List S26} {l l1 r q k : List UInt8} (h1 : tk [34] l = some l1) (h2 : textP (l1.length + 1) l1 = some (k, r)) (h3 : tk [58] (sk r) = some q) (h4 : V (sk q) = none) : objI V a l = none := by
  unfold objI; rw [h1]; dsimp only; rw [h2]; dsimp only; rw [h3]; dsimp only; rw [h4]
theorem bsGo_le (less : Nat → Bool) : ∀ (f lo hi : Nat), lo ≤ hi → lo ≤ Lib.bsGo less f lo hi ∧ Lib.bsGo less f lo hi ≤ hi
  | 0, lo, hi, h => ⟨Nat.le_refl _, h⟩
  | f + 1, lo, hi, h => by
    unfold Lib.bsGo
    split
    · split
      · have := bsGo_le less f ((lo + hi) / 2 + 1) hi (by omega); omega
      · have := bsGo_le less f lo ((lo + hi) / 2) (by omega); omega
    · omega
theorem low_le (ks : List ByteArray) (k : ByteArray) : lowK ks k ≤ ks.length := (bsGo_le _ _ _ _ (Nat.zero_le _)).2
theorem tk_str34 : str [34] = (⟨#[34]⟩ : ByteArray) := rfl
theorem textP_length : ∀ (n : Nat) (l t r : List UInt8), textP n l = some (t, r) → r.length + 1 + t.length ≤ l.length
  | 0, l, t, r, h => by cases h
  | n + 1, l, t, r, h => by
    have hsr := congrArg List.length (seg_rst l)
    rw [List.length_append] at hsr
    rw [textP] at h
    split at h
    · cases h
    · rename_i c q hq
      rw [hq, List.length_cons] at hsr
      split at h
      · cases h
      · split at h
        · simp only [Option.some.injEq, Prod.mk.injEq] at h
          obtain ⟨rfl, rfl⟩ := h
          omega
        · split at h
          · cases h
          · rename_i x r' he
            split at h
            · cases h
            · rename_i t2 q2 ht
              simp only [Option.some.injEq, Prod.mk.injEq] at h
              obtain ⟨rfl, rfl⟩ := h
              have h1 := textP_length n r' t2 q2 ht
              have h2 := escP_length q x r' he
              simp only [List.length_append, List.length_cons]
              omega

end Go.Proofs.YtmhfkbgdkgfafaaGreatDoor.Js
end

section
/- json's parser: the item of an object, its walk. -/
namespace Go.Proofs.YtmhfkbgdkgfafaaGreatDoor.Js
open Go.RowKit Go.Proofs.YtmhfkbgdkgfafaaGreatDoor.QJson Go.Proofs.YtmhfkbgdkgfafaaGreatDoorW.PrintWords Go.Proofs.YtmhfkbgdkgfafaaGreatDoorW.PrintLast Go.Proofs.YtmhfkbgdkgfafaaGreatDoorW.PrintMore Go.Proofs.YtmhfkbgdkgfafaaGreatDoor.Reg
set_option linter.unusedVariables false
set_option linter.unusedSimpArgs false

/-- What holds while the region draws; P: the part's own cells. -/
structure Hold6 (B g bv bp pb base S1 : Nat) (V3 V4 : Value) (P : S26) (P3 P4 : Value) (lf : List UInt8) (bd : Bool) (W w : World) : Prop where
  box : w.heap[bv]? = some (.cells #[.int .i64 7, .int .i64 0, .string ⟨#[]⟩, V3, V4] 26 (0, 0))
  ptr : w.heap[bp]? = some (.cells #[.pointer (some ⟨g, 0, none⟩)] 49 (0, 0))
  part : w.heap[pb]? = some (.cells #[.int .i64 P.f0, .int .i64 P.f1, .string P.f2, P3, P4] 26 (0, 0))
  ps : PS w g lf bd
  p3 : Kd.string.R 9 w S1 (fun k => k < W.heap.size) P3 P.f3
  p4 : k26.R 26 w S1 (fun k => k < W.heap.size) P4 P.f4
  glob : Glob B w
  size : W.heap.size ≤ w.heap.size
  two : Two g bv base W w
def St6 (V3 V4 : Value) : Nat → World → World → Prop
  | 5, w, w' => w.grownBy w' V3.ownBlock
  | 11, w, w' => w.grownBy w' V4.ownBlock
  | _, w, w' => Below w.heap.size w w'
/-- A step turns a block b only if it is one of the two rows. -/
theorem St6.blk {V3 V4 : Value} {i b : Nat} {o : Obj} {w w' : World} (h : St6 V3 V4 i w w') (hb : w.heap[b]? = some o) (h3 : some b ≠ V3.ownBlock) (h4 : some b ≠ V4.ownBlock) : w'.heap[b]? = some o := by
  unfold St6 at h
  split at h
  · exact blk_grown hb h h3
  · exact blk_grown hb h h4
  · exact blk_below hb h
theorem St6.size {V3 V4 : Value} {i : Nat} {w w' : World} (h : St6 V3 V4 i w w') : w.heap.size ≤ w'.heap.size := by
  unfold St6 at h
  split at h
  · exact World.grownBy.size h
  · exact World.grownBy.size h
  · exact Below.size h
theorem St6.row {V3 V4 : Value} {i : Nat} {w w' : World} (h : St6 V3 V4 i w w') {α : Type} {d : Kd α} {e base : Nat} {ok : Nat → Prop} {v : Value} {xs : List α} (hr : d.R e w base ok v xs) (h3 : ∀ k, ok k → base ≤ k → some k ≠ V3.ownBlock) (h4 : ∀ k, ok k → base ≤ k → some k ≠ V4.ownBlock) : d.R e w' base ok v xs := by
  unfold St6 at h
  split at h
  · exact Kd.R_mono (Kd.R_grown (Kd.R_bound hr) h (fun k hk => h3 k hk.1 hk.2.1)) (fun k hk => hk.1)
  · exact Kd.R_mono (Kd.R_grown (Kd.R_bound hr) h (fun k hk => h4 k hk.1 hk.2.1)) (fun k hk => hk.1)
  · exact Kd.R_below hr h
theorem St6.glob {V3 V4 : Value} {i B base : Nat} {w w' : World} (h : St6 V3 V4 i w w') (hg : Glob B w) (hB : B ≤ base) (h3 : ∀ k, V3.ownBlock = some k → base ≤ k) (h4 : ∀ k, V4.ownBlock = some k → base ≤ k) : Glob B w' := by
  have key : ∀ {row : Option Nat}, w.grownBy w' row → (∀ k, row = some k → base ≤ k) → Glob B w' := fun hgr hr =>
    ⟨Nat.le_trans hg.le hgr.size, fun w2 h2 => hg.errs w2 ((below_row hgr hr hB hg.le).trans h2), fun w2 h2 => hg.words w2 ((below_row hgr hr hB hg.le).trans h2)⟩
  unfold St6 at h
  split at h
  · exact key h h3
  · exact key h h4
  · exact hg.below h
theorem St6.less {V3 V4 : Value} {i : Nat} {w w' : World} (h : St6 V3 V4 i w w') : (i = 5 ∧ w.grownBy w' V3.ownBlock) ∨ (i = 11 ∧ w.grownBy w' V4.ownBlock) ∨ Below w.heap.size w w' := by
  unfold St6 at h
  split at h
  · exact .inl ⟨rfl, h⟩
  · exact .inr (.inl ⟨rfl, h⟩)
  · exact .inr (.inr h)
/-- The two rows: elder than the part. -/
structure Two6 (g bv bp pb base S0 S1 : Nat) (V3 V4 : Value) : Prop where
  b3 : ∀ k, V3.ownBlock = some k → base ≤ k ∧ k < S0
  b4 : ∀ k, V4.ownBlock = some k → base ≤ k ∧ k < S0
  ne : ∀ k, V3.ownBlock = some k → V4.ownBlock ≠ some k
  g : g < base
  v : bv < base
  p : bp < base
  s : S0 ≤ S1
  pb : S0 ≤ pb
  bs : base ≤ S0
theorem Two6.low {g bv bp pb base S0 S1 : Nat} {V3 V4 : Value} (h : Two6 g bv bp pb base S0 S1 V3 V4) {k : Nat} (hk : k < base ∨ S0 ≤ k) : some k ≠ V3.ownBlock ∧ some k ≠ V4.ownBlock :=
  ⟨fun e => by have := h.b3 k e.symm; have := h.bs; omega, fun e => by have := h.b4 k e.symm; have := h.bs; omega⟩
theorem Hold6.step {B g bv bp pb base S0 S1 : Nat} {V3 V4 : Value} {P : S26} {P3 P4 : Value} {lf : List UInt8} {bd : Bool} {W w w' : World} {i : Nat} (h : Hold6 B g bv bp pb base S1 V3 V4 P P3 P4 lf bd W w) (T : Two6 g bv bp pb base S0 S1 V3 V4) (hB : B ≤ base) (hs : St6 V3 V4 i w w') : Hold6 B g bv bp pb base S1 V3 V4 P P3 P4 lf bd W w' :=
  ⟨hs.blk h.box (T.low (.inl T.v)).1 (T.low (.inl T.v)).2, hs.blk h.ptr (T.low (.inl T.p)).1 (T.low (.inl T.p)).2, hs.blk h.part (T.low (.inr T.pb)).1 (T.low (.inr T.pb)).2, hs.blk h.ps (T.low (.inl T.g)).1 (T.low (.inl T.g)).2,
    hs.row h.p3 (fun k _ hk => (T.low (.inr (Nat.le_trans T.s hk))).1) (fun k _ hk => (T.low (.inr (Nat.le_trans T.s hk))).2),
    hs.row h.p4 (fun k _ hk => (T.low (.inr (Nat.le_trans T.s hk))).1) (fun k _ hk => (T.low (.inr (Nat.le_trans T.s hk))).2),
    hs.glob h.glob hB (fun k hk => (T.b3 k hk).1) (fun k hk => (T.b4 k hk).1), Nat.le_trans h.size hs.size,
    h.two.trans (by
      rcases hs.less with ⟨_, h2⟩ | ⟨_, h2⟩ | h2
      · exact Two.of_row h2 (fun k hk => (T.b3 k hk).1)
      · exact Two.of_row h2 (fun k hk => (T.b4 k hk).1)
      · exact Two.of_below h2)⟩
def G6 (base S2 : Nat) (V3 V4 : Value) (ks : List ByteArray) (ps : List S26) : Nat → World → Prop
  | 5, w => Kd.string.R 9 w base (fun k => some k ≠ V4.ownBlock) V3 ks
  | 11, w => k26.R 26 w base (fun k => some k ≠ V3.ownBlock ∧ k < S2) V4 ps
  | _, _ => True
def F6 (bv base lo : Nat) (V3 V4 : Value) (key : ByteArray) (P : S26) (P3 P4 : Value) (ks' : List ByteArray) (ps' : List S26) (W : World) : Nat → Value → World → Prop
  | 0, v, _ => v = .pointer (some ⟨bv, 3, none⟩)
  | 1, v, _ => v = V3
  | 2, v, _ => v = .int .i64 lo
  | 3, v, _ => v = .string key
  | 4, v, w => ∃ z, v = .slice (some ⟨z, 0, none⟩) 1 1 ∧ W.heap.size ≤ z ∧ w.heap[z]? = some (.cells #[.string key] 9 (0, 0))
  | 5, v, w => Kd.string.R 9 w base (fun k => some k ≠ V4.ownBlock) v ks' ∧ (v.ownBlock = V3.ownBlock ∨ ∃ b, v.ownBlock = some b ∧ W.heap.size ≤ b)
  | 6, v, _ => v = .pointer (some ⟨bv, 4, none⟩)
  | 7, v, _ => v = V4
  | 8, v, _ => v = .int .i64 lo
  | 9, v, _ => v = .agg #[.int .i64 P.f0, .int .i64 P.f1, .string P.f2, P3, P4]
  | 10, v, w => ∃ z, v = .slice (some ⟨z, 0, none⟩) 1 1 ∧ W.heap.size ≤ z ∧ w.heap[z]? = some (.cells #[.int .i64 P.f0, .int .i64 P.f1, .string P.f2, P3, P4] 26 (0, 0))
  | 11, v, w => OwnRow (k26.M w base (fun k => some k ≠ V3.ownBlock ∧ some k ≠ V4.ownBlock ∧ k < W.heap.size)) 26 5 w base v ps' ∧ (v.ownBlock = V4.ownBlock ∨ ∃ b, v.ownBlock = some b ∧ W.heap.size ≤ b)
  | 12, v, _ => v = .pointer (some ⟨bv, 3, none⟩)
  | _, _, _ => True
theorem G6.last {base S2 : Nat} {V3 V4 : Value} {ks : List ByteArray} {ps : List S26} (i k : Nat) (w w' : World) (hik : i ≠ k) (h : G6 base S2 V3 V4 ks ps k w) (hs : St6 V3 V4 i w w') : G6 base S2 V3 V4 ks ps k w' := by
  unfold G6 at h ⊢
  split
  · rcases hs.less with ⟨h1, _⟩ | ⟨_, h2⟩ | h2
    · exact absurd h1 hik
    · exact Kd.R_grown h h2 (fun k hk => hk)
    · exact Kd.R_below h h2
  · rcases hs.less with ⟨_, h2⟩ | ⟨h1, _⟩ | h2
    · exact Kd.R_grown h h2 (fun k hk => hk.1)
    · exact absurd h1 hik
    · exact Kd.R_below h h2
  · trivial
theorem F6.last {g bv bp pb base S0 S1 lo : Nat} {V3 V4 : Value} {key : ByteArray} {P : S26} {P3 P4 : Value} {ks' : List ByteArray} {ps' : List S26} {W : World} (T : Two6 g bv bp pb base S0 S1 V3 V4) (hW : S0 ≤ W.heap.size) (i k : Nat) (v : Value) (w w' : World) (hik : i ≠ k) (h : F6 bv base lo V3 V4 key P P3 P4 ks' ps' W k v w) (hs : St6 V3 V4 i w w') : F6 bv base lo V3 V4 key P P3 P4 ks' ps' W k v w' := by
  unfold F6 at h ⊢
  split
  · exact h
  · exact h
  · exact h
  · exact h
  · obtain ⟨z, h1, h2, h3⟩ := h
    exact ⟨z, h1, h2, hs.blk h3 (T.low (.inr (Nat.le_trans hW h2))).1 (T.low (.inr (Nat.le_trans hW h2))).2⟩
  · refine ⟨?_, h.2⟩
    rcases hs.less with ⟨h1, _⟩ | ⟨_, h2⟩ | h2
    · exact absurd h1 hik
    · exact Kd.R_grown h.1 h2 (fun k hk => hk)
    · exact Kd.R_below h.1 h2
  · exact h
  · exact h
  · exact h
  · exact h
  · obtain ⟨z, h1, h2, h3⟩ := h
    exact ⟨z, h1, h2, hs.blk h3 (T.low (.inr (Nat.le_trans hW h2))).1 (T.low (.inr (Nat.le_trans hW h2))).2⟩
  · refine ⟨?_, h.2⟩
    rcases hs.less with ⟨_, h2⟩ | ⟨h1, _⟩ | h2
    · have hne : v.ownBlock = none ∨ v.ownBlock ≠ V3.ownBlock := by
        cases hv : v.ownBlock with
        | none => exact .inl rfl
        | some b =>
          refine .inr (fun e => ?_)
          have h3 := T.b3 b e.symm
          rcases h.2 with h4 | ⟨b2, h4, h5⟩
          · exact T.ne b e.symm (h4 ▸ hv)
          · rw [hv] at h4
            injection h4 with h4
            omega
      exact (h.1.other h2 hne).imp_ (fun p c hm => Kd.M_grown hm h2 (fun k hk => hk.1))
    · exact absurd h1 hik
    · exact (h.1.below h2).imp_ (fun p c hm => Kd.M_below hm h2)
  · exact h
  · trivial

/-- Behind the region: both rows stored. -/
theorem obj_end {B g bv bp pb base S0 S1 : Nat} {V3 V4 V5 V6 : Value} {P : S26} {P3 P4 : Value} {lf : List UInt8} {bd : Bool} {W w : World} {ks' : List ByteArray} {ps' : List S26} (hI : Hold6 B g bv bp pb base S1 V3 V4 P P3 P4 lf bd W w) (T : Two6 g bv bp pb base S0 S1 V3 V4) (hB : B ≤ base) (hBv : B ≤ bv) (hgv : bv ≠ g) (hvp : bv ≠ bp)
    (h5 : Kd.string.R 9 w base (fun k => some k ≠ V4.ownBlock) V5 ks') (hat5 : V5.ownBlock = V3.ownBlock ∨ ∃ b, V5.ownBlock = some b ∧ W.heap.size ≤ b)
    (h6 : OwnRow (k26.M w base (fun k => some k ≠ V3.ownBlock ∧ some k ≠ V4.ownBlock ∧ k < W.heap.size)) 26 5 w base V6 ps') (hat6 : V6.ownBlock = V4.ownBlock ∨ ∃ b, V6.ownBlock = some b ∧ W.heap.size ≤ b) (hlen : ks'.length = ps'.length) (hbw : base ≤ w.heap.size) :
    Two g bv base W ((w.setCell ⟨bv, 3, none⟩ V5).setCell ⟨bv, 4, none⟩ V6) ∧ PS ((w.setCell ⟨bv, 3, none⟩ V5).setCell ⟨bv, 4, none⟩ V6) g lf bd ∧ ObjInv B g bv bp base (ks', ps') ((w.setCell ⟨bv, 3, none⟩ V5).setCell ⟨bv, 4, none⟩ V6) V5 V6 := by
  have hg : w.grownBy ((w.setCell ⟨bv, 3, none⟩ V5).setCell ⟨bv, 4, none⟩ V6) (some bv) := grown2 (grown_set w bv 3 V5) (grown_set _ bv 4 V6)
  have hk6 : k26.R 26 w base (fun k => some k ≠ V5.ownBlock) V6 ps' := by
    obtain ⟨inner, hown, hr⟩ := h6
    refine ⟨fun k hk e => ?_, inner, hown, hr.imp_ (fun p c hm => k26.M_mono (fun k hk => ⟨fun e => ?_, fun e => ?_⟩) hm)⟩
    · obtain ⟨c1, h1⟩ := own_typed hown k hk
      obtain ⟨c2, h2⟩ := Kd.R_typed h5 k e.symm
      rw [h1] at h2
      exact absurd h2 (by simp)
    · rcases hat5 with h | ⟨b, h, hb⟩
      · exact hk.1 (e.trans h)
      · rw [h] at e; injection e with e; have := hk.2.2; omega
    · rcases hat6 with h | ⟨b, h, hb⟩
      · exact hk.2.1 (e.trans h)
      · rw [h] at e; injection e with e; have := hk.2.2; omega
  refine ⟨hI.two.trans (Two.of_grown' hg), blk_grown hI.ps hg (fun e => hgv (by injection e with e; exact e.symm)), ?_⟩
  exact ⟨blk_set (blk_set hI.box 3 V5) 4 V6, blk_grown hI.ptr hg (fun e => hvp (by injection e with e; exact e.symm)), Kd.R_mono (R_far_of h5 hg T.v) (fun _ _ => trivial), R_far_of hk6 hg T.v, hlen, hI.glob.step hg hBv, Nat.le_trans hbw hg.size⟩

set_option maxHeartbeats 8000000 in
set_option maxRecDepth 100000 in
theorem item6_calls (AO : AnyOk) (B d : Nat) (hV : ValOk B d) (g bv bp base : Nat) (hB : B ≤ g) (hBv : B ≤ bv) (hgb : g < base) (hvb : bv < base) (hpb : bp < base) (hgv : bv ≠ g) (hgp : bp ≠ g) (hvp : bv ≠ bp)
    (a : List ByteArray × List S26) (V3 V4 : Value) (l : List UInt8) (w : World) (h : PS w g l false) (hi : ObjInv B g bv bp base a w V3 V4) (hl : l.length < d) (hm : a.2.length + l.length ≤ 1000000) :
    Calls Tryz.prog 60 #[.pointer (some ⟨bp, 0, none⟩), .pointer (some ⟨bv, 0, none⟩)] w fun e w' => ItemOut g bv base (objI (valueP d)) (fun q w => ∃ v3 v4, ObjInv B g bv bp base q w v3 v4) a l w e w' := by
  have HI := Aside0.mk hi
  have HP := Aside0.mk h
  have HV := Aside0.mk hV
  have HA := Aside0.mk AO
  have HL := Aside0.mk (And.intro hl hm)
  have HB := Aside0.mk (And.intro hB hBv)
  have HNe := Aside0.mk (And.intro hgv (And.intro hgp hvp))
  have HLt := Aside0.mk (And.intro hgb (And.intro hvb hpb))
  have HGr := Aside0.mk (fun (w' : World) (hg : w.grownBy w' (some g)) => hi.grown hg hB hgb hgv hgp)
  have p0 := blk_cell hi.ptr 0
  dsimp at p0
  obtain ⟨res, hres⟩ : ∃ q, q = objI (valueP d) a l := ⟨_, rfl⟩
  have HRes := Aside0.mk hres
  have HOut : Aside0 (∀ e w', e = .returned (.tuple #[]) → Two g bv base w w' → ((∃ a' r, res = some (a', r) ∧ PS w' g r false ∧ ∃ v3 v4, ObjInv B g bv bp base a' w' v3 v4) ∨ (res = none ∧ PS w' g [] true ∧ ∃ a' v3 v4, ObjInv B g bv bp base a' w' v3 v4)) → ItemOut g bv base (objI (valueP d)) (fun q w => ∃ v3 v4, ObjInv B g bv bp base q w v3 v4) a l w e w') := ⟨fun e w' h1 h2 h3 => ⟨h1, h2, by rw [← hres]; exact h3⟩⟩
  clear hi h hV AO hl hm hB hBv hgv hgp hvp hgb hvb hpb hres
  go_enter Tryz.func60, Tryz.ntmps60
  cases ht : tk [34] l with
  | none =>
    have HT := Aside0.mk (takes_none HP.out ht)
    rw [tk_str34] at HT
    have HO := Aside0.mk (show res = none by rw [HRes.out]; exact objI_n1 ht)
    clear ht
    have HF := Aside0.mk (fun w2 (hp : PS w2 g l false) => fails_calls w2 g l false hp)
    go_upto_region 1 with (first
      | (go_at_call 30; refine HT.out.mono ?_; rintro e w2 ⟨rfl, hp, hb⟩; have HP2 := Aside0.mk hp; have HG2 := Aside0.mk hb; clear hp hb))
    have q0 := blk_cell (HGr.out _ HG2.out).ptr 0
    dsimp at q0
    clear p0
    go_wp2_with (first
      | (go_at_call 58; refine (HF.out _ HP2.out).mono ?_; rintro e w3 ⟨rfl, hp, hb⟩; have HP3 := Aside0.mk hp; have HG3 := Aside0.mk (grown2 HG2.out hb); clear hp hb))
    go_end0
    exact HOut.out _ _ rfl (Two.of_grown HG3.out) (.inr ⟨HO.out, HP3.out, a, V3, V4, HGr.out _ HG3.out⟩)
  | some l1 =>
    have HT := Aside0.mk (takes_some HP.out ht)
    rw [tk_str34] at HT
    have HTk := Aside0.mk ht
    have HL1 := Aside0.mk (tk_le ht)
    clear ht
    go_upto_region 2 with (first
      | (go_at_call 30; refine HT.out.mono ?_; rintro e w2 ⟨rfl, hp, hb⟩; have HP2 := Aside0.mk hp; have HG2 := Aside0.mk hb; clear hp hb))
    have q0 := blk_cell (HGr.out _ HG2.out).ptr 0
    dsimp at q0
    clear p0
    have HTx := Aside0.mk (ptext_calls HA.out w2 g l1 false HP2.out (by have := HL1.out; have := HL.out; omega) B (HGr.out _ HG2.out).glob HB.out.1)
    cases hx : textP (l1.length + 1) l1 with
    | none =>
      have HO := Aside0.mk (show res = none by rw [HRes.out]; exact objI_n2 HTk.out hx)
      have HTn := Aside0.mk (HTx.out.mono (fun e w' (hh : TextOut w2 g l1 false e w') => (show w2.grownBy w' (some g) ∧ e = .returned (.string ⟨#[]⟩) ∧ PS w' g [] true from ⟨hh.1, by have h2 := hh.2; rw [hx] at h2; exact h2⟩)))
      clear hx HTx
      go_upto_region 3 with (first
        | (go_at_call 31; refine HTn.out.mono ?_; rintro e w3 ⟨hb, rfl, hp⟩; have HP3 := Aside0.mk hp; have HG3 := Aside0.mk (grown2 HG2.out hb); clear hp hb))
      have q1 := blk_cell (HGr.out _ HG3.out).ptr 0
      dsimp at q1
      clear q0
      have HSk := Aside0.mk (skip_calls w3 g [] true HP3.out)
      rw [show Lib.trimLeftS [] [32, 9, 10, 13] = [] from rfl] at HSk
      go_upto_region 4 with (first
        | (go_at_call 20; refine HSk.out.mono ?_; rintro e w4 ⟨rfl, hp, hb⟩; have HP4 := Aside0.mk hp; have HG4 := Aside0.mk (grown2 HG3.out hb); clear hp hb))
      have q2 := blk_cell (HGr.out _ HG4.out).ptr 0
      dsimp at q2
      clear q1
      have HT4 := Aside0.mk (takes_none HP4.out (tk_nil 58 []))
      rw [show str [58] = (⟨#[58]⟩ : ByteArray) from rfl] at HT4
      have HF := Aside0.mk (fun w2 (hp : PS w2 g [] true) => fails_calls w2 g [] true hp)
      go_upto_region 5 with (first
        | (go_at_call 30; refine HT4.out.mono ?_; rintro e w5 ⟨rfl, hp, hb⟩; have HP5 := Aside0.mk hp; have HG5 := Aside0.mk (grown2 HG4.out hb); clear hp hb))
      have q3 := blk_cell (HGr.out _ HG5.out).ptr 0
      dsimp at q3
      clear q2
      go_wp2_with (first
        | (go_at_call 58; refine (HF.out _ HP5.out).mono ?_; rintro e w6 ⟨rfl, hp, hb⟩; have HP6 := Aside0.mk hp; have HG6 := Aside0.mk (grown2 HG5.out hb); clear hp hb))
      go_end0
      exact HOut.out _ _ rfl (Two.of_grown HG6.out) (.inr ⟨HO.out, HP6.out, a, V3, V4, HGr.out _ HG6.out⟩)
    | some p =>
      obtain ⟨k, r⟩ := p
      have HTn := Aside0.mk (HTx.out.mono (fun e w' (hh : TextOut w2 g l1 false e w') => (show w2.grownBy w' (some g) ∧ e = .returned (.string (str k)) ∧ PS w' g r false from ⟨hh.1, by have h2 := hh.2; rw [hx] at h2; exact h2⟩)))
      have HXp := Aside0.mk hx
      have HXl := Aside0.mk (textP_length _ _ _ _ hx)
      obtain ⟨key, hkey⟩ : ∃ q, q = str k := ⟨_, rfl⟩
      have HKey := Aside0.mk hkey
      rw [← hkey] at HTn
      clear hx HTx hkey
      go_upto_region 3 with (first
        | (go_at_call 31; refine HTn.out.mono ?_; rintro e w3 ⟨hb, rfl, hp⟩; have HP3 := Aside0.mk hp; have HG3 := Aside0.mk (grown2 HG2.out hb); clear hp hb))
      have q1 := blk_cell (HGr.out _ HG3.out).ptr 0
      dsimp at q1
      clear q0
      have HSk := Aside0.mk (skip_calls w3 g r false HP3.out)
      obtain ⟨r1, hr1⟩ : ∃ q, q = Lib.trimLeftS r [32, 9, 10, 13] := ⟨_, rfl⟩
      rw [← hr1] at HSk
      have HR1 := Aside0.mk (show r1 = sk r from hr1)
      have HR1l := Aside0.mk (show r1.length ≤ r.length by rw [show r1 = sk r from hr1]; exact sk_le r)
      clear hr1
      go_upto_region 4 with (first
        | (go_at_call 20; refine HSk.out.mono ?_; rintro e w4 ⟨rfl, hp, hb⟩; have HP4 := Aside0.mk hp; have HG4 := Aside0.mk (grown2 HG3.out hb); clear hp hb))
      have q2 := blk_cell (HGr.out _ HG4.out).ptr 0
      dsimp at q2
      clear q1
      cases hc : tk [58] r1 with
      | none =>
        have HO := Aside0.mk (show res = none by rw [HRes.out]; exact objI_n3 HTk.out HXp.out (by rw [← HR1.out]; exact hc))
        have HT4 := Aside0.mk (takes_none HP4.out hc)
        rw [show str [58] = (⟨#[58]⟩ : ByteArray) from rfl] at HT4
        have HF := Aside0.mk (fun w2 (hp : PS w2 g r1 false) => fails_calls w2 g r1 false hp)
        clear hc
        go_upto_region 5 with (first
          | (go_at_call 30; refine HT4.out.mono ?_; rintro e w5 ⟨rfl, hp, hb⟩; have HP5 := Aside0.mk hp; have HG5 := Aside0.mk (grown2 HG4.out hb); clear hp hb))
        have q3 := blk_cell (HGr.out _ HG5.out).ptr 0
        dsimp at q3
        clear q2
        go_wp2_with (first
          | (go_at_call 58; refine (HF.out _ HP5.out).mono ?_; rintro e w6 ⟨rfl, hp, hb⟩; have HP6 := Aside0.mk hp; have HG6 := Aside0.mk (grown2 HG5.out hb); clear hp hb))
        go_end0
        exact HOut.out _ _ rfl (Two.of_grown HG6.out) (.inr ⟨HO.out, HP6.out, a, V3, V4, HGr.out _ HG6.out⟩)
      | some q =>
        have HT4 := Aside0.mk (takes_some HP4.out hc)
        rw [show str [58] = (⟨#[58]⟩ : ByteArray) from rfl] at HT4
        have HC := Aside0.mk (show tk [58] (sk r) = some q by rw [← HR1.out]; exact hc)
        have HQl := Aside0.mk (tk_le hc)
        clear hc
        go_upto_region 6 with (first
          | (go_at_call 30; refine HT4.out.mono ?_; rintro e w5 ⟨rfl, hp, hb⟩; have HP5 := Aside0.mk hp; have HG5 := Aside0.mk (grown2 HG4.out hb); clear hp hb))
        have q3 := blk_cell (HGr.out _ HG5.out).ptr 0
        dsimp at q3
        clear q2
        have HSk5 := Aside0.mk (skip_calls w5 g q false HP5.out)
        obtain ⟨r5, hr5⟩ : ∃ x, x = Lib.trimLeftS q [32, 9, 10, 13] := ⟨_, rfl⟩
        rw [← hr5] at HSk5
        have HR5 := Aside0.mk (show r5 = sk q from hr5)
        have HR5l := Aside0.mk (show r5.length ≤ q.length by rw [show r5 = sk q from hr5]; exact sk_le q)
        clear hr5
        go_upto_region 7 with (first
          | (go_at_call 20; refine HSk5.out.mono ?_; rintro e w6 ⟨rfl, hp, hb⟩; have HP6 := Aside0.mk hp; have HG6 := Aside0.mk (grown2 HG5.out hb); clear hp hb))
        have q4 := blk_cell (HGr.out _ HG6.out).ptr 0
        dsimp at q4
        clear q3
        have HVal := Aside0.mk (HV.out r5 w6 g HP6.out (HGr.out _ HG6.out).glob HB.out.1 (by have := HL.out; have := HL1.out; have := HXl.out; have := HR1l.out; have := HQl.out; have := HR5l.out; simp only [List.length_cons, List.length_nil] at *; omega) (by have := HL.out; have := HL1.out; have := HXl.out; have := HR1l.out; have := HQl.out; have := HR5l.out; simp only [List.length_cons, List.length_nil] at *; omega))
        go_upto_region 8 with (first
          | (go_at_call 21; refine HVal.out.mono ?_; rintro e w7 ⟨v, P3, P4, rfl, h3, h4, hb, hh⟩; obtain ⟨A3, c3, hP3⟩ := Kd.R_slice h3; obtain ⟨A4, c4, hP4⟩ := Kd.R_slice h4; obtain ⟨n3, hn3⟩ : ∃ q, q = v.f3.length := ⟨_, rfl⟩; obtain ⟨n4, hn4⟩ : ∃ q, q = v.f4.length := ⟨_, rfl⟩; rw [← hn3] at hP3; rw [← hn4] at hP4; subst hP3 hP4; clear hn3 hn4; have HP3' := Aside0.mk h3; have HP4' := Aside0.mk h4; have HG7 := Aside0.mk (grown2 HG6.out hb); have HH := Aside0.mk hh; clear h3 h4 hb hh))
        obtain ⟨lf, bd, hps, hcase⟩ : ∃ lf bd, PS w7 g lf bd ∧ ((valueP d r5 = some (v, lf) ∧ bd = false) ∨ (valueP d r5 = none ∧ lf = [] ∧ bd = true)) := by
          rcases HH.out with ⟨r2, h1, h2⟩ | ⟨h1, h2⟩
          · exact ⟨r2, false, h2, .inl ⟨h1, rfl⟩⟩
          · exact ⟨[], true, h2, .inr ⟨h1, rfl, rfl⟩⟩
        have HCs := Aside0.mk hcase
        have HPs := Aside0.mk hps
        clear hcase hps HH q4
        obtain ⟨pb, hpb⟩ : ∃ q, q = w7.heap.size := ⟨_, rfl⟩
        have HPart := Aside0.mk (heap_alloc_new w7 (.cells #[.int .i64 v.f0, .int .i64 v.f1, .string v.f2, .slice A3 n3 c3, .slice A4 n4 c4] 26))
        have HB8 := Aside0.mk (show Below w7.heap.size w7 (w7.alloc (.cells #[.int .i64 v.f0, .int .i64 v.f1, .string v.f2, .slice A3 n3 c3, .slice A4 n4 c4] 26)) from below_alloc (Below.refl _ _) _)
        generalize w7.alloc (.cells #[.int .i64 v.f0, .int .i64 v.f1, .string v.f2, .slice A3 n3 c3, .slice A4 n4 c4] 26) = w8 at HPart HB8 ⊢
        rw [← hpb] at HPart ⊢
        have HPb := Aside0.mk hpb
        clear hpb
        have HG8 := Aside0.mk (grown2 HG7.out (grown_of_below HB8.out _))
        have HI8 := Aside0.mk (HGr.out _ HG8.out)
        have q5 := blk_cell HI8.out.box 3
        dsimp at q5
        have HSe := Aside0.mk (search_calls HI8.out.keys key (by have := HI.out.same; have := HL.out; omega))
        obtain ⟨lo, hlo⟩ : ∃ x, x = lowK a.1 key := ⟨_, rfl⟩
        obtain ⟨had, hhad⟩ : ∃ x, x = hadK a.1 key := ⟨_, rfl⟩
        rw [← hlo, ← hhad] at HSe
        have HLo := Aside0.mk hlo
        have HHad := Aside0.mk hhad
        obtain ⟨il, hil⟩ : ∃ x : Int, x = (lo : Int) := ⟨_, rfl⟩
        rw [← hil] at HSe
        have HIl := Aside0.mk hil
        clear hlo hhad hil
        go_upto_region 9 with (first
          | (go_at_call 61; refine HSe.out.mono ?_; rintro e w9 ⟨rfl, hb⟩; have HB9 := Aside0.mk hb; clear hb))
        have HG9 := Aside0.mk (grown2 HG8.out (grown_of_below HB9.out _))
        have HI9 := Aside0.mk (HGr.out _ HG9.out)
        have HP9 := Aside0.mk (show PS w9 g lf bd from ((HB8.out.trans (HB9.out.mono HB8.out.size)).block g HPs.out.lt).trans HPs.out)
        clear q5
        cases had with
        | true =>
          have HO := Aside0.mk (show res = none by
            rw [HRes.out]
            rcases HCs.out with ⟨h1, _⟩ | ⟨h1, _⟩
            · rw [objI_ok HTk.out HXp.out HC.out (by rw [← HR5.out]; exact h1), ← HKey.out, if_pos HHad.out.symm]
            · exact objI_n4 HTk.out HXp.out HC.out (by rw [← HR5.out]; exact h1))
          have q6 := blk_cell HI9.out.ptr 0
          dsimp at q6
          have HF := Aside0.mk (fails_calls w9 g lf bd HP9.out)
          go_wp2_with (first
            | (go_at_call 58; refine HF.out.mono ?_; rintro e w10 ⟨rfl, hp, hb⟩; have HP10 := Aside0.mk hp; have HG10 := Aside0.mk (grown2 HG9.out hb); clear hp hb))
          go_end0
          exact HOut.out _ _ rfl (Two.of_grown HG10.out) (.inr ⟨HO.out, HP10.out, a, V3, V4, HGr.out _ HG10.out⟩)
        | false =>
          obtain ⟨ks', hks'⟩ : ∃ x, x = a.1.take lo ++ key :: a.1.drop lo := ⟨_, rfl⟩
          obtain ⟨ps', hps'⟩ : ∃ x, x = a.2.take lo ++ v :: a.2.drop lo := ⟨_, rfl⟩
          have HO := Aside0.mk (show (res = some ((ks', ps'), lf) ∧ bd = false) ∨ (res = none ∧ lf = [] ∧ bd = true) by
            rw [HRes.out]
            rcases HCs.out with ⟨h1, h2⟩ | ⟨h1, h2⟩
            · refine .inl ⟨?_, h2⟩
              rw [objI_ok HTk.out HXp.out HC.out (by rw [← HR5.out]; exact h1), ← HKey.out, if_neg (by rw [← HHad.out]; decide), hks', hps', HLo.out]
            · exact .inr ⟨objI_n4 HTk.out HXp.out HC.out (by rw [← HR5.out]; exact h1), h2⟩)
          have hT : Two6 g bv bp pb base w.heap.size w6.heap.size V3 V4 :=
            ⟨fun k hk => ⟨Kd.R_base HI.out.keys k hk, Kd.R_lt HI.out.keys k hk⟩, fun k hk => ⟨Kd.R_base HI.out.parts k hk, Kd.R_lt HI.out.parts k hk⟩, fun k hk hk2 => by
              obtain ⟨c1, h1⟩ := Kd.R_typed HI.out.keys k hk
              obtain ⟨c2, h2⟩ := Kd.R_typed HI.out.parts k hk2
              rw [h1] at h2
              exact absurd h2 (by simp), HLt.out.1, HLt.out.2.1, HLt.out.2.2, HG6.out.size, by rw [HPb.out]; exact HG7.out.size, HI.out.le⟩
          have HT := Aside0.mk hT
          have hBb : B ≤ base := Nat.le_trans HB.out.1 (Nat.le_of_lt HLt.out.1)
          have HBb := Aside0.mk hBb
          have hH9 : Hold6 B g bv bp pb base w6.heap.size V3 V4 v (.slice A3 n3 c3) (.slice A4 n4 c4) lf bd w9 w9 :=
            ⟨HI9.out.box, HI9.out.ptr, blk_below HPart.out HB9.out, HP9.out, Kd.R_mono (Kd.R_bound (Kd.R_below HP3'.out (HB8.out.trans (HB9.out.mono HB8.out.size)))) (fun k hk => hk.2.2.1), Kd.R_mono (Kd.R_bound (Kd.R_below HP4'.out (HB8.out.trans (HB9.out.mono HB8.out.size)))) (fun k hk => hk.2.2.1), HI9.out.glob, Nat.le_refl _, Two.refl _ _ _ _⟩
          have hG5 : Kd.string.R 9 w9.drew base (fun k => some k ≠ V4.ownBlock) V3 a.1 := Kd.R_drew (Kd.R_mono (Kd.R_apartR HI9.out.keys HI9.out.parts (by decide)) (fun k hk => hk.2))
          have hG11 : k26.R 26 w9.drew base (fun k => some k ≠ V3.ownBlock ∧ k < w9.heap.size) V4 a.2 := Kd.R_drew (Kd.R_mono (Kd.R_bound HI9.out.parts) (fun k hk => ⟨hk.1, hk.2.2.1⟩))
          have HKs := Aside0.mk (And.intro hks' hps')
          clear hks' hps'
          have hlen : lo ≤ a.1.length := by rw [HLo.out]; exact low_le _ _
          have hsm := HI.out.same
          have hsz : a.2.length ≤ 1000000 := by have := HL.out; omega
          have hW0 : w.heap.size ≤ w9.heap.size := HG9.out.size
          clear HVal HSk HSk5 HTn HT4
          go_upto_region 11 with (fail)
          refine region_ways (by kernel_rfl) 13 (Hold6 B g bv bp pb base w6.heap.size V3 V4 v (.slice A3 n3 c3) (.slice A4 n4 c4) lf bd w9) (St6 V3 V4) (G6 base w9.heap.size V3 V4 a.1 a.2) (F6 bv base lo V3 V4 key v (.slice A3 n3 c3) (.slice A4 n4 c4) ks' ps' w9) (by kernel_rfl) (hH9.step hT hBb (i := 0) (Below.refl _ _).drew) ?_ (fun i k u w1 w2 hik hF _ hs => F6.last hT hW0 i k u w1 w2 hik hF hs) (fun i k w1 w2 hik hG _ hs => G6.last i k w1 w2 hik hG hs) ?_ ?_
          · intro k _
            unfold G6
            split
            · exact hG5
            · exact hG11
            · trivial
          · rw [HIl.out]
            refine ⟨?_, ?_, ?_, ?_, ?_, ?_, ?_, ?_, ?_, ?_, ?_, ?_, ?_, trivial⟩
            · intro ev w1 hI hG hc hf hg hbase hdep
              refine ⟨fun _ => ?_, fun h => absurd trivial h⟩
              have e0 : ev (.tmp 1) = .pointer (some ⟨bv, 0, none⟩) := hbase 1 (by decide)
              unfold Gives
              go_simp
              exact ⟨rfl, Below.refl _ _⟩
            · intro ev w1 hI hG hc hf hg hbase hdep
              refine ⟨fun _ => ?_, fun h => absurd trivial h⟩
              have e1 : ev (.tmp 34) = .pointer (some ⟨bv, 3, none⟩) := hdep 0 (by decide)
              have hq : w1.cell? ⟨bv, 3, none⟩ = some V3 := blk_cell hI.box 3
              unfold Gives
              go_simp
              exact ⟨rfl, Below.refl _ _⟩
            · intro ev w1 hI hG hc hf hg hbase hdep
              refine ⟨fun _ => ?_, fun h => absurd trivial h⟩
              have e0 := hbase 4 (by decide)
              unfold Gives
              go_simp
              exact ⟨rfl, Below.refl _ _⟩
            · intro ev w1 hI hG hc hf hg hbase hdep
              refine ⟨fun _ => ?_, fun h => absurd trivial h⟩
              have e0 := hbase 2 (by decide)
              unfold Gives
              go_simp
              exact ⟨rfl, Below.refl _ _⟩
            · intro ev w1 hI hG hc hf hg hbase hdep
              refine ⟨fun _ => ?_, fun h => absurd trivial h⟩
              have e1 : ev (.tmp 37) = .string key := hdep 3 (by decide)
              unfold Gives
              go_simp
              exact ⟨⟨w1.heap.size, rfl, hI.size, heap_alloc_new _ _⟩, hI.step hT hBb (i := 4) (below_alloc (Below.refl _ _) _), below_alloc (Below.refl _ _) _⟩
            · intro ev w1 hI hG hc hf hg hbase hdep
              refine ⟨fun _ => ?_, fun h => absurd trivial h⟩
              have e1 : ev (.tmp 35) = V3 := hdep 1 (by decide)
              have e2 : ev (.tmp 36) = .int .i64 (lo : Int) := hdep 2 (by decide)
              obtain ⟨z, e3, hz, hzb⟩ := hdep 4 (by decide)
              have e3' : ev (.tmp 38) = .slice (some ⟨z, 0, none⟩) 1 1 := e3
              unfold Gives
              go_simp
              refine (InsS.Insert_calls w1 base z lo (fun k => some k ≠ V4.ownBlock) (fun _ => False) V3 a.1 key [.string key] hlen (by omega) (Nat.le_trans hT.bs (Nat.le_trans hW0 hI.size)) (fun k hk => (hT.low (.inr (Nat.le_trans hW0 (Nat.le_trans hI.size hk)))).2) hG rfl (fun _ h => h.elim) hzb (fun e => (hT.low (.inr (Nat.le_trans hW0 hz))).1 e.symm)).mono ?_
              rintro e w2 ⟨u, rfl, hR, hgr, hat⟩
              exact ⟨_, rfl, ⟨by rw [HKs.out.1]; exact hR, hat.imp_right (fun ⟨b, h1, h2⟩ => ⟨b, h1, Nat.le_trans hI.size h2⟩)⟩, hI.step hT hBb (i := 5) hgr, hgr⟩
            · intro ev w1 hI hG hc hf hg hbase hdep
              refine ⟨fun _ => ?_, fun h => absurd trivial h⟩
              have e0 : ev (.tmp 1) = .pointer (some ⟨bv, 0, none⟩) := hbase 1 (by decide)
              unfold Gives
              go_simp
              exact ⟨rfl, Below.refl _ _⟩
            · intro ev w1 hI hG hc hf hg hbase hdep
              refine ⟨fun _ => ?_, fun h => absurd trivial h⟩
              have e1 : ev (.tmp 40) = .pointer (some ⟨bv, 4, none⟩) := hdep 6 (by decide)
              have hq : w1.cell? ⟨bv, 4, none⟩ = some V4 := blk_cell hI.box 4
              unfold Gives
              go_simp
              exact ⟨rfl, Below.refl _ _⟩
            · intro ev w1 hI hG hc hf hg hbase hdep
              refine ⟨fun _ => ?_, fun h => absurd trivial h⟩
              have e0 := hbase 4 (by decide)
              unfold Gives
              go_simp
              exact ⟨rfl, Below.refl _ _⟩
            · intro ev w1 hI hG hc hf hg hbase hdep
              refine ⟨fun _ => ?_, fun h => absurd trivial h⟩
              have e0 : ev (.tmp 3) = .pointer (some ⟨pb, 0, none⟩) := hbase 3 (by decide)
              have c0 := blk_cell hI.part 0
              have c1 := blk_cell hI.part 1
              have c2 := blk_cell hI.part 2
              have c3' := blk_cell hI.part 3
              have c4' := blk_cell hI.part 4
              dsimp at c0 c1 c2 c3' c4'
              unfold Gives
              go_simp
              exact ⟨rfl, Below.refl _ _⟩
            · intro ev w1 hI hG hc hf hg hbase hdep
              refine ⟨fun _ => ?_, fun h => absurd trivial h⟩
              have e1 : ev (.tmp 43) = .agg #[.int .i64 v.f0, .int .i64 v.f1, .string v.f2, .slice A3 n3 c3, .slice A4 n4 c4] := hdep 9 (by decide)
              unfold Gives
              go_simp
              exact ⟨⟨w1.heap.size, rfl, hI.size, heap_alloc_new _ _⟩, hI.step hT hBb (i := 10) (below_alloc (Below.refl _ _) _), below_alloc (Below.refl _ _) _⟩
            · intro ev w1 hI hG hc hf hg hbase hdep
              refine ⟨fun _ => ?_, fun h => absurd trivial h⟩
              have e1 : ev (.tmp 41) = V4 := hdep 7 (by decide)
              have e2 : ev (.tmp 42) = .int .i64 (lo : Int) := hdep 8 (by decide)
              obtain ⟨z, e3, hz, hzb⟩ := hdep 10 (by decide)
              have e3' : ev (.tmp 44) = .slice (some ⟨z, 0, none⟩) 1 1 := e3
              unfold Gives
              go_simp
              refine (InsV.Insert_strong w1 base z lo (fun k => some k ≠ V3.ownBlock ∧ k < w9.heap.size) (fun k => some k ≠ V3.ownBlock ∧ some k ≠ V4.ownBlock ∧ k < w9.heap.size) V4 a.2 v [.int .i64 v.f0, .int .i64 v.f1, .string v.f2, .slice A3 n3 c3, .slice A4 n4 c4] (by omega) (by omega) (Nat.le_trans hT.bs (Nat.le_trans hW0 hI.size)) hG (k26_mkM w1 base _ v (Kd.R_lower (Kd.R_mono (Kd.R_bound hI.p3) (fun k hk => ⟨(hT.low (.inr (Nat.le_trans hT.s hk.2.1))).1, (hT.low (.inr (Nat.le_trans hT.s hk.2.1))).2, hk.1⟩)) (Nat.le_trans hT.bs hT.s)) (Kd.R_lower (Kd.R_mono (Kd.R_bound hI.p4) (fun k hk => ⟨(hT.low (.inr (Nat.le_trans hT.s hk.2.1))).1, (hT.low (.inr (Nat.le_trans hT.s hk.2.1))).2, hk.1⟩)) (Nat.le_trans hT.bs hT.s))) (fun k hk hne => ⟨hk.1, hne, hk.2⟩) (fun k hk => ⟨hk.2.1, Nat.lt_of_lt_of_le hk.2.2 hI.size⟩) hzb (fun e => (hT.low (.inr (Nat.le_trans hW0 hz))).2 e.symm)).mono ?_
              rintro e w2 ⟨u, rfl, hR, hgr, hat⟩
              exact ⟨_, rfl, ⟨by rw [HKs.out.2]; exact hR, hat.imp_right (fun ⟨b, h1, h2⟩ => ⟨b, h1, Nat.le_trans hI.size h2⟩)⟩, hI.step hT hBb (i := 11) hgr, hgr⟩
            · intro ev w1 hI hG hc hf hg hbase hdep
              refine ⟨fun _ => ?_, fun h => absurd trivial h⟩
              have e0 : ev (.tmp 1) = .pointer (some ⟨bv, 0, none⟩) := hbase 1 (by decide)
              unfold Gives
              go_simp
              exact ⟨rfl, Below.refl _ _⟩
          · intro x w10 hI hbase hF
            obtain ⟨hk5, hat5⟩ : Kd.string.R 9 w10 base (fun k => some k ≠ V4.ownBlock) (x 39) ks' ∧ ((x 39).ownBlock = V3.ownBlock ∨ ∃ b, (x 39).ownBlock = some b ∧ w9.heap.size ≤ b) := hF 5 (by decide)
            obtain ⟨hk11, hat11⟩ : OwnRow (k26.M w10 base (fun k => some k ≠ V3.ownBlock ∧ some k ≠ V4.ownBlock ∧ k < w9.heap.size)) 26 5 w10 base (x 45) ps' ∧ ((x 45).ownBlock = V4.ownBlock ∨ ∃ b, (x 45).ownBlock = some b ∧ w9.heap.size ≤ b) := hF 11 (by decide)
            have e46 : x 46 = .pointer (some ⟨bv, 3, none⟩) := hF 12 (by decide)
            have e1 : x 1 = .pointer (some ⟨bv, 0, none⟩) := hbase 1 (by decide)
            obtain ⟨V5, e39⟩ : ∃ q, x 39 = q := ⟨_, rfl⟩
            obtain ⟨V6, e45⟩ : ∃ q, x 45 = q := ⟨_, rfl⟩
            rw [e39] at hk5 hat5
            rw [e45] at hk11 hat11
            obtain ⟨A5, c5, hV5⟩ := Kd.R_slice hk5
            obtain ⟨A6, c6, hV6, _⟩ := hk11.slice_
            obtain ⟨n5, hn5⟩ : ∃ q, q = ks'.length := ⟨_, rfl⟩
            obtain ⟨n6, hn6⟩ : ∃ q, q = ps'.length := ⟨_, rfl⟩
            rw [← hn5] at hV5
            rw [← hn6] at hV6
            have HEnd := Aside0.mk (obj_end hI hT hBb HB.out.2 HNe.out.1 HNe.out.2.2 hk5 hat5 hk11 hat11 (by rw [HKs.out.1, HKs.out.2, List.length_append, List.length_append, List.length_cons, List.length_cons, List.length_take, List.length_take, List.length_drop, List.length_drop, hsm]) (Nat.le_trans hT.bs (Nat.le_trans hW0 hI.size)))
            have d3 := blk_cell hI.box 3
            have d4 := blk_cell hI.box 4
            have g3 := blk_frozen hI.box 3
            have g4 := blk_frozen hI.box 4
            dsimp at d3 d4
            simp only [List.drop_succ_cons, List.drop_zero, List.size_toArray, List.length_cons, List.length_nil, Nat.reduceAdd, List.range, List.range.loop, List.map_cons, List.map_nil, e46, e1, e39, e45]
            clear hF hbase hI hk5 hat5 hk11 hat11 e46 e1 e39 e45 hT hBb hH9 hG5 hG11 hlen hsm hsz hW0 hn5 hn6
            subst hV5 hV6
            go_wp2
            go_end0
            obtain ⟨hTw, hPS, hOb⟩ := HEnd.out
            have hTF := (Two.of_grown (bs := base) (v := bv) HG9.out).trans hTw
            rcases HO.out with ⟨h1, h2⟩ | ⟨h1, h2, h3⟩
            · subst h2
              exact HOut.out _ _ rfl hTF (.inl ⟨_, _, h1, hPS, _, _, hOb⟩)
            · subst h2 h3
              exact HOut.out _ _ rfl hTF (.inr ⟨h1, hPS, _, _, _, hOb⟩)

end Go.Proofs.YtmhfkbgdkgfafaaGreatDoor.Js
end

section
/- json's parser: object and value. -/
namespace Go.Proofs.YtmhfkbgdkgfafaaGreatDoor.Js
open Go.RowKit Go.Proofs.YtmhfkbgdkgfafaaGreatDoor.QJson Go.Proofs.YtmhfkbgdkgfafaaGreatDoorW.PrintWords Go.Proofs.YtmhfkbgdkgfafaaGreatDoorW.PrintLast Go.Proofs.YtmhfkbgdkgfafaaGreatDoorW.PrintMore Go.Proofs.YtmhfkbgdkgfafaaGreatDoor.Reg
set_option linter.unusedVariables false
set_option linter.unusedSimpArgs false

theorem sk_len (l : List UInt8) : (sk l).length ≤ l.length := sk_le l
theorem scan_numP {l r : List UInt8} {k : Int} (h : numP l = some (k, r)) : r.length + 1 ≤ l.length := by
  have h0 : scan l ≠ 0 := by
    intro h0
    unfold numP at h
    rw [h0, List.take_zero] at h
    change (if Lib.trimPrefix ([] : List UInt8) [45] = [] ∨ (Lib.trimPrefix ([] : List UInt8) [45]).getD 0 0 = 48 then none else some ((9007199254740992 : Int), l.drop 0)) = some (k, r) at h
    rw [if_pos (.inl rfl)] at h
    cases h
  have h1 := scan_le l
  have hr : r = l.drop (scan l) := by
    unfold numP at h
    split at h
    · split at h
      · cases h; rfl
      · cases h
    · split at h
      · cases h
      · cases h; rfl
  rw [hr, List.length_drop]; omega
theorem listP_length {α : Type} (sz : α → Nat) (E : UInt8) (I : α → List UInt8 → Option (α × List UInt8)) (hI : ∀ a l a' r, I a l = some (a', r) → sz a' + r.length ≤ sz a + l.length ∧ r.length ≤ l.length) : ∀ (n : Nat) (a : α) (l : List UInt8) (b : α) (q : List UInt8), listP E I n a l = some (b, q) → q.length ≤ l.length
  | 0, a, l, b, q, h => by cases h
  | n + 1, a, l, b, q, h => by
    rw [listP] at h
    have hk := sk_len l
    split at h
    · cases h
    · rename_i a' r hi
      have h1 := (hI _ _ _ _ hi).2
      have hk2 := sk_len r
      split at h
      · rename_i x hx
        have h2 := tk_le hx
        simp only [List.length_cons, List.length_nil] at h2
        cases h; omega
      · split at h
        · cases h
        · rename_i x hx
          have h2 := tk_le hx
          simp only [List.length_cons, List.length_nil] at h2
          have h3 := listP_length sz E I hI n a' x b q h
          omega
theorem listS_length {α : Type} (sz : α → Nat) (E : UInt8) (I : α → List UInt8 → Option (α × List UInt8)) (hI : ∀ a l a' r, I a l = some (a', r) → sz a' + r.length ≤ sz a + l.length ∧ r.length ≤ l.length) (n : Nat) (a : α) (l : List UInt8) (b : α) (q : List UInt8) (h : listS E I n a l = some (b, q)) : q.length ≤ l.length := by
  unfold listS at h
  have hk := sk_len l
  split at h
  · rename_i x hx
    have h2 := tk_le hx
    cases h; omega
  · have := listP_length sz E I hI n a _ b q h
    omega
theorem arr_sz {V : List UInt8 → Option (S26 × List UInt8)} (hV : ∀ l v r, V l = some (v, r) → r.length + 1 ≤ l.length) (a : List S26) (l : List UInt8) (a' : List S26) (r : List UInt8) (h : arrI V a l = some (a', r)) : a'.length + r.length ≤ a.length + l.length ∧ r.length ≤ l.length := by
  unfold arrI at h
  split at h
  · cases h
  · rename_i p q hp
    have := hV _ _ _ hp
    simp only [Option.some.injEq, Prod.mk.injEq] at h
    obtain ⟨rfl, rfl⟩ := h
    rw [List.length_append, List.length_cons, List.length_nil]; omega
theorem obj_sz {V : List UInt8 → Option (S26 × List UInt8)} (hV : ∀ l v r, V l = some (v, r) → r.length + 1 ≤ l.length) (a : List ByteArray × List S26) (l : List UInt8) (a' : List ByteArray × List S26) (r : List UInt8) (h : objI V a l = some (a', r)) : a'.2.length + r.length ≤ a.2.length + l.length ∧ r.length ≤ l.length := by
  unfold objI at h
  split at h
  · cases h
  · rename_i l1 h1
    have e1 := tk_le h1
    split at h
    · cases h
    · rename_i k r1 h2
      have e2 := textP_length _ _ _ _ h2
      have e3 := sk_len r1
      split at h
      · cases h
      · rename_i q h3
        have e4 := tk_le h3
        have e5 := sk_len q
        split at h
        · cases h
        · rename_i p r2 h4
          have e6 := hV _ _ _ h4
          split at h
          · cases h
          · simp only [Option.some.injEq, Prod.mk.injEq] at h
            obtain ⟨rfl, rfl⟩ := h
            dsimp only
            simp only [List.length_cons, List.length_nil] at e1 e4
            rw [List.length_append, List.length_cons, List.length_take, List.length_drop]
            omega
theorem valueP_length : ∀ (d : Nat) (l : List UInt8) (v : S26) (r : List UInt8), valueP d l = some (v, r) → r.length + 1 ≤ l.length
  | 0, l, v, r, h => by cases h
  | d + 1, l, v, r, h => by
    have hV := valueP_length d
    rw [valueP] at h
    split at h
    · rename_i q hq
      have := tk_le hq
      cases h
      simp only [nulT, List.length_cons, List.length_nil] at this; omega
    · split at h
      · rename_i q hq
        have := tk_le hq
        cases h
        simp only [falT, List.length_cons, List.length_nil] at this; omega
      · split at h
        · rename_i q hq
          have := tk_le hq
          cases h
          simp only [truT, List.length_cons, List.length_nil] at this; omega
        · split at h
          · rename_i q hq
            have e1 := tk_le hq
            simp only [List.length_cons, List.length_nil] at e1
            split at h
            · cases h
            · rename_i t r2 h2
              have := textP_length _ _ _ _ h2
              cases h; omega
          · split at h
            · rename_i q hq
              have e1 := tk_le hq
              simp only [List.length_cons, List.length_nil] at e1
              split at h
              · cases h
              · rename_i ps r2 h2
                have := listS_length List.length 93 _ (arr_sz hV) _ _ _ _ _ h2
                cases h; omega
            · split at h
              · rename_i q hq
                have e1 := tk_le hq
                simp only [List.length_cons, List.length_nil] at e1
                split at h
                · cases h
                · rename_i a r2 h2
                  have := listS_length (fun a : List ByteArray × List S26 => a.2.length) 125 _ (obj_sz hV) _ _ _ _ _ h2
                  cases h; omega
              · split at h
                · cases h
                · rename_i k r2 h2
                  have := scan_numP h2
                  cases h; omega

/-- What an object is read as, behind its brace. -/
def objP (d : Nat) (l : List UInt8) : Option (S26 × List UInt8) :=
  match listS 125 (objI (valueP d)) (l.length + 1) ([], []) l with
  | none => none
  | some (a, q) => some (⟨7, 0, ⟨#[]⟩, a.1, a.2⟩, q)
theorem enters60 : ∀ args w, (callFunc 60 args).run Tryz.prog w = .ok (.enter 60 args) w := enters_of Tryz.func60 (by kernel_rfl) rfl
theorem enters33 : ∀ args w, (callFunc 33 args).run Tryz.prog w = .ok (.enter 33 args) w := enters_of Tryz.func33 (by kernel_rfl) rfl
theorem two_grown {g bv bs : Nat} {w w1 w2 : World} (h : w.grownBy w1 (some g)) (k : Two g bv bs w1 w2) (hv : w.heap.size ≤ bv) (hs : w.heap.size ≤ bs) : w.grownBy w2 (some g) :=
  ⟨k.os.trans h.os, k.tape.trans h.tape, k.output.trans h.output, Nat.le_trans h.size k.size, fun q hq hne => (k.block q (Nat.lt_of_lt_of_le hq h.size) (Nat.lt_of_lt_of_le hq hs) (fun e => hne (by rw [e])) (by omega)).trans (h.block q hq hne)⟩

/-- Three new blocks. -/
theorem three_allocs (w : World) (o1 o2 o3 : Obj) : Below w.heap.size w (((w.alloc o1).alloc o2).alloc o3) ∧ (((w.alloc o1).alloc o2).alloc o3).heap.size = w.heap.size + 1 + 1 + 1 ∧ (((w.alloc o1).alloc o2).alloc o3).heap[w.heap.size]? = some o1 ∧ (((w.alloc o1).alloc o2).alloc o3).heap[w.heap.size + 1]? = some o2 ∧ (((w.alloc o1).alloc o2).alloc o3).heap[w.heap.size + 1 + 1]? = some o3 := by
  have e1 : (w.alloc o1).heap.size = w.heap.size + 1 := World.size_alloc w o1
  have e2 : ((w.alloc o1).alloc o2).heap.size = w.heap.size + 1 + 1 := by rw [World.size_alloc, e1]
  refine ⟨below_alloc (below_alloc (below_alloc (Below.refl _ _) _) _) _, by rw [World.size_alloc, e2], blk_alloc (blk_alloc (blk_new w o1) o2) o3, ?_, ?_⟩
  · have := blk_alloc (blk_new (w.alloc o1) o2) o3
    rwa [e1] at this
  · have := blk_new ((w.alloc o1).alloc o2) o3
    rwa [e2] at this

set_option maxHeartbeats 8000000 in
set_option maxRecDepth 100000 in
theorem object_calls (AO : AnyOk) (B d : Nat) (hV : ValOk B d) (w : World) (g : Nat) (l : List UInt8) (h : PS w g l false) (hE : Glob B w) (hB : B ≤ g) (hl : l.length < d) (hm : l.length ≤ 1000000) :
    Calls Tryz.prog 34 #[.pointer (some ⟨g, 0, none⟩)] w fun e w' => ValOut w g (objP d l) e w' := by
  have HA := Aside0.mk AO
  have HV := Aside0.mk hV
  have HE := Aside0.mk hE
  have HP := Aside0.mk h
  have HB := Aside0.mk hB
  have HL := Aside0.mk (And.intro hl hm)
  have HLt := Aside0.mk h.lt
  obtain ⟨res, hres⟩ : ∃ q, q = objP d l := ⟨_, rfl⟩
  have HRes := Aside0.mk hres
  rw [← hres]
  clear AO hV hE h hB hl hm hres
  go_enter Tryz.func34, Tryz.ntmps34
  go_upto_region 2 with (fail)
  obtain ⟨n, hn⟩ : ∃ q, q = w.heap.size := ⟨_, rfl⟩
  have HW := Aside0.mk (three_allocs w (.cells #[.pointer (some ⟨g, 0, none⟩)] 49) (.cells #[.int .i64 0, .int .i64 0, .string ⟨#[]⟩, .slice none 0 0, .slice none 0 0] 26) (.cells #[.int .i64 7, .int .i64 0, .string ⟨#[]⟩, .slice none 0 0, .slice none 0 0] 26))
  generalize ((w.alloc (.cells #[.pointer (some ⟨g, 0, none⟩)] 49)).alloc (.cells #[.int .i64 0, .int .i64 0, .string ⟨#[]⟩, .slice none 0 0, .slice none 0 0] 26)).alloc (.cells #[.int .i64 7, .int .i64 0, .string ⟨#[]⟩, .slice none 0 0, .slice none 0 0] 26) = W at HW ⊢
  obtain ⟨rb, hrb⟩ : ∃ q, q = w.heap.size + 1 := ⟨_, rfl⟩
  obtain ⟨bv, hbv⟩ : ∃ q, q = w.heap.size + 1 + 1 := ⟨_, rfl⟩
  obtain ⟨bs, hbs⟩ : ∃ q, q = w.heap.size + 1 + 1 + 1 := ⟨_, rfl⟩
  rw [← hbs, ← hbv, ← hrb, ← hn] at HW
  rw [← hbv, ← hrb, ← hn]
  have HN := Aside0.mk (show n = w.heap.size ∧ rb = n + 1 ∧ bv = n + 2 ∧ bs = n + 3 from ⟨hn, by omega, by omega, by omega⟩)
  clear hn hrb hbv hbs
  have HPw := Aside0.mk (show PS W g l false from (HW.out.1.block g (by have := HLt.out; have := HN.out.1; omega)).trans HP.out)
  have HEw := Aside0.mk (HE.out.below (by rw [← HN.out.1]; exact HW.out.1))
  have q1 := blk_cell HW.out.2.2.1 0
  dsimp at q1
  have HInv := Aside0.mk (show ObjInv B g bv n bs ([], []) W (.slice none 0 0) (.slice none 0 0) from
    ⟨HW.out.2.2.2.2, HW.out.2.2.1, Kd.R_nil _ _ _ _ _, Kd.R_nil _ _ _ _ _, rfl, HEw.out, by rw [HW.out.2.1]; exact Nat.le_refl _⟩)
  have HLi := Aside0.mk (list_calls (α := List ByteArray × List S26) 125 (objI (valueP d)) (fun a => a.2.length) 60 #[.pointer (some ⟨n, 0, none⟩), .pointer (some ⟨bv, 0, none⟩)] g bv bs l.length (fun a w => ∃ v3 v4, ObjInv B g bv n bs a w v3 v4) enters60
    (fun a w1 w2 hi hg => by
      obtain ⟨v3, v4, hi⟩ := hi
      have h1 := HN.out; have h2 := HLt.out; have h3 := HB.out
      exact ⟨v3, v4, hi.grown hg h3 (by omega) (by omega) (by omega)⟩)
    (fun a l a' r h => obj_sz (valueP_length d) a l a' r h)
    (fun a l1 w1 hp hi hs hl1 => by
      obtain ⟨v3, v4, hi⟩ := hi
      have h1 := HN.out; have h2 := HLt.out; have h3 := HB.out; have h4 := HL.out; have h5 := HE.out.le
      exact item6_calls HA.out B d HV.out g bv n bs h3 (by omega) (by omega) (by omega) (by omega) (by omega) (by omega) (by omega) a v3 v4 l1 w1 hp hi (by omega) (by omega))
    ([], []) l W HPw.out ⟨_, _, HInv.out⟩ (by simp))
  rw [show str [125] = (⟨#[125]⟩ : ByteArray) from rfl] at HLi
  go_upto_region 3 with (first
    | (go_at_call 32; refine HLi.out.mono ?_; rintro e w5 ⟨rfl, hT, hh⟩; have HT := Aside0.mk hT; have HH := Aside0.mk hh; clear hT hh))
  obtain ⟨a', lf, bd, v3, v4, hps, hO, hcase⟩ : ∃ a' lf bd v3 v4, PS w5 g lf bd ∧ ObjInv B g bv n bs a' w5 v3 v4 ∧ ((listS 125 (objI (valueP d)) (l.length + 1) ([], []) l = some (a', lf) ∧ bd = false) ∨ (listS 125 (objI (valueP d)) (l.length + 1) ([], []) l = none ∧ lf = [] ∧ bd = true)) := by
    rcases HH.out with ⟨a', r, h1, h2, v3, v4, h3⟩ | ⟨h1, h2, a', v3, v4, h3⟩
    · exact ⟨a', r, false, v3, v4, h2, h3, .inl ⟨h1, rfl⟩⟩
    · exact ⟨a', [], true, v3, v4, h2, h3, .inr ⟨h1, rfl, rfl⟩⟩
  have HO := Aside0.mk hO
  have HPS := Aside0.mk hps
  have HCs := Aside0.mk hcase
  have hRb : w5.heap[rb]? = some (.cells #[.int .i64 0, .int .i64 0, .string ⟨#[]⟩, .slice none 0 0, .slice none 0 0] 26 (0, 0)) := by
    have h1 := HN.out; have h2 := HLt.out
    rw [HT.out.block rb (by rw [HW.out.2.1]; omega) (by omega) (by omega) (by omega)]
    exact HW.out.2.2.2.1
  have HRb := Aside0.mk hRb
  obtain ⟨A3, c3, hV3⟩ := Kd.R_slice hO.keys
  obtain ⟨A4, c4, hV4⟩ := Kd.R_slice hO.parts
  obtain ⟨n3, hn3⟩ : ∃ q, q = a'.1.length := ⟨_, rfl⟩
  obtain ⟨n4, hn4⟩ : ∃ q, q = a'.2.length := ⟨_, rfl⟩
  rw [← hn3] at hV3
  rw [← hn4] at hV4
  clear hn3 hn4 hO hps hcase HH HLi q1
  subst hV3 hV4
  have k0 := blk_cell HO.out.box 0
  have k1 := blk_cell HO.out.box 1
  have k2 := blk_cell HO.out.box 2
  have k3 := blk_cell HO.out.box 3
  have k4 := blk_cell HO.out.box 4
  have r0 := blk_cell hRb 0
  have r1 := blk_cell hRb 1
  have r2 := blk_cell hRb 2
  have r3 := blk_cell hRb 3
  have r4 := blk_cell hRb 4
  have t0 := blk_frozen hRb 0
  have t1 := blk_frozen hRb 1
  have t2 := blk_frozen hRb 2
  have t3 := blk_frozen hRb 3
  have t4 := blk_frozen hRb 4
  dsimp at k0 k1 k2 k3 k4 r0 r1 r2 r3 r4
  clear hRb
  go_wp2
  have hblk := set5_blk HRb.out (.int .i64 7) (.int .i64 0) (.string ⟨#[]⟩) (.slice A3 n3 c3) (.slice A4 n4 c4)
  refine bodyPost_ret (results_cell_row rfl _ _ rb 26 _ (0, 0) _ rfl hblk Tryz.underlying26 rfl (by kernel_rfl)) rfl ?_
  have h1 := HN.out
  have h2 := HLt.out
  have hgw : w.grownBy w5 (some g) := two_grown (grown_of_below (by rw [← h1.1]; exact HW.out.1) _) HT.out (by omega) (by omega)
  have hg5 := set5_grown w5 rb (.int .i64 7) (.int .i64 0) (.string ⟨#[]⟩) (.slice A3 n3 c3) (.slice A4 n4 c4)
  have hps5 : PS (set5 w5 rb (.int .i64 7) (.int .i64 0) (.string ⟨#[]⟩) (.slice A3 n3 c3) (.slice A4 n4 c4)) g lf bd := set5_ps HPS.out (by omega) _ _ _ _ _
  refine ⟨⟨7, 0, ⟨#[]⟩, a'.1, a'.2⟩, _, _, rfl, Kd.R_lower (R_far_of HO.out.keys hg5 (by omega)) (by omega), Kd.R_mono (Kd.R_lower (R_far_of HO.out.parts hg5 (by omega)) (by omega)) (fun _ _ => trivial), set5_then hgw (by omega) _ _ _ _ _, ?_⟩
  rcases HCs.out with ⟨h3, h4⟩ | ⟨h3, h4, h5⟩
  · subst h4
    exact .inl ⟨lf, by rw [HRes.out, objP, h3], hps5⟩
  · subst h4 h5
    exact .inr ⟨by rw [HRes.out, objP, h3], hps5⟩

end Go.Proofs.YtmhfkbgdkgfafaaGreatDoor.Js
end

section
/- json's parser: value. -/
namespace Go.Proofs.YtmhfkbgdkgfafaaGreatDoor.Js
open Go.RowKit Go.Proofs.YtmhfkbgdkgfafaaGreatDoor.QJson Go.Proofs.YtmhfkbgdkgfafaaGreatDoorW.PrintWords Go.Proofs.YtmhfkbgdkgfafaaGreatDoorW.PrintLast Go.Proofs.YtmhfkbgdkgfafaaGreatDoorW.PrintMore Go.Proofs.YtmhfkbgdkgfafaaGreatDoor.Reg
set_option linter.unusedVariables false
set_option linter.unusedSimpArgs false

/-- Two new blocks. -/
theorem two_allocs (w : World) (o1 o2 : Obj) : Below w.heap.size w ((w.alloc o1).alloc o2) ∧ ((w.alloc o1).alloc o2).heap.size = w.heap.size + 1 + 1 ∧ ((w.alloc o1).alloc o2).heap[w.heap.size]? = some o1 ∧ ((w.alloc o1).alloc o2).heap[w.heap.size + 1]? = some o2 := by
  have e1 : (w.alloc o1).heap.size = w.heap.size + 1 := World.size_alloc w o1
  refine ⟨below_alloc (below_alloc (Below.refl _ _) _) _, by rw [World.size_alloc, e1], blk_alloc (blk_new w o1) o2, ?_⟩
  have := blk_new (w.alloc o1) o2
  rwa [e1] at this
/-- What stands while value runs: its own two blocks. -/
structure Val2 (B g bp rb : Nat) (W w : World) : Prop where
  ptr : w.heap[bp]? = some (.cells #[.pointer (some ⟨g, 0, none⟩)] 49 (0, 0))
  res : w.heap[rb]? = some (.cells #[.int .i64 0, .int .i64 0, .string ⟨#[]⟩, .slice none 0 0, .slice none 0 0] 26 (0, 0))
  grown : W.grownBy w (some g)
  glob : Glob B w
theorem Val2.step {B g bp rb : Nat} {W w w' : World} (h : Val2 B g bp rb W w) (hg : w.grownBy w' (some g)) (hB : B ≤ g) (hp : bp ≠ g) (hr : rb ≠ g) : Val2 B g bp rb W w' :=
  ⟨blk_grown h.ptr hg (fun e => hp (by injection e)), blk_grown h.res hg (fun e => hr (by injection e)), grown2 h.grown hg, h.glob.step hg hB⟩
/-- The result stored: a plain one. -/
theorem val_leaf {B g bp rb : Nat} {W w : World} {o : Option (S26 × List UInt8)} (h : Val2 B g bp rb W w) (hr : rb ≠ g) (hW : W.heap.size ≤ rb) (k n : Int) (t : ByteArray) (lf : List UInt8) (bd : Bool) (hps : PS w g lf bd)
    (hc : (o = some (⟨k, n, t, [], []⟩, lf) ∧ bd = false) ∨ (o = none ∧ lf = [] ∧ bd = true)) :
    ValOut W g o (.returned (.agg #[.int .i64 k, .int .i64 n, .string t, .slice none 0 0, .slice none 0 0])) (set5 w rb (.int .i64 k) (.int .i64 n) (.string t) (.slice none 0 0) (.slice none 0 0)) := by
  refine ⟨⟨k, n, t, [], []⟩, _, _, rfl, Kd.R_nil _ _ _ _ _, Kd.R_nil _ _ _ _ _, set5_then h.grown hW _ _ _ _ _, ?_⟩
  have hp := set5_ps hps hr (.int .i64 k) (.int .i64 n) (.string t) (.slice none 0 0) (.slice none 0 0)
  rcases hc with ⟨h1, h2⟩ | ⟨h1, h2, h3⟩
  · subst h2; exact .inl ⟨lf, h1, hp⟩
  · subst h2 h3; exact .inr ⟨h1, hp⟩
/-- .. with rows. -/
theorem val_rows {B g bp rb : Nat} {W w : World} {o : Option (S26 × List UInt8)} (h : Val2 B g bp rb W w) (hr : rb ≠ g) (hW : W.heap.size ≤ rb) {v : S26} {v3 v4 : Value} {S1 : Nat} (lf : List UInt8) (bd : Bool) (hps : PS w g lf bd) (hs : W.heap.size ≤ S1) (hrs : rb < S1)
    (h3 : Kd.string.R 9 w S1 (fun _ => True) v3 v.f3) (h4 : k26.R 26 w S1 (fun _ => True) v4 v.f4) (hc : (o = some (v, lf) ∧ bd = false) ∨ (o = none ∧ lf = [] ∧ bd = true)) :
    ValOut W g o (.returned (.agg #[.int .i64 v.f0, .int .i64 v.f1, .string v.f2, v3, v4])) (set5 w rb (.int .i64 v.f0) (.int .i64 v.f1) (.string v.f2) v3 v4) := by
  have hg := set5_grown w rb (.int .i64 v.f0) (.int .i64 v.f1) (.string v.f2) v3 v4
  refine ⟨v, v3, v4, rfl, Kd.R_lower (R_far_of h3 hg hrs) hs, Kd.R_lower (R_far_of h4 hg hrs) hs, set5_then h.grown hW _ _ _ _ _, ?_⟩
  have hp := set5_ps hps hr (.int .i64 v.f0) (.int .i64 v.f1) (.string v.f2) v3 v4
  rcases hc with ⟨h1, h2⟩ | ⟨h1, h2, h3⟩
  · subst h2; exact .inl ⟨lf, h1, hp⟩
  · subst h2 h3; exact .inr ⟨h1, hp⟩
theorem val_null {d : Nat} {l r : List UInt8} (h : tk nulT l = some r) : valueP (d + 1) l = some (⟨1, 0, ⟨#[]⟩, [], []⟩, r) := by rw [valueP, h]
theorem val_false {d : Nat} {l r : List UInt8} (h1 : tk nulT l = none) (h : tk falT l = some r) : valueP (d + 1) l = some (⟨2, 0, ⟨#[]⟩, [], []⟩, r) := by rw [valueP, h1]; dsimp only; rw [h]
theorem val_true {d : Nat} {l r : List UInt8} (h1 : tk nulT l = none) (h2 : tk falT l = none) (h : tk truT l = some r) : valueP (d + 1) l = some (⟨3, 0, ⟨#[]⟩, [], []⟩, r) := by rw [valueP, h1]; dsimp only; rw [h2]; dsimp only; rw [h]
theorem val_str {d : Nat} {l r : List UInt8} (h1 : tk nulT l = none) (h2 : tk falT l = none) (h3 : tk truT l = none) (h : tk [34] l = some r) : valueP (d + 1) l = (match textP (r.length + 1) r with | none => none | some (t, q) => some (⟨5, 0, str t, [], []⟩, q)) := by
  rw [valueP, h1]; dsimp only; rw [h2]; dsimp only; rw [h3]; dsimp only; rw [h]
  dsimp only
  cases textP (r.length + 1) r with
  | none => rfl
  | some p => rfl
theorem val_arr {d : Nat} {l r : List UInt8} (h1 : tk nulT l = none) (h2 : tk falT l = none) (h3 : tk truT l = none) (h4 : tk [34] l = none) (h : tk [91] l = some r) : valueP (d + 1) l = (match listS 93 (arrI (valueP d)) (r.length + 1) [] r with | none => none | some (ps, q) => some (⟨6, 0, ⟨#[]⟩, [], ps⟩, q)) := by
  rw [valueP, h1]; dsimp only; rw [h2]; dsimp only; rw [h3]; dsimp only; rw [h4]; dsimp only; rw [h]
  dsimp only
  cases listS 93 (arrI (valueP d)) (r.length + 1) [] r with
  | none => rfl
  | some p => rfl
theorem val_obj {d : Nat} {l r : List UInt8} (h1 : tk nulT l = none) (h2 : tk falT l = none) (h3 : tk truT l = none) (h4 : tk [34] l = none) (h5 : tk [91] l = none) (h : tk [123] l = some r) : valueP (d + 1) l = objP d r := by
  rw [valueP, h1]; dsimp only; rw [h2]; dsimp only; rw [h3]; dsimp only; rw [h4]; dsimp only; rw [h5]; dsimp only; rw [h]
  unfold objP
  dsimp only
  cases listS 125 (objI (valueP d)) (r.length + 1) ([], []) r with
  | none => rfl
  | some p => rfl
theorem val_num {d : Nat} {l : List UInt8} (h1 : tk nulT l = none) (h2 : tk falT l = none) (h3 : tk truT l = none) (h4 : tk [34] l = none) (h5 : tk [91] l = none) (h6 : tk [123] l = none) : valueP (d + 1) l = (match numP l with | none => none | some (k, r) => some (⟨4, k, ⟨#[]⟩, [], []⟩, r)) := by
  rw [valueP, h1]; dsimp only; rw [h2]; dsimp only; rw [h3]; dsimp only; rw [h4]; dsimp only; rw [h5]; dsimp only; rw [h6]
  dsimp only
  cases numP l with
  | none => rfl
  | some p => rfl

theorem idx61_0 (W : World) : (Instr.index 61 (.agg #[.string ⟨#[]⟩, .string ⟨#[110, 117, 108, 108]⟩, .string ⟨#[102, 97, 108, 115, 101]⟩, .string ⟨#[116, 114, 117, 101]⟩]) (.int .i64 0)).run Tryz.prog W = .ok (.string ⟨#[]⟩) W := by
  simp [Instr.index, asIntOf, part]
theorem idx61_1 (W : World) : (Instr.index 61 (.agg #[.string ⟨#[]⟩, .string ⟨#[110, 117, 108, 108]⟩, .string ⟨#[102, 97, 108, 115, 101]⟩, .string ⟨#[116, 114, 117, 101]⟩]) (.int .i64 1)).run Tryz.prog W = .ok (.string ⟨#[110, 117, 108, 108]⟩) W := by
  simp [Instr.index, asIntOf, part]
theorem idx61_2 (W : World) : (Instr.index 61 (.agg #[.string ⟨#[]⟩, .string ⟨#[110, 117, 108, 108]⟩, .string ⟨#[102, 97, 108, 115, 101]⟩, .string ⟨#[116, 114, 117, 101]⟩]) (.int .i64 2)).run Tryz.prog W = .ok (.string ⟨#[102, 97, 108, 115, 101]⟩) W := by
  simp [Instr.index, asIntOf, part]
theorem idx61_3 (W : World) : (Instr.index 61 (.agg #[.string ⟨#[]⟩, .string ⟨#[110, 117, 108, 108]⟩, .string ⟨#[102, 97, 108, 115, 101]⟩, .string ⟨#[116, 114, 117, 101]⟩]) (.int .i64 3)).run Tryz.prog W = .ok (.string ⟨#[116, 114, 117, 101]⟩) W := by
  simp [Instr.index, asIntOf, part]

set_option maxHeartbeats 8000000 in
set_option maxRecDepth 100000 in
theorem value_step (AO : AnyOk) (B d : Nat) (hV : ValOk B d) (w : World) (g : Nat) (l : List UInt8) (h : PS w g l false) (hE : Glob B w) (hB : B ≤ g) (hl : l.length < d + 1) (hm : l.length ≤ 1000000) :
    Calls Tryz.prog 21 #[.pointer (some ⟨g, 0, none⟩)] w fun e w' => ValOut w g (valueP (d + 1) l) e w' := by
  have HA := Aside0.mk AO
  have HV := Aside0.mk hV
  have HE := Aside0.mk hE
  have HP := Aside0.mk h
  have HB := Aside0.mk hB
  have HL := Aside0.mk (And.intro hl hm)
  have HLt := Aside0.mk h.lt
  obtain ⟨res, hres⟩ : ∃ q, q = valueP (d + 1) l := ⟨_, rfl⟩
  have HRes := Aside0.mk hres
  rw [← hres]
  clear AO hV hE h hB hl hm hres
  go_enter Tryz.func21, Tryz.ntmps21
  go_upto_region 1 with (fail)
  obtain ⟨n, hn⟩ : ∃ q, q = w.heap.size := ⟨_, rfl⟩
  have HW := Aside0.mk (two_allocs w (.cells #[.pointer (some ⟨g, 0, none⟩)] 49) (.cells #[.int .i64 0, .int .i64 0, .string ⟨#[]⟩, .slice none 0 0, .slice none 0 0] 26))
  generalize (w.alloc (.cells #[.pointer (some ⟨g, 0, none⟩)] 49)).alloc (.cells #[.int .i64 0, .int .i64 0, .string ⟨#[]⟩, .slice none 0 0, .slice none 0 0] 26) = W at HW ⊢
  obtain ⟨rb, hrb⟩ : ∃ q, q = w.heap.size + 1 := ⟨_, rfl⟩
  rw [← hrb, ← hn] at HW
  rw [← hrb, ← hn]
  have HN := Aside0.mk (show n = w.heap.size ∧ rb = n + 1 ∧ W.heap.size = n + 2 from ⟨hn, by omega, by have := HW.out.2.1; omega⟩)
  clear hn hrb
  have HNg := Aside0.mk (show n ≠ g ∧ rb ≠ g from by have h1 := HN.out; have h2 := HLt.out; omega)
  have HPw := Aside0.mk (show PS W g l false from (HW.out.1.block g (by have := HLt.out; have := HN.out.1; omega)).trans HP.out)
  have HV2 := Aside0.mk (show Val2 B g n rb w W from ⟨HW.out.2.2.1, HW.out.2.2.2, grown_of_below (by rw [← HN.out.1]; exact HW.out.1) _, HE.out.below (by rw [← HN.out.1]; exact HW.out.1)⟩)
  obtain ⟨w0, w1, w2, w3⟩ := HV2.out.glob.words W (Below.refl _ _)
  go_wp2
  clear w0 w1 w2 w3
  have ix0 := idx61_0
  have ix1 := idx61_1
  have ix2 := idx61_2
  have ix3 := idx61_3
  go_loopg [3, 4, 7] 4 (fun kq v3 v4 v7 wr => ∃ i : Nat, v7 = .int .i64 i ∧ Aside0 (i + kq = 4) ∧ Aside0 (PS wr g l false) ∧ Aside0 (Val2 B g n rb w wr) ∧ Aside0 ((1 < i → tk nulT l = none) ∧ (2 < i → tk falT l = none) ∧ (3 < i → tk truT l = none)))
  case atStart => exact ⟨0, rfl, ⟨rfl⟩, HPw, HV2, ⟨by omega, by omega, by omega⟩⟩
  case round =>
    obtain ⟨i, rfl, HK, HPr, HVr, HNo⟩ := hrel
    have q1 := blk_cell HVr.out.ptr 0
    dsimp at q1
    have hi5 : i = 0 ∨ i = 1 ∨ i = 2 ∨ i = 3 ∨ i = 4 := by have := HK.out; omega
    rcases hi5 with rfl | rfl | rfl | rfl | rfl
    · have HRel := Aside0.mk (show ∃ i : Nat, (Value.int .i64 1) = .int .i64 (i : Int) ∧ Aside0 (i + (gk - 1) = 4) ∧ Aside0 (PS wr g l false) ∧ Aside0 (Val2 B g n rb w wr) ∧ Aside0 ((1 < i → tk nulT l = none) ∧ (2 < i → tk falT l = none) ∧ (3 < i → tk truT l = none)) from
        ⟨1, rfl, ⟨by have := HK.out; omega⟩, HPr, HVr, ⟨by omega, by omega, by omega⟩⟩)
      go_wp2
      go_roundg (gk - 1)
      case measure => have := HK.out; omega
      case rel => exact HRel.out
    · cases ht : tk nulT l with
      | some r =>
        have HO := Aside0.mk (show res = some (⟨1, 0, ⟨#[]⟩, [], []⟩, r) by rw [HRes.out]; exact val_null ht)
        have HT := Aside0.mk (takes_some HPr.out ht)
        rw [show str nulT = (⟨#[110, 117, 108, 108]⟩ : ByteArray) from rfl] at HT
        clear ht
        go_upto_region 5 with (first
          | (go_at_call 30; refine HT.out.mono ?_; rintro e w4 ⟨rfl, hp, hb⟩; have HP4 := Aside0.mk hp; have HV4 := Aside0.mk (HVr.out.step hb HB.out HNg.out.1 HNg.out.2); clear hp hb))
        have r0 := blk_cell HV4.out.res 0
        have r1 := blk_cell HV4.out.res 1
        have r2 := blk_cell HV4.out.res 2
        have r3 := blk_cell HV4.out.res 3
        have r4 := blk_cell HV4.out.res 4
        have t0 := blk_frozen HV4.out.res 0
        have t1 := blk_frozen HV4.out.res 1
        have t2 := blk_frozen HV4.out.res 2
        have t3 := blk_frozen HV4.out.res 3
        have t4 := blk_frozen HV4.out.res 4
        dsimp at r0 r1 r2 r3 r4
        go_wp2
        have hblk := set5_blk HV4.out.res (.int .i64 1) (.int .i64 0) (.string ⟨#[]⟩) (.slice none 0 0) (.slice none 0 0)
        refine bodyPost_ret (results_cell_row rfl _ _ rb 26 _ (0, 0) _ rfl hblk Tryz.underlying26 rfl (by kernel_rfl)) rfl ?_
        exact val_leaf HV4.out HNg.out.2 (by have := HN.out; omega) 1 0 ⟨#[]⟩ r false HP4.out (.inl ⟨HO.out, rfl⟩)
      | none =>
        have HT := Aside0.mk (takes_none HPr.out ht)
        rw [show str nulT = (⟨#[110, 117, 108, 108]⟩ : ByteArray) from rfl] at HT
        have HNo2 := Aside0.mk (show (1 < 2 → tk nulT l = none) ∧ (2 < 2 → tk falT l = none) ∧ (3 < 2 → tk truT l = none) from ⟨fun _ => ht, fun _ => absurd ‹2 < 2› (by omega), fun _ => absurd ‹3 < 2› (by omega)⟩)
        clear ht
        go_wp2_with (first
          | (go_at_call 30; refine HT.out.mono ?_; rintro e w4 ⟨rfl, hp, hb⟩; have HP4 := Aside0.mk hp; have HV4 := Aside0.mk (HVr.out.step hb HB.out HNg.out.1 HNg.out.2); clear hp hb))
        go_roundg (gk - 1)
        case measure => have := HK.out; omega
        case rel => exact ⟨2, rfl, ⟨by have := HK.out; omega⟩, HP4, HV4, HNo2⟩
    · cases ht : tk falT l with
      | some r =>
        have HO := Aside0.mk (show res = some (⟨2, 0, ⟨#[]⟩, [], []⟩, r) by rw [HRes.out]; exact val_false (HNo.out.1 (by omega)) ht)
        have HT := Aside0.mk (takes_some HPr.out ht)
        rw [show str falT = (⟨#[102, 97, 108, 115, 101]⟩ : ByteArray) from rfl] at HT
        clear ht
        go_upto_region 5 with (first
          | (go_at_call 30; refine HT.out.mono ?_; rintro e w4 ⟨rfl, hp, hb⟩; have HP4 := Aside0.mk hp; have HV4 := Aside0.mk (HVr.out.step hb HB.out HNg.out.1 HNg.out.2); clear hp hb))
        have r0 := blk_cell HV4.out.res 0
        have r1 := blk_cell HV4.out.res 1
        have r2 := blk_cell HV4.out.res 2
        have r3 := blk_cell HV4.out.res 3
        have r4 := blk_cell HV4.out.res 4
        have t0 := blk_frozen HV4.out.res 0
        have t1 := blk_frozen HV4.out.res 1
        have t2 := blk_frozen HV4.out.res 2
        have t3 := blk_frozen HV4.out.res 3
        have t4 := blk_frozen HV4.out.res 4
        dsimp at r0 r1 r2 r3 r4
        go_wp2
        have hblk := set5_blk HV4.out.res (.int .i64 2) (.int .i64 0) (.string ⟨#[]⟩) (.slice none 0 0) (.slice none 0 0)
        refine bodyPost_ret (results_cell_row rfl _ _ rb 26 _ (0, 0) _ rfl hblk Tryz.underlying26 rfl (by kernel_rfl)) rfl ?_
        exact val_leaf HV4.out HNg.out.2 (by have := HN.out; omega) 2 0 ⟨#[]⟩ r false HP4.out (.inl ⟨HO.out, rfl⟩)
      | none =>
        have HT := Aside0.mk (takes_none HPr.out ht)
        rw [show str falT = (⟨#[102, 97, 108, 115, 101]⟩ : ByteArray) from rfl] at HT
        have HNo2 := Aside0.mk (show (1 < 3 → tk nulT l = none) ∧ (2 < 3 → tk falT l = none) ∧ (3 < 3 → tk truT l = none) from ⟨fun _ => HNo.out.1 (by omega), fun _ => ht, fun _ => absurd ‹3 < 3› (by omega)⟩)
        clear ht
        go_wp2_with (first
          | (go_at_call 30; refine HT.out.mono ?_; rintro e w4 ⟨rfl, hp, hb⟩; have HP4 := Aside0.mk hp; have HV4 := Aside0.mk (HVr.out.step hb HB.out HNg.out.1 HNg.out.2); clear hp hb))
        go_roundg (gk - 1)
        case measure => have := HK.out; omega
        case rel => exact ⟨3, rfl, ⟨by have := HK.out; omega⟩, HP4, HV4, HNo2⟩
    · cases ht : tk truT l with
      | some r =>
        have HO := Aside0.mk (show res = some (⟨3, 0, ⟨#[]⟩, [], []⟩, r) by rw [HRes.out]; exact val_true (HNo.out.1 (by omega)) (HNo.out.2.1 (by omega)) ht)
        have HT := Aside0.mk (takes_some HPr.out ht)
        rw [show str truT = (⟨#[116, 114, 117, 101]⟩ : ByteArray) from rfl] at HT
        clear ht
        go_upto_region 5 with (first
          | (go_at_call 30; refine HT.out.mono ?_; rintro e w4 ⟨rfl, hp, hb⟩; have HP4 := Aside0.mk hp; have HV4 := Aside0.mk (HVr.out.step hb HB.out HNg.out.1 HNg.out.2); clear hp hb))
        have r0 := blk_cell HV4.out.res 0
        have r1 := blk_cell HV4.out.res 1
        have r2 := blk_cell HV4.out.res 2
        have r3 := blk_cell HV4.out.res 3
        have r4 := blk_cell HV4.out.res 4
        have t0 := blk_frozen HV4.out.res 0
        have t1 := blk_frozen HV4.out.res 1
        have t2 := blk_frozen HV4.out.res 2
        have t3 := blk_frozen HV4.out.res 3
        have t4 := blk_frozen HV4.out.res 4
        dsimp at r0 r1 r2 r3 r4
        go_wp2
        have hblk := set5_blk HV4.out.res (.int .i64 3) (.int .i64 0) (.string ⟨#[]⟩) (.slice none 0 0) (.slice none 0 0)
        refine bodyPost_ret (results_cell_row rfl _ _ rb 26 _ (0, 0) _ rfl hblk Tryz.underlying26 rfl (by kernel_rfl)) rfl ?_
        exact val_leaf HV4.out HNg.out.2 (by have := HN.out; omega) 3 0 ⟨#[]⟩ r false HP4.out (.inl ⟨HO.out, rfl⟩)
      | none =>
        have HT := Aside0.mk (takes_none HPr.out ht)
        rw [show str truT = (⟨#[116, 114, 117, 101]⟩ : ByteArray) from rfl] at HT
        have HNo2 := Aside0.mk (show (1 < 4 → tk nulT l = none) ∧ (2 < 4 → tk falT l = none) ∧ (3 < 4 → tk truT l = none) from ⟨fun _ => HNo.out.1 (by omega), fun _ => HNo.out.2.1 (by omega), fun _ => ht⟩)
        clear ht
        go_wp2_with (first
          | (go_at_call 30; refine HT.out.mono ?_; rintro e w4 ⟨rfl, hp, hb⟩; have HP4 := Aside0.mk hp; have HV4 := Aside0.mk (HVr.out.step hb HB.out HNg.out.1 HNg.out.2); clear hp hb))
        go_roundg (gk - 1)
        case measure => have := HK.out; omega
        case rel => exact ⟨4, rfl, ⟨by have := HK.out; omega⟩, HP4, HV4, HNo2⟩
    · have HN1 := Aside0.mk (HNo.out.1 (by omega))
      have HN2 := Aside0.mk (HNo.out.2.1 (by omega))
      have HN3 := Aside0.mk (HNo.out.2.2 (by omega))
      cases ht : tk [34] l with
      | some r =>
        have HT := Aside0.mk (takes_some HPr.out ht)
        rw [show str [34] = (⟨#[34]⟩ : ByteArray) from rfl] at HT
        have HO := Aside0.mk (show res = _ from HRes.out.trans (val_str HN1.out HN2.out HN3.out ht))
        have HRl := Aside0.mk (tk_le ht)
        clear ht
        go_upto_region 8 with (first
          | (go_at_call 30; refine HT.out.mono ?_; rintro e w4 ⟨rfl, hp, hb⟩; have HP4 := Aside0.mk hp; have HV4 := Aside0.mk (HVr.out.step hb HB.out HNg.out.1 HNg.out.2); clear hp hb))
        have q2 := blk_cell HV4.out.ptr 0
        dsimp at q2
        clear q1
        have HTx := Aside0.mk (ptext_calls HA.out w4 g r false HP4.out (by have h1 := HRl.out; have h2 := HL.out; simp only [List.length_cons, List.length_nil] at h1; omega) B HV4.out.glob HB.out)
        cases hx : textP (r.length + 1) r with
        | none =>
          have HTn := Aside0.mk (HTx.out.mono (fun e w' (hh : TextOut w4 g r false e w') => (show w4.grownBy w' (some g) ∧ e = .returned (.string ⟨#[]⟩) ∧ PS w' g [] true from ⟨hh.1, by have h2 := hh.2; rw [hx] at h2; exact h2⟩)))
          have HO2 := Aside0.mk (show res = none by rw [HO.out, hx])
          clear hx HTx HO
          go_wp2_with (first
            | (go_at_call 31; refine HTn.out.mono ?_; rintro e w5 ⟨hb, rfl, hp⟩; have HP5 := Aside0.mk hp; have HV5 := Aside0.mk (HV4.out.step hb HB.out HNg.out.1 HNg.out.2); clear hp hb; have r0 := blk_cell HV5.out.res 0; have r1 := blk_cell HV5.out.res 1; have r2 := blk_cell HV5.out.res 2; have r3 := blk_cell HV5.out.res 3; have r4 := blk_cell HV5.out.res 4; have t0 := blk_frozen HV5.out.res 0; have t1 := blk_frozen HV5.out.res 1; have t2 := blk_frozen HV5.out.res 2; have t3 := blk_frozen HV5.out.res 3; have t4 := blk_frozen HV5.out.res 4; dsimp at r0 r1 r2 r3 r4))
          have hblk := set5_blk HV5.out.res (.int .i64 5) (.int .i64 0) (.string ⟨#[]⟩) (.slice none 0 0) (.slice none 0 0)
          refine bodyPost_ret (results_cell_row rfl _ _ rb 26 _ (0, 0) _ rfl hblk Tryz.underlying26 rfl (by kernel_rfl)) rfl ?_
          exact val_leaf HV5.out HNg.out.2 (by have := HN.out; omega) 5 0 ⟨#[]⟩ [] true HP5.out (.inr ⟨HO2.out, rfl, rfl⟩)
        | some p =>
          obtain ⟨t, q⟩ := p
          have HTn := Aside0.mk (HTx.out.mono (fun e w' (hh : TextOut w4 g r false e w') => (show w4.grownBy w' (some g) ∧ e = .returned (.string (str t)) ∧ PS w' g q false from ⟨hh.1, by have h2 := hh.2; rw [hx] at h2; exact h2⟩)))
          have HO2 := Aside0.mk (show res = some (⟨5, 0, str t, [], []⟩, q) by rw [HO.out, hx])
          obtain ⟨st, hst⟩ : ∃ x, x = str t := ⟨_, rfl⟩
          rw [← hst] at HTn HO2
          clear hx HTx HO hst
          go_wp2_with (first
            | (go_at_call 31; refine HTn.out.mono ?_; rintro e w5 ⟨hb, rfl, hp⟩; have HP5 := Aside0.mk hp; have HV5 := Aside0.mk (HV4.out.step hb HB.out HNg.out.1 HNg.out.2); clear hp hb; have r0 := blk_cell HV5.out.res 0; have r1 := blk_cell HV5.out.res 1; have r2 := blk_cell HV5.out.res 2; have r3 := blk_cell HV5.out.res 3; have r4 := blk_cell HV5.out.res 4; have t0 := blk_frozen HV5.out.res 0; have t1 := blk_frozen HV5.out.res 1; have t2 := blk_frozen HV5.out.res 2; have t3 := blk_frozen HV5.out.res 3; have t4 := blk_frozen HV5.out.res 4; dsimp at r0 r1 r2 r3 r4))
          have hblk := set5_blk HV5.out.res (.int .i64 5) (.int .i64 0) (.string st) (.slice none 0 0) (.slice none 0 0)
          refine bodyPost_ret (results_cell_row rfl _ _ rb 26 _ (0, 0) _ rfl hblk Tryz.underlying26 rfl (by kernel_rfl)) rfl ?_
          exact val_leaf HV5.out HNg.out.2 (by have := HN.out; omega) 5 0 st q false HP5.out (.inl ⟨HO2.out, rfl⟩)
      | none =>
        have HT := Aside0.mk (takes_none HPr.out ht)
        rw [show str [34] = (⟨#[34]⟩ : ByteArray) from rfl] at HT
        have HN4 := Aside0.mk ht
        clear ht
        go_upto_region 9 with (first
          | (go_at_call 30; refine HT.out.mono ?_; rintro e w4 ⟨rfl, hp, hb⟩; have HP4 := Aside0.mk hp; have HV4 := Aside0.mk (HVr.out.step hb HB.out HNg.out.1 HNg.out.2); clear hp hb))
        have q2 := blk_cell HV4.out.ptr 0
        dsimp at q2
        clear q1
        cases ht : tk [91] l with
        | some r =>
          have HT5 := Aside0.mk (takes_some HP4.out ht)
          rw [show str [91] = (⟨#[91]⟩ : ByteArray) from rfl] at HT5
          have HO := Aside0.mk (show res = _ from HRes.out.trans (val_arr HN1.out HN2.out HN3.out HN4.out ht))
          have HRl := Aside0.mk (tk_le ht)
          clear ht
          go_upto_region 11 with (first
            | (go_at_call 30; refine HT5.out.mono ?_; rintro e w5 ⟨rfl, hp, hb⟩; have HP5 := Aside0.mk hp; have HV5 := Aside0.mk (HV4.out.step hb HB.out HNg.out.1 HNg.out.2); clear hp hb))
          obtain ⟨bv, hbv⟩ : ∃ q, q = w5.heap.size := ⟨_, rfl⟩
          have HBx := Aside0.mk (blk_new w5 (.cells #[.int .i64 6, .int .i64 0, .string ⟨#[]⟩, .slice none 0 0, .slice none 0 0] 26))
          have HB6 := Aside0.mk (show Below w5.heap.size w5 (w5.alloc (.cells #[.int .i64 6, .int .i64 0, .string ⟨#[]⟩, .slice none 0 0, .slice none 0 0] 26)) from below_alloc (Below.refl _ _) _)
          have HS6 := Aside0.mk (World.size_alloc w5 (.cells #[.int .i64 6, .int .i64 0, .string ⟨#[]⟩, .slice none 0 0, .slice none 0 0] 26))
          generalize w5.alloc (.cells #[.int .i64 6, .int .i64 0, .string ⟨#[]⟩, .slice none 0 0, .slice none 0 0] 26) = w6 at HBx HB6 HS6 ⊢
          rw [← hbv] at HBx HS6 ⊢
          have HBv := Aside0.mk hbv
          clear hbv q2
          have HV6 := Aside0.mk (HV5.out.step (grown_of_below HB6.out _) HB.out HNg.out.1 HNg.out.2)
          have HP6 := Aside0.mk (show PS w6 g r false from (HB6.out.block g HP5.out.lt).trans HP5.out)
          have q3 := blk_cell HV6.out.ptr 0
          dsimp at q3
          have HNb := Aside0.mk (show n < bv ∧ rb < bv ∧ g < bv ∧ w6.heap.size = bv + 1 ∧ w.heap.size ≤ bv ∧ B ≤ bv from by
            have h1 := (Array.getElem?_eq_some_iff.1 HV5.out.ptr).1
            have h2 := (Array.getElem?_eq_some_iff.1 HV5.out.res).1
            have h3 := HP5.out.lt
            have h4 := HBv.out
            have h5 := HS6.out
            have h6 := HV5.out.grown.size
            have h7 := HE.out.le
            omega)
          have HAI := Aside0.mk (show ArrInv B g bv n (bv + 1) 6 [] w6 (.slice none 0 0) from ⟨HBx.out, HV6.out.ptr, Kd.R_nil _ _ _ _ _, HV6.out.glob, by have := HNb.out; omega⟩)
          have HLi := Aside0.mk (list_calls (α := List S26) 93 (arrI (valueP d)) List.length 33 #[.pointer (some ⟨bv, 0, none⟩), .pointer (some ⟨n, 0, none⟩)] g bv (bv + 1) r.length (fun ps w => ∃ V, ArrInv B g bv n (bv + 1) 6 ps w V) enters33
            (fun ps w1 w2 hi hg => by
              obtain ⟨V, hi⟩ := hi
              have h1 := HNb.out; have h3 := HB.out; have h4 := HNg.out
              exact ⟨V, hi.grown hg h3 (by omega) (by omega) h4.1⟩)
            (fun a l a' r h => arr_sz (valueP_length d) a l a' r h)
            (fun ps l1 w1 hp hi hs hl1 => by
              obtain ⟨V, hi⟩ := hi
              have h1 := HNb.out; have h3 := HB.out; have h4 := HNg.out; have h5 := HL.out; have h6 := HRl.out
              simp only [List.length_cons, List.length_nil] at h6
              exact item3_calls B d HV.out g bv n (bv + 1) h3 (by omega) (by omega) (by omega) (by omega) (by omega) h4.1 (by omega) ps V l1 w1 hp hi (by omega) (by omega))
            [] r w6 HP6.out ⟨_, HAI.out⟩ (by simp))
          rw [show str [93] = (⟨#[93]⟩ : ByteArray) from rfl] at HLi
          go_upto_region 12 with (first
            | (go_at_call 32; refine HLi.out.mono ?_; rintro e w7 ⟨rfl, hT, hh⟩; have HT7 := Aside0.mk hT; have HH := Aside0.mk hh; clear hT hh))
          obtain ⟨ps, lf, bd, V, hps, hA, hcase⟩ : ∃ ps lf bd V, PS w7 g lf bd ∧ ArrInv B g bv n (bv + 1) 6 ps w7 V ∧ ((res = some (⟨6, 0, ⟨#[]⟩, [], ps⟩, lf) ∧ bd = false) ∨ (res = none ∧ lf = [] ∧ bd = true)) := by
            rcases HH.out with ⟨a', r2, h1, h2, V, h3⟩ | ⟨h1, h2, a', V, h3⟩
            · exact ⟨a', r2, false, V, h2, h3, .inl ⟨by rw [HO.out, h1], rfl⟩⟩
            · exact ⟨a', [], true, V, h2, h3, .inr ⟨by rw [HO.out, h1], rfl, rfl⟩⟩
          have HAf := Aside0.mk hA
          have HPS := Aside0.mk hps
          have HCs := Aside0.mk hcase
          have hRb : w7.heap[rb]? = some (.cells #[.int .i64 0, .int .i64 0, .string ⟨#[]⟩, .slice none 0 0, .slice none 0 0] 26 (0, 0)) := by
            have h1 := HNb.out; have h2 := HNg.out
            rw [HT7.out.block rb (by omega) (by omega) h2.2 (by omega)]
            exact HV6.out.res
          have HV7 := Aside0.mk (show Val2 B g n rb w w7 from ⟨HAf.out.ptr, hRb, two_grown HV6.out.grown HT7.out (by have := HNb.out; omega) (by have := HNb.out; omega), HAf.out.glob⟩)
          obtain ⟨A4, c4, hV4⟩ := Kd.R_slice hA.parts
          obtain ⟨n4, hn4⟩ : ∃ q, q = ps.length := ⟨_, rfl⟩
          rw [← hn4] at hV4
          clear hn4 hA hps hcase HH HLi q3
          subst hV4
          have k0 := blk_cell HAf.out.box 0
          have k1 := blk_cell HAf.out.box 1
          have k2 := blk_cell HAf.out.box 2
          have k3 := blk_cell HAf.out.box 3
          have k4 := blk_cell HAf.out.box 4
          dsimp at k0 k1 k2 k3 k4
          have r0 := blk_cell HV7.out.res 0
          have r1 := blk_cell HV7.out.res 1
          have r2 := blk_cell HV7.out.res 2
          have r3 := blk_cell HV7.out.res 3
          have r4 := blk_cell HV7.out.res 4
          have t0 := blk_frozen HV7.out.res 0
          have t1 := blk_frozen HV7.out.res 1
          have t2 := blk_frozen HV7.out.res 2
          have t3 := blk_frozen HV7.out.res 3
          have t4 := blk_frozen HV7.out.res 4
          dsimp at r0 r1 r2 r3 r4
          clear hRb
          go_wp2
          have hblk := set5_blk HV7.out.res (.int .i64 6) (.int .i64 0) (.string ⟨#[]⟩) (.slice none 0 0) (.slice A4 n4 c4)
          refine bodyPost_ret (results_cell_row rfl _ _ rb 26 _ (0, 0) _ rfl hblk Tryz.underlying26 rfl (by kernel_rfl)) rfl ?_
          exact val_rows (v := ⟨6, 0, ⟨#[]⟩, [], ps⟩) (S1 := bv + 1) HV7.out HNg.out.2 (by have := HN.out; omega) lf bd HPS.out (by have := HNb.out; omega) (by have := HNb.out; omega) (Kd.R_nil _ _ _ _ _) HAf.out.parts HCs.out
        | none =>
          have HT5 := Aside0.mk (takes_none HP4.out ht)
          rw [show str [91] = (⟨#[91]⟩ : ByteArray) from rfl] at HT5
          have HN5 := Aside0.mk ht
          clear ht
          go_upto_region 13 with (first
            | (go_at_call 30; refine HT5.out.mono ?_; rintro e w5 ⟨rfl, hp, hb⟩; have HP5 := Aside0.mk hp; have HV5 := Aside0.mk (HV4.out.step hb HB.out HNg.out.1 HNg.out.2); clear hp hb))
          have q3 := blk_cell HV5.out.ptr 0
          dsimp at q3
          clear q2
          cases ht : tk [123] l with
          | some r =>
            have HT6 := Aside0.mk (takes_some HP5.out ht)
            rw [show str [123] = (⟨#[123]⟩ : ByteArray) from rfl] at HT6
            have HO := Aside0.mk (show res = _ from HRes.out.trans (val_obj HN1.out HN2.out HN3.out HN4.out HN5.out ht))
            have HRl := Aside0.mk (tk_le ht)
            clear ht
            go_upto_region 14 with (first
              | (go_at_call 30; refine HT6.out.mono ?_; rintro e w6 ⟨rfl, hp, hb⟩; have HP6 := Aside0.mk hp; have HV6 := Aside0.mk (HV5.out.step hb HB.out HNg.out.1 HNg.out.2); clear hp hb))
            have q4 := blk_cell HV6.out.ptr 0
            dsimp at q4
            clear q3
            have HOc := Aside0.mk (object_calls HA.out B d HV.out w6 g r HP6.out HV6.out.glob HB.out (by have h1 := HRl.out; have h2 := HL.out; simp only [List.length_cons, List.length_nil] at h1; omega) (by have h1 := HRl.out; have h2 := HL.out; simp only [List.length_cons, List.length_nil] at h1; omega))
            go_wp2_with (first
              | (go_at_call 34; refine HOc.out.mono ?_; rintro e w7 ⟨v, P3, P4, rfl, h3, h4, hb, hh⟩; obtain ⟨A3, c3, hP3⟩ := Kd.R_slice h3; obtain ⟨A4, c4, hP4⟩ := Kd.R_slice h4; obtain ⟨n3, hn3⟩ : ∃ q, q = v.f3.length := ⟨_, rfl⟩; obtain ⟨n4, hn4⟩ : ∃ q, q = v.f4.length := ⟨_, rfl⟩; rw [← hn3] at hP3; rw [← hn4] at hP4; subst hP3 hP4; clear hn3 hn4; have HP3' := Aside0.mk h3; have HP4' := Aside0.mk h4; have HV7 := Aside0.mk (HV6.out.step hb HB.out HNg.out.1 HNg.out.2); have HH := Aside0.mk hh; clear h3 h4 hb hh; have r0 := blk_cell HV7.out.res 0; have r1 := blk_cell HV7.out.res 1; have r2 := blk_cell HV7.out.res 2; have r3 := blk_cell HV7.out.res 3; have r4 := blk_cell HV7.out.res 4; have t0 := blk_frozen HV7.out.res 0; have t1 := blk_frozen HV7.out.res 1; have t2 := blk_frozen HV7.out.res 2; have t3 := blk_frozen HV7.out.res 3; have t4 := blk_frozen HV7.out.res 4; dsimp at r0 r1 r2 r3 r4))
            have hblk := set5_blk HV7.out.res (.int .i64 v.f0) (.int .i64 v.f1) (.string v.f2) (.slice A3 n3 c3) (.slice A4 n4 c4)
            refine bodyPost_ret (results_cell_row rfl _ _ rb 26 _ (0, 0) _ rfl hblk Tryz.underlying26 rfl (by kernel_rfl)) rfl ?_
            obtain ⟨lf, bd, hps, hcase⟩ : ∃ lf bd, PS w7 g lf bd ∧ ((res = some (v, lf) ∧ bd = false) ∨ (res = none ∧ lf = [] ∧ bd = true)) := by
              rcases HH.out with ⟨r2, h1, h2⟩ | ⟨h1, h2⟩
              · exact ⟨r2, false, h2, .inl ⟨HO.out.trans h1, rfl⟩⟩
              · exact ⟨[], true, h2, .inr ⟨HO.out.trans h1, rfl, rfl⟩⟩
            have hs6 : w.heap.size ≤ w6.heap.size := HV6.out.grown.size
            have hr6 : rb < w6.heap.size := (Array.getElem?_eq_some_iff.1 HV6.out.res).1
            exact val_rows HV7.out HNg.out.2 (by have := HN.out; omega) lf bd hps hs6 hr6 HP3'.out HP4'.out hcase
          | none =>
            have HT6 := Aside0.mk (takes_none HP5.out ht)
            rw [show str [123] = (⟨#[123]⟩ : ByteArray) from rfl] at HT6
            have HO := Aside0.mk (show res = _ from HRes.out.trans (val_num HN1.out HN2.out HN3.out HN4.out HN5.out ht))
            clear ht
            go_upto_region 15 with (first
              | (go_at_call 30; refine HT6.out.mono ?_; rintro e w6 ⟨rfl, hp, hb⟩; have HP6 := Aside0.mk hp; have HV6 := Aside0.mk (HV5.out.step hb HB.out HNg.out.1 HNg.out.2); clear hp hb))
            have q4 := blk_cell HV6.out.ptr 0
            dsimp at q4
            clear q3
            have HNu := Aside0.mk (number_walk w6 g l false HP6.out (by have := HL.out; omega) HV6.out.glob.now)
            cases hx : numP l with
            | none =>
              have HNn := Aside0.mk (HNu.out.mono (fun e w' (hh : NumOut w6 g l false e w') => (show w6.grownBy w' (some g) ∧ e = .returned (.agg #[.int .i64 0, .int .i64 0, .string ⟨#[]⟩, .slice none 0 0, .slice none 0 0]) ∧ PS w' g [] true from ⟨hh.1, by have h2 := hh.2; rw [hx] at h2; exact h2⟩)))
              have HO2 := Aside0.mk (show res = none by rw [HO.out, hx])
              clear hx HNu HO
              go_wp2_with (first
                | (go_at_call 35; refine HNn.out.mono ?_; rintro e w7 ⟨hb, rfl, hp⟩; have HP7 := Aside0.mk hp; have HV7 := Aside0.mk (HV6.out.step hb HB.out HNg.out.1 HNg.out.2); clear hp hb; have r0 := blk_cell HV7.out.res 0; have r1 := blk_cell HV7.out.res 1; have r2 := blk_cell HV7.out.res 2; have r3 := blk_cell HV7.out.res 3; have r4 := blk_cell HV7.out.res 4; have t0 := blk_frozen HV7.out.res 0; have t1 := blk_frozen HV7.out.res 1; have t2 := blk_frozen HV7.out.res 2; have t3 := blk_frozen HV7.out.res 3; have t4 := blk_frozen HV7.out.res 4; dsimp at r0 r1 r2 r3 r4))
              have hblk := set5_blk HV7.out.res (.int .i64 0) (.int .i64 0) (.string ⟨#[]⟩) (.slice none 0 0) (.slice none 0 0)
              refine bodyPost_ret (results_cell_row rfl _ _ rb 26 _ (0, 0) _ rfl hblk Tryz.underlying26 rfl (by kernel_rfl)) rfl ?_
              exact val_leaf HV7.out HNg.out.2 (by have := HN.out; omega) 0 0 ⟨#[]⟩ [] true HP7.out (.inr ⟨HO2.out, rfl, rfl⟩)
            | some p =>
              obtain ⟨k, r⟩ := p
              have HNn := Aside0.mk (HNu.out.mono (fun e w' (hh : NumOut w6 g l false e w') => (show w6.grownBy w' (some g) ∧ e = .returned (.agg #[.int .i64 4, .int .i64 k, .string ⟨#[]⟩, .slice none 0 0, .slice none 0 0]) ∧ PS w' g r false from ⟨hh.1, by have h2 := hh.2; rw [hx] at h2; exact h2⟩)))
              have HO2 := Aside0.mk (show res = some (⟨4, k, ⟨#[]⟩, [], []⟩, r) by rw [HO.out, hx])
              clear hx HNu HO
              go_wp2_with (first
                | (go_at_call 35; refine HNn.out.mono ?_; rintro e w7 ⟨hb, rfl, hp⟩; have HP7 := Aside0.mk hp; have HV7 := Aside0.mk (HV6.out.step hb HB.out HNg.out.1 HNg.out.2); clear hp hb; have r0 := blk_cell HV7.out.res 0; have r1 := blk_cell HV7.out.res 1; have r2 := blk_cell HV7.out.res 2; have r3 := blk_cell HV7.out.res 3; have r4 := blk_cell HV7.out.res 4; have t0 := blk_frozen HV7.out.res 0; have t1 := blk_frozen HV7.out.res 1; have t2 := blk_frozen HV7.out.res 2; have t3 := blk_frozen HV7.out.res 3; have t4 := blk_frozen HV7.out.res 4; dsimp at r0 r1 r2 r3 r4))
              have hblk := set5_blk HV7.out.res (.int .i64 4) (.int .i64 k) (.string ⟨#[]⟩) (.slice none 0 0) (.slice none 0 0)
              refine bodyPost_ret (results_cell_row rfl _ _ rb 26 _ (0, 0) _ rfl hblk Tryz.underlying26 rfl (by kernel_rfl)) rfl ?_
              exact val_leaf HV7.out HNg.out.2 (by have := HN.out; omega) 4 k ⟨#[]⟩ r false HP7.out (.inl ⟨HO2.out, rfl⟩)

/-- value, to every depth. -/
theorem value_ok (AO : AnyOk) (B : Nat) : ∀ d, ValOk B d
  | 0 => fun l w g _ _ _ h _ => absurd h (Nat.not_lt_zero _)
  | d + 1 => fun l w g h hE hB hl hm => value_step AO B d (value_ok AO B d) w g l h hE hB hl hm

end Go.Proofs.YtmhfkbgdkgfafaaGreatDoor.Js
end

section
/- json.Parse. -/
namespace Go.Proofs.YtmhfkbgdkgfafaaGreatDoor.Js
open Go.RowKit Go.Proofs.YtmhfkbgdkgfafaaGreatDoor.QJson Go.Proofs.YtmhfkbgdkgfafaaGreatDoorW.PrintWords Go.Proofs.YtmhfkbgdkgfafaaGreatDoorW.PrintLast Go.Proofs.YtmhfkbgdkgfafaaGreatDoorW.PrintMore Go.Proofs.YtmhfkbgdkgfafaaGreatDoor.Reg
set_option linter.unusedVariables false
set_option linter.unusedSimpArgs false

/-- What Check tells of a value. -/
def ChkOk (v : S26) (c : Int) : Prop := ∀ (A3 : Option Addr) (c3 : Nat) (A4 : Option Addr) (c4 : Nat) (w : World), Kd.C Kd.string w A3 v.f3.length v.f3 → v.f3.length ≤ c3 → Kd.C k26 w A4 v.f4.length v.f4 → v.f4.length ≤ c4 → Tabs w →
  Calls Tryz.prog 17 #[.agg #[.int .i64 v.f0, .int .i64 v.f1, .string v.f2, .slice A3 v.f3.length c3, .slice A4 v.f4.length c4]] w fun e w' => e = .returned (.int .i64 c) ∧ Below w.heap.size w w'
/-- What a text is parsed to. -/
def ParseIs (l : List UInt8) (v : S26) (c : Int) : Prop :=
  (1200 < l.length ∧ c = 1 ∧ v = z26) ∨ (l.length ≤ 1200 ∧ parseP l = none ∧ c = 4 ∧ v = z26) ∨ (l.length ≤ 1200 ∧ ∃ u, parseP l = some u ∧ ChkOk u c ∧ v = if c = 0 then u else z26)
def ParseOut (W : World) (v : S26) (c : Int) (e : Ending) (w' : World) : Prop :=
  ∃ v3 v4 : Value, e = .returned (.tuple #[.agg #[.int .i64 v.f0, .int .i64 v.f1, .string v.f2, v3, v4], .int .i64 c]) ∧ Kd.string.R 9 w' W.heap.size (fun _ => True) v3 v.f3 ∧ k26.R 26 w' W.heap.size (fun _ => True) v4 v.f4 ∧ Below W.heap.size W w'
theorem below_of_new {W w w' : World} {g : Nat} (h : Below W.heap.size W w) (hg : w.grownBy w' (some g)) (hn : W.heap.size ≤ g) : Below W.heap.size W w' :=
  ⟨hg.os.trans h.os, hg.tape.trans h.tape, hg.output.trans h.output, Nat.le_trans h.size hg.size, fun k hk => (hg.block k (Nat.lt_of_lt_of_le hk h.size) (fun e => by injection e with e; omega)).trans (h.block k hk)⟩
theorem set5_below {W w : World} {rb : Nat} (h : Below W.heap.size W w) (hr : W.heap.size ≤ rb) (a b c d e : Value) : Below W.heap.size W (set5 w rb a b c d e) := below_of_new h (set5_grown w rb a b c d e) hr
theorem parse_zero {W w : World} {rb : Nat} {c : Int} (h : Below W.heap.size W w) (hr : W.heap.size ≤ rb) : ParseOut W z26 c (.returned (.tuple #[.agg #[.int .i64 0, .int .i64 0, .string ⟨#[]⟩, .slice none 0 0, .slice none 0 0], .int .i64 c])) (set5 w rb (.int .i64 0) (.int .i64 0) (.string ⟨#[]⟩) (.slice none 0 0) (.slice none 0 0)) :=
  ⟨_, _, rfl, Kd.R_nil _ _ _ _ _, Kd.R_nil _ _ _ _ _, set5_below h hr _ _ _ _ _⟩

set_option maxHeartbeats 8000000 in
set_option maxRecDepth 100000 in
theorem parse_calls (AO : AnyOk) (l : List UInt8) (hm : l.length ≤ 1000000) (v : S26) (c : Int) (hp : ParseIs l v c) (w : World) (hE : Glob w.heap.size w) :
    Calls Tryz.prog 13 #[.string (str l)] w fun e w' => ParseOut w v c e w' := by
  have HVa := Aside0.mk (value_ok AO w.heap.size (l.length + 8))
  have HE := Aside0.mk hE
  have HL := Aside0.mk hm
  have HPi := Aside0.mk hp
  have hsz := str_size l
  obtain ⟨s, hs⟩ : ∃ q, q = str l := ⟨_, rfl⟩
  have HS := Aside0.mk hs
  rw [← hs] at hsz ⊢
  clear hE AO hm hp hs
  go_enter Tryz.func13, Tryz.ntmps13
  go_upto_region 1 with (fail)
  obtain ⟨rb, hrb⟩ : ∃ q, q = w.heap.size := ⟨_, rfl⟩
  have HRb0 := Aside0.mk (blk_new w (.cells #[.int .i64 0, .int .i64 0, .string ⟨#[]⟩, .slice none 0 0, .slice none 0 0] 26))
  have HB0 := Aside0.mk (show Below w.heap.size w (w.alloc (.cells #[.int .i64 0, .int .i64 0, .string ⟨#[]⟩, .slice none 0 0, .slice none 0 0] 26)) from below_alloc (Below.refl _ _) _)
  have HS0 := Aside0.mk (World.size_alloc w (.cells #[.int .i64 0, .int .i64 0, .string ⟨#[]⟩, .slice none 0 0, .slice none 0 0] 26))
  generalize w.alloc (.cells #[.int .i64 0, .int .i64 0, .string ⟨#[]⟩, .slice none 0 0, .slice none 0 0] 26) = w0 at HRb0 HB0 HS0 ⊢
  rw [← hrb] at HRb0 HS0 ⊢
  have HRb := Aside0.mk hrb
  clear hrb
  by_cases hbig : 1200 < l.length
  · have i1 : (1200 : Int) < (l.length : Int) := by omega
    have hvc : v = z26 ∧ c = 1 := by
      rcases HPi.out with ⟨_, h1, h2⟩ | ⟨h1, _⟩ | ⟨h1, _⟩
      · exact ⟨h2, h1⟩
      · omega
      · omega
    have HVc := Aside0.mk hvc
    clear hvc hbig
    have r0 := blk_cell HRb0.out 0
    have r1 := blk_cell HRb0.out 1
    have r2 := blk_cell HRb0.out 2
    have r3 := blk_cell HRb0.out 3
    have r4 := blk_cell HRb0.out 4
    have t0 := blk_frozen HRb0.out 0
    have t1 := blk_frozen HRb0.out 1
    have t2 := blk_frozen HRb0.out 2
    have t3 := blk_frozen HRb0.out 3
    have t4 := blk_frozen HRb0.out 4
    dsimp at r0 r1 r2 r3 r4
    go_wp2
    have hblk := set5_blk HRb0.out (.int .i64 0) (.int .i64 0) (.string ⟨#[]⟩) (.slice none 0 0) (.slice none 0 0)
    refine bodyPost_ret (results_ct rfl _ _ rb 26 _ (0, 0) _ rfl hblk Tryz.underlying26 rfl (by kernel_rfl)) rfl ?_
    rw [HVc.out.1, HVc.out.2]
    exact parse_zero HB0.out (Nat.le_of_eq HRb.out.symm)
  · have i1 : ¬ (1200 : Int) < (l.length : Int) := by omega
    have hcase : (parseP l = none ∧ c = 4 ∧ v = z26) ∨ (∃ u, parseP l = some u ∧ ChkOk u c ∧ v = if c = 0 then u else z26) := by
      rcases HPi.out with ⟨h1, _⟩ | ⟨_, h1⟩ | ⟨_, h1⟩
      · omega
      · exact .inl h1
      · exact .inr h1
    have HCase := Aside0.mk hcase
    clear hcase hbig
    go_upto_region 4 with (fail)
    obtain ⟨g, hg⟩ : ∃ q, q = w0.heap.size := ⟨_, rfl⟩
    have HPs1 := Aside0.mk (show PS (w0.alloc (.cells #[.string s, .bool false] 51)) w0.heap.size l false by unfold PS; rw [← HS.out]; exact blk_new w0 _)
    have HB1 := Aside0.mk (show Below w0.heap.size w0 (w0.alloc (.cells #[.string s, .bool false] 51)) from below_alloc (Below.refl _ _) _)
    generalize w0.alloc (.cells #[.string s, .bool false] 51) = w1 at HPs1 HB1 ⊢
    rw [← hg] at HPs1 ⊢
    have HG := Aside0.mk (show g = rb + 1 ∧ rb = w.heap.size from ⟨by rw [hg, HS0.out], HRb.out⟩)
    have HBw1 := Aside0.mk (show Below w.heap.size w w1 from HB0.out.trans (HB1.out.mono HB0.out.size))
    have HR1 := Aside0.mk (blk_below HRb0.out HB1.out)
    clear hg hsz i1
    have HSk := Aside0.mk (skip_calls w1 g l false HPs1.out)
    obtain ⟨l1, hl1⟩ : ∃ q, q = Lib.trimLeftS l [32, 9, 10, 13] := ⟨_, rfl⟩
    rw [← hl1] at HSk
    have HL1 := Aside0.mk (show l1 = sk l from hl1)
    have HLe := Aside0.mk (show l1.length ≤ l.length by rw [show l1 = sk l from hl1]; exact sk_le l)
    clear hl1
    go_upto_region 5 with (first
      | (go_at_call 20; refine HSk.out.mono ?_; rintro e w2 ⟨rfl, hp, hb⟩; have HP2 := Aside0.mk hp; have HG2 := Aside0.mk hb; clear hp hb))
    have HBw2 := Aside0.mk (below_of_new HBw1.out HG2.out (by have := HG.out; omega))
    have HR2 := Aside0.mk (blk_grown HR1.out HG2.out (fun e => by injection e with e; have := HG.out; omega))
    have HGl2 := Aside0.mk (show Glob w.heap.size w2 from ⟨HBw2.out.size, fun w' h => HE.out.errs w' (HBw2.out.trans h), fun w' h => HE.out.words w' (HBw2.out.trans h)⟩)
    have HVal := Aside0.mk (HVa.out l1 w2 g HP2.out HGl2.out (by have := HG.out; omega) (by have := HLe.out; omega) (by have := HLe.out; have := HL.out; omega))
    go_upto_region 6 with (first
      | (go_at_call 21; refine HVal.out.mono ?_; rintro e w3 ⟨u, P3, P4, rfl, h3, h4, hb, hh⟩; obtain ⟨A3, c3, hP3⟩ := Kd.R_slice h3; obtain ⟨A4, c4, hP4⟩ := Kd.R_slice h4; obtain ⟨n3, hn3⟩ : ∃ q, q = u.f3.length := ⟨_, rfl⟩; obtain ⟨n4, hn4⟩ : ∃ q, q = u.f4.length := ⟨_, rfl⟩; rw [← hn3] at hP3; rw [← hn4] at hP4; subst hP3 hP4; have HNn := Aside0.mk (And.intro hn3 hn4); clear hn3 hn4; have HP3' := Aside0.mk h3; have HP4' := Aside0.mk h4; have HG3 := Aside0.mk hb; have HH := Aside0.mk hh; clear h3 h4 hb hh))
    obtain ⟨lf, bd, hps, hcs⟩ : ∃ lf bd, PS w3 g lf bd ∧ ((valueP (l.length + 8) l1 = some (u, lf) ∧ bd = false) ∨ (valueP (l.length + 8) l1 = none ∧ lf = [] ∧ bd = true)) := by
      rcases HH.out with ⟨r2, h1, h2⟩ | ⟨h1, h2⟩
      · exact ⟨r2, false, h2, .inl ⟨h1, rfl⟩⟩
      · exact ⟨[], true, h2, .inr ⟨h1, rfl, rfl⟩⟩
    have HCs := Aside0.mk hcs
    have HPs3 := Aside0.mk hps
    clear hcs hps HH HVal HSk
    obtain ⟨pb, hpb⟩ : ∃ q, q = w3.heap.size := ⟨_, rfl⟩
    have HPart := Aside0.mk (heap_alloc_new w3 (.cells #[.int .i64 u.f0, .int .i64 u.f1, .string u.f2, .slice A3 n3 c3, .slice A4 n4 c4] 26))
    have HB4 := Aside0.mk (show Below w3.heap.size w3 (w3.alloc (.cells #[.int .i64 u.f0, .int .i64 u.f1, .string u.f2, .slice A3 n3 c3, .slice A4 n4 c4] 26)) from below_alloc (Below.refl _ _) _)
    generalize w3.alloc (.cells #[.int .i64 u.f0, .int .i64 u.f1, .string u.f2, .slice A3 n3 c3, .slice A4 n4 c4] 26) = w4 at HPart HB4 ⊢
    rw [← hpb] at HPart ⊢
    have HPb := Aside0.mk hpb
    clear hpb
    have HP4 := Aside0.mk (show PS w4 g lf bd from (HB4.out.block g HPs3.out.lt).trans HPs3.out)
    have HBw4 := Aside0.mk (show Below w.heap.size w w4 from (below_of_new HBw2.out HG3.out (by have := HG.out; omega)).trans (HB4.out.mono (Nat.le_trans HBw2.out.size HG3.out.size)))
    have HR4 := Aside0.mk (blk_below (blk_grown HR2.out HG3.out (fun e => by injection e with e; have := HG.out; omega)) HB4.out)
    have HSk4 := Aside0.mk (skip_calls w4 g lf bd HP4.out)
    obtain ⟨l5, hl5⟩ : ∃ q, q = Lib.trimLeftS lf [32, 9, 10, 13] := ⟨_, rfl⟩
    rw [← hl5] at HSk4
    have HL5 := Aside0.mk (show l5 = sk lf from hl5)
    clear hl5
    have HPbg := Aside0.mk (show pb ≠ g ∧ rb ≠ g ∧ pb ≠ rb ∧ w.heap.size ≤ rb ∧ w.heap.size ≤ w2.heap.size from by
      have h1 := HG.out; have h2 := HPs3.out.lt; have h3 := HPb.out; have h4 := HBw2.out.size
      omega)
    go_upto_region 7 with (first
      | (go_at_call 20; refine HSk4.out.mono ?_; rintro e w5 ⟨rfl, hp, hb⟩; have HP5 := Aside0.mk hp; have HG5 := Aside0.mk hb; clear hp hb))
    have HBw5 := Aside0.mk (below_of_new HBw4.out HG5.out (by have := HG.out; omega))
    have HR5 := Aside0.mk (blk_grown HR4.out HG5.out (fun e => HPbg.out.2.1 (by injection e)))
    have HPt5 := Aside0.mk (blk_grown HPart.out HG5.out (fun e => HPbg.out.1 (by injection e)))
    have HB24 := Aside0.mk (show w2.heap.size ≤ w3.heap.size ∧ w3.heap.size ≤ w4.heap.size from ⟨HG3.out.size, HB4.out.size⟩)
    have hrow3 : Kd.string.R 9 w5 w2.heap.size (fun _ => True) (.slice A3 n3 c3) u.f3 := R_far_of (Kd.R_below HP3'.out HB4.out) HG5.out (by have := HPs1.out.lt; have := HG2.out.size; omega)
    have hrow4 : k26.R 26 w5 w2.heap.size (fun _ => True) (.slice A4 n4 c4) u.f4 := R_far_of (Kd.R_below HP4'.out HB4.out) HG5.out (by have := HPs1.out.lt; have := HG2.out.size; omega)
    have HRow := Aside0.mk (And.intro hrow3 hrow4)
    clear hrow3 hrow4
    obtain ⟨c0, c1, -⟩ := HP5.out.cells
    have hs0 : (str l5).toList = l5 := by rw [Lib.toList_data, str_list]
    obtain ⟨s5, hs5⟩ : ∃ q, q = str l5 := ⟨_, rfl⟩
    rw [← hs5] at hs0 c0
    clear hs5
    by_cases hgood : bd = false ∧ l5 = []
    · obtain ⟨hbd, hl5⟩ := hgood
      have hpar : parseP l = some u := by
        rcases HCs.out with ⟨h1, _⟩ | ⟨_, _, h1⟩
        · unfold parseP
          rw [← HL1.out, h1]
          dsimp only
          rw [← HL5.out, if_pos hl5]
        · rw [h1] at hbd; cases hbd
      obtain ⟨hchk, hvv⟩ : ChkOk u c ∧ v = if c = 0 then u else z26 := by
        rcases HCase.out with ⟨h1, _⟩ | ⟨u2, h1, h2, h3⟩
        · rw [hpar] at h1; cases h1
        · rw [hpar] at h1; cases h1; exact ⟨h2, h3⟩
      have HCk := Aside0.mk hchk
      have HVv := Aside0.mk hvv
      subst hbd
      rw [hl5] at hs0
      have z0 : s5.toList.isEmpty = true := by rw [hs0]; rfl
      have z1 : (s5.toList == []) = true := by rw [hs0]; rfl
      have z2 : (s5.toList == (⟨#[]⟩ : ByteArray).toList) = true := by rw [hs0, Lib.toList_data]; rfl
      clear hl5 hpar hchk hvv hs0
      have HTb := Aside0.mk (show Tabs w5 from (HE.out.errs w5 HBw5.out).tabs)
      have k0 := blk_cell HPt5.out 0
      have k1 := blk_cell HPt5.out 1
      have k2 := blk_cell HPt5.out 2
      have k3 := blk_cell HPt5.out 3
      have k4 := blk_cell HPt5.out 4
      dsimp at k0 k1 k2 k3 k4
      have HCall := Aside0.mk (show Calls Tryz.prog 17 #[.agg #[.int .i64 u.f0, .int .i64 u.f1, .string u.f2, .slice A3 n3 c3, .slice A4 n4 c4]] w5 fun e w' => e = .returned (.int .i64 c) ∧ Below w5.heap.size w5 w' from by
        have h3 := Kd.R_reads' HRow.out.1
        have h4 := Kd.R_reads' HRow.out.2
        rw [HNn.out.1, HNn.out.2]
        rw [HNn.out.1] at h3
        rw [HNn.out.2] at h4
        exact HCk.out A3 c3 A4 c4 w5 h3.2.2 h3.2.1 h4.2.2 h4.2.1 HTb.out)
      go_upto_region 10 with (first
        | (go_at_call 17; refine HCall.out.mono ?_; rintro e w6 ⟨rfl, hb⟩; have HB6 := Aside0.mk hb; clear hb))
      have HBw6 := Aside0.mk (HBw5.out.trans (HB6.out.mono HBw5.out.size))
      have HR6 := Aside0.mk (blk_below HR5.out HB6.out)
      have HPt6 := Aside0.mk (blk_below HPt5.out HB6.out)
      clear k0 k1 k2 k3 k4 c0 c1 z0 z1 z2
      by_cases hc0 : c = 0
      · have q0 : (c == 0) = true := beq_iff_eq.2 hc0
        have HC0 := Aside0.mk hc0
        clear hc0
        have k0 := blk_cell HPt6.out 0
        have k1 := blk_cell HPt6.out 1
        have k2 := blk_cell HPt6.out 2
        have k3 := blk_cell HPt6.out 3
        have k4 := blk_cell HPt6.out 4
        dsimp at k0 k1 k2 k3 k4
        have r0 := blk_cell HR6.out 0
        have r1 := blk_cell HR6.out 1
        have r2 := blk_cell HR6.out 2
        have r3 := blk_cell HR6.out 3
        have r4 := blk_cell HR6.out 4
        have t0 := blk_frozen HR6.out 0
        have t1 := blk_frozen HR6.out 1
        have t2 := blk_frozen HR6.out 2
        have t3 := blk_frozen HR6.out 3
        have t4 := blk_frozen HR6.out 4
        dsimp at r0 r1 r2 r3 r4
        go_wp2
        have hblk := set5_blk HR6.out (.int .i64 u.f0) (.int .i64 u.f1) (.string u.f2) (.slice A3 n3 c3) (.slice A4 n4 c4)
        refine bodyPost_ret (results_ct rfl _ _ rb 26 _ (0, 0) _ rfl hblk Tryz.underlying26 rfl (by kernel_rfl)) rfl ?_
        rw [HVv.out, HC0.out, if_pos rfl]
        have hg5 := set5_grown w6 rb (.int .i64 u.f0) (.int .i64 u.f1) (.string u.f2) (.slice A3 n3 c3) (.slice A4 n4 c4)
        have hrb2 : rb < w2.heap.size := by have h1 := HG.out; have h2 := HP2.out.lt; omega
        have hle := HPbg.out.2.2.2.2
        exact ⟨_, _, rfl, Kd.R_lower (R_far_of (Kd.R_below HRow.out.1 HB6.out) hg5 hrb2) hle, Kd.R_lower (R_far_of (Kd.R_below HRow.out.2 HB6.out) hg5 hrb2) hle, set5_below HBw6.out HPbg.out.2.2.2.1 _ _ _ _ _⟩
      · have q0 : (c == 0) = false := beq_eq_false_iff_ne.2 hc0
        have HC0 := Aside0.mk hc0
        clear hc0
        have r0 := blk_cell HR6.out 0
        have r1 := blk_cell HR6.out 1
        have r2 := blk_cell HR6.out 2
        have r3 := blk_cell HR6.out 3
        have r4 := blk_cell HR6.out 4
        have t0 := blk_frozen HR6.out 0
        have t1 := blk_frozen HR6.out 1
        have t2 := blk_frozen HR6.out 2
        have t3 := blk_frozen HR6.out 3
        have t4 := blk_frozen HR6.out 4
        dsimp at r0 r1 r2 r3 r4
        go_wp2
        have hblk := set5_blk HR6.out (.int .i64 0) (.int .i64 0) (.string ⟨#[]⟩) (.slice none 0 0) (.slice none 0 0)
        refine bodyPost_ret (results_ct rfl _ _ rb 26 _ (0, 0) _ rfl hblk Tryz.underlying26 rfl (by kernel_rfl)) rfl ?_
        rw [HVv.out, if_neg HC0.out]
        exact parse_zero HBw6.out HPbg.out.2.2.2.1
    · have hpar : parseP l = none := by
        rcases HCs.out with ⟨h1, h2⟩ | ⟨h1, _, _⟩
        · unfold parseP
          rw [← HL1.out, h1]
          dsimp only
          rw [← HL5.out, if_neg (fun h => hgood ⟨h2, h⟩)]
        · unfold parseP
          rw [← HL1.out, h1]
      obtain ⟨hc4, hvz⟩ : c = 4 ∧ v = z26 := by
        rcases HCase.out with ⟨_, h1, h2⟩ | ⟨u2, h1, _⟩
        · exact ⟨h1, h2⟩
        · rw [hpar] at h1; cases h1
      have HCv := Aside0.mk (And.intro hc4 hvz)
      clear hpar hc4 hvz
      cases bd with
      | true =>
        clear hgood hs0
        have r0 := blk_cell HR5.out 0
        have r1 := blk_cell HR5.out 1
        have r2 := blk_cell HR5.out 2
        have r3 := blk_cell HR5.out 3
        have r4 := blk_cell HR5.out 4
        have t0 := blk_frozen HR5.out 0
        have t1 := blk_frozen HR5.out 1
        have t2 := blk_frozen HR5.out 2
        have t3 := blk_frozen HR5.out 3
        have t4 := blk_frozen HR5.out 4
        dsimp at r0 r1 r2 r3 r4
        go_wp2
        have hblk := set5_blk HR5.out (.int .i64 0) (.int .i64 0) (.string ⟨#[]⟩) (.slice none 0 0) (.slice none 0 0)
        refine bodyPost_ret (results_ct rfl _ _ rb 26 _ (0, 0) _ rfl hblk Tryz.underlying26 rfl (by kernel_rfl)) rfl ?_
        rw [HCv.out.1, HCv.out.2]
        exact parse_zero HBw5.out HPbg.out.2.2.2.1
      | false =>
        have hne : l5 ≠ [] := fun h => hgood ⟨rfl, h⟩
        have z0 : s5.toList.isEmpty = false := by
          rw [hs0]
          cases l5 with
          | nil => exact absurd rfl hne
          | cons _ _ => rfl
        have z1 : (s5.toList == []) = false := by
          rw [hs0]
          exact beq_eq_false_iff_ne.2 hne
        have z2 : (s5.toList == (⟨#[]⟩ : ByteArray).toList) = false := by
          rw [hs0, Lib.toList_data]
          exact beq_eq_false_iff_ne.2 hne
        clear hgood hs0 hne
        have r0 := blk_cell HR5.out 0
        have r1 := blk_cell HR5.out 1
        have r2 := blk_cell HR5.out 2
        have r3 := blk_cell HR5.out 3
        have r4 := blk_cell HR5.out 4
        have t0 := blk_frozen HR5.out 0
        have t1 := blk_frozen HR5.out 1
        have t2 := blk_frozen HR5.out 2
        have t3 := blk_frozen HR5.out 3
        have t4 := blk_frozen HR5.out 4
        dsimp at r0 r1 r2 r3 r4
        go_wp2
        have hblk := set5_blk HR5.out (.int .i64 0) (.int .i64 0) (.string ⟨#[]⟩) (.slice none 0 0) (.slice none 0 0)
        refine bodyPost_ret (results_ct rfl _ _ rb 26 _ (0, 0) _ rfl hblk Tryz.underlying26 rfl (by kernel_rfl)) rfl ?_
        rw [HCv.out.1, HCv.out.2]
        exact parse_zero HBw5.out HPbg.out.2.2.2.1

end Go.Proofs.YtmhfkbgdkgfafaaGreatDoor.Js
end
