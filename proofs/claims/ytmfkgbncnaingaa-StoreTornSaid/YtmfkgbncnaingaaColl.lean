/- A list of one's own, gathered out of a list that stands. -/
import Derived.Test.YtmfkgbncnaingaaGStore
namespace Go.Proofs.Ytmfkgbncnaingaa.Sto
open Go.Proofs.Ytmfkgbncnaingaa.QStore (S81 S83 k81 k83 k81_mkF k83_mkF)
open Go.RowKit Go.Proofs.Ytmfkgbncnaingaa.Reg Go.Proofs.Ytmfkgbncnaingaa.QRows Go.Proofs.YtmfkgbncnaingaaW.PrintWords Go.Proofs.YtmfkgbncnaingaaW.PrintLast Go.Proofs.YtmfkgbncnaingaaW.PrintMore
set_option linter.unusedVariables false

section
variable {α β : Type} {d : Kd α} {d' : Kd β} {e e' : Nat} {B w w1 : World} {u v v1 : Value} {xs : List α} {ys : List β}
/-- A row of one's own (behind world B) whose elements lead into B. -/
def Coll (d : Kd α) (e : Nat) (B w : World) (v : Value) (xs : List α) : Prop :=
  ∃ rows : List (List Value), rows.length = xs.length ∧ (Kd.raw d.sz).R e w B.heap.size (fun _ => True) v rows ∧ ∀ (j : Nat) (x : α) (c : List Value), xs[j]? = some x → rows[j]? = some c → Kd.FK d B (fun k => k < B.heap.size) x c
theorem Coll.nil (d : Kd α) (e : Nat) (B w : World) : Coll d e B w (.slice none 0 0) [] := ⟨[], rfl, Kd.R_nil _ _ _ _ _, fun j x c h => by cases h⟩
theorem Coll.below (h : Coll d e B w v xs) (hb : Below w.heap.size w w1) : Coll d e B w1 v xs := by
  obtain ⟨rows, h1, h2, h3⟩ := h; exact ⟨rows, h1, Kd.R_below h2 hb, h3⟩
theorem Coll.grown (h : Coll d e B w u xs) (hv : Coll d' e' B w v ys) (hne : e ≠ e') (hg : w.grownBy w1 v.ownBlock) : Coll d e B w1 u xs := by
  obtain ⟨rows, h1, h2, h3⟩ := h
  obtain ⟨_, _, k2, _⟩ := hv
  refine ⟨rows, h1, Kd.R_mono (Kd.R_grown (Kd.raw_tight h2) hg (fun k hk he => ?_)) (fun _ _ => trivial), h3⟩
  obtain ⟨c1, e1⟩ := Kd.R_typed h2 k hk.symm
  obtain ⟨c2, e2⟩ := Kd.R_typed k2 k he.symm
  rw [e1] at e2
  injection e2 with e2
  injection e2 with _ e3
  exact hne e3
theorem Coll.reads (h : Coll d e B w v xs) (hb : Below B.heap.size B w) : ∃ A c, v = .slice A xs.length c ∧ xs.length ≤ c ∧ d.C w A xs.length xs := by
  obtain ⟨rows, h1, h2, h3⟩ := h
  refine Kd.N_reads (e := e) (base := B.heap.size) (ok := fun k => k < B.heap.size ∨ some k = v.ownBlock) ⟨fun k hk => .inr hk.symm, rows, h1, Kd.raw_tight h2, fun j x c hx hc => ?_⟩
  refine Kd.FK_mono (Kd.FK_below (h3 j x c hx hc) hb) (fun k hk => ⟨.inl hk, fun e => ?_⟩)
  have := Kd.R_base h2 k e.symm
  omega
theorem Coll.slice (h : Coll d e B w v xs) : ∃ A c, v = .slice A xs.length c := by
  obtain ⟨rows, h1, h2, _⟩ := h
  obtain ⟨A, c, he⟩ := Kd.R_slice h2
  exact ⟨A, c, by rw [he, h1]⟩
end
section
variable {P : Program} {ops : Array Oper} {rest : List Oper} {o : Oper} {a : Act} {Q : Exit → Act → World → Prop} {α : Type}
/-- append(v, x), behind 'at_builtin'. -/
theorem Coll_append (d : Kd α) {B W : World} (hgd : o.guard = none) (s x : Operand) (t e : TypeId) (z : Value) (bytes : Nat)
    (ho : o.op = .call { callee := .builtin .append, args := #[s, x], argTypes := #[t, t] })
    (ht : P.underlying t = some (.slice e)) (hinfo : (P.info? e).map (fun i => (i.zero, i.size, i.bytes)) = some (some z, d.sz, bytes)) (hz : z.cells.size = d.sz) (hs0 : 0 < d.sz) (hb0 : 0 < bytes)
    (v : Value) (xs : List α) (p : α) (cs : List Value) (hs : a.eval s = v) (hx : a.eval x = .slice (some ⟨W.heap.size, 0, none⟩) 1 1) (hp : Kd.FK d B (fun k => k < B.heap.size) p cs)
    (HO : Coll d e B W v xs) (HB : Below B.heap.size B W) (hl : (xs.length + 1) * bytes ≤ 140737488355328)
    (h : ∀ v1 w1, Coll d e B w1 v1 (xs ++ [p]) → Below B.heap.size B w1 → W.grownBy w1 v.ownBlock → wpList P ops Q rest (a.put o.dst v1) w1) :
    wpList P ops Q (o :: rest) a (W.alloc (.cells cs.toArray e)) := by
  obtain ⟨rows, h1, h2, h3⟩ := HO
  refine Kd.R_append (Kd.raw d.sz) (w0 := B) B.heap.size hgd s x t e z bytes ho ht hinfo hz hs0 hb0 v rows cs cs (fun _ => True) (fun _ => False) hs hx (Kd.FK_raw hp) (fun _ hk => hk.elim) (fun _ _ => trivial) h2 HB HB.size (by rw [h1]; exact hl) ?_
  intro v1 w1 hr hb hg _
  refine h v1 w1 ⟨rows ++ [cs], by simp [h1], hr, fun j y c hy hc => ?_⟩ hb hg
  by_cases hj : j < xs.length
  · rw [List.getElem?_append_left hj] at hy
    rw [List.getElem?_append_left (by omega)] at hc
    exact h3 j y c hy hc
  · rw [List.getElem?_append_right (by omega)] at hy
    rw [List.getElem?_append_right (by omega)] at hc
    have h4 : j - xs.length = 0 := by
      have := (List.getElem?_eq_some_iff.1 hy).1
      simp at this; omega
    have h5 : j - rows.length = 0 := by omega
    rw [h4] at hy
    rw [h5] at hc
    simp at hy hc
    subst hy hc
    exact hp
end
theorem heap67 : Kd.Heap k67 := by unfold k67; exact Kd.heap_iso _ (Kd.heap_pair Kd.heap_string Kd.heap_string)
theorem FK83' {w : World} {x : S83} {A : Option Addr} {c : Nat} (hl : x.f1.length ≤ c) (h : Kd.C k67 w A x.f1.length x.f1) : Kd.FK k83 w (fun k => k < w.heap.size) x [.int .i64 x.f0, .slice A x.f1.length c, .string x.f2, .int .i64 x.f3] :=
  k83_mkF w _ x hl (Kd.C_F heap67 h)
theorem FK81' {w : World} {x : S81} {A : Option Addr} {c : Nat} (hl : x.f1.length ≤ c) (h : Kd.C k67 w A x.f1.length x.f1) : Kd.FK k81 w (fun k => k < w.heap.size) x [.int .i64 x.f0, .slice A x.f1.length c] :=
  k81_mkF w _ x hl (Kd.C_F heap67 h)
end Go.Proofs.Ytmfkgbncnaingaa.Sto
