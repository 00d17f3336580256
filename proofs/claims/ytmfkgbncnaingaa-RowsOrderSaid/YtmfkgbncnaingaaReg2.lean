/- Facts of a region's operations, and that they last. -/
import Derived.Test.YtmfkgbncnaingaaReg
import Derived.WalkKit
namespace Go.Proofs.Ytmfkgbncnaingaa.Reg
open Go Go.RowKit

/-- It is this value. -/
def FIs (u : Value) (v : Value) (_ : World) : Prop := v = u
/-- A literal slice in memory of its own. -/
def FLit (B : Nat) (c : Array Value) (t : TypeId) (n : Nat) (v : Value) (w : World) : Prop := ∃ g, v = .slice (some ⟨g, 0, none⟩) n n ∧ B ≤ g ∧ w.heap[g]? = some (.cells c t (0, 0))
/-- An address within it. -/
def FAt (B : Nat) (c : Array Value) (t : TypeId) (p : Nat) (v : Value) (w : World) : Prop := ∃ g, v = .pointer (some ⟨g, p, none⟩) ∧ B ≤ g ∧ w.heap[g]? = some (.cells c t (0, 0))
theorem lasts {w w' : World} {g : Nat} {o : Obj} (h : w.heap[g]? = some o) (hb : Below w.heap.size w w') : w'.heap[g]? = some o := by
  rw [hb.block g (Array.getElem?_eq_some_iff.1 h).1]; exact h
theorem FIs.last {u v : Value} {w w' : World} (h : FIs u v w) (_ : Below w.heap.size w w') : FIs u v w' := h
theorem FLit.last {B : Nat} {c : Array Value} {t : TypeId} {n : Nat} {v : Value} {w w' : World} (h : FLit B c t n v w) (hb : Below w.heap.size w w') : FLit B c t n v w' := by
  obtain ⟨g, h1, h2, h3⟩ := h; exact ⟨g, h1, h2, lasts h3 hb⟩
theorem FAt.last {B : Nat} {c : Array Value} {t : TypeId} {p : Nat} {v : Value} {w w' : World} (h : FAt B c t p v w) (hb : Below w.heap.size w w') : FAt B c t p v w' := by
  obtain ⟨g, h1, h2, h3⟩ := h; exact ⟨g, h1, h2, lasts h3 hb⟩
theorem FAt.cell {B : Nat} {c : Array Value} {t : TypeId} {p : Nat} {v : Value} {w : World} (h : FAt B c t p v w) {u : Value} (hu : c[p]? = some u) : ∃ g, v = .pointer (some ⟨g, p, none⟩) ∧ w.cell? ⟨g, p, none⟩ = some u := by
  obtain ⟨g, h1, _, h3⟩ := h; exact ⟨g, h1, by simp [World.cell?, h3, hu]⟩
theorem new_block (w : World) (o : Obj) : (w.alloc o).heap[w.heap.size]? = some o := by
  show (w.heap.push _)[w.heap.size]? = _
  rw [Array.getElem?_push_size]
theorem new_block_at {w : World} {o : Obj} {z : Nat} (h : w.heap.size = z) : (w.alloc o).heap[z]? = some o := by rw [← h]; exact new_block w o
end Go.Proofs.Ytmfkgbncnaingaa.Reg
