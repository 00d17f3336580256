/- 13 texts of this family in one. -/
import Derived.Test.YtmhfkbgdkgfafaaGreatDoorGJa
import Derived.Lib.IndexAny
import Derived.Lib.SlTrimSet
import Derived.Lib.JoinLaws
import Derived.Shelf.Spec.SearchS
import Derived.Shelf.Strings.SlTrimAscii
import Derived.Lib.AtoiAllMem
import Derived.Shelf.Strings.IndexAnyAll
import Derived.Shelf.GgClosure.StringsIndexFunc
import Derived.Lib.TrimUEq
import Derived.Orders
import Derived.Tactics
import Derived.Below
import Derived.Laws.Runes
import Derived.Laws.RangeAny
import Derived.WalkMore
import Derived.Shelf.Strings.FuncGrows

section
/- numbers in plain words. -/
namespace Go.Proofs.YtmhfkbgdkgfafaaGreatDoor.Js
open Go.RowKit Go.Proofs.YtmhfkbgdkgfafaaGreatDoor.QJson Go.Proofs.YtmhfkbgdkgfafaaGreatDoorW.PrintWords Go.Proofs.YtmhfkbgdkgfafaaGreatDoorW.PrintLast Go.Proofs.YtmhfkbgdkgfafaaGreatDoorW.PrintMore
set_option linter.unusedVariables false
set_option linter.unusedSimpArgs false

def digitB (c : UInt8) : Bool := decide (48 ≤ c.toNat) && decide (c.toNat ≤ 57)
/-- How far a number goes. -/
def scanD : List UInt8 → Nat
  | [] => 0
  | c :: l => if digitB c = true then 1 + scanD l else 0
def scan : List UInt8 → Nat
  | [] => 0
  | c :: l => if c.toNat = 45 then 1 + scanD l else scanD (c :: l)
theorem scanD_le : ∀ l, scanD l ≤ l.length
  | [] => Nat.le_refl _
  | c :: l => by rw [scanD]; split <;> simp only [List.length_cons] <;> have := scanD_le l <;> omega
theorem scan_le (l : List UInt8) : scan l ≤ l.length := by
  cases l with
  | nil => exact Nat.le_refl _
  | cons c l =>
    rw [scan]
    split
    · have := scanD_le l; rw [List.length_cons]; omega
    · exact scanD_le _
theorem scanD_at : ∀ (l : List UInt8) (i : Nat), i ≤ scanD l → (i < scanD l ↔ ∃ h : i < l.length, digitB l[i] = true)
  | [], i, hi => by simp [scanD]
  | c :: l, i, hi => by
    rw [scanD] at hi ⊢
    cases hc : digitB c with
    | false =>
      rw [hc] at hi
      rw [if_neg (by simp)] at hi ⊢
      obtain rfl : i = 0 := by omega
      simp [hc]
    | true =>
      rw [hc, if_pos rfl] at hi
      rw [if_pos rfl]
      cases i with
      | zero => exact ⟨fun _ => ⟨by simp, hc⟩, fun _ => by omega⟩
      | succ i =>
        have := scanD_at l i (by omega)
        simp only [List.length_cons, List.getElem_cons_succ]
        constructor
        · intro h
          obtain ⟨h1, h2⟩ := this.1 (by omega)
          exact ⟨by omega, h2⟩
        · rintro ⟨h1, h2⟩
          have := this.2 ⟨by omega, h2⟩
          omega
/-- The loop's question. -/
theorem scan_at (l : List UInt8) (i : Nat) (hi : i ≤ scan l) : (i < scan l ↔ ∃ h : i < l.length, (l[i].toNat = 45 ∧ i = 0) ∨ digitB l[i] = true) := by
  cases l with
  | nil => simp [scan]
  | cons c l =>
    rw [scan] at hi ⊢
    by_cases hc : c.toNat = 45
    · rw [if_pos hc] at hi ⊢
      cases i with
      | zero => exact ⟨fun _ => ⟨by simp, .inl ⟨hc, rfl⟩⟩, fun _ => by omega⟩
      | succ i =>
        have := scanD_at l i (by omega)
        simp only [List.length_cons, List.getElem_cons_succ]
        constructor
        · intro h
          obtain ⟨h1, h2⟩ := this.1 (by omega)
          exact ⟨by omega, .inr h2⟩
        · rintro ⟨h1, h2⟩
          rcases h2 with ⟨_, h2⟩ | h2
          · omega
          · have := this.2 ⟨by omega, h2⟩
            omega
    · rw [if_neg hc] at hi ⊢
      rw [scanD_at (c :: l) i hi]
      constructor
      · rintro ⟨h1, h2⟩; exact ⟨h1, .inr h2⟩
      · rintro ⟨h1, h2⟩
        rcases h2 with ⟨h2, h3⟩ | h2
        · subst h3; exact absurd h2 hc
        · exact ⟨h1, h2⟩

theorem extract_take (l : List UInt8) (n : Nat) (hn : n ≤ l.length) : (str l).extract 0 n = str (l.take n) := by
  apply ByteArray.ext
  rw [ByteArray.data_extract]
  apply Array.ext'
  rw [Array.toList_extract, List.extract_eq_take_drop]
  simp [str]
theorem extract_drop (l : List UInt8) (n : Nat) : (str l).extract n (str l).size = str (l.drop n) := by
  apply ByteArray.ext
  rw [ByteArray.data_extract]
  apply Array.ext'
  rw [Array.toList_extract, List.extract_eq_take_drop, str_size]
  simp [str, List.take_of_length_le]
/-- What a number is read as, and what is left behind it; none: it is none. -/
def numP (l : List UInt8) : Option (Int × List UInt8) :=
  match Lib.atoiAll (l.take (scan l)) with
  | .ok v => if Lib.itoa v = l.take (scan l) then some (v, l.drop (scan l)) else none
  | _ => if Lib.trimPrefix (l.take (scan l)) [45] = [] ∨ (Lib.trimPrefix (l.take (scan l)) [45]).getD 0 0 = 48 then none else some (9007199254740992, l.drop (scan l))
end Go.Proofs.YtmhfkbgdkgfafaaGreatDoor.Js
end

section
/- json's parser in plain words. -/
namespace Go.Proofs.YtmhfkbgdkgfafaaGreatDoor.Js
open Go.RowKit Go.Proofs.YtmhfkbgdkgfafaaGreatDoor.QJson Go.Proofs.YtmhfkbgdkgfafaaGreatDoorW.PrintWords Go.Proofs.YtmhfkbgdkgfafaaGreatDoorW.PrintLast Go.Proofs.YtmhfkbgdkgfafaaGreatDoorW.PrintMore
set_option linter.unusedVariables false
set_option linter.unusedSimpArgs false

/-- Blanks ahead are left out. -/
def sk (l : List UInt8) : List UInt8 := Lib.trimLeftS l [32, 9, 10, 13]
/-- A text that stands there. -/
def tk (s l : List UInt8) : Option (List UInt8) := if s.isPrefixOf l = true then some (l.drop s.length) else none
def isQ (c : UInt8) : Bool := c == 34 || c == 92
def seg (l : List UInt8) : List UInt8 := l.takeWhile (fun c => !isQ c)
def rst (l : List UInt8) : List UInt8 := l.dropWhile (fun c => !isQ c)
def hexV (c : UInt8) : Option Nat :=
  if 48 ≤ c.toNat ∧ c.toNat ≤ 57 then some (c.toNat - 48) else if 97 ≤ c.toNat ∧ c.toNat ≤ 102 then some (c.toNat - 87) else if 65 ≤ c.toNat ∧ c.toNat ≤ 70 then some (c.toNat - 55) else none
def hexFrom : Nat → List UInt8 → Option Nat
  | n, [] => some n
  | n, c :: l => match hexV c with
    | none => none
    | some d => hexFrom (16 * n + d) l
/-- An escaped byte. -/
def escP : List UInt8 → Option (UInt8 × List UInt8)
  | [] => none
  | c :: l =>
    if c = 34 ∨ c = 92 ∨ c = 47 then some (c, l)
    else if c = 98 then some (8, l) else if c = 116 then some (9, l) else if c = 110 then some (10, l) else if c = 102 then some (12, l) else if c = 114 then some (13, l)
    else if c = 117 then
      (if l.length < 4 then none else match hexFrom 0 (l.take 4) with
        | none => none
        | some n => if n < 128 then some (n.toUInt8, l.drop 4) else none)
    else none
/-- A string behind its quote. -/
def textP : Nat → List UInt8 → Option (List UInt8 × List UInt8)
  | 0, _ => none
  | n + 1, l => match rst l with
    | [] => none
    | c :: r => if (seg l).any (fun c => decide (c.toNat < 32)) = true then none else if c = 34 then some (seg l, r) else match escP r with
      | none => none
      | some (x, r') => match textP n r' with
        | none => none
        | some (t, q) => some (seg l ++ x :: t, q)
/-- Items with commas between, up to an end. -/
def listP {α : Type} (E : UInt8) (I : α → List UInt8 → Option (α × List UInt8)) : Nat → α → List UInt8 → Option (α × List UInt8)
  | 0, _, _ => none
  | n + 1, a, l => match I a (sk l) with
    | none => none
    | some (a', r) => match tk [E] (sk r) with
      | some q => some (a', q)
      | none => match tk [44] (sk r) with
        | none => none
        | some q => listP E I n a' q
def listS {α : Type} (E : UInt8) (I : α → List UInt8 → Option (α × List UInt8)) (n : Nat) (a : α) (l : List UInt8) : Option (α × List UInt8) :=
  match tk [E] (sk l) with
  | some q => some (a, q)
  | none => listP E I n a (sk l)
def arrI (V : List UInt8 → Option (S26 × List UInt8)) (ps : List S26) (l : List UInt8) : Option (List S26 × List UInt8) :=
  match V l with
  | none => none
  | some (p, r) => some (ps ++ [p], r)
/-- Where a key stands, or would. -/
def lowK (ks : List ByteArray) (k : ByteArray) : Nat := Lib.bsGo (fun t => Op.bytesLess (ks.getD t ⟨#[]⟩).toList k.toList) ks.length 0 ks.length
def hadK (ks : List ByteArray) (k : ByteArray) : Bool := decide (lowK ks k < ks.length) && ((ks.getD (lowK ks k) ⟨#[]⟩).toList == k.toList)
def objI (V : List UInt8 → Option (S26 × List UInt8)) (a : List ByteArray × List S26) (l : List UInt8) : Option ((List ByteArray × List S26) × List UInt8) :=
  match tk [34] l with
  | none => none
  | some l1 => match textP (l1.length + 1) l1 with
    | none => none
    | some (k, r) => match tk [58] (sk r) with
      | none => none
      | some q => match V (sk q) with
        | none => none
        | some (p, r2) => if hadK a.1 (str k) = true then none else
            some ((a.1.take (lowK a.1 (str k)) ++ str k :: a.1.drop (lowK a.1 (str k)), a.2.take (lowK a.1 (str k)) ++ p :: a.2.drop (lowK a.1 (str k))), r2)
def nulT : List UInt8 := [110, 117, 108, 108]
def falT : List UInt8 := [102, 97, 108, 115, 101]
def truT : List UInt8 := [116, 114, 117, 101]
/-- A value. -/
def valueP : Nat → List UInt8 → Option (S26 × List UInt8)
  | 0, _ => none
  | d + 1, l => match tk nulT l with
    | some r => some (⟨1, 0, ⟨#[]⟩, [], []⟩, r)
    | none => match tk falT l with
      | some r => some (⟨2, 0, ⟨#[]⟩, [], []⟩, r)
      | none => match tk truT l with
        | some r => some (⟨3, 0, ⟨#[]⟩, [], []⟩, r)
        | none => match tk [34] l with
          | some r => (match textP (r.length + 1) r with
            | none => none
            | some (t, q) => some (⟨5, 0, str t, [], []⟩, q))
          | none => match tk [91] l with
            | some r => (match listS 93 (arrI (valueP d)) (r.length + 1) [] r with
              | none => none
              | some (ps, q) => some (⟨6, 0, ⟨#[]⟩, [], ps⟩, q))
            | none => match tk [123] l with
              | some r => (match listS 125 (objI (valueP d)) (r.length + 1) ([], []) r with
                | none => none
                | some (a, q) => some (⟨7, 0, ⟨#[]⟩, a.1, a.2⟩, q))
              | none => match numP l with
                | none => none
                | some (k, r) => some (⟨4, k, ⟨#[]⟩, [], []⟩, r)
/-- A whole text, with blanks around. -/
def parseP (l : List UInt8) : Option S26 :=
  match valueP (l.length + 8) (sk l) with
  | none => none
  | some (v, r) => if sk r = [] then some v else none

end Go.Proofs.YtmhfkbgdkgfafaaGreatDoor.Js
end

section
/- The parser of json: its state; takes, fails. -/
namespace Go.Proofs.YtmhfkbgdkgfafaaGreatDoor.Js
open Go.RowKit Go.Proofs.YtmhfkbgdkgfafaaGreatDoor.QJson Go.Proofs.YtmhfkbgdkgfafaaGreatDoorW.PrintWords Go.Proofs.YtmhfkbgdkgfafaaGreatDoorW.PrintLast Go.Proofs.YtmhfkbgdkgfafaaGreatDoorW.PrintMore
set_option linter.unusedVariables false
set_option linter.unusedSimpArgs false

/-- The parser: what is left, and whether it is bad. -/
def PS (w : World) (g : Nat) (l : List UInt8) (b : Bool) : Prop := w.heap[g]? = some (.cells #[.string (str l), .bool b] 51 (0, 0))
theorem PS.lt {w : World} {g : Nat} {l : List UInt8} {b : Bool} (h : PS w g l b) : g < w.heap.size := by
  rcases Nat.lt_or_ge g w.heap.size with h' | h'
  · exact h'
  · unfold PS at h; rw [Array.getElem?_eq_none h'] at h; cases h
theorem PS.cells {w : World} {g : Nat} {l : List UInt8} {b : Bool} (h : PS w g l b) : w.cell? ⟨g, 0, none⟩ = some (.string (str l)) ∧ w.cell? ⟨g, 1, none⟩ = some (.bool b) ∧ ∀ j, w.frozen? ⟨g, j, none⟩ = false :=
  ⟨by rw [Lib.cell_of_heap h]; rfl, by rw [Lib.cell_of_heap h]; rfl, fun j => Lib.frozen_of_heap h j⟩
theorem PS.left {w : World} {g : Nat} {l : List UInt8} {b : Bool} (h : PS w g l b) (l' : List UInt8) : PS (w.setCell ⟨g, 0, none⟩ (.string (str l'))) g l' b := by
  unfold PS at h ⊢
  simp [World.setCell, Array.getElem?_modify, h]
theorem PS.badly {w : World} {g : Nat} {l : List UInt8} {b : Bool} (h : PS w g l b) (b' : Bool) : PS (w.setCell ⟨g, 1, none⟩ (.bool b')) g l b' := by
  unfold PS at h ⊢
  simp [World.setCell, Array.getElem?_modify, h]
theorem grown_set (w : World) (g j : Nat) (u : Value) : w.grownBy (w.setCell ⟨g, j, none⟩ u) (some g) :=
  ⟨rfl, rfl, rfl, by simp [World.setCell], fun k _ hk => Below.heap_setCell _ _ _ _ (fun e => hk (by simp [e]))⟩

theorem grown_trans {w w1 w2 : World} {g : Nat} (h : Below w.heap.size w w1) (k : w1.grownBy w2 (some g)) : w.grownBy w2 (some g) :=
  ⟨k.os.trans h.os, k.tape.trans h.tape, k.output.trans h.output, Nat.le_trans h.size k.size, fun q hq hne => (k.block q (Nat.lt_of_lt_of_le hq h.size) hne).trans (h.block q hq)⟩

set_option maxRecDepth 100000 in
theorem takes_calls (w : World) (g : Nat) (l s : List UInt8) (b : Bool) (h : PS w g l b) :
    Calls Tryz.prog 30 #[.pointer (some ⟨g, 0, none⟩), .string (str s)] w fun e w' => e = .returned (.bool (s.isPrefixOf l)) ∧ PS w' g (if s.isPrefixOf l = true then l.drop s.length else l) b ∧ w.grownBy w' (some g) := by
  obtain ⟨c0, c1, hf⟩ := h.cells
  have f0 := hf 0
  have HP := Aside0.mk h
  have hc : ∀ w, Calls Tryz.prog 54 #[.string (str l), .string (str s)] w fun e w' => e = .returned (.tuple #[.string (str (if s.isPrefixOf l = true then l.drop s.length else l)), .bool (s.isPrefixOf l)]) ∧ w' = w := fun w => by
    have h := Tryz.strings_CutPrefix (str l) (str s) w
    rw [str_list, str_list] at h
    exact h
  obtain ⟨l2, hl2⟩ : ∃ x, x = (if s.isPrefixOf l = true then l.drop s.length else l) := ⟨_, rfl⟩
  obtain ⟨r, hr⟩ : ∃ x, x = s.isPrefixOf l := ⟨_, rfl⟩
  rw [← hl2, ← hr] at hc
  rw [← hl2, ← hr]
  have HC := Aside0.mk hc
  clear h hf hc hl2 hr
  go_enter Tryz.func30, Tryz.ntmps30
  go_wp2_with (first
    | (go_at_call 54; refine (HC.out _).mono ?_; rintro e w2 ⟨rfl, rfl⟩))
  go_ret
  exact ⟨rfl, HP.out.left l2, grown_set _ _ _ _⟩

set_option maxRecDepth 100000 in
theorem skip_calls (w : World) (g : Nat) (l : List UInt8) (b : Bool) (h : PS w g l b) :
    Calls Tryz.prog 20 #[.pointer (some ⟨g, 0, none⟩)] w fun e w' => e = .returned (.tuple #[]) ∧ PS w' g (Lib.trimLeftS l [32, 9, 10, 13]) b ∧ w.grownBy w' (some g) := by
  obtain ⟨c0, c1, hf⟩ := h.cells
  have f0 := hf 0
  have HP := Aside0.mk h
  have hc : ∀ w, Calls Tryz.prog 29 #[.string (str l), .string ⟨#[32, 9, 10, 13]⟩] w fun e w' => e = .returned (.string (str (Lib.trimLeftS l [32, 9, 10, 13]))) ∧ Below w.heap.size w w' := fun w => by
    have h := Any.strings_TrimLeft_laid Tryz.lays161 (by kernel_rfl) (str l) ⟨#[32, 9, 10, 13]⟩ w (by decide) (fun j b hj => by
      have hall : ∀ x ∈ (⟨#[32, 9, 10, 13]⟩ : ByteArray).data.toList, x.toNat < 128 := by decide
      exact hall b (List.mem_of_getElem? hj))
    rw [str_list] at h
    exact h
  obtain ⟨l2, hl2⟩ : ∃ x, x = Lib.trimLeftS l [32, 9, 10, 13] := ⟨_, rfl⟩
  rw [← hl2] at hc
  rw [← hl2]
  have HC := Aside0.mk hc
  clear h hf hc hl2
  go_enter Tryz.func20, Tryz.ntmps20
  go_wp2_with (first
    | (go_at_call 29; refine (HC.out _).mono ?_; rintro e w2 ⟨rfl, hb⟩; have HB := Aside0.mk hb; have HP2 := Aside0.mk (show PS w2 g l b from (hb.block g HP.out.lt).trans HP.out); have d0 := HP2.out.cells.1; have d1 := HP2.out.cells.2.2 0; clear hb))
  go_end0
  exact ⟨rfl, HP2.out.left l2, grown_trans HB.out (grown_set _ _ _ _)⟩

theorem set_alloc_grown (w : World) (g : Nat) (u v : Value) (o : Obj) (hlt : g < w.heap.size) : w.grownBy (((w.setCell ⟨g, 1, none⟩ u).setCell ⟨g, 0, none⟩ v).alloc o) (some g) := by
  have h1 := grown_set w g 1 u
  have h2 := grown_set (w.setCell ⟨g, 1, none⟩ u) g 0 v
  have h3 : Below ((w.setCell ⟨g, 1, none⟩ u).setCell ⟨g, 0, none⟩ v).heap.size ((w.setCell ⟨g, 1, none⟩ u).setCell ⟨g, 0, none⟩ v) (((w.setCell ⟨g, 1, none⟩ u).setCell ⟨g, 0, none⟩ v).alloc o) := below_alloc (Below.refl _ _) _
  refine ⟨h3.os.trans (h2.os.trans h1.os), h3.tape.trans (h2.tape.trans h1.tape), h3.output.trans (h2.output.trans h1.output), Nat.le_trans h1.size (Nat.le_trans h2.size h3.size), fun q hq hne => ?_⟩
  rw [h3.block q (Nat.lt_of_lt_of_le hq (Nat.le_trans h1.size h2.size)), h2.block q (Nat.lt_of_lt_of_le hq h1.size) hne, h1.block q hq hne]
set_option maxRecDepth 100000 in
theorem fails_calls (w : World) (g : Nat) (l : List UInt8) (b : Bool) (h : PS w g l b) :
    Calls Tryz.prog 58 #[.pointer (some ⟨g, 0, none⟩)] w fun e w' => e = .returned (.agg #[.int .i64 0, .int .i64 0, .string ⟨#[]⟩, .slice none 0 0, .slice none 0 0]) ∧ PS w' g [] true ∧ w.grownBy w' (some g) := by
  have HP := Aside0.mk h
  obtain ⟨gr, hgr⟩ : ∃ q, q = w.heap.size := ⟨_, rfl⟩
  have hlt := h.lt
  obtain ⟨c0, c1, hf⟩ := h.cells
  have f0 := hf 0
  have f1 := hf 1
  clear h hf
  go_enter Tryz.func58, Tryz.ntmps58
  go_wp2
  have hblk := heap_alloc_new ((w.setCell ⟨g, 1, none⟩ (.bool true)).setCell ⟨g, 0, none⟩ (.string ⟨#[]⟩)) (.cells #[.int .i64 0, .int .i64 0, .string ⟨#[]⟩, .slice none 0 0, .slice none 0 0] 26)
  rw [show ((w.setCell ⟨g, 1, none⟩ (.bool true)).setCell ⟨g, 0, none⟩ (.string ⟨#[]⟩)).heap.size = w.heap.size by simp [World.setCell]] at hblk
  refine bodyPost_ret (results_cell_row rfl _ _ w.heap.size 26 _ (0, 0) _ rfl hblk Tryz.underlying26 rfl (by kernel_rfl)) rfl ?_
  have h1 := (HP.out.badly true).left []
  refine ⟨rfl, ?_, ?_⟩
  · exact (Below.block (below_alloc (Below.refl _ _) _) g h1.lt).trans h1
  · exact set_alloc_grown w g _ _ _ hlt

end Go.Proofs.YtmhfkbgdkgfafaaGreatDoor.Js
end

section
/- json's parser: number. -/
namespace Go.Proofs.YtmhfkbgdkgfafaaGreatDoor.Js
open Go.RowKit Go.Proofs.YtmhfkbgdkgfafaaGreatDoor.QJson Go.Proofs.YtmhfkbgdkgfafaaGreatDoorW.PrintWords Go.Proofs.YtmhfkbgdkgfafaaGreatDoorW.PrintLast Go.Proofs.YtmhfkbgdkgfafaaGreatDoorW.PrintMore
set_option linter.unusedVariables false
set_option linter.unusedSimpArgs false

/-- The library's error values, and its tables. -/
structure Errs (w : World) : Prop where
  tabs : Tabs w
  syn : ∃ ev, w.cell? ⟨5, 0, none⟩ = some ev ∧ (ev = .nilIface ∨ ∃ te pe, ev = .iface te pe)
  ran : ∃ ev, w.cell? ⟨6, 0, none⟩ = some ev ∧ (ev = .nilIface ∨ ∃ te pe, ev = .iface te pe)
theorem atoi_calls (d : List UInt8) (hl : d.length ≤ 1000000) (w : World) (h : Errs w) : Calls Tryz.prog 64 #[.string (str d)] w fun e w' => Below w.heap.size w w' ∧
    ((∃ v, Lib.atoiAll d = .ok v ∧ e = .returned (.tuple #[.int .i64 v, .nilIface])) ∨ ((∀ v, Lib.atoiAll d ≠ .ok v) ∧ ∃ k te pe, e = .returned (.tuple #[.int .i64 k, .iface te pe]))) := by
  obtain ⟨e5, h5, h5'⟩ := h.syn
  obtain ⟨e6, h6, h6'⟩ := h.ran
  have hsz : (str d).size ≤ 1000000 := by rw [str_size]; exact hl
  cases ha : Lib.atoiAll d with
  | ok v =>
    refine (Tryz.strconv_Atoi_ok (str d) (by omega) v (by rw [str_list]; exact ha) w).mono ?_
    rintro e w' ⟨rfl, hw⟩
    refine ⟨?_, .inl ⟨v, rfl, rfl⟩⟩
    rcases hw with rfl | ⟨t, rfl⟩
    · exact Below.refl _ _
    · exact bytes_below (Below.refl _ _) (Nat.le_refl _) _ _
  | range =>
    refine (Tryz.strconv_Atoi_range (str d) (by omega) (by rw [str_list]; exact ha) e6 w h6 h6').mono ?_
    rintro e w' ⟨N, rfl, _, _, hb⟩
    exact ⟨hb, .inr ⟨fun v h => (by cases h), _, _, _, rfl⟩⟩
  | _ =>
    refine (Tryz.strconv_Atoi_syntax (str d) (by omega) (by rw [str_list]; exact ha) e5 w h5 h5').mono ?_
    rintro e w' ⟨N, rfl, _, _, hb⟩
    exact ⟨hb, .inr ⟨fun v h => (by cases h), _, _, _, rfl⟩⟩

theorem Errs.below {w w' : World} (h : Errs w) (hb : Below w.heap.size w w') : Errs w' := by
  have hc : ∀ k v, w.cell? ⟨k, 0, none⟩ = some v → w'.cell? ⟨k, 0, none⟩ = some v := fun k v hv => by
    have hlt : k < w.heap.size := by
      rcases Nat.lt_or_ge k w.heap.size with h' | h'
      · exact h'
      · simp [World.cell?, Array.getElem?_eq_none h'] at hv
    rw [hb.cell (p := ⟨k, 0, none⟩) hlt]; exact hv
  obtain ⟨e5, h5, h5'⟩ := h.syn
  obtain ⟨e6, h6, h6'⟩ := h.ran
  exact ⟨h.tabs.below hb, ⟨e5, hc _ _ h5, h5'⟩, ⟨e6, hc _ _ h6, h6'⟩⟩
theorem atoi_ok {d : List UInt8} {v : Int} (ha : Lib.atoiAll d = .ok v) {w w' : World} {e : Ending} (h : Below w.heap.size w w' ∧
    ((∃ v, Lib.atoiAll d = .ok v ∧ e = .returned (.tuple #[.int .i64 v, .nilIface])) ∨ ((∀ v, Lib.atoiAll d ≠ .ok v) ∧ ∃ k te pe, e = .returned (.tuple #[.int .i64 k, .iface te pe])))) : e = .returned (.tuple #[.int .i64 v, .nilIface]) ∧ Below w.heap.size w w' := by
  obtain ⟨hb, h⟩ := h
  rcases h with ⟨v2, h2, rfl⟩ | ⟨h2, _⟩
  · rw [ha] at h2; cases h2; exact ⟨rfl, hb⟩
  · exact absurd ha (h2 v)

/-- Five cells of a struct's, written one after the other. -/
def set5 (w : World) (g : Nat) (a b c d e : Value) : World := ((((w.setCell ⟨g, 0, none⟩ a).setCell ⟨g, 1, none⟩ b).setCell ⟨g, 2, none⟩ c).setCell ⟨g, 3, none⟩ d).setCell ⟨g, 4, none⟩ e
theorem set5_blk {w : World} {g t : Nat} {a0 b0 c0 d0 e0 : Value} (h : w.heap[g]? = some (.cells #[a0, b0, c0, d0, e0] t (0, 0))) (a b c d e : Value) : (set5 w g a b c d e).heap[g]? = some (.cells #[a, b, c, d, e] t (0, 0)) :=
  blk_set (blk_set (blk_set (blk_set (blk_set h 0 a) 1 b) 2 c) 3 d) 4 e
theorem set5_far {w : World} {g k : Nat} (hk : k ≠ g) (a b c d e : Value) : (set5 w g a b c d e).heap[k]? = w.heap[k]? := by
  unfold set5
  rw [Below.heap_setCell _ _ _ _ hk, Below.heap_setCell _ _ _ _ hk, Below.heap_setCell _ _ _ _ hk, Below.heap_setCell _ _ _ _ hk, Below.heap_setCell _ _ _ _ hk]
theorem grown2 {w w1 w2 : World} {row : Option Nat} (h : w.grownBy w1 row) (k : w1.grownBy w2 row) : w.grownBy w2 row :=
  ⟨k.os.trans h.os, k.tape.trans h.tape, k.output.trans h.output, Nat.le_trans h.size k.size, fun q hq hne => (k.block q (Nat.lt_of_lt_of_le hq h.size) hne).trans (h.block q hq hne)⟩
theorem set5_grown (w : World) (g : Nat) (a b c d e : Value) : w.grownBy (set5 w g a b c d e) (some g) :=
  grown2 (grown_set w g 0 a) (grown2 (grown_set _ g 1 b) (grown2 (grown_set _ g 2 c) (grown2 (grown_set _ g 3 d) (grown_set _ g 4 e))))
theorem set5_then {w w7 : World} {g gr : Nat} (h : w.grownBy w7 (some g)) (hr : w.heap.size ≤ gr) (a b c d e : Value) : w.grownBy (set5 w7 gr a b c d e) (some g) := by
  have k := set5_grown w7 gr a b c d e
  exact ⟨k.os.trans h.os, k.tape.trans h.tape, k.output.trans h.output, Nat.le_trans h.size k.size, fun q hq hne => (k.block q (Nat.lt_of_lt_of_le hq h.size) (fun e => by injection e with e; omega)).trans (h.block q hq hne)⟩
theorem set5_ps {w : World} {g gr : Nat} {l : List UInt8} {bd : Bool} (h : PS w g l bd) (hne : gr ≠ g) (a b c d e : Value) : PS (set5 w gr a b c d e) g l bd :=
  (set5_far (Ne.symm hne) _ _ _ _ _).trans h
/-- What a call of the parser's that gives a number comes to. -/
def NumOut (w : World) (g : Nat) (l : List UInt8) (b : Bool) (e : Ending) (w' : World) : Prop :=
  w.grownBy w' (some g) ∧ match numP l with
  | some (k, r) => e = .returned (.agg #[.int .i64 4, .int .i64 k, .string ⟨#[]⟩, .slice none 0 0, .slice none 0 0]) ∧ PS w' g r b
  | none => e = .returned (.agg #[.int .i64 0, .int .i64 0, .string ⟨#[]⟩, .slice none 0 0, .slice none 0 0]) ∧ PS w' g [] true
theorem toList_ne {a b : List UInt8} (h : a ≠ b) : ((str a).toList == (str b).toList) = false := by
  rw [beq_eq_false_iff_ne]
  intro he
  rw [Lib.toList_data, Lib.toList_data, str_list, str_list] at he
  exact h he

set_option maxHeartbeats 8000000 in
set_option maxRecDepth 100000 in
theorem number_walk (w : World) (g : Nat) (l : List UInt8) (b : Bool) (h : PS w g l b) (hn : l.length ≤ 1000000) (hE : Errs w) :
    Calls Tryz.prog 35 #[.pointer (some ⟨g, 0, none⟩)] w fun e w' => NumOut w g l b e w' := by
  have HE := Aside0.mk hE
  have HP := Aside0.mk h
  have HL := Aside0.mk hn
  have hsz := str_size l
  obtain ⟨s, hs⟩ : ∃ s, s = str l := ⟨_, rfl⟩
  have HS := Aside0.mk hs
  obtain ⟨gr, hgr⟩ : ∃ q, q = w.heap.size := ⟨_, rfl⟩
  have hlt := h.lt
  rw [← hs] at hsz
  obtain ⟨c0, c1, hf⟩ := h.cells
  rw [← hs] at c0
  clear h hf hs hE
  go_enter Tryz.func35, Tryz.ntmps35
  go_upto_block 0 with (fail)
  have HPx := Aside0.mk (show PS (w.alloc (.cells #[.int .i64 0, .int .i64 0, .string ⟨#[]⟩, .slice none 0 0, .slice none 0 0] 26)) g l b from (Below.block (below_alloc (Below.refl _ _) _) g hlt).trans HP.out)
  generalize hW : w.alloc (.cells #[.int .i64 0, .int .i64 0, .string ⟨#[]⟩, .slice none 0 0, .slice none 0 0] 26) = W1 at HPx ⊢
  have d0 := HPx.out.cells.1
  rw [← HS.out] at d0
  have hsc := scan_le l
  go_cut [3] from 8 (fun v3 wc => v3 = .int .i64 (scan l) ∧ wc = W1)
  case first =>
    go_wp2
    go_loopg [3] (scan l) (fun kq v3 wr => ∃ i : Nat, v3 = .int .i64 i ∧ kq + i = scan l ∧ wr = W1)
    case atStart => exact ⟨0, rfl, by omega, rfl⟩
    case round =>
      obtain ⟨i, rfl, hK, rfl⟩ := hrel
      by_cases hlt : i < scan l
      · obtain ⟨hil, hx⟩ := (scan_at l i (by omega)).1 hlt
        have hb := at_eq (str l) l (str_list l) i hil
        rw [← HS.out] at hb
        obtain ⟨x, hxe⟩ : ∃ x : Int, x = (l[i].toNat : Int) := ⟨_, rfl⟩
        have hb2 : ∀ h : i < s.size, (((s[i]'h).toNat : Nat) : Int) = x := fun h => by rw [hb h, hxe]
        have hi1 : (i : Int) < (l.length : Int) := by omega
        have hwi : IntKind.i64.wrap ((i : Int) + 1) = (i : Int) + 1 := by have := HL.out; rw [IntKind.wrap_i64]; omega
        by_cases hA : x = 45 ∧ i = 0
        · obtain ⟨h45, hi0⟩ := hA
          have q1 : (x == 45) = true := beq_iff_eq.2 h45
          have q2 : ((i : Int) == 0) = true := beq_iff_eq.2 (by omega)
          clear hx hb hxe h45 hi0
          go_wp2
          go_roundg (gk - 1)
          case measure => omega
          case rel => exact ⟨i + 1, by go_num, by omega, rfl⟩
        · have hd : 48 ≤ x ∧ x ≤ 57 := by
            rcases hx with ⟨h1, h2⟩ | h1
            · exact absurd ⟨by omega, h2⟩ hA
            · unfold digitB at h1
              simp only [Bool.and_eq_true, decide_eq_true_eq] at h1
              omega
          have q1 : (x == 45) = false := beq_eq_false_iff_ne.2 (by omega)
          obtain ⟨hd1, hd2⟩ := hd
          clear hx hb hxe hA
          go_wp2
          go_roundg (gk - 1)
          case measure => omega
          case rel => exact ⟨i + 1, by go_num, by omega, rfl⟩
      · have hie : i = scan l := by omega
        have HIe := Aside0.mk hie
        by_cases hil : i < l.length
        · have hno := fun h => hlt ((scan_at l i (by omega)).2 ⟨hil, h⟩)
          have hb := at_eq (str l) l (str_list l) i hil
          rw [← HS.out] at hb
          obtain ⟨x, hxe⟩ : ∃ x : Int, x = (l[i].toNat : Int) := ⟨_, rfl⟩
          have hb2 : ∀ h : i < s.size, (((s[i]'h).toNat : Nat) : Int) = x := fun h => by rw [hb h, hxe]
          have hi1 : (i : Int) < (l.length : Int) := by omega
          have hnd : ¬ (48 ≤ x ∧ x ≤ 57) := fun h => hno (.inr (by unfold digitB; simp only [Bool.and_eq_true, decide_eq_true_eq]; omega))
          by_cases h45 : x = 45
          · have q1 : (x == 45) = true := beq_iff_eq.2 h45
            have q2 : ((i : Int) == 0) = false := beq_eq_false_iff_ne.2 (fun h => hno (.inl ⟨by omega, by omega⟩))
            have q2' : (i == 0) = false := beq_eq_false_iff_ne.2 (fun h => hno (.inl ⟨by omega, h⟩))
            have q3 : ¬ 48 ≤ x := by omega
            clear hno hb hxe hnd h45 hlt hie hK hsc hil
            go_wp2
            go_meet
            case rel => exact ⟨by rw [HIe.out], rfl⟩
          · have q1 : (x == 45) = false := beq_eq_false_iff_ne.2 h45
            by_cases h48 : 48 ≤ x
            · have q3 : ¬ x ≤ 57 := fun h => hnd ⟨h48, h⟩
              clear hno hb hxe hnd h45 hlt hie hK hsc hil
              go_wp2
              go_meet
              case rel => exact ⟨by rw [HIe.out], rfl⟩
            · clear hno hb hxe hnd h45 hlt hie hK hsc hil
              go_wp2
              go_meet
              case rel => exact ⟨by rw [HIe.out], rfl⟩
        · have hib : ¬ (i : Int) < (l.length : Int) := by omega
          clear hlt hie hK hsc
          go_wp2
          go_meet
          case rel => exact ⟨by rw [HIe.out], rfl⟩
  case rest =>
    obtain ⟨rfl, rfl⟩ := hcut
    obtain ⟨n, hnn⟩ : ∃ n, n = scan l := ⟨_, rfl⟩
    have hsl : ∀ W, (Instr.slice 9 (.string s) none (some (.int .i64 (n : Int))) none).run Tryz.prog W = .ok (.string (str (l.take n))) W := fun W => by
      rw [run_slice_string_h (ht := Tryz.underlying9) (h0 := by omega) (h2 := by rw [hsz, hnn]; omega), Int.toNat_natCast, HS.out, extract_take l n (by rw [hnn]; exact hsc)]
    have hsl2 : ∀ W, (Instr.slice 9 (.string s) (some (.int .i64 (n : Int))) none none).run Tryz.prog W = .ok (.string (str (l.drop n))) W := fun W => by
      rw [run_slice_string_l (ht := Tryz.underlying9) (h0 := by omega) (h1 := by rw [hsz, hnn]; omega), Int.toNat_natCast, HS.out, extract_drop l n]
    rw [← hnn]
    obtain ⟨d, hd⟩ : ∃ d, d = l.take n := ⟨_, rfl⟩
    rw [← hd] at hsl
    have HD := Aside0.mk hd
    have HNn := Aside0.mk hnn
    have HAt := Aside0.mk (fun w h => atoi_calls d (by rw [hd, List.length_take]; omega) w h)
    have HEc := Aside0.mk (HE.out.below (hW ▸ below_alloc (Below.refl _ _) _))
    have HBc := Aside0.mk (show Below w.heap.size w wc from hW ▸ below_alloc (Below.refl _ _) _)
    have HBR := Aside0.mk (show wc.heap[w.heap.size]? = some (.cells #[.int .i64 0, .int .i64 0, .string ⟨#[]⟩, .slice none 0 0, .slice none 0 0] 26 (0, 0)) from hW ▸ blk_new w _)
    have HLt := Aside0.mk hlt
    have HSc := Aside0.mk hsc
    clear hW hd hnn hlt hsc hn c0 c1 hsz
    rw [← hgr] at HBR ⊢
    have HGr := Aside0.mk hgr
    clear hgr
    by_cases hex : ∃ v, Lib.atoiAll d = .ok v
    · obtain ⟨v, ha⟩ := hex
      have HOk := Aside0.mk ha
      have HAk := Aside0.mk (fun w h => (HAt.out w h).mono (fun e w' h => (atoi_ok ha h)))
      obtain ⟨hv0, hv1⟩ := Lib.atoiAll_bounds ha
      have HIt := Aside0.mk (fun w (hT : Tabs w) => Tryz.strconv_Itoa v hv0 hv1 w hT.pow)
      clear ha
      obtain ⟨sd, hsd⟩ : ∃ q, q = str d := ⟨_, rfl⟩
      obtain ⟨sl, hsl'⟩ : ∃ q, q = str (l.drop n) := ⟨_, rfl⟩
      obtain ⟨si, hsi⟩ : ∃ q, q = (⟨(Lib.itoa v).toArray⟩ : ByteArray) := ⟨_, rfl⟩
      have HSd := Aside0.mk hsd
      have HSl := Aside0.mk hsl'
      have HSi := Aside0.mk hsi
      rw [← hsd] at hsl HAk
      rw [← hsl'] at hsl2
      rw [← hsi] at HIt
      clear hsd hsl' hsi hv0 hv1 HAt
      go_upto_region 5 with (fail)
      go_upto_region 6 with (first
          | (go_at_call 64; refine (HAk.out _ HEc.out).mono ?_; rintro e w5 ⟨rfl, hb⟩; have S5 := Aside0.mk hb; clear hb))
      by_cases hi : Lib.itoa v = d
      · have hq : (si.toList == sd.toList) = true := by rw [HSi.out, HSd.out, ← hi]; exact beq_iff_eq.2 rfl
        have HI := Aside0.mk hi
        clear hi
        go_upto_region 13 with (first
          | (go_at_call 27; refine (HIt.out _ (HEc.out.tabs.below S5.out)).mono ?_; rintro e w6 ⟨rfl, kk, os, hw6⟩; have S6 := Aside0.mk (show Below wc.heap.size wc w6 from hw6 ▸ S5.out.trans (Lib.below_grow _ _ S5.out.size kk os)); have HP6 := Aside0.mk (show PS w6 g l b from (S6.out.block g HPx.out.lt).trans HPx.out); have p0 := HP6.out.cells.1; rw [← HS.out] at p0; have p1 := HP6.out.cells.2.2 0; have HBR6 := Aside0.mk (blk_below HBR.out S6.out); clear hw6))
        have HNg := Aside0.mk (show gr ≠ g by have := HLt.out; have := HGr.out; omega)
        go_upto_region 14 with (fail)
        obtain ⟨w7, hw7⟩ : ∃ q, q = w6.setCell ⟨g, 0, none⟩ (.string sl) := ⟨_, rfl⟩
        have HP7 := Aside0.mk (show PS w7 g (l.drop n) b by rw [hw7, HSl.out]; exact HP6.out.left _)
        have HB7 := Aside0.mk (show w7.heap[gr]? = some (.cells #[.int .i64 0, .int .i64 0, .string ⟨#[]⟩, .slice none 0 0, .slice none 0 0] 26 (0, 0)) by rw [hw7]; exact blk_far HBR6.out HNg.out _)
        have HG7 := Aside0.mk (show w.grownBy w7 (some g) by rw [hw7]; exact grown_trans (HBc.out.trans (S6.out.mono HBc.out.size)) (grown_set _ _ _ _))
        rw [← hw7]
        clear hw7 p0 p1
        have r0 := blk_cell HB7.out 0
        have r1 := blk_cell HB7.out 1
        have r2 := blk_cell HB7.out 2
        have r3 := blk_cell HB7.out 3
        have r4 := blk_cell HB7.out 4
        have t0 := blk_frozen HB7.out 0
        have t1 := blk_frozen HB7.out 1
        have t2 := blk_frozen HB7.out 2
        have t3 := blk_frozen HB7.out 3
        have t4 := blk_frozen HB7.out 4
        dsimp at r0 r1 r2 r3 r4
        go_wp2
        have hblk := set5_blk HB7.out (.int .i64 4) (.int .i64 v) (.string ⟨#[]⟩) (.slice none 0 0) (.slice none 0 0)
        refine bodyPost_ret (results_cell_row rfl _ _ gr 26 _ (0, 0) _ rfl hblk Tryz.underlying26 rfl (by kernel_rfl)) rfl ?_
        have hn : numP l = some (v, l.drop n) := by
          unfold numP
          rw [← HNn.out, ← HD.out, HOk.out]
          dsimp only
          rw [if_pos HI.out]
        refine ⟨set5_then HG7.out (Nat.le_of_eq HGr.out.symm) _ _ _ _ _, ?_⟩
        rw [hn]
        exact ⟨rfl, set5_ps HP7.out HNg.out _ _ _ _ _⟩
      · have hq : (si.toList == sd.toList) = false := by rw [HSi.out, HSd.out]; exact toList_ne hi
        have HI := Aside0.mk hi
        clear hi
        go_upto_region 12 with (first
          | (go_at_call 27; refine (HIt.out _ (HEc.out.tabs.below S5.out)).mono ?_; rintro e w6 ⟨rfl, kk, os, hw6⟩; have S6 := Aside0.mk (show Below wc.heap.size wc w6 from hw6 ▸ S5.out.trans (Lib.below_grow _ _ S5.out.size kk os)); have HP6 := Aside0.mk (show PS w6 g l b from (S6.out.block g HPx.out.lt).trans HPx.out); have HBR6 := Aside0.mk (blk_below HBR.out S6.out); clear hw6))
        have HNg := Aside0.mk (show gr ≠ g by have := HLt.out; have := HGr.out; omega)
        have HF := Aside0.mk (fails_calls w6 g l b HP6.out)
        go_wp2_with (first
          | (go_at_call 58; refine HF.out.mono ?_; rintro e w7 ⟨rfl, hp, hb⟩; have HP7 := Aside0.mk hp; have HB7 := Aside0.mk (blk_grown HBR6.out hb (fun e => HNg.out (by injection e))); have HG7 := Aside0.mk (grown_trans (HBc.out.trans (S6.out.mono HBc.out.size)) hb); clear hp hb; have r0 := blk_cell HB7.out 0; have r1 := blk_cell HB7.out 1; have r2 := blk_cell HB7.out 2; have r3 := blk_cell HB7.out 3; have r4 := blk_cell HB7.out 4; have t0 := blk_frozen HB7.out 0; have t1 := blk_frozen HB7.out 1; have t2 := blk_frozen HB7.out 2; have t3 := blk_frozen HB7.out 3; have t4 := blk_frozen HB7.out 4; dsimp at r0 r1 r2 r3 r4))
        have hblk := set5_blk HB7.out (.int .i64 0) (.int .i64 0) (.string ⟨#[]⟩) (.slice none 0 0) (.slice none 0 0)
        refine bodyPost_ret (results_cell_row rfl _ _ gr 26 _ (0, 0) _ rfl hblk Tryz.underlying26 rfl (by kernel_rfl)) rfl ?_
        have hn : numP l = none := by
          unfold numP
          rw [← HNn.out, ← HD.out, HOk.out]
          dsimp only
          rw [if_neg HI.out]
        refine ⟨set5_then HG7.out (Nat.le_of_eq HGr.out.symm) _ _ _ _ _, ?_⟩
        rw [hn]
        exact ⟨rfl, set5_ps HP7.out HNg.out _ _ _ _ _⟩
    · obtain ⟨dg, hdg⟩ : ∃ q, q = Lib.trimPrefix d [45] := ⟨_, rfl⟩
      obtain ⟨sg, hsg⟩ : ∃ q, q = str dg := ⟨_, rfl⟩
      have HTr := Aside0.mk (fun w => Tryz.strings_TrimPrefix (str d) ⟨#[45]⟩ w)
      have he : ∀ w, Calls Tryz.prog 65 #[.string (str d), .string ⟨#[45]⟩] w fun e w' => e = .returned (.string sg) ∧ w' = w := fun w => by
        have h := HTr.out w
        rw [str_list, show (⟨#[45]⟩ : ByteArray).data.toList = [45] from rfl, ← hdg] at h
        rw [hsg]; exact h
      obtain ⟨sd, hsd⟩ : ∃ q, q = str d := ⟨_, rfl⟩
      obtain ⟨sl, hsl'⟩ : ∃ q, q = str (l.drop n) := ⟨_, rfl⟩
      have HSl := Aside0.mk hsl'
      have HDg := Aside0.mk hdg
      rw [← hsd] at hsl HAt he
      rw [← hsl'] at hsl2
      have HTP := Aside0.mk he
      have HEx := Aside0.mk hex
      have hnv : numP l = if dg = [] ∨ dg.getD 0 0 = 48 then none else some (9007199254740992, l.drop n) := by
        unfold numP
        rw [← HNn.out, ← HD.out]
        cases hA : Lib.atoiAll d with
        | ok v => exact absurd ⟨v, hA⟩ hex
        | range => dsimp only; rw [hdg]
        | _ => dsimp only; rw [hdg]
      have HNv := Aside0.mk hnv
      have HNg := Aside0.mk (show gr ≠ g by have := HLt.out; have := HGr.out; omega)
      clear hsd hsl' hdg HTr he hex hnv
      go_upto_region 5 with (fail)
      go_upto_region 6 with (first
          | (go_at_call 64; refine (HAt.out _ HEc.out).mono ?_; rintro e w5 ⟨hb, hh⟩; obtain ⟨k5, te, pe, rfl⟩ : ∃ k te pe, e = .returned (.tuple #[.int .i64 k, .iface te pe]) := (hh.resolve_left (fun ⟨v, hv, _⟩ => HEx.out ⟨v, hv⟩)).2; have S5 := Aside0.mk hb; clear hb hh))
      have HP5 := Aside0.mk (show PS w5 g l b from (S5.out.block g HPx.out.lt).trans HPx.out)
      have HB5 := Aside0.mk (blk_below HBR.out S5.out)
      have HF := Aside0.mk (fails_calls w5 g l b HP5.out)
      by_cases hz : dg = []
      · have hs0 : sg.toList = [] := by rw [hsg, hz, Lib.toList_data, str_list]
        have z0 : sg.toList.isEmpty = true := by rw [hs0]; rfl
        have z1 : (sg.toList == []) = true := by rw [hs0]; rfl
        have z2 : (sg.toList == (⟨#[]⟩ : ByteArray).toList) = true := by rw [hs0, Lib.toList_data]; rfl
        have hn : numP l = none := by rw [HNv.out, if_pos (.inl hz)]
        have HN := Aside0.mk hn
        clear hz hn hsg hs0
        go_upto_region 9 with (first
          | (go_at_call 65; refine (HTP.out _).mono ?_; rintro e w6 ⟨rfl, rfl⟩))
        go_wp2_with (first
          | (go_at_call 58; refine HF.out.mono ?_; rintro e w7 ⟨rfl, hp, hb⟩; have HP7 := Aside0.mk hp; have HB7 := Aside0.mk (blk_grown HB5.out hb (fun e => HNg.out (by injection e))); have HG7 := Aside0.mk (grown_trans (HBc.out.trans (S5.out.mono HBc.out.size)) hb); clear hp hb; have r0 := blk_cell HB7.out 0; have r1 := blk_cell HB7.out 1; have r2 := blk_cell HB7.out 2; have r3 := blk_cell HB7.out 3; have r4 := blk_cell HB7.out 4; have t0 := blk_frozen HB7.out 0; have t1 := blk_frozen HB7.out 1; have t2 := blk_frozen HB7.out 2; have t3 := blk_frozen HB7.out 3; have t4 := blk_frozen HB7.out 4; dsimp at r0 r1 r2 r3 r4))
        have hblk := set5_blk HB7.out (.int .i64 0) (.int .i64 0) (.string ⟨#[]⟩) (.slice none 0 0) (.slice none 0 0)
        refine bodyPost_ret (results_cell_row rfl _ _ gr 26 _ (0, 0) _ rfl hblk Tryz.underlying26 rfl (by kernel_rfl)) rfl ?_
        refine ⟨set5_then HG7.out (Nat.le_of_eq HGr.out.symm) _ _ _ _ _, ?_⟩
        rw [HN.out]
        exact ⟨rfl, set5_ps HP7.out HNg.out _ _ _ _ _⟩
      · obtain ⟨c, r, hcr⟩ : ∃ c r, dg = c :: r := by
          cases dg with
          | nil => exact absurd rfl hz
          | cons c r => exact ⟨c, r, rfl⟩
        have hsl0 : sg.toList = c :: r := by rw [hsg, Lib.toList_data, str_list, hcr]
        have z0 : sg.toList.isEmpty = false := by rw [hsl0]; rfl
        have z1 : (sg.toList == []) = false := by rw [hsl0]; rfl
        have z2 : (sg.toList == (⟨#[]⟩ : ByteArray).toList) = false := by rw [hsl0, Lib.toList_data]; rfl
        have hsz0 : sg.size = r.length + 1 := by rw [hsg, str_size, hcr]; rfl
        have hat := at_eq sg dg (by rw [hsg, str_list]) 0 (by rw [hcr]; simp)
        obtain ⟨x, hx⟩ : ∃ x : Int, x = (c.toNat : Int) := ⟨_, rfl⟩
        have hb0 : ∀ h : 0 < sg.size, (((sg[0]'h).toNat : Nat) : Int) = x := fun h => by rw [hat h, hx]; simp [hcr]
        have hgt : dg.getD 0 0 = c := by rw [hcr]; rfl
        by_cases h48 : x = 48
        · have q1 : (x == 48) = true := beq_iff_eq.2 h48
          have hn : numP l = none := by
            have hc : dg.getD 0 0 = 48 := by rw [hgt]; exact UInt8.toNat_inj.1 (by show c.toNat = 48; omega)
            rw [HNv.out, if_pos (.inr hc)]
          have HN := Aside0.mk hn
          clear hz hn hsg hcr hsl0 hat hx hgt h48
          go_upto_region 9 with (first
            | (go_at_call 65; refine (HTP.out _).mono ?_; rintro e w6 ⟨rfl, rfl⟩))
          go_wp2_with (first
            | (go_at_call 58; refine HF.out.mono ?_; rintro e w7 ⟨rfl, hp, hb⟩; have HP7 := Aside0.mk hp; have HB7 := Aside0.mk (blk_grown HB5.out hb (fun e => HNg.out (by injection e))); have HG7 := Aside0.mk (grown_trans (HBc.out.trans (S5.out.mono HBc.out.size)) hb); clear hp hb; have r0 := blk_cell HB7.out 0; have r1 := blk_cell HB7.out 1; have r2 := blk_cell HB7.out 2; have r3 := blk_cell HB7.out 3; have r4 := blk_cell HB7.out 4; have t0 := blk_frozen HB7.out 0; have t1 := blk_frozen HB7.out 1; have t2 := blk_frozen HB7.out 2; have t3 := blk_frozen HB7.out 3; have t4 := blk_frozen HB7.out 4; dsimp at r0 r1 r2 r3 r4))
          have hblk := set5_blk HB7.out (.int .i64 0) (.int .i64 0) (.string ⟨#[]⟩) (.slice none 0 0) (.slice none 0 0)
          refine bodyPost_ret (results_cell_row rfl _ _ gr 26 _ (0, 0) _ rfl hblk Tryz.underlying26 rfl (by kernel_rfl)) rfl ?_
          refine ⟨set5_then HG7.out (Nat.le_of_eq HGr.out.symm) _ _ _ _ _, ?_⟩
          rw [HN.out]
          exact ⟨rfl, set5_ps HP7.out HNg.out _ _ _ _ _⟩
        · have q1 : (x == 48) = false := beq_eq_false_iff_ne.2 h48
          have hn : numP l = some (9007199254740992, l.drop n) := by
            rw [HNv.out, if_neg]
            rintro (h | h)
            · exact hz h
            · rw [hgt] at h; subst h; exact h48 hx
          have HN := Aside0.mk hn
          have p0 := HP5.out.cells.1
          rw [← HS.out] at p0
          have p1 := HP5.out.cells.2.2 0
          clear hz hn hsg hcr hsl0 hat hx hgt h48
          go_upto_region 13 with (first
            | (go_at_call 65; refine (HTP.out _).mono ?_; rintro e w6 ⟨rfl, rfl⟩))
          go_upto_region 14 with (fail)
          obtain ⟨w7, hw7⟩ : ∃ q, q = w6.setCell ⟨g, 0, none⟩ (.string sl) := ⟨_, rfl⟩
          have HP7 := Aside0.mk (show PS w7 g (l.drop n) b by rw [hw7, HSl.out]; exact HP5.out.left _)
          have HB7 := Aside0.mk (show w7.heap[gr]? = some (.cells #[.int .i64 0, .int .i64 0, .string ⟨#[]⟩, .slice none 0 0, .slice none 0 0] 26 (0, 0)) by rw [hw7]; exact blk_far HB5.out HNg.out _)
          have HG7 := Aside0.mk (show w.grownBy w7 (some g) by rw [hw7]; exact grown_trans (HBc.out.trans (S5.out.mono HBc.out.size)) (grown_set _ _ _ _))
          rw [← hw7]
          clear hw7 p0 p1
          have r0 := blk_cell HB7.out 0; have r1 := blk_cell HB7.out 1; have r2 := blk_cell HB7.out 2; have r3 := blk_cell HB7.out 3; have r4 := blk_cell HB7.out 4; have t0 := blk_frozen HB7.out 0; have t1 := blk_frozen HB7.out 1; have t2 := blk_frozen HB7.out 2; have t3 := blk_frozen HB7.out 3; have t4 := blk_frozen HB7.out 4; dsimp at r0 r1 r2 r3 r4
          go_wp2
          have hblk := set5_blk HB7.out (.int .i64 4) (.int .i64 9007199254740992) (.string ⟨#[]⟩) (.slice none 0 0) (.slice none 0 0)
          refine bodyPost_ret (results_cell_row rfl _ _ gr 26 _ (0, 0) _ rfl hblk Tryz.underlying26 rfl (by kernel_rfl)) rfl ?_
          refine ⟨set5_then HG7.out (Nat.le_of_eq HGr.out.symm) _ _ _ _ _, ?_⟩
          rw [HN.out]
          exact ⟨rfl, set5_ps HP7.out HNg.out _ _ _ _ _⟩

end Go.Proofs.YtmhfkbgdkgfafaaGreatDoor.Js
end

section
/- strconv.ParseUint of four bytes at base 16, of 16 bits. -/
namespace Go.Proofs.YtmhfkbgdkgfafaaGreatDoor.Js
open Go.RowKit Go.Proofs.YtmhfkbgdkgfafaaGreatDoor.QJson Go.Proofs.YtmhfkbgdkgfafaaGreatDoorW.PrintWords Go.Proofs.YtmhfkbgdkgfafaaGreatDoorW.PrintLast Go.Proofs.YtmhfkbgdkgfafaaGreatDoorW.PrintMore
set_option linter.unusedVariables false
set_option linter.unusedSimpArgs false

def lw (c : UInt8) : Int := bits .or .u8 (c.toNat : Int) 32
theorem lw_all : ∀ c : Fin 256, (48 ≤ c.val ∧ c.val ≤ 57) ∨ (∃ d, hexV c.val.toUInt8 = some d ∧ bits .or .u8 (c.val : Int) 32 = d + 87 ∧ 10 ≤ d ∧ d < 16) ∨
    (hexV c.val.toUInt8 = none ∧ (bits .or .u8 (c.val : Int) 32 < 97 ∨ 122 < bits .or .u8 (c.val : Int) 32 ∨ (103 ≤ bits .or .u8 (c.val : Int) 32 ∧ bits .or .u8 (c.val : Int) 32 ≤ 122)) ∧ 0 ≤ bits .or .u8 (c.val : Int) 32 ∧ bits .or .u8 (c.val : Int) 32 < 256) := by
  have h : ∀ c : Fin 256, (decide (48 ≤ c.val ∧ c.val ≤ 57) || (match hexV c.val.toUInt8 with | some d => decide (bits .or .u8 (c.val : Int) 32 = d + 87 ∧ 10 ≤ d ∧ d < 16) | none => decide ((bits .or .u8 (c.val : Int) 32 < 97 ∨ 122 < bits .or .u8 (c.val : Int) 32 ∨ (103 ≤ bits .or .u8 (c.val : Int) 32 ∧ bits .or .u8 (c.val : Int) 32 ≤ 122)) ∧ 0 ≤ bits .or .u8 (c.val : Int) 32 ∧ bits .or .u8 (c.val : Int) 32 < 256))) = true := by decide +kernel
  intro c
  have h1 := h c
  rw [Bool.or_eq_true] at h1
  rcases h1 with h1 | h1
  · exact .inl (of_decide_eq_true h1)
  · cases hx : hexV c.val.toUInt8 with
    | none => rw [hx] at h1; exact .inr (.inr ⟨rfl, of_decide_eq_true h1⟩)
    | some d => rw [hx] at h1; exact .inr (.inl ⟨d, rfl, of_decide_eq_true h1⟩)
theorem lw_at (c : UInt8) : (48 ≤ c.toNat ∧ c.toNat ≤ 57) ∨ (∃ d, hexV c = some d ∧ lw c = d + 87 ∧ 10 ≤ d ∧ d < 16) ∨ (hexV c = none ∧ (lw c < 97 ∨ 122 < lw c ∨ (103 ≤ lw c ∧ lw c ≤ 122)) ∧ 0 ≤ lw c ∧ lw c < 256) := by
  have h := lw_all ⟨c.toNat, c.toNat_lt⟩
  simp only [show c.toNat.toUInt8 = c by simp] at h
  exact h
theorem hexV_digit {c : UInt8} (h : 48 ≤ c.toNat ∧ c.toNat ≤ 57) : hexV c = some (c.toNat - 48) := by unfold hexV; rw [if_pos h]
def puOut (t : List UInt8) : Value :=
  match hexFrom 0 t with
  | some n => .tuple #[.int .u64 n, .nilIface]
  | none => .tuple #[.int .u64 0, .iface 156 (.int .i64 2)]

set_option maxHeartbeats 8000000 in
set_option maxRecDepth 100000 in
theorem pu_walk (l : List UInt8) (h4 : l.length = 4) (w : World) :
    Calls Tryz.prog 124 #[.string (str l), .int .i64 16, .int .i64 16] w fun e w' => e = .returned (puOut l) ∧ Below w.heap.size w w' := by
  obtain ⟨t, ht⟩ : ∃ t, t = str l := ⟨_, rfl⟩
  have hts : t.size = 4 := by rw [ht, str_size, h4]
  have hemp : t.toList.isEmpty = false := by
    rw [ht, Lib.toList_data, str_list]
    cases l with
    | nil => simp at h4
    | cons _ _ => rfl
  have hcv := Lib.run_convert_string_bytes (P := Tryz.prog) w 9 82 5 t (u := .string) Tryz.underlying9 Tryz.underlying82 Tryz.underlying5
  have hB : ∀ j, j < 4 → (Lib.bytesWorld w 5 t).cell? ⟨w.heap.size, j, none⟩ = some (.int .u8 (l.getD j 0).toNat) := fun j hj => by
    have := Lib.bytesWorld_cell w 5 t j (by omega)
    rw [ht, str_list] at this
    rw [ht]; exact this
  have hbel : Below w.heap.size w (Lib.bytesWorld w 5 t) := bytes_below (Below.refl _ _) (Nat.le_refl _) _ _
  rw [hts] at hcv
  obtain ⟨W1, hW1⟩ : ∃ W1, W1 = Lib.bytesWorld w 5 t := ⟨_, rfl⟩
  rw [← hW1] at hcv hB hbel
  have HB := Aside0.mk hB
  have HBel := Aside0.mk hbel
  have HL := Aside0.mk h4
  obtain ⟨r, hr⟩ : ∃ r, r = puOut l := ⟨_, rfl⟩
  have HR := Aside0.mk hr
  have hmv : IntKind.u64.wrap (IntKind.u64.wrap 65536 - 1) = 65535 := by
    rw [IntKind.wrap_u64, IntKind.wrap_u64]
    decide
  rw [← ht, ← hr]
  have HSz := Aside0.mk hts
  clear hW1 hB hbel ht hr
  go_enter Tryz.func124, Tryz.ntmps124
  go_wp2
  go_loopg [12, 13, 101] 4 (fun kq vu vn vi wr => ∃ (k : Nat) (acc : Nat) (a : Int), vu = .bool false ∧ vn = .int .u64 a ∧ vi = .int .i64 k ∧ wr = W1 ∧ Aside0 (k + kq = 4 ∧ a = (acc : Int) ∧ acc < 16 ^ k ∧ hexFrom 0 l = hexFrom acc (l.drop k)))
  case atStart => exact ⟨0, 0, 0, rfl, rfl, rfl, rfl, ⟨by omega, rfl, by decide, rfl⟩⟩
  case round =>
    obtain ⟨k, acc, a, rfl, rfl, rfl, rfl, HH⟩ := hrel
    by_cases hk : k < 4
    · obtain ⟨hkq, ha, hacc, hdec⟩ := HH.out
      have hlt : acc < 4096 := Nat.lt_of_lt_of_le hacc (by
        have : k = 0 ∨ k = 1 ∨ k = 2 ∨ k = 3 := by omega
        rcases this with rfl | rfl | rfl | rfl <;> decide)
      have hc := HB.out k hk
      have hdrop : l.drop k = l[k]'(by have := HL.out; omega) :: l.drop (k + 1) := List.drop_eq_getElem_cons (by have := HL.out; omega)
      have hget : l.getD k 0 = l[k]'(by have := HL.out; omega) := by simp [List.getD, List.getElem?_eq_getElem (show k < l.length by have := HL.out; omega)]
      rw [hdrop] at hdec
      rw [hget] at hc
      generalize l[k]'(by have := HL.out; omega) = c at hc hdec
      rw [hexFrom] at hdec
      have hk1 : (k : Int) < 4 := by omega
      have hwi : IntKind.i64.wrap ((k : Int) + 1) = (k : Int) + 1 := by rw [IntKind.wrap_i64]; omega
      have ia0 : 0 ≤ a := by omega
      have ia1 : a < 4096 := by omega
      obtain ⟨x, hx⟩ : ∃ x : Int, x = (c.toNat : Int) := ⟨_, rfl⟩
      have hx256 : x < 256 := by have := c.toNat_lt; omega
      have hx0 : 0 ≤ x := by omega
      have hlw : bits .or .u8 x 32 = lw c := by rw [hx]; rfl
      rw [← hx] at hc
      have icut : ¬ 1152921504606846976 ≤ a := by omega
      have icut2 : a < 1152921504606846976 := by omega
      have hm16 : IntKind.u64.wrap (a * 16) = a * 16 := by rw [IntKind.wrap_u64]; omega
      rcases lw_at c with hd | ⟨d, hd, hy, hd10, hd16⟩ | ⟨hd, hy, hy0, hy1⟩
      · rw [hexV_digit hd] at hdec
        dsimp only at hdec
        obtain ⟨i48, i57⟩ : 48 ≤ x ∧ x ≤ 57 := by omega
        obtain ⟨d, hdd⟩ : ∃ d : Int, d = x - 48 := ⟨_, rfl⟩
        have e1 : IntKind.u8.wrap (x - 48) = d := by rw [IntKind.wrap_u8]; omega
        have e2 : ¬ 16 ≤ d := by omega
        have e3 : IntKind.u64.wrap (a * 16 + d) = a * 16 + d := by rw [IntKind.wrap_u64]; omega
        have e4 : ¬ a * 16 + d < a * 16 := by omega
        have e5 : ¬ 65535 < a * 16 + d := by omega
        have e6 : IntKind.u64.wrap d = d := by rw [IntKind.wrap_u64]; omega
        have q95 : (x == 95) = false := beq_eq_false_iff_ne.2 (by omega)
        have HN : Aside0 (k + 1 + (gk - 1) = 4 ∧ a * 16 + d = ((16 * acc + (c.toNat - 48) : Nat) : Int) ∧ 16 * acc + (c.toNat - 48) < 16 ^ (k + 1) ∧ hexFrom 0 l = hexFrom (16 * acc + (c.toNat - 48)) (l.drop (k + 1))) := ⟨by omega, by omega, by rw [Nat.pow_succ]; omega, hdec⟩
        have hgk : gk - 1 < gk := by omega
        clear hdec hacc ha hd hlt hdrop hget hlw hx hdd hkq
        go_wp2
        go_roundg (gk - 1)
        case measure => exact hgk
        case rel => exact ⟨k + 1, _, a * 16 + d, rfl, rfl, by go_num, rfl, HN⟩
      · rw [hd] at hdec
        dsimp only at hdec
        obtain ⟨y, hyy⟩ : ∃ y, y = lw c := ⟨_, rfl⟩
        rw [← hyy] at hlw hy
        have hnd : ¬ (48 ≤ x ∧ x ≤ 57) := by
          intro h
          rw [hexV_digit (by omega)] at hd
          cases hd; omega
        obtain ⟨z, hz⟩ : ∃ z : Int, z = (d : Int) := ⟨_, rfl⟩
        have i1 : 97 ≤ y := by omega
        have i2 : y ≤ 122 := by omega
        have e0 : IntKind.u8.wrap (y - 97) = y - 97 := by rw [IntKind.wrap_u8]; omega
        have e1 : IntKind.u8.wrap (y - 97 + 10) = z := by rw [IntKind.wrap_u8]; omega
        have e2 : ¬ 16 ≤ z := by omega
        have e3 : IntKind.u64.wrap (a * 16 + z) = a * 16 + z := by rw [IntKind.wrap_u64]; omega
        have e4 : ¬ a * 16 + z < a * 16 := by omega
        have e5 : ¬ 65535 < a * 16 + z := by omega
        have e6 : IntKind.u64.wrap z = z := by rw [IntKind.wrap_u64]; omega
        have q95 : (x == 95) = false := beq_eq_false_iff_ne.2 (by
          intro h
          have : c = 95 := UInt8.toNat_inj.1 (by show c.toNat = 95; omega)
          rw [this, show hexV 95 = none by decide] at hd; cases hd)
        have HN : Aside0 (k + 1 + (gk - 1) = 4 ∧ a * 16 + z = ((16 * acc + d : Nat) : Int) ∧ 16 * acc + d < 16 ^ (k + 1) ∧ hexFrom 0 l = hexFrom (16 * acc + d) (l.drop (k + 1))) := ⟨by omega, by omega, by rw [Nat.pow_succ]; omega, hdec⟩
        have hgk : gk - 1 < gk := by omega
        clear hdec hacc ha hd hlt hdrop hget hx hkq hyy hy hd10 hd16 hz
        by_cases h48 : 48 ≤ x
        · have h57 : ¬ x ≤ 57 := fun h => hnd ⟨h48, h⟩
          clear hnd
          go_wp2_with (go_at_call 138; refine (Tryz.internal_strconv_lower _ _).mono ?_; rintro e w' ⟨rfl, rfl⟩)
          go_roundg (gk - 1)
          case measure => exact hgk
          case rel => exact ⟨k + 1, _, a * 16 + z, rfl, rfl, by go_num, rfl, HN⟩
        · clear hnd
          go_wp2_with (go_at_call 138; refine (Tryz.internal_strconv_lower _ _).mono ?_; rintro e w' ⟨rfl, rfl⟩)
          go_roundg (gk - 1)
          case measure => exact hgk
          case rel => exact ⟨k + 1, _, a * 16 + z, rfl, rfl, by go_num, rfl, HN⟩
      · rw [hd] at hdec
        dsimp only at hdec
        have hRes : r = .tuple #[.int .u64 0, .iface 156 (.int .i64 2)] := by rw [HR.out, puOut, hdec]
        have HRes := Aside0.mk hRes
        obtain ⟨y, hyy⟩ : ∃ y, y = lw c := ⟨_, rfl⟩
        rw [← hyy] at hlw hy hy0 hy1
        have hnd : ¬ (48 ≤ x ∧ x ≤ 57) := by
          intro h
          rw [hexV_digit (by omega)] at hd
          cases hd
        clear hdec hacc ha hd hlt hdrop hget hx hkq hyy hRes
        by_cases h95 : x = 95
        · have q95 : (x == 95) = true := beq_iff_eq.2 h95
          have h48 : 48 ≤ x := by omega
          have h57 : ¬ x ≤ 57 := by omega
          clear hnd h95
          rcases hy with h | h | ⟨h, h'⟩
          · have h1 : ¬ 97 ≤ y := by omega
            go_wp2_with (go_at_call 138; refine (Tryz.internal_strconv_lower _ _).mono ?_; rintro e w' ⟨rfl, rfl⟩)
            go_ret2
            exact ⟨by rw [HRes.out] <;> rfl, HBel.out⟩
          · have h1 : 97 ≤ y := by omega
            have h2 : ¬ y ≤ 122 := by omega
            go_wp2_with (go_at_call 138; refine (Tryz.internal_strconv_lower _ _).mono ?_; rintro e w' ⟨rfl, rfl⟩)
            go_ret2
            exact ⟨by rw [HRes.out] <;> rfl, HBel.out⟩
          · have h1 : 97 ≤ y := by omega
            have e0 : IntKind.u8.wrap (y - 97) = y - 97 := by rw [IntKind.wrap_u8]; omega
            have e1 : IntKind.u8.wrap (y - 97 + 10) = y - 97 + 10 := by rw [IntKind.wrap_u8]; omega
            have e2 : 16 ≤ y - 97 + 10 := by omega
            go_wp2_with (go_at_call 138; refine (Tryz.internal_strconv_lower _ _).mono ?_; rintro e w' ⟨rfl, rfl⟩)
            go_ret2
            exact ⟨by rw [HRes.out] <;> rfl, HBel.out⟩
        · have q95 : (x == 95) = false := beq_eq_false_iff_ne.2 h95
          clear h95
          by_cases h48 : 48 ≤ x
          · have h57 : ¬ x ≤ 57 := fun h => hnd ⟨h48, h⟩
            clear hnd
            rcases hy with h | h | ⟨h, h'⟩
            · have h1 : ¬ 97 ≤ y := by omega
              go_wp2_with (go_at_call 138; refine (Tryz.internal_strconv_lower _ _).mono ?_; rintro e w' ⟨rfl, rfl⟩)
              go_ret2
              exact ⟨by rw [HRes.out] <;> rfl, HBel.out⟩
            · have h1 : 97 ≤ y := by omega
              have h2 : ¬ y ≤ 122 := by omega
              go_wp2_with (go_at_call 138; refine (Tryz.internal_strconv_lower _ _).mono ?_; rintro e w' ⟨rfl, rfl⟩)
              go_ret2
              exact ⟨by rw [HRes.out] <;> rfl, HBel.out⟩
            · have h1 : 97 ≤ y := by omega
              have e0 : IntKind.u8.wrap (y - 97) = y - 97 := by rw [IntKind.wrap_u8]; omega
              have e1 : IntKind.u8.wrap (y - 97 + 10) = y - 97 + 10 := by rw [IntKind.wrap_u8]; omega
              have e2 : 16 ≤ y - 97 + 10 := by omega
              go_wp2_with (go_at_call 138; refine (Tryz.internal_strconv_lower _ _).mono ?_; rintro e w' ⟨rfl, rfl⟩)
              go_ret2
              exact ⟨by rw [HRes.out] <;> rfl, HBel.out⟩
          · clear hnd
            rcases hy with h | h | ⟨h, h'⟩
            · have h1 : ¬ 97 ≤ y := by omega
              go_wp2_with (go_at_call 138; refine (Tryz.internal_strconv_lower _ _).mono ?_; rintro e w' ⟨rfl, rfl⟩)
              go_ret2
              exact ⟨by rw [HRes.out] <;> rfl, HBel.out⟩
            · have h1 : 97 ≤ y := by omega
              have h2 : ¬ y ≤ 122 := by omega
              go_wp2_with (go_at_call 138; refine (Tryz.internal_strconv_lower _ _).mono ?_; rintro e w' ⟨rfl, rfl⟩)
              go_ret2
              exact ⟨by rw [HRes.out] <;> rfl, HBel.out⟩
            · have h1 : 97 ≤ y := by omega
              have e0 : IntKind.u8.wrap (y - 97) = y - 97 := by rw [IntKind.wrap_u8]; omega
              have e1 : IntKind.u8.wrap (y - 97 + 10) = y - 97 + 10 := by rw [IntKind.wrap_u8]; omega
              have e2 : 16 ≤ y - 97 + 10 := by omega
              go_wp2_with (go_at_call 138; refine (Tryz.internal_strconv_lower _ _).mono ?_; rintro e w' ⟨rfl, rfl⟩)
              go_ret2
              exact ⟨by rw [HRes.out] <;> rfl, HBel.out⟩
    · obtain ⟨hkq, ha, hacc, hdec⟩ := HH.out
      have hk4 : k = 4 := by omega
      subst hk4
      rw [List.drop_of_length_le (by have := HL.out; omega), hexFrom] at hdec
      have HRes := Aside0.mk (show r = .tuple #[.int .u64 a, .nilIface] by rw [HR.out, puOut, hdec, ha])
      clear hdec hacc hkq ha hk
      go_wp2
      go_ret2
      exact ⟨by rw [HRes.out] <;> rfl, HBel.out⟩

/-- strconv.ParseUint: the error is one of the library's. -/
theorem pup_walk (l : List UInt8) (h4 : l.length = 4) (w : World) (hE : Errs w) :
    Calls Tryz.prog 96 #[.string (str l), .int .i64 16, .int .i64 16] w fun e w' => Below w.heap.size w w' ∧
      ((∃ n : Nat, hexFrom 0 l = some n ∧ e = .returned (.tuple #[.int .u64 n, .nilIface])) ∨ (hexFrom 0 l = none ∧ ∃ te pe, e = .returned (.tuple #[.int .u64 0, .iface te pe]))) := by
  have hP := pu_walk l h4
  have HE := Aside0.mk hE
  obtain ⟨t, ht⟩ : ∃ t, t = str l := ⟨_, rfl⟩
  have hts : t.size = 4 := by rw [ht, str_size, h4]
  rw [← ht] at hP ⊢
  clear ht h4 hE
  cases hh : hexFrom 0 l with
  | some n =>
    have hr : puOut l = .tuple #[.int .u64 n, .nilIface] := by rw [puOut, hh]
    rw [hr] at hP
    have HP := Aside0.mk hP
    clear hP hr hh
    obtain ⟨m, hm⟩ : ∃ m : Int, m = (n : Int) := ⟨_, rfl⟩
    have HM := Aside0.mk hm
    rw [← hm] at HP
    clear hm
    go_enter Tryz.func96, Tryz.ntmps96
    go_wp2_with (first | (go_at_call 124; refine (HP.out _).mono ?_; rintro e w2 ⟨rfl, hb⟩; have HB := Aside0.mk hb; clear hb))
    go_ret2
    exact ⟨HB.out, .inl ⟨n, by trivial, by first | rfl | (rw [HM.out]; rfl)⟩⟩
  | none =>
    have hr : puOut l = .tuple #[.int .u64 0, .iface 156 (.int .i64 2)] := by rw [puOut, hh]
    rw [hr] at hP
    have HP := Aside0.mk hP
    obtain ⟨ev, h5, h5'⟩ := HE.out.syn
    have HT := Aside0.mk (fun (w2 : World) (hb : Below w.heap.size w w2) => Tryz.strconv_toError_syntax ⟨#[80, 97, 114, 115, 101, 85, 105, 110, 116]⟩ t 16 16 ev w2 (by omega) (pw_cell_below hb h5) h5')
    clear hP hr hh h5 h5'
    go_enter Tryz.func96, Tryz.ntmps96
    go_wp2_with (first
      | (go_at_call 124; refine (HP.out _).mono ?_; rintro e w2 ⟨rfl, hb⟩; have HB := Aside0.mk hb; clear hb)
      | (go_at_call 104; refine (HT.out _ HB.out).mono ?_; rintro e w3 ⟨N, rfl, -, -, hb⟩; have HB3 := Aside0.mk (HB.out.trans (hb.mono HB.out.size)); clear hb))
    go_ret2
    exact ⟨HB3.out, .inr ⟨by trivial, _, _, rfl⟩⟩

end Go.Proofs.YtmhfkbgdkgfafaaGreatDoor.Js
end

section
/- json's parser: escaped. -/
namespace Go.Proofs.YtmhfkbgdkgfafaaGreatDoor.Js
open Go.RowKit Go.Proofs.YtmhfkbgdkgfafaaGreatDoor.QJson Go.Proofs.YtmhfkbgdkgfafaaGreatDoorW.PrintWords Go.Proofs.YtmhfkbgdkgfafaaGreatDoorW.PrintLast Go.Proofs.YtmhfkbgdkgfafaaGreatDoorW.PrintMore
set_option linter.unusedVariables false
set_option linter.unusedSimpArgs false

/-- The package's words. -/
def Words (w : World) : Prop := w.cell? ⟨0, 0, none⟩ = some (.string ⟨#[]⟩) ∧ w.cell? ⟨0, 1, none⟩ = some (.string ⟨#[110, 117, 108, 108]⟩) ∧ w.cell? ⟨0, 2, none⟩ = some (.string ⟨#[102, 97, 108, 115, 101]⟩) ∧ w.cell? ⟨0, 3, none⟩ = some (.string ⟨#[116, 114, 117, 101]⟩)
/-- What stands below B: the package-level variables. -/
structure Glob (B : Nat) (w : World) : Prop where
  le : B ≤ w.heap.size
  errs : ∀ w', Below B w w' → Errs w'
  words : ∀ w', Below B w w' → Words w'
theorem Glob.now {B : Nat} {w : World} (h : Glob B w) : Errs w := h.errs w (Below.refl _ _)
theorem below_of_grown {B g : Nat} {w w' : World} (h : w.grownBy w' (some g)) (hB : B ≤ g) (hs : B ≤ w.heap.size) : Below B w w' :=
  ⟨h.os, h.tape, h.output, h.size, fun k hk => h.block k (Nat.lt_of_lt_of_le hk hs) (fun e => by injection e with e; omega)⟩
theorem Glob.step {B g : Nat} {w w' : World} (h : Glob B w) (hg : w.grownBy w' (some g)) (hB : B ≤ g) : Glob B w' :=
  ⟨Nat.le_trans h.le hg.size, fun w2 h2 => h.errs w2 ((below_of_grown hg hB h.le).trans h2), fun w2 h2 => h.words w2 ((below_of_grown hg hB h.le).trans h2)⟩
theorem Glob.below {B : Nat} {w w' : World} (h : Glob B w) (hb : Below w.heap.size w w') : Glob B w' :=
  ⟨Nat.le_trans h.le hb.size, fun w2 h2 => h.errs w2 ((hb.mono h.le).trans h2), fun w2 h2 => h.words w2 ((hb.mono h.le).trans h2)⟩
/-- What is asked of the library's search for one of several bytes. -/
structure AnyOk : Prop where
  quot : ∀ (l : List UInt8) (w : World), l.length ≤ 1000000 → Calls Tryz.prog 55 #[.string (str l), .string ⟨#[34, 92]⟩] w fun e w' => e = .returned (.int .i64 (Lib.indexAny l [34, 92])) ∧ Below w.heap.size w w'
  sign : ∀ (l : List UInt8) (w : World), l.length = 4 → Calls Tryz.prog 95 #[.string (str l), .string ⟨#[43, 45, 95]⟩] w fun e w' => e = .returned (.bool (decide (0 ≤ Lib.indexAny l [43, 45, 95]))) ∧ Below w.heap.size w w'
def kB (x : Int) : Int := if x = 98 then 0 else if x = 116 then 1 else if x = 110 then 2 else if x = 102 then 3 else if x = 114 then 4 else -1
theorem kB_eq : ∀ c : Fin 256, Lib.indexByte (⟨#[98, 116, 110, 102, 114]⟩ : ByteArray).data.toList ((c.val : Int)).toNat.toUInt8 = kB c.val := by decide +kernel
theorem idxB (x : Int) (h0 : 0 ≤ x) (h1 : x < 256) (w : World) : Calls Tryz.prog 44 #[.string ⟨#[98, 116, 110, 102, 114]⟩, .int .u8 x] w fun e w' => e = .returned (.int .i64 (kB x)) ∧ w' = w := by
  have h := Tryz.strings_IndexByte ⟨#[98, 116, 110, 102, 114]⟩ x w
  have h2 := kB_eq ⟨x.toNat, by omega⟩
  simp only [Int.toNat_of_nonneg h0] at h2
  rw [h2] at h
  exact h
/-- Hexadecimal digits are none of the three. -/
theorem hex_none : ∀ (l : List UInt8) (n : Nat), 0 ≤ Lib.indexAny l [43, 45, 95] → hexFrom n l = none
  | [], n, h => by simp [Lib.indexAny] at h
  | c :: l, n, h => by
    rw [Lib.indexAny] at h
    rw [hexFrom]
    split at h
    · rename_i hc
      have : c = 43 ∨ c = 45 ∨ c = 95 := by simpa using hc
      have hv : hexV c = none := by rcases this with rfl | rfl | rfl <;> decide
      rw [hv]
    · cases hexV c with
      | none => rfl
      | some d =>
        dsimp only
        apply hex_none
        split at h
        · omega
        · have := Lib.indexAny_ge [43, 45, 95] l
          rename_i h1
          have h1' : Lib.indexAny l [43, 45, 95] ≠ -1 := by simpa using h1
          omega
/-- What a call of escaped comes to. -/
def EscOut (w : World) (g : Nat) (l : List UInt8) (b : Bool) (e : Ending) (w' : World) : Prop :=
  w.grownBy w' (some g) ∧ match escP l with
  | some (x, r) => e = .returned (.tuple #[.int .u8 (x.toNat : Int), .bool true]) ∧ PS w' g r b
  | none => (∃ y, e = .returned (.tuple #[y, .bool false])) ∧ ∃ l', PS w' g l' b
theorem esc_some {w w' : World} {g : Nat} {l r : List UInt8} {b : Bool} {x : UInt8} {v : Value} (hg : w.grownBy w' (some g)) (he : escP l = some (x, r)) (hv : v = .tuple #[.int .u8 (x.toNat : Int), .bool true]) (hp : PS w' g r b) : EscOut w g l b (.returned v) w' := by
  refine ⟨hg, ?_⟩
  rw [he, hv]
  exact ⟨rfl, hp⟩
theorem esc_none {w w' : World} {g : Nat} {l r : List UInt8} {b : Bool} {v y : Value} (hg : w.grownBy w' (some g)) (he : escP l = none) (hv : v = .tuple #[y, .bool false]) (hp : PS w' g r b) : EscOut w g l b (.returned v) w' := by
  refine ⟨hg, ?_⟩
  rw [he, hv]
  exact ⟨⟨_, rfl⟩, _, hp⟩

set_option maxHeartbeats 8000000 in
set_option maxRecDepth 100000 in
theorem escaped_calls (AO : AnyOk) (w : World) (g : Nat) (l : List UInt8) (b : Bool) (h : PS w g l b) (hn : l.length ≤ 1000000) (B : Nat) (hE : Glob B w) (hB : B ≤ g) :
    Calls Tryz.prog 59 #[.pointer (some ⟨g, 0, none⟩)] w fun e w' => EscOut w g l b e w' := by
  have HA := Aside0.mk AO
  have HE := Aside0.mk hE
  have HP := Aside0.mk h
  obtain ⟨c0, c1, hf⟩ := h.cells
  have f0 := hf 0
  clear h hf c1 hE AO
  cases l with
  | nil =>
    have hs0 : (str []).toList = [] := by rw [Lib.toList_data, str_list]
    obtain ⟨s, hs⟩ : ∃ s, s = str [] := ⟨_, rfl⟩
    rw [← hs] at hs0 c0
    have z0 : s.toList.isEmpty = true := by rw [hs0]; rfl
    have z1 : (s.toList == []) = true := by rw [hs0]; rfl
    have z2 : (s.toList == (⟨#[]⟩ : ByteArray).toList) = true := by rw [hs0, Lib.toList_data]; rfl
    clear hs hs0
    go_enter Tryz.func59, Tryz.ntmps59
    go_wp2
    go_ret2
    exact esc_none (y := .int .u8 0) (World.grownBy.refl w _) rfl rfl HP.out
  | cons c r =>
    have hs0 : (str (c :: r)).toList = c :: r := by rw [Lib.toList_data, str_list]
    have hsz := str_size (c :: r)
    have hat := at_eq (str (c :: r)) (c :: r) (str_list _) 0 (by simp)
    have hdr := extract_drop (c :: r) 1
    obtain ⟨s, hs⟩ : ∃ s, s = str (c :: r) := ⟨_, rfl⟩
    rw [← hs] at hs0 c0 hsz hat hdr
    have z0 : s.toList.isEmpty = false := by rw [hs0]; rfl
    have z1 : (s.toList == []) = false := by rw [hs0]; rfl
    have z2 : (s.toList == (⟨#[]⟩ : ByteArray).toList) = false := by rw [hs0, Lib.toList_data]; rfl
    rw [List.length_cons] at hsz
    obtain ⟨x, hx⟩ : ∃ x : Int, x = (c.toNat : Int) := ⟨_, rfl⟩
    have hb0 : ∀ h : 0 < s.size, (((s[0]'h).toNat : Nat) : Int) = x := fun h => by rw [hat h, hx]; rfl
    obtain ⟨sr, hsr⟩ : ∃ q, q = str r := ⟨_, rfl⟩
    have hsl : ∀ W, (Instr.slice 9 (.string s) (some (.int .i64 1)) none none).run Tryz.prog W = .ok (.string sr) W := fun W => by
      rw [run_slice_string_l (ht := Tryz.underlying9) (h0 := by decide) (h1 := by rw [hsz]; omega), hsr]
      congr 2
    have hx0 : 0 ≤ x := by omega
    have hx1 : x < 256 := by have := c.toNat_lt; omega
    have HSr := Aside0.mk hsr
    have HN := Aside0.mk hn
    have HX := Aside0.mk hx
    clear hs hs0 hat hdr hn hsr hx
    go_enter Tryz.func59, Tryz.ntmps59
    go_upto_region 5 with (fail)
    have HP1 := Aside0.mk (show PS (w.setCell ⟨g, 0, none⟩ (.string sr)) g r b by rw [HSr.out]; exact HP.out.left r)
    have HG1 := Aside0.mk (grown_set w g 0 (.string sr))
    have HE1 := Aside0.mk (HE.out.step HG1.out hB)
    generalize w.setCell ⟨g, 0, none⟩ (.string sr) = w1 at HP1 HG1 HE1 ⊢
    obtain ⟨d0, -, hf1⟩ := HP1.out.cells
    rw [← HSr.out] at d0
    have e0 := hf1 0
    have hne : ∀ k : UInt8, x ≠ (k.toNat : Int) → c ≠ k := fun k h he => h (by rw [HX.out, he])
    have heq : ∀ k : UInt8, x = (k.toNat : Int) → c = k := fun k h => UInt8.toNat_inj.1 (by have := HX.out; omega)
    clear hf1 c0 f0 z0 z1 z2 hb0 hsl hsz
    have HNe := Aside0.mk hne
    have HEq := Aside0.mk heq
    clear hne heq
    by_cases h34 : x = 34
    · have q1 : (x == 34) = true := beq_iff_eq.2 h34
      have hcc := HEq.out 34 h34
      have HO := Aside0.mk (show escP (c :: r) = some (c, r) by rw [escP, if_pos (.inl hcc)])
      have HX2 := Aside0.mk h34
      clear h34 hcc
      go_wp2
      go_ret2
      exact esc_some HG1.out HO.out (by rw [← HX.out, HX2.out] <;> rfl) HP1.out
    have q34 : (x == 34) = false := beq_eq_false_iff_ne.2 h34
    by_cases h92 : x = 92
    · have q1 : (x == 92) = true := beq_iff_eq.2 h92
      have hcc := HEq.out 92 h92
      have HO := Aside0.mk (show escP (c :: r) = some (c, r) by rw [escP, if_pos (.inr (.inl hcc))])
      have HX2 := Aside0.mk h92
      clear h92 hcc h34
      go_wp2
      go_ret2
      exact esc_some HG1.out HO.out (by rw [← HX.out, HX2.out] <;> rfl) HP1.out
    have q92 : (x == 92) = false := beq_eq_false_iff_ne.2 h92
    by_cases h47 : x = 47
    · have q1 : (x == 47) = true := beq_iff_eq.2 h47
      have hcc := HEq.out 47 h47
      have HO := Aside0.mk (show escP (c :: r) = some (c, r) by rw [escP, if_pos (.inr (.inr hcc))])
      have HX2 := Aside0.mk h47
      clear h47 hcc h34 h92
      go_wp2
      go_ret2
      exact esc_some HG1.out HO.out (by rw [← HX.out, HX2.out] <;> rfl) HP1.out
    have q47 : (x == 47) = false := beq_eq_false_iff_ne.2 h47
    have HI := Aside0.mk (fun w => idxB x hx0 hx1 w)
    have hno : ¬ (c = 34 ∨ c = 92 ∨ c = 47) := by
      rintro (h | h | h)
      · exact HNe.out 34 h34 h
      · exact HNe.out 92 h92 h
      · exact HNe.out 47 h47 h
    by_cases h98 : x = 98
    · have hkb : kB x = 0 := by unfold kB; rw [if_pos h98]
      rw [hkb] at HI
      have HO := Aside0.mk (show escP (c :: r) = some (8, r) by rw [escP, if_neg hno,  if_pos (HEq.out 98 h98)])
      clear h98 h34 h92 h47 hno hkb hx0 hx1
      go_wp2_with (first | (go_at_call 44; refine (HI.out _).mono ?_; rintro e w2 ⟨rfl, rfl⟩))
      go_ret2
      exact esc_some HG1.out HO.out rfl HP1.out
    by_cases h116 : x = 116
    · have hkb : kB x = 1 := by unfold kB; rw [if_neg h98, if_pos h116]
      rw [hkb] at HI
      have HO := Aside0.mk (show escP (c :: r) = some (9, r) by rw [escP, if_neg hno, if_neg (HNe.out 98 h98), if_pos (HEq.out 116 h116)])
      clear h98 h116 h34 h92 h47 hno hkb hx0 hx1
      go_wp2_with (first | (go_at_call 44; refine (HI.out _).mono ?_; rintro e w2 ⟨rfl, rfl⟩))
      go_ret2
      exact esc_some HG1.out HO.out rfl HP1.out
    by_cases h110 : x = 110
    · have hkb : kB x = 2 := by unfold kB; rw [if_neg h98, if_neg h116, if_pos h110]
      rw [hkb] at HI
      have HO := Aside0.mk (show escP (c :: r) = some (10, r) by rw [escP, if_neg hno, if_neg (HNe.out 98 h98), if_neg (HNe.out 116 h116), if_pos (HEq.out 110 h110)])
      clear h98 h116 h110 h34 h92 h47 hno hkb hx0 hx1
      go_wp2_with (first | (go_at_call 44; refine (HI.out _).mono ?_; rintro e w2 ⟨rfl, rfl⟩))
      go_ret2
      exact esc_some HG1.out HO.out rfl HP1.out
    by_cases h102 : x = 102
    · have hkb : kB x = 3 := by unfold kB; rw [if_neg h98, if_neg h116, if_neg h110, if_pos h102]
      rw [hkb] at HI
      have HO := Aside0.mk (show escP (c :: r) = some (12, r) by rw [escP, if_neg hno, if_neg (HNe.out 98 h98), if_neg (HNe.out 116 h116), if_neg (HNe.out 110 h110), if_pos (HEq.out 102 h102)])
      clear h98 h116 h110 h102 h34 h92 h47 hno hkb hx0 hx1
      go_wp2_with (first | (go_at_call 44; refine (HI.out _).mono ?_; rintro e w2 ⟨rfl, rfl⟩))
      go_ret2
      exact esc_some HG1.out HO.out rfl HP1.out
    by_cases h114 : x = 114
    · have hkb : kB x = 4 := by unfold kB; rw [if_neg h98, if_neg h116, if_neg h110, if_neg h102, if_pos h114]
      rw [hkb] at HI
      have HO := Aside0.mk (show escP (c :: r) = some (13, r) by rw [escP, if_neg hno, if_neg (HNe.out 98 h98), if_neg (HNe.out 116 h116), if_neg (HNe.out 110 h110), if_neg (HNe.out 102 h102), if_pos (HEq.out 114 h114)])
      clear h98 h116 h110 h102 h114 h34 h92 h47 hno hkb hx0 hx1
      go_wp2_with (first | (go_at_call 44; refine (HI.out _).mono ?_; rintro e w2 ⟨rfl, rfl⟩))
      go_ret2
      exact esc_some HG1.out HO.out rfl HP1.out
    have hkb : kB x = -1 := by unfold kB; rw [if_neg h98, if_neg h116, if_neg h110, if_neg h102, if_neg h114]
    rw [hkb] at HI
    have hes : escP (c :: r) = if c = 117 then (if r.length < 4 then none else match hexFrom 0 (r.take 4) with | none => none | some n => if n < 128 then some (n.toUInt8, r.drop 4) else none) else none := by
      rw [escP, if_neg hno, if_neg (HNe.out 98 h98), if_neg (HNe.out 116 h116), if_neg (HNe.out 110 h110), if_neg (HNe.out 102 h102), if_neg (HNe.out 114 h114)]
      try rfl
    by_cases h117 : x = 117
    · have q117 : (x == 117) = true := beq_iff_eq.2 h117
      rw [if_pos (HEq.out 117 h117)] at hes
      have hsz := str_size r
      rw [← HSr.out] at hsz
      have i117 : c.toNat = 117 := by have := HX.out; omega
      clear HX HNe HEq q34 q92 q47
      subst h117
      clear q117 h98 h116 h110 h102 h114 h34 h92 h47 hno hkb hx0 hx1
      by_cases h4 : r.length < 4
      · rw [if_pos h4] at hes
        have HO := Aside0.mk hes
        have i4 : (r.length : Int) < 4 := by omega
        clear hes h4
        go_wp2_with (first | (go_at_call 44; refine (HI.out _).mono ?_; rintro e w2 ⟨rfl, rfl⟩))
        go_ret2
        exact esc_none HG1.out HO.out rfl HP1.out
      · rw [if_neg h4] at hes
        have i4 : ¬ (r.length : Int) < 4 := by omega
        obtain ⟨st, hst⟩ : ∃ q, q = str (r.take 4) := ⟨_, rfl⟩
        obtain ⟨sd, hsd⟩ : ∃ q, q = str (r.drop 4) := ⟨_, rfl⟩
        have hsl4 : ∀ W, (Instr.slice 9 (.string sr) none (some (.int .i64 4)) none).run Tryz.prog W = .ok (.string st) W := fun W => by
          rw [run_slice_string_h (ht := Tryz.underlying9) (h0 := by decide) (h2 := by rw [hsz]; omega), hst, HSr.out]
          have := extract_take r 4 (by omega)
          congr 2
        have hsd4 : ∀ W, (Instr.slice 9 (.string sr) (some (.int .i64 4)) none none).run Tryz.prog W = .ok (.string sd) W := fun W => by
          rw [run_slice_string_l (ht := Tryz.underlying9) (h0 := by decide) (h1 := by rw [hsz]; omega), hsd, HSr.out]
          have := extract_drop r 4
          congr 2
        have ht4 : (r.take 4).length = 4 := by rw [List.length_take]; omega
        have HC := Aside0.mk (fun w => HA.out.sign (r.take 4) w ht4)
        have HU := Aside0.mk (fun w h => pup_walk (r.take 4) ht4 w h)
        rw [← hst] at HC HU
        have HSd := Aside0.mk hsd
        have HHex := Aside0.mk (hex_none (r.take 4) 0)
        obtain ⟨cb, hcb⟩ : ∃ q, q = decide (0 ≤ Lib.indexAny (r.take 4) [43, 45, 95]) := ⟨_, rfl⟩
        rw [← hcb] at HC
        clear hst hsd h4 ht4
        cases cb with
        | true =>
          have hh := HHex.out (of_decide_eq_true hcb.symm)
          rw [hh] at hes
          have HO := Aside0.mk hes
          clear hes hh hcb
          go_wp2_with (first
            | (go_at_call 44; refine (HI.out _).mono ?_; rintro e w2 ⟨rfl, rfl⟩)
            | (go_at_call 95; refine (HC.out _).mono ?_; rintro e w3 ⟨rfl, hb⟩; have HB3 := Aside0.mk hb; clear hb))
          go_ret2
          exact esc_none (grown2 HG1.out (grown_of_below HB3.out _)) HO.out rfl ((HB3.out.block g HP1.out.lt).trans HP1.out)
        | false =>
          have HHs := Aside0.mk hes
          clear hcb hes
          go_upto_region 12 with (first
            | (go_at_call 44; refine (HI.out _).mono ?_; rintro e w2 ⟨rfl, rfl⟩)
            | (go_at_call 95; refine (HC.out _).mono ?_; rintro e w3 ⟨rfl, hb⟩; have HB3 := Aside0.mk hb; clear hb))
          have HP3 := Aside0.mk (show PS w3 g r b from (HB3.out.block g HP1.out.lt).trans HP1.out)
          have HG3 := Aside0.mk (grown2 HG1.out (grown_of_below HB3.out _))
          have HE3 := Aside0.mk (HE1.out.below HB3.out).now
          obtain ⟨p0, -, hf3⟩ := HP3.out.cells
          rw [← HSr.out] at p0
          clear hf3 d0 e0
          cases hh : hexFrom 0 (r.take 4) with
          | none =>
            have hes := HHs.out
            rw [hh] at hes
            have HO := Aside0.mk hes
            have HU2 := Aside0.mk (fun w h => (HU.out w h).mono (fun e w' (h : Below w.heap.size w w' ∧ _) => (show Below w.heap.size w w' ∧ ∃ te pe, e = .returned (.tuple #[.int .u64 0, .iface te pe]) from ⟨h.1, by
              rcases h.2 with ⟨n, h1, _⟩ | ⟨_, h1⟩
              · rw [hh] at h1; cases h1
              · exact h1⟩)))
            clear hes hh HU
            go_upto_region 13 with (first
              | (go_at_call 96; refine (HU2.out _ HE3.out).mono ?_; rintro e w4 ⟨hb, te, pe, rfl⟩; have HB4 := Aside0.mk hb; clear hb))
            have HP4 := Aside0.mk (show PS w4 g r b from (HB4.out.block g HP3.out.lt).trans HP3.out)
            have HG4 := Aside0.mk (grown2 HG3.out (grown_of_below HB4.out _))
            obtain ⟨p1, -, hf4⟩ := HP4.out.cells
            rw [← HSr.out] at p1
            have p2 := hf4 0
            clear hf4 p0
            go_wp2
            go_ret2
            exact esc_none (grown2 HG4.out (grown_set w4 g 0 (.string sd))) HO.out rfl (by rw [HSd.out]; exact HP4.out.left _)
          | some n =>
            have hes := HHs.out
            rw [hh] at hes
            dsimp only at hes
            have HU2 := Aside0.mk (fun w h => (HU.out w h).mono (fun e w' (h : Below w.heap.size w w' ∧ _) => (show Below w.heap.size w w' ∧ e = .returned (.tuple #[.int .u64 (n : Int), .nilIface]) from ⟨h.1, by
              rcases h.2 with ⟨n2, h1, h2⟩ | ⟨h1, _⟩
              · rw [hh] at h1; cases h1; exact h2
              · rw [hh] at h1; cases h1⟩)))
            obtain ⟨m, hm⟩ : ∃ m : Int, m = (n : Int) := ⟨_, rfl⟩
            rw [← hm] at HU2
            by_cases h128 : n < 128
            · rw [if_pos h128] at hes
              have HO := Aside0.mk hes
              have i1 : m < 128 := by omega
              have i2' : m % 256 = m := by omega
              have HM := Aside0.mk (show m = ((n.toUInt8).toNat : Int) by rw [hm]; simp; omega)
              clear hes hh HU h128 hm
              go_upto_region 13 with (first
                | (go_at_call 96; refine (HU2.out _ HE3.out).mono ?_; rintro e w4 ⟨hb, rfl⟩; have HB4 := Aside0.mk hb; clear hb))
              have HP4 := Aside0.mk (show PS w4 g r b from (HB4.out.block g HP3.out.lt).trans HP3.out)
              have HG4 := Aside0.mk (grown2 HG3.out (grown_of_below HB4.out _))
              obtain ⟨p1, -, hf4⟩ := HP4.out.cells
              rw [← HSr.out] at p1
              have p2 := hf4 0
              clear hf4 p0
              go_wp2
              go_ret2
              exact esc_some (grown2 HG4.out (grown_set w4 g 0 (.string sd))) HO.out (by
                  rw [← HM.out]
                  first
                    | rfl
                    | (show Value.tuple #[.int .u8 m, .bool (decide (m < 128))] = _; rw [decide_eq_true (by omega)])
                    | (show Value.tuple #[.int .u8 (m % 256), .bool true] = _; rw [i2'])
                    | (show Value.tuple #[.int .u8 (m % 256), .bool (decide (m < 128))] = _; rw [decide_eq_true (by omega), i2'])) (by rw [HSd.out]; exact HP4.out.left _)
            · rw [if_neg h128] at hes
              have HO := Aside0.mk hes
              have i1 : ¬ m < 128 := by omega
              clear hes hh HU h128 hm
              go_upto_region 13 with (first
                | (go_at_call 96; refine (HU2.out _ HE3.out).mono ?_; rintro e w4 ⟨hb, rfl⟩; have HB4 := Aside0.mk hb; clear hb))
              have HP4 := Aside0.mk (show PS w4 g r b from (HB4.out.block g HP3.out.lt).trans HP3.out)
              have HG4 := Aside0.mk (grown2 HG3.out (grown_of_below HB4.out _))
              obtain ⟨p1, -, hf4⟩ := HP4.out.cells
              rw [← HSr.out] at p1
              have p2 := hf4 0
              clear hf4 p0
              go_wp2
              go_ret2
              exact esc_none (y := .int .u8 (m % 256)) (grown2 HG4.out (grown_set w4 g 0 (.string sd))) HO.out (by
                  first
                    | rfl
                    | (show Value.tuple #[.int .u8 (m % 256), .bool (decide (m < 128))] = _; rw [decide_eq_false (by omega)])) (by rw [HSd.out]; exact HP4.out.left _)
    · have q117 : (x == 117) = false := beq_eq_false_iff_ne.2 h117
      rw [if_neg (HNe.out 117 h117)] at hes
      have HO := Aside0.mk hes
      have q117n : (x != 117) = true := by rw [bne, q117]; rfl
      clear hes h34 h92 h47 h98 h116 h110 h102 h114 hno hkb hx0 hx1
      go_wp2_with (first | (go_at_call 44; refine (HI.out _).mono ?_; rintro e w2 ⟨rfl, rfl⟩))
      go_ret2
      exact esc_none HG1.out HO.out rfl HP1.out

end Go.Proofs.YtmhfkbgdkgfafaaGreatDoor.Js
end

section
/- json's parser reads what is written. -/
namespace Go.Proofs.YtmhfkbgdkgfafaaGreatDoor.Js
open Go.RowKit Go.Proofs.YtmhfkbgdkgfafaaGreatDoor.QJson Go.Proofs.YtmhfkbgdkgfafaaGreatDoorW.PrintWords Go.Proofs.YtmhfkbgdkgfafaaGreatDoorW.PrintLast Go.Proofs.YtmhfkbgdkgfafaaGreatDoorW.PrintMore
set_option linter.unusedVariables false
set_option linter.unusedSimpArgs false

def blankB (c : UInt8) : Bool := ([32, 9, 10, 13] : List UInt8).contains c
theorem sk_eq (l : List UInt8) : sk l = l.dropWhile blankB := rfl
theorem sk_nil : sk [] = [] := rfl
theorem sk_cons {c : UInt8} {l : List UInt8} (h : blankB c = false) : sk (c :: l) = c :: l := by
  rw [sk_eq, List.dropWhile_cons, if_neg (by rw [h]; decide)]
theorem sk_blank {b : List UInt8} (h : ∀ c ∈ b, blankB c = true) (l : List UInt8) : sk (b ++ l) = sk l := by
  induction b with
  | nil => rfl
  | cons c b ih =>
    rw [List.cons_append, sk_eq, List.dropWhile_cons, if_pos (h c (List.mem_cons_self ..))]
    exact ih (fun x hx => h x (List.mem_cons_of_mem _ hx))
theorem sk_le (l : List UInt8) : (sk l).length ≤ l.length := by
  rw [sk_eq]; exact (List.dropWhile_suffix _).length_le
theorem sk_sk (l : List UInt8) : sk (sk l) = sk l := by
  induction l with
  | nil => rfl
  | cons c l ih =>
    cases h : blankB c with
    | false => rw [sk_cons h, sk_cons h]
    | true => rw [show sk (c :: l) = sk l from sk_blank (b := [c]) (fun x hx => by rw [List.mem_singleton.1 hx]; exact h) l]; exact ih
theorem tk_self (s r : List UInt8) : tk s (s ++ r) = some r := by
  unfold tk; rw [if_pos (List.isPrefixOf_iff_prefix.2 (List.prefix_append ..)), List.drop_left]
theorem tk_one (c : UInt8) (r : List UInt8) : tk [c] (c :: r) = some r := tk_self [c] r
theorem tk_ne {c d : UInt8} (h : c ≠ d) (l : List UInt8) : tk [c] (d :: l) = none := by
  unfold tk; rw [if_neg]; simp [List.isPrefixOf, h]
theorem tk_head {c d : UInt8} (s l : List UInt8) (h : c ≠ d) : tk (c :: s) (d :: l) = none := by
  unfold tk; rw [if_neg]; simp [List.isPrefixOf, h]
theorem tk_nil (c : UInt8) (s : List UInt8) : tk (c :: s) [] = none := by
  unfold tk; rw [if_neg]; simp [List.isPrefixOf]
theorem tk_some {s l r : List UInt8} (h : tk s l = some r) : l = s ++ r := by
  unfold tk at h
  split at h
  · rename_i h1
    obtain ⟨q, rfl⟩ := List.isPrefixOf_iff_prefix.1 h1
    rw [List.drop_left] at h
    cases h; rfl
  · cases h

/-! ### strings -/
theorem seg_cons {c : UInt8} (h : isQ c = false) (l : List UInt8) : seg (c :: l) = c :: seg l := by
  unfold seg; rw [List.takeWhile_cons, if_pos (by rw [h]; rfl)]
theorem rst_cons {c : UInt8} (h : isQ c = false) (l : List UInt8) : rst (c :: l) = rst l := by
  unfold rst; rw [List.dropWhile_cons, if_pos (by rw [h]; rfl)]
theorem seg_q {c : UInt8} (h : isQ c = true) (l : List UInt8) : seg (c :: l) = [] := by
  unfold seg; rw [List.takeWhile_cons, if_neg (by rw [h]; decide)]
theorem rst_q {c : UInt8} (h : isQ c = true) (l : List UInt8) : rst (c :: l) = c :: l := by
  unfold rst; rw [List.dropWhile_cons, if_neg (by rw [h]; decide)]
theorem textP_end (n : Nat) (l : List UInt8) : textP (n + 1) (34 :: l) = some ([], l) := by
  rw [textP, rst_q (by decide), seg_q (by decide)]; rfl
theorem textP_esc {l r : List UInt8} {x : UInt8} (n : Nat) (h : escP l = some (x, r)) : textP (n + 1) (92 :: l) = (match textP n r with | none => none | some (t, q) => some (x :: t, q)) := by
  rw [textP, rst_q (by decide), seg_q (by decide)]
  simp only [List.any_nil, Bool.false_eq_true, if_false, h, List.nil_append, show ¬ ((92 : UInt8) = 34) by decide]
  all_goals (cases textP n r <;> rfl)
theorem textP_char {c : UInt8} (n : Nat) (l : List UInt8) (hq : isQ c = false) (h32 : ¬ c.toNat < 32) : textP (n + 1) (c :: l) = (match textP (n + 1) l with | none => none | some (t, q) => some (c :: t, q)) := by
  rw [textP, rst_cons hq, seg_cons hq, textP]
  rw [List.any_cons, decide_eq_false h32, Bool.false_or]
  cases hr : rst l with
  | nil => rfl
  | cons d r =>
    dsimp only
    cases ha : (seg l).any (fun c => decide (c.toNat < 32)) with
    | true => rfl
    | false =>
      simp only [Bool.false_eq_true, if_false]
      by_cases hd : d = 34
      · rw [if_pos hd, if_pos hd]
      · rw [if_neg hd, if_neg hd]
        cases he : escP r with
        | none => rfl
        | some p =>
          obtain ⟨x, r'⟩ := p
          dsimp only
          cases ht : textP n r' with
          | none => rfl
          | some p2 => rfl
theorem esc_low_ok : ∀ c : Fin 32, hexFrom 0 [48, 48, hexB (c.val / 16), hexB (c.val % 16)] = some c.val := by decide
theorem escP_u (a b : UInt8) (r : List UInt8) (n : Nat) (h : hexFrom 0 [48, 48, a, b] = some n) (hn : n < 128) : escP (117 :: 48 :: 48 :: a :: b :: r) = some (n.toUInt8, r) := by
  rw [escP, if_neg (by decide), if_neg (by decide), if_neg (by decide), if_neg (by decide), if_neg (by decide), if_neg (by decide), if_pos rfl, if_neg (by simp only [List.length_cons]; omega)]
  rw [show (48 :: 48 :: a :: b :: r).take 4 = [48, 48, a, b] from rfl, h]
  dsimp only
  rw [if_pos hn]; rfl
theorem textP_byte (c : UInt8) (n : Nat) (l : List UInt8) : textP (n + 1) (esc c ++ l) = (match textP n l with | none => none | some (t, q) => some (c :: t, q)) ∨ textP (n + 1) (esc c ++ l) = (match textP (n + 1) l with | none => none | some (t, q) => some (c :: t, q)) := by
  by_cases h1 : c = 34
  · subst h1; exact .inl (textP_esc n (by simp [escP]))
  by_cases h2 : c = 92
  · subst h2; exact .inl (textP_esc n (by simp [escP]))
  by_cases h3 : c = 8
  · subst h3; exact .inl (textP_esc n rfl)
  by_cases h4 : c = 9
  · subst h4; exact .inl (textP_esc n rfl)
  by_cases h5 : c = 10
  · subst h5; exact .inl (textP_esc n rfl)
  by_cases h6 : c = 12
  · subst h6; exact .inl (textP_esc n rfl)
  by_cases h7 : c = 13
  · subst h7; exact .inl (textP_esc n rfl)
  have he : esc c = if c < 32 then [92, 117, 48, 48, hexB (c.toNat / 16), hexB (c.toNat % 16)] else [c] := by
    unfold esc; rw [if_neg h1, if_neg h2, if_neg h3, if_neg h4, if_neg h5, if_neg h6, if_neg h7]
  by_cases h8 : c < 32
  · rw [he, if_pos h8]
    have hc : c.toNat < 32 := by simpa [UInt8.lt_iff_toNat_lt] using h8
    have h9 := esc_low_ok ⟨c.toNat, hc⟩
    have h10 := escP_u _ _ l c.toNat h9 (by omega)
    rw [show c.toNat.toUInt8 = c by simp] at h10
    exact .inl (textP_esc n h10)
  · rw [he, if_neg h8]
    refine .inr (textP_char n l ?_ ?_)
    · unfold isQ; simp [h1, h2]
    · intro h; exact h8 (by simpa [UInt8.lt_iff_toNat_lt] using h)
/-- A string's text is read back. -/
theorem textP_quote (s : List UInt8) : ∀ (n : Nat) (rest : List UInt8), s.length < n → textP n (s.flatMap esc ++ 34 :: rest) = some (s, rest) := by
  induction s with
  | nil =>
    intro n rest hn
    obtain ⟨m, rfl⟩ : ∃ m, n = m + 1 := ⟨n - 1, by omega⟩
    exact textP_end m rest
  | cons c s ih =>
    intro n rest hn
    rw [List.length_cons] at hn
    obtain ⟨m, rfl⟩ : ∃ m, n = m + 1 := ⟨n - 1, by omega⟩
    rw [List.flatMap_cons, List.append_assoc]
    rcases textP_byte c m (s.flatMap esc ++ 34 :: rest) with h | h
    · rw [h, ih m rest (by omega)]
    · rw [h, ih (m + 1) rest (by omega)]

/-! ### numbers -/
theorem decDigits_digit (u : Nat) : ∀ c ∈ Lib.decDigits u, digitB c = true := by
  induction u using Nat.strongRecOn with
  | _ u ih =>
    intro c hc
    have hd : ∀ k, k < 10 → digitB (UInt8.ofNat (48 + k)) = true := by
      intro k hk
      have : (UInt8.ofNat (48 + k)).toNat = 48 + k := by simp; omega
      unfold digitB
      rw [this]
      simp only [Bool.and_eq_true, decide_eq_true_eq]; omega
    by_cases h : u < 10
    · rw [Lib.decDigits, dif_pos h, List.mem_singleton] at hc
      rw [hc]; exact hd u h
    · rw [Lib.decDigits, dif_neg h] at hc
      rcases List.mem_append.1 hc with hc | hc
      · exact ih (u / 10) (by omega) c hc
      · rw [List.mem_singleton.1 hc]; exact hd _ (by omega)
theorem decDigits_ne (u : Nat) : Lib.decDigits u ≠ [] := by
  rw [Lib.decDigits]; split <;> simp
theorem scanD_all {a b : List UInt8} (ha : ∀ c ∈ a, digitB c = true) (hb : ∀ c, b.head? = some c → digitB c = false) : scanD (a ++ b) = a.length := by
  induction a with
  | nil =>
    cases b with
    | nil => rfl
    | cons c b => rw [List.nil_append, scanD, if_neg (by rw [hb c rfl]; decide)]; rfl
  | cons c a ih =>
    rw [List.cons_append, scanD, if_pos (ha c (List.mem_cons_self ..)), ih (fun x hx => ha x (List.mem_cons_of_mem _ hx)), List.length_cons]; omega
theorem digit_ne {c : UInt8} (h : digitB c = true) : ¬ c.toNat = 45 := by
  unfold digitB at h
  simp only [Bool.and_eq_true, decide_eq_true_eq] at h; omega
theorem scan_itoa (n : Int) {b : List UInt8} (hb : ∀ c, b.head? = some c → digitB c = false) : scan (Lib.itoa n ++ b) = (Lib.itoa n).length := by
  unfold Lib.itoa
  split
  · rw [List.cons_append, scan, if_pos (by decide), scanD_all (decDigits_digit _) hb, List.length_cons]; omega
  · cases h : Lib.decDigits n.toNat with
    | nil => exact absurd h (decDigits_ne _)
    | cons c l =>
      have hd := decDigits_digit n.toNat
      rw [h] at hd
      rw [List.cons_append, scan, if_neg (digit_ne (hd c (List.mem_cons_self ..)))]
      have := scanD_all hd hb
      rw [List.cons_append] at this
      exact this
/-- What stands ahead of its last digit. -/
theorem parse_snoc (l : List UInt8) (d : UInt8) : ∀ (acc a : Nat), Lib.parseUint10 acc l = .ok a → a < 100000000000000000 → digitB d = true → Lib.parseUint10 acc (l ++ [d]) = .ok (a * 10 + (d.toNat - 48)) := by
  induction l with
  | nil =>
    intro acc a h ha hd
    rw [Lib.parseUint10] at h
    cases h
    unfold digitB at hd
    simp only [Bool.and_eq_true, decide_eq_true_eq] at hd
    rw [List.nil_append, Lib.parseUint10, if_pos hd, if_neg (by omega), if_neg (by omega), Lib.parseUint10]
  | cons c l ih =>
    intro acc a h ha hd
    rw [Lib.parseUint10] at h
    rw [List.cons_append, Lib.parseUint10]
    split at h
    · rename_i h1
      rw [if_pos h1]
      split at h
      · cases h
      · rename_i h2
        rw [if_neg h2]
        split at h
        · cases h
        · rename_i h3
          rw [if_neg h3]
          exact ih _ a h ha hd
    · cases h
theorem parse_dec (u : Nat) (hu : u < 100000000000000000) : Lib.parseUint10 0 (Lib.decDigits u) = .ok u := by
  induction u using Nat.strongRecOn with
  | _ u ih =>
    have hv : ∀ k, k < 10 → (UInt8.ofNat (48 + k)).toNat = 48 + k := by intro k hk; simp; omega
    by_cases h : u < 10
    · rw [Lib.decDigits, dif_pos h, Lib.parseUint10, hv u h, if_pos (by omega), if_neg (by omega), if_neg (by omega), Lib.parseUint10]
      congr 1; omega
    · rw [Lib.decDigits, dif_neg h, parse_snoc _ _ 0 (u / 10) (ih (u / 10) (by omega) (by omega)) (by omega) (by
        have := hv (u % 10) (by omega)
        unfold digitB; rw [this]; simp only [Bool.and_eq_true, decide_eq_true_eq]; omega), hv _ (by omega)]
      congr 1; omega
theorem atoi_itoa (n : Int) (h0 : -100000000000000000 < n) (h1 : n < 100000000000000000) : Lib.atoiAll (Lib.itoa n) = .ok n := by
  unfold Lib.itoa
  split
  · rename_i hn
    rw [Lib.atoiAll]
    simp only [show (45 : UInt8).toNat = 45 from rfl, or_true, if_true]
    rw [Lib.parseMag, if_neg (decDigits_ne _), parse_dec _ (by omega)]
    simp only [not_true_eq_false, false_and, if_false, true_and]
    rw [if_neg (by omega)]
    congr 1
    first | omega | (split <;> omega)
  · rename_i hn
    cases h : Lib.decDigits n.toNat with
    | nil => exact absurd h (decDigits_ne _)
    | cons c l =>
      have hd := decDigits_digit n.toNat
      rw [h] at hd
      have hc := hd c (List.mem_cons_self ..)
      have hc2 := hc
      unfold digitB at hc2
      simp only [Bool.and_eq_true, decide_eq_true_eq] at hc2
      have e : ¬ (c.toNat = 43 ∨ c.toNat = 45) := by omega
      have e2 : ¬ c.toNat = 45 := by omega
      rw [Lib.atoiAll]
      rw [if_neg e, Lib.parseMag, if_neg (by simp), ← h, parse_dec _ (by omega)]
      show (if ¬ c.toNat = 45 ∧ 9223372036854775808 ≤ n.toNat then Lib.NumEnd.range else if c.toNat = 45 ∧ 9223372036854775808 < n.toNat then Lib.NumEnd.range else Lib.NumEnd.ok (if c.toNat = 45 then -(n.toNat : Int) else (n.toNat : Int))) = _
      rw [if_neg (by omega), if_neg (fun h => e2 h.1), if_neg e2]
      congr 1; omega
theorem numP_itoa (n : Int) (h0 : -9007199254740992 < n) (h1 : n < 9007199254740992) {b : List UInt8} (hb : ∀ c, b.head? = some c → digitB c = false) : numP (Lib.itoa n ++ b) = some (n, b) := by
  unfold numP
  rw [scan_itoa n hb, List.take_left, List.drop_left, atoi_itoa n (by omega) (by omega)]
  dsimp only
  rw [if_pos rfl]

end Go.Proofs.YtmhfkbgdkgfafaaGreatDoor.Js
end

section
/- What the parser's text asks of bytes and runes, in plain words. -/
namespace Go.Proofs.YtmhfkbgdkgfafaaGreatDoor.Js
open Go.RowKit Go.Proofs.YtmhfkbgdkgfafaaGreatDoor.QJson Go.Proofs.YtmhfkbgdkgfafaaGreatDoorW.PrintWords Go.Proofs.YtmhfkbgdkgfafaaGreatDoorW.PrintLast Go.Proofs.YtmhfkbgdkgfafaaGreatDoorW.PrintMore
set_option linter.unusedVariables false
set_option linter.unusedSimpArgs false

/-! ### the next quote or backslash -/
theorem isQ_iff (c : UInt8) : isQ c = ([34, 92] : List UInt8).contains c := by
  unfold isQ
  simp only [List.contains_cons, List.contains_nil, Bool.or_false]
theorem idx_none : ∀ (l : List UInt8), rst l = [] → Lib.indexAny l [34, 92] = -1
  | [], _ => rfl
  | c :: l, h => by
    cases hq : isQ c with
    | true => rw [rst_q hq] at h; cases h
    | false =>
      rw [rst_cons hq] at h
      rw [Lib.indexAny, if_neg (by rw [← isQ_iff, hq]; decide), idx_none l h]; rfl
theorem idx_some : ∀ (l : List UInt8) (c : UInt8) (r : List UInt8), rst l = c :: r → Lib.indexAny l [34, 92] = ((seg l).length : Int) ∧ l = seg l ++ c :: r ∧ isQ c = true
  | [], c, r, h => by cases h
  | d :: l, c, r, h => by
    cases hq : isQ d with
    | true =>
      rw [rst_q hq] at h
      cases h
      rw [seg_q hq, Lib.indexAny, if_pos (by rw [← isQ_iff, hq])]
      exact ⟨rfl, rfl, hq⟩
    | false =>
      rw [rst_cons hq] at h
      obtain ⟨h1, h2, h3⟩ := idx_some l c r h
      rw [seg_cons hq, Lib.indexAny, if_neg (by rw [← isQ_iff, hq]; decide), h1]
      refine ⟨?_, by rw [List.cons_append, ← h2], h3⟩
      rw [if_neg (by simp), List.length_cons]
      omega

/-! ### runes below 32 -/
theorem hi_width (n b0 b1 b2 b3 : Nat) (h : 128 ≤ b0) : (32 ≤ (Lib.decodeN n b0 b1 b2 b3).1) ∧ ∀ j, 1 ≤ j → j < (Lib.decodeN n b0 b1 b2 b3).2 → (j = 1 ∧ 128 ≤ b1) ∨ (j = 2 ∧ 128 ≤ b2) ∨ (j = 3 ∧ 128 ≤ b3) := by
  unfold Lib.decodeN
  rw [if_neg (by omega)]
  split
  · split
    · refine ⟨by show 32 ≤ _; omega, fun j h1 h2 => ?_⟩
      have h2' : j < 2 := h2
      omega
    · exact ⟨by decide, fun j h1 h2 => by have h2' : j < 1 := h2; omega⟩
  · split
    · split
      · refine ⟨by show 32 ≤ _; omega, fun j h1 h2 => ?_⟩
        have h2' : j < 3 := h2
        omega
      · exact ⟨by decide, fun j h1 h2 => by have h2' : j < 1 := h2; omega⟩
    · split
      · split
        · refine ⟨by show 32 ≤ _; omega, fun j h1 h2 => ?_⟩
          have h2' : j < 4 := h2
          omega
        · exact ⟨by decide, fun j h1 h2 => by have h2' : j < 1 := h2; omega⟩
      · exact ⟨by decide, fun j h1 h2 => by have h2' : j < 1 := h2; omega⟩
theorem low_decode (n b0 b1 b2 b3 : Nat) (h : b0 < 128) : Lib.decodeN n b0 b1 b2 b3 = (b0, 1) := by
  unfold Lib.decodeN; rw [if_pos h]
def lowR (x : Nat) : Bool := decide (x < 32)
theorem low_from (l : List UInt8) : ∀ (f pos : Nat), l.length ≤ pos + f → (0 ≤ Lib.idxFuncFrom lowR true (str l) f pos ↔ ∃ j, pos ≤ j ∧ ∃ h : j < l.length, l[j].toNat < 32)
  | 0, pos, h => by
    rw [Lib.idxFuncFrom]
    constructor
    · intro h1; omega
    · rintro ⟨j, h1, h2, _⟩; omega
  | f + 1, pos, h => by
    rw [Lib.idxFuncFrom, str_size]
    by_cases hp : pos < l.length
    · rw [if_pos hp, Lib.decode_N, str_list]
      have hg : l.getD pos 0 = l[pos] := by simp [List.getD_eq_getElem?_getD, hp]
      rw [hg]
      by_cases hlow : l[pos].toNat < 128
      · rw [low_decode _ _ _ _ _ hlow]
        by_cases h32 : l[pos].toNat < 32
        · rw [if_pos (by show lowR _ = true; exact decide_eq_true h32)]
          exact ⟨fun _ => ⟨pos, Nat.le_refl _, hp, h32⟩, fun _ => by omega⟩
        · rw [if_neg (by show ¬ lowR _ = true; unfold lowR; simpa using h32), low_from l f (pos + 1) (by omega)]
          constructor
          · rintro ⟨j, h1, h2⟩; exact ⟨j, by omega, h2⟩
          · rintro ⟨j, h1, h2, h3⟩
            refine ⟨j, ?_, h2, h3⟩
            rcases Nat.eq_or_lt_of_le h1 with h4 | h4
            · subst h4; exact absurd h3 h32
            · omega
      · obtain ⟨hr, hw⟩ := hi_width (l.length - pos) l[pos].toNat (l.getD (pos + 1) 0).toNat (l.getD (pos + 2) 0).toNat (l.getD (pos + 3) 0).toNat (by omega)
        have hge := Lib.decodeN_ge1 (l.length - pos) l[pos].toNat (l.getD (pos + 1) 0).toNat (l.getD (pos + 2) 0).toNat (l.getD (pos + 3) 0).toNat
        generalize Lib.decodeN (l.length - pos) l[pos].toNat (l.getD (pos + 1) 0).toNat (l.getD (pos + 2) 0).toNat (l.getD (pos + 3) 0).toNat = p at hr hw hge
        rw [if_neg (by unfold lowR; simp; omega), low_from l f (pos + p.2) (by omega)]
        constructor
        · rintro ⟨j, h1, h2⟩; exact ⟨j, by omega, h2⟩
        · rintro ⟨j, h1, h2, h3⟩
          refine ⟨j, ?_, h2, h3⟩
          rcases Nat.lt_or_ge j (pos + p.2) with h4 | h4
          · exfalso
            rcases Nat.eq_or_lt_of_le h1 with h5 | h5
            · subst h5; omega
            · have h6 := hw (j - pos) (by omega) (by omega)
              have hgd : ∀ k, j = pos + k → (l.getD (pos + k) 0).toNat < 32 := fun k hk => by
                rw [← hk, List.getD_eq_getElem?_getD, List.getElem?_eq_getElem h2]; exact h3
              rcases h6 with ⟨h6, h7⟩ | ⟨h6, h7⟩ | ⟨h6, h7⟩
              · have := hgd 1 (by omega); omega
              · have := hgd 2 (by omega); omega
              · have := hgd 3 (by omega); omega
          · exact h4
    · rw [if_neg hp]
      constructor
      · intro h1; omega
      · rintro ⟨j, h1, h2, _⟩; omega
/-- Is a byte below 32 there? -/
theorem low_any (l : List UInt8) : decide (0 ≤ Lib.idxFunc lowR true (str l)) = l.any (fun c => decide (c.toNat < 32)) := by
  have h := low_from l (str l).size 0 (by rw [str_size]; omega)
  rw [Bool.eq_iff_iff, decide_eq_true_iff, List.any_eq_true]
  unfold Lib.idxFunc
  rw [h]
  constructor
  · rintro ⟨j, _, h2, h3⟩; exact ⟨l[j], List.getElem_mem h2, decide_eq_true h3⟩
  · rintro ⟨c, h2, h3⟩
    obtain ⟨j, hj, rfl⟩ := List.getElem_of_mem h2
    exact ⟨j, Nat.zero_le _, hj, of_decide_eq_true h3⟩

/-! ### lengths -/
theorem escP_length : ∀ (l : List UInt8) (x : UInt8) (r : List UInt8), escP l = some (x, r) → r.length + 1 ≤ l.length
  | [], x, r, h => by cases h
  | c :: l, x, r, h => by
    rw [escP] at h
    repeat' split at h
    all_goals first
      | (simp only [Option.some.injEq, Prod.mk.injEq, reduceCtorEq] at h; obtain ⟨_, rfl⟩ := h; simp only [List.length_cons, List.length_drop]; omega)
      | (simp only [reduceCtorEq] at h)
theorem seg_rst (l : List UInt8) : seg l ++ rst l = l := List.takeWhile_append_dropWhile
/-- What stands ahead of what is read. -/
def pre (a : List UInt8) : Option (List UInt8 × List UInt8) → Option (List UInt8 × List UInt8)
  | none => none
  | some (t, q) => some (a ++ t, q)
theorem pre_pre (a b : List UInt8) (o : Option (List UInt8 × List UInt8)) : pre a (pre b o) = pre (a ++ b) o := by
  cases o with
  | none => rfl
  | some p => simp [pre]
theorem textP_step {n : Nat} {l r r' : List UInt8} {x : UInt8} (hr : rst l = 92 :: r) (ha : (seg l).any (fun c => decide (c.toNat < 32)) = false) (he : escP r = some (x, r')) : textP (n + 1) l = pre (seg l ++ [x]) (textP n r') := by
  rw [textP, hr]
  dsimp only
  rw [ha, if_neg (by decide), if_neg (by decide), he]
  dsimp only
  cases textP n r' with
  | none => rfl
  | some p => simp [pre]
theorem textP_stop {n : Nat} {l r : List UInt8} (hr : rst l = 34 :: r) (ha : (seg l).any (fun c => decide (c.toNat < 32)) = false) : textP (n + 1) l = some (seg l, r) := by
  rw [textP, hr]
  dsimp only
  rw [ha, if_neg (by decide), if_pos rfl]
theorem textP_low {n : Nat} {l r : List UInt8} {c : UInt8} (hr : rst l = c :: r) (ha : (seg l).any (fun c => decide (c.toNat < 32)) = true) : textP (n + 1) l = none := by
  rw [textP, hr]
  dsimp only
  rw [ha, if_pos rfl]
theorem textP_no {n : Nat} {l : List UInt8} (hr : rst l = []) : textP (n + 1) l = none := by rw [textP, hr]
theorem textP_bad {n : Nat} {l r : List UInt8} (hr : rst l = 92 :: r) (he : escP r = none) : textP (n + 1) l = none := by
  rw [textP, hr]
  dsimp only
  split
  · rfl
  · rw [if_neg (by decide), he]

end Go.Proofs.YtmhfkbgdkgfafaaGreatDoor.Js
end

section
/- json's parser: text. -/
namespace Go.Proofs.YtmhfkbgdkgfafaaGreatDoor.Js
open Go.RowKit Go.Proofs.YtmhfkbgdkgfafaaGreatDoor.QJson Go.Proofs.YtmhfkbgdkgfafaaGreatDoorW.PrintWords Go.Proofs.YtmhfkbgdkgfafaaGreatDoorW.PrintLast Go.Proofs.YtmhfkbgdkgfafaaGreatDoorW.PrintMore
set_option linter.unusedVariables false
set_option linter.unusedSimpArgs false

theorem bu_grown {B b g : Nat} {bs : List Value} {w w' : World} (h : Lib.IsBuilder 84 5 B b bs w) (hg : w.grownBy w' (some g)) (hB : g < B) : Lib.IsBuilder 84 5 B b bs w' := by
  have hat : ∀ {p : Value}, Lib.BuilderAt 84 5 B b p bs w → Lib.BuilderAt 84 5 B b p bs w' := fun {p} h => by
    have hlt := h.lt
    obtain ⟨hBb, v, hbk, hown, hne⟩ := h
    exact ⟨hBb, v, (hg.block b hlt (fun e => by injection e with e; omega)).trans hbk, own_move hown (fun k hk => hg.block k (own_lt hown k hk) (fun e => by injection e with e; have := own_base hown k hk; omega)), hne⟩
  exact h.elim (fun h => .inl (hat h)) (fun h => .inr (hat h))
/-- The function literal of text's. -/
theorem lowR_calls (w : World) : PredAtRunes Tryz.prog 57 #[] lowR w := by
  intro W x hx hb
  show Calls Tryz.prog 57 #[.int .i32 (x : Int)] W _
  obtain ⟨m, hm⟩ : ∃ m : Int, m = (x : Int) := ⟨_, rfl⟩
  have HM := Aside0.mk hm
  rw [← hm]
  clear hm hb hx
  go_enter Tryz.func57, Tryz.ntmps57
  go_wp2
  go_ret
  refine ⟨?_, 0, rfl⟩
  have h : decide (m < 32) = lowR x := by
    unfold lowR
    rw [HM.out, Bool.eq_iff_iff, decide_eq_true_iff, decide_eq_true_iff]; omega
  rw [← h] <;> rfl
theorem low_calls (l : List UInt8) (w : World) : Calls Tryz.prog 56 #[.string (str l), .func (.func 57) #[] #[]] w fun e w' => e = .returned (.bool (l.any (fun c => decide (c.toNat < 32)))) ∧ Below w.heap.size w w' := by
  have h := Tryz.strings_ContainsFunc_runes 57 #[] (enters_of Tryz.func57 (by kernel_rfl) rfl) lowR (str l) w (lowR_calls w)
  rw [low_any] at h
  exact h
theorem grown_then {w w1 w2 : World} {row : Option Nat} (h : w.grownBy w1 row) (k : Below w.heap.size w1 w2) : w.grownBy w2 row :=
  ⟨k.os.trans h.os, k.tape.trans h.tape, k.output.trans h.output, Nat.le_trans h.size k.size, fun q hq hne => (k.block q hq).trans (h.block q hq hne)⟩
/-- What a call of text's comes to. -/
def TextOut (w : World) (g : Nat) (l : List UInt8) (b : Bool) (e : Ending) (w' : World) : Prop :=
  w.grownBy w' (some g) ∧ match textP (l.length + 1) l with
  | some (t, r) => e = .returned (.string (str t)) ∧ PS w' g r b
  | none => e = .returned (.string ⟨#[]⟩) ∧ PS w' g [] true
theorem text_some {w w' : World} {g : Nat} {l t r : List UInt8} {b : Bool} {v : Value} (hg : w.grownBy w' (some g)) (he : textP (l.length + 1) l = some (t, r)) (hv : v = .string (str t)) (hp : PS w' g r b) : TextOut w g l b (.returned v) w' := by
  refine ⟨hg, ?_⟩
  rw [he, hv]
  exact ⟨rfl, hp⟩
theorem text_none {w w' : World} {g : Nat} {l : List UInt8} {b : Bool} {v : Value} (hg : w.grownBy w' (some g)) (he : textP (l.length + 1) l = none) (hv : v = .string ⟨#[]⟩) (hp : PS w' g [] true) : TextOut w g l b (.returned v) w' := by
  refine ⟨hg, ?_⟩
  rw [he, hv]
  exact ⟨rfl, hp⟩
theorem esc_ok {w w' : World} {g : Nat} {l r : List UInt8} {b : Bool} {x : UInt8} {e : Ending} (h : EscOut w g l b e w') (he : escP l = some (x, r)) : e = .returned (.tuple #[.int .u8 (x.toNat : Int), .bool true]) ∧ PS w' g r b ∧ w.grownBy w' (some g) := by
  obtain ⟨h1, h2⟩ := h
  rw [he] at h2
  exact ⟨h2.1, h2.2, h1⟩
theorem esc_bad {w w' : World} {g : Nat} {l : List UInt8} {b : Bool} {e : Ending} (h : EscOut w g l b e w') (he : escP l = none) : ∃ y l', e = .returned (.tuple #[y, .bool false]) ∧ PS w' g l' b ∧ w.grownBy w' (some g) := by
  obtain ⟨h1, h2⟩ := h
  rw [he] at h2
  obtain ⟨⟨y, h3⟩, l', h4⟩ := h2
  exact ⟨y, l', h3, h4, h1⟩

set_option maxHeartbeats 8000000 in
set_option maxRecDepth 100000 in
theorem ptext_calls (AO : AnyOk) (w : World) (g : Nat) (l : List UInt8) (b : Bool) (h : PS w g l b) (hn : l.length ≤ 1000000) (B : Nat) (hE : Glob B w) (hB : B ≤ g) :
    Calls Tryz.prog 31 #[.pointer (some ⟨g, 0, none⟩)] w fun e w' => TextOut w g l b e w' := by
  have HA := Aside0.mk AO
  have HE := Aside0.mk hE
  have HP := Aside0.mk h
  have HN := Aside0.mk hn
  have HLt := Aside0.mk h.lt
  have HBg := Aside0.mk hB
  clear h hE AO hn hB
  go_enter Tryz.func31, Tryz.ntmps31
  go_upto_block 0 with (fail)
  have HP0 := Aside0.mk (show PS (w.alloc (.cells #[.pointer none, .slice none 0 0] 84)) g l b from (Below.block (below_alloc (Below.refl _ _) _) g HLt.out).trans HP.out)
  have HBu0 := Aside0.mk (show Lib.IsBuilder 84 5 w.heap.size w.heap.size (Lib.byteCells []) (w.alloc (.cells #[.pointer none, .slice none 0 0] 84)) from .inl ⟨Nat.le_refl _, .slice none 0 0, by simpa using heap_alloc_new w _, own_nil _ _ _ _, by simp [Value.ownBlock]⟩)
  have HG0 := Aside0.mk (show w.grownBy (w.alloc (.cells #[.pointer none, .slice none 0 0] 84)) (some g) from grown_of_below (below_alloc (Below.refl _ _) _) _)
  generalize w.alloc (.cells #[.pointer none, .slice none 0 0] 84) = W1 at HP0 HBu0 HG0 ⊢
  obtain ⟨bb, hbb⟩ : ∃ q, q = w.heap.size := ⟨_, rfl⟩
  rw [← hbb] at HBu0 ⊢
  have HBb := Aside0.mk hbb
  clear hbb
  go_wp2
  go_loopg [4, 5, 6, 7] l.length (fun kq v4 v5 v6 v7 wr => ∃ acc l' : List UInt8, Aside0 (PS wr g l' b) ∧ Aside0 (Lib.IsBuilder 84 5 bb bb (Lib.byteCells acc) wr) ∧ Aside0 (w.grownBy wr (some g)) ∧ Aside0 (textP (l.length + 1) l = pre acc (textP (kq + 1) l')) ∧ Aside0 (l'.length ≤ kq ∧ acc.length + l'.length ≤ l.length))
  case atStart => exact ⟨[], l, HP0, HBu0, HG0, ⟨by cases textP (l.length + 1) l with | none => rfl | some p => rfl⟩, ⟨by simp⟩⟩
  case round =>
    obtain ⟨acc, l', HPr, HBu, HGr, HTx, HLn⟩ := hrel
    obtain ⟨c0, -, hf⟩ := HPr.out.cells
    obtain ⟨s, hs⟩ : ∃ s, s = str l' := ⟨_, rfl⟩
    have HS := Aside0.mk hs
    rw [← hs] at c0
    have hq := HA.out.quot l' wr (by have := HLn.out; have := HN.out; omega)
    rw [← hs] at hq
    have hsz := str_size l'
    rw [← hs] at hsz
    have HEr := Aside0.mk (HE.out.step HGr.out HBg.out)
    clear hf
    cases hr : rst l' with
    | nil =>
      rw [idx_none l' hr] at hq
      have HQ := Aside0.mk hq
      have HO := Aside0.mk (show textP (l.length + 1) l = none by rw [HTx.out, textP_no hr]; rfl)
      clear hq hs hsz hr
      go_upto_region 3 with (first
        | (go_at_call 55; refine HQ.out.mono ?_; rintro e w2 ⟨rfl, hb⟩; have HB2 := Aside0.mk hb; clear hb))
      have HP2 := Aside0.mk (show PS w2 g l' b from (HB2.out.block g HPr.out.lt).trans HPr.out)
      have HF := Aside0.mk (fails_calls w2 g l' b HP2.out)
      go_wp2_with (first
        | (go_at_call 58; refine HF.out.mono ?_; rintro e w3 ⟨rfl, hp, hb⟩; have HP3 := Aside0.mk hp; have HG3 := Aside0.mk (grown2 HGr.out (grown2 (grown_of_below HB2.out _) hb)); clear hp hb))
      go_ret
      exact text_none HG3.out HO.out rfl HP3.out
    | cons c r =>
      obtain ⟨hi, hl, hc⟩ := idx_some l' c r hr
      rw [hi] at hq
      have HQ := Aside0.mk hq
      obtain ⟨sg, hsg⟩ : ∃ q, q = seg l' := ⟨_, rfl⟩
      rw [← hsg] at HQ hl
      obtain ⟨n, hnn⟩ : ∃ q, q = sg.length := ⟨_, rfl⟩
      rw [← hnn] at HQ
      have hll : l'.length = n + 1 + r.length := by rw [hl, List.length_append, List.length_cons, hnn]; omega
      obtain ⟨st, hst⟩ : ∃ q, q = str sg := ⟨_, rfl⟩
      obtain ⟨sr, hsr⟩ : ∃ q, q = str r := ⟨_, rfl⟩
      have htk : l'.take n = sg := by rw [hl, hnn, List.take_left]
      have hdr : l'.drop (n + 1) = r := by rw [hl, hnn, show sg ++ c :: r = (sg ++ [c]) ++ r by simp, show sg.length + 1 = (sg ++ [c]).length by simp, List.drop_left]
      have hslt : ∀ W, (Instr.slice 9 (.string s) none (some (.int .i64 (n : Int))) none).run Tryz.prog W = .ok (.string st) W := fun W => by
        rw [run_slice_string_h (ht := Tryz.underlying9) (h0 := by omega) (h2 := by rw [hsz]; omega), Int.toNat_natCast, hs, extract_take l' n (by omega), htk, hst]
      have hsld : ∀ W, (Instr.slice 9 (.string s) (some (.int .i64 ((n : Int) + 1))) none none).run Tryz.prog W = .ok (.string sr) W := fun W => by
        rw [run_slice_string_l (ht := Tryz.underlying9) (h0 := by omega) (h1 := by rw [hsz]; omega), hs, show ((n : Int) + 1).toNat = n + 1 by omega, extract_drop l' (n + 1), hdr, hsr]
      have hat := at_eq (str l') l' (str_list l') n (by omega)
      rw [← hs] at hat
      obtain ⟨x, hx⟩ : ∃ x : Int, x = (c.toNat : Int) := ⟨_, rfl⟩
      have hgc : ∀ h : n < l'.length, l'[n]'h = c := fun h => by
        have : l'[n]? = some c := by rw [hl, hnn, List.getElem?_append_right (Nat.le_refl _), Nat.sub_self]; rfl
        rw [List.getElem?_eq_getElem h] at this
        exact Option.some.inj this
      have hb0 : ∀ h : n < s.size, (((s[n]'h).toNat : Nat) : Int) = x := fun h => by rw [hat h, hgc, hx]
      have hwn : IntKind.i64.wrap ((n : Int) + 1) = (n : Int) + 1 := by have := HN.out; have := HLn.out; rw [IntKind.wrap_i64]; omega
      have hnl : ¬ (n : Int) < 0 := by omega
      have hln : (n : Int) < (l'.length : Int) := by omega
      have hlow := fun w => low_calls sg w
      rw [← hst] at hlow
      obtain ⟨lo, hlo⟩ : ∃ q, q = sg.any (fun c => decide (c.toNat < 32)) := ⟨_, rfl⟩
      rw [← hlo] at hlow
      have HLow := Aside0.mk hlow
      have HSt := Aside0.mk hst
      have HSr := Aside0.mk hsr
      have HHr := Aside0.mk hr
      have HSg := Aside0.mk hsg
      have HLo := Aside0.mk hlo
      have HC := Aside0.mk (And.intro hc hx)
      have HNn := Aside0.mk hnn
      have HLl := Aside0.mk hll
      clear hq hlow hst hsr hr hsg hlo hc hx hnn hll htk hdr hat hgc hi hl hs
      cases lo with
      | true =>
        have HO := Aside0.mk (show textP (l.length + 1) l = none by rw [HTx.out, textP_low HHr.out (by rw [← HSg.out, ← HLo.out])]; rfl)
        clear hb0 hsld hwn
        go_upto_region 3 with (first
          | (go_at_call 55; refine HQ.out.mono ?_; rintro e w2 ⟨rfl, hb⟩; have HB2 := Aside0.mk hb; clear hb))
        have HP2 := Aside0.mk (show PS w2 g l' b from (HB2.out.block g HPr.out.lt).trans HPr.out)
        have p0 := HP2.out.cells.1
        rw [← HS.out] at p0
        clear c0
        go_upto_region 4 with (first
          | (go_at_call 56; refine (HLow.out _).mono ?_; rintro e w3 ⟨rfl, hb⟩; have HB3 := Aside0.mk (HB2.out.trans (hb.mono HB2.out.size)); clear hb))
        have HP3 := Aside0.mk (show PS w3 g l' b from (HB3.out.block g HPr.out.lt).trans HPr.out)
        have HF := Aside0.mk (fails_calls w3 g l' b HP3.out)
        go_wp2_with (first
          | (go_at_call 58; refine HF.out.mono ?_; rintro e w4 ⟨rfl, hp, hb⟩; have HP4 := Aside0.mk hp; have HG4 := Aside0.mk (grown2 HGr.out (grown2 (grown_of_below HB3.out _) hb)); clear hp hb))
        go_ret
        exact text_none HG4.out HO.out rfl HP4.out
      | false =>
        go_upto_region 3 with (first
          | (go_at_call 55; refine HQ.out.mono ?_; rintro e w2 ⟨rfl, hb⟩; have HB2 := Aside0.mk hb; clear hb))
        have HP2 := Aside0.mk (show PS w2 g l' b from (HB2.out.block g HPr.out.lt).trans HPr.out)
        have p0 := HP2.out.cells.1
        rw [← HS.out] at p0
        clear c0
        go_upto_region 6 with (first
          | (go_at_call 56; refine (HLow.out _).mono ?_; rintro e w3 ⟨rfl, hb⟩; have HB3 := Aside0.mk (HB2.out.trans (hb.mono HB2.out.size)); clear hb))
        have HP3 := Aside0.mk (show PS w3 g l' b from (HB3.out.block g HPr.out.lt).trans HPr.out)
        have HBu3 := Aside0.mk (bu_below HBu.out HB3.out)
        have HG3 := Aside0.mk (grown2 HGr.out (grown_of_below HB3.out _))
        have p3 := HP3.out.cells.1
        rw [← HS.out] at p3
        clear p0
        have HWs := Aside0.mk (WriteStr bb bb acc sg st w3 HBu3.out (by rw [HSt.out, str_list]) (by have h1 := HLn.out; have h2 := HN.out; have h3 := HLl.out; have h4 := HNn.out; omega) (by rw [HBb.out]; exact HG3.out.size))
        go_upto_region 7 with (first
          | (go_at_call 45; refine HWs.out.mono ?_; rintro e w4 ⟨rfl, hbu, hb⟩; have HBu4 := Aside0.mk hbu; have HB4 := Aside0.mk hb; clear hbu hb))
        have HP4 := Aside0.mk (show PS w4 g l' b from (HB4.out.block g (by have := HLt.out; have := HBb.out; omega)).trans HP3.out)
        have HG4 := Aside0.mk (show w.grownBy w4 (some g) from grown_then HG3.out (by rw [← HBb.out]; exact HB4.out))
        obtain ⟨p4, -, hf4⟩ := HP4.out.cells
        rw [← HS.out] at p4
        have f4 := hf4 0
        clear p3 hf4
        have hbg : bb ≠ g := by have := HLt.out; have := HBb.out; omega
        rcases (show c = 34 ∨ c = 92 by have h := HC.out.1; unfold isQ at h; simpa using h) with hcq | hcq
        · have hx34 : x = 34 := by rw [HC.out.2, hcq]; rfl
          have HO := Aside0.mk (show textP (l.length + 1) l = some (acc ++ sg, r) by
            have hr := HHr.out
            rw [hcq] at hr
            rw [HTx.out, textP_stop hr (by rw [← HSg.out, ← HLo.out]), ← HSg.out]; rfl)
          clear HC hcq
          subst hx34
          go_upto_region 9 with (fail)
          have HP5 := Aside0.mk (show PS (w4.setCell ⟨g, 0, none⟩ (.string sr)) g r b by rw [HSr.out]; exact HP4.out.left _)
          have HBu5 := Aside0.mk (bu_grown HBu4.out (grown_set w4 g 0 (.string sr)) (by have := HLt.out; have := HBb.out; omega))
          have HG5 := Aside0.mk (grown2 HG4.out (grown_set w4 g 0 (.string sr)))
          generalize w4.setCell ⟨g, 0, none⟩ (.string sr) = w5 at HP5 HBu5 HG5 ⊢
          clear p4 f4 hb0 hslt hsld
          have HSt2 := Aside0.mk (Tryz.Builder_String_any bb bb (acc ++ sg) w5 HBu5.out (by rw [HBb.out]; exact HG5.out.size))
          obtain ⟨sq, hsq⟩ : ∃ q, q = str (acc ++ sg) := ⟨_, rfl⟩
          rw [show (⟨(acc ++ sg).toArray⟩ : ByteArray) = sq from hsq.symm] at HSt2
          have HSq := Aside0.mk hsq
          clear hsq
          go_wp2_with (first
            | (go_at_call 47; refine HSt2.out.mono ?_; rintro e w6 ⟨rfl, hb⟩; have HB6 := Aside0.mk hb; clear hb))
          go_ret
          exact text_some (grown_then HG5.out (by rw [← HBb.out]; exact HB6.out)) HO.out (by rw [← HSq.out] <;> rfl) ((HB6.out.block g (by have := HLt.out; have := HBb.out; omega)).trans HP5.out)
        · have hx92 : x = 92 := by rw [HC.out.2, hcq]; rfl
          have hr := HHr.out
          rw [hcq] at hr
          have HHr2 := Aside0.mk hr
          clear HC hcq HHr hr
          subst hx92
          go_upto_region 9 with (fail)
          have HP5 := Aside0.mk (show PS (w4.setCell ⟨g, 0, none⟩ (.string sr)) g r b by rw [HSr.out]; exact HP4.out.left _)
          have HBu5 := Aside0.mk (bu_grown HBu4.out (grown_set w4 g 0 (.string sr)) (by have := HLt.out; have := HBb.out; omega))
          have HG5 := Aside0.mk (grown2 HG4.out (grown_set w4 g 0 (.string sr)))
          generalize w4.setCell ⟨g, 0, none⟩ (.string sr) = w5 at HP5 HBu5 HG5 ⊢
          clear p4 f4 hb0 hslt hsld
          have HEs := Aside0.mk (escaped_calls HA.out w5 g r b HP5.out (by have h1 := HLn.out; have h2 := HN.out; have h3 := HLl.out; omega) B (HE.out.step HG5.out HBg.out) HBg.out)
          cases hes : escP r with
          | none =>
            have HO := Aside0.mk (show textP (l.length + 1) l = none by rw [HTx.out, textP_bad HHr2.out hes]; rfl)
            have HEn := Aside0.mk hes
            clear hes
            go_upto_region 13 with (first
              | (go_at_call 59; refine HEs.out.mono ?_; rintro e w6 he; obtain ⟨y, l6, rfl, hp, hg⟩ := esc_bad he HEn.out; have HP6 := Aside0.mk hp; have HG6 := Aside0.mk (grown2 HG5.out hg); clear he hp hg))
            have HF := Aside0.mk (fails_calls w6 g l6 b HP6.out)
            go_wp2_with (first
              | (go_at_call 58; refine HF.out.mono ?_; rintro e w7 ⟨rfl, hp, hb⟩; have HP7 := Aside0.mk hp; have HG7 := Aside0.mk (grown2 HG6.out hb); clear hp hb))
            go_ret
            exact text_none HG7.out HO.out rfl HP7.out
          | some p =>
            obtain ⟨ex, r6⟩ := p
            have HTx2 := Aside0.mk (fun n => textP_step (n := n) HHr2.out (by rw [← HSg.out, ← HLo.out]) hes)
            have HEl := Aside0.mk (escP_length r ex r6 hes)
            have HEn := Aside0.mk hes
            obtain ⟨xe, hxe⟩ : ∃ q : Int, q = (ex.toNat : Int) := ⟨_, rfl⟩
            have HXe := Aside0.mk hxe
            clear hes hxe
            go_upto_region 15 with (first
              | (go_at_call 59; refine HEs.out.mono ?_; rintro e w6 he; obtain ⟨rfl, hp, hg⟩ := esc_ok he HEn.out; rw [← HXe.out]; have HP6 := Aside0.mk hp; have HG6 := Aside0.mk (grown2 HG5.out hg); have HBu6 := Aside0.mk (bu_grown HBu5.out hg (by have := HLt.out; have := HBb.out; omega)); clear he hp hg))
            have HWb := Aside0.mk (WriteByt bb bb (acc ++ sg) ex xe w6 HXe.out HBu6.out (by have h1 := HLn.out; have h2 := HN.out; have h3 := HLl.out; have h4 := HNn.out; rw [List.length_append]; omega) (by rw [HBb.out]; exact HG6.out.size))
            go_wp2_with (first
              | (go_at_call 43; refine HWb.out.mono ?_; rintro e w7 ⟨rfl, hbu, hb⟩; have HBu7 := Aside0.mk hbu; have HB7 := Aside0.mk hb; clear hbu hb))
            have hkq : 1 ≤ gk := by have h1 := HLn.out; have h3 := HLl.out; omega
            go_roundg (gk - 1)
            case measure => omega
            case rel =>
              refine ⟨(acc ++ sg) ++ [ex], r6, ⟨(HB7.out.block g (by have := HLt.out; have := HBb.out; omega)).trans HP6.out⟩, HBu7, ⟨grown_then HG6.out (by rw [← HBb.out]; exact HB7.out)⟩, ⟨?_⟩, ⟨?_⟩⟩
              · rw [HTx.out, HTx2.out gk, ← HSg.out, pre_pre, show gk - 1 + 1 = gk by omega, List.append_assoc]
              · have h1 := HLn.out; have h3 := HLl.out; have h4 := HNn.out; have h5 := HEl.out
                simp only [List.length_append, List.length_cons, List.length_nil]; omega

end Go.Proofs.YtmhfkbgdkgfafaaGreatDoor.Js
end

section
/- json's parser reads a value's text. -/
namespace Go.Proofs.YtmhfkbgdkgfafaaGreatDoor.Js
open Go.RowKit Go.Proofs.YtmhfkbgdkgfafaaGreatDoor.QJson Go.Proofs.YtmhfkbgdkgfafaaGreatDoorW.PrintWords Go.Proofs.YtmhfkbgdkgfafaaGreatDoorW.PrintLast Go.Proofs.YtmhfkbgdkgfafaaGreatDoorW.PrintMore
set_option linter.unusedVariables false
set_option linter.unusedSimpArgs false

/-! ### the order of keys -/
theorem less_irrefl (a : List UInt8) : Op.bytesLess a a = false := by
  induction a with
  | nil => rfl
  | cons x l ih => simp [Op.bytesLess, ih]
theorem less_trans (a b c : List UInt8) (h1 : Op.bytesLess a b = true) (h2 : Op.bytesLess b c = true) : Op.bytesLess a c = true := by
  induction a generalizing b c with
  | nil =>
    cases c with
    | nil => cases b <;> simp [Op.bytesLess] at h2
    | cons z n => rfl
  | cons x l ih =>
    cases b with
    | nil => simp [Op.bytesLess] at h1
    | cons y m =>
      cases c with
      | nil => simp [Op.bytesLess] at h2
      | cons z n =>
        simp only [Op.bytesLess, Bool.or_eq_true, Bool.and_eq_true, decide_eq_true_eq, beq_iff_eq] at h1 h2 ⊢
        rcases h1 with h1 | ⟨rfl, h1⟩
        · rcases h2 with h2 | ⟨rfl, h2⟩
          · left; exact UInt8.lt_trans h1 h2
          · left; exact h1
        · rcases h2 with h2 | ⟨rfl, h2⟩
          · left; exact h2
          · right; exact ⟨rfl, ih m n h1 h2⟩
theorem bsGo_at (less : Nat → Bool) (k H : Nat) (h1 : ∀ t, t < k → less t = true) (h2 : ∀ t, k ≤ t → t < H → less t = false) : ∀ (f lo hi : Nat), hi - lo ≤ f → lo ≤ k → k ≤ hi → hi ≤ H → Lib.bsGo less f lo hi = k
  | 0, lo, hi, hf, a, b, _ => by simp [Lib.bsGo]; omega
  | f + 1, lo, hi, hf, a, b, c => by
    unfold Lib.bsGo
    by_cases h : lo < hi
    · rw [if_pos h]
      by_cases hm : (lo + hi) / 2 < k
      · rw [h1 _ hm, if_pos rfl]; exact bsGo_at less k H h1 h2 f _ _ (by omega) (by omega) b c
      · rw [h2 _ (by omega) (by omega)]; exact bsGo_at less k H h1 h2 f _ _ (by omega) a (by omega) (by omega)
    · rw [if_neg h]; omega
theorem asc_lt {ks : List ByteArray} (h : Ascs ks) (i j : Nat) (hij : i < j) (hj : j < ks.length) : Op.bytesLess (ks[i]'(by omega)).toList ks[j].toList = true := by
  induction j with
  | zero => omega
  | succ j ih =>
    by_cases he : i = j
    · subst he; exact h i hj
    · exact less_trans _ _ _ (ih (by omega) (by omega)) (h j hj)
/-- A key behind all the others. -/
theorem low_last (ks : List ByteArray) (k : ByteArray) (h : ∀ i (hi : i < ks.length), Op.bytesLess ks[i].toList k.toList = true) : lowK ks k = ks.length ∧ hadK ks k = false := by
  have e : lowK ks k = ks.length := bsGo_at _ ks.length ks.length (fun t ht => by
    have := h t ht
    simpa [List.getD_eq_getElem?_getD, ht] using this) (fun t h1 h2 => by omega) _ _ _ (by omega) (by omega) (by omega) (by omega)
  refine ⟨e, ?_⟩
  unfold hadK
  rw [e]; simp
/-- A key ahead of all the others. -/
theorem low_first (ks : List ByteArray) (k : ByteArray) (h : ∀ i (hi : i < ks.length), Op.bytesLess k.toList ks[i].toList = true) : lowK ks k = 0 ∧ hadK ks k = false := by
  have hno : ∀ i (hi : i < ks.length), Op.bytesLess ks[i].toList k.toList = false := fun i hi => by
    cases hx : Op.bytesLess ks[i].toList k.toList with
    | false => rfl
    | true => have := less_trans _ _ _ (h i hi) hx; rw [less_irrefl] at this; cases this
  have e : lowK ks k = 0 := bsGo_at _ 0 ks.length (fun t ht => by omega) (fun t h1 h2 => by
    have := hno t h2
    simpa [List.getD_eq_getElem?_getD, h2] using this) _ _ _ (by omega) (by omega) (by omega) (by omega)
  refine ⟨e, ?_⟩
  unfold hadK
  rw [e]
  cases ks with
  | nil => rfl
  | cons a ks =>
    have h0 := h 0 (by simp)
    simp only [List.length_cons, Nat.zero_lt_succ, decide_true, Bool.true_and, List.getD_cons_zero]
    rw [beq_eq_false_iff_ne]
    intro he
    rw [List.getElem_cons_zero, he, less_irrefl] at h0
    cases h0

/-! ### items between commas -/
theorem listP_sk {α : Type} (E : UInt8) (I : α → List UInt8 → Option (α × List UInt8)) (n : Nat) (a : α) (l : List UInt8) : listP E I n a (sk l) = listP E I n a l := by
  cases n with
  | zero => rfl
  | succ n => rw [listP, listP, sk_sk]
theorem listS_empty {α : Type} (E : UInt8) (hb : blankB E = false) (I : α → List UInt8 → Option (α × List UInt8)) (rest g : List UInt8) (hg : ∀ c ∈ g, blankB c = true) (a : α) (n : Nat) : listS E I n a (g ++ E :: rest) = some (a, rest) := by
  unfold listS
  rw [sk_blank hg, sk_cons hb, tk_one]

/-! ### values -/
theorem valueP_null (d : Nat) (l : List UInt8) : valueP (d + 1) (nulT ++ l) = some (⟨1, 0, ⟨#[]⟩, [], []⟩, l) := by
  rw [valueP, tk_self]
theorem valueP_false (d : Nat) (l : List UInt8) : valueP (d + 1) (falT ++ l) = some (⟨2, 0, ⟨#[]⟩, [], []⟩, l) := by
  rw [valueP, show tk nulT (falT ++ l) = none from tk_head _ _ (by decide)]
  dsimp only
  rw [tk_self]
theorem valueP_true (d : Nat) (l : List UInt8) : valueP (d + 1) (truT ++ l) = some (⟨3, 0, ⟨#[]⟩, [], []⟩, l) := by
  rw [valueP, show tk nulT (truT ++ l) = none from tk_head _ _ (by decide)]
  dsimp only
  rw [show tk falT (truT ++ l) = none from tk_head _ _ (by decide)]
  dsimp only
  rw [tk_self]
theorem words_none {c : UInt8} (l : List UInt8) (h1 : c ≠ 110) (h2 : c ≠ 102) (h3 : c ≠ 116) : tk nulT (c :: l) = none ∧ tk falT (c :: l) = none ∧ tk truT (c :: l) = none :=
  ⟨tk_head _ _ (Ne.symm h1), tk_head _ _ (Ne.symm h2), tk_head _ _ (Ne.symm h3)⟩
theorem valueP_str (d : Nat) (l : List UInt8) : valueP (d + 1) (34 :: l) = (match textP (l.length + 1) l with | none => none | some (t, q) => some (⟨5, 0, str t, [], []⟩, q)) := by
  obtain ⟨h1, h2, h3⟩ := words_none (c := 34) l (by decide) (by decide) (by decide)
  rw [valueP, h1]
  dsimp only
  rw [h2]
  dsimp only
  rw [h3]
  dsimp only
  rw [tk_one]
  all_goals dsimp only
  all_goals (cases textP (l.length + 1) l <;> rfl)
theorem valueP_arr (d : Nat) (l : List UInt8) : valueP (d + 1) (91 :: l) = (match listS 93 (arrI (valueP d)) (l.length + 1) [] l with | none => none | some (ps, q) => some (⟨6, 0, ⟨#[]⟩, [], ps⟩, q)) := by
  obtain ⟨h1, h2, h3⟩ := words_none (c := 91) l (by decide) (by decide) (by decide)
  rw [valueP, h1]
  dsimp only
  rw [h2]
  dsimp only
  rw [h3]
  dsimp only
  rw [tk_ne (by decide)]
  dsimp only
  rw [tk_one]
  all_goals dsimp only
  all_goals (cases listS 93 (arrI (valueP d)) (l.length + 1) [] l <;> rfl)
theorem valueP_obj (d : Nat) (l : List UInt8) : valueP (d + 1) (123 :: l) = (match listS 125 (objI (valueP d)) (l.length + 1) ([], []) l with | none => none | some (a, q) => some (⟨7, 0, ⟨#[]⟩, a.1, a.2⟩, q)) := by
  obtain ⟨h1, h2, h3⟩ := words_none (c := 123) l (by decide) (by decide) (by decide)
  rw [valueP, h1]
  dsimp only
  rw [h2]
  dsimp only
  rw [h3]
  dsimp only
  rw [tk_ne (by decide)]
  dsimp only
  rw [tk_ne (by decide)]
  dsimp only
  rw [tk_one]
  all_goals dsimp only
  all_goals (cases listS 125 (objI (valueP d)) (l.length + 1) ([], []) l <;> rfl)
theorem valueP_num (d : Nat) (c : UInt8) (l : List UInt8) (h1 : c ≠ 110) (h2 : c ≠ 102) (h3 : c ≠ 116) (h4 : c ≠ 34) (h5 : c ≠ 91) (h6 : c ≠ 123) : valueP (d + 1) (c :: l) = (match numP (c :: l) with | none => none | some (k, r) => some (⟨4, k, ⟨#[]⟩, [], []⟩, r)) := by
  obtain ⟨g1, g2, g3⟩ := words_none (c := c) l h1 h2 h3
  rw [valueP, g1]
  dsimp only
  rw [g2]
  dsimp only
  rw [g3]
  dsimp only
  rw [tk_ne (Ne.symm h4)]
  dsimp only
  rw [tk_ne (Ne.symm h5)]
  dsimp only
  rw [tk_ne (Ne.symm h6)]
  all_goals dsimp only
  all_goals (cases numP (c :: l) <;> rfl)
/-- A number's text begins so. -/
theorem itoa_head (n : Int) : ∃ c l, Lib.itoa n = c :: l ∧ (c.toNat = 45 ∨ digitB c = true) := by
  unfold Lib.itoa
  split
  · exact ⟨45, _, rfl, .inl rfl⟩
  · cases h : Lib.decDigits n.toNat with
    | nil => exact absurd h (decDigits_ne _)
    | cons c l => exact ⟨c, l, rfl, .inr (decDigits_digit n.toNat c (by rw [h]; exact List.mem_cons_self ..))⟩
theorem head_ne {c : UInt8} (h : c.toNat = 45 ∨ digitB c = true) : 45 ≤ c.toNat ∧ c.toNat ≤ 57 := by
  rcases h with h | h
  · omega
  · unfold digitB at h
    simp only [Bool.and_eq_true, decide_eq_true_eq] at h; omega
theorem ne_of_nat {c : UInt8} {k : UInt8} (h : c.toNat ≠ k.toNat) : c ≠ k := fun e => h (by rw [e])
def noDigit (l : List UInt8) : Prop := ∀ c, l.head? = some c → digitB c = false
theorem valueP_itoa (d : Nat) (n : Int) (h0 : -9007199254740992 < n) (h1 : n < 9007199254740992) {b : List UInt8} (hb : noDigit b) : valueP (d + 1) (Lib.itoa n ++ b) = some (⟨4, n, ⟨#[]⟩, [], []⟩, b) := by
  obtain ⟨c, l, he, hc⟩ := itoa_head n
  have hr := head_ne hc
  have hn := numP_itoa n h0 h1 (b := b) hb
  rw [he, List.cons_append] at hn ⊢
  rw [valueP_num d c _ (ne_of_nat (by show _ ≠ 110; omega)) (ne_of_nat (by show _ ≠ 102; omega)) (ne_of_nat (by show _ ≠ 116; omega)) (ne_of_nat (by show _ ≠ 34; omega)) (ne_of_nat (by show _ ≠ 91; omega)) (ne_of_nat (by show _ ≠ 123; omega)), hn]
theorem flat_le (l : List UInt8) : l.length ≤ (l.flatMap esc).length := by
  induction l with
  | nil => simp
  | cons c l ih =>
    rw [List.flatMap_cons, List.length_append, List.length_cons]
    have : 1 ≤ (esc c).length := by
      unfold esc
      repeat' split
      all_goals simp
    omega
theorem quote_app (t rest : List UInt8) : quote t ++ rest = 34 :: (t.flatMap esc ++ 34 :: rest) := by
  unfold quote; rw [List.cons_append, List.append_assoc]; rfl
theorem textP_fuel (t rest : List UInt8) : textP ((t.flatMap esc ++ 34 :: rest).length + 1) (t.flatMap esc ++ 34 :: rest) = some (t, rest) :=
  textP_quote t _ rest (by have := flat_le t; rw [List.length_append, List.length_cons]; omega)
theorem valueP_quote (d : Nat) (t rest : List UInt8) : valueP (d + 1) (quote t ++ rest) = some (⟨5, 0, str t, [], []⟩, rest) := by
  rw [quote_app, valueP_str, textP_fuel]
theorem str_back (t : ByteArray) : str t.data.toList = t := by
  apply ByteArray.ext; simp [str]
theorem empty_text {t : ByteArray} (h : t.toList.isEmpty = true) : t = ⟨#[]⟩ := by
  rw [Lib.toList_data] at h
  have : t.data.toList = [] := by simpa using h
  rw [← str_back t, this]; rfl
/-- A plain value's text. -/
theorem valueP_leaf {e : Nat} {v : S26} (hv : WF e v) (h6 : v.f0 ≠ 6) (h7 : v.f0 ≠ 7) (d : Nat) {rest : List UInt8} (hr : noDigit rest) : valueP (d + 1) (vt v ++ rest) = some (v, rest) := by
  have hk := hv.kind
  have hp := hv.plainOk
  have hl := hv.leaf h6 h7
  have hn := hv.num
  obtain ⟨k, n, t, ks, ps⟩ := v
  dsimp only at *
  subst hl
  unfold plainB at hp
  have e6 : (k == 6) = false := beq_eq_false_iff_ne.2 h6
  have e7 : (k == 7) = false := beq_eq_false_iff_ne.2 h7
  rw [e6, e7] at hp
  simp only [Bool.false_or, Bool.and_eq_true, Bool.or_eq_true, beq_iff_eq] at hp
  obtain ⟨⟨⟨hp1, hp2⟩, hp3⟩, hp4⟩ := hp
  obtain rfl : ks = [] := List.length_eq_zero_iff.1 hp3
  have hcase : k = 1 ∨ k = 2 ∨ k = 3 ∨ k = 4 ∨ k = 5 := by omega
  rw [vt]
  rcases hcase with rfl | rfl | rfl | rfl | rfl
  · obtain rfl : n = 0 := by omega
    obtain rfl := empty_text (hp2.resolve_left (by decide))
    exact valueP_null d rest
  · obtain rfl : n = 0 := by omega
    obtain rfl := empty_text (hp2.resolve_left (by decide))
    exact valueP_false d rest
  · obtain rfl : n = 0 := by omega
    obtain rfl := empty_text (hp2.resolve_left (by decide))
    exact valueP_true d rest
  · obtain rfl := empty_text (hp2.resolve_left (by decide))
    exact valueP_itoa d n hn.1 hn.2 hr
  · obtain rfl : n = 0 := by omega
    have := valueP_quote d t.data.toList rest
    rw [str_back] at this
    exact this
/-- A value's text begins so. -/
theorem vt_head {e : Nat} {v : S26} (hv : WF e v) : ∃ c l, vt v = c :: l ∧ blankB c = false ∧ c ≠ 93 ∧ c ≠ 125 ∧ c ≠ 44 ∧ c ≠ 58 := by
  have hk := hv.kind
  obtain ⟨k, n, t, ks, ps⟩ := v
  dsimp only at hk
  rw [vt]
  have hcase : k = 1 ∨ k = 2 ∨ k = 3 ∨ k = 4 ∨ k = 5 ∨ k = 6 ∨ k = 7 := by omega
  rcases hcase with rfl | rfl | rfl | rfl | rfl | rfl | rfl
  · exact ⟨_, _, rfl, by decide, by decide, by decide, by decide, by decide⟩
  · exact ⟨_, _, rfl, by decide, by decide, by decide, by decide, by decide⟩
  · exact ⟨_, _, rfl, by decide, by decide, by decide, by decide, by decide⟩
  · obtain ⟨c, l, he, hc⟩ := itoa_head n
    have hr := head_ne hc
    refine ⟨c, l, he, ?_, ne_of_nat (by show _ ≠ 93; omega), ne_of_nat (by show _ ≠ 125; omega), ne_of_nat ?_, ne_of_nat (by show _ ≠ 58; omega)⟩
    · unfold blankB
      simp only [List.contains_eq_mem, List.mem_cons, List.not_mem_nil, or_false, decide_eq_false_iff_not, not_or]
      exact ⟨ne_of_nat (by show _ ≠ 32; omega), ne_of_nat (by show _ ≠ 9; omega), ne_of_nat (by show _ ≠ 10; omega), ne_of_nat (by show _ ≠ 13; omega)⟩
    · show c.toNat ≠ 44; omega
  · exact ⟨_, _, rfl, by decide, by decide, by decide, by decide, by decide⟩
  · exact ⟨_, _, rfl, by decide, by decide, by decide, by decide, by decide⟩
  · exact ⟨_, _, rfl, by decide, by decide, by decide, by decide, by decide⟩
theorem WF.up {d : Nat} : ∀ {v : S26}, WF d v → ∀ e, d ≤ e → WF e v := by
  induction d with
  | zero => intro v h; cases h
  | succ d ih =>
    intro v h e he
    obtain ⟨f, rfl⟩ : ∃ f, e = f + 1 := ⟨e - 1, by omega⟩
    cases h with
    | mk h1 h2 h3 h4 h5 h6 h7 h8 => exact .mk h1 h2 h3 h4 h5 h6 h7 (fun p hp => ih (h8 p hp) f (by omega))

end Go.Proofs.YtmhfkbgdkgfafaaGreatDoor.Js
end

section
/- json's parser: list, whatever its items are. -/
namespace Go.Proofs.YtmhfkbgdkgfafaaGreatDoor.Js
open Go.RowKit Go.Proofs.YtmhfkbgdkgfafaaGreatDoor.QJson Go.Proofs.YtmhfkbgdkgfafaaGreatDoorW.PrintWords Go.Proofs.YtmhfkbgdkgfafaaGreatDoorW.PrintLast Go.Proofs.YtmhfkbgdkgfafaaGreatDoorW.PrintMore
set_option linter.unusedVariables false
set_option linter.unusedSimpArgs false

/-- All blocks stay but these two. -/
structure Two (g v bs : Nat) (w w' : World) : Prop where
  os : w'.os = w.os
  tape : w'.tape = w.tape
  output : w'.output = w.output
  size : w.heap.size ≤ w'.heap.size
  block : ∀ k, k < w.heap.size → k < bs → k ≠ g → k ≠ v → w'.heap[k]? = w.heap[k]?
theorem Two.refl (g v bs : Nat) (w : World) : Two g v bs w w := ⟨rfl, rfl, rfl, Nat.le_refl _, fun _ _ _ _ _ => rfl⟩
theorem Two.trans {g v bs : Nat} {w w1 w2 : World} (h : Two g v bs w w1) (k : Two g v bs w1 w2) : Two g v bs w w2 :=
  ⟨k.os.trans h.os, k.tape.trans h.tape, k.output.trans h.output, Nat.le_trans h.size k.size, fun q hq h0 h1 h2 => (k.block q (Nat.lt_of_lt_of_le hq h.size) h0 h1 h2).trans (h.block q hq h0 h1 h2)⟩
theorem Two.of_grown {g v bs : Nat} {w w1 : World} (h : w.grownBy w1 (some g)) : Two g v bs w w1 :=
  ⟨h.os, h.tape, h.output, h.size, fun q hq _ h1 _ => h.block q hq (fun e => h1 (by injection e))⟩
theorem Two.of_grown' {g v bs : Nat} {w w1 : World} (h : w.grownBy w1 (some v)) : Two g v bs w w1 :=
  ⟨h.os, h.tape, h.output, h.size, fun q hq _ _ h1 => h.block q hq (fun e => h1 (by injection e))⟩
theorem Two.of_below {g v bs : Nat} {w w1 : World} (h : Below w.heap.size w w1) : Two g v bs w w1 :=
  ⟨h.os, h.tape, h.output, h.size, fun q hq _ _ _ => h.block q hq⟩
/-- What is written lies behind. -/
theorem Two.of_row {g v bs : Nat} {w w1 : World} {row : Option Nat} (h : w.grownBy w1 row) (hr : ∀ k, row = some k → bs ≤ k) : Two g v bs w w1 :=
  ⟨h.os, h.tape, h.output, h.size, fun q hq hb _ _ => h.block q hq (fun e => by have := hr q e.symm; omega)⟩
theorem takes_some {w : World} {g : Nat} {l s q : List UInt8} {b : Bool} (h : PS w g l b) (ht : tk s l = some q) :
    Calls Tryz.prog 30 #[.pointer (some ⟨g, 0, none⟩), .string (str s)] w fun e w' => e = .returned (.bool true) ∧ PS w' g q b ∧ w.grownBy w' (some g) := by
  refine (takes_calls w g l s b h).mono ?_
  rintro e w' ⟨rfl, h1, h2⟩
  unfold tk at ht
  split at ht
  · rename_i hp
    rw [if_pos hp] at h1
    cases ht
    exact ⟨by rw [hp], h1, h2⟩
  · cases ht
theorem takes_none {w : World} {g : Nat} {l s : List UInt8} {b : Bool} (h : PS w g l b) (ht : tk s l = none) :
    Calls Tryz.prog 30 #[.pointer (some ⟨g, 0, none⟩), .string (str s)] w fun e w' => e = .returned (.bool false) ∧ PS w' g l b ∧ w.grownBy w' (some g) := by
  refine (takes_calls w g l s b h).mono ?_
  rintro e w' ⟨rfl, h1, h2⟩
  unfold tk at ht
  split at ht
  · cases ht
  · rename_i hp
    rw [if_neg hp] at h1
    exact ⟨by rw [Bool.eq_false_iff.2 hp], h1, h2⟩
/-- What an item's call comes to. -/
def ItemOut {α : Type} (g v bs : Nat) (I : α → List UInt8 → Option (α × List UInt8)) (Inv : α → World → Prop) (a : α) (l : List UInt8) (w : World) (e : Ending) (w' : World) : Prop :=
  e = .returned (.tuple #[]) ∧ Two g v bs w w' ∧ ((∃ a' r, I a l = some (a', r) ∧ PS w' g r false ∧ Inv a' w') ∨ (I a l = none ∧ PS w' g [] true ∧ ∃ a', Inv a' w'))
def ListOut {α : Type} (g v bs : Nat) (o : Option (α × List UInt8)) (Inv : α → World → Prop) (w : World) (e : Ending) (w' : World) : Prop :=
  e = .returned (.tuple #[]) ∧ Two g v bs w w' ∧ ((∃ a' r, o = some (a', r) ∧ PS w' g r false ∧ Inv a' w') ∨ (o = none ∧ PS w' g [] true ∧ ∃ a', Inv a' w'))
theorem tk_le {s l q : List UInt8} (h : tk s l = some q) : q.length + s.length = l.length := by
  rw [tk_some h, List.length_append]; omega

/-- At the head of the list's loop. -/
def ListP {α : Type} (sz : α → Nat) (E : UInt8) (I : α → List UInt8 → Option (α × List UInt8)) (g : Nat) (Inv : α → World → Prop) (k mx : Nat) (res : Option (α × List UInt8)) (w : World) : Prop :=
  (∃ a l, PS w g l false ∧ Inv a w ∧ res = listP E I k a l ∧ l.length < k ∧ (sz a + l.length ≤ mx ∧ l.length ≤ mx)) ∨ (res = none ∧ PS w g [] true ∧ ∃ a, Inv a w)

set_option maxHeartbeats 8000000 in
set_option maxRecDepth 100000 in
theorem list_calls {α : Type} (E : UInt8) (I : α → List UInt8 → Option (α × List UInt8)) (sz : α → Nat) (fn : Nat) (caps : Array Value) (g v bs M : Nat) (Inv : α → World → Prop)
    (eg : ∀ args w, (callFunc fn args).run Tryz.prog w = .ok (.enter fn args) w)
    (hInv : ∀ a w w', Inv a w → w.grownBy w' (some g) → Inv a w')
    (hsz : ∀ a l a' r, I a l = some (a', r) → sz a' + r.length ≤ sz a + l.length ∧ r.length ≤ l.length)
    (item : ∀ a l w, PS w g l false → Inv a w → sz a + l.length ≤ M → l.length ≤ M → Calls Tryz.prog fn caps w fun e w' => ItemOut g v bs I Inv a l w e w')
    (a : α) (l : List UInt8) (w : World) (h : PS w g l false) (hi : Inv a w) (hM : sz a + l.length ≤ M) :
    Calls Tryz.prog 32 #[.pointer (some ⟨g, 0, none⟩), .string (str [E]), .func (.func fn) #[] caps] w fun e w' => ListOut g v bs (listS E I (l.length + 1) a l) Inv w e w' := by
  have HI := Aside0.mk hInv
  have HS := Aside0.mk hsz
  have HIt := Aside0.mk item
  have HP := Aside0.mk h
  have Hi := Aside0.mk hi
  have HM := Aside0.mk hM
  have HSk := Aside0.mk (skip_calls w g l false h)
  obtain ⟨l1, hl1⟩ : ∃ q, q = Lib.trimLeftS l [32, 9, 10, 13] := ⟨_, rfl⟩
  rw [← hl1] at HSk
  have HL1 := Aside0.mk (show l1 = sk l from hl1)
  obtain ⟨es, hes⟩ : ∃ q, q = str [E] := ⟨_, rfl⟩
  have HEs := Aside0.mk hes
  obtain ⟨res, hres⟩ : ∃ q, q = listS E I (l.length + 1) a l := ⟨_, rfl⟩
  have HRes := Aside0.mk hres
  rw [← hes, ← hres]
  clear hres
  clear hInv hsz item h hi hM hl1 hes
  go_enter Tryz.func32, Tryz.ntmps32
  go_upto_region 1 with (first
    | (go_at_call 20; refine HSk.out.mono ?_; rintro e w1 ⟨rfl, hp, hb⟩; have HP1 := Aside0.mk hp; have HG1 := Aside0.mk hb; clear hp hb))
  cases ht : tk [E] l1 with
  | some q =>
    have HT := Aside0.mk (takes_some HP1.out ht)
    rw [← HEs.out] at HT
    have HO := Aside0.mk (show res = some (a, q) by rw [HRes.out]; unfold listS; rw [← HL1.out, ht])
    clear ht
    go_wp2_with (first
      | (go_at_call 30; refine HT.out.mono ?_; rintro e w2 ⟨rfl, hp, hb⟩; have HP2 := Aside0.mk hp; have HG2 := Aside0.mk (grown2 HG1.out hb); clear hp hb))
    go_end0
    exact ⟨rfl, Two.of_grown HG2.out, .inl ⟨a, q, HO.out, HP2.out, HI.out _ _ _ Hi.out HG2.out⟩⟩
  | none =>
    have HT := Aside0.mk (takes_none HP1.out ht)
    rw [← HEs.out] at HT
    have HO := Aside0.mk (show res = listP E I (l.length + 1) a l1 by rw [HRes.out]; unfold listS; rw [← HL1.out, ht])
    have HLe := Aside0.mk (show l1.length ≤ l.length by rw [HL1.out]; exact sk_le l)
    clear ht
    go_wp2_with (first
      | (go_at_call 30; refine HT.out.mono ?_; rintro e w2 ⟨rfl, hp, hb⟩; have HP2 := Aside0.mk hp; have HG2 := Aside0.mk (grown2 HG1.out hb); clear hp hb))
    have Hi2 := Aside0.mk (HI.out _ _ _ Hi.out HG2.out)
    have HW2 := Aside0.mk (show Two g v bs w w2 from Two.of_grown HG2.out)
    have HR0 := Aside0.mk (show ListP sz E I g Inv (l.length + 1) (sz a + l.length) res w2 from .inl ⟨a, l1, HP2.out, Hi2.out, HO.out, by have := HLe.out; omega, by have := HLe.out; omega, by have := HLe.out; omega⟩)
    obtain ⟨mx, hmx⟩ : ∃ q, q = sz a + l.length := ⟨_, rfl⟩
    rw [← hmx] at HR0 HM
    clear hmx
    go_loopg [] (l.length + 1) (fun kq wr => Aside0 (ListP sz E I g Inv kq mx res wr) ∧ Aside0 (Two g v bs w wr))
    case atStart => exact ⟨HR0, HW2⟩
    case round =>
      obtain ⟨HR, HWr⟩ := hrel
      rcases HR.out with ⟨a3, l3, hp3, hi3, ho3, hl3, hm3⟩ | ⟨ho3, hp3, a3, hi3⟩
      · have HP3 := Aside0.mk hp3
        have Hi3 := Aside0.mk hi3
        have HO3 := Aside0.mk ho3
        have HL3 := Aside0.mk (And.intro hl3 hm3)
        have c1 := hp3.cells.2.1
        have HSk3 := Aside0.mk (skip_calls wr g l3 false hp3)
        obtain ⟨l4, hl4⟩ : ∃ q, q = Lib.trimLeftS l3 [32, 9, 10, 13] := ⟨_, rfl⟩
        rw [← hl4] at HSk3
        have HL4 := Aside0.mk (show l4 = sk l3 from hl4)
        clear hp3 hi3 ho3 hl3 hm3 hl4
        go_upto_region 4 with (first
          | (go_at_call 20; refine HSk3.out.mono ?_; rintro e w4 ⟨rfl, hp, hb⟩; have HP4 := Aside0.mk hp; have HG4 := Aside0.mk hb; clear hp hb))
        have Hi4 := Aside0.mk (HI.out _ _ _ Hi3.out HG4.out)
        have HL4e := Aside0.mk (show l4.length ≤ l3.length by rw [HL4.out]; exact sk_le l3)
        have HIc := Aside0.mk (HIt.out a3 l4 w4 HP4.out Hi4.out (by have := HL4e.out; have := HL3.out; have := HM.out; omega) (by have := HL4e.out; have := HL3.out; have := HM.out; omega))
        go_upto_region 5 with (first
          | (go_at_fn fn; refine HIc.out.mono ?_; rintro e w5 ⟨rfl, h5, h6⟩; have HW5 := Aside0.mk h5; have H5 := Aside0.mk h6; clear h5 h6))
        have HWr5 := Aside0.mk (HWr.out.trans ((Two.of_grown HG4.out).trans HW5.out))
        rcases H5.out with ⟨a5, r5, ho5, hp5, hi5⟩ | ⟨ho5, hp5, a5, hi5⟩
        · have HP5 := Aside0.mk hp5
          have Hi5 := Aside0.mk hi5
          have HO5 := Aside0.mk ho5
          have HSz5 := Aside0.mk (HS.out _ _ _ _ ho5)
          have HSk5 := Aside0.mk (skip_calls w5 g r5 false hp5)
          obtain ⟨l6, hl6⟩ : ∃ q, q = Lib.trimLeftS r5 [32, 9, 10, 13] := ⟨_, rfl⟩
          rw [← hl6] at HSk5
          have HL6 := Aside0.mk (show l6 = sk r5 from hl6)
          clear hp5 hi5 ho5 hl6
          go_upto_region 6 with (first
            | (go_at_call 20; refine HSk5.out.mono ?_; rintro e w6 ⟨rfl, hp, hb⟩; have HP6 := Aside0.mk hp; have HG6 := Aside0.mk hb; clear hp hb))
          have Hi6 := Aside0.mk (HI.out _ _ _ Hi5.out HG6.out)
          have HL6e := Aside0.mk (show l6.length ≤ r5.length by rw [HL6.out]; exact sk_le r5)
          have HWr6 := Aside0.mk (HWr5.out.trans (Two.of_grown HG6.out))
          obtain ⟨k2, hk2⟩ : ∃ k2, gk = k2 + 1 := ⟨gk - 1, by have := HL3.out; omega⟩
          have HK := Aside0.mk hk2
          cases ht : tk [E] l6 with
          | some q =>
            have HT := Aside0.mk (takes_some HP6.out ht)
            rw [← HEs.out] at HT
            have HO7 := Aside0.mk (show res = some (a5, q) by rw [HO3.out, hk2, listP, ← HL4.out, HO5.out]; dsimp only; rw [← HL6.out, ht])
            clear ht hk2
            go_wp2_with (first
              | (go_at_call 30; refine HT.out.mono ?_; rintro e w7 ⟨rfl, hp, hb⟩; have HP7 := Aside0.mk hp; have HG7 := Aside0.mk hb; clear hp hb))
            go_end0
            exact ⟨rfl, HWr6.out.trans (Two.of_grown HG7.out), .inl ⟨a5, q, HO7.out, HP7.out, HI.out _ _ _ Hi6.out HG7.out⟩⟩
          | none =>
            have HT := Aside0.mk (takes_none HP6.out ht)
            rw [← HEs.out] at HT
            go_upto_region 7 with (first
              | (go_at_call 30; refine HT.out.mono ?_; rintro e w7 ⟨rfl, hp, hb⟩; have HP7 := Aside0.mk hp; have HG7 := Aside0.mk hb; clear hp hb))
            have Hi7 := Aside0.mk (HI.out _ _ _ Hi6.out HG7.out)
            have HWr7 := Aside0.mk (HWr6.out.trans (Two.of_grown HG7.out))
            cases hc : tk [44] l6 with
            | some q =>
              have HT8 := Aside0.mk (takes_some HP7.out hc)
              rw [show str [44] = (⟨#[44]⟩ : ByteArray) from rfl] at HT8
              have HO8 := Aside0.mk (show res = listP E I k2 a5 q by rw [HO3.out, hk2, listP, ← HL4.out, HO5.out]; dsimp only; rw [← HL6.out, ht]; dsimp only; rw [hc])
              have HQ := Aside0.mk (tk_le hc)
              clear ht hc hk2
              go_wp2_with (first
                | (go_at_call 30; refine HT8.out.mono ?_; rintro e w8 ⟨rfl, hp, hb⟩; have HP8 := Aside0.mk hp; have HG8 := Aside0.mk hb; clear hp hb))
              go_roundg k2
              case measure => have := HK.out; omega
              case rel =>
                refine ⟨⟨.inl ⟨a5, q, HP8.out, HI.out _ _ _ Hi7.out HG8.out, HO8.out, ?_, ?_, ?_⟩⟩, ⟨HWr7.out.trans (Two.of_grown HG8.out)⟩⟩
                · have h1 := HQ.out; have h2 := HL6e.out; have h3 := HSz5.out; have h4 := HL4e.out; have h5 := HL3.out; have h6 := HK.out
                  simp only [List.length_cons, List.length_nil] at h1; omega
                · have h1 := HQ.out; have h2 := HL6e.out; have h3 := HSz5.out; have h4 := HL4e.out; have h5 := HL3.out
                  simp only [List.length_cons, List.length_nil] at h1; omega
                · have h1 := HQ.out; have h2 := HL6e.out; have h3 := HSz5.out; have h4 := HL4e.out; have h5 := HL3.out
                  simp only [List.length_cons, List.length_nil] at h1; omega
            | none =>
              have HT8 := Aside0.mk (takes_none HP7.out hc)
              rw [show str [44] = (⟨#[44]⟩ : ByteArray) from rfl] at HT8
              have HO8 := Aside0.mk (show res = none by rw [HO3.out, hk2, listP, ← HL4.out, HO5.out]; dsimp only; rw [← HL6.out, ht]; dsimp only; rw [hc])
              clear ht hc hk2
              have HF := Aside0.mk (fun w8 (hp : PS w8 g l6 false) => fails_calls w8 g l6 false hp)
              go_wp2_with (first
                | (go_at_call 30; refine HT8.out.mono ?_; rintro e w8 ⟨rfl, hp, hb⟩; have HP8 := Aside0.mk hp; have HG8 := Aside0.mk hb; clear hp hb)
                | (go_at_call 58; refine (HF.out _ HP8.out).mono ?_; rintro e w9 ⟨rfl, hp, hb⟩; have HP9 := Aside0.mk hp; have HG9 := Aside0.mk (grown2 HG8.out hb); clear hp hb))
              go_roundg k2
              case measure => have := HK.out; omega
              case rel => exact ⟨⟨.inr ⟨HO8.out, HP9.out, a5, HI.out _ _ _ Hi7.out HG9.out⟩⟩, ⟨HWr7.out.trans (Two.of_grown HG9.out)⟩⟩
        · have HP5 := Aside0.mk hp5
          have Hi5 := Aside0.mk hi5
          obtain ⟨k2, hk2⟩ : ∃ k2, gk = k2 + 1 := ⟨gk - 1, by have := HL3.out; omega⟩
          have HK := Aside0.mk hk2
          have HO5 := Aside0.mk (show res = none by rw [HO3.out, hk2, listP, ← HL4.out, ho5])
          have HSk5 := Aside0.mk (skip_calls w5 g [] true hp5)
          rw [show Lib.trimLeftS [] [32, 9, 10, 13] = [] from rfl] at HSk5
          clear hp5 hi5 ho5 hk2
          have HT := Aside0.mk (fun w6 (hp : PS w6 g [] true) => takes_none hp (tk_nil E []))
          rw [← HEs.out] at HT
          have HT8 := Aside0.mk (fun w7 (hp : PS w7 g [] true) => takes_none hp (tk_nil 44 []))
          rw [show str [44] = (⟨#[44]⟩ : ByteArray) from rfl] at HT8
          have HF := Aside0.mk (fun w8 (hp : PS w8 g [] true) => fails_calls w8 g [] true hp)
          go_upto_region 7 with (first
            | (go_at_call 20; refine HSk5.out.mono ?_; rintro e w6 ⟨rfl, hp, hb⟩; have HP6 := Aside0.mk hp; have HG6 := Aside0.mk hb; clear hp hb)
            | (go_at_call 30; refine (HT.out _ HP6.out).mono ?_; rintro e w7 ⟨rfl, hp, hb⟩; have HP7 := Aside0.mk hp; have HG7 := Aside0.mk (grown2 HG6.out hb); clear hp hb))
          go_wp2_with (first
            | (go_at_call 30; refine (HT8.out _ HP7.out).mono ?_; rintro e w8 ⟨rfl, hp, hb⟩; have HP8 := Aside0.mk hp; have HG8 := Aside0.mk (grown2 HG7.out hb); clear hp hb)
            | (go_at_call 58; refine (HF.out _ HP8.out).mono ?_; rintro e w9 ⟨rfl, hp, hb⟩; have HP9 := Aside0.mk hp; have HG9 := Aside0.mk (grown2 HG8.out hb); clear hp hb))
          go_roundg k2
          case measure => have := HK.out; omega
          case rel => exact ⟨⟨.inr ⟨HO5.out, HP9.out, a5, HI.out _ _ _ Hi5.out HG9.out⟩⟩, ⟨HWr5.out.trans (Two.of_grown HG9.out)⟩⟩
      · have HP3 := Aside0.mk hp3
        have Hi3 := Aside0.mk hi3
        have HO3 := Aside0.mk ho3
        have c1 := hp3.cells.2.1
        clear hp3 hi3 ho3
        go_wp2
        go_end0
        exact ⟨rfl, HWr.out, .inr ⟨HO3.out, HP3.out, a3, Hi3.out⟩⟩

end Go.Proofs.YtmhfkbgdkgfafaaGreatDoor.Js
end

section
/- A region that draws its order, by a fact for each of its operations: whatever order is drawn, each operation is met once, with the facts of those that it waits for. -/
namespace Go.Proofs.YtmhfkbgdkgfafaaGreatDoor.Reg
open Go Go.RowKit

/-- Where operation j puts what it gives. -/
def dstOf (ops : Array Oper) (j : Nat) : Nat := ((ops[j]?).bind (·.dst)).getD 0
/-- What operation o waits for. -/
def depsOf (o : Oper) : List Nat := (o.after.toList.filter (Region.binds .any)).map (·.on)
/-- What an operation gives: a value and a world, without a panic. -/
def Gives (P : Program) (o : Oper) (ev : Operand → Value) (w : World) (K : Value → World → Prop) : Prop :=
  match (execOp ev o).run P w with
  | .ok (.value v) w' => K v w'
  | .ok .skip w' => K undef w'
  | .ok (.enter f args) w' => Calls P f args w' fun e w'' => ∃ v, e = .returned v ∧ K v w''
  | _ => False
theorem Gives.wp {P : Program} {o : Oper} {a : Act} {w : World} {K : Value → World → Prop} {Q : Exit → Act → World → Prop} {K' : Act → World → Prop} (h : Gives P o a.eval w K) (hk : ∀ v w', K v w' → K' (a.put o.dst v) w') : o.wp P a w K' Q := by
  unfold Gives at h
  unfold Oper.wp
  generalize (execOp a.eval o).run P w = r at *
  cases r with
  | ok n w' =>
    cases n <;> simp only [Oper.upon] at h ⊢ <;> try exact absurd h id
    · exact hk _ _ h
    · exact hk _ _ h
    · exact Calls.mono h (fun e w'' ⟨v, he, hv⟩ => by subst he; exact hk _ _ hv)
  | halt x w' => exact absurd h id
/-- Is the operation wanted? -/
def Wants (ops : Array Oper) (o : Oper) (ev : Operand → Value) : Prop := match o.guard with
  | none => True
  | some (j, want) => ev (.tmp (dstOf ops j)) = .bool want

/-- The region's first m operations may come in whatever order; those behind them one by one. -/
def regionOk (ops : Array Oper) (m N : Nat) : Bool :=
  decide (m ≤ ops.size) &&
  (List.range ops.size).all (fun k => match ops[k]? with
    | none => false
    | some o =>
      o.after.all (fun e => !Region.binds .any e || decide (e.on < k)) &&
      (match o.guard with
       | none => true
       | some (j, _) => (match (ops[j]?).bind (·.dst) with
         | none => false
         | some d => decide (d < N))) &&
      (if k < m then (match o.dst with
        | none => false
        | some d => decide (d < N) && (List.range m).all (fun j => j == k || (ops[j]?).bind (·.dst) != some d)) else true) &&
      (if m < ops.size ∧ k < m then (List.range ops.size).any (fun j => decide (k < j) && decide (j ≤ m) && (match ops[j]? with
        | none => false
        | some p => p.after.toList.any (fun e => Region.binds .any e && e.on == k))) else true) &&
      (if m < k then o.after.toList.any (fun e => Region.binds .any e && e.on == k - 1) else true))

section
variable {P : Program} {ops : Array Oper} {Q : Exit → Act → World → Prop}

structure OkB (ops : Array Oper) (m N : Nat) : Prop where
  le : m ≤ ops.size
  early : ∀ (k : Nat) (o : Oper), ops[k]? = some o → ∀ e ∈ o.after, Region.binds .any e = true → e.on < k
  guards : ∀ (k : Nat) (o : Oper) (j : Nat) (want : Bool), ops[k]? = some o → o.guard = some (j, want) → ∃ d : Nat, (ops[j]?).bind (·.dst) = some d ∧ d < N
  dsts : ∀ (k : Nat) (o : Oper), k < m → ops[k]? = some o → ∃ d : Nat, o.dst = some d ∧ d < N ∧ ∀ j, j < m → j ≠ k → (ops[j]?).bind (·.dst) ≠ some d
structure Ok (ops : Array Oper) (m N : Nat) : Prop extends OkB ops m N where
  closes : ∀ (k : Nat), m < ops.size → k < m → ∃ (j : Nat) (p : Oper) (e : Edge), k < j ∧ j ≤ m ∧ ops[j]? = some p ∧ e ∈ p.after ∧ Region.binds .any e = true ∧ e.on = k
  tail : ∀ (k : Nat) (o : Oper), m < k → ops[k]? = some o → ∃ e ∈ o.after, Region.binds .any e = true ∧ e.on = k - 1

theorem regionOk_spec {m N : Nat} (h : regionOk ops m N = true) : Ok ops m N := by
  unfold regionOk at h
  rw [Bool.and_eq_true, decide_eq_true_eq, List.all_eq_true] at h
  obtain ⟨h0, h1⟩ := h
  have key : ∀ k o, ops[k]? = some o → _ := fun k o ho => by
    have h2 := h1 k (List.mem_range.2 (Array.getElem?_eq_some_iff.1 ho).1)
    rw [ho] at h2
    simp only [Bool.and_eq_true] at h2
    exact h2
  refine ⟨⟨h0, ?_, ?_, ?_⟩, ?_, ?_⟩
  · intro k o ho e he hb
    have h2 := (key k o ho).1.1.1.1
    rw [Array.all_eq_true_iff_forall_mem] at h2
    have h3 := h2 e he
    rw [hb] at h3
    simpa using h3
  · intro k o j want ho hg
    have h2 := (key k o ho).1.1.1.2
    rw [hg] at h2
    dsimp only at h2
    cases hd : (ops[j]?).bind (·.dst) with
    | none => rw [hd] at h2; cases h2
    | some d => rw [hd] at h2; exact ⟨d, rfl, of_decide_eq_true h2⟩
  · intro k o hk ho
    have h2 := (key k o ho).1.1.2
    rw [if_pos hk] at h2
    cases hd : o.dst with
    | none => rw [hd] at h2; cases h2
    | some d =>
      rw [hd] at h2
      simp only [Bool.and_eq_true, decide_eq_true_eq, List.all_eq_true] at h2
      refine ⟨d, rfl, h2.1, fun j hj hjk => ?_⟩
      have h3 := h2.2 j (List.mem_range.2 hj)
      simp only [Bool.or_eq_true, beq_iff_eq, bne_iff_ne, ne_eq] at h3
      exact h3.resolve_left hjk
  · intro k hm hk
    have h2 := h1 k (List.mem_range.2 (by omega))
    cases ho : ops[k]? with
    | none => rw [ho] at h2; cases h2
    | some o =>
      have h3 := (key k o ho).1.2
      rw [if_pos ⟨hm, hk⟩, List.any_eq_true] at h3
      obtain ⟨j, hj, h4⟩ := h3
      simp only [Bool.and_eq_true, decide_eq_true_eq] at h4
      cases hp : ops[j]? with
      | none => rw [hp] at h4; cases h4.2
      | some p =>
        rw [hp] at h4
        have h5 := h4.2
        simp only [List.any_eq_true, Bool.and_eq_true, beq_iff_eq] at h5
        obtain ⟨e, he, hb, hk⟩ := h5
        exact ⟨j, p, e, h4.1.1, h4.1.2, hp, Array.mem_toList_iff.1 he, hb, hk⟩
  · intro k o hk ho
    have h3 := (key k o ho).2
    rw [if_pos hk] at h3
    simp only [List.any_eq_true, Bool.and_eq_true, beq_iff_eq] at h3
    obtain ⟨e, he, hb, hk⟩ := h3
    exact ⟨e, Array.mem_toList_iff.1 he, hb, hk⟩

theorem wanted_iff {m N : Nat} (h : OkB ops m N) {k : Nat} {o : Oper} (ho : ops[k]? = some o) {a : Act} (ha : a.tmps.size = N) : Region.wanted o (yielded ops a.tmps) = true ↔ Wants ops o a.eval := by
  unfold Region.wanted Wants
  cases hg : o.guard with
  | none => simp
  | some jw =>
    obtain ⟨j, want⟩ := jw
    obtain ⟨d, hd, hlt⟩ := h.guards k o j want ho hg
    have hlt' : d < a.tmps.size := by omega
    have hdo : dstOf ops j = d := by unfold dstOf; rw [hd]; rfl
    dsimp only
    rw [hdo]
    unfold yielded
    rw [hd]
    show ((match (some d).bind (a.tmps[·]?) with | some (.bool b) => some b | _ => none) == some want) = true ↔ a.tmps.getD d undef = .bool want
    have hg : a.tmps[d]? = some a.tmps[d] := Array.getElem?_eq_getElem hlt'
    rw [Option.bind_some, hg, Array.getD_eq_getD_getElem?, hg, Option.getD_some]
    cases a.tmps[d] <;> simp

/-- What is known on the way. -/
structure Way (ops : Array Oper) (m : Nat) (I : World → Prop) (G : Nat → World → Prop) (F : Nat → Value → World → Prop) (a0 : Act) (listed : Array Bool) (a : Act) (w : World) : Prop where
  size : listed.size = ops.size
  late : ∀ k, m ≤ k → listed.getD k false = false
  defers : a.defers = a0.defers
  tmps : a.tmps.size = a0.tmps.size
  base : ∀ t, (∀ j, j < m → (ops[j]?).bind (·.dst) ≠ some t) → a.eval (.tmp t) = a0.eval (.tmp t)
  inv : I w
  todo : ∀ k, k < m → listed.getD k false = false → G k w
  facts : ∀ k, k < m → listed.getD k false = true → F k (a.eval (.tmp (dstOf ops k))) w
  closed : ∀ k o, ops[k]? = some o → listed.getD k false = true → ∀ e ∈ o.after, Region.binds .any e = true → listed.getD e.on false = true

/-- What is owed for one operation. -/
def Step (P : Program) (ops : Array Oper) (m : Nat) (I : World → Prop) (St : Nat → World → World → Prop) (G : Nat → World → Prop) (F : Nat → Value → World → Prop) (a0 : Act) (k : Nat) (o : Oper) : Prop :=
  ∀ (ev : Operand → Value) (w : World), I w → G k w → (∀ v, ev (.const v) = v) → (∀ f, ev (.func f) = .func (.func f) #[] #[]) → (∀ g, ev (.global g) = .pointer (some ⟨g, 0, none⟩)) →
    (∀ t, (List.range m).all (fun j => (ops[j]?).bind (·.dst) != some t) = true → ev (.tmp t) = a0.eval (.tmp t)) →
    (∀ j ∈ depsOf o, F j (ev (.tmp (dstOf ops j))) w) →
    (Wants ops o ev → Gives P o ev w fun v w' => F k v w' ∧ I w' ∧ St k w w') ∧ (¬ Wants ops o ev → F k undef w ∧ St k w w)
def Steps (P : Program) (ops : Array Oper) (m : Nat) (I : World → Prop) (St : Nat → World → World → Prop) (G : Nat → World → Prop) (F : Nat → Value → World → Prop) (a0 : Act) : Nat → List Oper → Prop
  | _, [] => True
  | k, o :: l => Step P ops m I St G F a0 k o ∧ Steps P ops m I St G F a0 (k + 1) l
theorem Steps.get {m : Nat} {I : World → Prop} {St : Nat → World → World → Prop} {G : Nat → World → Prop} {F : Nat → Value → World → Prop} {a0 : Act} : ∀ (l : List Oper) (k : Nat), Steps P ops m I St G F a0 k l → ∀ j o, l[j]? = some o → Step P ops m I St G F a0 (k + j) o
  | [], _, _, j, o, h => by simp at h
  | x :: l, k, hs, 0, o, h => by
    simp at h; subst h; exact hs.1
  | x :: l, k, hs, j + 1, o, h => by
    have := Steps.get l (k + 1) hs.2 j o (by simpa using h)
    rwa [show k + (j + 1) = k + 1 + j by omega]

theorem count_set {l : List Bool} {i : Nat} (h : l[i]? = some false) : (l.set i true).count false + 1 = l.count false := by
  induction l generalizing i with
  | nil => simp at h
  | cons x l ih =>
    cases i with
    | zero => simp at h; subst h; simp
    | succ i =>
      simp at h
      have := ih h
      cases x <;> simp <;> omega

/-- The least one that is not listed may come up. -/
theorem ready_of_not {m N : Nat} (h : OkB ops m N) {listed : Array Bool} (hs : listed.size = ops.size) {i : Nat} (hi : i < ops.size) (hl : listed.getD i true = false) : ∃ j, j ≤ i ∧ j ∈ Region.ready .any ops listed := by
  induction i using Nat.strongRecOn with
  | ind i ih =>
    have ho : ops[i]? = some ops[i] := Array.getElem?_eq_getElem hi
    by_cases hall : ∀ e ∈ ops[i].after, Region.binds .any e = true → listed.getD e.on false = true
    · exact ⟨i, Nat.le_refl _, mem_ready.2 ⟨hl, _, ho, hall⟩⟩
    · simp only [Classical.not_forall] at hall
      obtain ⟨e, he, hb, hn⟩ := hall
      have hlt := h.early i _ ho e he hb
      obtain ⟨j, hj, hr⟩ := ih e.on hlt (by omega) (by
        have h1 : e.on < listed.size := by omega
        rw [Array.getD_eq_getD_getElem?, Array.getElem?_eq_getElem h1] at hn ⊢
        simpa using hn)
      exact ⟨j, by omega, hr⟩

theorem size_put (a : Act) (d : Option Tmp) (v : Value) : (a.put d v).tmps.size = a.tmps.size := by
  cases d <;> simp [Act.put]
theorem defers_put (a : Act) (d : Option Tmp) (v : Value) : (a.put d v).defers = a.defers := by
  cases d <;> rfl
theorem eval_put_same {a : Act} {d : Nat} {v : Value} (h : d < a.tmps.size) : (a.put (some d) v).eval (.tmp d) = v := by
  simp [Act.put, Act.eval, h]
theorem eval_put_ne {a : Act} {d t : Nat} {v : Value} (h : d ≠ t) : (a.put (some d) v).eval (.tmp t) = a.eval (.tmp t) := by
  simp [Act.put, Act.eval, Array.getElem?_setIfInBounds_ne h]

theorem Way.put {m : Nat} {I : World → Prop} {St : Nat → World → World → Prop} {G : Nat → World → Prop} {F : Nat → Value → World → Prop} {a0 : Act} {listed : Array Bool} {a : Act} {w w' : World} (hok : OkB ops m a0.tmps.size)
    (hst : ∀ i k v w w', i ≠ k → F k v w → I w → St i w w' → F k v w') (hgt : ∀ i k w w', i ≠ k → G k w → I w → St i w w' → G k w') (h : Way ops m I G F a0 listed a w) {i : Nat} {o : Oper} (hi : ops[i]? = some o) (him : i < m)
    (hd : ∀ e ∈ o.after, Region.binds .any e = true → listed.getD e.on false = true) {v : Value} (hF : F i v w') (hI : I w') (hB : St i w w') : Way ops m I G F a0 (listed.setIfInBounds i true) (a.put o.dst v) w' := by
  obtain ⟨d, hdst, hdN, hother⟩ := hok.dsts i o him hi
  have hio : (ops[i]?).bind (·.dst) = some d := by rw [hi]; exact hdst
  refine ⟨by simpa using h.size, ?_, by rw [defers_put]; exact h.defers, by rw [size_put]; exact h.tmps, ?_, hI, ?_, ?_, ?_⟩
  · intro k hk
    rw [getD_set_ne false (by omega : i ≠ k)]; exact h.late k hk
  · intro t ht
    rw [hdst, eval_put_ne (fun e => ht i him (by rw [← e]; exact hio))]
    exact h.base t ht
  · intro k hk hlk
    by_cases hik : i = k
    · subst hik
      have hlt : i < listed.size := by rw [h.size]; exact (Array.getElem?_eq_some_iff.1 hi).1
      rw [Array.getD_eq_getD_getElem?, Array.getElem?_setIfInBounds_self_of_lt hlt] at hlk; cases hlk
    · rw [getD_set_ne false hik] at hlk
      exact hgt i k _ _ hik (h.todo k hk hlk) h.inv hB
  · intro k hk hlk
    by_cases hik : i = k
    · subst hik
      have e : dstOf ops i = d := by unfold dstOf; rw [hio]; rfl
      rw [e, hdst, eval_put_same (by rw [h.tmps]; exact hdN)]
      exact hF
    · rw [getD_set_ne false hik] at hlk
      have hk' : k < ops.size := by have := hok.le; omega
      obtain ⟨d', hd', _, _⟩ := hok.dsts k _ hk (Array.getElem?_eq_getElem hk')
      have hko : (ops[k]?).bind (·.dst) = some d' := by rw [Array.getElem?_eq_getElem hk']; exact hd'
      have e : dstOf ops k = d' := by unfold dstOf; rw [hko]; rfl
      rw [e, hdst, eval_put_ne (fun e => hother k hk (Ne.symm hik) (by rw [e]; exact hko)), ← e]
      exact hst _ _ _ _ _ hik (h.facts k hk hlk) h.inv hB
  · intro k ok hok' hlk e he hb
    by_cases hik : i = k
    · subst hik
      rw [hi] at hok'; injection hok' with hok'; subst hok'
      exact getD_set_true (hd e he hb)
    · rw [getD_set_ne false hik] at hlk
      exact getD_set_true (h.closed k ok hok' hlk e he hb)

/-- Behind the first m operations: the others one by one. -/
theorem any_tail {m N : Nat} (h : Ok ops m N) : ∀ (d k : Nat), k + d = ops.size → m ≤ k → ∀ (fuel : Nat), d ≤ fuel → ∀ (listed : Array Bool), listed.size = ops.size → (∀ j, j < k → listed.getD j false = true) → (∀ j, k ≤ j → listed.getD j false = false) → ∀ a w, wpList P ops Q (ops.toList.drop k) a w → wpAny P .any ops Q fuel listed a w := by
  intro d
  induction d with
  | zero =>
    intro k hk hm fuel _ listed hs hall _ a w hw
    have hr : Region.ready .any ops listed = [] := by
      rw [List.eq_nil_iff_forall_not_mem]
      intro j hj
      obtain ⟨h0, o, ho, _⟩ := mem_ready.1 hj
      have hlt := (Array.getElem?_eq_some_iff.1 ho).1
      have h1 := hall j (by omega)
      rw [Array.getD_eq_getD_getElem?, Array.getElem?_eq_getElem (by omega : j < listed.size)] at h0 h1
      simp at h0 h1
      rw [h0] at h1; cases h1
    rw [List.drop_of_length_le (by rw [Array.length_toList]; omega)] at hw
    cases fuel with
    | zero => exact ⟨hr, hw⟩
    | succ f => exact ⟨fun _ => hw, by rw [hr]; intro i hi; cases hi⟩
  | succ d ih =>
    intro k hk hm fuel hf listed hs hall hnot a w hw
    obtain ⟨f, rfl⟩ : ∃ f, fuel = f + 1 := ⟨fuel - 1, by omega⟩
    have hlt : k < ops.size := by omega
    have hok : ops[k]? = some ops[k] := Array.getElem?_eq_getElem hlt
    have hun : ∀ j, k ≤ j → j < ops.size → listed.getD j true = false := fun j hj hj2 => by
      have h1 := hnot j hj
      rw [Array.getD_eq_getD_getElem?, Array.getElem?_eq_getElem (by omega : j < listed.size)] at h1 ⊢
      simpa using h1
    have hmem : k ∈ Region.ready .any ops listed := mem_ready.2 ⟨hun k (Nat.le_refl _) hlt, _, hok, fun e he hb => hall _ (h.early k _ hok e he hb)⟩
    refine ⟨fun h0 => (by rw [h0] at hmem; cases hmem), fun i hi => ?_⟩
    obtain ⟨h0, o, ho, hdep⟩ := mem_ready.1 hi
    have hil := (Array.getElem?_eq_some_iff.1 ho).1
    have hki : k = i := by
      by_cases h1 : i < k
      · have := hall i h1
        rw [Array.getD_eq_getD_getElem?, Array.getElem?_eq_getElem (by omega : i < listed.size)] at h0 this
        simp at h0 this
        rw [h0] at this; cases this
      · by_cases h2 : i = k
        · exact h2.symm
        · exfalso
          obtain ⟨e, he, hb, hon⟩ := h.tail i o (by omega) ho
          have h3 := hdep e he hb
          rw [hnot e.on (by omega)] at h3; cases h3
    subst hki
    rw [hok] at ho; injection ho with ho
    rw [List.drop_eq_getElem_cons (by rw [Array.length_toList]; exact hlt)] at hw
    unfold wpList at hw
    have hrest : ∀ a w, wpList P ops Q (ops.toList.drop (k + 1)) a w → wpAny P .any ops Q f (listed.setIfInBounds k true) a w := fun a w hw =>
      ih (k + 1) (by omega) (by omega) f (by omega) _ (by simpa using hs) (fun j hj => by
        by_cases hjk : j = k
        · subst hjk; simp [hs, hlt]
        · exact getD_set_true (hall j (by omega))) (fun j hj => by rw [getD_set_ne false (by omega : k ≠ j)]; exact hnot j (by omega)) a w hw
    unfold wpOp
    rw [hok]
    dsimp only
    rw [Array.getElem_toList] at hw
    split
    · rename_i hwant
      rw [if_pos hwant] at hw
      exact hw.imp (Oper.wp_mono hrest) id
    · rename_i hwant
      rw [if_neg hwant] at hw
      exact hrest _ _ hw

theorem act_frame (a : Act) (N : Nat) (h : a.tmps.size = N) : a = ⟨((List.range N).map fun t => a.eval (.tmp t)).toArray, a.defers⟩ := by
  obtain ⟨t, d⟩ := a
  subst h
  congr 1
  apply Array.ext
  · simp
  · intro i h1 h2
    simp [Act.eval, h1]

theorem any_way {m : Nat} {I : World → Prop} {St : Nat → World → World → Prop} {G : Nat → World → Prop} {F : Nat → Value → World → Prop} {a0 : Act} (hok : Ok ops m a0.tmps.size)
    (hst : ∀ i k v w w', i ≠ k → F k v w → I w → St i w w' → F k v w') (hgt : ∀ i k w w', i ≠ k → G k w → I w → St i w w' → G k w') (hsteps : Steps P ops m I St G F a0 0 (ops.toList.take m))
    (hend : ∀ (x : Nat → Value) (w : World), I w → (∀ t, (List.range m).all (fun j => (ops[j]?).bind (·.dst) != some t) = true → x t = a0.eval (.tmp t)) → (∀ k, k < m → F k (x (dstOf ops k)) w) →
      wpList P ops Q (ops.toList.drop m) ⟨((List.range a0.tmps.size).map x).toArray, a0.defers⟩ w) :
    ∀ (fuel : Nat) (listed : Array Bool) (a : Act) (w : World), listed.toList.count false ≤ fuel → Way ops m I G F a0 listed a w → wpAny P .any ops Q fuel listed a w := by
  intro fuel
  have hbase : ∀ {a : Act} {w : World} {listed : Array Bool}, Way ops m I G F a0 listed a w → ∀ t, (List.range m).all (fun j => (ops[j]?).bind (·.dst) != some t) = true → a.eval (.tmp t) = a0.eval (.tmp t) := fun hw t ht =>
    hw.base t fun j hj => by
      have := List.all_eq_true.1 ht j (List.mem_range.2 hj)
      simpa using this
  have fin : ∀ (fuel : Nat) (listed : Array Bool) (a : Act) (w : World), listed.toList.count false ≤ fuel → Way ops m I G F a0 listed a w → (∀ k, k < m → listed.getD k false = true) → wpAny P .any ops Q fuel listed a w := by
    intro fuel listed a w hc hw hall
    have hcount : ops.size - m ≤ fuel := by
      refine Nat.le_trans ?_ hc
      have h1 : listed.toList.drop m = List.replicate (ops.size - m) false := by
        apply List.ext_getElem
        · rw [List.length_drop, Array.length_toList, hw.size, List.length_replicate]
        · intro i h1 h2
          rw [List.getElem_drop, List.getElem_replicate]
          have h3 := hw.late (m + i) (by omega)
          rw [List.length_drop, Array.length_toList] at h1
          rw [Array.getD_eq_getD_getElem?, Array.getElem?_eq_getElem (by omega : m + i < listed.size)] at h3
          simpa using h3
      calc ops.size - m = (List.replicate (ops.size - m) false).count false := by rw [List.count_replicate_self]
        _ = (listed.toList.drop m).count false := by rw [h1]
        _ ≤ listed.toList.count false := (List.drop_sublist _ _).count_le _
    refine any_tail hok (ops.size - m) m (by have := hok.le; omega) (Nat.le_refl _) fuel hcount listed hw.size hall hw.late a w ?_
    have h2 := hend (fun t => a.eval (.tmp t)) w hw.inv (hbase hw) (fun k hk => hw.facts k hk (hall k hk))
    rw [act_frame a _ hw.tmps, hw.defers]
    exact h2
  induction fuel with
  | zero =>
    intro listed a w hc hw
    refine fin 0 listed a w hc hw fun k hk => ?_
    have hk' : k < listed.size := by have := hok.le; rw [hw.size]; omega
    have h0 : listed.toList.count false = 0 := by omega
    rw [List.count_eq_zero] at h0
    rw [Array.getD_eq_getD_getElem?, Array.getElem?_eq_getElem hk', Option.getD_some]
    cases h1 : listed[k] with
    | true => rfl
    | false => exact absurd (by rw [← h1]; exact Array.getElem_mem_toList hk') h0
  | succ fuel ih =>
    intro listed a w hc hw
    by_cases hall : ∀ k, k < m → listed.getD k false = true
    · exact fin _ listed a w hc hw hall
    · simp only [Classical.not_forall] at hall
      obtain ⟨k0, hk0, hn0⟩ := hall
      have hun : ∀ j, j < ops.size → ¬ listed.getD j false = true → listed.getD j true = false := fun j hj h1 => by
        rw [Array.getD_eq_getD_getElem?, Array.getElem?_eq_getElem (by rw [hw.size]; omega : j < listed.size)] at h1 ⊢
        simpa using h1
      refine ⟨fun h0 => ?_, fun i hi => ?_⟩
      · obtain ⟨j, _, hj⟩ := ready_of_not hok.toOkB hw.size (by have := hok.le; omega) (hun k0 (by have := hok.le; omega) hn0)
        rw [h0] at hj; cases hj
      · obtain ⟨hli, o, ho, hdep⟩ := mem_ready.1 hi
        have hil := (Array.getElem?_eq_some_iff.1 ho).1
        have him : i < m := by
          by_cases h1 : i < m
          · exact h1
          · exfalso
            by_cases h2 : i = m
            · subst h2
              -- all ahead of it are listed
              have hcl : ∀ d k, k + d + 1 = i → listed.getD k false = true := by
                intro d
                induction d using Nat.strongRecOn with
                | ind d ihd =>
                  intro k hk
                  obtain ⟨j, p, e, hkj, hjm, hp, he, hb, hek⟩ := hok.closes k hil (by omega)
                  by_cases hji : j = i
                  · subst hji
                    rw [ho] at hp; injection hp with hp; subst hp
                    rw [← hek]; exact hdep e he hb
                  · have h3 := ihd (i - j - 1) (by omega) j (by omega)
                    rw [← hek]; exact hw.closed j p hp h3 e he hb
              exact hn0 (hcl (i - k0 - 1) k0 (by omega))
            · obtain ⟨e, he, hb, hon⟩ := hok.tail i o (by omega) ho
              have h3 := hdep e he hb
              rw [hw.late e.on (by omega)] at h3; cases h3
        have hst1 := Steps.get _ 0 hsteps i o (by rw [List.getElem?_take_of_lt him, Array.getElem?_toList]; exact ho)
        rw [Nat.zero_add] at hst1
        have hnl : listed.getD i false = false := by
          have h2 : i < listed.size := by rw [hw.size]; exact hil
          rw [Array.getD_eq_getD_getElem?, Array.getElem?_eq_getElem h2, Option.getD_some] at hli ⊢
          exact hli
        have hst2 := hst1 a.eval w hw.inv (hw.todo i him hnl) (fun _ => rfl) (fun _ => rfl) (fun _ => rfl) (hbase hw) (fun j hj => by
          unfold depsOf at hj
          rw [List.mem_map] at hj
          obtain ⟨e, he, rfl⟩ := hj
          rw [List.mem_filter] at he
          have he' : e ∈ o.after := Array.mem_toList_iff.1 he.1
          exact hw.facts e.on (by have := hok.early i o ho e he' he.2; omega) (hdep e he' he.2))
        have hset : (listed.setIfInBounds i true).toList.count false ≤ fuel := by
          have h1 : listed.toList[i]? = some false := by
            rw [Array.getElem?_toList]
            have h2 : i < listed.size := by rw [hw.size]; exact hil
            rw [Array.getD_eq_getD_getElem?, Array.getElem?_eq_getElem h2, Option.getD_some] at hli
            rw [Array.getElem?_eq_getElem h2, hli]
          have := count_set h1
          rw [Array.toList_setIfInBounds]; omega
        have hgo : ∀ v w', (F i v w' ∧ I w' ∧ St i w w') → wpAny P .any ops Q fuel (listed.setIfInBounds i true) (a.put o.dst v) w' := fun v w' hv =>
          ih _ _ _ hset (hw.put hok.toOkB hst hgt ho him hdep hv.1 hv.2.1 hv.2.2)
        unfold wpOp
        rw [ho]
        dsimp only
        split
        · rename_i hwant
          exact .inl ((hst2.1 ((wanted_iff hok.toOkB ho hw.tmps).1 hwant)).wp hgo)
        · rename_i hwant
          exact hgo _ _ ⟨(hst2.2 (fun h => hwant ((wanted_iff hok.toOkB ho hw.tmps).2 h))).1, hw.inv, (hst2.2 (fun h => hwant ((wanted_iff hok.toOkB ho hw.tmps).2 h))).2⟩

theorem any_open {m : Nat} {I : World → Prop} {St : Nat → World → World → Prop} {G : Nat → World → Prop} {F : Nat → Value → World → Prop} {a0 : Act} (hok : OkB ops m a0.tmps.size) (hlate : ∀ (k : Nat) (o : Oper), m ≤ k → ops[k]? = some o → ∀ j, j < m → ∃ e ∈ o.after, Region.binds .any e = true ∧ e.on = j)
    (hst : ∀ i k v w w', i ≠ k → F k v w → I w → St i w w' → F k v w') (hgt : ∀ i k w w', i ≠ k → G k w → I w → St i w w' → G k w') (hsteps : Steps P ops m I St G F a0 0 (ops.toList.take m))
    (hend : ∀ (x : Nat → Value) (w : World), I w → (∀ t, (List.range m).all (fun j => (ops[j]?).bind (·.dst) != some t) = true → x t = a0.eval (.tmp t)) → (∀ k, k < m → F k (x (dstOf ops k)) w) →
      wpAny P .any ops Q (ops.size - m) ((List.range ops.size).map fun j => decide (j < m)).toArray ⟨((List.range a0.tmps.size).map x).toArray, a0.defers⟩ w) :
    ∀ (fuel : Nat) (listed : Array Bool) (a : Act) (w : World), listed.toList.count false = fuel → Way ops m I G F a0 listed a w → wpAny P .any ops Q fuel listed a w := by
  intro fuel
  have hbase : ∀ {a : Act} {w : World} {listed : Array Bool}, Way ops m I G F a0 listed a w → ∀ t, (List.range m).all (fun j => (ops[j]?).bind (·.dst) != some t) = true → a.eval (.tmp t) = a0.eval (.tmp t) := fun hw t ht =>
    hw.base t fun j hj => by
      have := List.all_eq_true.1 ht j (List.mem_range.2 hj)
      simpa using this
  have fin : ∀ (fuel : Nat) (listed : Array Bool) (a : Act) (w : World), listed.toList.count false = fuel → Way ops m I G F a0 listed a w → (∀ k, k < m → listed.getD k false = true) → wpAny P .any ops Q fuel listed a w := by
    intro fuel listed a w hc hw hall
    have hle : listed = ((List.range ops.size).map fun j => decide (j < m)).toArray := by
      apply Array.ext
      · simp [hw.size]
      · intro i h1 h2
        have h3 : listed[i] = listed.getD i false := by rw [Array.getD_eq_getD_getElem?, Array.getElem?_eq_getElem h1]; rfl
        rw [h3]
        simp only [List.getElem_toArray, List.getElem_map, List.getElem_range]
        by_cases h4 : i < m
        · rw [hall i h4, decide_eq_true h4]
        · rw [hw.late i (by omega), decide_eq_false h4]
    have hcount : fuel = ops.size - m := by
      rw [← hc, hle]
      have key : ∀ (n k : Nat), ((List.range' k n).map fun j => decide (j < m)).count false = n - (m - k) := by
        intro n
        induction n with
        | zero => intro k; simp
        | succ n ih =>
          intro k
          rw [List.range'_succ, List.map_cons, List.count_cons, ih (k + 1)]
          by_cases h : k < m
          · simp [h]; omega
          · simp [h]; omega
      have h5 := key ops.size 0
      rw [← List.range_eq_range'] at h5
      simpa using h5
    subst hcount
    have h2 := hend (fun t => a.eval (.tmp t)) w hw.inv (hbase hw) (fun k hk => hw.facts k hk (hall k hk))
    rw [act_frame a _ hw.tmps, hw.defers, hle]
    exact h2
  induction fuel with
  | zero =>
    intro listed a w hc hw
    refine fin 0 listed a w hc hw fun k hk => ?_
    have hk' : k < listed.size := by have := hok.le; rw [hw.size]; omega
    have h0 : listed.toList.count false = 0 := by omega
    rw [List.count_eq_zero] at h0
    rw [Array.getD_eq_getD_getElem?, Array.getElem?_eq_getElem hk', Option.getD_some]
    cases h1 : listed[k] with
    | true => rfl
    | false => exact absurd (by rw [← h1]; exact Array.getElem_mem_toList hk') h0
  | succ fuel ih =>
    intro listed a w hc hw
    by_cases hall : ∀ k, k < m → listed.getD k false = true
    · exact fin _ listed a w hc hw hall
    · simp only [Classical.not_forall] at hall
      obtain ⟨k0, hk0, hn0⟩ := hall
      have hun : ∀ j, j < ops.size → ¬ listed.getD j false = true → listed.getD j true = false := fun j hj h1 => by
        rw [Array.getD_eq_getD_getElem?, Array.getElem?_eq_getElem (by rw [hw.size]; omega : j < listed.size)] at h1 ⊢
        simpa using h1
      refine ⟨fun h0 => ?_, fun i hi => ?_⟩
      · obtain ⟨j, _, hj⟩ := ready_of_not hok hw.size (by have := hok.le; omega) (hun k0 (by have := hok.le; omega) hn0)
        rw [h0] at hj; cases hj
      · obtain ⟨hli, o, ho, hdep⟩ := mem_ready.1 hi
        have hil := (Array.getElem?_eq_some_iff.1 ho).1
        have him : i < m := by
          by_cases h1 : i < m
          · exact h1
          · exfalso
            obtain ⟨e, he, hb, hon⟩ := hlate i o (by omega) ho k0 hk0
            have h3 := hdep e he hb
            rw [hon] at h3
            exact hn0 h3
        have hst1 := Steps.get _ 0 hsteps i o (by rw [List.getElem?_take_of_lt him, Array.getElem?_toList]; exact ho)
        rw [Nat.zero_add] at hst1
        have hnl : listed.getD i false = false := by
          have h2 : i < listed.size := by rw [hw.size]; exact hil
          rw [Array.getD_eq_getD_getElem?, Array.getElem?_eq_getElem h2, Option.getD_some] at hli ⊢
          exact hli
        have hst2 := hst1 a.eval w hw.inv (hw.todo i him hnl) (fun _ => rfl) (fun _ => rfl) (fun _ => rfl) (hbase hw) (fun j hj => by
          unfold depsOf at hj
          rw [List.mem_map] at hj
          obtain ⟨e, he, rfl⟩ := hj
          rw [List.mem_filter] at he
          have he' : e ∈ o.after := Array.mem_toList_iff.1 he.1
          exact hw.facts e.on (by have := hok.early i o ho e he' he.2; omega) (hdep e he' he.2))
        have hset : (listed.setIfInBounds i true).toList.count false = fuel := by
          have h1 : listed.toList[i]? = some false := by
            rw [Array.getElem?_toList]
            have h2 : i < listed.size := by rw [hw.size]; exact hil
            rw [Array.getD_eq_getD_getElem?, Array.getElem?_eq_getElem h2, Option.getD_some] at hli
            rw [Array.getElem?_eq_getElem h2, hli]
          have := count_set h1
          rw [Array.toList_setIfInBounds]; omega
        have hgo : ∀ v w', (F i v w' ∧ I w' ∧ St i w w') → wpAny P .any ops Q fuel (listed.setIfInBounds i true) (a.put o.dst v) w' := fun v w' hv =>
          ih _ _ _ hset (hw.put hok hst hgt ho him hdep hv.1 hv.2.1 hv.2.2)
        unfold wpOp
        rw [ho]
        dsimp only
        split
        · rename_i hwant
          exact .inl ((hst2.1 ((wanted_iff hok ho hw.tmps).1 hwant)).wp hgo)
        · rename_i hwant
          exact hgo _ _ ⟨(hst2.2 (fun h => hwant ((wanted_iff hok ho hw.tmps).2 h))).1, hw.inv, (hst2.2 (fun h => hwant ((wanted_iff hok ho hw.tmps).2 h))).2⟩

def openOk (ops : Array Oper) (m N : Nat) : Bool :=
  decide (m ≤ ops.size) &&
  (List.range ops.size).all (fun k => match ops[k]? with
    | none => false
    | some o =>
      o.after.all (fun e => !Region.binds .any e || decide (e.on < k)) &&
      (match o.guard with
       | none => true
       | some (j, _) => (match (ops[j]?).bind (·.dst) with
         | none => false
         | some d => decide (d < N))) &&
      (if k < m then (match o.dst with
        | none => false
        | some d => decide (d < N) && (List.range m).all (fun j => j == k || (ops[j]?).bind (·.dst) != some d)) else true) &&
      (if m ≤ k then (List.range m).all (fun j => o.after.toList.any (fun e => Region.binds .any e && e.on == j)) else true))
theorem openOk_spec {m N : Nat} (h : openOk ops m N = true) : OkB ops m N ∧ (∀ (k : Nat) (o : Oper), m ≤ k → ops[k]? = some o → ∀ j, j < m → ∃ e ∈ o.after, Region.binds .any e = true ∧ e.on = j) := by
  unfold openOk at h
  rw [Bool.and_eq_true, decide_eq_true_eq, List.all_eq_true] at h
  obtain ⟨h0, h1⟩ := h
  have key : ∀ k o, ops[k]? = some o → _ := fun k o ho => by
    have h2 := h1 k (List.mem_range.2 (Array.getElem?_eq_some_iff.1 ho).1)
    rw [ho] at h2
    simp only [Bool.and_eq_true] at h2
    exact h2
  refine ⟨⟨h0, ?_, ?_, ?_⟩, ?_⟩
  · intro k o ho e he hb
    have h2 := (key k o ho).1.1.1
    rw [Array.all_eq_true_iff_forall_mem] at h2
    have h3 := h2 e he
    rw [hb] at h3
    simpa using h3
  · intro k o j want ho hg
    have h2 := (key k o ho).1.1.2
    rw [hg] at h2
    dsimp only at h2
    cases hd : (ops[j]?).bind (·.dst) with
    | none => rw [hd] at h2; cases h2
    | some d => rw [hd] at h2; exact ⟨d, rfl, of_decide_eq_true h2⟩
  · intro k o hk ho
    have h2 := (key k o ho).1.2
    rw [if_pos hk] at h2
    cases hd : o.dst with
    | none => rw [hd] at h2; cases h2
    | some d =>
      rw [hd] at h2
      simp only [Bool.and_eq_true, decide_eq_true_eq, List.all_eq_true] at h2
      refine ⟨d, rfl, h2.1, fun j hj hjk => ?_⟩
      have h3 := h2.2 j (List.mem_range.2 hj)
      simp only [Bool.or_eq_true, beq_iff_eq, bne_iff_ne, ne_eq] at h3
      exact h3.resolve_left hjk
  · intro k o hk ho j hj
    have h3 := (key k o ho).2
    rw [if_pos hk, List.all_eq_true] at h3
    have h4 := h3 j (List.mem_range.2 hj)
    simp only [List.any_eq_true, Bool.and_eq_true, beq_iff_eq] at h4
    obtain ⟨e, he, hb, hk⟩ := h4
    exact ⟨e, Array.mem_toList_iff.1 he, hb, hk⟩
/-- The rule: I holds all the way; G k till operation k has come, F k from then on; operation k turns the world as St k says. -/
theorem region_ways {id : Nat} {a0 : Act} {w : World} (hm : P.follows .mixedOrders = true) (m : Nat) (I : World → Prop) (St : Nat → World → World → Prop) (G : Nat → World → Prop) (F : Nat → Value → World → Prop) (hok : regionOk ops m a0.tmps.size = true)
    (hI : I w.drew) (hG : ∀ k, k < m → G k w.drew)
    (hst : ∀ i k v w w', i ≠ k → F k v w → I w → St i w w' → F k v w') (hgt : ∀ i k w w', i ≠ k → G k w → I w → St i w w' → G k w') (hsteps : Steps P ops m I St G F a0 0 (ops.toList.take m))
    (hend : ∀ (x : Nat → Value) (w' : World), I w' → (∀ t, (List.range m).all (fun j => (ops[j]?).bind (·.dst) != some t) = true → x t = a0.eval (.tmp t)) → (∀ k, k < m → F k (x (dstOf ops k)) w') →
      wpList P ops Q (ops.toList.drop m) ⟨((List.range a0.tmps.size).map x).toArray, a0.defers⟩ w') :
    (Code.region id ops true).wp P Q a0 w := by
  refine wp_region_any hm ?_
  refine any_way (regionOk_spec hok) hst hgt hsteps hend ops.size _ a0 _ (by simp) ⟨by simp, fun k _ => ?_, rfl, rfl, fun _ _ => rfl, hI, fun k hk _ => hG k hk, fun k _ h => ?_, fun k o _ h => ?_⟩
  · by_cases h : k < ops.size <;> simp [h]
  · by_cases h1 : k < ops.size <;> simp [h1] at h
  · by_cases h1 : k < ops.size <;> simp [h1] at h

/-- The rule where what stands behind the first m comes in whatever order too: I holds all the way; G k till operation k has come, F k from then on; operation k turns the world as St k says. -/
theorem region_open {id : Nat} {a0 : Act} {w : World} (hm : P.follows .mixedOrders = true) (m : Nat) (I : World → Prop) (St : Nat → World → World → Prop) (G : Nat → World → Prop) (F : Nat → Value → World → Prop) (hok : openOk ops m a0.tmps.size = true)
    (hI : I w.drew) (hG : ∀ k, k < m → G k w.drew)
    (hst : ∀ i k v w w', i ≠ k → F k v w → I w → St i w w' → F k v w') (hgt : ∀ i k w w', i ≠ k → G k w → I w → St i w w' → G k w') (hsteps : Steps P ops m I St G F a0 0 (ops.toList.take m))
    (hend : ∀ (x : Nat → Value) (w' : World), I w' → (∀ t, (List.range m).all (fun j => (ops[j]?).bind (·.dst) != some t) = true → x t = a0.eval (.tmp t)) → (∀ k, k < m → F k (x (dstOf ops k)) w') →
      wpAny P .any ops Q (ops.size - m) ((List.range ops.size).map fun j => decide (j < m)).toArray ⟨((List.range a0.tmps.size).map x).toArray, a0.defers⟩ w') :
    (Code.region id ops true).wp P Q a0 w := by
  refine wp_region_any hm ?_
  refine any_open (openOk_spec hok).1 (openOk_spec hok).2 hst hgt hsteps hend ops.size _ a0 _ (by simp) ⟨by simp, fun k _ => ?_, rfl, rfl, fun _ _ => rfl, hI, fun k hk _ => hG k hk, fun k _ h => ?_, fun k o _ h => ?_⟩
  · by_cases h : k < ops.size <;> simp [h]
  · by_cases h1 : k < ops.size <;> simp [h1] at h
  · by_cases h1 : k < ops.size <;> simp [h1] at h

end

/-- It is this value. -/
def FIs (u : Value) (v : Value) (_ : World) : Prop := v = u
/-- A literal slice in memory of its own. -/
def FLit (B : Nat) (c : Array Value) (t : TypeId) (n : Nat) (v : Value) (w : World) : Prop := ∃ g, v = .slice (some ⟨g, 0, none⟩) n n ∧ B ≤ g ∧ w.heap[g]? = some (.cells c t (0, 0))
/-- An address within it. -/
def FAt (B : Nat) (c : Array Value) (t : TypeId) (p : Nat) (v : Value) (w : World) : Prop := ∃ g, v = .pointer (some ⟨g, p, none⟩) ∧ B ≤ g ∧ w.heap[g]? = some (.cells c t (0, 0))
theorem lasts {w w' : World} {g : Nat} {o : Obj} (h : w.heap[g]? = some o) (hb : Below w.heap.size w w') : w'.heap[g]? = some o := by
  rw [hb.block g (Array.getElem?_eq_some_iff.1 h).1]; exact h
theorem FIs.last {u v : Value} {w w' : World} (h : FIs u v w) (_ : Below w.heap.size w w') : FIs u v w' := h
theorem FLit.last {B : Nat} {c : Array Value} {t : TypeId} {n : Nat} {v : Value} {w w' : World} (h : FLit B c t n v w) (hb : Below w.heap.size w w') : FLit B c t n v w' := by
  obtain ⟨g, h1, h2, h3⟩ := h; exact ⟨g, h1, h2, lasts h3 hb⟩
theorem FAt.last {B : Nat} {c : Array Value} {t : TypeId} {p : Nat} {v : Value} {w w' : World} (h : FAt B c t p v w) (hb : Below w.heap.size w w') : FAt B c t p v w' := by
  obtain ⟨g, h1, h2, h3⟩ := h; exact ⟨g, h1, h2, lasts h3 hb⟩
end Go.Proofs.YtmhfkbgdkgfafaaGreatDoor.Reg
end

section
/- strings.IndexAny and strings.ContainsAny at any text, the looked-for signs ASCII. -/
namespace Go.Proofs.YtmhfkbgdkgfafaaGreatDoor.Js
open Go.RowKit Go.Proofs.YtmhfkbgdkgfafaaGreatDoor.QJson Go.Proofs.YtmhfkbgdkgfafaaGreatDoorW.PrintWords Go.Proofs.YtmhfkbgdkgfafaaGreatDoorW.PrintLast Go.Proofs.YtmhfkbgdkgfafaaGreatDoorW.PrintMore
set_option linter.unusedVariables false
set_option linter.unusedSimpArgs false

theorem indexByte_no (l : List UInt8) (c : UInt8) (h : ∀ b ∈ l, b.toNat < 128) (hc : 128 ≤ c.toNat) : Lib.indexByte l c = -1 := by
  have h1 := Lib.contains_iff_indexByte l c
  have h2 : l.contains c = false := by
    rw [Bool.eq_false_iff]
    intro h3
    have := h c (by simpa using h3)
    omega
  rw [h2] at h1
  have h3 : ¬ 0 ≤ Lib.indexByte l c := of_decide_eq_false h1.symm
  have h4 := Lib.indexByte_ge l c
  omega
/-- What a search for a rune in an ASCII text answers. -/
def ixR (chars : ByteArray) (r : Nat) : Int := if r < 128 then Lib.indexByte chars.data.toList r.toUInt8 else -1

set_option maxHeartbeats 8000000 in
set_option maxRecDepth 100000 in
/-- The replacement rune is none of them. -/
theorem indexRune_bad (chars : ByteArray) (ha : ∀ b ∈ chars.data.toList, b.toNat < 128) (w : World) :
    Calls Tryz.prog 92 #[.string chars, .int .i32 65533] w fun e w' => e = .returned (.int .i64 (-1)) ∧ Below w.heap.size w w' := by
  have HA := Aside0.mk ha
  clear ha
  go_enter Tryz.func92, Tryz.ntmps92
  go_wp2
  go_loopg [] chars.size (fun gf wx => ∃ i : Nat, i + gf = chars.size ∧ wx = w.iter chars i)
  case atStart => exact ⟨0, by omega, rfl⟩
  case round =>
    obtain ⟨i, hig, rfl⟩ := hrel
    cases gk with
    | zero =>
      obtain rfl : i = chars.size := by omega
      have hnx := run_next_end (P := Tryz.prog) w chars chars.size
      go_wp2
      go_ret
      exact ⟨rfl, (Below.refl _ _).alloc (Nat.le_refl _) _⟩
    | succ g =>
      have hi : i < chars.size := by omega
      obtain ⟨x, hx⟩ : ∃ x : UInt8, chars[i]'hi = x := ⟨_, rfl⟩
      have hxl : chars.data.toList[i]? = some x := by rw [← hx]; exact Lib.data_getElem? chars i hi
      have hx128 : x.toNat < 128 := HA.out x (List.mem_of_getElem? hxl)
      have hnx := fun ty => run_next_ascii (P := Tryz.prog) w chars i ty hi (by rw [hx]; exact hx128)
      rw [hx] at hnx
      have hne : ((x.toNat : Int) = 65533) = False := by simp; omega
      have hne2 : ((x.toNat : Int) == 65533) = false := beq_eq_false_iff_ne.2 (by omega)
      clear hxl hx
      go_wp2
      go_roundg g
      case measure => omega
      case rel => exact ⟨i + 1, by omega, rfl⟩

set_option maxHeartbeats 8000000 in
set_option maxRecDepth 100000 in
/-- A rune beyond ASCII is none of them. -/
theorem indexRune_high (chars : ByteArray) (ha : ∀ b ∈ chars.data.toList, b.toNat < 128) (hcs : chars.size ≤ 8) (r : Int) (h0 : 128 ≤ r) (h1 : r ≤ 1114111) (hne : r ≠ 65533) (w : World) :
    Calls Tryz.prog 92 #[.string chars, .int .i32 r] w fun e w' => e = .returned (.int .i64 (-1)) ∧ Below w.heap.size w w' := by
  have HA := Aside0.mk ha
  have hlow : (r < 128) = False := by simp; omega
  have hz : (0 ≤ r) = True := by simp; omega
  have hbad : (r == 65533) = false := beq_eq_false_iff_ne.2 hne
  have H1 := Aside0.mk h1
  have H0 := Aside0.mk h0
  clear ha hne h0 h1
  cases hv : Lib.validRune r with
  | false =>
    go_enter Tryz.func92, Tryz.ntmps92
    go_wp2_with (first | (go_at_call 120; refine (Tryz.utf8_ValidRune _ _).mono ?_; rintro e w' ⟨rfl, hw⟩; rw [hw, hv]))
    go_ret
    exact ⟨rfl, Below.refl _ _⟩
  | true =>
    obtain ⟨q, hq⟩ : ∃ q, Utf8.encode r = q := ⟨_, rfl⟩
    have hv' : Utf8.valid r = true := by
      rw [validRune_eq]
      exact decide_eq_true (by have := of_decide_eq_true hv; omega)
    have hf := encode_facts r hv' H0.out
    rw [hq] at hf
    obtain ⟨k, hk⟩ : ∃ k : Nat, q.size = k + 1 := ⟨q.size - 1, by omega⟩
    have hkz : (q.size : Int) = (k : Int) + 1 := by omega
    have hlt : k < q.size := by omega
    obtain ⟨y, hy⟩ : ∃ y : UInt8, q[k]'hlt = y := ⟨_, rfl⟩
    have hy1 : 128 ≤ y.toNat := by
      have := hf.2.2 (by omega)
      have e : q[q.size - 1]'(by omega) = q[k]'hlt := by congr 1; omega
      rw [e, hy] at this
      exact this
    have hk3 : k ≤ 3 := by omega
    clear hf
    have hwk : IntKind.i64.wrap ((k : Int) + 1 - 1) = (k : Int) := by rw [show (k : Int) + 1 - 1 = k by omega]; exact wrap_small _ (by omega) (by omega)
    have hwk1 : IntKind.i64.wrap ((k : Int) + 1) = (k : Int) + 1 := wrap_small _ (by omega) (by omega)
    by_cases hkc : k < chars.size
    · obtain ⟨x, hx⟩ : ∃ x : UInt8, chars[k]'hkc = x := ⟨_, rfl⟩
      have hx1 : x.toNat < 128 := HA.out x (by rw [← hx]; exact List.mem_of_getElem? (Lib.data_getElem? chars k hkc))
      have hxy : ((x.toNat : Int) == (y.toNat : Int)) = false := beq_eq_false_iff_ne.2 (by omega)
      have hkcz : ((k : Int) < (chars.size : Int)) = True := by simp; omega
      have ix1 : ∀ W, (Instr.index 9 (.string chars) (.int .i64 (k : Int))).run Tryz.prog W = .ok (.int .u8 (x.toNat : Int)) W := fun W => by
        rw [run_index_string W 9 chars .i64 k Tryz.underlying9, dif_pos (by omega)]; rw [← hx]; rfl
      have ix2 : ∀ W, (Instr.index 9 (.string q) (.int .i64 (k : Int))).run Tryz.prog W = .ok (.int .u8 (y.toNat : Int)) W := fun W => by
        rw [run_index_string W 9 q .i64 k Tryz.underlying9, dif_pos (by omega)]; rw [← hy]; rfl
      have hsl : ∀ W, (Instr.slice 9 (.string chars) (some (.int .i64 ((k : Int) + 1))) none none).run Tryz.prog W = .ok (.string (chars.extract (k + 1) chars.size)) W := fun W => by
        rw [run_slice_string_l W 9 chars Tryz.underlying9 .i64 ((k : Int) + 1) (by omega) (by omega)]
        rfl
      have hib : Lib.indexByte (chars.extract (k + 1) chars.size).data.toList y = -1 := indexByte_no _ _ (fun b hb => HA.out b (mem_extract hb)) hy1
      have hyb : ((y.toNat : Int)).toNat.toUInt8 = y := by simp
      have HIB : ∀ W, Calls Tryz.prog 44 #[.string (chars.extract (k + 1) chars.size), .int .u8 (y.toNat : Int)] W fun e w' => e = .returned (.int .i64 (-1)) ∧ w' = W := fun W => by
        have := Tryz.strings_IndexByte (chars.extract (k + 1) chars.size) (y.toNat : Int) W
        rw [hyb, hib] at this
        exact this
      clear hx hy hyb hib hx1 hy1
      go_enter Tryz.func92, Tryz.ntmps92
      go_wp2_with (first | (go_at_call 120; refine (Tryz.utf8_ValidRune _ _).mono ?_; rintro e w' ⟨rfl, hw⟩; rw [hw, hv]))
      go_step3
      go_wp2
      go_loopg [9, 10] 0 (fun g s9 s10 wx => s9 = .int .i64 (k : Int) ∧ s10 = .int .i64 0 ∧ wx = w)
      case atStart => exact ⟨rfl, rfl, rfl⟩
      case round =>
        obtain ⟨rfl, rfl, rfl⟩ := hrel
        go_wp2
        go_step3
        go_upto_region 6 with (fail)
        go_quiet (fail)
        go_upto_region 7 with (fail)
        go_quiet ((go_at_call 44; exact (HIB _).mono fun _ _ h => ⟨h.1, _, h.2⟩))
        go_wp2_with (fail)
        go_simp
        go_ret
        exact ⟨rfl, below_drewNg _ _⟩
    · have hkcz : ((k : Int) < (chars.size : Int)) = False := by simp; omega
      clear hkc hy hy1 hv'
      go_enter Tryz.func92, Tryz.ntmps92
      go_wp2_with (first | (go_at_call 120; refine (Tryz.utf8_ValidRune _ _).mono ?_; rintro e w' ⟨rfl, hw⟩; rw [hw, hv]))
      go_step3
      go_wp2
      go_loopg [9, 10] 0 (fun g s9 s10 wx => s9 = .int .i64 (k : Int) ∧ s10 = .int .i64 0 ∧ wx = w)
      case atStart => exact ⟨rfl, rfl, rfl⟩
      case round =>
        obtain ⟨rfl, rfl, rfl⟩ := hrel
        go_wp2
        go_simp
        go_ret
        exact ⟨rfl, Below.refl _ _⟩
/-- strings.IndexRune of any rune in a short ASCII text. -/
theorem indexRune_any (chars : ByteArray) (ha : ∀ b ∈ chars.data.toList, b.toNat < 128) (hcs : chars.size ≤ 8) (r : Nat) (h1 : r ≤ 1114111) (w : World) :
    Calls Tryz.prog 92 #[.string chars, .int .i32 (r : Int)] w fun e w' => e = .returned (.int .i64 (ixR chars r)) ∧ Below w.heap.size w w' := by
  unfold ixR
  by_cases h : r < 128
  · rw [if_pos h]
    refine (Tryz.strings_IndexRune_ascii chars (r : Int) w (by omega) (by omega)).mono ?_
    rintro e w' ⟨rfl, hw⟩
    exact ⟨rfl, hw ▸ Below.refl _ _⟩
  · rw [if_neg h]
    by_cases h2 : r = 65533
    · subst h2
      exact indexRune_bad chars ha w
    · exact indexRune_high chars ha hcs (r : Int) (by omega) (by omega) (by omega) w

/-! ### the runes of a short text, in order -/
/-- The first sign's place, from pos on. -/
def anyFrom (chars s : ByteArray) : Nat → Nat → Int
  | 0, _ => -1
  | f + 1, pos => if pos < s.size then (if 0 ≤ ixR chars (Utf8.decode s pos).1 then (pos : Int) else anyFrom chars s f (pos + (Utf8.decode s pos).2)) else -1

set_option maxHeartbeats 8000000 in
set_option maxRecDepth 100000 in
theorem indexAny_runes (s chars : ByteArray) (ha : ∀ b ∈ chars.data.toList, b.toNat < 128) (hcs : chars.size ≤ 8) (h2 : 2 ≤ chars.size) (h8 : s.size ≤ 8) (w : World) :
    Calls Tryz.prog 55 #[.string s, .string chars] w fun e w' => e = .returned (.int .i64 (anyFrom chars s s.size 0)) ∧ Below w.heap.size w w' := by
  have HR := fun (r : Nat) (h : r ≤ 1114111) (w : World) => indexRune_any chars ha hcs r h w
  have hemp : chars.toList.isEmpty = false := by
    rw [Lib.toList_data]
    cases h : chars.data.toList with
    | nil => have := Lib.size_eq chars; rw [h, List.length_nil] at this; omega
    | cons _ _ => rfl
  have hn1 : ((chars.size : Int) == 1) = false := beq_eq_false_iff_ne.2 (by omega)
  have h8z : decide ((8 : Int) < (s.size : Int)) = false := decide_eq_false (by omega)
  clear ha
  obtain ⟨res, hres⟩ : ∃ res, anyFrom chars s s.size 0 = res := ⟨_, rfl⟩
  rw [hres]
  have HRes := Aside0.mk hres
  clear hres
  have HRa := Aside0.mk HR
  clear HR
  go_enter Tryz.func55, Tryz.ntmps55
  go_wp2_with (first | (go_at_call 93; refine (Tryz.strings_shouldUseASCIISet _ _).mono ?_; rintro e w' ⟨rfl, hw⟩; rw [hw, h8z]))
  go_loopg [] s.size (fun gf wx => ∃ pos : Nat, wx.heap[w.heap.size]? = some (.stringIter s pos) ∧ Below w.heap.size w wx ∧ anyFrom chars s gf pos = res ∧ s.size ≤ pos + gf)
  case atStart => exact ⟨0, World.iter_heap w s 0, (Below.refl _ w).alloc (Nat.le_refl _) _, HRes.out, by omega⟩
  case round =>
    obtain ⟨pos, hit, hbw, hleft, hfu⟩ := hrel
    by_cases hps : pos < s.size
    · obtain ⟨g', rfl⟩ : ∃ g', gk = g' + 1 := ⟨gk - 1, by omega⟩
      have hnx : ∀ ty, (Instr.next (.pointer (some ⟨w.heap.size, 0, none⟩)) true ty).run Tryz.prog wr = _ := fun ty => Lib.run_next_any_at wr w.heap.size s pos ty hit hps
      have hwd := Lib.width_pos s pos
      obtain ⟨R, hR⟩ : ∃ R, (Utf8.decode s pos).1 = R := ⟨_, rfl⟩
      obtain ⟨K, hK⟩ : ∃ K, (Utf8.decode s pos).2 = K := ⟨_, rfl⟩
      simp only [anyFrom, hps, if_true, hR, hK] at hleft
      rw [hR, hK] at hnx
      rw [hK] at hwd
      have hit2 := Lib.iterAt_heap wr w.heap.size s pos (pos + K) hit
      have hbw2 := Lib.below_iterAt hbw (k := w.heap.size) (Nat.le_refl _) s (pos + K)
      obtain ⟨W, hWd⟩ : ∃ W, wr.iterAt w.heap.size s (pos + K) = W := ⟨_, rfl⟩
      rw [hWd] at hnx hit2 hbw2
      have hltW : w.heap.size < W.heap.size := (Array.getElem?_eq_some_iff.1 hit2).1
      have cS := HRa.out R (by rw [← hR]; exact Lib.rune_le s pos) W
      obtain ⟨I, hI⟩ : ∃ I, ixR chars R = I := ⟨_, rfl⟩
      rw [hI] at cS hleft
      clear hI hR hK
      by_cases hI0 : 0 ≤ I
      · rw [if_pos hI0] at hleft
        have hIz : (0 ≤ I) = True := eq_true hI0
        have HL := Aside0.mk hleft
        clear hleft hI0
        go_wp2_with (go_at_call 92; refine cS.mono ?_; rintro e W' ⟨rfl, hbc⟩)
        go_ret
        exact ⟨by rw [← HL.out] <;> rfl, (hbw2.trans (hbc.mono hbw2.size))⟩
      · rw [if_neg hI0] at hleft
        have hIz : (0 ≤ I) = False := eq_false hI0
        have HL := Aside0.mk hleft
        clear hleft hI0
        go_wp2_with (go_at_call 92; refine cS.mono ?_; rintro e W' ⟨rfl, hbc⟩)
        go_roundg g'
        case measure => omega
        case rel => exact ⟨pos + K, (hbc.block _ hltW).trans hit2, (hbw2.trans (hbc.mono hbw2.size)), HL.out, by omega⟩
    · have hnx : ∀ ty, (Instr.next (.pointer (some ⟨w.heap.size, 0, none⟩)) true ty).run Tryz.prog wr = _ := fun ty => Lib.run_next_end_at wr w.heap.size s pos ty hit hps
      have hend : res = -1 := by
        rw [← hleft]
        cases gk with
        | zero => rfl
        | succ n => rw [anyFrom, if_neg hps]
      have HL := Aside0.mk hend
      clear hleft hend
      go_wp2
      go_ret
      exact ⟨by rw [HL.out]; rfl, hbw⟩

/-! ### in bytes -/
theorem ixR_ge (chars : ByteArray) (r : Nat) (h : r < 128) : (0 ≤ ixR chars r) = (chars.data.toList.contains r.toUInt8 = true) := by
  unfold ixR
  rw [if_pos h, Lib.contains_iff_indexByte, decide_eq_true_eq]
theorem ixR_high (chars : ByteArray) (r : Nat) (h : 128 ≤ r) : ¬ 0 ≤ ixR chars r := by
  unfold ixR
  rw [if_neg (by omega)]
  omega
theorem hi_rune (n b0 b1 b2 b3 : Nat) (h : 128 ≤ b0) : 128 ≤ (Lib.decodeN n b0 b1 b2 b3).1 := by
  unfold Lib.decodeN
  rw [if_neg (by omega)]
  repeat' split
  all_goals first
    | decide
    | (show 128 ≤ _; omega)
theorem indexAny_skip (cs : List UInt8) (hc : ∀ b ∈ cs, b.toNat < 128) : ∀ (l : List UInt8) (n : Nat), n ≤ l.length → (∀ k, k < n → 128 ≤ (l.getD k 0).toNat) → Lib.indexAny l cs = if Lib.indexAny (l.drop n) cs = -1 then -1 else Lib.indexAny (l.drop n) cs + (n : Int)
  | l, 0, _, _ => by simp
  | [], n + 1, h, _ => by simp at h
  | c :: l, n + 1, h, hk => by
    have h0 : 128 ≤ c.toNat := hk 0 (by omega)
    have hno : cs.contains c = false := by
      rw [Bool.eq_false_iff]
      intro h1
      have := hc c (by simpa using h1)
      omega
    rw [Lib.indexAny, if_neg (by rw [hno]; decide), indexAny_skip cs hc l n (by simpa using h) (fun k hkn => hk (k + 1) (by omega)), List.drop_succ_cons]
    have := Lib.indexAny_ge cs (l.drop n)
    by_cases h2 : Lib.indexAny (l.drop n) cs = -1
    · simp [h2]
    · rw [if_neg h2, if_neg h2, if_neg (by simp only [beq_iff_eq]; omega)]; omega
theorem anyFrom_eq (chars : ByteArray) (l : List UInt8) (hc : ∀ b ∈ chars.data.toList, b.toNat < 128) : ∀ (f pos : Nat), l.length ≤ pos + f → anyFrom chars (str l) f pos = if Lib.indexAny (l.drop pos) chars.data.toList = -1 then -1 else Lib.indexAny (l.drop pos) chars.data.toList + (pos : Int)
  | 0, pos, h => by
    rw [List.drop_eq_nil_of_le (by omega)]
    rfl
  | f + 1, pos, h => by
    rw [anyFrom, str_size]
    by_cases hp : pos < l.length
    · rw [if_pos hp, Lib.decode_N, str_list]
      have hg : l.getD pos 0 = l[pos] := by simp [List.getD_eq_getElem?_getD, hp]
      have hd : l.drop pos = l[pos] :: l.drop (pos + 1) := List.drop_eq_getElem_cons hp
      rw [hg]
      by_cases hlow : l[pos].toNat < 128
      · rw [low_decode _ _ _ _ _ hlow]
        dsimp only
        have hb : l[pos].toNat.toUInt8 = l[pos] := by simp
        have hge := Lib.indexAny_ge chars.data.toList (l.drop (pos + 1))
        cases hin : chars.data.toList.contains l[pos] with
        | true =>
          rw [if_pos (by rw [ixR_ge _ _ hlow, hb]; exact hin), hd, Lib.indexAny, if_pos hin, if_neg (by decide)]
          simp
        | false =>
          have hI : Lib.indexAny (l[pos] :: l.drop (pos + 1)) chars.data.toList = if (Lib.indexAny (l.drop (pos + 1)) chars.data.toList == -1) = true then -1 else Lib.indexAny (l.drop (pos + 1)) chars.data.toList + 1 := by
            rw [Lib.indexAny, if_neg (by rw [hin]; decide)]
          rw [if_neg (by rw [ixR_ge _ _ hlow, hb, hin]; decide), anyFrom_eq chars l hc f (pos + 1) (by omega), hd, hI]
          generalize Lib.indexAny (l.drop (pos + 1)) chars.data.toList = X at hge
          by_cases h3 : X = -1
          · simp [h3]
          · simp only [beq_iff_eq, h3, if_false]
            rw [if_neg (by omega)]; omega
      · have hr := hi_rune (l.length - pos) l[pos].toNat (l.getD (pos + 1) 0).toNat (l.getD (pos + 2) 0).toNat (l.getD (pos + 3) 0).toNat (by omega)
        have hw := (hi_width (l.length - pos) l[pos].toNat (l.getD (pos + 1) 0).toNat (l.getD (pos + 2) 0).toNat (l.getD (pos + 3) 0).toNat (by omega)).2
        have hge := Lib.decodeN_ge1 (l.length - pos) l[pos].toNat (l.getD (pos + 1) 0).toNat (l.getD (pos + 2) 0).toNat (l.getD (pos + 3) 0).toNat
        generalize Lib.decodeN (l.length - pos) l[pos].toNat (l.getD (pos + 1) 0).toNat (l.getD (pos + 2) 0).toNat (l.getD (pos + 3) 0).toNat = p at hr hw hge
        have hk : ∀ k, k < p.2 → 128 ≤ ((l.drop pos).getD k 0).toNat := fun k hk => by
          rw [List.getD_eq_getElem?_getD, List.getElem?_drop, ← List.getD_eq_getElem?_getD]
          rcases Nat.eq_zero_or_pos k with h0 | h0
          · subst h0; rw [Nat.add_zero, hg]; omega
          · rcases hw k h0 hk with ⟨h6, h7⟩ | ⟨h6, h7⟩ | ⟨h6, h7⟩ <;> subst h6 <;> exact h7
        have hp2 : p.2 ≤ (l.drop pos).length := by
          rw [List.length_drop]
          by_cases hx : p.2 ≤ l.length - pos
          · exact hx
          · exfalso
            have := hk (l.length - pos) (by omega)
            rw [List.getD_eq_getElem?_getD, List.getElem?_eq_none (by rw [List.length_drop]; omega)] at this
            exact absurd this (by decide)
        rw [if_neg (ixR_high _ _ hr), anyFrom_eq chars l hc f (pos + p.2) (by omega), indexAny_skip chars.data.toList hc (l.drop pos) p.2 hp2 hk, List.drop_drop]
        have := Lib.indexAny_ge chars.data.toList (l.drop (pos + p.2))
        by_cases h3 : Lib.indexAny (l.drop (pos + p.2)) chars.data.toList = -1
        · rw [if_pos h3, if_pos h3, if_pos rfl]
        · rw [if_neg h3, if_neg h3, if_neg (by omega)]; omega
    · rw [if_neg hp, List.drop_eq_nil_of_le (by omega)]
      rfl
/-- strings.IndexAny at any text. -/
theorem indexAny_all (chars : ByteArray) (hc : ∀ b ∈ chars.data.toList, b.toNat < 128) (hcs : chars.size ≤ 8) (h2 : 2 ≤ chars.size) (l : List UInt8) (hl : l.length ≤ 1000000) (w : World) :
    Calls Tryz.prog 55 #[.string (str l), .string chars] w fun e w' => e = .returned (.int .i64 (Lib.indexAny l chars.data.toList)) ∧ Below w.heap.size w w' := by
  by_cases h8 : l.length ≤ 8
  · refine (indexAny_runes (str l) chars hc hcs h2 (by rw [str_size]; exact h8) w).mono ?_
    rintro e w' ⟨rfl, hb⟩
    refine ⟨?_, hb⟩
    rw [anyFrom_eq chars l hc _ 0 (by rw [str_size]; omega), List.drop_zero]
    congr 2
    split <;> omega
  · have hz : (Tryz.prog.info? (Tryz.lays153_ren.t 116)).map (fun i => (i.zero, i.size)) = some (some (.agg (Array.replicate 256 (.bool false))), 256) := by kernel_rfl
    have h := Any.strings_IndexAny_long (P := Tryz.prog) Tryz.lays153 (zero_of_info hz).1 (zero_of_info hz).2 (str l) chars w h2 (by rw [str_size]; omega) (by rw [str_size]; omega) (by omega) (fun j b hb => hc b (List.mem_of_getElem? hb))
    rw [str_list] at h
    refine h.mono ?_
    rintro e w' ⟨rfl, hw⟩
    refine ⟨rfl, ?_⟩
    rw [hw]
    exact ((Below.refl _ _).alloc (Nat.le_refl _) _).alloc (by simp) _

set_option maxHeartbeats 2000000 in
set_option maxRecDepth 100000 in
/-- THE SEARCHES HOLD. -/
theorem any_ok : AnyOk where
  quot l w hl := indexAny_all ⟨#[34, 92]⟩ (by decide) (by decide) (by decide) l hl w
  sign l w hl := by
    have h := indexAny_all ⟨#[43, 45, 95]⟩ (by decide) (by decide) (by decide) l (by omega) w
    obtain ⟨I, hI⟩ : ∃ I, Lib.indexAny l [43, 45, 95] = I := ⟨_, rfl⟩
    rw [show (⟨#[43, 45, 95]⟩ : ByteArray).data.toList = [43, 45, 95] from rfl, hI] at h
    rw [hI]
    clear hI
    go_enter Tryz.func95, Tryz.ntmps95
    go_wp2_with (go_at_call 55; refine h.mono ?_; rintro e w' ⟨rfl, hw⟩)
    go_ret
    exact ⟨rfl, hw⟩
end Go.Proofs.YtmhfkbgdkgfafaaGreatDoor.Js
end
