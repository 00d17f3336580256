/- 27 texts of this family in one. -/
import Derived.Orders
import Derived.Tactics
import Derived.Below
import Derived.WalkKit
import Derived.Test.YtmfkgbncnaingaaProg
import Derived.Deep.Draws
import Derived.Deep.AppendLies
import Derived.Maps.AppendAt
import Derived.OwnWalk
import Derived.Laws.BytesArg
import Derived.Laws.MakeOwn
import Derived.Laws.OwnMore
import Derived.Deep.OwnRows
import Derived.Lib.ConvBytes
import Derived.Laws.Slices
import Derived.KernelRfl
import Derived.RowKit3
import Derived.Deep.LoopGhost
import Derived.Deep.QuietTactic
import Derived.BigQuiet
import Derived.WideLaws
import Derived.Deep.DeepCutAuto
import Derived.Deep.CutBlock
import Derived.Deep.RegionHeld3
import Derived.Laws.Rows
import Derived.Lib.AppendStr
import Derived.ArgAppend
import Derived.Laws.IdiomCopy
import Derived.OrdersHeld
import Derived.Laws.BitsLemmas
import Derived.RowKit
import Derived.Laws.Cover1
import Derived.Test.YtmfkgbncnaingaaWWords
import Derived.Test.YtmfkgbncnaingaaWLast
import Derived.Test.YtmfkgbncnaingaaWTab
import Derived.Test.YtmfkgbncnaingaaWFour
import Derived.Test.YtmfkgbncnaingaaWQPut
import Derived.Test.YtmfkgbncnaingaaWApart
import Derived.Test.YtmfkgbncnaingaaWArr
import Derived.Test.YtmfkgbncnaingaaWZeros
import Derived.Test.YtmfkgbncnaingaaWFoot
import Derived.Test.YtmfkgbncnaingaaWKept
import Derived.Test.YtmfkgbncnaingaaWShare
import Derived.Test.YtmfkgbncnaingaaWN
import Derived.Test.YtmfkgbncnaingaaWFootNe
import Derived.Test.YtmfkgbncnaingaaWAt
import Derived.Test.YtmfkgbncnaingaaWEqStruct
import Derived.Test.YtmfkgbncnaingaaWRepsOne
import Derived.Test.YtmfkgbncnaingaaWInv
import Derived.Test.YtmfkgbncnaingaaWInvWords
import Derived.Test.YtmfkgbncnaingaaWGuard
import Derived.Test.YtmfkgbncnaingaaWNEv
import Derived.Test.YtmfkgbncnaingaaWMore
import Derived.Shelf.Spec.SlicesInsert
import Derived.Lib.AppendZerosOnto
import Derived.Laws.NewBlocks
import Derived.Laws.CopyRow
import Derived.Laws.CopyOwn
import Derived.Lib.SliceRun

section
/- A region that draws its order, by a fact for each of its operations: whatever order is drawn, each operation is met once, with the facts of those that it waits for. -/
namespace Go.Proofs.Ytmfkgbncnaingaa.Reg
open Go Go.RowKit

/-- Where operation j puts what it gives. -/
def dstOf (ops : Array Oper) (j : Nat) : Nat := ((ops[j]?).bind (·.dst)).getD 0
/-- What operation o waits for. -/
def depsOf (o : Oper) : List Nat := (o.after.toList.filter (Region.binds .any)).map (·.on)
/-- What an operation gives: a value and a world, without a panic. -/
def Gives (P : Program) (o : Oper) (ev : Operand → Value) (w : World) (K : Value → World → Prop) : Prop :=
  match (execOp ev o).run P w with
  | .ok (.value v) w' => K v w'
  | .ok .skip w' => K undef w'
  | .ok (.enter f args) w' => Calls P f args w' fun e w'' => ∃ v, e = .returned v ∧ K v w''
  | _ => False
theorem Gives.wp {P : Program} {o : Oper} {a : Act} {w : World} {K : Value → World → Prop} {Q : Exit → Act → World → Prop} {K' : Act → World → Prop} (h : Gives P o a.eval w K) (hk : ∀ v w', K v w' → K' (a.put o.dst v) w') : o.wp P a w K' Q := by
  unfold Gives at h
  unfold Oper.wp
  generalize (execOp a.eval o).run P w = r at *
  cases r with
  | ok n w' =>
    cases n <;> simp only [Oper.upon] at h ⊢ <;> try exact absurd h id
    · exact hk _ _ h
    · exact hk _ _ h
    · exact Calls.mono h (fun e w'' ⟨v, he, hv⟩ => by subst he; exact hk _ _ hv)
  | halt x w' => exact absurd h id
/-- Is the operation wanted? -/
def Wants (ops : Array Oper) (o : Oper) (ev : Operand → Value) : Prop := match o.guard with
  | none => True
  | some (j, want) => ev (.tmp (dstOf ops j)) = .bool want

/-- The region's first m operations may come in whatever order; those behind them one by one. -/
def regionOk (ops : Array Oper) (m N : Nat) : Bool :=
  decide (m ≤ ops.size) &&
  (List.range ops.size).all (fun k => match ops[k]? with
    | none => false
    | some o =>
      o.after.all (fun e => !Region.binds .any e || decide (e.on < k)) &&
      (match o.guard with
       | none => true
       | some (j, _) => (match (ops[j]?).bind (·.dst) with
         | none => false
         | some d => decide (d < N))) &&
      (if k < m then (match o.dst with
        | none => false
        | some d => decide (d < N) && (List.range m).all (fun j => j == k || (ops[j]?).bind (·.dst) != some d)) else true) &&
      (if m < ops.size ∧ k < m then (List.range ops.size).any (fun j => decide (k < j) && decide (j ≤ m) && (match ops[j]? with
        | none => false
        | some p => p.after.toList.any (fun e => Region.binds .any e && e.on == k))) else true) &&
      (if m < k then o.after.toList.any (fun e => Region.binds .any e && e.on == k - 1) else true))

section
variable {P : Program} {ops : Array Oper} {Q : Exit → Act → World → Prop}

structure Ok (ops : Array Oper) (m N : Nat) : Prop where
  le : m ≤ ops.size
  early : ∀ (k : Nat) (o : Oper), ops[k]? = some o → ∀ e ∈ o.after, Region.binds .any e = true → e.on < k
  guards : ∀ (k : Nat) (o : Oper) (j : Nat) (want : Bool), ops[k]? = some o → o.guard = some (j, want) → ∃ d : Nat, (ops[j]?).bind (·.dst) = some d ∧ d < N
  dsts : ∀ (k : Nat) (o : Oper), k < m → ops[k]? = some o → ∃ d : Nat, o.dst = some d ∧ d < N ∧ ∀ j, j < m → j ≠ k → (ops[j]?).bind (·.dst) ≠ some d
  closes : ∀ (k : Nat), m < ops.size → k < m → ∃ (j : Nat) (p : Oper) (e : Edge), k < j ∧ j ≤ m ∧ ops[j]? = some p ∧ e ∈ p.after ∧ Region.binds .any e = true ∧ e.on = k
  tail : ∀ (k : Nat) (o : Oper), m < k → ops[k]? = some o → ∃ e ∈ o.after, Region.binds .any e = true ∧ e.on = k - 1

theorem regionOk_spec {m N : Nat} (h : regionOk ops m N = true) : Ok ops m N := by
  unfold regionOk at h
  rw [Bool.and_eq_true, decide_eq_true_eq, List.all_eq_true] at h
  obtain ⟨h0, h1⟩ := h
  have key : ∀ k o, ops[k]? = some o → _ := fun k o ho => by
    have h2 := h1 k (List.mem_range.2 (Array.getElem?_eq_some_iff.1 ho).1)
    rw [ho] at h2
    simp only [Bool.and_eq_true] at h2
    exact h2
  refine ⟨h0, ?_, ?_, ?_, ?_, ?_⟩
  · intro k o ho e he hb
    have h2 := (key k o ho).1.1.1.1
    rw [Array.all_eq_true_iff_forall_mem] at h2
    have h3 := h2 e he
    rw [hb] at h3
    simpa using h3
  · intro k o j want ho hg
    have h2 := (key k o ho).1.1.1.2
    rw [hg] at h2
    dsimp only at h2
    cases hd : (ops[j]?).bind (·.dst) with
    | none => rw [hd] at h2; cases h2
    | some d => rw [hd] at h2; exact ⟨d, rfl, of_decide_eq_true h2⟩
  · intro k o hk ho
    have h2 := (key k o ho).1.1.2
    rw [if_pos hk] at h2
    cases hd : o.dst with
    | none => rw [hd] at h2; cases h2
    | some d =>
      rw [hd] at h2
      simp only [Bool.and_eq_true, decide_eq_true_eq, List.all_eq_true] at h2
      refine ⟨d, rfl, h2.1, fun j hj hjk => ?_⟩
      have h3 := h2.2 j (List.mem_range.2 hj)
      simp only [Bool.or_eq_true, beq_iff_eq, bne_iff_ne, ne_eq] at h3
      exact h3.resolve_left hjk
  · intro k hm hk
    have h2 := h1 k (List.mem_range.2 (by omega))
    cases ho : ops[k]? with
    | none => rw [ho] at h2; cases h2
    | some o =>
      have h3 := (key k o ho).1.2
      rw [if_pos ⟨hm, hk⟩, List.any_eq_true] at h3
      obtain ⟨j, hj, h4⟩ := h3
      simp only [Bool.and_eq_true, decide_eq_true_eq] at h4
      cases hp : ops[j]? with
      | none => rw [hp] at h4; cases h4.2
      | some p =>
        rw [hp] at h4
        have h5 := h4.2
        simp only [List.any_eq_true, Bool.and_eq_true, beq_iff_eq] at h5
        obtain ⟨e, he, hb, hk⟩ := h5
        exact ⟨j, p, e, h4.1.1, h4.1.2, hp, Array.mem_toList_iff.1 he, hb, hk⟩
  · intro k o hk ho
    have h3 := (key k o ho).2
    rw [if_pos hk] at h3
    simp only [List.any_eq_true, Bool.and_eq_true, beq_iff_eq] at h3
    obtain ⟨e, he, hb, hk⟩ := h3
    exact ⟨e, Array.mem_toList_iff.1 he, hb, hk⟩

theorem wanted_iff {m N : Nat} (h : Ok ops m N) {k : Nat} {o : Oper} (ho : ops[k]? = some o) {a : Act} (ha : a.tmps.size = N) : Region.wanted o (yielded ops a.tmps) = true ↔ Wants ops o a.eval := by
  unfold Region.wanted Wants
  cases hg : o.guard with
  | none => simp
  | some jw =>
    obtain ⟨j, want⟩ := jw
    obtain ⟨d, hd, hlt⟩ := h.guards k o j want ho hg
    have hlt' : d < a.tmps.size := by omega
    have hdo : dstOf ops j = d := by unfold dstOf; rw [hd]; rfl
    dsimp only
    rw [hdo]
    unfold yielded
    rw [hd]
    show ((match (some d).bind (a.tmps[·]?) with | some (.bool b) => some b | _ => none) == some want) = true ↔ a.tmps.getD d undef = .bool want
    have hg : a.tmps[d]? = some a.tmps[d] := Array.getElem?_eq_getElem hlt'
    rw [Option.bind_some, hg, Array.getD_eq_getD_getElem?, hg, Option.getD_some]
    cases a.tmps[d] <;> simp

/-- What is known on the way. -/
structure Way (ops : Array Oper) (m : Nat) (F : Nat → Value → World → Prop) (a0 : Act) (w0 : World) (listed : Array Bool) (a : Act) (w : World) : Prop where
  size : listed.size = ops.size
  late : ∀ k, m ≤ k → listed.getD k false = false
  defers : a.defers = a0.defers
  tmps : a.tmps.size = a0.tmps.size
  base : ∀ t, (∀ j, j < m → (ops[j]?).bind (·.dst) ≠ some t) → a.eval (.tmp t) = a0.eval (.tmp t)
  below : Below w0.heap.size w0 w
  facts : ∀ k, k < m → listed.getD k false = true → F k (a.eval (.tmp (dstOf ops k))) w
  closed : ∀ k o, ops[k]? = some o → listed.getD k false = true → ∀ e ∈ o.after, Region.binds .any e = true → listed.getD e.on false = true

/-- What is owed for one operation. -/
def Step (P : Program) (ops : Array Oper) (m : Nat) (F : Nat → Value → World → Prop) (a0 : Act) (w0 : World) (k : Nat) (o : Oper) : Prop :=
  ∀ (ev : Operand → Value) (w : World), Below w0.heap.size w0 w → (∀ v, ev (.const v) = v) → (∀ f, ev (.func f) = .func (.func f) #[] #[]) → (∀ g, ev (.global g) = .pointer (some ⟨g, 0, none⟩)) →
    (∀ t, (List.range m).all (fun j => (ops[j]?).bind (·.dst) != some t) = true → ev (.tmp t) = a0.eval (.tmp t)) →
    (∀ j ∈ depsOf o, F j (ev (.tmp (dstOf ops j))) w) →
    (Wants ops o ev → Gives P o ev w fun v w' => F k v w' ∧ Below w.heap.size w w') ∧ (¬ Wants ops o ev → F k undef w)
def Steps (P : Program) (ops : Array Oper) (m : Nat) (F : Nat → Value → World → Prop) (a0 : Act) (w0 : World) : Nat → List Oper → Prop
  | _, [] => True
  | k, o :: l => Step P ops m F a0 w0 k o ∧ Steps P ops m F a0 w0 (k + 1) l
theorem Steps.get {m : Nat} {F : Nat → Value → World → Prop} {a0 : Act} {w0 : World} : ∀ (l : List Oper) (k : Nat), Steps P ops m F a0 w0 k l → ∀ j o, l[j]? = some o → Step P ops m F a0 w0 (k + j) o
  | [], _, _, j, o, h => by simp at h
  | x :: l, k, hs, 0, o, h => by
    simp at h; subst h; exact hs.1
  | x :: l, k, hs, j + 1, o, h => by
    have := Steps.get l (k + 1) hs.2 j o (by simpa using h)
    rwa [show k + (j + 1) = k + 1 + j by omega]

theorem count_set {l : List Bool} {i : Nat} (h : l[i]? = some false) : (l.set i true).count false + 1 = l.count false := by
  induction l generalizing i with
  | nil => simp at h
  | cons x l ih =>
    cases i with
    | zero => simp at h; subst h; simp
    | succ i =>
      simp at h
      have := ih h
      cases x <;> simp <;> omega

/-- The least one that is not listed may come up. -/
theorem ready_of_not {m N : Nat} (h : Ok ops m N) {listed : Array Bool} (hs : listed.size = ops.size) {i : Nat} (hi : i < ops.size) (hl : listed.getD i true = false) : ∃ j, j ≤ i ∧ j ∈ Region.ready .any ops listed := by
  induction i using Nat.strongRecOn with
  | ind i ih =>
    have ho : ops[i]? = some ops[i] := Array.getElem?_eq_getElem hi
    by_cases hall : ∀ e ∈ ops[i].after, Region.binds .any e = true → listed.getD e.on false = true
    · exact ⟨i, Nat.le_refl _, mem_ready.2 ⟨hl, _, ho, hall⟩⟩
    · simp only [Classical.not_forall] at hall
      obtain ⟨e, he, hb, hn⟩ := hall
      have hlt := h.early i _ ho e he hb
      obtain ⟨j, hj, hr⟩ := ih e.on hlt (by omega) (by
        have h1 : e.on < listed.size := by omega
        rw [Array.getD_eq_getD_getElem?, Array.getElem?_eq_getElem h1] at hn ⊢
        simpa using hn)
      exact ⟨j, by omega, hr⟩

theorem size_put (a : Act) (d : Option Tmp) (v : Value) : (a.put d v).tmps.size = a.tmps.size := by
  cases d <;> simp [Act.put]
theorem defers_put (a : Act) (d : Option Tmp) (v : Value) : (a.put d v).defers = a.defers := by
  cases d <;> rfl
theorem eval_put_same {a : Act} {d : Nat} {v : Value} (h : d < a.tmps.size) : (a.put (some d) v).eval (.tmp d) = v := by
  simp [Act.put, Act.eval, h]
theorem eval_put_ne {a : Act} {d t : Nat} {v : Value} (h : d ≠ t) : (a.put (some d) v).eval (.tmp t) = a.eval (.tmp t) := by
  simp [Act.put, Act.eval, Array.getElem?_setIfInBounds_ne h]

theorem Way.put {m : Nat} {F : Nat → Value → World → Prop} {a0 : Act} {w0 : World} {listed : Array Bool} {a : Act} {w w' : World} (hok : Ok ops m a0.tmps.size)
    (hst : ∀ k v w w', F k v w → Below w.heap.size w w' → F k v w') (h : Way ops m F a0 w0 listed a w) {i : Nat} {o : Oper} (hi : ops[i]? = some o) (him : i < m)
    (hd : ∀ e ∈ o.after, Region.binds .any e = true → listed.getD e.on false = true) {v : Value} (hF : F i v w') (hB : Below w.heap.size w w') : Way ops m F a0 w0 (listed.setIfInBounds i true) (a.put o.dst v) w' := by
  obtain ⟨d, hdst, hdN, hother⟩ := hok.dsts i o him hi
  have hio : (ops[i]?).bind (·.dst) = some d := by rw [hi]; exact hdst
  refine ⟨by simpa using h.size, ?_, by rw [defers_put]; exact h.defers, by rw [size_put]; exact h.tmps, ?_, h.below.trans (hB.mono h.below.size), ?_, ?_⟩
  · intro k hk
    rw [getD_set_ne false (by omega : i ≠ k)]; exact h.late k hk
  · intro t ht
    rw [hdst, eval_put_ne (fun e => ht i him (by rw [← e]; exact hio))]
    exact h.base t ht
  · intro k hk hlk
    by_cases hik : i = k
    · subst hik
      have e : dstOf ops i = d := by unfold dstOf; rw [hio]; rfl
      rw [e, hdst, eval_put_same (by rw [h.tmps]; exact hdN)]
      exact hF
    · rw [getD_set_ne false hik] at hlk
      have hk' : k < ops.size := by have := hok.le; omega
      obtain ⟨d', hd', _, _⟩ := hok.dsts k _ hk (Array.getElem?_eq_getElem hk')
      have hko : (ops[k]?).bind (·.dst) = some d' := by rw [Array.getElem?_eq_getElem hk']; exact hd'
      have e : dstOf ops k = d' := by unfold dstOf; rw [hko]; rfl
      rw [e, hdst, eval_put_ne (fun e => hother k hk (Ne.symm hik) (by rw [e]; exact hko)), ← e]
      exact hst _ _ _ _ (h.facts k hk hlk) hB
  · intro k ok hok' hlk e he hb
    by_cases hik : i = k
    · subst hik
      rw [hi] at hok'; injection hok' with hok'; subst hok'
      exact getD_set_true (hd e he hb)
    · rw [getD_set_ne false hik] at hlk
      exact getD_set_true (h.closed k ok hok' hlk e he hb)

/-- Behind the first m operations: the others one by one. -/
theorem any_tail {m N : Nat} (h : Ok ops m N) : ∀ (d k : Nat), k + d = ops.size → m ≤ k → ∀ (fuel : Nat), d ≤ fuel → ∀ (listed : Array Bool), listed.size = ops.size → (∀ j, j < k → listed.getD j false = true) → (∀ j, k ≤ j → listed.getD j false = false) → ∀ a w, wpList P ops Q (ops.toList.drop k) a w → wpAny P .any ops Q fuel listed a w := by
  intro d
  induction d with
  | zero =>
    intro k hk hm fuel _ listed hs hall _ a w hw
    have hr : Region.ready .any ops listed = [] := by
      rw [List.eq_nil_iff_forall_not_mem]
      intro j hj
      obtain ⟨h0, o, ho, _⟩ := mem_ready.1 hj
      have hlt := (Array.getElem?_eq_some_iff.1 ho).1
      have h1 := hall j (by omega)
      rw [Array.getD_eq_getD_getElem?, Array.getElem?_eq_getElem (by omega : j < listed.size)] at h0 h1
      simp at h0 h1
      rw [h0] at h1; cases h1
    rw [List.drop_of_length_le (by rw [Array.length_toList]; omega)] at hw
    cases fuel with
    | zero => exact ⟨hr, hw⟩
    | succ f => exact ⟨fun _ => hw, by rw [hr]; intro i hi; cases hi⟩
  | succ d ih =>
    intro k hk hm fuel hf listed hs hall hnot a w hw
    obtain ⟨f, rfl⟩ : ∃ f, fuel = f + 1 := ⟨fuel - 1, by omega⟩
    have hlt : k < ops.size := by omega
    have hok : ops[k]? = some ops[k] := Array.getElem?_eq_getElem hlt
    have hun : ∀ j, k ≤ j → j < ops.size → listed.getD j true = false := fun j hj hj2 => by
      have h1 := hnot j hj
      rw [Array.getD_eq_getD_getElem?, Array.getElem?_eq_getElem (by omega : j < listed.size)] at h1 ⊢
      simpa using h1
    have hmem : k ∈ Region.ready .any ops listed := mem_ready.2 ⟨hun k (Nat.le_refl _) hlt, _, hok, fun e he hb => hall _ (h.early k _ hok e he hb)⟩
    refine ⟨fun h0 => (by rw [h0] at hmem; cases hmem), fun i hi => ?_⟩
    obtain ⟨h0, o, ho, hdep⟩ := mem_ready.1 hi
    have hil := (Array.getElem?_eq_some_iff.1 ho).1
    have hki : k = i := by
      by_cases h1 : i < k
      · have := hall i h1
        rw [Array.getD_eq_getD_getElem?, Array.getElem?_eq_getElem (by omega : i < listed.size)] at h0 this
        simp at h0 this
        rw [h0] at this; cases this
      · by_cases h2 : i = k
        · exact h2.symm
        · exfalso
          obtain ⟨e, he, hb, hon⟩ := h.tail i o (by omega) ho
          have h3 := hdep e he hb
          rw [hnot e.on (by omega)] at h3; cases h3
    subst hki
    rw [hok] at ho; injection ho with ho
    rw [List.drop_eq_getElem_cons (by rw [Array.length_toList]; exact hlt)] at hw
    unfold wpList at hw
    have hrest : ∀ a w, wpList P ops Q (ops.toList.drop (k + 1)) a w → wpAny P .any ops Q f (listed.setIfInBounds k true) a w := fun a w hw =>
      ih (k + 1) (by omega) (by omega) f (by omega) _ (by simpa using hs) (fun j hj => by
        by_cases hjk : j = k
        · subst hjk; simp [hs, hlt]
        · exact getD_set_true (hall j (by omega))) (fun j hj => by rw [getD_set_ne false (by omega : k ≠ j)]; exact hnot j (by omega)) a w hw
    unfold wpOp
    rw [hok]
    dsimp only
    rw [Array.getElem_toList] at hw
    split
    · rename_i hwant
      rw [if_pos hwant] at hw
      exact hw.imp (Oper.wp_mono hrest) id
    · rename_i hwant
      rw [if_neg hwant] at hw
      exact hrest _ _ hw

theorem act_frame (a : Act) (N : Nat) (h : a.tmps.size = N) : a = ⟨((List.range N).map fun t => a.eval (.tmp t)).toArray, a.defers⟩ := by
  obtain ⟨t, d⟩ := a
  subst h
  congr 1
  apply Array.ext
  · simp
  · intro i h1 h2
    simp [Act.eval, h1]

theorem any_way {m : Nat} {F : Nat → Value → World → Prop} {a0 : Act} {w0 : World} (hok : Ok ops m a0.tmps.size)
    (hst : ∀ k v w w', F k v w → Below w.heap.size w w' → F k v w') (hsteps : Steps P ops m F a0 w0 0 (ops.toList.take m))
    (hend : ∀ (x : Nat → Value) (w : World), Below w0.heap.size w0 w → (∀ t, (List.range m).all (fun j => (ops[j]?).bind (·.dst) != some t) = true → x t = a0.eval (.tmp t)) → (∀ k, k < m → F k (x (dstOf ops k)) w) →
      wpList P ops Q (ops.toList.drop m) ⟨((List.range a0.tmps.size).map x).toArray, a0.defers⟩ w) :
    ∀ (fuel : Nat) (listed : Array Bool) (a : Act) (w : World), listed.toList.count false ≤ fuel → Way ops m F a0 w0 listed a w → wpAny P .any ops Q fuel listed a w := by
  intro fuel
  have hbase : ∀ {a : Act} {w : World} {listed : Array Bool}, Way ops m F a0 w0 listed a w → ∀ t, (List.range m).all (fun j => (ops[j]?).bind (·.dst) != some t) = true → a.eval (.tmp t) = a0.eval (.tmp t) := fun hw t ht =>
    hw.base t fun j hj => by
      have := List.all_eq_true.1 ht j (List.mem_range.2 hj)
      simpa using this
  have fin : ∀ (fuel : Nat) (listed : Array Bool) (a : Act) (w : World), listed.toList.count false ≤ fuel → Way ops m F a0 w0 listed a w → (∀ k, k < m → listed.getD k false = true) → wpAny P .any ops Q fuel listed a w := by
    intro fuel listed a w hc hw hall
    have hcount : ops.size - m ≤ fuel := by
      refine Nat.le_trans ?_ hc
      have h1 : listed.toList.drop m = List.replicate (ops.size - m) false := by
        apply List.ext_getElem
        · rw [List.length_drop, Array.length_toList, hw.size, List.length_replicate]
        · intro i h1 h2
          rw [List.getElem_drop, List.getElem_replicate]
          have h3 := hw.late (m + i) (by omega)
          rw [List.length_drop, Array.length_toList] at h1
          rw [Array.getD_eq_getD_getElem?, Array.getElem?_eq_getElem (by omega : m + i < listed.size)] at h3
          simpa using h3
      calc ops.size - m = (List.replicate (ops.size - m) false).count false := by rw [List.count_replicate_self]
        _ = (listed.toList.drop m).count false := by rw [h1]
        _ ≤ listed.toList.count false := (List.drop_sublist _ _).count_le _
    refine any_tail hok (ops.size - m) m (by have := hok.le; omega) (Nat.le_refl _) fuel hcount listed hw.size hall hw.late a w ?_
    have h2 := hend (fun t => a.eval (.tmp t)) w hw.below (hbase hw) (fun k hk => hw.facts k hk (hall k hk))
    rw [act_frame a _ hw.tmps, hw.defers]
    exact h2
  induction fuel with
  | zero =>
    intro listed a w hc hw
    refine fin 0 listed a w hc hw fun k hk => ?_
    have hk' : k < listed.size := by have := hok.le; rw [hw.size]; omega
    have h0 : listed.toList.count false = 0 := by omega
    rw [List.count_eq_zero] at h0
    rw [Array.getD_eq_getD_getElem?, Array.getElem?_eq_getElem hk', Option.getD_some]
    cases h1 : listed[k] with
    | true => rfl
    | false => exact absurd (by rw [← h1]; exact Array.getElem_mem_toList hk') h0
  | succ fuel ih =>
    intro listed a w hc hw
    by_cases hall : ∀ k, k < m → listed.getD k false = true
    · exact fin _ listed a w hc hw hall
    · simp only [Classical.not_forall] at hall
      obtain ⟨k0, hk0, hn0⟩ := hall
      have hun : ∀ j, j < ops.size → ¬ listed.getD j false = true → listed.getD j true = false := fun j hj h1 => by
        rw [Array.getD_eq_getD_getElem?, Array.getElem?_eq_getElem (by rw [hw.size]; omega : j < listed.size)] at h1 ⊢
        simpa using h1
      refine ⟨fun h0 => ?_, fun i hi => ?_⟩
      · obtain ⟨j, _, hj⟩ := ready_of_not hok hw.size (by have := hok.le; omega) (hun k0 (by have := hok.le; omega) hn0)
        rw [h0] at hj; cases hj
      · obtain ⟨hli, o, ho, hdep⟩ := mem_ready.1 hi
        have hil := (Array.getElem?_eq_some_iff.1 ho).1
        have him : i < m := by
          by_cases h1 : i < m
          · exact h1
          · exfalso
            by_cases h2 : i = m
            · subst h2
              -- all ahead of it are listed
              have hcl : ∀ d k, k + d + 1 = i → listed.getD k false = true := by
                intro d
                induction d using Nat.strongRecOn with
                | ind d ihd =>
                  intro k hk
                  obtain ⟨j, p, e, hkj, hjm, hp, he, hb, hek⟩ := hok.closes k hil (by omega)
                  by_cases hji : j = i
                  · subst hji
                    rw [ho] at hp; injection hp with hp; subst hp
                    rw [← hek]; exact hdep e he hb
                  · have h3 := ihd (i - j - 1) (by omega) j (by omega)
                    rw [← hek]; exact hw.closed j p hp h3 e he hb
              exact hn0 (hcl (i - k0 - 1) k0 (by omega))
            · obtain ⟨e, he, hb, hon⟩ := hok.tail i o (by omega) ho
              have h3 := hdep e he hb
              rw [hw.late e.on (by omega)] at h3; cases h3
        have hst1 := Steps.get _ 0 hsteps i o (by rw [List.getElem?_take_of_lt him, Array.getElem?_toList]; exact ho)
        rw [Nat.zero_add] at hst1
        have hst2 := hst1 a.eval w hw.below (fun _ => rfl) (fun _ => rfl) (fun _ => rfl) (hbase hw) (fun j hj => by
          unfold depsOf at hj
          rw [List.mem_map] at hj
          obtain ⟨e, he, rfl⟩ := hj
          rw [List.mem_filter] at he
          have he' : e ∈ o.after := Array.mem_toList_iff.1 he.1
          exact hw.facts e.on (by have := hok.early i o ho e he' he.2; omega) (hdep e he' he.2))
        have hset : (listed.setIfInBounds i true).toList.count false ≤ fuel := by
          have h1 : listed.toList[i]? = some false := by
            rw [Array.getElem?_toList]
            have h2 : i < listed.size := by rw [hw.size]; exact hil
            rw [Array.getD_eq_getD_getElem?, Array.getElem?_eq_getElem h2, Option.getD_some] at hli
            rw [Array.getElem?_eq_getElem h2, hli]
          have := count_set h1
          rw [Array.toList_setIfInBounds]; omega
        have hgo : ∀ v w', (F i v w' ∧ Below w.heap.size w w') → wpAny P .any ops Q fuel (listed.setIfInBounds i true) (a.put o.dst v) w' := fun v w' hv =>
          ih _ _ _ hset (hw.put hok hst ho him hdep hv.1 hv.2)
        unfold wpOp
        rw [ho]
        dsimp only
        split
        · rename_i hwant
          exact .inl ((hst2.1 ((wanted_iff hok ho hw.tmps).1 hwant)).wp hgo)
        · rename_i hwant
          exact hgo _ _ ⟨hst2.2 (fun h => hwant ((wanted_iff hok ho hw.tmps).2 h)), Below.refl _ _⟩

/-- The rule. -/
theorem region_facts {id : Nat} {a0 : Act} {w : World} (hm : P.follows .mixedOrders = true) (m : Nat) (F : Nat → Value → World → Prop) (hok : regionOk ops m a0.tmps.size = true)
    (hst : ∀ k v w w', F k v w → Below w.heap.size w w' → F k v w') (hsteps : Steps P ops m F a0 w 0 (ops.toList.take m))
    (hend : ∀ (x : Nat → Value) (w' : World), Below w.heap.size w w' → (∀ t, (List.range m).all (fun j => (ops[j]?).bind (·.dst) != some t) = true → x t = a0.eval (.tmp t)) → (∀ k, k < m → F k (x (dstOf ops k)) w') →
      wpList P ops Q (ops.toList.drop m) ⟨((List.range a0.tmps.size).map x).toArray, a0.defers⟩ w') :
    (Code.region id ops true).wp P Q a0 w := by
  refine wp_region_any hm ?_
  have hd : Below w.heap.size w { w with drawn := w.drawn + 1 } := (Below.refl _ _).drew
  refine any_way (regionOk_spec hok) hst hsteps hend ops.size _ a0 _ (by simp) ⟨by simp, fun k _ => ?_, rfl, rfl, fun _ _ => rfl, hd, fun k _ h => ?_, fun k o _ h => ?_⟩
  · by_cases h : k < ops.size <;> simp [h]
  · by_cases h1 : k < ops.size <;> simp [h1] at h
  · by_cases h1 : k < ops.size <;> simp [h1] at h

end
end Go.Proofs.Ytmfkgbncnaingaa.Reg
end

section
/- Facts of a region's operations, and that they last. -/
namespace Go.Proofs.Ytmfkgbncnaingaa.Reg
open Go Go.RowKit

/-- It is this value. -/
def FIs (u : Value) (v : Value) (_ : World) : Prop := v = u
/-- A literal slice in memory of its own. -/
def FLit (B : Nat) (c : Array Value) (t : TypeId) (n : Nat) (v : Value) (w : World) : Prop := ∃ g, v = .slice (some ⟨g, 0, none⟩) n n ∧ B ≤ g ∧ w.heap[g]? = some (.cells c t (0, 0))
/-- An address within it. -/
def FAt (B : Nat) (c : Array Value) (t : TypeId) (p : Nat) (v : Value) (w : World) : Prop := ∃ g, v = .pointer (some ⟨g, p, none⟩) ∧ B ≤ g ∧ w.heap[g]? = some (.cells c t (0, 0))
theorem lasts {w w' : World} {g : Nat} {o : Obj} (h : w.heap[g]? = some o) (hb : Below w.heap.size w w') : w'.heap[g]? = some o := by
  rw [hb.block g (Array.getElem?_eq_some_iff.1 h).1]; exact h
theorem FIs.last {u v : Value} {w w' : World} (h : FIs u v w) (_ : Below w.heap.size w w') : FIs u v w' := h
theorem FLit.last {B : Nat} {c : Array Value} {t : TypeId} {n : Nat} {v : Value} {w w' : World} (h : FLit B c t n v w) (hb : Below w.heap.size w w') : FLit B c t n v w' := by
  obtain ⟨g, h1, h2, h3⟩ := h; exact ⟨g, h1, h2, lasts h3 hb⟩
theorem FAt.last {B : Nat} {c : Array Value} {t : TypeId} {p : Nat} {v : Value} {w w' : World} (h : FAt B c t p v w) (hb : Below w.heap.size w w') : FAt B c t p v w' := by
  obtain ⟨g, h1, h2, h3⟩ := h; exact ⟨g, h1, h2, lasts h3 hb⟩
theorem FAt.cell {B : Nat} {c : Array Value} {t : TypeId} {p : Nat} {v : Value} {w : World} (h : FAt B c t p v w) {u : Value} (hu : c[p]? = some u) : ∃ g, v = .pointer (some ⟨g, p, none⟩) ∧ w.cell? ⟨g, p, none⟩ = some u := by
  obtain ⟨g, h1, _, h3⟩ := h; exact ⟨g, h1, by simp [World.cell?, h3, hu]⟩
theorem new_block (w : World) (o : Obj) : (w.alloc o).heap[w.heap.size]? = some o := by
  show (w.heap.push _)[w.heap.size]? = _
  rw [Array.getElem?_push_size]
theorem new_block_at {w : World} {o : Obj} {z : Nat} (h : w.heap.size = z) : (w.alloc o).heap[z]? = some o := by rw [← h]; exact new_block w o
/-- append, by its run. -/
theorem gives_append {P : Program} {o : Oper} {ev : Operand → Value} {w w' : World} {v : Value} {sl x : Operand} {t u : TypeId} {K : Value → World → Prop}
    (ho : o.op = .call { callee := .builtin .append, args := #[sl, x], argTypes := #[t, u] }) (hr : (Builtin.append_ #[t, u] o.type #[ev sl, ev x]).run P w = .ok v w') (hk : K v w') : Gives P o ev w K := by
  unfold Gives execOp
  simp only [ho, resolve, invoke, builtin, Sem.run_bind, Sem.run_pure, Result.andThen_ok, List.map_toArray, List.map_cons, List.map_nil, hr]
  exact hk
end Go.Proofs.Ytmfkgbncnaingaa.Reg
end

section
/- Functions of the program as plain functions, and the walks that show it. Written by the session's own program pp.py. -/
namespace Go.Proofs.Ytmfkgbncnaingaa.QRows
open Go.RowKit Go.Proofs.YtmfkgbncnaingaaW.PrintWords Go.Proofs.YtmfkgbncnaingaaW.PrintLast Go.Proofs.YtmfkgbncnaingaaW.PrintMore
attribute [local go_sem] max2_int min2_int max_two min_two max_three min_three max_four min_four   -- for this text's walks alone
set_option linter.unusedVariables false
set_option linter.unusedSimpArgs false



def errW : Option Int → Value
  | none => .nilIface
  | some c => .iface 0 (.int .i64 c)
theorem errW_none : errW none = .nilIface := rfl
theorem errW_some (c : Int) : errW (some c) = .iface 0 (.int .i64 c) := rfl

theorem info3 : (Try.prog.info? 3).map (fun i => (i.zero, i.size, i.bytes)) = some (some (.int .i64 0), 1, 8) := by kernel_rfl
theorem info5 : (Try.prog.info? 5).map (fun i => (i.zero, i.size, i.bytes)) = some (some (.int .u8 0), 1, 1) := by kernel_rfl
theorem info9 : (Try.prog.info? 9).map (fun i => (i.zero, i.size, i.bytes)) = some (some (.string ⟨#[]⟩), 1, 16) := by kernel_rfl
theorem info67 : (Try.prog.info? 67).map (fun i => (i.zero, i.size, i.bytes)) = some (some (.agg #[(.string ⟨#[]⟩), (.string ⟨#[]⟩)]), 2, 32) := by kernel_rfl
-- the values' own types
def rd_L1 (xs : List (List Int)) (i : Int) : (List Int) := xs.getD i.toNat ([] : List Int)
theorem at_L1 {w : World} {A : Option Addr} {n : Nat} {xs : List (List Int)} (h : Kd.C (Kd.slice 3 (Kd.int .i64)) w A n xs) (i : Int) (h0 : 0 ≤ i) (h1 : i < n) : ∃ ad A0 c0, A = some ad ∧ w.cell? (ad.add i.toNat) = some (.slice A0 (rd_L1 xs i).length c0) ∧ (rd_L1 xs i).length ≤ c0 ∧ (Kd.int .i64).C w A0 (rd_L1 xs i).length (rd_L1 xs i) := by
  obtain ⟨ad, c, e, _, hK, hc0⟩ := Kd.C_get h ([] : List Int) i h0 h1
  have hc : ∀ j u, c[j]? = some u → w.cell? (ad.add (i.toNat * 1 + j)) = some u := hc0
  obtain ⟨A0, c0, rfl, l0, g0⟩ := hK
  exact ⟨ad, A0, c0, e, by have hq := hc 0 _ rfl; rwa [Nat.mul_one, Nat.add_zero] at hq, l0, g0⟩

/-! #### struct type 67 -/
structure S67 where
  f0 : ByteArray
  f1 : ByteArray
def z67 : S67 := ⟨(⟨#[]⟩ : ByteArray), (⟨#[]⟩ : ByteArray)⟩
def k67 : Kd S67 := Kd.iso (Kd.pair Kd.string Kd.string) (fun x : S67 => (x.f0, x.f1))
theorem k67_open {w : World} {x : S67} {cs : List Value} (h : k67.K w x cs) : cs = [.string x.f0, .string x.f1] := by
  obtain ⟨_, _, rfl, rfl, rfl⟩ := h
  exact rfl
theorem k67_openM {w : World} {base : Nat} {ok : Nat → Prop} {x : S67} {cs : List Value} (h : k67.M w base ok x cs) : cs = [.string x.f0, .string x.f1] := by
  obtain ⟨_, _, rfl, rfl, rfl⟩ := h
  exact rfl
theorem k67_mk (w : World) (x : S67)  : k67.K w x [.string x.f0, .string x.f1] := ⟨[.string x.f0], [.string x.f1], rfl, rfl, rfl⟩
theorem k67_mkM (w : World) (base : Nat) (ok : Nat → Prop) (x : S67)  : k67.M w base ok x [.string x.f0, .string x.f1] := ⟨[.string x.f0], [.string x.f1], rfl, rfl, rfl⟩
def rd_T67 (xs : List S67) (i : Int) : S67 := xs.getD i.toNat z67
theorem at_T67 {w : World} {A : Option Addr} {n : Nat} {xs : List S67} (h : Kd.C k67 w A n xs) (i : Int) (h0 : 0 ≤ i) (h1 : i < n) : ∃ ad , A = some ad ∧ w.cell? (ad.add (i.toNat * 2)) = some (.string (rd_T67 xs i).f0) ∧ w.cell? ⟨(ad.add (i.toNat * 2)).block, (ad.add (i.toNat * 2)).off + 1, none⟩ = some (.string (rd_T67 xs i).f1) := by
  obtain ⟨ad, c, e, _, hK, hc0⟩ := Kd.C_get h z67 i h0 h1
  have hc : ∀ j u, c[j]? = some u → w.cell? (ad.add (i.toNat * 2 + j)) = some u := hc0
  obtain rfl := k67_open hK
  exact ⟨ad, e, hc 0 _ rfl, by rw [← add_field _ _ 1 (by omega)]; exact hc 1 _ rfl⟩

def rd_L4 (xs : List (List S67)) (i : Int) : (List S67) := xs.getD i.toNat ([] : List S67)
theorem at_L4 {w : World} {A : Option Addr} {n : Nat} {xs : List (List S67)} (h : Kd.C (Kd.slice 67 k67) w A n xs) (i : Int) (h0 : 0 ≤ i) (h1 : i < n) : ∃ ad A0 c0, A = some ad ∧ w.cell? (ad.add i.toNat) = some (.slice A0 (rd_L4 xs i).length c0) ∧ (rd_L4 xs i).length ≤ c0 ∧ k67.C w A0 (rd_L4 xs i).length (rd_L4 xs i) := by
  obtain ⟨ad, c, e, _, hK, hc0⟩ := Kd.C_get h ([] : List S67) i h0 h1
  have hc : ∀ j u, c[j]? = some u → w.cell? (ad.add (i.toNat * 1 + j)) = some u := hc0
  obtain ⟨A0, c0, rfl, l0, g0⟩ := hK
  exact ⟨ad, A0, c0, e, by have hq := hc 0 _ rfl; rwa [Nat.mul_one, Nat.add_zero] at hq, l0, g0⟩

end Go.Proofs.Ytmfkgbncnaingaa.QRows
end

section
/- Functions of the program as plain functions, and the walks that show it. Written by the session's own program pp.py. -/
namespace Go.Proofs.Ytmfkgbncnaingaa.QRows
open Go.RowKit Go.Proofs.YtmfkgbncnaingaaW.PrintWords Go.Proofs.YtmfkgbncnaingaaW.PrintLast Go.Proofs.YtmfkgbncnaingaaW.PrintMore
attribute [local go_sem] max2_int min2_int max_two min_two max_three min_three max_four min_four   -- for this text's walks alone
set_option linter.unusedVariables false
set_option linter.unusedSimpArgs false

/-! ### bagnallkeep_Picked: function 31 -/
def bagnallkeep_Picked.f (a0 : Int) (a1 : Int) : Option (Int) := if a1 = 0 then (none) else (if (Int.tmod a0 a1) < 0 then (some (wrap64 ((Int.tmod a0 a1) + a1))) else (some (Int.tmod a0 a1)))
set_option maxHeartbeats 8000000 in
set_option maxRecDepth 100000 in
theorem bagnallkeep_Picked.calls (a0 : Int) (a1 : Int) (r : Int) (w : World) (h : bagnallkeep_Picked.f a0 a1 = some r) :
    Calls Try.prog 31 #[.int .i64 a0, .int .i64 a1] w fun e w' => e = .returned (.int .i64 r) ∧ Drawn0 w w' := by
  have H : (if a1 = 0 then (none) else (if (Int.tmod a0 a1) < 0 then (some (wrap64 ((Int.tmod a0 a1) + a1))) else (some (Int.tmod a0 a1)))) = some r := h
  clear h
  by_cases c3 : a1 = 0
  · rw [if_pos c3] at H
    exact absurd H (by simp)
  · rw [if_neg c3] at H
    have c3b0 : (a1 == 0) = false := beq_eq_false_iff_ne.mpr c3
    have c3b1 : (a1 != 0) = true := bne_iff_ne.mpr c3
    by_cases c4 : (Int.tmod a0 a1) < 0
    · rw [if_pos c4] at H
      have c4b0 : decide ((Int.tmod a0 a1) < 0) = true := decide_eq_true c4
      clear c4
      obtain rfl := Option.some.inj H
      go_enter Try.func31, Try.ntmps31
      go_wp2
      go_ret
      exact ⟨by first | rfl | (simp; done) | (simp [*]; done), by repeat (first | exact Drawn0.refl _ | apply Drawn0.step)⟩
    · rw [if_neg c4] at H
      have c4b0 : decide ((Int.tmod a0 a1) < 0) = false := decide_eq_false c4
      clear c4
      obtain rfl := Option.some.inj H
      go_enter Try.func31, Try.ntmps31
      go_wp2
      go_ret
      exact ⟨by first | rfl | (simp; done) | (simp [*]; done), by repeat (first | exact Drawn0.refl _ | apply Drawn0.step)⟩

end Go.Proofs.Ytmfkgbncnaingaa.QRows
end

section
/- Rows of two cells: what a row holds, copies within it, and slices.Insert of one row. -/
namespace Go.Proofs.Ytmfkgbncnaingaa.Rows
open Go.RowKit Go.Lib Go.Proofs.Ytmfkgbncnaingaa.QRows Go.Proofs.YtmfkgbncnaingaaW.PrintWords Go.Proofs.YtmfkgbncnaingaaW.PrintLast Go.Proofs.YtmfkgbncnaingaaW.PrintMore

/-- The cells of rows. -/
def cs (x : S67) : List Value := [.string x.f0, .string x.f1]
def cells : List S67 → List Value
  | [] => []
  | x :: l => .string x.f0 :: .string x.f1 :: cells l
theorem cells_append (a b : List S67) : cells (a ++ b) = cells a ++ cells b := by
  induction a with
  | nil => rfl
  | cons x l ih => simp [cells, ih]
theorem cells_length (a : List S67) : (cells a).length = a.length * 2 := by
  induction a with
  | nil => rfl
  | cons x l ih => simp only [cells, List.length_cons, ih]; omega
theorem cells_one (a : List S67) : ∀ v ∈ cells a, v.oneCell' = true := by
  induction a with
  | nil => intro v hv; cases hv
  | cons x l ih =>
    intro v hv
    rcases List.mem_cons.1 hv with rfl | hv
    · rfl
    · rcases List.mem_cons.1 hv with rfl | hv
      · rfl
      · exact ih v hv
theorem cells_take (a : List S67) (i : Nat) : (cells a).take (i * 2) = cells (a.take i) := by
  induction i generalizing a with
  | zero => simp [cells]
  | succ i ih =>
    cases a with
    | nil => simp [cells]
    | cons x l => rw [show (i + 1) * 2 = i * 2 + 1 + 1 by omega, cells, List.take_succ_cons, List.take_succ_cons, ih, List.take_succ_cons, cells]
theorem cells_drop (a : List S67) (i : Nat) : (cells a).drop (i * 2) = cells (a.drop i) := by
  induction i generalizing a with
  | zero => simp
  | succ i ih =>
    cases a with
    | nil => simp [cells]
    | cons x l => rw [show (i + 1) * 2 = i * 2 + 1 + 1 by omega, cells, List.drop_succ_cons, List.drop_succ_cons, ih, List.drop_succ_cons]
theorem cells_get (a : List S67) (j : Nat) (p : S67) (h : a[j]? = some p) : ((cells a).drop (j * 2)).take 2 = cs p := by
  obtain ⟨hj, rfl⟩ := List.getElem?_eq_some_iff.1 h
  rw [cells_drop, List.drop_eq_getElem_cons hj]; rfl
theorem reps_cells {w : World} {base : Nat} {ok : Nat → Prop} (xs : List S67) : Reps (k67.M w base ok) k67.sz xs (cells xs) :=
  ⟨cells_length xs, fun j p hj => by
    have h := cells_get xs j p hj
    show k67.M w base ok p (((cells xs).drop (j * 2)).take 2)
    rw [h]; exact k67_mkM w base ok p⟩
theorem reps_is {w : World} {base : Nat} {ok : Nat → Prop} {xs : List S67} {l : List Value} (h : Reps (k67.M w base ok) k67.sz xs l) : l = cells xs := by
  induction xs generalizing l with
  | nil => exact List.eq_nil_of_length_eq_zero (by have := h.1; simpa using this)
  | cons x t ih =>
    have hl : l.length = (t.length + 1) * 2 := h.1
    have h0 := k67_openM (h.2 0 x rfl)
    rw [show (0 : Nat) * k67.sz = 0 by simp, List.drop_zero, show k67.sz = 2 from rfl] at h0
    have ht := ih (l := l.drop 2) ⟨by rw [List.length_drop, hl]; show (t.length + 1) * 2 - 2 = t.length * 2; omega, fun j p hj => by
      have := h.2 (j + 1) p hj
      rw [List.drop_drop, show 2 + j * k67.sz = (j + 1) * k67.sz by show 2 + j * 2 = (j + 1) * 2; omega]
      exact this⟩
    rw [cells, ← ht, ← List.take_append_drop 2 l, h0]; rfl
/-- What a row of rows is. -/
theorem row_open {w : World} {base : Nat} {ok : Nat → Prop} {v : Value} {xs : List S67} (h : k67.R 67 w base ok v xs) : (v = .slice none 0 0 ∧ xs = []) ∨
    ∃ g cap cur, v = .slice (some ⟨g, 0, none⟩) xs.length cap ∧ base ≤ g ∧ ok g ∧ w.heap[g]? = some (.cells cur 67 (0, 0)) ∧ xs.length ≤ cap ∧ cap ≤ maxLen ∧ cur.size = cap * 2 ∧ cur.toList.take (xs.length * 2) = cells xs := by
  obtain ⟨hok, inner, ⟨_, ho⟩, hr⟩ := h
  rcases ho with ⟨rfl, hn⟩ | ⟨g, cap, cur, rfl, hb, hh, h1, h2, h3, h4⟩
  · exact .inl ⟨rfl, List.eq_nil_of_length_eq_zero hn⟩
  · exact .inr ⟨g, cap, cur, rfl, hb, hok g rfl, hh, h1, h2, h3, h4.trans (reps_is hr)⟩
theorem row_close {w : World} {base g cap : Nat} {ok : Nat → Prop} {cur : Array Value} {xs : List S67} (hb : base ≤ g) (hok : ok g) (hh : w.heap[g]? = some (.cells cur 67 (0, 0))) (h1 : xs.length ≤ cap) (h2 : cap ≤ maxLen) (h3 : cur.size = cap * 2) (h4 : cur.toList.take (xs.length * 2) = cells xs) :
    k67.R 67 w base ok (.slice (some ⟨g, 0, none⟩) xs.length cap) xs :=
  ⟨fun k hk => by injection hk with hk; rw [← hk]; exact hok, cells xs, ⟨cells_length xs, .inr ⟨g, cap, cur, rfl, hb, hh, h1, h2, h3, h4⟩⟩, reps_cells xs⟩

/-- copy of elements of any size into a row. -/
theorem run_copy_wide {P : Program} (w : World) (dT sT ty elem : TypeId) (sz g o dLen dCap : Nat) (a : Addr) (sLen sCap : Nat) (cur : Array Value) (t : TypeId) (cs : List Value)
    (hu : P.underlying dT = some (.slice elem)) (hs : (P.info? elem).map (·.size) = some sz)
    (hg : w.heap[g]? = some (.cells cur t (0, 0))) (hn : cs.length = Nat.min sLen dLen * sz)
    (hsrc : ∀ j v, cs[j]? = some v → w.cell? (a.add j) = some v) (hfit : o + cs.length ≤ cur.size) (h1 : ∀ v ∈ cs, v.oneCell' = true) :
    (Builtin.copy_ #[dT, sT] ty #[.slice (some ⟨g, o, none⟩) dLen dCap, .slice (some a) sLen sCap]).run P w =
      .ok (goInt (Nat.min sLen dLen)) (w.setRow g (cur.toList.take o ++ cs ++ cur.toList.drop (o + cs.length)).toArray) := by
  have hl := run_loadCells_list (P := P) w a cs hsrc
  have hst := run_storeCells_at P g o t cs 0 cur w hg (by simpa using hfit) h1
  cases hq : P.info? elem with
  | none => simp [hq] at hs
  | some i =>
    have hi : i.size = sz := by simpa [hq] using hs
    rw [Nat.add_zero] at hst
    simp [Builtin.copy_, run_underlying hu, Builtin.lenOf, Builtin.firstCells, sizeOf, typeInfo, hq, hi, ← hn, hl, hst]

theorem size67 : (Try.prog.info? 67).map (·.size) = some 2 := by kernel_rfl
theorem sizeOf67 (w : World) : (sizeOf 67).run Try.prog w = .ok 2 w := by
  have h := size67
  cases hq : Try.prog.info? 67 with
  | none => simp [hq] at h
  | some i =>
    have hi : i.size = 2 := by simpa [hq] using h
    simp [sizeOf, typeInfo, hq, hi]
theorem f94_is : Try.prog.funcs[94]? = some Try.f94 := by kernel_rfl
theorem overlaps_run (w : World) (a b : Addr) (la ca lb cb : Nat) (ca1 cb1 : Array Value) (ta tb : TypeId) (hne : a.block ≠ b.block) (hA : w.heap[a.block]? = some (.cells ca1 ta (0, 0))) (hB : w.heap[b.block]? = some (.cells cb1 tb (0, 0))) (hk : cb1.size ≠ 0) :
    (callFunc 94 #[.slice (some a) la ca, .slice (some b) lb cb]).run Try.prog w = .ok (.value (.bool false)) w := by
  rw [run_callFunc_extern f94_is (by kernel_rfl) (by kernel_rfl) (by kernel_rfl) (e := Extern.SlicesOverlaps.overlaps #[58, 58] #[4]) (by kernel_rfl),
    Lib.run_overlaps_apart w 58 4 67 Try.underlying58 2 sizeOf67 a b la ca lb cb hne ta tb ca1.size cb1.size (by simp [World.shape?, hA]) (by simp [World.shape?, hB]) hk (by simp [World.frozen?, hA]) (by simp [World.frozen?, hA])]
  rfl

end Go.Proofs.Ytmfkgbncnaingaa.Rows
end

section
/- slices.Insert of one row. -/
namespace Go.Proofs.Ytmfkgbncnaingaa.Rows
open Go.RowKit Go.Lib Go.Proofs.Ytmfkgbncnaingaa.QRows Go.Proofs.YtmfkgbncnaingaaW.PrintWords Go.Proofs.YtmfkgbncnaingaaW.PrintLast Go.Proofs.YtmfkgbncnaingaaW.PrintMore

def spl {α : Type} (A : List α) (o : Nat) (D : List α) : List α := A.take o ++ D ++ A.drop (o + D.length)
theorem spl_length {α : Type} (A : List α) (o : Nat) (D : List α) (h : o + D.length ≤ A.length) : (spl A o D).length = A.length := by
  unfold spl; rw [List.length_append, List.length_append, List.length_take, List.length_drop]; omega
theorem spl_size (A : Array Value) (o n : Nat) (D : List Value) (hA : A.size = n) (h : o + D.length ≤ n) : (spl A.toList o D).toArray.size = n := by
  have e : A.toList.length = n := by rw [Array.length_toList]; exact hA
  have h2 := spl_length A.toList o D (by omega)
  have h3 : (spl A.toList o D).toArray.size = (spl A.toList o D).length := List.size_toArray
  omega
theorem shift_take {α : Type} (l D C : List α) (p k m : Nat) (hp : C.length = k) (hD : D.length = m) (hl : p + k + m ≤ l.length) : (spl (spl l (p + k) D) p C).take (p + k + m) = l.take p ++ C ++ D := by
  have e1 : (spl l (p + k) D).take p = l.take p := by
    unfold spl
    rw [List.append_assoc, List.take_append_of_le_length (by rw [List.length_take]; omega), List.take_take, Nat.min_eq_left (by omega)]
  have e2 : (spl l (p + k) D).drop (p + C.length) = D ++ l.drop (p + k + D.length) := by
    unfold spl
    rw [List.append_assoc, hp]
    exact List.drop_left' (by rw [List.length_take]; omega)
  rw [spl, e1, e2, ← List.append_assoc]
  exact List.take_left' (by rw [List.length_append, List.length_append, List.length_take]; omega)
theorem shift_cells (l : List Value) (xs : List S67) (c : S67) (i n : Nat) (hn : xs.length = n) (hi : i < n) (hl : (n + 1) * 2 ≤ l.length) (hcur : l.take (n * 2) = cells xs) : (spl (spl l ((i + 1) * 2) (cells (xs.drop i))) (i * 2) (cs c)).take ((n + 1) * 2) = cells (xs.take i ++ c :: xs.drop i) := by
  have h := shift_take l (cells (xs.drop i)) (cs c) (i * 2) 2 ((n - i) * 2) rfl (by rw [cells_length, List.length_drop, hn]) (by omega)
  rw [show i * 2 + 2 = (i + 1) * 2 by omega, show (i + 1) * 2 + (n - i) * 2 = (n + 1) * 2 by omega] at h
  have e : l.take (i * 2) = cells (xs.take i) := by
    rw [← cells_take, ← hcur, List.take_take, Nat.min_eq_left (by omega)]
  rw [h, e, cells_append, List.append_assoc]; rfl

set_option maxHeartbeats 4000000 in
set_option maxRecDepth 100000 in
/-- There is room: in place. -/
theorem Insert_shift (w : World) (g vb n cap i : Nat) (xs : List S67) (c : S67) (cur : Array Value) (hxs : xs.length = n) (hi : i < n) (hroom : n + 1 ≤ cap) (hcap : cap ≤ maxLen) (hvb : vb ≠ g) (hg : w.heap[g]? = some (.cells cur 67 (0, 0))) (hv : w.heap[vb]? = some (.cells #[.string c.f0, .string c.f1] 67 (0, 0)))
    (hsz : cur.size = cap * 2) (hcur : cur.toList.take (n * 2) = cells xs) :
    Calls Try.prog 80 #[.slice (some ⟨g, 0, none⟩) n cap, .int .i64 i, .slice (some ⟨vb, 0, none⟩) 1 1] w fun e w' =>
      e = .returned (.slice (some ⟨g, 0, none⟩) (n + 1) cap) ∧ ∃ cur', w' = w.drew.setRow g cur' ∧ cur'.size = cap * 2 ∧ cur'.toList.take ((n + 1) * 2) = cells (xs.take i ++ c :: xs.drop i) := by
  have mixed : Try.prog.follows .mixedOrders = true := by kernel_rfl
  have hc63 : cap ≤ 9223372036854775807 := by unfold maxLen at hcap; omega
  have hz2 : ¬ ((i : Int) = (n : Int)) := by omega
  have hz3 : ¬ ((cap : Int) < (n : Int) + 1) := by omega
  have hov : ∀ lb cb, (callFunc 94 #[.slice (some ⟨vb, 0, none⟩) 1 1, .slice (some ⟨g, (i + 1) * 2, none⟩) lb cb]).run Try.prog w = .ok (.value (.bool false)) w := fun lb cb =>
    overlaps_run w _ _ 1 1 lb cb _ _ _ _ hvb hv hg (by omega)
  have hD : cells (xs.drop i) = (cells xs).drop (i * 2) := (cells_drop xs i).symm
  have hDl : (cells (xs.drop i)).length = (n - i) * 2 := by rw [cells_length, List.length_drop, hxs]
  have hcell : ∀ j v, (cells (xs.drop i))[j]? = some v → w.cell? ⟨g, i * 2 + j, none⟩ = some v := fun j v hj => by
    have hj1 : j < (n - i) * 2 := by
      have := (List.getElem?_eq_some_iff.1 hj).1
      omega
    rw [hD, ← hcur, List.getElem?_drop, List.getElem?_take, if_pos (by omega)] at hj
    simpa [World.cell?, hg] using hj
  have hcp1 : ∀ ty dc sc, (Builtin.copy_ #[58, 58] ty #[.slice (some ⟨g, (i + 1) * 2, none⟩) (n - i) dc, .slice (some ⟨g, i * 2, none⟩) (n + 1 - i) sc]).run Try.prog w.drew = .ok (goInt (Nat.min (n + 1 - i) (n - i))) (w.drew.setRow g (spl cur.toList ((i + 1) * 2) (cells (xs.drop i))).toArray) := fun ty dc sc => by
    exact run_copy_wide w.drew 58 58 ty 67 2 g ((i + 1) * 2) (n - i) dc ⟨g, i * 2, none⟩ (n + 1 - i) sc cur 67 (cells (xs.drop i)) Try.underlying58 size67 hg (by rw [hDl]; simp only [Nat.min_def]; split <;> omega)
      (fun j v hj => by rw [Addr.add_lit]; exact hcell j v hj) (by rw [hDl]; omega) (cells_one _)
  obtain ⟨cur1, hcur1⟩ : ∃ cur1, cur1 = (spl cur.toList ((i + 1) * 2) (cells (xs.drop i))).toArray := ⟨_, rfl⟩
  have hc1s : cur1.size = cap * 2 := by rw [hcur1]; simp [spl, hDl]; omega
  rw [← hcur1] at hcp1
  have hg1 : ∀ W : World, W.heap = (w.drew.setRow g cur1).heap → W.heap[g]? = some (.cells cur1 67 (0, 0)) := fun W e => by rw [e]; exact setRow_heap _ _ _ _ _ _ hg
  have hcp2 : ∀ (W : World), W.heap = (w.drew.setRow g cur1).heap → ∀ ty dc, (Builtin.copy_ #[58, 58] ty #[.slice (some ⟨g, i * 2, none⟩) (n + 1 - i) dc, .slice (some ⟨vb, 0, none⟩) 1 1]).run Try.prog W = .ok (goInt (Nat.min 1 (n + 1 - i))) (W.setRow g (spl cur1.toList (i * 2) (cs c)).toArray) := fun W e ty dc => by
    exact run_copy_wide W 58 58 ty 67 2 g (i * 2) (n + 1 - i) dc ⟨vb, 0, none⟩ 1 1 cur1 67 (cs c) Try.underlying58 size67 (hg1 W e) (by show 2 = _; simp only [Nat.min_def]; split <;> omega)
      (fun j v hj => by
        rw [Addr.add_lit]
        have h2 : W.heap[vb]? = some (.cells #[.string c.f0, .string c.f1] 67 (0, 0)) := by rw [e, setRow_other _ _ _ _ hvb]; exact hv
        simpa [World.cell?, h2, cs] using hj) (by show i * 2 + 2 ≤ _; omega) (by intro v hv; simp [cs] at hv; rcases hv with rfl | rfl <;> rfl)
  have hw1 : IntKind.i64.wrap ((i : Int) + 1) = (i : Int) + 1 := by rw [IntKind.wrap_i64]; omega
  have hw2 : IntKind.i64.wrap ((n : Int) + 1) = (n : Int) + 1 := by rw [IntKind.wrap_i64]; omega
  have hb1 : (0 : Int) ≤ (i : Int) + 1 := by omega
  have hin : i ≤ n := by omega
  have htn : ((i : Int) + 1).toNat = i + 1 := by omega
  have htm : ((n : Int) + 1).toNat = n + 1 := by omega
  have hb2 : ¬ (cap = i + 1) := by omega
  have hb3 : (i : Int) ≤ (n : Int) + 1 := by omega
  have hb4 : ¬ (cap = i) := by omega
  have hT := Aside0.mk (shift_cells cur.toList xs c i n hxs hi (by rw [Array.length_toList]; omega) hcur)
  have hS : Aside0 ((spl cur1.toList (i * 2) (cs c)).toArray.size = cap * 2) := Aside0.mk (spl_size cur1 _ _ _ hc1s (by show i * 2 + 2 ≤ cap * 2; omega))
  have hE := Aside0.mk hcur1
  clear hcell hg1 hD hDl hcur1 hcur hc1s hsz
  go_enter Try.func80, Try.ntmps80
  go_wp2_with (simp only [hov])
  go_region_law_o (refine step_copy_runI rfl _ _ 58 58 rfl _ _ (by simp [Act.eval, Act.put]) (by simp [Act.eval, Act.put]) (hcp1 _ _ _) ?_)
  go_wp2_with (at_builtin; refine wpList_copy_runI _ rfl _ _ 58 58 rfl _ _ rfl rfl (hcp2 _ rfl _ _) ?_)
  go_ret
  refine ⟨rfl, (spl cur1.toList (i * 2) (cs c)).toArray, setRow_setRow _ _ _ _, hS.out, ?_⟩
  have h := hT.out
  rw [hE.out]
  exact h
theorem grow_take {α : Type} (l D C : List α) (p k m : Nat) (hp : C.length = k) (hD : D.length = m) (hl : p + k + m ≤ l.length) : (spl (spl l p C) (p + k) D).take (p + k + m) = l.take p ++ C ++ D := by
  have e1 : (spl l p C).take (p + k) = l.take p ++ C := by
    unfold spl
    exact List.take_left' (by rw [List.length_append, List.length_take]; omega)
  rw [spl, e1]
  exact List.take_left' (by rw [List.length_append, List.length_append, List.length_take]; omega)
theorem grow_cells (l : List Value) (xs : List S67) (c : S67) (i n : Nat) (hn : xs.length = n) (hi : i < n) (hl : (n + 1) * 2 ≤ l.length) (hcur : l.take (i * 2) = cells (xs.take i)) : (spl (spl l (i * 2) (cs c)) ((i + 1) * 2) (cells (xs.drop i))).take ((n + 1) * 2) = cells (xs.take i ++ c :: xs.drop i) := by
  have h := grow_take l (cells (xs.drop i)) (cs c) (i * 2) 2 ((n - i) * 2) rfl (by rw [cells_length, List.length_drop, hn]) (by omega)
  rw [show i * 2 + 2 = (i + 1) * 2 by omega, show (i + 1) * 2 + (n - i) * 2 = (n + 1) * 2 by omega] at h
  rw [h, hcur, cells_append, List.append_assoc]; rfl
theorem zero_size (z : Value) (hz : z.cells.size = 2) (k : Nat) : (Builtin.zeroCells z.cells k).size = k * 2 := by
  simp [Builtin.zeroCells, hz]

set_option maxHeartbeats 4000000 in
set_option maxRecDepth 100000 in
/-- There is no room: a new row. -/
theorem Insert_grow (w : World) (g vb n cap i : Nat) (xs : List S67) (c : S67) (cur : Array Value) (hxs : xs.length = n) (hi : i < n) (hn : n ≤ 1000) (hnc : n ≤ cap) (hroom : cap < n + 1) (hg : w.heap[g]? = some (.cells cur 67 (0, 0))) (hv : w.heap[vb]? = some (.cells #[.string c.f0, .string c.f1] 67 (0, 0)))
    (_hsz : cur.size = cap * 2) (hcur : cur.toList.take (n * 2) = cells xs) :
    Calls Try.prog 80 #[.slice (some ⟨g, 0, none⟩) n cap, .int .i64 i, .slice (some ⟨vb, 0, none⟩) 1 1] w fun e w' =>
      ∃ G cur', e = .returned (.slice (some ⟨w.heap.size, 0, none⟩) (n + 1) G) ∧ n + 1 ≤ G ∧ G ≤ maxLen ∧ Below w.heap.size w w' ∧ w'.heap[w.heap.size]? = some (.cells cur' 67 (0, 0)) ∧ cur'.size = G * 2 ∧ cur'.toList.take ((n + 1) * 2) = cells (xs.take i ++ c :: xs.drop i) := by
  have mixed : Try.prog.follows .mixedOrders = true := by kernel_rfl
  have hz2 : ¬ ((i : Int) = (n : Int)) := by omega
  have hz3 : (cap : Int) < (n : Int) + 1 := by omega
  have hgw : g < w.heap.size := (Array.getElem?_eq_some_iff.1 hg).1
  have hvw : vb < w.heap.size := (Array.getElem?_eq_some_iff.1 hv).1
  have hDl : (cells (xs.drop i)).length = (n - i) * 2 := by rw [cells_length, List.length_drop, hxs]
  have hTl : (cells (xs.take i)).length = i * 2 := by rw [cells_length, List.length_take, hxs]; omega
  have hcell : ∀ j v, (cells (xs.drop i))[j]? = some v → cur[i * 2 + j]? = some v := fun j v hj => by
    have hj1 : j < (n - i) * 2 := by
      have := (List.getElem?_eq_some_iff.1 hj).1
      omega
    rw [← cells_drop, ← hcur, List.getElem?_drop, List.getElem?_take, if_pos (by omega)] at hj
    simpa using hj
  have hcellT : ∀ j v, (cells (xs.take i))[j]? = some v → cur[j]? = some v := fun j v hj => by
    have hj1 : j < i * 2 := by
      have := (List.getElem?_eq_some_iff.1 hj).1
      omega
    rw [← cells_take, ← hcur, List.getElem?_take, if_pos (by omega), List.getElem?_take, if_pos (by omega)] at hj
    simpa using hj
  obtain ⟨i0, hi0, hz0, hzs, hzb⟩ := info_parts info67
  have hold : (Builtin.firstCells i0.size i (.slice (some ⟨g, 0, none⟩) i cap)).run Try.prog w.drew = .ok (cells (xs.take i)).toArray w.drew := by
    rw [hzs]
    exact run_firstCells_some w.drew 2 i ⟨g, 0, none⟩ i cap _ (by rw [hTl]) (fun j v hj => by
      rw [Addr.add_lit, Nat.zero_add]
      have h2 : w.drew.heap[g]? = some (.cells cur 67 (0, 0)) := hg
      simpa [World.cell?, h2] using hcellT j v hj)
  have hik : i + (n + 1 - i) = n + 1 := by omega
  have hkk : (n : Int) + 1 - (i : Int) = ((n + 1 - i : Nat) : Int) := by omega
  obtain ⟨z, hzz⟩ : ∃ z : Value, z = .agg #[(.string ⟨#[]⟩), (.string ⟨#[]⟩)] := ⟨_, rfl⟩
  have hzc : z.cells.size = 2 := by rw [hzz]; rfl
  rw [← hzz] at hz0
  obtain ⟨G, hG⟩ : ∃ G, G = grownCap w (n + 1) cap 67 := ⟨_, rfl⟩
  obtain ⟨ROW, hROW⟩ : ∃ ROW : Array Value, ROW = (cells (xs.take i)).toArray ++ Builtin.zeroCells z.cells (n + 1 - i) ++ Builtin.zeroCells z.cells (G - (n + 1)) := ⟨_, rfl⟩
  have hrz : ∀ ty, (Builtin.append_ #[58, 3] ty #[.slice (some ⟨g, 0, none⟩) i cap, .int .i64 ((n : Int) + 1 - (i : Int))]).run Try.prog w =
      .ok (.slice (some ⟨w.heap.size, 0, none⟩) (n + 1) G) (w.drew.alloc (.cells ROW 67)) := fun ty => by
    have h := Lib.run_append_grow_zeros w 58 3 ty 67 i0 z .i64 .i64 Try.underlying58 Try.underlying3 hi0 hz0 (some ⟨g, 0, none⟩) i cap (cells (xs.take i)) hold (n + 1 - i) (by omega) (by omega) (by omega) (by omega) (by rw [hzb]; omega) (by rw [hzb, hik]; exact growslice_fits hroom (by omega))
    rw [hik, ← hG, ← hROW] at h
    rw [hkk]
    exact h
  have hGn : n + 1 ≤ G := by rw [hG]; exact grownCap_ge w _ _ _
  have hGm : G ≤ maxLen := by rw [hG]; exact grownCap_le_maxLen w (n + 1) cap 67 (by unfold maxLen; omega)
  have hG63 : G ≤ 9223372036854775807 := by unfold maxLen at hGm; omega
  have hRs : ROW.size = G * 2 := by
    rw [hROW]
    simp only [Array.size_append, List.size_toArray, zero_size z hzc, hTl]
    omega
  have hRt : ROW.toList.take (i * 2) = cells (xs.take i) := by
    rw [hROW, Array.toList_append, Array.toList_append, List.append_assoc]
    exact List.take_left' hTl
  have hNg : g ≠ w.heap.size := by omega
  have hNv : vb ≠ w.heap.size := by omega
  obtain ⟨W1, hW1⟩ : ∃ W1, W1 = w.drew.alloc (.cells ROW 67) := ⟨_, rfl⟩
  have hN1 : W1.heap[w.heap.size]? = some (.cells ROW 67 (0, 0)) := by
    rw [hW1]
    show (w.heap.push _)[w.heap.size]? = _
    rw [Array.getElem?_push_size]
  have hv1 : W1.heap[vb]? = some (.cells #[.string c.f0, .string c.f1] 67 (0, 0)) := by
    rw [hW1]
    show (w.heap.push _)[vb]? = _
    rw [Array.getElem?_push_lt hvw, ← Array.getElem?_eq_getElem hvw]; exact hv
  have hg1 : W1.heap[g]? = some (.cells cur 67 (0, 0)) := by
    rw [hW1]
    show (w.heap.push _)[g]? = _
    rw [Array.getElem?_push_lt hgw, ← Array.getElem?_eq_getElem hgw]; exact hg
  obtain ⟨A1, hA1⟩ : ∃ A1, A1 = (spl ROW.toList (i * 2) (cs c)).toArray := ⟨_, rfl⟩
  have hA1s : A1.size = G * 2 := by
    rw [hA1]; exact spl_size ROW _ _ _ hRs (by show i * 2 + 2 ≤ G * 2; omega)
  have hcpA : ∀ (W : World), W.heap = W1.heap → ∀ ty dc, (Builtin.copy_ #[58, 58] ty #[.slice (some ⟨w.heap.size, i * 2, none⟩) (n + 1 - i) dc, .slice (some ⟨vb, 0, none⟩) 1 1]).run Try.prog W = .ok (goInt (Nat.min 1 (n + 1 - i))) (W.setRow w.heap.size A1) := fun W e ty dc => by
    rw [hA1]
    exact run_copy_wide W 58 58 ty 67 2 w.heap.size (i * 2) (n + 1 - i) dc ⟨vb, 0, none⟩ 1 1 ROW 67 (cs c) Try.underlying58 size67 (by rw [e]; exact hN1) (by show 2 = _; simp only [Nat.min_def]; split <;> omega)
      (fun j v hj => by
        rw [Addr.add_lit]
        have h2 : W.heap[vb]? = some (.cells #[.string c.f0, .string c.f1] 67 (0, 0)) := by rw [e]; exact hv1
        simpa [World.cell?, h2, cs] using hj) (by show i * 2 + 2 ≤ _; omega) (by intro v hv; simp [cs] at hv; rcases hv with rfl | rfl <;> rfl)
  obtain ⟨A2, hA2⟩ : ∃ A2, A2 = (spl A1.toList ((i + 1) * 2) (cells (xs.drop i))).toArray := ⟨_, rfl⟩
  have hcpB : ∀ (W : World), W.heap = (W1.setRow w.heap.size A1).heap → ∀ ty dc sc, (Builtin.copy_ #[58, 58] ty #[.slice (some ⟨w.heap.size, (i + 1) * 2, none⟩) (n - i) dc, .slice (some ⟨g, i * 2, none⟩) (n - i) sc]).run Try.prog W = .ok (goInt (Nat.min (n - i) (n - i))) (W.setRow w.heap.size A2) := fun W e ty dc sc => by
    rw [hA2]
    exact run_copy_wide W 58 58 ty 67 2 w.heap.size ((i + 1) * 2) (n - i) dc ⟨g, i * 2, none⟩ (n - i) sc A1 67 (cells (xs.drop i)) Try.underlying58 size67 (by rw [e]; exact setRow_heap _ _ _ _ _ _ hN1) (by rw [hDl]; simp only [Nat.min_def]; split <;> omega)
      (fun j v hj => by
        rw [Addr.add_lit]
        have h2 : W.heap[g]? = some (.cells cur 67 (0, 0)) := by rw [e, setRow_other _ _ _ _ hNg]; exact hg1
        simpa [World.cell?, h2] using hcell j v hj) (by rw [hDl]; omega) (cells_one _)
  have hT : Aside0 (A2.toList.take ((n + 1) * 2) = cells (xs.take i ++ c :: xs.drop i)) := Aside0.mk (by
    rw [hA2, hA1]
    exact grow_cells ROW.toList xs c i n hxs hi (by rw [Array.length_toList]; omega) hRt)
  have hA2s : Aside0 (A2.size = G * 2) := Aside0.mk (by
    rw [hA2]; exact spl_size A1 _ _ _ hA1s (by rw [hDl]; omega))
  have hB1 := Aside0.mk (show Below w.heap.size w W1 by rw [hW1]; exact (Below.refl _ _).drew.alloc (Nat.le_refl _) _)
  have hW := Aside0.mk hW1
  have hN := Aside0.mk hN1
  have hNN := Aside0.mk hGn
  have hMM := Aside0.mk hGm
  have hw1 : IntKind.i64.wrap ((i : Int) + 1) = (i : Int) + 1 := by rw [IntKind.wrap_i64]; omega
  have hw2 : IntKind.i64.wrap ((n : Int) + 1) = (n : Int) + 1 := by rw [IntKind.wrap_i64]; omega
  have hw3 : IntKind.i64.wrap ((n : Int) + 1 - (i : Int)) = (n : Int) + 1 - (i : Int) := by rw [IntKind.wrap_i64]; omega
  have hb1 : (0 : Int) ≤ (i : Int) + 1 := by omega
  have hin : i ≤ n := by omega
  have htn : ((i : Int) + 1).toNat = i + 1 := by omega
  have hGi : ¬ (G = i) := by omega
  have hGim : ¬ (G = i + 1) := by omega
  have hci : ¬ (cap = i) := by omega
  have hb3 : (i : Int) ≤ (n : Int) := by omega
  rw [← hW1] at hrz
  clear hcell hcellT hold hROW hG hRs hRt hA1 hA2 hA1s hDl hTl hik hkk hcur hzz hzc hz0 hzs hzb hi0 hg1 hv1 hN1 hGn hGm hW1
  go_enter Try.func80, Try.ntmps80
  go_wp2_with (first
    | (at_builtin; refine Lib.wpList_append_run _ rfl _ _ _ _ rfl _ _ rfl rfl _ _ (hrz _) ?_)
    | (at_builtin; refine wpList_copy_runI _ rfl _ _ 58 58 rfl _ _ rfl rfl (hcpA _ rfl _ _) ?_)
    | (at_builtin; refine wpList_copy_runI _ rfl _ _ 58 58 rfl _ _ rfl rfl (hcpB _ rfl _ _ _) ?_))
  go_region_law_o (refine step_copy_runI rfl _ _ 58 58 rfl (.slice (some ⟨w.heap.size, (i + 1) * 2, none⟩) (n - i) (G - (i + 1))) (.slice (some ⟨g, i * 2, none⟩) (n - i) (cap - i)) (by simp [Act.eval, Act.put]) (by simp [Act.eval, Act.put]) (hcpB _ (by rfl) 3 (G - (i + 1)) (cap - i)) ?_)
  go_wp2
  go_ret
  refine ⟨G, A2, rfl, hNN.out, hMM.out, ?_, ?_, hA2s.out, hT.out⟩
  · exact below_setRow (below_drew1 (below_setRow hB1.out (Nat.le_refl _) _)) (Nat.le_refl _) _
  · exact setRow_heap _ _ _ _ _ _ (setRow_heap _ _ _ _ _ _ hN.out)

/-- One row that lies in a block of its own. -/
theorem one_reads {w : World} {vb : Nat} {c : S67} (hv : w.heap[vb]? = some (.cells #[.string c.f0, .string c.f1] 67 (0, 0))) : k67.C w (some ⟨vb, 0, none⟩) 1 [c] := by
  refine ⟨rfl, by omega, fun _ => ⟨_, rfl, fun j p hj => ?_⟩⟩
  cases j with
  | zero =>
    injection hj with hj
    subst hj
    refine ⟨_, rfl, k67_mk w c, fun k u hk => ?_⟩
    rw [Addr.add_lit]
    simpa [World.cell?, hv] using hk
  | succ j => cases hj

set_option maxHeartbeats 4000000 in
set_option maxRecDepth 100000 in
/-- At the end. -/
theorem Insert_end1 (w : World) (base vb : Nat) (ok : Nat → Prop) (A : Option Addr) (cp : Nat) (xs : List S67) (c : S67) (hcp : xs.length < cp) (hl : xs.length ≤ 1000) (hbase : base ≤ w.heap.size) (hfresh : ∀ k, w.heap.size ≤ k → ok k) (HO : k67.R 67 w base ok (.slice A xs.length cp) xs) (hv : w.heap[vb]? = some (.cells #[.string c.f0, .string c.f1] 67 (0, 0))) :
    Calls Try.prog 80 #[.slice A xs.length cp, .int .i64 xs.length, .slice (some ⟨vb, 0, none⟩) 1 1] w fun e w' => ∃ v', e = .returned v' ∧ k67.R 67 w' base ok v' (xs ++ [c]) ∧ Below base w w' ∧ (v'.ownBlock = (Value.slice A xs.length cp).ownBlock ∨ ∃ b, v'.ownBlock = some b ∧ w.heap.size ≤ b) := by
  have HR := Aside0.mk HO
  have HC := Aside0.mk (one_reads hv)
  have hF := Aside0.mk hfresh
  have hne : ¬ (cp = xs.length) := by omega
  clear hfresh HO hv
  go_enter Try.func80, Try.ntmps80
  go_wp2_with (first | (at_builtin; refine Kd.R_append_rows k67 (w0 := w) base rfl (.tmp 23) (.tmp 24) 58 67 (.agg #[(.string ⟨#[]⟩), (.string ⟨#[]⟩)]) 32 rfl Try.underlying58 info67 rfl (by decide) (by omega) (.slice A xs.length cp) xs [c] _ _ _ ok (fun _ => False) rfl rfl HR.out HC.out (fun x cs h => by rw [k67_open h]; exact k67_mkM _ _ _ x) (fun _ h => h.elim) hF.out (Below.refl _ _) hbase (by omega) ?_; intro v1 w1 ho hb _ hat; have H1 := Aside0.mk ho; have H2 := Aside0.mk hb; have H3 := Aside0.mk hat; clear ho hb hat))
  go_ret
  exact ⟨_, rfl, H1.out, H2.out, H3.out⟩

set_option maxHeartbeats 4000000 in
set_option maxRecDepth 100000 in
/-- At the end. -/
theorem Insert_end2 (w : World) (base vb : Nat) (ok : Nat → Prop) (A : Option Addr) (xs : List S67) (c : S67) (hl : xs.length ≤ 1000) (hbase : base ≤ w.heap.size) (hfresh : ∀ k, w.heap.size ≤ k → ok k) (HO : k67.R 67 w base ok (.slice A xs.length xs.length) xs) (hv : w.heap[vb]? = some (.cells #[.string c.f0, .string c.f1] 67 (0, 0))) :
    Calls Try.prog 80 #[.slice A xs.length xs.length, .int .i64 xs.length, .slice (some ⟨vb, 0, none⟩) 1 1] w fun e w' => ∃ v', e = .returned v' ∧ k67.R 67 w' base ok v' (xs ++ [c]) ∧ Below base w w' ∧ (v'.ownBlock = (Value.slice A xs.length xs.length).ownBlock ∨ ∃ b, v'.ownBlock = some b ∧ w.heap.size ≤ b) := by
  have HR := Aside0.mk HO
  have HC := Aside0.mk (one_reads hv)
  have hF := Aside0.mk hfresh

  clear hfresh HO hv
  go_enter Try.func80, Try.ntmps80
  go_wp2_with (first | (at_builtin; refine Kd.R_append_rows k67 (w0 := w) base rfl (.tmp 23) (.tmp 24) 58 67 (.agg #[(.string ⟨#[]⟩), (.string ⟨#[]⟩)]) 32 rfl Try.underlying58 info67 rfl (by decide) (by omega) (.slice A xs.length xs.length) xs [c] _ _ _ ok (fun _ => False) rfl rfl HR.out HC.out (fun x cs h => by rw [k67_open h]; exact k67_mkM _ _ _ x) (fun _ h => h.elim) hF.out (Below.refl _ _) hbase (by omega) ?_; intro v1 w1 ho hb _ hat; have H1 := Aside0.mk ho; have H2 := Aside0.mk hb; have H3 := Aside0.mk hat; clear ho hb hat))
  go_ret
  exact ⟨_, rfl, H1.out, H2.out, H3.out⟩

theorem Insert_end (w : World) (base vb : Nat) (ok : Nat → Prop) (v : Value) (xs : List S67) (c : S67) (hl : xs.length ≤ 1000) (hbase : base ≤ w.heap.size) (hfresh : ∀ k, w.heap.size ≤ k → ok k) (HO : k67.R 67 w base ok v xs) (hv : w.heap[vb]? = some (.cells #[.string c.f0, .string c.f1] 67 (0, 0))) :
    Calls Try.prog 80 #[v, .int .i64 xs.length, .slice (some ⟨vb, 0, none⟩) 1 1] w fun e w' => ∃ v', e = .returned v' ∧ k67.R 67 w' base ok v' (xs ++ [c]) ∧ Below base w w' ∧ (v'.ownBlock = v.ownBlock ∨ ∃ b, v'.ownBlock = some b ∧ w.heap.size ≤ b) := by
  obtain ⟨A, cp, rfl, hcp, -⟩ := Kd.R_reads HO
  rcases Nat.eq_or_lt_of_le hcp with h | h
  · subst h; exact Insert_end2 w base vb ok A xs c hl hbase hfresh HO hv
  · exact Insert_end1 w base vb ok A cp xs c h hl hbase hfresh HO hv

/-- slices.Insert of one row. -/
theorem Insert_calls (w : World) (base vb i : Nat) (ok : Nat → Prop) (v : Value) (xs : List S67) (c : S67) (hi : i ≤ xs.length) (hl : xs.length ≤ 1000) (hbase : base ≤ w.heap.size) (hfresh : ∀ k, w.heap.size ≤ k → ok k) (HO : k67.R 67 w base ok v xs) (hv : w.heap[vb]? = some (.cells #[.string c.f0, .string c.f1] 67 (0, 0))) (hvb : v.ownBlock ≠ some vb) :
    Calls Try.prog 80 #[v, .int .i64 i, .slice (some ⟨vb, 0, none⟩) 1 1] w fun e w' => ∃ v', e = .returned v' ∧ k67.R 67 w' base ok v' (xs.take i ++ c :: xs.drop i) ∧ Below base w w' ∧ (v'.ownBlock = v.ownBlock ∨ ∃ b, v'.ownBlock = some b ∧ w.heap.size ≤ b) := by
  have hxl : (xs.take i ++ c :: xs.drop i).length = xs.length + 1 := by rw [List.length_append, List.length_cons, List.length_take, List.length_drop]; omega
  by_cases he : i = xs.length
  · subst he
    rw [List.take_of_length_le (Nat.le_refl _), List.drop_of_length_le (Nat.le_refl _)]
    exact Insert_end w base vb ok v xs c hl hbase hfresh HO hv
  · rcases row_open HO with ⟨rfl, rfl⟩ | ⟨g, cap, cur, rfl, hb, hok, hg, h1, h2, h3, h4⟩
    · exact absurd hi (by simp only [List.length_nil] at *; omega)
    · have hvg : vb ≠ g := fun e => hvb (by rw [e]; rfl)
      by_cases hr : xs.length + 1 ≤ cap
      · refine (Insert_shift w g vb xs.length cap i xs c cur rfl (by omega) hr h2 hvg hg hv h3 h4).mono ?_
        rintro e w' ⟨rfl, cur', rfl, h5, h6⟩
        refine ⟨_, rfl, ?_, below_setRow (below_drew1 (Below.refl _ _)) hb _, .inl rfl⟩
        rw [← hxl] at h6 hr ⊢
        exact row_close hb hok (setRow_heap _ _ _ _ _ _ hg) hr h2 h5 h6
      · refine (Insert_grow w g vb xs.length cap i xs c cur rfl (by omega) hl h1 (by omega) hg hv h3 h4).mono ?_
        rintro e w' ⟨G, cur', rfl, h5, h6, h7, h8, h9, h10⟩
        refine ⟨_, rfl, ?_, h7.mono hbase, .inr ⟨_, rfl, Nat.le_refl _⟩⟩
        rw [← hxl] at h5 h10 ⊢
        exact row_close hbase (hfresh _ (Nat.le_refl _)) h8 h5 h6 h9 h10

end Go.Proofs.Ytmfkgbncnaingaa.Rows
end

section
/- What bagnallkeep.Changes comes to. -/
namespace Go.Proofs.Ytmfkgbncnaingaa.Rows
open Go.RowKit Go.Lib Go.Proofs.Ytmfkgbncnaingaa.Reg Go.Proofs.Ytmfkgbncnaingaa.QRows Go.Proofs.YtmfkgbncnaingaaW.PrintWords Go.Proofs.YtmfkgbncnaingaaW.PrintLast Go.Proofs.YtmfkgbncnaingaaW.PrintMore

def keyTab : Array ByteArray := #[⟨#[97]⟩, ⟨#[98]⟩, ⟨#[97, 98]⟩, ⟨#[97, 99]⟩, ⟨#[98, 255]⟩, ⟨#[107]⟩, ⟨#[107, 49]⟩, ⟨#[255]⟩]
def valTab : Array ByteArray := #[⟨#[]⟩, ⟨#[120]⟩, ⟨#[121]⟩, ⟨#[122, 122]⟩]
/-- One of n: as Picked. -/
def pickN (x : Int) (n : Nat) : Nat := (if Int.tmod x n < 0 then Int.tmod x n + n else Int.tmod x n).toNat
theorem pickN_lt (x : Int) (n : Nat) (hn : 0 < n) : pickN x n < n := by
  unfold pickN
  have h1 := Int.tmod_lt_of_pos x (show (0 : Int) < n by omega)
  have h2 := Int.lt_tmod_of_pos x (show (0 : Int) < n by omega)
  split <;> omega
theorem Picked_is (x : Int) (n : Nat) (hn : 0 < n) (hn2 : n ≤ 1000000) : bagnallkeep_Picked.f x n = some ((pickN x n : Nat) : Int) := by
  unfold bagnallkeep_Picked.f pickN
  have h1 := Int.tmod_lt_of_pos x (show (0 : Int) < n by omega)
  have h2 := Int.lt_tmod_of_pos x (show (0 : Int) < n by omega)
  rw [if_neg (by omega)]
  by_cases h : Int.tmod x n < 0
  · rw [if_pos h, if_pos h, Int.toNat_of_nonneg (by omega)]
    congr 1
    unfold wrap64; omega
  · rw [if_neg h, if_neg h, Int.toNat_of_nonneg (by omega)]
/-- The change that a number makes. -/
def rowOf (x : Int) : S67 := ⟨keyTab.getD (pickN x 8) ⟨#[]⟩, valTab.getD (pickN (IntKind.i64.wrap (Int.tdiv x 8)) 4) ⟨#[]⟩⟩
def changesOf (l : List Int) (n : Int) : List S67 := (l.take n.toNat).map rowOf

def keyCells : Array Value := #[.string ⟨#[97]⟩, .string ⟨#[98]⟩, .string ⟨#[97, 98]⟩, .string ⟨#[97, 99]⟩, .string ⟨#[98, 255]⟩, .string ⟨#[107]⟩, .string ⟨#[107, 49]⟩, .string ⟨#[255]⟩]
def valCells : Array Value := #[.string ⟨#[]⟩, .string ⟨#[120]⟩, .string ⟨#[121]⟩, .string ⟨#[122, 122]⟩]
theorem keyCells_at (p : Nat) (h : p < 8) : keyCells[p]? = some (.string (keyTab.getD p ⟨#[]⟩)) := by
  match p, h with
  | 0, _ | 1, _ | 2, _ | 3, _ | 4, _ | 5, _ | 6, _ | 7, _ => rfl
theorem valCells_at (p : Nat) (h : p < 4) : valCells[p]? = some (.string (valTab.getD p ⟨#[]⟩)) := by
  match p, h with
  | 0, _ | 1, _ | 2, _ | 3, _ => rfl

theorem Picked8 (x : Int) (n : Nat) (hn : 0 < n) (hn2 : n ≤ 1000000) (w : World) : Calls Try.prog 31 #[.int .i64 x, .int .i64 n] w fun e w' => e = .returned (.int .i64 (pickN x n : Nat)) ∧ Below w.heap.size w w' :=
  (bagnallkeep_Picked.calls x n _ w (Picked_is x n hn hn2)).mono fun e w' ⟨he, hd⟩ => ⟨he, by obtain ⟨m, rfl⟩ := hd; exact pw_below_drewN (Below.refl _ _) m⟩

theorem cell_below {w w' : World} {a : Addr} {u : Value} (h : w.cell? a = some u) (hb : Below w.heap.size w w') : w'.cell? a = some u := by
  rw [hb.cell (World.block_lt_of_cell? w a h)]; exact h

/-- The facts of the region that makes a change. -/
def F5 (B : Nat) (A0 : Addr) (len c0 i : Nat) (x : Int) (p q : Nat) (ks vs : ByteArray) : Nat → Value → World → Prop
  | 0 => FLit B keyCells 9 8
  | 1 => FIs (.slice (some A0) len c0)
  | 2 => FIs (.int .i64 i)
  | 3 => FIs (.pointer (some (A0.add i)))
  | 4 => FIs (.int .i64 x)
  | 5 => FIs (.int .i64 p)
  | 6 => FAt B keyCells 9 p
  | 7 => FIs (.string ks)
  | 8 => FLit B valCells 9 4
  | 9 => FIs (.slice (some A0) len c0)
  | 10 => FIs (.int .i64 i)
  | 11 => FIs (.pointer (some (A0.add i)))
  | 12 => FIs (.int .i64 x)
  | 13 => FIs (.int .i64 (IntKind.i64.wrap (Int.tdiv x 8)))
  | 14 => FIs (.int .i64 q)
  | 15 => FAt B valCells 9 q
  | 16 => FIs (.string vs)
  | 17 => FIs (.agg #[.string ks, .string vs])
  | _ => FAt B #[.string ⟨#[]⟩, .string ⟨#[]⟩] 67 0
theorem F5.last {B : Nat} {A0 : Addr} {len c0 i : Nat} {x : Int} {p q : Nat} {ks vs : ByteArray} (k : Nat) (v : Value) (w w' : World) (h : F5 B A0 len c0 i x p q ks vs k v w) (hb : Below w.heap.size w w') : F5 B A0 len c0 i x p q ks vs k v w' := by
  unfold F5 at *
  split at h <;> first | exact FIs.last h hb | exact FLit.last h hb | exact FAt.last h hb

set_option maxRecDepth 100000 in
set_option maxHeartbeats 4000000 in
theorem Changes_calls (A0 : Option Addr) (c0 : Nat) (l : List Int) (n : Int) (w : World) (hr : Kd.C (Kd.int .i64) w A0 l.length l) (_hc : l.length ≤ c0) (hn : n ≤ 1000) :
    Calls Try.prog 39 #[.slice A0 l.length c0, .int .i64 n] w fun e w' => ∃ v, e = .returned v ∧ k67.R 67 w' w.heap.size (fun _ => True) v (changesOf l n) ∧ Below w.heap.size w w' := by
  have HR := Aside0.mk hr
  have hm : l.length ≤ maxLen := hr.2.1
  unfold maxLen at hm
  clear hr
  go_enter Try.func39, Try.ntmps39
  go_wp2
  go_loopg [5, 6] (l.length) (fun kq v5 v6 wr => ∃ (i : Nat), v6 = .int .i64 i ∧ Aside0 (kq + i = l.length ∧ (i : Int) ≤ max n 0) ∧ Aside0 (k67.R 67 wr w.heap.size (fun _ => True) v5 ((l.take i).map rowOf)) ∧ Aside0 (Below w.heap.size w wr))
  case atStart => exact ⟨0, rfl, ⟨by omega, by omega⟩, ⟨Kd.R_nil _ _ _ _ _⟩, ⟨Below.refl _ _⟩⟩
  case round =>
    obtain ⟨i, rfl, hK, hO, hW⟩ := hrel
    by_cases hlt : i < l.length ∧ (i : Int) < n
    · obtain ⟨hlt, hin⟩ := hlt
      have hb1 : (i : Int) < (l.length : Int) := by omega
      have hwi : IntKind.i64.wrap ((i : Int) + 1) = (i : Int) + 1 := by rw [IntKind.wrap_i64]; omega
      go_wp2
      obtain ⟨ad, rfl, hx⟩ : ∃ ad, A0 = some ad ∧ wr.cell? (ad.add i) = some (.int .i64 (l.getD i 0)) := by
        obtain ⟨ad, c, e, _, hK, hc0⟩ := Kd.C_get (Kd.C_below HR.out hW.out) (0 : Int) (i : Int) (by omega) hb1
        obtain rfl := hK
        exact ⟨ad, e, by have h := hc0 0 _ rfl; rw [show (i : Int).toNat * (Kd.int .i64).sz + 0 = i by show (i : Int).toNat * 1 + 0 = i; omega, Int.toNat_natCast] at h; exact h⟩
      obtain ⟨x, hxl⟩ : ∃ x, x = l.getD i 0 := ⟨_, rfl⟩
      rw [← hxl] at hx
      have hXL := Aside0.mk hxl
      clear hxl
      obtain ⟨p, hp⟩ : ∃ p, p = pickN x 8 := ⟨_, rfl⟩
      obtain ⟨q, hq⟩ : ∃ q, q = pickN (IntKind.i64.wrap (Int.tdiv x 8)) 4 := ⟨_, rfl⟩
      have hp8 : p < 8 := by rw [hp]; exact pickN_lt _ _ (by omega)
      have hq4 : q < 4 := by rw [hq]; exact pickN_lt _ _ (by omega)
      have hpi : (p : Int) < 8 := by omega
      have hqi : (q : Int) < 4 := by omega
      have hp0 : (0 : Int) ≤ (p : Int) := by omega
      have hq0 : (0 : Int) ≤ (q : Int) := by omega
      obtain ⟨ks, hks⟩ : ∃ ks, ks = keyTab.getD p ⟨#[]⟩ := ⟨_, rfl⟩
      obtain ⟨vs, hvs⟩ : ∃ vs, vs = valTab.getD q ⟨#[]⟩ := ⟨_, rfl⟩
      have HKS := Aside0.mk (show keyCells[p]? = some (.string ks) by rw [hks]; exact keyCells_at p hp8)
      have HVS := Aside0.mk (show valCells[q]? = some (.string vs) by rw [hvs]; exact valCells_at q hq4)
      have HRow : Aside0 (rowOf (l.getD i 0) = ⟨ks, vs⟩) := Aside0.mk (by rw [← hXL.out, hks, hvs, hp, hq]; rfl)
      have HP := Aside0.mk hp
      have HQ := Aside0.mk hq
      clear hp hq hks hvs
      refine region_facts (by kernel_rfl) 19 (F5 wr.heap.size ad l.length c0 i x p q ks vs) (by kernel_rfl) F5.last ?_ ?_
      · refine ⟨?_, ?_, ?_, ?_, ?_, ?_, ?_, ?_, ?_, ?_, ?_, ?_, ?_, ?_, ?_, ?_, ?_, ?_, ?_, trivial⟩
        · intro ev w1 hb hc hf hg hbase hdep
          refine ⟨fun _ => ?_, fun h => absurd trivial h⟩
          unfold Gives
          go_simp
          exact ⟨⟨_, rfl, hb.size, new_block _ _⟩, below_alloc (Below.refl _ _) _⟩
        · intro ev w1 hb hc hf hg hbase hdep
          refine ⟨fun _ => ?_, fun h => absurd trivial h⟩
          have e0 : ev (.tmp 0) = .slice (some ad) l.length c0 := hbase 0 (by decide)
          unfold Gives
          go_simp
          exact ⟨rfl, Below.refl _ _⟩
        · intro ev w1 hb hc hf hg hbase hdep
          refine ⟨fun _ => ?_, fun h => absurd trivial h⟩
          have e0 : ev (.tmp 6) = .int .i64 i := hbase 6 (by decide)
          unfold Gives
          go_simp
          exact ⟨rfl, Below.refl _ _⟩
        · intro ev w1 hb hc hf hg hbase hdep
          refine ⟨fun _ => ?_, fun h => absurd trivial h⟩
          have e1 : ev (.tmp 20) = .slice (some ad) l.length c0 := hdep 1 (by decide)
          have e2 : ev (.tmp 21) = .int .i64 i := hdep 2 (by decide)
          unfold Gives
          go_simp
          exact ⟨rfl, Below.refl _ _⟩
        · intro ev w1 hb hc hf hg hbase hdep
          refine ⟨fun _ => ?_, fun h => absurd trivial h⟩
          have e1 : ev (.tmp 22) = .pointer (some (ad.add i)) := hdep 3 (by decide)
          have hc1 : w1.cell? (ad.add i) = some (.int .i64 x) := cell_below hx hb
          unfold Gives
          go_simp
          exact ⟨rfl, Below.refl _ _⟩
        · intro ev w1 hb hc hf hg hbase hdep
          refine ⟨fun _ => ?_, fun h => absurd trivial h⟩
          have e1 : ev (.tmp 23) = .int .i64 x := hdep 4 (by decide)
          unfold Gives
          go_simp
          refine (Picked8 x 8 (by omega) (by omega) w1).mono ?_
          rintro e w2 ⟨rfl, hb2⟩
          exact ⟨_, rfl, by rw [HP.out]; rfl, hb2⟩
        · intro ev w1 hb hc hf hg hbase hdep
          refine ⟨fun _ => ?_, fun h => absurd trivial h⟩
          obtain ⟨g, e1, hg0, hg1⟩ : FLit wr.heap.size keyCells 9 8 (ev (.tmp 19)) w1 := hdep 0 (by decide)
          have e2 : ev (.tmp 24) = .int .i64 p := hdep 5 (by decide)
          unfold Gives
          go_simp
          exact ⟨⟨g, by simp, hg0, hg1⟩, Below.refl _ _⟩
        · intro ev w1 hb hc hf hg hbase hdep
          refine ⟨fun _ => ?_, fun h => absurd trivial h⟩
          obtain ⟨g, e1, hg1⟩ := (show FAt wr.heap.size keyCells 9 p (ev (.tmp 25)) w1 from hdep 6 (by decide)).cell HKS.out
          unfold Gives
          go_simp
          exact ⟨rfl, Below.refl _ _⟩
        · intro ev w1 hb hc hf hg hbase hdep
          refine ⟨fun _ => ?_, fun h => absurd trivial h⟩
          unfold Gives
          go_simp
          exact ⟨⟨_, rfl, hb.size, new_block _ _⟩, below_alloc (Below.refl _ _) _⟩
        · intro ev w1 hb hc hf hg hbase hdep
          refine ⟨fun _ => ?_, fun h => absurd trivial h⟩
          have e0 : ev (.tmp 0) = .slice (some ad) l.length c0 := hbase 0 (by decide)
          unfold Gives
          go_simp
          exact ⟨rfl, Below.refl _ _⟩
        · intro ev w1 hb hc hf hg hbase hdep
          refine ⟨fun _ => ?_, fun h => absurd trivial h⟩
          have e0 : ev (.tmp 6) = .int .i64 i := hbase 6 (by decide)
          unfold Gives
          go_simp
          exact ⟨rfl, Below.refl _ _⟩
        · intro ev w1 hb hc hf hg hbase hdep
          refine ⟨fun _ => ?_, fun h => absurd trivial h⟩
          have e1 : ev (.tmp 28) = .slice (some ad) l.length c0 := hdep 9 (by decide)
          have e2 : ev (.tmp 29) = .int .i64 i := hdep 10 (by decide)
          unfold Gives
          go_simp
          exact ⟨rfl, Below.refl _ _⟩
        · intro ev w1 hb hc hf hg hbase hdep
          refine ⟨fun _ => ?_, fun h => absurd trivial h⟩
          have e1 : ev (.tmp 30) = .pointer (some (ad.add i)) := hdep 11 (by decide)
          have hc1 : w1.cell? (ad.add i) = some (.int .i64 x) := cell_below hx hb
          unfold Gives
          go_simp
          exact ⟨rfl, Below.refl _ _⟩
        · intro ev w1 hb hc hf hg hbase hdep
          refine ⟨fun _ => ?_, fun h => absurd trivial h⟩
          have e1 : ev (.tmp 31) = .int .i64 x := hdep 12 (by decide)
          unfold Gives
          go_simp
          exact ⟨rfl, Below.refl _ _⟩
        · intro ev w1 hb hc hf hg hbase hdep
          refine ⟨fun _ => ?_, fun h => absurd trivial h⟩
          have e1 : ev (.tmp 32) = .int .i64 (IntKind.i64.wrap (Int.tdiv x 8)) := hdep 13 (by decide)
          unfold Gives
          go_simp
          refine (Picked8 (IntKind.i64.wrap (Int.tdiv x 8)) 4 (by omega) (by omega) w1).mono ?_
          rintro e w2 ⟨rfl, hb2⟩
          exact ⟨_, rfl, by rw [HQ.out]; rfl, hb2⟩
        · intro ev w1 hb hc hf hg hbase hdep
          refine ⟨fun _ => ?_, fun h => absurd trivial h⟩
          obtain ⟨g, e1, hg0, hg1⟩ : FLit wr.heap.size valCells 9 4 (ev (.tmp 27)) w1 := hdep 8 (by decide)
          have e2 : ev (.tmp 33) = .int .i64 q := hdep 14 (by decide)
          unfold Gives
          go_simp
          exact ⟨⟨g, by simp, hg0, hg1⟩, Below.refl _ _⟩
        · intro ev w1 hb hc hf hg hbase hdep
          refine ⟨fun _ => ?_, fun h => absurd trivial h⟩
          obtain ⟨g, e1, hg1⟩ := (show FAt wr.heap.size valCells 9 q (ev (.tmp 34)) w1 from hdep 15 (by decide)).cell HVS.out
          unfold Gives
          go_simp
          exact ⟨rfl, Below.refl _ _⟩
        · intro ev w1 hb hc hf hg hbase hdep
          refine ⟨fun _ => ?_, fun h => absurd trivial h⟩
          have e1 : ev (.tmp 26) = .string ks := hdep 7 (by decide)
          have e2 : ev (.tmp 35) = .string vs := hdep 16 (by decide)
          unfold Gives
          go_simp
          exact ⟨rfl, Below.refl _ _⟩
        · intro ev w1 hb hc hf hg hbase hdep
          refine ⟨fun _ => ?_, fun h => absurd trivial h⟩
          unfold Gives
          go_simp
          exact ⟨⟨_, rfl, hb.size, new_block _ _⟩, below_alloc (Below.refl _ _) _⟩
      · intro y w1 hb hbase hF
        obtain ⟨g, e7, hg0, hg1⟩ : FAt wr.heap.size #[.string ⟨#[]⟩, .string ⟨#[]⟩] 67 0 (y 7) w1 := hF 18 (by decide)
        have e36 : y 36 = .agg #[.string ks, .string vs] := hF 17 (by decide)
        have e0 : y 0 = .slice (some ad) l.length c0 := hbase 0 (by decide)
        have e1 : y 1 = .int .i64 n := hbase 1 (by decide)
        have e2 : y 2 = undef := hbase 2 (by decide)
        have e3 : y 3 = undef := hbase 3 (by decide)
        have e41 : y 41 = undef := hbase 41 (by decide)
        have e4 : y 4 = .slice none 0 0 := hbase 4 (by decide)
        have e5 : y 5 = u5 := hbase 5 (by decide)
        have e6 : y 6 = .int .i64 i := hbase 6 (by decide)
        have hq0 : w1.cell? ⟨g, 0, none⟩ = some (.string ⟨#[]⟩) := by simp [World.cell?, hg1]
        have hq1 : w1.cell? ⟨g, 1, none⟩ = some (.string ⟨#[]⟩) := by simp [World.cell?, hg1]
        have hf0 : ∀ j, w1.frozen? ⟨g, j, none⟩ = false := fun j => by simp [World.frozen?, hg1]
        have hput : Aside0 (Below wr.heap.size wr ((w1.setCell ⟨g, 0, none⟩ (.string ks)).setCell ⟨g, 1, none⟩ (.string vs))) := ⟨(hb.setCell hg0 _).setCell hg0 _⟩
        have HG := Aside0.mk hg1
        simp only [List.drop_succ_cons, List.drop_zero, List.size_toArray, List.length_cons, List.length_nil, Nat.reduceAdd, List.range, List.range.loop, List.map_cons, List.map_nil, e7, e36, e0, e1, e2, e3, e4, e5, e6, e41]
        clear hF hbase e7 e36 e0 e1 e2 e3 e41 e4 e5 e6 hg1 hb
        have HO2 := Aside0.mk (Kd.R_below hO.out hput.out)
        have HB2 := Aside0.mk (hW.out.trans (hput.out.mono hW.out.size))
        have hlen : ((l.take i).map rowOf).length = i := by rw [List.length_map, List.length_take]; omega
        have HLEN := Aside0.mk hlen
        clear hlen
        go_wp2_with (at_builtin; refine Kd.R_append_rows k67 (w0 := w) w.heap.size rfl (.tmp 37) (.tmp 39) 58 67 (.agg #[(.string ⟨#[]⟩), (.string ⟨#[]⟩)]) 32 rfl Try.underlying58 info67 rfl (by decide) (by omega) _ _ [(⟨ks, vs⟩ : S67)] _ _ _ (fun _ => True) (fun _ => False) rfl rfl (Kd.R_alloc HO2.out _) (one_reads (c := (⟨ks, vs⟩ : S67)) (new_block_at (by simp))) (fun x cs h => by rw [k67_open h]; exact k67_mkM _ _ _ x) (fun _ h => h.elim) (fun _ _ => trivial) (below_alloc HB2.out _) (by have := HB2.out.size; simp at this ⊢; omega) (by have h1 := hK.out; rw [HLEN.out]; omega) ?_; intro v1 w2 ho hbb _ _; have HO3 := Aside0.mk ho; have HB3 := Aside0.mk hbb; clear ho hbb)
        go_roundg (gk - 1)
        case measure => have := hK.out; omega
        case rel => exact ⟨i + 1, by go_num, ⟨by have := hK.out; omega, by have := hK.out; omega⟩, ⟨by rw [List.take_succ_eq_append_getElem hlt, List.map_append, List.map_singleton, show l[i] = l.getD i 0 by simp [List.getD_eq_getElem?_getD, hlt], HRow.out]; exact HO3.out⟩, HB3⟩
    · have hE : Aside0 ((l.take i).map rowOf = changesOf l n) := Aside0.mk (by
        unfold changesOf
        congr 1
        have h := hK.out
        by_cases h1 : i < l.length
        · have h2 : (i : Int) = max n 0 := by omega
          congr 1; omega
        · rw [List.take_of_length_le (by omega), List.take_of_length_le (by omega)])
      have hle : ¬ (i < l.length) ∨ (i < l.length ∧ ¬ (i : Int) < n) := by omega
      rcases hle with h1 | ⟨h1, h2⟩
      · have hb1 : ¬ (i : Int) < (l.length : Int) := by omega
        have hb2 : decide ((i : Int) < (l.length : Int)) = false := decide_eq_false hb1
        clear hlt
        go_wp2
        go_ret
        exact ⟨_, rfl, by rw [← hE.out]; exact hO.out, hW.out⟩
      · have hb1 : (i : Int) < (l.length : Int) := by omega
        have hb2 : decide ((i : Int) < n) = false := decide_eq_false h2
        clear hlt
        go_wp2
        go_ret
        exact ⟨_, rfl, by rw [← hE.out]; exact hO.out, hW.out⟩

end Go.Proofs.Ytmfkgbncnaingaa.Rows
namespace Go.Proofs.Ytmfkgbncnaingaa.QRows
open Go.RowKit Go.Proofs.Ytmfkgbncnaingaa.Rows Go.Proofs.YtmfkgbncnaingaaW.PrintWords Go.Proofs.YtmfkgbncnaingaaW.PrintLast Go.Proofs.YtmfkgbncnaingaaW.PrintMore

def bagnallkeep_Changes.f (l0 : List Int) (a1 : Int) : Option (List S67) := if a1 ≤ 1000 then some (changesOf l0 a1) else none
theorem bagnallkeep_Changes.calls (A0 : Option Addr) (c0 : Nat) (l0 : List Int) (a1 : Int) (r : List S67) (w : World) (hr0 : Kd.C (Kd.int .i64) w A0 l0.length l0) (hc0 : l0.length ≤ c0) (h : bagnallkeep_Changes.f l0 a1 = some r) :
    Calls Try.prog 39 #[.slice A0 l0.length c0, .int .i64 a1] w fun e w' => ∃ v0_ : Value, e = .returned (v0_) ∧ Kd.R k67 67 w' w.heap.size (fun _ => True) v0_ r ∧ Below w.heap.size w w' := by
  unfold bagnallkeep_Changes.f at h
  by_cases hn : a1 ≤ 1000
  · rw [if_pos hn] at h
    obtain rfl := Option.some.inj h
    exact Changes_calls A0 c0 l0 a1 w hr0 hc0 hn
  · rw [if_neg hn] at h; cases h
end Go.Proofs.Ytmfkgbncnaingaa.QRows
end

section
/- slices.Delete of one row. -/
namespace Go.Proofs.Ytmfkgbncnaingaa.Rows
open Go.RowKit Go.Lib Go.Proofs.Ytmfkgbncnaingaa.QRows Go.Proofs.YtmfkgbncnaingaaW.PrintWords Go.Proofs.YtmfkgbncnaingaaW.PrintLast Go.Proofs.YtmfkgbncnaingaaW.PrintMore

/-- An append as one step of a region that draws, where its run is known. -/
theorem step_append_is {P : Program} {ops : Array Oper} {o : Oper} {a : Act} {w : World} {K : Act → World → Prop} {Q : Exit → Act → World → Prop} {E : Prop}
    (hg : o.guard = none) (d x : Operand) (dT sT : TypeId) (hop : o.op = Op.call { callee := Callee.builtin Builtin.append, args := #[d, x], argTypes := #[dT, sT] })
    (v u : Value) (hd : a.eval d = v) (hx : a.eval x = u) {v' : Value} {w' : World} (hr : (Builtin.append_ #[dT, sT] o.type #[v, u]).run P w = .ok v' w') (hK : K (a.put o.dst v') w') :
    if Region.wanted o (yielded ops a.tmps) = true then Oper.wp P o a w K Q else E := by
  have hw : Region.wanted o (yielded ops a.tmps) = true := by simp [Region.wanted, hg]
  rw [if_pos hw]
  unfold Oper.wp
  simp [execOp, hop, resolve, invoke, builtin, hd, hx, hr, Result.andThen]
  exact hK
/-- The builtin clear, where its run is known. -/
theorem wpList_clear_is {P : Program} (w : World) {ops : Array Oper} {rest : List Oper} {o : Oper} {a : Act} {Q : Exit → Act → World → Prop} (hgd : o.guard = none) (s : Operand) (t : TypeId)
    (ho : o.op = .call { callee := .builtin .clear, args := #[s], argTypes := #[t] }) (u : Value) (hs : a.eval s = u) {v' : Value} {w' : World}
    (hr : (Builtin.clear_ #[t] o.type #[u]).run P w = .ok v' w') (h : wpList P ops Q rest (a.put o.dst v') w') : wpList P ops Q (o :: rest) a w := by
  refine wpList_plain hgd fun K hK => ?_
  unfold Oper.wp execOp
  simp only [ho, resolve, invoke, builtin, Sem.run_bind, Sem.run_pure, Result.andThen_ok, List.map_toArray, List.map_cons, List.map_nil, hs, hr]
  exact hK _ _ h
theorem zero67 (w : World) : (zeroValue 67).run Try.prog w = .ok (.agg #[(.string ⟨#[]⟩), (.string ⟨#[]⟩)]) w := by
  obtain ⟨i0, hi0, hz0, hzs, hzb⟩ := info_parts info67
  simp [zeroValue, typeInfo, hi0, hz0]
def noCells : List Value := [.string ⟨#[]⟩, .string ⟨#[]⟩]
theorem zeroCells_one : (Builtin.zeroCells (Value.agg #[(.string ⟨#[]⟩), (.string ⟨#[]⟩)]).cells 1).toList = noCells := by kernel_rfl
theorem run_clear_one (w : World) (ty : TypeId) (g o c : Nat) (cur : Array Value) (t : TypeId) (hg : w.heap[g]? = some (.cells cur t (0, 0))) (hfit : o + 2 ≤ cur.size) :
    (Builtin.clear_ #[58] ty #[.slice (some ⟨g, o, none⟩) 1 c]).run Try.prog w = .ok (.tuple #[]) (w.setRow g (spl cur.toList o noCells).toArray) := by
  have hst := run_storeCells_at Try.prog g o t noCells 0 cur w hg (by show o + 0 + 2 ≤ cur.size; omega) (by intro v hv; simp [noCells] at hv; rw [hv]; rfl)
  rw [Nat.add_zero] at hst
  have hst' : (storeCells ⟨g, o, none⟩ noCells).run Try.prog w = .ok () (w.setRow g (spl cur.toList o noCells).toArray) := hst
  simp [Builtin.clear_, run_underlying Try.underlying58, zeroCells_one, hst']

theorem delete_take {α : Type} (l D Z : List α) (p m : Nat) (hD : D.length = m) (hl : p + m ≤ l.length) : (spl (spl l p D) (p + m) Z).take (p + m) = l.take p ++ D := by
  have e1 : (spl l p D).take (p + m) = l.take p ++ D := by
    unfold spl
    exact List.take_left' (by rw [List.length_append, List.length_take]; omega)
  rw [spl, e1, List.append_assoc]
  exact List.take_left' (by rw [List.length_append, List.length_take]; omega)

set_option maxHeartbeats 4000000 in
set_option maxRecDepth 100000 in
theorem Delete_raw (w : World) (g i m cap : Nat) (xs : List S67) (cur : Array Value) (hxs : xs.length = i + m + 1) (hn : i + m + 1 ≤ cap) (hcap : cap ≤ maxLen) (hg : w.heap[g]? = some (.cells cur 67 (0, 0)))
    (hsz : cur.size = cap * 2) (hcur : cur.toList.take ((i + m + 1) * 2) = cells xs) :
    Calls Try.prog 79 #[.slice (some ⟨g, 0, none⟩) (i + m + 1) cap, .int .i64 i, .int .i64 ((i : Int) + 1)] w fun e w' =>
      e = .returned (.slice (some ⟨g, 0, none⟩) (i + m) cap) ∧ ∃ cur' n, w' = (w.drewN n).setRow g cur' ∧ cur'.size = cap * 2 ∧ cur'.toList.take ((i + m) * 2) = cells (xs.take i ++ xs.drop (i + 1)) := by
  have mixed : Try.prog.follows .mixedOrders = true := by kernel_rfl
  have hc63 : cap ≤ 9223372036854775807 := by unfold maxLen at hcap; omega
  have hDl : (cells (xs.drop (i + 1))).length = m * 2 := by rw [cells_length, List.length_drop, hxs]; omega
  have hcell : ∀ j v, (cells (xs.drop (i + 1)))[j]? = some v → cur[(i + 1) * 2 + j]? = some v := fun j v hj => by
    have hj1 : j < m * 2 := by
      have := (List.getElem?_eq_some_iff.1 hj).1
      omega
    rw [← cells_drop, ← hcur, List.getElem?_drop, List.getElem?_take, if_pos (by omega)] at hj
    simpa using hj
  obtain ⟨i0, hi0, hz0, hzs, hzb⟩ := info_parts info67
  obtain ⟨A1, hA1⟩ : ∃ A1, A1 = (spl cur.toList (i * 2) (cells (xs.drop (i + 1)))).toArray := ⟨_, rfl⟩
  have hA1s : A1.size = cap * 2 := by rw [hA1]; exact spl_size cur _ _ _ hsz (by rw [hDl]; omega)
  have happ : ∀ (W : World), W.heap = w.heap → ∀ ty a L cB, L = m → (a = ⟨g, (i + 1) * 2, none⟩ ∨ m = 0) → (Builtin.append_ #[58, 58] ty #[.slice (some ⟨g, 0, none⟩) i cap, .slice (some a) L cB]).run Try.prog W = .ok (.slice (some ⟨g, 0, none⟩) (i + m) cap) (W.setRow g A1) := fun W hW ty a L cB hL ha => by
    have h := run_append_room (P := Try.prog) W 58 ty 67 i0 Try.underlying58 hi0 g i cap cur (by rw [hW]; exact hg) a L cB (cells (xs.drop (i + 1))) (by rw [hDl, hzs, hL])
      (fun j u hj => by
        have hj1 : j < m * 2 := by
          have := (List.getElem?_eq_some_iff.1 hj).1
          omega
        rcases ha with rfl | ha
        case inr => omega
        rw [Addr.add_lit]
        have h2 : W.heap[g]? = some (.cells cur 67 (0, 0)) := by rw [hW]; exact hg
        simpa [World.cell?, h2] using hcell j u hj) (cells_one _) (by omega) (by rw [hzs, hDl, hsz]; omega)
    rw [h, hzs, hL, hA1]; rfl
  obtain ⟨A2, hA2⟩ : ∃ A2, A2 = (spl A1.toList ((i + m) * 2) noCells).toArray := ⟨_, rfl⟩
  have hA2s : Aside0 (A2.size = cap * 2) := Aside0.mk (by rw [hA2]; exact spl_size A1 _ _ _ hA1s (by show (i + m) * 2 + 2 ≤ cap * 2; omega))
  have hclr : ∀ (W : World), W.heap = (w.setRow g A1).heap → ∀ ty L c, L = 1 → (Builtin.clear_ #[58] ty #[.slice (some ⟨g, (i + m) * 2, none⟩) L c]).run Try.prog W = .ok (.tuple #[]) (W.setRow g A2) := fun W hW ty L c hL => by
    rw [hL, hA2]
    exact run_clear_one W ty g _ c A1 67 (by rw [hW]; exact setRow_heap _ _ _ _ _ _ hg) (by omega)
  have hT : Aside0 (A2.toList.take ((i + m) * 2) = cells (xs.take i ++ xs.drop (i + 1))) := Aside0.mk (by
    rw [hA2, hA1]
    have h := delete_take cur.toList (cells (xs.drop (i + 1))) noCells (i * 2) (m * 2) hDl (by rw [Array.length_toList]; omega)
    rw [show i * 2 + m * 2 = (i + m) * 2 by omega] at h
    show (spl (spl cur.toList (i * 2) (cells (xs.drop (i + 1)))) ((i + m) * 2) noCells).take _ = _
    rw [h, cells_append]
    congr 1
    rw [← cells_take, ← hcur, List.take_take, Nat.min_eq_left (by omega)])
  have hH := Aside0.mk hg
  have hw1 : IntKind.i64.wrap ((i : Int) + 1) = (i : Int) + 1 := by rw [IntKind.wrap_i64]; omega
  have hz1 : ¬ ((i : Int) = (i : Int) + 1) := by omega
  have hb1 : (0 : Int) ≤ (i : Int) + 1 := by omega
  have htn : ((i : Int) + 1).toNat = i + 1 := by omega
  have hb2 : (i : Int) ≤ (i : Int) + 1 := by omega
  have hb3 : i + 1 ≤ i + m + 1 := by omega
  have hb4 : (i : Int) + 1 ≤ ((i + m + 1 : Nat) : Int) := by omega
  have hb5 : (i : Int) + 1 ≤ (cap : Int) := by omega
  have hb6 : ¬ (cap = i + 1) ∨ cap = i + 1 := by omega
  clear hcell hDl hcur hsz hA1 hA1s hA2 hi0 hz0 hzs hzb hg hxs
  have hbc : (i : Int) ≤ (cap : Int) := by omega
  have hbd : i ≤ cap := by omega
  have hbe : (i : Int) + (m : Int) + 1 ≤ (cap : Int) := by omega
  have hbf : (i : Int) ≤ (i : Int) + (m : Int) := by omega
  have hm0 : cap = i + 1 → m = 0 := by omega
  have hci : ¬ (cap = i + m) := by omega
  have hclr2 : ∀ c, (Builtin.clear_ #[58] 0 #[.slice (some ⟨g, (i + m) * 2, none⟩) 1 c]).run Try.prog (w.drew.setRow g A1) = .ok (.tuple #[]) (w.drew.setRow g A2) := fun c => by
    rw [hclr _ (by rfl) 0 1 c rfl, setRow_setRow]
  clear hclr
  rcases hb6 with hb6 | hb6
  · clear hm0
    go_enter Try.func79, Try.ntmps79
    go_wp2
    go_region_law_o (refine step_append_is rfl _ _ 58 58 rfl (.slice (some ⟨g, 0, none⟩) i cap) (.slice (some ⟨g, (i + 1) * 2, none⟩) m (cap - (i + 1))) (by simp [Act.eval, Act.put]) (by simp [Act.eval, Act.put]) (happ _ (by rfl) _ _ _ _ rfl (.inl rfl)) ?_)
    go_wp2_with (simp only [hclr2])
    go_ret
    exact ⟨rfl, A2, 1, rfl, hA2s.out, hT.out⟩
  · obtain rfl := hm0 hb6
    subst hb6
    clear hm0 hci
    have hii : ¬ (i + 1 = i) := by omega
    simp only [Nat.add_zero] at *
    go_enter Try.func79, Try.ntmps79
    go_wp2
    go_region_law_o (refine step_append_is rfl _ _ 58 58 rfl (.slice (some ⟨g, 0, none⟩) i (i + 1)) (.slice (some ⟨g, 0, none⟩) 0 0) (by simp [Act.eval, Act.put]) (by simp [Act.eval, Act.put]) (happ _ (by rfl) _ _ _ _ rfl (.inr (by simp))) ?_)
    go_wp2_with (simp only [hclr2])
    go_ret
    exact ⟨rfl, A2, 1, rfl, hA2s.out, hT.out⟩

/-- slices.Delete of one row. -/
theorem Delete_calls (w : World) (base i : Nat) (ok : Nat → Prop) (v : Value) (xs : List S67) (hi : i < xs.length) (HO : k67.R 67 w base ok v xs) :
    Calls Try.prog 79 #[v, .int .i64 i, .int .i64 ((i : Int) + 1)] w fun e w' => ∃ v', e = .returned v' ∧ k67.R 67 w' base ok v' (xs.take i ++ xs.drop (i + 1)) ∧ Below base w w' ∧ v'.ownBlock = v.ownBlock := by
  rcases row_open HO with ⟨rfl, rfl⟩ | ⟨g, cap, cur, rfl, hb, hok, hg, h1, h2, h3, h4⟩
  · exact absurd hi (by simp)
  · obtain ⟨m, hm⟩ : ∃ m, xs.length = i + m + 1 := ⟨xs.length - i - 1, by omega⟩
    have hxl : (xs.take i ++ xs.drop (i + 1)).length = i + m := by rw [List.length_append, List.length_take, List.length_drop]; omega
    rw [hm] at h1 h4 ⊢
    refine (Delete_raw w g i m cap xs cur hm h1 h2 hg h3 h4).mono ?_
    rintro e w' ⟨rfl, cur', n, rfl, h5, h6⟩
    refine ⟨_, rfl, ?_, below_setRow (pw_below_drewN (Below.refl _ _) n) hb _, rfl⟩
    rw [← hxl] at h6 ⊢
    exact row_close hb hok (setRow_heap _ _ _ _ _ _ hg) (by omega) h2 h5 h6

end Go.Proofs.Ytmfkgbncnaingaa.Rows
end

section
/- The search for a key. -/
namespace Go.Proofs.Ytmfkgbncnaingaa.Rows
open Go.RowKit Go.Lib Go.Proofs.Ytmfkgbncnaingaa.QRows Go.Proofs.YtmfkgbncnaingaaW.PrintWords Go.Proofs.YtmfkgbncnaingaaW.PrintLast Go.Proofs.YtmfkgbncnaingaaW.PrintMore

/-- How two texts stand. -/
def cmpOf (a b : ByteArray) : Int := if Op.bytesLess a.toList b.toList = true then -1 else if a.toList = b.toList then 0 else 1
theorem isNaN_calls (a : ByteArray) (w : World) : Calls Try.prog 98 #[.string a] w fun e w' => e = .returned (.bool false) ∧ w = w' := by
  go_enter Try.func98, Try.ntmps98
  go_wp2
  go_ret
  exact ⟨by simp, rfl⟩
theorem Compare_calls (a b : ByteArray) (w : World) : Calls Try.prog 93 #[.string a, .string b] w fun e w' => e = .returned (.int .i64 (cmpOf a b)) ∧ w = w' := by
  unfold cmpOf
  by_cases h1 : Op.bytesLess a.toList b.toList = true
  · rw [if_pos h1]
    go_enter Try.func93, Try.ntmps93
    go_wp2_with (go_at_call 98; refine (isNaN_calls _ _).mono ?_; rintro e w' ⟨rfl, rfl⟩)
    go_ret
    exact ⟨rfl, rfl⟩
  · rw [if_neg h1]
    have h1' : Op.bytesLess a.toList b.toList = false := by simpa using h1
    by_cases h2 : a.toList = b.toList
    · rw [if_pos h2]
      have h2' : (a.toList == b.toList) = true := by rw [h2]; exact beq_self_eq_true _
      clear h1 h2
      go_enter Try.func93, Try.ntmps93
      go_wp2_with (go_at_call 98; refine (isNaN_calls _ _).mono ?_; rintro e w' ⟨rfl, rfl⟩)
      all_goals (go_ret; exact ⟨rfl, rfl⟩)
    · rw [if_neg h2]
      have h2' : (a.toList == b.toList) = false := beq_eq_false_iff_ne.2 h2
      clear h1 h2
      go_enter Try.func93, Try.ntmps93
      go_wp2_with (go_at_call 98; refine (isNaN_calls _ _).mono ?_; rintro e w' ⟨rfl, rfl⟩)
      all_goals (go_ret; exact ⟨rfl, rfl⟩)

theorem closure_calls (x : S67) (b : ByteArray) (w : World) : Calls Try.prog 92 #[.agg #[.string x.f0, .string x.f1], .string b] w fun e w' => e = .returned (.int .i64 (cmpOf x.f0 b)) ∧ Below w.heap.size w w' := by
  go_enter Try.func92, Try.ntmps92
  go_wp2_with (go_at_call 93; refine (Compare_calls _ _ _).mono ?_; rintro e w' ⟨rfl, rfl⟩)
  go_ret
  exact ⟨rfl, below_alloc (Below.refl _ _) _⟩

/-- The search. -/
def bs (xs : List S67) (t : ByteArray) (i j : Nat) : Nat :=
  if i < j then (if cmpOf (rd_T67 xs (((i + j) / 2 : Nat) : Int)).f0 t < 0 then bs xs t ((i + j) / 2 + 1) j else bs xs t i ((i + j) / 2)) else i
termination_by j - i
theorem bs_le (xs : List S67) (t : ByteArray) : ∀ (d i j : Nat), j - i ≤ d → i ≤ j → i ≤ bs xs t i j ∧ bs xs t i j ≤ j := by
  intro d
  induction d with
  | zero => intro i j h1 h2; rw [bs, if_neg (by omega)]; omega
  | succ d ih =>
    intro i j h1 h2
    rw [bs]
    by_cases h : i < j
    · rw [if_pos h]
      split
      · have := ih ((i + j) / 2 + 1) j (by omega) (by omega); omega
      · have := ih i ((i + j) / 2) (by omega) (by omega); omega
    · rw [if_neg h]; omega
/-- What the search tells. -/
def found (xs : List S67) (t : ByteArray) : Nat × Bool := (bs xs t 0 xs.length, decide (bs xs t 0 xs.length < xs.length) && (cmpOf (rd_T67 xs ((bs xs t 0 xs.length : Nat) : Int)).f0 t == 0))

set_option maxRecDepth 100000 in
set_option maxHeartbeats 4000000 in
theorem Search_calls (A0 : Option Addr) (c0 : Nat) (xs : List S67) (t : ByteArray) (w : World) (hr : Kd.C k67 w A0 xs.length xs) (hl : xs.length ≤ 100000) :
    Calls Try.prog 91 #[.slice A0 xs.length c0, .string t, .func (.func 92) #[] #[]] w fun e w' => e = .returned (.tuple #[.int .i64 ((found xs t).1 : Nat), .bool (found xs t).2]) ∧ Below w.heap.size w w' := by
  have HR := Aside0.mk hr
  clear hr
  go_enter Try.func91, Try.ntmps91
  go_wp2
  go_loopg [9, 10] (xs.length + 1) (fun kq v9 v10 wr => ∃ (i j : Nat), v9 = .int .i64 i ∧ v10 = .int .i64 j ∧ Aside0 (j - i ≤ kq ∧ i ≤ j ∧ j ≤ xs.length) ∧ Aside0 (bs xs t 0 xs.length = bs xs t i j) ∧ Aside0 (Below w.heap.size w wr))
  case atStart => exact ⟨0, xs.length, rfl, rfl, ⟨by omega⟩, ⟨rfl⟩, ⟨Below.refl _ _⟩⟩
  case round =>
    obtain ⟨i, j, rfl, rfl, hK, hM, hW⟩ := hrel
    have HRr := Aside0.mk (Kd.C_below HR.out hW.out)
    by_cases hlt : i < j
    · have hb1 : decide ((i : Int) < (j : Int)) = true := decide_eq_true (by omega)
      have hb1' : (i : Int) < (j : Int) := by omega
      have hm1 : IntKind.u64.wrap ((i : Int) + (j : Int)) = (i : Int) + (j : Int) := by rw [IntKind.wrap_u64]; have := hK.out; omega
      obtain ⟨h, hh⟩ : ∃ h, h = (i + j) / 2 := ⟨_, rfl⟩
      have hm2 : wrap64 (((i : Int) + (j : Int)) / 2) = (h : Int) := by unfold wrap64; have := hK.out; omega
      have hm3 : IntKind.i64.wrap ((i : Int) + (j : Int)) = (i : Int) + (j : Int) := by rw [IntKind.wrap_i64]; have := hK.out; omega
      have hm4 : IntKind.i64.wrap ((h : Int) + 1) = (h : Int) + 1 := by rw [IntKind.wrap_i64]; have := hK.out; omega
      have hm5 : (h : Int) < (xs.length : Int) := by have := hK.out; omega
      have hH := Aside0.mk hh
      obtain ⟨ad, rfl, hx0, hx1⟩ := at_T67 HRr.out (h : Int) (by omega) hm5
      obtain ⟨x, hx⟩ : ∃ x, x = rd_T67 xs (h : Int) := ⟨_, rfl⟩
      rw [← hx] at hx0 hx1
      rw [Int.toNat_natCast] at hx0 hx1
      have hX := Aside0.mk hx
      have HC := fun w => Aside0.mk (closure_calls x t w)
      obtain ⟨cr, hcr⟩ : ∃ cr, cr = cmpOf x.f0 t := ⟨_, rfl⟩
      rw [← hcr] at HC
      have hCr := Aside0.mk hcr
      clear hx hcr hh hlt
      by_cases hc : cr < 0
      · have hc' : decide (cr < 0) = true := decide_eq_true hc
        go_wp2_with (go_at_call 92; refine (HC _).out.mono ?_; rintro e w1 ⟨rfl, hb⟩; have HB := Aside0.mk hb; clear hb)
        go_roundg (gk - 1)
        case measure => have := hK.out; have := hH.out; omega
        case rel =>
          refine ⟨h + 1, j, by go_num, rfl, ⟨by have := hK.out; have := hH.out; omega⟩, ⟨?_⟩, ⟨hW.out.trans (HB.out.mono hW.out.size)⟩⟩
          rw [hM.out, bs, if_pos (by have := hb1'; omega), ← hH.out, ← hX.out, ← hCr.out, if_pos hc]
      · have hc' : decide (cr < 0) = false := decide_eq_false hc
        go_wp2_with (go_at_call 92; refine (HC _).out.mono ?_; rintro e w1 ⟨rfl, hb⟩; have HB := Aside0.mk hb; clear hb)
        go_roundg (gk - 1)
        case measure => have := hK.out; have := hH.out; omega
        case rel =>
          refine ⟨i, h, rfl, rfl, ⟨by have := hK.out; have := hH.out; omega⟩, ⟨?_⟩, ⟨hW.out.trans (HB.out.mono hW.out.size)⟩⟩
          rw [hM.out, bs, if_pos (by have := hb1'; omega), ← hH.out, ← hX.out, ← hCr.out, if_neg (by omega)]
    · have hij : i = j := by have := hK.out; omega
      subst hij
      have hb1 : decide ((i : Int) < (i : Int)) = false := decide_eq_false (by omega)
      have hres : Aside0 (bs xs t 0 xs.length = i) := Aside0.mk (by rw [hM.out, bs, if_neg (by omega)])
      by_cases hn : i < xs.length
      · have hn' : (i : Int) < (xs.length : Int) := by omega
        obtain ⟨ad, rfl, hx0, hx1⟩ := at_T67 HRr.out (i : Int) (by omega) hn'
        obtain ⟨x, hx⟩ : ∃ x, x = rd_T67 xs (i : Int) := ⟨_, rfl⟩
        rw [← hx] at hx0 hx1
        rw [Int.toNat_natCast] at hx0 hx1
        have hX := Aside0.mk hx
        have HC := fun w => Aside0.mk (closure_calls x t w)
        have HE := Aside0.mk (show found xs t = (i, cmpOf x.f0 t == 0) by unfold found; rw [hres.out, ← hx, decide_eq_true hn, Bool.true_and])
        clear hx
        go_wp2_with (go_at_call 92; refine (HC _).out.mono ?_; rintro e w1 ⟨rfl, hb⟩; have HB := Aside0.mk hb; clear hb)
        go_ret2
        exact ⟨by rw [HE.out]; rfl, hW.out.trans (HB.out.mono hW.out.size)⟩
      · have hn' : ¬ (i : Int) < (xs.length : Int) := by omega
        have HE := Aside0.mk (show found xs t = (i, false) by unfold found; rw [hres.out, decide_eq_false hn, Bool.false_and])
        go_wp2
        go_ret2
        exact ⟨by rw [HE.out]; rfl, hW.out⟩

theorem place_calls (A0 : Option Addr) (c0 : Nat) (xs : List S67) (t : ByteArray) (w : World) (hr : Kd.C k67 w A0 xs.length xs) (hl : xs.length ≤ 100000) :
    Calls Try.prog 78 #[.slice A0 xs.length c0, .string t] w fun e w' => e = .returned (.tuple #[.int .i64 ((found xs t).1 : Nat), .bool (found xs t).2]) ∧ Below w.heap.size w w' := by
  have HC := fun w h => Aside0.mk (Search_calls A0 c0 xs t w h hl)
  have HR := Aside0.mk hr
  clear hr
  go_enter Try.func78, Try.ntmps78
  go_wp2_with (go_at_call 91; refine (HC _ HR.out).out.mono ?_; rintro e w1 ⟨rfl, hb⟩; have HB := Aside0.mk hb; clear hb)
  go_ret2
  exact ⟨rfl, HB.out⟩

end Go.Proofs.Ytmfkgbncnaingaa.Rows
end

section
/- Changed rows. -/
namespace Go.Proofs.Ytmfkgbncnaingaa.Rows
open Go.RowKit Go.Lib Go.Proofs.Ytmfkgbncnaingaa.QRows Go.Proofs.YtmfkgbncnaingaaW.PrintWords Go.Proofs.YtmfkgbncnaingaaW.PrintLast Go.Proofs.YtmfkgbncnaingaaW.PrintMore

/-- The empty literal is a row. -/
theorem empty_row (w : World) : k67.R 67 (w.alloc (.cells #[] 67)) w.heap.size (fun _ => True) (.slice (some ⟨w.heap.size, 0, none⟩) 0 0) [] :=
  row_close (xs := []) (cur := #[]) (Nat.le_refl _) trivial (by show (w.heap.push _)[w.heap.size]? = _; rw [Array.getElem?_push_size]) (Nat.le_refl _) (Nat.zero_le _) rfl rfl

set_option maxRecDepth 100000 in
set_option maxHeartbeats 1000000 in
theorem Clone_calls (w : World) (A : Option Addr) (c : Nat) (xs : List S67) (h : k67.C w A xs.length xs) (hl : xs.length ≤ 100000) :
    Calls Try.prog 77 #[.slice A xs.length c] w fun e w' => ∃ v, e = .returned v ∧ k67.R 67 w' w.heap.size (fun _ => True) v xs ∧ Below w.heap.size w w' := by
  have HC := Aside0.mk h
  have hq := fun (w : World) (a : Option Addr) (n c n' c' : Nat) => Lib.run_eql_slice_nil (P := Try.prog) w 58 67 a n c n' c' Try.underlying58
  cases A with
  | none =>
    have h0 : xs = [] := by
      have h1 := HC.out
      cases xs with
      | nil => rfl
      | cons x l => obtain ⟨_, _, h2⟩ := h1; obtain ⟨ad, h3, _⟩ := h2 (by simp); cases h3
    subst h0
    go_enter Try.func77, Try.ntmps77
    go_wp2
    go_ret
    exact ⟨_, rfl, Kd.R_nil _ _ _ _ _, Below.refl _ _⟩
  | some ad =>
    clear h
    go_enter Try.func77, Try.ntmps77
    go_wp2_with (first | (at_builtin; refine Kd.R_append_rows k67 (w0 := w) w.heap.size rfl (.tmp 5) (.tmp 6) 58 67 (.agg #[(.string ⟨#[]⟩), (.string ⟨#[]⟩)]) 32 rfl Try.underlying58 info67 rfl (by decide) (by omega) _ [] xs _ _ _ (fun _ => True) (fun _ => False) rfl rfl (empty_row w) (Kd.C_alloc HC.out _) (fun x cs h => by rw [k67_open h]; exact k67_mkM _ _ _ x) (fun _ h => h.elim) (fun _ _ => trivial) (below_alloc (Below.refl _ _) _) (by simp) (by simp; omega) ?_; intro v1 w1 ho hb _ _; have HO := Aside0.mk ho; have HB := Aside0.mk hb; clear ho hb))
    go_ret
    exact ⟨_, rfl, HO.out, HB.out⟩

theorem cells_set (xs : List S67) (p : Nat) (x : S67) : cells (xs.set p x) = ((cells xs).set (p * 2) (.string x.f0)).set (p * 2 + 1) (.string x.f1) := by
  induction xs generalizing p with
  | nil => simp [cells]
  | cons y l ih =>
    cases p with
    | zero => simp [cells]
    | succ p => rw [List.set_cons_succ, cells, ih, show (p + 1) * 2 = p * 2 + 1 + 1 by omega]; rfl
/-- A row is put anew. -/
theorem row_put {w : World} {base g cap p : Nat} {ok : Nat → Prop} {xs : List S67} (x : S67) (HO : k67.R 67 w base ok (.slice (some ⟨g, 0, none⟩) xs.length cap) xs) (_hp : p < xs.length) :
    k67.R 67 ((w.setCell ⟨g, p * 2, none⟩ (.string x.f0)).setCell ⟨g, p * 2 + 1, none⟩ (.string x.f1)) base ok (.slice (some ⟨g, 0, none⟩) xs.length cap) (xs.set p x) ∧ Below base w ((w.setCell ⟨g, p * 2, none⟩ (.string x.f0)).setCell ⟨g, p * 2 + 1, none⟩ (.string x.f1)) := by
  rcases row_open HO with ⟨h, -⟩ | ⟨g', cap', cur, he, hb, hok, hg, h1, h2, h3, h4⟩
  · cases h
  · injection he with e1 e2 e3
    injection e1 with e1
    injection e1 with e1
    subst e1; subst e3
    rw [setCell_eq_setRow w g (p * 2) cur 67 (0, 0) _ hg, setCell_eq_setRow _ g (p * 2 + 1) _ 67 (0, 0) _ (setRow_heap _ _ _ _ _ _ hg), setRow_setRow]
    refine ⟨?_, below_setRow (Below.refl _ _) hb _⟩
    have hl : (xs.set p x).length = xs.length := List.length_set
    rw [← hl] at h1 h4 ⊢
    refine row_close hb hok (setRow_heap _ _ _ _ _ _ hg) h1 h2 (by rw [Array.size_setIfInBounds, Array.size_setIfInBounds]; exact h3) ?_
    rw [Array.toList_setIfInBounds, Array.toList_setIfInBounds, List.take_set, List.take_set, h4, ← cells_set]
theorem row_cell {w : World} {base : Nat} {ok : Nat → Prop} {v : Value} {xs : List S67} (HO : k67.R 67 w base ok v xs) {p : Nat} (hp : p < xs.length) :
    ∃ g cap u0 u1, v = .slice (some ⟨g, 0, none⟩) xs.length cap ∧ w.cell? ⟨g, p * 2, none⟩ = some u0 ∧ w.cell? ⟨g, p * 2 + 1, none⟩ = some u1 ∧ ∀ j, w.frozen? ⟨g, j, none⟩ = false := by
  rcases row_open HO with ⟨-, h⟩ | ⟨g, cap, cur, rfl, hb, hok, hg, h1, h2, h3, h4⟩
  · rw [h] at hp; simp at hp
  · refine ⟨g, cap, cur[p * 2], cur[p * 2 + 1], rfl, ?_, ?_, fun j => ?_⟩
    · simp [World.cell?, hg, show p * 2 < cur.size by omega]
    · simp [World.cell?, hg, show p * 2 + 1 < cur.size by omega]
    · simp [World.frozen?, hg]

theorem box_cells {wr w2 : World} {x : S67} (hb : Below (wr.alloc (.cells #[.string x.f0, .string x.f1] 67)).heap.size (wr.alloc (.cells #[.string x.f0, .string x.f1] 67)) w2) :
    w2.cell? ⟨wr.heap.size, 0, none⟩ = some (.string x.f0) ∧ w2.cell? ⟨wr.heap.size, 1, none⟩ = some (.string x.f1) := by
  have h : w2.heap[wr.heap.size]? = some (.cells #[.string x.f0, .string x.f1] 67 (0, 0)) := by
    rw [hb.block _ (by show wr.heap.size < (wr.heap.push _).size; rw [Array.size_push]; omega)]
    show (wr.heap.push _)[wr.heap.size]? = _
    rw [Array.getElem?_push_size]
  constructor <;> simp [World.cell?, h]

theorem row_cell2 {w : World} {base g cap : Nat} {ok : Nat → Prop} {xs : List S67} (HO : k67.R 67 w base ok (.slice (some ⟨g, 0, none⟩) xs.length cap) xs) {p : Nat} (hp : p < xs.length) :
    ∃ u0 u1, w.cell? ⟨g, p * 2, none⟩ = some u0 ∧ w.cell? ⟨g, p * 2 + 1, none⟩ = some u1 ∧ ∀ j, w.frozen? ⟨g, j, none⟩ = false := by
  obtain ⟨g', cap', u0, u1, he, h0, h1, h2⟩ := row_cell HO hp
  injection he with e1 e2 e3
  injection e1 with e1
  injection e1 with e1
  subst e1
  exact ⟨u0, u1, h0, h1, h2⟩
theorem alloc_at (w : World) (o : Obj) : (w.alloc o).heap[w.heap.size]? = some o := by
  show (w.heap.push _)[w.heap.size]? = _
  rw [Array.getElem?_push_size]

/-- A table behind one change. -/
def change (out : List S67) (c : S67) : List S67 :=
  if (found out c.f0).2 = true then
    (if c.f1.toList = ([] : List UInt8) then out.take (found out c.f0).1 ++ out.drop ((found out c.f0).1 + 1) else out.set (found out c.f0).1 c)
  else (if c.f1.toList = ([] : List UInt8) then out else out.take (found out c.f0).1 ++ c :: out.drop (found out c.f0).1)
def changed (l cs : List S67) : List S67 := cs.foldl change l
theorem change_length (out : List S67) (c : S67) : (change out c).length ≤ out.length + 1 := by
  unfold change
  split <;> split <;> simp <;> omega
theorem changed_length (l cs : List S67) : (changed l cs).length ≤ l.length + cs.length := by
  unfold changed
  induction cs generalizing l with
  | nil => exact Nat.le_refl _
  | cons c t ih => rw [List.foldl_cons]; have := ih (change l c); have := change_length l c; rw [List.length_cons]; omega
theorem changed_take (l cs : List S67) (i : Nat) (h : i < cs.length) : changed l (cs.take (i + 1)) = change (changed l (cs.take i)) cs[i] := by
  unfold changed; rw [List.take_succ_eq_append_getElem h, List.foldl_append]; rfl

set_option maxRecDepth 100000 in
set_option maxHeartbeats 4000000 in
theorem Changed_calls (A0 A1 : Option Addr) (c0 c1 : Nat) (l cs : List S67) (w : World) (h0 : k67.C w A0 l.length l) (h1 : k67.C w A1 cs.length cs) (hl0 : l.length ≤ 400) (hl1 : cs.length ≤ 400) :
    Calls Try.prog 64 #[.slice A0 l.length c0, .slice A1 cs.length c1] w fun e w' => ∃ v, e = .returned v ∧ k67.R 67 w' w.heap.size (fun _ => True) v (changed l cs) ∧ Below w.heap.size w w' := by
  have HL := Aside0.mk h0
  have HC := Aside0.mk h1
  clear h0 h1
  have HCl := fun w h => Aside0.mk (Clone_calls w A0 c0 l h (by omega))
  go_enter Try.func64, Try.ntmps64
  go_wp2_with (go_at_call 77; refine (HCl _ HL.out).out.mono ?_; rintro e w1 ⟨v, rfl, hv, hb⟩; have HV := Aside0.mk hv; have HB := Aside0.mk hb; clear hv hb)
  go_loopg [5, 14] (cs.length) (fun kq v5 v14 wr => ∃ (i : Nat), v14 = .int .i64 i ∧ Aside0 (kq + i = cs.length) ∧ Aside0 (k67.R 67 wr w.heap.size (fun _ => True) v5 (changed l (cs.take i))) ∧ Aside0 (Below w.heap.size w wr))
  case atStart => exact ⟨0, rfl, ⟨by omega⟩, HV, HB⟩
  case round =>
    obtain ⟨i, rfl, hK, hR, hW⟩ := hrel
    by_cases hlt : i < cs.length
    · have hb1 : (i : Int) < (cs.length : Int) := by omega
      obtain ⟨ad, rfl, hx0, hx1⟩ := at_T67 (Kd.C_below HC.out hW.out) (i : Int) (by omega) hb1
      obtain ⟨x, hx⟩ : ∃ x, x = rd_T67 cs (i : Int) := ⟨_, rfl⟩
      rw [← hx] at hx0 hx1
      rw [Int.toNat_natCast] at hx0 hx1
      have hX := Aside0.mk hx
      clear hx
      obtain ⟨out, hout⟩ : ∃ out, out = changed l (cs.take i) := ⟨_, rfl⟩
      have hnext : Aside0 (changed l (cs.take (i + 1)) = change out x) := Aside0.mk (by
        rw [changed_take l cs i hlt, ← hout]
        congr 1
        rw [hX.out]
        simp [rd_T67, List.getD_eq_getElem?_getD, hlt])
      have hol : out.length ≤ 800 := by
        have := changed_length l (cs.take i)
        rw [← hout, List.length_take] at this; omega
      rw [← hout] at hR
      clear hout
      obtain ⟨A, c, rfl, hc, -⟩ := Kd.R_reads hR.out
      have hfi : Aside0 ((found out x.f0).1 ≤ out.length ∧ ((found out x.f0).2 = true → (found out x.f0).1 < out.length)) := Aside0.mk (by
        have h1 := bs_le out x.f0 out.length 0 out.length (by omega) (by omega)
        refine ⟨h1.2, fun h => ?_⟩
        unfold found at h ⊢
        simp only [Bool.and_eq_true, decide_eq_true_eq] at h
        exact h.1)
      have hfd : Aside0 (change out x = if (found out x.f0).2 = true then (if x.f1.toList = ([] : List UInt8) then out.take (found out x.f0).1 ++ out.drop ((found out x.f0).1 + 1) else out.set (found out x.f0).1 x) else (if x.f1.toList = ([] : List UInt8) then out else out.take (found out x.f0).1 ++ x :: out.drop (found out x.f0).1)) := ⟨rfl⟩
      have HP := fun w h => Aside0.mk (place_calls A c out x.f0 w h (by omega))
      obtain ⟨pb, hpb⟩ : ∃ pb, pb = found out x.f0 := ⟨_, rfl⟩
      rw [← hpb] at HP hfi hfd
      obtain ⟨p, b⟩ := pb
      clear hpb
      have hp0 : p ≤ out.length := hfi.out.1
      have hRo := hR
      have hbase : w.heap.size ≤ wr.heap.size := hW.out.size
      have HCo := Aside0.mk (Kd.R_reads' hR.out).2.2
      have hwp : IntKind.i64.wrap ((p : Int) + 1) = (p : Int) + 1 := by rw [IntKind.wrap_i64]; omega
      have hwi : IntKind.i64.wrap ((i : Int) + 1) = (i : Int) + 1 := by rw [IntKind.wrap_i64]; omega
      by_cases he : x.f1.toList = ([] : List UInt8)
      · have he' : (x.f1.toList == ([] : List UInt8)) = true := by rw [he]; rfl
        cases b with
        | true =>
          have hlp : p < out.length := hfi.out.2 rfl
          have hres := Aside0.mk (hfd.out.trans (by rw [if_pos rfl, if_pos he]))
          clear he hfd hfi
          go_wp2_with (first | (go_at_call 78; refine (HP _ (Kd.C_alloc HCo.out _)).out.mono ?_; rintro e w2 ⟨rfl, hb⟩; obtain ⟨hy0, hy1⟩ := box_cells hb; have HB2 := Aside0.mk (show Below wr.heap.size wr w2 from (below_alloc (Below.refl _ _) _).trans (hb.mono (by show wr.heap.size ≤ (wr.heap.push _).size; rw [Array.size_push]; omega))); clear hb) | (go_at_call 79; refine (Delete_calls _ w.heap.size p (fun _ => True) _ out hlp (Kd.R_below hR.out HB2.out)).mono ?_; rintro e w3 ⟨v3, rfl, h3, hb3, -⟩; have H3 := Aside0.mk h3; have HB3 := Aside0.mk (show Below w.heap.size w w3 from (hW.out.trans (HB2.out.mono hbase)).trans hb3); clear h3 hb3))
          go_roundg (gk - 1)
          case measure => have := hK.out; omega
          case rel => exact ⟨i + 1, by go_num, ⟨by have := hK.out; omega⟩, ⟨by rw [hnext.out, hres.out]; exact H3.out⟩, HB3⟩
        | false =>
          have hres := Aside0.mk (hfd.out.trans (by rw [if_neg (by simp), if_pos he]))
          clear he hfd hfi
          go_wp2_with (go_at_call 78; refine (HP _ (Kd.C_alloc HCo.out _)).out.mono ?_; rintro e w2 ⟨rfl, hb⟩; obtain ⟨hy0, hy1⟩ := box_cells hb; have HB2 := Aside0.mk (show Below wr.heap.size wr w2 from (below_alloc (Below.refl _ _) _).trans (hb.mono (by show wr.heap.size ≤ (wr.heap.push _).size; rw [Array.size_push]; omega))); clear hb)
          have H3 := Aside0.mk (Kd.R_below hR.out HB2.out)
          have HB3 := Aside0.mk (hW.out.trans (HB2.out.mono hbase))
          go_roundg (gk - 1)
          case measure => have := hK.out; omega
          case rel => exact ⟨i + 1, by go_num, ⟨by have := hK.out; omega⟩, ⟨by rw [hnext.out, hres.out]; exact H3.out⟩, HB3⟩
      · have he' : (x.f1.toList == ([] : List UInt8)) = false := beq_eq_false_iff_ne.2 he
        cases b with
        | true =>
          have hlp : p < out.length := hfi.out.2 rfl
          have hlp' : (p : Int) < (out.length : Int) := by omega
          have hres := Aside0.mk (hfd.out.trans (by rw [if_pos rfl, if_neg he]))
          obtain ⟨g, cap, u0, u1, hv, -, -, -⟩ := row_cell hR.out hlp
          injection hv with e1 e2 e3
          subst e1; subst e3
          clear he hfd hfi e2 hRo
          go_wp2_with (go_at_call 78; refine (HP _ (Kd.C_alloc HCo.out _)).out.mono ?_; rintro e w2 ⟨rfl, hb⟩; obtain ⟨hy0, hy1⟩ := box_cells hb; have HB2 := Aside0.mk (show Below wr.heap.size wr w2 from (below_alloc (Below.refl _ _) _).trans (hb.mono (by show wr.heap.size ≤ (wr.heap.push _).size; rw [Array.size_push]; omega))); clear hb; have HO2 := Aside0.mk (Kd.R_below hR.out HB2.out); obtain ⟨u0, u1, hq0, hq1, hfz⟩ := row_cell2 HO2.out hlp)
          have hput := row_put x HO2.out hlp
          have H3 := Aside0.mk hput.1
          have HB3 := Aside0.mk ((hW.out.trans (HB2.out.mono hbase)).trans hput.2)
          go_roundg (gk - 1)
          case measure => have := hK.out; omega
          case rel => exact ⟨i + 1, by go_num, ⟨by have := hK.out; omega⟩, ⟨by rw [hnext.out, hres.out]; exact H3.out⟩, HB3⟩
        | false =>
          have hres := Aside0.mk (hfd.out.trans (by rw [if_neg (by simp), if_neg he]))
          clear he hfd hfi
          go_wp2_with (first | (go_at_call 78; refine (HP _ (Kd.C_alloc HCo.out _)).out.mono ?_; rintro e w2 ⟨rfl, hb⟩; obtain ⟨hy0, hy1⟩ := box_cells hb; have HB2 := Aside0.mk (show Below wr.heap.size wr w2 from (below_alloc (Below.refl _ _) _).trans (hb.mono (by show wr.heap.size ≤ (wr.heap.push _).size; rw [Array.size_push]; omega))); clear hb) | (go_at_call 80; refine (Insert_calls _ w.heap.size w2.heap.size p (fun _ => True) _ out x hp0 (by omega) (by have := HB2.out.size; show _ ≤ (w2.heap.push _).size; rw [Array.size_push]; omega) (fun _ _ => trivial) (Kd.R_below (Kd.R_below hR.out HB2.out) (below_alloc (Below.refl _ _) _)) (alloc_at _ _) (fun e => by have := Kd.R_lt (Kd.R_below hR.out HB2.out) _ e; omega)).mono ?_; rintro e w3 ⟨v3, rfl, h3, hb3, -⟩; have H3 := Aside0.mk h3; have HB3 := Aside0.mk (show Below w.heap.size w w3 from ((hW.out.trans (HB2.out.mono hbase)).trans ((below_alloc (Below.refl _ _) _).mono (by have := HB2.out.size; omega))).trans hb3); clear h3 hb3))
          go_roundg (gk - 1)
          case measure => have := hK.out; omega
          case rel => exact ⟨i + 1, by go_num, ⟨by have := hK.out; omega⟩, ⟨by rw [hnext.out, hres.out]; exact H3.out⟩, HB3⟩
    · have HE := Aside0.mk (show changed l (cs.take i) = changed l cs by rw [List.take_of_length_le (by omega)])
      rw [HE.out] at hR
      go_wp2
      go_ret
      exact ⟨_, rfl, hR.out, hW.out⟩

end Go.Proofs.Ytmfkgbncnaingaa.Rows
end

section
/- Functions of the program as plain functions, and the walks that show it. Written by the session's own program pp.py. -/
namespace Go.Proofs.Ytmfkgbncnaingaa.QRows
open Go.RowKit Go.Proofs.YtmfkgbncnaingaaW.PrintWords Go.Proofs.YtmfkgbncnaingaaW.PrintLast Go.Proofs.YtmfkgbncnaingaaW.PrintMore
attribute [local go_sem] max2_int min2_int max_two min_two max_three min_three max_four min_four   -- for this text's walks alone
set_option linter.unusedVariables false
set_option linter.unusedSimpArgs false

/-! ### rows_key: function 66 -/
def rows_key.f (a0 : ByteArray) : Option (Bool) := if a0.toList = ([] : List UInt8) then (some false) else (some (decide ((a0.size : Int) ≤ 20)))
set_option maxHeartbeats 8000000 in
set_option maxRecDepth 100000 in
theorem rows_key.calls (a0 : ByteArray) (r : Bool) (w : World) (h : rows_key.f a0 = some r) :
    Calls Try.prog 66 #[.string a0] w fun e w' => e = .returned (.bool r) ∧ Drawn0 w w' := by
  have H : (if a0.toList = ([] : List UInt8) then (some false) else (some (decide ((a0.size : Int) ≤ 20)))) = some r := h
  clear h
  by_cases c2 : a0.toList = ([] : List UInt8)
  · rw [if_pos c2] at H
    have c2b0 : (a0.toList == ([] : List UInt8)) = true := beq_iff_eq.mpr c2
    have c2b1 : (a0.toList != ([] : List UInt8)) = false := bne_eq_false_iff_eq.mpr c2
    clear c2
    obtain rfl := Option.some.inj H
    go_enter Try.func66, Try.ntmps66
    go_wp2
    go_ret
    exact ⟨by first | rfl | (simp; done) | (simp [*]; done), by repeat (first | exact Drawn0.refl _ | apply Drawn0.step)⟩
  · rw [if_neg c2] at H
    have c2b0 : (a0.toList == ([] : List UInt8)) = false := beq_eq_false_iff_ne.mpr c2
    have c2b1 : (a0.toList != ([] : List UInt8)) = true := bne_iff_ne.mpr c2
    obtain rfl := Option.some.inj H
    go_enter Try.func66, Try.ntmps66
    go_wp2
    go_ret
    exact ⟨by first | rfl | (simp; done) | (simp [*]; done), by repeat (first | exact Drawn0.refl _ | apply Drawn0.step)⟩

end Go.Proofs.Ytmfkgbncnaingaa.QRows
end

section
/- The fault of changes. -/
namespace Go.Proofs.Ytmfkgbncnaingaa.Rows
open Go.RowKit Go.Lib Go.Proofs.Ytmfkgbncnaingaa.QRows Go.Proofs.YtmfkgbncnaingaaW.PrintWords Go.Proofs.YtmfkgbncnaingaaW.PrintLast Go.Proofs.YtmfkgbncnaingaaW.PrintMore

/-- A key that may be. -/
def keyOk (a : ByteArray) : Bool := if a.toList = ([] : List UInt8) then false else decide ((a.size : Int) ≤ 20)
theorem key_is (a : ByteArray) : rows_key.f a = some (keyOk a) := by
  unfold rows_key.f keyOk; split <;> rfl
/-- A change that may not be. -/
def odd (x : S67) : Bool := !keyOk x.f0 || decide ((x.f1.size : Int) > 20)
theorem odd_calls (x : S67) (w : World) : Calls Try.prog 75 #[.agg #[.string x.f0, .string x.f1]] w fun e w' => e = .returned (.bool (odd x)) ∧ Below w.heap.size w w' := by
  have HK := fun w => Aside0.mk (rows_key.calls x.f0 (keyOk x.f0) w (key_is x.f0))
  unfold odd
  cases hk : keyOk x.f0 with
  | true =>
    rw [hk] at HK
    clear hk
    go_enter Try.func75, Try.ntmps75
    go_wp2_with (go_at_call 66; refine (HK _).out.mono ?_; rintro e w' ⟨rfl, hd⟩; have hB : Below (w.alloc (.cells #[.string x.f0, .string x.f1] 67)).heap.size (w.alloc (.cells #[.string x.f0, .string x.f1] 67)) w' := (by obtain ⟨m, rfl⟩ := hd.out; exact pw_below_drewN (Below.refl _ _) m); obtain ⟨hy0, hy1⟩ := box_cells hB; have HB := Aside0.mk (show Below w.heap.size w w' from (below_alloc (Below.refl _ _) _).trans (hB.mono (by show w.heap.size ≤ (w.heap.push _).size; rw [Array.size_push]; omega))); clear hd hB)
    go_ret
    exact ⟨rfl, HB.out⟩
  | false =>
    rw [hk] at HK
    clear hk
    go_enter Try.func75, Try.ntmps75
    go_wp2_with (go_at_call 66; refine (HK _).out.mono ?_; rintro e w' ⟨rfl, hd⟩; have hB : Below (w.alloc (.cells #[.string x.f0, .string x.f1] 67)).heap.size (w.alloc (.cells #[.string x.f0, .string x.f1] 67)) w' := (by obtain ⟨m, rfl⟩ := hd.out; exact pw_below_drewN (Below.refl _ _) m); obtain ⟨hy0, hy1⟩ := box_cells hB; have HB := Aside0.mk (show Below w.heap.size w w' from (below_alloc (Below.refl _ _) _).trans (hB.mono (by show w.heap.size ≤ (w.heap.push _).size; rw [Array.size_push]; omega))); clear hd hB)
    go_ret
    exact ⟨rfl, HB.out⟩

set_option maxRecDepth 100000 in
set_option maxHeartbeats 4000000 in
theorem Index_calls (A0 : Option Addr) (c0 : Nat) (l : List S67) (w : World) (hr : k67.C w A0 l.length l) (hl : l.length ≤ 100000) :
    Calls Try.prog 90 #[.slice A0 l.length c0, .func (.func 75) #[] #[]] w fun e w' => ∃ r : Int, e = .returned (.int .i64 r) ∧ Below w.heap.size w w' ∧ decide (0 ≤ r) = l.any odd := by
  have HR := Aside0.mk hr
  clear hr
  go_enter Try.func90, Try.ntmps90
  go_wp2
  go_loopg [5, 8] (l.length) (fun kq v5 v8 wr => ∃ (i : Nat), v8 = .int .i64 i ∧ Aside0 (kq + i = l.length) ∧ Aside0 ((l.take i).any odd = false) ∧ Aside0 (Below w.heap.size w wr))
  case atStart => exact ⟨0, rfl, ⟨by omega⟩, ⟨rfl⟩, ⟨Below.refl _ _⟩⟩
  case round =>
    obtain ⟨i, rfl, hK, hM, hW⟩ := hrel
    by_cases hlt : i < l.length
    · have hb1 : (i : Int) < (l.length : Int) := by omega
      have hwi : IntKind.i64.wrap ((i : Int) + 1) = (i : Int) + 1 := by rw [IntKind.wrap_i64]; omega
      obtain ⟨ad, rfl, hx0, hx1⟩ := at_T67 (Kd.C_below HR.out hW.out) (i : Int) (by omega) hb1
      have hel : rd_T67 l (i : Int) = l[i] := by simp [rd_T67, List.getD_eq_getElem?_getD, hlt]
      rw [hel] at hx0 hx1
      rw [Int.toNat_natCast] at hx0 hx1
      have hsplit : l.take (i + 1) = l.take i ++ [l[i]] := List.take_succ_eq_append_getElem hlt
      have hall : l.any odd = ((l.take i).any odd || (odd l[i] || (l.drop (i + 1)).any odd)) := by
        have h1 : l = l.take i ++ l[i] :: l.drop (i + 1) := by rw [← List.drop_eq_getElem_cons hlt, List.take_append_drop]
        exact (congrArg (List.any · odd) h1).trans (by rw [List.any_append, List.any_cons])
      have HOdd := fun w => Aside0.mk (odd_calls l[i] w)
      cases hm : odd l[i] with
      | false =>
        have HM := Aside0.mk (show (l.take (i + 1)).any odd = false by rw [hsplit, List.any_append, hM.out, List.any_cons, hm]; rfl)
        rw [hm] at HOdd
        generalize l[i] = x at *
        clear hall hsplit hm hel
        go_wp2_with (go_at_call 75; refine (HOdd _).out.mono ?_; rintro e w' ⟨rfl, hb⟩; have HB := Aside0.mk hb; clear hb)
        go_roundg (gk - 1)
        case measure => have := hK.out; omega
        case rel => exact ⟨i + 1, by go_num, ⟨by have := hK.out; omega⟩, HM, ⟨hW.out.trans (HB.out.mono hW.out.size)⟩⟩
      | true =>
        rw [hm] at HOdd hall
        have HA := Aside0.mk (show l.any odd = true by rw [hall]; simp)
        generalize l[i] = x at *
        clear hall hsplit hm hel
        go_wp2_with (go_at_call 75; refine (HOdd _).out.mono ?_; rintro e w' ⟨rfl, hb⟩; have HB := Aside0.mk hb; clear hb)
        go_ret
        exact ⟨_, rfl, hW.out.trans (HB.out.mono hW.out.size), by rw [HA.out, decide_eq_true (by omega)]⟩
    · have HA := Aside0.mk (show l.any odd = false by have := hM.out; rwa [List.take_of_length_le (by omega)] at this)
      go_wp2
      go_ret
      exact ⟨_, rfl, hW.out, by rw [HA.out]; rfl⟩

theorem Contains_calls (A0 : Option Addr) (c0 : Nat) (l : List S67) (w : World) (hr : k67.C w A0 l.length l) (hl : l.length ≤ 100000) :
    Calls Try.prog 76 #[.slice A0 l.length c0, .func (.func 75) #[] #[]] w fun e w' => e = .returned (.bool (l.any odd)) ∧ Below w.heap.size w w' := by
  have HI := fun w h => Aside0.mk (Index_calls A0 c0 l w h hl)
  have HR := Aside0.mk hr
  clear hr
  go_enter Try.func76, Try.ntmps76
  go_wp2_with (go_at_call 90; refine (HI _ HR.out).out.mono ?_; rintro e w' ⟨r, rfl, hb, hd⟩; have HB := Aside0.mk hb; clear hb)
  go_ret
  exact ⟨by rw [← hd]; rfl, HB.out⟩

/-- The fault of changes. -/
def faultOf (l cs : List S67) : Int := if 60 < cs.length then 1 else if cs.any odd = true then 1 else if 40 < (changed l cs).length then 10 else 0
set_option maxRecDepth 100000 in
set_option maxHeartbeats 4000000 in
theorem Fault_calls (A0 A1 : Option Addr) (c0 c1 : Nat) (l cs : List S67) (w : World) (h0 : k67.C w A0 l.length l) (h1 : k67.C w A1 cs.length cs) (hl0 : l.length ≤ 400) (hl1 : cs.length ≤ 100000) :
    Calls Try.prog 63 #[.slice A0 l.length c0, .slice A1 cs.length c1] w fun e w' => e = .returned (.int .i64 (faultOf l cs)) ∧ Below w.heap.size w w' := by
  have HL := Aside0.mk h0
  have HC := Aside0.mk h1
  clear h0 h1
  unfold faultOf
  by_cases hb : 60 < cs.length
  · rw [if_pos hb]
    have hb1 : (60 : Int) < (cs.length : Int) := by omega
    have hb2 : decide ((60 : Int) < (cs.length : Int)) = true := decide_eq_true hb1
    go_enter Try.func63, Try.ntmps63
    go_wp2
    go_ret
    exact ⟨rfl, Below.refl _ _⟩
  · rw [if_neg hb]
    have hb1 : ¬ (60 : Int) < (cs.length : Int) := by omega
    have hb2 : decide ((60 : Int) < (cs.length : Int)) = false := decide_eq_false hb1
    have HF := fun w h => Aside0.mk (Contains_calls A1 c1 cs w h hl1)
    cases ha : cs.any odd with
    | true =>
      rw [ha] at HF
      rw [if_pos rfl]
      go_enter Try.func63, Try.ntmps63
      go_wp2_with (go_at_call 76; refine (HF _ HC.out).out.mono ?_; rintro e w1 ⟨rfl, hb⟩; have HB := Aside0.mk hb; clear hb)
      go_ret
      exact ⟨rfl, HB.out⟩
    | false =>
      rw [ha] at HF
      rw [if_neg (by simp)]
      have HG := fun w h0 h1 => Aside0.mk (Changed_calls A0 A1 c0 c1 l cs w h0 h1 hl0 (by omega))
      by_cases hn : 40 < (changed l cs).length
      · rw [if_pos hn]
        have hn1 : (40 : Int) < ((changed l cs).length : Int) := by omega
        go_enter Try.func63, Try.ntmps63
        go_wp2_with (first | (go_at_call 76; refine (HF _ HC.out).out.mono ?_; rintro e w1 ⟨rfl, hb⟩; have HB := Aside0.mk hb; clear hb) | (go_at_call 64; refine (HG _ (Kd.C_below HL.out HB.out) (Kd.C_below HC.out HB.out)).out.mono ?_; rintro e w2 ⟨v, rfl, hv, hb⟩; obtain ⟨A, c, rfl, -, -⟩ := Kd.R_reads hv; have HB2 := Aside0.mk hb; clear hb hv))
        go_ret
        exact ⟨rfl, HB.out.trans (HB2.out.mono HB.out.size)⟩
      · rw [if_neg hn]
        have hn1 : ¬ (40 : Int) < ((changed l cs).length : Int) := by omega
        go_enter Try.func63, Try.ntmps63
        go_wp2_with (first | (go_at_call 76; refine (HF _ HC.out).out.mono ?_; rintro e w1 ⟨rfl, hb⟩; have HB := Aside0.mk hb; clear hb) | (go_at_call 64; refine (HG _ (Kd.C_below HL.out HB.out) (Kd.C_below HC.out HB.out)).out.mono ?_; rintro e w2 ⟨v, rfl, hv, hb⟩; obtain ⟨A, c, rfl, -, -⟩ := Kd.R_reads hv; have HB2 := Aside0.mk hb; clear hb hv))
        go_ret
        exact ⟨rfl, HB.out.trans (HB2.out.mono HB.out.size)⟩

end Go.Proofs.Ytmfkgbncnaingaa.Rows
end

section
/- What rows.place, rows.Changed and rows.Fault come to. -/
namespace Go.Proofs.Ytmfkgbncnaingaa.QRows
open Go.RowKit Go.Proofs.Ytmfkgbncnaingaa.Rows Go.Proofs.YtmfkgbncnaingaaW.PrintWords Go.Proofs.YtmfkgbncnaingaaW.PrintLast Go.Proofs.YtmfkgbncnaingaaW.PrintMore

def rows_place.f (l0 : List S67) (a1 : ByteArray) : Option (Int × Bool) := if l0.length ≤ 100000 then some (((found l0 a1).1 : Nat), (found l0 a1).2) else none
theorem rows_place.calls (A0 : Option Addr) (c0 : Nat) (l0 : List S67) (a1 : ByteArray) (r1 : Int) (r2 : Bool) (w : World) (hr0 : Kd.C k67 w A0 l0.length l0) (_hc0 : l0.length ≤ c0) (h : rows_place.f l0 a1 = some (r1, r2)) :
    Calls Try.prog 78 #[.slice A0 l0.length c0, .string a1] w fun e w' => e = .returned (.tuple #[.int .i64 r1, .bool r2]) ∧ Below w.heap.size w w' := by
  unfold rows_place.f at h
  by_cases hl : l0.length ≤ 100000
  · rw [if_pos hl] at h
    simp only [Option.some.injEq, Prod.mk.injEq] at h
    obtain ⟨rfl, rfl⟩ := h
    exact place_calls A0 c0 l0 a1 w hr0 hl
  · rw [if_neg hl] at h; cases h

def rows_Changed.f (l0 l1 : List S67) : Option (List S67) := if l0.length ≤ 400 ∧ l1.length ≤ 400 then some (changed l0 l1) else none
theorem rows_Changed.calls (A0 : Option Addr) (c0 : Nat) (l0 : List S67) (A1 : Option Addr) (c1 : Nat) (l1 : List S67) (r : List S67) (w : World) (hr0 : Kd.C k67 w A0 l0.length l0) (_hc0 : l0.length ≤ c0) (hr1 : Kd.C k67 w A1 l1.length l1) (_hc1 : l1.length ≤ c1) (h : rows_Changed.f l0 l1 = some r) :
    Calls Try.prog 64 #[.slice A0 l0.length c0, .slice A1 l1.length c1] w fun e w' => ∃ v0_ : Value, e = .returned (v0_) ∧ Kd.R k67 67 w' w.heap.size (fun _ => True) v0_ r ∧ Below w.heap.size w w' := by
  unfold rows_Changed.f at h
  by_cases hl : l0.length ≤ 400 ∧ l1.length ≤ 400
  · rw [if_pos hl] at h
    obtain rfl := Option.some.inj h
    exact Changed_calls A0 A1 c0 c1 l0 l1 w hr0 hr1 hl.1 hl.2
  · rw [if_neg hl] at h; cases h

def rows_Fault.f (l0 l1 : List S67) : Option Int := if l0.length ≤ 400 ∧ l1.length ≤ 100000 then some (faultOf l0 l1) else none
theorem rows_Fault.calls (A0 : Option Addr) (c0 : Nat) (l0 : List S67) (A1 : Option Addr) (c1 : Nat) (l1 : List S67) (r : Int) (w : World) (hr0 : Kd.C k67 w A0 l0.length l0) (_hc0 : l0.length ≤ c0) (hr1 : Kd.C k67 w A1 l1.length l1) (_hc1 : l1.length ≤ c1) (h : rows_Fault.f l0 l1 = some r) :
    Calls Try.prog 63 #[.slice A0 l0.length c0, .slice A1 l1.length c1] w fun e w' => e = .returned (.int .i64 r) ∧ Below w.heap.size w w' := by
  unfold rows_Fault.f at h
  by_cases hl : l0.length ≤ 400 ∧ l1.length ≤ 100000
  · rw [if_pos hl] at h
    obtain rfl := Option.some.inj h
    exact Fault_calls A0 A1 c0 c1 l0 l1 w hr0 hr1 hl.1 hl.2
  · rw [if_neg hl] at h; cases h

end Go.Proofs.Ytmfkgbncnaingaa.QRows
end

section
/- Plain lemmas on tables in the order of their keys. -/
namespace Go.Proofs.Ytmfkgbncnaingaa.Rows
open Go.RowKit Go.Lib Go.Proofs.Ytmfkgbncnaingaa.QRows Go.Proofs.YtmfkgbncnaingaaW.PrintWords Go.Proofs.YtmfkgbncnaingaaW.PrintLast Go.Proofs.YtmfkgbncnaingaaW.PrintMore

theorem less_irrefl (a : List UInt8) : Op.bytesLess a a = false := by
  induction a with
  | nil => rfl
  | cons x l ih => simp [Op.bytesLess, ih]
theorem less_trans (a b c : List UInt8) (h1 : Op.bytesLess a b = true) (h2 : Op.bytesLess b c = true) : Op.bytesLess a c = true := by
  induction a generalizing b c with
  | nil =>
    cases c with
    | nil => cases b <;> simp [Op.bytesLess] at h2
    | cons z n => rfl
  | cons x l ih =>
    cases b with
    | nil => simp [Op.bytesLess] at h1
    | cons y m =>
      cases c with
      | nil => simp [Op.bytesLess] at h2
      | cons z n =>
        simp only [Op.bytesLess, Bool.or_eq_true, Bool.and_eq_true, decide_eq_true_eq, beq_iff_eq] at h1 h2 ⊢
        rcases h1 with h1 | ⟨rfl, h1⟩
        · rcases h2 with h2 | ⟨rfl, h2⟩
          · left; exact UInt8.lt_trans h1 h2
          · left; exact h1
        · rcases h2 with h2 | ⟨rfl, h2⟩
          · left; exact h2
          · right; exact ⟨rfl, ih m n h1 h2⟩
theorem less_total (a b : List UInt8) : Op.bytesLess a b = true ∨ a = b ∨ Op.bytesLess b a = true := by
  induction a generalizing b with
  | nil => cases b with
    | nil => right; left; rfl
    | cons y m => left; rfl
  | cons x l ih =>
    cases b with
    | nil => right; right; rfl
    | cons y m =>
      simp only [Op.bytesLess, Bool.or_eq_true, Bool.and_eq_true, decide_eq_true_eq, beq_iff_eq]
      rcases UInt8.lt_or_lt_of_ne (a := x) (b := y) |> fun h => (Classical.em (x = y)) with h | h
      · subst h
        rcases ih m with h | h | h
        · left; right; exact ⟨rfl, h⟩
        · right; left; rw [h]
        · right; right; right; exact ⟨rfl, h⟩
      · rcases UInt8.lt_or_lt_of_ne h with h | h
        · left; left; exact h
        · right; right; left; exact h
theorem cmp_neg (a b : ByteArray) : cmpOf a b < 0 ↔ Op.bytesLess a.toList b.toList = true := by
  unfold cmpOf
  by_cases h : Op.bytesLess a.toList b.toList = true
  · rw [if_pos h]; exact ⟨fun _ => h, fun _ => by decide⟩
  · rw [if_neg h]
    refine ⟨fun h1 => ?_, fun h1 => absurd h1 h⟩
    split at h1 <;> exact absurd h1 (by decide)
theorem cmp_zero (a b : ByteArray) : cmpOf a b = 0 ↔ a.toList = b.toList := by
  unfold cmpOf
  by_cases h : Op.bytesLess a.toList b.toList = true
  · rw [if_pos h]
    refine ⟨fun h1 => absurd h1 (by decide), fun h1 => ?_⟩
    rw [h1, less_irrefl] at h; cases h
  · rw [if_neg h]
    by_cases h2 : a.toList = b.toList
    · rw [if_pos h2]; exact ⟨fun _ => h2, fun _ => rfl⟩
    · rw [if_neg h2]; exact ⟨fun h1 => absurd h1 (by decide), fun h1 => absurd h1 h2⟩

/-- The keys stand in their order. -/
def Sorted (xs : List S67) : Prop := xs.Pairwise fun a b => Op.bytesLess a.f0.toList b.f0.toList = true
theorem rd_T67_get (l : List S67) (i : Nat) (h : i < l.length) : rd_T67 l (i : Int) = l[i] := by simp [rd_T67, List.getD_eq_getElem?_getD, h]
theorem Sorted.lt {xs : List S67} (h : Sorted xs) {i j : Nat} (hij : i < j) (hj : j < xs.length) : Op.bytesLess (xs[i]'(by omega)).f0.toList xs[j].f0.toList = true :=
  List.pairwise_iff_getElem.1 h i j (by omega) hj hij
/-- Where the search ends: behind all smaller keys, ahead of all others. -/
theorem bs_is (xs : List S67) (t : ByteArray) (hs : Sorted xs) : ∀ (d i j : Nat), j - i ≤ d → i ≤ j → j ≤ xs.length →
    (∀ h (hh : h < xs.length), h < i → Op.bytesLess xs[h].f0.toList t.toList = true) → (∀ h (hh : h < xs.length), j ≤ h → ¬ Op.bytesLess xs[h].f0.toList t.toList = true) →
    (∀ h (hh : h < xs.length), h < bs xs t i j → Op.bytesLess xs[h].f0.toList t.toList = true) ∧ (∀ h (hh : h < xs.length), bs xs t i j ≤ h → ¬ Op.bytesLess xs[h].f0.toList t.toList = true) := by
  intro d
  induction d with
  | zero =>
    intro i j h1 h2 h3 h4 h5
    rw [bs, if_neg (by omega)]
    exact ⟨h4, fun h hh hk => h5 h hh (by omega)⟩
  | succ d ih =>
    intro i j h1 h2 h3 h4 h5
    rw [bs]
    by_cases h : i < j
    · rw [if_pos h]
      have hm : (i + j) / 2 < xs.length := by omega
      rw [rd_T67_get xs _ hm]
      by_cases hc : cmpOf xs[(i + j) / 2].f0 t < 0
      · rw [if_pos hc]
        have hc' := (cmp_neg _ _).1 hc
        refine ih _ _ (by omega) (by omega) h3 (fun k hk hk2 => ?_) h5
        by_cases he : k = (i + j) / 2
        · subst he; exact hc'
        · exact less_trans _ _ _ (hs.lt (show k < (i + j) / 2 by omega) hm) hc'
      · rw [if_neg hc]
        have hc' : ¬ Op.bytesLess xs[(i + j) / 2].f0.toList t.toList = true := fun h => hc ((cmp_neg _ _).2 h)
        refine ih _ _ (by omega) (by omega) (by omega) h4 (fun k hk hk2 hl => ?_)
        by_cases he : k = (i + j) / 2
        · subst he; exact hc' hl
        · exact hc' (less_trans _ _ _ (hs.lt (show (i + j) / 2 < k by omega) hk) hl)
    · rw [if_neg h]
      exact ⟨h4, fun k hk hk2 => h5 k hk (by omega)⟩
/-- What is found in a table. -/
theorem found_is (xs : List S67) (t : ByteArray) (hs : Sorted xs) :
    (found xs t).1 ≤ xs.length ∧ (∀ h (hh : h < xs.length), h < (found xs t).1 → Op.bytesLess xs[h].f0.toList t.toList = true) ∧ (∀ h (hh : h < xs.length), (found xs t).1 ≤ h → ¬ Op.bytesLess xs[h].f0.toList t.toList = true) ∧
    ((found xs t).2 = true ↔ ∃ hh : (found xs t).1 < xs.length, (xs[(found xs t).1]).f0.toList = t.toList) := by
  have h1 := bs_is xs t hs xs.length 0 xs.length (by omega) (by omega) (Nat.le_refl _) (fun h hh h2 => absurd h2 (by omega)) (fun h hh h2 => absurd hh (by omega))
  have h2 := bs_le xs t xs.length 0 xs.length (by omega) (by omega)
  refine ⟨h2.2, h1.1, h1.2, ?_⟩
  unfold found
  dsimp only
  rw [Bool.and_eq_true, decide_eq_true_eq, beq_iff_eq]
  constructor
  · rintro ⟨ha, hb⟩
    rw [rd_T67_get xs _ ha] at hb
    exact ⟨ha, (cmp_zero _ _).1 hb⟩
  · rintro ⟨ha, hb⟩
    refine ⟨ha, ?_⟩
    rw [rd_T67_get xs _ ha]
    exact (cmp_zero _ _).2 hb

end Go.Proofs.Ytmfkgbncnaingaa.Rows
end

section
/- What a change of a table does. -/
namespace Go.Proofs.Ytmfkgbncnaingaa.Rows
open Go.RowKit Go.Lib Go.Proofs.Ytmfkgbncnaingaa.QRows Go.Proofs.YtmfkgbncnaingaaW.PrintWords Go.Proofs.YtmfkgbncnaingaaW.PrintLast Go.Proofs.YtmfkgbncnaingaaW.PrintMore

/-- A table parts at a key: what stands ahead, what has the key, what stands behind. -/
theorem change_split (xs : List S67) (c : S67) (hs : Sorted xs) : ∃ A M B, xs = A ++ (M ++ B) ∧ (∀ a ∈ A, Op.bytesLess a.f0.toList c.f0.toList = true) ∧ (∀ m ∈ M, m.f0.toList = c.f0.toList) ∧ (∀ b ∈ B, Op.bytesLess c.f0.toList b.f0.toList = true) ∧
    change xs c = A ++ ((if c.f1.toList = ([] : List UInt8) then [] else [c]) ++ B) := by
  obtain ⟨h1, h2, h3, h4⟩ := found_is xs c.f0 hs
  have hA : ∀ a ∈ xs.take (found xs c.f0).1, Op.bytesLess a.f0.toList c.f0.toList = true := fun a ha => by
    obtain ⟨i, hi, rfl⟩ := List.getElem_of_mem ha
    rw [List.length_take] at hi
    rw [List.getElem_take]
    exact h2 i (by omega) (by omega)
  cases hb : (found xs c.f0).2 with
  | true =>
    obtain ⟨hh, he⟩ := h4.1 hb
    refine ⟨xs.take (found xs c.f0).1, [xs[(found xs c.f0).1]], xs.drop ((found xs c.f0).1 + 1), ?_, hA, ?_, ?_, ?_⟩
    · rw [List.singleton_append, ← List.drop_eq_getElem_cons hh, List.take_append_drop]
    · intro m hm
      rw [List.mem_singleton.1 hm]; exact he
    · intro b hb
      obtain ⟨i, hi, rfl⟩ := List.getElem_of_mem hb
      rw [List.length_drop] at hi
      rw [List.getElem_drop, ← he]
      exact hs.lt (by omega) (by omega)
    · unfold change
      rw [if_pos hb]
      split
      · rfl
      · rw [List.set_eq_take_append_cons_drop, if_pos hh]; rfl
  | false =>
    refine ⟨xs.take (found xs c.f0).1, [], xs.drop (found xs c.f0).1, ?_, hA, ?_, ?_, ?_⟩
    · rw [List.nil_append, List.take_append_drop]
    · intro m hm; cases hm
    · intro b hbm
      obtain ⟨i, hi, rfl⟩ := List.getElem_of_mem hbm
      rw [List.length_drop] at hi
      rw [List.getElem_drop]
      have hn := h3 ((found xs c.f0).1 + i) (by omega) (by omega)
      have hf : (found xs c.f0).1 < xs.length := by omega
      have hne : ¬ xs[(found xs c.f0).1].f0.toList = c.f0.toList := fun e => by
        rw [h4.2 ⟨hf, e⟩] at hb; cases hb
      have hlt : Op.bytesLess c.f0.toList xs[(found xs c.f0).1].f0.toList = true := by
        rcases less_total xs[(found xs c.f0).1].f0.toList c.f0.toList with h | h | h
        · exact absurd h (h3 _ hf (Nat.le_refl _))
        · exact absurd h hne
        · exact h
      by_cases hi0 : i = 0
      · subst hi0; exact hlt
      · exact less_trans _ _ _ hlt (hs.lt (by omega) (by omega))
    · unfold change
      rw [hb, if_neg (by simp)]
      split
      · rw [List.nil_append, List.take_append_drop]
      · rfl

theorem change_sorted (xs : List S67) (c : S67) (hs : Sorted xs) : Sorted (change xs c) := by
  obtain ⟨A, M, B, h1, h2, h3, h4, h5⟩ := change_split xs c hs
  rw [h5]
  rw [h1] at hs
  unfold Sorted at hs ⊢
  rw [List.pairwise_append] at hs ⊢
  obtain ⟨p1, p2, p3⟩ := hs
  rw [List.pairwise_append] at p2
  refine ⟨p1, ?_, ?_⟩
  · split
    · exact p2.2.1
    · rw [List.singleton_append, List.pairwise_cons]
      exact ⟨h4, p2.2.1⟩
  · intro a ha b hb
    rcases List.mem_append.1 hb with hb | hb
    · split at hb
      · cases hb
      · rw [List.mem_singleton.1 hb]; exact h2 a ha
    · exact p3 a ha b (List.mem_append_right _ hb)
theorem change_mem (xs : List S67) (c x : S67) (hs : Sorted xs) : x ∈ change xs c ↔ (x ∈ xs ∧ ¬ x.f0.toList = c.f0.toList) ∨ (x = c ∧ ¬ c.f1.toList = ([] : List UInt8)) := by
  obtain ⟨A, M, B, h1, h2, h3, h4, h5⟩ := change_split xs c hs
  have hne : ∀ {a b : List UInt8}, Op.bytesLess a b = true → ¬ a = b := fun h e => by rw [e, less_irrefl] at h; cases h
  rw [h5, h1]
  simp only [List.mem_append]
  constructor
  · rintro (h | h | h)
    · exact .inl ⟨.inl h, hne (h2 x h)⟩
    · split at h
      · cases h
      · rename_i hc
        exact .inr ⟨List.mem_singleton.1 h, hc⟩
    · exact .inl ⟨.inr (.inr h), fun e => hne (h4 x h) e.symm⟩
  · rintro (⟨h | h | h, hx⟩ | ⟨rfl, hx⟩)
    · exact .inl h
    · exact absurd (h3 x h) hx
    · exact .inr (.inr h)
    · refine .inr (.inl ?_)
      rw [if_neg hx]; exact List.mem_singleton.2 rfl
theorem changed_sorted (l cs : List S67) (hs : Sorted l) : Sorted (changed l cs) := by
  unfold changed
  induction cs generalizing l with
  | nil => exact hs
  | cons c t ih => exact ih _ (change_sorted l c hs)
theorem changed_append (l a b : List S67) : changed l (a ++ b) = changed (changed l a) b := by unfold changed; exact List.foldl_append

/-- Sorted tables with the same rows are the same. -/
theorem sorted_ext : ∀ (a b : List S67), Sorted a → Sorted b → (∀ x, x ∈ a ↔ x ∈ b) → a = b := by
  have hne : ∀ {a : List UInt8}, ¬ Op.bytesLess a a = true := fun h => by rw [less_irrefl] at h; cases h
  intro a
  induction a with
  | nil =>
    intro b _ _ h
    cases b with
    | nil => rfl
    | cons y m => exact absurd ((h y).2 List.mem_cons_self) (by simp)
  | cons x l ih =>
    intro b ha hb h
    cases b with
    | nil => exact absurd ((h x).1 List.mem_cons_self) (by simp)
    | cons y m =>
      have ha' := List.pairwise_cons.1 ha
      have hb' := List.pairwise_cons.1 hb
      have hxy : x = y := by
        rcases List.mem_cons.1 ((h x).1 List.mem_cons_self) with e | e
        · exact e
        · rcases List.mem_cons.1 ((h y).2 List.mem_cons_self) with e2 | e2
          · exact e2.symm
          · exact absurd (less_trans _ _ _ (hb'.1 x e) (ha'.1 y e2)) hne
      subst hxy
      congr 1
      refine ih m ha'.2 hb'.2 fun z => ⟨fun hz => ?_, fun hz => ?_⟩
      · rcases List.mem_cons.1 ((h z).1 (List.mem_cons_of_mem _ hz)) with e | e
        · subst e; exact absurd (ha'.1 z hz) hne
        · exact e
      · rcases List.mem_cons.1 ((h z).2 (List.mem_cons_of_mem _ hz)) with e | e
        · subst e; exact absurd (hb'.1 z hz) hne
        · exact e

end Go.Proofs.Ytmfkgbncnaingaa.Rows
end

section
/- The last change of a key is what stands in a table. -/
namespace Go.Proofs.Ytmfkgbncnaingaa.Rows
open Go.RowKit Go.Lib Go.Proofs.Ytmfkgbncnaingaa.QRows Go.Proofs.YtmfkgbncnaingaaW.PrintWords Go.Proofs.YtmfkgbncnaingaaW.PrintLast Go.Proofs.YtmfkgbncnaingaaW.PrintMore

/-- The last change of a key. -/
def lastOf (cs : List S67) (k : List UInt8) : Option S67 := cs.foldl (fun r c => if c.f0.toList = k then some c else r) none
theorem lastOf_snoc (cs : List S67) (c : S67) (k : List UInt8) : lastOf (cs ++ [c]) k = if c.f0.toList = k then some c else lastOf cs k := by
  unfold lastOf; rw [List.foldl_append]; rfl
theorem changed_snoc (l cs : List S67) (c : S67) : changed l (cs ++ [c]) = change (changed l cs) c := by unfold changed; rw [List.foldl_append]; rfl
/-- What stands in a changed table. -/
def Stands (l cs : List S67) (x : S67) : Prop := match lastOf cs x.f0.toList with
  | none => x ∈ l
  | some c => x = c ∧ ¬ c.f1.toList = ([] : List UInt8)
theorem snoc_cases {P : List S67 → Prop} (h0 : P []) (h1 : ∀ l c, P l → P (l ++ [c])) : ∀ l, P l := by
  have h : ∀ l : List S67, P l.reverse := by
    intro l
    induction l with
    | nil => exact h0
    | cons c l ih => rw [List.reverse_cons]; exact h1 _ _ ih
  intro l
  have := h l.reverse
  rwa [List.reverse_reverse] at this
theorem changed_mem (l : List S67) (hs : Sorted l) (x : S67) (cs : List S67) : x ∈ changed l cs ↔ Stands l cs x := by
  refine snoc_cases (P := fun cs => x ∈ changed l cs ↔ Stands l cs x) ?_ ?_ cs
  · exact Iff.rfl
  · intro a c ih
    rw [changed_snoc, change_mem _ _ _ (changed_sorted l a hs), ih]
    unfold Stands
    rw [lastOf_snoc]
    by_cases h : c.f0.toList = x.f0.toList
    · rw [if_pos h]
      dsimp only
      constructor
      · rintro (⟨_, h2⟩ | h2)
        · exact absurd h.symm h2
        · exact h2
      · exact fun h2 => .inr h2
    · rw [if_neg h]
      constructor
      · rintro (⟨h1, _⟩ | ⟨h2, _⟩)
        · exact h1
        · exact absurd (by rw [h2]) h
      · exact fun h1 => .inl ⟨h1, fun e => h e.symm⟩
/-- Changes with the same last one of each key make the same table. -/
theorem changed_same (l cs ds : List S67) (hs : Sorted l) (h : ∀ k, lastOf cs k = lastOf ds k) : changed l cs = changed l ds :=
  sorted_ext _ _ (changed_sorted l cs hs) (changed_sorted l ds hs) fun x => by
    rw [changed_mem l hs, changed_mem l hs]; unfold Stands; rw [h]
/-- Made again they change nothing. -/
theorem changed_again (cs : List S67) : changed (changed [] cs) cs = changed [] cs := by
  have h0 : Sorted [] := List.Pairwise.nil
  refine sorted_ext _ _ (changed_sorted _ _ (changed_sorted _ _ h0)) (changed_sorted _ _ h0) fun x => ?_
  rw [changed_mem _ (changed_sorted _ _ h0)]
  unfold Stands
  rw [changed_mem _ h0]
  unfold Stands
  cases lastOf cs x.f0.toList <;> rfl

end Go.Proofs.Ytmfkgbncnaingaa.Rows
end

section
/- Functions of the program as plain functions, and the walks that show it. Written by the session's own program pp.py. -/
namespace Go.Proofs.Ytmfkgbncnaingaa.QRows
open Go.RowKit Go.Proofs.YtmfkgbncnaingaaW.PrintWords Go.Proofs.YtmfkgbncnaingaaW.PrintLast Go.Proofs.YtmfkgbncnaingaaW.PrintMore
attribute [local go_sem] max2_int min2_int max_two min_two max_three min_three max_four min_four   -- for this text's walks alone
set_option linter.unusedVariables false
set_option linter.unusedSimpArgs false

/-! ### rows_Check: function 45 -/
mutual
def rows_Check.l0 : Nat → List (S67) → List (S67) → Int → Int → Option (Int)
  | 0, _, _, _, _ => none
  | k + 1, x0, x8, x9, x10 => if x10 < x9 then (if 0 ≤ x10 then (if x10 < (x8.length : Int) then ((rows_key.f ((rd_T67 x8 x10).f0)).bind fun t103 => (if t103 = true then (rows_Check.j1 k x0 x10 x8 x9 x10 (decide ((((rd_T67 x8 x10).f1).size : Int) > 20)) ((rd_T67 x8 x10).f0) ((rd_T67 x8 x10).f1)) else (rows_Check.j1 k x0 x10 x8 x9 x10 true ((rd_T67 x8 x10).f0) ((rd_T67 x8 x10).f1)))) else (none)) else (none)) else (some 0)
def rows_Check.j1 : Nat → List (S67) → Int → List (S67) → Int → Int → Bool → ByteArray → ByteArray → Option (Int)
  | 0, _, _, _, _, _, _, _, _ => none
  | k + 1, x0, x3, x8, x9, x10, x15, x103000, x103001 => if x15 = true then (some 1) else (if x103001.toList = ([] : List UInt8) then (some 4) else (if x3 > 0 then (if 0 ≤ (wrap64 (x3 - 1)) then (if (wrap64 (x3 - 1)) < (x0.length : Int) then (if ((Op.bytesLess (((rd_T67 x0 (wrap64 (x3 - 1))).f0).toList) x103000.toList) = true) then (rows_Check.l0 k x0 x8 x9 (wrap64 (x10 + 1))) else (some 7)) else (none)) else (none)) else (rows_Check.l0 k x0 x8 x9 (wrap64 (x10 + 1)))))
end
def rows_Check.f (k : Nat) (l0 : List (S67)) : Option (Int) := if (l0.length : Int) > 40 then (some 1) else (rows_Check.l0 k l0 l0 (l0.length : Int) 0)
theorem rows_Check.mono_l : ∀ k, (∀ y0 y1 y2 y3, LeO (rows_Check.l0 k y0 y1 y2 y3) (rows_Check.l0 (k + 1) y0 y1 y2 y3)) ∧ (∀ y0 y1 y2 y3 y4 y5 y6 y7, LeO (rows_Check.j1 k y0 y1 y2 y3 y4 y5 y6 y7) (rows_Check.j1 (k + 1) y0 y1 y2 y3 y4 y5 y6 y7))
  | 0 => ⟨fun _ _ _ _ r h => by simp [rows_Check.l0] at h, fun _ _ _ _ _ _ _ _ r h => by simp [rows_Check.j1] at h⟩
  | k + 1 => by
    obtain ⟨ih0, ih1⟩ := rows_Check.mono_l k
    refine ⟨?_, ?_⟩
    · intro y0 y1 y2 y3
      unfold rows_Check.l0
      repeat' first
      | (with_reducible exact ih0 _ _ _ _)
      | (with_reducible exact ih1 _ _ _ _ _ _ _ _)
      | (with_reducible exact LeO.refl _)
      | (with_reducible exact LeO.none _)
      | (with_reducible refine LeO.ite ?_ ?_)
      | (with_reducible refine LeO.bind ?_ (fun _ => ?_))
      | exact ih0 _ _ _ _
      | exact ih1 _ _ _ _ _ _ _ _
      | exact LeO.none _
      | refine LeO.ite ?_ ?_
      | refine LeO.bind ?_ (fun _ => ?_)
    · intro y0 y1 y2 y3 y4 y5 y6 y7
      unfold rows_Check.j1
      repeat' first
      | (with_reducible exact ih0 _ _ _ _)
      | (with_reducible exact ih1 _ _ _ _ _ _ _ _)
      | (with_reducible exact LeO.refl _)
      | (with_reducible exact LeO.none _)
      | (with_reducible refine LeO.ite ?_ ?_)
      | (with_reducible refine LeO.bind ?_ (fun _ => ?_))
      | exact ih0 _ _ _ _
      | exact ih1 _ _ _ _ _ _ _ _
      | exact LeO.none _
      | refine LeO.ite ?_ ?_
      | refine LeO.bind ?_ (fun _ => ?_)
theorem rows_Check.mono : ∀ a0 k, LeO (rows_Check.f k a0) (rows_Check.f (k + 1) a0) := by
  intro a0 k
  obtain ⟨ih0, ih1⟩ := rows_Check.mono_l k
  unfold rows_Check.f
  repeat' first
      | (with_reducible exact ih0 _ _ _ _)
      | (with_reducible exact ih1 _ _ _ _ _ _ _ _)
      | (with_reducible exact LeO.refl _)
      | (with_reducible exact LeO.none _)
      | (with_reducible refine LeO.ite ?_ ?_)
      | (with_reducible refine LeO.bind ?_ (fun _ => ?_))
      | exact ih0 _ _ _ _
      | exact ih1 _ _ _ _ _ _ _ _
      | exact LeO.none _
      | refine LeO.ite ?_ ?_
      | refine LeO.bind ?_ (fun _ => ?_)
set_option maxHeartbeats 8000000 in
set_option maxRecDepth 100000 in
theorem rows_Check.calls (k : Nat) (A0 : Option Addr) (c0 : Nat) (l0 : List (S67)) (r : Int) (w : World) (hr0 : Kd.C k67 w A0 l0.length l0) (hc0 : l0.length ≤ c0) (h : rows_Check.f k l0 = some r) :
    Calls Try.prog 45 #[.slice A0 l0.length c0] w fun e w' => e = .returned (.int .i64 r) ∧ Below w.heap.size w w' := by
  have hu67 := Try.underlying67
  have HR0 := Aside0.mk hr0
  have HC0 := Aside0.mk hc0
  clear hr0 hc0
  have HB := Aside0.mk (Below.refl w.heap.size w)
  have H : (if (l0.length : Int) > 40 then (some 1) else (rows_Check.l0 k l0 l0 (l0.length : Int) 0)) = some r := h
  clear h
  by_cases c2 : (l0.length : Int) > 40
  · rw [if_pos c2] at H
    have c2b0 : decide (40 < (l0.length : Int)) = true := decide_eq_true c2
    have c2b1 : decide (40 < l0.length) = true := decide_eq_true (by omega)
    clear c2
    obtain rfl := Option.some.inj H
    go_enter Try.func45, Try.ntmps45
    go_wp2
    repeat (go_quiet (fail); try go_wp2)
    go_ret
    exact ⟨by first | rfl | (simp [errW_none, errW_some] <;> rfl) | (simp [*, errW_none, errW_some] <;> rfl), by repeat (first | (with_reducible first | exact HB.out | apply below_alloc | apply pw_below_drewN | apply below_drew1) | exact HB.out)⟩
  · rw [if_neg c2] at H
    have c2b0 : decide (40 < (l0.length : Int)) = false := decide_eq_false c2
    have c2b1 : decide (40 < l0.length) = false := decide_eq_false (by omega)
    clear c2
    have H' := Aside0.mk H
    clear H
    go_enter Try.func45, Try.ntmps45
    go_wp2
    repeat (go_quiet (fail); try go_wp2)
    go_loopg [10] k (fun kq v10 w' => ∃ (x10_1 : Int), v10 = .int .i64 x10_1 ∧ Aside0 (rows_Check.l0 kq l0 l0 (l0.length : Int) x10_1 = some r) ∧ Aside0 (kq ≤ k) ∧ Aside0 (Below w.heap.size w w'))
    case atStart => exact ⟨(0), (by first | rfl | (simp; done) | (simp [*]; done)), H', ⟨Nat.le_refl _⟩, ⟨by repeat (first | (with_reducible first | exact HB.out | apply below_alloc | apply pw_below_drewN | apply below_drew1) | exact HB.out)⟩⟩
    case round =>
      clear H'
      try clear c2
      try clear c2b0
      try clear c2b1
      try clear p2
      obtain ⟨x10_1, rfl, HA, HK1, HB⟩ := hrel
      cases gk with
      | zero => exact absurd HA.out (by simp [rows_Check.l0])
      | succ k1 =>
        have H := HA.out
        clear HA
        simp only [rows_Check.l0] at H
        by_cases c3 : x10_1 < (l0.length : Int)
        · rw [if_pos c3] at H
          have c3b0 : decide (x10_1 < (l0.length : Int)) = true := decide_eq_true c3
          clear c3
          by_cases c4 : 0 ≤ x10_1
          · rw [if_pos c4] at H
            have c4b0 : decide (0 ≤ x10_1) = true := decide_eq_true c4
            clear c4
            by_cases c5 : x10_1 < (l0.length : Int)
            · rw [if_pos c5] at H
              have c5b0 : decide (x10_1 < (l0.length : Int)) = true := decide_eq_true c5
              clear c5
              have HC6 := Aside0.mk H
              clear H
              have p101 : 0 ≤ (x10_1 : Int) := of_decide_eq_true (by first | (with_reducible assumption) | assumption)
              have q101 : x10_1 < (l0.length : Int) := of_decide_eq_true (by first | (with_reducible assumption) | assumption)
              obtain ⟨ad101, e101, hx101_0, hx101_1⟩ := at_T67 HR0.out x10_1 p101 q101
              cases e101
              replace hx101_0 := (HB.out.cell (World.block_lt_of_cell? w _ hx101_0)).trans hx101_0
              replace hx101_1 := (HB.out.cell (World.block_lt_of_cell? w _ hx101_1)).trans hx101_1
              replace p101 := eq_true p101
              replace q101 := eq_true q101
              go_upto_region 6 with (first | ((with_reducible refine gate_dst (N := 4) rfl ?_); (try (refine gate_guard (by rfl) ?_; dsimp only)); refine box_event ?hg (N := 4) ?hd (cs := #[.string (⟨#[]⟩ : ByteArray), .string (⟨#[]⟩ : ByteArray)]) (t := 67) ?hr ?_; (case hd => rfl); (case hg => rfl); (case hr => first | (go_simp; done) | (go_simp; rfl)); intro gb102 hg w7 hbox hb; have n0_ := Aside0.mk (below_step (by repeat (first | (with_reducible first | exact HB.out | apply below_alloc | apply pw_below_drewN | apply below_drew1) | exact HB.out)) hb); have n1_ := Aside0.mk (hbox); have n2_ := Aside0.mk ((by rw [hg]; exact (below_size (by repeat (first | (with_reducible first | exact HB.out | apply below_alloc | apply pw_below_drewN | apply below_drew1) | exact HB.out))) : w.heap.size ≤ gb102)); have n3_ := Aside0.mk ((by rw [hg]; exact (below_size (by repeat (first | (with_reducible first | exact HB.out | apply below_alloc | apply pw_below_drewN | apply below_drew1) | exact HB.out))) : w.heap.size ≤ gb102)); clear HB; have HB := n0_; have BK102 := n1_; have GW102 := n2_; have GE102 := n3_; clear n0_ n1_ n2_ n3_; clear hb hbox hg; have hcz8_0 : w7.cell? ⟨gb102, 0, none⟩ = some (.string (⟨#[]⟩ : ByteArray)) := (blk_cell BK102.out 0).trans rfl; have hcz8_1 : w7.cell? ⟨gb102, 1, none⟩ = some (.string (⟨#[]⟩ : ByteArray)) := (blk_cell BK102.out 1).trans rfl; have hfz8_0 := blk_frozen BK102.out 0; have hfz8_1 := blk_frozen BK102.out 1))
              repeat (go_quiet (first | ((with_reducible refine gate_dst (N := 4) rfl ?_); (try (refine gate_guard (by rfl) ?_; dsimp only)); refine box_event ?hg (N := 4) ?hd (cs := #[.string (⟨#[]⟩ : ByteArray), .string (⟨#[]⟩ : ByteArray)]) (t := 67) ?hr ?_; (case hd => rfl); (case hg => rfl); (case hr => first | (go_simp; done) | (go_simp; rfl)); intro gb102 hg w7 hbox hb; have n0_ := Aside0.mk (below_step (by repeat (first | (with_reducible first | exact HB.out | apply below_alloc | apply pw_below_drewN | apply below_drew1) | exact HB.out)) hb); have n1_ := Aside0.mk (hbox); have n2_ := Aside0.mk ((by rw [hg]; exact (below_size (by repeat (first | (with_reducible first | exact HB.out | apply below_alloc | apply pw_below_drewN | apply below_drew1) | exact HB.out))) : w.heap.size ≤ gb102)); have n3_ := Aside0.mk ((by rw [hg]; exact (below_size (by repeat (first | (with_reducible first | exact HB.out | apply below_alloc | apply pw_below_drewN | apply below_drew1) | exact HB.out))) : w.heap.size ≤ gb102)); clear HB; have HB := n0_; have BK102 := n1_; have GW102 := n2_; have GE102 := n3_; clear n0_ n1_ n2_ n3_; clear hb hbox hg; have hcz8_0 : w7.cell? ⟨gb102, 0, none⟩ = some (.string (⟨#[]⟩ : ByteArray)) := (blk_cell BK102.out 0).trans rfl; have hcz8_1 : w7.cell? ⟨gb102, 1, none⟩ = some (.string (⟨#[]⟩ : ByteArray)) := (blk_cell BK102.out 1).trans rfl; have hfz8_0 := blk_frozen BK102.out 0; have hfz8_1 := blk_frozen BK102.out 1)); go_upto_region 6 with (first | ((with_reducible refine gate_dst (N := 4) rfl ?_); (try (refine gate_guard (by rfl) ?_; dsimp only)); refine box_event ?hg (N := 4) ?hd (cs := #[.string (⟨#[]⟩ : ByteArray), .string (⟨#[]⟩ : ByteArray)]) (t := 67) ?hr ?_; (case hd => rfl); (case hg => rfl); (case hr => first | (go_simp; done) | (go_simp; rfl)); intro gb102 hg w7 hbox hb; have n0_ := Aside0.mk (below_step (by repeat (first | (with_reducible first | exact HB.out | apply below_alloc | apply pw_below_drewN | apply below_drew1) | exact HB.out)) hb); have n1_ := Aside0.mk (hbox); have n2_ := Aside0.mk ((by rw [hg]; exact (below_size (by repeat (first | (with_reducible first | exact HB.out | apply below_alloc | apply pw_below_drewN | apply below_drew1) | exact HB.out))) : w.heap.size ≤ gb102)); have n3_ := Aside0.mk ((by rw [hg]; exact (below_size (by repeat (first | (with_reducible first | exact HB.out | apply below_alloc | apply pw_below_drewN | apply below_drew1) | exact HB.out))) : w.heap.size ≤ gb102)); clear HB; have HB := n0_; have BK102 := n1_; have GW102 := n2_; have GE102 := n3_; clear n0_ n1_ n2_ n3_; clear hb hbox hg; have hcz8_0 : w7.cell? ⟨gb102, 0, none⟩ = some (.string (⟨#[]⟩ : ByteArray)) := (blk_cell BK102.out 0).trans rfl; have hcz8_1 : w7.cell? ⟨gb102, 1, none⟩ = some (.string (⟨#[]⟩ : ByteArray)) := (blk_cell BK102.out 1).trans rfl; have hfz8_0 := blk_frozen BK102.out 0; have hfz8_1 := blk_frozen BK102.out 1)))
              (try simp only [Act.put, List.setIfInBounds_toArray, List.set_cons_zero, List.set_cons_succ])
              go_cut [15] (fun v15 wc => ∃ (kq : Nat) (x15_5 : Bool), v15 = .bool x15_5 ∧ Aside0 (rows_Check.j1 kq l0 x10_1 l0 (l0.length : Int) x10_1 x15_5 ((rd_T67 l0 x10_1).f0) ((rd_T67 l0 x10_1).f1) = some r) ∧ Aside0 (kq ≤ k1) ∧ Aside0 (wc.heap[gb102]? = some (.cells #[.string ((rd_T67 l0 x10_1).f0), .string ((rd_T67 l0 x10_1).f1)] 67 (0, 0))) ∧ Aside0 (Below w.heap.size w wc))
              case first =>
                have H := HC6.out
                clear HC6
                replace H := Option.bind_eq_some_iff.mp H
                obtain ⟨t103, A90, H⟩ := H
                replace H : (if t103 = true then (rows_Check.j1 k1 l0 x10_1 l0 (l0.length : Int) x10_1 (decide ((((rd_T67 l0 x10_1).f1).size : Int) > 20)) ((rd_T67 l0 x10_1).f0) ((rd_T67 l0 x10_1).f1)) else (rows_Check.j1 k1 l0 x10_1 l0 (l0.length : Int) x10_1 true ((rd_T67 l0 x10_1).f0) ((rd_T67 l0 x10_1).f1))) = some r := H
                have A9 := Aside0.mk A90
                clear A90
                by_cases c10 : t103 = true
                · subst c10
                  have H1 : (rows_Check.j1 k1 l0 x10_1 l0 (l0.length : Int) x10_1 (decide ((((rd_T67 l0 x10_1).f1).size : Int) > 20)) ((rd_T67 l0 x10_1).f0) ((rd_T67 l0 x10_1).f1)) = some r := by rw [if_pos rfl] at H; exact H
                  clear H
                  have H := H1
                  clear H1
                  have H' := Aside0.mk H
                  clear H
                  have hcz11_0 : w7.cell? ⟨gb102, 0, none⟩ = some (.string (⟨#[]⟩ : ByteArray)) := (blk_cell BK102.out 0).trans rfl
                  have hcz11_1 : w7.cell? ⟨gb102, 1, none⟩ = some (.string (⟨#[]⟩ : ByteArray)) := (blk_cell BK102.out 1).trans rfl
                  have hfz11_0 := blk_frozen BK102.out 0
                  have hfz11_1 := blk_frozen BK102.out 1
                  go_wp2_with (first | (go_at_call 66; (with_reducible refine (rows_key.calls ((rd_T67 l0 x10_1).f0) true _ A9.out).mono ?_); rintro e w' ⟨rfl, ⟨nd, rfl⟩⟩; (try first | exact ⟨rfl, _, World.drewN_drewN _ _ _⟩ | exact ⟨rfl, _, Eq.trans (World.drewN_drewN _ _ _) (congrArg (World.drewN _) (Nat.add_assoc _ _ _))⟩)))
                  repeat (go_quiet (first | (go_at_call 66; (with_reducible refine (rows_key.calls ((rd_T67 l0 x10_1).f0) true _ A9.out).mono ?_); rintro e w' ⟨rfl, ⟨nd, rfl⟩⟩; (try first | exact ⟨rfl, _, World.drewN_drewN _ _ _⟩ | exact ⟨rfl, _, Eq.trans (World.drewN_drewN _ _ _) (congrArg (World.drewN _) (Nat.add_assoc _ _ _))⟩))); try go_wp2_with (first | (go_at_call 66; (with_reducible refine (rows_key.calls ((rd_T67 l0 x10_1).f0) true _ A9.out).mono ?_); rintro e w' ⟨rfl, ⟨nd, rfl⟩⟩; (try first | exact ⟨rfl, _, World.drewN_drewN _ _ _⟩ | exact ⟨rfl, _, Eq.trans (World.drewN_drewN _ _ _) (congrArg (World.drewN _) (Nat.add_assoc _ _ _))⟩))))
                  go_meet
                  case rel => exact ⟨_, (decide ((((rd_T67 l0 x10_1).f1).size : Int) > 20)), (by first | rfl | (simp; done) | (simp [*]; done)), H', ⟨by have := HK1.out; first | omega | exact Nat.le_refl _⟩, ⟨by (with_reducible repeat (first | refine blk_drewN ?_ _ | refine blk_drew ?_ | refine blk_alloc ?_ _)); refine blk_put (cs := #[.string ((rd_T67 l0 x10_1).f0), .string (⟨#[]⟩ : ByteArray)]) ?_ 1 _ rfl; (with_reducible repeat (first | refine blk_drewN ?_ _ | refine blk_drew ?_ | refine blk_alloc ?_ _)); refine blk_put (cs := #[.string (⟨#[]⟩ : ByteArray), .string (⟨#[]⟩ : ByteArray)]) ?_ 0 _ rfl; (with_reducible repeat (first | refine blk_drewN ?_ _ | refine blk_drew ?_ | refine blk_alloc ?_ _)); exact BK102.out⟩, ⟨by repeat (first | (with_reducible first | exact HB.out | apply below_alloc | apply pw_below_drewN | apply below_drew1 | refine below_set ?_ GE102.out) | exact HB.out)⟩⟩
                · replace c10 := Bool.eq_false_iff.mpr c10
                  subst c10
                  have H1 : (rows_Check.j1 k1 l0 x10_1 l0 (l0.length : Int) x10_1 true ((rd_T67 l0 x10_1).f0) ((rd_T67 l0 x10_1).f1)) = some r := by rw [if_neg (show ¬ (false = true) by decide)] at H; exact H
                  clear H
                  have H := H1
                  clear H1
                  have H' := Aside0.mk H
                  clear H
                  have hcz12_0 : w7.cell? ⟨gb102, 0, none⟩ = some (.string (⟨#[]⟩ : ByteArray)) := (blk_cell BK102.out 0).trans rfl
                  have hcz12_1 : w7.cell? ⟨gb102, 1, none⟩ = some (.string (⟨#[]⟩ : ByteArray)) := (blk_cell BK102.out 1).trans rfl
                  have hfz12_0 := blk_frozen BK102.out 0
                  have hfz12_1 := blk_frozen BK102.out 1
                  go_wp2_with (first | (go_at_call 66; (with_reducible refine (rows_key.calls ((rd_T67 l0 x10_1).f0) false _ A9.out).mono ?_); rintro e w' ⟨rfl, ⟨nd, rfl⟩⟩; (try first | exact ⟨rfl, _, World.drewN_drewN _ _ _⟩ | exact ⟨rfl, _, Eq.trans (World.drewN_drewN _ _ _) (congrArg (World.drewN _) (Nat.add_assoc _ _ _))⟩)))
                  repeat (go_quiet (first | (go_at_call 66; (with_reducible refine (rows_key.calls ((rd_T67 l0 x10_1).f0) false _ A9.out).mono ?_); rintro e w' ⟨rfl, ⟨nd, rfl⟩⟩; (try first | exact ⟨rfl, _, World.drewN_drewN _ _ _⟩ | exact ⟨rfl, _, Eq.trans (World.drewN_drewN _ _ _) (congrArg (World.drewN _) (Nat.add_assoc _ _ _))⟩))); try go_wp2_with (first | (go_at_call 66; (with_reducible refine (rows_key.calls ((rd_T67 l0 x10_1).f0) false _ A9.out).mono ?_); rintro e w' ⟨rfl, ⟨nd, rfl⟩⟩; (try first | exact ⟨rfl, _, World.drewN_drewN _ _ _⟩ | exact ⟨rfl, _, Eq.trans (World.drewN_drewN _ _ _) (congrArg (World.drewN _) (Nat.add_assoc _ _ _))⟩))))
                  go_meet
                  case rel => exact ⟨_, (true), (by first | rfl | (simp; done) | (simp [*]; done)), H', ⟨by have := HK1.out; first | omega | exact Nat.le_refl _⟩, ⟨by (with_reducible repeat (first | refine blk_drewN ?_ _ | refine blk_drew ?_ | refine blk_alloc ?_ _)); refine blk_put (cs := #[.string ((rd_T67 l0 x10_1).f0), .string (⟨#[]⟩ : ByteArray)]) ?_ 1 _ rfl; (with_reducible repeat (first | refine blk_drewN ?_ _ | refine blk_drew ?_ | refine blk_alloc ?_ _)); refine blk_put (cs := #[.string (⟨#[]⟩ : ByteArray), .string (⟨#[]⟩ : ByteArray)]) ?_ 0 _ rfl; (with_reducible repeat (first | refine blk_drewN ?_ _ | refine blk_drew ?_ | refine blk_alloc ?_ _)); exact BK102.out⟩, ⟨by repeat (first | (with_reducible first | exact HB.out | apply below_alloc | apply pw_below_drewN | apply below_drew1 | refine below_set ?_ GE102.out) | exact HB.out)⟩⟩
              case rest =>
                clear HC6
                try clear c1
                try clear p1
                try clear q1
                try clear hx1
                try clear c2
                try clear c2b0
                try clear c2b1
                try clear p2
                try clear c3
                try clear c3b0
                try clear c4
                try clear c4b0
                try clear c5
                try clear c5b0
                try clear c10
                try clear p10
                try clear q10
                try clear hx10
                try clear hcz11_0
                try clear hcz11_1
                try clear hcz12_0
                try clear hcz12_1
                try clear hcz8_0
                try clear hcz8_1
                try clear hfz11_0
                try clear hfz11_1
                try clear hfz12_0
                try clear hfz12_1
                try clear hfz8_0
                try clear hfz8_1
                try clear hx101_0
                try clear hx101_1
                try clear p101
                try clear p2
                try clear q101
                obtain ⟨kq, x15_5, rfl, HA, HJ5, BK102, HB⟩ := hcut
                cases kq with
                | zero => exact absurd HA.out (by simp [rows_Check.j1])
                | succ kj5 =>
                  have H := HA.out
                  clear HA
                  simp only [rows_Check.j1] at H
                  by_cases c13 : x15_5 = true
                  · subst c13
                    have H1 : (some 1) = some r := by rw [if_pos rfl] at H; exact H
                    clear H
                    have H := H1
                    clear H1
                    obtain rfl := Option.some.inj H
                    go_wp2
                    repeat (go_quiet (fail); try go_wp2)
                    go_ret
                    exact ⟨by first | rfl | (simp [errW_none, errW_some] <;> rfl) | (simp [*, errW_none, errW_some] <;> rfl), by repeat (first | (with_reducible first | exact HB.out | apply below_alloc | apply pw_below_drewN | apply below_drew1 | refine below_set ?_ GE102.out) | exact HB.out)⟩
                  · replace c13 := Bool.eq_false_iff.mpr c13
                    subst c13
                    have H1 : (if ((rd_T67 l0 x10_1).f1).toList = ([] : List UInt8) then (some 4) else (if x10_1 > 0 then (if 0 ≤ (wrap64 (x10_1 - 1)) then (if (wrap64 (x10_1 - 1)) < (l0.length : Int) then (if ((Op.bytesLess (((rd_T67 l0 (wrap64 (x10_1 - 1))).f0).toList) ((rd_T67 l0 x10_1).f0).toList) = true) then (rows_Check.l0 kj5 l0 l0 (l0.length : Int) (wrap64 (x10_1 + 1))) else (some 7)) else (none)) else (none)) else (rows_Check.l0 kj5 l0 l0 (l0.length : Int) (wrap64 (x10_1 + 1))))) = some r := by rw [if_neg (show ¬ (false = true) by decide)] at H; exact H
                    clear H
                    have H := H1
                    clear H1
                    by_cases c14 : ((rd_T67 l0 x10_1).f1).toList = ([] : List UInt8)
                    · rw [if_pos c14] at H
                      have c14b0 : (((rd_T67 l0 x10_1).f1).toList == ([] : List UInt8)) = true := beq_iff_eq.mpr c14
                      have c14b1 : (((rd_T67 l0 x10_1).f1).toList != ([] : List UInt8)) = false := bne_eq_false_iff_eq.mpr c14
                      clear c14
                      obtain rfl := Option.some.inj H
                      have hcz15_0 : wc.cell? ⟨gb102, 0, none⟩ = some (.string ((rd_T67 l0 x10_1).f0)) := (blk_cell BK102.out 0).trans rfl
                      have hcz15_1 : wc.cell? ⟨gb102, 1, none⟩ = some (.string ((rd_T67 l0 x10_1).f1)) := (blk_cell BK102.out 1).trans rfl
                      have hfz15_0 := blk_frozen BK102.out 0
                      have hfz15_1 := blk_frozen BK102.out 1
                      go_wp2
                      repeat (go_quiet (fail); try go_wp2)
                      go_ret
                      exact ⟨by first | rfl | (simp [errW_none, errW_some] <;> rfl) | (simp [*, errW_none, errW_some] <;> rfl), by repeat (first | (with_reducible first | exact HB.out | apply below_alloc | apply pw_below_drewN | apply below_drew1 | refine below_set ?_ GE102.out) | exact HB.out)⟩
                    · rw [if_neg c14] at H
                      have c14b0 : (((rd_T67 l0 x10_1).f1).toList == ([] : List UInt8)) = false := beq_eq_false_iff_ne.mpr c14
                      have c14b1 : (((rd_T67 l0 x10_1).f1).toList != ([] : List UInt8)) = true := bne_iff_ne.mpr c14
                      by_cases c16 : x10_1 > 0
                      · rw [if_pos c16] at H
                        have c16b0 : decide (0 < x10_1) = true := decide_eq_true c16
                        clear c16
                        obtain ⟨ji17, hji17⟩ : ∃ j_ : Int, (wrap64 (x10_1 - 1)) = j_ := ⟨_, rfl⟩
                        replace H : (if 0 ≤ (ji17) then (if (ji17) < (l0.length : Int) then (if ((Op.bytesLess (((rd_T67 l0 (ji17)).f0).toList) ((rd_T67 l0 x10_1).f0).toList) = true) then (rows_Check.l0 kj5 l0 l0 (l0.length : Int) (wrap64 (x10_1 + 1))) else (some 7)) else (none)) else (none)) = some r := by first | (rw [hji17] at H; exact H) | (simp only [hji17] at H ⊢; exact H)
                        have hji17w : (IntKind.i64.wrap (x10_1 - 1)) = ji17 := (i64_w _).trans hji17
                        by_cases c18 : 0 ≤ (ji17)
                        · rw [if_pos c18] at H
                          have c18b0 : decide (0 ≤ (ji17)) = true := decide_eq_true c18
                          clear c18
                          by_cases c19 : (ji17) < (l0.length : Int)
                          · rw [if_pos c19] at H
                            have c19b0 : decide ((ji17) < (l0.length : Int)) = true := decide_eq_true c19
                            clear c19
                            by_cases c20 : ((Op.bytesLess (((rd_T67 l0 (ji17)).f0).toList) ((rd_T67 l0 x10_1).f0).toList) = true)
                            · rw [if_pos c20] at H
                              have c20b0 : (Op.bytesLess (((rd_T67 l0 (ji17)).f0).toList) ((rd_T67 l0 x10_1).f0).toList) = true := c20
                              clear c20
                              have H' := Aside0.mk H
                              clear H
                              have hcz21_0 : wc.cell? ⟨gb102, 0, none⟩ = some (.string ((rd_T67 l0 x10_1).f0)) := (blk_cell BK102.out 0).trans rfl
                              have hcz21_1 : wc.cell? ⟨gb102, 1, none⟩ = some (.string ((rd_T67 l0 x10_1).f1)) := (blk_cell BK102.out 1).trans rfl
                              have hfz21_0 := blk_frozen BK102.out 0
                              have hfz21_1 := blk_frozen BK102.out 1
                              have p104 : 0 ≤ ((ji17) : Int) := of_decide_eq_true (by first | (with_reducible assumption) | assumption)
                              have q104 : (ji17) < (l0.length : Int) := of_decide_eq_true (by first | (with_reducible assumption) | assumption)
                              obtain ⟨ad104, e104, hx104_0, hx104_1⟩ := at_T67 HR0.out (ji17) p104 q104
                              obtain rfl : ad101 = ad104 := (by injection e104)
                              replace hx104_0 := (HB.out.cell (World.block_lt_of_cell? w _ hx104_0)).trans hx104_0
                              replace hx104_1 := (HB.out.cell (World.block_lt_of_cell? w _ hx104_1)).trans hx104_1
                              replace p104 := eq_true p104
                              replace q104 := eq_true q104
                              go_wp2
                              repeat (go_quiet (fail); try go_wp2)
                              go_roundg kj5
                              case measure => have := HK1.out; have := HJ5.out; omega
                              case rel => exact ⟨(wrap64 (x10_1 + 1)), (by first | rfl | (simp; done) | (simp [*]; done)), H', ⟨by have := HK1.out; have := HJ5.out; omega⟩, ⟨by repeat (first | (with_reducible first | exact HB.out | apply below_alloc | apply pw_below_drewN | apply below_drew1 | refine below_set ?_ GE102.out) | exact HB.out)⟩⟩
                            · rw [if_neg c20] at H
                              have c20b0 : (Op.bytesLess (((rd_T67 l0 (ji17)).f0).toList) ((rd_T67 l0 x10_1).f0).toList) = false := by simpa using c20
                              clear c20
                              obtain rfl := Option.some.inj H
                              have hcz22_0 : wc.cell? ⟨gb102, 0, none⟩ = some (.string ((rd_T67 l0 x10_1).f0)) := (blk_cell BK102.out 0).trans rfl
                              have hcz22_1 : wc.cell? ⟨gb102, 1, none⟩ = some (.string ((rd_T67 l0 x10_1).f1)) := (blk_cell BK102.out 1).trans rfl
                              have hfz22_0 := blk_frozen BK102.out 0
                              have hfz22_1 := blk_frozen BK102.out 1
                              have p104 : 0 ≤ ((ji17) : Int) := of_decide_eq_true (by first | (with_reducible assumption) | assumption)
                              have q104 : (ji17) < (l0.length : Int) := of_decide_eq_true (by first | (with_reducible assumption) | assumption)
                              obtain ⟨ad104, e104, hx104_0, hx104_1⟩ := at_T67 HR0.out (ji17) p104 q104
                              obtain rfl : ad101 = ad104 := (by injection e104)
                              replace hx104_0 := (HB.out.cell (World.block_lt_of_cell? w _ hx104_0)).trans hx104_0
                              replace hx104_1 := (HB.out.cell (World.block_lt_of_cell? w _ hx104_1)).trans hx104_1
                              replace p104 := eq_true p104
                              replace q104 := eq_true q104
                              go_wp2
                              repeat (go_quiet (fail); try go_wp2)
                              go_ret
                              exact ⟨by first | rfl | (simp [errW_none, errW_some] <;> rfl) | (simp only [← hji17]; first | rfl | (simp [errW_none, errW_some] <;> rfl)) | (simp [*, errW_none, errW_some] <;> rfl), by repeat (first | (with_reducible first | exact HB.out | apply below_alloc | apply pw_below_drewN | apply below_drew1 | refine below_set ?_ GE102.out) | exact HB.out)⟩
                          · rw [if_neg c19] at H
                            exact absurd H (by simp)
                        · rw [if_neg c18] at H
                          exact absurd H (by simp)
                      · rw [if_neg c16] at H
                        have c16b0 : decide (0 < x10_1) = false := decide_eq_false c16
                        clear c16
                        have H' := Aside0.mk H
                        clear H
                        have hcz23_0 : wc.cell? ⟨gb102, 0, none⟩ = some (.string ((rd_T67 l0 x10_1).f0)) := (blk_cell BK102.out 0).trans rfl
                        have hcz23_1 : wc.cell? ⟨gb102, 1, none⟩ = some (.string ((rd_T67 l0 x10_1).f1)) := (blk_cell BK102.out 1).trans rfl
                        have hfz23_0 := blk_frozen BK102.out 0
                        have hfz23_1 := blk_frozen BK102.out 1
                        go_wp2
                        repeat (go_quiet (fail); try go_wp2)
                        go_roundg kj5
                        case measure => have := HK1.out; have := HJ5.out; omega
                        case rel => exact ⟨(wrap64 (x10_1 + 1)), (by first | rfl | (simp; done) | (simp [*]; done)), H', ⟨by have := HK1.out; have := HJ5.out; omega⟩, ⟨by repeat (first | (with_reducible first | exact HB.out | apply below_alloc | apply pw_below_drewN | apply below_drew1 | refine below_set ?_ GE102.out) | exact HB.out)⟩⟩
            · rw [if_neg c5] at H
              exact absurd H (by simp)
          · rw [if_neg c4] at H
            exact absurd H (by simp)
        · rw [if_neg c3] at H
          have c3b0 : decide (x10_1 < (l0.length : Int)) = false := decide_eq_false c3
          clear c3
          obtain rfl := Option.some.inj H
          go_wp2
          repeat (go_quiet (fail); try go_wp2)
          go_ret
          exact ⟨by first | rfl | (simp [errW_none, errW_some] <;> rfl) | (simp [*, errW_none, errW_some] <;> rfl), by repeat (first | (with_reducible first | exact HB.out | apply below_alloc | apply pw_below_drewN | apply below_drew1) | exact HB.out)⟩

end Go.Proofs.Ytmfkgbncnaingaa.QRows
end

section
/- Good tables are checked to be good; what is found in them. -/
namespace Go.Proofs.Ytmfkgbncnaingaa.Rows
open Go.RowKit Go.Lib Go.Proofs.Ytmfkgbncnaingaa.QRows Go.Proofs.YtmfkgbncnaingaaW.PrintWords Go.Proofs.YtmfkgbncnaingaaW.PrintLast Go.Proofs.YtmfkgbncnaingaaW.PrintMore

/-- A row that may stand in a table. -/
def Fine (x : S67) : Prop := keyOk x.f0 = true ∧ x.f1.size ≤ 20 ∧ ¬ x.f1.toList = ([] : List UInt8)
theorem check_loop (T : List S67) (hs : Sorted T) (hg : ∀ x ∈ T, Fine x) (hl : T.length ≤ 40) : ∀ (d i : Nat), i + d = T.length → rows_Check.l0 (2 * d + 1) T T (T.length : Int) (i : Int) = some 0 := by
  intro d
  induction d with
  | zero => intro i hi; rw [rows_Check.l0, if_neg (by omega)]
  | succ d ih =>
    intro i hi
    have hi' : i < T.length := by omega
    obtain ⟨g1, g2, g3⟩ := hg _ (List.getElem_mem hi')
    have hn := ih (i + 1) (by omega)
    rw [show 2 * (d + 1) + 1 = 2 * d + 1 + 1 + 1 by omega, rows_Check.l0, if_pos (by omega), if_pos (by omega), if_pos (by omega), rd_T67_get T i hi', key_is, g1, Option.bind_some, if_pos rfl, rows_Check.j1, if_neg (by rw [decide_eq_true_eq]; omega), if_neg g3, show wrap64 ((i : Int) + 1) = ((i + 1 : Nat) : Int) by unfold wrap64; omega]
    by_cases h0 : i = 0
    · rw [if_neg (by omega)]; exact hn
    · rw [if_pos (by omega), show wrap64 ((i : Int) - 1) = ((i - 1 : Nat) : Int) by unfold wrap64; omega, if_pos (by omega), if_pos (by omega), rd_T67_get T (i - 1) (by omega), if_pos (hs.lt (by omega) hi')]
      exact hn
theorem check_ok (T : List S67) (hs : Sorted T) (hg : ∀ x ∈ T, Fine x) (hl : T.length ≤ 40) : rows_Check.f (2 * T.length + 1) T = some 0 := by
  unfold rows_Check.f
  rw [if_neg (by omega)]
  exact check_loop T hs hg hl T.length 0 (by omega)
/-- What a key has in a table. -/
theorem found_row (T : List S67) (t : ByteArray) (hs : Sorted T) : ((found T t).2 = true ∧ ∃ hh : (found T t).1 < T.length, T[(found T t).1].f0.toList = t.toList) ∨ ((found T t).2 = false ∧ ∀ x ∈ T, ¬ x.f0.toList = t.toList) := by
  obtain ⟨h1, h2, h3, h4⟩ := found_is T t hs
  cases hb : (found T t).2 with
  | true => exact .inl ⟨rfl, h4.1 hb⟩
  | false =>
    refine .inr ⟨rfl, fun x hx e => ?_⟩
    obtain ⟨i, hi, rfl⟩ := List.getElem_of_mem hx
    have hir : ∀ a : List UInt8, ¬ Op.bytesLess a a = true := fun a h => by rw [less_irrefl] at h; cases h
    by_cases hlt : i < (found T t).1
    · have := h2 i hi hlt
      rw [e] at this; exact hir _ this
    · have hf : (found T t).1 < T.length := by omega
      by_cases he : i = (found T t).1
      · subst he
        rw [h4.2 ⟨hf, e⟩] at hb; cases hb
      · have h5 := hs.lt (show (found T t).1 < i by omega) hi
        rw [e] at h5
        exact h3 _ hf (Nat.le_refl _) h5

end Go.Proofs.Ytmfkgbncnaingaa.Rows
end

section
/- Functions of the program as plain functions, and the walks that show it. Written by the session's own program pp.py. -/
namespace Go.Proofs.Ytmfkgbncnaingaa.QRows
open Go.RowKit Go.Proofs.YtmfkgbncnaingaaW.PrintWords Go.Proofs.YtmfkgbncnaingaaW.PrintLast Go.Proofs.YtmfkgbncnaingaaW.PrintMore
attribute [local go_sem] max2_int min2_int max_two min_two max_three min_three max_four min_four   -- for this text's walks alone
set_option linter.unusedVariables false
set_option linter.unusedSimpArgs false

/-! ### rows_Set: function 41 -/
def rows_Set.f (k : Nat) (l0 : List (S67)) (l1 : List (S67)) : Option ((List (S67)) × Int) := (rows_Check.f k l0).bind fun t105 => (if t105 = 0 then ((rows_Fault.f l0 l1).bind fun t106 => (if t106 = 0 then ((rows_Changed.f l0 l1).bind fun t107 => (some (t107, 0))) else (some (([] : List (S67)), t106)))) else (some (([] : List (S67)), t105)))
theorem rows_Set.mono : ∀ a0 a1 k, LeO (rows_Set.f k a0 a1) (rows_Set.f (k + 1) a0 a1) := by
  intro a0 a1 k
  unfold rows_Set.f
  repeat' first
      | (with_reducible exact rows_Check.mono _ _)
      | (with_reducible exact LeO.refl _)
      | (with_reducible exact LeO.none _)
      | (with_reducible refine LeO.ite ?_ ?_)
      | (with_reducible refine LeO.bind ?_ (fun _ => ?_))
      | exact rows_Check.mono _ _
      | exact LeO.none _
      | refine LeO.ite ?_ ?_
      | refine LeO.bind ?_ (fun _ => ?_)
set_option maxHeartbeats 8000000 in
set_option maxRecDepth 100000 in
theorem rows_Set.calls (k : Nat) (A0 : Option Addr) (c0 : Nat) (l0 : List (S67)) (A1 : Option Addr) (c1 : Nat) (l1 : List (S67)) (r1 : List (S67)) (r2 : Int) (w : World) (hr0 : Kd.C k67 w A0 l0.length l0) (hc0 : l0.length ≤ c0) (hr1 : Kd.C k67 w A1 l1.length l1) (hc1 : l1.length ≤ c1) (h : rows_Set.f k l0 l1 = some (r1, r2)) :
    Calls Try.prog 41 #[.slice A0 l0.length c0, .slice A1 l1.length c1] w fun e w' => ∃ v0_ : Value, e = .returned (.tuple #[v0_, .int .i64 r2]) ∧ Kd.R k67 67 w' w.heap.size (fun _ => True) v0_ r1 ∧ Below w.heap.size w w' := by
  have HR0 := Aside0.mk hr0
  have HC0 := Aside0.mk hc0
  clear hr0 hc0
  have HR1 := Aside0.mk hr1
  have HC1 := Aside0.mk hc1
  clear hr1 hc1
  have HB := Aside0.mk (Below.refl w.heap.size w)
  have H : ((rows_Check.f k l0).bind fun t105 => (if t105 = 0 then ((rows_Fault.f l0 l1).bind fun t106 => (if t106 = 0 then ((rows_Changed.f l0 l1).bind fun t107 => (some (t107, 0))) else (some (([] : List (S67)), t106)))) else (some (([] : List (S67)), t105)))) = some (r1, r2) := h
  clear h
  replace H := Option.bind_eq_some_iff.mp H
  obtain ⟨t105, A30, H⟩ := H
  replace H : (if t105 = 0 then ((rows_Fault.f l0 l1).bind fun t106 => (if t106 = 0 then ((rows_Changed.f l0 l1).bind fun t107 => (some (t107, 0))) else (some (([] : List (S67)), t106)))) else (some (([] : List (S67)), t105))) = some (r1, r2) := H
  have A3 := Aside0.mk A30
  clear A30
  by_cases c4 : t105 = 0
  · rw [if_pos c4] at H
    have c4b0 : (t105 == 0) = true := beq_iff_eq.mpr c4
    have c4b1 : (t105 != 0) = false := bne_eq_false_iff_eq.mpr c4
    clear c4
    replace H := Option.bind_eq_some_iff.mp H
    obtain ⟨t106, A50, H⟩ := H
    replace H : (if t106 = 0 then ((rows_Changed.f l0 l1).bind fun t107 => (some (t107, 0))) else (some (([] : List (S67)), t106))) = some (r1, r2) := H
    have A5 := Aside0.mk A50
    clear A50
    by_cases c6 : t106 = 0
    · rw [if_pos c6] at H
      have c6b0 : (t106 == 0) = true := beq_iff_eq.mpr c6
      have c6b1 : (t106 != 0) = false := bne_eq_false_iff_eq.mpr c6
      clear c6
      replace H := Option.bind_eq_some_iff.mp H
      obtain ⟨t107, A70, H⟩ := H
      replace H : (some (t107, 0)) = some (r1, r2) := H
      have A7 := Aside0.mk A70
      clear A70
      simp only [Option.some.injEq, Prod.mk.injEq] at H
      obtain ⟨rfl, rfl⟩ := H
      go_enter Try.func41, Try.ntmps41
      go_wp2_with (first | ((with_reducible refine gate_callee (f := 45) rfl ?_); refine goesL_ (some 9) rfl rfl Try.func45 (by kernel_rfl) rfl #[.slice A0 l0.length c0] rfl (by (try simp only [List.map_toArray, List.map_cons, List.map_nil]); first | done | rfl | (simp only [List.length_drop, List.length_take]; rfl)) ?_; (with_reducible refine (rows_Check.calls k _ _ l0 t105 _ ?side1 ?side2 A3.out).mono ?_); (case side1 => repeat (first | exact HR0.out | (with_reducible refine Kd.C_alloc ?_ _) | (with_reducible refine Kd.C_drewN ?_ _) | (with_reducible refine Kd.C_drew ?_))); (case side2 => exact HC0.out); rintro e w8 ⟨rfl, hb⟩; refine ⟨_, rfl, ?_⟩; have n0_ := Aside0.mk (below_step (by repeat (first | (with_reducible first | exact HB.out | apply below_alloc | apply pw_below_drewN | apply below_drew1) | exact HB.out)) hb); clear HB; have HB := n0_; clear n0_; (try clear hb); (try clear hb2); (try clear hk); (try clear hi)) | ((with_reducible refine gate_callee (f := 63) rfl ?_); refine goesL_ (some 15) rfl rfl Try.func63 (by kernel_rfl) rfl #[.slice A0 l0.length c0, .slice A1 l1.length c1] rfl (by (try simp only [List.map_toArray, List.map_cons, List.map_nil]); first | done | rfl | (simp only [List.length_drop, List.length_take]; rfl)) ?_; (with_reducible refine (rows_Fault.calls _ _ l0 _ _ l1 t106 _ ?side1 ?side2 ?side3 ?side4 A5.out).mono ?_); (case side1 => repeat (first | exact (Kd.C_below HR0.out HB.out) | (with_reducible refine Kd.C_alloc ?_ _) | (with_reducible refine Kd.C_drewN ?_ _) | (with_reducible refine Kd.C_drew ?_))); (case side2 => exact HC0.out); (case side3 => repeat (first | exact (Kd.C_below HR1.out HB.out) | (with_reducible refine Kd.C_alloc ?_ _) | (with_reducible refine Kd.C_drewN ?_ _) | (with_reducible refine Kd.C_drew ?_))); (case side4 => exact HC1.out); rintro e w9 ⟨rfl, hb⟩; refine ⟨_, rfl, ?_⟩; have n0_ := Aside0.mk (below_step (by repeat (first | (with_reducible first | exact HB.out | apply below_alloc | apply pw_below_drewN | apply below_drew1) | exact HB.out)) hb); clear HB; have HB := n0_; clear n0_; (try clear hb); (try clear hb2); (try clear hk); (try clear hi)) | ((with_reducible refine gate_callee (f := 64) rfl ?_); refine goesL_ (some 21) rfl rfl Try.func64 (by kernel_rfl) rfl #[.slice A0 l0.length c0, .slice A1 l1.length c1] rfl (by (try simp only [List.map_toArray, List.map_cons, List.map_nil]); first | done | rfl | (simp only [List.length_drop, List.length_take]; rfl)) ?_; (with_reducible refine (rows_Changed.calls _ _ l0 _ _ l1 t107 _ ?side1 ?side2 ?side3 ?side4 A7.out).mono ?_); (case side1 => repeat (first | exact (Kd.C_below HR0.out HB.out) | (with_reducible refine Kd.C_alloc ?_ _) | (with_reducible refine Kd.C_drewN ?_ _) | (with_reducible refine Kd.C_drew ?_))); (case side2 => exact HC0.out); (case side3 => repeat (first | exact (Kd.C_below HR1.out HB.out) | (with_reducible refine Kd.C_alloc ?_ _) | (with_reducible refine Kd.C_drewN ?_ _) | (with_reducible refine Kd.C_drew ?_))); (case side4 => exact HC1.out); rintro e w10 ⟨v108, rfl, ho0, hb⟩; refine ⟨_, rfl, ?_⟩; have n0_ := Aside0.mk (Kd.R_lower ho0 (below_size (by repeat (first | (with_reducible first | exact HB.out | apply below_alloc | apply pw_below_drewN | apply below_drew1) | exact HB.out)))); have n1_ := Aside0.mk (below_step (by repeat (first | (with_reducible first | exact HB.out | apply below_alloc | apply pw_below_drewN | apply below_drew1) | exact HB.out)) hb); clear HB; have HO109 := n0_; have HB := n1_; clear n0_ n1_; (try clear hb); (try clear hb2); (try clear hk); (try clear hi); (try clear ho0)))
      go_ret2
      exact ⟨_, by first | rfl | (simp [errW_none, errW_some] <;> rfl) | (simp [*, errW_none, errW_some] <;> rfl), by (with_reducible repeat (first | apply Kd.R_alloc | apply Kd.R_drewN | apply Kd.R_drew)); exact HO109.out, by repeat (first | (with_reducible first | exact HB.out | apply below_alloc | apply pw_below_drewN | apply below_drew1) | exact HB.out)⟩
    · rw [if_neg c6] at H
      have c6b0 : (t106 == 0) = false := beq_eq_false_iff_ne.mpr c6
      have c6b1 : (t106 != 0) = true := bne_iff_ne.mpr c6
      simp only [Option.some.injEq, Prod.mk.injEq] at H
      obtain ⟨rfl, rfl⟩ := H
      go_enter Try.func41, Try.ntmps41
      go_wp2_with (first | ((with_reducible refine gate_callee (f := 45) rfl ?_); refine goesL_ (some 9) rfl rfl Try.func45 (by kernel_rfl) rfl #[.slice A0 l0.length c0] rfl (by (try simp only [List.map_toArray, List.map_cons, List.map_nil]); first | done | rfl | (simp only [List.length_drop, List.length_take]; rfl)) ?_; (with_reducible refine (rows_Check.calls k _ _ l0 t105 _ ?side1 ?side2 A3.out).mono ?_); (case side1 => repeat (first | exact HR0.out | (with_reducible refine Kd.C_alloc ?_ _) | (with_reducible refine Kd.C_drewN ?_ _) | (with_reducible refine Kd.C_drew ?_))); (case side2 => exact HC0.out); rintro e w11 ⟨rfl, hb⟩; refine ⟨_, rfl, ?_⟩; have n0_ := Aside0.mk (below_step (by repeat (first | (with_reducible first | exact HB.out | apply below_alloc | apply pw_below_drewN | apply below_drew1) | exact HB.out)) hb); clear HB; have HB := n0_; clear n0_; (try clear hb); (try clear hb2); (try clear hk); (try clear hi)) | ((with_reducible refine gate_callee (f := 63) rfl ?_); refine goesL_ (some 15) rfl rfl Try.func63 (by kernel_rfl) rfl #[.slice A0 l0.length c0, .slice A1 l1.length c1] rfl (by (try simp only [List.map_toArray, List.map_cons, List.map_nil]); first | done | rfl | (simp only [List.length_drop, List.length_take]; rfl)) ?_; (with_reducible refine (rows_Fault.calls _ _ l0 _ _ l1 t106 _ ?side1 ?side2 ?side3 ?side4 A5.out).mono ?_); (case side1 => repeat (first | exact (Kd.C_below HR0.out HB.out) | (with_reducible refine Kd.C_alloc ?_ _) | (with_reducible refine Kd.C_drewN ?_ _) | (with_reducible refine Kd.C_drew ?_))); (case side2 => exact HC0.out); (case side3 => repeat (first | exact (Kd.C_below HR1.out HB.out) | (with_reducible refine Kd.C_alloc ?_ _) | (with_reducible refine Kd.C_drewN ?_ _) | (with_reducible refine Kd.C_drew ?_))); (case side4 => exact HC1.out); rintro e w12 ⟨rfl, hb⟩; refine ⟨_, rfl, ?_⟩; have n0_ := Aside0.mk (below_step (by repeat (first | (with_reducible first | exact HB.out | apply below_alloc | apply pw_below_drewN | apply below_drew1) | exact HB.out)) hb); clear HB; have HB := n0_; clear n0_; (try clear hb); (try clear hb2); (try clear hk); (try clear hi)))
      go_ret2
      exact ⟨_, by first | rfl | (simp [errW_none, errW_some] <;> rfl) | (simp [*, errW_none, errW_some] <;> rfl), by first | exact Kd.R_nil _ _ _ _ _ | exact Kd.N_nil _ _ _ _ _ | exact Kd.V_nil _ _ _ _ _ | exact Kd.Q_nil _ _ _ _ _ | exact Kd.S_nil _ _ _ _ _, by repeat (first | (with_reducible first | exact HB.out | apply below_alloc | apply pw_below_drewN | apply below_drew1) | exact HB.out)⟩
  · rw [if_neg c4] at H
    have c4b0 : (t105 == 0) = false := beq_eq_false_iff_ne.mpr c4
    have c4b1 : (t105 != 0) = true := bne_iff_ne.mpr c4
    simp only [Option.some.injEq, Prod.mk.injEq] at H
    obtain ⟨rfl, rfl⟩ := H
    go_enter Try.func41, Try.ntmps41
    go_wp2_with (first | ((with_reducible refine gate_callee (f := 45) rfl ?_); refine goesL_ (some 9) rfl rfl Try.func45 (by kernel_rfl) rfl #[.slice A0 l0.length c0] rfl (by (try simp only [List.map_toArray, List.map_cons, List.map_nil]); first | done | rfl | (simp only [List.length_drop, List.length_take]; rfl)) ?_; (with_reducible refine (rows_Check.calls k _ _ l0 t105 _ ?side1 ?side2 A3.out).mono ?_); (case side1 => repeat (first | exact HR0.out | (with_reducible refine Kd.C_alloc ?_ _) | (with_reducible refine Kd.C_drewN ?_ _) | (with_reducible refine Kd.C_drew ?_))); (case side2 => exact HC0.out); rintro e w13 ⟨rfl, hb⟩; refine ⟨_, rfl, ?_⟩; have n0_ := Aside0.mk (below_step (by repeat (first | (with_reducible first | exact HB.out | apply below_alloc | apply pw_below_drewN | apply below_drew1) | exact HB.out)) hb); clear HB; have HB := n0_; clear n0_; (try clear hb); (try clear hb2); (try clear hk); (try clear hi)))
    go_ret2
    exact ⟨_, by first | rfl | (simp [errW_none, errW_some] <;> rfl) | (simp [*, errW_none, errW_some] <;> rfl), by first | exact Kd.R_nil _ _ _ _ _ | exact Kd.N_nil _ _ _ _ _ | exact Kd.V_nil _ _ _ _ _ | exact Kd.Q_nil _ _ _ _ _ | exact Kd.S_nil _ _ _ _ _, by repeat (first | (with_reducible first | exact HB.out | apply below_alloc | apply pw_below_drewN | apply below_drew1) | exact HB.out)⟩

/-! ### bagnallkeep_copiedRows: function 42 -/
def bagnallkeep_copiedRows.f (l0 : List (S67)) : Option ((List (S67))) := if ([] : List (S67)).length + l0.length < 4398046511104 then (some (([] : List (S67)) ++ l0)) else (none)
set_option maxHeartbeats 8000000 in
set_option maxRecDepth 100000 in
theorem bagnallkeep_copiedRows.calls (A0 : Option Addr) (c0 : Nat) (l0 : List (S67)) (r : List (S67)) (w : World) (hr0 : Kd.C k67 w A0 l0.length l0) (hc0 : l0.length ≤ c0) (h : bagnallkeep_copiedRows.f l0 = some r) :
    Calls Try.prog 42 #[.slice A0 l0.length c0] w fun e w' => ∃ v0_ : Value, e = .returned (v0_) ∧ Kd.R k67 67 w' w.heap.size (fun _ => True) v0_ r ∧ Below w.heap.size w w' := by
  have HR0 := Aside0.mk hr0
  have HC0 := Aside0.mk hc0
  clear hr0 hc0
  have HB := Aside0.mk (Below.refl w.heap.size w)
  have H : (if ([] : List (S67)).length + l0.length < 4398046511104 then (some (([] : List (S67)) ++ l0)) else (none)) = some r := h
  clear h
  by_cases c2 : ([] : List (S67)).length + l0.length < 4398046511104
  · rw [if_pos c2] at H
    have LMc2 := Aside0.mk c2
    clear c2
    obtain ⟨y110, hy110⟩ : ∃ y_ : List (S67), y_ = (([] : List (S67)) ++ l0) := ⟨_, rfl⟩
    replace H : (some y110) = some r := by first | (rw [hy110]; with_reducible exact H) | (have H2_ := (Option.bind_some _ _).symm.trans H; rw [hy110]; with_reducible exact H2_) | (have H2_ := (Option.bind_some _ _).symm.trans H; with_reducible exact H2_) | with_reducible exact H | (rw [hy110]; exact H) | exact H
    have Ny110 := Aside0.mk hy110
    clear hy110
    obtain rfl := Option.some.inj H
    go_enter Try.func42, Try.ntmps42
    go_wp2_with (first | ((with_reducible refine gate_builtin (b := .append) (xs := #[.const _, .tmp 3]) rfl ?_); at_builtin; refine Kd.R_append_rows k67 (w0 := w) w.heap.size rfl (.const (.slice none 0 0)) (.tmp 3) 58 67 (.agg #[(.string ⟨#[]⟩), (.string ⟨#[]⟩)]) 32 rfl Try.underlying58 info67 rfl (by decide) (by omega) (.slice none 0 0) ([] : List (S67)) l0 _ _ _ (fun _ => True) (fun _ => False) rfl rfl ?aO ?aR (fun _ _ h => h) (fun _ h => h.elim) ?aF ?aB ?aS ?aL ?_; (case aR => repeat (first | exact HR0.out | (with_reducible refine Kd.C_alloc ?_ _) | (with_reducible refine Kd.C_drewN ?_ _) | (with_reducible refine Kd.C_drew ?_))); (case aB => exact (by repeat (first | (with_reducible first | exact HB.out | apply below_alloc | apply pw_below_drewN | apply below_drew1) | exact HB.out))); (case aF => exact (fun _ _ => trivial)); (case aO => exact ((Kd.R_nil _ _ _ _ (fun _ => True)))); (case aS => exact (below_size (by repeat (first | (with_reducible first | exact HB.out | apply below_alloc | apply pw_below_drewN | apply below_drew1) | exact HB.out)))); (case aL => have := LMc2.out; omega); intro v111 w3 ho hb hg hat; rw [← Ny110.out] at ho; have n0_ := Aside0.mk (hb); have n1_ := Aside0.mk (ho); clear HB; have HB := n0_; have HO112 := n1_; clear n0_ n1_; clear ho hb hg hat))
    go_ret
    exact ⟨_, by first | rfl | (simp [errW_none, errW_some] <;> rfl) | (simp [*, errW_none, errW_some] <;> rfl), by (with_reducible repeat (first | apply Kd.R_alloc | apply Kd.R_drewN | apply Kd.R_drew)); exact HO112.out, by repeat (first | (with_reducible first | exact HB.out | apply below_alloc | apply pw_below_drewN | apply below_drew1) | exact HB.out)⟩
  · rw [if_neg c2] at H
    exact absurd H (by simp)

end Go.Proofs.Ytmfkgbncnaingaa.QRows
end

section
/- Functions of the program as plain functions, and the walks that show it. Written by the session's own program pp.py. -/
namespace Go.Proofs.Ytmfkgbncnaingaa.QRows
open Go.RowKit Go.Proofs.YtmfkgbncnaingaaW.PrintWords Go.Proofs.YtmfkgbncnaingaaW.PrintLast Go.Proofs.YtmfkgbncnaingaaW.PrintMore
attribute [local go_sem] max2_int min2_int max_two min_two max_three min_three max_four min_four   -- for this text's walks alone
set_option linter.unusedVariables false
set_option linter.unusedSimpArgs false

/-! ### bagnallkeep_rowsOf: function 40 -/
def bagnallkeep_rowsOf.f (k : Nat) (l0 : List (S67)) : Option ((List (S67)) × Bool) := (bagnallkeep_copiedRows.f l0).bind fun t113 => ((rows_Set.f k ([] : List (S67)) t113).bind fun bt116 => ((rows_Set.f k ([] : List (S67)) (([(⟨(⟨#[107]⟩ : ByteArray), (⟨#[118]⟩ : ByteArray)⟩ : S67)] : List (S67)))).bind fun bt123 => (if bt116.2 = 0 then (if bt123.2 = 0 then (if (bt123.1.length : Int) = 1 then (if 0 < (bt123.1.length : Int) then (some (bt116.1, (((rd_T67 bt123.1 0).f1).toList == ([118] : List UInt8)))) else (none)) else (some (bt116.1, false))) else (some (bt116.1, false))) else (some (bt116.1, false)))))
theorem bagnallkeep_rowsOf.mono : ∀ a0 k, LeO (bagnallkeep_rowsOf.f k a0) (bagnallkeep_rowsOf.f (k + 1) a0) := by
  intro a0 k
  unfold bagnallkeep_rowsOf.f
  repeat' first
      | (with_reducible exact rows_Set.mono _ _ _)
      | (with_reducible exact LeO.refl _)
      | (with_reducible exact LeO.none _)
      | (with_reducible refine LeO.ite ?_ ?_)
      | (with_reducible refine LeO.bind ?_ (fun _ => ?_))
      | exact rows_Set.mono _ _ _
      | exact LeO.none _
      | refine LeO.ite ?_ ?_
      | refine LeO.bind ?_ (fun _ => ?_)
set_option maxHeartbeats 8000000 in
set_option maxRecDepth 100000 in
theorem bagnallkeep_rowsOf.calls (k : Nat) (A0 : Option Addr) (c0 : Nat) (l0 : List (S67)) (r1 : List (S67)) (r2 : Bool) (w : World) (hr0 : Kd.C k67 w A0 l0.length l0) (hc0 : l0.length ≤ c0) (h : bagnallkeep_rowsOf.f k l0 = some (r1, r2)) :
    Calls Try.prog 40 #[.slice A0 l0.length c0] w fun e w' => ∃ v0_ : Value, e = .returned (.tuple #[v0_, .bool r2]) ∧ Kd.R k67 67 w' w.heap.size (fun _ => True) v0_ r1 ∧ Below w.heap.size w w' := by
  unfold bagnallkeep_rowsOf.f at h
  obtain ⟨t, ht, h⟩ := Option.bind_eq_some_iff.1 h
  obtain ⟨⟨x, e1⟩, hx, h⟩ := Option.bind_eq_some_iff.1 h
  obtain ⟨⟨y, e2⟩, hy, h⟩ := Option.bind_eq_some_iff.1 h
  dsimp only at h
  have HR := Aside0.mk hr0
  have HC := Aside0.mk hc0
  have HT := Aside0.mk ht
  have HX := Aside0.mk hx
  have HY := Aside0.mk hy
  have HH := Aside0.mk h
  clear hr0 hc0 ht hx hy h
  go_enter Try.func40, Try.ntmps40
  go_upto_region 2 with (first | (go_at_call 42; refine (bagnallkeep_copiedRows.calls A0 c0 l0 t w HR.out HC.out HT.out).mono ?_; rintro e w1 ⟨v1, rfl, hv, hb⟩; obtain ⟨A1, c1, rfl, hc1, hC1⟩ := Kd.R_reads hv; have HC1 := Aside0.mk hC1; have HL1 := Aside0.mk hc1; have HB1 := Aside0.mk hb; clear hv hb hC1 hc1) | (go_at_call 41; refine (rows_Set.calls k none 0 [] A1 c1 t x e1 _ (Kd.C_nil _ _) (Nat.le_refl _) HC1.out HL1.out HX.out).mono ?_; rintro e w2 ⟨v2, rfl, hv, hb⟩; have HV2 := Aside0.mk (Kd.R_lower hv HB1.out.size); have HB2 := Aside0.mk (HB1.out.trans (hb.mono HB1.out.size)); clear hv hb))
  go_upto_region 3 with (go_at_call 41; refine (rows_Set.calls k none 0 [] (some ⟨w2.heap.size, 0, none⟩) 1 [(⟨(⟨#[107]⟩ : ByteArray), (⟨#[118]⟩ : ByteArray)⟩ : S67)] y e2 _ (Kd.C_nil _ _) (Nat.le_refl _) (Go.Proofs.Ytmfkgbncnaingaa.Rows.one_reads (c := (⟨(⟨#[107]⟩ : ByteArray), (⟨#[118]⟩ : ByteArray)⟩ : S67)) (Go.Proofs.Ytmfkgbncnaingaa.Rows.alloc_at _ _)) (Nat.le_refl _) HY.out).mono ?_; rintro e w3 ⟨v3, rfl, hv, hb⟩; have hz := (below_alloc (Below.refl _ _) _).trans (hb.mono (by show w2.heap.size ≤ (w2.heap.push _).size; rw [Array.size_push]; omega)); have HV := Aside0.mk (Kd.R_below HV2.out hz); have HB := Aside0.mk (HB2.out.trans (hz.mono HB2.out.size)); have HW := Aside0.mk hv; clear hv hb hz)
  obtain ⟨A3, c3, rfl, hc3, hC3⟩ := Kd.R_reads HW.out
  have HC3 := Aside0.mk hC3
  clear hc3 hC3
  by_cases h1 : e1 = 0
  · subst h1
    by_cases h2 : e2 = 0
    · subst h2
      by_cases h3 : y.length = 1
      · obtain ⟨ad, rfl, hq0, hq1⟩ := at_T67 HC3.out (0 : Int) (by omega) (by omega)
        have hr : Aside0 (r1 = x ∧ r2 = ((rd_T67 y 0).f1.toList == ([118] : List UInt8))) := Aside0.mk (by
          have h := HH.out
          rw [if_pos rfl, if_pos rfl, if_pos (by omega), if_pos (by omega)] at h
          simp only [Option.some.injEq, Prod.mk.injEq] at h
          exact ⟨h.1.symm, h.2.symm⟩)
        obtain ⟨z, hz⟩ : ∃ z, z = rd_T67 y 0 := ⟨_, rfl⟩
        rw [← hz] at hq0 hq1 hr
        obtain ⟨rfl, rfl⟩ := hr.out
        clear hz HH hr
        have e0 : ad.add ((0 : Int).toNat * 2) = ad := by
          have : ((0 : Int).toNat * 2) = 0 := rfl
          rw [this]; unfold Addr.add; split <;> simp_all
        rw [e0] at hq0 hq1
        have h3' : (y.length : Int) = 1 := by omega
        have h3 : y.length = 1 := by omega
        rw [h3] at *
        go_quiet (fail)
        go_wp2
        go_ret2
        exact ⟨_, rfl, Kd.R_drewN HV.out _, pw_below_drewN HB.out _⟩
      · have hr : Aside0 (r1 = x ∧ r2 = false) := Aside0.mk (by
          have h := HH.out
          rw [if_pos rfl, if_pos rfl, if_neg (by omega)] at h
          simp only [Option.some.injEq, Prod.mk.injEq] at h
          exact ⟨h.1.symm, h.2.symm⟩)
        obtain ⟨rfl, rfl⟩ := hr.out
        clear HH hr
        have h3' : ((y.length : Int) = 1) = False := eq_false (by omega)
        go_quiet (fail)
        go_wp2
        go_ret2
        exact ⟨_, rfl, Kd.R_drewN HV.out _, pw_below_drewN HB.out _⟩
    · have hr : Aside0 (r1 = x ∧ r2 = false) := Aside0.mk (by
        have h := HH.out
        rw [if_pos rfl, if_neg h2] at h
        simp only [Option.some.injEq, Prod.mk.injEq] at h
        exact ⟨h.1.symm, h.2.symm⟩)
      obtain ⟨rfl, rfl⟩ := hr.out
      have h2' : (e2 = 0) = False := eq_false h2
      clear HH hr h2
      go_quiet (fail)
      go_wp2
      go_ret2
      exact ⟨_, rfl, Kd.R_drewN HV.out _, pw_below_drewN HB.out _⟩
  · have hr : Aside0 (r1 = x ∧ r2 = false) := Aside0.mk (by
      have h := HH.out
      rw [if_neg h1] at h
      simp only [Option.some.injEq, Prod.mk.injEq] at h
      exact ⟨h.1.symm, h.2.symm⟩)
    obtain ⟨rfl, rfl⟩ := hr.out
    have h1' : (e1 = 0) = False := eq_false h1
    clear HH hr h1
    go_quiet (fail)
    go_wp2
    go_ret2
    exact ⟨_, rfl, Kd.R_drewN HV.out _, pw_below_drewN HB.out _⟩

end Go.Proofs.Ytmfkgbncnaingaa.QRows
end

section
/- Functions of the program as plain functions, and the walks that show it. Written by the session's own program pp.py. -/
namespace Go.Proofs.Ytmfkgbncnaingaa.QRows
open Go.RowKit Go.Proofs.YtmfkgbncnaingaaW.PrintWords Go.Proofs.YtmfkgbncnaingaaW.PrintLast Go.Proofs.YtmfkgbncnaingaaW.PrintMore
attribute [local go_sem] max2_int min2_int max_two min_two max_three min_three max_four min_four   -- for this text's walks alone
set_option linter.unusedVariables false
set_option linter.unusedSimpArgs false

theorem eqA67 (d : Nat) (w : World) (x0 y0 : ByteArray) (x1 y1 : ByteArray) :
    (Op.equalIn (d + 2) 67 (.agg #[.string x0, .string x1]) (.agg #[.string y0, .string y1])).run Try.prog w = .ok (x0.toList == y0.toList && (x1.toList == y1.toList)) w := by
  refine eqA_of Try.underlying67 (by kernel_rfl) ?_
  refine eqf_cons (by rfl) (by go_simp; rfl) (by go_simp; rfl) (by go_simp) ?_
  exact eqf_last (by rfl) (by go_simp; rfl) (by go_simp; rfl) (by go_simp)
end Go.Proofs.Ytmfkgbncnaingaa.QRows
end

section
/- Functions of the program as plain functions, and the walks that show it. Written by the session's own program pp.py. -/
namespace Go.Proofs.Ytmfkgbncnaingaa.QRows
open Go.RowKit Go.Proofs.YtmfkgbncnaingaaW.PrintWords Go.Proofs.YtmfkgbncnaingaaW.PrintLast Go.Proofs.YtmfkgbncnaingaaW.PrintMore
attribute [local go_sem] max2_int min2_int max_two min_two max_three min_three max_four min_four   -- for this text's walks alone
set_option linter.unusedVariables false
set_option linter.unusedSimpArgs false

attribute [local go_sem high] eqA67
/-! ### bagnallkeep_sameRows: function 43 -/
def bagnallkeep_sameRows.l0 : Nat → List (S67) → List (S67) → Int → Option (Bool)
  | 0, _, _, _ => none
  | k + 1, x0, x1, x5 => if x5 < (x0.length : Int) then (if 0 ≤ x5 then (if x5 < (x1.length : Int) then (if (!((((rd_T67 x0 x5).f0).toList) == (((rd_T67 x1 x5).f0).toList)) || (!((((rd_T67 x0 x5).f1).toList) == (((rd_T67 x1 x5).f1).toList)))) = true then (some false) else (bagnallkeep_sameRows.l0 k x0 x1 (wrap64 (x5 + 1)))) else (none)) else (none)) else (some true)
def bagnallkeep_sameRows.f (k : Nat) (l0 : List (S67)) (l1 : List (S67)) : Option (Bool) := if (l0.length : Int) = (l1.length : Int) then (bagnallkeep_sameRows.l0 k l0 l1 0) else (some false)
theorem bagnallkeep_sameRows.mono_l : ∀ k, (∀ y0 y1 y2, LeO (bagnallkeep_sameRows.l0 k y0 y1 y2) (bagnallkeep_sameRows.l0 (k + 1) y0 y1 y2))
  | 0 => fun _ _ _ r h => by simp [bagnallkeep_sameRows.l0] at h
  | k + 1 => by
    have ih0 := bagnallkeep_sameRows.mono_l k
    · intro y0 y1 y2
      unfold bagnallkeep_sameRows.l0
      repeat' first
      | (with_reducible exact ih0 _ _ _)
      | (with_reducible exact LeO.refl _)
      | (with_reducible exact LeO.none _)
      | (with_reducible refine LeO.ite ?_ ?_)
      | (with_reducible refine LeO.bind ?_ (fun _ => ?_))
      | exact ih0 _ _ _
      | exact LeO.none _
      | refine LeO.ite ?_ ?_
      | refine LeO.bind ?_ (fun _ => ?_)
theorem bagnallkeep_sameRows.mono : ∀ a0 a1 k, LeO (bagnallkeep_sameRows.f k a0 a1) (bagnallkeep_sameRows.f (k + 1) a0 a1) := by
  intro a0 a1 k
  have ih0 := bagnallkeep_sameRows.mono_l k
  unfold bagnallkeep_sameRows.f
  repeat' first
      | (with_reducible exact ih0 _ _ _)
      | (with_reducible exact LeO.refl _)
      | (with_reducible exact LeO.none _)
      | (with_reducible refine LeO.ite ?_ ?_)
      | (with_reducible refine LeO.bind ?_ (fun _ => ?_))
      | exact ih0 _ _ _
      | exact LeO.none _
      | refine LeO.ite ?_ ?_
      | refine LeO.bind ?_ (fun _ => ?_)
set_option maxHeartbeats 8000000 in
set_option maxRecDepth 100000 in
theorem bagnallkeep_sameRows.calls (k : Nat) (A0 : Option Addr) (c0 : Nat) (l0 : List (S67)) (A1 : Option Addr) (c1 : Nat) (l1 : List (S67)) (r : Bool) (w : World) (hr0 : Kd.C k67 w A0 l0.length l0) (hc0 : l0.length ≤ c0) (hr1 : Kd.C k67 w A1 l1.length l1) (hc1 : l1.length ≤ c1) (h : bagnallkeep_sameRows.f k l0 l1 = some r) :
    Calls Try.prog 43 #[.slice A0 l0.length c0, .slice A1 l1.length c1] w fun e w' => e = .returned (.bool r) ∧ Drawn0 w w' := by
  have hu67 := Try.underlying67
  have HR0 := Aside0.mk hr0
  have HC0 := Aside0.mk hc0
  clear hr0 hc0
  have HR1 := Aside0.mk hr1
  have HC1 := Aside0.mk hc1
  clear hr1 hc1
  have H : (if (l0.length : Int) = (l1.length : Int) then (bagnallkeep_sameRows.l0 k l0 l1 0) else (some false)) = some r := h
  clear h
  by_cases c3 : (l0.length : Int) = (l1.length : Int)
  · rw [if_pos c3] at H
    have c3b0 : ((l0.length : Int) == (l1.length : Int)) = true := beq_iff_eq.mpr c3
    have c3b1 : ((l0.length : Int) != (l1.length : Int)) = false := bne_eq_false_iff_eq.mpr c3
    have c3b2 : (l0.length == l1.length) = true := by first | simpa using c3 | (simp at c3 ⊢; omega)
    clear c3
    have H' := Aside0.mk H
    clear H
    go_enter Try.func43, Try.ntmps43
    go_wp2
    repeat (go_quiet (fail); try go_wp2)
    go_loopg [5] k (fun kq v5 w' => ∃ (x5_1 : Int), v5 = .int .i64 x5_1 ∧ Aside0 (bagnallkeep_sameRows.l0 kq l0 l1 x5_1 = some r) ∧ Aside0 (kq ≤ k) ∧ Drawn0 w w')
    case atStart => exact ⟨(0), (by first | rfl | (simp; done) | (simp [*]; done)), H', ⟨Nat.le_refl _⟩, by repeat (first | exact Drawn0.refl _ | apply Drawn0.step)⟩
    case round =>
      clear H'
      try clear c1
      try clear p2
      try clear c3
      try clear c3b0
      try clear c3b1
      try clear c3b2
      obtain ⟨x5_1, rfl, HA, HK1, ⟨m1, rfl⟩⟩ := hrel
      cases gk with
      | zero => exact absurd HA.out (by simp [bagnallkeep_sameRows.l0])
      | succ k1 =>
        have H := HA.out
        clear HA
        simp only [bagnallkeep_sameRows.l0] at H
        by_cases c4 : x5_1 < (l0.length : Int)
        · rw [if_pos c4] at H
          have c4b0 : decide (x5_1 < (l0.length : Int)) = true := decide_eq_true c4
          clear c4
          by_cases c5 : 0 ≤ x5_1
          · rw [if_pos c5] at H
            have c5b0 : decide (0 ≤ x5_1) = true := decide_eq_true c5
            clear c5
            by_cases c6 : x5_1 < (l1.length : Int)
            · rw [if_pos c6] at H
              have c6b0 : decide (x5_1 < (l1.length : Int)) = true := decide_eq_true c6
              clear c6
              by_cases c7 : (!((((rd_T67 l0 x5_1).f0).toList) == (((rd_T67 l1 x5_1).f0).toList)) || (!((((rd_T67 l0 x5_1).f1).toList) == (((rd_T67 l1 x5_1).f1).toList)))) = true
              · rw [if_pos c7] at H
                have c7b0 : (!((((rd_T67 l0 x5_1).f0).toList) == (((rd_T67 l1 x5_1).f0).toList)) || (!((((rd_T67 l0 x5_1).f1).toList) == (((rd_T67 l1 x5_1).f1).toList)))) = true := c7
                clear c7
                obtain rfl := Option.some.inj H
                have p157 : 0 ≤ (x5_1 : Int) := of_decide_eq_true (by first | (with_reducible assumption) | assumption)
                have q157 : x5_1 < (l0.length : Int) := of_decide_eq_true (by first | (with_reducible assumption) | assumption)
                obtain ⟨ad157, e157, hx157_0, hx157_1⟩ := at_T67 HR0.out x5_1 p157 q157
                cases e157
                replace p157 := eq_true p157
                replace q157 := eq_true q157
                have p158 : 0 ≤ (x5_1 : Int) := of_decide_eq_true (by first | (with_reducible assumption) | assumption)
                have q158 : x5_1 < (l1.length : Int) := of_decide_eq_true (by first | (with_reducible assumption) | assumption)
                obtain ⟨ad158, e158, hx158_0, hx158_1⟩ := at_T67 HR1.out x5_1 p158 q158
                cases e158
                replace p158 := eq_true p158
                replace q158 := eq_true q158
                go_wp2
                repeat (go_quiet (fail); try go_wp2)
                go_ret
                exact ⟨by first | rfl | (simp; done) | (simp [*]; done), by repeat (first | exact Drawn0.refl _ | apply Drawn0.step)⟩
              · rw [if_neg c7] at H
                have c7b0 : (!((((rd_T67 l0 x5_1).f0).toList) == (((rd_T67 l1 x5_1).f0).toList)) || (!((((rd_T67 l0 x5_1).f1).toList) == (((rd_T67 l1 x5_1).f1).toList)))) = false := by simpa using c7
                clear c7
                have H' := Aside0.mk H
                clear H
                have p157 : 0 ≤ (x5_1 : Int) := of_decide_eq_true (by first | (with_reducible assumption) | assumption)
                have q157 : x5_1 < (l0.length : Int) := of_decide_eq_true (by first | (with_reducible assumption) | assumption)
                obtain ⟨ad157, e157, hx157_0, hx157_1⟩ := at_T67 HR0.out x5_1 p157 q157
                cases e157
                replace p157 := eq_true p157
                replace q157 := eq_true q157
                have p158 : 0 ≤ (x5_1 : Int) := of_decide_eq_true (by first | (with_reducible assumption) | assumption)
                have q158 : x5_1 < (l1.length : Int) := of_decide_eq_true (by first | (with_reducible assumption) | assumption)
                obtain ⟨ad158, e158, hx158_0, hx158_1⟩ := at_T67 HR1.out x5_1 p158 q158
                cases e158
                replace p158 := eq_true p158
                replace q158 := eq_true q158
                go_wp2
                repeat (go_quiet (fail); try go_wp2)
                go_roundg k1
                case measure => have := HK1.out; omega
                case rel => exact ⟨(wrap64 (x5_1 + 1)), (by first | rfl | (simp; done) | (simp [*]; done)), H', ⟨by have := HK1.out; omega⟩, by repeat (first | exact Drawn0.refl _ | apply Drawn0.step)⟩
            · rw [if_neg c6] at H
              exact absurd H (by simp)
          · rw [if_neg c5] at H
            exact absurd H (by simp)
        · rw [if_neg c4] at H
          have c4b0 : decide (x5_1 < (l0.length : Int)) = false := decide_eq_false c4
          clear c4
          obtain rfl := Option.some.inj H
          go_wp2
          repeat (go_quiet (fail); try go_wp2)
          go_ret
          exact ⟨by first | rfl | (simp; done) | (simp [*]; done), by repeat (first | exact Drawn0.refl _ | apply Drawn0.step)⟩
  · rw [if_neg c3] at H
    have c3b0 : ((l0.length : Int) == (l1.length : Int)) = false := beq_eq_false_iff_ne.mpr c3
    have c3b1 : ((l0.length : Int) != (l1.length : Int)) = true := bne_iff_ne.mpr c3
    have c3b2 : (l0.length == l1.length) = false := by first | simpa using c3 | (simp at c3 ⊢; omega)
    obtain rfl := Option.some.inj H
    go_enter Try.func43, Try.ntmps43
    go_wp2
    repeat (go_quiet (fail); try go_wp2)
    go_ret
    exact ⟨by first | rfl | (simp; done) | (simp [*]; done), by repeat (first | exact Drawn0.refl _ | apply Drawn0.step)⟩

end Go.Proofs.Ytmfkgbncnaingaa.QRows
end

section
/- Tables of good changes: what Set, rowsOf and sameRows come to, and what the laws' changes are. -/
namespace Go.Proofs.Ytmfkgbncnaingaa.Rows
open Go.RowKit Go.Lib Go.Proofs.Ytmfkgbncnaingaa.QRows Go.Proofs.YtmfkgbncnaingaaW.PrintWords Go.Proofs.YtmfkgbncnaingaaW.PrintLast Go.Proofs.YtmfkgbncnaingaaW.PrintMore

/-- A change that may be. -/
def Small (c : S67) : Prop := keyOk c.f0 = true ∧ c.f1.size ≤ 20
/-- A table that may be. -/
structure Good (T : List S67) : Prop where
  sorted : Sorted T
  fine : ∀ x ∈ T, Fine x
  room : T.length ≤ 40
theorem Good.nil : Good [] := ⟨List.Pairwise.nil, fun _ h => (by cases h), by simp⟩
theorem not_odd {cs : List S67} (h : ∀ c ∈ cs, Small c) : cs.any odd = false := by
  rw [List.any_eq_false]
  intro c hc
  obtain ⟨h1, h2⟩ := h c hc
  unfold odd
  rw [h1, decide_eq_false (by omega)]; simp
theorem lastOf_key {cs : List S67} {k : List UInt8} {c : S67} (h : lastOf cs k = some c) : c ∈ cs ∧ c.f0.toList = k := by
  revert h
  refine snoc_cases (P := fun cs => lastOf cs k = some c → c ∈ cs ∧ c.f0.toList = k) ?_ ?_ cs
  · intro h; cases h
  · intro l d ih h
    rw [lastOf_snoc] at h
    split at h
    · rename_i hd
      obtain rfl := Option.some.inj h
      exact ⟨by simp, hd⟩
    · exact ⟨List.mem_append_left _ (ih h).1, (ih h).2⟩
theorem changed_fine {T cs : List S67} (hT : Sorted T) (hf : ∀ x ∈ T, Fine x) (hc : ∀ c ∈ cs, Small c) : ∀ x ∈ changed T cs, Fine x := by
  intro x hx
  rw [changed_mem T hT] at hx
  unfold Stands at hx
  cases hl : lastOf cs x.f0.toList with
  | none => rw [hl] at hx; exact hf x hx
  | some c =>
    rw [hl] at hx
    obtain ⟨rfl, hne⟩ := hx
    obtain ⟨h1, h2⟩ := hc x (lastOf_key hl).1
    exact ⟨h1, h2, hne⟩
theorem Good.changed {T cs : List S67} (h : Good T) (hc : ∀ c ∈ cs, Small c) (hl : (changed T cs).length ≤ 40) : Good (changed T cs) :=
  ⟨changed_sorted _ _ h.sorted, changed_fine h.sorted h.fine hc, hl⟩
theorem check_ok' {T : List S67} (h : Good T) {m : Nat} (hm : 81 ≤ m) : rows_Check.f m T = some 0 :=
  at_rounds (g := fun k => rows_Check.f k T) (fun k => rows_Check.mono T k) (show 2 * T.length + 1 ≤ m by have := h.room; omega) (check_ok T h.sorted h.fine h.room)
theorem set_ok {T cs : List S67} (h : Good T) (hc : ∀ c ∈ cs, Small c) (hn : cs.length ≤ 60) (hl : (changed T cs).length ≤ 40) {m : Nat} (hm : 81 ≤ m) : rows_Set.f m T cs = some (changed T cs, 0) := by
  unfold rows_Set.f
  have hr := h.room
  rw [check_ok' h hm, Option.bind_some, if_pos rfl]
  unfold rows_Fault.f
  rw [if_pos (by omega), Option.bind_some]
  have hf : faultOf T cs = 0 := by
    unfold faultOf
    rw [if_neg (by omega), if_neg (by rw [not_odd hc]; simp), if_neg (by omega)]
  rw [hf, if_pos rfl]
  unfold rows_Changed.f
  rw [if_pos (by omega), Option.bind_some]
theorem copied_is (l : List S67) (h : l.length < 4398046511104) : bagnallkeep_copiedRows.f l = some l := by
  unfold bagnallkeep_copiedRows.f
  rw [if_pos (by simpa using h)]; rfl
theorem rowsOf_ok {cs : List S67} (hc : ∀ c ∈ cs, Small c) (hn : cs.length ≤ 60) (hl : (changed [] cs).length ≤ 40) {m : Nat} (hm : 81 ≤ m) : bagnallkeep_rowsOf.f m cs = some (changed [] cs, true) := by
  unfold bagnallkeep_rowsOf.f
  have h1 : changed [] [(⟨(⟨#[107]⟩ : ByteArray), (⟨#[118]⟩ : ByteArray)⟩ : S67)] = [(⟨(⟨#[107]⟩ : ByteArray), (⟨#[118]⟩ : ByteArray)⟩ : S67)] := by
    show change [] _ = _
    have h0 : found ([] : List S67) (⟨#[107]⟩ : ByteArray) = (0, false) := by
      unfold found; rw [bs]; rfl
    unfold change
    rw [h0, if_neg (by simp), if_neg (by decide +kernel)]; rfl
  rw [copied_is cs (by omega), Option.bind_some, set_ok Good.nil hc hn hl hm, Option.bind_some, set_ok (m := m) Good.nil (fun c hc => by rw [List.mem_singleton.1 hc]; exact ⟨by decide +kernel, by decide⟩) (by simp) (by rw [h1]; simp) hm, Option.bind_some, h1]
  dsimp only
  rw [if_pos rfl, if_pos rfl, if_pos (by decide), if_pos (by decide), show ((rd_T67 [(⟨(⟨#[107]⟩ : ByteArray), (⟨#[118]⟩ : ByteArray)⟩ : S67)] 0).f1.toList == ([118] : List UInt8)) = true by decide +kernel]

theorem same_loop (a : List S67) (hl : a.length ≤ 1000000) : ∀ (d i : Nat), i + d = a.length → bagnallkeep_sameRows.l0 (d + 1) a a (i : Int) = some true := by
  intro d
  induction d with
  | zero => intro i hi; rw [bagnallkeep_sameRows.l0, if_neg (by omega)]
  | succ d ih =>
    intro i hi
    rw [bagnallkeep_sameRows.l0, if_pos (by omega), if_pos (by omega), if_pos (by omega), if_neg (by simp), show wrap64 ((i : Int) + 1) = ((i + 1 : Nat) : Int) by unfold wrap64; omega]
    exact ih (i + 1) (by omega)
theorem same_ok (a : List S67) (hl : a.length ≤ 1000000) {m : Nat} (hm : a.length < m) : bagnallkeep_sameRows.f m a a = some true := by
  unfold bagnallkeep_sameRows.f
  rw [if_pos rfl]
  exact at_rounds (g := fun k => bagnallkeep_sameRows.l0 k a a 0) (fun k => bagnallkeep_sameRows.mono_l k a a 0) (show a.length + 1 ≤ m by omega) (same_loop a hl a.length 0 (by omega))

/-! ### the laws' changes -/
theorem key8 (p : Nat) (h : p < 8) : keyOk (keyTab.getD p ⟨#[]⟩) = true := by
  match p, h with
  | 0, _ | 1, _ | 2, _ | 3, _ | 4, _ | 5, _ | 6, _ | 7, _ => decide +kernel
theorem val4 (p : Nat) (h : p < 4) : (valTab.getD p ⟨#[]⟩).size ≤ 20 := by
  match p, h with
  | 0, _ | 1, _ | 2, _ | 3, _ => decide
theorem row_small (x : Int) : Small (rowOf x) := ⟨key8 _ (pickN_lt _ _ (by omega)), val4 _ (pickN_lt _ _ (by omega))⟩
theorem changes_small (l : List Int) (n : Int) : ∀ c ∈ changesOf l n, Small c := by
  intro c hc
  obtain ⟨x, _, rfl⟩ := List.mem_map.1 hc
  exact row_small x
theorem changes_length (l : List Int) (n : Int) : (changesOf l n).length ≤ n.toNat := by
  unfold changesOf; rw [List.length_map, List.length_take]; omega
/-- The keys that the laws' changes have. -/
def keys8 : List (List UInt8) := [[97], [98], [97, 98], [97, 99], [98, 255], [107], [107, 49], [255]]
theorem key_of8 (p : Nat) (h : p < 8) : (keyTab.getD p ⟨#[]⟩).toList ∈ keys8 := by
  match p, h with
  | 0, _ | 1, _ | 2, _ | 3, _ | 4, _ | 5, _ | 6, _ | 7, _ => decide +kernel
theorem few {α : Type} [DecidableEq α] : ∀ (xs ks : List α), xs.Nodup → (∀ x ∈ xs, x ∈ ks) → xs.length ≤ ks.length := by
  intro xs
  induction xs with
  | nil => intro ks _ _; exact Nat.zero_le _
  | cons x l ih =>
    intro ks hn hs
    have hn' := List.nodup_cons.1 hn
    have h1 := ih (ks.erase x) hn'.2 (fun y hy => by
      have hne : y ≠ x := fun e => hn'.1 (e ▸ hy)
      exact (List.mem_erase_of_ne hne).2 (hs y (List.mem_cons_of_mem _ hy)))
    have h2 := List.length_erase_of_mem (hs x List.mem_cons_self)
    have h3 := List.length_pos_of_mem (hs x List.mem_cons_self)
    rw [List.length_cons]; omega
theorem sorted_nodup {T : List S67} (h : Sorted T) : (T.map fun x => x.f0.toList).Nodup := by
  rw [List.nodup_iff_pairwise_ne, List.pairwise_map]
  refine h.imp fun {a b} hab e => ?_
  rw [e, less_irrefl] at hab; cases hab
/-- A table of keys among so few has so few rows. -/
theorem changed_few {cs : List S67} (ks : List (List UInt8)) (hk : ∀ c ∈ cs, c.f0.toList ∈ ks) {T : List S67} (hT : Sorted T) (hTk : ∀ x ∈ T, x.f0.toList ∈ ks) : (changed T cs).length ≤ ks.length := by
  have h1 := few ((changed T cs).map fun x => x.f0.toList) ks (sorted_nodup (changed_sorted _ _ hT)) (fun k hkm => by
    obtain ⟨x, hx, rfl⟩ := List.mem_map.1 hkm
    rw [changed_mem T hT] at hx
    unfold Stands at hx
    cases hl : lastOf cs x.f0.toList with
    | none => rw [hl] at hx; exact hTk x hx
    | some c => rw [hl] at hx; rw [hx.1]; exact hk c (lastOf_key hl).1)
  rwa [List.length_map] at h1
theorem changes_keys (l : List Int) (n : Int) : ∀ c ∈ changesOf l n, c.f0.toList ∈ keys8 := by
  intro c hc
  obtain ⟨x, _, rfl⟩ := List.mem_map.1 hc
  exact key_of8 _ (pickN_lt _ _ (by omega))
theorem changes_few (l : List Int) (n : Int) : (changed [] (changesOf l n)).length ≤ 40 := by
  have := changed_few keys8 (changes_keys l n) (T := []) List.Pairwise.nil (fun _ h => by cases h)
  have h : keys8.length = 8 := rfl
  omega
theorem Changes_is (l : List Int) (n : Int) (hn : n ≤ 1000) : bagnallkeep_Changes.f l n = some (changesOf l n) := by
  unfold bagnallkeep_Changes.f; rw [if_pos hn]

end Go.Proofs.Ytmfkgbncnaingaa.Rows
end

section
/- Functions of the program as plain functions, and the walks that show it. Written by the session's own program pp.py. -/
namespace Go.Proofs.Ytmfkgbncnaingaa.QRows
open Go.RowKit Go.Proofs.YtmfkgbncnaingaaW.PrintWords Go.Proofs.YtmfkgbncnaingaaW.PrintLast Go.Proofs.YtmfkgbncnaingaaW.PrintMore
attribute [local go_sem] max2_int min2_int max_two min_two max_three min_three max_four min_four   -- for this text's walks alone
set_option linter.unusedVariables false
set_option linter.unusedSimpArgs false

/-! ### stringslite_HasSuffix: function 70 -/
def stringslite_HasSuffix.f (a0 : ByteArray) (a1 : ByteArray) : Option (Bool) := if (a0.size : Int) ≥ (a1.size : Int) then (if 0 ≤ (wrap64 ((a0.size : Int) - (a1.size : Int))) then (if (wrap64 ((a0.size : Int) - (a1.size : Int))) ≤ (a0.size : Int) then (some ((a0.extract ((wrap64 ((a0.size : Int) - (a1.size : Int))) : Int).toNat a0.size).toList == a1.toList)) else (none)) else (none)) else (some false)
set_option maxHeartbeats 8000000 in
set_option maxRecDepth 100000 in
theorem stringslite_HasSuffix.calls (a0 : ByteArray) (a1 : ByteArray) (r : Bool) (w : World) (h : stringslite_HasSuffix.f a0 a1 = some r) :
    Calls Try.prog 70 #[.string a0, .string a1] w fun e w' => e = .returned (.bool r) ∧ Drawn0 w w' := by
  have H : (if (a0.size : Int) ≥ (a1.size : Int) then (if 0 ≤ (wrap64 ((a0.size : Int) - (a1.size : Int))) then (if (wrap64 ((a0.size : Int) - (a1.size : Int))) ≤ (a0.size : Int) then (some ((a0.extract ((wrap64 ((a0.size : Int) - (a1.size : Int))) : Int).toNat a0.size).toList == a1.toList)) else (none)) else (none)) else (some false)) = some r := h
  clear h
  by_cases c3 : (a0.size : Int) ≥ (a1.size : Int)
  · rw [if_pos c3] at H
    have c3b0 : decide ((a1.size : Int) ≤ (a0.size : Int)) = true := decide_eq_true c3
    have c3b1 : decide (a1.size ≤ a0.size) = true := decide_eq_true (Int.ofNat_le.mp c3)
    clear c3
    obtain ⟨ji4, hji4⟩ : ∃ j_ : Int, (wrap64 ((a0.size : Int) - (a1.size : Int))) = j_ := ⟨_, rfl⟩
    replace H : (if 0 ≤ (ji4) then (if (ji4) ≤ (a0.size : Int) then (some ((a0.extract ((ji4) : Int).toNat a0.size).toList == a1.toList)) else (none)) else (none)) = some r := by first | (rw [hji4] at H; exact H) | (simp only [hji4] at H ⊢; exact H)
    have hji4w : (IntKind.i64.wrap ((a0.size : Int) - (a1.size : Int))) = ji4 := (i64_w _).trans hji4
    by_cases c5 : 0 ≤ (ji4)
    · rw [if_pos c5] at H
      have c5b0 := eq_true c5
      have c5b1 : decide (0 ≤ (ji4)) = true := decide_eq_true c5
      clear c5
      by_cases c6 : (ji4) ≤ (a0.size : Int)
      · rw [if_pos c6] at H
        have c6b0 := eq_true c6
        have c6b1 : decide ((ji4) ≤ (a0.size : Int)) = true := decide_eq_true c6
        clear c6
        obtain rfl := Option.some.inj H
        go_enter Try.func70, Try.ntmps70
        go_wp2
        go_ret
        exact ⟨by first | rfl | (simp; done) | (simp only [← hji4] <;> (first | rfl | simp)) | (simp [*]; done), by repeat (first | exact Drawn0.refl _ | apply Drawn0.step)⟩
      · rw [if_neg c6] at H
        exact absurd H (by simp)
    · rw [if_neg c5] at H
      exact absurd H (by simp)
  · rw [if_neg c3] at H
    have c3b0 : decide ((a1.size : Int) ≤ (a0.size : Int)) = false := decide_eq_false c3
    have c3b1 : decide (a1.size ≤ a0.size) = false := decide_eq_false (fun h => c3 (Int.ofNat_le.mpr h))
    clear c3
    obtain rfl := Option.some.inj H
    go_enter Try.func70, Try.ntmps70
    go_wp2
    go_ret
    exact ⟨by first | rfl | (simp; done) | (simp [*]; done), by repeat (first | exact Drawn0.refl _ | apply Drawn0.step)⟩

/-! ### strings_HasSuffix: function 55 -/
def strings_HasSuffix.f (a0 : ByteArray) (a1 : ByteArray) : Option (Bool) := (stringslite_HasSuffix.f a0 a1).bind fun t201 => (some t201)
set_option maxHeartbeats 8000000 in
set_option maxRecDepth 100000 in
theorem strings_HasSuffix.calls (a0 : ByteArray) (a1 : ByteArray) (r : Bool) (w : World) (h : strings_HasSuffix.f a0 a1 = some r) :
    Calls Try.prog 55 #[.string a0, .string a1] w fun e w' => e = .returned (.bool r) ∧ Drawn0 w w' := by
  have H : ((stringslite_HasSuffix.f a0 a1).bind fun t201 => (some t201)) = some r := h
  clear h
  replace H := Option.bind_eq_some_iff.mp H
  obtain ⟨t201, A30, H⟩ := H
  replace H : (some t201) = some r := H
  have A3 := Aside0.mk A30
  clear A30
  obtain rfl := Option.some.inj H
  go_enter Try.func55, Try.ntmps55
  go_wp2_with (first | ((with_reducible refine gate_callee (f := 70) rfl ?_); refine goesL_ (some 7) rfl rfl Try.func70 (by kernel_rfl) rfl #[.string a0, .string a1] rfl (by (try simp only [List.map_toArray, List.map_cons, List.map_nil]); first | done | rfl | (simp only [List.length_drop, List.length_take]; rfl)) ?_; (with_reducible refine (stringslite_HasSuffix.calls a0 a1 t201 _ A3.out).mono ?_); rintro e w' ⟨rfl, ⟨nd, rfl⟩⟩; refine ⟨_, rfl, ?_⟩))
  go_ret
  exact ⟨by first | rfl | (simp; done) | (simp [*]; done), by repeat (first | exact Drawn0.refl _ | apply Drawn0.step)⟩

end Go.Proofs.Ytmfkgbncnaingaa.QRows
end

section
/- Functions of the program as plain functions, and the walks that show it. Written by the session's own program pp.py. -/
namespace Go.Proofs.Ytmfkgbncnaingaa.QRows
open Go.RowKit Go.Proofs.YtmfkgbncnaingaaW.PrintWords Go.Proofs.YtmfkgbncnaingaaW.PrintLast Go.Proofs.YtmfkgbncnaingaaW.PrintMore
attribute [local go_sem] max2_int min2_int max_two min_two max_three min_three max_four min_four   -- for this text's walks alone
set_option linter.unusedVariables false
set_option linter.unusedSimpArgs false

/-! ### rows_Next: function 26 -/
def rows_Next.l0 : Nat → ByteArray → Option (ByteArray)
  | 0, _ => none
  | k + 1, x0 => (strings_HasSuffix.f x0 (⟨#[255]⟩ : ByteArray)).bind fun t202 => (if t202 = true then (if 0 ≤ (wrap64 ((x0.size : Int) - 1)) then (if (wrap64 ((x0.size : Int) - 1)) ≤ (x0.size : Int) then (rows_Next.l0 k (x0.extract 0 ((wrap64 ((x0.size : Int) - 1)) : Int).toNat)) else (none)) else (none)) else (if x0.toList = ([] : List UInt8) then (some (⟨#[]⟩ : ByteArray)) else (if 0 ≤ (wrap64 ((x0.size : Int) - 1)) then (if (wrap64 ((x0.size : Int) - 1)) ≤ (x0.size : Int) then (if (wrap64 ((x0.size : Int) - 1)) < (x0.size : Int) then ((some (([((bt x0 (wrap64 ((x0.size : Int) - 1))) + 1) % 256] : List Int) : List Int)).bind fun y203 => (if (x0.extract 0 ((wrap64 ((x0.size : Int) - 1)) : Int).toNat).size + (strOfNums y203).size ≤ 9223372036854775807 then (some ((x0.extract 0 ((wrap64 ((x0.size : Int) - 1)) : Int).toNat) ++ (strOfNums y203))) else (none))) else (none)) else (none)) else (none))))
def rows_Next.f (k : Nat) (a0 : ByteArray) : Option (ByteArray) := rows_Next.l0 k a0
theorem rows_Next.mono_l : ∀ k, (∀ y0, LeO (rows_Next.l0 k y0) (rows_Next.l0 (k + 1) y0))
  | 0 => fun _ r h => by simp [rows_Next.l0] at h
  | k + 1 => by
    have ih0 := rows_Next.mono_l k
    · intro y0
      unfold rows_Next.l0
      repeat' first
      | (with_reducible exact ih0 _)
      | (with_reducible exact LeO.refl _)
      | (with_reducible exact LeO.none _)
      | (with_reducible refine LeO.ite ?_ ?_)
      | (with_reducible refine LeO.bind ?_ (fun _ => ?_))
      | exact ih0 _
      | exact LeO.none _
      | refine LeO.ite ?_ ?_
      | refine LeO.bind ?_ (fun _ => ?_)
theorem rows_Next.mono : ∀ a0 k, LeO (rows_Next.f k a0) (rows_Next.f (k + 1) a0) := by
  intro a0 k
  have ih0 := rows_Next.mono_l k
  unfold rows_Next.f
  repeat' first
      | (with_reducible exact ih0 _)
      | (with_reducible exact LeO.refl _)
      | (with_reducible exact LeO.none _)
      | (with_reducible refine LeO.ite ?_ ?_)
      | (with_reducible refine LeO.bind ?_ (fun _ => ?_))
      | exact ih0 _
      | exact LeO.none _
      | refine LeO.ite ?_ ?_
      | refine LeO.bind ?_ (fun _ => ?_)
def rows_Next.T6 : Bool × List (List Nat × List Nat) := (true, [([], []), ([], []), ([0, 1], [0, 1]), ([], []), ([], []), ([3, 4], [3, 4]), ([5], [5]), ([6], [6]), ([7], [7]), ([2, 8], [2, 8]), ([9, 0, 1, 2, 3, 4, 5, 6, 7, 8, 9], [9])])
def rows_Next.B6 : List Nat := [0, 0, 3, 0, 0, 24, 56, 120, 248, 511, 1023]
theorem rows_Next.tab6 : rtab .any (opsOf Try.f26 6) = rows_Next.T6 := by kernel_rfl
theorem rows_Next.bits6 : waitsOk rows_Next.T6.2 rows_Next.B6 = true := by kernel_rfl
set_option maxHeartbeats 8000000 in
set_option maxRecDepth 100000 in
theorem rows_Next.calls (k : Nat) (a0 : ByteArray) (r : ByteArray) (w : World) (h : rows_Next.f k a0 = some r) :
    Calls Try.prog 26 #[.string a0] w fun e w' => e = .returned (.string r) ∧ Below w.heap.size w w' := by
  have HB := Aside0.mk (Below.refl w.heap.size w)
  have H : (rows_Next.l0 k a0) = some r := h
  clear h
  have H' := Aside0.mk H
  clear H
  go_enter Try.func26, Try.ntmps26
  go_wp2
  go_loopg [0] k (fun kq v0 w' => ∃ (x0_1 : ByteArray), v0 = .string x0_1 ∧ Aside0 (rows_Next.l0 kq x0_1 = some r) ∧ Aside0 (kq ≤ k) ∧ Aside0 (Below w.heap.size w w'))
  case atStart => exact ⟨(a0), (by first | rfl | (simp; done) | (simp [*]; done)), H', ⟨Nat.le_refl _⟩, ⟨by repeat (first | (with_reducible first | exact HB.out | apply below_alloc | apply pw_below_drewN | apply below_drew1) | exact HB.out)⟩⟩
  case round =>
    clear H'
    obtain ⟨x0_1, rfl, HA, HK1, HB⟩ := hrel
    cases gk with
    | zero => exact absurd HA.out (by simp [rows_Next.l0])
    | succ k1 =>
      have H := HA.out
      clear HA
      simp only [rows_Next.l0] at H
      replace H := Option.bind_eq_some_iff.mp H
      obtain ⟨t202, A20, H⟩ := H
      replace H : (if t202 = true then (if 0 ≤ (wrap64 ((x0_1.size : Int) - 1)) then (if (wrap64 ((x0_1.size : Int) - 1)) ≤ (x0_1.size : Int) then (rows_Next.l0 k1 (x0_1.extract 0 ((wrap64 ((x0_1.size : Int) - 1)) : Int).toNat)) else (none)) else (none)) else (if x0_1.toList = ([] : List UInt8) then (some (⟨#[]⟩ : ByteArray)) else (if 0 ≤ (wrap64 ((x0_1.size : Int) - 1)) then (if (wrap64 ((x0_1.size : Int) - 1)) ≤ (x0_1.size : Int) then (if (wrap64 ((x0_1.size : Int) - 1)) < (x0_1.size : Int) then ((some (([((bt x0_1 (wrap64 ((x0_1.size : Int) - 1))) + 1) % 256] : List Int) : List Int)).bind fun y203 => (if (x0_1.extract 0 ((wrap64 ((x0_1.size : Int) - 1)) : Int).toNat).size + (strOfNums y203).size ≤ 9223372036854775807 then (some ((x0_1.extract 0 ((wrap64 ((x0_1.size : Int) - 1)) : Int).toNat) ++ (strOfNums y203))) else (none))) else (none)) else (none)) else (none)))) = some r := H
      have A2 := Aside0.mk A20
      clear A20
      by_cases c3 : t202 = true
      · subst c3
        have H1 : (if 0 ≤ (wrap64 ((x0_1.size : Int) - 1)) then (if (wrap64 ((x0_1.size : Int) - 1)) ≤ (x0_1.size : Int) then (rows_Next.l0 k1 (x0_1.extract 0 ((wrap64 ((x0_1.size : Int) - 1)) : Int).toNat)) else (none)) else (none)) = some r := by rw [if_pos rfl] at H; exact H
        clear H
        have H := H1
        clear H1
        obtain ⟨ji4, hji4⟩ : ∃ j_ : Int, (wrap64 ((x0_1.size : Int) - 1)) = j_ := ⟨_, rfl⟩
        replace H : (if 0 ≤ (ji4) then (if (ji4) ≤ (x0_1.size : Int) then (rows_Next.l0 k1 (x0_1.extract 0 ((ji4) : Int).toNat)) else (none)) else (none)) = some r := by first | (rw [hji4] at H; exact H) | (simp only [hji4] at H ⊢; exact H)
        (try rw [hji4] at A2)
        have hji4w : (IntKind.i64.wrap ((x0_1.size : Int) - 1)) = ji4 := (i64_w _).trans hji4
        by_cases c5 : 0 ≤ (ji4)
        · rw [if_pos c5] at H
          have c5b0 := eq_true c5
          have c5b1 : decide (0 ≤ (ji4)) = true := decide_eq_true c5
          clear c5
          by_cases c6 : (ji4) ≤ (x0_1.size : Int)
          · rw [if_pos c6] at H
            have c6b0 := eq_true c6
            have c6b1 : decide ((ji4) ≤ (x0_1.size : Int)) = true := decide_eq_true c6
            clear c6
            have H' := Aside0.mk H
            clear H
            go_wp2_with (first | ((with_reducible refine gate_callee (f := 55) rfl ?_); refine goesL_ (some 5) rfl rfl Try.func55 (by kernel_rfl) rfl #[.string x0_1, .string (⟨#[255]⟩ : ByteArray)] rfl (by (try simp only [List.map_toArray, List.map_cons, List.map_nil]); first | done | rfl | (simp only [List.length_drop, List.length_take]; rfl)) ?_; (with_reducible refine (strings_HasSuffix.calls x0_1 (⟨#[255]⟩ : ByteArray) true _ A2.out).mono ?_); rintro e w' ⟨rfl, ⟨nd, rfl⟩⟩; refine ⟨_, rfl, ?_⟩))
            go_roundg k1
            case measure => have := HK1.out; omega
            case rel => exact ⟨(x0_1.extract 0 ((ji4) : Int).toNat), (by first | rfl | (simp; done) | (simp only [← hji4] <;> (first | rfl | simp)) | (simp [*]; done)), H', ⟨by have := HK1.out; omega⟩, ⟨by repeat (first | (with_reducible first | exact HB.out | apply below_alloc | apply pw_below_drewN | apply below_drew1) | exact HB.out)⟩⟩
          · rw [if_neg c6] at H
            exact absurd H (by simp)
        · rw [if_neg c5] at H
          exact absurd H (by simp)
      · replace c3 := Bool.eq_false_iff.mpr c3
        subst c3
        have H1 : (if x0_1.toList = ([] : List UInt8) then (some (⟨#[]⟩ : ByteArray)) else (if 0 ≤ (wrap64 ((x0_1.size : Int) - 1)) then (if (wrap64 ((x0_1.size : Int) - 1)) ≤ (x0_1.size : Int) then (if (wrap64 ((x0_1.size : Int) - 1)) < (x0_1.size : Int) then ((some (([((bt x0_1 (wrap64 ((x0_1.size : Int) - 1))) + 1) % 256] : List Int) : List Int)).bind fun y203 => (if (x0_1.extract 0 ((wrap64 ((x0_1.size : Int) - 1)) : Int).toNat).size + (strOfNums y203).size ≤ 9223372036854775807 then (some ((x0_1.extract 0 ((wrap64 ((x0_1.size : Int) - 1)) : Int).toNat) ++ (strOfNums y203))) else (none))) else (none)) else (none)) else (none))) = some r := by rw [if_neg (show ¬ (false = true) by decide)] at H; exact H
        clear H
        have H := H1
        clear H1
        by_cases c7 : x0_1.toList = ([] : List UInt8)
        · rw [if_pos c7] at H
          have c7b0 : (x0_1.toList == ([] : List UInt8)) = true := beq_iff_eq.mpr c7
          have c7b1 : (x0_1.toList != ([] : List UInt8)) = false := bne_eq_false_iff_eq.mpr c7
          clear c7
          obtain rfl := Option.some.inj H
          go_wp2_with (first | ((with_reducible refine gate_callee (f := 55) rfl ?_); refine goesL_ (some 5) rfl rfl Try.func55 (by kernel_rfl) rfl #[.string x0_1, .string (⟨#[255]⟩ : ByteArray)] rfl (by (try simp only [List.map_toArray, List.map_cons, List.map_nil]); first | done | rfl | (simp only [List.length_drop, List.length_take]; rfl)) ?_; (with_reducible refine (strings_HasSuffix.calls x0_1 (⟨#[255]⟩ : ByteArray) false _ A2.out).mono ?_); rintro e w' ⟨rfl, ⟨nd, rfl⟩⟩; refine ⟨_, rfl, ?_⟩))
          go_ret
          exact ⟨by first | rfl | (simp [errW_none, errW_some] <;> rfl) | (simp [*, errW_none, errW_some] <;> rfl), by repeat (first | (with_reducible first | exact HB.out | apply below_alloc | apply pw_below_drewN | apply below_drew1) | exact HB.out)⟩
        · rw [if_neg c7] at H
          have c7b0 : (x0_1.toList == ([] : List UInt8)) = false := beq_eq_false_iff_ne.mpr c7
          have c7b1 : (x0_1.toList != ([] : List UInt8)) = true := bne_iff_ne.mpr c7
          obtain ⟨ji8, hji8⟩ : ∃ j_ : Int, (wrap64 ((x0_1.size : Int) - 1)) = j_ := ⟨_, rfl⟩
          replace H : (if 0 ≤ (ji8) then (if (ji8) ≤ (x0_1.size : Int) then (if (ji8) < (x0_1.size : Int) then ((some (([((bt x0_1 (ji8)) + 1) % 256] : List Int) : List Int)).bind fun y203 => (if (x0_1.extract 0 ((ji8) : Int).toNat).size + (strOfNums y203).size ≤ 9223372036854775807 then (some ((x0_1.extract 0 ((ji8) : Int).toNat) ++ (strOfNums y203))) else (none))) else (none)) else (none)) else (none)) = some r := by first | (rw [hji8] at H; exact H) | (simp only [hji8] at H ⊢; exact H)
          (try rw [hji8] at A2)
          have hji8w : (IntKind.i64.wrap ((x0_1.size : Int) - 1)) = ji8 := (i64_w _).trans hji8
          by_cases c9 : 0 ≤ (ji8)
          · rw [if_pos c9] at H
            have c9b0 := eq_true c9
            have c9b1 : decide (0 ≤ (ji8)) = true := decide_eq_true c9
            clear c9
            by_cases c10 : (ji8) ≤ (x0_1.size : Int)
            · rw [if_pos c10] at H
              have c10b0 := eq_true c10
              have c10b1 : decide ((ji8) ≤ (x0_1.size : Int)) = true := decide_eq_true c10
              clear c10
              by_cases c11 : (ji8) < (x0_1.size : Int)
              · rw [if_pos c11] at H
                have c11b0 : decide ((ji8) < (x0_1.size : Int)) = true := decide_eq_true c11
                clear c11
                obtain ⟨y203, hy203⟩ : ∃ y_ : List Int, y_ = (([((bt x0_1 (ji8)) + 1) % 256] : List Int)) := ⟨_, rfl⟩
                replace H : (if (x0_1.extract 0 ((ji8) : Int).toNat).size + (strOfNums y203).size ≤ 9223372036854775807 then (some ((x0_1.extract 0 ((ji8) : Int).toNat) ++ (strOfNums y203))) else (none)) = some r := by first | (rw [hy203]; with_reducible exact H) | (have H2_ := (Option.bind_some _ _).symm.trans H; rw [hy203]; with_reducible exact H2_) | (have H2_ := (Option.bind_some _ _).symm.trans H; with_reducible exact H2_) | with_reducible exact H | (rw [hy203]; exact H) | exact H
                have Ny203 := Aside0.mk hy203
                clear hy203
                by_cases c13 : (x0_1.extract 0 ((ji8) : Int).toNat).size + (strOfNums y203).size ≤ 9223372036854775807
                · rw [if_pos c13] at H
                  have c13b0 := eq_true c13
                  have c13b1 : decide ((x0_1.extract 0 ((ji8) : Int).toNat).size + (strOfNums y203).size ≤ 9223372036854775807) = true := decide_eq_true c13
                  try have c13b3 : (9223372036854775807 < ((ji8) : Int).toNat + (strOfNums y203).size) = False := eq_false (by have h_ := c13; rw [ByteArray.size_extract, Nat.sub_zero, Nat.min_eq_left (by have h2_ : (((ji8) : Int) : Int) ≤ (x0_1.size : Int) := of_decide_eq_true (by first | (with_reducible assumption) | assumption); omega)] at h_; omega)
                  try have c13b2 : (9223372036854775807 < (x0_1.extract 0 ((ji8) : Int).toNat).size + (strOfNums y203).size) = False := eq_false (Nat.not_lt.2 c13)
                  obtain rfl := Option.some.inj H
                  try go_wp2_with (first | ((with_reducible refine gate_callee (f := 55) rfl ?_); refine goesL_ (some 5) rfl rfl Try.func55 (by kernel_rfl) rfl #[.string x0_1, .string (⟨#[255]⟩ : ByteArray)] rfl (by (try simp only [List.map_toArray, List.map_cons, List.map_nil]); first | done | rfl | (simp only [List.length_drop, List.length_take]; rfl)) ?_; (with_reducible refine (strings_HasSuffix.calls x0_1 (⟨#[255]⟩ : ByteArray) false _ A2.out).mono ?_); rintro e w' ⟨rfl, ⟨nd, rfl⟩⟩; refine ⟨_, rfl, ?_⟩))
                  (try (rw [drewN_self wr]; generalize hq_ : World.drewN wr _ = wr; have n0_ : Aside0 (Below w.heap.size w wr) := ⟨by rw [← hq_]; exact (by repeat (first | (with_reducible first | exact HB.out | apply below_alloc | apply pw_below_drewN | apply below_drew1) | exact HB.out))⟩; clear HB hq_; have HB := n0_; clear n0_))
                  have n0_ := Aside0.mk (below_drew1 HB.out)
                  clear HB
                  have HB := n0_
                  clear n0_
                  have p12 : 0 ≤ ((ji8) : Int) := of_decide_eq_true (by first | (with_reducible assumption) | assumption)
                  have q12 : (ji8) < (x0_1.size : Int) := of_decide_eq_true (by first | (with_reducible assumption) | assumption)
                  have hx12 := bt_at x0_1 (ji8)
                  replace p12 := eq_true p12
                  replace q12 := eq_true q12
                  refine start_ (n := 11) (S := fun w' => True) (ds := []) #[false, false, false, false, false, false, false, false, false, false, false] (by kernel_rfl) rfl rfl trivial (fun hHeld => ?_); refine with_tabW rows_Next.tab6 rows_Next.bits6 (fun HT_ HW_ => ?_)
                  generalize wr.drew = w14 at HB hHeld ⊢
                  refine pure_ (i := 0) (N := some 16) (v := ?_) (a' := ?_) #[true, false, false, false, false, false, false, false, false, false, false] rfl rfl (any_of HT_.out (by kernel_rfl)) (fun _ _ _ h => h) (Or.inl ⟨by rfl, ?_⟩) ?_ ?_
                  rotate_left
                  · intro w'
                    go_simp
                    with_reducible rfl
                  rotate_left
                  · simp only [Act.put, List.setIfInBounds_toArray, List.set_cons_zero, List.set_cons_succ, i64_w, i32_w]
                    rfl
                  refine pure_ (i := 1) (N := some 17) (v := ?_) (a' := ?_) #[true, true, false, false, false, false, false, false, false, false, false] rfl rfl (any_of HT_.out (by kernel_rfl)) (fun _ _ _ h => h) (Or.inl ⟨by rfl, ?_⟩) ?_ ?_
                  rotate_left
                  · intro w'
                    go_simp
                    with_reducible rfl
                  rotate_left
                  · simp only [Act.put, List.setIfInBounds_toArray, List.set_cons_zero, List.set_cons_succ, i64_w, i32_w]
                    rfl
                  refine pure_ (i := 2) (N := some 18) (v := ?_) (a' := ?_) #[true, true, true, false, false, false, false, false, false, false, false] rfl rfl (any_of HT_.out (by kernel_rfl)) (fun _ _ _ h => h) (Or.inl ⟨by rfl, ?_⟩) ?_ ?_
                  rotate_left
                  · intro w'
                    go_simp
                    with_reducible rfl
                  rotate_left
                  · simp only [Act.put, List.setIfInBounds_toArray, List.set_cons_zero, List.set_cons_succ, i64_w, i32_w]
                    rfl
                  refine pure_ (i := 3) (N := some 19) (v := ?_) (a' := ?_) #[true, true, true, true, false, false, false, false, false, false, false] rfl rfl (any_of HT_.out (by kernel_rfl)) (fun _ _ _ h => h) (Or.inl ⟨by rfl, ?_⟩) ?_ ?_
                  rotate_left
                  · intro w'
                    go_simp
                    with_reducible rfl
                  rotate_left
                  · simp only [Act.put, List.setIfInBounds_toArray, List.set_cons_zero, List.set_cons_succ, i64_w, i32_w]
                    rfl
                  refine pure_ (i := 4) (N := some 20) (v := ?_) (a' := ?_) #[true, true, true, true, true, false, false, false, false, false, false] rfl rfl (any_of HT_.out (by kernel_rfl)) (fun _ _ _ h => h) (Or.inl ⟨by rfl, ?_⟩) ?_ ?_
                  rotate_left
                  · intro w'
                    go_simp
                    with_reducible rfl
                  rotate_left
                  · simp only [Act.put, List.setIfInBounds_toArray, List.set_cons_zero, List.set_cons_succ, i64_w, i32_w]
                    rfl
                  refine take_ (i := 5) (N := some 21) (v := ?_) (a' := ?_) #[true, true, true, true, true, true, false, false, false, false, false] rfl rfl (take_ofW HT_.out HW_.out (by kernel_rfl)) (fun _ _ _ h => h) (Or.inl ⟨by rfl, ?_⟩) hHeld ?_ ?_
                  rotate_left
                  · intro w' _
                    go_simp
                    with_reducible rfl
                  rotate_left
                  · simp only [Act.put, List.setIfInBounds_toArray, List.set_cons_zero, List.set_cons_succ, i64_w, i32_w]
                    rfl
                  refine pure_ (i := 6) (N := some 22) (v := ?_) (a' := ?_) #[true, true, true, true, true, true, true, false, false, false, false] rfl rfl (any_of HT_.out (by kernel_rfl)) (fun _ _ _ h => h) (Or.inl ⟨by rfl, ?_⟩) ?_ ?_
                  rotate_left
                  · intro w'
                    go_simp
                    with_reducible rfl
                  rotate_left
                  · simp only [Act.put, List.setIfInBounds_toArray, List.set_cons_zero, List.set_cons_succ, i64_w, i32_w]
                    rfl
                  refine one_ (i := 7) (N := some 23) #[true, true, true, true, true, true, true, true, false, false, false] rfl rfl (one_of HT_.out (by kernel_rfl)) (by decide) (fun K hK => ?_)
                  refine Kd.R_lit_step (Kd.int .u8) _ 5 ?hg (N := 23) ?hd (xs := ([((bt x0_1 (ji8)) + 1) % 256] : List Int)) (inner := [.int .u8 (((bt x0_1 (ji8)) + 1) % 256)]) (ok := fun _ => True) (okp := fun _ => True) ?hr ?hp (fun _ hk => hk) trivial (Below.refl _ _) (Nat.le_refl _) (by simp) ?_; (case hd => rfl); (case hg => rfl); (case hr => first | (go_simp; done) | (go_simp; rfl)); (case hp => exact (Reps.one (show Kd.M (Kd.int .u8) _ _ _ (((bt x0_1 (ji8)) + 1) % 256) [.int .u8 (((bt x0_1 (ji8)) + 1) % 256)] from rfl) (Reps.none _ _)))
                  intro v204 w15 ho16 hb hg_ hnew_
                  clear hg_ hnew_
                  (first | rw [← Ny203.out] at ho16 | (simp only [Int.reduceToNat] at ho16; rw [← Ny203.out] at ho16))
                  have n0_ := Aside0.mk (Kd.R_lower ho16 (below_size (by repeat (first | (with_reducible first | exact HB.out | apply below_alloc | apply pw_below_drewN | apply below_drew1) | exact HB.out))))
                  have n1_ := Aside0.mk (below_step (by repeat (first | (with_reducible first | exact HB.out | apply below_alloc | apply pw_below_drewN | apply below_drew1) | exact HB.out)) hb)
                  clear HB
                  have HO205 := n0_
                  have HB := n1_
                  clear n0_ n1_
                  clear hb ho16
                  refine hK.out _ _ trivial (fun hHeld => ?_)
                  clear hK K
                  refine norm_ (a' := ?_) ?_ ?_
                  rotate_left
                  · show Act.put _ (some 23) _ = _
                    simp only [Act.put, List.setIfInBounds_toArray, List.set_cons_zero, List.set_cons_succ, i64_w, i32_w]
                    rfl
                  refine one_ (i := 8) (N := some 24) #[true, true, true, true, true, true, true, true, true, false, false] rfl rfl (one_of HT_.out (by kernel_rfl)) (by decide) (fun K hK => ?_)
                  have hcv17 := own_string (P := Try.prog) Try.underlying25 Try.underlying5 Try.underlying9 (Kd.own_of_R HO205.out)
                  refine value_ (w1 := ?_) (v := ?_) (by rfl) rfl ?_ ?_
                  rotate_left 2
                  · go_simp
                    constructor
                    · rfl
                    · rfl
                  clear hcv17
                  refine hK.out _ _ trivial (fun hHeld => ?_)
                  clear hK K
                  refine norm_ (a' := ?_) ?_ ?_
                  rotate_left
                  · show Act.put _ (some 24) _ = _
                    simp only [Act.put, List.setIfInBounds_toArray, List.set_cons_zero, List.set_cons_succ, i64_w, i32_w]
                    rfl
                  refine pure_ (i := 9) (N := some 25) (v := ?_) (a' := ?_) #[true, true, true, true, true, true, true, true, true, true, false] rfl rfl (any_of HT_.out (by kernel_rfl)) (fun _ _ _ h => h) (Or.inl ⟨by rfl, ?_⟩) ?_ ?_
                  rotate_left
                  · intro w'
                    go_simp
                    with_reducible rfl
                  rotate_left
                  · simp only [Act.put, List.setIfInBounds_toArray, List.set_cons_zero, List.set_cons_succ, i64_w, i32_w]
                    rfl
                  refine pure_ (i := 10) (N := some 2) (v := ?_) (a' := ?_) #[true, true, true, true, true, true, true, true, true, true, true] rfl rfl (any_of HT_.out (by kernel_rfl)) (fun _ _ _ h => h) (Or.inl ⟨by rfl, ?_⟩) ?_ ?_
                  rotate_left
                  · intro w'
                    go_simp
                    with_reducible rfl
                  rotate_left
                  · simp only [Act.put, List.setIfInBounds_toArray, List.set_cons_zero, List.set_cons_succ, i64_w, i32_w]
                    rfl
                  refine done_ (done_of HT_.out (by kernel_rfl)) ?_
                  try go_wp2
                  go_ret
                  exact ⟨by first | rfl | (simp [errW_none, errW_some] <;> rfl) | (simp only [← hji8]; first | rfl | (simp [errW_none, errW_some] <;> rfl)) | (simp [*, errW_none, errW_some] <;> rfl), by repeat (first | (with_reducible first | exact HB.out | apply below_alloc | apply pw_below_drewN | apply below_drew1) | exact HB.out)⟩
                · rw [if_neg c13] at H
                  exact absurd H (by simp)
              · rw [if_neg c11] at H
                exact absurd H (by simp)
            · rw [if_neg c10] at H
              exact absurd H (by simp)
          · rw [if_neg c9] at H
            exact absurd H (by simp)

end Go.Proofs.Ytmfkgbncnaingaa.QRows
end

section
/- What rows.Beginning comes to. -/
namespace Go.Proofs.Ytmfkgbncnaingaa.Rows
open Go.RowKit Go.Lib Go.Proofs.Ytmfkgbncnaingaa.QRows Go.Proofs.YtmfkgbncnaingaaW.PrintWords Go.Proofs.YtmfkgbncnaingaaW.PrintLast Go.Proofs.YtmfkgbncnaingaaW.PrintMore

/-- A cut of a row that is read. -/
theorem C_cut {w : World} {A : Option Addr} {xs : List S67} (h : k67.C w A xs.length xs) (lo hi : Nat) (h1 : lo ≤ hi) (h2 : hi ≤ xs.length) {B : Option Addr} (hB : lo < hi → B = A.map fun a => a.add (lo * 2)) : k67.C w B (hi - lo) ((xs.take hi).drop lo) := by
  refine ⟨by rw [List.length_drop, List.length_take]; omega, by have := h.2.1; omega, fun hp => ?_⟩
  obtain ⟨ad, rfl, hc⟩ := h.2.2 (by omega)
  refine ⟨ad.add (lo * 2), hB (by omega), fun j p hj => ?_⟩
  have hj' : xs[lo + j]? = some p := by
    rw [List.getElem?_drop, List.getElem?_take] at hj
    split at hj
    · exact hj
    · cases hj
  obtain ⟨c, e1, e2, e3⟩ := hc (lo + j) p hj'
  refine ⟨c, e1, e2, fun k u hk => ?_⟩
  have h5 := e3 k u hk
  rw [show (lo + j) * k67.sz + k = lo * 2 + (j * k67.sz + k) by show (lo + j) * 2 + k = lo * 2 + (j * 2 + k); omega] at h5
  rw [Go.Proofs.YtmfkgbncnaingaaW.PrintWords.add_add]; exact h5

theorem Clone_cut (w : World) (A : Option Addr) (c n : Nat) (xs : List S67) (hn : xs.length = n) (h : k67.C w A n xs) (hl : n ≤ 100000) :
    Calls Try.prog 77 #[.slice A n c] w fun e w' => ∃ v, e = .returned v ∧ k67.R 67 w' w.heap.size (fun _ => True) v xs ∧ Below w.heap.size w w' := by
  subst hn; exact Clone_calls w A c xs h hl

set_option maxRecDepth 100000 in
set_option maxHeartbeats 4000000 in
theorem Beginning_end (k : Nat) (A0 : Option Addr) (c0 : Nat) (l : List S67) (t nx : ByteArray) (w : World) (hr : k67.C w A0 l.length l) (hc : l.length ≤ c0) (hl : l.length ≤ 100000) (hx : rows_Next.f k t = some nx) (he : nx.toList = ([] : List UInt8)) :
    Calls Try.prog 67 #[.slice A0 l.length c0, .string t] w fun e w' => ∃ v, e = .returned v ∧ k67.R 67 w' w.heap.size (fun _ => True) v (l.drop (found l t).1) ∧ Below w.heap.size w w' := by
  have HR := Aside0.mk hr
  have HX := Aside0.mk hx
  clear hr hx
  have h1 := bs_le l t l.length 0 l.length (by omega) (by omega)
  obtain ⟨fb, hfb⟩ : ∃ fb, fb = found l t := ⟨_, rfl⟩
  have hfl : fb.1 ≤ l.length := by rw [hfb]; exact h1.2
  have HP := fun w h => Aside0.mk (place_calls A0 c0 l t w h hl)
  rw [← hfb] at HP ⊢
  obtain ⟨lo, b⟩ := fb
  have hlo : lo ≤ l.length := hfl
  clear h1 hfb hfl
  have he' : (nx.toList == ([] : List UInt8)) = true := by rw [he]; rfl
  have hlo1 : (lo : Int) ≤ (l.length : Int) := by omega
  have hcc1 : (l.length : Int) ≤ (c0 : Int) := by omega
  have hdl : Aside0 ((l.drop lo).length = l.length - lo) := Aside0.mk List.length_drop
  clear he
  by_cases hcc : c0 = lo
  · obtain rfl : c0 = l.length := by omega
    subst hcc
    have HDL : Aside0 (([] : List S67).length = 0) := ⟨rfl⟩
    have hE : Aside0 (l.drop l.length = []) := ⟨List.drop_of_length_le (Nat.le_refl _)⟩
    have hN : Aside0 (∀ w1, Below w.heap.size w w1 → k67.C w1 A0 0 []) := Aside0.mk (fun w1 _ => ⟨rfl, by omega, fun h => absurd h (by omega)⟩)
    clear hdl hlo hlo1 hcc1 hc
    go_enter Try.func67, Try.ntmps67
    go_wp2_with (first | (go_at_call 78; refine (HP _ HR.out).out.mono ?_; rintro e w1 ⟨rfl, hb⟩; have HB1 := Aside0.mk hb; clear hb) | (go_at_call 26; refine (rows_Next.calls k t nx _ HX.out).mono ?_; rintro e w2 ⟨rfl, hb⟩; have HB2 := Aside0.mk (HB1.out.trans (hb.mono HB1.out.size)); clear hb) | (go_at_call 77; refine (Clone_cut _ _ _ _ _ HDL.out (hN.out _ HB2.out) (by omega)).mono ?_; rintro e w3 ⟨v, rfl, hv, hb⟩; have HV := Aside0.mk hv; have HB3 := Aside0.mk (HB2.out.trans (hb.mono HB2.out.size)); clear hb hv))
    go_ret
    exact ⟨_, rfl, by rw [hE.out]; exact Kd.R_lower HV.out HB2.out.size, HB3.out⟩
  · have HDL := hdl
    have hN : Aside0 (∀ w1, Below w.heap.size w w1 → k67.C w1 (A0.map fun a => a.add (lo * 2)) (l.length - lo) (l.drop lo)) := Aside0.mk (fun w1 hb => by
      have h := C_cut (Kd.C_below HR.out hb) lo l.length hlo (Nat.le_refl _) (B := A0.map fun a => a.add (lo * 2)) (fun _ => rfl)
      rwa [List.take_length] at h)
    go_enter Try.func67, Try.ntmps67
    go_wp2_with (first | (go_at_call 78; refine (HP _ HR.out).out.mono ?_; rintro e w1 ⟨rfl, hb⟩; have HB1 := Aside0.mk hb; clear hb) | (go_at_call 26; refine (rows_Next.calls k t nx _ HX.out).mono ?_; rintro e w2 ⟨rfl, hb⟩; have HB2 := Aside0.mk (HB1.out.trans (hb.mono HB1.out.size)); clear hb) | (go_at_call 77; refine (Clone_cut _ _ _ _ _ HDL.out (hN.out _ HB2.out) (by omega)).mono ?_; rintro e w3 ⟨v, rfl, hv, hb⟩; have HV := Aside0.mk hv; have HB3 := Aside0.mk (HB2.out.trans (hb.mono HB2.out.size)); clear hb hv))
    go_ret
    exact ⟨_, rfl, Kd.R_lower HV.out HB2.out.size, HB3.out⟩

set_option maxRecDepth 100000 in
set_option maxHeartbeats 4000000 in
theorem Beginning_cut (k : Nat) (A0 : Option Addr) (c0 : Nat) (l : List S67) (t nx : ByteArray) (w : World) (hr : k67.C w A0 l.length l) (hc : l.length ≤ c0) (hl : l.length ≤ 100000) (hx : rows_Next.f k t = some nx) (he : ¬ nx.toList = ([] : List UInt8)) (hle : (found l t).1 ≤ (found l nx).1) :
    Calls Try.prog 67 #[.slice A0 l.length c0, .string t] w fun e w' => ∃ v, e = .returned v ∧ k67.R 67 w' w.heap.size (fun _ => True) v ((l.take (found l nx).1).drop (found l t).1) ∧ Below w.heap.size w w' := by
  have HR := Aside0.mk hr
  have HX := Aside0.mk hx
  clear hr hx
  have h1 := bs_le l t l.length 0 l.length (by omega) (by omega)
  have h2 := bs_le l nx l.length 0 l.length (by omega) (by omega)
  have hlo : (found l t).1 ≤ l.length := h1.2
  have hhi : (found l nx).1 ≤ l.length := h2.2
  obtain ⟨g, hg⟩ : ∃ g, g = found l := ⟨_, rfl⟩
  have HP := fun x w h => place_calls A0 c0 l x w h hl
  rw [← hg] at HP hlo hhi hle ⊢
  clear hg h1 h2
  obtain ⟨⟨lo, b⟩, hgt⟩ : ∃ q, g t = q := ⟨_, rfl⟩
  obtain ⟨⟨hi, b2⟩, hgn⟩ : ∃ q, g nx = q := ⟨_, rfl⟩
  rw [hgt] at hlo hle ⊢
  rw [hgn] at hhi hle ⊢
  have hlh : lo ≤ hi := hle
  replace hlo : lo ≤ l.length := hlo
  replace hhi : hi ≤ l.length := hhi
  clear hle
  have he' : (nx.toList == ([] : List UInt8)) = false := beq_eq_false_iff_ne.2 he
  have hlo1 : (lo : Int) ≤ (l.length : Int) := by omega
  have hcc1 : (l.length : Int) ≤ (c0 : Int) := by omega
  have hdl : Aside0 (((l.take hi).drop lo).length = hi - lo) := Aside0.mk (by rw [List.length_drop, List.length_take]; omega)
  have hhi1 : (hi : Int) ≤ (c0 : Int) := by omega
  have hlh1 : (lo : Int) ≤ (hi : Int) := by omega
  clear he
  by_cases hcc : c0 = lo
  · obtain rfl : c0 = l.length := by omega
    subst hcc
    obtain rfl : hi = l.length := by omega
    have HDL : Aside0 (([] : List S67).length = 0) := ⟨rfl⟩
    have hE : Aside0 ((l.take l.length).drop l.length = []) := ⟨List.drop_of_length_le (by rw [List.length_take]; omega)⟩
    have hN : Aside0 (∀ w1, Below w.heap.size w w1 → k67.C w1 A0 0 []) := Aside0.mk (fun w1 _ => ⟨rfl, by omega, fun h => absurd h (by omega)⟩)
    clear hdl hlo hlo1 hcc1 hc hhi hlh hhi1 hlh1
    go_enter Try.func67, Try.ntmps67
    go_wp2_with (first | (go_at_call 78; refine (HP _ _ ?c78).mono ?_; (case c78 => first | exact HR.out | exact Kd.C_below HR.out HB2.out); rintro e w4 ⟨rfl, hb⟩; first | (have HB1 := Aside0.mk (show Below w.heap.size w _ from hb); clear hb) | (have hz := HB2.out.trans (hb.mono HB2.out.size); clear HB2; have HB2 := Aside0.mk hz; clear hb hz)) | (go_at_call 26; refine (rows_Next.calls k t nx _ HX.out).mono ?_; rintro e w2 ⟨rfl, hb⟩; have HB2 := Aside0.mk (HB1.out.trans (hb.mono HB1.out.size)); clear hb) | (go_at_call 77; refine (Clone_cut _ _ _ _ _ HDL.out (hN.out _ HB2.out) (by omega)).mono ?_; rintro e w3 ⟨v, rfl, hv, hb⟩; have HV := Aside0.mk hv; have HB3 := Aside0.mk (HB2.out.trans (hb.mono HB2.out.size)); clear hb hv))
    go_ret
    exact ⟨_, rfl, by rw [hE.out]; exact Kd.R_lower HV.out HB2.out.size, HB3.out⟩
  · have HDL := hdl
    have hN : Aside0 (∀ w1, Below w.heap.size w w1 → k67.C w1 (A0.map fun a => a.add (lo * 2)) (hi - lo) ((l.take hi).drop lo)) := Aside0.mk (fun w1 hb => C_cut (Kd.C_below HR.out hb) lo hi hlh hhi (B := A0.map fun a => a.add (lo * 2)) (fun _ => rfl))
    go_enter Try.func67, Try.ntmps67
    go_wp2_with (first | (go_at_call 78; refine (HP _ _ ?c78).mono ?_; (case c78 => first | exact HR.out | exact Kd.C_below HR.out HB2.out); rintro e w4 ⟨rfl, hb⟩; first | (have HB1 := Aside0.mk (show Below w.heap.size w _ from hb); clear hb) | (have hz := HB2.out.trans (hb.mono HB2.out.size); clear HB2; have HB2 := Aside0.mk hz; clear hb hz)) | (go_at_call 26; refine (rows_Next.calls k t nx _ HX.out).mono ?_; rintro e w2 ⟨rfl, hb⟩; have HB2 := Aside0.mk (HB1.out.trans (hb.mono HB1.out.size)); clear hb) | (go_at_call 77; refine (Clone_cut _ _ _ _ _ HDL.out (hN.out _ HB2.out) (by omega)).mono ?_; rintro e w3 ⟨v, rfl, hv, hb⟩; have HV := Aside0.mk hv; have HB3 := Aside0.mk (HB2.out.trans (hb.mono HB2.out.size)); clear hb hv))
    go_ret
    exact ⟨_, rfl, Kd.R_lower HV.out HB2.out.size, HB3.out⟩

end Go.Proofs.Ytmfkgbncnaingaa.Rows
namespace Go.Proofs.Ytmfkgbncnaingaa.QRows
open Go.RowKit Go.Proofs.Ytmfkgbncnaingaa.Rows Go.Proofs.YtmfkgbncnaingaaW.PrintWords Go.Proofs.YtmfkgbncnaingaaW.PrintLast Go.Proofs.YtmfkgbncnaingaaW.PrintMore

def rows_Beginning.of (l0 : List S67) (a1 nx : ByteArray) : Option (List S67) :=
  if nx.toList = ([] : List UInt8) then some (l0.drop (found l0 a1).1) else if (found l0 a1).1 ≤ (found l0 nx).1 then some ((l0.take (found l0 nx).1).drop (found l0 a1).1) else none
def rows_Beginning.f (k : Nat) (l0 : List S67) (a1 : ByteArray) : Option (List S67) := if l0.length ≤ 100000 then (rows_Next.f k a1).bind fun nx => rows_Beginning.of l0 a1 nx else none
theorem rows_Beginning.mono : ∀ a0 a1 k, LeO (rows_Beginning.f k a0 a1) (rows_Beginning.f (k + 1) a0 a1) := by
  intro a0 a1 k
  unfold rows_Beginning.f
  exact LeO.ite (LeO.bind (rows_Next.mono a1 k) fun _ => LeO.refl _) (LeO.refl _)
theorem rows_Beginning.calls (k : Nat) (A0 : Option Addr) (c0 : Nat) (l0 : List S67) (a1 : ByteArray) (r : List S67) (w : World) (hr0 : Kd.C k67 w A0 l0.length l0) (hc0 : l0.length ≤ c0) (h : rows_Beginning.f k l0 a1 = some r) :
    Calls Try.prog 67 #[.slice A0 l0.length c0, .string a1] w fun e w' => ∃ v0_ : Value, e = .returned (v0_) ∧ Kd.R k67 67 w' w.heap.size (fun _ => True) v0_ r ∧ Below w.heap.size w w' := by
  unfold rows_Beginning.f at h
  by_cases hl : l0.length ≤ 100000
  · rw [if_pos hl] at h
    obtain ⟨nx, hx, h⟩ := Option.bind_eq_some_iff.1 h
    unfold rows_Beginning.of at h
    by_cases he : nx.toList = ([] : List UInt8)
    · rw [if_pos he] at h
      obtain rfl := Option.some.inj h
      exact Beginning_end k A0 c0 l0 a1 nx w hr0 hc0 hl hx he
    · rw [if_neg he] at h
      by_cases hle : (found l0 a1).1 ≤ (found l0 nx).1
      · rw [if_pos hle] at h
        obtain rfl := Option.some.inj h
        exact Beginning_cut k A0 c0 l0 a1 nx w hr0 hc0 hl hx he hle
      · rw [if_neg hle] at h; cases h
  · rw [if_neg hl] at h; cases h

end Go.Proofs.Ytmfkgbncnaingaa.QRows
end

section
/- Functions of the program as plain functions, and the walks that show it. Written by the session's own program pp.py. -/
namespace Go.Proofs.Ytmfkgbncnaingaa.QRows
open Go.RowKit Go.Proofs.YtmfkgbncnaingaaW.PrintWords Go.Proofs.YtmfkgbncnaingaaW.PrintLast Go.Proofs.YtmfkgbncnaingaaW.PrintMore
attribute [local go_sem] max2_int min2_int max_two min_two max_three min_three max_four min_four   -- for this text's walks alone
set_option linter.unusedVariables false
set_option linter.unusedSimpArgs false

/-! ### rows_Value: function 65 -/
def rows_Value.f (l0 : List (S67)) (a1 : ByteArray) : Option (ByteArray × Bool) := (rows_place.f l0 a1).bind fun bt128 => (if bt128.2 = true then (if 0 ≤ bt128.1 then (if bt128.1 < (l0.length : Int) then (some ((rd_T67 l0 bt128.1).f1, true)) else (none)) else (none)) else (some ((⟨#[]⟩ : ByteArray), false)))
set_option maxHeartbeats 8000000 in
set_option maxRecDepth 100000 in
theorem rows_Value.calls (A0 : Option Addr) (c0 : Nat) (l0 : List (S67)) (a1 : ByteArray) (r1 : ByteArray) (r2 : Bool) (w : World) (hr0 : Kd.C k67 w A0 l0.length l0) (hc0 : l0.length ≤ c0) (h : rows_Value.f l0 a1 = some (r1, r2)) :
    Calls Try.prog 65 #[.slice A0 l0.length c0, .string a1] w fun e w' => e = .returned (.tuple #[.string r1, .bool r2]) ∧ Below w.heap.size w w' := by
  have HR0 := Aside0.mk hr0
  have HC0 := Aside0.mk hc0
  clear hr0 hc0
  have HB := Aside0.mk (Below.refl w.heap.size w)
  have H : ((rows_place.f l0 a1).bind fun bt128 => (if bt128.2 = true then (if 0 ≤ bt128.1 then (if bt128.1 < (l0.length : Int) then (some ((rd_T67 l0 bt128.1).f1, true)) else (none)) else (none)) else (some ((⟨#[]⟩ : ByteArray), false)))) = some (r1, r2) := h
  clear h
  replace H := Option.bind_eq_some_iff.mp H
  obtain ⟨⟨t128, t129⟩, A30, H⟩ := H
  replace H : (if t129 = true then (if 0 ≤ t128 then (if t128 < (l0.length : Int) then (some ((rd_T67 l0 t128).f1, true)) else (none)) else (none)) else (some ((⟨#[]⟩ : ByteArray), false))) = some (r1, r2) := H
  have A3 := Aside0.mk A30
  clear A30
  by_cases c4 : t129 = true
  · subst c4
    have H1 : (if 0 ≤ t128 then (if t128 < (l0.length : Int) then (some ((rd_T67 l0 t128).f1, true)) else (none)) else (none)) = some (r1, r2) := by rw [if_pos rfl] at H; exact H
    clear H
    have H := H1
    clear H1
    by_cases c5 : 0 ≤ t128
    · rw [if_pos c5] at H
      have c5b0 : decide (0 ≤ t128) = true := decide_eq_true c5
      clear c5
      by_cases c6 : t128 < (l0.length : Int)
      · rw [if_pos c6] at H
        have c6b0 : decide (t128 < (l0.length : Int)) = true := decide_eq_true c6
        clear c6
        simp only [Option.some.injEq, Prod.mk.injEq] at H
        obtain ⟨rfl, rfl⟩ := H
        go_enter Try.func65, Try.ntmps65
        go_wp2_with (first | ((with_reducible refine gate_callee (f := 78) rfl ?_); refine goesL_ (some 11) rfl rfl Try.func78 (by kernel_rfl) rfl #[.slice A0 l0.length c0, .string a1] rfl (by (try simp only [List.map_toArray, List.map_cons, List.map_nil]); first | done | rfl | (simp only [List.length_drop, List.length_take]; rfl)) ?_; (with_reducible refine (rows_place.calls _ _ l0 a1 t128 true _ ?side1 ?side2 A3.out).mono ?_); (case side1 => repeat (first | exact HR0.out | (with_reducible refine Kd.C_alloc ?_ _) | (with_reducible refine Kd.C_drewN ?_ _) | (with_reducible refine Kd.C_drew ?_))); (case side2 => exact HC0.out); rintro e w7 ⟨rfl, hb⟩; refine ⟨_, rfl, ?_⟩; have n0_ := Aside0.mk (below_step (by repeat (first | (with_reducible first | exact HB.out | apply below_alloc | apply pw_below_drewN | apply below_drew1) | exact HB.out)) hb); clear HB; have HB := n0_; clear n0_; (try clear hb); (try clear hb2); (try clear hk); (try clear hi); have p130 : 0 ≤ (t128 : Int) := of_decide_eq_true (by first | (with_reducible assumption) | assumption); have q130 : t128 < (l0.length : Int) := of_decide_eq_true (by first | (with_reducible assumption) | assumption); obtain ⟨ad130, e130, hx130_0, hx130_1⟩ := at_T67 HR0.out t128 p130 q130; cases e130; replace hx130_0 := (HB.out.cell (World.block_lt_of_cell? w _ hx130_0)).trans hx130_0; replace hx130_1 := (HB.out.cell (World.block_lt_of_cell? w _ hx130_1)).trans hx130_1; replace p130 := eq_true p130; replace q130 := eq_true q130))
        go_ret2
        exact ⟨by first | rfl | (simp [errW_none, errW_some] <;> rfl) | (simp [*, errW_none, errW_some] <;> rfl), by repeat (first | (with_reducible first | exact HB.out | apply below_alloc | apply pw_below_drewN | apply below_drew1) | exact HB.out)⟩
      · rw [if_neg c6] at H
        exact absurd H (by simp)
    · rw [if_neg c5] at H
      exact absurd H (by simp)
  · replace c4 := Bool.eq_false_iff.mpr c4
    subst c4
    have H1 : (some ((⟨#[]⟩ : ByteArray), false)) = some (r1, r2) := by rw [if_neg (show ¬ (false = true) by decide)] at H; exact H
    clear H
    have H := H1
    clear H1
    simp only [Option.some.injEq, Prod.mk.injEq] at H
    obtain ⟨rfl, rfl⟩ := H
    go_enter Try.func65, Try.ntmps65
    go_wp2_with (first | ((with_reducible refine gate_callee (f := 78) rfl ?_); refine goesL_ (some 11) rfl rfl Try.func78 (by kernel_rfl) rfl #[.slice A0 l0.length c0, .string a1] rfl (by (try simp only [List.map_toArray, List.map_cons, List.map_nil]); first | done | rfl | (simp only [List.length_drop, List.length_take]; rfl)) ?_; (with_reducible refine (rows_place.calls _ _ l0 a1 t128 false _ ?side1 ?side2 A3.out).mono ?_); (case side1 => repeat (first | exact HR0.out | (with_reducible refine Kd.C_alloc ?_ _) | (with_reducible refine Kd.C_drewN ?_ _) | (with_reducible refine Kd.C_drew ?_))); (case side2 => exact HC0.out); rintro e w8 ⟨rfl, hb⟩; refine ⟨_, rfl, ?_⟩; have n0_ := Aside0.mk (below_step (by repeat (first | (with_reducible first | exact HB.out | apply below_alloc | apply pw_below_drewN | apply below_drew1) | exact HB.out)) hb); clear HB; have HB := n0_; clear n0_; (try clear hb); (try clear hb2); (try clear hk); (try clear hi)))
    go_ret2
    exact ⟨by first | rfl | (simp [errW_none, errW_some] <;> rfl) | (simp [*, errW_none, errW_some] <;> rfl), by repeat (first | (with_reducible first | exact HB.out | apply below_alloc | apply pw_below_drewN | apply below_drew1) | exact HB.out)⟩

end Go.Proofs.Ytmfkgbncnaingaa.QRows
end
