/- A region that draws its order, by a fact for each of its operations: whatever order is drawn, each operation is met once, with the facts of those that it waits for. -/
import Derived.Orders
import Derived.Tactics
import Derived.Below
namespace Go.Proofs.Ytmfkgbncnaingaa.Reg
open Go Go.RowKit

/-- Where operation j puts what it gives. -/
def dstOf (ops : Array Oper) (j : Nat) : Nat := ((ops[j]?).bind (·.dst)).getD 0
/-- What operation o waits for. -/
def depsOf (o : Oper) : List Nat := (o.after.toList.filter (Region.binds .any)).map (·.on)
/-- What an operation gives: a value and a world, without a panic. -/
def Gives (P : Program) (o : Oper) (ev : Operand → Value) (w : World) (K : Value → World → Prop) : Prop :=
  match (execOp ev o).run P w with
  | .ok (.value v) w' => K v w'
  | .ok .skip w' => K undef w'
  | .ok (.enter f args) w' => Calls P f args w' fun e w'' => ∃ v, e = .returned v ∧ K v w''
  | _ => False
theorem Gives.wp {P : Program} {o : Oper} {a : Act} {w : World} {K : Value → World → Prop} {Q : Exit → Act → World → Prop} {K' : Act → World → Prop} (h : Gives P o a.eval w K) (hk : ∀ v w', K v w' → K' (a.put o.dst v) w') : o.wp P a w K' Q := by
  unfold Gives at h
  unfold Oper.wp
  generalize (execOp a.eval o).run P w = r at *
  cases r with
  | ok n w' =>
    cases n <;> simp only [Oper.upon] at h ⊢ <;> try exact absurd h id
    · exact hk _ _ h
    · exact hk _ _ h
    · exact Calls.mono h (fun e w'' ⟨v, he, hv⟩ => by subst he; exact hk _ _ hv)
  | halt x w' => exact absurd h id
/-- Is the operation wanted? -/
def Wants (ops : Array Oper) (o : Oper) (ev : Operand → Value) : Prop := match o.guard with
  | none => True
  | some (j, want) => ev (.tmp (dstOf ops j)) = .bool want

/-- The region's first m operations may come in whatever order; those behind them one by one. -/
def regionOk (ops : Array Oper) (m N : Nat) : Bool :=
  decide (m ≤ ops.size) &&
  (List.range ops.size).all (fun k => match ops[k]? with
    | none => false
    | some o =>
      o.after.all (fun e => !Region.binds .any e || decide (e.on < k)) &&
      (match o.guard with
       | none => true
       | some (j, _) => (match (ops[j]?).bind (·.dst) with
         | none => false
         | some d => decide (d < N))) &&
      (if k < m then (match o.dst with
        | none => false
        | some d => decide (d < N) && (List.range m).all (fun j => j == k || (ops[j]?).bind (·.dst) != some d)) else true) &&
      (if m < ops.size ∧ k < m then (List.range ops.size).any (fun j => decide (k < j) && decide (j ≤ m) && (match ops[j]? with
        | none => false
        | some p => p.after.toList.any (fun e => Region.binds .any e && e.on == k))) else true) &&
      (if m < k then o.after.toList.any (fun e => Region.binds .any e && e.on == k - 1) else true))

section
variable {P : Program} {ops : Array Oper} {Q : Exit → Act → World → Prop}

structure Ok (ops : Array Oper) (m N : Nat) : Prop where
  le : m ≤ ops.size
  early : ∀ (k : Nat) (o : Oper), ops[k]? = some o → ∀ e ∈ o.after, Region.binds .any e = true → e.on < k
  guards : ∀ (k : Nat) (o : Oper) (j : Nat) (want : Bool), ops[k]? = some o → o.guard = some (j, want) → ∃ d : Nat, (ops[j]?).bind (·.dst) = some d ∧ d < N
  dsts : ∀ (k : Nat) (o : Oper), k < m → ops[k]? = some o → ∃ d : Nat, o.dst = some d ∧ d < N ∧ ∀ j, j < m → j ≠ k → (ops[j]?).bind (·.dst) ≠ some d
  closes : ∀ (k : Nat), m < ops.size → k < m → ∃ (j : Nat) (p : Oper) (e : Edge), k < j ∧ j ≤ m ∧ ops[j]? = some p ∧ e ∈ p.after ∧ Region.binds .any e = true ∧ e.on = k
  tail : ∀ (k : Nat) (o : Oper), m < k → ops[k]? = some o → ∃ e ∈ o.after, Region.binds .any e = true ∧ e.on = k - 1

theorem regionOk_spec {m N : Nat} (h : regionOk ops m N = true) : Ok ops m N := by
  unfold regionOk at h
  rw [Bool.and_eq_true, decide_eq_true_eq, List.all_eq_true] at h
  obtain ⟨h0, h1⟩ := h
  have key : ∀ k o, ops[k]? = some o → _ := fun k o ho => by
    have h2 := h1 k (List.mem_range.2 (Array.getElem?_eq_some_iff.1 ho).1)
    rw [ho] at h2
    simp only [Bool.and_eq_true] at h2
    exact h2
  refine ⟨h0, ?_, ?_, ?_, ?_, ?_⟩
  · intro k o ho e he hb
    have h2 := (key k o ho).1.1.1.1
    rw [Array.all_eq_true_iff_forall_mem] at h2
    have h3 := h2 e he
    rw [hb] at h3
    simpa using h3
  · intro k o j want ho hg
    have h2 := (key k o ho).1.1.1.2
    rw [hg] at h2
    dsimp only at h2
    cases hd : (ops[j]?).bind (·.dst) with
    | none => rw [hd] at h2; cases h2
    | some d => rw [hd] at h2; exact ⟨d, rfl, of_decide_eq_true h2⟩
  · intro k o hk ho
    have h2 := (key k o ho).1.1.2
    rw [if_pos hk] at h2
    cases hd : o.dst with
    | none => rw [hd] at h2; cases h2
    | some d =>
      rw [hd] at h2
      simp only [Bool.and_eq_true, decide_eq_true_eq, List.all_eq_true] at h2
      refine ⟨d, rfl, h2.1, fun j hj hjk => ?_⟩
      have h3 := h2.2 j (List.mem_range.2 hj)
      simp only [Bool.or_eq_true, beq_iff_eq, bne_iff_ne, ne_eq] at h3
      exact h3.resolve_left hjk
  · intro k hm hk
    have h2 := h1 k (List.mem_range.2 (by omega))
    cases ho : ops[k]? with
    | none => rw [ho] at h2; cases h2
    | some o =>
      have h3 := (key k o ho).1.2
      rw [if_pos ⟨hm, hk⟩, List.any_eq_true] at h3
      obtain ⟨j, hj, h4⟩ := h3
      simp only [Bool.and_eq_true, decide_eq_true_eq] at h4
      cases hp : ops[j]? with
      | none => rw [hp] at h4; cases h4.2
      | some p =>
        rw [hp] at h4
        have h5 := h4.2
        simp only [List.any_eq_true, Bool.and_eq_true, beq_iff_eq] at h5
        obtain ⟨e, he, hb, hk⟩ := h5
        exact ⟨j, p, e, h4.1.1, h4.1.2, hp, Array.mem_toList_iff.1 he, hb, hk⟩
  · intro k o hk ho
    have h3 := (key k o ho).2
    rw [if_pos hk] at h3
    simp only [List.any_eq_true, Bool.and_eq_true, beq_iff_eq] at h3
    obtain ⟨e, he, hb, hk⟩ := h3
    exact ⟨e, Array.mem_toList_iff.1 he, hb, hk⟩

theorem wanted_iff {m N : Nat} (h : Ok ops m N) {k : Nat} {o : Oper} (ho : ops[k]? = some o) {a : Act} (ha : a.tmps.size = N) : Region.wanted o (yielded ops a.tmps) = true ↔ Wants ops o a.eval := by
  unfold Region.wanted Wants
  cases hg : o.guard with
  | none => simp
  | some jw =>
    obtain ⟨j, want⟩ := jw
    obtain ⟨d, hd, hlt⟩ := h.guards k o j want ho hg
    have hlt' : d < a.tmps.size := by omega
    have hdo : dstOf ops j = d := by unfold dstOf; rw [hd]; rfl
    dsimp only
    rw [hdo]
    unfold yielded
    rw [hd]
    show ((match (some d).bind (a.tmps[·]?) with | some (.bool b) => some b | _ => none) == some want) = true ↔ a.tmps.getD d undef = .bool want
    have hg : a.tmps[d]? = some a.tmps[d] := Array.getElem?_eq_getElem hlt'
    rw [Option.bind_some, hg, Array.getD_eq_getD_getElem?, hg, Option.getD_some]
    cases a.tmps[d] <;> simp

/-- What is known on the way. -/
structure Way (ops : Array Oper) (m : Nat) (F : Nat → Value → World → Prop) (a0 : Act) (w0 : World) (listed : Array Bool) (a : Act) (w : World) : Prop where
  size : listed.size = ops.size
  late : ∀ k, m ≤ k → listed.getD k false = false
  defers : a.defers = a0.defers
  tmps : a.tmps.size = a0.tmps.size
  base : ∀ t, (∀ j, j < m → (ops[j]?).bind (·.dst) ≠ some t) → a.eval (.tmp t) = a0.eval (.tmp t)
  below : Below w0.heap.size w0 w
  facts : ∀ k, k < m → listed.getD k false = true → F k (a.eval (.tmp (dstOf ops k))) w
  closed : ∀ k o, ops[k]? = some o → listed.getD k false = true → ∀ e ∈ o.after, Region.binds .any e = true → listed.getD e.on false = true

/-- What is owed for one operation. -/
def Step (P : Program) (ops : Array Oper) (m : Nat) (F : Nat → Value → World → Prop) (a0 : Act) (w0 : World) (k : Nat) (o : Oper) : Prop :=
  ∀ (ev : Operand → Value) (w : World), Below w0.heap.size w0 w → (∀ v, ev (.const v) = v) → (∀ f, ev (.func f) = .func (.func f) #[] #[]) → (∀ g, ev (.global g) = .pointer (some ⟨g, 0, none⟩)) →
    (∀ t, (List.range m).all (fun j => (ops[j]?).bind (·.dst) != some t) = true → ev (.tmp t) = a0.eval (.tmp t)) →
    (∀ j ∈ depsOf o, F j (ev (.tmp (dstOf ops j))) w) →
    (Wants ops o ev → Gives P o ev w fun v w' => F k v w' ∧ Below w.heap.size w w') ∧ (¬ Wants ops o ev → F k undef w)
def Steps (P : Program) (ops : Array Oper) (m : Nat) (F : Nat → Value → World → Prop) (a0 : Act) (w0 : World) : Nat → List Oper → Prop
  | _, [] => True
  | k, o :: l => Step P ops m F a0 w0 k o ∧ Steps P ops m F a0 w0 (k + 1) l
theorem Steps.get {m : Nat} {F : Nat → Value → World → Prop} {a0 : Act} {w0 : World} : ∀ (l : List Oper) (k : Nat), Steps P ops m F a0 w0 k l → ∀ j o, l[j]? = some o → Step P ops m F a0 w0 (k + j) o
  | [], _, _, j, o, h => by simp at h
  | x :: l, k, hs, 0, o, h => by
    simp at h; subst h; exact hs.1
  | x :: l, k, hs, j + 1, o, h => by
    have := Steps.get l (k + 1) hs.2 j o (by simpa using h)
    rwa [show k + (j + 1) = k + 1 + j by omega]

theorem count_set {l : List Bool} {i : Nat} (h : l[i]? = some false) : (l.set i true).count false + 1 = l.count false := by
  induction l generalizing i with
  | nil => simp at h
  | cons x l ih =>
    cases i with
    | zero => simp at h; subst h; simp
    | succ i =>
      simp at h
      have := ih h
      cases x <;> simp <;> omega

/-- The least one that is not listed may come up. -/
theorem ready_of_not {m N : Nat} (h : Ok ops m N) {listed : Array Bool} (hs : listed.size = ops.size) {i : Nat} (hi : i < ops.size) (hl : listed.getD i true = false) : ∃ j, j ≤ i ∧ j ∈ Region.ready .any ops listed := by
  induction i using Nat.strongRecOn with
  | ind i ih =>
    have ho : ops[i]? = some ops[i] := Array.getElem?_eq_getElem hi
    by_cases hall : ∀ e ∈ ops[i].after, Region.binds .any e = true → listed.getD e.on false = true
    · exact ⟨i, Nat.le_refl _, mem_ready.2 ⟨hl, _, ho, hall⟩⟩
    · simp only [Classical.not_forall] at hall
      obtain ⟨e, he, hb, hn⟩ := hall
      have hlt := h.early i _ ho e he hb
      obtain ⟨j, hj, hr⟩ := ih e.on hlt (by omega) (by
        have h1 : e.on < listed.size := by omega
        rw [Array.getD_eq_getD_getElem?, Array.getElem?_eq_getElem h1] at hn ⊢
        simpa using hn)
      exact ⟨j, by omega, hr⟩

theorem size_put (a : Act) (d : Option Tmp) (v : Value) : (a.put d v).tmps.size = a.tmps.size := by
  cases d <;> simp [Act.put]
theorem defers_put (a : Act) (d : Option Tmp) (v : Value) : (a.put d v).defers = a.defers := by
  cases d <;> rfl
theorem eval_put_same {a : Act} {d : Nat} {v : Value} (h : d < a.tmps.size) : (a.put (some d) v).eval (.tmp d) = v := by
  simp [Act.put, Act.eval, h]
theorem eval_put_ne {a : Act} {d t : Nat} {v : Value} (h : d ≠ t) : (a.put (some d) v).eval (.tmp t) = a.eval (.tmp t) := by
  simp [Act.put, Act.eval, Array.getElem?_setIfInBounds_ne h]

theorem Way.put {m : Nat} {F : Nat → Value → World → Prop} {a0 : Act} {w0 : World} {listed : Array Bool} {a : Act} {w w' : World} (hok : Ok ops m a0.tmps.size)
    (hst : ∀ k v w w', F k v w → Below w.heap.size w w' → F k v w') (h : Way ops m F a0 w0 listed a w) {i : Nat} {o : Oper} (hi : ops[i]? = some o) (him : i < m)
    (hd : ∀ e ∈ o.after, Region.binds .any e = true → listed.getD e.on false = true) {v : Value} (hF : F i v w') (hB : Below w.heap.size w w') : Way ops m F a0 w0 (listed.setIfInBounds i true) (a.put o.dst v) w' := by
  obtain ⟨d, hdst, hdN, hother⟩ := hok.dsts i o him hi
  have hio : (ops[i]?).bind (·.dst) = some d := by rw [hi]; exact hdst
  refine ⟨by simpa using h.size, ?_, by rw [defers_put]; exact h.defers, by rw [size_put]; exact h.tmps, ?_, h.below.trans (hB.mono h.below.size), ?_, ?_⟩
  · intro k hk
    rw [getD_set_ne false (by omega : i ≠ k)]; exact h.late k hk
  · intro t ht
    rw [hdst, eval_put_ne (fun e => ht i him (by rw [← e]; exact hio))]
    exact h.base t ht
  · intro k hk hlk
    by_cases hik : i = k
    · subst hik
      have e : dstOf ops i = d := by unfold dstOf; rw [hio]; rfl
      rw [e, hdst, eval_put_same (by rw [h.tmps]; exact hdN)]
      exact hF
    · rw [getD_set_ne false hik] at hlk
      have hk' : k < ops.size := by have := hok.le; omega
      obtain ⟨d', hd', _, _⟩ := hok.dsts k _ hk (Array.getElem?_eq_getElem hk')
      have hko : (ops[k]?).bind (·.dst) = some d' := by rw [Array.getElem?_eq_getElem hk']; exact hd'
      have e : dstOf ops k = d' := by unfold dstOf; rw [hko]; rfl
      rw [e, hdst, eval_put_ne (fun e => hother k hk (Ne.symm hik) (by rw [e]; exact hko)), ← e]
      exact hst _ _ _ _ (h.facts k hk hlk) hB
  · intro k ok hok' hlk e he hb
    by_cases hik : i = k
    · subst hik
      rw [hi] at hok'; injection hok' with hok'; subst hok'
      exact getD_set_true (hd e he hb)
    · rw [getD_set_ne false hik] at hlk
      exact getD_set_true (h.closed k ok hok' hlk e he hb)

/-- Behind the first m operations: the others one by one. -/
theorem any_tail {m N : Nat} (h : Ok ops m N) : ∀ (d k : Nat), k + d = ops.size → m ≤ k → ∀ (fuel : Nat), d ≤ fuel → ∀ (listed : Array Bool), listed.size = ops.size → (∀ j, j < k → listed.getD j false = true) → (∀ j, k ≤ j → listed.getD j false = false) → ∀ a w, wpList P ops Q (ops.toList.drop k) a w → wpAny P .any ops Q fuel listed a w := by
  intro d
  induction d with
  | zero =>
    intro k hk hm fuel _ listed hs hall _ a w hw
    have hr : Region.ready .any ops listed = [] := by
      rw [List.eq_nil_iff_forall_not_mem]
      intro j hj
      obtain ⟨h0, o, ho, _⟩ := mem_ready.1 hj
      have hlt := (Array.getElem?_eq_some_iff.1 ho).1
      have h1 := hall j (by omega)
      rw [Array.getD_eq_getD_getElem?, Array.getElem?_eq_getElem (by omega : j < listed.size)] at h0 h1
      simp at h0 h1
      rw [h0] at h1; cases h1
    rw [List.drop_of_length_le (by rw [Array.length_toList]; omega)] at hw
    cases fuel with
    | zero => exact ⟨hr, hw⟩
    | succ f => exact ⟨fun _ => hw, by rw [hr]; intro i hi; cases hi⟩
  | succ d ih =>
    intro k hk hm fuel hf listed hs hall hnot a w hw
    obtain ⟨f, rfl⟩ : ∃ f, fuel = f + 1 := ⟨fuel - 1, by omega⟩
    have hlt : k < ops.size := by omega
    have hok : ops[k]? = some ops[k] := Array.getElem?_eq_getElem hlt
    have hun : ∀ j, k ≤ j → j < ops.size → listed.getD j true = false := fun j hj hj2 => by
      have h1 := hnot j hj
      rw [Array.getD_eq_getD_getElem?, Array.getElem?_eq_getElem (by omega : j < listed.size)] at h1 ⊢
      simpa using h1
    have hmem : k ∈ Region.ready .any ops listed := mem_ready.2 ⟨hun k (Nat.le_refl _) hlt, _, hok, fun e he hb => hall _ (h.early k _ hok e he hb)⟩
    refine ⟨fun h0 => (by rw [h0] at hmem; cases hmem), fun i hi => ?_⟩
    obtain ⟨h0, o, ho, hdep⟩ := mem_ready.1 hi
    have hil := (Array.getElem?_eq_some_iff.1 ho).1
    have hki : k = i := by
      by_cases h1 : i < k
      · have := hall i h1
        rw [Array.getD_eq_getD_getElem?, Array.getElem?_eq_getElem (by omega : i < listed.size)] at h0 this
        simp at h0 this
        rw [h0] at this; cases this
      · by_cases h2 : i = k
        · exact h2.symm
        · exfalso
          obtain ⟨e, he, hb, hon⟩ := h.tail i o (by omega) ho
          have h3 := hdep e he hb
          rw [hnot e.on (by omega)] at h3; cases h3
    subst hki
    rw [hok] at ho; injection ho with ho
    rw [List.drop_eq_getElem_cons (by rw [Array.length_toList]; exact hlt)] at hw
    unfold wpList at hw
    have hrest : ∀ a w, wpList P ops Q (ops.toList.drop (k + 1)) a w → wpAny P .any ops Q f (listed.setIfInBounds k true) a w := fun a w hw =>
      ih (k + 1) (by omega) (by omega) f (by omega) _ (by simpa using hs) (fun j hj => by
        by_cases hjk : j = k
        · subst hjk; simp [hs, hlt]
        · exact getD_set_true (hall j (by omega))) (fun j hj => by rw [getD_set_ne false (by omega : k ≠ j)]; exact hnot j (by omega)) a w hw
    unfold wpOp
    rw [hok]
    dsimp only
    rw [Array.getElem_toList] at hw
    split
    · rename_i hwant
      rw [if_pos hwant] at hw
      exact hw.imp (Oper.wp_mono hrest) id
    · rename_i hwant
      rw [if_neg hwant] at hw
      exact hrest _ _ hw

theorem act_frame (a : Act) (N : Nat) (h : a.tmps.size = N) : a = ⟨((List.range N).map fun t => a.eval (.tmp t)).toArray, a.defers⟩ := by
  obtain ⟨t, d⟩ := a
  subst h
  congr 1
  apply Array.ext
  · simp
  · intro i h1 h2
    simp [Act.eval, h1]

theorem any_way {m : Nat} {F : Nat → Value → World → Prop} {a0 : Act} {w0 : World} (hok : Ok ops m a0.tmps.size)
    (hst : ∀ k v w w', F k v w → Below w.heap.size w w' → F k v w') (hsteps : Steps P ops m F a0 w0 0 (ops.toList.take m))
    (hend : ∀ (x : Nat → Value) (w : World), Below w0.heap.size w0 w → (∀ t, (List.range m).all (fun j => (ops[j]?).bind (·.dst) != some t) = true → x t = a0.eval (.tmp t)) → (∀ k, k < m → F k (x (dstOf ops k)) w) →
      wpList P ops Q (ops.toList.drop m) ⟨((List.range a0.tmps.size).map x).toArray, a0.defers⟩ w) :
    ∀ (fuel : Nat) (listed : Array Bool) (a : Act) (w : World), listed.toList.count false ≤ fuel → Way ops m F a0 w0 listed a w → wpAny P .any ops Q fuel listed a w := by
  intro fuel
  have hbase : ∀ {a : Act} {w : World} {listed : Array Bool}, Way ops m F a0 w0 listed a w → ∀ t, (List.range m).all (fun j => (ops[j]?).bind (·.dst) != some t) = true → a.eval (.tmp t) = a0.eval (.tmp t) := fun hw t ht =>
    hw.base t fun j hj => by
      have := List.all_eq_true.1 ht j (List.mem_range.2 hj)
      simpa using this
  have fin : ∀ (fuel : Nat) (listed : Array Bool) (a : Act) (w : World), listed.toList.count false ≤ fuel → Way ops m F a0 w0 listed a w → (∀ k, k < m → listed.getD k false = true) → wpAny P .any ops Q fuel listed a w := by
    intro fuel listed a w hc hw hall
    have hcount : ops.size - m ≤ fuel := by
      refine Nat.le_trans ?_ hc
      have h1 : listed.toList.drop m = List.replicate (ops.size - m) false := by
        apply List.ext_getElem
        · rw [List.length_drop, Array.length_toList, hw.size, List.length_replicate]
        · intro i h1 h2
          rw [List.getElem_drop, List.getElem_replicate]
          have h3 := hw.late (m + i) (by omega)
          rw [List.length_drop, Array.length_toList] at h1
          rw [Array.getD_eq_getD_getElem?, Array.getElem?_eq_getElem (by omega : m + i < listed.size)] at h3
          simpa using h3
      calc ops.size - m = (List.replicate (ops.size - m) false).count false := by rw [List.count_replicate_self]
        _ = (listed.toList.drop m).count false := by rw [h1]
        _ ≤ listed.toList.count false := (List.drop_sublist _ _).count_le _
    refine any_tail hok (ops.size - m) m (by have := hok.le; omega) (Nat.le_refl _) fuel hcount listed hw.size hall hw.late a w ?_
    have h2 := hend (fun t => a.eval (.tmp t)) w hw.below (hbase hw) (fun k hk => hw.facts k hk (hall k hk))
    rw [act_frame a _ hw.tmps, hw.defers]
    exact h2
  induction fuel with
  | zero =>
    intro listed a w hc hw
    refine fin 0 listed a w hc hw fun k hk => ?_
    have hk' : k < listed.size := by have := hok.le; rw [hw.size]; omega
    have h0 : listed.toList.count false = 0 := by omega
    rw [List.count_eq_zero] at h0
    rw [Array.getD_eq_getD_getElem?, Array.getElem?_eq_getElem hk', Option.getD_some]
    cases h1 : listed[k] with
    | true => rfl
    | false => exact absurd (by rw [← h1]; exact Array.getElem_mem_toList hk') h0
  | succ fuel ih =>
    intro listed a w hc hw
    by_cases hall : ∀ k, k < m → listed.getD k false = true
    · exact fin _ listed a w hc hw hall
    · simp only [Classical.not_forall] at hall
      obtain ⟨k0, hk0, hn0⟩ := hall
      have hun : ∀ j, j < ops.size → ¬ listed.getD j false = true → listed.getD j true = false := fun j hj h1 => by
        rw [Array.getD_eq_getD_getElem?, Array.getElem?_eq_getElem (by rw [hw.size]; omega : j < listed.size)] at h1 ⊢
        simpa using h1
      refine ⟨fun h0 => ?_, fun i hi => ?_⟩
      · obtain ⟨j, _, hj⟩ := ready_of_not hok hw.size (by have := hok.le; omega) (hun k0 (by have := hok.le; omega) hn0)
        rw [h0] at hj; cases hj
      · obtain ⟨hli, o, ho, hdep⟩ := mem_ready.1 hi
        have hil := (Array.getElem?_eq_some_iff.1 ho).1
        have him : i < m := by
          by_cases h1 : i < m
          · exact h1
          · exfalso
            by_cases h2 : i = m
            · subst h2
              -- all ahead of it are listed
              have hcl : ∀ d k, k + d + 1 = i → listed.getD k false = true := by
                intro d
                induction d using Nat.strongRecOn with
                | ind d ihd =>
                  intro k hk
                  obtain ⟨j, p, e, hkj, hjm, hp, he, hb, hek⟩ := hok.closes k hil (by omega)
                  by_cases hji : j = i
                  · subst hji
                    rw [ho] at hp; injection hp with hp; subst hp
                    rw [← hek]; exact hdep e he hb
                  · have h3 := ihd (i - j - 1) (by omega) j (by omega)
                    rw [← hek]; exact hw.closed j p hp h3 e he hb
              exact hn0 (hcl (i - k0 - 1) k0 (by omega))
            · obtain ⟨e, he, hb, hon⟩ := hok.tail i o (by omega) ho
              have h3 := hdep e he hb
              rw [hw.late e.on (by omega)] at h3; cases h3
        have hst1 := Steps.get _ 0 hsteps i o (by rw [List.getElem?_take_of_lt him, Array.getElem?_toList]; exact ho)
        rw [Nat.zero_add] at hst1
        have hst2 := hst1 a.eval w hw.below (fun _ => rfl) (fun _ => rfl) (fun _ => rfl) (hbase hw) (fun j hj => by
          unfold depsOf at hj
          rw [List.mem_map] at hj
          obtain ⟨e, he, rfl⟩ := hj
          rw [List.mem_filter] at he
          have he' : e ∈ o.after := Array.mem_toList_iff.1 he.1
          exact hw.facts e.on (by have := hok.early i o ho e he' he.2; omega) (hdep e he' he.2))
        have hset : (listed.setIfInBounds i true).toList.count false ≤ fuel := by
          have h1 : listed.toList[i]? = some false := by
            rw [Array.getElem?_toList]
            have h2 : i < listed.size := by rw [hw.size]; exact hil
            rw [Array.getD_eq_getD_getElem?, Array.getElem?_eq_getElem h2, Option.getD_some] at hli
            rw [Array.getElem?_eq_getElem h2, hli]
          have := count_set h1
          rw [Array.toList_setIfInBounds]; omega
        have hgo : ∀ v w', (F i v w' ∧ Below w.heap.size w w') → wpAny P .any ops Q fuel (listed.setIfInBounds i true) (a.put o.dst v) w' := fun v w' hv =>
          ih _ _ _ hset (hw.put hok hst ho him hdep hv.1 hv.2)
        unfold wpOp
        rw [ho]
        dsimp only
        split
        · rename_i hwant
          exact .inl ((hst2.1 ((wanted_iff hok ho hw.tmps).1 hwant)).wp hgo)
        · rename_i hwant
          exact hgo _ _ ⟨hst2.2 (fun h => hwant ((wanted_iff hok ho hw.tmps).2 h)), Below.refl _ _⟩

/-- The rule. -/
theorem region_facts {id : Nat} {a0 : Act} {w : World} (hm : P.follows .mixedOrders = true) (m : Nat) (F : Nat → Value → World → Prop) (hok : regionOk ops m a0.tmps.size = true)
    (hst : ∀ k v w w', F k v w → Below w.heap.size w w' → F k v w') (hsteps : Steps P ops m F a0 w 0 (ops.toList.take m))
    (hend : ∀ (x : Nat → Value) (w' : World), Below w.heap.size w w' → (∀ t, (List.range m).all (fun j => (ops[j]?).bind (·.dst) != some t) = true → x t = a0.eval (.tmp t)) → (∀ k, k < m → F k (x (dstOf ops k)) w') →
      wpList P ops Q (ops.toList.drop m) ⟨((List.range a0.tmps.size).map x).toArray, a0.defers⟩ w') :
    (Code.region id ops true).wp P Q a0 w := by
  refine wp_region_any hm ?_
  have hd : Below w.heap.size w { w with drawn := w.drawn + 1 } := (Below.refl _ _).drew
  refine any_way (regionOk_spec hok) hst hsteps hend ops.size _ a0 _ (by simp) ⟨by simp, fun k _ => ?_, rfl, rfl, fun _ _ => rfl, hd, fun k _ h => ?_, fun k o _ h => ?_⟩
  · by_cases h : k < ops.size <;> simp [h]
  · by_cases h1 : k < ops.size <;> simp [h1] at h
  · by_cases h1 : k < ops.size <;> simp [h1] at h

end
end Go.Proofs.Ytmfkgbncnaingaa.Reg
