/- 12 texts of this family in one. -/
import Derived.Orders
import Derived.Tactics
import Derived.Below
import Derived.Test.YtfdceninhieheaaShelf
import Derived.Test.YtfdceninhieheaaGQTrust
import Derived.Maps.RangeWalk
import Derived.Maps.OwnSet
import Derived.Maps.OwnRows
import Derived.Sort.OwnSortedInts

section
/- A region that draws its order, by a fact for each of its operations: whatever order is drawn, each operation is met once, with the facts of those that it waits for. -/
namespace Go.Proofs.Ytfdceninhieheaa.Reg
open Go Go.RowKit

/-- Where operation j puts what it gives. -/
def dstOf (ops : Array Oper) (j : Nat) : Nat := ((ops[j]?).bind (·.dst)).getD 0
/-- What operation o waits for. -/
def depsOf (o : Oper) : List Nat := (o.after.toList.filter (Region.binds .any)).map (·.on)
/-- What an operation gives: a value and a world, without a panic. -/
def Gives (P : Program) (o : Oper) (ev : Operand → Value) (w : World) (K : Value → World → Prop) : Prop :=
  match (execOp ev o).run P w with
  | .ok (.value v) w' => K v w'
  | .ok .skip w' => K undef w'
  | .ok (.enter f args) w' => Calls P f args w' fun e w'' => ∃ v, e = .returned v ∧ K v w''
  | _ => False
theorem Gives.wp {P : Program} {o : Oper} {a : Act} {w : World} {K : Value → World → Prop} {Q : Exit → Act → World → Prop} {K' : Act → World → Prop} (h : Gives P o a.eval w K) (hk : ∀ v w', K v w' → K' (a.put o.dst v) w') : o.wp P a w K' Q := by
  unfold Gives at h
  unfold Oper.wp
  generalize (execOp a.eval o).run P w = r at *
  cases r with
  | ok n w' =>
    cases n <;> simp only [Oper.upon] at h ⊢ <;> try exact absurd h id
    · exact hk _ _ h
    · exact hk _ _ h
    · exact Calls.mono h (fun e w'' ⟨v, he, hv⟩ => by subst he; exact hk _ _ hv)
  | halt x w' => exact absurd h id
/-- Is the operation wanted? -/
def Wants (ops : Array Oper) (o : Oper) (ev : Operand → Value) : Prop := match o.guard with
  | none => True
  | some (j, want) => ev (.tmp (dstOf ops j)) = .bool want

/-- The region's first m operations may come in whatever order; those behind them one by one. -/
def regionOk (ops : Array Oper) (m N : Nat) : Bool :=
  decide (m ≤ ops.size) &&
  (List.range ops.size).all (fun k => match ops[k]? with
    | none => false
    | some o =>
      o.after.all (fun e => !Region.binds .any e || decide (e.on < k)) &&
      (match o.guard with
       | none => true
       | some (j, _) => (match (ops[j]?).bind (·.dst) with
         | none => false
         | some d => decide (d < N))) &&
      (if k < m then (match o.dst with
        | none => false
        | some d => decide (d < N) && (List.range m).all (fun j => j == k || (ops[j]?).bind (·.dst) != some d)) else true) &&
      (if m < ops.size ∧ k < m then (List.range ops.size).any (fun j => decide (k < j) && decide (j ≤ m) && (match ops[j]? with
        | none => false
        | some p => p.after.toList.any (fun e => Region.binds .any e && e.on == k))) else true) &&
      (if m < k then o.after.toList.any (fun e => Region.binds .any e && e.on == k - 1) else true))

section
variable {P : Program} {ops : Array Oper} {Q : Exit → Act → World → Prop}

structure Ok (ops : Array Oper) (m N : Nat) : Prop where
  le : m ≤ ops.size
  early : ∀ (k : Nat) (o : Oper), ops[k]? = some o → ∀ e ∈ o.after, Region.binds .any e = true → e.on < k
  guards : ∀ (k : Nat) (o : Oper) (j : Nat) (want : Bool), ops[k]? = some o → o.guard = some (j, want) → ∃ d : Nat, (ops[j]?).bind (·.dst) = some d ∧ d < N
  dsts : ∀ (k : Nat) (o : Oper), k < m → ops[k]? = some o → ∃ d : Nat, o.dst = some d ∧ d < N ∧ ∀ j, j < m → j ≠ k → (ops[j]?).bind (·.dst) ≠ some d
  closes : ∀ (k : Nat), m < ops.size → k < m → ∃ (j : Nat) (p : Oper) (e : Edge), k < j ∧ j ≤ m ∧ ops[j]? = some p ∧ e ∈ p.after ∧ Region.binds .any e = true ∧ e.on = k
  tail : ∀ (k : Nat) (o : Oper), m < k → ops[k]? = some o → ∃ e ∈ o.after, Region.binds .any e = true ∧ e.on = k - 1

theorem regionOk_spec {m N : Nat} (h : regionOk ops m N = true) : Ok ops m N := by
  unfold regionOk at h
  rw [Bool.and_eq_true, decide_eq_true_eq, List.all_eq_true] at h
  obtain ⟨h0, h1⟩ := h
  have key : ∀ k o, ops[k]? = some o → _ := fun k o ho => by
    have h2 := h1 k (List.mem_range.2 (Array.getElem?_eq_some_iff.1 ho).1)
    rw [ho] at h2
    simp only [Bool.and_eq_true] at h2
    exact h2
  refine ⟨h0, ?_, ?_, ?_, ?_, ?_⟩
  · intro k o ho e he hb
    have h2 := (key k o ho).1.1.1.1
    rw [Array.all_eq_true_iff_forall_mem] at h2
    have h3 := h2 e he
    rw [hb] at h3
    simpa using h3
  · intro k o j want ho hg
    have h2 := (key k o ho).1.1.1.2
    rw [hg] at h2
    dsimp only at h2
    cases hd : (ops[j]?).bind (·.dst) with
    | none => rw [hd] at h2; cases h2
    | some d => rw [hd] at h2; exact ⟨d, rfl, of_decide_eq_true h2⟩
  · intro k o hk ho
    have h2 := (key k o ho).1.1.2
    rw [if_pos hk] at h2
    cases hd : o.dst with
    | none => rw [hd] at h2; cases h2
    | some d =>
      rw [hd] at h2
      simp only [Bool.and_eq_true, decide_eq_true_eq, List.all_eq_true] at h2
      refine ⟨d, rfl, h2.1, fun j hj hjk => ?_⟩
      have h3 := h2.2 j (List.mem_range.2 hj)
      simp only [Bool.or_eq_true, beq_iff_eq, bne_iff_ne, ne_eq] at h3
      exact h3.resolve_left hjk
  · intro k hm hk
    have h2 := h1 k (List.mem_range.2 (by omega))
    cases ho : ops[k]? with
    | none => rw [ho] at h2; cases h2
    | some o =>
      have h3 := (key k o ho).1.2
      rw [if_pos ⟨hm, hk⟩, List.any_eq_true] at h3
      obtain ⟨j, hj, h4⟩ := h3
      simp only [Bool.and_eq_true, decide_eq_true_eq] at h4
      cases hp : ops[j]? with
      | none => rw [hp] at h4; cases h4.2
      | some p =>
        rw [hp] at h4
        have h5 := h4.2
        simp only [List.any_eq_true, Bool.and_eq_true, beq_iff_eq] at h5
        obtain ⟨e, he, hb, hk⟩ := h5
        exact ⟨j, p, e, h4.1.1, h4.1.2, hp, Array.mem_toList_iff.1 he, hb, hk⟩
  · intro k o hk ho
    have h3 := (key k o ho).2
    rw [if_pos hk] at h3
    simp only [List.any_eq_true, Bool.and_eq_true, beq_iff_eq] at h3
    obtain ⟨e, he, hb, hk⟩ := h3
    exact ⟨e, Array.mem_toList_iff.1 he, hb, hk⟩

theorem wanted_iff {m N : Nat} (h : Ok ops m N) {k : Nat} {o : Oper} (ho : ops[k]? = some o) {a : Act} (ha : a.tmps.size = N) : Region.wanted o (yielded ops a.tmps) = true ↔ Wants ops o a.eval := by
  unfold Region.wanted Wants
  cases hg : o.guard with
  | none => simp
  | some jw =>
    obtain ⟨j, want⟩ := jw
    obtain ⟨d, hd, hlt⟩ := h.guards k o j want ho hg
    have hlt' : d < a.tmps.size := by omega
    have hdo : dstOf ops j = d := by unfold dstOf; rw [hd]; rfl
    dsimp only
    rw [hdo]
    unfold yielded
    rw [hd]
    show ((match (some d).bind (a.tmps[·]?) with | some (.bool b) => some b | _ => none) == some want) = true ↔ a.tmps.getD d undef = .bool want
    have hg : a.tmps[d]? = some a.tmps[d] := Array.getElem?_eq_getElem hlt'
    rw [Option.bind_some, hg, Array.getD_eq_getD_getElem?, hg, Option.getD_some]
    cases a.tmps[d] <;> simp

/-- What is known on the way. -/
structure Way (ops : Array Oper) (m : Nat) (I : World → Prop) (G : Nat → World → Prop) (F : Nat → Value → World → Prop) (a0 : Act) (listed : Array Bool) (a : Act) (w : World) : Prop where
  size : listed.size = ops.size
  late : ∀ k, m ≤ k → listed.getD k false = false
  defers : a.defers = a0.defers
  tmps : a.tmps.size = a0.tmps.size
  base : ∀ t, (∀ j, j < m → (ops[j]?).bind (·.dst) ≠ some t) → a.eval (.tmp t) = a0.eval (.tmp t)
  inv : I w
  todo : ∀ k, k < m → listed.getD k false = false → G k w
  facts : ∀ k, k < m → listed.getD k false = true → F k (a.eval (.tmp (dstOf ops k))) w
  closed : ∀ k o, ops[k]? = some o → listed.getD k false = true → ∀ e ∈ o.after, Region.binds .any e = true → listed.getD e.on false = true

/-- What is owed for one operation. -/
def Step (P : Program) (ops : Array Oper) (m : Nat) (I : World → Prop) (St : Nat → World → World → Prop) (G : Nat → World → Prop) (F : Nat → Value → World → Prop) (a0 : Act) (k : Nat) (o : Oper) : Prop :=
  ∀ (ev : Operand → Value) (w : World), I w → G k w → (∀ v, ev (.const v) = v) → (∀ f, ev (.func f) = .func (.func f) #[] #[]) → (∀ g, ev (.global g) = .pointer (some ⟨g, 0, none⟩)) →
    (∀ t, (List.range m).all (fun j => (ops[j]?).bind (·.dst) != some t) = true → ev (.tmp t) = a0.eval (.tmp t)) →
    (∀ j ∈ depsOf o, F j (ev (.tmp (dstOf ops j))) w) →
    (Wants ops o ev → Gives P o ev w fun v w' => F k v w' ∧ I w' ∧ St k w w') ∧ (¬ Wants ops o ev → F k undef w ∧ St k w w)
def Steps (P : Program) (ops : Array Oper) (m : Nat) (I : World → Prop) (St : Nat → World → World → Prop) (G : Nat → World → Prop) (F : Nat → Value → World → Prop) (a0 : Act) : Nat → List Oper → Prop
  | _, [] => True
  | k, o :: l => Step P ops m I St G F a0 k o ∧ Steps P ops m I St G F a0 (k + 1) l
theorem Steps.get {m : Nat} {I : World → Prop} {St : Nat → World → World → Prop} {G : Nat → World → Prop} {F : Nat → Value → World → Prop} {a0 : Act} : ∀ (l : List Oper) (k : Nat), Steps P ops m I St G F a0 k l → ∀ j o, l[j]? = some o → Step P ops m I St G F a0 (k + j) o
  | [], _, _, j, o, h => by simp at h
  | x :: l, k, hs, 0, o, h => by
    simp at h; subst h; exact hs.1
  | x :: l, k, hs, j + 1, o, h => by
    have := Steps.get l (k + 1) hs.2 j o (by simpa using h)
    rwa [show k + (j + 1) = k + 1 + j by omega]

theorem count_set {l : List Bool} {i : Nat} (h : l[i]? = some false) : (l.set i true).count false + 1 = l.count false := by
  induction l generalizing i with
  | nil => simp at h
  | cons x l ih =>
    cases i with
    | zero => simp at h; subst h; simp
    | succ i =>
      simp at h
      have := ih h
      cases x <;> simp <;> omega

/-- The least one that is not listed may come up. -/
theorem ready_of_not {m N : Nat} (h : Ok ops m N) {listed : Array Bool} (hs : listed.size = ops.size) {i : Nat} (hi : i < ops.size) (hl : listed.getD i true = false) : ∃ j, j ≤ i ∧ j ∈ Region.ready .any ops listed := by
  induction i using Nat.strongRecOn with
  | ind i ih =>
    have ho : ops[i]? = some ops[i] := Array.getElem?_eq_getElem hi
    by_cases hall : ∀ e ∈ ops[i].after, Region.binds .any e = true → listed.getD e.on false = true
    · exact ⟨i, Nat.le_refl _, mem_ready.2 ⟨hl, _, ho, hall⟩⟩
    · simp only [Classical.not_forall] at hall
      obtain ⟨e, he, hb, hn⟩ := hall
      have hlt := h.early i _ ho e he hb
      obtain ⟨j, hj, hr⟩ := ih e.on hlt (by omega) (by
        have h1 : e.on < listed.size := by omega
        rw [Array.getD_eq_getD_getElem?, Array.getElem?_eq_getElem h1] at hn ⊢
        simpa using hn)
      exact ⟨j, by omega, hr⟩

theorem size_put (a : Act) (d : Option Tmp) (v : Value) : (a.put d v).tmps.size = a.tmps.size := by
  cases d <;> simp [Act.put]
theorem defers_put (a : Act) (d : Option Tmp) (v : Value) : (a.put d v).defers = a.defers := by
  cases d <;> rfl
theorem eval_put_same {a : Act} {d : Nat} {v : Value} (h : d < a.tmps.size) : (a.put (some d) v).eval (.tmp d) = v := by
  simp [Act.put, Act.eval, h]
theorem eval_put_ne {a : Act} {d t : Nat} {v : Value} (h : d ≠ t) : (a.put (some d) v).eval (.tmp t) = a.eval (.tmp t) := by
  simp [Act.put, Act.eval, Array.getElem?_setIfInBounds_ne h]

theorem Way.put {m : Nat} {I : World → Prop} {St : Nat → World → World → Prop} {G : Nat → World → Prop} {F : Nat → Value → World → Prop} {a0 : Act} {listed : Array Bool} {a : Act} {w w' : World} (hok : Ok ops m a0.tmps.size)
    (hst : ∀ i k v w w', i ≠ k → F k v w → I w → St i w w' → F k v w') (hgt : ∀ i k w w', i ≠ k → G k w → I w → St i w w' → G k w') (h : Way ops m I G F a0 listed a w) {i : Nat} {o : Oper} (hi : ops[i]? = some o) (him : i < m)
    (hd : ∀ e ∈ o.after, Region.binds .any e = true → listed.getD e.on false = true) {v : Value} (hF : F i v w') (hI : I w') (hB : St i w w') : Way ops m I G F a0 (listed.setIfInBounds i true) (a.put o.dst v) w' := by
  obtain ⟨d, hdst, hdN, hother⟩ := hok.dsts i o him hi
  have hio : (ops[i]?).bind (·.dst) = some d := by rw [hi]; exact hdst
  refine ⟨by simpa using h.size, ?_, by rw [defers_put]; exact h.defers, by rw [size_put]; exact h.tmps, ?_, hI, ?_, ?_, ?_⟩
  · intro k hk
    rw [getD_set_ne false (by omega : i ≠ k)]; exact h.late k hk
  · intro t ht
    rw [hdst, eval_put_ne (fun e => ht i him (by rw [← e]; exact hio))]
    exact h.base t ht
  · intro k hk hlk
    by_cases hik : i = k
    · subst hik
      have hlt : i < listed.size := by rw [h.size]; exact (Array.getElem?_eq_some_iff.1 hi).1
      rw [Array.getD_eq_getD_getElem?, Array.getElem?_setIfInBounds_self_of_lt hlt] at hlk; cases hlk
    · rw [getD_set_ne false hik] at hlk
      exact hgt i k _ _ hik (h.todo k hk hlk) h.inv hB
  · intro k hk hlk
    by_cases hik : i = k
    · subst hik
      have e : dstOf ops i = d := by unfold dstOf; rw [hio]; rfl
      rw [e, hdst, eval_put_same (by rw [h.tmps]; exact hdN)]
      exact hF
    · rw [getD_set_ne false hik] at hlk
      have hk' : k < ops.size := by have := hok.le; omega
      obtain ⟨d', hd', _, _⟩ := hok.dsts k _ hk (Array.getElem?_eq_getElem hk')
      have hko : (ops[k]?).bind (·.dst) = some d' := by rw [Array.getElem?_eq_getElem hk']; exact hd'
      have e : dstOf ops k = d' := by unfold dstOf; rw [hko]; rfl
      rw [e, hdst, eval_put_ne (fun e => hother k hk (Ne.symm hik) (by rw [e]; exact hko)), ← e]
      exact hst _ _ _ _ _ hik (h.facts k hk hlk) h.inv hB
  · intro k ok hok' hlk e he hb
    by_cases hik : i = k
    · subst hik
      rw [hi] at hok'; injection hok' with hok'; subst hok'
      exact getD_set_true (hd e he hb)
    · rw [getD_set_ne false hik] at hlk
      exact getD_set_true (h.closed k ok hok' hlk e he hb)

/-- Behind the first m operations: the others one by one. -/
theorem any_tail {m N : Nat} (h : Ok ops m N) : ∀ (d k : Nat), k + d = ops.size → m ≤ k → ∀ (fuel : Nat), d ≤ fuel → ∀ (listed : Array Bool), listed.size = ops.size → (∀ j, j < k → listed.getD j false = true) → (∀ j, k ≤ j → listed.getD j false = false) → ∀ a w, wpList P ops Q (ops.toList.drop k) a w → wpAny P .any ops Q fuel listed a w := by
  intro d
  induction d with
  | zero =>
    intro k hk hm fuel _ listed hs hall _ a w hw
    have hr : Region.ready .any ops listed = [] := by
      rw [List.eq_nil_iff_forall_not_mem]
      intro j hj
      obtain ⟨h0, o, ho, _⟩ := mem_ready.1 hj
      have hlt := (Array.getElem?_eq_some_iff.1 ho).1
      have h1 := hall j (by omega)
      rw [Array.getD_eq_getD_getElem?, Array.getElem?_eq_getElem (by omega : j < listed.size)] at h0 h1
      simp at h0 h1
      rw [h0] at h1; cases h1
    rw [List.drop_of_length_le (by rw [Array.length_toList]; omega)] at hw
    cases fuel with
    | zero => exact ⟨hr, hw⟩
    | succ f => exact ⟨fun _ => hw, by rw [hr]; intro i hi; cases hi⟩
  | succ d ih =>
    intro k hk hm fuel hf listed hs hall hnot a w hw
    obtain ⟨f, rfl⟩ : ∃ f, fuel = f + 1 := ⟨fuel - 1, by omega⟩
    have hlt : k < ops.size := by omega
    have hok : ops[k]? = some ops[k] := Array.getElem?_eq_getElem hlt
    have hun : ∀ j, k ≤ j → j < ops.size → listed.getD j true = false := fun j hj hj2 => by
      have h1 := hnot j hj
      rw [Array.getD_eq_getD_getElem?, Array.getElem?_eq_getElem (by omega : j < listed.size)] at h1 ⊢
      simpa using h1
    have hmem : k ∈ Region.ready .any ops listed := mem_ready.2 ⟨hun k (Nat.le_refl _) hlt, _, hok, fun e he hb => hall _ (h.early k _ hok e he hb)⟩
    refine ⟨fun h0 => (by rw [h0] at hmem; cases hmem), fun i hi => ?_⟩
    obtain ⟨h0, o, ho, hdep⟩ := mem_ready.1 hi
    have hil := (Array.getElem?_eq_some_iff.1 ho).1
    have hki : k = i := by
      by_cases h1 : i < k
      · have := hall i h1
        rw [Array.getD_eq_getD_getElem?, Array.getElem?_eq_getElem (by omega : i < listed.size)] at h0 this
        simp at h0 this
        rw [h0] at this; cases this
      · by_cases h2 : i = k
        · exact h2.symm
        · exfalso
          obtain ⟨e, he, hb, hon⟩ := h.tail i o (by omega) ho
          have h3 := hdep e he hb
          rw [hnot e.on (by omega)] at h3; cases h3
    subst hki
    rw [hok] at ho; injection ho with ho
    rw [List.drop_eq_getElem_cons (by rw [Array.length_toList]; exact hlt)] at hw
    unfold wpList at hw
    have hrest : ∀ a w, wpList P ops Q (ops.toList.drop (k + 1)) a w → wpAny P .any ops Q f (listed.setIfInBounds k true) a w := fun a w hw =>
      ih (k + 1) (by omega) (by omega) f (by omega) _ (by simpa using hs) (fun j hj => by
        by_cases hjk : j = k
        · subst hjk; simp [hs, hlt]
        · exact getD_set_true (hall j (by omega))) (fun j hj => by rw [getD_set_ne false (by omega : k ≠ j)]; exact hnot j (by omega)) a w hw
    unfold wpOp
    rw [hok]
    dsimp only
    rw [Array.getElem_toList] at hw
    split
    · rename_i hwant
      rw [if_pos hwant] at hw
      exact hw.imp (Oper.wp_mono hrest) id
    · rename_i hwant
      rw [if_neg hwant] at hw
      exact hrest _ _ hw

theorem act_frame (a : Act) (N : Nat) (h : a.tmps.size = N) : a = ⟨((List.range N).map fun t => a.eval (.tmp t)).toArray, a.defers⟩ := by
  obtain ⟨t, d⟩ := a
  subst h
  congr 1
  apply Array.ext
  · simp
  · intro i h1 h2
    simp [Act.eval, h1]

theorem any_way {m : Nat} {I : World → Prop} {St : Nat → World → World → Prop} {G : Nat → World → Prop} {F : Nat → Value → World → Prop} {a0 : Act} (hok : Ok ops m a0.tmps.size)
    (hst : ∀ i k v w w', i ≠ k → F k v w → I w → St i w w' → F k v w') (hgt : ∀ i k w w', i ≠ k → G k w → I w → St i w w' → G k w') (hsteps : Steps P ops m I St G F a0 0 (ops.toList.take m))
    (hend : ∀ (x : Nat → Value) (w : World), I w → (∀ t, (List.range m).all (fun j => (ops[j]?).bind (·.dst) != some t) = true → x t = a0.eval (.tmp t)) → (∀ k, k < m → F k (x (dstOf ops k)) w) →
      wpList P ops Q (ops.toList.drop m) ⟨((List.range a0.tmps.size).map x).toArray, a0.defers⟩ w) :
    ∀ (fuel : Nat) (listed : Array Bool) (a : Act) (w : World), listed.toList.count false ≤ fuel → Way ops m I G F a0 listed a w → wpAny P .any ops Q fuel listed a w := by
  intro fuel
  have hbase : ∀ {a : Act} {w : World} {listed : Array Bool}, Way ops m I G F a0 listed a w → ∀ t, (List.range m).all (fun j => (ops[j]?).bind (·.dst) != some t) = true → a.eval (.tmp t) = a0.eval (.tmp t) := fun hw t ht =>
    hw.base t fun j hj => by
      have := List.all_eq_true.1 ht j (List.mem_range.2 hj)
      simpa using this
  have fin : ∀ (fuel : Nat) (listed : Array Bool) (a : Act) (w : World), listed.toList.count false ≤ fuel → Way ops m I G F a0 listed a w → (∀ k, k < m → listed.getD k false = true) → wpAny P .any ops Q fuel listed a w := by
    intro fuel listed a w hc hw hall
    have hcount : ops.size - m ≤ fuel := by
      refine Nat.le_trans ?_ hc
      have h1 : listed.toList.drop m = List.replicate (ops.size - m) false := by
        apply List.ext_getElem
        · rw [List.length_drop, Array.length_toList, hw.size, List.length_replicate]
        · intro i h1 h2
          rw [List.getElem_drop, List.getElem_replicate]
          have h3 := hw.late (m + i) (by omega)
          rw [List.length_drop, Array.length_toList] at h1
          rw [Array.getD_eq_getD_getElem?, Array.getElem?_eq_getElem (by omega : m + i < listed.size)] at h3
          simpa using h3
      calc ops.size - m = (List.replicate (ops.size - m) false).count false := by rw [List.count_replicate_self]
        _ = (listed.toList.drop m).count false := by rw [h1]
        _ ≤ listed.toList.count false := (List.drop_sublist _ _).count_le _
    refine any_tail hok (ops.size - m) m (by have := hok.le; omega) (Nat.le_refl _) fuel hcount listed hw.size hall hw.late a w ?_
    have h2 := hend (fun t => a.eval (.tmp t)) w hw.inv (hbase hw) (fun k hk => hw.facts k hk (hall k hk))
    rw [act_frame a _ hw.tmps, hw.defers]
    exact h2
  induction fuel with
  | zero =>
    intro listed a w hc hw
    refine fin 0 listed a w hc hw fun k hk => ?_
    have hk' : k < listed.size := by have := hok.le; rw [hw.size]; omega
    have h0 : listed.toList.count false = 0 := by omega
    rw [List.count_eq_zero] at h0
    rw [Array.getD_eq_getD_getElem?, Array.getElem?_eq_getElem hk', Option.getD_some]
    cases h1 : listed[k] with
    | true => rfl
    | false => exact absurd (by rw [← h1]; exact Array.getElem_mem_toList hk') h0
  | succ fuel ih =>
    intro listed a w hc hw
    by_cases hall : ∀ k, k < m → listed.getD k false = true
    · exact fin _ listed a w hc hw hall
    · simp only [Classical.not_forall] at hall
      obtain ⟨k0, hk0, hn0⟩ := hall
      have hun : ∀ j, j < ops.size → ¬ listed.getD j false = true → listed.getD j true = false := fun j hj h1 => by
        rw [Array.getD_eq_getD_getElem?, Array.getElem?_eq_getElem (by rw [hw.size]; omega : j < listed.size)] at h1 ⊢
        simpa using h1
      refine ⟨fun h0 => ?_, fun i hi => ?_⟩
      · obtain ⟨j, _, hj⟩ := ready_of_not hok hw.size (by have := hok.le; omega) (hun k0 (by have := hok.le; omega) hn0)
        rw [h0] at hj; cases hj
      · obtain ⟨hli, o, ho, hdep⟩ := mem_ready.1 hi
        have hil := (Array.getElem?_eq_some_iff.1 ho).1
        have him : i < m := by
          by_cases h1 : i < m
          · exact h1
          · exfalso
            by_cases h2 : i = m
            · subst h2
              -- all ahead of it are listed
              have hcl : ∀ d k, k + d + 1 = i → listed.getD k false = true := by
                intro d
                induction d using Nat.strongRecOn with
                | ind d ihd =>
                  intro k hk
                  obtain ⟨j, p, e, hkj, hjm, hp, he, hb, hek⟩ := hok.closes k hil (by omega)
                  by_cases hji : j = i
                  · subst hji
                    rw [ho] at hp; injection hp with hp; subst hp
                    rw [← hek]; exact hdep e he hb
                  · have h3 := ihd (i - j - 1) (by omega) j (by omega)
                    rw [← hek]; exact hw.closed j p hp h3 e he hb
              exact hn0 (hcl (i - k0 - 1) k0 (by omega))
            · obtain ⟨e, he, hb, hon⟩ := hok.tail i o (by omega) ho
              have h3 := hdep e he hb
              rw [hw.late e.on (by omega)] at h3; cases h3
        have hst1 := Steps.get _ 0 hsteps i o (by rw [List.getElem?_take_of_lt him, Array.getElem?_toList]; exact ho)
        rw [Nat.zero_add] at hst1
        have hnl : listed.getD i false = false := by
          have h2 : i < listed.size := by rw [hw.size]; exact hil
          rw [Array.getD_eq_getD_getElem?, Array.getElem?_eq_getElem h2, Option.getD_some] at hli ⊢
          exact hli
        have hst2 := hst1 a.eval w hw.inv (hw.todo i him hnl) (fun _ => rfl) (fun _ => rfl) (fun _ => rfl) (hbase hw) (fun j hj => by
          unfold depsOf at hj
          rw [List.mem_map] at hj
          obtain ⟨e, he, rfl⟩ := hj
          rw [List.mem_filter] at he
          have he' : e ∈ o.after := Array.mem_toList_iff.1 he.1
          exact hw.facts e.on (by have := hok.early i o ho e he' he.2; omega) (hdep e he' he.2))
        have hset : (listed.setIfInBounds i true).toList.count false ≤ fuel := by
          have h1 : listed.toList[i]? = some false := by
            rw [Array.getElem?_toList]
            have h2 : i < listed.size := by rw [hw.size]; exact hil
            rw [Array.getD_eq_getD_getElem?, Array.getElem?_eq_getElem h2, Option.getD_some] at hli
            rw [Array.getElem?_eq_getElem h2, hli]
          have := count_set h1
          rw [Array.toList_setIfInBounds]; omega
        have hgo : ∀ v w', (F i v w' ∧ I w' ∧ St i w w') → wpAny P .any ops Q fuel (listed.setIfInBounds i true) (a.put o.dst v) w' := fun v w' hv =>
          ih _ _ _ hset (hw.put hok hst hgt ho him hdep hv.1 hv.2.1 hv.2.2)
        unfold wpOp
        rw [ho]
        dsimp only
        split
        · rename_i hwant
          exact .inl ((hst2.1 ((wanted_iff hok ho hw.tmps).1 hwant)).wp hgo)
        · rename_i hwant
          exact hgo _ _ ⟨(hst2.2 (fun h => hwant ((wanted_iff hok ho hw.tmps).2 h))).1, hw.inv, (hst2.2 (fun h => hwant ((wanted_iff hok ho hw.tmps).2 h))).2⟩

/-- The rule: I holds all the way; G k till operation k has come, F k from then on; operation k turns the world as St k says. -/
theorem region_ways {id : Nat} {a0 : Act} {w : World} (hm : P.follows .mixedOrders = true) (m : Nat) (I : World → Prop) (St : Nat → World → World → Prop) (G : Nat → World → Prop) (F : Nat → Value → World → Prop) (hok : regionOk ops m a0.tmps.size = true)
    (hI : I w.drew) (hG : ∀ k, k < m → G k w.drew)
    (hst : ∀ i k v w w', i ≠ k → F k v w → I w → St i w w' → F k v w') (hgt : ∀ i k w w', i ≠ k → G k w → I w → St i w w' → G k w') (hsteps : Steps P ops m I St G F a0 0 (ops.toList.take m))
    (hend : ∀ (x : Nat → Value) (w' : World), I w' → (∀ t, (List.range m).all (fun j => (ops[j]?).bind (·.dst) != some t) = true → x t = a0.eval (.tmp t)) → (∀ k, k < m → F k (x (dstOf ops k)) w') →
      wpList P ops Q (ops.toList.drop m) ⟨((List.range a0.tmps.size).map x).toArray, a0.defers⟩ w') :
    (Code.region id ops true).wp P Q a0 w := by
  refine wp_region_any hm ?_
  refine any_way (regionOk_spec hok) hst hgt hsteps hend ops.size _ a0 _ (by simp) ⟨by simp, fun k _ => ?_, rfl, rfl, fun _ _ => rfl, hI, fun k hk _ => hG k hk, fun k _ h => ?_, fun k o _ h => ?_⟩
  · by_cases h : k < ops.size <;> simp [h]
  · by_cases h1 : k < ops.size <;> simp [h1] at h
  · by_cases h1 : k < ops.size <;> simp [h1] at h

/-- .. where nothing elder is turned. -/
theorem region_facts {id : Nat} {a0 : Act} {w : World} (hm : P.follows .mixedOrders = true) (m : Nat) (F : Nat → Value → World → Prop) (hok : regionOk ops m a0.tmps.size = true)
    (hst : ∀ k v w w', F k v w → Below w.heap.size w w' → F k v w') (hsteps : Steps P ops m (fun x => Below w.heap.size w x) (fun _ x y => Below x.heap.size x y) (fun _ _ => True) F a0 0 (ops.toList.take m))
    (hend : ∀ (x : Nat → Value) (w' : World), Below w.heap.size w w' → (∀ t, (List.range m).all (fun j => (ops[j]?).bind (·.dst) != some t) = true → x t = a0.eval (.tmp t)) → (∀ k, k < m → F k (x (dstOf ops k)) w') →
      wpList P ops Q (ops.toList.drop m) ⟨((List.range a0.tmps.size).map x).toArray, a0.defers⟩ w') :
    (Code.region id ops true).wp P Q a0 w :=
  region_ways hm m _ _ _ F hok ((Below.refl _ _).drew) (fun _ _ => trivial) (fun _ k v w w' _ h _ hb => hst k v w w' h hb) (fun _ _ _ _ _ _ _ _ => trivial) hsteps hend

end

/-- It is this value. -/
def FIs (u : Value) (v : Value) (_ : World) : Prop := v = u
/-- A literal slice in memory of its own. -/
def FLit (B : Nat) (c : Array Value) (t : TypeId) (n : Nat) (v : Value) (w : World) : Prop := ∃ g, v = .slice (some ⟨g, 0, none⟩) n n ∧ B ≤ g ∧ w.heap[g]? = some (.cells c t (0, 0))
/-- An address within it. -/
def FAt (B : Nat) (c : Array Value) (t : TypeId) (p : Nat) (v : Value) (w : World) : Prop := ∃ g, v = .pointer (some ⟨g, p, none⟩) ∧ B ≤ g ∧ w.heap[g]? = some (.cells c t (0, 0))
theorem lasts {w w' : World} {g : Nat} {o : Obj} (h : w.heap[g]? = some o) (hb : Below w.heap.size w w') : w'.heap[g]? = some o := by
  rw [hb.block g (Array.getElem?_eq_some_iff.1 h).1]; exact h
theorem FIs.last {u v : Value} {w w' : World} (h : FIs u v w) (_ : Below w.heap.size w w') : FIs u v w' := h
theorem FLit.last {B : Nat} {c : Array Value} {t : TypeId} {n : Nat} {v : Value} {w w' : World} (h : FLit B c t n v w) (hb : Below w.heap.size w w') : FLit B c t n v w' := by
  obtain ⟨g, h1, h2, h3⟩ := h; exact ⟨g, h1, h2, lasts h3 hb⟩
theorem FAt.last {B : Nat} {c : Array Value} {t : TypeId} {p : Nat} {v : Value} {w w' : World} (h : FAt B c t p v w) (hb : Below w.heap.size w w') : FAt B c t p v w' := by
  obtain ⟨g, h1, h2, h3⟩ := h; exact ⟨g, h1, h2, lasts h3 hb⟩
theorem new_block (w : World) (o : Obj) : (w.alloc o).heap[w.heap.size]? = some o := by
  show (w.heap.push _)[w.heap.size]? = _
  rw [Array.getElem?_push_size]
/-- append, by its run. -/
theorem gives_append {P : Program} {o : Oper} {ev : Operand → Value} {w w' : World} {v : Value} {sl x : Operand} {t u : TypeId} {K : Value → World → Prop}
    (ho : o.op = .call { callee := .builtin .append, args := #[sl, x], argTypes := #[t, u] }) (hr : (Builtin.append_ #[t, u] o.type #[ev sl, ev x]).run P w = .ok v w') (hk : K v w') : Gives P o ev w K := by
  unfold Gives execOp
  simp only [ho, resolve, invoke, builtin, Sem.run_bind, Sem.run_pure, Result.andThen_ok, List.map_toArray, List.map_cons, List.map_nil, hr]
  exact hk
end Go.Proofs.Ytfdceninhieheaa.Reg
end

section
/- A map of slices of whole numbers, whose rows are grown and then sorted: what is known of it on the way. -/
namespace Go.Proofs.Ytfdceninhieheaa.Tru
open Go Go.RowKit Go.Maps Go.Proofs.Ytfdceninhieheaa.QTrust Go.Proofs.YtfdceninhieheaaW.PrintWords Go.Proofs.YtfdceninhieheaaW.PrintLast Go.Proofs.YtfdceninhieheaaW.PrintMore
set_option linter.unusedVariables false
set_option linter.unusedSimpArgs false

/-- An int that is one of 64 bits. -/
def I64 (k : Int) : Prop := (Lit.int .i64 k).wf = true
theorem keyed3 : Keyed Try.prog 3 := int_keyed Try.underlying3
theorem key_of {k : Int} (h : I64 k) : keyOf Try.prog 3 (.int .i64 k) = some (.int .i64 k) := keyOf_int_mk Try.underlying3 h
theorem isKey (k : Int) : WideAt.IsKeyLit (.int .i64 k) := by first | trivial | exact ⟨⟩ | simp [WideAt.IsKeyLit]

/-- A slice, told by its own numbers, without a look at memory. -/
def rawE : Value → Option (DataW Unit × List MemPlace)
  | .slice none n c => if n = 0 ∧ c = 0 then some (.nil, []) else none
  | .slice (some a) n c => if a = ⟨a.block, 0, none⟩ then some (.slice [.lit (.int .i64 a.block), .lit (.int .i64 n), .lit (.int .i64 c)] [], []) else none
  | _ => none
theorem rawE_nil : rawE (.slice none 0 0) = some (.nil, []) := rfl
theorem rawE_inj {u v : Value} {y : DataW Unit} {p q : List MemPlace} (h : rawE u = some (y, p)) (k : rawE v = some (y, q)) : u = v := by
  unfold rawE at h k
  split at h <;> try (cases h)
  all_goals split at h <;> try (cases h)
  all_goals split at k <;> try (cases k)
  all_goals split at k <;> try (cases k)
  · rename_i h1 _ _ _ h2
    obtain ⟨rfl, rfl⟩ := h1
    obtain ⟨rfl, rfl⟩ := h2
    rfl
  · rename_i a n c h1 _ b m d h2
    simp only [Option.some.injEq, Prod.mk.injEq, DataW.slice.injEq, List.cons.injEq, DataW.lit.injEq, Lit.int.injEq, Int.natCast_inj, true_and, and_true] at k
    rw [h1, h2, k.1.1, k.1.2.1, k.1.2.2]
theorem rawE_places {u : Value} {y : DataW Unit × List MemPlace} (h : rawE u = some y) : y.2 = [] := by
  unfold rawE at h
  split at h <;> try (cases h)
  all_goals split at h <;> cases h <;> rfl
theorem rawE_own {w : World} {base : Nat} {v : Value} {zs : List Int} (h : w.ownsInts base 3 .i64 v zs) : ∃ y, rawE v = some (y, []) := by
  rcases h.1.2 with ⟨rfl, h0⟩ | ⟨g, cap, cur, rfl, _⟩
  · exact ⟨_, rfl⟩
  · exact ⟨_, if_pos rfl⟩

/-- Block b is a map of at most n entries; at each key lies the slice V k (none: nil), which owns the numbers A k, each in a row of its own. -/
structure GI (w : World) (base b n : Nat) (V : Int → Value) (A : Int → List Int) : Prop where
  owns : ∃ D, w.ownsMap Try.prog 3 rawE b n D ∧ ∀ k, ∃ ps, rawE (V k) = some (D.atKey (.int .i64 k) .nil, ps)
  rows : ∀ k, w.ownsInts base 3 .i64 (V k) (A k)
  apart : ∀ k k', k ≠ k' → (V k).ownBlock = none ∨ (V k).ownBlock ≠ (V k').ownBlock
  low : b < base
  base : base ≤ w.heap.size

theorem GI.made (w : World) : GI (w.alloc (.map #[] 0)) (w.heap.size + 1) w.heap.size 0 (fun _ => .slice none 0 0) (fun _ => []) :=
  ⟨⟨_, World.ownsMap_made _ _ _ _, fun k => ⟨[], rfl⟩⟩, fun _ => World.ownsInts_nil _ _ _ _, fun _ _ _ => .inl rfl, Nat.lt_succ_self _, by simp⟩

/-- Nothing that it owns is written. -/
theorem GI.kept {w w' : World} {base b n : Nat} {V : Int → Value} {A : Int → List Int} (h : GI w base b n V A) {row : Option Nat} (hg : w.grownBy w' row) (hb : some b ≠ row) (hr : ∀ k, (V k).ownBlock = none ∨ (V k).ownBlock ≠ row) : GI w' base b n V A := by
  obtain ⟨⟨D, hD, hat⟩, hrows, hap, hlow, hbase⟩ := h
  exact ⟨⟨D, hD.kept hg hb, hat⟩, fun k => (hrows k).kept hg (hr k), hap, hlow, Nat.le_trans hbase hg.size⟩
theorem GI.below {w w' : World} {base b n : Nat} {V : Int → Value} {A : Int → List Int} (h : GI w base b n V A) (hg : Below w.heap.size w w') : GI w' base b n V A :=
  h.kept (grown_of_below hg none) (by simp) (fun k => by cases (V k).ownBlock <;> simp)
theorem GI.blt {w : World} {base b n : Nat} {V : Int → Value} {A : Int → List Int} (h : GI w base b n V A) : b < w.heap.size := Nat.lt_of_lt_of_le h.low h.base
theorem GI.ne {w : World} {base b n : Nat} {V : Int → Value} {A : Int → List Int} (h : GI w base b n V A) (k : Int) : some b ≠ (V k).ownBlock := fun e => by
  have := ((h.rows k).1.lt b e.symm).1
  have := h.low
  omega

/-- What a look-up gives, as long as the map is not written. -/
theorem GI.look {w w' : World} {base b n : Nat} {V : Int → Value} {A : Int → List Int} (h : GI w base b n V A) {row : Option Nat} (hg : w.grownBy w' row) (hb : some b ≠ row) {k : Int} (hk : I64 k) :
    (Instr.lookup 91 (.map (some b)) (.int .i64 k) false).run Try.prog w' = .ok (V k) w' := by
  obtain ⟨D, hD, hat⟩ := h.owns
  obtain ⟨v, ps, hrun, hv⟩ := (hD.kept hg hb).lookup keyed3 Try.underlying91 (by kernel_rfl : (zeroValue 43).run Try.prog w' = .ok (.slice none 0 0) w') rawE_nil (key_of hk)
  obtain ⟨qs, hq⟩ := hat k
  rw [hrun, rawE_inj hv hq]

/-- A store of a grown row at its key. -/
theorem GI.store {w w1 w2 : World} {base b n : Nat} {V : Int → Value} {A : Int → List Int} (h : GI w base b n V A) {f : Int} {v : Value} {zs : List Int} {D : DataW Unit} (hD : w1.ownsMap Try.prog 3 rawE b n D) (hat : ∀ k, ∃ ps, rawE (V k) = some (D.atKey (.int .i64 k) .nil, ps))
    (hg : w.grownBy w1 (V f).ownBlock) (hv : w1.ownsInts base 3 .i64 v zs) (hloc : v.ownBlock = (V f).ownBlock ∨ ∃ g, v.ownBlock = some g ∧ w.heap.size ≤ g) {y : DataW Unit} {ps : List MemPlace} (hy : rawE v = some (y, ps))
    (hD2 : w2.ownsMap Try.prog 3 rawE b (n + 1) (D.put (.int .i64 f) y)) (hg2 : w1.grownBy w2 (some b)) :
    GI w2 base b (n + 1) (fun k => if k = f then v else V k) (fun k => if k = f then zs else A k) := by
  have hlow := h.low
  have own_ne : ∀ {u : Value} {ys : List Int}, w1.ownsInts base 3 .i64 u ys → u.ownBlock = none ∨ u.ownBlock ≠ some b := fun {u ys} ho => by
    cases hu : u.ownBlock with
    | none => exact .inl rfl
    | some g => refine .inr fun e1 => ?_; have := (ho.1.lt g hu).1; cases e1; omega
  have old_new : ∀ k, k ≠ f → (V k).ownBlock = none ∨ (V k).ownBlock ≠ v.ownBlock := fun k hk => by
    rcases hloc with h1 | ⟨g, h1, h2⟩
    · rw [h1]; exact h.apart k f hk
    · cases hx : (V k).ownBlock with
      | none => exact .inl rfl
      | some gx => refine .inr fun e1 => ?_; have := ((h.rows k).1.lt gx hx).2; rw [h1] at e1; cases e1; omega
  refine ⟨⟨_, hD2, fun k => ?_⟩, fun k => ?_, fun k k' hkk => ?_, hlow, Nat.le_trans h.base (Nat.le_trans hg.size hg2.size)⟩
  · by_cases hk : k = f
    · subst hk
      rw [if_pos rfl, atKey_put_same hD.isMap (isKey k)]
      exact ⟨ps, hy⟩
    · rw [if_neg hk, atKey_put_other (fun e => hk (by injection e))]
      exact hat k
  · by_cases hk : k = f
    · rw [if_pos hk, if_pos hk]; exact hv.kept hg2 (own_ne hv)
    · rw [if_neg hk, if_neg hk]
      have h1 := (h.rows k).kept hg (h.apart k f hk)
      exact h1.kept hg2 (own_ne h1)
  · by_cases hk : k = f
    · by_cases hk' : k' = f
      · exact absurd (hk.trans hk'.symm) hkk
      · rw [if_pos hk, if_neg hk']
        cases hv' : v.ownBlock with
        | none => exact .inl rfl
        | some g =>
          refine .inr fun e1 => ?_
          rcases old_new k' hk' with h2 | h2
          · rw [h2] at e1; cases e1
          · exact h2 (by rw [hv', e1])
    · by_cases hk' : k' = f
      · rw [if_neg hk, if_pos hk']; exact old_new k hk
      · rw [if_neg hk, if_neg hk']; exact h.apart k k' hkk

end Go.Proofs.Ytfdceninhieheaa.Tru
end

section
/- trust.graph: what it comes to. -/
namespace Go.Proofs.Ytfdceninhieheaa.Tru
open Go Go.RowKit Go.Maps Go.Proofs.Ytfdceninhieheaa.Reg Go.Proofs.Ytfdceninhieheaa.QTrust Go.Proofs.YtfdceninhieheaaW.PrintWords Go.Proofs.YtfdceninhieheaaW.PrintLast Go.Proofs.YtfdceninhieheaaW.PrintMore
set_option linter.unusedVariables false
set_option linter.unusedSimpArgs false

/-- Whom a key vouches for, in the order of the certificates. -/
def outs (good : S54 → Bool) (l : List S54) (k : Int) : List Int := (l.filter fun c => good c && decide (c.f0 = k)).map (·.f1)
/-- What is asked of a certificate: that its answer is known, and that its numbers are some. -/
def Told (good : S54 → Bool) (c : S54) : Prop := (∃ k r, trust_Good.f k c.f0 c.f1 c.f2.f0 c.f2.f1 = some r ∧ (r == 0) = good c) ∧ I64 c.f0 ∧ I64 c.f1
theorem outs_snoc (good : S54 → Bool) (l : List S54) (c : S54) (k : Int) : outs good (l ++ [c]) k = if good c = true ∧ c.f0 = k then outs good l k ++ [c.f1] else outs good l k := by
  unfold outs
  rw [List.filter_append, List.map_append]
  by_cases h : good c = true ∧ c.f0 = k
  · rw [if_pos h, List.filter_cons_of_pos (by simp [h])]; rfl
  · rw [if_neg h, List.filter_cons_of_neg (by simpa using h)]; simp
theorem outs_length (good : S54 → Bool) (l : List S54) (k : Int) : (outs good l k).length ≤ l.length := by
  unfold outs; rw [List.length_map]; exact List.length_filter_le _ _

theorem good_calls (good : S54 → Bool) (c : S54) (h : Told good c) (w : World) : Calls Try.prog 28 #[.agg #[.int .i64 c.f0, .int .i64 c.f1, .int .i64 c.f2.f0, .int .i64 c.f2.f1]] w fun e w' => ∃ r, e = .returned (.int .i64 r) ∧ (r == 0) = good c ∧ Below w.heap.size w w' := by
  obtain ⟨⟨k, r, h1, h2⟩, _⟩ := h
  exact (trust_Good.calls k _ _ _ _ r w h1).mono fun e w' ⟨he, hb⟩ => ⟨r, he, h2, hb⟩

theorem GI.more {w : World} {base b n m : Nat} {V : Int → Value} {A : Int → List Int} (h : GI w base b n V A) (hn : n ≤ m) : GI w base b m V A := by
  obtain ⟨⟨D, hD, hat⟩, h1, h2, h3, h4⟩ := h
  exact ⟨⟨D, hD.mono hn, hat⟩, h1, h2, h3, h4⟩

/-- Ascending. -/
def sorted (l : List Int) : List Int := l.mergeSort fun x y => decide (x ≤ y)
theorem sorted_nil : sorted [] = [] := by simp [sorted]
theorem sorted_length (l : List Int) : (sorted l).length = l.length := List.length_mergeSort _
theorem sorted_perm (l : List Int) : (sorted l).Perm l := List.mergeSort_perm _ _
/-- slices.Sort at a row of the call's own. -/
theorem sort_calls {w : World} {base : Nat} {v : Value} {zs : List Int} (h : w.ownsInts base 3 .i64 v zs) (hl : zs.length ≤ 1000) :
    Calls Try.prog 69 #[v] w fun e w' => e = .returned (.tuple #[]) ∧ w'.ownsInts base 3 .i64 v (sorted zs) ∧ w.grownBy w' v.ownBlock := by
  rcases h.1.2 with ⟨rfl, h0⟩ | ⟨g, cap, cur, rfl, hbase, hb, h1, h2, h3, h4⟩
  · obtain rfl := List.length_eq_zero_iff.1 h0
    refine (AnyM.slices_Sort_int_none Try.sortA none 0 w).mono ?_
    rintro e w' ⟨rfl, rfl⟩
    exact ⟨rfl, by rw [sorted_nil]; exact h, World.grownBy.refl _ _⟩
  · refine (AnyM.slices_Sort_int Try.sortA g 0 cap zs w (holds_of_blockI hb (by simpa using h4)) (Array.getElem?_eq_some_iff.1 hb).1 (by omega)).mono ?_
    rintro e w' ⟨rfl, n, os, rfl⟩
    have hlen : (sorted zs).length = zs.length := sorted_length zs
    refine ⟨rfl, ⟨?_, fun z hz => h.2 z ((sorted_perm zs).mem_iff.1 hz)⟩, grownBy_sortedI _⟩
    have h5 := ownsRow_sortedI (n := n) (os := os) hlen hbase hb h1 h2 h3
    rw [hlen]; exact h5

/-- The facts of the region that appends to a group. -/
def FG (w0 : World) (b gp base : Nat) (u : Value) (f t : Int) (zs : List Int) : Nat → Value → World → Prop
  | 0 => FIs (.map (some b))
  | 1 => FIs (.pointer (some ⟨gp, 0, none⟩))
  | 2 => FIs (.int .i64 f)
  | 3 => FIs (.map (some b))
  | 4 => FIs (.pointer (some ⟨gp, 0, none⟩))
  | 5 => FIs (.int .i64 f)
  | 6 => FIs u
  | 7 => FIs (.pointer (some ⟨gp, 1, none⟩))
  | 8 => FIs (.int .i64 t)
  | 9 => FLit w0.heap.size #[.int .i64 t] 3 1
  | 10 => fun v w => w.ownsInts base 3 .i64 v (zs ++ [t]) ∧ (v.ownBlock = u.ownBlock ∨ ∃ g, v.ownBlock = some g ∧ w0.heap.size ≤ g)
  | _ => fun _ _ => True
def SG (u : Value) : Nat → World → World → Prop
  | 10 => fun w w' => w.grownBy w' u.ownBlock
  | _ => fun w w' => Below w.heap.size w w'
def TG (base : Nat) (u : Value) (zs : List Int) : Nat → World → Prop
  | 10 => fun w => w.ownsInts base 3 .i64 u zs
  | _ => fun _ => True
theorem ownsInts_below {w w' : World} {base : Nat} {v : Value} {zs : List Int} (h : w.ownsInts base 3 .i64 v zs) (hb : Below w.heap.size w w') : w'.ownsInts base 3 .i64 v zs :=
  h.kept (grown_of_below hb none) (by cases v.ownBlock <;> simp)
theorem SG.any {u : Value} {i : Nat} {w w' : World} (h : SG u i w w') : w.grownBy w' u.ownBlock := by
  unfold SG at h
  split at h
  · exact h
  · exact grown_of_below h _
theorem SG.less {u : Value} {i : Nat} {w w' : World} (h : SG u i w w') (hi : i ≠ 10) : Below w.heap.size w w' := by
  unfold SG at h
  split at h
  · exact absurd rfl hi
  · exact h
theorem FG.last {w0 : World} {b gp base : Nat} {u : Value} {f t : Int} {zs : List Int} (hu : ∀ k, u.ownBlock = some k → k < w0.heap.size) (i k : Nat) (v : Value) (w w' : World) (hik : i ≠ k) (h : FG w0 b gp base u f t zs k v w) (hs : SG u i w w') : FG w0 b gp base u f t zs k v w' := by
  unfold FG at *
  split at h <;> try exact h
  · obtain ⟨g, h1, h2, h3⟩ := h
    exact ⟨g, h1, h2, (hs.any.block g (Array.getElem?_eq_some_iff.1 h3).1 (fun e => by have := hu g e.symm; omega)).trans h3⟩
  · exact ⟨ownsInts_below h.1 (hs.less hik), h.2⟩

theorem grow_alloc {a w : World} {row : Option Nat} (h : a.grownBy w row) (o : Obj) : a.grownBy (w.alloc o) row := h.andThen (World.grownBy_alloc w o none) (fun j hj => by cases hj)
theorem info3_parts : ∃ i, Try.prog.info? 3 = some i ∧ i.zero = some (.int .i64 0) ∧ i.size = 1 ∧ i.bytes = 8 := by
  have h : (Try.prog.info? 3).map (fun i => (i.zero, i.size, i.bytes)) = some (some (.int .i64 0), 1, 8) := by kernel_rfl
  obtain ⟨i, hi, he⟩ := Option.map_eq_some_iff.1 h
  simp only [Prod.mk.injEq] at he
  exact ⟨i, hi, he.1, he.2.1, he.2.2⟩
/-- One number more behind a row of the call's own. -/
theorem append_one {w : World} {base ty g : Nat} {u : Value} {zs : List Int} {t : Int} (h : w.ownsInts base 3 .i64 u zs) (hb : True) (hbase : base ≤ w.heap.size) (hg : w.heap[g]? = some (.cells #[.int .i64 t] 3 (0, 0))) (ht : I64 t) (hl : zs.length ≤ 1000) :
    ∃ v' w', (Builtin.append_ #[43, 43] ty #[u, .slice (some ⟨g, 0, none⟩) 1 1]).run Try.prog w = .ok v' w' ∧ w'.ownsInts base 3 .i64 v' (zs ++ [t]) ∧ w.grownBy w' u.ownBlock ∧ (v'.ownBlock = u.ownBlock ∨ v'.ownBlock = some w.heap.size) := by
  obtain ⟨i, hi, hz, hs, hby⟩ := info3_parts
  obtain ⟨v', w', hr, ho, hgr, _, hat⟩ := run_append_own_at (P := Try.prog) w base 43 ty 3 i _ 1 8 Try.underlying43 hi hz hs hby rfl (by decide) u zs.length _ h.1 ⟨g, 0, none⟩ 1 1 [.int .i64 t] rfl
    (fun j v hj => by
      cases j with
      | zero => cases hj; rw [add_plain]; exact (blk_cell hg 0).trans rfl
      | succ j => cases hj) (fun v hv => by rw [List.mem_singleton] at hv; rw [hv]; rfl) (by have : maxLen = 9223372036854775807 := rfl; omega) (by omega) hbase
  exact ⟨v', w', hr, h.appended ho ht, hgr, hat⟩

set_option maxRecDepth 100000 in
set_option maxHeartbeats 16000000 in
theorem group_calls (good : S54 → Bool) (A0 : Option Addr) (c0 : Nat) (l : List S54) (w : World) (hr : Kd.C k54 w A0 l.length l) (hc : l.length ≤ c0) (hl : l.length ≤ 1000) (hg : ∀ c ∈ l, Told good c) :
    Calls Try.prog 48 #[.slice A0 l.length c0] w fun e w' => e = .returned (.map (some w.heap.size)) ∧ (∃ V, GI w' (w.heap.size + 1) w.heap.size l.length V (fun k => sorted (outs good l k))) ∧ Below w.heap.size w w' := by
  have hu49 := Try.underlying49
  have hu54 := Try.underlying54
  have hmm := @run_makeMap Try.prog
  have HR := Aside0.mk hr
  have HL := Aside0.mk hl
  have HG := Aside0.mk hg
  clear hr hc hl hg
  go_enter Try.func48, Try.ntmps48
  go_wp2
  go_loopg [11] (l.length) (fun kq v11 wr => ∃ (i : Nat) (V : Int → Value), v11 = .int .i64 i ∧ Aside0 (kq + i = l.length) ∧ Aside0 (GI wr (w.heap.size + 1) w.heap.size i V (outs good (l.take i))) ∧ Aside0 (Below w.heap.size w wr))
  case atStart => exact ⟨0, fun _ => .slice none 0 0, rfl, ⟨by omega⟩, ⟨GI.made w⟩, ⟨below_alloc (Below.refl _ _) _⟩⟩
  case round =>
    obtain ⟨i, V, rfl, hK, hGI, hB⟩ := hrel
    by_cases hlt : i < l.length
    · have hi1 : (i : Int) < (l.length : Int) := by omega
      have hi0 : (0 : Int) ≤ (i : Int) := by omega
      have hwi : IntKind.i64.wrap ((i : Int) + 1) = (i : Int) + 1 := by have h1 := HL.out; rw [IntKind.wrap_i64]; omega
      have hT := HG.out _ (List.getElem_mem hlt)
      have hel : rd_T54 l (i : Int) = l[i] := by simp [rd_T54, List.getD_eq_getElem?_getD, hlt]
      have hsn : outs good (l.take (i + 1)) = fun k => if good l[i] = true ∧ l[i].f0 = k then outs good (l.take i) k ++ [l[i].f1] else outs good (l.take i) k := by
        funext k; rw [List.take_succ_eq_append_getElem hlt, outs_snoc]
      obtain ⟨ad, rfl, hx0, hx1, hx2, hx3⟩ := at_T54 (Kd.C_below HR.out hB.out) (i : Int) hi0 hi1
      rw [hel, Int.toNat_natCast] at hx0 hx1 hx2 hx3
      generalize l[i] = c at *
      have HT := Aside0.mk hT
      have HSn := Aside0.mk hsn
      clear hT hsn hel
      obtain ⟨f, t, ⟨r, s⟩⟩ := c
      dsimp only at *
      go_upto_region 5 with (fail)
      have hb1 : Below wr.heap.size wr (wr.alloc (.cells #[.int .i64 f, .int .i64 t, .int .i64 r, .int .i64 s] 54)) := below_alloc (Below.refl _ _) _
      have hblk := heap_alloc_new wr (.cells #[.int .i64 f, .int .i64 t, .int .i64 r, .int .i64 s] 54)
      obtain ⟨gp, hgp⟩ : ∃ gp, gp = wr.heap.size := ⟨_, rfl⟩
      rw [← hgp] at hblk ⊢
      generalize (wr.alloc (.cells #[.int .i64 f, .int .i64 t, .int .i64 r, .int .i64 s] 54)) = w1 at hb1 hblk ⊢
      have HB1 := Aside0.mk hb1
      have HBlk := Aside0.mk hblk
      have HGp := Aside0.mk hgp
      have hc0 : w1.cell? ⟨gp, 0, none⟩ = some (.int .i64 f) := (blk_cell hblk 0).trans rfl
      have hc1 : w1.cell? ⟨gp, 1, none⟩ = some (.int .i64 t) := (blk_cell hblk 1).trans rfl
      have hc2 : w1.cell? ⟨gp, 2, none⟩ = some (.int .i64 r) := (blk_cell hblk 2).trans rfl
      have hc3 : w1.cell? ⟨gp, 3, none⟩ = some (.int .i64 s) := (blk_cell hblk 3).trans rfl
      clear hb1 hblk hgp hx0 hx1 hx2 hx3
      by_cases hgd : good ⟨f, t, ⟨r, s⟩⟩ = true
      · have HGd := Aside0.mk hgd
        clear hgd
        go_upto_region 6 with (go_at_call 28; refine (good_calls good ⟨f, t, ⟨r, s⟩⟩ HT.out w1).mono ?_; rintro e w2 ⟨z, rfl, hz0, hb⟩; have hz := hz0.trans HGd.out; have HB2 := Aside0.mk hb; clear hb hz0)
        clear hc0 hc1 hc2 hc3
        have hb12 : Below wr.heap.size wr w2 := HB1.out.trans (HB2.out.mono HB1.out.size)
        have HB12 := Aside0.mk hb12
        have HGI2 := Aside0.mk (hGI.out.below hb12)
        have HBlk2 := Aside0.mk (lasts HBlk.out HB2.out)
        have hGl : gp < w2.heap.size := by have h1 := (Array.getElem?_eq_some_iff.1 HBlk2.out).1; exact h1
        have HGl := Aside0.mk hGl
        obtain ⟨u, hu⟩ : ∃ u, u = V f := ⟨_, rfl⟩
        have HU := Aside0.mk hu
        have hne : u.ownBlock ≠ some gp := fun e => by
          have h1 := ((hGI.out.rows f).1.lt gp (by rw [← hu]; exact e)).2
          rw [HGp.out] at h1; omega
        have HNe := Aside0.mk hne
        have HBu := Aside0.mk (show some w.heap.size ≠ u.ownBlock by rw [hu]; exact hGI.out.ne f)
        have HBs := Aside0.mk True.intro
        have HBase := Aside0.mk HGI2.out.base
        obtain ⟨zs, hzs⟩ : ∃ zs, zs = outs good (l.take i) f := ⟨_, rfl⟩
        have HZs := Aside0.mk hzs
        have HLen := Aside0.mk (show zs.length ≤ 1000 by rw [hzs]; have h1 := outs_length good (l.take i) f; rw [List.length_take] at h1; have := HL.out; omega)
        have HRow := Aside0.mk (show w2.ownsInts (w.heap.size + 1) 3 .i64 u zs by rw [hu, hzs]; exact HGI2.out.rows f)
        clear hu hne hzs hGl hb12
        refine region_ways (by kernel_rfl) 11 (fun x => w2.grownBy x u.ownBlock) (SG u) (TG (w.heap.size + 1) u zs) (FG w2 w.heap.size gp (w.heap.size + 1) u f t zs) (by kernel_rfl) (grown_of_below (Below.refl _ _).drew _) (fun k _ => by unfold TG; split; exact ownsInts_below HRow.out (Below.refl _ _).drew; trivial) (fun i k v w w' hik h _ hs => FG.last (fun j hj => (HRow.out.1.lt j hj).2) i k v w w' hik h hs) (fun i k w w' hik h _ hs => by unfold TG at *; split at h; exact ownsInts_below h (hs.less hik); trivial) ?_ ?_
        · refine ⟨?_, ?_, ?_, ?_, ?_, ?_, ?_, ?_, ?_, ?_, ?_, trivial⟩
          · intro ev w5 hI hG hcv hfv hgv hbase hdep
            refine ⟨fun _ => ?_, fun h => absurd trivial h⟩
            have e0 : ev (.tmp 3) = .map (some w.heap.size) := hbase 3 (by decide)
            unfold Gives
            go_simp
            first | exact Below.refl _ _ | exact ⟨hI, Below.refl _ _⟩ | exact ⟨rfl, hI, Below.refl _ _⟩ | exact ⟨rfl, Below.refl _ _⟩
          · intro ev w5 hI hG hcv hfv hgv hbase hdep
            refine ⟨fun _ => ?_, fun h => absurd trivial h⟩
            have e0 : ev (.tmp 5) = .pointer (some ⟨gp, 0, none⟩) := hbase 5 (by decide)
            unfold Gives
            go_simp
            first | exact Below.refl _ _ | exact ⟨hI, Below.refl _ _⟩ | exact ⟨rfl, hI, Below.refl _ _⟩ | exact ⟨rfl, Below.refl _ _⟩
          · intro ev w5 hI hG hcv hfv hgv hbase hdep
            refine ⟨fun _ => ?_, fun h => absurd trivial h⟩
            have hbk : w5.heap[gp]? = some (.cells #[.int .i64 f, .int .i64 t, .int .i64 r, .int .i64 s] 54 (0, 0)) := (hI.block gp HGl.out (fun e => HNe.out e.symm)).trans HBlk2.out
            have hcl : w5.cell? ⟨gp, 0, none⟩ = some (.int .i64 f) := (blk_cell hbk 0).trans rfl
            have e1 : ev (.tmp 19) = .pointer (some ⟨gp, 0, none⟩) := hdep 1 (by decide)
            unfold Gives
            go_simp
            first | exact Below.refl _ _ | exact ⟨hI, Below.refl _ _⟩ | exact ⟨rfl, hI, Below.refl _ _⟩ | exact ⟨rfl, Below.refl _ _⟩
          · intro ev w5 hI hG hcv hfv hgv hbase hdep
            refine ⟨fun _ => ?_, fun h => absurd trivial h⟩
            have e0 : ev (.tmp 3) = .map (some w.heap.size) := hbase 3 (by decide)
            unfold Gives
            go_simp
            first | exact Below.refl _ _ | exact ⟨hI, Below.refl _ _⟩ | exact ⟨rfl, hI, Below.refl _ _⟩ | exact ⟨rfl, Below.refl _ _⟩
          · intro ev w5 hI hG hcv hfv hgv hbase hdep
            refine ⟨fun _ => ?_, fun h => absurd trivial h⟩
            have e0 : ev (.tmp 5) = .pointer (some ⟨gp, 0, none⟩) := hbase 5 (by decide)
            unfold Gives
            go_simp
            first | exact Below.refl _ _ | exact ⟨hI, Below.refl _ _⟩ | exact ⟨rfl, hI, Below.refl _ _⟩ | exact ⟨rfl, Below.refl _ _⟩
          · intro ev w5 hI hG hcv hfv hgv hbase hdep
            refine ⟨fun _ => ?_, fun h => absurd trivial h⟩
            have hbk : w5.heap[gp]? = some (.cells #[.int .i64 f, .int .i64 t, .int .i64 r, .int .i64 s] 54 (0, 0)) := (hI.block gp HGl.out (fun e => HNe.out e.symm)).trans HBlk2.out
            have hcl : w5.cell? ⟨gp, 0, none⟩ = some (.int .i64 f) := (blk_cell hbk 0).trans rfl
            have e1 : ev (.tmp 22) = .pointer (some ⟨gp, 0, none⟩) := hdep 4 (by decide)
            unfold Gives
            go_simp
            first | exact Below.refl _ _ | exact ⟨hI, Below.refl _ _⟩ | exact ⟨rfl, hI, Below.refl _ _⟩ | exact ⟨rfl, Below.refl _ _⟩
          · intro ev w5 hI hG hcv hfv hgv hbase hdep
            refine ⟨fun _ => ?_, fun h => absurd trivial h⟩
            have e1 : ev (.tmp 21) = .map (some w.heap.size) := hdep 3 (by decide)
            have e2 : ev (.tmp 23) = .int .i64 f := hdep 5 (by decide)
            have hlk := HGI2.out.look hI HBu.out HT.out.2.1
            rw [← HU.out] at hlk
            unfold Gives
            go_simp
            first | exact Below.refl _ _ | exact ⟨hI, Below.refl _ _⟩ | exact ⟨rfl, hI, Below.refl _ _⟩ | exact ⟨rfl, Below.refl _ _⟩
          · intro ev w5 hI hG hcv hfv hgv hbase hdep
            refine ⟨fun _ => ?_, fun h => absurd trivial h⟩
            have e0 : ev (.tmp 5) = .pointer (some ⟨gp, 0, none⟩) := hbase 5 (by decide)
            unfold Gives
            go_simp
            first | exact Below.refl _ _ | exact ⟨hI, Below.refl _ _⟩ | exact ⟨rfl, hI, Below.refl _ _⟩ | exact ⟨rfl, Below.refl _ _⟩
          · intro ev w5 hI hG hcv hfv hgv hbase hdep
            refine ⟨fun _ => ?_, fun h => absurd trivial h⟩
            have hbk : w5.heap[gp]? = some (.cells #[.int .i64 f, .int .i64 t, .int .i64 r, .int .i64 s] 54 (0, 0)) := (hI.block gp HGl.out (fun e => HNe.out e.symm)).trans HBlk2.out
            have hcl : w5.cell? ⟨gp, 1, none⟩ = some (.int .i64 t) := (blk_cell hbk 1).trans rfl
            have e1 : ev (.tmp 25) = .pointer (some ⟨gp, 1, none⟩) := hdep 7 (by decide)
            unfold Gives
            go_simp
            first | exact Below.refl _ _ | exact ⟨hI, Below.refl _ _⟩ | exact ⟨rfl, hI, Below.refl _ _⟩ | exact ⟨rfl, Below.refl _ _⟩
          · intro ev w5 hI hG hcv hfv hgv hbase hdep
            refine ⟨fun _ => ?_, fun h => absurd trivial h⟩
            have e1 : ev (.tmp 26) = .int .i64 t := hdep 8 (by decide)
            unfold Gives
            go_simp
            exact ⟨⟨_, rfl, hI.size, new_block _ _⟩, grow_alloc hI _, below_alloc (Below.refl _ _) _⟩
          · intro ev w5 hI hG hcv hfv hgv hbase hdep
            refine ⟨fun _ => ?_, fun h => absurd trivial h⟩
            have e1 : ev (.tmp 24) = u := hdep 6 (by decide)
            obtain ⟨g, e2, hg1, hg2⟩ : FLit w2.heap.size #[.int .i64 t] 3 1 (ev (.tmp 27)) w5 := hdep 9 (by decide)
            obtain ⟨v', w6, hrun, hown, hgr, hat⟩ := append_one (ty := 43) hG HBs.out (Nat.le_trans HBase.out hI.size) hg2 HT.out.2.2 HLen.out
            refine gives_append (v := v') (w' := w6) rfl (by rw [e1, e2]; exact hrun) ⟨⟨hown, ?_⟩, hI.andThen hgr (fun j hj => .inr hj), hgr⟩
            rcases hat with h | h
            · exact .inl h
            · exact .inr ⟨_, h, hI.size⟩
        · intro y w5 hI hbase hF
          have e18 : y 18 = .map (some w.heap.size) := hF 0 (by decide)
          have e20 : y 20 = .int .i64 f := hF 2 (by decide)
          obtain ⟨hO, hLoc⟩ : w5.ownsInts (w.heap.size + 1) 3 .i64 (y 28) (zs ++ [t]) ∧ ((y 28).ownBlock = u.ownBlock ∨ ∃ g, (y 28).ownBlock = some g ∧ w2.heap.size ≤ g) := hF 10 (by decide)
          obtain ⟨v, e28⟩ : ∃ v, y 28 = v := ⟨_, rfl⟩
          rw [e28] at hO hLoc
          have e0 := hbase 0 (by decide)
          have e1 := hbase 1 (by decide)
          have e2 := hbase 2 (by decide)
          have e3 := hbase 3 (by decide)
          have e4 := hbase 4 (by decide)
          have e5 := hbase 5 (by decide)
          have e6 := hbase 6 (by decide)
          have e7 := hbase 7 (by decide)
          have e8 := hbase 8 (by decide)
          have e9 := hbase 9 (by decide)
          have e10 := hbase 10 (by decide)
          have e11 := hbase 11 (by decide)
          have e12 := hbase 12 (by decide)
          have e13 := hbase 13 (by decide)
          have e14 := hbase 14 (by decide)
          have e15 := hbase 15 (by decide)
          have e16 := hbase 16 (by decide)
          have e17 := hbase 17 (by decide)
          have e29 := hbase 29 (by decide)
          have e30 := hbase 30 (by decide)
          have e31 := hbase 31 (by decide)
          have e32 := hbase 32 (by decide)
          have e33 := hbase 33 (by decide)
          have e34 := hbase 34 (by decide)
          have e35 := hbase 35 (by decide)
          have e36 := hbase 36 (by decide)
          have e37 := hbase 37 (by decide)
          have e38 := hbase 38 (by decide)
          have HI := Aside0.mk hI
          have HOw := Aside0.mk (And.intro hO hLoc)
          obtain ⟨D, hD0, hat⟩ := HGI2.out.owns
          have hD := hD0.kept hI HBu.out
          obtain ⟨yd, hyd⟩ := rawE_own hO
          have HD := Aside0.mk (And.intro hD hat)
          have HY := Aside0.mk hyd
          have hlm : i < maxLen := by have := HL.out; have h2 : maxLen = 9223372036854775807 := rfl; omega
          simp only [List.drop_succ_cons, List.drop_zero, List.size_toArray, List.length_cons, List.length_nil, Nat.reduceAdd, List.range, List.range.loop, List.map_cons, List.map_nil, e18, e20, e28, e0, e1, e2, e3, e4, e5, e6, e7, e8, e9, e10, e11, e12, e13, e14, e15, e16, e17, e29, e30, e31, e32, e33, e34, e35, e36, e37, e38]
          clear hF hbase e18 e20 e28 hI hO hLoc hD0 hD hat hyd e0 e1 e2 e3 e4 e5 e6 e7 e8 e9 e10 e11 e12 e13 e14 e15 e16 e17 e29 e30 e31 e32 e33 e34 e35 e36 e37 e38
          go_wp2_with (at_mapUpdate; refine wpList_mapUpdate_own _ rfl (.tmp 18) (.tmp 20) (.tmp 28) 91 rfl 3 43 keyed3 Try.underlying91 rawE w.heap.size i D rfl HD.out.1 hlm (.int .i64 f) v (.int .i64 f) rfl rfl (key_of HT.out.2.1) yd [] HY.out ?_; intro w6 hown6 hgrow6; have HO6 := Aside0.mk (And.intro hown6 hgrow6); clear hown6 hgrow6)
          go_roundg (gk - 1)
          case measure => have := hK.out; omega
          case rel =>
            refine ⟨i + 1, fun k => if k = f then v else V k, by go_num, ⟨by have := hK.out; omega⟩, ⟨?_⟩, ⟨?_⟩⟩
            · have h1 := GI.store HGI2.out HD.out.1 HD.out.2 (by rw [← HU.out]; exact HI.out) HOw.out.1 (by rw [← HU.out]; exact HOw.out.2) HY.out HO6.out.1 HO6.out.2
              have h2 : outs good (l.take (i + 1)) = fun k => if k = f then zs ++ [t] else outs good (l.take i) k := by
                rw [HSn.out]; funext k
                by_cases hk : k = f
                · rw [if_pos ⟨HGd.out, hk.symm⟩, if_pos hk, hk, HZs.out]
                · rw [if_neg (fun h => hk h.2.symm), if_neg hk]
              rw [h2]; exact h1
            · have h1 : Below w.heap.size w w2 := hB.out.trans (HB12.out.mono hB.out.size)
              exact (h1.grown HI.out h1.size (fun j hj => by have := (HRow.out.1.lt j hj).1; omega)).grown HO6.out.2 (Nat.le_trans h1.size HI.out.size) (fun j hj => by cases hj; exact Nat.le_refl _)
      · have hgd2 : good ⟨f, t, ⟨r, s⟩⟩ = false := by simpa using hgd
        have HGd := Aside0.mk hgd2
        clear hgd hgd2
        go_wp2_with (go_at_call 28; refine (good_calls good ⟨f, t, ⟨r, s⟩⟩ HT.out w1).mono ?_; rintro e w2 ⟨z, rfl, hz0, hb⟩; have hz := hz0.trans HGd.out; have HB2 := Aside0.mk hb; clear hb hz0)
        have hb12 : Below wr.heap.size wr w2 := HB1.out.trans (HB2.out.mono HB1.out.size)
        go_roundg (gk - 1)
        case measure => have := hK.out; omega
        case rel =>
          refine ⟨i + 1, V, by go_num, ⟨by have := hK.out; omega⟩, ⟨?_⟩, ⟨hB.out.trans (hb12.mono hB.out.size)⟩⟩
          have h2 : outs good (l.take (i + 1)) = outs good (l.take i) := by
            rw [HSn.out]; funext k
            rw [if_neg (fun h => by rw [HGd.out] at h; exact absurd h.1 (by decide))]
          rw [h2]; exact (hGI.out.below hb12).more (Nat.le_succ _)
    · have hil : i = l.length := by have := hK.out; omega
      have hib : ¬ i < l.length := hlt
      have hG2 := hGI.out
      rw [hil, List.take_length] at hG2
      obtain ⟨D, hD0, hat0⟩ := hG2.owns
      have HD := Aside0.mk (And.intro hD0 hat0)
      have HG2 := Aside0.mk hG2
      clear hD0 hat0 hG2 hGI hil
      obtain ⟨N, hN⟩ : ∃ N, N = l.length := ⟨_, rfl⟩
      have HN := Aside0.mk hN
      rw [← hN] at HD HG2 hib ⊢
      clear hN
      go_wp2_with (at_range; refine wpList_range_own _ rfl (.tmp 30) 91 rfl 3 43 keyed3 Try.underlying91 rawE w.heap.size N D rfl HD.out.1 ?_; intro w2 hrg hg hs; have HRg := Aside0.mk hrg; have HG0 := Aside0.mk (And.intro hg hs); clear hrg hg hs)
      go_frame
      have hr0 := HRg.out
      have HBr := Aside0.mk (show Below w.heap.size w w2 from hB.out.trans ((⟨HG0.out.1.os, HG0.out.1.tape, HG0.out.1.output, HG0.out.1.size, fun k hk => HG0.out.1.block k (Nat.lt_of_lt_of_le hk hB.out.size) (by simp)⟩ : Below w.heap.size wr w2)))
      have HGr := Aside0.mk (HG2.out.kept HG0.out.1 (by simp) (fun k => by cases (V k).ownBlock <;> simp))
      obtain ⟨r, hr⟩ : ∃ r, r = wr.heap.size := ⟨_, rfl⟩
      have HRr := Aside0.mk (show ∀ k, (V k).ownBlock = none ∨ (V k).ownBlock ≠ some r from fun k => by
        cases hv : (V k).ownBlock with
        | none => exact .inl rfl
        | some g => refine .inr fun e => ?_; cases e; have := ((HG2.out.rows k).1.lt r hv).2; omega)
      have HRb := Aside0.mk (show w.heap.size ≤ r by rw [hr]; exact hB.out.size)
      rw [← hr] at hr0 ⊢
      have HRg := Aside0.mk hr0
      clear hr0 hr HG0 hB HG2
      have hN0 : ∀ k, Maps.has D (.int .i64 k) = false → outs good l k = [] := fun k hk => by
        obtain ⟨ps, h1⟩ := HD.out.2 k
        rw [atKey_of_not_has hk] at h1
        have h2 := rawE_inj h1 rawE_nil
        have h3 := HGr.out.rows k
        rw [h2] at h3
        exact (World.ownsInts_nil _ _ _ _).unique h3 |>.symm
      have HN0 := Aside0.mk hN0
      clear hN0
      go_loopg [7] (Maps.size D) (fun kq v7 wr => ∃ (left : Lit → Bool), Aside0 (wr.ranges Try.prog 3 rawE w.heap.size r N D left kq) ∧ Aside0 (∀ k, wr.ownsInts (w.heap.size + 1) 3 .i64 (V k) (if left (.int .i64 k) = true then outs good l k else sorted (outs good l k))) ∧ Aside0 (Below w.heap.size w wr))
      case atStart =>
        refine ⟨Maps.has D, HRg, ⟨fun k => ?_⟩, HBr⟩
        by_cases hk : Maps.has D (.int .i64 k) = true
        · rw [if_pos hk]; exact HGr.out.rows k
        · have h1 := HGr.out.rows k
          rw [if_neg hk, HN0.out k (by simpa using hk), sorted_nil]
          rw [HN0.out k (by simpa using hk)] at h1
          exact h1
      case round =>
        obtain ⟨left, hRg, hRows, hBel⟩ := hrel
        go_wp2_with (at_next; refine wpList_next_ranges _ rfl (.tmp 31) rfl 3 keyed3 rawE (Value.int .i64) (fun v => v) (fun key kl h => by obtain ⟨x, rfl, _⟩ := Maps.keyOf_int_inv Try.underlying3 h; exact ⟨x, rfl⟩) (fun v y _ => ⟨v, rfl⟩) w.heap.size r N D left gk rfl hRg.out ?_ ?_)
        · intro _ hl0
          have HL0 := Aside0.mk hl0
          clear hl0
          go_wp2
          go_ret
          refine ⟨rfl, ⟨V, ?_⟩, hBel.out⟩
          refine ⟨⟨D, by rw [← HN.out]; exact hRg.out.owns, HD.out.2⟩, fun k => ?_, HGr.out.apart, HGr.out.low, ?_⟩
          · have h1 := hRows.out k
            rw [HL0.out] at h1
            exact h1
          · have h1 := hRg.out.owns.lt; omega
        · intro x c kl yd yp w3 cnt2 hkey hlk hv hat hrg2 hlt2 hg2 hs2 hen
          obtain ⟨x', ex, rfl, hwx⟩ := Maps.keyOf_int_inv Try.underlying3 hkey
          obtain rfl : x = x' := by cases ex; rfl
          obtain rfl : c = V x := by
            obtain ⟨ps, h1⟩ := HD.out.2 x
            rw [hat] at h1
            exact rawE_inj hv h1
          have hrx := hRows.out x
          rw [if_pos hlk] at hrx
          have HRx := Aside0.mk (hrx.kept hg2 (HRr.out x))
          have HR2 := Aside0.mk (And.intro hrg2 hg2)
          have HLt := Aside0.mk hlt2
          have HZl := Aside0.mk (show (outs good l x).length ≤ 1000 by have h1 := outs_length good l x; have := HL.out; omega)
          clear hkey hlk hv hat hrg2 hlt2 hg2 hs2 ex hrx
          go_wp2_with (go_at_call 69; refine (sort_calls HRx.out HZl.out).mono ?_; rintro e w4 ⟨rfl, ho, hgr⟩; have HO := Aside0.mk (And.intro ho hgr); clear ho hgr)
          go_roundg cnt2
          case measure => exact HLt.out
          case rel =>
            have hne : some w.heap.size ≠ (V x).ownBlock := HGr.out.ne x
            have hnr : some r ≠ (V x).ownBlock := fun e => by
              rcases HRr.out x with h | h
              · rw [h] at e; cases e
              · exact h e.symm
            refine ⟨_, ⟨HR2.out.1.kept HO.out.2 hne hnr⟩, ⟨fun k => ?_⟩, ⟨?_⟩⟩
            · by_cases hk : k = x
              · subst hk
                rw [if_neg (by simp [WideAt.sameKey_self (isKey k)])]
                exact HO.out.1
              · have h1 := ((hRows.out k).kept HR2.out.2 (HRr.out k)).kept HO.out.2 (HGr.out.apart k x hk)
                rw [sameKey_ne (fun e => hk (by injection e)), Bool.not_false, Bool.and_true]
                exact h1
            · have hr1 := hRg.out.lt
              have h1 : Below w.heap.size w w3 := hBel.out.grown HR2.out.2 hBel.out.size (fun j hj => by cases hj; exact HRb.out)
              exact h1.grown HO.out.2 h1.size (fun j hj => by have := (HRx.out.1.lt j hj).1; omega)

end Go.Proofs.Ytfdceninhieheaa.Tru
end

section
/- trust.walk in plain words: level by level, of each key that is come to the one ahead of it. -/
namespace Go.Proofs.Ytfdceninhieheaa.Tru
open Go Go.RowKit Go.Maps Go.Proofs.Ytfdceninhieheaa.Reg Go.Proofs.Ytfdceninhieheaa.QTrust Go.Proofs.YtfdceninhieheaaW.PrintWords Go.Proofs.YtfdceninhieheaaW.PrintLast Go.Proofs.YtfdceninhieheaaW.PrintMore
set_option linter.unusedVariables false
set_option linter.unusedSimpArgs false

/-- What is found: keys, each with the one ahead of it. -/
abbrev Found := List (Int × Int)
def look (F : Found) (k : Int) : Option Int := (F.find? fun p => p.1 == k).map (·.2)
def visit (k : Int) (s : Found × List Int) (t : Int) : Found × List Int := if (look s.1 t).isSome = true then s else (s.1 ++ [(t, k)], s.2 ++ [t])
def scan (G : Int → List Int) (s : Found × List Int) (k : Int) : Found × List Int := (G k).foldl (visit k) s
def level (G : Int → List Int) (F : Found) (L : List Int) : Found × List Int := L.foldl (scan G) (F, [])
def bfs (G : Int → List Int) : Nat → Found → List Int → Option Found
  | 0, _, _ => none
  | n + 1, F, L => if L.length = 0 then some F else bfs G n (level G F L).1 (level G F L).2

theorem look_snoc {F : Found} {t k : Int} (h : look F t = none) (x : Int) : look (F ++ [(t, k)]) x = if x = t then some k else look F x := by
  unfold look at *
  rw [List.find?_append]
  by_cases hx : x = t
  · subst hx
    rw [if_pos rfl]
    have h1 : F.find? (fun p => p.1 == x) = none := by simpa using h
    rw [h1]; simp
  · rw [if_neg hx]
    cases h2 : F.find? (fun p => p.1 == x) with
    | some y => simp
    | none => simp [Ne.symm hx]

theorem visit_pre (k : Int) (s : Found × List Int) (t : Int) : s.1 <+: (visit k s t).1 := by
  unfold visit; split
  · exact List.prefix_refl _
  · exact List.prefix_append _ _
theorem visits_pre (k : Int) (l : List Int) (s : Found × List Int) : s.1 <+: (l.foldl (visit k) s).1 := by
  induction l generalizing s with
  | nil => exact List.prefix_refl _
  | cons t l ih => exact (visit_pre k s t).trans (ih _)
theorem scans_pre (G : Int → List Int) (l : List Int) (s : Found × List Int) : s.1 <+: (l.foldl (scan G) s).1 := by
  induction l generalizing s with
  | nil => exact List.prefix_refl _
  | cons t l ih => exact (visits_pre t (G t) s).trans (ih _)
theorem bfs_pre (G : Int → List Int) : ∀ (n : Nat) (F : Found) (L : List Int) (R : Found), bfs G n F L = some R → F <+: R
  | 0, _, _, _, h => by cases h
  | n + 1, F, L, R, h => by
    unfold bfs at h
    split at h
    · cases h; exact List.prefix_refl _
    · exact (scans_pre G L (F, [])).trans (bfs_pre G n _ _ R h)
/-- What is found in a level is as much as is next. -/
theorem visit_len (k : Int) (s : Found × List Int) (t : Int) (a : Nat) (h : s.2.length + a = s.1.length) : (visit k s t).2.length + a = (visit k s t).1.length := by
  unfold visit; split
  · exact h
  · simp only [List.length_append, List.length_cons, List.length_nil]; omega
theorem visits_len (k : Int) (l : List Int) (s : Found × List Int) (a : Nat) (h : s.2.length + a = s.1.length) : (l.foldl (visit k) s).2.length + a = (l.foldl (visit k) s).1.length := by
  induction l generalizing s with
  | nil => exact h
  | cons t l ih => exact ih _ (visit_len k s t a h)
theorem scans_len (G : Int → List Int) (l : List Int) (s : Found × List Int) (a : Nat) (h : s.2.length + a = s.1.length) : (l.foldl (scan G) s).2.length + a = (l.foldl (scan G) s).1.length := by
  induction l generalizing s with
  | nil => exact h
  | cons t l ih => exact ih _ (visits_len t (G t) s a h)

/-- The map of what is found. -/
def RF (D : DataW Unit) (F : Found) : Prop :=
  IsMap D ∧ (∀ k, Maps.has D (.int .i64 k) = (look F k).isSome) ∧ ∀ k p, look F k = some p → D.atKey (.int .i64 k) (.lit (.int .i64 0)) = .lit (.int .i64 p)
theorem RF.put {D : DataW Unit} {F : Found} (h : RF D F) {t k : Int} (ht : look F t = none) : RF (D.put (.int .i64 t) (.lit (.int .i64 k))) (F ++ [(t, k)]) := by
  refine ⟨h.1.put _ _, fun x => ?_, fun x p hp => ?_⟩
  · rw [look_snoc ht]
    by_cases hx : x = t
    · subst hx; rw [if_pos rfl, has_put_same h.1 (isKey x)]; rfl
    · rw [if_neg hx, has_put_other (fun e => hx (by injection e))]; exact h.2.1 x
  · rw [look_snoc ht] at hp
    by_cases hx : x = t
    · subst hx
      rw [if_pos rfl] at hp
      cases hp
      rw [atKey_put_same h.1 (isKey x)]
    · rw [if_neg hx] at hp
      rw [atKey_put_other (fun e => hx (by injection e))]
      exact h.2.2 x p hp
theorem RF.empty : RF (.map []) [] := ⟨isMap_empty, fun k => rfl, fun k p h => by cases h⟩
theorem RF.one (r : Int) : RF ((DataW.map []).put (.int .i64 r) (.lit (.int .i64 r))) [(r, r)] := RF.empty.put (t := r) (k := r) rfl

/-- A row of whole numbers that is the call's own, as it reads. -/
theorem ints_C {w : World} {base : Nat} {v : Value} {zs : List Int} (h : w.ownsInts base 3 .i64 v zs) : ∃ A c, v = .slice A zs.length c ∧ zs.length ≤ c ∧ Kd.C (Kd.int .i64) w A zs.length zs := by
  obtain ⟨A, c, e, hr⟩ := own_reads h.1
  refine ⟨A, c, e, ?_, Kd.C_of_reads (d := (0 : Int)) (h1 := fun _ => rfl) hr⟩
  rcases h.1.2 with ⟨h0, hl⟩ | ⟨g, cap, cur, h0, _, _, hn, _⟩
  · omega
  · rw [e] at h0; injection h0 with _ _ h3; rw [h3]; exact hn

/-- append(u, t) onto a row of the call's own, at the operation. -/
theorem wpList_append_one {ops : Array Oper} {rest : List Oper} {o : Oper} {a : Act} {Q : Exit → Act → World → Prop} {w : World}
    (hg : o.guard = none) (s x : Operand) (ho : o.op = .call { callee := .builtin .append, args := #[s, x], argTypes := #[43, 43] }) {base : Nat} {u : Value} {zs : List Int} {t : Int} (hs : a.eval s = u) (hx : a.eval x = .slice (some ⟨w.heap.size, 0, none⟩) 1 1)
    (h : w.ownsInts base 3 .i64 u zs) (hbase : base ≤ w.heap.size) (ht : I64 t) (hl : zs.length ≤ 1000)
    (hK : ∀ v' w', w'.ownsInts base 3 .i64 v' (zs ++ [t]) → w.grownBy w' u.ownBlock → wpList Try.prog ops Q rest (a.put o.dst v') w') :
    wpList Try.prog ops Q (o :: rest) a (w.alloc (.cells #[.int .i64 t] 3)) := by
  refine wpList_plain hg fun K' hK' => ?_
  obtain ⟨v', w', hrun, hown, hgr, _⟩ := append_one (w := w.alloc (.cells #[.int .i64 t] 3)) (ty := o.type) (h.alloc _) trivial (Nat.le_trans hbase (by simp)) (heap_alloc_new w _) ht hl
  refine Gives.wp (K := fun v x => v = v' ∧ x = w') (gives_append ho (by rw [hs, hx]; exact hrun) ⟨rfl, rfl⟩) ?_
  rintro v x ⟨rfl, rfl⟩
  exact hK' _ _ (hK _ _ hown ((World.grownBy_alloc w _ u.ownBlock).andThen hgr (fun j hj => .inr hj)))

end Go.Proofs.Ytfdceninhieheaa.Tru
end

section
/- trust.walk: what it comes to. -/
namespace Go.Proofs.Ytfdceninhieheaa.Tru
open Go Go.RowKit Go.Maps Go.Proofs.Ytfdceninhieheaa.Reg Go.Proofs.Ytfdceninhieheaa.QTrust Go.Proofs.YtfdceninhieheaaW.PrintWords Go.Proofs.YtfdceninhieheaaW.PrintLast Go.Proofs.YtfdceninhieheaaW.PrintMore
set_option linter.unusedVariables false
set_option linter.unusedSimpArgs false

/-- The map of keys that are come to. -/
structure FM (w : World) (b : Nat) (F : Found) : Prop where
  owns : ∃ D, w.ownsMap Try.prog 3 (plainElem Try.prog 3) b F.length D ∧ RF D F
theorem FM.kept {w w' : World} {b : Nat} {F : Found} (h : FM w b F) {row : Option Nat} (hg : w.grownBy w' row) (hb : some b ≠ row) : FM w' b F := by
  obtain ⟨D, hD, hR⟩ := h.owns
  exact ⟨D, hD.kept hg hb, hR⟩
theorem FM.below {w w' : World} {b : Nat} {F : Found} (h : FM w b F) (hg : Below w.heap.size w w') : FM w' b F := h.kept (grown_of_below hg none) (by simp)
theorem zero3 (w : World) : (zeroValue 3).run Try.prog w = .ok (.int .i64 0) w := by kernel_rfl
theorem wf0 : (Lit.int .i64 0).wf = true := by decide
/-- A look-up with its 'ok'. -/
theorem FM.look_ok {w : World} {b : Nat} {F : Found} (h : FM w b F) {k : Int} (hk : I64 k) : ∃ v, (Instr.lookup 70 (.map (some b)) (.int .i64 k) true).run Try.prog w = .ok (.tuple #[v, .bool (Tru.look F k).isSome]) w := by
  obtain ⟨D, hD, hR⟩ := h.owns
  obtain ⟨v, ps, hrun, _⟩ := hD.look_ok keyed3 Try.underlying70 (zero3 w) (plainElem_int Try.underlying3 wf0) (key_of hk)
  rw [hR.2.1] at hrun
  exact ⟨v, hrun⟩
theorem FM.look {w : World} {b : Nat} {F : Found} (h : FM w b F) {k p : Int} (hk : I64 k) (hp : Tru.look F k = some p) : (Instr.lookup 70 (.map (some b)) (.int .i64 k) false).run Try.prog w = .ok (.int .i64 p) w := by
  obtain ⟨D, hD, hR⟩ := h.owns
  obtain ⟨c, hrun, hat, _⟩ := hD.lookup_int keyed3 Try.underlying70 Try.underlying3 (zero3 w) (key_of hk)
  rw [hR.2.2 k p hp] at hat
  cases hat
  exact hrun
theorem FM.put {w' : World} {b : Nat} {F : Found} {D : DataW Unit} {t k : Int} (hR : RF D F) (ht : Tru.look F t = none) (h : w'.ownsMap Try.prog 3 (plainElem Try.prog 3) b (F.length + 1) (D.put (.int .i64 t) (.lit (.int .i64 k)))) : FM w' b (F ++ [(t, k)]) :=
  ⟨_, by rw [List.length_append]; exact h, hR.put ht⟩

theorem ints_C' {w : World} {base n c : Nat} {A : Option Addr} {zs : List Int} (h : w.ownsInts base 3 .i64 (.slice A n c) zs) : n = zs.length ∧ n ≤ c ∧ Kd.C (Kd.int .i64) w A zs.length zs := by
  obtain ⟨A', c', e, h1, h2⟩ := ints_C h
  injection e with e1 e2 e3
  subst e1 e2 e3
  exact ⟨rfl, h1, h2⟩
theorem ints_one (w : World) {base : Nat} (hb : base ≤ w.heap.size) {x : Int} (hx : I64 x) : (w.alloc (.cells #[.int .i64 x] 3)).ownsInts base 3 .i64 (.slice (some ⟨w.heap.size, 0, none⟩) 1 1) [x] :=
  ⟨⟨rfl, .inr ⟨w.heap.size, 1, _, rfl, hb, heap_alloc_new w _, Nat.le_refl _, by unfold maxLen; decide, rfl, rfl⟩⟩, fun z hz => by rw [List.mem_singleton] at hz; rw [hz]; exact hx⟩
theorem ints_lower {w : World} {base base' : Nat} {v : Value} {zs : List Int} (h : w.ownsInts base 3 .i64 v zs) (hb : base' ≤ base) : w.ownsInts base' 3 .i64 v zs := ⟨own_less h.1 hb, h.2⟩
theorem ints_ne {w : World} {base : Nat} {v : Value} {zs : List Int} (h : w.ownsInts base 3 .i64 v zs) {b : Nat} (hb : b < base) : v.ownBlock = none ∨ v.ownBlock ≠ some b := by
  cases hv : v.ownBlock with
  | none => exact .inl rfl
  | some g => refine .inr fun e => ?_; have := (h.1.lt g hv).1; cases e; omega
theorem ints_at {w : World} {A : Option Addr} {zs : List Int} (h : Kd.C (Kd.int .i64) w A zs.length zs) (j : Nat) (hj : j < zs.length) : ∃ ad, A = some ad ∧ w.cell? (ad.add j) = some (.int .i64 zs[j]) := by
  obtain ⟨ad, e, hc⟩ := Kd.at_int h (j : Int) (by omega) (by omega)
  refine ⟨ad, e, ?_⟩
  rw [Int.toNat_natCast] at hc
  rw [hc]
  simp [rd, List.getD_eq_getElem?_getD, hj]

set_option maxRecDepth 100000 in
set_option maxHeartbeats 16000000 in
theorem walk_calls (good : S54 → Bool) (root : Int) (A0 : Option Addr) (c0 : Nat) (l : List S54) (w : World) (kk : Nat) (R : Found) (hr : Kd.C k54 w A0 l.length l) (hc : l.length ≤ c0) (hl : l.length ≤ 1000) (hg : ∀ c ∈ l, Told good c) (hroot : I64 root)
    (hR : bfs (fun k => sorted (outs good l k)) kk [(root, root)] [root] = some R) (hRl : R.length ≤ 900) :
    Calls Try.prog 40 #[.int .i64 root, .slice A0 l.length c0] w fun e w' => ∃ b, e = .returned (.map (some b)) ∧ FM w' b R ∧ w.heap.size ≤ b ∧ Below w.heap.size w w' := by
  have hmm := @run_makeMap Try.prog
  obtain ⟨G, hG⟩ : ∃ G, G = fun k => sorted (outs good l k) := ⟨_, rfl⟩
  have hgl : ∀ k, (G k).length ≤ 1000 := fun k => by rw [hG]; show (sorted _).length ≤ 1000; rw [sorted_length]; exact Nat.le_trans (outs_length good l k) hl
  have HGr := fun W (h : Kd.C k54 W A0 l.length l) => group_calls good A0 c0 l W h hc hl hg
  rw [← hG] at hR HGr
  have HCall := Aside0.mk HGr
  have HR0 := Aside0.mk hr
  have HBfs := Aside0.mk hR
  have HGl := Aside0.mk hgl
  have HRt := Aside0.mk hroot
  have HRl := Aside0.mk hRl
  clear hG HGr hr hc hl hg hR hgl hroot hRl
  go_enter Try.func40, Try.ntmps40
  go_upto_region 2 with (go_at_call 48; refine (HCall.out w HR0.out).mono ?_; rintro e w1 ⟨rfl, ⟨V, hV⟩, hb⟩; have HV := Aside0.mk hV; have S0 := Aside0.mk hb; clear hV hb)
  obtain ⟨b2, hb2⟩ : ∃ b2, b2 = w1.heap.size := ⟨_, rfl⟩
  obtain ⟨w3, hup, hown3, hgr3⟩ := (World.ownsMap_made (H := Unit) w1 Try.prog 3 (plainElem Try.prog 3)).update keyed3 Try.underlying70 (by unfold maxLen; decide) (key_of HRt.out) (plainElem_int Try.underlying3 HRt.out)
  have HF3 := Aside0.mk (show FM w3 w1.heap.size [(root, root)] from ⟨_, hown3, RF.one root⟩)
  have HG3 := Aside0.mk hgr3
  clear hown3 hgr3
  go_upto_region 3 with (fail)
  have hB3 : Below w1.heap.size w1 w3 := (below_alloc (Below.refl _ _) _ : Below w1.heap.size w1 (w1.alloc (.map #[] 0))).grown HG3.out (by simp) (fun j hj => by cases hj; exact Nat.le_refl _)
  have HF := Aside0.mk (show FM w3 b2 [(root, root)] by rw [hb2]; exact HF3.out)
  have HV3 := Aside0.mk (HV.out.below hB3)
  have HB3 := Aside0.mk (S0.out.trans (hB3.mono S0.out.size))
  have HLow := Aside0.mk (show w.heap.size ≤ b2 ∧ w.heap.size + 1 ≤ b2 ∧ b2 < w3.heap.size by
    obtain ⟨D, hD, _⟩ := HF.out.owns
    exact ⟨by rw [hb2]; exact S0.out.size, by rw [hb2]; exact HV.out.base, hD.lt⟩)
  have HVb := Aside0.mk (show ∀ k, (V k).ownBlock = none ∨ (V k).ownBlock ≠ some b2 from fun k => by
    cases hv : (V k).ownBlock with
    | none => exact .inl rfl
    | some g => refine .inr fun e => ?_; have h1 := ((HV.out.rows k).1.lt g hv).2; cases e; omega)
  rw [← hb2]
  clear HF3 HG3 hup hB3 HV S0 hb2
  go_upto_region 4 with (fail)
  have hB4 : Below w3.heap.size w3 (w3.alloc (.cells #[.int .i64 root] 3)) := below_alloc (Below.refl _ _) _
  have hl4 := ints_one w3 (base := b2 + 1) (by have := HLow.out; omega) HRt.out
  obtain ⟨g4, hg4⟩ : ∃ g, g = w3.heap.size := ⟨_, rfl⟩
  rw [← hg4] at hl4 ⊢
  generalize (w3.alloc (.cells #[.int .i64 root] 3)) = w4 at hB4 hl4 ⊢
  have HL4 := Aside0.mk hl4
  have HF4 := Aside0.mk (HF.out.below hB4)
  have HV4 := Aside0.mk (HV3.out.below hB4)
  have HB4 := Aside0.mk (HB3.out.trans (hB4.mono HB3.out.size))
  have HLow4 := Aside0.mk (show b2 < w4.heap.size by have h1 := HLow.out.2.2; have h2 := hB4.size; omega)
  clear hB4 hl4 hg4 HF HV3 HB3
  go_loopg [7] kk (fun kq v7 wr => ∃ (F : Found) (L : List Int), Aside0 (bfs G kq F L = some R) ∧ Aside0 (L.length ≤ F.length) ∧ Aside0 (wr.ownsInts (b2 + 1) 3 .i64 v7 L) ∧ Aside0 (FM wr b2 F) ∧ Aside0 (w4.grownBy wr (some b2)))
  case atStart => exact ⟨[(root, root)], [root], HBfs, ⟨Nat.le_refl _⟩, HL4, HF4, ⟨World.grownBy.refl _ _⟩⟩
  case round =>
    obtain ⟨F, L, hBf, hLF, hL, hF, hGr⟩ := hrel
    obtain ⟨A7, c7, rfl, hlc, hC7⟩ := ints_C hL.out
    cases gk with
    | zero => exact absurd hBf.out (by simp [bfs])
    | succ k1 =>
      by_cases hL0 : L.length = 0
      · have hR2 : F = R := by have h := hBf.out; unfold bfs at h; rw [if_pos hL0] at h; exact Option.some.inj h
        have hl0 : L = [] := List.length_eq_zero_iff.1 hL0
        subst hl0
        go_wp2
        go_ret
        refine ⟨b2, rfl, by rw [← hR2]; exact hF.out, HLow.out.1, HB4.out.grown hGr.out HB4.out.size (fun j hj => by cases hj; exact HLow.out.1)⟩
      · have hL1 : 0 < L.length := by omega
        have hL1b : decide ((0 : Int) < (L.length : Int)) = true := decide_eq_true (by omega)
        have hL1c : decide (0 < L.length) = true := decide_eq_true (by omega)
        obtain ⟨SL, hSL⟩ : ∃ SL, SL = level G F L := ⟨_, rfl⟩
        have hB1 : bfs G k1 SL.1 SL.2 = some R := by have h := hBf.out; unfold bfs at h; rw [if_neg hL0, ← hSL] at h; exact h
        have HB1 := Aside0.mk hB1
        have HSL := Aside0.mk hSL
        have HPre := Aside0.mk (show SL.1.length ≤ 900 from Nat.le_trans (bfs_pre G _ _ _ _ hB1).length_le HRl.out)
        have HPre0 := Aside0.mk (show F.length ≤ 900 by have h1 := (scans_pre G L (F, [])).length_le; rw [show L.foldl (scan G) (F, []) = SL from hSL.symm] at h1; have := HPre.out; exact Nat.le_trans h1 this)
        obtain ⟨W, hW⟩ : ∃ W, W = wr := ⟨_, rfl⟩
        subst hW
        have HVW := Aside0.mk (HV4.out.kept hGr.out (by have := HLow.out; simp; omega) HVb.out)
        have HWb := Aside0.mk (show b2 < W.heap.size from Nat.lt_of_lt_of_le HLow4.out hGr.out.size)
        have HL0 := Aside0.mk hL.out
        clear hB1 hSL hBf hL0
        go_wp2
        go_loopg [8, 28] (L.length) (fun kq v8 v28 wr => ∃ (j : Nat) (F1 : Found) (N : List Int), v28 = .int .i64 j ∧ Aside0 (kq + j = L.length) ∧ Aside0 ((L.drop j).foldl (scan G) (F1, N) = SL) ∧ Aside0 (N.length + F.length = F1.length) ∧ Aside0 (wr.ownsInts W.heap.size 3 .i64 v8 N) ∧ Aside0 (FM wr b2 F1) ∧ Aside0 (W.grownBy wr (some b2)))
        case atStart => exact ⟨0, F, [], rfl, ⟨by omega⟩, ⟨HSL.out.symm⟩, ⟨by simp⟩, ⟨World.ownsInts_nil _ _ _ _⟩, hF, ⟨World.grownBy.refl _ _⟩⟩
        case round =>
          obtain ⟨j, F1, N, rfl, hK, hFo, hNl, hN, hF1, hG1⟩ := hrel
          obtain ⟨g2, hg2⟩ : ∃ G, G = gk := ⟨_, rfl⟩
          subst hg2
          by_cases hjl : j < L.length
          · have hj1 : (j : Int) < (L.length : Int) := by omega
            have hj0 : (0 : Int) ≤ (j : Int) := by omega
            have hwj : IntKind.i64.wrap ((j : Int) + 1) = (j : Int) + 1 := by have h1 := hLF.out; have h2 := HPre0.out; rw [IntKind.wrap_i64]; omega
            have hLr := HL0.out.kept hG1.out (ints_ne HL0.out (Nat.lt_succ_self b2))
            obtain ⟨ad, rfl, hx0⟩ := ints_at (ints_C' hLr).2.2 j hjl
            have hk64 : I64 L[j] := hLr.2 _ (List.getElem_mem hjl)
            have hFo' : (L.drop (j + 1)).foldl (scan G) (scan G (F1, N) L[j]) = SL := by
              have h := hFo.out; rw [List.drop_eq_getElem_cons hjl] at h; exact h
            generalize L[j] = k at hx0 hk64 hFo'
            obtain ⟨SK, hSK⟩ : ∃ SK, SK = scan G (F1, N) k := ⟨_, rfl⟩
            rw [← hSK] at hFo'
            have HFo := Aside0.mk hFo'
            have HSK := Aside0.mk hSK
            have HK64 := Aside0.mk hk64
            have HPk := Aside0.mk (show SK.1.length ≤ 900 by have h1 := (scans_pre G (L.drop (j + 1)) SK).length_le; rw [hFo'] at h1; exact Nat.le_trans h1 HPre.out)
            have hbne : some w.heap.size ≠ some b2 := by have := HLow.out; simp; omega
            have hlk := HVW.out.look hG1.out hbne hk64
            have hvr := (HVW.out.rows k).kept hG1.out (HVb.out k)
            obtain ⟨Ak, ck, hvk, hkc, _⟩ := ints_C hvr
            have HVk := Aside0.mk (show W.ownsInts (w.heap.size + 1) 3 .i64 (.slice Ak (G k).length ck) (G k) by rw [← hvk]; exact HVW.out.rows k)
            have HVkb := Aside0.mk (show (Value.slice Ak (G k).length ck).ownBlock = none ∨ (Value.slice Ak (G k).length ck).ownBlock ≠ some b2 by rw [← hvk]; exact HVb.out k)
            rw [hvk] at hlk
            have HGk := Aside0.mk (HGl.out k)
            clear hvk hvr hk64 hFo' hSK hLr hFo
            go_wp2
            go_loopg [8, 36] ((G k).length) (fun kq v8 v36 wr => ∃ (m : Nat) (F2 : Found) (N2 : List Int), v36 = .int .i64 m ∧ Aside0 (kq + m = (G k).length) ∧ Aside0 (((G k).drop m).foldl (visit k) (F2, N2) = SK) ∧ Aside0 (N2.length + F.length = F2.length) ∧ Aside0 (wr.ownsInts W.heap.size 3 .i64 v8 N2) ∧ Aside0 (FM wr b2 F2) ∧ Aside0 (W.grownBy wr (some b2)))
            case atStart => exact ⟨0, F1, N, rfl, ⟨by omega⟩, ⟨HSK.out.symm⟩, hNl, hN, hF1, hG1⟩
            case round =>
              obtain ⟨m, F2, N2, rfl, hK2, hFo2, hNl2, hN2, hF2, hG2⟩ := hrel
              by_cases hml : m < (G k).length
              · have hm1 : (m : Int) < ((G k).length : Int) := by omega
                have hm0 : (0 : Int) ≤ (m : Int) := by omega
                have hwm : IntKind.i64.wrap ((m : Int) + 1) = (m : Int) + 1 := by have h1 := HGk.out; rw [IntKind.wrap_i64]; omega
                have hVr := HVk.out.kept hG2.out HVkb.out
                obtain ⟨ak, rfl, hy0⟩ := ints_at (ints_C' hVr).2.2 m hml
                have ht64 : I64 (G k)[m] := hVr.2 _ (List.getElem_mem hml)
                have hFo3 : ((G k).drop (m + 1)).foldl (visit k) (visit k (F2, N2) (G k)[m]) = SK := by
                  have h := hFo2.out; rw [List.drop_eq_getElem_cons hml] at h; exact h
                generalize (G k)[m] = t at hy0 ht64 hFo3
                have HT64 := Aside0.mk ht64
                obtain ⟨v, hlo⟩ := hF2.out.look_ok ht64
                clear hVr hlk
                by_cases hs : (look F2 t).isSome = true
                · have hvis : visit k (F2, N2) t = (F2, N2) := by unfold visit; rw [if_pos hs]
                  rw [hvis] at hFo3
                  have HFo3 := Aside0.mk hFo3
                  rw [hs] at hlo
                  clear hFo3 hvis hs ht64
                  go_wp2
                  go_roundg (gk - 1)
                  case measure => have := hK2.out; omega
                  case rel => exact ⟨m + 1, F2, N2, by go_num, ⟨by have := hK2.out; omega⟩, HFo3, hNl2, hN2, hF2, hG2⟩
                · have hsf : (look F2 t).isSome = false := by simpa using hs
                  have hnone : look F2 t = none := by simpa using hs
                  have hvis : visit k (F2, N2) t = (F2 ++ [(t, k)], N2 ++ [t]) := by unfold visit; rw [if_neg hs]
                  rw [hvis] at hFo3
                  have HFo3 := Aside0.mk hFo3
                  have HNone := Aside0.mk hnone
                  rw [hsf] at hlo
                  have HLen := Aside0.mk (show F2.length + 1 ≤ 900 by have h1 := (visits_pre k ((G k).drop (m + 1)) (F2 ++ [(t, k)], N2 ++ [t])).length_le; rw [hFo3] at h1; have := HPk.out; simp at h1; omega)
                  have HNm := Aside0.mk (show N2.length ≤ 1000 by have := hNl2.out; have := HLen.out; omega)
                  obtain ⟨D, hD, hRF⟩ := hF2.out.owns
                  have HD := Aside0.mk (And.intro hD hRF)
                  have hmax : F2.length < maxLen := by have h1 := HLen.out; have h2 : maxLen = 9223372036854775807 := rfl; omega
                  clear hFo3 hvis hs hsf hnone ht64 hD hRF
                  go_wp2_with (first
                    | (at_mapUpdate; refine wpList_mapUpdate_own _ rfl (.tmp 48) (.tmp 49) (.tmp 50) 70 rfl 3 3 keyed3 Try.underlying70 (plainElem Try.prog 3) b2 F2.length D rfl HD.out.1 hmax (.int .i64 t) (.int .i64 k) (.int .i64 t) rfl rfl (key_of HT64.out) (.lit (.int .i64 k)) [] (plainElem_int Try.underlying3 HK64.out) ?_; intro w6 hown6 hgrow6; have HO6 := Aside0.mk (And.intro hown6 hgrow6); have HG6 := Aside0.mk (hG2.out.andThen hgrow6 (fun j hj => .inr hj)); have HN6 := Aside0.mk (hN2.out.kept hgrow6 (ints_ne hN2.out HWb.out)); clear hown6 hgrow6)
                    | (at_builtin; refine wpList_append_one rfl (.tmp 51) (.tmp 53) rfl rfl rfl HN6.out HG6.out.size HT64.out HNm.out ?_; intro v7 w7 hown7 hgrow7; have HO7 := Aside0.mk (And.intro hown7 hgrow7); clear hown7 hgrow7))
                  go_roundg (gk - 1)
                  case measure => have := hK2.out; omega
                  case rel =>
                    refine ⟨m + 1, F2 ++ [(t, k)], N2 ++ [t], by go_num, ⟨by have := hK2.out; omega⟩, HFo3, ⟨by have := hNl2.out; simp only [List.length_append, List.length_cons, List.length_nil]; omega⟩, ⟨HO7.out.1⟩, ⟨?_⟩, ⟨HG6.out.andThen HO7.out.2 (fun j hj => .inl (HN6.out.1.lt j hj).1)⟩⟩
                    refine (FM.put HD.out.2 HNone.out HO6.out.1).kept HO7.out.2 (fun e => ?_)
                    have h1 := (HN6.out.1.lt b2 e.symm).1
                    have := HWb.out
                    omega
              · have hme : (G k).drop m = [] := List.drop_of_length_le (by omega)
                have hSK2 : (F2, N2) = SK := by have h := hFo2.out; rw [hme] at h; exact h
                have HSK2 := Aside0.mk hSK2
                clear hme hSK2 hlk
                go_wp2
                go_roundg (g2 - 1)
                case measure => have := hK.out; omega
                case rel => exact ⟨j + 1, F2, N2, by go_num, ⟨by have := hK.out; omega⟩, ⟨by rw [HSK2.out]; exact HFo.out⟩, hNl2, hN2, hF2, hG2⟩
          · have hje : L.drop j = [] := List.drop_of_length_le (by omega)
            have hSL2 : (F1, N) = SL := by have h := hFo.out; rw [hje] at h; exact h
            have HSL2 := Aside0.mk hSL2
            clear hje hSL2
            go_wp2
            go_roundg k1
            case measure => omega
            case rel => exact ⟨F1, N, ⟨by have h := HB1.out; rw [← HSL2.out] at h; exact h⟩, ⟨by have := hNl.out; omega⟩, ⟨ints_lower hN.out (by have := HWb.out; omega)⟩, hF1, ⟨hGr.out.andThen hG1.out (fun j hj => .inr hj)⟩⟩

end Go.Proofs.Ytfdceninhieheaa.Tru
end

section
/- trust.Reach: what it comes to; the keys that are come to, ascending. -/
namespace Go.Proofs.Ytfdceninhieheaa.Tru
open Go Go.RowKit Go.Maps Go.Proofs.Ytfdceninhieheaa.Reg Go.Proofs.Ytfdceninhieheaa.QTrust Go.Proofs.YtfdceninhieheaaW.PrintWords Go.Proofs.YtfdceninhieheaaW.PrintLast Go.Proofs.YtfdceninhieheaaW.PrintMore
set_option linter.unusedVariables false
set_option linter.unusedSimpArgs false

theorem look_some_iff {F : Found} {k : Int} : (look F k).isSome = true ↔ k ∈ F.map (·.1) := by
  unfold look
  rw [Option.isSome_map, List.find?_isSome, List.mem_map]
  constructor
  · rintro ⟨p, hp, he⟩; exact ⟨p, hp, by simpa using he⟩
  · rintro ⟨p, hp, rfl⟩; exact ⟨p, hp, by simp⟩
theorem look_none_iff {F : Found} {k : Int} : look F k = none ↔ k ∉ F.map (·.1) := by
  rw [← look_some_iff]; cases look F k <;> simp
/-- No key twice. -/
def Apart (F : Found) : Prop := (F.map (·.1)).Nodup
theorem visit_apart (k : Int) (s : Found × List Int) (t : Int) (h : Apart s.1) : Apart (visit k s t).1 := by
  unfold visit
  split
  · exact h
  · rename_i hs
    unfold Apart at *
    rw [List.map_append, List.nodup_append]
    refine ⟨h, by simp, fun a ha b hb e => ?_⟩
    simp at hb
    subst hb e
    exact hs (look_some_iff.2 ha)
theorem visits_apart (k : Int) (l : List Int) (s : Found × List Int) (h : Apart s.1) : Apart (l.foldl (visit k) s).1 := by
  induction l generalizing s with
  | nil => exact h
  | cons t l ih => exact ih _ (visit_apart k s t h)
theorem scans_apart (G : Int → List Int) (l : List Int) (s : Found × List Int) (h : Apart s.1) : Apart (l.foldl (scan G) s).1 := by
  induction l generalizing s with
  | nil => exact h
  | cons t l ih => exact ih _ (visits_apart t (G t) s h)
theorem bfs_apart (G : Int → List Int) : ∀ (n : Nat) (F : Found) (L : List Int) (R : Found), bfs G n F L = some R → Apart F → Apart R
  | 0, _, _, _, h, _ => by cases h
  | n + 1, F, L, R, h, ha => by
    unfold bfs at h
    split at h
    · cases h; exact ha
    · exact bfs_apart G n _ _ R h (scans_apart G L (F, []) ha)
theorem one_apart (r : Int) : Apart [(r, r)] := by simp [Apart]

/-- The keys that are come to, ascending. -/
def keysOf (R : Found) : List Int := sorted (R.map (·.1))
theorem keys_perm {w : World} {b n : Nat} {D : DataW Unit} {F : Found} (hD : w.ownsMap Try.prog 3 (plainElem Try.prog 3) b n D) (hR : RF D F) (ha : Apart F) : (F.map (·.1)).Perm (intKeys D) := by
  obtain ⟨es, rfl, hpw, _⟩ := hD.entries keyed3
  obtain ⟨es', hD', hko⟩ := hD.keysOf
  obtain rfl : es = es' := by simpa using hD'
  exact perm_intKeys hpw (fun p hp => by obtain ⟨v, hv⟩ := hko p hp; obtain ⟨x, _, hx, _⟩ := Maps.keyOf_i64 Try.underlying3 hv; exact ⟨x, hx⟩) ha (fun x => by rw [hR.2.1 x, look_some_iff])

theorem sorts (m : Nat) : AnyZI.SortsIn Try.prog Try.sortedA_ren Fence.wide m :=
  ⟨fun blk off cap ss W hH hblk hsz => callsIn_wide.2 (AnyM.slices_Sort_int Try.sortA blk off cap ss W hH hblk hsz),
   fun p cap W => callsIn_wide.2 (AnyM.slices_Sort_int_none Try.sortA p cap W)⟩

theorem keys_calls (mb : Option Nat) (W : World) : Calls Try.prog 50 #[.map mb] W fun e w' => e = .returned (.func (.func 71) #[] #[.pointer (some ⟨W.heap.size, 0, none⟩)]) ∧ w' = W.alloc (.cells #[.map mb] 70) :=
  callsIn_wide.1 (AnyZI.keys_in Try.keysA Fence.wide 5 trivial rfl mb W)

/-- slices.Sorted at what maps.Keys handed back. -/
theorem sorted_calls {w : World} {b : Nat} {F : Found} (h : FM w b F) (ha : Apart F) (hl : F.length ≤ 900) :
    Calls Try.prog 49 #[.func (.func 71) #[] #[.pointer (some ⟨w.heap.size, 0, none⟩)]] (w.alloc (.cells #[.map (some b)] 70)) fun e w' => ∃ v, e = .returned v ∧ w'.ownsInts w.heap.size 3 .i64 v (keysOf F) ∧ Below w.heap.size w w' := by
  obtain ⟨D0, hown, hRF⟩ := h.owns
  have hp := keys_perm hown hRF ha
  have hwf := intKeys_wf hown Try.underlying3
  have hsz : Maps.size D0 ≤ F.length := hown.size_le
  have hmx : (900 : Nat) ≤ maxLen := by unfold maxLen; decide
  have hseq : SeqGives Fence.wide 2 Try.prog 71 #[.pointer (some ⟨w.heap.size, 0, none⟩)] encZ (fun ss => ss.Perm (intKeys D0)) (Maps.size D0) (w.alloc (.cells #[.map (some b)] 70)) :=
    AnyZI.keys_gives (ρ := Try.keysA_ren) { Try.keysA with } Fence.wide _ trivial rfl (by omega) w.heap.size b F.length D0 _ (by simp) (by simp) (hown.alloc _)
  have cS := AnyZI.sorted_in Try.sortedA Fence.wide 5 trivial trivial trivial trivial rfl (by omega) (sorts _) (enters_of Try.func69 (by kernel_rfl) rfl) 71 #[.pointer (some ⟨w.heap.size, 0, none⟩)] trivial (enters_of Try.func71 (by kernel_rfl) rfl) _ _ (by omega) (by omega) _ hseq
  refine (callsIn_wide.1 cS).mono ?_
  rintro e w' ⟨v, ss, rfl, hS, hrow, _, hb⟩
  have he : ss.mergeSort leI = keysOf F := mergeSort_of_perm_i (hS.trans hp.symm)
  have hlen : ss.length = (keysOf F).length := by rw [← he, List.length_mergeSort]
  refine ⟨v, rfl, ⟨?_, fun z hz => ?_⟩, ((Below.refl _ w).alloc (Nat.le_refl _) _).trans (hb.mono (by simp))⟩
  · rw [hlen, show (fun x y => decide (x ≤ y)) = leI from rfl, he] at hrow
    exact own_less hrow (by simp)
  · exact hwf z (hp.mem_iff.1 ((sorted_perm _).mem_iff.1 hz))

set_option maxRecDepth 100000 in
set_option maxHeartbeats 4000000 in
theorem reach_calls (good : S54 → Bool) (root : Int) (A0 : Option Addr) (c0 : Nat) (l : List S54) (w : World) (kk kf : Nat) (R : Found) (hr : Kd.C k54 w A0 l.length l) (hc : l.length ≤ c0) (hl : l.length ≤ 1000) (hg : ∀ c ∈ l, Told good c) (hroot : I64 root)
    (hf : trust_fault.f kf root l = some 0) (hR : bfs (fun k => sorted (outs good l k)) kk [(root, root)] [root] = some R) (hRl : R.length ≤ 900) :
    Calls Try.prog 42 #[.int .i64 root, .slice A0 l.length c0] w fun e w' => ∃ A c, e = .returned (.tuple #[.slice A (keysOf R).length c, .int .i64 0]) ∧ (keysOf R).length ≤ c ∧ Kd.C (Kd.int .i64) w' A (keysOf R).length (keysOf R) ∧ Below w.heap.size w w' := by
  have ha := bfs_apart _ _ _ _ _ hR (one_apart root)
  have HA := Aside0.mk (And.intro ha hRl)
  have HW := Aside0.mk (fun W (h : Kd.C k54 W A0 l.length l) => walk_calls good root A0 c0 l W kk R h hc hl hg hroot hR hRl)
  have HF := Aside0.mk (fun W (h : Kd.C k54 W A0 l.length l) => trust_fault.calls kf root A0 c0 l 0 W h hc hf)
  have HR := Aside0.mk hr
  clear hr hc hl hg hroot hf hR hRl ha
  go_enter Try.func42, Try.ntmps42
  go_wp2_with (first
    | (go_at_call 39; refine (HF.out w HR.out).mono ?_; rintro e w1 ⟨rfl, ⟨m1, rfl⟩⟩)
    | (go_at_call 40; refine (HW.out _ (Kd.C_drewN HR.out _)).mono ?_; rintro e w2 ⟨b, rfl, hF, hbw, hb⟩; have HFm := Aside0.mk hF; have HB := Aside0.mk hb; clear hF hbw hb)
    | (go_at_call 50; refine (keys_calls (some b) w2).mono ?_; rintro e w3 ⟨rfl, rfl⟩)
    | (go_at_call 49; refine (sorted_calls HFm.out HA.out.1 HA.out.2).mono ?_; rintro e w4 ⟨v, rfl, hO, hb⟩; obtain ⟨A5, c5, rfl, hlc, hC5⟩ := ints_C hO; have HO := Aside0.mk (And.intro hlc hC5); have HB4 := Aside0.mk hb; clear hO hb hlc hC5))
  go_ret2
  refine ⟨A5, c5, rfl, HO.out.1, HO.out.2, ?_⟩
  exact ((pw_below_drewN (Below.refl _ _) m1).trans (HB.out.mono (Nat.le_refl _))).trans (HB4.out.mono HB.out.size)

end Go.Proofs.Ytfdceninhieheaa.Tru
end

section
/- trust.Path: what it comes to. -/
namespace Go.Proofs.Ytfdceninhieheaa.Tru
open Go Go.RowKit Go.Maps Go.Proofs.Ytfdceninhieheaa.Reg Go.Proofs.Ytfdceninhieheaa.QTrust Go.Proofs.YtfdceninhieheaaW.PrintWords Go.Proofs.YtfdceninhieheaaW.PrintLast Go.Proofs.YtfdceninhieheaaW.PrintMore
set_option linter.unusedVariables false
set_option linter.unusedSimpArgs false

/-- From a key to the root, one by one. -/
def chain (R : Found) (root : Int) : Nat → Int → Option (List Int)
  | 0, _ => none
  | n + 1, k => if k = root then some [k] else (look R k).bind fun p => (chain R root n p).map (k :: ·)
theorem chain_head (R : Found) (root : Int) : ∀ (n : Nat) (k : Int) (l : List Int), chain R root n k = some l → l = k :: l.tail
  | 0, _, _, h => by cases h
  | n + 1, k, l, h => by
    unfold chain at h
    split at h
    · cases h; rfl
    · cases hp : look R k with
      | none => rw [hp] at h; cases h
      | some p =>
        rw [hp, Option.bind_some] at h
        cases hc : chain R root n p with
        | none => rw [hc] at h; cases h
        | some m => rw [hc] at h; cases h; rfl

theorem FM.wf {w : World} {b : Nat} {F : Found} (h : FM w b F) {k p : Int} (hk : I64 k) (hp : Tru.look F k = some p) : I64 p := by
  obtain ⟨D, hD, hR⟩ := h.owns
  obtain ⟨c, hrun, hat, hc⟩ := hD.lookup_int keyed3 Try.underlying70 Try.underlying3 (zero3 w) (key_of hk)
  rw [hR.2.2 k p hp] at hat
  cases hat
  exact hc

/-- slices.Reverse at a row of the call's own. -/
theorem rev_calls {w : World} {base : Nat} {v : Value} {zs : List Int} (h : w.ownsInts base 3 .i64 v zs) (hz : zs ≠ []) (hl : zs.length ≤ 1000) :
    Calls Try.prog 41 #[v] w fun e w' => e = .returned (.tuple #[]) ∧ w'.ownsInts base 3 .i64 v zs.reverse ∧ w.grownBy w' v.ownBlock := by
  rcases h.1.2 with ⟨rfl, h0⟩ | ⟨g, cap, cur, rfl, hbase, hb, h1, h2, h3, h4⟩
  · exact absurd (List.length_eq_zero_iff.1 h0) hz
  · refine (Any.slices_Reverse_int Try.revA g 0 cap zs w (holds_of_blockI hb (by simpa using h4)) (by omega)).mono ?_
    rintro e w' ⟨rfl, n, rfl⟩
    have hlen : zs.reverse.length = zs.length := List.length_reverse
    have h5 := ownsRow_sortedI (n := n) (os := #[]) hlen hbase hb h1 h2 h3
    have h6 := grownBy_sortedI (w := w) (g := g) (n := n) (os := #[]) zs.reverse.toArray
    have e0 : ∀ W : World, Sort.grow W #[] = W := fun W => by unfold Sort.grow; simp
    rw [e0] at h5 h6
    exact ⟨rfl, ⟨by rw [hlen]; exact h5, fun z hz => h.2 z (List.mem_reverse.1 hz)⟩, h6⟩

set_option maxRecDepth 100000 in
set_option maxHeartbeats 8000000 in
theorem path_none (good : S54 → Bool) (root key : Int) (A0 : Option Addr) (c0 : Nat) (l : List S54) (w : World) (kk kf : Nat) (R : Found) (hr : Kd.C k54 w A0 l.length l) (hc : l.length ≤ c0) (hl : l.length ≤ 1000) (hg : ∀ c ∈ l, Told good c) (hroot : I64 root) (hkey : I64 key)
    (hf : trust_fault.f kf root l = some 0) (hk : sign_Key.f kf key = some true) (hR : bfs (fun k => sorted (outs good l k)) kk [(root, root)] [root] = some R) (hRl : R.length ≤ 900) (hn : look R key = none) :
    Calls Try.prog 27 #[.int .i64 root, .int .i64 key, .slice A0 l.length c0] w fun e w' => e = .returned (.tuple #[.slice none 0 0, .int .i64 8]) ∧ Below w.heap.size w w' := by
  have HW := Aside0.mk (fun W (h : Kd.C k54 W A0 l.length l) => walk_calls good root A0 c0 l W kk R h hc hl hg hroot hR hRl)
  have HF := Aside0.mk (fun W (h : Kd.C k54 W A0 l.length l) => trust_fault.calls kf root A0 c0 l 0 W h hc hf)
  have HKy := Aside0.mk (fun W => sign_Key.calls kf key true W hk)
  have HR := Aside0.mk hr
  have HK64 := Aside0.mk hkey
  have HN := Aside0.mk hn
  clear hr hc hl hg hroot hf hR hRl hkey hn hk
  go_enter Try.func27, Try.ntmps27
  go_upto_region 7 with (first
    | (go_at_call 39; refine (HF.out w HR.out).mono ?_; rintro e w1 ⟨rfl, ⟨m1, rfl⟩⟩)
    | (go_at_call 35; refine (HKy.out _).mono ?_; rintro e w2 ⟨rfl, ⟨m2, rfl⟩⟩)
    | (go_at_call 40; refine (HW.out _ (Kd.C_drewN HR.out _)).mono ?_; rintro e w3 ⟨b, rfl, hF, hbw, hb⟩; have HFm := Aside0.mk hF; have HB := Aside0.mk hb; clear hF hbw hb))
  obtain ⟨v, hlo⟩ := HFm.out.look_ok HK64.out
  rw [HN.out] at hlo
  go_wp2
  go_ret2
  exact ⟨rfl, pw_below_drewN (Below.refl _ _) _ |>.trans (HB.out.mono (Nat.le_refl _))⟩

set_option maxRecDepth 100000 in
set_option maxHeartbeats 8000000 in
theorem path_some (good : S54 → Bool) (root key : Int) (A0 : Option Addr) (c0 : Nat) (l : List S54) (w : World) (kk kf n : Nat) (R : Found) (cs : List Int) (hr : Kd.C k54 w A0 l.length l) (hc : l.length ≤ c0) (hl : l.length ≤ 1000) (hg : ∀ c ∈ l, Told good c) (hroot : I64 root) (hkey : I64 key)
    (hf : trust_fault.f kf root l = some 0) (hk : sign_Key.f kf key = some true) (hR : bfs (fun k => sorted (outs good l k)) kk [(root, root)] [root] = some R) (hRl : R.length ≤ 900) (hs : (look R key).isSome = true) (hcs : chain R root n key = some cs) (hcl : cs.length ≤ 900) :
    Calls Try.prog 27 #[.int .i64 root, .int .i64 key, .slice A0 l.length c0] w fun e w' => ∃ A c, e = .returned (.tuple #[.slice A cs.reverse.length c, .int .i64 0]) ∧ cs.reverse.length ≤ c ∧ Kd.C (Kd.int .i64) w' A cs.reverse.length cs.reverse ∧ Below w.heap.size w w' := by
  have HW := Aside0.mk (fun W (h : Kd.C k54 W A0 l.length l) => walk_calls good root A0 c0 l W kk R h hc hl hg hroot hR hRl)
  have HF := Aside0.mk (fun W (h : Kd.C k54 W A0 l.length l) => trust_fault.calls kf root A0 c0 l 0 W h hc hf)
  have HKy := Aside0.mk (fun W => sign_Key.calls kf key true W hk)
  have HR := Aside0.mk hr
  have HK64 := Aside0.mk hkey
  have HS := Aside0.mk hs
  have HCs := Aside0.mk hcs
  have HCl := Aside0.mk hcl
  clear hr hc hl hg hroot hf hR hRl hkey hs hcs hcl hk
  go_enter Try.func27, Try.ntmps27
  go_upto_region 7 with (first
    | (go_at_call 39; refine (HF.out w HR.out).mono ?_; rintro e w1 ⟨rfl, ⟨m1, rfl⟩⟩)
    | (go_at_call 35; refine (HKy.out _).mono ?_; rintro e w2 ⟨rfl, ⟨m2, rfl⟩⟩)
    | (go_at_call 40; refine (HW.out _ (Kd.C_drewN HR.out _)).mono ?_; rintro e w3 ⟨b, rfl, hF, hbw, hb⟩; have HFm := Aside0.mk hF; have HB := Aside0.mk (pw_below_drewN (Below.refl _ _) _ |>.trans (hb.mono (Nat.le_refl _))); clear hF hbw hb))
  obtain ⟨v, hlo⟩ := HFm.out.look_ok HK64.out
  rw [HS.out] at hlo
  go_upto_region 11 with (fail)
  have hB4 : Below w3.heap.size w3 (w3.alloc (.cells #[.int .i64 key] 3)) := below_alloc (Below.refl _ _) _
  have hO4 := ints_one w3 (Nat.le_refl _) HK64.out
  obtain ⟨g4, hg4⟩ : ∃ g, g = w3.heap.size := ⟨_, rfl⟩
  have HG4 := Aside0.mk hg4
  rw [← hg4] at hO4 ⊢
  generalize (w3.alloc (.cells #[.int .i64 key] 3)) = w4 at hB4 hO4 ⊢
  have HB4 := Aside0.mk hB4
  have HO4 := Aside0.mk hO4
  clear hB4 hO4 hlo hg4
  have HFm4 := Aside0.mk (HFm.out.below HB4.out)
  have hst := chain_head R root n key cs HCs.out
  have HSt := Aside0.mk (show [key] ++ cs.tail = cs from hst.symm)
  clear hst
  go_loopg [1, 12] n (fun kq v1 v12 wr => ∃ (k : Int) (zs rest : List Int), v1 = .int .i64 k ∧ Aside0 (I64 k) ∧ Aside0 (chain R root kq k = some rest) ∧ Aside0 (zs ++ rest.tail = cs) ∧ Aside0 (wr.ownsInts w3.heap.size 3 .i64 v12 zs) ∧ Aside0 (Below w3.heap.size w3 wr))
  case atStart => exact ⟨key, [key], cs, rfl, HK64, HCs, HSt, ⟨ints_lower HO4.out (Nat.le_of_eq HG4.out.symm)⟩, HB4⟩
  case round =>
    obtain ⟨k, zs, rest, rfl, hK64, hCh, hEq, hO, hB⟩ := hrel
    cases gk with
    | zero => exact absurd hCh.out (by simp [chain])
    | succ k1 =>
      by_cases hkr : k = root
      · have hrest : rest = [k] := by have h := hCh.out; unfold chain at h; rw [if_pos hkr] at h; exact (Option.some.inj h).symm
        have hzc : zs = cs := by have h := hEq.out; rw [hrest] at h; simpa using h
        have HZ := Aside0.mk hzc
        have HO2 := Aside0.mk (show wr.ownsInts w3.heap.size 3 .i64 _ cs by rw [← hzc]; exact hO.out)
        have HNe := Aside0.mk (show cs ≠ [] by intro e; have h := chain_head R root n key cs HCs.out; rw [e] at h; cases h)
        subst hkr
        clear hrest hzc
        go_wp2_with (go_at_call 41; refine (rev_calls HO2.out HNe.out (Nat.le_trans HCl.out (by decide))).mono ?_; rintro e w7 ⟨rfl, hO7, hg7⟩; have HO7 := Aside0.mk (And.intro hO7 hg7); clear hO7 hg7)
        obtain ⟨A8, c8, hv8, hlc, hC8⟩ := ints_C HO7.out.1
        subst hv8
        go_ret2
        refine ⟨A8, c8, rfl, hlc, hC8, ?_⟩
        exact HB.out.trans ((hB.out.grown HO7.out.2 hB.out.size (fun j hj => (HO2.out.1.lt j hj).1)).mono HB.out.size)
      · obtain ⟨p, r2, hp, hc2, hre⟩ : ∃ p r2, look R k = some p ∧ chain R root k1 p = some r2 ∧ rest = k :: r2 := by
          have h := hCh.out
          unfold chain at h
          rw [if_neg hkr] at h
          cases hp : look R k with
          | none => rw [hp] at h; cases h
          | some p =>
            rw [hp, Option.bind_some] at h
            cases hc : chain R root k1 p with
            | none => rw [hc] at h; cases h
            | some m => rw [hc] at h; cases h; exact ⟨p, m, rfl, hc, rfl⟩
        have hFr := HFm.out.below hB.out
        have hlk := hFr.look hK64.out hp
        have HP64 := Aside0.mk (hFr.wf hK64.out hp)
        have hne : (k == root) = false := beq_eq_false_iff_ne.2 hkr
        have HC2 := Aside0.mk hc2
        have HEq2 := Aside0.mk (show (zs ++ [p]) ++ r2.tail = cs by
          have h := hEq.out
          rw [hre, List.tail_cons, chain_head R root k1 p r2 hc2] at h
          rw [List.append_assoc]; exact h)
        have HLz := Aside0.mk (show zs.length ≤ 1000 by have h := congrArg List.length hEq.out; rw [List.length_append] at h; have := HCl.out; omega)
        clear hFr hp hc2 hre hkr
        go_wp2_with (at_builtin; refine wpList_append_one rfl (.tmp 41) (.tmp 43) rfl rfl rfl hO.out hB.out.size HP64.out HLz.out ?_; intro v7 w7 hown7 hgrow7; have HO7 := Aside0.mk (And.intro hown7 hgrow7); clear hown7 hgrow7)
        go_roundg k1
        case measure => omega
        case rel => exact ⟨p, zs ++ [p], r2, rfl, HP64, HC2, HEq2, ⟨HO7.out.1⟩, ⟨hB.out.grown HO7.out.2 hB.out.size (fun j hj => (hO.out.1.lt j hj).1)⟩⟩

end Go.Proofs.Ytfdceninhieheaa.Tru
end

section
/- The plain law behind trust: who is come to, on how short a way. -/
namespace Go.Proofs.Ytfdceninhieheaa.Tru
open Go Go.RowKit Go.Maps Go.Proofs.Ytfdceninhieheaa.Reg Go.Proofs.Ytfdceninhieheaa.QTrust Go.Proofs.YtfdceninhieheaaW.PrintWords Go.Proofs.YtfdceninhieheaaW.PrintLast Go.Proofs.YtfdceninhieheaaW.PrintMore
set_option linter.unusedVariables false
set_option linter.unusedSimpArgs false

def Has (F : Found) (k : Int) : Prop := (look F k).isSome = true
theorem has_snoc {F : Found} {t k : Int} (h : ¬ Has F t) (x : Int) : Has (F ++ [(t, k)]) x ↔ x = t ∨ Has F x := by
  unfold Has at *
  rw [look_snoc (by cases hx : look F t; rfl; rw [hx] at h; exact absurd rfl h)]
  by_cases hx : x = t
  · rw [if_pos hx]; simp [hx]
  · rw [if_neg hx]; simp [hx]

/-- What is so in the midst of a level: d numbers the levels; F0 are the keys at its beginning, all of levels up to i; C are the keys of the level whose certs are done. -/
structure Mid (G : Int → List Int) (root : Int) (i : Nat) (d : Int → Nat) (L C : List Int) (s : Found × List Int) : Prop where
  root_in : look s.1 root = some root
  d0 : d root = 0
  par : ∀ t p, look s.1 t = some p → t ≠ root → Has s.1 p ∧ t ∈ G p ∧ d t = d p + 1
  up : ∀ k, Has s.1 k → d k ≤ i + 1
  next : ∀ k, k ∈ s.2 ↔ Has s.1 k ∧ d k = i + 1
  cur : ∀ k, k ∈ L ↔ Has s.1 k ∧ d k = i
  low : ∀ k, Has s.1 k → d k < i → ∀ t ∈ G k, Has s.1 t ∧ d t ≤ d k + 1
  done : ∀ k ∈ C, ∀ t ∈ G k, Has s.1 t ∧ d t ≤ d k + 1

theorem Mid.visit {G : Int → List Int} {root : Int} {i : Nat} {d : Int → Nat} {L C : List Int} {s : Found × List Int} (h : Mid G root i d L C s) {k t : Int} (hk : k ∈ L) (ht : t ∈ G k) :
    ∃ d', Mid G root i d' L C (visit k s t) ∧ Has (visit k s t).1 t ∧ d' t ≤ i + 1 ∧ (∀ x, Has s.1 x → Has (visit k s t).1 x ∧ d' x = d x) := by
  unfold Tru.visit
  by_cases hs : (look s.1 t).isSome = true
  · rw [if_pos hs]
    exact ⟨d, h, hs, h.up t hs, fun x hx => ⟨hx, rfl⟩⟩
  · rw [if_neg hs]
    have hn : ¬ Has s.1 t := hs
    have hnone : look s.1 t = none := by cases hx : look s.1 t; rfl; rw [hx] at hs; exact absurd rfl hs
    have hk2 := (h.cur k).1 hk
    have hrt : root ≠ t := fun e => hn (by rw [← e]; unfold Has; rw [h.root_in]; rfl)
    obtain ⟨d', hd'⟩ : ∃ d' : Int → Nat, ∀ x, d' x = if x = t then i + 1 else d x := ⟨_, fun _ => rfl⟩
    have hold : ∀ x, Has s.1 x → d' x = d x := fun x hx => by rw [hd']; exact if_neg (fun e => hn (by rw [← e]; exact hx))
    have hdt : d' t = i + 1 := by rw [hd', if_pos rfl]
    refine ⟨d', ⟨?_, ?_, fun x p hp hx => ?_, fun x hx => ?_, fun x => ?_, fun x => ?_, fun x hx hlt y hy => ?_, fun x hx y hy => ?_⟩, (has_snoc hn t).2 (.inl rfl), by omega, fun x hx => ⟨(has_snoc hn x).2 (.inr hx), hold x hx⟩⟩
    · show look (s.1 ++ [(t, k)]) root = some root
      rw [look_snoc hnone, if_neg hrt]; exact h.root_in
    · rw [hold root (by unfold Has; rw [h.root_in]; rfl)]; exact h.d0
    · have hp' : look (s.1 ++ [(t, k)]) x = some p := hp
      rw [look_snoc hnone] at hp'
      by_cases hxt : x = t
      · subst hxt
        rw [if_pos rfl] at hp'; cases hp'
        exact ⟨(has_snoc hn _).2 (.inr hk2.1), ht, by rw [hdt, hold k hk2.1, hk2.2]⟩
      · rw [if_neg hxt] at hp'
        obtain ⟨h1, h2, h3⟩ := h.par x p hp' hx
        exact ⟨(has_snoc hn _).2 (.inr h1), h2, by rw [hold x (by unfold Has; rw [hp']; rfl), hold p h1, h3]⟩
    · rcases (has_snoc hn x).1 hx with rfl | hx
      · omega
      · rw [hold x hx]; exact h.up x hx
    · rw [show x ∈ s.2 ++ [t] ↔ x ∈ s.2 ∨ x = t by simp, h.next x]
      constructor
      · rintro (⟨h1, h2⟩ | rfl)
        · exact ⟨(has_snoc hn x).2 (.inr h1), by rw [hold x h1]; exact h2⟩
        · exact ⟨(has_snoc hn x).2 (.inl rfl), hdt⟩
      · rintro ⟨h1, h2⟩
        rcases (has_snoc hn x).1 h1 with rfl | h1
        · exact .inr rfl
        · exact .inl ⟨h1, by rw [← hold x h1]; exact h2⟩
    · rw [h.cur x]
      constructor
      · rintro ⟨h1, h2⟩
        exact ⟨(has_snoc hn x).2 (.inr h1), by rw [hold x h1]; exact h2⟩
      · rintro ⟨h1, h2⟩
        rcases (has_snoc hn x).1 h1 with rfl | h1
        · omega
        · exact ⟨h1, by rw [← hold x h1]; exact h2⟩
    · rcases (has_snoc hn x).1 hx with rfl | hx
      · omega
      · rw [hold x hx] at hlt
        obtain ⟨h1, h2⟩ := h.low x hx hlt y hy
        exact ⟨(has_snoc hn y).2 (.inr h1), by rw [hold x hx, hold y h1]; exact h2⟩
    · obtain ⟨h1, h2⟩ := h.done x hx y hy
      refine ⟨(has_snoc hn y).2 (.inr h1), ?_⟩
      rw [hold y h1]
      by_cases hxt : x = t
      · subst hxt; rw [hdt]; have := h.up y h1; omega
      · rw [hd', if_neg hxt]; exact h2

theorem Mid.visits {G : Int → List Int} {root : Int} {i : Nat} {L C : List Int} {k : Int} (hk : k ∈ L) : ∀ (l : List Int) (d : Int → Nat) (s : Found × List Int), (∀ t ∈ l, t ∈ G k) → Mid G root i d L C s →
    ∃ d', Mid G root i d' L C (l.foldl (Tru.visit k) s) ∧ (∀ t ∈ l, Has (l.foldl (Tru.visit k) s).1 t ∧ d' t ≤ i + 1) ∧ (∀ x, Has s.1 x → Has (l.foldl (Tru.visit k) s).1 x ∧ d' x = d x)
  | [], d, s, _, h => ⟨d, h, fun t ht => (by cases ht), fun x hx => ⟨hx, rfl⟩⟩
  | t :: l, d, s, hl, h => by
    obtain ⟨d1, h1, ha, hb, hc⟩ := h.visit hk (hl t (List.mem_cons_self ..))
    obtain ⟨d2, h2, h3, h4⟩ := Mid.visits hk l d1 _ (fun x hx => hl x (List.mem_cons_of_mem _ hx)) h1
    refine ⟨d2, h2, fun x hx => ?_, fun x hx => ?_⟩
    · rcases List.mem_cons.1 hx with rfl | hx
      · obtain ⟨h5, h6⟩ := h4 _ ha
        exact ⟨h5, by rw [h6]; exact hb⟩
      · exact h3 x hx
    · obtain ⟨h5, h6⟩ := hc x hx
      obtain ⟨h7, h8⟩ := h4 x h5
      exact ⟨h7, by rw [h8, h6]⟩

theorem Mid.scans {G : Int → List Int} {root : Int} {i : Nat} {L : List Int} : ∀ (l C : List Int) (d : Int → Nat) (s : Found × List Int), (∀ k ∈ l, k ∈ L) → Mid G root i d L C s →
    ∃ d', Mid G root i d' L (l.reverse ++ C) (l.foldl (scan G) s)
  | [], C, d, s, _, h => ⟨d, h⟩
  | k :: l, C, d, s, hl, h => by
    have hk := hl k (List.mem_cons_self ..)
    obtain ⟨d1, h1, ha, hb⟩ := Mid.visits hk (G k) d s (fun _ h => h) h
    have hmid : Mid G root i d1 L (k :: C) (scan G s k) := ⟨h1.root_in, h1.d0, h1.par, h1.up, h1.next, h1.cur, h1.low, fun x hx t ht => by
      rcases List.mem_cons.1 hx with rfl | hx
      · obtain ⟨h2, h3⟩ := ha t ht
        exact ⟨h2, by have := ((h1.cur x).1 hk).2; omega⟩
      · exact h1.done x hx t ht⟩
    obtain ⟨d2, h2⟩ := Mid.scans l (k :: C) d1 _ (fun x hx => hl x (List.mem_cons_of_mem _ hx)) hmid
    refine ⟨d2, ?_⟩
    rw [List.reverse_cons, List.append_assoc]
    exact h2

/-- What is so of all that is found. -/
structure Bfs (G : Int → List Int) (root : Int) (R : Found) (d : Int → Nat) : Prop where
  root_in : look R root = some root
  d0 : d root = 0
  par : ∀ t p, look R t = some p → t ≠ root → Has R p ∧ t ∈ G p ∧ d t = d p + 1
  edge : ∀ k, Has R k → ∀ t ∈ G k, Has R t ∧ d t ≤ d k + 1

/-- .. between two levels. -/
structure Lev (G : Int → List Int) (root : Int) (i : Nat) (d : Int → Nat) (F : Found) (L : List Int) : Prop where
  root_in : look F root = some root
  d0 : d root = 0
  par : ∀ t p, look F t = some p → t ≠ root → Has F p ∧ t ∈ G p ∧ d t = d p + 1
  up : ∀ k, Has F k → d k ≤ i
  cur : ∀ k, k ∈ L ↔ Has F k ∧ d k = i
  low : ∀ k, Has F k → d k < i → ∀ t ∈ G k, Has F t ∧ d t ≤ d k + 1
theorem Lev.first (G : Int → List Int) (root : Int) : Lev G root 0 (fun _ => 0) [(root, root)] [root] :=
  ⟨by simp [look], rfl, fun t p hp ht => by
    unfold look at hp
    by_cases h : root = t
    · exact absurd h.symm ht
    · simp [h] at hp, fun _ _ => Nat.le_refl _, fun k => by
      unfold Has
      rw [look_some_iff]
      simp, fun k _ h => absurd h (Nat.not_lt_zero _)⟩
theorem Lev.step {G : Int → List Int} {root : Int} {i : Nat} {d : Int → Nat} {F : Found} {L : List Int} (h : Lev G root i d F L) : ∃ d', Lev G root (i + 1) d' (level G F L).1 (level G F L).2 := by
  have h0 : Mid G root i d L [] (F, []) := ⟨h.root_in, h.d0, h.par, fun k hk => Nat.le_succ_of_le (h.up k hk), fun k => ⟨fun hx => (by cases hx), fun hx => by have := h.up k hx.1; omega⟩, h.cur, h.low, fun k hk => by cases hk⟩
  obtain ⟨d', h1⟩ := Mid.scans L [] d (F, []) (fun _ h => h) h0
  refine ⟨d', h1.root_in, h1.d0, h1.par, h1.up, h1.next, fun k hk hlt => ?_⟩
  by_cases hi : d' k = i
  · exact h1.done k (by simpa using (h1.cur k).2 ⟨hk, hi⟩)
  · exact h1.low k hk (by omega)
theorem Lev.end_ {G : Int → List Int} {root : Int} {i : Nat} {d : Int → Nat} {F : Found} (h : Lev G root i d F []) : Bfs G root F d :=
  ⟨h.root_in, h.d0, h.par, fun k hk => h.low k hk (by
    have h1 := h.up k hk
    have h2 : ¬ (Has F k ∧ d k = i) := fun hx => by have := (h.cur k).2 hx; cases this
    have : d k ≠ i := fun e => h2 ⟨hk, e⟩
    omega)⟩
theorem bfs_good {G : Int → List Int} {root : Int} : ∀ (n i : Nat) (d : Int → Nat) (F : Found) (L : List Int) (R : Found), Lev G root i d F L → bfs G n F L = some R → ∃ d, Bfs G root R d
  | 0, _, _, _, _, _, _, h => by cases h
  | n + 1, i, d, F, L, R, hL, h => by
    unfold bfs at h
    split at h
    · rename_i h0
      cases h
      have := List.length_eq_zero_iff.1 h0
      subst this
      exact ⟨d, hL.end_⟩
    · obtain ⟨d', hL'⟩ := hL.step
      exact bfs_good n (i + 1) d' _ _ R hL' h

theorem nodup_le : ∀ (l m : List Int), l.Nodup → (∀ x ∈ l, x ∈ m) → l.length ≤ m.length
  | [], _, _, _ => Nat.zero_le _
  | a :: l, m, hn, hs => by
    rw [List.nodup_cons] at hn
    have ha := hs a (List.mem_cons_self ..)
    have h1 := nodup_le l (m.erase a) hn.2 (fun x hx => (List.mem_erase_of_ne (fun e => hn.1 (by rw [← e]; exact hx))).2 (hs x (List.mem_cons_of_mem _ hx)))
    rw [List.length_erase_of_mem ha] at h1
    have := List.length_pos_of_mem ha
    rw [List.length_cons]; omega
/-- All keys of a list U: so many are found at most, and so many levels suffice. -/
theorem length_of_apart {F : Found} {U : List Int} (ha : Apart F) (hU : ∀ k, Has F k → k ∈ U) : F.length ≤ U.length := by
  have h1 : (F.map (·.1)).length ≤ U.length := nodup_le _ U ha (fun k hk => hU k (look_some_iff.2 hk))
  simpa using h1
theorem visit_in {G : Int → List Int} {U : List Int} (hG : ∀ k, ∀ t ∈ G k, t ∈ U) {k t : Int} (ht : t ∈ U) {s : Found × List Int} (h : ∀ x, Has s.1 x → x ∈ U) : ∀ x, Has (visit k s t).1 x → x ∈ U := by
  intro x hx
  unfold visit at hx
  split at hx
  · exact h x hx
  · rename_i hs
    rcases (has_snoc hs x).1 hx with rfl | hx
    · exact ht
    · exact h x hx
theorem visits_in {G : Int → List Int} {U : List Int} (hG : ∀ k, ∀ t ∈ G k, t ∈ U) {k : Int} : ∀ (l : List Int) (s : Found × List Int), (∀ t ∈ l, t ∈ U) → (∀ x, Has s.1 x → x ∈ U) → ∀ x, Has (l.foldl (visit k) s).1 x → x ∈ U
  | [], _, _, h => h
  | t :: l, s, hl, h => visits_in hG l _ (fun x hx => hl x (List.mem_cons_of_mem _ hx)) (visit_in hG (hl t (List.mem_cons_self ..)) h)
theorem scans_in {G : Int → List Int} {U : List Int} (hG : ∀ k, ∀ t ∈ G k, t ∈ U) : ∀ (l : List Int) (s : Found × List Int), (∀ x, Has s.1 x → x ∈ U) → ∀ x, Has (l.foldl (scan G) s).1 x → x ∈ U
  | [], _, h => h
  | k :: l, s, h => scans_in hG l _ (visits_in hG (G k) s (hG k) h)
theorem bfs_some {G : Int → List Int} {U : List Int} (hG : ∀ k, ∀ t ∈ G k, t ∈ U) : ∀ (n : Nat) (F : Found) (L : List Int), Apart F → (∀ x, Has F x → x ∈ U) → U.length + 1 ≤ F.length + n → L.length ≠ 0 ∨ True → ∃ R, bfs G (n + 1) F L = some R ∧ R.length ≤ U.length
  | n, F, L, ha, hU, hn, _ => by
    unfold bfs
    by_cases h0 : L.length = 0
    · rw [if_pos h0]; exact ⟨F, rfl, length_of_apart ha hU⟩
    · rw [if_neg h0]
      have ha2 := scans_apart G L (F, []) ha
      have hU2 := scans_in hG L (F, []) hU
      have hl := scans_len G L (F, []) F.length (by simp)
      have hle := length_of_apart ha hU
      cases n with
      | zero => omega
      | succ n =>
        by_cases hN : (level G F L).2.length = 0
        · refine ⟨(level G F L).1, ?_, length_of_apart ha2 hU2⟩
          unfold bfs; rw [if_pos hN]
        · exact bfs_some hG n _ _ ha2 hU2 (by
            have h1 : (level G F L).2.length + F.length = (level G F L).1.length := hl
            omega) (.inr trivial)

end Go.Proofs.Ytfdceninhieheaa.Tru
end

section
/- Certs of raw numbers: what they come to. -/
namespace Go.Proofs.Ytfdceninhieheaa.Tru
open Go Go.RowKit Go.Maps Go.Proofs.Ytfdceninhieheaa.Reg Go.Proofs.Ytfdceninhieheaa.QTrust Go.Proofs.Ytfdceninhieheaa.TrS Go.Proofs.Ytfdceninhieheaa.SignMath Go.Proofs.YtfdceninhieheaaW.PrintWords Go.Proofs.YtfdceninhieheaaW.PrintLast Go.Proofs.YtfdceninhieheaaW.PrintMore
set_option linter.unusedVariables false
set_option linter.unusedSimpArgs false

/-- The key of a secret. -/
def kE (a : Nat) : Int := ((SignMath.e a : Nat) : Int)
theorem kE_range (a : Nat) : 0 ≤ kE a ∧ kE a < 7823 := ⟨by unfold kE; omega, by unfold kE; have := e_lt a; omega⟩
theorem i64_of {x : Int} (h0 : 0 ≤ x) (h1 : x < 1000000) : I64 x := by
  unfold I64
  have e1 : IntKind.i64.min = -9223372036854775808 := by decide
  have e2 : IntKind.i64.max = 9223372036854775807 := by decide
  simp only [Lit.wf, Bool.and_eq_true, decide_eq_true_eq]
  omega
theorem picked_any (x n : Int) (w : World) (h0 : 0 < n) (h1 : n ≤ 1000000) : Calls Try.prog 15 #[.int .i64 x, .int .i64 n] w fun e w' => e = .returned (.int .i64 (x % n)) ∧ Drawn0 w w' :=
  bagnallkeep_Picked.calls x n _ w (TrS.picked x n h0 h1)
theorem keyOf_f (s : Nat) (h0 : 0 < s) (h1 : s < 3911) : bagnallkeep_keyOf.f 700 (s : Int) = some (kE s) := by
  unfold bagnallkeep_keyOf.f
  rw [Public_f 700 s (by decide) h0 h1, Option.bind_some, if_pos rfl]; rfl
theorem key6 (z : Int) (w : World) (h0 : 1 ≤ z) (h1 : z ≤ 10) : Calls Try.prog 26 #[.int .i64 z] w fun e w' => e = .returned (.int .i64 (kE z.toNat)) ∧ Drawn0 w w' := by
  have h := bagnallkeep_keyOf.calls 700 (z.toNat : Int) _ w (keyOf_f z.toNat (by omega) (by omega))
  rw [Int.toNat_of_nonneg (by omega)] at h
  exact h
theorem secret_any (x : Int) (w : World) : Calls Try.prog 18 #[.int .i64 x] w fun e w' => ∃ s : Nat, 0 < s ∧ s < 3911 ∧ e = .returned (.int .i64 (s : Int)) ∧ Drawn0 w w' := by
  obtain ⟨s, h0, h1, _, h3⟩ := secretOf x
  exact (bagnallkeep_SecretOf.calls x s w h3).mono fun e w' ⟨he, hd⟩ => ⟨s, h0, h1, he, hd⟩

/-- The bytes that are signed. -/
def textOf (t : Int) : List Int := [(t / 256) % 256, t % 256]
theorem text_bytes (t : Int) : Bytes (textOf t) := by
  intro x hx
  have h1 := Int.emod_nonneg (t / 256) (show (256 : Int) ≠ 0 by decide)
  have h2 := Int.emod_lt_of_pos (t / 256) (show (0 : Int) < 256 by decide)
  have h3 := Int.emod_nonneg t (show (256 : Int) ≠ 0 by decide)
  have h4 := Int.emod_lt_of_pos t (show (0 : Int) < 256 by decide)
  rcases List.mem_cons.1 hx with rfl | hx
  · omega
  · rw [List.mem_singleton] at hx; omega

/-- A certificate among the keys of the secrets 1 to 6. -/
def VC (c : S54) : Prop := ∃ a b n S : Nat, 1 ≤ a ∧ a ≤ 6 ∧ 1 ≤ b ∧ b ≤ 6 ∧ 0 < n ∧ n < 3911 ∧ S < 3911 ∧ c = ⟨kE a, kE b, ⟨kE n, (S : Int)⟩⟩
/-- Is it good? -/
def goodB (c : S54) : Bool := trust_Good.f 700 c.f0 c.f1 c.f2.f0 c.f2.f1 == some 0
theorem VC.told {c : S54} (h : VC c) : Told goodB c := by
  obtain ⟨a, b, n, S, ha0, ha1, hb0, hb1, hn0, hn1, hS, rfl⟩ := h
  have hf : ∃ r, trust_Good.f 700 (kE a) (kE b) (kE n) (S : Int) = some r := by
    refine ⟨if S = sg n a (hN n (textOf (kE b))) then 0 else 9, ?_⟩
    have h1 := Key_f 700 b (by decide) (by omega) (by omega)
    have h2 := Check_f 700 a n S (textOf (kE b)) (text_bytes _) (show 2 ≤ 600 by decide) (by decide) (by omega) (by omega) hn0 hn1 hS
    unfold trust_Good.f
    show (sign_Key.f 700 (kE b)).bind _ = _
    rw [show sign_Key.f 700 (kE b) = some true from h1, Option.bind_some, if_pos rfl]
    show (sign_Check.f 700 (kE a) (textOf (kE b)) (kE n) (S : Int)).bind _ = _
    rw [show sign_Check.f 700 (kE a) (textOf (kE b)) (kE n) (S : Int) = _ from h2, Option.bind_some]
  obtain ⟨r, hr⟩ := hf
  refine ⟨⟨700, r, hr, ?_⟩, i64_of (kE_range a).1 (by have := (kE_range a).2; dsimp only; omega), i64_of (kE_range b).1 (by have := (kE_range b).2; dsimp only; omega)⟩
  unfold goodB
  dsimp only
  rw [hr]
  rfl

theorem lit_two (W : World) (g : Nat) (hg : g = W.heap.size) (x y : Int) : Kd.C (Kd.int .u8) (W.alloc (.cells #[.int .u8 x, .int .u8 y] 5)) (some ⟨g, 0, none⟩) [x, y].length [x, y] := by
  subst hg
  refine Kd.C_of_reads (d := (0 : Int)) (h1 := fun _ => rfl) ⟨rfl, by simp, fun _ => ⟨_, rfl, fun j hj => ?_⟩⟩
  have hb := heap_alloc_new W (.cells #[.int .u8 x, .int .u8 y] 5)
  rw [add_plain]
  match j, hj with
  | 0, _ => exact (blk_cell hb 0).trans rfl
  | 1, _ => exact (blk_cell hb 1).trans rfl
theorem make_lit (a s : Nat) (t : Int) (W : World) (g : Nat) (hg : g = W.heap.size) (ha0 : 1 ≤ a) (ha1 : a ≤ 6) (hs0 : 0 < s) (hs1 : s < 3911) :
    Calls Try.prog 21 #[.int .i64 (a : Int), .int .i64 (s : Int), .slice (some ⟨g, 0, none⟩) 2 2] (W.alloc (.cells #[.int .u8 (t / 256 % 256), .int .u8 (t % 256)] 5)) fun e w' => ∃ S : Nat, S < 3911 ∧ e = .returned (.tuple #[.agg #[.int .i64 (kE s), .int .i64 (S : Int)], .int .i64 0]) ∧ Below W.heap.size W w' := by
  have h := Make_f 700 a s (textOf t) (text_bytes t) (show 2 ≤ 600 by decide) (by decide) (by omega) (by omega) hs0 hs1
  refine (sign_Make.calls 700 a s (some ⟨g, 0, none⟩) 2 (textOf t) _ _ _ _ (lit_two W g hg _ _) (Nat.le_refl _) h).mono ?_
  rintro e w' ⟨rfl, hb⟩
  exact ⟨_, sg_lt _ _ _, rfl, ((Below.refl _ W).alloc (Nat.le_refl _) _).trans (hb.mono (by simp))⟩

theorem keyN (a : Nat) (w : World) (h0 : 1 ≤ a) (h1 : a ≤ 6) : Calls Try.prog 26 #[.int .i64 (a : Int)] w fun e w' => e = .returned (.int .i64 (kE a)) ∧ Drawn0 w w' :=
  bagnallkeep_keyOf.calls 700 (a : Int) _ w (keyOf_f a (by omega) (by omega))
theorem below_set {B : Nat} {w W : World} (h : Below B w W) (p : Addr) (hp : B ≤ p.block) (u : Value) : Below B w (W.setCell p u) :=
  h.trans ⟨rfl, rfl, rfl, by simp, fun k hk => Below.heap_setCell W p u k (by omega)⟩
/-- A literal row of one certificate, as it reads. -/
theorem one_reads {w : World} {g : Nat} {c : S54} (h : w.heap[g]? = some (.cells #[.int .i64 c.f0, .int .i64 c.f1, .int .i64 c.f2.f0, .int .i64 c.f2.f1] 54 (0, 0))) : Kd.C k54 w (some ⟨g, 0, none⟩) 1 [c] := by
  refine ⟨rfl, by decide, fun _ => ⟨_, rfl, fun j p hj => ?_⟩⟩
  cases j with
  | zero =>
    cases hj
    refine ⟨_, rfl, k54_mk w c, fun i u hu => ?_⟩
    rw [Nat.zero_mul, Nat.zero_add, add_plain]
    exact (blk_cell h i).trans (by simpa using hu)
  | succ j => cases hj
/-- The facts of the region that makes a certificate. -/
def FC (B : Nat) (v5 : Value) (a ka t r s : Int) : Nat → Value → World → Prop
  | 0 => FIs v5
  | 1 => FIs (.int .i64 a)
  | 2 => FIs (.int .i64 ka)
  | 3 => FIs (.int .i64 t)
  | 4 => FIs (.agg #[.int .i64 r, .int .i64 s])
  | 5 => FIs (.agg #[.int .i64 ka, .int .i64 t, .int .i64 r, .int .i64 s])
  | _ => FLit B #[.int .i64 ka, .int .i64 t, .int .i64 r, .int .i64 s] 54 1
theorem FC.last {B : Nat} {v5 : Value} {a ka t r s : Int} (k : Nat) (v : Value) (w w' : World) (h : FC B v5 a ka t r s k v w) (hb : Below w.heap.size w w') : FC B v5 a ka t r s k v w' := by
  unfold FC at *
  split at h <;> first | exact FIs.last h hb | exact FLit.last h hb

set_option maxRecDepth 100000 in
set_option maxHeartbeats 16000000 in
theorem certs_calls (A0 : Option Addr) (c0 : Nat) (l : List Int) (n : Nat) (w : World) (hr : Kd.C (Kd.int .i64) w A0 l.length l) (hc : l.length ≤ c0) (hn : n ≤ 20) :
    Calls Try.prog 25 #[.slice A0 l.length c0, .int .i64 (n : Int)] w fun e w' => ∃ (cs : List S54) (A : Option Addr) (c : Nat), e = .returned (.slice A cs.length c) ∧ cs.length ≤ c ∧ cs.length ≤ n ∧ (∀ c ∈ cs, VC c) ∧ Kd.C k54 w' A cs.length cs ∧ Below w.heap.size w w' := by
  have hu34 := Try.underlying34
  have hu49 := Try.underlying49
  have hu54 := Try.underlying54
  have HR := Aside0.mk hr
  have HN := Aside0.mk hn
  have HW6 := Aside0.mk (show ∀ y : Int, IntKind.i64.wrap (1 + y % 6) = 1 + y % 6 from fun y => by rw [IntKind.wrap_i64]; omega)
  clear hr hc hn
  go_enter Try.func25, Try.ntmps25
  go_wp2
  go_loopg [5, 6] n (fun kq v5 v6 wr => ∃ (i : Nat) (cs : List S54), v6 = .int .i64 i ∧ Aside0 (kq + i = n) ∧ Aside0 (cs.length ≤ i) ∧ Aside0 (∀ c ∈ cs, VC c) ∧ Aside0 (Kd.R k54 54 wr w.heap.size (fun _ => True) v5 cs) ∧ Aside0 (Below w.heap.size w wr))
  case atStart => exact ⟨0, [], rfl, ⟨by omega⟩, ⟨Nat.le_refl _⟩, ⟨fun c hc => by cases hc⟩, ⟨Kd.R_nil _ _ _ _ _⟩, ⟨Below.refl _ _⟩⟩
  case round =>
    obtain ⟨i, cs, rfl, hK, hLen, hV, hO, hB⟩ := hrel
    obtain ⟨A5, c5, rfl, _, _⟩ := Kd.R_reads hO.out
    by_cases hlt : i < l.length ∧ i < n
    · have hi1 : (i : Int) < (l.length : Int) := by omega
      have hi2 : (i : Int) < (n : Int) := by omega
      have hi1n := hlt.1
      have hi2n := hlt.2
      have hi0 : (0 : Int) ≤ (i : Int) := by omega
      have hwi : IntKind.i64.wrap ((i : Int) + 1) = (i : Int) + 1 := by have h1 := HN.out; rw [IntKind.wrap_i64]; omega
      have hW6 := HW6.out
      obtain ⟨ad, rfl, hx0⟩ := ints_at (Kd.C_below HR.out hB.out) i hlt.1
      generalize l[i] = x at hx0
      obtain ⟨W0, hW0⟩ : ∃ W0, W0 = wr := ⟨_, rfl⟩
      go_upto_region 7 with (first
        | (go_at_call 15; refine (picked_any _ _ _ (by decide) (by decide)).mono ?_; rintro e w1 ⟨rfl, ⟨m1, rfl⟩⟩)
        | (go_at_call 26; refine (key6 _ _ (by omega) (by omega)).mono ?_; rintro e w1 ⟨rfl, ⟨m1, rfl⟩⟩))
      obtain ⟨a, ha⟩ : ∃ a : Nat, (a : Int) = 1 + x % 6 := ⟨(1 + x % 6).toNat, by omega⟩
      obtain ⟨b, hb⟩ : ∃ b : Nat, b = (1 + wrap64 (x.tdiv 6) % 6).toNat := ⟨_, rfl⟩
      have HAB := Aside0.mk (show 1 ≤ a ∧ a ≤ 6 ∧ 1 ≤ b ∧ b ≤ 6 by omega)
      rw [← ha, ← hb]
      obtain ⟨t, ht⟩ : ∃ t, t = kE b := ⟨_, rfl⟩
      have HT := Aside0.mk ht
      rw [← ht]
      subst hW0
      generalize hq : W0.drewN _ = w2
      have hx2 : w2.cell? (ad.add i) = some (.int .i64 x) := by rw [← hq]; exact hx0
      have HX0 := Aside0.mk hx0
      have HB2 := Aside0.mk (show Below W0.heap.size W0 w2 by rw [← hq]; exact pw_below_drewN (Below.refl _ _) _)
      clear hx0 hq ha hb ht
      go_upto_region 8 with (first
        | (go_at_call 18; refine (secret_any _ _).mono ?_; rintro e w3 ⟨s, hs0, hs1, rfl, ⟨m3, rfl⟩⟩; have HS := Aside0.mk (And.intro hs0 hs1); clear hs0 hs1)
        | (go_at_call 21; refine (make_lit a s t _ _ rfl HAB.out.1 HAB.out.2.1 HS.out.1 HS.out.2).mono ?_; rintro e w4 ⟨S, hS, rfl, hb⟩; have HS4 := Aside0.mk hS; have HB4 := Aside0.mk (HB2.out.trans ((pw_below_drewN (Below.refl _ _) _ |>.trans (hb.mono (Nat.le_refl _))).mono HB2.out.size)); clear hS hb))
      have hB5 : Below w4.heap.size w4 (w4.alloc (.cells #[.int .i64 (kE s), .int .i64 (S : Int)] 34)) := below_alloc (Below.refl _ _) _
      have hblk := heap_alloc_new w4 (.cells #[.int .i64 (kE s), .int .i64 (S : Int)] 34)
      obtain ⟨gp, hgp⟩ : ∃ gp, gp = w4.heap.size := ⟨_, rfl⟩
      have HGp := Aside0.mk (show W0.heap.size ≤ gp by rw [hgp]; exact HB4.out.size)
      rw [← hgp] at hblk ⊢
      generalize (w4.alloc (.cells #[.int .i64 (kE s), .int .i64 (S : Int)] 34)) = w5 at hB5 hblk ⊢
      have HB5 := Aside0.mk (HB4.out.trans (hB5.mono HB4.out.size))
      have HBlk := Aside0.mk hblk
      have hx5 : w5.cell? (ad.add i) = some (.int .i64 x) := pw_cell_below HB5.out HX0.out
      have hc1 : w5.cell? ⟨gp, 1, none⟩ = some (.int .i64 (S : Int)) := (blk_cell hblk 1).trans rfl
      have hf1 := blk_frozen hblk 1
      clear hB5 hblk hgp hx2 HB2 HB4
      by_cases hy : wrap64 (x.tdiv 7) % 5 = 0
      · have hyb : (wrap64 (x.tdiv 7) % 5 == 0) = true := beq_iff_eq.2 hy
        clear hy
        go_upto_region 12 with (go_at_call 15; refine (picked_any _ _ _ (by decide) (by decide)).mono ?_; rintro e w6 ⟨rfl, ⟨m6, rfl⟩⟩)
        have hz : (wrap64 ((S : Int) + 1)).tmod 3911 = (((S + 1) % 3911 : Nat) : Int) := by
          rw [w64 (by have := HS4.out; omega) (by have := HS4.out; omega)]
          exact TrS.tmod_cast (S + 1) 3911
        rw [hz]
        have HS2 := Aside0.mk (show (S + 1) % 3911 < 3911 from Nat.mod_lt _ (by decide))
        generalize (S + 1) % 3911 = S2 at HS2 ⊢
        have hblk6 : ((w5.drewN m6).setCell ⟨gp, 1, none⟩ (.int .i64 (S2 : Int))).heap[gp]? = some (.cells #[.int .i64 (kE s), .int .i64 (S2 : Int)] 34 (0, 0)) := by
          simpa using blk_set (show (w5.drewN m6).heap[gp]? = _ from HBlk.out) 1 (.int .i64 (S2 : Int))
        have hB6 : Below W0.heap.size W0 ((w5.drewN m6).setCell ⟨gp, 1, none⟩ (.int .i64 (S2 : Int))) := below_set (pw_below_drewN HB5.out m6) _ HGp.out _
        generalize ((w5.drewN m6).setCell ⟨gp, 1, none⟩ (.int .i64 (S2 : Int))) = w6 at hblk6 hB6 ⊢
        have HBlk6 := Aside0.mk hblk6
        have HB6 := Aside0.mk hB6
        clear hblk6 hB6 hz hyb hx5 hc1 hf1
        refine region_facts (by kernel_rfl) 7 (FC w6.heap.size (.slice A5 cs.length c5) (a : Int) (kE a) t (kE s) (S2 : Int)) (by kernel_rfl) FC.last ?_ ?_
        · refine ⟨?_, ?_, ?_, ?_, ?_, ?_, ?_, trivial⟩
          · intro ev w7 hI hG hcv hfv hgv hbase hdep
            refine ⟨fun _ => ?_, fun h => absurd trivial h⟩
            have e0 : ev (.tmp 5) = .slice A5 cs.length c5 := hbase 5 (by decide)
            unfold Gives
            go_simp
            first | exact Below.refl _ _ | exact ⟨hI, Below.refl _ _⟩ | exact ⟨rfl, hI, Below.refl _ _⟩ | exact ⟨rfl, Below.refl _ _⟩
          · intro ev w7 hI hG hcv hfv hgv hbase hdep
            refine ⟨fun _ => ?_, fun h => absurd trivial h⟩
            have e0 : ev (.tmp 7) = .int .i64 (a : Int) := hbase 7 (by decide)
            unfold Gives
            go_simp
            first | exact Below.refl _ _ | exact ⟨hI, Below.refl _ _⟩ | exact ⟨rfl, hI, Below.refl _ _⟩ | exact ⟨rfl, Below.refl _ _⟩
          · intro ev w7 hI hG hcv hfv hgv hbase hdep
            refine ⟨fun _ => ?_, fun h => absurd trivial h⟩
            have e1 : ev (.tmp 68) = .int .i64 (a : Int) := hdep 1 (by decide)
            unfold Gives
            go_simp
            refine (keyN a _ HAB.out.1 HAB.out.2.1).mono ?_
            rintro e w8 ⟨rfl, ⟨m8, rfl⟩⟩
            exact ⟨_, rfl, rfl, pw_below_drewN hI _, pw_below_drewN (Below.refl _ _) _⟩
          · intro ev w7 hI hG hcv hfv hgv hbase hdep
            refine ⟨fun _ => ?_, fun h => absurd trivial h⟩
            have e0 : ev (.tmp 8) = .int .i64 t := hbase 8 (by decide)
            unfold Gives
            go_simp
            first | exact Below.refl _ _ | exact ⟨hI, Below.refl _ _⟩ | exact ⟨rfl, hI, Below.refl _ _⟩ | exact ⟨rfl, Below.refl _ _⟩
          · intro ev w7 hI hG hcv hfv hgv hbase hdep
            refine ⟨fun _ => ?_, fun h => absurd trivial h⟩
            have e0 : ev (.tmp 9) = .pointer (some ⟨gp, 0, none⟩) := hbase 9 (by decide)
            have hbk := lasts HBlk6.out hI
            have hc0 : w7.cell? ⟨gp, 0, none⟩ = some (.int .i64 (kE s)) := (blk_cell hbk 0).trans rfl
            have hc1 : w7.cell? ⟨gp, 1, none⟩ = some (.int .i64 (S2 : Int)) := (blk_cell hbk 1).trans rfl
            unfold Gives
            go_simp
            first | exact Below.refl _ _ | exact ⟨hI, Below.refl _ _⟩ | exact ⟨rfl, hI, Below.refl _ _⟩ | exact ⟨rfl, Below.refl _ _⟩
          · intro ev w7 hI hG hcv hfv hgv hbase hdep
            refine ⟨fun _ => ?_, fun h => absurd trivial h⟩
            have e1 : ev (.tmp 69) = .int .i64 (kE a) := hdep 2 (by decide)
            have e2 : ev (.tmp 70) = .int .i64 t := hdep 3 (by decide)
            have e3 : ev (.tmp 71) = .agg #[.int .i64 (kE s), .int .i64 (S2 : Int)] := hdep 4 (by decide)
            unfold Gives
            go_simp
            first | exact Below.refl _ _ | exact ⟨hI, Below.refl _ _⟩ | exact ⟨rfl, hI, Below.refl _ _⟩ | exact ⟨rfl, Below.refl _ _⟩
          · intro ev w7 hI hG hcv hfv hgv hbase hdep
            refine ⟨fun _ => ?_, fun h => absurd trivial h⟩
            have e1 : ev (.tmp 72) = .agg #[.int .i64 (kE a), .int .i64 t, .int .i64 (kE s), .int .i64 (S2 : Int)] := hdep 5 (by decide)
            unfold Gives
            go_simp
            exact ⟨⟨_, rfl, hI.size, new_block _ _⟩, below_alloc hI _, below_alloc (Below.refl _ _) _⟩
        · intro y w7 hb hbase hF
          have e67 : y 67 = .slice A5 cs.length c5 := hF 0 (by decide)
          obtain ⟨g, e73, hg0, hg1⟩ : FLit w6.heap.size #[.int .i64 (kE a), .int .i64 t, .int .i64 (kE s), .int .i64 (S2 : Int)] 54 1 (y 73) w7 := hF 6 (by decide)
          have e0 := hbase 0 (by decide)
          have e1 := hbase 1 (by decide)
          have e2 := hbase 2 (by decide)
          have e3 := hbase 3 (by decide)
          have e4 := hbase 4 (by decide)
          have e5 := hbase 5 (by decide)
          have e6 := hbase 6 (by decide)
          have e7 := hbase 7 (by decide)
          have e8 := hbase 8 (by decide)
          have e9 := hbase 9 (by decide)
          have e10 := hbase 10 (by decide)
          have e11 := hbase 11 (by decide)
          have e12 := hbase 12 (by decide)
          have e13 := hbase 13 (by decide)
          have e14 := hbase 14 (by decide)
          have e15 := hbase 15 (by decide)
          have e16 := hbase 16 (by decide)
          have e17 := hbase 17 (by decide)
          have e18 := hbase 18 (by decide)
          have e19 := hbase 19 (by decide)
          have e20 := hbase 20 (by decide)
          have e21 := hbase 21 (by decide)
          have e22 := hbase 22 (by decide)
          have e23 := hbase 23 (by decide)
          have e24 := hbase 24 (by decide)
          have e25 := hbase 25 (by decide)
          have e26 := hbase 26 (by decide)
          have e27 := hbase 27 (by decide)
          have e28 := hbase 28 (by decide)
          have e29 := hbase 29 (by decide)
          have e30 := hbase 30 (by decide)
          have e31 := hbase 31 (by decide)
          have e32 := hbase 32 (by decide)
          have e33 := hbase 33 (by decide)
          have e34 := hbase 34 (by decide)
          have e35 := hbase 35 (by decide)
          have e36 := hbase 36 (by decide)
          have e37 := hbase 37 (by decide)
          have e38 := hbase 38 (by decide)
          have e39 := hbase 39 (by decide)
          have e40 := hbase 40 (by decide)
          have e41 := hbase 41 (by decide)
          have e42 := hbase 42 (by decide)
          have e43 := hbase 43 (by decide)
          have e44 := hbase 44 (by decide)
          have e45 := hbase 45 (by decide)
          have e46 := hbase 46 (by decide)
          have e47 := hbase 47 (by decide)
          have e48 := hbase 48 (by decide)
          have e49 := hbase 49 (by decide)
          have e50 := hbase 50 (by decide)
          have e51 := hbase 51 (by decide)
          have e52 := hbase 52 (by decide)
          have e53 := hbase 53 (by decide)
          have e54 := hbase 54 (by decide)
          have e55 := hbase 55 (by decide)
          have e56 := hbase 56 (by decide)
          have e57 := hbase 57 (by decide)
          have e58 := hbase 58 (by decide)
          have e59 := hbase 59 (by decide)
          have e60 := hbase 60 (by decide)
          have e61 := hbase 61 (by decide)
          have e62 := hbase 62 (by decide)
          have e63 := hbase 63 (by decide)
          have e64 := hbase 64 (by decide)
          have e65 := hbase 65 (by decide)
          have e66 := hbase 66 (by decide)
          have e74 := hbase 74 (by decide)
          have e75 := hbase 75 (by decide)
          have HO7 := Aside0.mk (Kd.R_below hO.out (HB6.out.trans (hb.mono HB6.out.size)))
          have HB7 := Aside0.mk (hB.out.trans ((HB6.out.trans (hb.mono HB6.out.size)).mono hB.out.size))
          have HG1 := Aside0.mk hg1
          simp only [List.drop_succ_cons, List.drop_zero, List.size_toArray, List.length_cons, List.length_nil, Nat.reduceAdd, List.range, List.range.loop, List.map_cons, List.map_nil, e67, e73, e0, e1, e2, e3, e4, e5, e6, e7, e8, e9, e10, e11, e12, e13, e14, e15, e16, e17, e18, e19, e20, e21, e22, e23, e24, e25, e26, e27, e28, e29, e30, e31, e32, e33, e34, e35, e36, e37, e38, e39, e40, e41, e42, e43, e44, e45, e46, e47, e48, e49, e50, e51, e52, e53, e54, e55, e56, e57, e58, e59, e60, e61, e62, e63, e64, e65, e66, e74, e75]
          clear hF hbase e67 e73 hg0 hg1 hb e0 e1 e2 e3 e4 e5 e6 e7 e8 e9 e10 e11 e12 e13 e14 e15 e16 e17 e18 e19 e20 e21 e22 e23 e24 e25 e26 e27 e28 e29 e30 e31 e32 e33 e34 e35 e36 e37 e38 e39 e40 e41 e42 e43 e44 e45 e46 e47 e48 e49 e50 e51 e52 e53 e54 e55 e56 e57 e58 e59 e60 e61 e62 e63 e64 e65 e66 e74 e75
          go_wp2_with (at_builtin; refine Kd.R_append_rows k54 (w0 := w) w.heap.size rfl (.tmp 67) (.tmp 73) 49 54 _ _ rfl Try.underlying49 info54 rfl (by decide) (by omega) (.slice A5 cs.length c5) cs [(⟨kE a, t, ⟨kE s, (S2 : Int)⟩⟩ : S54)] _ _ _ (fun _ => True) (fun _ => False) rfl rfl HO7.out (one_reads (c := (⟨kE a, t, ⟨kE s, (S2 : Int)⟩⟩ : S54)) HG1.out) (fun x cs h => by rw [k54_open h]; exact k54_mkM _ _ _ x) (fun _ h => h.elim) (fun _ _ => trivial) HB7.out HB7.out.size (by have h1 := hLen.out; have h2 := HN.out; have h3 := hK.out; omega) ?_; intro v9 w9 ho hbb _ _; have HO9 := Aside0.mk ho; have HB9 := Aside0.mk hbb; clear ho hbb)
          go_roundg (gk - 1)
          case measure => have := hK.out; omega
          case rel =>
            refine ⟨i + 1, cs ++ [⟨kE a, t, ⟨kE s, (S2 : Int)⟩⟩], by go_num, ⟨by have := hK.out; omega⟩, ⟨by have := hLen.out; simp; omega⟩, ⟨fun c hc => ?_⟩, HO9, HB9⟩
            rcases List.mem_append.1 hc with hc | hc
            · exact hV.out c hc
            · rw [List.mem_singleton] at hc
              exact ⟨a, b, s, _, HAB.out.1, HAB.out.2.1, HAB.out.2.2.1, HAB.out.2.2.2, HS.out.1, HS.out.2, HS2.out, by rw [hc, HT.out]⟩
      · have hyb : (wrap64 (x.tdiv 7) % 5 == 0) = false := beq_eq_false_iff_ne.2 hy
        clear hy
        go_upto_region 12 with (go_at_call 15; refine (picked_any _ _ _ (by decide) (by decide)).mono ?_; rintro e w6 ⟨rfl, ⟨m6, rfl⟩⟩)
        have HS2 := HS4
        have hblk6 : (w5.drewN m6).heap[gp]? = some (.cells #[.int .i64 (kE s), .int .i64 (S : Int)] 34 (0, 0)) := HBlk.out
        have hB6 : Below W0.heap.size W0 (w5.drewN m6) := pw_below_drewN HB5.out m6
        generalize w5.drewN m6 = w6 at hblk6 hB6 ⊢
        have HBlk6 := Aside0.mk hblk6
        have HB6 := Aside0.mk hB6
        clear hblk6 hB6 hyb hx5 hc1 hf1
        refine region_facts (by kernel_rfl) 7 (FC w6.heap.size (.slice A5 cs.length c5) (a : Int) (kE a) t (kE s) (S : Int)) (by kernel_rfl) FC.last ?_ ?_
        · refine ⟨?_, ?_, ?_, ?_, ?_, ?_, ?_, trivial⟩
          · intro ev w7 hI hG hcv hfv hgv hbase hdep
            refine ⟨fun _ => ?_, fun h => absurd trivial h⟩
            have e0 : ev (.tmp 5) = .slice A5 cs.length c5 := hbase 5 (by decide)
            unfold Gives
            go_simp
            first | exact Below.refl _ _ | exact ⟨hI, Below.refl _ _⟩ | exact ⟨rfl, hI, Below.refl _ _⟩ | exact ⟨rfl, Below.refl _ _⟩
          · intro ev w7 hI hG hcv hfv hgv hbase hdep
            refine ⟨fun _ => ?_, fun h => absurd trivial h⟩
            have e0 : ev (.tmp 7) = .int .i64 (a : Int) := hbase 7 (by decide)
            unfold Gives
            go_simp
            first | exact Below.refl _ _ | exact ⟨hI, Below.refl _ _⟩ | exact ⟨rfl, hI, Below.refl _ _⟩ | exact ⟨rfl, Below.refl _ _⟩
          · intro ev w7 hI hG hcv hfv hgv hbase hdep
            refine ⟨fun _ => ?_, fun h => absurd trivial h⟩
            have e1 : ev (.tmp 68) = .int .i64 (a : Int) := hdep 1 (by decide)
            unfold Gives
            go_simp
            refine (keyN a _ HAB.out.1 HAB.out.2.1).mono ?_
            rintro e w8 ⟨rfl, ⟨m8, rfl⟩⟩
            exact ⟨_, rfl, rfl, pw_below_drewN hI _, pw_below_drewN (Below.refl _ _) _⟩
          · intro ev w7 hI hG hcv hfv hgv hbase hdep
            refine ⟨fun _ => ?_, fun h => absurd trivial h⟩
            have e0 : ev (.tmp 8) = .int .i64 t := hbase 8 (by decide)
            unfold Gives
            go_simp
            first | exact Below.refl _ _ | exact ⟨hI, Below.refl _ _⟩ | exact ⟨rfl, hI, Below.refl _ _⟩ | exact ⟨rfl, Below.refl _ _⟩
          · intro ev w7 hI hG hcv hfv hgv hbase hdep
            refine ⟨fun _ => ?_, fun h => absurd trivial h⟩
            have e0 : ev (.tmp 9) = .pointer (some ⟨gp, 0, none⟩) := hbase 9 (by decide)
            have hbk := lasts HBlk6.out hI
            have hc0 : w7.cell? ⟨gp, 0, none⟩ = some (.int .i64 (kE s)) := (blk_cell hbk 0).trans rfl
            have hc1 : w7.cell? ⟨gp, 1, none⟩ = some (.int .i64 (S : Int)) := (blk_cell hbk 1).trans rfl
            unfold Gives
            go_simp
            first | exact Below.refl _ _ | exact ⟨hI, Below.refl _ _⟩ | exact ⟨rfl, hI, Below.refl _ _⟩ | exact ⟨rfl, Below.refl _ _⟩
          · intro ev w7 hI hG hcv hfv hgv hbase hdep
            refine ⟨fun _ => ?_, fun h => absurd trivial h⟩
            have e1 : ev (.tmp 69) = .int .i64 (kE a) := hdep 2 (by decide)
            have e2 : ev (.tmp 70) = .int .i64 t := hdep 3 (by decide)
            have e3 : ev (.tmp 71) = .agg #[.int .i64 (kE s), .int .i64 (S : Int)] := hdep 4 (by decide)
            unfold Gives
            go_simp
            first | exact Below.refl _ _ | exact ⟨hI, Below.refl _ _⟩ | exact ⟨rfl, hI, Below.refl _ _⟩ | exact ⟨rfl, Below.refl _ _⟩
          · intro ev w7 hI hG hcv hfv hgv hbase hdep
            refine ⟨fun _ => ?_, fun h => absurd trivial h⟩
            have e1 : ev (.tmp 72) = .agg #[.int .i64 (kE a), .int .i64 t, .int .i64 (kE s), .int .i64 (S : Int)] := hdep 5 (by decide)
            unfold Gives
            go_simp
            exact ⟨⟨_, rfl, hI.size, new_block _ _⟩, below_alloc hI _, below_alloc (Below.refl _ _) _⟩
        · intro y w7 hb hbase hF
          have e67 : y 67 = .slice A5 cs.length c5 := hF 0 (by decide)
          obtain ⟨g, e73, hg0, hg1⟩ : FLit w6.heap.size #[.int .i64 (kE a), .int .i64 t, .int .i64 (kE s), .int .i64 (S : Int)] 54 1 (y 73) w7 := hF 6 (by decide)
          have e0 := hbase 0 (by decide)
          have e1 := hbase 1 (by decide)
          have e2 := hbase 2 (by decide)
          have e3 := hbase 3 (by decide)
          have e4 := hbase 4 (by decide)
          have e5 := hbase 5 (by decide)
          have e6 := hbase 6 (by decide)
          have e7 := hbase 7 (by decide)
          have e8 := hbase 8 (by decide)
          have e9 := hbase 9 (by decide)
          have e10 := hbase 10 (by decide)
          have e11 := hbase 11 (by decide)
          have e12 := hbase 12 (by decide)
          have e13 := hbase 13 (by decide)
          have e14 := hbase 14 (by decide)
          have e15 := hbase 15 (by decide)
          have e16 := hbase 16 (by decide)
          have e17 := hbase 17 (by decide)
          have e18 := hbase 18 (by decide)
          have e19 := hbase 19 (by decide)
          have e20 := hbase 20 (by decide)
          have e21 := hbase 21 (by decide)
          have e22 := hbase 22 (by decide)
          have e23 := hbase 23 (by decide)
          have e24 := hbase 24 (by decide)
          have e25 := hbase 25 (by decide)
          have e26 := hbase 26 (by decide)
          have e27 := hbase 27 (by decide)
          have e28 := hbase 28 (by decide)
          have e29 := hbase 29 (by decide)
          have e30 := hbase 30 (by decide)
          have e31 := hbase 31 (by decide)
          have e32 := hbase 32 (by decide)
          have e33 := hbase 33 (by decide)
          have e34 := hbase 34 (by decide)
          have e35 := hbase 35 (by decide)
          have e36 := hbase 36 (by decide)
          have e37 := hbase 37 (by decide)
          have e38 := hbase 38 (by decide)
          have e39 := hbase 39 (by decide)
          have e40 := hbase 40 (by decide)
          have e41 := hbase 41 (by decide)
          have e42 := hbase 42 (by decide)
          have e43 := hbase 43 (by decide)
          have e44 := hbase 44 (by decide)
          have e45 := hbase 45 (by decide)
          have e46 := hbase 46 (by decide)
          have e47 := hbase 47 (by decide)
          have e48 := hbase 48 (by decide)
          have e49 := hbase 49 (by decide)
          have e50 := hbase 50 (by decide)
          have e51 := hbase 51 (by decide)
          have e52 := hbase 52 (by decide)
          have e53 := hbase 53 (by decide)
          have e54 := hbase 54 (by decide)
          have e55 := hbase 55 (by decide)
          have e56 := hbase 56 (by decide)
          have e57 := hbase 57 (by decide)
          have e58 := hbase 58 (by decide)
          have e59 := hbase 59 (by decide)
          have e60 := hbase 60 (by decide)
          have e61 := hbase 61 (by decide)
          have e62 := hbase 62 (by decide)
          have e63 := hbase 63 (by decide)
          have e64 := hbase 64 (by decide)
          have e65 := hbase 65 (by decide)
          have e66 := hbase 66 (by decide)
          have e74 := hbase 74 (by decide)
          have e75 := hbase 75 (by decide)
          have HO7 := Aside0.mk (Kd.R_below hO.out (HB6.out.trans (hb.mono HB6.out.size)))
          have HB7 := Aside0.mk (hB.out.trans ((HB6.out.trans (hb.mono HB6.out.size)).mono hB.out.size))
          have HG1 := Aside0.mk hg1
          simp only [List.drop_succ_cons, List.drop_zero, List.size_toArray, List.length_cons, List.length_nil, Nat.reduceAdd, List.range, List.range.loop, List.map_cons, List.map_nil, e67, e73, e0, e1, e2, e3, e4, e5, e6, e7, e8, e9, e10, e11, e12, e13, e14, e15, e16, e17, e18, e19, e20, e21, e22, e23, e24, e25, e26, e27, e28, e29, e30, e31, e32, e33, e34, e35, e36, e37, e38, e39, e40, e41, e42, e43, e44, e45, e46, e47, e48, e49, e50, e51, e52, e53, e54, e55, e56, e57, e58, e59, e60, e61, e62, e63, e64, e65, e66, e74, e75]
          clear hF hbase e67 e73 hg0 hg1 hb e0 e1 e2 e3 e4 e5 e6 e7 e8 e9 e10 e11 e12 e13 e14 e15 e16 e17 e18 e19 e20 e21 e22 e23 e24 e25 e26 e27 e28 e29 e30 e31 e32 e33 e34 e35 e36 e37 e38 e39 e40 e41 e42 e43 e44 e45 e46 e47 e48 e49 e50 e51 e52 e53 e54 e55 e56 e57 e58 e59 e60 e61 e62 e63 e64 e65 e66 e74 e75
          go_wp2_with (at_builtin; refine Kd.R_append_rows k54 (w0 := w) w.heap.size rfl (.tmp 67) (.tmp 73) 49 54 _ _ rfl Try.underlying49 info54 rfl (by decide) (by omega) (.slice A5 cs.length c5) cs [(⟨kE a, t, ⟨kE s, (S : Int)⟩⟩ : S54)] _ _ _ (fun _ => True) (fun _ => False) rfl rfl HO7.out (one_reads (c := (⟨kE a, t, ⟨kE s, (S : Int)⟩⟩ : S54)) HG1.out) (fun x cs h => by rw [k54_open h]; exact k54_mkM _ _ _ x) (fun _ h => h.elim) (fun _ _ => trivial) HB7.out HB7.out.size (by have h1 := hLen.out; have h2 := HN.out; have h3 := hK.out; omega) ?_; intro v9 w9 ho hbb _ _; have HO9 := Aside0.mk ho; have HB9 := Aside0.mk hbb; clear ho hbb)
          go_roundg (gk - 1)
          case measure => have := hK.out; omega
          case rel =>
            refine ⟨i + 1, cs ++ [⟨kE a, t, ⟨kE s, (S : Int)⟩⟩], by go_num, ⟨by have := hK.out; omega⟩, ⟨by have := hLen.out; simp; omega⟩, ⟨fun c hc => ?_⟩, HO9, HB9⟩
            rcases List.mem_append.1 hc with hc | hc
            · exact hV.out c hc
            · rw [List.mem_singleton] at hc
              exact ⟨a, b, s, _, HAB.out.1, HAB.out.2.1, HAB.out.2.2.1, HAB.out.2.2.2, HS.out.1, HS.out.2, HS2.out, by rw [hc, HT.out]⟩
    · have hb1 : ¬ (i < l.length ∧ i < n) := hlt
      by_cases h1 : i < l.length
      · have h2 : ¬ i < n := fun h => hlt ⟨h1, h⟩
        have h2b : decide (i < n) = false := decide_eq_false h2
        clear hb1 hlt
        go_wp2
        go_ret
        exact ⟨cs, A5, c5, rfl, (Kd.R_reads' hO.out).2.1, by have := hLen.out; have := hK.out; omega, hV.out, (Kd.R_reads' hO.out).2.2, hB.out⟩
      · have h1b : decide (i < l.length) = false := decide_eq_false h1
        clear hb1 hlt
        go_wp2
        go_ret
        exact ⟨cs, A5, c5, rfl, (Kd.R_reads' hO.out).2.1, by have := hLen.out; have := hK.out; omega, hV.out, (Kd.R_reads' hO.out).2.2, hB.out⟩

end Go.Proofs.Ytfdceninhieheaa.Tru
end

section
/- The plain law behind trust, at certificates: who is reached, and on which way. -/
namespace Go.Proofs.Ytfdceninhieheaa.Tru
open Go Go.RowKit Go.Maps Go.Proofs.Ytfdceninhieheaa.Reg Go.Proofs.Ytfdceninhieheaa.QTrust Go.Proofs.Ytfdceninhieheaa.SignMath Go.Proofs.YtfdceninhieheaaW.PrintWords Go.Proofs.YtfdceninhieheaaW.PrintLast Go.Proofs.YtfdceninhieheaaW.PrintMore
set_option linter.unusedVariables false
set_option linter.unusedSimpArgs false

/-- The graph of good certificates. -/
def adj (cs : List S54) (k : Int) : List Int := sorted (outs goodB cs k)
theorem mem_adj {cs : List S54} {k t : Int} : t ∈ adj cs k ↔ ∃ c ∈ cs, goodB c = true ∧ c.f0 = k ∧ c.f1 = t := by
  unfold adj
  rw [(sorted_perm _).mem_iff]
  unfold outs
  rw [List.mem_map]
  constructor
  · rintro ⟨c, hc, rfl⟩
    rw [List.mem_filter] at hc
    simp only [Bool.and_eq_true, decide_eq_true_eq] at hc
    exact ⟨c, hc.1, hc.2.1, hc.2.2, rfl⟩
  · rintro ⟨c, hc, h1, h2, rfl⟩
    exact ⟨c, List.mem_filter.2 ⟨hc, by simp [h1, h2]⟩, rfl⟩
/-- All that is found from a root. -/
def Rof (cs : List S54) (root : Int) : Found := (bfs (adj cs) 100 [(root, root)] [root]).getD []
theorem Rof_spec (cs : List S54) (root : Int) (hl : cs.length ≤ 60) : bfs (adj cs) 100 [(root, root)] [root] = some (Rof cs root) ∧ (Rof cs root).length ≤ 61 := by
  have hG : ∀ k, ∀ t ∈ adj cs k, t ∈ root :: cs.map (·.f1) := fun k t ht => by
    obtain ⟨c, hc, _, _, rfl⟩ := mem_adj.1 ht
    exact List.mem_cons_of_mem _ (List.mem_map.2 ⟨c, hc, rfl⟩)
  obtain ⟨R, h1, h2⟩ := bfs_some hG 99 [(root, root)] [root] (one_apart root) (fun x hx => by
    have := look_some_iff.1 hx
    simp at this
    rw [this]; exact List.mem_cons_self ..) (by simp; omega) (.inr trivial)
  have h3 : Rof cs root = R := by unfold Rof; rw [h1]; rfl
  rw [h3]
  exact ⟨h1, by simp at h2; omega⟩
theorem Rof_bfs (cs : List S54) (root : Int) (hl : cs.length ≤ 60) : ∃ d, Bfs (adj cs) root (Rof cs root) d :=
  bfs_good 100 0 _ _ _ _ (Lev.first _ root) (Rof_spec cs root hl).1
theorem Rof_apart (cs : List S54) (root : Int) (hl : cs.length ≤ 60) : Apart (Rof cs root) := bfs_apart _ _ _ _ _ (Rof_spec cs root hl).1 (one_apart root)

/-- So many certs lead from a key to another one. -/
inductive Steps (G : Int → List Int) (a : Int) : Nat → Int → Prop
  | here : Steps G a 0 a
  | on {n : Nat} {b c : Int} : Steps G a n b → c ∈ G b → Steps G a (n + 1) c
theorem Steps.trans {G : Int → List Int} {a b : Int} {n : Nat} (h : Steps G a n b) {m : Nat} {c : Int} (k : Steps G b m c) : Steps G a (n + m) c := by
  induction k with
  | here => exact h
  | on _ hc ih => exact .on ih hc
theorem Steps.mono {G H : Int → List Int} (hGH : ∀ k, ∀ t ∈ G k, t ∈ H k) {a : Int} {n : Nat} {b : Int} (h : Steps G a n b) : Steps H a n b := by
  induction h with
  | here => exact .here
  | on _ hc ih => exact .on ih (hGH _ _ hc)
theorem Bfs.root_has {G : Int → List Int} {root : Int} {R : Found} {d : Int → Nat} (h : Bfs G root R d) : Has R root := by unfold Has; rw [h.root_in]; rfl
theorem Bfs.of_steps {G : Int → List Int} {root : Int} {R : Found} {d : Int → Nat} (h : Bfs G root R d) {n : Nat} {t : Int} (hs : Steps G root n t) : Has R t ∧ d t ≤ n := by
  induction hs with
  | here => exact ⟨h.root_has, by rw [h.d0]; exact Nat.le_refl _⟩
  | on _ hc ih => obtain ⟨h1, h2⟩ := h.edge _ ih.1 _ hc; exact ⟨h1, by omega⟩
/-- The way from the root to a key that is found. -/
theorem Bfs.way {G : Int → List Int} {root : Int} {R : Found} {d : Int → Nat} (h : Bfs G root R d) : ∀ (n : Nat) (t : Int), Has R t → d t = n →
    ∃ c, chain R root (n + 1) t = some c ∧ c.length = n + 1 ∧ Steps G root n t ∧ c.reverse.getD 0 0 = root ∧ c.reverse.getD n 0 = t ∧ (∀ i, i < n → c.reverse.getD (i + 1) 0 ∈ G (c.reverse.getD i 0)) ∧ ∀ i, i ≤ n → Has R (c.reverse.getD i 0) ∧ d (c.reverse.getD i 0) = i := by
  intro n
  induction n with
  | zero =>
    intro t ht hd
    have hroot : t = root := by
      by_cases hr : t = root
      · exact hr
      · unfold Has at ht
        obtain ⟨p, hp⟩ := Option.isSome_iff_exists.1 ht
        have := (h.par t p hp hr).2.2
        omega
    subst hroot
    refine ⟨[t], by unfold chain; rw [if_pos rfl], rfl, .here, rfl, rfl, fun i hi => absurd hi (Nat.not_lt_zero _), fun i hi => ?_⟩
    obtain rfl : i = 0 := by omega
    exact ⟨ht, hd⟩
  | succ n ih =>
    intro t ht hd
    have hr : t ≠ root := fun e => by rw [e, h.d0] at hd; omega
    have ht2 := ht
    unfold Has at ht2
    obtain ⟨p, hp⟩ := Option.isSome_iff_exists.1 ht2
    obtain ⟨h1, h2, h3⟩ := h.par t p hp hr
    obtain ⟨c, c1, c2, c3, c4, c5, c6, c7⟩ := ih p h1 (by omega)
    have hg : ∀ i, i ≤ n → (t :: c).reverse.getD i 0 = c.reverse.getD i 0 := fun i hi => by
      rw [List.reverse_cons, List.getD_eq_getElem?_getD, List.getElem?_append_left (by rw [List.length_reverse]; omega), ← List.getD_eq_getElem?_getD]
    have hl : (t :: c).reverse.getD (n + 1) 0 = t := by
      rw [List.reverse_cons, List.getD_eq_getElem?_getD, List.getElem?_append_right (by rw [List.length_reverse]; omega), List.length_reverse, c2]; simp
    refine ⟨t :: c, by unfold chain; rw [if_neg hr, hp, Option.bind_some, c1]; rfl, by rw [List.length_cons, c2], .on c3 h2, by rw [hg 0 (Nat.zero_le _)]; exact c4, hl, fun i hi => ?_, fun i hi => ?_⟩
    · by_cases hin : i < n
      · rw [hg i (by omega), hg (i + 1) (by omega)]; exact c6 i hin
      · obtain rfl : i = n := by omega
        rw [hl, hg i (Nat.le_refl _), c5]; exact h2
    · by_cases hin : i ≤ n
      · rw [hg i hin]; exact c7 i hin
      · obtain rfl : i = n + 1 := by omega
        rw [hl]; exact ⟨ht, hd⟩
theorem chain_more {R : Found} {root : Int} : ∀ (n m : Nat) (k : Int) (c : List Int), chain R root n k = some c → n ≤ m → chain R root m k = some c
  | 0, _, _, _, h, _ => by cases h
  | n + 1, m, k, c, h, hm => by
    obtain ⟨m, rfl⟩ : ∃ q, m = q + 1 := ⟨m - 1, by omega⟩
    unfold chain at h ⊢
    split at h
    · rename_i hk; rw [if_pos hk]; exact h
    · rename_i hk
      rw [if_neg hk]
      cases hp : look R k with
      | none => rw [hp] at h; cases h
      | some p =>
        rw [hp, Option.bind_some] at h
        rw [Option.bind_some]
        cases hc : chain R root n p with
        | none => rw [hc] at h; cases h
        | some q => rw [hc] at h; rw [chain_more n m p q hc (by omega)]; exact h
theorem Bfs.small {G : Int → List Int} {root : Int} {R : Found} {d : Int → Nat} (h : Bfs G root R d) {t : Int} (ht : Has R t) : d t + 1 ≤ R.length := by
  obtain ⟨c, c1, c2, _, _, _, _, c7⟩ := h.way (d t) t ht rfl
  have hnd : c.reverse.Nodup := by
    have hat : ∀ (i : Nat) (hi : i < c.reverse.length), d c.reverse[i] = i := fun i hi => by
      have h2 := (c7 i (by rw [List.length_reverse, c2] at hi; omega)).2
      rw [List.getD_eq_getElem?_getD, List.getElem?_eq_getElem hi] at h2
      exact h2
    refine List.pairwise_iff_getElem.2 fun i j hi hj hij e => ?_
    have h1 := hat i hi
    have h2 := hat j hj
    rw [e] at h1
    omega
  have h1 : c.reverse.length ≤ (R.map (·.1)).length := nodup_le _ _ hnd (fun x hx => by
    obtain ⟨i, hi, rfl⟩ := List.mem_iff_getElem.1 hx
    have h2 := (c7 i (by rw [List.length_reverse, c2] at hi; omega)).1
    rw [List.getD_eq_getElem?_getD, List.getElem?_eq_getElem hi] at h2
    exact look_some_iff.1 h2)
  rw [List.length_reverse, c2, List.length_map] at h1
  exact h1

/-- The way from the root to a key; none: it is not come to. -/
def pathOf (cs : List S54) (root key : Int) : Option (List Int) := if (look (Rof cs root) key).isSome = true then (chain (Rof cs root) root 100 key).map List.reverse else none

/-- A way as it must be. -/
structure Good (cs : List S54) (root key : Int) (d : Int → Nat) (p : List Int) : Prop where
  len : p.length = d key + 1
  first : p.getD 0 0 = root
  last : p.getD (d key) 0 = key
  edges : ∀ i, i < d key → p.getD (i + 1) 0 ∈ adj cs (p.getD i 0)
  apart : ∀ i, i ≤ d key → d (p.getD i 0) = i
theorem pathOf_spec {cs : List S54} {root key : Int} {d : Int → Nat} (hl : cs.length ≤ 60) (h : Bfs (adj cs) root (Rof cs root) d) (hk : Has (Rof cs root) key) : ∃ p, pathOf cs root key = some p ∧ Good cs root key d p ∧ ∃ c, chain (Rof cs root) root 100 key = some c ∧ p = c.reverse ∧ c.length ≤ 61 := by
  obtain ⟨c, c1, c2, c3, c4, c5, c6, c7⟩ := h.way (d key) key hk rfl
  have hsm := h.small hk
  have hR := (Rof_spec cs root hl).2
  have h100 := chain_more (d key + 1) 100 key c c1 (by omega)
  refine ⟨c.reverse, by unfold pathOf; rw [if_pos (show (look (Rof cs root) key).isSome = true from hk), h100]; rfl, ⟨by rw [List.length_reverse, c2], c4, c5, c6, fun i hi => (c7 i hi).2⟩, c, h100, rfl, by omega⟩

end Go.Proofs.Ytfdceninhieheaa.Tru
end

section
/- The laws' small helpers, and trust's answers at certificates. -/
namespace Go.Proofs.Ytfdceninhieheaa.Tru
open Go Go.RowKit Go.Maps Go.Proofs.Ytfdceninhieheaa.Reg Go.Proofs.Ytfdceninhieheaa.QTrust Go.Proofs.Ytfdceninhieheaa.TrS Go.Proofs.Ytfdceninhieheaa.SignMath Go.Proofs.YtfdceninhieheaaW.PrintWords Go.Proofs.YtfdceninhieheaaW.PrintLast Go.Proofs.YtfdceninhieheaaW.PrintMore
set_option linter.unusedVariables false
set_option linter.unusedSimpArgs false

theorem hasInt_loop (l : List Int) (n : Int) (hl : l.length ≤ 1000) : ∀ (d i k : Nat), i + d = l.length → d < k → bagnallkeep_hasInt.l0 k l n i = some (decide (n ∈ l.drop i)) := by
  intro d
  induction d with
  | zero =>
    intro i k hd hk
    obtain ⟨k, rfl⟩ : ∃ m, k = m + 1 := ⟨k - 1, by omega⟩
    rw [bagnallkeep_hasInt.l0, if_neg (by omega), List.drop_of_length_le (by omega)]; rfl
  | succ d ih =>
    intro i k hd hk
    obtain ⟨k, rfl⟩ : ∃ m, k = m + 1 := ⟨k - 1, by omega⟩
    have hi : i < l.length := by omega
    have hrd : rd l (i : Int) = l[i] := by simp [rd, List.getD_eq_getElem?_getD, hi]
    rw [bagnallkeep_hasInt.l0, if_pos (by omega), if_pos (by omega), List.drop_eq_getElem_cons hi]
    by_cases he : l[i] = n
    · first
        | rw [if_pos (by rw [hrd]; exact he)]
        | rw [if_pos (by rw [hrd, he])]
      simp [he]
    · rw [if_neg (by rw [hrd]; exact he), w64 (by omega) (by omega), show (i : Int) + 1 = ((i + 1 : Nat) : Int) by omega, ih (i + 1) k (by omega) (by omega)]
      refine congrArg some ?_
      rw [decide_eq_decide, List.mem_cons]
      exact ⟨.inr, fun h => h.resolve_left (fun e => he e.symm)⟩
theorem hasInt_calls (A : Option Addr) (c : Nat) (l : List Int) (n : Int) (w : World) (hr : Kd.C (Kd.int .i64) w A l.length l) (hc : l.length ≤ c) (hl : l.length ≤ 1000) :
    Calls Try.prog 30 #[.slice A l.length c, .int .i64 n] w fun e w' => e = .returned (.bool (decide (n ∈ l))) ∧ Drawn0 w w' := by
  have h := hasInt_loop l n hl l.length 0 1001 (by omega) (by omega)
  exact bagnallkeep_hasInt.calls 1001 A c l n _ w hr hc (by unfold bagnallkeep_hasInt.f; simpa using h)

theorem same_loop (x y : List Int) (hl : x.length ≤ 1000) (hxy : x.length = y.length) : ∀ (d i k : Nat), i + d = x.length → d < k → bagnallkeep_sameInts.l0 k x y i = some (decide (x.drop i = y.drop i)) := by
  intro d
  induction d with
  | zero =>
    intro i k hd hk
    obtain ⟨k, rfl⟩ : ∃ m, k = m + 1 := ⟨k - 1, by omega⟩
    rw [bagnallkeep_sameInts.l0, if_neg (by omega), List.drop_of_length_le (by omega), List.drop_of_length_le (by omega)]; rfl
  | succ d ih =>
    intro i k hd hk
    obtain ⟨k, rfl⟩ : ∃ m, k = m + 1 := ⟨k - 1, by omega⟩
    have hi : i < x.length := by omega
    have hj : i < y.length := by omega
    have hx : rd x (i : Int) = x[i] := by simp [rd, List.getD_eq_getElem?_getD, hi]
    have hy : rd y (i : Int) = y[i] := by simp [rd, List.getD_eq_getElem?_getD, hj]
    rw [bagnallkeep_sameInts.l0, if_pos (by omega), if_pos (by omega), if_pos (by omega), List.drop_eq_getElem_cons hi, List.drop_eq_getElem_cons hj]
    by_cases he : x[i] = y[i]
    · rw [if_pos (by rw [hx, hy]; exact he), w64 (by omega) (by omega), show (i : Int) + 1 = ((i + 1 : Nat) : Int) by omega, ih (i + 1) k (by omega) (by omega)]
      refine congrArg some ?_
      rw [decide_eq_decide]
      exact ⟨fun h => by rw [he, h], fun h => (List.cons.inj h).2⟩
    · rw [if_neg (by rw [hx, hy]; exact he)]
      exact congrArg some (decide_eq_false (fun h => he (List.cons.inj h).1)).symm
theorem sameInts_calls (A B : Option Addr) (c d : Nat) (x y : List Int) (w : World) (hx : Kd.C (Kd.int .i64) w A x.length x) (hc : x.length ≤ c) (hy : Kd.C (Kd.int .i64) w B y.length y) (hd : y.length ≤ d) (hl : x.length ≤ 1000) :
    Calls Try.prog 31 #[.slice A x.length c, .slice B y.length d] w fun e w' => e = .returned (.bool (decide (x = y))) ∧ Drawn0 w w' := by
  refine bagnallkeep_sameInts.calls 1001 A c x B d y _ w hx hc hy hd ?_
  unfold bagnallkeep_sameInts.f
  by_cases h : x.length = y.length
  · rw [if_pos (by omega)]
    have h2 := same_loop x y hl h x.length 0 1001 (by omega) (by omega)
    simpa using h2
  · rw [if_neg (by omega)]
    have h3 : x ≠ y := fun e => h (by rw [e])
    simp [h3]

theorem sure_calls (w : World) : Calls Try.prog 20 #[] w fun e w' => e = .returned (.bool true) ∧ Below w.heap.size w w' :=
  bagnallkeep_signSure.calls 700 true w (signSure_f 700 (by decide))

theorem key_ok (a : Nat) (h0 : 1 ≤ a) (h1 : a ≤ 10) : sign_Key.f 700 (kE a) = some true := Key_f 700 a (by decide) (by omega) (by omega)
theorem fault_ok (a : Nat) (h0 : 1 ≤ a) (h1 : a ≤ 10) (cs : List S54) (hl : cs.length ≤ 60) : trust_fault.f 700 (kE a) cs = some 0 := by
  unfold trust_fault.f
  rw [if_neg (by omega), key_ok a h0 h1, Option.bind_some, if_pos rfl]
theorem kE64 (a : Nat) : I64 (kE a) := i64_of (kE_range a).1 (by have := (kE_range a).2; omega)

/-- All certificates of a list. -/
def VCs (cs : List S54) : Prop := ∀ c ∈ cs, VC c
theorem VCs.append {a b : List S54} (h : VCs a) (k : VCs b) : VCs (a ++ b) := fun c hc => (List.mem_append.1 hc).elim (h c) (k c)

theorem reachC (a : Nat) (h0 : 1 ≤ a) (h1 : a ≤ 10) (A : Option Addr) (c : Nat) (cs : List S54) (w : World) (hr : Kd.C k54 w A cs.length cs) (hc : cs.length ≤ c) (hl : cs.length ≤ 60) (hv : VCs cs) :
    Calls Try.prog 42 #[.int .i64 (kE a), .slice A cs.length c] w fun e w' => ∃ A c, e = .returned (.tuple #[.slice A (keysOf (Rof cs (kE a))).length c, .int .i64 0]) ∧ (keysOf (Rof cs (kE a))).length ≤ c ∧ Kd.C (Kd.int .i64) w' A (keysOf (Rof cs (kE a))).length (keysOf (Rof cs (kE a))) ∧ Below w.heap.size w w' :=
  reach_calls goodB (kE a) A c cs w 100 700 _ hr hc (by omega) (fun c hc => (hv c hc).told) (kE64 a) (fault_ok a h0 h1 cs hl) (Rof_spec cs (kE a) hl).1 (by have := (Rof_spec cs (kE a) hl).2; omega)
theorem keys_length (cs : List S54) (root : Int) (hl : cs.length ≤ 60) : (keysOf (Rof cs root)).length ≤ 61 := by
  unfold keysOf; rw [sorted_length, List.length_map]; exact (Rof_spec cs root hl).2
theorem mem_keys {R : Found} {k : Int} : k ∈ keysOf R ↔ Has R k := by
  unfold keysOf Has
  rw [(sorted_perm _).mem_iff, look_some_iff]
theorem keys_one : keysOf (Rof [] (kE 1)) = [4] := by
  have h : Rof [] (kE 1) = [(kE 1, kE 1)] := by
    unfold Rof
    rw [show bfs (adj []) 100 [(kE 1, kE 1)] [kE 1] = some [(kE 1, kE 1)] by
      unfold bfs
      rw [if_neg (by simp)]
      have hlev : level (adj []) [(kE 1, kE 1)] [kE 1] = ([(kE 1, kE 1)], []) := by
        unfold level scan adj outs
        simp [sorted]
      rw [hlev]
      unfold bfs
      simp]
    rfl
  rw [h]
  unfold keysOf
  simp [sorted]
  decide

theorem reach4 (w : World) : Calls Try.prog 42 #[.int .i64 4, .slice none 0 0] w fun e w' => ∃ ad c, e = .returned (.tuple #[.slice (some ad) 1 c, .int .i64 0]) ∧ w'.cell? ad = some (.int .i64 4) ∧ Below w.heap.size w w' := by
  have h := reachC 1 (by decide) (by decide) none 0 [] w (Kd.C_nil _ _) (Nat.le_refl _) (by decide) (fun c hc => by cases hc)
  rw [keys_one, show kE 1 = 4 by decide] at h
  refine h.mono ?_
  rintro e w' ⟨A, c, rfl, hc, hC, hb⟩
  obtain ⟨ad, rfl, h0⟩ := ints_at hC 0 (by decide)
  exact ⟨ad, c, rfl, by rw [← show (ad.add 0) = ad by simp [Addr.add]]; exact h0, hb⟩

set_option maxRecDepth 100000 in
set_option maxHeartbeats 8000000 in
theorem reachedC (a : Nat) (h0 : 1 ≤ a) (h1 : a ≤ 10) (A : Option Addr) (c : Nat) (cs : List S54) (w : World) (hr : Kd.C k54 w A cs.length cs) (hc : cs.length ≤ c) (hl : cs.length ≤ 60) (hv : VCs cs) :
    Calls Try.prog 29 #[.int .i64 (kE a), .slice A cs.length c] w fun e w' => ∃ A c, e = .returned (.tuple #[.slice A (keysOf (Rof cs (kE a))).length c, .bool true]) ∧ (keysOf (Rof cs (kE a))).length ≤ c ∧ Kd.C (Kd.int .i64) w' A (keysOf (Rof cs (kE a))).length (keysOf (Rof cs (kE a))) ∧ Below w.heap.size w w' := by
  have HRe := Aside0.mk (fun A c w hr hc => reachC a h0 h1 A c cs w hr hc hl hv)
  obtain ⟨xs, hxs⟩ : ∃ xs, xs = keysOf (Rof cs (kE a)) := ⟨_, rfl⟩
  obtain ⟨z, hz⟩ : ∃ z, z = kE a := ⟨_, rfl⟩
  rw [← hxs, ← hz] at HRe ⊢
  have HR := Aside0.mk hr
  have HL := Aside0.mk hl
  clear hr hc hl hv hxs hz
  go_enter Try.func29, Try.ntmps29
  go_upto_region 3 with (first
    | ((with_reducible refine gate_builtin (b := .append) (xs := #[.const _, .tmp 12]) rfl ?_); at_builtin; refine Kd.R_append_rows k54 (w0 := w) w.heap.size rfl (.const (.slice none 0 0)) (.tmp 12) 49 54 _ _ rfl Try.underlying49 info54 rfl (by decide) (by omega) (.slice none 0 0) ([] : List S54) cs _ _ _ (fun _ => True) (fun _ => False) rfl rfl (Kd.R_nil _ _ _ _ _) HR.out (fun x cs h => by rw [k54_open h]; exact k54_mkM _ _ _ x) (fun _ h => h.elim) (fun _ _ => trivial) (Below.refl _ _) (Nat.le_refl _) (by have := HL.out; simp; omega) ?_; intro v1 wa ho hb _ _; obtain ⟨Aa, ca, rfl⟩ := Kd.R_slice ho; have HC := Aside0.mk ho; have HBa := Aside0.mk hb; clear ho hb)
    | (have _still := HC; go_at_call 42; refine (HRe.out Aa ca wa (Kd.R_reads' HC.out).2.2 (Kd.R_reads' HC.out).2.1).mono ?_; rintro e w2 ⟨A2, c2, rfl, k2, g2, hb⟩; have HX := Aside0.mk (And.intro k2 g2); have HB2 := Aside0.mk (HBa.out.trans (hb.mono HBa.out.size)); clear hb k2 g2 HC _still)
    | (go_at_call 42; refine (reach4 _).mono ?_; rintro e w3 ⟨ad, c3, rfl, hcl, hb⟩; have HB3 := Aside0.mk hb; clear hb))
  go_quiet (fail)
  go_wp2
  go_ret2
  exact ⟨A2, c2, rfl, HX.out.1, Kd.C_below HX.out.2 (HB3.out.trans (pw_below_drewN (Below.refl _ _) _)), HB2.out.trans ((HB3.out.trans (pw_below_drewN (Below.refl _ _) _)).mono HB2.out.size)⟩

end Go.Proofs.Ytfdceninhieheaa.Tru
end

section
/- The five laws of trust, in plain words. -/
namespace Go.Proofs.Ytfdceninhieheaa.Tru
open Go Go.RowKit Go.Maps Go.Proofs.Ytfdceninhieheaa.Reg Go.Proofs.Ytfdceninhieheaa.QTrust Go.Proofs.Ytfdceninhieheaa.TrS Go.Proofs.Ytfdceninhieheaa.SignMath Go.Proofs.YtfdceninhieheaaW.PrintWords Go.Proofs.YtfdceninhieheaaW.PrintLast Go.Proofs.YtfdceninhieheaaW.PrintMore
set_option linter.unusedVariables false
set_option linter.unusedSimpArgs false

/-- What trust.Path answers. -/
def pathAns (cs : List S54) (root key : Int) : List Int × Int := match pathOf cs root key with
  | some p => (p, 0)
  | none => ([], 8)
theorem pathC (a b : Nat) (h0 : 1 ≤ a) (h1 : a ≤ 10) (g0 : 1 ≤ b) (g1 : b ≤ 10) (A : Option Addr) (c : Nat) (cs : List S54) (w : World) (hr : Kd.C k54 w A cs.length cs) (hc : cs.length ≤ c) (hl : cs.length ≤ 60) (hv : VCs cs) :
    Calls Try.prog 27 #[.int .i64 (kE a), .int .i64 (kE b), .slice A cs.length c] w fun e w' => ∃ A c, e = .returned (.tuple #[.slice A (pathAns cs (kE a) (kE b)).1.length c, .int .i64 (pathAns cs (kE a) (kE b)).2]) ∧ (pathAns cs (kE a) (kE b)).1.length ≤ c ∧ Kd.C (Kd.int .i64) w' A (pathAns cs (kE a) (kE b)).1.length (pathAns cs (kE a) (kE b)).1 ∧ Below w.heap.size w w' := by
  obtain ⟨d, hd⟩ := Rof_bfs cs (kE a) hl
  obtain ⟨hR, hRl⟩ := Rof_spec cs (kE a) hl
  by_cases hk : Has (Rof cs (kE a)) (kE b)
  · obtain ⟨p, hp, _, ch, hch, rfl, hcl⟩ := pathOf_spec hl hd hk
    have he : pathAns cs (kE a) (kE b) = (ch.reverse, 0) := by unfold pathAns; rw [hp]
    rw [he]
    exact path_some goodB (kE a) (kE b) A c cs w 100 700 100 _ ch hr hc (by omega) (fun c hc => (hv c hc).told) (kE64 a) (kE64 b) (fault_ok a h0 h1 cs hl) (key_ok b g0 g1) hR (by omega) hk hch (by omega)
  · have hn : look (Rof cs (kE a)) (kE b) = none := by
      unfold Has at hk
      cases hx : look (Rof cs (kE a)) (kE b) with
      | none => rfl
      | some p => rw [hx] at hk; exact absurd rfl hk
    have he : pathAns cs (kE a) (kE b) = ([], 8) := by
      unfold pathAns pathOf; rw [hn, if_neg (by simp)]
    rw [he]
    refine (path_none goodB (kE a) (kE b) A c cs w 100 700 _ hr hc (by omega) (fun c hc => (hv c hc).told) (kE64 a) (kE64 b) (fault_ok a h0 h1 cs hl) (key_ok b g0 g1) hR (by omega) hn).mono ?_
    rintro e w' ⟨rfl, hb⟩
    exact ⟨none, 0, rfl, Nat.le_refl _, Kd.C_nil _ _, hb⟩

/-- Reached or not: as steps. -/
theorem has_iff {cs : List S54} {root t : Int} (hl : cs.length ≤ 60) : Has (Rof cs root) t ↔ ∃ n, Steps (adj cs) root n t := by
  obtain ⟨d, hd⟩ := Rof_bfs cs root hl
  constructor
  · intro h
    obtain ⟨c, _, _, h3, _⟩ := hd.way (d t) t h rfl
    exact ⟨_, h3⟩
  · rintro ⟨n, h⟩; exact (hd.of_steps h).1
theorem keys_ext {R S : Found} (hR : Apart R) (hS : Apart S) (h : ∀ k, Has R k ↔ Has S k) : keysOf R = keysOf S :=
  mergeSort_of_perm_i ((List.perm_ext_iff_of_nodup hR hS).2 fun k => by rw [← look_some_iff, ← look_some_iff]; exact h k)

theorem adj_append {cs ds : List S54} {k t : Int} (h : t ∈ adj cs k) : t ∈ adj (cs ++ ds) k := by
  obtain ⟨c, hc, h1⟩ := mem_adj.1 h
  exact mem_adj.2 ⟨c, List.mem_append.2 (.inl hc), h1⟩
theorem more_has {cs ds : List S54} {root k : Int} (hl : (cs ++ ds).length ≤ 60) (h : Has (Rof cs root) k) : Has (Rof (cs ++ ds) root) k := by
  have hl1 : cs.length ≤ 60 := by rw [List.length_append] at hl; omega
  obtain ⟨n, hn⟩ := (has_iff hl1).1 h
  exact (has_iff hl).2 ⟨n, hn.mono fun k t ht => adj_append ht⟩

/-- TrustMore: a bad cert, or one of a key that is not trusted, changes nothing; a good one of a trusted key is followed. -/
theorem more_same {cs : List S54} {c : S54} {root : Int} (hl : cs.length ≤ 59) (h : goodB c = false ∨ ¬ Has (Rof cs root) c.f0) : keysOf (Rof cs root) = keysOf (Rof (cs ++ [c]) root) := by
  have hl1 : (cs ++ [c]).length ≤ 60 := by rw [List.length_append]; simp; omega
  refine keys_ext (Rof_apart _ _ (by omega)) (Rof_apart _ _ hl1) fun k => ⟨fun hk => more_has hl1 hk, fun hk => ?_⟩
  obtain ⟨n, hn⟩ := (has_iff hl1).1 hk
  clear hk
  induction hn with
  | here => exact (has_iff (by omega)).2 ⟨0, .here⟩
  | on hs hc ih =>
    obtain ⟨n2, h2⟩ := (has_iff (show cs.length ≤ 60 by omega)).1 ih
    obtain ⟨x, hx, g1, g2, g3⟩ := mem_adj.1 hc
    refine (has_iff (by omega)).2 ⟨n2 + 1, .on h2 ?_⟩
    rcases List.mem_append.1 hx with hx | hx
    · exact mem_adj.2 ⟨x, hx, g1, g2, g3⟩
    · rw [List.mem_singleton] at hx
      subst hx
      rcases h with h | h
      · rw [h] at g1; cases g1
      · rw [g2] at h; exact absurd ih h
theorem more_new {cs : List S54} {c : S54} {root : Int} (hl : cs.length ≤ 59) (hg : goodB c = true) (h : Has (Rof cs root) c.f0) : Has (Rof (cs ++ [c]) root) c.f1 := by
  have hl1 : (cs ++ [c]).length ≤ 60 := by rw [List.length_append]; simp; omega
  obtain ⟨n, hn⟩ := (has_iff hl1).1 (more_has hl1 h)
  exact (has_iff hl1).2 ⟨n + 1, .on hn (mem_adj.2 ⟨c, List.mem_append.2 (.inr (List.mem_singleton.2 rfl)), hg, rfl, rfl⟩)⟩

/-- TrustThrough. -/
theorem through {cs : List S54} {root v k : Int} (hl : cs.length ≤ 60) (hv : Has (Rof cs root) v) (hk : Has (Rof cs v) k) : Has (Rof cs root) k := by
  obtain ⟨n, hn⟩ := (has_iff hl).1 hv
  obtain ⟨m, hm⟩ := (has_iff hl).1 hk
  exact (has_iff hl).2 ⟨n + m, hn.trans hm⟩
theorem has_key {cs : List S54} {a : Nat} (h0 : 1 ≤ a) (h1 : a ≤ 10) (hl : cs.length ≤ 60) (hv : VCs cs) {k : Int} (hk : Has (Rof cs (kE a)) k) : ∃ b : Nat, 1 ≤ b ∧ b ≤ 10 ∧ k = kE b := by
  obtain ⟨n, hn⟩ := (has_iff hl).1 hk
  cases hn with
  | here => exact ⟨a, h0, h1, rfl⟩
  | on _ hc =>
    obtain ⟨c, hc2, _, _, rfl⟩ := mem_adj.1 hc
    obtain ⟨_, b, _, _, _, _, hb0, hb1, _, _, _, he⟩ := hv c hc2
    subst he
    exact ⟨b, hb0, by omega, rfl⟩

/-- TrustPath: what is answered. -/
theorem path_cases {cs : List S54} {root key : Int} (hl : cs.length ≤ 60) : (¬ Has (Rof cs root) key ∧ pathAns cs root key = ([], 8)) ∨ (Has (Rof cs root) key ∧ ∃ d p, pathAns cs root key = (p, 0) ∧ Bfs (adj cs) root (Rof cs root) d ∧ Good cs root key d p) := by
  by_cases hk : Has (Rof cs root) key
  · obtain ⟨d, hd⟩ := Rof_bfs cs root hl
    obtain ⟨p, hp, hg, _⟩ := pathOf_spec hl hd hk
    exact .inr ⟨hk, d, p, by unfold pathAns; rw [hp], hd, hg⟩
  · refine .inl ⟨hk, ?_⟩
    unfold pathAns pathOf
    rw [if_neg (show ¬ (look (Rof cs root) key).isSome = true from hk)]

/-- TrustShort: with certs more it is no longer. -/
theorem short_more {cs ds : List S54} {root key : Int} (hl : (cs ++ ds).length ≤ 60) (h : (pathAns cs root key).2 = 0) : (pathAns (cs ++ ds) root key).2 = 0 ∧ (pathAns (cs ++ ds) root key).1.length ≤ (pathAns cs root key).1.length := by
  have hl1 : cs.length ≤ 60 := by rw [List.length_append] at hl; omega
  rcases path_cases (root := root) (key := key) hl1 with ⟨_, he⟩ | ⟨hk, d, p, he, hd, hg⟩
  · rw [he] at h; cases h
  · obtain ⟨c, _, _, hs, _⟩ := hd.way (d key) key hk rfl
    rcases path_cases (root := root) (key := key) hl with ⟨hn, _⟩ | ⟨hk2, d2, p2, he2, hd2, hg2⟩
    · exact absurd (more_has hl hk) hn
    · rw [he, he2]
      refine ⟨rfl, ?_⟩
      have h3 := (hd2.of_steps (hs.mono fun k t ht => adj_append ht)).2
      show p2.length ≤ p.length
      rw [hg.len, hg2.len]; omega
theorem short_two {cs : List S54} {c : S54} {root key : Int} (hl : cs.length ≤ 60) (hc : c ∈ cs) (h1 : c.f0 = root) (h2 : c.f1 = key) (h3 : key ≠ root) (hg : goodB c = true) : (pathAns cs root key).2 = 0 ∧ (pathAns cs root key).1.length = 2 := by
  have hs : Steps (adj cs) root 1 key := .on .here (mem_adj.2 ⟨c, hc, hg, h1, h2⟩)
  rcases path_cases (root := root) (key := key) hl with ⟨hn, _⟩ | ⟨hk, d, p, he, hd, hgd⟩
  · exact absurd ((has_iff hl).2 ⟨1, hs⟩) hn
  · rw [he]
    refine ⟨rfl, ?_⟩
    show p.length = 2
    have h4 := (hd.of_steps hs).2
    have h5 : d key ≠ 0 := fun e => by
      have hx := hgd.last
      rw [e, hgd.first] at hx
      exact h3 hx.symm
    rw [hgd.len]; omega
theorem short_one {cs : List S54} {root : Int} (hl : cs.length ≤ 60) : (pathAns cs root root).2 = 0 ∧ (pathAns cs root root).1.length = 1 := by
  rcases path_cases (root := root) (key := root) hl with ⟨hn, _⟩ | ⟨hk, d, p, he, hd, hgd⟩
  · exact absurd ((has_iff hl).2 ⟨0, .here⟩) hn
  · rw [he]
    refine ⟨rfl, ?_⟩
    show p.length = 1
    rw [hgd.len, hd.d0]

/-- TrustOrder: the same certs in another order. -/
theorem adj_perm {cs ds : List S54} (h : cs.Perm ds) : adj cs = adj ds := by
  funext k
  unfold adj
  refine mergeSort_of_perm_i ?_
  unfold outs
  exact (h.filter _).map _
theorem Rof_perm {cs ds : List S54} (h : cs.Perm ds) (root : Int) : Rof cs root = Rof ds root := by unfold Rof; rw [adj_perm h]
theorem pathAns_perm {cs ds : List S54} (h : cs.Perm ds) (root key : Int) : pathAns cs root key = pathAns ds root key := by unfold pathAns pathOf; rw [Rof_perm h]
theorem keys_twice {cs ds : List S54} (h : cs.Perm ds) (root : Int) (hl : cs.length ≤ 30) : keysOf (Rof cs root) = keysOf (Rof (ds ++ cs) root) := by
  have hl2 := h.length_eq
  have hl1 : (ds ++ cs).length ≤ 60 := by rw [List.length_append]; omega
  refine keys_ext (Rof_apart _ _ (by omega)) (Rof_apart _ _ hl1) fun k => ?_
  rw [has_iff (by omega), has_iff hl1]
  have hm : ∀ k t, t ∈ adj cs k ↔ t ∈ adj (ds ++ cs) k := fun k t => by
    rw [mem_adj, mem_adj]
    constructor
    · rintro ⟨c, hc, hx⟩; exact ⟨c, List.mem_append.2 (.inr hc), hx⟩
    · rintro ⟨c, hc, hx⟩
      rcases List.mem_append.1 hc with hc | hc
      · exact ⟨c, h.mem_iff.2 hc, hx⟩
      · exact ⟨c, hc, hx⟩
  exact ⟨fun ⟨n, hn⟩ => ⟨n, hn.mono fun k t ht => (hm k t).1 ht⟩, fun ⟨n, hn⟩ => ⟨n, hn.mono fun k t ht => (hm k t).2 ht⟩⟩
/-- Turned by so many places. -/
def turned (l : List S54) (k : Nat) : List S54 := l.drop k ++ l.take k
theorem turned_perm (l : List S54) (k : Nat) : (turned l k).Perm l := (List.perm_append_comm).trans (by rw [List.take_append_drop])
theorem turned_length (l : List S54) (k : Nat) (hk : k ≤ l.length) : (turned l k).length = l.length := by unfold turned; simp; omega
theorem turned_get (l : List S54) (k i : Nat) (hk : k < l.length) (hi : i < l.length) : (turned l k)[i]? = l[(i + k) % l.length]? := by
  unfold turned
  by_cases hik : i < l.length - k
  · rw [List.getElem?_append_left (by rw [List.length_drop]; exact hik), List.getElem?_drop, Nat.mod_eq_of_lt (by omega), Nat.add_comm]
  · have e : (i + k) % l.length = i - (l.length - k) := by
      rw [Nat.mod_eq_sub_mod (by omega), Nat.mod_eq_of_lt (by omega)]; omega
    rw [List.getElem?_append_right (by rw [List.length_drop]; omega), List.length_drop, List.getElem?_take_of_lt (by omega), e]

end Go.Proofs.Ytfdceninhieheaa.Tru
end
