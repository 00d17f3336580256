/- An argument of the laws: a slice of acts, each with a slice of rows and a key. -/
import Derived.Test.YtmfkgbncnaingaaGStore
import Derived.SizedLaws
namespace Go.Proofs.Ytmfkgbncnaingaa.Sto
open Go.Proofs.Ytmfkgbncnaingaa.QStore (S83 k83 k83_mk)
open Go.RowKit Go.Deep Go.ChangeShapes Go.WideShapes Go.Proofs.Ytmfkgbncnaingaa.QRows Go.Proofs.YtmfkgbncnaingaaW.PrintWords Go.Proofs.YtmfkgbncnaingaaW.PrintLast Go.Proofs.YtmfkgbncnaingaaW.PrintMore
set_option linter.unusedVariables false

section
variable {H : Type} {enc : TypeId × Value → H} {w : World} {base : Nat} {held : Bool}
set_option maxRecDepth 100000 in
theorem rowCells {fuel : Nat} {cs : List Value} {x : DataW H × List MemPlace} (h : DataW.trod enc Try.prog w base (fun _ => true) held fuel 67 cs = some x) : ∃ p : S67, k67.K w p cs := by
  obtain ⟨ys, n, _, _, hcl, hyl, hf⟩ := DataW.trod_struct Try.underlying67 h
  have hc2 : Try.prog.cellsOf 67 = 2 := by kernel_rfl
  have c9 : Try.prog.cellsOf 9 = 1 := by kernel_rfl
  rw [hc2] at hcl
  have hyl2 : ys.length = 2 := hyl
  clear hyl
  match cs, hcl, ys, hyl2 with
  | [v0, v1], _, [y0, y1], _ =>
    have h0 := hf 0 _ rfl
    have h1 := hf 1 _ rfl
    simp [c9] at h0 h1
    obtain ⟨s0, e0, _, _⟩ := DataW.trod_string under9 h0
    obtain ⟨s1, e1, _, _⟩ := DataW.trod_string under9 h1
    simp at e0 e1
    subst e0 e1
    exact ⟨⟨s0, s1⟩, k67_mk w ⟨s0, s1⟩⟩
theorem rowsArg {fuel : Nat} {v : Value} {x : DataW H × List MemPlace} (h : DataW.trod enc Try.prog w base (fun _ => true) held fuel 58 [v] = some x) :
    ∃ A n c zs, v = .slice A n c ∧ zs.length = n ∧ n ≤ c ∧ Kd.C k67 w A n zs := by
  rcases open_slice Try.underlying58 h with ⟨hcs, _⟩ | ⟨a, len, cap, m, k, D, Pl, hcs, _, hl, hm, hmm, _, hi⟩
  · simp at hcs
    exact ⟨none, 0, 0, [], hcs, rfl, Nat.le_refl _, Kd.C_nil _ _⟩
  · simp at hcs hmm
    subst hmm
    unfold maxLen at hm
    have hc2 : Try.prog.cellsOf 67 = 2 := by kernel_rfl
    rw [hc2] at hi
    have h2 : ∀ i, i < len → ∃ p : S67, ∃ cs, cs.length = 2 ∧ k67.K w p cs ∧ ∀ j u, cs[j]? = some u → w.cell? (a.add (i * 2 + j)) = some u := fun i him => by
      obtain ⟨cs, hc, ht⟩ := hi i (by omega)
      obtain ⟨_, hcl, hat⟩ := World.cells?_some hc
      obtain ⟨p, hK⟩ := rowCells ht
      refine ⟨p, cs, hcl, hK, fun j u hj => ?_⟩
      obtain ⟨hj3, _⟩ := List.getElem?_eq_some_iff.1 hj
      rw [← Go.Deep.add_add, hat j (by omega), hj]
    obtain ⟨f, hf⟩ : ∃ f : Nat → S67, ∀ i, i < len → ∃ cs, cs.length = 2 ∧ k67.K w (f i) cs ∧ ∀ j u, cs[j]? = some u → w.cell? (a.add (i * 2 + j)) = some u := by
      haveI : Inhabited S67 := ⟨⟨⟨#[]⟩, ⟨#[]⟩⟩⟩
      exact choose_lt h2
    refine ⟨some a, len, _, (List.range len).map f, hcs, by simp, hl, by simp, by omega, fun _ => ⟨a, rfl, fun j p hj => ?_⟩⟩
    obtain ⟨hjl, hp⟩ := List.getElem?_eq_some_iff.1 hj
    simp at hjl hp
    subst hp
    exact hf j hjl
set_option maxRecDepth 100000 in
/-- One act's cells; its key is no longer than its weight. -/
theorem actCells {fuel : Nat} {cs : List Value} {x : DataW H × List MemPlace} (h : DataW.trod enc Try.prog w base (fun _ => true) held fuel 83 cs = some x) : ∃ p : S83, k83.K w p cs ∧ p.f2.size ∈ x.1.weights Try.prog 83 := by
  obtain ⟨ys, n, _, hx, hcl, hyl, hf⟩ := DataW.trod_struct Try.underlying83 h
  have hc4 : Try.prog.cellsOf 83 = 4 := by kernel_rfl
  have c3 : Try.prog.cellsOf 3 = 1 := by kernel_rfl
  have c58 : Try.prog.cellsOf 58 = 1 := by kernel_rfl
  have c9 : Try.prog.cellsOf 9 = 1 := by kernel_rfl
  rw [hc4] at hcl
  have hyl4 : ys.length = 4 := hyl
  clear hyl
  match cs, hcl, ys, hyl4 with
  | [v0, v1, v2, v3], _, [y0, y1, y2, y3], _ =>
    have h0 := hf 0 _ rfl
    have h1 := hf 1 _ rfl
    have h2 := hf 2 _ rfl
    have h3 := hf 3 _ rfl
    simp [c3, c58, c9] at h0 h1 h2 h3
    obtain ⟨n0, e0, _⟩ := DataW.trod_int Try.underlying3 h0
    obtain ⟨s2, e2, hy2, _⟩ := DataW.trod_string under9 h2
    obtain ⟨n3, e3, _⟩ := DataW.trod_int Try.underlying3 h3
    obtain ⟨A, n1, c, zs, e1, hz, hl, hC⟩ := rowsArg h1
    simp at e0 e2 e3
    subst e0 e2 e3 e1 hz
    refine ⟨⟨n0, zs, s2, n3⟩, k83_mk w ⟨n0, zs, s2, n3⟩ hl hC, ?_⟩
    rw [hx, hy2]
    simp only [DataW.weights, Try.underlying83]
    simp [DataW.weightsEach, DataW.weights]
theorem weightsAll_mem {P : Program} {e : TypeId} : ∀ {ds : List (DataW H)} {d : DataW H}, d ∈ ds → ∀ n ∈ d.weights P e, n ∈ DataW.weightsAll P e ds
  | d0 :: ds, d, hd, n, hn => by
    simp only [DataW.weightsAll, List.mem_append]
    rcases List.mem_cons.1 hd with h | h
    · subst h; exact .inl hn
    · exact .inr (weightsAll_mem h n hn)
/-- A slice of acts; its length and its keys are no longer than its weights. -/
theorem actsArg {fuel : Nat} {A : Option Addr} {n c : Nat} {x : DataW H × List MemPlace} (h : DataW.trod enc Try.prog w base (fun _ => true) held fuel 75 [.slice A n c] = some x) (hs : ∀ k ∈ x.1.weights Try.prog 75, k ≤ reachBytes) :
    ∃ zs : List S83, zs.length = n ∧ n ≤ c ∧ Kd.C k83 w A n zs ∧ zs.length ≤ 1000000000000000 ∧ ∀ m ∈ zs, m.f2.size ≤ 140737488351232 := by
  rcases open_slice Try.underlying75 h with ⟨hcs, _⟩ | ⟨a, len, cap, m, k, D, Pl, hcs, _, hl, hm, hmm, hx, hi⟩
  · simp at hcs
    obtain ⟨rfl, rfl, rfl⟩ := hcs
    exact ⟨[], rfl, Nat.le_refl _, Kd.C_nil _ _, by simp, fun m hm => by cases hm⟩
  · simp at hcs
    obtain ⟨rfl, rfl, rfl⟩ := hcs
    simp at hmm
    subst hmm
    unfold maxLen at hm
    have hc4 : Try.prog.cellsOf 83 = 4 := by kernel_rfl
    have hb : 1 ≤ Try.prog.bytesOf 83 := by decide +kernel
    rw [hc4] at hi
    rw [hx] at hs
    simp only [DataW.weights, Try.underlying75] at hs
    have hlen : n ≤ reachBytes := by
      have := hs _ List.mem_cons_self
      simp at this
      have h3 := Nat.le_mul_of_pos_right (n + (m - n)) hb
      omega
    have h2 : ∀ i, i < n → ∃ p : S83, (∃ cs, cs.length = 4 ∧ k83.K w p cs ∧ ∀ j u, cs[j]? = some u → w.cell? (a.add (i * 4 + j)) = some u) ∧ p.f2.size ≤ reachBytes := fun i him => by
      obtain ⟨cs, hc, ht⟩ := hi i (by omega)
      obtain ⟨_, hcl, hat⟩ := World.cells?_some hc
      obtain ⟨p, hK, hwt⟩ := actCells ht
      refine ⟨p, ⟨cs, hcl, hK, fun j u hj => ?_⟩, ?_⟩
      · obtain ⟨hj3, _⟩ := List.getElem?_eq_some_iff.1 hj
        rw [← Go.Deep.add_add, hat j (by omega), hj]
      · refine hs _ (List.mem_cons_of_mem _ (List.mem_append.2 (.inl (weightsAll_mem (List.mem_map.2 ⟨i, List.mem_range.2 him, rfl⟩) _ hwt))))
    obtain ⟨f, hf⟩ : ∃ f : Nat → S83, ∀ i, i < n → (∃ cs, cs.length = 4 ∧ k83.K w (f i) cs ∧ ∀ j u, cs[j]? = some u → w.cell? (a.add (i * 4 + j)) = some u) ∧ (f i).f2.size ≤ reachBytes := by
      haveI : Inhabited S83 := ⟨⟨0, [], ⟨#[]⟩, 0⟩⟩
      exact choose_lt h2
    have hR : reachBytes = 140737488351232 := by decide
    refine ⟨(List.range n).map f, by simp, hl, ⟨by simp, by omega, fun _ => ⟨a, rfl, fun j p hj => ?_⟩⟩, by simp; omega, fun m hm => ?_⟩
    · obtain ⟨hjl, hp⟩ := List.getElem?_eq_some_iff.1 hj
      simp at hjl hp
      subst hp
      exact (hf j hjl).1
    · obtain ⟨i, hi, rfl⟩ := List.mem_map.1 hm
      have := (hf i (List.mem_range.1 hi)).2
      omega
end
end Go.Proofs.Ytmfkgbncnaingaa.Sto
