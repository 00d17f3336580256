/- slices.Insert of one row. -/
import Derived.Test.YtmfkgbncnaingaaRows1
namespace Go.Proofs.Ytmfkgbncnaingaa.Rows
open Go.RowKit Go.Lib Go.Proofs.Ytmfkgbncnaingaa.QRows Go.Proofs.YtmfkgbncnaingaaW.PrintWords Go.Proofs.YtmfkgbncnaingaaW.PrintLast Go.Proofs.YtmfkgbncnaingaaW.PrintMore

def spl {α : Type} (A : List α) (o : Nat) (D : List α) : List α := A.take o ++ D ++ A.drop (o + D.length)
theorem spl_length {α : Type} (A : List α) (o : Nat) (D : List α) (h : o + D.length ≤ A.length) : (spl A o D).length = A.length := by
  unfold spl; rw [List.length_append, List.length_append, List.length_take, List.length_drop]; omega
theorem spl_size (A : Array Value) (o n : Nat) (D : List Value) (hA : A.size = n) (h : o + D.length ≤ n) : (spl A.toList o D).toArray.size = n := by
  have e : A.toList.length = n := by rw [Array.length_toList]; exact hA
  have h2 := spl_length A.toList o D (by omega)
  have h3 : (spl A.toList o D).toArray.size = (spl A.toList o D).length := List.size_toArray
  omega
theorem shift_take {α : Type} (l D C : List α) (p k m : Nat) (hp : C.length = k) (hD : D.length = m) (hl : p + k + m ≤ l.length) : (spl (spl l (p + k) D) p C).take (p + k + m) = l.take p ++ C ++ D := by
  have e1 : (spl l (p + k) D).take p = l.take p := by
    unfold spl
    rw [List.append_assoc, List.take_append_of_le_length (by rw [List.length_take]; omega), List.take_take, Nat.min_eq_left (by omega)]
  have e2 : (spl l (p + k) D).drop (p + C.length) = D ++ l.drop (p + k + D.length) := by
    unfold spl
    rw [List.append_assoc, hp]
    exact List.drop_left' (by rw [List.length_take]; omega)
  rw [spl, e1, e2, ← List.append_assoc]
  exact List.take_left' (by rw [List.length_append, List.length_append, List.length_take]; omega)
theorem shift_cells (l : List Value) (xs : List S67) (c : S67) (i n : Nat) (hn : xs.length = n) (hi : i < n) (hl : (n + 1) * 2 ≤ l.length) (hcur : l.take (n * 2) = cells xs) : (spl (spl l ((i + 1) * 2) (cells (xs.drop i))) (i * 2) (cs c)).take ((n + 1) * 2) = cells (xs.take i ++ c :: xs.drop i) := by
  have h := shift_take l (cells (xs.drop i)) (cs c) (i * 2) 2 ((n - i) * 2) rfl (by rw [cells_length, List.length_drop, hn]) (by omega)
  rw [show i * 2 + 2 = (i + 1) * 2 by omega, show (i + 1) * 2 + (n - i) * 2 = (n + 1) * 2 by omega] at h
  have e : l.take (i * 2) = cells (xs.take i) := by
    rw [← cells_take, ← hcur, List.take_take, Nat.min_eq_left (by omega)]
  rw [h, e, cells_append, List.append_assoc]; rfl

set_option maxHeartbeats 4000000 in
set_option maxRecDepth 100000 in
/-- There is room: in place. -/
theorem Insert_shift (w : World) (g vb n cap i : Nat) (xs : List S67) (c : S67) (cur : Array Value) (hxs : xs.length = n) (hi : i < n) (hroom : n + 1 ≤ cap) (hcap : cap ≤ maxLen) (hvb : vb ≠ g) (hg : w.heap[g]? = some (.cells cur 67 (0, 0))) (hv : w.heap[vb]? = some (.cells #[.string c.f0, .string c.f1] 67 (0, 0)))
    (hsz : cur.size = cap * 2) (hcur : cur.toList.take (n * 2) = cells xs) :
    Calls Try.prog 80 #[.slice (some ⟨g, 0, none⟩) n cap, .int .i64 i, .slice (some ⟨vb, 0, none⟩) 1 1] w fun e w' =>
      e = .returned (.slice (some ⟨g, 0, none⟩) (n + 1) cap) ∧ ∃ cur', w' = w.drew.setRow g cur' ∧ cur'.size = cap * 2 ∧ cur'.toList.take ((n + 1) * 2) = cells (xs.take i ++ c :: xs.drop i) := by
  have mixed : Try.prog.follows .mixedOrders = true := by kernel_rfl
  have hc63 : cap ≤ 9223372036854775807 := by unfold maxLen at hcap; omega
  have hz2 : ¬ ((i : Int) = (n : Int)) := by omega
  have hz3 : ¬ ((cap : Int) < (n : Int) + 1) := by omega
  have hov : ∀ lb cb, (callFunc 94 #[.slice (some ⟨vb, 0, none⟩) 1 1, .slice (some ⟨g, (i + 1) * 2, none⟩) lb cb]).run Try.prog w = .ok (.value (.bool false)) w := fun lb cb =>
    overlaps_run w _ _ 1 1 lb cb _ _ _ _ hvb hv hg (by omega)
  have hD : cells (xs.drop i) = (cells xs).drop (i * 2) := (cells_drop xs i).symm
  have hDl : (cells (xs.drop i)).length = (n - i) * 2 := by rw [cells_length, List.length_drop, hxs]
  have hcell : ∀ j v, (cells (xs.drop i))[j]? = some v → w.cell? ⟨g, i * 2 + j, none⟩ = some v := fun j v hj => by
    have hj1 : j < (n - i) * 2 := by
      have := (List.getElem?_eq_some_iff.1 hj).1
      omega
    rw [hD, ← hcur, List.getElem?_drop, List.getElem?_take, if_pos (by omega)] at hj
    simpa [World.cell?, hg] using hj
  have hcp1 : ∀ ty dc sc, (Builtin.copy_ #[58, 58] ty #[.slice (some ⟨g, (i + 1) * 2, none⟩) (n - i) dc, .slice (some ⟨g, i * 2, none⟩) (n + 1 - i) sc]).run Try.prog w.drew = .ok (goInt (Nat.min (n + 1 - i) (n - i))) (w.drew.setRow g (spl cur.toList ((i + 1) * 2) (cells (xs.drop i))).toArray) := fun ty dc sc => by
    exact run_copy_wide w.drew 58 58 ty 67 2 g ((i + 1) * 2) (n - i) dc ⟨g, i * 2, none⟩ (n + 1 - i) sc cur 67 (cells (xs.drop i)) Try.underlying58 size67 hg (by rw [hDl]; simp only [Nat.min_def]; split <;> omega)
      (fun j v hj => by rw [Addr.add_lit]; exact hcell j v hj) (by rw [hDl]; omega) (cells_one _)
  obtain ⟨cur1, hcur1⟩ : ∃ cur1, cur1 = (spl cur.toList ((i + 1) * 2) (cells (xs.drop i))).toArray := ⟨_, rfl⟩
  have hc1s : cur1.size = cap * 2 := by rw [hcur1]; simp [spl, hDl]; omega
  rw [← hcur1] at hcp1
  have hg1 : ∀ W : World, W.heap = (w.drew.setRow g cur1).heap → W.heap[g]? = some (.cells cur1 67 (0, 0)) := fun W e => by rw [e]; exact setRow_heap _ _ _ _ _ _ hg
  have hcp2 : ∀ (W : World), W.heap = (w.drew.setRow g cur1).heap → ∀ ty dc, (Builtin.copy_ #[58, 58] ty #[.slice (some ⟨g, i * 2, none⟩) (n + 1 - i) dc, .slice (some ⟨vb, 0, none⟩) 1 1]).run Try.prog W = .ok (goInt (Nat.min 1 (n + 1 - i))) (W.setRow g (spl cur1.toList (i * 2) (cs c)).toArray) := fun W e ty dc => by
    exact run_copy_wide W 58 58 ty 67 2 g (i * 2) (n + 1 - i) dc ⟨vb, 0, none⟩ 1 1 cur1 67 (cs c) Try.underlying58 size67 (hg1 W e) (by show 2 = _; simp only [Nat.min_def]; split <;> omega)
      (fun j v hj => by
        rw [Addr.add_lit]
        have h2 : W.heap[vb]? = some (.cells #[.string c.f0, .string c.f1] 67 (0, 0)) := by rw [e, setRow_other _ _ _ _ hvb]; exact hv
        simpa [World.cell?, h2, cs] using hj) (by show i * 2 + 2 ≤ _; omega) (by intro v hv; simp [cs] at hv; rcases hv with rfl | rfl <;> rfl)
  have hw1 : IntKind.i64.wrap ((i : Int) + 1) = (i : Int) + 1 := by rw [IntKind.wrap_i64]; omega
  have hw2 : IntKind.i64.wrap ((n : Int) + 1) = (n : Int) + 1 := by rw [IntKind.wrap_i64]; omega
  have hb1 : (0 : Int) ≤ (i : Int) + 1 := by omega
  have hin : i ≤ n := by omega
  have htn : ((i : Int) + 1).toNat = i + 1 := by omega
  have htm : ((n : Int) + 1).toNat = n + 1 := by omega
  have hb2 : ¬ (cap = i + 1) := by omega
  have hb3 : (i : Int) ≤ (n : Int) + 1 := by omega
  have hb4 : ¬ (cap = i) := by omega
  have hT := Aside0.mk (shift_cells cur.toList xs c i n hxs hi (by rw [Array.length_toList]; omega) hcur)
  have hS : Aside0 ((spl cur1.toList (i * 2) (cs c)).toArray.size = cap * 2) := Aside0.mk (spl_size cur1 _ _ _ hc1s (by show i * 2 + 2 ≤ cap * 2; omega))
  have hE := Aside0.mk hcur1
  clear hcell hg1 hD hDl hcur1 hcur hc1s hsz
  go_enter Try.func80, Try.ntmps80
  go_wp2_with (simp only [hov])
  go_region_law_o (refine step_copy_runI rfl _ _ 58 58 rfl _ _ (by simp [Act.eval, Act.put]) (by simp [Act.eval, Act.put]) (hcp1 _ _ _) ?_)
  go_wp2_with (at_builtin; refine wpList_copy_runI _ rfl _ _ 58 58 rfl _ _ rfl rfl (hcp2 _ rfl _ _) ?_)
  go_ret
  refine ⟨rfl, (spl cur1.toList (i * 2) (cs c)).toArray, setRow_setRow _ _ _ _, hS.out, ?_⟩
  have h := hT.out
  rw [hE.out]
  exact h
theorem grow_take {α : Type} (l D C : List α) (p k m : Nat) (hp : C.length = k) (hD : D.length = m) (hl : p + k + m ≤ l.length) : (spl (spl l p C) (p + k) D).take (p + k + m) = l.take p ++ C ++ D := by
  have e1 : (spl l p C).take (p + k) = l.take p ++ C := by
    unfold spl
    exact List.take_left' (by rw [List.length_append, List.length_take]; omega)
  rw [spl, e1]
  exact List.take_left' (by rw [List.length_append, List.length_append, List.length_take]; omega)
theorem grow_cells (l : List Value) (xs : List S67) (c : S67) (i n : Nat) (hn : xs.length = n) (hi : i < n) (hl : (n + 1) * 2 ≤ l.length) (hcur : l.take (i * 2) = cells (xs.take i)) : (spl (spl l (i * 2) (cs c)) ((i + 1) * 2) (cells (xs.drop i))).take ((n + 1) * 2) = cells (xs.take i ++ c :: xs.drop i) := by
  have h := grow_take l (cells (xs.drop i)) (cs c) (i * 2) 2 ((n - i) * 2) rfl (by rw [cells_length, List.length_drop, hn]) (by omega)
  rw [show i * 2 + 2 = (i + 1) * 2 by omega, show (i + 1) * 2 + (n - i) * 2 = (n + 1) * 2 by omega] at h
  rw [h, hcur, cells_append, List.append_assoc]; rfl
theorem zero_size (z : Value) (hz : z.cells.size = 2) (k : Nat) : (Builtin.zeroCells z.cells k).size = k * 2 := by
  simp [Builtin.zeroCells, hz]

set_option maxHeartbeats 4000000 in
set_option maxRecDepth 100000 in
/-- There is no room: a new row. -/
theorem Insert_grow (w : World) (g vb n cap i : Nat) (xs : List S67) (c : S67) (cur : Array Value) (hxs : xs.length = n) (hi : i < n) (hn : n ≤ 1000) (hnc : n ≤ cap) (hroom : cap < n + 1) (hg : w.heap[g]? = some (.cells cur 67 (0, 0))) (hv : w.heap[vb]? = some (.cells #[.string c.f0, .string c.f1] 67 (0, 0)))
    (_hsz : cur.size = cap * 2) (hcur : cur.toList.take (n * 2) = cells xs) :
    Calls Try.prog 80 #[.slice (some ⟨g, 0, none⟩) n cap, .int .i64 i, .slice (some ⟨vb, 0, none⟩) 1 1] w fun e w' =>
      ∃ G cur', e = .returned (.slice (some ⟨w.heap.size, 0, none⟩) (n + 1) G) ∧ n + 1 ≤ G ∧ G ≤ maxLen ∧ Below w.heap.size w w' ∧ w'.heap[w.heap.size]? = some (.cells cur' 67 (0, 0)) ∧ cur'.size = G * 2 ∧ cur'.toList.take ((n + 1) * 2) = cells (xs.take i ++ c :: xs.drop i) := by
  have mixed : Try.prog.follows .mixedOrders = true := by kernel_rfl
  have hz2 : ¬ ((i : Int) = (n : Int)) := by omega
  have hz3 : (cap : Int) < (n : Int) + 1 := by omega
  have hgw : g < w.heap.size := (Array.getElem?_eq_some_iff.1 hg).1
  have hvw : vb < w.heap.size := (Array.getElem?_eq_some_iff.1 hv).1
  have hDl : (cells (xs.drop i)).length = (n - i) * 2 := by rw [cells_length, List.length_drop, hxs]
  have hTl : (cells (xs.take i)).length = i * 2 := by rw [cells_length, List.length_take, hxs]; omega
  have hcell : ∀ j v, (cells (xs.drop i))[j]? = some v → cur[i * 2 + j]? = some v := fun j v hj => by
    have hj1 : j < (n - i) * 2 := by
      have := (List.getElem?_eq_some_iff.1 hj).1
      omega
    rw [← cells_drop, ← hcur, List.getElem?_drop, List.getElem?_take, if_pos (by omega)] at hj
    simpa using hj
  have hcellT : ∀ j v, (cells (xs.take i))[j]? = some v → cur[j]? = some v := fun j v hj => by
    have hj1 : j < i * 2 := by
      have := (List.getElem?_eq_some_iff.1 hj).1
      omega
    rw [← cells_take, ← hcur, List.getElem?_take, if_pos (by omega), List.getElem?_take, if_pos (by omega)] at hj
    simpa using hj
  obtain ⟨i0, hi0, hz0, hzs, hzb⟩ := info_parts info67
  have hold : (Builtin.firstCells i0.size i (.slice (some ⟨g, 0, none⟩) i cap)).run Try.prog w.drew = .ok (cells (xs.take i)).toArray w.drew := by
    rw [hzs]
    exact run_firstCells_some w.drew 2 i ⟨g, 0, none⟩ i cap _ (by rw [hTl]) (fun j v hj => by
      rw [Addr.add_lit, Nat.zero_add]
      have h2 : w.drew.heap[g]? = some (.cells cur 67 (0, 0)) := hg
      simpa [World.cell?, h2] using hcellT j v hj)
  have hik : i + (n + 1 - i) = n + 1 := by omega
  have hkk : (n : Int) + 1 - (i : Int) = ((n + 1 - i : Nat) : Int) := by omega
  obtain ⟨z, hzz⟩ : ∃ z : Value, z = .agg #[(.string ⟨#[]⟩), (.string ⟨#[]⟩)] := ⟨_, rfl⟩
  have hzc : z.cells.size = 2 := by rw [hzz]; rfl
  rw [← hzz] at hz0
  obtain ⟨G, hG⟩ : ∃ G, G = grownCap w (n + 1) cap 67 := ⟨_, rfl⟩
  obtain ⟨ROW, hROW⟩ : ∃ ROW : Array Value, ROW = (cells (xs.take i)).toArray ++ Builtin.zeroCells z.cells (n + 1 - i) ++ Builtin.zeroCells z.cells (G - (n + 1)) := ⟨_, rfl⟩
  have hrz : ∀ ty, (Builtin.append_ #[58, 3] ty #[.slice (some ⟨g, 0, none⟩) i cap, .int .i64 ((n : Int) + 1 - (i : Int))]).run Try.prog w =
      .ok (.slice (some ⟨w.heap.size, 0, none⟩) (n + 1) G) (w.drew.alloc (.cells ROW 67)) := fun ty => by
    have h := Lib.run_append_grow_zeros w 58 3 ty 67 i0 z .i64 .i64 Try.underlying58 Try.underlying3 hi0 hz0 (some ⟨g, 0, none⟩) i cap (cells (xs.take i)) hold (n + 1 - i) (by omega) (by omega) (by omega) (by omega) (by rw [hzb]; omega) (by rw [hzb, hik]; exact growslice_fits hroom (by omega))
    rw [hik, ← hG, ← hROW] at h
    rw [hkk]
    exact h
  have hGn : n + 1 ≤ G := by rw [hG]; exact grownCap_ge w _ _ _
  have hGm : G ≤ maxLen := by rw [hG]; exact grownCap_le_maxLen w (n + 1) cap 67 (by unfold maxLen; omega)
  have hG63 : G ≤ 9223372036854775807 := by unfold maxLen at hGm; omega
  have hRs : ROW.size = G * 2 := by
    rw [hROW]
    simp only [Array.size_append, List.size_toArray, zero_size z hzc, hTl]
    omega
  have hRt : ROW.toList.take (i * 2) = cells (xs.take i) := by
    rw [hROW, Array.toList_append, Array.toList_append, List.append_assoc]
    exact List.take_left' hTl
  have hNg : g ≠ w.heap.size := by omega
  have hNv : vb ≠ w.heap.size := by omega
  obtain ⟨W1, hW1⟩ : ∃ W1, W1 = w.drew.alloc (.cells ROW 67) := ⟨_, rfl⟩
  have hN1 : W1.heap[w.heap.size]? = some (.cells ROW 67 (0, 0)) := by
    rw [hW1]
    show (w.heap.push _)[w.heap.size]? = _
    rw [Array.getElem?_push_size]
  have hv1 : W1.heap[vb]? = some (.cells #[.string c.f0, .string c.f1] 67 (0, 0)) := by
    rw [hW1]
    show (w.heap.push _)[vb]? = _
    rw [Array.getElem?_push_lt hvw, ← Array.getElem?_eq_getElem hvw]; exact hv
  have hg1 : W1.heap[g]? = some (.cells cur 67 (0, 0)) := by
    rw [hW1]
    show (w.heap.push _)[g]? = _
    rw [Array.getElem?_push_lt hgw, ← Array.getElem?_eq_getElem hgw]; exact hg
  obtain ⟨A1, hA1⟩ : ∃ A1, A1 = (spl ROW.toList (i * 2) (cs c)).toArray := ⟨_, rfl⟩
  have hA1s : A1.size = G * 2 := by
    rw [hA1]; exact spl_size ROW _ _ _ hRs (by show i * 2 + 2 ≤ G * 2; omega)
  have hcpA : ∀ (W : World), W.heap = W1.heap → ∀ ty dc, (Builtin.copy_ #[58, 58] ty #[.slice (some ⟨w.heap.size, i * 2, none⟩) (n + 1 - i) dc, .slice (some ⟨vb, 0, none⟩) 1 1]).run Try.prog W = .ok (goInt (Nat.min 1 (n + 1 - i))) (W.setRow w.heap.size A1) := fun W e ty dc => by
    rw [hA1]
    exact run_copy_wide W 58 58 ty 67 2 w.heap.size (i * 2) (n + 1 - i) dc ⟨vb, 0, none⟩ 1 1 ROW 67 (cs c) Try.underlying58 size67 (by rw [e]; exact hN1) (by show 2 = _; simp only [Nat.min_def]; split <;> omega)
      (fun j v hj => by
        rw [Addr.add_lit]
        have h2 : W.heap[vb]? = some (.cells #[.string c.f0, .string c.f1] 67 (0, 0)) := by rw [e]; exact hv1
        simpa [World.cell?, h2, cs] using hj) (by show i * 2 + 2 ≤ _; omega) (by intro v hv; simp [cs] at hv; rcases hv with rfl | rfl <;> rfl)
  obtain ⟨A2, hA2⟩ : ∃ A2, A2 = (spl A1.toList ((i + 1) * 2) (cells (xs.drop i))).toArray := ⟨_, rfl⟩
  have hcpB : ∀ (W : World), W.heap = (W1.setRow w.heap.size A1).heap → ∀ ty dc sc, (Builtin.copy_ #[58, 58] ty #[.slice (some ⟨w.heap.size, (i + 1) * 2, none⟩) (n - i) dc, .slice (some ⟨g, i * 2, none⟩) (n - i) sc]).run Try.prog W = .ok (goInt (Nat.min (n - i) (n - i))) (W.setRow w.heap.size A2) := fun W e ty dc sc => by
    rw [hA2]
    exact run_copy_wide W 58 58 ty 67 2 w.heap.size ((i + 1) * 2) (n - i) dc ⟨g, i * 2, none⟩ (n - i) sc A1 67 (cells (xs.drop i)) Try.underlying58 size67 (by rw [e]; exact setRow_heap _ _ _ _ _ _ hN1) (by rw [hDl]; simp only [Nat.min_def]; split <;> omega)
      (fun j v hj => by
        rw [Addr.add_lit]
        have h2 : W.heap[g]? = some (.cells cur 67 (0, 0)) := by rw [e, setRow_other _ _ _ _ hNg]; exact hg1
        simpa [World.cell?, h2] using hcell j v hj) (by rw [hDl]; omega) (cells_one _)
  have hT : Aside0 (A2.toList.take ((n + 1) * 2) = cells (xs.take i ++ c :: xs.drop i)) := Aside0.mk (by
    rw [hA2, hA1]
    exact grow_cells ROW.toList xs c i n hxs hi (by rw [Array.length_toList]; omega) hRt)
  have hA2s : Aside0 (A2.size = G * 2) := Aside0.mk (by
    rw [hA2]; exact spl_size A1 _ _ _ hA1s (by rw [hDl]; omega))
  have hB1 := Aside0.mk (show Below w.heap.size w W1 by rw [hW1]; exact (Below.refl _ _).drew.alloc (Nat.le_refl _) _)
  have hW := Aside0.mk hW1
  have hN := Aside0.mk hN1
  have hNN := Aside0.mk hGn
  have hMM := Aside0.mk hGm
  have hw1 : IntKind.i64.wrap ((i : Int) + 1) = (i : Int) + 1 := by rw [IntKind.wrap_i64]; omega
  have hw2 : IntKind.i64.wrap ((n : Int) + 1) = (n : Int) + 1 := by rw [IntKind.wrap_i64]; omega
  have hw3 : IntKind.i64.wrap ((n : Int) + 1 - (i : Int)) = (n : Int) + 1 - (i : Int) := by rw [IntKind.wrap_i64]; omega
  have hb1 : (0 : Int) ≤ (i : Int) + 1 := by omega
  have hin : i ≤ n := by omega
  have htn : ((i : Int) + 1).toNat = i + 1 := by omega
  have hGi : ¬ (G = i) := by omega
  have hGim : ¬ (G = i + 1) := by omega
  have hci : ¬ (cap = i) := by omega
  have hb3 : (i : Int) ≤ (n : Int) := by omega
  rw [← hW1] at hrz
  clear hcell hcellT hold hROW hG hRs hRt hA1 hA2 hA1s hDl hTl hik hkk hcur hzz hzc hz0 hzs hzb hi0 hg1 hv1 hN1 hGn hGm hW1
  go_enter Try.func80, Try.ntmps80
  go_wp2_with (first
    | (at_builtin; refine Lib.wpList_append_run _ rfl _ _ _ _ rfl _ _ rfl rfl _ _ (hrz _) ?_)
    | (at_builtin; refine wpList_copy_runI _ rfl _ _ 58 58 rfl _ _ rfl rfl (hcpA _ rfl _ _) ?_)
    | (at_builtin; refine wpList_copy_runI _ rfl _ _ 58 58 rfl _ _ rfl rfl (hcpB _ rfl _ _ _) ?_))
  go_region_law_o (refine step_copy_runI rfl _ _ 58 58 rfl (.slice (some ⟨w.heap.size, (i + 1) * 2, none⟩) (n - i) (G - (i + 1))) (.slice (some ⟨g, i * 2, none⟩) (n - i) (cap - i)) (by simp [Act.eval, Act.put]) (by simp [Act.eval, Act.put]) (hcpB _ (by rfl) 3 (G - (i + 1)) (cap - i)) ?_)
  go_wp2
  go_ret
  refine ⟨G, A2, rfl, hNN.out, hMM.out, ?_, ?_, hA2s.out, hT.out⟩
  · exact below_setRow (below_drew1 (below_setRow hB1.out (Nat.le_refl _) _)) (Nat.le_refl _) _
  · exact setRow_heap _ _ _ _ _ _ (setRow_heap _ _ _ _ _ _ hN.out)

/-- One row that lies in a block of its own. -/
theorem one_reads {w : World} {vb : Nat} {c : S67} (hv : w.heap[vb]? = some (.cells #[.string c.f0, .string c.f1] 67 (0, 0))) : k67.C w (some ⟨vb, 0, none⟩) 1 [c] := by
  refine ⟨rfl, by omega, fun _ => ⟨_, rfl, fun j p hj => ?_⟩⟩
  cases j with
  | zero =>
    injection hj with hj
    subst hj
    refine ⟨_, rfl, k67_mk w c, fun k u hk => ?_⟩
    rw [Addr.add_lit]
    simpa [World.cell?, hv] using hk
  | succ j => cases hj

set_option maxHeartbeats 4000000 in
set_option maxRecDepth 100000 in
/-- At the end. -/
theorem Insert_end1 (w : World) (base vb : Nat) (ok : Nat → Prop) (A : Option Addr) (cp : Nat) (xs : List S67) (c : S67) (hcp : xs.length < cp) (hl : xs.length ≤ 1000) (hbase : base ≤ w.heap.size) (hfresh : ∀ k, w.heap.size ≤ k → ok k) (HO : k67.R 67 w base ok (.slice A xs.length cp) xs) (hv : w.heap[vb]? = some (.cells #[.string c.f0, .string c.f1] 67 (0, 0))) :
    Calls Try.prog 80 #[.slice A xs.length cp, .int .i64 xs.length, .slice (some ⟨vb, 0, none⟩) 1 1] w fun e w' => ∃ v', e = .returned v' ∧ k67.R 67 w' base ok v' (xs ++ [c]) ∧ Below base w w' ∧ (v'.ownBlock = (Value.slice A xs.length cp).ownBlock ∨ ∃ b, v'.ownBlock = some b ∧ w.heap.size ≤ b) := by
  have HR := Aside0.mk HO
  have HC := Aside0.mk (one_reads hv)
  have hF := Aside0.mk hfresh
  have hne : ¬ (cp = xs.length) := by omega
  clear hfresh HO hv
  go_enter Try.func80, Try.ntmps80
  go_wp2_with (first | (at_builtin; refine Kd.R_append_rows k67 (w0 := w) base rfl (.tmp 23) (.tmp 24) 58 67 (.agg #[(.string ⟨#[]⟩), (.string ⟨#[]⟩)]) 32 rfl Try.underlying58 info67 rfl (by decide) (by omega) (.slice A xs.length cp) xs [c] _ _ _ ok (fun _ => False) rfl rfl HR.out HC.out (fun x cs h => by rw [k67_open h]; exact k67_mkM _ _ _ x) (fun _ h => h.elim) hF.out (Below.refl _ _) hbase (by omega) ?_; intro v1 w1 ho hb _ hat; have H1 := Aside0.mk ho; have H2 := Aside0.mk hb; have H3 := Aside0.mk hat; clear ho hb hat))
  go_ret
  exact ⟨_, rfl, H1.out, H2.out, H3.out⟩

set_option maxHeartbeats 4000000 in
set_option maxRecDepth 100000 in
/-- At the end. -/
theorem Insert_end2 (w : World) (base vb : Nat) (ok : Nat → Prop) (A : Option Addr) (xs : List S67) (c : S67) (hl : xs.length ≤ 1000) (hbase : base ≤ w.heap.size) (hfresh : ∀ k, w.heap.size ≤ k → ok k) (HO : k67.R 67 w base ok (.slice A xs.length xs.length) xs) (hv : w.heap[vb]? = some (.cells #[.string c.f0, .string c.f1] 67 (0, 0))) :
    Calls Try.prog 80 #[.slice A xs.length xs.length, .int .i64 xs.length, .slice (some ⟨vb, 0, none⟩) 1 1] w fun e w' => ∃ v', e = .returned v' ∧ k67.R 67 w' base ok v' (xs ++ [c]) ∧ Below base w w' ∧ (v'.ownBlock = (Value.slice A xs.length xs.length).ownBlock ∨ ∃ b, v'.ownBlock = some b ∧ w.heap.size ≤ b) := by
  have HR := Aside0.mk HO
  have HC := Aside0.mk (one_reads hv)
  have hF := Aside0.mk hfresh

  clear hfresh HO hv
  go_enter Try.func80, Try.ntmps80
  go_wp2_with (first | (at_builtin; refine Kd.R_append_rows k67 (w0 := w) base rfl (.tmp 23) (.tmp 24) 58 67 (.agg #[(.string ⟨#[]⟩), (.string ⟨#[]⟩)]) 32 rfl Try.underlying58 info67 rfl (by decide) (by omega) (.slice A xs.length xs.length) xs [c] _ _ _ ok (fun _ => False) rfl rfl HR.out HC.out (fun x cs h => by rw [k67_open h]; exact k67_mkM _ _ _ x) (fun _ h => h.elim) hF.out (Below.refl _ _) hbase (by omega) ?_; intro v1 w1 ho hb _ hat; have H1 := Aside0.mk ho; have H2 := Aside0.mk hb; have H3 := Aside0.mk hat; clear ho hb hat))
  go_ret
  exact ⟨_, rfl, H1.out, H2.out, H3.out⟩

theorem Insert_end (w : World) (base vb : Nat) (ok : Nat → Prop) (v : Value) (xs : List S67) (c : S67) (hl : xs.length ≤ 1000) (hbase : base ≤ w.heap.size) (hfresh : ∀ k, w.heap.size ≤ k → ok k) (HO : k67.R 67 w base ok v xs) (hv : w.heap[vb]? = some (.cells #[.string c.f0, .string c.f1] 67 (0, 0))) :
    Calls Try.prog 80 #[v, .int .i64 xs.length, .slice (some ⟨vb, 0, none⟩) 1 1] w fun e w' => ∃ v', e = .returned v' ∧ k67.R 67 w' base ok v' (xs ++ [c]) ∧ Below base w w' ∧ (v'.ownBlock = v.ownBlock ∨ ∃ b, v'.ownBlock = some b ∧ w.heap.size ≤ b) := by
  obtain ⟨A, cp, rfl, hcp, -⟩ := Kd.R_reads HO
  rcases Nat.eq_or_lt_of_le hcp with h | h
  · subst h; exact Insert_end2 w base vb ok A xs c hl hbase hfresh HO hv
  · exact Insert_end1 w base vb ok A cp xs c h hl hbase hfresh HO hv

/-- slices.Insert of one row. -/
theorem Insert_calls (w : World) (base vb i : Nat) (ok : Nat → Prop) (v : Value) (xs : List S67) (c : S67) (hi : i ≤ xs.length) (hl : xs.length ≤ 1000) (hbase : base ≤ w.heap.size) (hfresh : ∀ k, w.heap.size ≤ k → ok k) (HO : k67.R 67 w base ok v xs) (hv : w.heap[vb]? = some (.cells #[.string c.f0, .string c.f1] 67 (0, 0))) (hvb : v.ownBlock ≠ some vb) :
    Calls Try.prog 80 #[v, .int .i64 i, .slice (some ⟨vb, 0, none⟩) 1 1] w fun e w' => ∃ v', e = .returned v' ∧ k67.R 67 w' base ok v' (xs.take i ++ c :: xs.drop i) ∧ Below base w w' ∧ (v'.ownBlock = v.ownBlock ∨ ∃ b, v'.ownBlock = some b ∧ w.heap.size ≤ b) := by
  have hxl : (xs.take i ++ c :: xs.drop i).length = xs.length + 1 := by rw [List.length_append, List.length_cons, List.length_take, List.length_drop]; omega
  by_cases he : i = xs.length
  · subst he
    rw [List.take_of_length_le (Nat.le_refl _), List.drop_of_length_le (Nat.le_refl _)]
    exact Insert_end w base vb ok v xs c hl hbase hfresh HO hv
  · rcases row_open HO with ⟨rfl, rfl⟩ | ⟨g, cap, cur, rfl, hb, hok, hg, h1, h2, h3, h4⟩
    · exact absurd hi (by simp only [List.length_nil] at *; omega)
    · have hvg : vb ≠ g := fun e => hvb (by rw [e]; rfl)
      by_cases hr : xs.length + 1 ≤ cap
      · refine (Insert_shift w g vb xs.length cap i xs c cur rfl (by omega) hr h2 hvg hg hv h3 h4).mono ?_
        rintro e w' ⟨rfl, cur', rfl, h5, h6⟩
        refine ⟨_, rfl, ?_, below_setRow (below_drew1 (Below.refl _ _)) hb _, .inl rfl⟩
        rw [← hxl] at h6 hr ⊢
        exact row_close hb hok (setRow_heap _ _ _ _ _ _ hg) hr h2 h5 h6
      · refine (Insert_grow w g vb xs.length cap i xs c cur rfl (by omega) hl h1 (by omega) hg hv h3 h4).mono ?_
        rintro e w' ⟨G, cur', rfl, h5, h6, h7, h8, h9, h10⟩
        refine ⟨_, rfl, ?_, h7.mono hbase, .inr ⟨_, rfl, Nat.le_refl _⟩⟩
        rw [← hxl] at h5 h10 ⊢
        exact row_close hbase (hfresh _ (Nat.le_refl _)) h8 h5 h6 h9 h10

end Go.Proofs.Ytmfkgbncnaingaa.Rows
