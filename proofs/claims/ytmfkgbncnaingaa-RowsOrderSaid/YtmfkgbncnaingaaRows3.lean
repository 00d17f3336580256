/- slices.Delete of one row. -/
import Derived.Test.YtmfkgbncnaingaaRows2
namespace Go.Proofs.Ytmfkgbncnaingaa.Rows
open Go.RowKit Go.Lib Go.Proofs.Ytmfkgbncnaingaa.QRows Go.Proofs.YtmfkgbncnaingaaW.PrintWords Go.Proofs.YtmfkgbncnaingaaW.PrintLast Go.Proofs.YtmfkgbncnaingaaW.PrintMore

/-- An append as one step of a region that draws, where its run is known. -/
theorem step_append_is {P : Program} {ops : Array Oper} {o : Oper} {a : Act} {w : World} {K : Act → World → Prop} {Q : Exit → Act → World → Prop} {E : Prop}
    (hg : o.guard = none) (d x : Operand) (dT sT : TypeId) (hop : o.op = Op.call { callee := Callee.builtin Builtin.append, args := #[d, x], argTypes := #[dT, sT] })
    (v u : Value) (hd : a.eval d = v) (hx : a.eval x = u) {v' : Value} {w' : World} (hr : (Builtin.append_ #[dT, sT] o.type #[v, u]).run P w = .ok v' w') (hK : K (a.put o.dst v') w') :
    if Region.wanted o (yielded ops a.tmps) = true then Oper.wp P o a w K Q else E := by
  have hw : Region.wanted o (yielded ops a.tmps) = true := by simp [Region.wanted, hg]
  rw [if_pos hw]
  unfold Oper.wp
  simp [execOp, hop, resolve, invoke, builtin, hd, hx, hr, Result.andThen]
  exact hK
/-- The builtin clear, where its run is known. -/
theorem wpList_clear_is {P : Program} (w : World) {ops : Array Oper} {rest : List Oper} {o : Oper} {a : Act} {Q : Exit → Act → World → Prop} (hgd : o.guard = none) (s : Operand) (t : TypeId)
    (ho : o.op = .call { callee := .builtin .clear, args := #[s], argTypes := #[t] }) (u : Value) (hs : a.eval s = u) {v' : Value} {w' : World}
    (hr : (Builtin.clear_ #[t] o.type #[u]).run P w = .ok v' w') (h : wpList P ops Q rest (a.put o.dst v') w') : wpList P ops Q (o :: rest) a w := by
  refine wpList_plain hgd fun K hK => ?_
  unfold Oper.wp execOp
  simp only [ho, resolve, invoke, builtin, Sem.run_bind, Sem.run_pure, Result.andThen_ok, List.map_toArray, List.map_cons, List.map_nil, hs, hr]
  exact hK _ _ h
theorem zero67 (w : World) : (zeroValue 67).run Try.prog w = .ok (.agg #[(.string ⟨#[]⟩), (.string ⟨#[]⟩)]) w := by
  obtain ⟨i0, hi0, hz0, hzs, hzb⟩ := info_parts info67
  simp [zeroValue, typeInfo, hi0, hz0]
def noCells : List Value := [.string ⟨#[]⟩, .string ⟨#[]⟩]
theorem zeroCells_one : (Builtin.zeroCells (Value.agg #[(.string ⟨#[]⟩), (.string ⟨#[]⟩)]).cells 1).toList = noCells := by kernel_rfl
theorem run_clear_one (w : World) (ty : TypeId) (g o c : Nat) (cur : Array Value) (t : TypeId) (hg : w.heap[g]? = some (.cells cur t (0, 0))) (hfit : o + 2 ≤ cur.size) :
    (Builtin.clear_ #[58] ty #[.slice (some ⟨g, o, none⟩) 1 c]).run Try.prog w = .ok (.tuple #[]) (w.setRow g (spl cur.toList o noCells).toArray) := by
  have hst := run_storeCells_at Try.prog g o t noCells 0 cur w hg (by show o + 0 + 2 ≤ cur.size; omega) (by intro v hv; simp [noCells] at hv; rw [hv]; rfl)
  rw [Nat.add_zero] at hst
  have hst' : (storeCells ⟨g, o, none⟩ noCells).run Try.prog w = .ok () (w.setRow g (spl cur.toList o noCells).toArray) := hst
  simp [Builtin.clear_, run_underlying Try.underlying58, zeroCells_one, hst']

theorem delete_take {α : Type} (l D Z : List α) (p m : Nat) (hD : D.length = m) (hl : p + m ≤ l.length) : (spl (spl l p D) (p + m) Z).take (p + m) = l.take p ++ D := by
  have e1 : (spl l p D).take (p + m) = l.take p ++ D := by
    unfold spl
    exact List.take_left' (by rw [List.length_append, List.length_take]; omega)
  rw [spl, e1, List.append_assoc]
  exact List.take_left' (by rw [List.length_append, List.length_take]; omega)

set_option maxHeartbeats 4000000 in
set_option maxRecDepth 100000 in
theorem Delete_raw (w : World) (g i m cap : Nat) (xs : List S67) (cur : Array Value) (hxs : xs.length = i + m + 1) (hn : i + m + 1 ≤ cap) (hcap : cap ≤ maxLen) (hg : w.heap[g]? = some (.cells cur 67 (0, 0)))
    (hsz : cur.size = cap * 2) (hcur : cur.toList.take ((i + m + 1) * 2) = cells xs) :
    Calls Try.prog 79 #[.slice (some ⟨g, 0, none⟩) (i + m + 1) cap, .int .i64 i, .int .i64 ((i : Int) + 1)] w fun e w' =>
      e = .returned (.slice (some ⟨g, 0, none⟩) (i + m) cap) ∧ ∃ cur' n, w' = (w.drewN n).setRow g cur' ∧ cur'.size = cap * 2 ∧ cur'.toList.take ((i + m) * 2) = cells (xs.take i ++ xs.drop (i + 1)) := by
  have mixed : Try.prog.follows .mixedOrders = true := by kernel_rfl
  have hc63 : cap ≤ 9223372036854775807 := by unfold maxLen at hcap; omega
  have hDl : (cells (xs.drop (i + 1))).length = m * 2 := by rw [cells_length, List.length_drop, hxs]; omega
  have hcell : ∀ j v, (cells (xs.drop (i + 1)))[j]? = some v → cur[(i + 1) * 2 + j]? = some v := fun j v hj => by
    have hj1 : j < m * 2 := by
      have := (List.getElem?_eq_some_iff.1 hj).1
      omega
    rw [← cells_drop, ← hcur, List.getElem?_drop, List.getElem?_take, if_pos (by omega)] at hj
    simpa using hj
  obtain ⟨i0, hi0, hz0, hzs, hzb⟩ := info_parts info67
  obtain ⟨A1, hA1⟩ : ∃ A1, A1 = (spl cur.toList (i * 2) (cells (xs.drop (i + 1)))).toArray := ⟨_, rfl⟩
  have hA1s : A1.size = cap * 2 := by rw [hA1]; exact spl_size cur _ _ _ hsz (by rw [hDl]; omega)
  have happ : ∀ (W : World), W.heap = w.heap → ∀ ty a L cB, L = m → (a = ⟨g, (i + 1) * 2, none⟩ ∨ m = 0) → (Builtin.append_ #[58, 58] ty #[.slice (some ⟨g, 0, none⟩) i cap, .slice (some a) L cB]).run Try.prog W = .ok (.slice (some ⟨g, 0, none⟩) (i + m) cap) (W.setRow g A1) := fun W hW ty a L cB hL ha => by
    have h := run_append_room (P := Try.prog) W 58 ty 67 i0 Try.underlying58 hi0 g i cap cur (by rw [hW]; exact hg) a L cB (cells (xs.drop (i + 1))) (by rw [hDl, hzs, hL])
      (fun j u hj => by
        have hj1 : j < m * 2 := by
          have := (List.getElem?_eq_some_iff.1 hj).1
          omega
        rcases ha with rfl | ha
        case inr => omega
        rw [Addr.add_lit]
        have h2 : W.heap[g]? = some (.cells cur 67 (0, 0)) := by rw [hW]; exact hg
        simpa [World.cell?, h2] using hcell j u hj) (cells_one _) (by omega) (by rw [hzs, hDl, hsz]; omega)
    rw [h, hzs, hL, hA1]; rfl
  obtain ⟨A2, hA2⟩ : ∃ A2, A2 = (spl A1.toList ((i + m) * 2) noCells).toArray := ⟨_, rfl⟩
  have hA2s : Aside0 (A2.size = cap * 2) := Aside0.mk (by rw [hA2]; exact spl_size A1 _ _ _ hA1s (by show (i + m) * 2 + 2 ≤ cap * 2; omega))
  have hclr : ∀ (W : World), W.heap = (w.setRow g A1).heap → ∀ ty L c, L = 1 → (Builtin.clear_ #[58] ty #[.slice (some ⟨g, (i + m) * 2, none⟩) L c]).run Try.prog W = .ok (.tuple #[]) (W.setRow g A2) := fun W hW ty L c hL => by
    rw [hL, hA2]
    exact run_clear_one W ty g _ c A1 67 (by rw [hW]; exact setRow_heap _ _ _ _ _ _ hg) (by omega)
  have hT : Aside0 (A2.toList.take ((i + m) * 2) = cells (xs.take i ++ xs.drop (i + 1))) := Aside0.mk (by
    rw [hA2, hA1]
    have h := delete_take cur.toList (cells (xs.drop (i + 1))) noCells (i * 2) (m * 2) hDl (by rw [Array.length_toList]; omega)
    rw [show i * 2 + m * 2 = (i + m) * 2 by omega] at h
    show (spl (spl cur.toList (i * 2) (cells (xs.drop (i + 1)))) ((i + m) * 2) noCells).take _ = _
    rw [h, cells_append]
    congr 1
    rw [← cells_take, ← hcur, List.take_take, Nat.min_eq_left (by omega)])
  have hH := Aside0.mk hg
  have hw1 : IntKind.i64.wrap ((i : Int) + 1) = (i : Int) + 1 := by rw [IntKind.wrap_i64]; omega
  have hz1 : ¬ ((i : Int) = (i : Int) + 1) := by omega
  have hb1 : (0 : Int) ≤ (i : Int) + 1 := by omega
  have htn : ((i : Int) + 1).toNat = i + 1 := by omega
  have hb2 : (i : Int) ≤ (i : Int) + 1 := by omega
  have hb3 : i + 1 ≤ i + m + 1 := by omega
  have hb4 : (i : Int) + 1 ≤ ((i + m + 1 : Nat) : Int) := by omega
  have hb5 : (i : Int) + 1 ≤ (cap : Int) := by omega
  have hb6 : ¬ (cap = i + 1) ∨ cap = i + 1 := by omega
  clear hcell hDl hcur hsz hA1 hA1s hA2 hi0 hz0 hzs hzb hg hxs
  have hbc : (i : Int) ≤ (cap : Int) := by omega
  have hbd : i ≤ cap := by omega
  have hbe : (i : Int) + (m : Int) + 1 ≤ (cap : Int) := by omega
  have hbf : (i : Int) ≤ (i : Int) + (m : Int) := by omega
  have hm0 : cap = i + 1 → m = 0 := by omega
  have hci : ¬ (cap = i + m) := by omega
  have hclr2 : ∀ c, (Builtin.clear_ #[58] 0 #[.slice (some ⟨g, (i + m) * 2, none⟩) 1 c]).run Try.prog (w.drew.setRow g A1) = .ok (.tuple #[]) (w.drew.setRow g A2) := fun c => by
    rw [hclr _ (by rfl) 0 1 c rfl, setRow_setRow]
  clear hclr
  rcases hb6 with hb6 | hb6
  · clear hm0
    go_enter Try.func79, Try.ntmps79
    go_wp2
    go_region_law_o (refine step_append_is rfl _ _ 58 58 rfl (.slice (some ⟨g, 0, none⟩) i cap) (.slice (some ⟨g, (i + 1) * 2, none⟩) m (cap - (i + 1))) (by simp [Act.eval, Act.put]) (by simp [Act.eval, Act.put]) (happ _ (by rfl) _ _ _ _ rfl (.inl rfl)) ?_)
    go_wp2_with (simp only [hclr2])
    go_ret
    exact ⟨rfl, A2, 1, rfl, hA2s.out, hT.out⟩
  · obtain rfl := hm0 hb6
    subst hb6
    clear hm0 hci
    have hii : ¬ (i + 1 = i) := by omega
    simp only [Nat.add_zero] at *
    go_enter Try.func79, Try.ntmps79
    go_wp2
    go_region_law_o (refine step_append_is rfl _ _ 58 58 rfl (.slice (some ⟨g, 0, none⟩) i (i + 1)) (.slice (some ⟨g, 0, none⟩) 0 0) (by simp [Act.eval, Act.put]) (by simp [Act.eval, Act.put]) (happ _ (by rfl) _ _ _ _ rfl (.inr (by simp))) ?_)
    go_wp2_with (simp only [hclr2])
    go_ret
    exact ⟨rfl, A2, 1, rfl, hA2s.out, hT.out⟩

/-- slices.Delete of one row. -/
theorem Delete_calls (w : World) (base i : Nat) (ok : Nat → Prop) (v : Value) (xs : List S67) (hi : i < xs.length) (HO : k67.R 67 w base ok v xs) :
    Calls Try.prog 79 #[v, .int .i64 i, .int .i64 ((i : Int) + 1)] w fun e w' => ∃ v', e = .returned v' ∧ k67.R 67 w' base ok v' (xs.take i ++ xs.drop (i + 1)) ∧ Below base w w' ∧ v'.ownBlock = v.ownBlock := by
  rcases row_open HO with ⟨rfl, rfl⟩ | ⟨g, cap, cur, rfl, hb, hok, hg, h1, h2, h3, h4⟩
  · exact absurd hi (by simp)
  · obtain ⟨m, hm⟩ : ∃ m, xs.length = i + m + 1 := ⟨xs.length - i - 1, by omega⟩
    have hxl : (xs.take i ++ xs.drop (i + 1)).length = i + m := by rw [List.length_append, List.length_take, List.length_drop]; omega
    rw [hm] at h1 h4 ⊢
    refine (Delete_raw w g i m cap xs cur hm h1 h2 hg h3 h4).mono ?_
    rintro e w' ⟨rfl, cur', n, rfl, h5, h6⟩
    refine ⟨_, rfl, ?_, below_setRow (pw_below_drewN (Below.refl _ _) n) hb _, rfl⟩
    rw [← hxl] at h6 ⊢
    exact row_close hb hok (setRow_heap _ _ _ _ _ _ hg) (by omega) h2 h5 h6

end Go.Proofs.Ytmfkgbncnaingaa.Rows
