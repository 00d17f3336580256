/- Changed rows. -/
import Derived.Test.YtmfkgbncnaingaaRows3
import Derived.Test.YtmfkgbncnaingaaRows4
import Derived.Lib.SliceRun
namespace Go.Proofs.Ytmfkgbncnaingaa.Rows
open Go.RowKit Go.Lib Go.Proofs.Ytmfkgbncnaingaa.QRows Go.Proofs.YtmfkgbncnaingaaW.PrintWords Go.Proofs.YtmfkgbncnaingaaW.PrintLast Go.Proofs.YtmfkgbncnaingaaW.PrintMore

/-- The empty literal is a row. -/
theorem empty_row (w : World) : k67.R 67 (w.alloc (.cells #[] 67)) w.heap.size (fun _ => True) (.slice (some ⟨w.heap.size, 0, none⟩) 0 0) [] :=
  row_close (xs := []) (cur := #[]) (Nat.le_refl _) trivial (by show (w.heap.push _)[w.heap.size]? = _; rw [Array.getElem?_push_size]) (Nat.le_refl _) (Nat.zero_le _) rfl rfl

set_option maxRecDepth 100000 in
set_option maxHeartbeats 1000000 in
theorem Clone_calls (w : World) (A : Option Addr) (c : Nat) (xs : List S67) (h : k67.C w A xs.length xs) (hl : xs.length ≤ 100000) :
    Calls Try.prog 77 #[.slice A xs.length c] w fun e w' => ∃ v, e = .returned v ∧ k67.R 67 w' w.heap.size (fun _ => True) v xs ∧ Below w.heap.size w w' := by
  have HC := Aside0.mk h
  have hq := fun (w : World) (a : Option Addr) (n c n' c' : Nat) => Lib.run_eql_slice_nil (P := Try.prog) w 58 67 a n c n' c' Try.underlying58
  cases A with
  | none =>
    have h0 : xs = [] := by
      have h1 := HC.out
      cases xs with
      | nil => rfl
      | cons x l => obtain ⟨_, _, h2⟩ := h1; obtain ⟨ad, h3, _⟩ := h2 (by simp); cases h3
    subst h0
    go_enter Try.func77, Try.ntmps77
    go_wp2
    go_ret
    exact ⟨_, rfl, Kd.R_nil _ _ _ _ _, Below.refl _ _⟩
  | some ad =>
    clear h
    go_enter Try.func77, Try.ntmps77
    go_wp2_with (first | (at_builtin; refine Kd.R_append_rows k67 (w0 := w) w.heap.size rfl (.tmp 5) (.tmp 6) 58 67 (.agg #[(.string ⟨#[]⟩), (.string ⟨#[]⟩)]) 32 rfl Try.underlying58 info67 rfl (by decide) (by omega) _ [] xs _ _ _ (fun _ => True) (fun _ => False) rfl rfl (empty_row w) (Kd.C_alloc HC.out _) (fun x cs h => by rw [k67_open h]; exact k67_mkM _ _ _ x) (fun _ h => h.elim) (fun _ _ => trivial) (below_alloc (Below.refl _ _) _) (by simp) (by simp; omega) ?_; intro v1 w1 ho hb _ _; have HO := Aside0.mk ho; have HB := Aside0.mk hb; clear ho hb))
    go_ret
    exact ⟨_, rfl, HO.out, HB.out⟩

theorem cells_set (xs : List S67) (p : Nat) (x : S67) : cells (xs.set p x) = ((cells xs).set (p * 2) (.string x.f0)).set (p * 2 + 1) (.string x.f1) := by
  induction xs generalizing p with
  | nil => simp [cells]
  | cons y l ih =>
    cases p with
    | zero => simp [cells]
    | succ p => rw [List.set_cons_succ, cells, ih, show (p + 1) * 2 = p * 2 + 1 + 1 by omega]; rfl
/-- A row is put anew. -/
theorem row_put {w : World} {base g cap p : Nat} {ok : Nat → Prop} {xs : List S67} (x : S67) (HO : k67.R 67 w base ok (.slice (some ⟨g, 0, none⟩) xs.length cap) xs) (_hp : p < xs.length) :
    k67.R 67 ((w.setCell ⟨g, p * 2, none⟩ (.string x.f0)).setCell ⟨g, p * 2 + 1, none⟩ (.string x.f1)) base ok (.slice (some ⟨g, 0, none⟩) xs.length cap) (xs.set p x) ∧ Below base w ((w.setCell ⟨g, p * 2, none⟩ (.string x.f0)).setCell ⟨g, p * 2 + 1, none⟩ (.string x.f1)) := by
  rcases row_open HO with ⟨h, -⟩ | ⟨g', cap', cur, he, hb, hok, hg, h1, h2, h3, h4⟩
  · cases h
  · injection he with e1 e2 e3
    injection e1 with e1
    injection e1 with e1
    subst e1; subst e3
    rw [setCell_eq_setRow w g (p * 2) cur 67 (0, 0) _ hg, setCell_eq_setRow _ g (p * 2 + 1) _ 67 (0, 0) _ (setRow_heap _ _ _ _ _ _ hg), setRow_setRow]
    refine ⟨?_, below_setRow (Below.refl _ _) hb _⟩
    have hl : (xs.set p x).length = xs.length := List.length_set
    rw [← hl] at h1 h4 ⊢
    refine row_close hb hok (setRow_heap _ _ _ _ _ _ hg) h1 h2 (by rw [Array.size_setIfInBounds, Array.size_setIfInBounds]; exact h3) ?_
    rw [Array.toList_setIfInBounds, Array.toList_setIfInBounds, List.take_set, List.take_set, h4, ← cells_set]
theorem row_cell {w : World} {base : Nat} {ok : Nat → Prop} {v : Value} {xs : List S67} (HO : k67.R 67 w base ok v xs) {p : Nat} (hp : p < xs.length) :
    ∃ g cap u0 u1, v = .slice (some ⟨g, 0, none⟩) xs.length cap ∧ w.cell? ⟨g, p * 2, none⟩ = some u0 ∧ w.cell? ⟨g, p * 2 + 1, none⟩ = some u1 ∧ ∀ j, w.frozen? ⟨g, j, none⟩ = false := by
  rcases row_open HO with ⟨-, h⟩ | ⟨g, cap, cur, rfl, hb, hok, hg, h1, h2, h3, h4⟩
  · rw [h] at hp; simp at hp
  · refine ⟨g, cap, cur[p * 2], cur[p * 2 + 1], rfl, ?_, ?_, fun j => ?_⟩
    · simp [World.cell?, hg, show p * 2 < cur.size by omega]
    · simp [World.cell?, hg, show p * 2 + 1 < cur.size by omega]
    · simp [World.frozen?, hg]

theorem box_cells {wr w2 : World} {x : S67} (hb : Below (wr.alloc (.cells #[.string x.f0, .string x.f1] 67)).heap.size (wr.alloc (.cells #[.string x.f0, .string x.f1] 67)) w2) :
    w2.cell? ⟨wr.heap.size, 0, none⟩ = some (.string x.f0) ∧ w2.cell? ⟨wr.heap.size, 1, none⟩ = some (.string x.f1) := by
  have h : w2.heap[wr.heap.size]? = some (.cells #[.string x.f0, .string x.f1] 67 (0, 0)) := by
    rw [hb.block _ (by show wr.heap.size < (wr.heap.push _).size; rw [Array.size_push]; omega)]
    show (wr.heap.push _)[wr.heap.size]? = _
    rw [Array.getElem?_push_size]
  constructor <;> simp [World.cell?, h]

theorem row_cell2 {w : World} {base g cap : Nat} {ok : Nat → Prop} {xs : List S67} (HO : k67.R 67 w base ok (.slice (some ⟨g, 0, none⟩) xs.length cap) xs) {p : Nat} (hp : p < xs.length) :
    ∃ u0 u1, w.cell? ⟨g, p * 2, none⟩ = some u0 ∧ w.cell? ⟨g, p * 2 + 1, none⟩ = some u1 ∧ ∀ j, w.frozen? ⟨g, j, none⟩ = false := by
  obtain ⟨g', cap', u0, u1, he, h0, h1, h2⟩ := row_cell HO hp
  injection he with e1 e2 e3
  injection e1 with e1
  injection e1 with e1
  subst e1
  exact ⟨u0, u1, h0, h1, h2⟩
theorem alloc_at (w : World) (o : Obj) : (w.alloc o).heap[w.heap.size]? = some o := by
  show (w.heap.push _)[w.heap.size]? = _
  rw [Array.getElem?_push_size]

/-- A table behind one change. -/
def change (out : List S67) (c : S67) : List S67 :=
  if (found out c.f0).2 = true then
    (if c.f1.toList = ([] : List UInt8) then out.take (found out c.f0).1 ++ out.drop ((found out c.f0).1 + 1) else out.set (found out c.f0).1 c)
  else (if c.f1.toList = ([] : List UInt8) then out else out.take (found out c.f0).1 ++ c :: out.drop (found out c.f0).1)
def changed (l cs : List S67) : List S67 := cs.foldl change l
theorem change_length (out : List S67) (c : S67) : (change out c).length ≤ out.length + 1 := by
  unfold change
  split <;> split <;> simp <;> omega
theorem changed_length (l cs : List S67) : (changed l cs).length ≤ l.length + cs.length := by
  unfold changed
  induction cs generalizing l with
  | nil => exact Nat.le_refl _
  | cons c t ih => rw [List.foldl_cons]; have := ih (change l c); have := change_length l c; rw [List.length_cons]; omega
theorem changed_take (l cs : List S67) (i : Nat) (h : i < cs.length) : changed l (cs.take (i + 1)) = change (changed l (cs.take i)) cs[i] := by
  unfold changed; rw [List.take_succ_eq_append_getElem h, List.foldl_append]; rfl

set_option maxRecDepth 100000 in
set_option maxHeartbeats 4000000 in
theorem Changed_calls (A0 A1 : Option Addr) (c0 c1 : Nat) (l cs : List S67) (w : World) (h0 : k67.C w A0 l.length l) (h1 : k67.C w A1 cs.length cs) (hl0 : l.length ≤ 400) (hl1 : cs.length ≤ 400) :
    Calls Try.prog 64 #[.slice A0 l.length c0, .slice A1 cs.length c1] w fun e w' => ∃ v, e = .returned v ∧ k67.R 67 w' w.heap.size (fun _ => True) v (changed l cs) ∧ Below w.heap.size w w' := by
  have HL := Aside0.mk h0
  have HC := Aside0.mk h1
  clear h0 h1
  have HCl := fun w h => Aside0.mk (Clone_calls w A0 c0 l h (by omega))
  go_enter Try.func64, Try.ntmps64
  go_wp2_with (go_at_call 77; refine (HCl _ HL.out).out.mono ?_; rintro e w1 ⟨v, rfl, hv, hb⟩; have HV := Aside0.mk hv; have HB := Aside0.mk hb; clear hv hb)
  go_loopg [5, 14] (cs.length) (fun kq v5 v14 wr => ∃ (i : Nat), v14 = .int .i64 i ∧ Aside0 (kq + i = cs.length) ∧ Aside0 (k67.R 67 wr w.heap.size (fun _ => True) v5 (changed l (cs.take i))) ∧ Aside0 (Below w.heap.size w wr))
  case atStart => exact ⟨0, rfl, ⟨by omega⟩, HV, HB⟩
  case round =>
    obtain ⟨i, rfl, hK, hR, hW⟩ := hrel
    by_cases hlt : i < cs.length
    · have hb1 : (i : Int) < (cs.length : Int) := by omega
      obtain ⟨ad, rfl, hx0, hx1⟩ := at_T67 (Kd.C_below HC.out hW.out) (i : Int) (by omega) hb1
      obtain ⟨x, hx⟩ : ∃ x, x = rd_T67 cs (i : Int) := ⟨_, rfl⟩
      rw [← hx] at hx0 hx1
      rw [Int.toNat_natCast] at hx0 hx1
      have hX := Aside0.mk hx
      clear hx
      obtain ⟨out, hout⟩ : ∃ out, out = changed l (cs.take i) := ⟨_, rfl⟩
      have hnext : Aside0 (changed l (cs.take (i + 1)) = change out x) := Aside0.mk (by
        rw [changed_take l cs i hlt, ← hout]
        congr 1
        rw [hX.out]
        simp [rd_T67, List.getD_eq_getElem?_getD, hlt])
      have hol : out.length ≤ 800 := by
        have := changed_length l (cs.take i)
        rw [← hout, List.length_take] at this; omega
      rw [← hout] at hR
      clear hout
      obtain ⟨A, c, rfl, hc, -⟩ := Kd.R_reads hR.out
      have hfi : Aside0 ((found out x.f0).1 ≤ out.length ∧ ((found out x.f0).2 = true → (found out x.f0).1 < out.length)) := Aside0.mk (by
        have h1 := bs_le out x.f0 out.length 0 out.length (by omega) (by omega)
        refine ⟨h1.2, fun h => ?_⟩
        unfold found at h ⊢
        simp only [Bool.and_eq_true, decide_eq_true_eq] at h
        exact h.1)
      have hfd : Aside0 (change out x = if (found out x.f0).2 = true then (if x.f1.toList = ([] : List UInt8) then out.take (found out x.f0).1 ++ out.drop ((found out x.f0).1 + 1) else out.set (found out x.f0).1 x) else (if x.f1.toList = ([] : List UInt8) then out else out.take (found out x.f0).1 ++ x :: out.drop (found out x.f0).1)) := ⟨rfl⟩
      have HP := fun w h => Aside0.mk (place_calls A c out x.f0 w h (by omega))
      obtain ⟨pb, hpb⟩ : ∃ pb, pb = found out x.f0 := ⟨_, rfl⟩
      rw [← hpb] at HP hfi hfd
      obtain ⟨p, b⟩ := pb
      clear hpb
      have hp0 : p ≤ out.length := hfi.out.1
      have hRo := hR
      have hbase : w.heap.size ≤ wr.heap.size := hW.out.size
      have HCo := Aside0.mk (Kd.R_reads' hR.out).2.2
      have hwp : IntKind.i64.wrap ((p : Int) + 1) = (p : Int) + 1 := by rw [IntKind.wrap_i64]; omega
      have hwi : IntKind.i64.wrap ((i : Int) + 1) = (i : Int) + 1 := by rw [IntKind.wrap_i64]; omega
      by_cases he : x.f1.toList = ([] : List UInt8)
      · have he' : (x.f1.toList == ([] : List UInt8)) = true := by rw [he]; rfl
        cases b with
        | true =>
          have hlp : p < out.length := hfi.out.2 rfl
          have hres := Aside0.mk (hfd.out.trans (by rw [if_pos rfl, if_pos he]))
          clear he hfd hfi
          go_wp2_with (first | (go_at_call 78; refine (HP _ (Kd.C_alloc HCo.out _)).out.mono ?_; rintro e w2 ⟨rfl, hb⟩; obtain ⟨hy0, hy1⟩ := box_cells hb; have HB2 := Aside0.mk (show Below wr.heap.size wr w2 from (below_alloc (Below.refl _ _) _).trans (hb.mono (by show wr.heap.size ≤ (wr.heap.push _).size; rw [Array.size_push]; omega))); clear hb) | (go_at_call 79; refine (Delete_calls _ w.heap.size p (fun _ => True) _ out hlp (Kd.R_below hR.out HB2.out)).mono ?_; rintro e w3 ⟨v3, rfl, h3, hb3, -⟩; have H3 := Aside0.mk h3; have HB3 := Aside0.mk (show Below w.heap.size w w3 from (hW.out.trans (HB2.out.mono hbase)).trans hb3); clear h3 hb3))
          go_roundg (gk - 1)
          case measure => have := hK.out; omega
          case rel => exact ⟨i + 1, by go_num, ⟨by have := hK.out; omega⟩, ⟨by rw [hnext.out, hres.out]; exact H3.out⟩, HB3⟩
        | false =>
          have hres := Aside0.mk (hfd.out.trans (by rw [if_neg (by simp), if_pos he]))
          clear he hfd hfi
          go_wp2_with (go_at_call 78; refine (HP _ (Kd.C_alloc HCo.out _)).out.mono ?_; rintro e w2 ⟨rfl, hb⟩; obtain ⟨hy0, hy1⟩ := box_cells hb; have HB2 := Aside0.mk (show Below wr.heap.size wr w2 from (below_alloc (Below.refl _ _) _).trans (hb.mono (by show wr.heap.size ≤ (wr.heap.push _).size; rw [Array.size_push]; omega))); clear hb)
          have H3 := Aside0.mk (Kd.R_below hR.out HB2.out)
          have HB3 := Aside0.mk (hW.out.trans (HB2.out.mono hbase))
          go_roundg (gk - 1)
          case measure => have := hK.out; omega
          case rel => exact ⟨i + 1, by go_num, ⟨by have := hK.out; omega⟩, ⟨by rw [hnext.out, hres.out]; exact H3.out⟩, HB3⟩
      · have he' : (x.f1.toList == ([] : List UInt8)) = false := beq_eq_false_iff_ne.2 he
        cases b with
        | true =>
          have hlp : p < out.length := hfi.out.2 rfl
          have hlp' : (p : Int) < (out.length : Int) := by omega
          have hres := Aside0.mk (hfd.out.trans (by rw [if_pos rfl, if_neg he]))
          obtain ⟨g, cap, u0, u1, hv, -, -, -⟩ := row_cell hR.out hlp
          injection hv with e1 e2 e3
          subst e1; subst e3
          clear he hfd hfi e2 hRo
          go_wp2_with (go_at_call 78; refine (HP _ (Kd.C_alloc HCo.out _)).out.mono ?_; rintro e w2 ⟨rfl, hb⟩; obtain ⟨hy0, hy1⟩ := box_cells hb; have HB2 := Aside0.mk (show Below wr.heap.size wr w2 from (below_alloc (Below.refl _ _) _).trans (hb.mono (by show wr.heap.size ≤ (wr.heap.push _).size; rw [Array.size_push]; omega))); clear hb; have HO2 := Aside0.mk (Kd.R_below hR.out HB2.out); obtain ⟨u0, u1, hq0, hq1, hfz⟩ := row_cell2 HO2.out hlp)
          have hput := row_put x HO2.out hlp
          have H3 := Aside0.mk hput.1
          have HB3 := Aside0.mk ((hW.out.trans (HB2.out.mono hbase)).trans hput.2)
          go_roundg (gk - 1)
          case measure => have := hK.out; omega
          case rel => exact ⟨i + 1, by go_num, ⟨by have := hK.out; omega⟩, ⟨by rw [hnext.out, hres.out]; exact H3.out⟩, HB3⟩
        | false =>
          have hres := Aside0.mk (hfd.out.trans (by rw [if_neg (by simp), if_neg he]))
          clear he hfd hfi
          go_wp2_with (first | (go_at_call 78; refine (HP _ (Kd.C_alloc HCo.out _)).out.mono ?_; rintro e w2 ⟨rfl, hb⟩; obtain ⟨hy0, hy1⟩ := box_cells hb; have HB2 := Aside0.mk (show Below wr.heap.size wr w2 from (below_alloc (Below.refl _ _) _).trans (hb.mono (by show wr.heap.size ≤ (wr.heap.push _).size; rw [Array.size_push]; omega))); clear hb) | (go_at_call 80; refine (Insert_calls _ w.heap.size w2.heap.size p (fun _ => True) _ out x hp0 (by omega) (by have := HB2.out.size; show _ ≤ (w2.heap.push _).size; rw [Array.size_push]; omega) (fun _ _ => trivial) (Kd.R_below (Kd.R_below hR.out HB2.out) (below_alloc (Below.refl _ _) _)) (alloc_at _ _) (fun e => by have := Kd.R_lt (Kd.R_below hR.out HB2.out) _ e; omega)).mono ?_; rintro e w3 ⟨v3, rfl, h3, hb3, -⟩; have H3 := Aside0.mk h3; have HB3 := Aside0.mk (show Below w.heap.size w w3 from ((hW.out.trans (HB2.out.mono hbase)).trans ((below_alloc (Below.refl _ _) _).mono (by have := HB2.out.size; omega))).trans hb3); clear h3 hb3))
          go_roundg (gk - 1)
          case measure => have := hK.out; omega
          case rel => exact ⟨i + 1, by go_num, ⟨by have := hK.out; omega⟩, ⟨by rw [hnext.out, hres.out]; exact H3.out⟩, HB3⟩
    · have HE := Aside0.mk (show changed l (cs.take i) = changed l cs by rw [List.take_of_length_le (by omega)])
      rw [HE.out] at hR
      go_wp2
      go_ret
      exact ⟨_, rfl, hR.out, hW.out⟩

end Go.Proofs.Ytmfkgbncnaingaa.Rows
