/- Frames of records. -/
import Derived.Test.YtmfkgbncnaingaaWal2
namespace Go.Proofs.Ytmfkgbncnaingaa.Wal
open Go.RowKit Go.Proofs.Ytmfkgbncnaingaa.QWal Go.Proofs.YtmfkgbncnaingaaW.PrintWords Go.Proofs.YtmfkgbncnaingaaW.PrintLast Go.Proofs.YtmfkgbncnaingaaW.PrintMore

/-- A record's frame, and what is summed of it. -/
def headOf (xs : List Int) (last : Bool) : List Int := [(xs.length : Int), if last then 1 else 0] ++ xs
def frameOf (xs : List Int) (last : Bool) : List Int := headOf xs last ++ [(sumsOf (headOf xs last)).1, (sumsOf (headOf xs last)).2]

/-- A literal row is read. -/
theorem lit_reads (w : World) (xs : List Int) (h : xs.length ≤ 100000) : (Kd.int .u8).C (w.alloc (.cells (nums .u8 xs).toArray 5)) (some ⟨w.heap.size, 0, none⟩) xs.length xs := by
  have h1 := own_lit w w.heap.size 5 .u8 xs (Nat.le_refl _) (by omega)
  obtain ⟨A, c, e, h2⟩ := own_reads h1
  injection e with e1 _ _
  subst e1
  exact Kd.C_of_reads (h1 := fun _ => rfl) (readsInt_of.1 h2)
/-- A block of two bytes is read. -/
theorem two_reads {w : World} {g : Nat} {a b : Int} (h : w.heap[g]? = some (.cells #[.int .u8 a, .int .u8 b] 135 (0, 0))) : (Kd.int .u8).C w (some ⟨g, 0, none⟩) 2 [a, b] := by
  refine Kd.C_of_reads (d := 0) (h1 := fun _ => rfl) (readsInt_of.1 ⟨rfl, by decide, fun _ => ⟨_, rfl, fun j hj => ?_⟩⟩)
  rw [add_plain]
  match j, hj with
  | 0, _ => exact (blk_cell h 0).trans rfl
  | 1, _ => exact (blk_cell h 1).trans rfl
  | j + 2, hj => exact absurd hj (by omega)

/-- The end of a row of the call's own. -/
theorem tail_reads {w : World} {base g n c : Nat} {ok : Nat → Prop} {out t : List Int} (h : (Kd.int .u8).R 5 w base ok (.slice (some ⟨g, 0, none⟩) n c) (out ++ t)) (ht : 0 < t.length) : (Kd.int .u8).C w (some ⟨g, out.length, none⟩) t.length t ∧ (c = out.length) = False := by
  obtain ⟨hn, hc, hC⟩ := Kd.R_reads' h
  rw [List.length_append] at hn
  have h1 := Kd.C_drop (m := out.length) (c := c) hC (by rw [List.length_append]; omega) (by rw [List.length_append]; omega)
  rw [if_neg (by omega), List.drop_left] at h1
  have h2 : (out.length * (Kd.int .u8).sz) = out.length := Nat.mul_one _
  rw [h2] at h1
  refine ⟨?_, eq_false (by omega)⟩
  simpa [add_plain] using h1

set_option maxRecDepth 100000 in
set_option maxHeartbeats 4000000 in
theorem frame_last (w : World) (base : Nat) (v : Value) (out xs : List Int) (A : Option Addr) (c : Nat) (HO0 : (Kd.int .u8).R 5 w base (fun _ => True) v out) (hb : base ≤ w.heap.size) (hr : ∀ W', Below base w W' → (Kd.int .u8).C W' A xs.length xs) (hx : ∀ x ∈ xs, 0 ≤ x ∧ x < 256) (hl : xs.length ≤ 255) (ho : out.length ≤ 100000) :
    Calls Try.prog 74 #[v, .slice A xs.length c, .bool true] w fun e w' => ∃ v', e = .returned v' ∧ (Kd.int .u8).R 5 w' base (fun _ => True) v' (out ++ frameOf xs true) ∧ Below base w w' := by
  obtain ⟨Ad, cd, rfl, hlc, hrd⟩ := Kd.R_reads HO0
  have HO := Aside0.mk HO0
  have HR := Aside0.mk hr
  have HX := Aside0.mk hx
  have Hb := Aside0.mk hb
  have hwl : IntKind.u8.wrap (xs.length : Int) = (xs.length : Int) := by rw [IntKind.wrap_u8]; omega
  have hwm : (xs.length : Int) % 256 = (xs.length : Int) := by omega
  have HL1 := Aside0.mk (show (out ++ [(xs.length : Int), 1]).length = out.length + 2 by simp)
  have HL2 := Aside0.mk (show (out ++ [(xs.length : Int), 1] ++ xs).length = out.length + 2 + xs.length by simp; omega)
  have HL3 := Aside0.mk (show out.length + 2 + xs.length = out.length + (xs.length + 1 + 1) by omega)
  have HH := Aside0.mk (show ∀ x ∈ headOf xs true, 0 ≤ x ∧ x < 256 from fun x h => by
    rcases List.mem_cons.1 h with rfl | h
    · omega
    rcases List.mem_cons.1 h with rfl | h
    · decide
    exact hx x h)
  clear HO0 hr hx hb hrd
  go_enter Try.func74, Try.ntmps74
  go_wp2_with (first
    | ((with_reducible refine gate_builtin (b := .append) (xs := #[.tmp 13, .tmp 18]) rfl ?_); at_builtin; refine Kd.R_append_rows (Kd.int .u8) (w0 := w) base rfl (.tmp 13) (.tmp 18) 25 5 (.int .u8 0) 1 rfl Try.underlying25 info5 rfl (by decide) (by omega) _ out [(xs.length : Int), 1] _ _ _ (fun _ => True) (fun _ => False) rfl (by first | rfl | (go_simp; rfl)) (Kd.R_alloc HO.out _) (lit_reads w [(xs.length : Int), 1] (by simp)) (fun _ _ h => h) (fun _ h => h.elim) (fun _ _ => trivial) ((Below.refl base w).alloc Hb.out _) (by have := Hb.out; simp; omega) (by simp; omega) ?_; intro v1 w1 h1 hb1 _ _; obtain ⟨A1, c1, rfl, _, _⟩ := Kd.R_reads h1; rw [HL1.out] at h1; have H1 := Aside0.mk h1; have HB1 := Aside0.mk hb1; clear h1 hb1)
    | ((with_reducible refine gate_builtin (b := .append) (xs := #[.tmp 19, .tmp 20]) rfl ?_); at_builtin; refine Kd.R_append_rows (Kd.int .u8) (w0 := w) base rfl (.tmp 19) (.tmp 20) 25 5 (.int .u8 0) 1 rfl Try.underlying25 info5 rfl (by decide) (by omega) _ (out ++ [(xs.length : Int), 1]) xs _ _ _ (fun _ => True) (fun _ => False) rfl rfl H1.out (HR.out _ HB1.out) (fun _ _ h => h) (fun _ h => h.elim) (fun _ _ => trivial) HB1.out (by have := Hb.out; have := HB1.out.size; omega) (by simp; omega) ?_; intro v2 w2 h2 hb2 _ _; obtain ⟨g2, c2, rfl, hg2, hg3, _⟩ := Kd.R_form h2 (by rw [HL2.out]; omega); rw [HL2.out] at h2; rw [List.append_assoc] at h2; obtain ⟨ht2, hcne⟩ := tail_reads (out := out) (t := headOf xs true) h2 (by simp [headOf]); have HT := Aside0.mk ht2; have H2 := Aside0.mk h2; clear ht2; have HB2 := Aside0.mk hb2; clear h2 hb2)
    | (go_at_call 89; refine (sums_calls (some ⟨g2, out.length, none⟩) _ (headOf xs true) _ HT.out ?_ ?_).mono ?_; (simp [headOf]; omega); (exact HH.out); rintro e w3 ⟨rfl, hb3⟩; have HB3 := Aside0.mk (below_then HB2.out (Nat.le_trans hg2 (Nat.le_of_lt hg3)) hb3); have hsz3 := Nat.le_trans (Nat.le_trans hg2 (Nat.le_of_lt hg3)) hb3.size; have h3 := Kd.R_below H2.out hb3; rw [HL3.out] at h3; have H3 := Aside0.mk h3; clear h3; clear hb3)
    | ((with_reducible refine gate_builtin (b := .append) (xs := #[.tmp 26, .tmp 27]) rfl ?_); at_builtin; refine Kd.R_append_rows (Kd.int .u8) (w0 := w) base rfl (.tmp 26) (.tmp 27) 25 5 (.int .u8 0) 1 rfl Try.underlying25 info5 rfl (by decide) (by omega) _ (out ++ headOf xs true) [(sumsOf (headOf xs true)).1, (sumsOf (headOf xs true)).2] _ _ _ (fun _ => True) (fun _ => False) rfl (by first | rfl | (go_simp; rfl)) (Kd.R_alloc H3.out _) (two_reads (heap_alloc_new _ _)) (fun _ _ h => h) (fun _ h => h.elim) (fun _ _ => trivial) (HB3.out.alloc hsz3 _) (by simp; omega) (by simp [headOf]; omega) ?_; intro v4 w4 h4 hb4 _ _; have H4 := Aside0.mk h4; have HB4 := Aside0.mk hb4; clear h4 hb4))
  go_ret
  exact ⟨_, rfl, by have h := H4.out; rw [List.append_assoc] at h; exact h, HB4.out⟩

set_option maxRecDepth 100000 in
set_option maxHeartbeats 4000000 in
theorem frame_more (w : World) (base : Nat) (v : Value) (out xs : List Int) (A : Option Addr) (c : Nat) (HO0 : (Kd.int .u8).R 5 w base (fun _ => True) v out) (hb : base ≤ w.heap.size) (hr : ∀ W', Below base w W' → (Kd.int .u8).C W' A xs.length xs) (hx : ∀ x ∈ xs, 0 ≤ x ∧ x < 256) (hl : xs.length ≤ 255) (ho : out.length ≤ 100000) :
    Calls Try.prog 74 #[v, .slice A xs.length c, .bool false] w fun e w' => ∃ v', e = .returned v' ∧ (Kd.int .u8).R 5 w' base (fun _ => True) v' (out ++ frameOf xs false) ∧ Below base w w' := by
  obtain ⟨Ad, cd, rfl, hlc, hrd⟩ := Kd.R_reads HO0
  have HO := Aside0.mk HO0
  have HR := Aside0.mk hr
  have HX := Aside0.mk hx
  have Hb := Aside0.mk hb
  have hwl : IntKind.u8.wrap (xs.length : Int) = (xs.length : Int) := by rw [IntKind.wrap_u8]; omega
  have hwm : (xs.length : Int) % 256 = (xs.length : Int) := by omega
  have HL1 := Aside0.mk (show (out ++ [(xs.length : Int), 0]).length = out.length + 2 by simp)
  have HL2 := Aside0.mk (show (out ++ [(xs.length : Int), 0] ++ xs).length = out.length + 2 + xs.length by simp; omega)
  have HL3 := Aside0.mk (show out.length + 2 + xs.length = out.length + (xs.length + 1 + 1) by omega)
  have HH := Aside0.mk (show ∀ x ∈ headOf xs false, 0 ≤ x ∧ x < 256 from fun x h => by
    rcases List.mem_cons.1 h with rfl | h
    · omega
    rcases List.mem_cons.1 h with rfl | h
    · decide
    exact hx x h)
  clear HO0 hr hx hb hrd
  go_enter Try.func74, Try.ntmps74
  go_wp2_with (first
    | ((with_reducible refine gate_builtin (b := .append) (xs := #[.tmp 13, .tmp 18]) rfl ?_); at_builtin; refine Kd.R_append_rows (Kd.int .u8) (w0 := w) base rfl (.tmp 13) (.tmp 18) 25 5 (.int .u8 0) 1 rfl Try.underlying25 info5 rfl (by decide) (by omega) _ out [(xs.length : Int), 0] _ _ _ (fun _ => True) (fun _ => False) rfl (by first | rfl | (go_simp; rfl)) (Kd.R_alloc HO.out _) (lit_reads w [(xs.length : Int), 0] (by simp)) (fun _ _ h => h) (fun _ h => h.elim) (fun _ _ => trivial) ((Below.refl base w).alloc Hb.out _) (by have := Hb.out; simp; omega) (by simp; omega) ?_; intro v1 w1 h1 hb1 _ _; obtain ⟨A1, c1, rfl, _, _⟩ := Kd.R_reads h1; rw [HL1.out] at h1; have H1 := Aside0.mk h1; have HB1 := Aside0.mk hb1; clear h1 hb1)
    | ((with_reducible refine gate_builtin (b := .append) (xs := #[.tmp 19, .tmp 20]) rfl ?_); at_builtin; refine Kd.R_append_rows (Kd.int .u8) (w0 := w) base rfl (.tmp 19) (.tmp 20) 25 5 (.int .u8 0) 1 rfl Try.underlying25 info5 rfl (by decide) (by omega) _ (out ++ [(xs.length : Int), 0]) xs _ _ _ (fun _ => True) (fun _ => False) rfl rfl H1.out (HR.out _ HB1.out) (fun _ _ h => h) (fun _ h => h.elim) (fun _ _ => trivial) HB1.out (by have := Hb.out; have := HB1.out.size; omega) (by simp; omega) ?_; intro v2 w2 h2 hb2 _ _; obtain ⟨g2, c2, rfl, hg2, hg3, _⟩ := Kd.R_form h2 (by rw [HL2.out]; omega); rw [HL2.out] at h2; rw [List.append_assoc] at h2; obtain ⟨ht2, hcne⟩ := tail_reads (out := out) (t := headOf xs false) h2 (by simp [headOf]); have HT := Aside0.mk ht2; have H2 := Aside0.mk h2; clear ht2; have HB2 := Aside0.mk hb2; clear h2 hb2)
    | (go_at_call 89; refine (sums_calls (some ⟨g2, out.length, none⟩) _ (headOf xs false) _ HT.out ?_ ?_).mono ?_; (simp [headOf]; omega); (exact HH.out); rintro e w3 ⟨rfl, hb3⟩; have HB3 := Aside0.mk (below_then HB2.out (Nat.le_trans hg2 (Nat.le_of_lt hg3)) hb3); have hsz3 := Nat.le_trans (Nat.le_trans hg2 (Nat.le_of_lt hg3)) hb3.size; have h3 := Kd.R_below H2.out hb3; rw [HL3.out] at h3; have H3 := Aside0.mk h3; clear h3; clear hb3)
    | ((with_reducible refine gate_builtin (b := .append) (xs := #[.tmp 26, .tmp 27]) rfl ?_); at_builtin; refine Kd.R_append_rows (Kd.int .u8) (w0 := w) base rfl (.tmp 26) (.tmp 27) 25 5 (.int .u8 0) 1 rfl Try.underlying25 info5 rfl (by decide) (by omega) _ (out ++ headOf xs false) [(sumsOf (headOf xs false)).1, (sumsOf (headOf xs false)).2] _ _ _ (fun _ => True) (fun _ => False) rfl (by first | rfl | (go_simp; rfl)) (Kd.R_alloc H3.out _) (two_reads (heap_alloc_new _ _)) (fun _ _ h => h) (fun _ h => h.elim) (fun _ _ => trivial) (HB3.out.alloc hsz3 _) (by simp; omega) (by simp [headOf]; omega) ?_; intro v4 w4 h4 hb4 _ _; have H4 := Aside0.mk h4; have HB4 := Aside0.mk hb4; clear h4 hb4))
  go_ret
  exact ⟨_, rfl, by have h := H4.out; rw [List.append_assoc] at h; exact h, HB4.out⟩

theorem frame_calls (w : World) (base : Nat) (v : Value) (out xs : List Int) (A : Option Addr) (c : Nat) (last : Bool) (HO0 : (Kd.int .u8).R 5 w base (fun _ => True) v out) (hb : base ≤ w.heap.size) (hr : ∀ W', Below base w W' → (Kd.int .u8).C W' A xs.length xs) (hx : ∀ x ∈ xs, 0 ≤ x ∧ x < 256) (hl : xs.length ≤ 255) (ho : out.length ≤ 100000) :
    Calls Try.prog 74 #[v, .slice A xs.length c, .bool last] w fun e w' => ∃ v', e = .returned v' ∧ (Kd.int .u8).R 5 w' base (fun _ => True) v' (out ++ frameOf xs last) ∧ Below base w w' := by
  cases last with
  | true => exact frame_last w base v out xs A c HO0 hb hr hx hl ho
  | false => exact frame_more w base v out xs A c HO0 hb hr hx hl ho

/-- A batch's bytes. -/
def ofGo : List (List Int) → List Int
  | [] => []
  | x :: l => frameOf x l.isEmpty ++ ofGo l
theorem frameOf_length (xs : List Int) (last : Bool) : (frameOf xs last).length = xs.length + 4 := by simp [frameOf, headOf]
/-- Records that are bytes, and short. -/
def Fit (l : List (List Int)) : Prop := ∀ x ∈ l, x.length ≤ 255 ∧ ∀ y ∈ x, 0 ≤ y ∧ y < 256

set_option maxRecDepth 100000 in
set_option maxHeartbeats 4000000 in
theorem Of_calls (A0 : Option Addr) (c0 : Nat) (l : List (List Int)) (w : World) (hr : Kd.C (Kd.slice 5 (Kd.int .u8)) w A0 l.length l) (hl : l.length ≤ 100) (hf : Fit l) :
    Calls Try.prog 62 #[.slice A0 l.length c0] w fun e w' => ∃ v, e = .returned v ∧ (Kd.int .u8).R 5 w' w.heap.size (fun _ => True) v (ofGo l) ∧ Below w.heap.size w w' := by
  have HR := Aside0.mk hr
  have HF := Aside0.mk hf
  generalize hR : ofGo l = R
  have HRun := Aside0.mk hR
  clear hr hR hf
  go_enter Try.func62, Try.ntmps62
  go_wp2
  go_loopg [3, 8] (l.length) (fun kq v3 v8 wr => ∃ (i : Nat) (os : List Int), v8 = .int .i64 i ∧ Aside0 (kq + i = l.length) ∧ Aside0 (os.length ≤ 259 * i) ∧ Aside0 (os ++ ofGo (l.drop i) = R) ∧ Aside0 ((Kd.int .u8).R 5 wr w.heap.size (fun _ => True) v3 os) ∧ Aside0 (Below w.heap.size w wr))
  case atStart => exact ⟨0, [], rfl, ⟨by omega⟩, ⟨Nat.le_refl 0⟩, HRun, ⟨Kd.R_nil _ _ _ _ _⟩, ⟨Below.refl _ _⟩⟩
  case round =>
    obtain ⟨i, os, rfl, hK, hLen, hRi, hOs, hBel⟩ := hrel
    by_cases hlt : i < l.length
    · obtain ⟨ad, A1, c1, rfl, hx00, hl1, hrd1⟩ := at_L1 HR.out (i : Int) (by omega) (by omega)
      have hx0 := pw_cell_below hBel.out hx00
      have hel : rd_L1 l (i : Int) = l[i] := by simp [rd_L1, List.getD_eq_getElem?_getD, hlt]
      rw [hel] at hx0 hl1 hrd1
      rw [Int.toNat_natCast] at hx0
      have hfit := HF.out _ (List.getElem_mem hlt)
      have hRi' := hRi.out
      rw [List.drop_eq_getElem_cons hlt, ofGo] at hRi'
      have hE : (l.drop (i + 1)).isEmpty = decide (i + 1 = l.length) := by
        by_cases h : i + 1 = l.length
        · rw [decide_eq_true h, List.drop_of_length_le (by omega)]; rfl
        · rw [decide_eq_false h]
          cases hd : l.drop (i + 1) with
          | nil => have := congrArg List.length hd; rw [List.length_drop] at this; simp at this; omega
          | cons _ _ => rfl
      rw [hE] at hRi'
      generalize l[i] = x at *
      have HRd := Aside0.mk hrd1
      have HFit := Aside0.mk hfit
      have hos := hLen.out
      clear hel hRi hE hx00 hfit hrd1
      have HFr := fun (b : Bool) => Aside0.mk (frame_calls wr w.heap.size u3 os x A1 c1 b hOs.out hBel.out.size (fun W' hW => Kd.C_below HRd.out (hBel.out.trans hW)) HFit.out.2 HFit.out.1 (by omega))
      by_cases hlast : i + 1 = l.length
      · rw [decide_eq_true hlast] at hRi'
        have hb1 : ((i : Int) == (l.length : Int) - 1) = true := beq_iff_eq.mpr (by omega)
        have HRi := Aside0.mk (show (os ++ frameOf x true) ++ ofGo (l.drop (i + 1)) = R by rw [List.append_assoc]; exact hRi')
        have HOL := Aside0.mk (show (os ++ frameOf x true).length ≤ 259 * (i + 1) by rw [List.length_append, frameOf_length]; have := HFit.out.1; omega)
        clear hRi'
        go_wp2_with (go_at_call 74; refine (HFr true).out.mono ?_; rintro e w3 ⟨v3, rfl, h3, hb3⟩; have H3 := Aside0.mk h3; have HB3 := Aside0.mk (hBel.out.trans hb3); clear h3 hb3)
        go_roundg (l.length - (i + 1))
        case measure => have := hK.out; omega
        case rel => exact ⟨i + 1, _, by go_num, ⟨by omega⟩, HOL, HRi, H3, HB3⟩
      · rw [decide_eq_false hlast] at hRi'
        have hb1 : ((i : Int) == (l.length : Int) - 1) = false := beq_eq_false_iff_ne.mpr (by omega)
        have HRi := Aside0.mk (show (os ++ frameOf x false) ++ ofGo (l.drop (i + 1)) = R by rw [List.append_assoc]; exact hRi')
        have HOL := Aside0.mk (show (os ++ frameOf x false).length ≤ 259 * (i + 1) by rw [List.length_append, frameOf_length]; have := HFit.out.1; omega)
        clear hRi'
        go_wp2_with (go_at_call 74; refine (HFr false).out.mono ?_; rintro e w3 ⟨v3, rfl, h3, hb3⟩; have H3 := Aside0.mk h3; have HB3 := Aside0.mk (hBel.out.trans hb3); clear h3 hb3)
        go_roundg (l.length - (i + 1))
        case measure => have := hK.out; omega
        case rel => exact ⟨i + 1, _, by go_num, ⟨by omega⟩, HOL, HRi, H3, HB3⟩
    · have HT := Aside0.mk (show os = R by have h := hRi.out; rw [List.drop_of_length_le (by omega), ofGo, List.append_nil] at h; exact h)
      go_wp2
      go_ret
      exact ⟨_, rfl, by rw [← HT.out]; exact hOs.out, hBel.out⟩

end Go.Proofs.Ytmfkgbncnaingaa.Wal
