/- json.Of: a value's text. -/
import Derived.Test.YtmhfkbgdkgfafaaDoorJsD
import Derived.Test.YtmhfkbgdkgfafaaDoorJsE
namespace Go.Proofs.YtmhfkbgdkgfafaaDoor.Js
open Go.RowKit Go.Proofs.YtmhfkbgdkgfafaaDoor.QJson Go.Proofs.YtmhfkbgdkgfafaaDoorW.PrintWords Go.Proofs.YtmhfkbgdkgfafaaDoorW.PrintLast Go.Proofs.YtmhfkbgdkgfafaaDoorW.PrintMore
set_option linter.unusedVariables false
set_option linter.unusedSimpArgs false

mutual
/-- A value's text. -/
def vt : S26 → List UInt8
  | ⟨k, n, t, ks, ps⟩ =>
    if k = 2 then [102, 97, 108, 115, 101] else if k = 3 then [116, 114, 117, 101] else if k = 4 then Lib.itoa n else if k = 5 then quote t.data.toList
    else if k = 6 then 91 :: (Lib.join (vts k ks ps) [44] ++ [93]) else if k = 7 then 123 :: (Lib.join (vts k ks ps) [44] ++ [125]) else [110, 117, 108, 108]
def vts : Int → List ByteArray → List S26 → List (List UInt8)
  | _, _, [] => []
  | k, ks, p :: ps => (if k = 7 then quote (ks.headD ⟨#[]⟩).data.toList ++ 58 :: vt p else vt p) :: vts k ks.tail ps
end
/-- One item's text. -/
def item (k : Int) (key : ByteArray) (p : S26) : List UInt8 := if k = 7 then quote key.data.toList ++ 58 :: vt p else vt p
theorem vts_length (k : Int) : ∀ (ps : List S26) (ks : List ByteArray), (vts k ks ps).length = ps.length
  | [], _ => rfl
  | p :: ps, ks => by rw [vts, List.length_cons, vts_length k ps, List.length_cons]
theorem vts_get (k : Int) : ∀ (ps : List S26) (ks : List ByteArray) (i : Nat) (hi : i < ps.length), (vts k ks ps)[i]? = some (item k (ks.getD i ⟨#[]⟩) ps[i])
  | [], _, i, hi => absurd hi (Nat.not_lt_zero _)
  | p :: ps, ks, 0, _ => by rw [vts]; cases ks <;> rfl
  | p :: ps, ks, i + 1, hi => by
    rw [vts, List.getElem?_cons_succ, vts_get k ps ks.tail i (by simpa using hi)]
    cases ks <;> simp

/-- Keys in their order. -/
def Ascs (ks : List ByteArray) : Prop := ∀ i (h : i + 1 < ks.length), Op.bytesLess (ks[i]).toList (ks[i + 1]).toList = true
/-- As a value may be. -/
inductive WF : Nat → S26 → Prop
  | mk {d : Nat} {v : S26} (k1 : 1 ≤ v.f0) (k7 : v.f0 ≤ 7) (pl : plainB v.f0 v.f1 v.f2 v.f3.length v.f4.length = true) (kp : v.f0 = 7 → v.f3.length = v.f4.length)
    (n0 : -9007199254740992 < v.f1) (n1 : v.f1 < 9007199254740992) (ha : Ascs v.f3) (ps : ∀ p ∈ v.f4, WF d p) : WF (d + 1) v
theorem WF.leaf {d : Nat} {v : S26} (h : WF d v) (h6 : v.f0 ≠ 6) (h7 : v.f0 ≠ 7) : v.f4 = [] := by
  obtain ⟨k1, k7, pl, kp, n0, n1, ha, ps⟩ := h
  unfold plainB at pl
  have e6 : (v.f0 == 6) = false := beq_eq_false_iff_ne.2 h6
  have e7 : (v.f0 == 7) = false := beq_eq_false_iff_ne.2 h7
  rw [e6, e7] at pl
  simp only [Bool.false_or, Bool.and_eq_true, beq_iff_eq] at pl
  exact List.length_eq_zero_iff.1 pl.2
theorem WF.part {d : Nat} {v p : S26} (h : WF (d + 1) v) (hp : p ∈ v.f4) : WF d p := by
  cases h with
  | mk _ _ _ _ _ _ _ h => exact h p hp
theorem WF.keys {d : Nat} {v : S26} (h : WF d v) (h7 : v.f0 = 7) : v.f3.length = v.f4.length := by
  cases h with
  | mk _ _ _ h _ _ _ _ => exact h h7
theorem WF.plainOk {d : Nat} {v : S26} (h : WF d v) : plainB v.f0 v.f1 v.f2 v.f3.length v.f4.length = true := by
  cases h with
  | mk _ _ h _ _ _ _ _ => exact h
theorem WF.ascOk {d : Nat} {v : S26} (h : WF d v) : Ascs v.f3 := by
  cases h with
  | mk _ _ _ _ _ _ h _ => exact h
theorem WF.keysLen {d : Nat} {v : S26} (h : WF d v) : v.f3.length ≤ v.f4.length := by
  by_cases h7 : v.f0 = 7
  · rw [h.keys h7]; exact Nat.le_refl _
  · have pl := h.plainOk
    unfold plainB at pl
    have e7 : (v.f0 == 7) = false := beq_eq_false_iff_ne.2 h7
    rw [e7] at pl
    simp only [Bool.false_or, Bool.and_eq_true, beq_iff_eq] at pl
    omega
theorem WF.num {d : Nat} {v : S26} (h : WF d v) : -9007199254740992 < v.f1 ∧ v.f1 < 9007199254740992 := by
  cases h with
  | mk _ _ _ _ h0 h1 _ _ => exact ⟨h0, h1⟩
theorem WF.kind {d : Nat} {v : S26} (h : WF d v) : 1 ≤ v.f0 ∧ v.f0 ≤ 7 := by
  cases h with
  | mk h0 h1 _ _ _ _ _ _ => exact ⟨h0, h1⟩
theorem box_cells (w : World) (cs : Array Value) (j : Nat) (u : Value) (h : cs[j]? = some u) : (w.alloc (.cells cs 26)).cell? ⟨w.heap.size, j, none⟩ = some u := by
  rw [World.cell?_alloc_new]; exact h
theorem join_le {x : List UInt8} {xs : List (List UInt8)} {sep : List UInt8} (h : x ∈ xs) : x.length ≤ (Lib.join xs sep).length := by
  induction xs with
  | nil => cases h
  | cons y ys ih =>
    cases ys with
    | nil =>
      rw [Lib.join_one]
      rw [List.mem_singleton.1 h]; exact Nat.le_refl _
    | cons z zs =>
      have he : Lib.join (y :: z :: zs) sep = y ++ sep ++ Lib.join (z :: zs) sep := by
        simp [Lib.join, List.intercalate, List.intersperse]
      rw [he]
      rcases List.mem_cons.1 h with rfl | h
      · simp only [List.length_append]; omega
      · have := ih h
        simp only [List.length_append]; omega
/-- Both tables of the library's. -/
structure Tabs (w : World) : Prop where
  deb : Lib.TabIs Tryd.prog w "math/bits.deBruijn64tab" .u8 tab64
  pow : Lib.TabIs Tryd.prog w "internal/strconv.uint64pow10" .u64 Lib.pow10Tab
theorem Tabs.below {w w' : World} (h : Tabs w) (hb : Below w.heap.size w w') : Tabs w' := ⟨Lib.tabBelow_of_tabIs h.deb w' hb, Lib.tabBelow_of_tabIs h.pow w' hb⟩
theorem itoa_calls (n : Int) (h0 : -9007199254740992 < n) (h1 : n < 9007199254740992) (w : World) (hT : Tabs w) : Calls Tryd.prog 13 #[.int .i64 n] w fun e w' => e = .returned (.string ⟨(Lib.itoa n).toArray⟩) ∧ Below w.heap.size w w' := by
  refine (Tryd.strconv_Itoa n (by omega) (by omega) w hT.pow).mono ?_
  rintro e w' ⟨rfl, k, os, rfl⟩
  exact ⟨rfl, Lib.below_grow _ _ (Nat.le_refl _) k os⟩
/-- A text as a string. -/
def str (l : List UInt8) : ByteArray := ⟨l.toArray⟩
theorem str_list (l : List UInt8) : (str l).data.toList = l := by simp [str]
theorem str_append (a b : List UInt8) : str a ++ str b = str (a ++ b) := by
  apply ByteArray.ext
  rw [ByteArray.data_append]
  simp [str]
theorem quoted_calls (s : ByteArray) (hn : s.data.toList.length ≤ 1000000) (w : World) (hT : Tabs w) : Calls Tryd.prog 12 #[.string s] w fun e w' => e = .returned (.string (str (quote s.data.toList))) ∧ Below w.heap.size w w' := quoted_walk s _ rfl hn w hT.deb
theorem str_size (l : List UInt8) : (str l).size = l.length := by rw [← ByteArray.size_data]; simp [str]
/-- strings.Join of strings of the call's own. -/
theorem join_calls {w : World} {base : Nat} {ok : Nat → Prop} {A : Option Addr} {c : Nat} (xs : List (List UInt8)) (h : Kd.string.R 9 w base ok (.slice A (xs.map str).length c) (xs.map str)) (hl : (Lib.join xs [44]).length ≤ 1000000) (hn : xs.length ≤ 1000000) :
    Calls Tryd.prog 14 #[.slice A (xs.map str).length c, .string ⟨#[44]⟩] w fun e w' => e = .returned (.string (str (Lib.join xs [44]))) ∧ Below w.heap.size w w' := by
  have ho := Kd.own_of_R h
  rcases ho.2 with ⟨hv, h0⟩ | ⟨g, cap, cur, hv, hb, hh, hc, hm, hs, ht⟩
  · have hx : xs = [] := by simpa using h0
    subst hx
    refine (Tryd.strings_Join_none A c ⟨#[44]⟩ w).mono ?_
    rintro e w' ⟨rfl, rfl⟩
    exact ⟨rfl, Below.refl _ _⟩
  · injection hv with e1 e2 e3
    subst e1 e3
    have hmap : (xs.map str).map (fun x : ByteArray => x.data.toList) = xs := by
      rw [List.map_map, show ((fun x : ByteArray => x.data.toList) ∘ str) = id from funext str_list, List.map_id]
    have hj := Tryd.strings_Join g 0 c (xs.map str) ⟨#[44]⟩ w (fun j x hj => by
        have hjl := (List.getElem?_eq_some_iff.1 hj).1
        rw [Nat.zero_add, blk_cell hh]
        have h2 : ((cur.toList.take ((xs.map str).length * 1)))[j]? = some (.string x) := by
          rw [ht]; show ((xs.map str).map Value.string)[j]? = _; rw [List.getElem?_map, hj]; rfl
        rw [List.getElem?_take_of_lt (by omega)] at h2
        simpa using h2) (own_lt ho g (by simp [Value.ownBlock])) (by rw [List.length_map]; omega) (by simpa using hc) (by rw [hmap]; show (Lib.join xs [44]).length ≤ _; omega)
    rw [hmap] at hj
    exact hj

theorem quote_le (l : List UInt8) : l.length ≤ (quote l).length := by
  have h : l.length ≤ (l.flatMap esc).length := by
    induction l with
    | nil => simp
    | cons c l ih =>
      rw [List.flatMap_cons, List.length_append, List.length_cons]
      have : 1 ≤ (esc c).length := by
        unfold esc
        repeat' split
        all_goals simp
      omega
  unfold quote
  simp only [List.length_cons, List.length_append]
  omega
theorem item_le {k n : Int} {t : ByteArray} {ks : List ByteArray} {ps : List S26} (h67 : k = 6 ∨ k = 7) {i : Nat} (hi : i < ps.length) : (item k (ks.getD i ⟨#[]⟩) ps[i]).length ≤ (vt ⟨k, n, t, ks, ps⟩).length ∧ (vts k ks ps).length = ps.length := by
  have hm : item k (ks.getD i ⟨#[]⟩) ps[i] ∈ vts k ks ps := List.mem_of_getElem? (vts_get k ps ks i hi)
  have h1 := join_le (sep := [44]) hm
  refine ⟨?_, vts_length _ _ _⟩
  rcases h67 with rfl | rfl
  · rw [vt, if_neg (by decide), if_neg (by decide), if_neg (by decide), if_neg (by decide), if_pos rfl]
    simp only [List.length_cons, List.length_append]; omega
  · rw [vt, if_neg (by decide), if_neg (by decide), if_neg (by decide), if_neg (by decide), if_neg (by decide), if_pos rfl]
    simp only [List.length_cons, List.length_append]; omega
theorem join_count (xs : List (List UInt8)) : xs.length ≤ (Lib.join xs [44]).length + 1 := by
  induction xs with
  | nil => simp
  | cons y ys ih =>
    cases ys with
    | nil => simp
    | cons z zs =>
      have he : Lib.join (y :: z :: zs) [44] = y ++ [44] ++ Lib.join (z :: zs) [44] := by
        simp [Lib.join, List.intercalate, List.intersperse]
      rw [he]
      simp only [List.length_append, List.length_cons] at ih ⊢
      omega
theorem vts_count {k n : Int} {t : ByteArray} {ks : List ByteArray} {ps : List S26} (h67 : k = 6 ∨ k = 7) (hl : (vt ⟨k, n, t, ks, ps⟩).length ≤ 1000000) : ps.length ≤ 1000001 := by
  have h1 := join_count (vts k ks ps)
  rw [vts_length] at h1
  rcases h67 with rfl | rfl
  · rw [vt, if_neg (by decide), if_neg (by decide), if_neg (by decide), if_neg (by decide), if_pos rfl] at hl
    simp only [List.length_cons, List.length_append] at hl; omega
  · rw [vt, if_neg (by decide), if_neg (by decide), if_neg (by decide), if_neg (by decide), if_neg (by decide), if_pos rfl] at hl
    simp only [List.length_cons, List.length_append] at hl; omega
theorem key_cell {w : World} {ks : List ByteArray} {kd : Addr} {key : ByteArray} (h : Kd.C Kd.string w (some kd) ks.length ks) (i : Nat) (h0 : (0 : Int) ≤ i) (h1 : (i : Int) < ks.length) (hk : key = ks.getD i ⟨#[]⟩) : w.cell? (kd.add i) = some (.string key) := by
  obtain ⟨ad, e, hc⟩ := Kd.at_string h (i : Int) h0 h1
  cases e
  rw [Int.toNat_natCast] at hc
  rw [hc, hk]; rfl
theorem item_part (k : Int) (key : ByteArray) (p : S26) : (vt p).length ≤ (item k key p).length := by
  unfold item; split
  · simp only [List.length_append, List.length_cons]; omega
  · exact Nat.le_refl _
theorem item_key (key : ByteArray) (p : S26) : key.data.toList.length ≤ (item 7 key p).length := by
  unfold item; rw [if_pos rfl]
  have := quote_le key.data.toList
  simp only [List.length_append, List.length_cons]; omega
theorem take_item (k : Int) (ks : List ByteArray) (ps : List S26) (i : Nat) (hi : i < ps.length) : (((vts k ks ps).take (i + 1)).map str) = ((vts k ks ps).take i).map str ++ [str (item k (ks.getD i ⟨#[]⟩) ps[i])] := by
  have h := vts_get k ps ks i hi
  obtain ⟨h1, h2⟩ := List.getElem?_eq_some_iff.1 h
  rw [List.take_succ_eq_append_getElem h1, h2, List.map_append]; rfl

set_option maxHeartbeats 8000000 in
set_option maxRecDepth 100000 in
theorem of_walk : ∀ (d : Nat) (v : S26) (hv : WF d v) (hl : (vt v).length ≤ 1000000) (A3 : Option Addr) (c3 : Nat) (A4 : Option Addr) (c4 : Nat) (w : World) (h3 : Kd.C Kd.string w A3 v.f3.length v.f3) (l3 : v.f3.length ≤ c3) (h4 : Kd.C k26 w A4 v.f4.length v.f4) (l4 : v.f4.length ≤ c4) (hT : Tabs w),
    Calls Tryd.prog 9 #[.agg #[.int .i64 v.f0, .int .i64 v.f1, .string v.f2, .slice A3 v.f3.length c3, .slice A4 v.f4.length c4]] w fun e w' => e = .returned (.string (str (vt v))) ∧ Below w.heap.size w w'
  | 0, v, hv => nomatch hv
  | d + 1, v, hv => by
    intro hl A3 c3 A4 c4 w h3 l3 h4 l4 hT
    have IH := Aside0.mk (of_walk d)
    have HV := Aside0.mk hv
    have H3 := Aside0.mk h3
    have H4 := Aside0.mk h4
    have HT := Aside0.mk hT
    have HL := Aside0.mk hl
    obtain ⟨k, n, t, ks, ps⟩ := v
    dsimp only at *
    clear hv h3 h4 hT hl l3 l4
    go_enter Tryd.func9, Tryd.ntmps9
    go_wp2
    obtain ⟨g, hg⟩ : ∃ g, g = w.heap.size := ⟨_, rfl⟩
    have HG := Aside0.mk (show g < (w.alloc (.cells #[.int .i64 k, .int .i64 n, .string t, .slice A3 ks.length c3, .slice A4 ps.length c4] 26)).heap.size by rw [hg]; simp)
    have HB1 := Aside0.mk (show Below w.heap.size w (w.alloc (.cells #[.int .i64 k, .int .i64 n, .string t, .slice A3 ks.length c3, .slice A4 ps.length c4] 26)) from below_alloc (Below.refl _ _) _)
    have HC := Aside0.mk (box_cells w #[.int .i64 k, .int .i64 n, .string t, .slice A3 ks.length c3, .slice A4 ps.length c4])
    generalize w.alloc (.cells #[.int .i64 k, .int .i64 n, .string t, .slice A3 ks.length c3, .slice A4 ps.length c4] 26) = W1 at HG HB1 HC ⊢
    rw [← hg] at HC ⊢
    clear hg
    have HT1 := Aside0.mk (HT.out.below HB1.out)
    have H3' := Aside0.mk (Kd.C_below H3.out HB1.out)
    have H4' := Aside0.mk (Kd.C_below H4.out HB1.out)
    clear HT H3 H4
    go_loopg [3, 10] ps.length (fun kq v3 v10 wr => ∃ (i : Nat), v10 = .int .i64 i ∧ Aside0 (kq + i = ps.length) ∧ Aside0 (Kd.R Kd.string 9 wr W1.heap.size (fun _ => True) v3 (((vts k ks ps).take i).map str)) ∧ Aside0 (Below W1.heap.size W1 wr))
    case atStart => exact ⟨0, rfl, ⟨by omega⟩, ⟨Kd.R_nil _ _ _ _ _⟩, ⟨Below.refl _ _⟩⟩
    case round =>
      obtain ⟨i, rfl, hK, hO, hW⟩ := hrel
      have x0 := (hW.out.cell (p := ⟨g, 0, none⟩) HG.out).trans (HC.out 0 _ rfl)
      have x1 := (hW.out.cell (p := ⟨g, 1, none⟩) HG.out).trans (HC.out 1 _ rfl)
      have x2 := (hW.out.cell (p := ⟨g, 2, none⟩) HG.out).trans (HC.out 2 _ rfl)
      have x3 := (hW.out.cell (p := ⟨g, 3, none⟩) HG.out).trans (HC.out 3 _ rfl)
      have hO2 := hO.out
      obtain ⟨A, c, hv3⟩ := Kd.R_slice hO2
      obtain ⟨olds, holds⟩ : ∃ o, o = ((vts k ks ps).take i).map str := ⟨_, rfl⟩
      have HOl := Aside0.mk holds
      rw [← holds] at hO2 hv3
      obtain ⟨no, hno⟩ : ∃ m, m = olds.length := ⟨_, rfl⟩
      rw [← hno] at hv3
      subst hv3
      have HO2 := Aside0.mk hO2
      have HNo := Aside0.mk hno
      clear holds hO2 hO hno
      by_cases hlt : i < ps.length
      · have hi1 : (i : Int) < (ps.length : Int) := by omega
        have hi0 : (0 : Int) ≤ (i : Int) := by omega
        have HTk := Aside0.mk (take_item k ks ps i hlt)
        have h67 : k = 6 ∨ k = 7 := by
          by_cases h6 : k = 6
          · exact .inl h6
          · by_cases h7 : k = 7
            · exact .inr h7
            · have := HV.out.leaf h6 h7
              rw [show ps = [] from this] at hlt
              exact absurd hlt (Nat.not_lt_zero _)
        have HIt := Aside0.mk (item_le (n := n) (t := t) (ks := ks) h67 hlt)
        have hwf := HV.out.part (List.getElem_mem hlt)
        have hel : rd_T26 ps (i : Int) = ps[i] := by simp [rd_T26, List.getD_eq_getElem?_getD, hlt]
        obtain ⟨ad, B3, b3, B4, b4, hA4, e0, e1, e2, e3, e4, l3, g3, l4, g4⟩ := at_T26 (Kd.C_below H4'.out hW.out) (i : Int) hi0 hi1
        subst hA4
        rw [hel] at e0 e1 e2 e3 e4 l3 g3 l4 g4
        rw [Int.toNat_natCast] at e0 e1 e2 e3 e4
        generalize ps[i] = p at HTk HIt hwf e0 e1 e2 e3 e4 l3 g3 l4 g4
        have HWf := Aside0.mk hwf
        have HG3 := Aside0.mk (And.intro g3 l3)
        have HG4 := Aside0.mk (And.intro g4 l4)
        have HIH := Aside0.mk (fun B3 b3 B4 b4 w h3 l3 h4 l4 hT => IH.out p hwf (by have h1 := HIt.out.1; have h2 := item_part k (ks.getD i ⟨#[]⟩) p; have h3 := HL.out; omega) B3 b3 B4 b4 w h3 l3 h4 l4 hT)
        obtain ⟨sv, hsv⟩ : ∃ s, s = str (vt p) := ⟨_, rfl⟩
        rw [← hsv] at HIH
        have HSv := Aside0.mk hsv
        obtain ⟨f0, f1, f2, f3, f4⟩ := p
        dsimp only at e0 e1 e2 e3 e4 HG3 HG4 HIH
        clear hwf hel l3 g3 l4 g4 hsv
        have HPs := Aside0.mk (vts_count (n := n) (t := t) (ks := ks) (ps := ps) h67 HL.out)
        have HNl := Aside0.mk (show olds.length ≤ i by rw [HOl.out, List.length_map, List.length_take]; omega)
        have hwi : IntKind.i64.wrap ((i : Int) + 1) = (i : Int) + 1 := by have := HPs.out; rw [IntKind.wrap_i64]; omega
        rcases h67 with rfl | rfl
        · have q7 : ((6 : Int) == 7) = false := by decide
          go_wp2_with (first
            | (have _s := HSv; go_at_call 9; refine (HIH.out B3 b3 B4 b4 _ (Kd.C_below HG3.out.1 (below_alloc (Below.refl _ _) _)) HG3.out.2 (Kd.C_below HG4.out.1 (below_alloc (Below.refl _ _) _)) HG4.out.2 ((HT1.out.below hW.out).below (below_alloc (Below.refl _ _) _))).mono ?_; rintro e w5 ⟨rfl, hb⟩; have S5 := Aside0.mk ((below_alloc (Below.refl _ _) _).trans (hb.mono (by simp))); have HW5 := Aside0.mk (hW.out.trans (S5.out.mono hW.out.size)); have y0 := (HW5.out.cell (p := ⟨g, 0, none⟩) HG.out).trans (HC.out 0 _ rfl); have y3 := (HW5.out.cell (p := ⟨g, 3, none⟩) HG.out).trans (HC.out 3 _ rfl); clear hb _s)
            | ((with_reducible refine gate_builtin (b := .append) (xs := #[.tmp 29, .tmp 31]) rfl ?_); at_builtin; refine Kd.R_append Kd.string (w0 := W1) W1.heap.size rfl (.tmp 29) (.tmp 31) 23 9 _ _ rfl Tryd.underlying23 info9 rfl (by decide) (by omega) _ olds sv [.string sv] (fun _ => True) (fun _ => False) (by first | rfl | (rw [← HNo.out]; rfl)) (by first | (go_simp; done) | (go_simp; rfl)) rfl (fun _ h => h.elim) (fun _ _ => trivial) (Kd.R_below HO2.out S5.out) HW5.out HW5.out.size (by have h1 := HNl.out; have h2 := HPs.out; omega) ?_; intro v6 w6 ho hb _ _; have HO6 := Aside0.mk ho; have HB6 := Aside0.mk hb; clear ho hb))
          go_roundg (gk - 1)
          case measure => have := hK.out; omega
          case rel => exact ⟨i + 1, by go_num, ⟨by have := hK.out; omega⟩, ⟨by rw [HTk.out, ← HOl.out, item, if_neg (by decide), ← HSv.out]; exact HO6.out⟩, HB6⟩
        · have q7 : ((7 : Int) == 7) = true := by decide
          have hkl : (i : Int) < (ks.length : Int) := by have := HV.out.keys rfl; dsimp only at this; omega
          obtain ⟨kd, hA3, _⟩ := Kd.at_string H3'.out (i : Int) hi0 hkl
          subst hA3
          obtain ⟨key, hkey⟩ : ∃ key, key = ks.getD i ⟨#[]⟩ := ⟨_, rfl⟩
          have HKey := Aside0.mk (fun (w' : World) (h : Kd.C Kd.string w' (some kd) ks.length ks) => key_cell h i hi0 hkl hkey)
          have HQ := Aside0.mk (fun w hT => quoted_calls key (by have h1 := HIt.out.1; rw [← hkey] at h1; have h2 := item_key key ⟨f0, f1, f2, f3, f4⟩; have h3 := HL.out; omega) w hT)
          rw [← hkey] at HTk
          obtain ⟨qk, hqk⟩ : ∃ q, q = str (quote key.data.toList) := ⟨_, rfl⟩
          rw [← hqk] at HQ
          obtain ⟨q1, hq1⟩ : ∃ q, q = qk ++ (⟨#[58]⟩ : ByteArray) := ⟨_, rfl⟩
          obtain ⟨q2, hq2⟩ : ∃ q, q = q1 ++ sv := ⟨_, rfl⟩
          have HQ2 := Aside0.mk (show str (item 7 key ⟨f0, f1, f2, f3, f4⟩) = q2 by
            rw [hq2, hq1, hqk, HSv.out, show (⟨#[58]⟩ : ByteArray) = str [58] from rfl, str_append, str_append, item, if_pos rfl]; simp)
          have hz1 : ¬ 9223372036854775807 < qk.size + 1 := by
            have h1 := HIt.out.1; rw [← hkey] at h1
            have h2 : (quote key.data.toList).length ≤ (item 7 key ⟨f0, f1, f2, f3, f4⟩).length := by rw [item, if_pos rfl, List.length_append]; omega
            have h3 := HL.out
            rw [hqk, str_size]; omega
          have hz2 : ¬ 9223372036854775807 < q1.size + sv.size := by
            have h1 := HIt.out.1; rw [← hkey] at h1
            have h2 : (quote key.data.toList).length ≤ (item 7 key ⟨f0, f1, f2, f3, f4⟩).length := by rw [item, if_pos rfl, List.length_append]; omega
            have h4 := item_part 7 key ⟨f0, f1, f2, f3, f4⟩
            have h3 := HL.out
            rw [hq1, hqk, HSv.out, show (⟨#[58]⟩ : ByteArray) = str [58] from rfl, str_append, str_size, str_size, List.length_append]
            simp only [List.length_cons, List.length_nil]; omega
          have hc1 := hq1.symm
          have hc2 := hq2.symm
          clear hkey hqk hq1 hq2
          go_wp2_with (first
            | (have _s := HSv; go_at_call 9; refine (HIH.out B3 b3 B4 b4 _ (Kd.C_below HG3.out.1 (below_alloc (Below.refl _ _) _)) HG3.out.2 (Kd.C_below HG4.out.1 (below_alloc (Below.refl _ _) _)) HG4.out.2 ((HT1.out.below hW.out).below (below_alloc (Below.refl _ _) _))).mono ?_; rintro e w5 ⟨rfl, hb⟩; have S5 := Aside0.mk ((below_alloc (Below.refl _ _) _).trans (hb.mono (by simp))); have HW5 := Aside0.mk (hW.out.trans (S5.out.mono hW.out.size)); have y0 := (HW5.out.cell (p := ⟨g, 0, none⟩) HG.out).trans (HC.out 0 _ rfl); have y3 := (HW5.out.cell (p := ⟨g, 3, none⟩) HG.out).trans (HC.out 3 _ rfl); have z0 := HKey.out w5 (Kd.C_below H3'.out HW5.out); clear hb _s HKey)
            | (go_at_call 12; refine (HQ.out _ (HT1.out.below HW5.out)).mono ?_; rintro e w7 ⟨rfl, hb⟩; have S7 := Aside0.mk hb; have HW7 := Aside0.mk (HW5.out.trans (hb.mono HW5.out.size)); clear hb)
            | ((with_reducible refine gate_builtin (b := .append) (xs := #[.tmp 29, .tmp 31]) rfl ?_); at_builtin; refine Kd.R_append Kd.string (w0 := W1) W1.heap.size rfl (.tmp 29) (.tmp 31) 23 9 _ _ rfl Tryd.underlying23 info9 rfl (by decide) (by omega) _ olds q2 [.string q2] (fun _ => True) (fun _ => False) (by first | rfl | (rw [← HNo.out]; rfl)) (by first | (go_simp; done) | (go_simp; rfl)) rfl (fun _ h => h.elim) (fun _ _ => trivial) (Kd.R_below (Kd.R_below HO2.out S5.out) S7.out) HW7.out HW7.out.size (by have h1 := HNl.out; have h2 := HPs.out; omega) ?_; intro v6 w6 ho hb _ _; have HO6 := Aside0.mk ho; have HB6 := Aside0.mk hb; clear ho hb))
          go_roundg (gk - 1)
          case measure => have := hK.out; omega
          case rel => exact ⟨i + 1, by go_num, ⟨by have := hK.out; omega⟩, ⟨by rw [HTk.out, ← HOl.out, HQ2.out]; exact HO6.out⟩, HB6⟩
      · have hil : i = ps.length := by have := hK.out; omega
        have hib : ¬ (i : Int) < (ps.length : Int) := by omega
        have hall : olds = (vts k ks ps).map str := by rw [HOl.out, List.take_of_length_le (by rw [vts_length]; omega)]
        have HRo := Aside0.mk (show Kd.R Kd.string 9 wr W1.heap.size (fun _ => True) (.slice A ((vts k ks ps).map str).length c) ((vts k ks ps).map str) by
          have h1 := HO2.out
          rw [HNo.out, hall] at h1; exact h1)
        have hno2 : no = ((vts k ks ps).map str).length := by rw [HNo.out, hall]
        have hkr := HV.out.kind
        dsimp only at hkr
        clear hil hall
        by_cases e2 : k = 2
        · have HR := Aside0.mk (show str (vt ⟨k, n, t, ks, ps⟩) = ⟨#[102, 97, 108, 115, 101]⟩ by rw [vt, if_pos e2]; rfl)
          subst e2
          go_wp2
          go_ret
          exact ⟨by rw [HR.out]; rfl, HB1.out.trans (hW.out.mono HB1.out.size)⟩
        · have f2 : (k == 2) = false := beq_eq_false_iff_ne.2 e2
          by_cases e3 : k = 3
          · have HR := Aside0.mk (show str (vt ⟨k, n, t, ks, ps⟩) = ⟨#[116, 114, 117, 101]⟩ by rw [vt, if_neg e2, if_pos e3]; rfl)
            subst e3
            go_wp2
            go_ret
            exact ⟨by rw [HR.out]; rfl, HB1.out.trans (hW.out.mono HB1.out.size)⟩
          · have f3 : (k == 3) = false := beq_eq_false_iff_ne.2 e3
            by_cases e4 : k = 4
            · have HR := Aside0.mk (show str (vt ⟨k, n, t, ks, ps⟩) = str (Lib.itoa n) by rw [vt, if_neg e2, if_neg e3, if_pos e4])
              have HN := Aside0.mk HV.out.num
              subst e4
              go_wp2_with (first
                | (go_at_call 13; refine (itoa_calls n HN.out.1 HN.out.2 _ (HT1.out.below hW.out)).mono ?_; rintro e w5 ⟨rfl, hb⟩; have S5 := Aside0.mk hb; clear hb))
              go_ret
              exact ⟨by rw [HR.out]; rfl, HB1.out.trans ((hW.out.trans (S5.out.mono hW.out.size)).mono HB1.out.size)⟩
            · have f4 : (k == 4) = false := beq_eq_false_iff_ne.2 e4
              by_cases e5 : k = 5
              · have HR := Aside0.mk (show str (vt ⟨k, n, t, ks, ps⟩) = str (quote t.data.toList) by rw [vt, if_neg e2, if_neg e3, if_neg e4, if_pos e5])
                have HQ := Aside0.mk (fun w hT => quoted_calls t (by
                  have h1 := quote_le t.data.toList
                  have h2 := HL.out
                  have h3 := congrArg ByteArray.size HR.out
                  rw [str_size, str_size] at h3; omega) w hT)
                subst e5
                go_wp2_with (first
                  | (go_at_call 12; refine (HQ.out _ (HT1.out.below hW.out)).mono ?_; rintro e w5 ⟨rfl, hb⟩; have S5 := Aside0.mk hb; clear hb))
                go_ret
                exact ⟨by rw [HR.out]; rfl, HB1.out.trans ((hW.out.trans (S5.out.mono hW.out.size)).mono HB1.out.size)⟩
              · have f5 : (k == 5) = false := beq_eq_false_iff_ne.2 e5
                by_cases e6 : k = 6
                · have HR := Aside0.mk (show str (vt ⟨k, n, t, ks, ps⟩) = str (91 :: (Lib.join (vts k ks ps) [44] ++ [93])) by rw [vt, if_neg e2, if_neg e3, if_neg e4, if_neg e5, if_pos e6])
                  have hjl : (Lib.join (vts k ks ps) [44]).length + 2 ≤ 1000000 := by
                    have h2 := HL.out
                    have h3 := congrArg ByteArray.size HR.out
                    rw [str_size, str_size] at h3
                    simp only [List.length_cons, List.length_append, List.length_nil] at h3; omega
                  have HJ := Aside0.mk (fun (w' : World) (hb : Below wr.heap.size wr w') => join_calls (vts k ks ps) (Kd.R_below HRo.out hb) (by omega) (by have h1 := join_count (vts k ks ps); omega))
                  rw [← hno2] at HJ
                  obtain ⟨sj, hsj⟩ : ∃ s, s = str (Lib.join (vts k ks ps) [44]) := ⟨_, rfl⟩
                  rw [← hsj] at HJ
                  obtain ⟨q1, hq1⟩ : ∃ q, q = (⟨#[91]⟩ : ByteArray) ++ sj := ⟨_, rfl⟩
                  obtain ⟨q2, hq2⟩ : ∃ q, q = q1 ++ (⟨#[93]⟩ : ByteArray) := ⟨_, rfl⟩
                  have HR2 := Aside0.mk (show str (vt ⟨k, n, t, ks, ps⟩) = q2 by
                    rw [HR.out, hq2, hq1, hsj, show (⟨#[91]⟩ : ByteArray) = str [91] from rfl, show (⟨#[93]⟩ : ByteArray) = str [93] from rfl, str_append, str_append]; rfl)
                  have hz1 : ¬ 9223372036854775807 < 1 + sj.size := by rw [hsj, str_size]; omega
                  have hz2 : ¬ 9223372036854775807 < q1.size + 1 := by
                    rw [hq1, hsj, show (⟨#[91]⟩ : ByteArray) = str [91] from rfl, str_append, str_size, List.length_append]
                    simp only [List.length_cons, List.length_nil]; omega
                  have hc1 := hq1.symm
                  have hc2 := hq2.symm
                  clear hq1 hq2 hsj hjl hno2
                  subst e6
                  go_wp2_with (first
                    | (go_at_call 14; refine (HJ.out _ (Below.refl _ _)).mono ?_; rintro e w5 ⟨rfl, hb⟩; have S5 := Aside0.mk hb; clear hb))
                  go_ret
                  exact ⟨by rw [HR2.out]; rfl, HB1.out.trans ((hW.out.trans (S5.out.mono hW.out.size)).mono HB1.out.size)⟩
                · have f6 : (k == 6) = false := beq_eq_false_iff_ne.2 e6
                  by_cases e7 : k = 7
                  · have HR := Aside0.mk (show str (vt ⟨k, n, t, ks, ps⟩) = str (123 :: (Lib.join (vts k ks ps) [44] ++ [125])) by rw [vt, if_neg e2, if_neg e3, if_neg e4, if_neg e5, if_neg e6, if_pos e7])
                    have hjl : (Lib.join (vts k ks ps) [44]).length + 2 ≤ 1000000 := by
                      have h2 := HL.out
                      have h3 := congrArg ByteArray.size HR.out
                      rw [str_size, str_size] at h3
                      simp only [List.length_cons, List.length_append, List.length_nil] at h3; omega
                    have HJ := Aside0.mk (fun (w' : World) (hb : Below wr.heap.size wr w') => join_calls (vts k ks ps) (Kd.R_below HRo.out hb) (by omega) (by have h1 := join_count (vts k ks ps); omega))
                    rw [← hno2] at HJ
                    obtain ⟨sj, hsj⟩ : ∃ s, s = str (Lib.join (vts k ks ps) [44]) := ⟨_, rfl⟩
                    rw [← hsj] at HJ
                    obtain ⟨q1, hq1⟩ : ∃ q, q = (⟨#[123]⟩ : ByteArray) ++ sj := ⟨_, rfl⟩
                    obtain ⟨q2, hq2⟩ : ∃ q, q = q1 ++ (⟨#[125]⟩ : ByteArray) := ⟨_, rfl⟩
                    have HR2 := Aside0.mk (show str (vt ⟨k, n, t, ks, ps⟩) = q2 by
                      rw [HR.out, hq2, hq1, hsj, show (⟨#[123]⟩ : ByteArray) = str [123] from rfl, show (⟨#[125]⟩ : ByteArray) = str [125] from rfl, str_append, str_append]; rfl)
                    have hz1 : ¬ 9223372036854775807 < 1 + sj.size := by rw [hsj, str_size]; omega
                    have hz2 : ¬ 9223372036854775807 < q1.size + 1 := by
                      rw [hq1, hsj, show (⟨#[123]⟩ : ByteArray) = str [123] from rfl, str_append, str_size, List.length_append]
                      simp only [List.length_cons, List.length_nil]; omega
                    have hc1 := hq1.symm
                    have hc2 := hq2.symm
                    clear hq1 hq2 hsj hjl hno2
                    subst e7
                    go_wp2_with (first
                      | (go_at_call 14; refine (HJ.out _ (Below.refl _ _)).mono ?_; rintro e w5 ⟨rfl, hb⟩; have S5 := Aside0.mk hb; clear hb))
                    go_ret
                    exact ⟨by rw [HR2.out]; rfl, HB1.out.trans ((hW.out.trans (S5.out.mono hW.out.size)).mono HB1.out.size)⟩
                  · have f7 : (k == 7) = false := beq_eq_false_iff_ne.2 e7
                    have HR := Aside0.mk (show str (vt ⟨k, n, t, ks, ps⟩) = ⟨#[110, 117, 108, 108]⟩ by rw [vt, if_neg e2, if_neg e3, if_neg e4, if_neg e5, if_neg e6, if_neg e7]; rfl)
                    clear e2 e3 e4 e5 e6 e7 hkr
                    go_wp2
                    go_ret
                    exact ⟨by rw [HR.out]; rfl, HB1.out.trans (hW.out.mono HB1.out.size)⟩

end Go.Proofs.YtmhfkbgdkgfafaaDoor.Js
