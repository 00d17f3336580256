/- bagnallkeep.spread: a value's text with blanks, its keys the other way round. -/
import Derived.Test.YtmhfkbgdkgfafaaGreatDoorPureJsonBack
namespace Go.Proofs.YtmhfkbgdkgfafaaGreatDoor.Js
open Go.RowKit Go.Proofs.YtmhfkbgdkgfafaaGreatDoor.QJson Go.Proofs.YtmhfkbgdkgfafaaGreatDoorW.PrintWords Go.Proofs.YtmhfkbgdkgfafaaGreatDoorW.PrintLast Go.Proofs.YtmhfkbgdkgfafaaGreatDoorW.PrintMore
set_option linter.unusedVariables false
set_option linter.unusedSimpArgs false


/-! ### the text, step by step -/
theorem spA_drop (g : List UInt8) (b : Bool) (ps : List S26) (i : Nat) (h : i < ps.length) : spA g b (ps.drop i) = (if b then [] else 44 :: g) ++ (g ++ sp g ps[i]) ++ spA g false (ps.drop (i + 1)) := by
  rw [List.drop_eq_getElem_cons h, spA]
theorem spO_drop (g : List UInt8) (ks : List ByteArray) (ps : List S26) (i : Nat) (h : i < ps.length) : spO g (ks.drop i) (ps.drop i) = spO g (ks.drop (i + 1)) (ps.drop (i + 1)) ++ (if i + 1 = ps.length then [] else g ++ [44]) ++ (g ++ quote (ks.getD i ⟨#[]⟩).data.toList ++ g ++ [58] ++ g ++ sp g ps[i]) := by
  have h1 : (ks.drop i).tail = ks.drop (i + 1) := by rw [List.tail_drop]
  have h2 : (ks.drop i).headD ⟨#[]⟩ = ks.getD i ⟨#[]⟩ := by rw [List.headD_eq_head?_getD, List.head?_drop, List.getD_eq_getElem?_getD]
  have h3 : ((ps.drop (i + 1)).length = 0) ↔ (i + 1 = ps.length) := by rw [List.length_drop]; omega
  rw [List.drop_eq_getElem_cons h, spO, h1, h2]
  by_cases h4 : i + 1 = ps.length
  · rw [if_pos (h3.2 h4), if_pos h4]
  · rw [if_neg (fun e => h4 (h3.1 e)), if_neg h4]
theorem spO_len (g : List UInt8) (ks : List ByteArray) (ps : List S26) : ∀ i, i ≤ ps.length → (spO g (ks.drop i) (ps.drop i)).length ≤ (spO g ks ps).length
  | 0, _ => by rw [List.drop_zero, List.drop_zero]; exact Nat.le_refl _
  | i + 1, h => by
    have h1 := spO_len g ks ps i (by omega)
    rw [spO_drop g ks ps i (by omega)] at h1
    simp only [List.length_append] at h1
    omega
theorem spO_count (g : List UInt8) : ∀ (ps : List S26) (ks : List ByteArray), ps.length ≤ (spO g ks ps).length
  | [], _ => by simp
  | p :: ps, ks => by
    have := spO_count g ps ks.tail
    rw [spO, List.length_cons]
    simp only [List.length_append, List.length_cons, List.length_nil]; omega
theorem key_text (key : ByteArray) (h : (quote key.data.toList).length ≤ 6) (w : World) (hT : Tabs w) :
    Calls Tryz.prog 11 #[.agg #[.int .i64 5, .int .i64 0, .string key, .slice none 0 0, .slice none 0 0]] w fun e w' => e = .returned (.tuple #[.string (str (quote key.data.toList)), .int .i64 0]) ∧ Below w.heap.size w w' := by
  have hv : vt ⟨5, 0, key, [], []⟩ = quote key.data.toList := by rw [vt, if_neg (by decide), if_neg (by decide), if_neg (by decide), if_pos rfl]
  have hc : cnt ⟨5, 0, key, [], []⟩ = 1 := by rw [cnt_eq]; rfl
  have hp : plainB 5 0 key 0 0 = true := by unfold plainB; simp
  have hw : WF 1 ⟨5, 0, key, [], []⟩ := .mk (by show (1 : Int) ≤ 5; decide) (by show (5 : Int) ≤ 7; decide) hp (fun h => absurd h (by show ¬ (5 : Int) = 7; decide)) (by show (-9007199254740992 : Int) < 0; decide) (by show (0 : Int) < 9007199254740992; decide) (fun i h => absurd h (Nat.not_lt_zero _)) (fun p hp => by cases hp)
  have hb : big ⟨5, 0, key, [], []⟩ = false := by unfold big; rw [hc, hv]; simp; omega
  have := text_right (hw.up 6 (by decide)) hb none 0 none 0 w (Kd.C_nil _ _) (Nat.le_refl _) (Kd.C_nil _ _) (Nat.le_refl _) hT
  rw [hv] at this
  exact this
theorem leaf_text {d : Nat} {v : S26} (hw : WF d v) (hd : d ≤ 6) (ht : Tame v) (h6 : v.f0 ≠ 6) (h7 : v.f0 ≠ 7) {A3 A4 : Option Addr} {c3 c4 : Nat} (w : World) (hv : Val w v A3 c3 A4 c4) (hT : Tabs w) :
    Calls Tryz.prog 11 #[.agg #[.int .i64 v.f0, .int .i64 v.f1, .string v.f2, .slice A3 v.f3.length c3, .slice A4 v.f4.length c4]] w fun e w' => e = .returned (.tuple #[.string (str (vt v)), .int .i64 0]) ∧ Below w.heap.size w w' := by
  have hc : cnt v = 1 := by rw [cnt_eq, hw.leaf h6 h7]; rfl
  have hl := ht.leaf h6 h7
  have hb : big v = false := by unfold big; rw [hc]; simp; omega
  exact text_right (hw.up 6 hd) hb A3 c3 A4 c4 w hv.k3 hv.l3 hv.k4 hv.l4 hT

set_option maxHeartbeats 8000000 in
set_option maxRecDepth 100000 in
theorem spread_walk (g : List UInt8) (hgl : g.length ≤ 1000) : ∀ (d : Nat) (v : S26) (hw : WF d v) (hd : d ≤ 6) (ht : Tame v) (hl : (sp g v).length ≤ 1000000) (A3 : Option Addr) (c3 : Nat) (A4 : Option Addr) (c4 : Nat) (w : World) (hv : Val w v A3 c3 A4 c4) (hT : Tabs w),
    Calls Tryz.prog 16 #[.agg #[.int .i64 v.f0, .int .i64 v.f1, .string v.f2, .slice A3 v.f3.length c3, .slice A4 v.f4.length c4], .string (str g)] w fun e w' => e = .returned (.string (str (sp g v))) ∧ Below w.heap.size w w'
  | 0, v, hw => nomatch hw
  | d + 1, v, hw => by
    intro hd ht hl A3 c3 A4 c4 w hv hT
    have IH := Aside0.mk (spread_walk g hgl d)
    have HW := Aside0.mk (And.intro hw hd)
    have HTm := Aside0.mk ht
    have HL := Aside0.mk hl
    have HV0 := Aside0.mk hv
    have HT0 := Aside0.mk hT
    have HGl := Aside0.mk hgl
    have hgs0 := str_size g
    obtain ⟨gs, hgs⟩ : ∃ x, x = str g := ⟨_, rfl⟩
    rw [← hgs] at IH hgs0 ⊢
    have HGs := Aside0.mk (And.intro hgs hgs0)
    clear hgs hgs0 hw hd ht hl hv hT hgl
    obtain ⟨k, n, t, ks, ps⟩ := v
    obtain ⟨n3, hn3⟩ : ∃ x, x = ks.length := ⟨_, rfl⟩
    obtain ⟨n4, hn4⟩ : ∃ x, x = ps.length := ⟨_, rfl⟩
    have HN := Aside0.mk (And.intro hn3 hn4)
    dsimp only
    rw [← hn3, ← hn4]
    have HLf := Aside0.mk (show ∀ (h6 : k ≠ 6) (h7 : k ≠ 7) (w1 : World), Val w1 ⟨k, n, t, ks, ps⟩ A3 c3 A4 c4 → Tabs w1 → Calls Tryz.prog 11 #[.agg #[.int .i64 k, .int .i64 n, .string t, .slice A3 n3 c3, .slice A4 n4 c4]] w1 fun e w' => e = .returned (.tuple #[.string (str (vt ⟨k, n, t, ks, ps⟩)), .int .i64 0]) ∧ Below w1.heap.size w1 w' from fun h6 h7 w1 h1 h2 => by rw [hn3, hn4]; exact leaf_text HW.out.1 HW.out.2 HTm.out h6 h7 w1 h1 h2)
    have HXc := Aside0.mk (show ∀ gb w1, Box w1 gb ⟨k, n, t, ks, ps⟩ A3 c3 A4 c4 → w1.cell? ⟨gb, 0, none⟩ = some (.int .i64 k) ∧ w1.cell? ⟨gb, 1, none⟩ = some (.int .i64 n) ∧ w1.cell? ⟨gb, 2, none⟩ = some (.string t) ∧ w1.cell? ⟨gb, 3, none⟩ = some (.slice A3 n3 c3) ∧ w1.cell? ⟨gb, 4, none⟩ = some (.slice A4 n4 c4) from fun gb w1 h => by rw [hn3, hn4]; exact h.all)
    have hbx := Box.new w ⟨k, n, t, ks, ps⟩ A3 c3 A4 c4
    (try dsimp only at hbx)
    rw [← hn3, ← hn4] at hbx
    clear hn3 hn4
    go_enter Tryz.func16, Tryz.ntmps16
    go_upto_region 1 with (fail)
    have hb1 : Below w.heap.size w (w.alloc (.cells #[.int .i64 k, .int .i64 n, .string t, .slice A3 n3 c3, .slice A4 n4 c4] 26)) := below_alloc (Below.refl _ _) _
    generalize w.alloc (.cells #[.int .i64 k, .int .i64 n, .string t, .slice A3 n3 c3, .slice A4 n4 c4] 26) = W1 at hbx hb1 ⊢
    obtain ⟨gb, hgb⟩ : ∃ g, g = w.heap.size := ⟨_, rfl⟩
    rw [← hgb] at hbx ⊢
    clear hgb
    have HB1 := Aside0.mk hb1
    have X1 := Aside0.mk hbx
    have V1 := Aside0.mk (HV0.out.below hb1)
    have T1 := Aside0.mk (HT0.out.below hb1)
    clear hbx hb1 HV0 HT0
    obtain ⟨x0, x1, x2, x3, x4⟩ := HXc.out gb W1 X1.out
    by_cases h6 : k = 6
    · subst h6
      have hsp : sp g ⟨6, n, t, ks, ps⟩ = 91 :: (spA g true ps ++ g ++ [93]) := by rw [sp, if_pos rfl]
      have HSp := Aside0.mk hsp
      have HTot := Aside0.mk (show (spA g true ps).length + gs.size + 2 ≤ 1000000 by
        have h1 := HL.out
        rw [hsp] at h1
        simp only [List.length_cons, List.length_append, List.length_nil] at h1
        rw [HGs.out.2]; omega)
      clear hsp HLf
      go_wp2
      clear x0 x1 x2 x3 x4
      go_loopg [5, 6] n4 (fun kq v5 v6 wr => ∃ (i : Nat) (acc : List UInt8), v5 = .string (str acc) ∧ v6 = .int .i64 (i : Int) ∧ Aside0 (kq + i = n4) ∧ Aside0 (acc ++ spA g (decide (i = 0)) (ps.drop i) = 91 :: spA g true ps) ∧ Aside0 (Below W1.heap.size W1 wr))
      case atStart => exact ⟨0, [91], rfl, rfl, ⟨by omega⟩, ⟨by rw [List.drop_zero]; rfl⟩, ⟨Below.refl _ _⟩⟩
      case round =>
        obtain ⟨i, acc, rfl, rfl, hK, hAcc, hB⟩ := hrel
        obtain ⟨x0, x1, x2, x3, x4⟩ := HXc.out gb wr (X1.out.below hB.out)
        have hacl : acc.length + (spA g (decide (i = 0)) (ps.drop i)).length = 1 + (spA g true ps).length := by
          have := congrArg List.length hAcc.out
          rw [List.length_append, List.length_cons] at this; omega
        have hos := str_size acc
        obtain ⟨o, ho⟩ : ∃ x, x = str acc := ⟨_, rfl⟩
        rw [← ho] at hos ⊢
        have HO := Aside0.mk (And.intro ho hos)
        clear ho hos
        by_cases hlt : i < n4
        · have hlt' : i < ps.length := by have := HN.out.2; omega
          have hi1 : (i : Int) < (n4 : Int) := by omega
          have hi0 : (0 : Int) ≤ (i : Int) := by omega
          have hwi : IntKind.i64.wrap ((i : Int) + 1) = (i : Int) + 1 := wrap_small _ (by omega) (by
            have h1 := HTot.out
            have h2 := HN.out.2
            have h3 : ps.length ≤ (spA g true ps).length + 1 := by
              have h4 := spA_join g ps true
              simp only [true_or, if_true, List.nil_append] at h4
              have h5 := join_count (itA g true ps)
              rw [itA_length] at h5
              rw [h4]; exact h5
            omega)
          have hdr := spA_drop g (decide (i = 0)) ps i hlt'
          obtain ⟨ad, B3, b3, B4, b4, hA4, e0, e1, e2, e3, e4, l3, g3, l4, g4⟩ := at_T26 (Kd.C_below V1.out.k4 hB.out) (i : Int) hi0 (by have := HN.out.2; show (i : Int) < (ps.length : Int); omega)
          subst hA4
          rw [rd_at ps i hlt'] at e0 e1 e2 e3 e4 l3 g3 l4 g4
          rw [Int.toNat_natCast] at e0 e1 e2 e3 e4
          have HPr := Aside0.mk (And.intro (HW.out.1.part (List.getElem_mem hlt')) (HTm.out.part (List.getElem_mem hlt')))
          generalize ps[i] = p at HPr e0 e1 e2 e3 e4 l3 g3 l4 g4 hdr
          have HDr := Aside0.mk hdr
          have HPl := Aside0.mk (show (sp g p).length + g.length + acc.length + (if decide (i = 0) = true then 0 else 1 + g.length) ≤ 1 + (spA g true ps).length by
            rw [hdr] at hacl
            simp only [List.length_append] at hacl
            split
            · omega
            · rename_i hd0
              rw [if_neg hd0] at hacl
              simp only [List.length_cons] at hacl
              omega)
          have HIH := Aside0.mk (fun w1 (hb : Below wr.heap.size wr w1) => IH.out p HPr.out.1 (by have := HW.out.2; omega) HPr.out.2 (by have h1 := HPl.out; have h2 := HTot.out; omega) B3 b3 B4 b4 w1 ⟨Kd.C_below g3 hb, l3, Kd.C_below g4 hb, l4⟩ ((T1.out.below hB.out).below hb))
          have hsv0 := str_size (sp g p)
          obtain ⟨sv, hsv⟩ : ∃ s, s = str (sp g p) := ⟨_, rfl⟩
          rw [← hsv] at HIH hsv0
          have HSv := Aside0.mk (And.intro hsv hsv0)
          clear hsv hsv0 hdr hacl hlt' HPr
          obtain ⟨P0, P1, P2, P3, P4⟩ := p
          dsimp only at e0 e1 e2 e3 e4 HIH
          obtain ⟨q3, hq3⟩ : ∃ x, x = P3.length := ⟨_, rfl⟩
          obtain ⟨q4, hq4⟩ : ∃ x, x = P4.length := ⟨_, rfl⟩
          rw [← hq3] at e3 HIH
          rw [← hq4] at e4 HIH
          clear hq3 hq4 l3 g3 l4 g4
          obtain ⟨g1, hg1⟩ : ∃ x, gs ++ sv = x := ⟨_, rfl⟩
          have hz3 : ¬ 9223372036854775807 < gs.size + sv.size := by have h1 := HPl.out; have h2 := HTot.out; have h3 := HSv.out.2; have h4 := HGs.out.2; omega
          by_cases hi : i = 0
          · have hi2 : ((0 : Int) < (i : Int)) = False := by simp; omega
            have hi3 : ¬ 0 < i := by omega
            have HI := Aside0.mk hi
            obtain ⟨o2, ho2⟩ : ∃ x, o ++ g1 = x := ⟨_, rfl⟩
            have hz4 : ¬ 9223372036854775807 < o.size + g1.size := by
              have h1 := HPl.out; have h2 := HTot.out; have h3 := HSv.out.2; have h4 := HGs.out.2; have h5 := HO.out.2
              rw [← hg1, ByteArray.size_append]; omega
            have HO2 := Aside0.mk (show o2 = str (acc ++ (g ++ sp g ⟨P0, P1, P2, P3, P4⟩)) by
              rw [← ho2, ← hg1, HO.out.1, HGs.out.1, HSv.out.1, str_append, str_append])
            clear hlt hi
            go_wp2_with (first | (go_at_call 16; refine (HIH.out _ (Below.refl _ _)).mono ?_; rintro e w5 ⟨rfl, hb⟩; have S5 := Aside0.mk hb; clear hb))
            go_roundg (gk - 1)
            case measure => have := hK.out; omega
            case rel =>
              refine ⟨i + 1, acc ++ (g ++ sp g ⟨P0, P1, P2, P3, P4⟩), by rw [HO2.out], by go_num, ⟨by have := hK.out; omega⟩, ⟨?_⟩, ⟨hB.out.trans (S5.out.mono hB.out.size)⟩⟩
              have h1 := hAcc.out
              rw [HDr.out, decide_eq_true HI.out] at h1
              simpa using h1
          · have hi2 : ((0 : Int) < (i : Int)) = True := by simp; omega
            have hi3 : 0 < i := by omega
            obtain ⟨c1, hc1⟩ : ∃ x, (⟨#[44]⟩ : ByteArray) ++ gs = x := ⟨_, rfl⟩
            obtain ⟨o1, ho1⟩ : ∃ x, o ++ c1 = x := ⟨_, rfl⟩
            obtain ⟨o2, ho2⟩ : ∃ x, o1 ++ g1 = x := ⟨_, rfl⟩
            have hcs : c1.size = 1 + gs.size := by rw [← hc1, ByteArray.size_append]; rfl
            have hos1 : o1.size = o.size + (1 + gs.size) := by rw [← ho1, ByteArray.size_append, hcs]
            have hd : decide (i = 0) = false := decide_eq_false hi
            have hPl := HPl.out
            rw [hd] at hPl
            rw [if_neg (by decide)] at hPl
            have hz1 : ¬ 9223372036854775807 < 1 + gs.size := by have h2 := HTot.out; omega
            have hz2 : ¬ 9223372036854775807 < o.size + c1.size := by have h2 := HTot.out; have h5 := HO.out.2; omega
            have hz4 : ¬ 9223372036854775807 < o1.size + g1.size := by
              have h2 := HTot.out; have h3 := HSv.out.2; have h4 := HGs.out.2; have h5 := HO.out.2
              rw [hos1, ← hg1, ByteArray.size_append]; omega
            have HO2 := Aside0.mk (show o2 = str (acc ++ (44 :: g ++ (g ++ sp g ⟨P0, P1, P2, P3, P4⟩))) by
              rw [← ho2, ← ho1, ← hc1, ← hg1, HO.out.1, HGs.out.1, HSv.out.1, show (⟨#[44]⟩ : ByteArray) = str [44] from rfl, str_append, str_append, str_append, str_append]; simp)
            have HD := Aside0.mk hd
            have HI := Aside0.mk hi
            clear hcs hos1 hd hPl hlt hi
            go_wp2_with (first | (go_at_call 16; refine (HIH.out _ (Below.refl _ _)).mono ?_; rintro e w5 ⟨rfl, hb⟩; have S5 := Aside0.mk hb; clear hb))
            go_roundg (gk - 1)
            case measure => have := hK.out; omega
            case rel =>
              refine ⟨i + 1, acc ++ (44 :: g ++ (g ++ sp g ⟨P0, P1, P2, P3, P4⟩)), by rw [HO2.out], by go_num, ⟨by have := hK.out; omega⟩, ⟨?_⟩, ⟨hB.out.trans (S5.out.mono hB.out.size)⟩⟩
              have h1 := hAcc.out
              rw [HDr.out, HD.out] at h1
              simpa using h1
        · have hib : ¬ (i : Int) < (n4 : Int) := by omega
          have hin : ps.drop i = [] := List.drop_of_length_le (by have := HN.out.2; omega)
          have hacc := hAcc.out
          rw [hin, spA, List.append_nil] at hacc
          obtain ⟨o1, ho1⟩ : ∃ x, o ++ gs = x := ⟨_, rfl⟩
          obtain ⟨o2, ho2⟩ : ∃ x, o1 ++ (⟨#[93]⟩ : ByteArray) = x := ⟨_, rfl⟩
          have hos : o.size = 1 + (spA g true ps).length := by rw [HO.out.2, hacc, List.length_cons]; omega
          have hos1 : o1.size = o.size + gs.size := by rw [← ho1, ByteArray.size_append]
          have hz1 : ¬ 9223372036854775807 < o.size + gs.size := by have := HTot.out; omega
          have hz2 : ¬ 9223372036854775807 < o1.size + 1 := by have := HTot.out; omega
          have HO2 := Aside0.mk (show o2 = str (sp g ⟨6, n, t, ks, ps⟩) by
            rw [← ho2, ← ho1, HO.out.1, HGs.out.1, hacc, HSp.out, show (⟨#[93]⟩ : ByteArray) = str [93] from rfl, str_append, str_append]; rfl)
          clear hos hos1 hacc hin hacl hlt
          go_wp2
          go_ret
          exact ⟨by rw [← HO2.out]; rfl, HB1.out.trans (hB.out.mono HB1.out.size)⟩
    have q6 : (k == 6) = false := beq_eq_false_iff_ne.2 h6
    by_cases h7 : k = 7
    · subst h7
      have hsp : sp g ⟨7, n, t, ks, ps⟩ = 123 :: (spO g ks ps ++ g ++ [125]) := by rw [sp, if_neg (by decide), if_pos rfl]
      have HSp := Aside0.mk hsp
      have HKl := Aside0.mk (show ks.length = ps.length from HW.out.1.keys rfl)
      have HTot := Aside0.mk (show (spO g ks ps).length + gs.size + 2 ≤ 1000000 by
        have h1 := HL.out
        rw [hsp] at h1
        simp only [List.length_cons, List.length_append, List.length_nil] at h1
        rw [HGs.out.2]; omega)
      have HNm := Aside0.mk (show n4 ≤ 1000000 by
        have h1 := HTot.out
        have h2 := spO_count g ps ks
        have h3 := HN.out.2
        omega)
      have hwn : IntKind.i64.wrap ((n4 : Int) - 1) = (n4 : Int) - 1 := by have := HNm.out; rw [IntKind.wrap_i64]; omega
      clear hsp HLf h6
      go_wp2
      clear x0 x1 x2 x3 x4
      go_loopg [7, 8] n4 (fun kq v7 v8 wr => ∃ (x : Int), v7 = .string (str (123 :: spO g (ks.drop kq) (ps.drop kq))) ∧ v8 = .int .i64 x ∧ Aside0 (x = (kq : Int) - 1) ∧ Aside0 (kq ≤ n4) ∧ Aside0 (Below W1.heap.size W1 wr))
      case atStart => exact ⟨(n4 : Int) - 1, by rw [List.drop_of_length_le (l := ps) (by have := HN.out.2; omega), spO]; rfl, rfl, ⟨rfl⟩, ⟨Nat.le_refl _⟩, ⟨Below.refl _ _⟩⟩
      case round =>
        obtain ⟨x, rfl, rfl, hX, hK, hB⟩ := hrel
        obtain ⟨x0, x1, x2, x3, x4⟩ := HXc.out gb wr (X1.out.below hB.out)
        have hos := str_size (123 :: spO g (ks.drop gk) (ps.drop gk))
        obtain ⟨o, ho⟩ : ∃ x, x = str (123 :: spO g (ks.drop gk) (ps.drop gk)) := ⟨_, rfl⟩
        rw [← ho] at hos ⊢
        rw [List.length_cons] at hos
        have HO := Aside0.mk (And.intro ho hos)
        clear ho hos
        cases gk with
        | zero =>
          obtain rfl : x = -1 := by have := hX.out; omega
          obtain ⟨o1, ho1⟩ : ∃ x, o ++ gs = x := ⟨_, rfl⟩
          obtain ⟨o2, ho2⟩ : ∃ x, o1 ++ (⟨#[125]⟩ : ByteArray) = x := ⟨_, rfl⟩
          have hO1 := HO.out.1
          have hO2 := HO.out.2
          rw [List.drop_zero, List.drop_zero] at hO1 hO2
          have hos1 : o1.size = o.size + gs.size := by rw [← ho1, ByteArray.size_append]
          have hz1 : ¬ 9223372036854775807 < o.size + gs.size := by have := HTot.out; omega
          have hz2 : ¬ 9223372036854775807 < o1.size + 1 := by have := HTot.out; omega
          have HO2 := Aside0.mk (show o2 = str (sp g ⟨7, n, t, ks, ps⟩) by
            rw [← ho2, ← ho1, hO1, HGs.out.1, HSp.out, show (⟨#[125]⟩ : ByteArray) = str [125] from rfl, str_append, str_append]; rfl)
          clear hos1 hO1 hO2
          go_wp2
          go_ret
          exact ⟨by rw [← HO2.out]; rfl, HB1.out.trans (hB.out.mono HB1.out.size)⟩
        | succ i =>
          obtain rfl : x = (i : Int) := by have := hX.out; omega
          have hlt : i < n4 := by have := hK.out; omega
          have hlt' : i < ps.length := by have := HN.out.2; omega
          have hltk : i < ks.length := by have := HKl.out; omega
          have hi0 : (0 : Int) ≤ (i : Int) := by omega
          have hi1 : (i : Int) < (n4 : Int) := by omega
          have hi2 : (i : Int) < (n3 : Int) := by have := HN.out.1; omega
          have hwi : IntKind.i64.wrap ((i : Int) - 1) = (i : Int) - 1 := by have := HNm.out; rw [IntKind.wrap_i64]; omega
          have hdr := spO_drop g ks ps i hlt'
          have hle := spO_len g ks ps i (by omega)
          obtain ⟨ka, eA3, kc⟩ := Kd.at_string (Kd.C_below V1.out.k3 hB.out) (i : Int) hi0 (by show (i : Int) < (ks.length : Int); omega)
          subst eA3
          obtain ⟨key, hkey⟩ : ∃ key, key = ks.getD i ⟨#[]⟩ := ⟨_, rfl⟩
          have hkc : wr.cell? (ka.add i) = some (.string key) := key_cell (Kd.C_below V1.out.k3 hB.out) i hi0 (by show (i : Int) < (ks.length : Int); omega) hkey
          clear kc
          have HQ := Aside0.mk (fun w1 (hT : Tabs w1) => key_text key (HTm.out.key key (by rw [hkey, List.getD_eq_getElem?_getD, List.getElem?_eq_getElem hltk]; exact List.getElem_mem hltk)) w1 hT)
          rw [← hkey] at hdr
          obtain ⟨ad, B3, b3, B4, b4, hA4, e0, e1, e2, e3, e4, l3, g3, l4, g4⟩ := at_T26 (Kd.C_below V1.out.k4 hB.out) (i : Int) hi0 (by show (i : Int) < (ps.length : Int); omega)
          subst hA4
          rw [rd_at ps i hlt'] at e0 e1 e2 e3 e4 l3 g3 l4 g4
          rw [Int.toNat_natCast] at e0 e1 e2 e3 e4
          have HPr := Aside0.mk (And.intro (HW.out.1.part (List.getElem_mem hlt')) (HTm.out.part (List.getElem_mem hlt')))
          generalize ps[i] = p at HPr e0 e1 e2 e3 e4 l3 g3 l4 g4 hdr
          have HDr := Aside0.mk hdr
          rw [hdr] at hle
          simp only [List.length_append, List.length_cons, List.length_nil] at hle
          have HPl := Aside0.mk hle
          have HIH := Aside0.mk (fun w1 (hb : Below wr.heap.size wr w1) => IH.out p HPr.out.1 (by have := HW.out.2; omega) HPr.out.2 (by have h1 := HPl.out; have h2 := HTot.out; omega) B3 b3 B4 b4 w1 ⟨Kd.C_below g3 hb, l3, Kd.C_below g4 hb, l4⟩ ((T1.out.below hB.out).below hb))
          have hsv0 := str_size (sp g p)
          obtain ⟨sv, hsv⟩ : ∃ s, s = str (sp g p) := ⟨_, rfl⟩
          rw [← hsv] at HIH hsv0
          have HSv := Aside0.mk (And.intro hsv hsv0)
          have hqs0 := str_size (quote key.data.toList)
          obtain ⟨qk, hqk⟩ : ∃ s, s = str (quote key.data.toList) := ⟨_, rfl⟩
          rw [← hqk] at HQ hqs0
          have HQk := Aside0.mk (And.intro hqk hqs0)
          clear hsv hsv0 hqk hqs0 hdr hle hlt' hltk HPr hkey
          obtain ⟨P0, P1, P2, P3, P4⟩ := p
          dsimp only at e0 e1 e2 e3 e4 HIH
          obtain ⟨q3, hq3⟩ : ∃ x, x = P3.length := ⟨_, rfl⟩
          obtain ⟨q4, hq4⟩ : ∃ x, x = P4.length := ⟨_, rfl⟩
          rw [← hq3] at e3 HIH
          rw [← hq4] at e4 HIH
          clear hq3 hq4 l3 g3 l4 g4
          obtain ⟨s1, hs1⟩ : ∃ x, gs ++ qk = x := ⟨_, rfl⟩
          obtain ⟨s2, hs2⟩ : ∃ x, s1 ++ gs = x := ⟨_, rfl⟩
          obtain ⟨s3, hs3⟩ : ∃ x, s2 ++ (⟨#[58]⟩ : ByteArray) = x := ⟨_, rfl⟩
          obtain ⟨s4, hs4⟩ : ∃ x, s3 ++ gs = x := ⟨_, rfl⟩
          obtain ⟨s5, hs5⟩ : ∃ x, s4 ++ sv = x := ⟨_, rfl⟩
          have z1 : s1.size = gs.size + qk.size := by rw [← hs1, ByteArray.size_append]
          have z2 : s2.size = s1.size + gs.size := by rw [← hs2, ByteArray.size_append]
          have z3 : s3.size = s2.size + 1 := by rw [← hs3, ByteArray.size_append]; rfl
          have z4 : s4.size = s3.size + gs.size := by rw [← hs4, ByteArray.size_append]
          have z5 : s5.size = s4.size + sv.size := by rw [← hs5, ByteArray.size_append]
          have HZ := Aside0.mk (And.intro z1 (And.intro z2 (And.intro z3 (And.intro z4 z5))))
          have HS5 := Aside0.mk (show s5 = str (g ++ quote key.data.toList ++ g ++ [58] ++ g ++ sp g ⟨P0, P1, P2, P3, P4⟩) by
            rw [← hs5, ← hs4, ← hs3, ← hs2, ← hs1, HGs.out.1, HSv.out.1, HQk.out.1, show (⟨#[58]⟩ : ByteArray) = str [58] from rfl]
            simp only [str_append])
          have hB0 : gs.size = g.length ∧ qk.size = (quote key.data.toList).length ∧ sv.size = (sp g ⟨P0, P1, P2, P3, P4⟩).length ∧ o.size = (spO g (ks.drop (i + 1)) (ps.drop (i + 1))).length + 1 := ⟨HGs.out.2, HQk.out.2, HSv.out.2, HO.out.2⟩
          have hPl := HPl.out
          have hTot := HTot.out
          have hc1 : ¬ 9223372036854775807 < gs.size + qk.size := by omega
          have hc2 : ¬ 9223372036854775807 < s1.size + gs.size := by omega
          have hc3 : ¬ 9223372036854775807 < s2.size + 1 := by omega
          have hc4 : ¬ 9223372036854775807 < s3.size + gs.size := by omega
          have hc5 : ¬ 9223372036854775807 < s4.size + sv.size := by omega
          by_cases hl : i + 1 = n4
          · have hl2 : ((i : Int) < (n4 : Int) - 1) = False := by simp; omega
            obtain ⟨o2, ho2⟩ : ∃ x, o ++ s5 = x := ⟨_, rfl⟩
            have hc6 : ¬ 9223372036854775807 < o.size + s5.size := by omega
            have HO2 := Aside0.mk (show o2 = str (123 :: spO g (ks.drop i) (ps.drop i)) by
              rw [HDr.out, if_pos (by rw [← HN.out.2]; exact hl), ← ho2, HO.out.1, HS5.out, str_append]; simp)
            clear hl hlt hB0 hPl hTot z1 z2 z3 z4 z5
            go_wp2_with (first
              | (go_at_call 11; refine (HQ.out _ (T1.out.below hB.out)).mono ?_; rintro e w5 ⟨rfl, hb⟩; have S5 := Aside0.mk hb; obtain ⟨y0, y1, y2, y3, y4⟩ := HXc.out gb w5 ((X1.out.below hB.out).below hb); have f0 := pw_cell_below hb e0; have f1 := pw_cell_below hb e1; have f2 := pw_cell_below hb e2; have f3 := pw_cell_below hb e3; have f4 := pw_cell_below hb e4; clear hb)
              | (go_at_call 16; refine (HIH.out _ S5.out).mono ?_; rintro e w6 ⟨rfl, hb⟩; have S6 := Aside0.mk (S5.out.trans (hb.mono S5.out.size)); clear hb))
            go_roundg i
            case measure => omega
            case rel =>
              exact ⟨(i : Int) - 1, by rw [HO2.out], by go_num, ⟨rfl⟩, ⟨by have := hK.out; omega⟩, ⟨hB.out.trans (S6.out.mono hB.out.size)⟩⟩
          · have hl2 : ((i : Int) < (n4 : Int) - 1) = True := by simp; omega
            have hle1 : (spO g (ks.drop (i + 1)) (ps.drop (i + 1))).length + (g.length + 1) + ((quote key.data.toList).length + (g.length + (g.length + (1 + (g.length + (sp g ⟨P0, P1, P2, P3, P4⟩).length))))) ≤ (spO g ks ps).length := by
              have hle := spO_len g ks ps i (by have := HN.out.2; omega)
              rw [HDr.out, if_neg (by rw [← HN.out.2]; exact hl)] at hle
              simp only [List.length_append, List.length_cons, List.length_nil] at hle
              omega
            obtain ⟨c1, hcc⟩ : ∃ x, gs ++ (⟨#[44]⟩ : ByteArray) = x := ⟨_, rfl⟩
            obtain ⟨o1, ho1⟩ : ∃ x, o ++ c1 = x := ⟨_, rfl⟩
            obtain ⟨o2, ho2⟩ : ∃ x, o1 ++ s5 = x := ⟨_, rfl⟩
            have z6 : c1.size = gs.size + 1 := by rw [← hcc, ByteArray.size_append]; rfl
            have z7 : o1.size = o.size + c1.size := by rw [← ho1, ByteArray.size_append]
            have hc6 : ¬ 9223372036854775807 < o1.size + s5.size := by omega
            have hc7 : ¬ 9223372036854775807 < gs.size + 1 := by omega
            have hc8 : ¬ 9223372036854775807 < o.size + c1.size := by omega
            have HO2 := Aside0.mk (show o2 = str (123 :: spO g (ks.drop i) (ps.drop i)) by
              rw [HDr.out, if_neg (by rw [← HN.out.2]; exact hl), ← ho2, ← ho1, ← hcc, HO.out.1, HS5.out, HGs.out.1, show (⟨#[44]⟩ : ByteArray) = str [44] from rfl, str_append, str_append, str_append]; simp)
            clear hl hlt hB0 hPl hTot z1 z2 z3 z4 z5 z6 z7 hle1
            go_wp2_with (first
              | (go_at_call 11; refine (HQ.out _ (T1.out.below hB.out)).mono ?_; rintro e w5 ⟨rfl, hb⟩; have S5 := Aside0.mk hb; obtain ⟨y0, y1, y2, y3, y4⟩ := HXc.out gb w5 ((X1.out.below hB.out).below hb); have f0 := pw_cell_below hb e0; have f1 := pw_cell_below hb e1; have f2 := pw_cell_below hb e2; have f3 := pw_cell_below hb e3; have f4 := pw_cell_below hb e4; clear hb)
              | (go_at_call 16; refine (HIH.out _ S5.out).mono ?_; rintro e w6 ⟨rfl, hb⟩; have S6 := Aside0.mk (S5.out.trans (hb.mono S5.out.size)); clear hb))
            go_roundg i
            case measure => omega
            case rel =>
              exact ⟨(i : Int) - 1, by rw [HO2.out], by go_num, ⟨rfl⟩, ⟨by have := hK.out; omega⟩, ⟨hB.out.trans (S6.out.mono hB.out.size)⟩⟩
    · have q7 : (k == 7) = false := beq_eq_false_iff_ne.2 h7
      have HLv := Aside0.mk (HLf.out h6 h7 W1 V1.out T1.out)
      have HSp := Aside0.mk (show sp g ⟨k, n, t, ks, ps⟩ = vt ⟨k, n, t, ks, ps⟩ from sp_leaf g h6 h7)
      clear HLf h6 h7
      go_wp2_with (first | (go_at_call 11; refine HLv.out.mono ?_; rintro e w5 ⟨rfl, hb⟩; have S5 := Aside0.mk hb; clear hb))
      go_ret
      exact ⟨by rw [HSp.out]; rfl, HB1.out.trans (S5.out.mono HB1.out.size)⟩

end Go.Proofs.YtmhfkbgdkgfafaaGreatDoor.Js
