/- JsonParts: its walk straight to its answer, true. -/
import Derived.Test.YtmhfkbgdkgfafaaDoorJsI
namespace Go.Proofs.YtmhfkbgdkgfafaaDoor.Js
open Go.RowKit Go.Proofs.YtmhfkbgdkgfafaaDoor.QJson Go.Proofs.YtmhfkbgdkgfafaaDoorW.PrintWords Go.Proofs.YtmhfkbgdkgfafaaDoorW.PrintLast Go.Proofs.YtmhfkbgdkgfafaaDoorW.PrintMore
set_option linter.unusedVariables false
set_option linter.unusedSimpArgs false

/-- ValueOf at a depth, in plain words. -/
theorem valueOf_calls (e : Nat) (he : e ≤ 4) (A0 : Option Addr) (c0 : Nat) (l : List Int) (w : World) (hr : Kd.C (Kd.int .i64) w A0 l.length l) (hc : l.length ≤ c0) :
    Calls Tryd.prog 4 #[.slice A0 l.length c0, .int .i64 ((e + 1 : Nat) : Int)] w fun e_ w' => ∃ (v : S26) (A3 : Option Addr) (c3 : Nat) (A4 : Option Addr) (c4 : Nat) (v5 : Value), e_ = .returned (.tuple #[.agg #[.int .i64 v.f0, .int .i64 v.f1, .string v.f2, .slice A3 v.f3.length c3, .slice A4 v.f4.length c4], v5]) ∧ Fine (e + 1) v ∧ Kd.C Kd.string w' A3 v.f3.length v.f3 ∧ v.f3.length ≤ c3 ∧ Kd.C k26 w' A4 v.f4.length v.f4 ∧ v.f4.length ≤ c4 ∧ Below w.heap.size w w' := by
  obtain ⟨r1, r2, r3, r4, r5, r6, h, hf⟩ := made e he l (10 * (e + 1)) (Nat.le_refl _)
  refine (bagnallkeep_ValueOf.calls _ (fun k => k < w.heap.size) A0 c0 l _ r1 r2 r3 r4 r5 r6 w (Kd.V_mk hc (Kd.C_F (Kd.heap_int .i64) hr)) h).mono ?_
  rintro e_ w' ⟨v3, v4, v5, rfl, h3, h4, _, hb⟩
  obtain ⟨A3, c3, rfl, l3, g3⟩ := Kd.R_reads h3
  obtain ⟨A4, c4, rfl, l4, g4⟩ := Kd.R_reads h4
  exact ⟨⟨r1, r2, r3, r4, r5⟩, A3, c3, A4, c4, v5, rfl, hf, g3, l3, g4, l4, hb⟩

theorem chk01 (v : S26) : chk v = 1 ∨ (chk v = 0 ∧ big v = false) := by
  unfold chk
  cases h : big v with
  | true => exact .inl rfl
  | false => exact .inr ⟨rfl, rfl⟩
theorem two_cells (w : World) (ca cb : List Value) (a b : S26) (ha : k26.K w a ca) (hb : k26.K w b cb) : Kd.C k26 (w.alloc (.cells (ca ++ cb).toArray 26)) (some ⟨w.heap.size, 0, none⟩) 2 [a, b] := by
  have la : ca.length = 5 := k26.K_len ha
  have lb : cb.length = 5 := k26.K_len hb
  have hbl : Below w.heap.size w (w.alloc (.cells (ca ++ cb).toArray 26)) := below_alloc (Below.refl _ _) _
  refine ⟨rfl, by decide, fun _ => ⟨_, rfl, fun j p hj => ?_⟩⟩
  match j, hj with
  | 0, hj =>
    obtain rfl := Option.some.inj hj
    refine ⟨ca, la, k26.K_below hbl ha, fun i u hu => ?_⟩
    have hi := (List.getElem?_eq_some_iff.1 hu).1
    rw [add_plain]
    refine (World.cell?_alloc_new ..).trans ?_
    show ((ca ++ cb).toArray)[0 * 5 + i]? = some u
    rw [show 0 * 5 + i = i by omega, List.getElem?_toArray, List.getElem?_append_left hi]; exact hu
  | 1, hj =>
    obtain rfl := Option.some.inj hj
    refine ⟨cb, lb, k26.K_below hbl hb, fun i u hu => ?_⟩
    rw [add_plain]
    refine (World.cell?_alloc_new ..).trans ?_
    show ((ca ++ cb).toArray)[1 * 5 + i]? = some u
    rw [List.getElem?_toArray, List.getElem?_append_right (by omega), show 1 * 5 + i - ca.length = i by omega]; exact hu
theorem pair_fine {a b : S26} (ha : Fine 3 a) (hb : Fine 3 b) : WF 4 ⟨6, 0, ⟨#[]⟩, [], [a, b]⟩ := by
  have h := rowEnd 3 6 (.inl rfl) [] [a, b] (by show 2 ≤ 3; decide) (fun h => by cases h) (fun _ => rfl) (fun p hp => by
    rcases List.mem_cons.1 hp with rfl | hp
    · exact ha
    · rw [List.mem_singleton.1 hp]; exact hb)
  exact h.wf
theorem pair_text (a b : S26) : vt ⟨6, 0, ⟨#[]⟩, [], [a, b]⟩ = 91 :: (vt a ++ (44 :: (vt b ++ [93]))) := by
  rw [vt, if_neg (by decide), if_neg (by decide), if_neg (by decide), if_neg (by decide), if_pos rfl]
  rw [vts, vts, vts, if_neg (by decide), if_neg (by decide)]
  simp [Lib.join, List.intercalate, List.intersperse]
theorem text_pair (a b : S26) (ha : Fine 3 a) (hb : Fine 3 b) (g : Nat) (w : World) (hc : Kd.C k26 w (some ⟨g, 0, none⟩) 2 [a, b]) (hT : Tabs w) :
    Calls Tryd.prog 5 #[.agg #[.int .i64 6, .int .i64 0, .string ⟨#[]⟩, .slice none 0 0, .slice (some ⟨g, 0, none⟩) 2 2]] w fun e w' => e = .returned (.tuple #[.string (if big ⟨6, 0, ⟨#[]⟩, [], [a, b]⟩ = true then ⟨#[]⟩ else str (vt ⟨6, 0, ⟨#[]⟩, [], [a, b]⟩)), .int .i64 (chk ⟨6, 0, ⟨#[]⟩, [], [a, b]⟩)]) ∧ Below w.heap.size w w' := by
  have h1 := ha.cn
  have h2 := hb.cn
  have h3 := ha.tx
  have h4 := hb.tx
  exact text_calls 4 ⟨6, 0, ⟨#[]⟩, [], [a, b]⟩ (pair_fine ha hb) (by decide) (by rw [cnt_eq]; show 1 + (cnt a + (cnt b + 0)) ≤ _; omega) (by rw [pair_text]; simp only [List.length_cons, List.length_append, List.length_nil]; omega) none 0 (some ⟨g, 0, none⟩) 2 w (Kd.C_nil _ _) (Nat.le_refl _) hc (Nat.le_refl _) hT

set_option maxHeartbeats 8000000 in
set_option maxRecDepth 100000 in
theorem parts_walk (A0 : Option Addr) (c0 : Nat) (l : List Int) (A1 : Option Addr) (c1 : Nat) (m : List Int) (w : World) (hr0 : Kd.C (Kd.int .i64) w A0 l.length l) (hc0 : l.length ≤ c0) (hr1 : Kd.C (Kd.int .i64) w A1 m.length m) (hc1 : m.length ≤ c1) (hT : Tabs w) :
    Calls Tryd.prog 3 #[.slice A0 l.length c0, .slice A1 m.length c1] w fun e w' => e = .returned (.bool true) ∧ Below w.heap.size w w' := by
  have HR0 := Aside0.mk (And.intro hr0 hc0)
  have HR1 := Aside0.mk (And.intro hr1 hc1)
  have HT := Aside0.mk hT
  clear hr0 hc0 hr1 hc1 hT
  go_enter Tryd.func3, Tryd.ntmps3
  go_upto_region 2 with (first
    | (go_at_call 4; refine (valueOf_calls 2 (by decide) A0 c0 l w HR0.out.1 HR0.out.2).mono ?_; rintro e w1 ⟨a, B3, b3, B4, b4, v5, rfl, k1, k2, k3, k4, k5, hb⟩; have HF := Aside0.mk k1; have H3 := Aside0.mk (And.intro k2 k3); have H4 := Aside0.mk (And.intro k4 k5); have S1 := Aside0.mk hb; clear k1 k2 k3 k4 k5 hb))
  obtain ⟨ga, hga⟩ : ∃ g, g = w1.heap.size := ⟨_, rfl⟩
  have HGga := Aside0.mk (show ga < (w1.alloc (.cells #[.int .i64 a.f0, .int .i64 a.f1, .string a.f2, .slice B3 a.f3.length b3, .slice B4 a.f4.length b4] 26)).heap.size by rw [hga]; simp)
  have S1' := Aside0.mk (show Below w1.heap.size w1 (w1.alloc (.cells #[.int .i64 a.f0, .int .i64 a.f1, .string a.f2, .slice B3 a.f3.length b3, .slice B4 a.f4.length b4] 26)) from below_alloc (Below.refl _ _) _)
  have HCa := Aside0.mk (box_cells w1 #[.int .i64 a.f0, .int .i64 a.f1, .string a.f2, .slice B3 a.f3.length b3, .slice B4 a.f4.length b4])
  generalize w1.alloc (.cells #[.int .i64 a.f0, .int .i64 a.f1, .string a.f2, .slice B3 a.f3.length b3, .slice B4 a.f4.length b4] 26) = W1 at HGga S1' HCa ⊢
  rw [← hga] at HCa ⊢
  clear hga
  have T1 := Aside0.mk (S1.out.trans (S1'.out.mono S1.out.size))
  go_upto_region 3 with (first
    | (go_at_call 4; refine (valueOf_calls 2 (by decide) A1 c1 m W1 (Kd.C_below HR1.out.1 T1.out) HR1.out.2).mono ?_; rintro e w2 ⟨b, D3, d3, D4, d4, v6, rfl, k1, k2, k3, k4, k5, hb⟩; have HFb := Aside0.mk k1; have H3b := Aside0.mk (And.intro k2 k3); have H4b := Aside0.mk (And.intro k4 k5); have S2 := Aside0.mk hb; clear k1 k2 k3 k4 k5 hb))
  obtain ⟨gb, hgb⟩ : ∃ g, g = w2.heap.size := ⟨_, rfl⟩
  have HGgb := Aside0.mk (show gb < (w2.alloc (.cells #[.int .i64 b.f0, .int .i64 b.f1, .string b.f2, .slice D3 b.f3.length d3, .slice D4 b.f4.length d4] 26)).heap.size by rw [hgb]; simp)
  have S2' := Aside0.mk (show Below w2.heap.size w2 (w2.alloc (.cells #[.int .i64 b.f0, .int .i64 b.f1, .string b.f2, .slice D3 b.f3.length d3, .slice D4 b.f4.length d4] 26)) from below_alloc (Below.refl _ _) _)
  have HCb := Aside0.mk (box_cells w2 #[.int .i64 b.f0, .int .i64 b.f1, .string b.f2, .slice D3 b.f3.length d3, .slice D4 b.f4.length d4])
  generalize w2.alloc (.cells #[.int .i64 b.f0, .int .i64 b.f1, .string b.f2, .slice D3 b.f3.length d3, .slice D4 b.f4.length d4] 26) = W2 at HGgb S2' HCb ⊢
  rw [← hgb] at HCb ⊢
  clear hgb
  have T2 := Aside0.mk (S2.out.trans (S2'.out.mono S2.out.size))
  have HTx := Aside0.mk ((HT.out.below T1.out).below T2.out)
  have H3x := Aside0.mk (Kd.C_below (Kd.C_below H3.out.1 S1'.out) T2.out)
  have H4x := Aside0.mk (Kd.C_below (Kd.C_below H4.out.1 S1'.out) T2.out)
  have H3y := Aside0.mk (Kd.C_below H3b.out.1 S2'.out)
  have H4y := Aside0.mk (Kd.C_below H4b.out.1 S2'.out)
  have HTa := Aside0.mk (fun w h3 h4 hT => text_calls 3 a HF.out.wf (by decide) (by have := HF.out.cn; omega) (by have := HF.out.tx; omega) B3 b3 B4 b4 w h3 H3.out.2 h4 H4.out.2 hT)
  have HTb := Aside0.mk (fun w h3 h4 hT => text_calls 3 b HFb.out.wf (by decide) (by have := HFb.out.cn; omega) (by have := HFb.out.tx; omega) D3 d3 D4 d4 w h3 H3b.out.2 h4 H4b.out.2 hT)
  have HTu := Aside0.mk (fun g w hc hT => text_pair a b HF.out HFb.out g w hc hT)
  have HSub := Aside0.mk (pair_text a b)
  have HSz := Aside0.mk (And.intro HF.out.tx HFb.out.tx)
  have HKa := Aside0.mk (fun w (h3 : Kd.C Kd.string w B3 a.f3.length a.f3) (h4 : Kd.C k26 w B4 a.f4.length a.f4) => k26_mk w a H3.out.2 h3 H4.out.2 h4)
  have HKb := Aside0.mk (fun w (h3 : Kd.C Kd.string w D3 b.f3.length b.f3) (h4 : Kd.C k26 w D4 b.f4.length b.f4) => k26_mk w b H3b.out.2 h3 H4b.out.2 h4)
  generalize hA : (⟨6, 0, ⟨#[]⟩, [], [a, b]⟩ : S26) = u at HTu HSub
  have T12 := Aside0.mk (T1.out.trans (T2.out.mono T1.out.size))
  clear HR0 HR1 HT S1 S1' S2 S2' H3 H4 H3b H4b HF HFb hA T1
  have x0 := (T2.out.cell (p := ⟨ga, 0, none⟩) HGga.out).trans (HCa.out 0 _ rfl)
  have x1 := (T2.out.cell (p := ⟨ga, 1, none⟩) HGga.out).trans (HCa.out 1 _ rfl)
  have x2 := (T2.out.cell (p := ⟨ga, 2, none⟩) HGga.out).trans (HCa.out 2 _ rfl)
  have x3 := (T2.out.cell (p := ⟨ga, 3, none⟩) HGga.out).trans (HCa.out 3 _ rfl)
  have x4 := (T2.out.cell (p := ⟨ga, 4, none⟩) HGga.out).trans (HCa.out 4 _ rfl)
  have y0 := HCb.out 0 _ rfl
  have y1 := HCb.out 1 _ rfl
  have y2 := HCb.out 2 _ rfl
  have y3 := HCb.out 3 _ rfl
  have y4 := HCb.out 4 _ rfl
  obtain ⟨sa, hsa⟩ : ∃ s, s = (if big a = true then (⟨#[]⟩ : ByteArray) else str (vt a)) := ⟨_, rfl⟩
  obtain ⟨sb, hsb⟩ : ∃ s, s = (if big b = true then (⟨#[]⟩ : ByteArray) else str (vt b)) := ⟨_, rfl⟩
  obtain ⟨su, hsu⟩ : ∃ s, s = (if big u = true then (⟨#[]⟩ : ByteArray) else str (vt u)) := ⟨_, rfl⟩
  obtain ⟨ca, hca⟩ : ∃ c, c = chk a := ⟨_, rfl⟩
  obtain ⟨cb, hcb⟩ : ∃ c, c = chk b := ⟨_, rfl⟩
  obtain ⟨cu, hcu⟩ : ∃ c, c = chk u := ⟨_, rfl⟩
  rw [← hsa, ← hca] at HTa
  rw [← hsb, ← hcb] at HTb
  rw [← hsu, ← hcu] at HTu
  have HA := Aside0.mk (And.intro hsa hca)
  have HB := Aside0.mk (And.intro hsb hcb)
  have HU := Aside0.mk (And.intro hsu hcu)
  clear hsa hsb hsu hca hcb hcu
  go_upto_region 4 with (first
    | (go_at_call 5; refine (HTa.out W2 H3x.out H4x.out HTx.out).mono ?_; rintro e w3 ⟨rfl, hb⟩; have S3 := Aside0.mk hb; have p0 := (hb.cell (p := ⟨gb, 0, none⟩) HGgb.out).trans (HCb.out 0 _ rfl); have p1 := (hb.cell (p := ⟨gb, 1, none⟩) HGgb.out).trans (HCb.out 1 _ rfl); have p2 := (hb.cell (p := ⟨gb, 2, none⟩) HGgb.out).trans (HCb.out 2 _ rfl); have p3 := (hb.cell (p := ⟨gb, 3, none⟩) HGgb.out).trans (HCb.out 3 _ rfl); have p4 := (hb.cell (p := ⟨gb, 4, none⟩) HGgb.out).trans (HCb.out 4 _ rfl); clear hb))
  have Q3 := Aside0.mk (T2.out.trans (S3.out.mono T2.out.size))
  go_upto_region 5 with (first
    | (go_at_call 5; refine (HTb.out w3 (Kd.C_below H3y.out S3.out) (Kd.C_below H4y.out S3.out) (HTx.out.below S3.out)).mono ?_; rintro e w4 ⟨rfl, hb⟩; have S4 := Aside0.mk (S3.out.trans (hb.mono S3.out.size)); clear hb))
  have Q4 := Aside0.mk (T2.out.trans (S4.out.mono T2.out.size))
  have r0 := (Q4.out.cell (p := ⟨ga, 0, none⟩) HGga.out).trans (HCa.out 0 _ rfl)
  have r1 := (Q4.out.cell (p := ⟨ga, 1, none⟩) HGga.out).trans (HCa.out 1 _ rfl)
  have r2 := (Q4.out.cell (p := ⟨ga, 2, none⟩) HGga.out).trans (HCa.out 2 _ rfl)
  have r3 := (Q4.out.cell (p := ⟨ga, 3, none⟩) HGga.out).trans (HCa.out 3 _ rfl)
  have r4 := (Q4.out.cell (p := ⟨ga, 4, none⟩) HGga.out).trans (HCa.out 4 _ rfl)
  have z0 := (S4.out.cell (p := ⟨gb, 0, none⟩) HGgb.out).trans (HCb.out 0 _ rfl)
  have z1 := (S4.out.cell (p := ⟨gb, 1, none⟩) HGgb.out).trans (HCb.out 1 _ rfl)
  have z2 := (S4.out.cell (p := ⟨gb, 2, none⟩) HGgb.out).trans (HCb.out 2 _ rfl)
  have z3 := (S4.out.cell (p := ⟨gb, 3, none⟩) HGgb.out).trans (HCb.out 3 _ rfl)
  have z4 := (S4.out.cell (p := ⟨gb, 4, none⟩) HGgb.out).trans (HCb.out 4 _ rfl)
  go_upto_region 6 with (first
    | (go_at_call 5; refine (HTu.out w4.heap.size _ (two_cells w4 _ _ a b (HKa.out w4 (Kd.C_below H3x.out S4.out) (Kd.C_below H4x.out S4.out)) (HKb.out w4 (Kd.C_below H3y.out S4.out) (Kd.C_below H4y.out S4.out))) (HTx.out.below (S4.out.trans ((below_alloc (Below.refl _ _) _).mono S4.out.size)))).mono ?_; rintro e w5 ⟨rfl, hb⟩; have S5 := Aside0.mk (S4.out.trans (((below_alloc (Below.refl _ _) _).trans (hb.mono (by simp))).mono S4.out.size)); clear hb))
  have HT5 := Aside0.mk (HTx.out.below S5.out)
  have Q5 := Aside0.mk (T12.out.trans (S5.out.mono T12.out.size))
  have HCh := Aside0.mk (And.intro (chk01 a) (And.intro (chk01 b) (chk01 u)))
  clear HTa HTb HTu HKa HKb H3x H4x H3y H4y S3 S4 Q3 Q4 T12 T2 HCa HCb HGga HGgb x0 x1 x2 x3 x4 y0 y1 y2 y3 y4 p0 p1 p2 p3 p4 r0 r1 r2 r3 r4 z0 z1 z2 z3 z4
  by_cases h1 : ca = 1
  · have q1 : (ca == 1) = true := beq_iff_eq.2 h1
    clear h1
    go_wp2_with (first
      | (go_at_call 6; refine (sure_calls _ HT5.out).mono ?_; rintro e w6 ⟨rfl, hb⟩; have S6 := Aside0.mk (Q5.out.trans (hb.mono Q5.out.size)); clear hb))
    go_ret
    exact ⟨rfl, S6.out⟩
  · have q1 : (ca == 1) = false := beq_eq_false_iff_ne.2 h1
    by_cases h2 : cb = 1
    · have q2 : (cb == 1) = true := beq_iff_eq.2 h2
      clear h1 h2
      go_wp2_with (first
        | (go_at_call 6; refine (sure_calls _ HT5.out).mono ?_; rintro e w6 ⟨rfl, hb⟩; have S6 := Aside0.mk (Q5.out.trans (hb.mono Q5.out.size)); clear hb))
      go_ret
      exact ⟨rfl, S6.out⟩
    · have q2 : (cb == 1) = false := beq_eq_false_iff_ne.2 h2
      by_cases h3 : cu = 1
      · have q3 : (cu == 1) = true := beq_iff_eq.2 h3
        clear h1 h2 h3
        go_wp2_with (first
          | (go_at_call 6; refine (sure_calls _ HT5.out).mono ?_; rintro e w6 ⟨rfl, hb⟩; have S6 := Aside0.mk (Q5.out.trans (hb.mono Q5.out.size)); clear hb))
        go_ret
        exact ⟨rfl, S6.out⟩
      · have q3 : (cu == 1) = false := beq_eq_false_iff_ne.2 h3
        have ea : ca = 0 ∧ sa = str (vt a) := by
          obtain ⟨g1, g2⟩ := HA.out
          rcases HCh.out.1 with h | ⟨h, hb⟩
          · exact absurd (g2.trans h) h1
          · rw [hb] at g1; exact ⟨g2.trans h, g1⟩
        have eb : cb = 0 ∧ sb = str (vt b) := by
          obtain ⟨g1, g2⟩ := HB.out
          rcases HCh.out.2.1 with h | ⟨h, hb⟩
          · exact absurd (g2.trans h) h2
          · rw [hb] at g1; exact ⟨g2.trans h, g1⟩
        have eu : cu = 0 ∧ su = str (vt u) := by
          obtain ⟨g1, g2⟩ := HU.out
          rcases HCh.out.2.2 with h | ⟨h, hb⟩
          · exact absurd (g2.trans h) h3
          · rw [hb] at g1; exact ⟨g2.trans h, g1⟩
        have z1 : (ca == 0) = true := beq_iff_eq.2 ea.1
        have z2 : (cb == 0) = true := beq_iff_eq.2 eb.1
        have z3 : (cu == 0) = true := beq_iff_eq.2 eu.1
        obtain ⟨k1, hk1⟩ : ∃ k, k = (⟨#[91]⟩ : ByteArray) ++ sa := ⟨_, rfl⟩
        obtain ⟨k2, hk2⟩ : ∃ k, k = k1 ++ (⟨#[44]⟩ : ByteArray) := ⟨_, rfl⟩
        obtain ⟨k3, hk3⟩ : ∃ k, k = k2 ++ sb := ⟨_, rfl⟩
        obtain ⟨k4, hk4⟩ : ∃ k, k = k3 ++ (⟨#[93]⟩ : ByteArray) := ⟨_, rfl⟩
        have m1 : k1 = str (91 :: vt a) := by rw [hk1, ea.2, show (⟨#[91]⟩ : ByteArray) = str [91] from rfl, str_append]; rfl
        have m2 : k2 = str (91 :: vt a ++ [44]) := by rw [hk2, m1, show (⟨#[44]⟩ : ByteArray) = str [44] from rfl, str_append]
        have m3 : k3 = str (91 :: vt a ++ [44] ++ vt b) := by rw [hk3, m2, eb.2, str_append]
        have m4 : k4 = su := by rw [hk4, m3, show (⟨#[93]⟩ : ByteArray) = str [93] from rfl, str_append, eu.2, HSub.out]; simp
        have hl1 := HSz.out.1
        have hl2 := HSz.out.2
        have n1 : ¬ 9223372036854775807 < 1 + sa.size := by rw [ea.2, str_size]; omega
        have n2 : ¬ 9223372036854775807 < k1.size + 1 := by rw [m1, str_size]; simp only [List.length_cons]; omega
        have n3 : ¬ 9223372036854775807 < k2.size + sb.size := by rw [m2, eb.2, str_size, str_size]; simp only [List.length_cons, List.length_append, List.length_nil]; omega
        have n4 : ¬ 9223372036854775807 < k3.size + 1 := by rw [m3, str_size]; simp only [List.length_cons, List.length_append, List.length_nil]; omega
        have e4 : (su.toList == k4.toList) = true := by rw [m4]; exact beq_iff_eq.2 rfl
        have c1' := hk1.symm
        have c2' := hk2.symm
        have c3' := hk3.symm
        have c4' := hk4.symm
        clear h1 h2 h3 ea eb eu hk1 hk2 hk3 hk4 m1 m2 m3 m4 hl1 hl2 HA HB HU HSub HSz HCh
        go_wp2_with (first
          | (go_at_call 6; refine (sure_calls _ HT5.out).mono ?_; rintro e w6 ⟨rfl, hb⟩; have S6 := Aside0.mk (Q5.out.trans (hb.mono Q5.out.size)); clear hb))
        go_ret
        exact ⟨rfl, S6.out⟩

end Go.Proofs.YtmhfkbgdkgfafaaDoor.Js
