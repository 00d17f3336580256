/- json.Check, json.Text at values that may be. -/
import Derived.Test.YtmhfkbgdkgfafaaDoorJsG
namespace Go.Proofs.YtmhfkbgdkgfafaaDoor.Js
open Go.RowKit Go.Proofs.YtmhfkbgdkgfafaaDoor.QJson Go.Proofs.YtmhfkbgdkgfafaaDoorW.PrintWords Go.Proofs.YtmhfkbgdkgfafaaDoorW.PrintLast Go.Proofs.YtmhfkbgdkgfafaaDoorW.PrintMore
set_option linter.unusedVariables false
set_option linter.unusedSimpArgs false

/-- Is it too great? -/
def big (v : S26) : Bool := decide (100 < cnt v) || decide (600 < (vt v).length)
def chk (v : S26) : Int := if big v = true then 1 else 0

set_option maxHeartbeats 4000000 in
set_option maxRecDepth 100000 in
theorem check_calls (d : Nat) (v : S26) (hv : WF d v) (hd : d ≤ 6) (hc : cnt v ≤ 1000000) (hl : (vt v).length ≤ 1000000) (A3 : Option Addr) (c3 : Nat) (A4 : Option Addr) (c4 : Nat) (w : World) (h3 : Kd.C Kd.string w A3 v.f3.length v.f3) (l3 : v.f3.length ≤ c3) (h4 : Kd.C k26 w A4 v.f4.length v.f4) (l4 : v.f4.length ≤ c4) (hT : Tabs w) :
    Calls Tryd.prog 8 #[.agg #[.int .i64 v.f0, .int .i64 v.f1, .string v.f2, .slice A3 v.f3.length c3, .slice A4 v.f4.length c4]] w fun e w' => e = .returned (.int .i64 (chk v)) ∧ Below w.heap.size w w' := by
  obtain ⟨K1, hK1⟩ := fault_some d v 0 hv hc (by omega)
  have hk1 := hK1 K1 (Nat.le_refl _)
  obtain ⟨K2, hk2⟩ := count_calls_some d v hv hc
  have HF := Aside0.mk (fun w h3 h4 => json_fault.calls K1 v.f0 v.f1 v.f2 A3 c3 v.f3 A4 c4 v.f4 0 0 w h3 l3 h4 l4 hk1)
  have HCn := Aside0.mk (fun w h3 h4 => json_count.calls K2 v.f0 v.f1 v.f2 A3 c3 v.f3 A4 c4 v.f4 (cnt v) w h3 l3 h4 l4 hk2)
  have HO := Aside0.mk (fun w h3 h4 hT => of_walk d v hv hl A3 c3 A4 c4 w h3 l3 h4 l4 hT)
  have H3 := Aside0.mk h3
  have H4 := Aside0.mk h4
  have HT := Aside0.mk hT
  have HZ := Aside0.mk (str_size (vt v))
  obtain ⟨n, hn⟩ : ∃ n, n = cnt v := ⟨_, rfl⟩
  obtain ⟨m, hm⟩ : ∃ m, m = (vt v).length := ⟨_, rfl⟩
  obtain ⟨s, hs⟩ : ∃ s, s = str (vt v) := ⟨_, rfl⟩
  obtain ⟨r, hr⟩ : ∃ r, r = chk v := ⟨_, rfl⟩
  have HR := Aside0.mk (show r = if 100 < n ∨ 600 < m then 1 else 0 by
    rw [hr, hn, hm]; unfold chk big
    by_cases g1 : 100 < cnt v <;> by_cases g2 : 600 < (vt v).length <;> simp [g1, g2])
  rw [← hn] at HCn hc
  rw [← hs] at HO HZ
  rw [← hm] at HZ hl
  rw [← hr]
  have hsz := HZ.out
  clear hn hm hs hr h3 h4 hT hK1 hk1 hk2 HZ
  obtain ⟨k, i, t, ks, ps⟩ := v
  dsimp only at *
  clear l3 l4 hv
  go_enter Tryd.func8, Tryd.ntmps8
  go_upto_region 1 with (fail)
  obtain ⟨g, hg⟩ : ∃ g, g = w.heap.size := ⟨_, rfl⟩
  have HG := Aside0.mk (show g < (w.alloc (.cells #[.int .i64 k, .int .i64 i, .string t, .slice A3 ks.length c3, .slice A4 ps.length c4] 26)).heap.size by rw [hg]; simp)
  have HB1 := Aside0.mk (show Below w.heap.size w (w.alloc (.cells #[.int .i64 k, .int .i64 i, .string t, .slice A3 ks.length c3, .slice A4 ps.length c4] 26)) from below_alloc (Below.refl _ _) _)
  have HC := Aside0.mk (box_cells w #[.int .i64 k, .int .i64 i, .string t, .slice A3 ks.length c3, .slice A4 ps.length c4])
  generalize w.alloc (.cells #[.int .i64 k, .int .i64 i, .string t, .slice A3 ks.length c3, .slice A4 ps.length c4] 26) = W1 at HG HB1 HC ⊢
  rw [← hg] at HC ⊢
  clear hg
  have HT1 := Aside0.mk (HT.out.below HB1.out)
  have H3' := Aside0.mk (Kd.C_below H3.out HB1.out)
  have H4' := Aside0.mk (Kd.C_below H4.out HB1.out)
  clear HT H3 H4
  have x0 := HC.out 0 _ rfl
  have x1 := HC.out 1 _ rfl
  have x2 := HC.out 2 _ rfl
  have x3 := HC.out 3 _ rfl
  have x4 := HC.out 4 _ rfl
  go_upto_region 4 with (first | (go_at_call 10; refine (HF.out _ H3'.out H4'.out).mono ?_; rintro e w2 ⟨rfl, hb⟩; have S2 := Aside0.mk hb; have y0 := (S2.out.cell (p := ⟨g, 0, none⟩) HG.out).trans (HC.out 0 _ rfl); have y1 := (S2.out.cell (p := ⟨g, 1, none⟩) HG.out).trans (HC.out 1 _ rfl); have y2 := (S2.out.cell (p := ⟨g, 2, none⟩) HG.out).trans (HC.out 2 _ rfl); have y3 := (S2.out.cell (p := ⟨g, 3, none⟩) HG.out).trans (HC.out 3 _ rfl); have y4 := (S2.out.cell (p := ⟨g, 4, none⟩) HG.out).trans (HC.out 4 _ rfl); clear hb))
  by_cases g1 : 100 < n
  · have hr := HR.out
    rw [if_pos (.inl g1)] at hr
    have g1' : (100 : Int) < (n : Int) := by omega
    subst hr
    clear g1
    go_wp2_with (first
      | (go_at_call 11; refine (HCn.out _ (Kd.C_below H3'.out S2.out) (Kd.C_below H4'.out S2.out)).mono ?_; rintro e w3 ⟨rfl, hb⟩; have S3 := Aside0.mk (S2.out.trans (hb.mono S2.out.size)); have z0 := (S3.out.cell (p := ⟨g, 0, none⟩) HG.out).trans (HC.out 0 _ rfl); have z1 := (S3.out.cell (p := ⟨g, 1, none⟩) HG.out).trans (HC.out 1 _ rfl); have z2 := (S3.out.cell (p := ⟨g, 2, none⟩) HG.out).trans (HC.out 2 _ rfl); have z3 := (S3.out.cell (p := ⟨g, 3, none⟩) HG.out).trans (HC.out 3 _ rfl); have z4 := (S3.out.cell (p := ⟨g, 4, none⟩) HG.out).trans (HC.out 4 _ rfl); clear hb))
    go_ret
    exact ⟨rfl, HB1.out.trans (S3.out.mono HB1.out.size)⟩
  · have g1' : ¬ (100 : Int) < (n : Int) := by omega
    by_cases g2 : 600 < m
    · have hr := HR.out
      rw [if_pos (.inr g2)] at hr
      have g2' : (600 : Int) < (m : Int) := by omega
      subst hr
      clear g1 g2
      go_wp2_with (first
        | (go_at_call 11; refine (HCn.out _ (Kd.C_below H3'.out S2.out) (Kd.C_below H4'.out S2.out)).mono ?_; rintro e w3 ⟨rfl, hb⟩; have S3 := Aside0.mk (S2.out.trans (hb.mono S2.out.size)); have z0 := (S3.out.cell (p := ⟨g, 0, none⟩) HG.out).trans (HC.out 0 _ rfl); have z1 := (S3.out.cell (p := ⟨g, 1, none⟩) HG.out).trans (HC.out 1 _ rfl); have z2 := (S3.out.cell (p := ⟨g, 2, none⟩) HG.out).trans (HC.out 2 _ rfl); have z3 := (S3.out.cell (p := ⟨g, 3, none⟩) HG.out).trans (HC.out 3 _ rfl); have z4 := (S3.out.cell (p := ⟨g, 4, none⟩) HG.out).trans (HC.out 4 _ rfl); clear hb)
        | (go_at_call 9; refine (HO.out _ (Kd.C_below H3'.out S3.out) (Kd.C_below H4'.out S3.out) (HT1.out.below S3.out)).mono ?_; rintro e w4 ⟨rfl, hb⟩; have S4 := Aside0.mk (S3.out.trans (hb.mono S3.out.size)); clear hb))
      go_ret
      exact ⟨rfl, HB1.out.trans (S4.out.mono HB1.out.size)⟩
    · have hr := HR.out
      rw [if_neg (by omega)] at hr
      have g2' : ¬ (600 : Int) < (m : Int) := by omega
      subst hr
      clear g1 g2
      go_wp2_with (first
        | (go_at_call 11; refine (HCn.out _ (Kd.C_below H3'.out S2.out) (Kd.C_below H4'.out S2.out)).mono ?_; rintro e w3 ⟨rfl, hb⟩; have S3 := Aside0.mk (S2.out.trans (hb.mono S2.out.size)); have z0 := (S3.out.cell (p := ⟨g, 0, none⟩) HG.out).trans (HC.out 0 _ rfl); have z1 := (S3.out.cell (p := ⟨g, 1, none⟩) HG.out).trans (HC.out 1 _ rfl); have z2 := (S3.out.cell (p := ⟨g, 2, none⟩) HG.out).trans (HC.out 2 _ rfl); have z3 := (S3.out.cell (p := ⟨g, 3, none⟩) HG.out).trans (HC.out 3 _ rfl); have z4 := (S3.out.cell (p := ⟨g, 4, none⟩) HG.out).trans (HC.out 4 _ rfl); clear hb)
        | (go_at_call 9; refine (HO.out _ (Kd.C_below H3'.out S3.out) (Kd.C_below H4'.out S3.out) (HT1.out.below S3.out)).mono ?_; rintro e w4 ⟨rfl, hb⟩; have S4 := Aside0.mk (S3.out.trans (hb.mono S3.out.size)); clear hb))
      go_ret
      exact ⟨rfl, HB1.out.trans (S4.out.mono HB1.out.size)⟩

set_option maxHeartbeats 4000000 in
set_option maxRecDepth 100000 in
theorem text_calls (d : Nat) (v : S26) (hv : WF d v) (hd : d ≤ 6) (hc : cnt v ≤ 1000000) (hl : (vt v).length ≤ 1000000) (A3 : Option Addr) (c3 : Nat) (A4 : Option Addr) (c4 : Nat) (w : World) (h3 : Kd.C Kd.string w A3 v.f3.length v.f3) (l3 : v.f3.length ≤ c3) (h4 : Kd.C k26 w A4 v.f4.length v.f4) (l4 : v.f4.length ≤ c4) (hT : Tabs w) :
    Calls Tryd.prog 5 #[.agg #[.int .i64 v.f0, .int .i64 v.f1, .string v.f2, .slice A3 v.f3.length c3, .slice A4 v.f4.length c4]] w fun e w' => e = .returned (.tuple #[.string (if big v = true then ⟨#[]⟩ else str (vt v)), .int .i64 (chk v)]) ∧ Below w.heap.size w w' := by
  have HCk := Aside0.mk (fun w h3 h4 hT => check_calls d v hv hd hc hl A3 c3 A4 c4 w h3 l3 h4 l4 hT)
  have HO := Aside0.mk (fun w h3 h4 hT => of_walk d v hv hl A3 c3 A4 c4 w h3 l3 h4 l4 hT)
  have H3 := Aside0.mk h3
  have H4 := Aside0.mk h4
  have HT := Aside0.mk hT
  obtain ⟨s, hs⟩ : ∃ s, s = str (vt v) := ⟨_, rfl⟩
  rw [← hs] at HO ⊢
  have hbig : chk v = if big v = true then 1 else 0 := rfl
  obtain ⟨b, hb⟩ : ∃ b, b = big v := ⟨_, rfl⟩
  rw [hbig] at HCk ⊢
  rw [← hb] at HCk ⊢
  clear hbig hb hs h3 h4 hT
  obtain ⟨k, i, t, ks, ps⟩ := v
  dsimp only at *
  clear l3 l4 hv hc hl
  go_enter Tryd.func5, Tryd.ntmps5
  go_upto_region 1 with (fail)
  obtain ⟨g, hg⟩ : ∃ g, g = w.heap.size := ⟨_, rfl⟩
  have HG := Aside0.mk (show g < (w.alloc (.cells #[.int .i64 k, .int .i64 i, .string t, .slice A3 ks.length c3, .slice A4 ps.length c4] 26)).heap.size by rw [hg]; simp)
  have HB1 := Aside0.mk (show Below w.heap.size w (w.alloc (.cells #[.int .i64 k, .int .i64 i, .string t, .slice A3 ks.length c3, .slice A4 ps.length c4] 26)) from below_alloc (Below.refl _ _) _)
  have HC := Aside0.mk (box_cells w #[.int .i64 k, .int .i64 i, .string t, .slice A3 ks.length c3, .slice A4 ps.length c4])
  generalize w.alloc (.cells #[.int .i64 k, .int .i64 i, .string t, .slice A3 ks.length c3, .slice A4 ps.length c4] 26) = W1 at HG HB1 HC ⊢
  rw [← hg] at HC ⊢
  clear hg
  have HT1 := Aside0.mk (HT.out.below HB1.out)
  have H3' := Aside0.mk (Kd.C_below H3.out HB1.out)
  have H4' := Aside0.mk (Kd.C_below H4.out HB1.out)
  clear HT H3 H4
  have x0 := HC.out 0 _ rfl
  have x1 := HC.out 1 _ rfl
  have x2 := HC.out 2 _ rfl
  have x3 := HC.out 3 _ rfl
  have x4 := HC.out 4 _ rfl
  cases b with
  | true =>
    go_wp2_with (first | (go_at_call 8; refine (HCk.out _ H3'.out H4'.out HT1.out).mono ?_; rintro e w2 ⟨rfl, hb⟩; have S2 := Aside0.mk hb; clear hb))
    go_ret2
    exact ⟨rfl, HB1.out.trans (S2.out.mono HB1.out.size)⟩
  | false =>
    go_wp2_with (first
      | (go_at_call 8; refine (HCk.out _ H3'.out H4'.out HT1.out).mono ?_; rintro e w2 ⟨rfl, hb⟩; have S2 := Aside0.mk hb; have y0 := (S2.out.cell (p := ⟨g, 0, none⟩) HG.out).trans (HC.out 0 _ rfl); have y1 := (S2.out.cell (p := ⟨g, 1, none⟩) HG.out).trans (HC.out 1 _ rfl); have y2 := (S2.out.cell (p := ⟨g, 2, none⟩) HG.out).trans (HC.out 2 _ rfl); have y3 := (S2.out.cell (p := ⟨g, 3, none⟩) HG.out).trans (HC.out 3 _ rfl); have y4 := (S2.out.cell (p := ⟨g, 4, none⟩) HG.out).trans (HC.out 4 _ rfl); clear hb)
      | (go_at_call 9; refine (HO.out _ (Kd.C_below H3'.out S2.out) (Kd.C_below H4'.out S2.out) (HT1.out.below S2.out)).mono ?_; rintro e w4 ⟨rfl, hb⟩; have S4 := Aside0.mk (S2.out.trans (hb.mono S2.out.size)); clear hb))
    go_ret2
    exact ⟨rfl, HB1.out.trans (S4.out.mono HB1.out.size)⟩

theorem v7_wf : WF 1 ⟨4, 7, ⟨#[]⟩, [], []⟩ := .mk (by decide) (by decide) (by decide +kernel) (fun h => by cases h) (by decide) (by decide) (fun i h => absurd h (by simp)) (fun p hp => by cases hp)
theorem v7_vt : vt ⟨4, 7, ⟨#[]⟩, [], []⟩ = [55] := by
  rw [vt, if_neg (by decide), if_neg (by decide), if_pos rfl]; decide +kernel
theorem v7_cnt : cnt ⟨4, 7, ⟨#[]⟩, [], []⟩ = 1 := by rw [cnt_eq]; rfl
set_option maxRecDepth 100000 in
theorem sure_calls (w : World) (hT : Tabs w) : Calls Tryd.prog 6 #[] w fun e w' => e = .returned (.bool true) ∧ Below w.heap.size w w' := by
  have h := text_calls 1 ⟨4, 7, ⟨#[]⟩, [], []⟩ v7_wf (by decide) (by rw [v7_cnt]; decide) (by rw [v7_vt]; decide) none 0 none 0 w (Kd.C_nil _ _) (Nat.le_refl _) (Kd.C_nil _ _) (Nat.le_refl _) hT
  have hb : big ⟨4, 7, ⟨#[]⟩, [], []⟩ = false := by unfold big; rw [v7_cnt, v7_vt]; rfl
  unfold chk at h
  rw [hb, v7_vt] at h
  have H := Aside0.mk h
  have h7 : ((str [55]).toList == [55]) = true := by decide +kernel
  clear h hb hT
  go_enter Tryd.func6, Tryd.ntmps6
  go_wp2_with (first
    | (go_at_call 5; refine H.out.mono ?_; rintro e w2 ⟨rfl, hb⟩; have S2 := Aside0.mk hb; clear hb))
  go_ret
  exact ⟨rfl, S2.out⟩

end Go.Proofs.YtmhfkbgdkgfafaaDoor.Js
