/- JsonBack: its walk straight to its answer, true. -/
import Derived.Test.YtmhfkbgdkgfafaaGreatDoorJsPf
import Derived.Test.YtmhfkbgdkgfafaaGreatDoorVoB
import Derived.OpenShut
namespace Go.Proofs.YtmhfkbgdkgfafaaGreatDoor.Js
open Go.RowKit Go.Proofs.YtmhfkbgdkgfafaaGreatDoor.QJson Go.Proofs.YtmhfkbgdkgfafaaGreatDoorW.PrintWords Go.Proofs.YtmhfkbgdkgfafaaGreatDoorW.PrintLast Go.Proofs.YtmhfkbgdkgfafaaGreatDoorW.PrintMore
set_option linter.unusedVariables false
set_option linter.unusedSimpArgs false


theorem val_parsed {W w : World} {v : S26} {v3 v4 : Value} (h3 : Kd.string.R 9 w W.heap.size (fun _ => True) v3 v.f3) (h4 : k26.R 26 w W.heap.size (fun _ => True) v4 v.f4) : ∃ A3 c3 A4 c4, v3 = .slice A3 v.f3.length c3 ∧ v4 = .slice A4 v.f4.length c4 ∧ Val w v A3 c3 A4 c4 := by
  obtain ⟨A3, c3, rfl⟩ := Kd.R_slice h3
  obtain ⟨A4, c4, rfl⟩ := Kd.R_slice h4
  have k3 := Kd.R_reads' h3
  have k4 := Kd.R_reads' h4
  exact ⟨A3, c3, A4, c4, rfl, rfl, k3.2.2, k3.2.1, k4.2.2, k4.2.1⟩
theorem text_fine {e : Nat} {v : S26} (hf : Fine e v) (he : e ≤ 4) (A3 : Option Addr) (c3 : Nat) (A4 : Option Addr) (c4 : Nat) (w : World) (h : Val w v A3 c3 A4 c4) (hT : Tabs w) :
    Calls Tryz.prog 11 #[.agg #[.int .i64 v.f0, .int .i64 v.f1, .string v.f2, .slice A3 v.f3.length c3, .slice A4 v.f4.length c4]] w fun e w' => e = .returned (.tuple #[.string (if big v = true then ⟨#[]⟩ else str (vt v)), .int .i64 (chk v)]) ∧ Below w.heap.size w w' := by
  have h4 : 4 ^ e ≤ 4 ^ 4 := Nat.pow_le_pow_right (by decide) he
  have h5 := hf.cn
  have h6 := hf.tx
  exact text_calls e v hf.wf (by omega) (by omega) (by omega) A3 c3 A4 c4 w h.k3 h.l3 h.k4 h.l4 hT
theorem same_vals {v u : S26} (hs : Sh v) (hc : cnt v ≤ 1000000) (r : Bool) (hr : r = true ↔ v = u) {A3 A4 B3 B4 : Option Addr} {c3 c4 d3 d4 : Nat} (w : World) (h : Val w v A3 c3 A4 c4) (g : Val w u B3 d3 B4 d4) :
    Calls Tryz.prog 14 #[.agg #[.int .i64 v.f0, .int .i64 v.f1, .string v.f2, .slice A3 v.f3.length c3, .slice A4 v.f4.length c4], .agg #[.int .i64 u.f0, .int .i64 u.f1, .string u.f2, .slice B3 u.f3.length d3, .slice B4 u.f4.length d4]] w fun e w' => e = .returned (.bool r) ∧ Below w.heap.size w w' :=
  same_walk 1000000 v u hs hc (Nat.le_refl _) r hr A3 c3 A4 c4 B3 d3 B4 d4 w h.k3 h.l3 h.k4 h.l4 g.k3 g.l3 g.k4 g.l4
theorem fine_small {v : S26} (hf : Fine 4 v) : WF 6 v ∧ Sh v ∧ cnt v ≤ 1000000 := by
  have := hf.cn
  exact ⟨hf.wf.up 6 (by decide), Sh.of_wf hf.wf, by omega⟩

set_option maxHeartbeats 8000000 in
set_option maxRecDepth 100000 in
theorem back_walk (A0 : Option Addr) (c0 : Nat) (l : List Int) (A1 : Option Addr) (c1 : Nat) (m : List Int) (w : World) (hr0 : Kd.C (Kd.int .i64) w A0 l.length l) (hc0 : l.length ≤ c0) (hr1 : Kd.C (Kd.int .i64) w A1 m.length m) (hc1 : m.length ≤ c1) (hE : Glob w.heap.size w) :
    Calls Tryz.prog 3 #[.slice A0 l.length c0, .slice A1 m.length c1] w fun e w' => e = .returned (.bool true) ∧ Below w.heap.size w w' := by
  have HR0 := Aside0.mk (And.intro hr0 hc0)
  have HR1 := Aside0.mk (And.intro hr1 hc1)
  have HE := Aside0.mk hE
  clear hr0 hc0 hr1 hc1 hE
  go_enter Tryz.func3, Tryz.ntmps3
  have tok1 : True := trivial
  go_upto_region 2 with (first
    | (have _t := tok1; clear _t tok1; go_at_call 10; refine (valueOf_calls 3 (by decide) A0 c0 l w HR0.out.1 HR0.out.2).mono ?_; rintro e w1 ⟨v, A3, c3, A4, c4, v5, rfl, k1, k2, hb⟩; have HF := Aside0.mk k1; have V1 := Aside0.mk k2; have S1 := Aside0.mk hb; clear k1 k2 hb))
  have hbx := Box.new w1 v A3 c3 A4 c4
  have hb1 : Below w1.heap.size w1 (w1.alloc (.cells #[.int .i64 v.f0, .int .i64 v.f1, .string v.f2, .slice A3 v.f3.length c3, .slice A4 v.f4.length c4] 26)) := below_alloc (Below.refl _ _) _
  generalize w1.alloc (.cells #[.int .i64 v.f0, .int .i64 v.f1, .string v.f2, .slice A3 v.f3.length c3, .slice A4 v.f4.length c4] 26) = W1 at hbx hb1 ⊢
  obtain ⟨ga, hga⟩ : ∃ g, g = w1.heap.size := ⟨_, rfl⟩
  rw [← hga] at hbx ⊢
  clear hga
  have X1 := Aside0.mk hbx
  have Y1 := Aside0.mk (V1.out.below hb1)
  have T1 := Aside0.mk (S1.out.trans (hb1.mono S1.out.size))
  clear hbx hb1 V1 S1
  go_upto_region 3 with (first
    | (go_at_call 10; refine (valueOf_calls 3 (by decide) A1 c1 m W1 (Kd.C_below HR1.out.1 T1.out) HR1.out.2).mono ?_; rintro e w2 ⟨u, B3, d3, B4, d4, v6, rfl, k1, k2, hb⟩; have HFb := Aside0.mk k1; have V2 := Aside0.mk k2; have S2 := Aside0.mk hb; clear k1 k2 hb))
  have hbx := Box.new w2 u B3 d3 B4 d4
  have hb1 : Below w2.heap.size w2 (w2.alloc (.cells #[.int .i64 u.f0, .int .i64 u.f1, .string u.f2, .slice B3 u.f3.length d3, .slice B4 u.f4.length d4] 26)) := below_alloc (Below.refl _ _) _
  generalize w2.alloc (.cells #[.int .i64 u.f0, .int .i64 u.f1, .string u.f2, .slice B3 u.f3.length d3, .slice B4 u.f4.length d4] 26) = W2 at hbx hb1 ⊢
  obtain ⟨gb, hgb⟩ : ∃ g, g = w2.heap.size := ⟨_, rfl⟩
  rw [← hgb] at hbx ⊢
  clear hgb
  have Z2 := Aside0.mk hbx
  have Q2 := Aside0.mk (V2.out.below hb1)
  have S12 := Aside0.mk (S2.out.trans (hb1.mono S2.out.size))
  clear hbx hb1 V2 S2
  have X2 := Aside0.mk (X1.out.below S12.out)
  have Y2 := Aside0.mk (Y1.out.below S12.out)
  have T2 := Aside0.mk (T1.out.trans (S12.out.mono T1.out.size))
  clear X1 Y1 S12 HR0 HR1
  -- what the values are is hidden
  have HTa := Aside0.mk (fun w1 (hb : Below w.heap.size w w1) hv => text_fine HF.out (by decide) A3 c3 A4 c4 w1 hv (glob_up HE.out w1 hb).now.tabs)
  have HTb := Aside0.mk (fun w1 (hb : Below w.heap.size w w1) hv => text_fine HFb.out (by decide) B3 d3 B4 d4 w1 hv (glob_up HE.out w1 hb).now.tabs)
  have HSu := Aside0.mk (fun w1 (hb : Below w.heap.size w w1) => sure_calls w1 (glob_up HE.out w1 hb).now.tabs)
  obtain ⟨sa, hsa⟩ : ∃ s, s = (if big v = true then (⟨#[]⟩ : ByteArray) else str (vt v)) := ⟨_, rfl⟩
  obtain ⟨sb, hsb⟩ : ∃ s, s = (if big u = true then (⟨#[]⟩ : ByteArray) else str (vt u)) := ⟨_, rfl⟩
  obtain ⟨ca, hca⟩ : ∃ c, c = chk v := ⟨_, rfl⟩
  obtain ⟨cb, hcb⟩ : ∃ c, c = chk u := ⟨_, rfl⟩
  rw [← hsa, ← hca] at HTa
  rw [← hsb, ← hcb] at HTb
  have HA := Aside0.mk (And.intro hsa hca)
  have HB := Aside0.mk (And.intro hsb hcb)
  clear hsa hsb hca hcb
  obtain ⟨k, n, t, ks, ps⟩ := v
  obtain ⟨k', n', t', ks', ps'⟩ := u
  obtain ⟨n3, hn3⟩ : ∃ x, x = ks.length := ⟨_, rfl⟩
  obtain ⟨n4, hn4⟩ : ∃ x, x = ps.length := ⟨_, rfl⟩
  obtain ⟨m3, hm3⟩ : ∃ x, x = ks'.length := ⟨_, rfl⟩
  obtain ⟨m4, hm4⟩ : ∃ x, x = ps'.length := ⟨_, rfl⟩
  have HN := Aside0.mk (And.intro (And.intro hn3 hn4) (And.intro hm3 hm4))
  have HXc := Aside0.mk (show ∀ w1, Box w1 ga ⟨k, n, t, ks, ps⟩ A3 c3 A4 c4 → w1.cell? ⟨ga, 0, none⟩ = some (.int .i64 k) ∧ w1.cell? ⟨ga, 1, none⟩ = some (.int .i64 n) ∧ w1.cell? ⟨ga, 2, none⟩ = some (.string t) ∧ w1.cell? ⟨ga, 3, none⟩ = some (.slice A3 n3 c3) ∧ w1.cell? ⟨ga, 4, none⟩ = some (.slice A4 n4 c4) from fun w1 h => by rw [hn3, hn4]; exact h.all)
  have HZc := Aside0.mk (show ∀ w1, Box w1 gb ⟨k', n', t', ks', ps'⟩ B3 d3 B4 d4 → w1.cell? ⟨gb, 0, none⟩ = some (.int .i64 k') ∧ w1.cell? ⟨gb, 1, none⟩ = some (.int .i64 n') ∧ w1.cell? ⟨gb, 2, none⟩ = some (.string t') ∧ w1.cell? ⟨gb, 3, none⟩ = some (.slice B3 m3 d3) ∧ w1.cell? ⟨gb, 4, none⟩ = some (.slice B4 m4 d4) from fun w1 h => by rw [hm3, hm4]; exact h.all)
  (try dsimp only at HTa)
  (try dsimp only at HTb)
  rw [← hn3, ← hn4] at HTa
  rw [← hm3, ← hm4] at HTb
  clear hn3 hn4 hm3 hm4
  (try dsimp only)
  obtain ⟨x0, x1, x2, x3, x4⟩ := HXc.out W2 X2.out
  have HT1 := Aside0.mk (HTa.out W2 T2.out Y2.out)
  clear HTa
  have tok2 : True := trivial
  go_upto_region 4 with (first
    | (have _t := tok2; clear _t tok2; go_at_call 11; refine HT1.out.mono ?_; rintro e w3 ⟨rfl, hb⟩; have S3 := Aside0.mk hb; clear hb))
  clear x0 x1 x2 x3 x4 HT1
  have T3 := Aside0.mk (T2.out.trans (S3.out.mono T2.out.size))
  obtain ⟨x0, x1, x2, x3, x4⟩ := HZc.out w3 (Z2.out.below S3.out)
  have HT1 := Aside0.mk (HTb.out w3 T3.out (Q2.out.below S3.out))
  clear HTb
  go_upto_region 5 with (first
    | (go_at_call 11; refine HT1.out.mono ?_; rintro e w4 ⟨rfl, hb⟩; have S4 := Aside0.mk hb; clear hb))
  clear x0 x1 x2 x3 x4 HT1
  have T4 := Aside0.mk (T3.out.trans (S4.out.mono T3.out.size))
  have X4 := Aside0.mk ((X2.out.below S3.out).below S4.out)
  have Y4 := Aside0.mk ((Y2.out.below S3.out).below S4.out)
  have Z4 := Aside0.mk ((Z2.out.below S3.out).below S4.out)
  have Q4 := Aside0.mk ((Q2.out.below S3.out).below S4.out)
  clear X2 Y2 Z2 Q2 S3 S4 T2 T3 T1
  have hend : ∀ (w4 : World), Below w.heap.size w w4 → Calls Tryz.prog 12 #[] w4 fun e w' => e = .returned (.bool true) ∧ Below w.heap.size w w' := fun w4 h => (HSu.out w4 h).mono fun e w' ⟨h1, h2⟩ => ⟨h1, h.trans (h2.mono h.size)⟩
  have HEnd := Aside0.mk (hend w4 T4.out)
  clear hend
  rcases chk01 ⟨k, n, t, ks, ps⟩ with ⟨h1, h1b⟩ | ⟨h1, h1b⟩
  · have q1 : ca = 1 := HA.out.2.trans h1
    subst q1
    clear h1 h1b
    go_wp2_with (first
      | (go_at_call 12; refine HEnd.out.mono ?_; rintro e w5 ⟨rfl, hb⟩; have S5 := Aside0.mk hb; clear hb))
    go_ret
    exact ⟨rfl, S5.out⟩
  have q1 : ca = 0 := HA.out.2.trans h1
  subst q1
  have HA1 := Aside0.mk (show sa = str (vt ⟨k, n, t, ks, ps⟩) by rw [HA.out.1, h1b]; rfl)
  have HA2 := Aside0.mk h1b
  clear h1 h1b HA
  rcases chk01 ⟨k', n', t', ks', ps'⟩ with ⟨h1, h1b⟩ | ⟨h1, h1b⟩
  · have q1 : cb = 1 := HB.out.2.trans h1
    subst q1
    clear h1 h1b
    go_wp2_with (first
      | (go_at_call 12; refine HEnd.out.mono ?_; rintro e w5 ⟨rfl, hb⟩; have S5 := Aside0.mk hb; clear hb))
    go_ret
    exact ⟨rfl, S5.out⟩
  have q1 : cb = 0 := HB.out.2.trans h1
  subst q1
  have HB1 := Aside0.mk (show sb = str (vt ⟨k', n', t', ks', ps'⟩) by rw [HB.out.1, h1b]; rfl)
  clear h1 h1b HB HEnd
  obtain ⟨r, hr⟩ : ∃ r : Bool, r = true ↔ (⟨k, n, t, ks, ps⟩ : S26) = ⟨k', n', t', ks', ps'⟩ := by
    by_cases h : (⟨k, n, t, ks, ps⟩ : S26) = ⟨k', n', t', ks', ps'⟩
    · exact ⟨true, ⟨fun _ => h, fun _ => rfl⟩⟩
    · exact ⟨false, ⟨(fun h => by cases h), fun h2 => absurd h2 h⟩⟩
  have HStr := Aside0.mk (show (sa.toList == sb.toList) = r by
    have hwa := (fine_small HF.out).1
    have hwb := (fine_small HFb.out).1
    by_cases h : (⟨k, n, t, ks, ps⟩ : S26) = ⟨k', n', t', ks', ps'⟩
    · rw [hr.2 h, HA1.out, HB1.out, h]; exact beq_iff_eq.2 rfl
    · have h2 : r = false := by
        cases r with
        | false => rfl
        | true => exact absurd (hr.1 rfl) h
      rw [h2, HA1.out, HB1.out]
      refine bytes_ne (fun e => h (vt_inj hwa hwb (by decide) ?_))
      have := congrArg (fun b : ByteArray => b.data.toList) e
      simpa [str] using this)
  have HSame := Aside0.mk (fun w1 (hv : Val w1 ⟨k, n, t, ks, ps⟩ A3 c3 A4 c4) (hu : Val w1 ⟨k', n', t', ks', ps'⟩ B3 d3 B4 d4) => same_vals (fine_small HF.out).2.1 (fine_small HF.out).2.2 r hr w1 hv hu)
  have HSame1 := Aside0.mk (fun D3 e3 D4 e4 w1 (hu : Val w1 ⟨k, n, t, ks, ps⟩ D3 e3 D4 e4) (hv : Val w1 ⟨k, n, t, ks, ps⟩ A3 c3 A4 c4) => same_vals (fine_small HF.out).2.1 (fine_small HF.out).2.2 true ⟨fun _ => rfl, fun _ => rfl⟩ w1 hu hv)
  have HPa := Aside0.mk (show Calls Tryz.prog 13 #[.string sa] w4 fun e w' => ParseOut w4 ⟨k, n, t, ks, ps⟩ 0 e w' from by
    rw [HA1.out]
    exact parse_known (parse_vt (fine_small HF.out).1 (by decide)) (by have := (big_small HA2.out).2; omega) (fine_small HF.out).1 HA2.out w4 (glob_up HE.out w4 T4.out))
  have hst := HStr.out
  clear hr HStr HA1 HB1 HA2 HF HFb
  (try dsimp only at HSame)
  (try dsimp only at HSame1)
  rw [← HN.out.1.1, ← HN.out.1.2, ← HN.out.2.1, ← HN.out.2.2] at HSame
  rw [← HN.out.1.1, ← HN.out.1.2] at HSame1
  go_upto_region 8 with (first
    | (go_at_call 13; refine HPa.out.mono ?_; rintro e w5 ⟨v3, v4, rfl, h3, h4, hb⟩; obtain ⟨D3, e3, D4, e4, hv3, hv4, hval⟩ := val_parsed (v := ⟨k, n, t, ks, ps⟩) h3 h4; (try dsimp only at hv3); (try dsimp only at hv4); rw [← HN.out.1.1] at hv3; rw [← HN.out.1.2] at hv4; subst hv3 hv4; have V5 := Aside0.mk hval; have S5 := Aside0.mk hb; clear h3 h4 hb hval))
  have hbx := Box.new w5 ⟨k, n, t, ks, ps⟩ D3 e3 D4 e4
  (try dsimp only at hbx)
  rw [← HN.out.1.1, ← HN.out.1.2] at hbx
  have hb1 : Below w5.heap.size w5 (w5.alloc (.cells #[.int .i64 k, .int .i64 n, .string t, .slice D3 n3 e3, .slice D4 n4 e4] 26)) := below_alloc (Below.refl _ _) _
  generalize w5.alloc (.cells #[.int .i64 k, .int .i64 n, .string t, .slice D3 n3 e3, .slice D4 n4 e4] 26) = W5 at hbx hb1 ⊢
  obtain ⟨gc, hgc⟩ : ∃ g, g = w5.heap.size := ⟨_, rfl⟩
  rw [← hgc] at hbx ⊢
  clear hgc
  have S45 := Aside0.mk (S5.out.trans (hb1.mono S5.out.size))
  have P5 := Aside0.mk hbx
  have O5 := Aside0.mk (V5.out.below hb1)
  have T5 := Aside0.mk (T4.out.trans (S45.out.mono T4.out.size))
  clear hbx hb1 V5 S5
  have HW := Aside0.mk (show ∀ w6, Below W5.heap.size W5 w6 → (Box w6 ga ⟨k, n, t, ks, ps⟩ A3 c3 A4 c4 ∧ Box w6 gb ⟨k', n', t', ks', ps'⟩ B3 d3 B4 d4 ∧ Box w6 gc ⟨k, n, t, ks, ps⟩ D3 e3 D4 e4) ∧ (Val w6 ⟨k, n, t, ks, ps⟩ A3 c3 A4 c4 ∧ Val w6 ⟨k', n', t', ks', ps'⟩ B3 d3 B4 d4 ∧ Val w6 ⟨k, n, t, ks, ps⟩ D3 e3 D4 e4) ∧ Below w.heap.size w w6 from fun w6 h => by
    have h6 := S45.out.trans (h.mono S45.out.size)
    exact ⟨⟨X4.out.below h6, Z4.out.below h6, P5.out.below h⟩, ⟨Y4.out.below h6, Q4.out.below h6, O5.out.below h⟩, T5.out.trans (h.mono T5.out.size)⟩)
  have HPc := Aside0.mk (show ∀ w1, Box w1 gc ⟨k, n, t, ks, ps⟩ D3 e3 D4 e4 → w1.cell? ⟨gc, 0, none⟩ = some (.int .i64 k) ∧ w1.cell? ⟨gc, 1, none⟩ = some (.int .i64 n) ∧ w1.cell? ⟨gc, 2, none⟩ = some (.string t) ∧ w1.cell? ⟨gc, 3, none⟩ = some (.slice D3 n3 e3) ∧ w1.cell? ⟨gc, 4, none⟩ = some (.slice D4 n4 e4) from fun w1 h => by rw [HN.out.1.1, HN.out.1.2]; exact h.all)
  have HSua := Aside0.mk (HSu.out W5 T5.out)
  clear HPa HE HSu X4 Z4 P5 Y4 Q4 O5 T5 S45 T4
  have tok3 : True := trivial
  go_wp2_with (first
    | (go_at_call 12; refine HSua.out.mono ?_; rintro e w6 ⟨rfl, hb⟩; have S6 := Aside0.mk hb; obtain ⟨⟨b1, b2, b3⟩, ⟨c1, c2, c3'⟩, b4⟩ := HW.out w6 hb; have HS1 := Aside0.mk (HSame1.out D3 e3 D4 e4 w6 c3' c1); obtain ⟨p0, p1, p2, p3, p4⟩ := HPc.out w6 b3; obtain ⟨q0, q1, q2, q3, q4⟩ := HXc.out w6 b1; clear hb b1 b2 b3 c1 c2 c3' b4)
    | (have _t := tok3; clear _t tok3; go_at_call 14; refine HS1.out.mono ?_; rintro e w7 ⟨rfl, hb⟩; have S7 := Aside0.mk (S6.out.trans (hb.mono S6.out.size)); obtain ⟨⟨b1, b2, b3⟩, ⟨c1, c2, c3'⟩, b4⟩ := HW.out w7 S7.out; have HS2 := Aside0.mk (HSame.out w7 c1 c2); obtain ⟨p0, p1, p2, p3, p4⟩ := HXc.out w7 b1; obtain ⟨q0, q1, q2, q3, q4⟩ := HZc.out w7 b2; clear hb b1 b2 b3 c1 c2 c3' b4)
    | (go_at_call 14; refine HS2.out.mono ?_; rintro e w8 ⟨rfl, hb⟩; have S8 := Aside0.mk (S7.out.trans (hb.mono S7.out.size)); clear hb))
  go_ret
  exact ⟨by simp, (HW.out _ S8.out).2.2⟩

end Go.Proofs.YtmhfkbgdkgfafaaGreatDoor.Js
