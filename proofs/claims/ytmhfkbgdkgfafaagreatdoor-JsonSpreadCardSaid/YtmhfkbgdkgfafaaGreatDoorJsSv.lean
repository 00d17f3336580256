/- bagnallkeep.sameValue: are two values the same? -/
import Derived.Test.YtmhfkbgdkgfafaaGreatDoorJsFx
namespace Go.Proofs.YtmhfkbgdkgfafaaGreatDoor.Js
open Go.RowKit Go.Proofs.YtmhfkbgdkgfafaaGreatDoor.QJson Go.Proofs.YtmhfkbgdkgfafaaGreatDoorW.PrintWords Go.Proofs.YtmhfkbgdkgfafaaGreatDoorW.PrintLast Go.Proofs.YtmhfkbgdkgfafaaGreatDoorW.PrintMore
set_option linter.unusedVariables false
set_option linter.unusedSimpArgs false

theorem bytes_ne {s t : ByteArray} (h : s ≠ t) : (s.toList == t.toList) = false := by
  rw [beq_eq_false_iff_ne, Lib.toList_data, Lib.toList_data]
  intro e
  exact h (by rw [← str_back s, ← str_back t, e])
theorem bytes_eq {s t : ByteArray} (h : s = t) : (s.toList == t.toList) = true := by rw [h]; exact beq_iff_eq.2 rfl
theorem below_undrew {w w3 : World} (h : Below w.drew.heap.size w.drew w3) : Below w.heap.size w w3 := ⟨h.os, h.tape, h.output, h.size, h.block⟩
theorem all12 {w w2 : World} {b1 b2 b3 b4 b5 b6 b7 b8 b9 b10 b11 b12 : Addr} {v1 v2 v3 v4 v5 v6 v7 v8 v9 v10 v11 v12 : Value}
    (h : w.cell? b1 = some v1 ∧ w.cell? b2 = some v2 ∧ w.cell? b3 = some v3 ∧ w.cell? b4 = some v4 ∧ w.cell? b5 = some v5 ∧ w.cell? b6 = some v6 ∧ w.cell? b7 = some v7 ∧ w.cell? b8 = some v8 ∧ w.cell? b9 = some v9 ∧ w.cell? b10 = some v10 ∧ w.cell? b11 = some v11 ∧ w.cell? b12 = some v12) (hb : Below w.heap.size w w2) :
    w2.cell? b1 = some v1 ∧ w2.cell? b2 = some v2 ∧ w2.cell? b3 = some v3 ∧ w2.cell? b4 = some v4 ∧ w2.cell? b5 = some v5 ∧ w2.cell? b6 = some v6 ∧ w2.cell? b7 = some v7 ∧ w2.cell? b8 = some v8 ∧ w2.cell? b9 = some v9 ∧ w2.cell? b10 = some v10 ∧ w2.cell? b11 = some v11 ∧ w2.cell? b12 = some v12 := by
  obtain ⟨h1, h2, h3, h4, h5, h6, h7, h8, h9, h10, h11, h12⟩ := h
  exact ⟨pw_cell_below hb h1, pw_cell_below hb h2, pw_cell_below hb h3, pw_cell_below hb h4, pw_cell_below hb h5, pw_cell_below hb h6, pw_cell_below hb h7, pw_cell_below hb h8, pw_cell_below hb h9, pw_cell_below hb h10, pw_cell_below hb h11, pw_cell_below hb h12⟩
theorem getD_at {α : Type} (l : List α) (i : Nat) (d : α) (h : i < l.length) : l.getD i d = l[i] := by simp [List.getD_eq_getElem?_getD, h]
set_option maxHeartbeats 8000000 in
set_option maxRecDepth 100000 in
theorem same_walk : ∀ (N : Nat) (a b : S26) (ha : Sh a) (hn : cnt a ≤ N) (hN : N ≤ 1000000) (r : Bool) (hr : r = true ↔ a = b) (A3 : Option Addr) (c3 : Nat) (A4 : Option Addr) (c4 : Nat) (B3 : Option Addr) (d3 : Nat) (B4 : Option Addr) (d4 : Nat) (w : World)
    (h3 : Kd.C Kd.string w A3 a.f3.length a.f3) (l3 : a.f3.length ≤ c3) (h4 : Kd.C k26 w A4 a.f4.length a.f4) (l4 : a.f4.length ≤ c4) (g3 : Kd.C Kd.string w B3 b.f3.length b.f3) (m3 : b.f3.length ≤ d3) (g4 : Kd.C k26 w B4 b.f4.length b.f4) (m4 : b.f4.length ≤ d4),
    Calls Tryz.prog 14 #[.agg #[.int .i64 a.f0, .int .i64 a.f1, .string a.f2, .slice A3 a.f3.length c3, .slice A4 a.f4.length c4], .agg #[.int .i64 b.f0, .int .i64 b.f1, .string b.f2, .slice B3 b.f3.length d3, .slice B4 b.f4.length d4]] w fun e w' => e = .returned (.bool r) ∧ Below w.heap.size w w'
  | 0, a, b, ha, hn => by have := cnt_eq a; omega
  | N + 1, a, b, ha, hn => by
    intro hN r hr A3 c3 A4 c4 B3 d3 B4 d4 w h3 l3 h4 l4 g3 m3 g4 m4
    have IH := Aside0.mk (same_walk N)
    have hce := cnt_eq a
    have hcl := cnts_len a.f4
    have hkl := ha.len
    have HS := Aside0.mk (And.intro (show a.f3.length ≤ 1000000 ∧ a.f4.length ≤ 1000000 by omega) (show N ≤ 1000000 by omega))
    have HA := Aside0.mk ha
    have HCnt := Aside0.mk (show ∀ p ∈ a.f4, cnt p ≤ N from fun p hp => by have := cnts_le a.f4 p hp; omega)
    have HR := Aside0.mk hr
    have H3 := Aside0.mk h3
    have H4 := Aside0.mk h4
    have G3 := Aside0.mk g3
    have G4 := Aside0.mk g4
    obtain ⟨k, n, t, ks, ps⟩ := a
    obtain ⟨k', n', t', ks', ps'⟩ := b
    dsimp only at *
    clear hce hcl hkl ha hr hn hN h3 h4 g3 g4 l3 l4 m3 m4
    obtain ⟨x3, hx3⟩ : ∃ x, x = ks.length := ⟨_, rfl⟩
    obtain ⟨x4, hx4⟩ : ∃ x, x = ps.length := ⟨_, rfl⟩
    obtain ⟨y3, hy3⟩ : ∃ x, x = ks'.length := ⟨_, rfl⟩
    obtain ⟨y4, hy4⟩ : ∃ x, x = ps'.length := ⟨_, rfl⟩
    rw [← hx3] at H3 HS ⊢
    rw [← hx4] at H4 HS ⊢
    rw [← hy3] at G3 ⊢
    rw [← hy4] at G4 ⊢
    have HX := Aside0.mk (And.intro (And.intro hx3 hx4) (And.intro hy3 hy4))
    clear hx3 hx4 hy3 hy4
    go_enter Tryz.func14, Tryz.ntmps14
    go_upto_region 1 with (fail)
    obtain ⟨g, hg⟩ : ∃ g, g = w.heap.size := ⟨_, rfl⟩
    have hb1 : Below w.heap.size w (w.alloc (.cells #[.int .i64 k, .int .i64 n, .string t, .slice A3 x3 c3, .slice A4 x4 c4] 26)) := below_alloc (Below.refl _ _) _
    have hc1 := box_cells w #[.int .i64 k, .int .i64 n, .string t, .slice A3 x3 c3, .slice A4 x4 c4]
    have hs1 : (w.alloc (.cells #[.int .i64 k, .int .i64 n, .string t, .slice A3 x3 c3, .slice A4 x4 c4] 26)).heap.size = g + 1 := by rw [hg]; simp
    generalize w.alloc (.cells #[.int .i64 k, .int .i64 n, .string t, .slice A3 x3 c3, .slice A4 x4 c4] 26) = W0 at hb1 hc1 hs1 ⊢
    have hb2 : Below W0.heap.size W0 (W0.alloc (.cells #[.int .i64 k', .int .i64 n', .string t', .slice B3 y3 d3, .slice B4 y4 d4] 26)) := below_alloc (Below.refl _ _) _
    have hc2 := box_cells W0 #[.int .i64 k', .int .i64 n', .string t', .slice B3 y3 d3, .slice B4 y4 d4]
    have hs2 : (W0.alloc (.cells #[.int .i64 k', .int .i64 n', .string t', .slice B3 y3 d3, .slice B4 y4 d4] 26)).heap.size = g + 2 := by simp [hs1]
    generalize W0.alloc (.cells #[.int .i64 k', .int .i64 n', .string t', .slice B3 y3 d3, .slice B4 y4 d4] 26) = W1 at hb2 hc2 hs2 ⊢
    rw [← hg] at hc1 ⊢
    rw [hs1] at hc2
    have HB1 := Aside0.mk (show Below w.heap.size w W1 from hb1.trans (hb2.mono hb1.size))
    have HC1 := Aside0.mk (show ∀ (j : Nat) (u : Value), (#[.int .i64 k, .int .i64 n, .string t, .slice A3 x3 c3, .slice A4 x4 c4] : Array Value)[j]? = some u → W1.cell? ⟨g, j, none⟩ = some u from fun j u h => (hb2.cell (p := ⟨g, j, none⟩) (by show g < W0.heap.size; omega)).trans (hc1 j u h))
    have HC2 := Aside0.mk hc2
    have HZ := Aside0.mk (show g < W1.heap.size ∧ g + 1 < W1.heap.size by omega)
    have H3' := Aside0.mk (Kd.C_below H3.out HB1.out)
    have H4' := Aside0.mk (Kd.C_below H4.out HB1.out)
    have G3' := Aside0.mk (Kd.C_below G3.out HB1.out)
    have G4' := Aside0.mk (Kd.C_below G4.out HB1.out)
    clear hb1 hb2 hc1 hc2 hs1 hs2 hg H3 H4 G3 G4
    have p0 := HC1.out 0 _ rfl
    have p1 := HC1.out 1 _ rfl
    have p2 := HC1.out 2 _ rfl
    have p3 := HC1.out 3 _ rfl
    have p4 := HC1.out 4 _ rfl
    have q0 := HC2.out 0 _ rfl
    have q1 := HC2.out 1 _ rfl
    have q2 := HC2.out 2 _ rfl
    have q3 := HC2.out 3 _ rfl
    have q4 := HC2.out 4 _ rfl
    have hfin : ∀ (w1 : World), Below W1.heap.size W1 w1 → Below w.heap.size w w1 := fun w1 h => HB1.out.trans (h.mono HB1.out.size)
    by_cases e0 : k = k'
    rotate_left
    · have hz : r = false := by
        cases r with
        | false => rfl
        | true => have := HR.out.1 rfl; injection this with h0; exact absurd h0 e0
      subst hz
      have z0 : (k == k') = false := beq_eq_false_iff_ne.2 e0
      have z1 : (k != k') = true := bne_iff_ne.2 e0
      clear e0
      go_wp2
      go_ret
      exact ⟨rfl, HB1.out⟩
    have z0 : (k == k') = true := beq_iff_eq.2 e0
    have z0n : (k != k') = false := by rw [bne, z0]; rfl
    have E0 := Aside0.mk e0
    clear e0
    by_cases e1 : n = n'
    rotate_left
    · have hz : r = false := by
        cases r with
        | false => rfl
        | true => have := HR.out.1 rfl; injection this with h0 h1; exact absurd h1 e1
      subst hz
      have z2 : (n == n') = false := beq_eq_false_iff_ne.2 e1
      have z3 : (n != n') = true := bne_iff_ne.2 e1
      clear e1
      go_wp2
      go_ret
      exact ⟨rfl, HB1.out⟩
    have z1 : (n == n') = true := beq_iff_eq.2 e1
    have z1n : (n != n') = false := by rw [bne, z1]; rfl
    have E1 := Aside0.mk e1
    clear e1
    by_cases e2 : t = t'
    rotate_left
    · have hz : r = false := by
        cases r with
        | false => rfl
        | true => have := HR.out.1 rfl; injection this with h0 h1 h2; exact absurd h2 e2
      subst hz
      have z2 := bytes_ne e2
      have z3 : (t.toList != t'.toList) = true := by rw [bne, z2]; rfl
      clear e2
      go_wp2
      go_ret
      exact ⟨rfl, HB1.out⟩
    have z2 := bytes_eq e2
    have z2n : (t.toList != t'.toList) = false := by rw [bne, z2]; rfl
    have E2 := Aside0.mk e2
    clear e2
    by_cases e3 : x3 = y3
    rotate_left
    · have hz : r = false := by
        cases r with
        | false => rfl
        | true => have := HR.out.1 rfl; injection this with h0 h1 h2 h3; have := HX.out; exact absurd (by rw [HX.out.1.1, HX.out.2.1, h3]) e3
      subst hz
      have z3 : ((x3 : Int) == (y3 : Int)) = false := beq_eq_false_iff_ne.2 (by omega)
      have z4 : ((x3 : Int) != (y3 : Int)) = true := by rw [bne, z3]; rfl
      clear e3
      go_wp2
      go_ret
      exact ⟨rfl, HB1.out⟩
    have z3 : ((x3 : Int) == (y3 : Int)) = true := beq_iff_eq.2 (by omega)
    have z3n : ((x3 : Int) != (y3 : Int)) = false := by rw [bne, z3]; rfl
    have E3 := Aside0.mk e3
    clear e3
    by_cases e4 : x4 = y4
    rotate_left
    · have hz : r = false := by
        cases r with
        | false => rfl
        | true => have := HR.out.1 rfl; injection this with h0 h1 h2 h3 h4; have := HX.out; exact absurd (by rw [HX.out.1.2, HX.out.2.2, h4]) e4
      subst hz
      have z4 : ((x4 : Int) == (y4 : Int)) = false := beq_eq_false_iff_ne.2 (by omega)
      have z5 : ((x4 : Int) != (y4 : Int)) = true := by rw [bne, z4]; rfl
      clear e4
      go_wp2
      go_ret
      exact ⟨rfl, HB1.out⟩
    have z4 : ((x4 : Int) == (y4 : Int)) = true := beq_iff_eq.2 (by omega)
    have z4n : ((x4 : Int) != (y4 : Int)) = false := by rw [bne, z4]; rfl
    have E4 := Aside0.mk e4
    clear e4
    go_upto_region 3 with (fail)
    clear p0 p1 p2 p3 p4 q0 q1 q2 q3 q4 z0 z0n z1 z1n z2 z2n z3 z3n z4 z4n
    go_wp2
    go_loopg [5] x3 (fun kq v5 wr => ∃ (i : Nat), v5 = .int .i64 i ∧ Aside0 (kq + i = x3) ∧ Aside0 (∀ j, j < i → ks.getD j ⟨#[]⟩ = ks'.getD j ⟨#[]⟩) ∧ Aside0 (Below W1.heap.size W1 wr))
    case atStart => exact ⟨0, rfl, ⟨by omega⟩, ⟨fun j h => absurd h (Nat.not_lt_zero _)⟩, ⟨Below.refl _ _⟩⟩
    case round =>
      obtain ⟨i, rfl, hK, hSo, hW⟩ := hrel
      have p3 := (hW.out.cell (p := ⟨g, 3, none⟩) HZ.out.1).trans (HC1.out 3 _ rfl)
      have q3 := (hW.out.cell (p := ⟨g + 1, 3, none⟩) HZ.out.2).trans (HC2.out 3 _ rfl)
      have HBr := Aside0.mk hW.out
      by_cases hlt : i < x3
      · have hi1 : (i : Int) < (x3 : Int) := by omega
        have hi1' : (i : Int) < (y3 : Int) := by have := E3.out; omega
        have hi0 : (0 : Int) ≤ (i : Int) := by omega
        have hwi : IntKind.i64.wrap ((i : Int) + 1) = (i : Int) + 1 := by have := HS.out; rw [IntKind.wrap_i64]; omega
        have h3 := Kd.C_below H3'.out hW.out
        have g3 := Kd.C_below G3'.out hW.out
        obtain ⟨ka, e1, k1⟩ := Kd.at_string h3 (i : Int) hi0 hi1
        obtain ⟨kb, e2, k2⟩ := Kd.at_string g3 (i : Int) hi0 hi1'
        subst e1 e2
        rw [Int.toNat_natCast] at k1 k2
        have hu1 : ks.getD i ⟨#[]⟩ = rdOf ByteArray.empty ks (i : Int) := by unfold rdOf; rw [Int.toNat_natCast]; rfl
        have hu2 : ks'.getD i ⟨#[]⟩ = rdOf ByteArray.empty ks' (i : Int) := by unfold rdOf; rw [Int.toNat_natCast]; rfl
        generalize rdOf ByteArray.empty ks (i : Int) = u1 at k1 hu1
        generalize rdOf ByteArray.empty ks' (i : Int) = u2 at k2 hu2
        have HU := Aside0.mk (And.intro hu1 hu2)
        clear h3 g3 hu1 hu2
        by_cases heq : u1 = u2
        · have z0 := bytes_eq heq
          have z1 : (u1.toList != u2.toList) = false := by rw [bne, z0]; rfl
          have HEq := Aside0.mk heq
          clear heq
          go_upto_region 6 with (fail)
          go_quiet (fail)
          go_wp2
          go_roundg (gk - 1)
          case measure => have := hK.out; omega
          case rel =>
            refine ⟨i + 1, by go_num, ⟨by have := hK.out; omega⟩, ⟨fun j hj => ?_⟩, ⟨HBr.out.trans ((below_drewNg _ _).mono HBr.out.size)⟩⟩
            by_cases hji : j = i
            · rw [hji, HU.out.1, HU.out.2, HEq.out]
            · exact hSo.out j (by omega)
        · have hz : r = false := by
            cases r with
            | false => rfl
            | true =>
              have h := HR.out.1 rfl
              injection h with h0 h1 h2 h3 h4
              exact absurd (by rw [← HU.out.1, ← HU.out.2, h3]) heq
          have z0 := bytes_ne heq
          have z1 : (u1.toList != u2.toList) = true := by rw [bne, z0]; rfl
          subst hz
          clear heq
          go_upto_region 6 with (fail)
          go_quiet (fail)
          go_wp2
          go_ret
          exact ⟨rfl, hfin _ (HBr.out.trans ((below_drewNg _ _).mono HBr.out.size))⟩
      · have hib : ¬ (i : Int) < (x3 : Int) := by omega
        have hks : ks = ks' := by
          have hl : ks.length = ks'.length := by rw [← HX.out.1.1, ← HX.out.2.1]; exact E3.out
          refine List.ext_getElem hl (fun j h1 h2 => ?_)
          have := hSo.out j (by have := HX.out.1.1; omega)
          rw [getD_at _ _ _ h1, getD_at _ _ _ h2] at this
          exact this
        have HKs := Aside0.mk hks
        clear hks hlt
        go_upto_region 8 with (fail)
        clear p3 q3
        go_wp2
        go_loopg [6] x4 (fun kq v6 wr' => ∃ (i : Nat), v6 = .int .i64 i ∧ Aside0 (kq + i = x4) ∧ Aside0 (∀ j (h : j < ps.length) (h' : j < ps'.length), j < i → ps[j] = ps'[j]) ∧ Aside0 (Below W1.heap.size W1 wr'))
        case atStart => exact ⟨0, rfl, ⟨by omega⟩, ⟨fun j _ _ h => absurd h (Nat.not_lt_zero _)⟩, ⟨HBr.out⟩⟩
        case round =>
          obtain ⟨j, rfl, hK2, hSo2, hW2⟩ := hrel
          have p4 := (hW2.out.cell (p := ⟨g, 4, none⟩) HZ.out.1).trans (HC1.out 4 _ rfl)
          have q4 := (hW2.out.cell (p := ⟨g + 1, 4, none⟩) HZ.out.2).trans (HC2.out 4 _ rfl)
          have HBr2 := Aside0.mk hW2.out
          clear hib
          by_cases hlt : j < x4
          · have hi1 : (j : Int) < (x4 : Int) := by omega
            have hi1' : (j : Int) < (y4 : Int) := by have := E4.out; omega
            have hi0 : (0 : Int) ≤ (j : Int) := by omega
            have hwi : IntKind.i64.wrap ((j : Int) + 1) = (j : Int) + 1 := by have := HS.out; rw [IntKind.wrap_i64]; omega
            have hj1 : j < ps.length := by have := HX.out.1.2; omega
            have hj2 : j < ps'.length := by have := HX.out.2.2; have := E4.out; omega
            have h4 := Kd.C_below H4'.out hW2.out
            have g4 := Kd.C_below G4'.out hW2.out
            obtain ⟨ad, Q3, s3, Q4, s4, hA4, a0, a1, a2, a3, a4, b3, f3, b4, f4⟩ := at_T26 h4 (j : Int) hi0 hi1
            obtain ⟨ad', Q3', s3', Q4', s4', hA4', a0', a1', a2', a3', a4', b3', f3', b4', f4'⟩ := at_T26 g4 (j : Int) hi0 hi1'
            subst hA4 hA4'
            rw [rd_at ps j hj1] at a0 a1 a2 a3 a4 b3 f3 b4 f4
            rw [rd_at ps' j hj2] at a0' a1' a2' a3' a4' b3' f3' b4' f4'
            rw [Int.toNat_natCast] at a0 a1 a2 a3 a4 a0' a1' a2' a3' a4'
            have HPc := Aside0.mk (And.intro (HA.out.part (List.getElem_mem hj1)) (HCnt.out _ (List.getElem_mem hj1)))
            generalize hp : ps[j] = p at HPc a0 a1 a2 a3 a4 b3 f3 b4 f4
            generalize hp' : ps'[j] = p' at a0' a1' a2' a3' a4' b3' f3' b4' f4'
            have HU := Aside0.mk (show ∀ (h : j < ps.length) (h' : j < ps'.length), ps[j] = p ∧ ps'[j] = p' from fun _ _ => ⟨hp, hp'⟩)
            obtain ⟨r2, hr2⟩ : ∃ r2 : Bool, r2 = true ↔ p = p' := by
              by_cases h : p = p'
              · exact ⟨true, ⟨fun _ => h, fun _ => rfl⟩⟩
              · exact ⟨false, ⟨(fun h => by cases h), fun h2 => absurd h2 h⟩⟩
            have HR2 := Aside0.mk hr2
            have HCall := Aside0.mk (fun (w' : World) (hw : Below wr.heap.size wr w') => IH.out p p' HPc.out.1 HPc.out.2 HS.out.2 r2 hr2 Q3 s3 Q4 s4 Q3' s3' Q4' s4' w' (Kd.C_below f3 hw) b3 (Kd.C_below f4 hw) b4 (Kd.C_below f3' hw) b3' (Kd.C_below f4' hw) b4')
            obtain ⟨P0, P1, P2, P3, P4⟩ := p
            obtain ⟨R0, R1, R2, R3, R4⟩ := p'
            dsimp only at a0 a1 a2 a3 a4 a0' a1' a2' a3' a4' HCall
            clear hp hp' hr2 h4 g4 f3 f4 f3' f4' b3 b4 b3' b4' HPc hj1 hj2 hlt
            obtain ⟨n3, hn3⟩ : ∃ x, x = P3.length := ⟨_, rfl⟩
            obtain ⟨n4, hn4⟩ : ∃ x, x = P4.length := ⟨_, rfl⟩
            obtain ⟨n3', hn3'⟩ : ∃ x, x = R3.length := ⟨_, rfl⟩
            obtain ⟨n4', hn4'⟩ : ∃ x, x = R4.length := ⟨_, rfl⟩
            rw [← hn3] at a3 HCall
            rw [← hn4] at a4 HCall
            rw [← hn3'] at a3' HCall
            rw [← hn4'] at a4' HCall
            clear hn3 hn4 hn3' hn4'
            have HAll := Aside0.mk (And.intro p4 (And.intro q4 (And.intro a0 (And.intro a1 (And.intro a2 (And.intro a3 (And.intro a4 (And.intro a0' (And.intro a1' (And.intro a2' (And.intro a3' a4')))))))))))
            clear a0 a1 a2 a3 a4 a0' a1' a2' a3' a4'
            cases r2 with
            | true =>
              go_wp2
              go_region_held3 (fun x => x.cell? ⟨g, 4, none⟩ = some (.slice (some ad) x4 c4) ∧ x.cell? ⟨g + 1, 4, none⟩ = some (.slice (some ad') y4 d4) ∧ x.cell? (ad.add (j * 5)) = some (.int .i64 P0) ∧ x.cell? ⟨(ad.add (j * 5)).block, (ad.add (j * 5)).off + 1, none⟩ = some (.int .i64 P1) ∧ x.cell? ⟨(ad.add (j * 5)).block, (ad.add (j * 5)).off + 2, none⟩ = some (.string P2) ∧ x.cell? ⟨(ad.add (j * 5)).block, (ad.add (j * 5)).off + 3, none⟩ = some (.slice Q3 n3 s3) ∧ x.cell? ⟨(ad.add (j * 5)).block, (ad.add (j * 5)).off + 4, none⟩ = some (.slice Q4 n4 s4) ∧ x.cell? (ad'.add (j * 5)) = some (.int .i64 R0) ∧ x.cell? ⟨(ad'.add (j * 5)).block, (ad'.add (j * 5)).off + 1, none⟩ = some (.int .i64 R1) ∧ x.cell? ⟨(ad'.add (j * 5)).block, (ad'.add (j * 5)).off + 2, none⟩ = some (.string R2) ∧ x.cell? ⟨(ad'.add (j * 5)).block, (ad'.add (j * 5)).off + 3, none⟩ = some (.slice Q3' n3' s3') ∧ x.cell? ⟨(ad'.add (j * 5)).block, (ad'.add (j * 5)).off + 4, none⟩ = some (.slice Q4' n4' s4')) (first | exact HAll.out | exact HAll2.out) (first | (go_at_call 14; refine (HCall.out _ ((Below.refl _ _).drew)).mono ?_; rintro e w2 ⟨rfl, hb⟩; have HB2 := Aside0.mk (below_undrew hb); have HAll2 := Aside0.mk (all12 HAll.out HB2.out); clear hb))
              have HBn := Aside0.mk (HBr2.out.trans (HB2.out.mono HBr2.out.size))
              go_wp2
              go_roundg (gk - 1)
              case measure => have := hK2.out; omega
              case rel =>
                refine ⟨j + 1, by go_num, ⟨by have := hK2.out; omega⟩, ⟨fun q h h' hq => ?_⟩, HBn⟩
                by_cases hqj : q = j
                · subst hqj
                  rw [(HU.out h h').1, (HU.out h h').2, HR2.out.1 (by first | rfl | trivial)]
                · exact hSo2.out q h h' (by omega)
            | false =>
              have hz : r = false := by
                cases r with
                | false => rfl
                | true =>
                  have h := HR.out.1 rfl
                  injection h with h0 h1 h2 h3 h4
                  have hj1 : j < ps.length := by have := HX.out.1.2; omega
                  have hj2 : j < ps'.length := by have := HX.out.2.2; have := E4.out; omega
                  have h5 := HU.out hj1 hj2
                  have h6 : ps[j] = ps'[j] := by simp only [h4]
                  rw [h5.1, h5.2] at h6
                  exact absurd (HR2.out.2 h6) (by decide)
              subst hz
              go_wp2
              go_region_held3 (fun x => x.cell? ⟨g, 4, none⟩ = some (.slice (some ad) x4 c4) ∧ x.cell? ⟨g + 1, 4, none⟩ = some (.slice (some ad') y4 d4) ∧ x.cell? (ad.add (j * 5)) = some (.int .i64 P0) ∧ x.cell? ⟨(ad.add (j * 5)).block, (ad.add (j * 5)).off + 1, none⟩ = some (.int .i64 P1) ∧ x.cell? ⟨(ad.add (j * 5)).block, (ad.add (j * 5)).off + 2, none⟩ = some (.string P2) ∧ x.cell? ⟨(ad.add (j * 5)).block, (ad.add (j * 5)).off + 3, none⟩ = some (.slice Q3 n3 s3) ∧ x.cell? ⟨(ad.add (j * 5)).block, (ad.add (j * 5)).off + 4, none⟩ = some (.slice Q4 n4 s4) ∧ x.cell? (ad'.add (j * 5)) = some (.int .i64 R0) ∧ x.cell? ⟨(ad'.add (j * 5)).block, (ad'.add (j * 5)).off + 1, none⟩ = some (.int .i64 R1) ∧ x.cell? ⟨(ad'.add (j * 5)).block, (ad'.add (j * 5)).off + 2, none⟩ = some (.string R2) ∧ x.cell? ⟨(ad'.add (j * 5)).block, (ad'.add (j * 5)).off + 3, none⟩ = some (.slice Q3' n3' s3') ∧ x.cell? ⟨(ad'.add (j * 5)).block, (ad'.add (j * 5)).off + 4, none⟩ = some (.slice Q4' n4' s4')) (first | exact HAll.out | exact HAll2.out) (first | (go_at_call 14; refine (HCall.out _ ((Below.refl _ _).drew)).mono ?_; rintro e w2 ⟨rfl, hb⟩; have HB2 := Aside0.mk (below_undrew hb); have HAll2 := Aside0.mk (all12 HAll.out HB2.out); clear hb))
              have HBn := Aside0.mk (HBr2.out.trans (HB2.out.mono HBr2.out.size))
              go_wp2
              go_ret
              exact ⟨rfl, hfin _ HBn.out⟩
          · have hib : ¬ (j : Int) < (x4 : Int) := by omega
            have hz : r = true := by
              refine HR.out.2 ?_
              have hl : ps.length = ps'.length := by rw [← HX.out.1.2, ← HX.out.2.2]; exact E4.out
              have hps : ps = ps' := List.ext_getElem hl (fun q h1 h2 => hSo2.out q h1 h2 (by have := HX.out.1.2; omega))
              rw [E0.out, E1.out, E2.out, HKs.out, hps]
            subst hz
            clear hlt
            go_wp2
            go_ret
            exact ⟨rfl, hfin _ HBr2.out⟩

end Go.Proofs.YtmhfkbgdkgfafaaGreatDoor.Js
