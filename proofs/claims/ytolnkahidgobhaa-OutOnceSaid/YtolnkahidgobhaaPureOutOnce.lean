/- OutOnce: its walk straight to its answer, true. -/
import Derived.Test.YtolnkahidgobhaaOnceMath
import Derived.Test.YtolnkahidgobhaaQOutx2
namespace Go.Proofs.Ytolnkahidgobhaa.Pure
open Go.RowKit Go.Proofs.Ytolnkahidgobhaa.QOut Go.Proofs.Ytolnkahidgobhaa.Out Go.Proofs.YtolnkahidgobhaaW.PrintWords Go.Proofs.YtolnkahidgobhaaW.PrintLast Go.Proofs.YtolnkahidgobhaaW.PrintMore
set_option linter.unusedVariables false
set_option linter.unusedSimpArgs false

theorem same_loop2 (x : List ByteArray) (hx : x.length ≤ 1000) : ∀ (d i k : Nat), i + d = x.length → d < k → bagnallkeep_sameTexts.l0 k x x i = some true := by
  intro d
  induction d with
  | zero =>
    intro i k hd hk
    obtain ⟨k, rfl⟩ : ∃ m, k = m + 1 := ⟨k - 1, by omega⟩
    rw [bagnallkeep_sameTexts.l0, if_neg (by omega)]
  | succ d ih =>
    intro i k hd hk
    obtain ⟨k, rfl⟩ : ∃ m, k = m + 1 := ⟨k - 1, by omega⟩
    rw [bagnallkeep_sameTexts.l0, if_pos (by omega), if_pos (by omega), if_pos (by omega), if_pos rfl, wrap_in (by omega) (by omega)]
    exact ih (i + 1) k (by omega) (by omega)
theorem same_calls (A0 A1 : Option Addr) (c0 c1 : Nat) (x y : List ByteArray) (w : World) (h0 : Kd.string.C w A0 x.length x) (k0 : x.length ≤ c0) (h1 : Kd.string.C w A1 y.length y) (k1 : y.length ≤ c1) (hx : x.length ≤ 1000) (he : x = y) :
    Calls Try.prog 20 #[.slice A0 x.length c0, .slice A1 y.length c1] w fun e w' => e = .returned (.bool true) ∧ Drawn0 w w' := by
  subst he
  refine bagnallkeep_sameTexts.calls 1001 A0 c0 x A1 c1 x true w h0 k0 h1 k1 ?_
  unfold bagnallkeep_sameTexts.f
  rw [if_pos rfl]
  exact same_loop2 x hx x.length 0 1001 (by omega) (by omega)

set_option maxRecDepth 100000 in
set_option maxHeartbeats 8000000 in
theorem once_walk (A0 : Option Addr) (c0 : Nat) (l : List Int) (w : World) (hr : Kd.C (Kd.int .i64) w A0 l.length l) (hc : l.length ≤ c0) (hl : l.length * 8 ≤ 140737488351232) :
    Calls Try.prog 8 #[.slice A0 l.length c0] w fun e w' => e = .returned (.bool true) ∧ Below w.heap.size w w' := by
  have hu36 := Try.underlying36
  have hu38 := Try.underlying38
  have hu41 := Try.underlying41
  have hu43 := Try.underlying43
  have hu45 := Try.underlying45
  have hT := Turns_tells l 90 hl (by decide)
  have hF := turns_fine (l.take (90 : Int).toNat) 1
  have hlen := turns_length (l.take (90 : Int).toNat) 1
  have h90 : (turns (l.take (90 : Int).toNat) 1).length ≤ 90 := by rw [hlen, List.length_take]; exact Nat.min_le_left _ _
  obtain ⟨ts, hts⟩ : ∃ ts, ts = turns (l.take (90 : Int).toNat) 1 := ⟨_, rfl⟩
  rw [← hts] at hT hF h90
  have hO := outOf_tells ts (by omega) (fun m hm => (hF m hm).size)
  have hrl := run_length ts st0
  obtain ⟨S, hS⟩ : ∃ S, S = run ts st0 := ⟨_, rfl⟩
  rw [← hS] at hO hrl
  have HS := Aside0.mk hS
  have HF := Aside0.mk hF
  have HN := Aside0.mk h90
  have HRl := Aside0.mk hrl
  have HO := Aside0.mk hO
  have HT := Aside0.mk hT
  have HR := Aside0.mk hr
  have HC := Aside0.mk hc
  clear hts hlen hT hF hO hS hr hc hl h90 hrl
  go_enter Try.func8, Try.ntmps8
  go_upto_region 2 with (go_at_call 18; refine (bagnallkeep_Turns.calls A0 c0 l 90 ts w HR.out HC.out HT.out).mono ?_; rintro e w1 ⟨v0, rfl, h1, hb⟩; obtain ⟨A3, c3, rfl, _, _⟩ := Kd.R_reads h1; have HR3 := Aside0.mk h1; have S0 := Aside0.mk hb; clear hb h1)
  go_upto_region 3 with (go_at_call 19; refine (bagnallkeep_outOf.calls A3 c3 ts S true w1 (Kd.R_reads' HR3.out).2.2 (Kd.R_reads' HR3.out).2.1 HO.out).mono ?_; rintro e w2 ⟨v0, rfl, h1, hb⟩; obtain ⟨A4, c4, rfl⟩ := Kd.S_slice h1; have HC4 := Aside0.mk (Kd.S_reads' h1).2.2; have HC3 := Aside0.mk (Kd.C_below (Kd.R_reads' HR3.out).2.2 hb); have S1 := Aside0.mk (below_step S0.out hb); clear hb h1)
  clear HR3 HO HT S0
  go_wp2
  go_loopg [6, 7, 8, 9, 10, 11] (ts.length) (fun kq v6 v7 v8 v9 v10 v11 wr => ∃ (i : Nat) (P Q L : List ByteArray) (b : Int) (d : Bool) (A8 : Option Addr) (c8 : Nat), v11 = .int .i64 i ∧ v9 = .int .i64 b ∧ v10 = .bool d ∧ v8 = .slice A8 L.length c8 ∧ Aside0 (kq + i = ts.length) ∧ Aside0 (P.length ≤ i ∧ Q.length ≤ 4 * i ∧ L.length ≤ 4) ∧ Aside0 (Sees P Q L b d (after (ts.take i) st0)) ∧ Aside0 (Kd.string.R 9 wr w2.heap.size (fun k => True ∧ some k ≠ v7.ownBlock) v6 P) ∧ Aside0 (Kd.string.R 9 wr w2.heap.size (fun k => True ∧ some k ≠ v6.ownBlock) v7 Q) ∧ Aside0 (L.length ≤ c8 ∧ Kd.string.C w2 A8 L.length L) ∧ Aside0 (Below w2.heap.size w2 wr))
  case atStart => exact ⟨0, [], [], [], 0, true, none, 0, rfl, rfl, rfl, rfl, ⟨by omega⟩, ⟨by simp⟩, ⟨Sees.first⟩, ⟨Kd.R_nil _ _ _ _ _⟩, ⟨Kd.R_nil _ _ _ _ _⟩, ⟨⟨Nat.le_refl _, Kd.C_nil _ _⟩⟩, ⟨Below.refl _ _⟩⟩
  case round =>
    obtain ⟨i, P, Q, L, b, d, A8, c8, rfl, rfl, rfl, rfl, hK, hLe, hSe, hP, hQ, hL, hB⟩ := hrel
    obtain ⟨A6, c6, rfl, hp0, _⟩ := Kd.R_reads hP.out
    obtain ⟨A7, c7, rfl, hq0, _⟩ := Kd.R_reads hQ.out
    by_cases hlt : i < ts.length
    · have hi1 : (i : Int) < (ts.length : Int) := by omega
      have hi0 : (0 : Int) ≤ (i : Int) := by omega
      have hi2 : (i : Int) < (S.length : Int) := by rw [HRl.out]; exact hi1
      have hwi : IntKind.i64.wrap ((i : Int) + 1) = (i : Int) + 1 := by have h1 := HN.out; rw [IntKind.wrap_i64]; omega
      obtain ⟨ad3, rfl, hx0, hx1, hx2⟩ := at_T43 HC3.out (i : Int) hi0 hi1
      obtain ⟨ad4, A9, c9, rfl, hy0, hy1, hy2, hyc, hyC⟩ := at_T45 HC4.out (i : Int) hi0 hi2
      have hft := HF.out _ (List.getElem_mem hlt)
      have hI := Inv_after (ts.take i) 0 st0 Inv.first
      rw [List.length_take, Nat.min_eq_left (by omega)] at hI
      have h43 := rd43 ts i hlt
      have h45 := rd45 ts st0 i hlt
      rw [← HS.out] at h45
      have hround := sees_round ts[i] hSe.out hI hft
      rw [← h45, ← after_succ ts st0 i hlt] at hround
      rw [h43] at hx0 hx1 hx2
      rw [Int.toNat_natCast] at hx0 hx1 hx2 hy0 hy1 hy2
      generalize rd_T45 S (i : Int) = r at hround hy0 hy1 hy2 hyc hyC
      generalize ts[i] = t at hround hx0 hx1 hx2
      have hbb : 0 ≤ b ∧ b ≤ 90 := by have h1 := hSe.out.batch; have h2 := hI.batch; have h3 := HN.out; omega
      clear h43 h45 hft hI hSe
      have kx0 := pw_cell_below hB.out hx0
      have kx1 := pw_cell_below hB.out hx1
      have kx2 := pw_cell_below hB.out hx2
      have ky0 := pw_cell_below hB.out hy0
      have ky1 := pw_cell_below hB.out hy1
      have ky2 := pw_cell_below hB.out hy2
      have HY := Aside0.mk (And.intro hyc hyC)
      have HXY := Aside0.mk (And.intro hx0 hy1)
      have HLe := hLe
      clear hx0 hx1 hx2 hy0 hy1 hy2 hyc hyC hLe
      obtain ⟨t0, t1, t2⟩ := t
      obtain ⟨r0, r1, r2⟩ := r
      dsimp only at *
      rcases hround with ⟨e1, e2, e3, hs⟩ | ⟨n1, e3, n2, hs⟩ | ⟨e1, e2, e3, e4, e5, hs⟩ | ⟨n1, e3, n3, g1, g2, e5, e6, hs⟩ | ⟨n1, e3, n3, g1, g2, e5, hs⟩
      · dsimp only at e1 e2 e3 hs
        subst e1 e2 e3
        have HSe := Aside0.mk hs
        clear hs
        go_wp2_with ((with_reducible refine gate_builtin (b := .append) (xs := #[.tmp 42, .tmp 48]) rfl ?_); at_builtin; (refine Kd.R_append Kd.string (w0 := w2) w2.heap.size rfl (.tmp 42) (.tmp 48) 41 9 (.string ⟨#[]⟩) 16 rfl Try.underlying41 Out.info9 rfl (by decide) (by omega) (.slice A6 P.length c6) P t1 [.string t1] (fun k => True ∧ some k ≠ (Value.slice A7 Q.length c7).ownBlock) (fun _ => False) rfl rfl rfl (fun _ h => h.elim) (fun k hk => ⟨trivial, Kd.fresh' (Kd.R_lt hQ.out) k hk⟩) hP.out hB.out hB.out.size (by have h1 := HLe.out; have h2 := HN.out; omega) ?_); intro v1 wa ho hb hg hat; (obtain ⟨Aa, ca, rfl⟩ := Kd.R_slice ho; have n1 := Aside0.mk ho; have n2 := Aside0.mk (Kd.R_after hQ.out hg hat)); have n3 := Aside0.mk hb; clear hP hQ hB; have hP := n1; have hQ := n2; have hB := n3; clear n1 n2 n3 ho hb hg hat; have kx0 := pw_cell_below hB.out HXY.out.1; have ky1 := pw_cell_below hB.out HXY.out.2)
        go_roundg (gk - 1)
        case measure => have := hK.out; omega
        case rel => exact ⟨i + 1, P ++ [t1], Q, L, b, d, A8, c8, by go_num, rfl, rfl, rfl, ⟨by have := hK.out; omega⟩, ⟨by have := HLe.out; simp only [List.length_append, List.length_cons, List.length_nil]; omega⟩, ⟨HSe.out⟩, ⟨by have h := hP.out; rw [List.length_append] at h; exact h⟩, ⟨by have h := hQ.out; rw [List.length_append] at h; exact h⟩, hL, hB⟩
      · dsimp only at n1 e3 n2 hs
        subst e3
        have HSe := Aside0.mk hs
        clear hs
        by_cases h1 : t0 = 1
        · have f1 : (r0 == 0) = false := beq_eq_false_iff_ne.2 (fun e => n1 ⟨h1, e⟩)
          subst h1
          clear n1 n2
          go_wp2
          go_roundg (gk - 1)
          case measure => have := hK.out; omega
          case rel => exact ⟨i + 1, P, Q, L, b, d, A8, c8, by go_num, rfl, rfl, rfl, ⟨by have := hK.out; omega⟩, ⟨by have := HLe.out; omega⟩, ⟨HSe.out⟩, hP, hQ, hL, hB⟩

        · have f1 : (t0 == 1) = false := beq_eq_false_iff_ne.2 h1
          by_cases h3 : t0 = 3
          · have f2 : (r0 == 0) = false := beq_eq_false_iff_ne.2 (fun e => n2 ⟨h3, e⟩)
            subst h3
            clear n1 n2 h1 f1
            go_wp2
            go_roundg (gk - 1)
            case measure => have := hK.out; omega
            case rel => exact ⟨i + 1, P, Q, L, b, d, A8, c8, by go_num, rfl, rfl, rfl, ⟨by have := hK.out; omega⟩, ⟨by have := HLe.out; omega⟩, ⟨HSe.out⟩, hP, hQ, hL, hB⟩

          · have f2 : (t0 == 3) = false := beq_eq_false_iff_ne.2 h3
            clear n1 n2 h1 h3
            go_wp2
            go_roundg (gk - 1)
            case measure => have := hK.out; omega
            case rel => exact ⟨i + 1, P, Q, L, b, d, A8, c8, by go_num, rfl, rfl, rfl, ⟨by have := hK.out; omega⟩, ⟨by have := HLe.out; omega⟩, ⟨HSe.out⟩, hP, hQ, hL, hB⟩

      · dsimp only at e1 e2 e3 e4 e5 hs
        subst e1 e2 e3 e4 e5
        have HSe := Aside0.mk hs
        clear hs
        go_wp2
        go_roundg (gk - 1)
        case measure => have := hK.out; omega
        case rel => exact ⟨i + 1, P, Q, L, t2, true, A8, c8, by go_num, rfl, rfl, rfl, ⟨by have := hK.out; omega⟩, ⟨by have := HLe.out; omega⟩, ⟨HSe.out⟩, hP, hQ, hL, hB⟩

      · dsimp only at n1 e3 n3 g1 g2 e5 e6 hs
        subst e3 e5
        have f1 : (t0 == 1) = false := beq_eq_false_iff_ne.2 n1
        have f2 : (r1 == 0) = false := beq_eq_false_iff_ne.2 n3
        have f3 : decide ((r2.length : Int) < 1) = false := decide_eq_false (by omega)
        have f4 : decide ((4 : Int) < (r2.length : Int)) = false := decide_eq_false (by omega)
        have HSe := Aside0.mk hs
        have HEq := Aside0.mk e6
        have HL1 := Aside0.mk (show L.length ≤ 1000 by have := HLe.out; omega)
        clear hs e6 n1 n3
        go_wp2_with (go_at_call 20; refine (same_calls _ _ _ _ L r2 wr (Kd.C_below hL.out.2 hB.out) hL.out.1 (Kd.C_below HY.out.2 hB.out) HY.out.1 HL1.out HEq.out).mono ?_; rintro e w5 ⟨rfl, ⟨m1, rfl⟩⟩)
        go_roundg (gk - 1)
        case measure => have := hK.out; omega
        case rel => exact ⟨i + 1, P, Q, L, r1, false, A8, c8, by go_num, rfl, rfl, rfl, ⟨by have := hK.out; omega⟩, ⟨by have := HLe.out; omega⟩, ⟨HSe.out⟩, ⟨Kd.R_drewN hP.out _⟩, ⟨Kd.R_drewN hQ.out _⟩, hL, ⟨pw_below_drewN hB.out _⟩⟩

      · dsimp only at n1 e3 n3 g1 g2 e5 hs
        subst e5
        have f1 : (t0 == 1) = false := beq_eq_false_iff_ne.2 n1
        have f2 : (r1 == 0) = false := beq_eq_false_iff_ne.2 n3
        have f3 : decide ((r2.length : Int) < 1) = false := decide_eq_false (by omega)
        have f4 : decide ((4 : Int) < (r2.length : Int)) = false := decide_eq_false (by omega)
        have f5 : (r1 == b) = false := beq_eq_false_iff_ne.2 (by omega)
        have f6 : IntKind.i64.wrap (b + 1) = r1 := by rw [IntKind.wrap_i64]; omega
        have HSe := Aside0.mk hs
        clear hs n1 n3 e3
        go_wp2_with ((with_reducible refine gate_builtin (b := .append) (xs := #[.tmp 132, .tmp 133]) rfl ?_); at_builtin; refine Kd.R_append_rows Kd.string (w0 := w2) w2.heap.size rfl (.tmp 132) (.tmp 133) 41 9 (.string ⟨#[]⟩) 16 rfl Try.underlying41 Out.info9 rfl (by decide) (by omega) (.slice A7 Q.length c7) Q r2 _ _ _ (fun k => True ∧ some k ≠ (Value.slice A6 P.length c6).ownBlock) (fun _ => False) rfl rfl hQ.out (Kd.C_below HY.out.2 hB.out) (fun x cs h => h) (fun _ h => h.elim) (fun k hk => ⟨trivial, Kd.fresh' (Kd.R_lt hP.out) k hk⟩) hB.out hB.out.size (by have h1 := HLe.out; have h2 := HN.out; omega) ?_; intro v1 wa ho hb hg hat; obtain ⟨Aa, ca, rfl⟩ := Kd.R_slice ho; have n1 := Aside0.mk ho; have n2 := Aside0.mk (Kd.R_after hP.out hg hat); have n3 := Aside0.mk hb; clear hP hQ hB; have hQ := n1; have hP := n2; have hB := n3; clear n1 n2 n3 ho hb hg hat)
        go_roundg (gk - 1)
        case measure => have := hK.out; omega
        case rel => exact ⟨i + 1, P, Q ++ r2, r2, r1, false, A9, c9, by go_num, rfl, rfl, rfl, ⟨by have := hK.out; omega⟩, ⟨by have := HLe.out; simp only [List.length_append]; omega⟩, ⟨HSe.out⟩, ⟨by have h := hP.out; rw [List.length_append] at h; exact h⟩, ⟨by have h := hQ.out; rw [List.length_append] at h; exact h⟩, HY, hB⟩

    · have hil : i = ts.length := by have := hK.out; omega
      obtain ⟨hend1, hend2⟩ := hSe.out.ends
      have hq1 : decide ((Q.length : Int) ≤ (P.length : Int)) = true := decide_eq_true (by omega)
      have HT2 := Aside0.mk (Kd.C_take (Kd.R_reads' hP.out).2.2 hend1)
      have HE2 := Aside0.mk hend2
      have hb1 := decide_eq_false (show ¬ (i : Int) < (ts.length : Int) by omega)
      have HQl := Aside0.mk (show Q.length ≤ 1000 by have := hLe.out; have := HN.out; omega)
      have hqc : (Q.length : Int) ≤ (c6 : Int) := by omega
      have hq0 : (0 : Int) ≤ (Q.length : Int) := by omega
      rw [hend2] at HT2
      clear hil
      go_wp2_with (go_at_call 20; refine (same_calls _ _ _ _ Q Q wr (Kd.R_reads' hQ.out).2.2 (Kd.R_reads' hQ.out).2.1 HT2.out (by omega) HQl.out rfl).mono ?_; rintro e w5 ⟨rfl, ⟨m1, rfl⟩⟩)
      go_ret
      exact ⟨rfl, pw_below_drewN (below_step S1.out hB.out) _⟩

theorem once_row (a0 : Option Addr) (len0 cap0 : Nat) (z0 : List Int) (w : World) (w0 : (a0 = none ∧ len0 = 0 ∧ cap0 = 0 ∧ z0 = []) ∨ ∃ x, a0 = some x ∧ len0 ≤ cap0 ∧ cap0 ≤ maxLen ∧ z0.length = cap0 ∧ (∀ i, i < z0.length → w.cell? (x.add i) = some (.int .i64 (z0.getD i 0))) ∧ ∀ n ∈ z0, (Lit.int .i64 n).wf = true) (y0 : len0 * 8 ≤ 140737488351232) :
    Calls Try.prog 8 #[.slice a0 len0 cap0] w fun e w' => e = .returned (.bool true) ∧ Below w.heap.size w w' := by
  obtain ⟨l0, rfl, hr0, hm0, hw0, hc0⟩ := ReadsInt.ofRowC w0
  exact once_walk a0 cap0 l0 w (Kd.C_of_reads (d := (0 : Int)) (h1 := fun _ => rfl) hr0) hc0 y0

end Go.Proofs.Ytolnkahidgobhaa.Pure
