/- TrustOrder: its walk straight to its answer, true. -/
import Derived.Test.YtfdceninhieheaaTruL
namespace Go.Proofs.Ytfdceninhieheaa.Tru
open Go Go.RowKit Go.Maps Go.Proofs.Ytfdceninhieheaa.Reg Go.Proofs.Ytfdceninhieheaa.QTrust Go.Proofs.Ytfdceninhieheaa.TrS Go.Proofs.Ytfdceninhieheaa.SignMath Go.Proofs.YtfdceninhieheaaW.PrintWords Go.Proofs.YtfdceninhieheaaW.PrintLast Go.Proofs.YtfdceninhieheaaW.PrintMore
set_option linter.unusedVariables false
set_option linter.unusedSimpArgs false

theorem ocerts15 (A0 : Option Addr) (c0 : Nat) (l : List Int) (w : World) (hr : Kd.C (Kd.int .i64) w A0 l.length l) (hc : l.length ≤ c0) :
    Calls Try.prog 25 #[.slice A0 l.length c0, .int .i64 15] w fun e w' => ∃ (cs : List S54) (A : Option Addr) (c : Nat), e = .returned (.slice A cs.length c) ∧ cs.length ≤ c ∧ cs.length ≤ 15 ∧ VCs cs ∧ Kd.C k54 w' A cs.length cs ∧ Below w.heap.size w w' := certs_calls A0 c0 l 15 w hr hc (by decide)
theorem same_self (A B : Option Addr) (c d : Nat) (x : List Int) (w : World) (hx : Kd.C (Kd.int .i64) w A x.length x) (hc : x.length ≤ c) (hy : Kd.C (Kd.int .i64) w B x.length x) (hd : x.length ≤ d) (hl : x.length ≤ 1000) :
    Calls Try.prog 31 #[.slice A x.length c, .slice B x.length d] w fun e w' => e = .returned (.bool true) ∧ Drawn0 w w' := by
  have h := sameInts_calls A B c d x x w hx hc hy hd hl
  simpa using h
theorem pathAns_length (cs : List S54) (root key : Int) (hl : cs.length ≤ 60) : (pathAns cs root key).1.length ≤ 61 := by
  rcases path_cases (cs := cs) (root := root) (key := key) hl with ⟨_, h⟩ | ⟨hk, d, p, h, hd, hg⟩
  · rw [h]; simp
  · rw [h]
    have h1 := hd.small hk
    have h2 := (Rof_spec cs root hl).2
    show p.length ≤ 61
    rw [hg.len]; omega
theorem R_own_lt {w : World} {base : Nat} {ok : Nat → Prop} {v : Value} {xs : List S54} (h : Kd.R k54 54 w base ok v xs) : ∀ g, v.ownBlock = some g → base ≤ g ∧ g < w.heap.size := by
  obtain ⟨_, inner, hown, _⟩ := h
  exact fun g hg => hown.lt g hg
theorem okey1 (w : World) : Calls Try.prog 26 #[.int .i64 1] w fun e w' => e = .returned (.int .i64 (kE 1)) ∧ Drawn0 w w' := keyN 1 w (by decide) (by decide)

theorem turn_arith (turn : Int) (n i jt : Nat) (hjt : jt = (turn % (n : Int)).toNat) (hi : i < n) (hn : n ≤ 15) :
    jt < n ∧ turn % (n : Int) = (jt : Int) ∧ wrap64 ((i : Int) + (jt : Int)) = (i : Int) + (jt : Int) ∧ IntKind.i64.wrap ((i : Int) + (jt : Int)) = (i : Int) + (jt : Int) ∧ ((i : Int) + (jt : Int)).tmod (n : Int) = (((i + jt) % n : Nat) : Int) ∧ IntKind.i64.wrap ((i : Int) + 1) = (i : Int) + 1 := by
  have h1 := Int.emod_lt_of_pos turn (show (0 : Int) < (n : Int) by omega)
  have h2 := Int.emod_nonneg turn (show (n : Int) ≠ 0 by omega)
  generalize turn % (n : Int) = z at *
  refine ⟨by omega, by omega, by unfold wrap64; omega, by rw [IntKind.wrap_i64]; omega, ?_, by rw [IntKind.wrap_i64]; omega⟩
  rw [show (i : Int) + (jt : Int) = ((i + jt : Nat) : Int) by omega]
  exact TrS.tmod_cast _ _

set_option maxRecDepth 100000 in
set_option maxHeartbeats 16000000 in
theorem order_walk (A0 : Option Addr) (c0 : Nat) (l : List Int) (turn key : Int) (w : World) (hr0 : Kd.C (Kd.int .i64) w A0 l.length l) (hc0 : l.length ≤ c0) :
    Calls Try.prog 14 #[.slice A0 l.length c0, .int .i64 turn, .int .i64 key] w fun e w' => e = .returned (.bool true) ∧ Below w.heap.size w w' := by
  have hu43 := Try.underlying43
  have hu49 := Try.underlying49
  have hu54 := Try.underlying54
  have HR0 := Aside0.mk (And.intro hr0 hc0)
  obtain ⟨b, hb⟩ : ∃ b : Nat, b = (1 + key % 6).toNat := ⟨_, rfl⟩
  have HB := Aside0.mk (show 1 ≤ b ∧ b ≤ 10 by omega)
  have HWk := Aside0.mk (show IntKind.i64.wrap (1 + key % 6) = 1 + key % 6 by rw [IntKind.wrap_i64]; omega)
  have HKb := Aside0.mk (fun w => hb ▸ key6 (1 + key % 6) w (by omega) (by omega))
  clear hr0 hc0 hb
  go_enter Try.func14, Try.ntmps14
  go_upto_region 2 with (go_at_call 25; refine (ocerts15 A0 c0 l w HR0.out.1 HR0.out.2).mono ?_; rintro e w1 ⟨cs, A7, c7, rfl, k1, k2, k3, k4, hb⟩; have HC := Aside0.mk (And.intro k1 k4); have HV := Aside0.mk (And.intro k2 k3); have S0 := Aside0.mk hb; clear k1 k2 k3 k4 hb)
  obtain ⟨jt, hjt⟩ : ∃ j : Nat, j = (turn % (cs.length : Int)).toNat := ⟨_, rfl⟩
  have HJ := Aside0.mk hjt
  obtain ⟨ot, hot⟩ : ∃ o, o = turned cs jt := ⟨_, rfl⟩
  have HOt := Aside0.mk hot
  have HOl := Aside0.mk (show ot.length = cs.length by
    rw [hot]
    by_cases h0 : cs.length = 0
    · have : cs = [] := List.length_eq_zero_iff.1 h0
      subst this; simp [turned]
    · refine turned_length cs jt ?_
      have h1 := Int.emod_lt_of_pos turn (show (0 : Int) < (cs.length : Int) by omega)
      omega)
  have HOp := Aside0.mk (show ot.Perm cs by rw [hot]; exact turned_perm cs jt)
  clear hjt hot
  go_wp2
  go_loopg [8, 9] cs.length (fun kq v8 v9 wr => ∃ (i : Nat), v9 = .int .i64 i ∧ Aside0 (kq + i = cs.length) ∧ Aside0 (Kd.R k54 54 wr w1.heap.size (fun _ => True) v8 (ot.take i)) ∧ Aside0 (Below w1.heap.size w1 wr))
  case atStart => exact ⟨0, rfl, ⟨by omega⟩, ⟨Kd.R_nil _ _ _ _ _⟩, ⟨Below.refl _ _⟩⟩
  case round =>
    obtain ⟨i, rfl, hK, hO, hW⟩ := hrel
    obtain ⟨A8, c8, hv8, -, -⟩ := Kd.R_reads hO.out
    obtain ⟨n8, hn8⟩ : ∃ n, n = (ot.take i).length := ⟨_, rfl⟩
    have HN8 := Aside0.mk (show n8 ≤ 15 by rw [hn8, List.length_take]; have := HV.out.1; have := HOl.out; omega)
    rw [← hn8] at hv8
    subst hv8
    by_cases hlt : i < cs.length
    · have hi1 : (i : Int) < (cs.length : Int) := by omega
      have hi0 : (0 : Int) ≤ (i : Int) := by omega
      obtain ⟨hjl, hje, hws, hws2, hqt, hwi⟩ := turn_arith turn cs.length i jt HJ.out hlt HV.out.1
      obtain ⟨q, hq⟩ : ∃ q, q = (i + jt) % cs.length := ⟨_, rfl⟩
      have hql : q < cs.length := by rw [hq]; exact Nat.mod_lt _ (by omega)
      rw [← hq] at hqt
      have hq0 : (0 : Int) ≤ (q : Int) := by omega
      have hq1 : (q : Int) < (cs.length : Int) := by omega
      have hlz : ((cs.length : Int) == 0) = false := beq_eq_false_iff_ne.2 (by omega)
      have hlz2 : (cs.length = 0) = False := eq_false (by omega)
      have hto : ot.take (i + 1) = ot.take i ++ [cs[q]] := by
        have hio : i < ot.length := by rw [HOl.out]; exact hlt
        rw [List.take_succ_eq_append_getElem hio]
        have h1 := turned_get cs jt i hjl hlt
        rw [← HOt.out, ← hq, List.getElem?_eq_getElem hio, List.getElem?_eq_getElem hql] at h1
        rw [Option.some.inj h1]
      have hel : rd_T54 cs (q : Int) = cs[q] := by simp [rd_T54, List.getD_eq_getElem?_getD, hql]
      obtain ⟨ad, hA7, hx0, hx1, hx2, hx3⟩ := at_T54 (Kd.C_below HC.out.2 hW.out) (q : Int) hq0 hq1
      subst hA7
      rw [hel, Int.toNat_natCast] at hx0 hx1 hx2 hx3
      generalize cs[q] = c at hto hx0 hx1 hx2 hx3
      have HTo := Aside0.mk hto
      have HPk := Aside0.mk (fun w => hje ▸ picked_any turn (cs.length : Int) w (by omega) (by have := HV.out.1; omega))
      have hO2 := hO.out
      obtain ⟨olds, hold⟩ : ∃ o, o = ot.take i := ⟨_, rfl⟩
      rw [← hold] at hO2 hn8
      have HO2 := Aside0.mk hO2
      have HOld := Aside0.mk (And.intro hold hn8)
      clear hto hel hO2 hold hn8 hq hql hjl hje hO
      obtain ⟨c0', c1', ⟨c2', c3'⟩⟩ := c
      dsimp only at hx0 hx1 hx2 hx3
      go_wp2_with (first
        | (go_at_call 15; refine (HPk.out _).mono ?_; rintro e w5 ⟨rfl, ⟨m5, rfl⟩⟩)
        | (at_builtin; refine Kd.R_append k54 (w0 := w1) w1.heap.size rfl (.tmp 28) (.tmp 41) 49 54 _ _ rfl Try.underlying49 info54 rfl (by decide) (by omega) _ olds (⟨c0', c1', ⟨c2', c3'⟩⟩ : S54) [.int .i64 c0', .int .i64 c1', .int .i64 c2', .int .i64 c3'] (fun _ => True) (fun _ => False) rfl (by first | (go_simp; done) | (go_simp; rfl)) (k54_mkM _ _ _ (⟨c0', c1', ⟨c2', c3'⟩⟩ : S54)) (fun _ h => h.elim) (fun _ _ => trivial) (Kd.R_drewN HO2.out _) (pw_below_drewN hW.out _) (Nat.le_trans hW.out.size (Nat.le_refl _)) (by have h1 := HN8.out; have h2 := HOld.out.2; omega) ?_; intro v6 w6 ho hb _ _; have HO6 := Aside0.mk ho; have HB6 := Aside0.mk hb; clear ho hb))
      go_roundg (gk - 1)
      case measure => have := hK.out; omega
      case rel => exact ⟨i + 1, by go_num, ⟨by have := hK.out; omega⟩, ⟨by rw [HTo.out, ← HOld.out.1]; exact HO6.out⟩, HB6⟩
    · have hil : i = cs.length := by have := hK.out; omega
      have hib : ¬ (i : Int) < (cs.length : Int) := by omega
      have hibn : ¬ i < cs.length := hlt
      have htk : ot.take i = ot := List.take_of_length_le (by rw [hil, HOl.out]; exact Nat.le_refl _)
      have hO3 := hO.out
      rw [htk] at hO3 hn8
      subst hn8
      have HO3 := Aside0.mk hO3
      have HC3 := Aside0.mk (Kd.C_below HC.out.2 hW.out)
      clear hil htk hO3 hO hlt HN8
      have hWk := HWk.out
      go_upto_region 8 with (go_at_call 26; refine (okey1 wr).mono ?_; rintro e w3 ⟨rfl, ⟨m3, rfl⟩⟩)
      go_upto_region 9 with (first
        | (go_at_call 15; refine (picked_any key 6 _ (by decide) (by decide)).mono ?_; rintro e w3 ⟨rfl, ⟨m4, rfl⟩⟩)
        | (go_at_call 26; refine (HKb.out _).mono ?_; rintro e w3 ⟨rfl, ⟨m5, rfl⟩⟩))
      obtain ⟨root, hroot⟩ : ∃ r, r = kE 1 := ⟨_, rfl⟩
      obtain ⟨kb, hkb⟩ : ∃ r, r = kE b := ⟨_, rfl⟩
      have HRe := Aside0.mk (fun (es : List S54) A c w hr hc hl hv => reachedO 1 (by decide) (by decide) A c es w hr hc hl hv)
      have HPa := Aside0.mk (fun (es : List S54) A c w hr hc hl hv => pathC 1 b (by decide) (by decide) HB.out.1 HB.out.2 A c es w hr hc hl hv)
      rw [← hroot] at HRe HPa
      rw [← hkb] at HPa
      rw [← hroot, ← hkb]
      clear hroot hkb hWk HWk HKb
      generalize hw2 : wr.drewN _ = w2
      have S1 := Aside0.mk (show Below wr.heap.size wr w2 by rw [← hw2]; exact pw_below_drewN (Below.refl _ _) _)
      clear hw2
      have HOv := Aside0.mk (show VCs ot from fun c hc => HV.out.2 c (HOp.out.mem_iff.1 hc))
      go_upto_region 10 with (go_at_call 29; refine (HRe.out cs A7 c7 w2 (Kd.C_below HC3.out S1.out) HC.out.1 (by have := HV.out.1; omega) HV.out.2).mono ?_; rintro e w3 ⟨A12, c12, rfl, k1, hb⟩; have HX := Aside0.mk k1; have S2 := Aside0.mk (S1.out.trans (hb.mono S1.out.size)); clear k1 hb)
      have HO4 := Aside0.mk (Kd.R_below HO3.out S2.out)
      have HC4 := Aside0.mk (Kd.C_below HC3.out S2.out)
      have HBase := Aside0.mk (Nat.le_trans hW.out.size S2.out.size)
      go_upto_region 11 with (first
        | ((with_reducible refine gate_builtin (b := .append) (xs := #[.tmp 56, .tmp 57]) rfl ?_); at_builtin; refine wpList_append_stands rfl (.tmp 56) (.tmp 57) rfl rfl rfl HO4.out HC4.out (by have := HV.out.1; have := HOl.out; omega) HBase.out ?_; intro A13 c13 A14 c14 w4 hv k1 k2 k3 k4 hg; obtain ⟨e14, e15⟩ : A8 = A14 ∧ c8 = c14 := (by injection hv with h1 h2 h3; exact ⟨h1, h3⟩); subst e14 e15; obtain ⟨es, hes⟩ : ∃ es, es = ot ++ cs := ⟨_, rfl⟩; rw [← hes] at k3 k4; have HG4 := Aside0.mk hg; have HOc := Aside0.mk (And.intro k1 k2); have HEs := Aside0.mk hes; have HE := Aside0.mk (And.intro k3 k4); rw [← hes]; clear hv k1 k2 k3 k4 hg hes)
        | (go_at_call 29; refine (HRe.out es A13 c13 w4 HE.out.2 HE.out.1 (by rw [HEs.out, List.length_append]; have := HV.out.1; have := HOl.out; omega) (by rw [HEs.out]; exact HOv.out.append HV.out.2)).mono ?_; rintro e w5 ⟨A15, c15, rfl, k1, hb⟩; have HY := Aside0.mk k1; have S5 := Aside0.mk hb; clear k1 hb))
      clear HRe
      have HLt := Aside0.mk (R_own_lt HO3.out)
      have HX4 := Aside0.mk (HX.out.kept HG4.out (by
        cases hv : (Value.slice A12 (keysOf (Rof cs root)).length c12).ownBlock with
        | none => exact .inl rfl
        | some g =>
          refine .inr fun e => ?_
          have h1 := (HX.out.1.lt g hv).1
          have h2 := (HLt.out g e.symm).2
          have h3 := S1.out.size
          omega))
      have HX5 := Aside0.mk (ownsInts_below HX4.out S5.out)
      have HW4 := Aside0.mk ((hW.out.trans (S2.out.mono hW.out.size)).grown HG4.out HBase.out (fun k hk => Kd.R_base HO4.out k hk))
      have HC5 := Aside0.mk (Kd.C_below (Kd.C_below HC.out.2 HW4.out) S5.out)
      have HO5 := Aside0.mk (Kd.C_below HOc.out.2 S5.out)
      have hkt := keys_twice HOp.out.symm root (by have := HV.out.1; omega)
      rw [← HEs.out] at hkt
      rw [← hkt] at HY ⊢
      have hpt := pathAns_perm HOp.out root kb
      have HP1 := Aside0.mk (fun A c w h1 h2 => HPa.out cs A c w h1 h2 (by have := HV.out.1; omega) HV.out.2)
      have HP2 := Aside0.mk (fun A c w h1 h2 => HPa.out ot A c w h1 h2 (by have := HV.out.1; have := HOl.out; omega) HOv.out)
      rw [hpt] at HP2
      have HLx := Aside0.mk (keys_length cs root (by have := HV.out.1; omega))
      have HLp := Aside0.mk (pathAns_length cs root kb (by have := HV.out.1; omega))
      obtain ⟨x, hx⟩ : ∃ x, x = keysOf (Rof cs root) := ⟨_, rfl⟩
      rw [← hx] at HX5 HY HLx ⊢
      obtain ⟨⟨pl, pe⟩, hP⟩ : ∃ p, p = pathAns cs root kb := ⟨_, rfl⟩
      rw [← hP] at HP1 HP2 HLp
      have S15 := Aside0.mk (HW4.out.trans (S5.out.mono HW4.out.size))
      clear hx hP hkt hpt HPa HX HX4 HO3 HO4 HC3 HC4 HG4 HLt HE HEs HOp HOv S2 S1 HBase HW4 S5 HC HOt
      dsimp only at HP1 HP2 HLp
      obtain ⟨qe, hqe⟩ : ∃ q, q = pe := ⟨_, rfl⟩
      have hpe : (pe == qe) = true := beq_iff_eq.2 hqe.symm
      rw [← hqe] at HP2
      clear hqe
      go_upto_region 12 with (first
        | ((with_reducible refine gate_builtin (b := .append) (xs := #[.const _, .tmp 65]) rfl ?_); at_builtin; refine Kd.R_append_rows k54 (w0 := w5) w5.heap.size rfl (.const (.slice none 0 0)) (.tmp 65) 49 54 _ _ rfl Try.underlying49 info54 rfl (by decide) (by omega) (.slice none 0 0) ([] : List S54) cs _ _ _ (fun _ => True) (fun _ => False) rfl rfl (Kd.R_nil _ _ _ _ _) HC5.out (fun x cs h => by rw [k54_open h]; exact k54_mkM _ _ _ x) (fun _ h => h.elim) (fun _ _ => trivial) (Below.refl _ _) (Nat.le_refl _) (by have := HV.out.1; simp; omega) ?_; intro v1 wa ho hb _ _; obtain ⟨Aa, ca, rfl⟩ := Kd.R_slice ho; have HCa := Aside0.mk ho; have HBa := Aside0.mk hb; clear ho hb)
        | (go_at_call 27; refine (HP1.out Aa ca wa (Kd.R_reads' HCa.out).2.2 (Kd.R_reads' HCa.out).2.1).mono ?_; rintro e w6 ⟨A16, c16, rfl, k1, k2, hb⟩; have HP6 := Aside0.mk (And.intro k1 k2); have S6 := Aside0.mk (HBa.out.trans (hb.mono HBa.out.size)); clear k1 k2 hb))
      clear HCa HBa HP1
      have HO6 := Aside0.mk (Kd.C_below HO5.out S6.out)
      go_upto_region 13 with (first
        | ((with_reducible refine gate_builtin (b := .append) (xs := #[.const _, .tmp 73]) rfl ?_); at_builtin; refine Kd.R_append_rows k54 (w0 := w6) w6.heap.size rfl (.const (.slice none 0 0)) (.tmp 73) 49 54 _ _ rfl Try.underlying49 info54 rfl (by decide) (by omega) (.slice none 0 0) ([] : List S54) ot _ _ _ (fun _ => True) (fun _ => False) rfl rfl (Kd.R_nil _ _ _ _ _) HO6.out (fun x cs h => by rw [k54_open h]; exact k54_mkM _ _ _ x) (fun _ h => h.elim) (fun _ _ => trivial) (Below.refl _ _) (Nat.le_refl _) (by have := HV.out.1; have := HOl.out; simp; omega) ?_; intro v1 wb ho hb _ _; obtain ⟨Ab, cb, rfl⟩ := Kd.R_slice ho; have HCa := Aside0.mk ho; have HBa := Aside0.mk hb; clear ho hb)
        | (go_at_call 27; refine (HP2.out Ab cb wb (Kd.R_reads' HCa.out).2.2 (Kd.R_reads' HCa.out).2.1).mono ?_; rintro e w7 ⟨A17, c17, rfl, k1, k2, hb⟩; have HP7 := Aside0.mk (And.intro k1 k2); have S7 := Aside0.mk (HBa.out.trans (hb.mono HBa.out.size)); clear k1 k2 hb))
      clear HCa HBa HP2 HO6 HO5 HC5
      have HX7 := Aside0.mk (ints_C' (ownsInts_below (ownsInts_below HX5.out S6.out) (S7.out)))
      have HY7 := Aside0.mk (ints_C' (ownsInts_below (ownsInts_below HY.out S6.out) (S7.out)))
      have HQ7 := Aside0.mk (Kd.C_below HP6.out.2 S7.out)
      have S17 := Aside0.mk (S15.out.trans ((S6.out.trans (S7.out.mono S6.out.size)).mono S15.out.size))
      clear HX5 HY S15 S6 S7
      go_wp2_with (first
        | (go_at_call 20; refine (sure_calls _).mono ?_; rintro e w8 ⟨rfl, hb⟩; have S8 := Aside0.mk hb; clear hb)
        | (have _still := HX7; go_at_call 31; refine (same_self A12 A15 c12 c15 x w8 (Kd.C_below HX7.out.2.2 S8.out) HX7.out.2.1 (Kd.C_below HY7.out.2.2 S8.out) HY7.out.2.1 (by have := HLx.out; omega)).mono ?_; rintro e w9 ⟨rfl, ⟨m9, rfl⟩⟩; clear HX7 _still)
        | (go_at_call 31; refine (same_self A16 A17 c16 c17 pl _ (Kd.C_drewN (Kd.C_below HQ7.out S8.out) _) HP6.out.1 (Kd.C_drewN (Kd.C_below HP7.out.2 S8.out) _) HP7.out.1 (by have := HLp.out; omega)).mono ?_; rintro e w9 ⟨rfl, ⟨m10, rfl⟩⟩))
      go_ret
      refine ⟨by first | rfl | simp [*], S0.out.trans (((S17.out.trans (S8.out.mono S17.out.size)).mono S0.out.size).trans ?_)⟩
      exact pw_below_drewN (Below.refl _ _) _

end Go.Proofs.Ytfdceninhieheaa.Tru
