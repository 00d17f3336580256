/- TrustShort: its walk straight to its answer, true. -/
import Derived.Test.YtfdceninhieheaaGTru
namespace Go.Proofs.Ytfdceninhieheaa.Tru
open Go Go.RowKit Go.Maps Go.Proofs.Ytfdceninhieheaa.Reg Go.Proofs.Ytfdceninhieheaa.QTrust Go.Proofs.Ytfdceninhieheaa.TrS Go.Proofs.Ytfdceninhieheaa.SignMath Go.Proofs.YtfdceninhieheaaW.PrintWords Go.Proofs.YtfdceninhieheaaW.PrintLast Go.Proofs.YtfdceninhieheaaW.PrintMore
set_option linter.unusedVariables false
set_option linter.unusedSimpArgs false

theorem certs15 (A0 : Option Addr) (c0 : Nat) (l : List Int) (w : World) (hr : Kd.C (Kd.int .i64) w A0 l.length l) (hc : l.length ≤ c0) :
    Calls Try.prog 25 #[.slice A0 l.length c0, .int .i64 15] w fun e w' => ∃ (cs : List S54) (A : Option Addr) (c : Nat), e = .returned (.slice A cs.length c) ∧ cs.length ≤ c ∧ cs.length ≤ 15 ∧ VCs cs ∧ Kd.C k54 w' A cs.length cs ∧ Below w.heap.size w w' := certs_calls A0 c0 l 15 w hr hc (by decide)
theorem certs3 (A0 : Option Addr) (c0 : Nat) (l : List Int) (w : World) (hr : Kd.C (Kd.int .i64) w A0 l.length l) (hc : l.length ≤ c0) :
    Calls Try.prog 25 #[.slice A0 l.length c0, .int .i64 3] w fun e w' => ∃ (cs : List S54) (A : Option Addr) (c : Nat), e = .returned (.slice A cs.length c) ∧ cs.length ≤ c ∧ cs.length ≤ 3 ∧ VCs cs ∧ Kd.C k54 w' A cs.length cs ∧ Below w.heap.size w w' := certs_calls A0 c0 l 3 w hr hc (by decide)
theorem skey1 (w : World) : Calls Try.prog 26 #[.int .i64 1] w fun e w' => e = .returned (.int .i64 (kE 1)) ∧ Drawn0 w w' := keyN 1 w (by decide) (by decide)

set_option maxRecDepth 100000 in
set_option maxHeartbeats 16000000 in
theorem short_walk (A0 : Option Addr) (c0 : Nat) (l : List Int) (A1 : Option Addr) (c1 : Nat) (m : List Int) (key : Int) (w : World) (hr0 : Kd.C (Kd.int .i64) w A0 l.length l) (hc0 : l.length ≤ c0) (hr1 : Kd.C (Kd.int .i64) w A1 m.length m) (hc1 : m.length ≤ c1) :
    Calls Try.prog 10 #[.slice A0 l.length c0, .slice A1 m.length c1, .int .i64 key] w fun e w' => e = .returned (.bool true) ∧ Below w.heap.size w w' := by
  have hu43 := Try.underlying43
  have hu49 := Try.underlying49
  have hu54 := Try.underlying54
  have HR0 := Aside0.mk (And.intro hr0 hc0)
  have HR1 := Aside0.mk (And.intro hr1 hc1)
  obtain ⟨b, hb⟩ : ∃ b : Nat, b = (1 + key % 6).toNat := ⟨_, rfl⟩
  have HB := Aside0.mk (show 1 ≤ b ∧ b ≤ 10 by omega)
  have HWk := Aside0.mk (show IntKind.i64.wrap (1 + key % 6) = 1 + key % 6 by rw [IntKind.wrap_i64]; omega)
  have HKb := Aside0.mk (fun w => hb ▸ key6 (1 + key % 6) w (by omega) (by omega))
  clear hr0 hc0 hr1 hc1 hb
  go_enter Try.func10, Try.ntmps10
  go_upto_region 2 with (go_at_call 25; refine (certs15 A0 c0 l w HR0.out.1 HR0.out.2).mono ?_; rintro e w1 ⟨cs, A7, c7, rfl, k1, k2, k3, k4, hb⟩; have HC := Aside0.mk (And.intro k1 k4); have HV := Aside0.mk (And.intro k2 k3); have S0 := Aside0.mk hb; clear k1 k2 k3 k4 hb)
  go_upto_region 3 with (first
    | ((with_reducible refine gate_builtin (b := .append) (xs := #[.const _, .tmp 18]) rfl ?_); at_builtin; refine Kd.R_append_rows k54 (w0 := w1) w1.heap.size rfl (.const (.slice none 0 0)) (.tmp 18) 49 54 _ _ rfl Try.underlying49 info54 rfl (by decide) (by omega) (.slice none 0 0) ([] : List S54) cs _ _ _ (fun _ => True) (fun _ => False) rfl rfl (Kd.R_nil _ _ _ _ _) HC.out.2 (fun x cs h => by rw [k54_open h]; exact k54_mkM _ _ _ x) (fun _ h => h.elim) (fun _ _ => trivial) (Below.refl _ _) (Nat.le_refl _) (by have := HV.out.1; simp; omega) ?_; intro v1 wa ho hb _ _; obtain ⟨Aa, ca, rfl⟩ := Kd.R_slice ho; have HCa := Aside0.mk ho; have HBa := Aside0.mk hb; clear ho hb)
    | (go_at_call 25; refine (certs3 A1 c1 m wa (Kd.C_below HR1.out.1 (S0.out.trans (HBa.out.mono S0.out.size))) HR1.out.2).mono ?_; rintro e w2 ⟨ds, A6, c6, rfl, k1, k2, k3, k4, hb⟩; have HD := Aside0.mk (And.intro k1 k4); have HW := Aside0.mk (And.intro k2 k3); have S1 := Aside0.mk (HBa.out.trans (hb.mono HBa.out.size)); have HCb := Aside0.mk (Kd.R_below HCa.out hb); clear k1 k2 k3 k4 hb)
    | ((with_reducible refine gate_builtin (b := .append) (xs := #[.tmp 19, .tmp 21]) rfl ?_); at_builtin; refine Kd.R_append_rows k54 (w0 := w1) w1.heap.size rfl (.tmp 19) (.tmp 21) 49 54 _ _ rfl Try.underlying49 info54 rfl (by decide) (by omega) (.slice Aa cs.length ca) cs ds _ _ _ (fun _ => True) (fun _ => False) rfl rfl HCb.out HD.out.2 (fun x cs h => by rw [k54_open h]; exact k54_mkM _ _ _ x) (fun _ h => h.elim) (fun _ _ => trivial) S1.out S1.out.size (by have := HV.out.1; have := HW.out.1; simp; omega) ?_; intro v1 wb ho hb _ _; obtain ⟨es, hes⟩ : ∃ es, es = cs ++ ds := ⟨_, rfl⟩; rw [← hes] at ho; obtain ⟨A8, c8, rfl⟩ := Kd.R_slice ho; have HEs := Aside0.mk hes; have HE := Aside0.mk ho; have S2 := Aside0.mk hb; clear ho hb hes))
  clear HCa HBa HCb S1
  have HEl := Aside0.mk (show es.length ≤ 18 by rw [HEs.out, List.length_append]; have := HV.out.1; have := HW.out.1; omega)
  have HEv := Aside0.mk (show VCs es by rw [HEs.out]; exact HV.out.2.append HW.out.2)
  have HE2 := Aside0.mk (Kd.R_reads' HE.out)
  have hWk := HWk.out
  go_upto_region 4 with (go_at_call 26; refine (skey1 wb).mono ?_; rintro e w3 ⟨rfl, ⟨m3, rfl⟩⟩)
  go_upto_region 5 with (first
    | (go_at_call 15; refine (picked_any key 6 _ (by decide) (by decide)).mono ?_; rintro e w3 ⟨rfl, ⟨m4, rfl⟩⟩)
    | (go_at_call 26; refine (HKb.out _).mono ?_; rintro e w3 ⟨rfl, ⟨m5, rfl⟩⟩))
  obtain ⟨root, hroot⟩ : ∃ r, r = kE 1 := ⟨_, rfl⟩
  obtain ⟨kb, hkb⟩ : ∃ r, r = kE b := ⟨_, rfl⟩
  have HPa := Aside0.mk (fun (es : List S54) A c w hr hc hl hv => pathC 1 b (by decide) (by decide) HB.out.1 HB.out.2 A c es w hr hc hl hv)
  rw [← hroot, ← hkb] at HPa
  rw [← hroot, ← hkb]
  clear hroot hkb hWk HWk HKb HE
  generalize hw2 : wb.drewN _ = w3
  have S3 := Aside0.mk (show Below wb.heap.size wb w3 by rw [← hw2]; exact pw_below_drewN (Below.refl _ _) _)
  clear hw2
  have S13 := Aside0.mk (S2.out.trans (S3.out.mono S2.out.size))
  have HC3 := Aside0.mk (Kd.C_below HC.out.2 S13.out)
  have HE3 := Aside0.mk (Kd.C_below HE2.out.2.2 S3.out)
  go_upto_region 6 with (first
    | ((with_reducible refine gate_builtin (b := .append) (xs := #[.const _, .tmp 31]) rfl ?_); at_builtin; refine Kd.R_append_rows k54 (w0 := w3) w3.heap.size rfl (.const (.slice none 0 0)) (.tmp 31) 49 54 _ _ rfl Try.underlying49 info54 rfl (by decide) (by omega) (.slice none 0 0) ([] : List S54) cs _ _ _ (fun _ => True) (fun _ => False) rfl rfl (Kd.R_nil _ _ _ _ _) HC3.out (fun x cs h => by rw [k54_open h]; exact k54_mkM _ _ _ x) (fun _ h => h.elim) (fun _ _ => trivial) (Below.refl _ _) (Nat.le_refl _) (by have := HV.out.1; have := HW.out.1; have := HEl.out; simp; omega) ?_; intro v1 wa ho hb _ _; obtain ⟨Aa, ca, rfl⟩ := Kd.R_slice ho; have HCa := Aside0.mk ho; have HBa := Aside0.mk hb; clear ho hb)
    | (go_at_call 27; refine (HPa.out cs Aa ca wa (Kd.R_reads' HCa.out).2.2 (Kd.R_reads' HCa.out).2.1 (by have := HV.out.1; omega) HV.out.2).mono ?_; rintro e w4 ⟨A9, c9, rfl, k1, k2, hb⟩; have S4 := Aside0.mk (HBa.out.trans (hb.mono HBa.out.size)); clear k1 k2 hb))
  clear HCa HBa
  have HE4 := Aside0.mk (Kd.C_below HE3.out S4.out)
  go_upto_region 7 with (first
    | ((with_reducible refine gate_builtin (b := .append) (xs := #[.const _, .tmp 39]) rfl ?_); at_builtin; refine Kd.R_append_rows k54 (w0 := w4) w4.heap.size rfl (.const (.slice none 0 0)) (.tmp 39) 49 54 _ _ rfl Try.underlying49 info54 rfl (by decide) (by omega) (.slice none 0 0) ([] : List S54) es _ _ _ (fun _ => True) (fun _ => False) rfl rfl (Kd.R_nil _ _ _ _ _) HE4.out (fun x cs h => by rw [k54_open h]; exact k54_mkM _ _ _ x) (fun _ h => h.elim) (fun _ _ => trivial) (Below.refl _ _) (Nat.le_refl _) (by have := HV.out.1; have := HW.out.1; have := HEl.out; simp; omega) ?_; intro v1 wa ho hb _ _; obtain ⟨Aa_1, ca_1, rfl⟩ := Kd.R_slice ho; have HCa := Aside0.mk ho; have HBa := Aside0.mk hb; clear ho hb)
    | (go_at_call 27; refine (HPa.out es Aa_1 ca_1 wa (Kd.R_reads' HCa.out).2.2 (Kd.R_reads' HCa.out).2.1 (by have := HEl.out; omega) HEv.out).mono ?_; rintro e w5 ⟨A10, c10, rfl, k1, k2, hb⟩; have S5 := Aside0.mk (HBa.out.trans (hb.mono HBa.out.size)); clear k1 k2 hb))
  clear HCa HBa HPa
  have HE5 := Aside0.mk (Kd.C_below HE4.out S5.out)
  have HMore := Aside0.mk (fun h => short_more (cs := cs) (ds := ds) (root := root) (key := kb) (by rw [← HEs.out]; have := HEl.out; omega) h)
  have HTwo := Aside0.mk (fun c hc h1 h2 h3 hg => short_two (cs := es) (c := c) (root := root) (key := kb) (by have := HEl.out; omega) hc h1 h2 h3 hg)
  have HOne := Aside0.mk (fun (h : kb = root) => h ▸ short_one (cs := es) (root := root) (by have := HEl.out; omega))
  have HCase := Aside0.mk (show (pathAns cs root kb).2 = 0 ∨ (pathAns cs root kb).2 = 8 by rcases path_cases (cs := cs) (root := root) (key := kb) (by have := HV.out.1; omega) with ⟨_, h⟩ | ⟨_, _, _, h, _⟩ <;> rw [h] <;> simp)
  rw [← HEs.out] at HMore
  have S05 := Aside0.mk (S0.out.trans ((S13.out.trans ((S4.out.trans (S5.out.mono S4.out.size)).mono S13.out.size)).mono S0.out.size))
  obtain ⟨⟨pl, pe⟩, hP⟩ : ∃ p, p = pathAns cs root kb := ⟨_, rfl⟩
  obtain ⟨⟨ql, qe⟩, hQ⟩ : ∃ p, p = pathAns es root kb := ⟨_, rfl⟩
  rw [← hP] at HMore HCase ⊢
  rw [← hQ] at HMore HTwo ⊢
  have HOne2 := Aside0.mk (show kb = root → qe = 0 ∧ ql.length = 1 from fun h => by
    have h1 := HOne.out h
    have h2 : pathAns es root kb = pathAns es root root := by rw [h]
    rw [h2] at hQ
    rw [h] at h1
    rw [← hQ] at h1
    exact h1)
  clear hP hQ HOne S0 S2 S3 S13 S4 S5 HC3 HE3 HE4
  dsimp only at HMore HCase HTwo ⊢
  rcases HCase.out with h0 | h8
  · obtain ⟨h1, h2⟩ := HMore.out h0
    have p1 : (pe == 0) = true := beq_iff_eq.2 h0
    have p2 : (qe == 0) = true := beq_iff_eq.2 h1
    have p3 : (qe != 0) = false := by rw [bne, p2]; rfl
    have p4 : decide ((pl.length : Int) < (ql.length : Int)) = false := decide_eq_false (by omega)
    have p5 : ¬ pl.length < ql.length := by omega
    clear h0 h1 h2
    go_upto_region 9 with (go_at_call 20; refine (sure_calls w5).mono ?_; rintro e w6 ⟨rfl, hb⟩; have S6 := Aside0.mk hb; clear hb)
    have HE6 := Aside0.mk (Kd.C_below HE5.out S6.out)
    go_wp2
    go_loopg [15] es.length (fun kq v15 wr => ∃ (i : Nat), v15 = .int .i64 i ∧ Aside0 (kq + i = es.length) ∧ Aside0 (Below w6.heap.size w6 wr))
    case atStart => exact ⟨0, rfl, ⟨by omega⟩, ⟨Below.refl _ _⟩⟩
    case round =>
      obtain ⟨i, rfl, hK, hW⟩ := hrel
      by_cases hlt : i < es.length
      · have hi1 : (i : Int) < (es.length : Int) := by omega
        have hi0 : (0 : Int) ≤ (i : Int) := by omega
        have hwi : IntKind.i64.wrap ((i : Int) + 1) = (i : Int) + 1 := by have h1 := HEl.out; rw [IntKind.wrap_i64]; omega
        have hel : rd_T54 es (i : Int) = es[i] := by simp [rd_T54, List.getD_eq_getElem?_getD, hlt]
        have hT := (HEv.out _ (List.getElem_mem hlt)).told
        have hIn := List.getElem_mem hlt
        obtain ⟨ad, rfl, hx0, hx1, hx2, hx3⟩ := at_T54 (Kd.C_below HE6.out hW.out) (i : Int) hi0 hi1
        rw [hel, Int.toNat_natCast] at hx0 hx1 hx2 hx3
        generalize es[i] = c at hT hIn hx0 hx1 hx2 hx3
        have HT := Aside0.mk hT
        have HIn := Aside0.mk hIn
        clear hT hIn hel
        obtain ⟨f, t, ⟨r, s⟩⟩ := c
        dsimp only at *
        by_cases hf : f = root
        · have hfb : (f == root) = true := beq_iff_eq.2 hf
          by_cases ht : t = kb
          · have htb : (t == kb) = true := beq_iff_eq.2 ht
            by_cases hkr : kb = root
            · have hkb : (kb == root) = true := beq_iff_eq.2 hkr
              have hkn : (kb != root) = false := by rw [bne, hkb]; rfl
              clear hf ht hkr
              go_wp2
              go_roundg (gk - 1)
              case measure => have := hK.out; omega
              case rel => exact ⟨i + 1, by go_num, ⟨by have := hK.out; omega⟩, hW⟩
            · have hkb : (kb == root) = false := beq_eq_false_iff_ne.2 hkr
              have hkn : (kb != root) = true := by rw [bne, hkb]; rfl
              by_cases hg : goodB ⟨f, t, ⟨r, s⟩⟩ = true
              · have HGd := Aside0.mk hg
                have h2 := HTwo.out ⟨f, t, ⟨r, s⟩⟩ HIn.out hf ht hkr hg
                have hq1 : (qe == 0) = true := beq_iff_eq.2 h2.1
                have hq2 : ((ql.length : Int) == 2) = true := beq_iff_eq.2 (by have := h2.2; omega)
                have hq3 : (ql.length == 2) = true := beq_iff_eq.2 h2.2
                clear hf ht hkr hg h2
                go_wp2_with (go_at_call 28; refine (good_calls goodB ⟨f, t, ⟨r, s⟩⟩ HT.out _).mono ?_; rintro e w7 ⟨z, rfl, hz, hb⟩; have hzg : (z == 0) = true := hz.trans HGd.out; have HB7 := Aside0.mk (hW.out.trans (hb.mono hW.out.size)); clear hz hb)
                go_ret
                exact ⟨by first | rfl | simp [*], S05.out.trans ((S6.out.trans (HB7.out.mono S6.out.size)).mono S05.out.size)⟩
              · have hgf : goodB ⟨f, t, ⟨r, s⟩⟩ = false := by simpa using hg
                have HGd := Aside0.mk hgf
                clear hf ht hkr hg hgf
                go_wp2_with (go_at_call 28; refine (good_calls goodB ⟨f, t, ⟨r, s⟩⟩ HT.out _).mono ?_; rintro e w7 ⟨z, rfl, hz, hb⟩; have hzg : (z == 0) = false := hz.trans HGd.out; have HB7 := Aside0.mk (hW.out.trans (hb.mono hW.out.size)); clear hz hb)
                go_roundg (gk - 1)
                case measure => have := hK.out; omega
                case rel => exact ⟨i + 1, by go_num, ⟨by have := hK.out; omega⟩, HB7⟩
          · have htb : (t == kb) = false := beq_eq_false_iff_ne.2 ht
            clear hf ht
            go_wp2
            go_roundg (gk - 1)
            case measure => have := hK.out; omega
            case rel => exact ⟨i + 1, by go_num, ⟨by have := hK.out; omega⟩, hW⟩
        · have hfb : (f == root) = false := beq_eq_false_iff_ne.2 hf
          clear hf
          go_wp2
          go_roundg (gk - 1)
          case measure => have := hK.out; omega
          case rel => exact ⟨i + 1, by go_num, ⟨by have := hK.out; omega⟩, hW⟩
      · have hib : ¬ (i : Int) < (es.length : Int) := by omega
        by_cases hkr : kb = root
        · have hkb : (kb == root) = true := beq_iff_eq.2 hkr
          have hkn : (kb != root) = false := by rw [bne, hkb]; rfl
          have h2 := HOne2.out hkr
          have hq1 : (qe == 0) = true := beq_iff_eq.2 h2.1
          have hq2 : ((ql.length : Int) == 1) = true := beq_iff_eq.2 (by have := h2.2; omega)
          have hq3 : (ql.length == 1) = true := beq_iff_eq.2 h2.2
          clear hkr h2
          go_wp2
          go_ret
          exact ⟨by first | rfl | simp [*], S05.out.trans ((S6.out.trans (hW.out.mono S6.out.size)).mono S05.out.size)⟩
        · have hkb : (kb == root) = false := beq_eq_false_iff_ne.2 hkr
          have hkn : (kb != root) = true := by rw [bne, hkb]; rfl
          clear hkr
          go_wp2
          go_ret
          exact ⟨by first | rfl | simp [*], S05.out.trans ((S6.out.trans (hW.out.mono S6.out.size)).mono S05.out.size)⟩
  · have p1 : (pe == 0) = false := beq_eq_false_iff_ne.2 (by rw [h8]; decide)
    clear h8
    go_upto_region 9 with (go_at_call 20; refine (sure_calls w5).mono ?_; rintro e w6 ⟨rfl, hb⟩; have S6 := Aside0.mk hb; clear hb)
    have HE6 := Aside0.mk (Kd.C_below HE5.out S6.out)
    go_wp2
    go_loopg [15] es.length (fun kq v15 wr => ∃ (i : Nat), v15 = .int .i64 i ∧ Aside0 (kq + i = es.length) ∧ Aside0 (Below w6.heap.size w6 wr))
    case atStart => exact ⟨0, rfl, ⟨by omega⟩, ⟨Below.refl _ _⟩⟩
    case round =>
      obtain ⟨i, rfl, hK, hW⟩ := hrel
      by_cases hlt : i < es.length
      · have hi1 : (i : Int) < (es.length : Int) := by omega
        have hi0 : (0 : Int) ≤ (i : Int) := by omega
        have hwi : IntKind.i64.wrap ((i : Int) + 1) = (i : Int) + 1 := by have h1 := HEl.out; rw [IntKind.wrap_i64]; omega
        have hel : rd_T54 es (i : Int) = es[i] := by simp [rd_T54, List.getD_eq_getElem?_getD, hlt]
        have hT := (HEv.out _ (List.getElem_mem hlt)).told
        have hIn := List.getElem_mem hlt
        obtain ⟨ad, rfl, hx0, hx1, hx2, hx3⟩ := at_T54 (Kd.C_below HE6.out hW.out) (i : Int) hi0 hi1
        rw [hel, Int.toNat_natCast] at hx0 hx1 hx2 hx3
        generalize es[i] = c at hT hIn hx0 hx1 hx2 hx3
        have HT := Aside0.mk hT
        have HIn := Aside0.mk hIn
        clear hT hIn hel
        obtain ⟨f, t, ⟨r, s⟩⟩ := c
        dsimp only at *
        by_cases hf : f = root
        · have hfb : (f == root) = true := beq_iff_eq.2 hf
          by_cases ht : t = kb
          · have htb : (t == kb) = true := beq_iff_eq.2 ht
            by_cases hkr : kb = root
            · have hkb : (kb == root) = true := beq_iff_eq.2 hkr
              have hkn : (kb != root) = false := by rw [bne, hkb]; rfl
              clear hf ht hkr
              go_wp2
              go_roundg (gk - 1)
              case measure => have := hK.out; omega
              case rel => exact ⟨i + 1, by go_num, ⟨by have := hK.out; omega⟩, hW⟩
            · have hkb : (kb == root) = false := beq_eq_false_iff_ne.2 hkr
              have hkn : (kb != root) = true := by rw [bne, hkb]; rfl
              by_cases hg : goodB ⟨f, t, ⟨r, s⟩⟩ = true
              · have HGd := Aside0.mk hg
                have h2 := HTwo.out ⟨f, t, ⟨r, s⟩⟩ HIn.out hf ht hkr hg
                have hq1 : (qe == 0) = true := beq_iff_eq.2 h2.1
                have hq2 : ((ql.length : Int) == 2) = true := beq_iff_eq.2 (by have := h2.2; omega)
                have hq3 : (ql.length == 2) = true := beq_iff_eq.2 h2.2
                clear hf ht hkr hg h2
                go_wp2_with (go_at_call 28; refine (good_calls goodB ⟨f, t, ⟨r, s⟩⟩ HT.out _).mono ?_; rintro e w7 ⟨z, rfl, hz, hb⟩; have hzg : (z == 0) = true := hz.trans HGd.out; have HB7 := Aside0.mk (hW.out.trans (hb.mono hW.out.size)); clear hz hb)
                go_ret
                exact ⟨by first | rfl | simp [*], S05.out.trans ((S6.out.trans (HB7.out.mono S6.out.size)).mono S05.out.size)⟩
              · have hgf : goodB ⟨f, t, ⟨r, s⟩⟩ = false := by simpa using hg
                have HGd := Aside0.mk hgf
                clear hf ht hkr hg hgf
                go_wp2_with (go_at_call 28; refine (good_calls goodB ⟨f, t, ⟨r, s⟩⟩ HT.out _).mono ?_; rintro e w7 ⟨z, rfl, hz, hb⟩; have hzg : (z == 0) = false := hz.trans HGd.out; have HB7 := Aside0.mk (hW.out.trans (hb.mono hW.out.size)); clear hz hb)
                go_roundg (gk - 1)
                case measure => have := hK.out; omega
                case rel => exact ⟨i + 1, by go_num, ⟨by have := hK.out; omega⟩, HB7⟩
          · have htb : (t == kb) = false := beq_eq_false_iff_ne.2 ht
            clear hf ht
            go_wp2
            go_roundg (gk - 1)
            case measure => have := hK.out; omega
            case rel => exact ⟨i + 1, by go_num, ⟨by have := hK.out; omega⟩, hW⟩
        · have hfb : (f == root) = false := beq_eq_false_iff_ne.2 hf
          clear hf
          go_wp2
          go_roundg (gk - 1)
          case measure => have := hK.out; omega
          case rel => exact ⟨i + 1, by go_num, ⟨by have := hK.out; omega⟩, hW⟩
      · have hib : ¬ (i : Int) < (es.length : Int) := by omega
        by_cases hkr : kb = root
        · have hkb : (kb == root) = true := beq_iff_eq.2 hkr
          have hkn : (kb != root) = false := by rw [bne, hkb]; rfl
          have h2 := HOne2.out hkr
          have hq1 : (qe == 0) = true := beq_iff_eq.2 h2.1
          have hq2 : ((ql.length : Int) == 1) = true := beq_iff_eq.2 (by have := h2.2; omega)
          have hq3 : (ql.length == 1) = true := beq_iff_eq.2 h2.2
          clear hkr h2
          go_wp2
          go_ret
          exact ⟨by first | rfl | simp [*], S05.out.trans ((S6.out.trans (hW.out.mono S6.out.size)).mono S05.out.size)⟩
        · have hkb : (kb == root) = false := beq_eq_false_iff_ne.2 hkr
          have hkn : (kb != root) = true := by rw [bne, hkb]; rfl
          clear hkr
          go_wp2
          go_ret
          exact ⟨by first | rfl | simp [*], S05.out.trans ((S6.out.trans (hW.out.mono S6.out.size)).mono S05.out.size)⟩

end Go.Proofs.Ytfdceninhieheaa.Tru
