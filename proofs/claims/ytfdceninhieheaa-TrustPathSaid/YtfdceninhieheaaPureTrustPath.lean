/- TrustPath: its walk straight to its answer, true. -/
import Derived.Test.YtfdceninhieheaaGTru
import Derived.StillTailTactics
namespace Go.Proofs.Ytfdceninhieheaa.Tru
open Go Go.RowKit Go.Maps Go.Proofs.Ytfdceninhieheaa.Reg Go.Proofs.Ytfdceninhieheaa.QTrust Go.Proofs.Ytfdceninhieheaa.TrS Go.Proofs.Ytfdceninhieheaa.SignMath Go.Proofs.YtfdceninhieheaaW.PrintWords Go.Proofs.YtfdceninhieheaaW.PrintLast Go.Proofs.YtfdceninhieheaaW.PrintMore
set_option linter.unusedVariables false
set_option linter.unusedSimpArgs false

theorem pcerts20 (A0 : Option Addr) (c0 : Nat) (l : List Int) (w : World) (hr : Kd.C (Kd.int .i64) w A0 l.length l) (hc : l.length ≤ c0) :
    Calls Try.prog 25 #[.slice A0 l.length c0, .int .i64 20] w fun e w' => ∃ (cs : List S54) (A : Option Addr) (c : Nat), e = .returned (.slice A cs.length c) ∧ cs.length ≤ c ∧ cs.length ≤ 20 ∧ VCs cs ∧ Kd.C k54 w' A cs.length cs ∧ Below w.heap.size w w' := certs_calls A0 c0 l 20 w hr hc (Nat.le_refl _)
theorem pkey1 (w : World) : Calls Try.prog 26 #[.int .i64 1] w fun e w' => e = .returned (.int .i64 (kE 1)) ∧ Drawn0 w w' := keyN 1 w (by decide) (by decide)
theorem hasInt_take (A : Option Addr) (c i : Nat) (l : List Int) (n : Int) (w : World) (hr : Kd.C (Kd.int .i64) w A l.length l) (hi : i ≤ l.length) (hc : i ≤ c) (hl : l.length ≤ 1000) :
    Calls Try.prog 30 #[.slice A i c, .int .i64 n] w fun e w' => e = .returned (.bool (decide (n ∈ l.take i))) ∧ Drawn0 w w' := by
  have hlen : (l.take i).length = i := by rw [List.length_take]; omega
  have h := hasInt_calls A c (l.take i) n w (Kd.C_take hr hi) (by omega) (by omega)
  rw [hlen] at h
  exact h

/-- Is there such a good cert among the first j? -/
def anyTo (cs : List S54) (a b : Int) (j : Nat) : Bool := (cs.take j).any fun c => decide (c.f0 = a) && decide (c.f1 = b) && goodB c
theorem anyTo_succ (cs : List S54) (a b : Int) (j : Nat) (hj : j < cs.length) : anyTo cs a b (j + 1) = (anyTo cs a b j || (decide (cs[j].f0 = a) && decide (cs[j].f1 = b) && goodB cs[j])) := by
  unfold anyTo; rw [List.take_succ_eq_append_getElem hj, List.any_append]; simp
theorem anyTo_all (cs : List S54) (a b : Int) (h : b ∈ adj cs a) : anyTo cs a b cs.length = true := by
  obtain ⟨c, hc, h1, h2, h3⟩ := mem_adj.1 h
  unfold anyTo
  rw [List.take_length]
  exact List.any_eq_true.2 ⟨c, hc, by simp [h1, h2, h3]⟩

set_option maxRecDepth 100000 in
set_option maxHeartbeats 16000000 in
theorem path_walk (A0 : Option Addr) (c0 : Nat) (l : List Int) (key : Int) (w : World) (hr0 : Kd.C (Kd.int .i64) w A0 l.length l) (hc0 : l.length ≤ c0) :
    Calls Try.prog 13 #[.slice A0 l.length c0, .int .i64 key] w fun e w' => e = .returned (.bool true) ∧ Below w.heap.size w w' := by
  have hu43 := Try.underlying43
  have hu49 := Try.underlying49
  have hu54 := Try.underlying54
  have HR0 := Aside0.mk (And.intro hr0 hc0)
  obtain ⟨b, hb⟩ : ∃ b : Nat, b = (1 + key % 7).toNat := ⟨_, rfl⟩
  have HB := Aside0.mk (show 1 ≤ b ∧ b ≤ 10 by omega)
  have HWk := Aside0.mk (show IntKind.i64.wrap (1 + key % 7) = 1 + key % 7 by rw [IntKind.wrap_i64]; omega)
  have HKb := Aside0.mk (fun w => hb ▸ key6 (1 + key % 7) w (by omega) (by omega))
  clear hr0 hc0 hb
  go_enter Try.func13, Try.ntmps13
  go_upto_region 2 with (go_at_call 25; refine (pcerts20 A0 c0 l w HR0.out.1 HR0.out.2).mono ?_; rintro e w1 ⟨cs, A5, c5, rfl, k1, k2, k3, k4, hb⟩; have HC := Aside0.mk (And.intro k1 k4); have HV := Aside0.mk (And.intro k2 k3); have S0 := Aside0.mk hb; clear k1 k2 k3 k4 hb)
  go_upto_region 3 with (go_at_call 26; refine (pkey1 w1).mono ?_; rintro e w3 ⟨rfl, ⟨m3, rfl⟩⟩)
  have hWk := HWk.out
  go_upto_region 4 with (first
    | (go_at_call 15; refine (picked_any key 7 _ (by decide) (by decide)).mono ?_; rintro e w3 ⟨rfl, ⟨m4, rfl⟩⟩)
    | (go_at_call 26; refine (HKb.out _).mono ?_; rintro e w3 ⟨rfl, ⟨m5, rfl⟩⟩))
  obtain ⟨root, hroot⟩ : ∃ r, r = kE 1 := ⟨_, rfl⟩
  obtain ⟨kb, hkb⟩ : ∃ r, r = kE b := ⟨_, rfl⟩
  have HRe := Aside0.mk (fun (es : List S54) A c w hr hc hl hv => reachedC 1 (by decide) (by decide) A c es w hr hc hl hv)
  have HPa := Aside0.mk (fun (es : List S54) A c w hr hc hl hv => pathC 1 b (by decide) (by decide) HB.out.1 HB.out.2 A c es w hr hc hl hv)
  rw [← hroot] at HRe HPa ⊢
  rw [← hkb] at HPa ⊢
  clear hroot hkb hWk HWk HKb
  generalize hw2 : w1.drewN _ = w2
  have S1 := Aside0.mk (show Below w1.heap.size w1 w2 by rw [← hw2]; exact pw_below_drewN (Below.refl _ _) _)
  clear hw2
  go_upto_region 5 with (go_at_call 29; refine (HRe.out cs A5 c5 w2 (Kd.C_below HC.out.2 S1.out) HC.out.1 (by have := HV.out.1; omega) HV.out.2).mono ?_; rintro e w3 ⟨A8, c8, rfl, k1, k2, hb⟩; have HX := Aside0.mk (And.intro k1 k2); have S2 := Aside0.mk hb; clear k1 k2 hb)
  have S13 := Aside0.mk (S1.out.trans (S2.out.mono S1.out.size))
  have HC3 := Aside0.mk (Kd.C_below HC.out.2 S13.out)
  go_upto_region 6 with (first
    | ((with_reducible refine gate_builtin (b := .append) (xs := #[.const _, .tmp 31]) rfl ?_); at_builtin; refine Kd.R_append_rows k54 (w0 := w3) w3.heap.size rfl (.const (.slice none 0 0)) (.tmp 31) 49 54 _ _ rfl Try.underlying49 info54 rfl (by decide) (by omega) (.slice none 0 0) ([] : List S54) cs _ _ _ (fun _ => True) (fun _ => False) rfl rfl (Kd.R_nil _ _ _ _ _) HC3.out (fun x cs h => by rw [k54_open h]; exact k54_mkM _ _ _ x) (fun _ h => h.elim) (fun _ _ => trivial) (Below.refl _ _) (Nat.le_refl _) (by have := HV.out.1; simp; omega) ?_; intro v1 wa ho hb _ _; obtain ⟨Aa, ca, rfl⟩ := Kd.R_slice ho; have HCa := Aside0.mk ho; have HBa := Aside0.mk hb; clear ho hb)
    | (go_at_call 27; refine (HPa.out cs Aa ca wa (Kd.R_reads' HCa.out).2.2 (Kd.R_reads' HCa.out).2.1 (by have := HV.out.1; omega) HV.out.2).mono ?_; rintro e w4 ⟨A9, c9, rfl, k1, k2, hb⟩; have HP := Aside0.mk (And.intro k1 k2); have S3 := Aside0.mk (HBa.out.trans (hb.mono HBa.out.size)); clear k1 k2 hb))
  clear HCa HBa HRe HPa
  have hxl := keys_length cs root (by have := HV.out.1; omega)
  have HCases := Aside0.mk (path_cases (cs := cs) (root := root) (key := kb) (by have := HV.out.1; omega))
  obtain ⟨xs, hxs⟩ : ∃ x, x = keysOf (Rof cs root) := ⟨_, rfl⟩
  have hmx : ∀ k, k ∈ xs ↔ Has (Rof cs root) k := fun k => by rw [hxs]; exact mem_keys
  rw [← hxs] at HX hxl ⊢
  have HXl := Aside0.mk hxl
  have HMx := Aside0.mk hmx
  clear hxs hxl hmx
  have HX4 := Aside0.mk (Kd.C_below HX.out.2 S3.out)
  have HC4 := Aside0.mk (Kd.C_below HC3.out S3.out)
  have S04 := Aside0.mk (S0.out.trans ((S13.out.trans (S3.out.mono S13.out.size)).mono S0.out.size))
  clear S0 S1 S2 S3 S13 HC HC3
  rcases HCases.out with ⟨hn, he⟩ | ⟨hk, d, p, he, hd, hg⟩
  · rw [he] at HP ⊢
    have hin : decide (kb ∈ xs) = false := decide_eq_false (fun h => hn ((HMx.out kb).1 h))
    clear hn he
    go_wp2_with (first
      | (go_at_call 20; refine (sure_calls w4).mono ?_; rintro e w5 ⟨rfl, hb⟩; have S4 := Aside0.mk hb; clear hb)
      | (go_at_call 30; refine (hasInt_calls A8 c8 xs kb _ (Kd.C_below HX4.out S4.out) HX.out.1 (by have := HXl.out; omega)).mono ?_; rintro e w6 ⟨rfl, ⟨m6, rfl⟩⟩))
    go_ret
    exact ⟨rfl, S04.out.trans ((by repeat (first | exact S4.out | apply pw_below_drewN) : Below w4.heap.size w4 _).mono S04.out.size)⟩
  · rw [he] at HP ⊢
    dsimp only at HP ⊢
    have hin : decide (kb ∈ xs) = true := decide_eq_true ((HMx.out kb).2 hk)
    have hpl : p.length ≤ 61 := by
      have h1 := hd.small hk
      have h2 := (Rof_spec cs root (by have := HV.out.1; omega)).2
      rw [hg.len]; omega
    have hlen := hg.len
    obtain ⟨n, hn⟩ : ∃ n, n = d kb := ⟨_, rfl⟩
    rw [← hn] at hlen
    have HPl := Aside0.mk (And.intro hpl hlen)
    have HN := Aside0.mk hn
    have HGd := Aside0.mk hg
    have hp0 : 0 < p.length := by omega
    have hpn : n < p.length := by omega
    obtain ⟨ap, hA9, hq0⟩ := ints_at HP.out.2 0 hp0
    obtain ⟨ap', hA9', hqn⟩ := ints_at HP.out.2 n hpn
    subst hA9
    obtain rfl : ap = ap' := by cases hA9'; rfl
    have e0 : p[0] = root := by have h := hg.first; rw [List.getD_eq_getElem?_getD, List.getElem?_eq_getElem hp0] at h; exact h
    have en : p[n] = kb := by have h := hg.last; rw [← hn, List.getD_eq_getElem?_getD, List.getElem?_eq_getElem hpn] at h; exact h
    have ea : ap.add 0 = ap := by simp [Addr.add]
    rw [e0, ea] at hq0
    rw [en] at hqn
    have hpz : ((p.length : Int) == 0) = false := beq_eq_false_iff_ne.2 (by omega)
    have hpz2 : (p.length = 0) = False := eq_false (by omega)
    have hwl : IntKind.i64.wrap ((p.length : Int) - 1) = (n : Int) := by rw [IntKind.wrap_i64]; omega
    have hwl2 : wrap64 ((p.length : Int) - 1) = (n : Int) := by unfold wrap64; omega
    have hn0 : (0 : Int) ≤ (n : Int) := by omega
    have hnl : (n : Int) < (p.length : Int) := by omega
    have HQ := Aside0.mk (And.intro hq0 hqn)
    clear hpl hg hd hk he e0 en ea hn hA9' hlen
    go_upto_region 8 with (first
      | (go_at_call 20; refine (sure_calls w4).mono ?_; rintro e w5 ⟨rfl, hb⟩; have S4 := Aside0.mk hb; clear hb)
      | (go_at_call 30; refine (hasInt_calls A8 c8 xs kb _ (Kd.C_below HX4.out S4.out) HX.out.1 (by have := HXl.out; omega)).mono ?_; rintro e w6 ⟨rfl, ⟨m6, rfl⟩⟩))
    obtain ⟨w6, hw6⟩ : ∃ w6, w6 = w5.drewN m6 := ⟨_, rfl⟩
    have S46 := Aside0.mk (show Below w4.heap.size w4 w6 by rw [hw6]; exact pw_below_drewN S4.out _)
    rw [← hw6]
    clear hw6 S4
    have kq0 := pw_cell_below S46.out hq0
    have kqn := pw_cell_below S46.out hqn
    have HC6 := Aside0.mk (Kd.C_below HC4.out S46.out)
    have HP6 := Aside0.mk (Kd.C_below HP.out.2 S46.out)
    clear hq0 hqn
    go_wp2
    go_loopg [12] p.length (fun kq v12 wr => ∃ (i k : Nat), v12 = .int .i64 (i : Int) ∧ Aside0 (i = k + 1) ∧ Aside0 (kq + k = p.length) ∧ Aside0 (k < p.length) ∧ Aside0 (Below w6.heap.size w6 wr))
    case atStart => exact ⟨1, 0, rfl, ⟨rfl⟩, ⟨by omega⟩, ⟨hp0⟩, ⟨Below.refl _ _⟩⟩
    case round =>
      obtain ⟨i, k, rfl, hIK, hK, hKl, hW⟩ := hrel
      obtain ⟨W, hWe⟩ : ∃ W, W = wr := ⟨_, rfl⟩
      subst hWe
      obtain ⟨g1, hg1⟩ : ∃ g, g = gk := ⟨_, rfl⟩
      subst hg1
      have hik := hIK.out
      by_cases hlt : k + 1 < p.length
      · have hi1 : (i : Int) < (p.length : Int) := by omega
        have hi1n : i < p.length := by omega
        have hi0 : (0 : Int) ≤ (i : Int) := by omega
        have hk0 : (0 : Int) ≤ (k : Int) := by omega
        have hk1 : (k : Int) < (p.length : Int) := by omega
        have hk1n : k < p.length := by omega
        have hwk : IntKind.i64.wrap ((i : Int) - 1) = (k : Int) := by have h1 := HPl.out.1; rw [IntKind.wrap_i64]; omega
        have hwk2 : wrap64 ((i : Int) - 1) = (k : Int) := by have h1 := HPl.out.1; unfold wrap64; omega
        have hwi : IntKind.i64.wrap ((i : Int) + 1) = (i : Int) + 1 := by have h1 := HPl.out.1; rw [IntKind.wrap_i64]; omega
        have hEdge : p[k + 1] ∈ adj cs p[k] := by
          have h := HGd.out.edges k (by have := HPl.out.2; have := HN.out; omega)
          rw [List.getD_eq_getElem?_getD, List.getD_eq_getElem?_getD, List.getElem?_eq_getElem hlt, List.getElem?_eq_getElem hk1n] at h
          exact h
        have hNot : decide (p[k + 1] ∈ p.take (k + 1)) = false := decide_eq_false (fun h => by
          obtain ⟨j, hj, he⟩ := List.mem_iff_getElem.1 h
          rw [List.length_take] at hj
          rw [List.getElem_take] at he
          have h1 := HGd.out.apart (k + 1) (by have := HPl.out.2; have := HN.out; omega)
          have h2 := HGd.out.apart j (by have := HPl.out.2; have := HN.out; omega)
          rw [List.getD_eq_getElem?_getD, List.getElem?_eq_getElem hlt] at h1
          rw [List.getD_eq_getElem?_getD, List.getElem?_eq_getElem (show j < p.length by omega), he] at h2
          have h3 : d p[k + 1] = k + 1 := h1
          have h4 : d p[k + 1] = j := h2
          omega)
        obtain ⟨ap1, ha1, hq1⟩ := ints_at (Kd.C_below HP6.out hW.out) k hk1n
        obtain rfl : ap = ap1 := by cases ha1; rfl
        obtain ⟨ap2, ha2, hq2⟩ := ints_at (Kd.C_below HP6.out hW.out) (k + 1) hlt
        obtain rfl : ap = ap2 := by cases ha2; rfl
        have HAny := Aside0.mk (anyTo_all cs p[k] p[k + 1] hEdge)
        generalize p[k + 1] = y at hq2 hNot HAny
        rw [← hik] at hq2 hNot
        generalize p[k] = x at hq1 HAny
        have HQ12 := Aside0.mk (And.intro hq1 hq2)
        clear ha1 ha2 hEdge kq0 kqn hik hlt
        go_wp2
        go_loopg [13, 14] cs.length (fun kq v13 v14 wr => ∃ (j : Nat), v14 = .int .i64 j ∧ v13 = .bool (anyTo cs x y j) ∧ Aside0 (kq + j = cs.length) ∧ Aside0 (Below W.heap.size W wr))
        case atStart => exact ⟨0, rfl, rfl, ⟨by omega⟩, ⟨Below.refl _ _⟩⟩
        case round =>
          obtain ⟨j, rfl, rfl, hK2, hW2⟩ := hrel
          by_cases hjl : j < cs.length
          · have hj1 : (j : Int) < (cs.length : Int) := by omega
            have hj0 : (0 : Int) ≤ (j : Int) := by omega
            have hwj : IntKind.i64.wrap ((j : Int) + 1) = (j : Int) + 1 := by have h1 := HV.out.1; rw [IntKind.wrap_i64]; omega
            have hq1' := pw_cell_below hW2.out hq1
            have hq2' := pw_cell_below hW2.out hq2
            have hel : rd_T54 cs (j : Int) = cs[j] := by simp [rd_T54, List.getD_eq_getElem?_getD, hjl]
            have hT := (HV.out.2 _ (List.getElem_mem hjl)).told
            have hsucc := anyTo_succ cs x y j hjl
            obtain ⟨ad, rfl, hx0, hx1, hx2, hx3⟩ := at_T54 (Kd.C_below HC6.out (hW.out.trans (hW2.out.mono hW.out.size))) (j : Int) hj0 hj1
            rw [hel, Int.toNat_natCast] at hx0 hx1 hx2 hx3
            generalize cs[j] = c at hT hsucc hx0 hx1 hx2 hx3
            have HT := Aside0.mk hT
            have HSucc := Aside0.mk hsucc
            clear hT hsucc hel
            obtain ⟨f, t, ⟨r, s⟩⟩ := c
            dsimp only at *
            by_cases hany : anyTo cs x y j = true
            · have HS := Aside0.mk (show anyTo cs x y (j + 1) = true by rw [HSucc.out, hany]; rfl)
              rw [hany]
              go_wp2
              repeat (go_quiet (fail); try go_wp2)
              go_roundg (gk - 1)
              case measure => have := hK2.out; omega
              case rel => exact ⟨j + 1, by go_num, by rw [HS.out], ⟨by have := hK2.out; omega⟩, ⟨pw_below_drewN hW2.out _⟩⟩
            · have hanf : anyTo cs x y j = false := by simpa using hany
              rw [hanf]
              clear hany
              by_cases hf : f = x
              · have hfb : (f == x) = true := beq_iff_eq.2 hf
                by_cases ht : t = y
                · have htb : (t == y) = true := beq_iff_eq.2 ht
                  have HS := Aside0.mk (show anyTo cs x y (j + 1) = goodB ⟨f, t, ⟨r, s⟩⟩ by rw [HSucc.out, hanf]; simp [hf, ht])
                  clear hanf ht hf
                  go_wp2_with fail
                  go_still_tail 30, (by kernel_rfl)
                  change wpList _ _ _ _ _ wr.drew
                  go_wp2_with (go_at_call 28; refine (good_calls goodB ⟨f, t, ⟨r, s⟩⟩ HT.out _).mono ?_; rintro e w7 ⟨z, rfl, hz, hb⟩; have HZ := Aside0.mk hz; have HB7 := Aside0.mk (hW2.out.trans (((Below.refl _ _).drew.trans (hb.mono (Nat.le_refl _))).mono hW2.out.size)); clear hz hb)
                  go_roundg (gk - 1)
                  case measure => have := hK2.out; omega
                  case rel => exact ⟨j + 1, by go_num, by rw [HS.out, ← HZ.out], ⟨by have := hK2.out; omega⟩, HB7⟩
                · have htb : (t == y) = false := beq_eq_false_iff_ne.2 ht
                  have HS := Aside0.mk (show anyTo cs x y (j + 1) = false by rw [HSucc.out, hanf]; simp [ht])
                  clear hanf ht hf
                  go_wp2
                  repeat (go_quiet (fail); try go_wp2)
                  go_roundg (gk - 1)
                  case measure => have := hK2.out; omega
                  case rel => exact ⟨j + 1, by go_num, by rw [HS.out], ⟨by have := hK2.out; omega⟩, ⟨pw_below_drewN hW2.out _⟩⟩
              · have hfb : (f == x) = false := beq_eq_false_iff_ne.2 hf
                have HS := Aside0.mk (show anyTo cs x y (j + 1) = false by rw [HSucc.out, hanf]; simp [hf])
                clear hanf hf
                go_wp2
                repeat (go_quiet (fail); try go_wp2)
                go_roundg (gk - 1)
                case measure => have := hK2.out; omega
                case rel => exact ⟨j + 1, by go_num, by rw [HS.out], ⟨by have := hK2.out; omega⟩, ⟨pw_below_drewN hW2.out _⟩⟩
          · have hje : anyTo cs x y j = true := by
              have h1 : j = cs.length := by have := hK2.out; omega
              rw [h1]; exact HAny.out
            rw [hje]
            have hW3 := hW.out.trans (hW2.out.mono hW.out.size)
            have HW3 := Aside0.mk hW3
            have hq2' := pw_cell_below hW2.out hq2
            have hic : (i : Int) ≤ (c9 : Int) := by have := HP.out.1; omega
            have hicn : i ≤ c9 := by have := HP.out.1; omega
            have HI := Aside0.mk (show i ≤ p.length by omega)
            clear hje hW3
            go_wp2_with fail
            go_still_tail 10, (by kernel_rfl)
            change wpList _ _ _ _ _ wr.drew
            go_wp2_with (go_at_call 30; refine (hasInt_take ap c9 i p y _ (Kd.C_drew (Kd.C_below HP6.out HW3.out)) HI.out hicn (by have := HPl.out.1; omega)).mono ?_; rintro e w7 ⟨rfl, ⟨m7, rfl⟩⟩)
            go_roundg (g1 - 1)
            case measure => have := hK.out; have := hKl.out; omega
            case rel => exact ⟨i + 1, k + 1, by go_num, ⟨by have := hIK.out; omega⟩, ⟨by have := hK.out; have := hKl.out; omega⟩, ⟨by have := hIK.out; omega⟩, ⟨pw_below_drewN HW3.out _⟩⟩
      · have hi1 : ¬ (i : Int) < (p.length : Int) := by omega
        have hi1n : ¬ i < p.length := by omega
        go_wp2
        go_ret
        exact ⟨rfl, S04.out.trans ((S46.out.trans (hW.out.mono S46.out.size)).mono S04.out.size)⟩

end Go.Proofs.Ytfdceninhieheaa.Tru
