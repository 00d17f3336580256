/- TrustMore: its walk straight to its answer, true. -/
import Derived.Test.YtfdceninhieheaaGTru
namespace Go.Proofs.Ytfdceninhieheaa.Tru
open Go Go.RowKit Go.Maps Go.Proofs.Ytfdceninhieheaa.Reg Go.Proofs.Ytfdceninhieheaa.QTrust Go.Proofs.Ytfdceninhieheaa.TrS Go.Proofs.Ytfdceninhieheaa.SignMath Go.Proofs.YtfdceninhieheaaW.PrintWords Go.Proofs.YtfdceninhieheaaW.PrintLast Go.Proofs.YtfdceninhieheaaW.PrintMore
set_option linter.unusedVariables false
set_option linter.unusedSimpArgs false

theorem certs20 (A0 : Option Addr) (c0 : Nat) (l : List Int) (w : World) (hr : Kd.C (Kd.int .i64) w A0 l.length l) (hc : l.length ≤ c0) :
    Calls Try.prog 25 #[.slice A0 l.length c0, .int .i64 20] w fun e w' => ∃ (cs : List S54) (A : Option Addr) (c : Nat), e = .returned (.slice A cs.length c) ∧ cs.length ≤ c ∧ cs.length ≤ 20 ∧ VCs cs ∧ Kd.C k54 w' A cs.length cs ∧ Below w.heap.size w w' := certs_calls A0 c0 l 20 w hr hc (Nat.le_refl _)
theorem certs1 (A0 : Option Addr) (c0 : Nat) (l : List Int) (w : World) (hr : Kd.C (Kd.int .i64) w A0 l.length l) (hc : l.length ≤ c0) :
    Calls Try.prog 25 #[.slice A0 l.length c0, .int .i64 1] w fun e w' => ∃ (cs : List S54) (A : Option Addr) (c : Nat), e = .returned (.slice A cs.length c) ∧ cs.length ≤ c ∧ cs.length ≤ 1 ∧ VCs cs ∧ Kd.C k54 w' A cs.length cs ∧ Below w.heap.size w w' := certs_calls A0 c0 l 1 w hr hc (by decide)
theorem key1 (w : World) : Calls Try.prog 26 #[.int .i64 1] w fun e w' => e = .returned (.int .i64 (kE 1)) ∧ Drawn0 w w' := keyN 1 w (by decide) (by decide)

theorem first54 {w : World} {A : Option Addr} {c : S54} (h : Kd.C k54 w A [c].length [c]) : ∃ ad, A = some ad ∧ w.cell? ad = some (.int .i64 c.f0) ∧ w.cell? ⟨ad.block, ad.off + 1, none⟩ = some (.int .i64 c.f1) ∧ w.cell? ⟨ad.block, ad.off + 2, none⟩ = some (.int .i64 c.f2.f0) ∧ w.cell? ⟨ad.block, ad.off + 3, none⟩ = some (.int .i64 c.f2.f1) := by
  obtain ⟨ad, e, h0, h1, h2, h3⟩ := at_T54 h 0 (by decide) (show (0 : Int) < 1 by decide)
  have e0 : ad.add ((0 : Int).toNat * 4) = ad := by simp [Addr.add]
  rw [e0] at h0 h1 h2 h3
  exact ⟨ad, e, h0, h1, h2, h3⟩

set_option maxRecDepth 100000 in
set_option maxHeartbeats 16000000 in
theorem more_walk (A0 : Option Addr) (c0 : Nat) (l : List Int) (A1 : Option Addr) (c1 : Nat) (m : List Int) (w : World) (hr0 : Kd.C (Kd.int .i64) w A0 l.length l) (hc0 : l.length ≤ c0) (hr1 : Kd.C (Kd.int .i64) w A1 m.length m) (hc1 : m.length ≤ c1) :
    Calls Try.prog 11 #[.slice A0 l.length c0, .slice A1 m.length c1] w fun e w' => e = .returned (.bool true) ∧ Below w.heap.size w w' := by
  have hu43 := Try.underlying43
  have hu49 := Try.underlying49
  have hu54 := Try.underlying54
  have HR0 := Aside0.mk (And.intro hr0 hc0)
  have HR1 := Aside0.mk (And.intro hr1 hc1)
  clear hr0 hc0 hr1 hc1
  go_enter Try.func11, Try.ntmps11
  go_upto_region 2 with (go_at_call 25; refine (certs20 A0 c0 l w HR0.out.1 HR0.out.2).mono ?_; rintro e w1 ⟨cs, A5, c5, rfl, k1, k2, k3, k4, hb⟩; have HC := Aside0.mk (And.intro k1 k4); have HV := Aside0.mk (And.intro k2 k3); have S0 := Aside0.mk hb; clear k1 k2 k3 k4 hb)
  go_upto_region 3 with (go_at_call 25; refine (certs1 A1 c1 m w1 (Kd.C_below HR1.out.1 S0.out) HR1.out.2).mono ?_; rintro e w2 ⟨ds, A6, c6, rfl, k1, k2, k3, k4, hb⟩; have HD := Aside0.mk (And.intro k1 k4); have HW := Aside0.mk (And.intro k2 k3); have S1 := Aside0.mk hb; clear k1 k2 k3 k4 hb)
  go_upto_region 4 with (go_at_call 26; refine (key1 w2).mono ?_; rintro e w3 ⟨rfl, ⟨m3, rfl⟩⟩)
  obtain ⟨root, hroot⟩ : ∃ r, r = kE 1 := ⟨_, rfl⟩
  have HRe := Aside0.mk (fun (es : List S54) A c w hr hc hl hv => reachedC 1 (by decide) (by decide) A c es w hr hc hl hv)
  rw [← hroot] at HRe ⊢
  have HRt := Aside0.mk hroot
  clear hroot
  obtain ⟨w3, hw3⟩ : ∃ w3, w3 = w2.drewN m3 := ⟨_, rfl⟩
  have S2 := Aside0.mk (show Below w2.heap.size w2 w3 by rw [hw3]; exact pw_below_drewN (Below.refl _ _) _)
  rw [← hw3]
  clear hw3
  go_upto_region 5 with (go_at_call 29; refine (HRe.out cs A5 c5 w3 (Kd.C_below HC.out.2 (S1.out.trans (S2.out.mono S1.out.size))) HC.out.1 (by have := HV.out.1; omega) HV.out.2).mono ?_; rintro e w4 ⟨A8, c8, rfl, k1, k2, hb⟩; have HX := Aside0.mk (And.intro k1 k2); have S3 := Aside0.mk hb; clear k1 k2 hb)
  have S14 := Aside0.mk (S1.out.trans ((S2.out.trans (S3.out.mono S2.out.size)).mono S1.out.size))
  have S24 := Aside0.mk (S2.out.trans (S3.out.mono S2.out.size))
  have HC4 := Aside0.mk (Kd.C_below HC.out.2 S14.out)
  have HD4 := Aside0.mk (Kd.C_below HD.out.2 S24.out)
  have HL := Aside0.mk (show (cs ++ ds).length ≤ 21 by rw [List.length_append]; have := HV.out.1; have := HW.out.1; omega)
  go_upto_region 6 with (first
    | ((with_reducible refine gate_builtin (b := .append) (xs := #[.const _, .tmp 26]) rfl ?_); at_builtin; refine Kd.R_append_rows k54 (w0 := w4) w4.heap.size rfl (.const (.slice none 0 0)) (.tmp 26) 49 54 _ _ rfl Try.underlying49 info54 rfl (by decide) (by omega) (.slice none 0 0) ([] : List S54) cs _ _ _ (fun _ => True) (fun _ => False) rfl rfl (Kd.R_nil _ _ _ _ _) HC4.out (fun x cs h => by rw [k54_open h]; exact k54_mkM _ _ _ x) (fun _ h => h.elim) (fun _ _ => trivial) (Below.refl _ _) (Nat.le_refl _) (by have := HV.out.1; simp; omega) ?_; intro v1 wa ho hb _ _; obtain ⟨Aa, ca, rfl⟩ := Kd.R_slice ho; have HCa := Aside0.mk ho; have HBa := Aside0.mk hb; clear ho hb)
    | ((with_reducible refine gate_builtin (b := .append) (xs := #[.tmp 27, .tmp 28]) rfl ?_); at_builtin; refine Kd.R_append_rows k54 (w0 := w4) w4.heap.size rfl (.tmp 27) (.tmp 28) 49 54 _ _ rfl Try.underlying49 info54 rfl (by decide) (by omega) (.slice Aa cs.length ca) cs ds _ _ _ (fun _ => True) (fun _ => False) rfl rfl HCa.out (Kd.C_below HD4.out HBa.out) (fun x cs h => by rw [k54_open h]; exact k54_mkM _ _ _ x) (fun _ h => h.elim) (fun _ _ => trivial) HBa.out HBa.out.size (by have := HV.out.1; have := HW.out.1; simp; omega) ?_; intro v1 wb ho hb _ _; obtain ⟨es, hes⟩ : ∃ es, es = cs ++ ds := ⟨_, rfl⟩; rw [← hes] at ho; obtain ⟨Ab, cb, rfl⟩ := Kd.R_slice ho; have HEs := Aside0.mk hes; have HCb := Aside0.mk ho; have HBb := Aside0.mk hb; clear ho hb hes)
    | (go_at_call 29; refine (HRe.out es Ab cb wb (Kd.R_reads' HCb.out).2.2 (Kd.R_reads' HCb.out).2.1 (by rw [HEs.out]; have := HL.out; omega) (by rw [HEs.out]; exact HV.out.2.append HW.out.2)).mono ?_; rintro e w5 ⟨A9, c9, rfl, k1, k2, hb⟩; have HY := Aside0.mk (And.intro k1 k2); have S4 := Aside0.mk (HBb.out.trans (hb.mono HBb.out.size)); clear k1 k2 hb))
  clear HCa HBa HCb HBb HRe
  have hxl := keys_length cs root (by have := HV.out.1; omega)
  have hyl := keys_length es root (by rw [HEs.out]; have := HL.out; omega)
  obtain ⟨xs, hxs⟩ : ∃ x, x = keysOf (Rof cs root) := ⟨_, rfl⟩
  obtain ⟨ys, hys⟩ : ∃ x, x = keysOf (Rof es root) := ⟨_, rfl⟩
  rw [← hxs] at HX hxl ⊢
  rw [← hys] at HY hyl ⊢
  have HXs := Aside0.mk hxs
  have HYs := Aside0.mk hys
  have HXl := Aside0.mk hxl
  have HYl := Aside0.mk hyl
  have HSub := Aside0.mk (show ∀ k ∈ xs, k ∈ ys from fun k hk => by
    rw [HXs.out] at hk
    rw [HYs.out, mem_keys, HEs.out]
    exact more_has (by have := HL.out; omega) (mem_keys.1 hk))
  clear hxs hys hxl hyl
  go_upto_region 8 with (go_at_call 20; refine (sure_calls w5).mono ?_; rintro e w6 ⟨rfl, hb⟩; have S5 := Aside0.mk hb; clear hb)
  have S46 := Aside0.mk (S4.out.trans (S5.out.mono S4.out.size))
  have HX6 := Aside0.mk (Kd.C_below HX.out.2 S46.out)
  have HY6 := Aside0.mk (Kd.C_below HY.out.2 S5.out)
  have HD6 := Aside0.mk (Kd.C_below HD4.out S46.out)
  have HEnd := Aside0.mk (S0.out.trans ((S14.out.trans (S46.out.mono S14.out.size)).mono S0.out.size))
  clear S46 S4 S5 S14 S24 S2 S3 S1 S0 HC4 HD4
  go_wp2
  go_loopg [12] xs.length (fun kq v12 wr => ∃ (i : Nat), v12 = .int .i64 i ∧ Aside0 (kq + i = xs.length) ∧ Drawn0 w6 wr)
  case atStart => exact ⟨0, rfl, ⟨by omega⟩, Drawn0.refl _⟩
  case round =>
    obtain ⟨i, rfl, hK, ⟨nd, rfl⟩⟩ := hrel
    by_cases hlt : i < xs.length
    · have hi1 : (i : Int) < (xs.length : Int) := by omega
      have hi0 : (0 : Int) ≤ (i : Int) := by omega
      have hwi : IntKind.i64.wrap ((i : Int) + 1) = (i : Int) + 1 := by have h1 := HXl.out; rw [IntKind.wrap_i64]; omega
      obtain ⟨ad, hA8, hx0⟩ := ints_at HX6.out i hlt
      subst hA8
      have hmem : decide (xs[i] ∈ ys) = true := decide_eq_true (HSub.out _ (List.getElem_mem hlt))
      generalize xs[i] = x at hx0 hmem
      go_wp2_with (go_at_call 30; refine (hasInt_calls A9 c9 ys x _ (Kd.C_drewN HY6.out _) HY.out.1 (by have := HYl.out; omega)).mono ?_; rintro e w7 ⟨rfl, ⟨m7, rfl⟩⟩)
      go_roundg (gk - 1)
      case measure => have := hK.out; omega
      case rel => exact ⟨i + 1, by go_num, ⟨by have := hK.out; omega⟩, by repeat (first | exact Drawn0.refl _ | apply Drawn0.step)⟩
    · have hib : decide ((i : Int) < (xs.length : Int)) = false := decide_eq_false (by omega)
      have hW7 := Aside0.mk (show Below w6.heap.size w6 (w6.drewN nd) from pw_below_drewN (Below.refl _ _) _)
      by_cases hd0 : ds = []
      · have HSame := Aside0.mk (show xs = ys by rw [HXs.out, HYs.out, HEs.out, hd0, List.append_nil])
        have hl0 : ds.length = 0 := by rw [hd0]; rfl
        have hxy : decide (xs = ys) = true := decide_eq_true HSame.out
        clear hd0
        go_wp2_with (go_at_call 31; refine (sameInts_calls A8 A9 c8 c9 xs ys _ (Kd.C_below HX6.out hW7.out) HX.out.1 (Kd.C_below HY6.out hW7.out) HY.out.1 (by have := HXl.out; omega)).mono ?_; rintro e w7 ⟨rfl, ⟨m7, rfl⟩⟩)
        go_ret
        exact ⟨by first | rfl | rw [hxy], HEnd.out.trans ((by repeat (first | exact Below.refl _ _ | apply pw_below_drewN) : Below w6.heap.size w6 _).mono HEnd.out.size)⟩
      · obtain ⟨c, hc⟩ : ∃ c, ds = [c] := by
          match ds, hd0, HW.out.1 with
          | [c], _, _ => exact ⟨c, rfl⟩
          | a :: b :: l, _, h => simp at h
        subst hc
        obtain ⟨a6, hA6, hz0, hz1, hz2, hz3⟩ := first54 HD6.out
        subst hA6
        have hl1 : decide (([c] : List S54).length = 0) = false := by simp
        have HT := Aside0.mk (HW.out.2 c (List.mem_singleton.2 rfl)).told
        have HXs' := HXs
        have HEq := Aside0.mk (show es = cs ++ [c] from HEs.out)
        have HCl := Aside0.mk (show cs.length ≤ 59 by have := HV.out.1; omega)
        obtain ⟨c0, c1', ⟨c2, c3⟩⟩ := c
        dsimp only at hz0 hz1 hz2 hz3
        clear hl1 hd0
        have hL1 : ([(⟨c0, c1', ⟨c2, c3⟩⟩ : S54)]).length = 1 := rfl
        generalize hw7 : w6.drewN nd = w7 at hW7 ⊢
        have kz0 := pw_cell_below hW7.out hz0
        have kz1 := pw_cell_below hW7.out hz1
        have kz2 := pw_cell_below hW7.out hz2
        have kz3 := pw_cell_below hW7.out hz3
        by_cases hg : goodB ⟨c0, c1', ⟨c2, c3⟩⟩ = true
        · have HGd := Aside0.mk hg
          by_cases hx : c0 ∈ xs
          · have HXin := Aside0.mk hx
            have hxd : decide (c0 ∈ xs) = true := decide_eq_true hx
            have hxy : decide (c1' ∈ ys) = true := decide_eq_true (by
              rw [HYs.out, mem_keys, HEq.out]
              exact more_new HCl.out hg (mem_keys.1 (by rw [← HXs.out]; exact hx)))
            clear hg hx
            go_wp2_with (first
              | (go_at_call 28; refine (good_calls goodB ⟨c0, c1', ⟨c2, c3⟩⟩ HT.out w7).mono ?_; rintro e w8 ⟨z, rfl, hz, hb⟩; have hzg : (z == 0) = true := hz.trans HGd.out; have hzn : (z != 0) = false := (by rw [bne, hzg]; rfl); have HB8 := Aside0.mk (hW7.out.trans (hb.mono hW7.out.size)); have kz0 := pw_cell_below HB8.out hz0; have kz1 := pw_cell_below HB8.out hz1; have kz2 := pw_cell_below HB8.out hz2; have kz3 := pw_cell_below HB8.out hz3; clear hz hb)
              | (have _q := HXin; go_at_call 30; refine (hasInt_calls A8 c8 xs c0 _ (Kd.C_below HX6.out HB8.out) HX.out.1 (by have := HXl.out; omega)).mono ?_; rintro e w9 ⟨rfl, ⟨m9, rfl⟩⟩; clear HXin _q)
              | (go_at_call 30; refine (hasInt_calls A9 c9 ys c1' _ (Kd.C_drewN (Kd.C_below HY6.out HB8.out) _) HY.out.1 (by have := HYl.out; omega)).mono ?_; rintro e w9 ⟨rfl, ⟨m10, rfl⟩⟩))
            go_ret
            exact ⟨by first | rfl | rw [hxy], HEnd.out.trans ((by repeat (first | exact HB8.out | apply pw_below_drewN) : Below w6.heap.size w6 _).mono HEnd.out.size)⟩
          · have HSame := Aside0.mk (show xs = ys by rw [HXs.out, HYs.out, HEq.out]; exact more_same HCl.out (.inr (fun h => hx (by rw [HXs.out]; exact mem_keys.2 h))))
            have hxy : decide (xs = ys) = true := decide_eq_true HSame.out
            have hxd : decide (c0 ∈ xs) = false := decide_eq_false hx
            clear hg hx
            go_wp2_with (first
              | (go_at_call 28; refine (good_calls goodB ⟨c0, c1', ⟨c2, c3⟩⟩ HT.out w7).mono ?_; rintro e w8 ⟨z, rfl, hz, hb⟩; have hzg : (z == 0) = true := hz.trans HGd.out; have hzn : (z != 0) = false := (by rw [bne, hzg]; rfl); have HB8 := Aside0.mk (hW7.out.trans (hb.mono hW7.out.size)); have kz0 := pw_cell_below HB8.out hz0; have kz1 := pw_cell_below HB8.out hz1; have kz2 := pw_cell_below HB8.out hz2; have kz3 := pw_cell_below HB8.out hz3; clear hz hb)
              | (go_at_call 30; refine (hasInt_calls A8 c8 xs c0 _ (Kd.C_below HX6.out HB8.out) HX.out.1 (by have := HXl.out; omega)).mono ?_; rintro e w9 ⟨rfl, ⟨m9, rfl⟩⟩)
              | (go_at_call 31; refine (sameInts_calls A8 A9 c8 c9 xs ys _ (Kd.C_drewN (Kd.C_below HX6.out HB8.out) _) HX.out.1 (Kd.C_drewN (Kd.C_below HY6.out HB8.out) _) HY.out.1 (by have := HXl.out; omega)).mono ?_; rintro e w9 ⟨rfl, ⟨m10, rfl⟩⟩))
            go_ret
            exact ⟨by first | rfl | rw [hxy], HEnd.out.trans ((by repeat (first | exact HB8.out | apply pw_below_drewN) : Below w6.heap.size w6 _).mono HEnd.out.size)⟩
        · have hgf : goodB ⟨c0, c1', ⟨c2, c3⟩⟩ = false := by simpa using hg
          have HGd := Aside0.mk hgf
          have HSame := Aside0.mk (show xs = ys by rw [HXs.out, HYs.out, HEq.out]; exact more_same HCl.out (.inl hgf))
          have hxy : decide (xs = ys) = true := decide_eq_true HSame.out
          clear hg hgf
          go_wp2_with (first
              | (go_at_call 28; refine (good_calls goodB ⟨c0, c1', ⟨c2, c3⟩⟩ HT.out w7).mono ?_; rintro e w8 ⟨z, rfl, hz, hb⟩; have hzg : (z == 0) = false := hz.trans HGd.out; have hzn : (z != 0) = true := (by rw [bne, hzg]; rfl); have HB8 := Aside0.mk (hW7.out.trans (hb.mono hW7.out.size)); clear hz hb)
              | (go_at_call 31; refine (sameInts_calls A8 A9 c8 c9 xs ys _ (Kd.C_below HX6.out HB8.out) HX.out.1 (Kd.C_below HY6.out HB8.out) HY.out.1 (by have := HXl.out; omega)).mono ?_; rintro e w9 ⟨rfl, ⟨m10, rfl⟩⟩))
          go_ret
          exact ⟨by first | rfl | rw [hxy], HEnd.out.trans ((by repeat (first | exact HB8.out | apply pw_below_drewN) : Below w6.heap.size w6 _).mono HEnd.out.size)⟩

end Go.Proofs.Ytfdceninhieheaa.Tru
