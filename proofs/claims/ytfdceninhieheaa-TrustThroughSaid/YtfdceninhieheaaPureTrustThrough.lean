/- TrustThrough: its walk straight to its answer, true. -/
import Derived.Test.YtfdceninhieheaaGTru
namespace Go.Proofs.Ytfdceninhieheaa.Tru
open Go Go.RowKit Go.Maps Go.Proofs.Ytfdceninhieheaa.Reg Go.Proofs.Ytfdceninhieheaa.QTrust Go.Proofs.Ytfdceninhieheaa.TrS Go.Proofs.Ytfdceninhieheaa.SignMath Go.Proofs.YtfdceninhieheaaW.PrintWords Go.Proofs.YtfdceninhieheaaW.PrintLast Go.Proofs.YtfdceninhieheaaW.PrintMore
set_option linter.unusedVariables false
set_option linter.unusedSimpArgs false

theorem tcerts20 (A0 : Option Addr) (c0 : Nat) (l : List Int) (w : World) (hr : Kd.C (Kd.int .i64) w A0 l.length l) (hc : l.length ≤ c0) :
    Calls Try.prog 25 #[.slice A0 l.length c0, .int .i64 20] w fun e w' => ∃ (cs : List S54) (A : Option Addr) (c : Nat), e = .returned (.slice A cs.length c) ∧ cs.length ≤ c ∧ cs.length ≤ 20 ∧ VCs cs ∧ Kd.C k54 w' A cs.length cs ∧ Below w.heap.size w w' := certs_calls A0 c0 l 20 w hr hc (Nat.le_refl _)
theorem tkey1 (w : World) : Calls Try.prog 26 #[.int .i64 1] w fun e w' => e = .returned (.int .i64 (kE 1)) ∧ Drawn0 w w' := keyN 1 w (by decide) (by decide)
theorem picked_nat (x : Int) (n : Nat) (w : World) (h0 : 0 < n) (h1 : n ≤ 1000000) : Calls Try.prog 15 #[.int .i64 x, .int .i64 (n : Int)] w fun e w' => ∃ j : Nat, j < n ∧ (j : Int) = x % (n : Int) ∧ e = .returned (.int .i64 (j : Int)) ∧ Drawn0 w w' := by
  have h2 := Int.emod_nonneg x (show (n : Int) ≠ 0 by omega)
  have h3 := Int.emod_lt_of_pos x (show (0 : Int) < n by omega)
  refine (picked_any x n w (by omega) (by omega)).mono fun e w' ⟨he, hd⟩ => ⟨(x % (n : Int)).toNat, by omega, by omega, ?_, hd⟩
  rw [Int.toNat_of_nonneg h2]; exact he

set_option maxRecDepth 100000 in
set_option maxHeartbeats 16000000 in
theorem through_walk (A0 : Option Addr) (c0 : Nat) (l : List Int) (at_ : Int) (w : World) (hr0 : Kd.C (Kd.int .i64) w A0 l.length l) (hc0 : l.length ≤ c0) :
    Calls Try.prog 12 #[.slice A0 l.length c0, .int .i64 at_] w fun e w' => e = .returned (.bool true) ∧ Below w.heap.size w w' := by
  have hu43 := Try.underlying43
  have hu49 := Try.underlying49
  have hu54 := Try.underlying54
  have HR0 := Aside0.mk (And.intro hr0 hc0)
  clear hr0 hc0
  go_enter Try.func12, Try.ntmps12
  go_upto_region 2 with (go_at_call 25; refine (tcerts20 A0 c0 l w HR0.out.1 HR0.out.2).mono ?_; rintro e w1 ⟨cs, A5, c5, rfl, k1, k2, k3, k4, hb⟩; have HC := Aside0.mk (And.intro k1 k4); have HV := Aside0.mk (And.intro k2 k3); have S0 := Aside0.mk hb; clear k1 k2 k3 k4 hb)
  have HRe := Aside0.mk (fun a h0 h1 A c w hr hc => reachedC a h0 h1 A c cs w hr hc (by have := HV.out.1; omega) HV.out.2)
  go_upto_region 3 with (first
    | (go_at_call 26; refine (tkey1 w1).mono ?_; rintro e w2 ⟨rfl, ⟨m2, rfl⟩⟩)
    | (go_at_call 29; refine (HRe.out 1 (by decide) (by decide) A5 c5 _ (Kd.C_drewN HC.out.2 _) HC.out.1).mono ?_; rintro e w3 ⟨A8, c8, rfl, k1, k2, hb⟩; have HX := Aside0.mk (And.intro k1 k2); have S1 := Aside0.mk ((pw_below_drewN (Below.refl _ _) _ : Below w1.heap.size w1 _).trans (hb.mono (Nat.le_refl _))); clear k1 k2 hb))
  have hxl := keys_length cs (kE 1) (by have := HV.out.1; omega)
  obtain ⟨xs, hxs⟩ : ∃ x, x = keysOf (Rof cs (kE 1)) := ⟨_, rfl⟩
  have hmx : ∀ k, k ∈ xs ↔ Has (Rof cs (kE 1)) k := fun k => by rw [hxs]; exact mem_keys
  rw [← hxs] at HX hxl ⊢
  have hx0 : 0 < xs.length := List.length_pos_of_mem ((hmx (kE 1)).2 ((has_iff (by have := HV.out.1; omega)).2 ⟨0, .here⟩))
  have hxz : ((xs.length : Int) == 0) = false := beq_eq_false_iff_ne.2 (by omega)
  have hxz2 : (xs.length = 0) = False := eq_false (by omega)
  have HXl := Aside0.mk (And.intro hx0 hxl)
  have HMx := Aside0.mk hmx
  clear hxs hxl hmx hx0
  go_upto_region 5 with (go_at_call 20; refine (sure_calls w3).mono ?_; rintro e w4 ⟨rfl, hb⟩; have S2 := Aside0.mk hb; clear hb)
  have HX4 := Aside0.mk (Kd.C_below HX.out.2 S2.out)
  have S14 := Aside0.mk (S1.out.trans (S2.out.mono S1.out.size))
  have HC4 := Aside0.mk (Kd.C_below HC.out.2 S14.out)
  go_upto_region 6 with (first
    | (go_at_call 15; refine (picked_nat at_ xs.length w4 HXl.out.1 (by have := HXl.out.2; omega)).mono ?_; rintro e w5 ⟨j, hj, -, rfl, ⟨m5, rfl⟩⟩; have hj0 : (0 : Int) ≤ (j : Int) := (by omega); have hj1 : (j : Int) < (xs.length : Int) := (by omega); obtain ⟨ad, hA8, hv0⟩ := ints_at HX4.out j hj; subst hA8; obtain ⟨b, hb0, hb1, hbe⟩ := has_key (by decide) (by decide) (by have := HV.out.1; omega) HV.out.2 ((HMx.out xs[j]).1 (List.getElem_mem hj)); have HVin := Aside0.mk ((HMx.out xs[j]).1 (List.getElem_mem hj)); rw [hbe] at hv0 HVin; have HBb := Aside0.mk (And.intro hb0 hb1); clear hb0 hb1 hbe)
    | (go_at_call 29; refine (HRe.out b HBb.out.1 HBb.out.2 A5 c5 _ (Kd.C_drewN HC4.out _) HC.out.1).mono ?_; rintro e w6 ⟨A9, c9, rfl, k1, k2, hb⟩; have HY := Aside0.mk (And.intro k1 k2); have S3 := Aside0.mk ((pw_below_drewN (Below.refl _ _) _ : Below w4.heap.size w4 _).trans (hb.mono (Nat.le_refl _))); clear k1 k2 hb))
  have hyl := keys_length cs (kE b) (by have := HV.out.1; omega)
  obtain ⟨ys, hys⟩ : ∃ x, x = keysOf (Rof cs (kE b)) := ⟨_, rfl⟩
  have hsub : ∀ k ∈ ys, k ∈ xs := fun k hk => by
    rw [hys] at hk
    exact (HMx.out k).2 (through (by have := HV.out.1; omega) HVin.out (mem_keys.1 hk))
  rw [← hys] at HY hyl ⊢
  have HYl := Aside0.mk hyl
  have HSub := Aside0.mk hsub
  have HX6 := Aside0.mk (Kd.C_below HX4.out S3.out)
  have HEnd := Aside0.mk (S0.out.trans ((S14.out.trans (S3.out.mono S14.out.size)).mono S0.out.size))
  clear hys hyl hsub hv0 hj0 hj1 hj
  go_wp2
  go_loopg [10] ys.length (fun kq v10 wr => ∃ (i : Nat), v10 = .int .i64 i ∧ Aside0 (kq + i = ys.length) ∧ Drawn0 w6 wr)
  case atStart => exact ⟨0, rfl, ⟨by omega⟩, Drawn0.refl _⟩
  case round =>
    obtain ⟨i, rfl, hK, ⟨nd, rfl⟩⟩ := hrel
    by_cases hlt : i < ys.length
    · have hi1 : (i : Int) < (ys.length : Int) := by omega
      have hi0 : (0 : Int) ≤ (i : Int) := by omega
      have hwi : IntKind.i64.wrap ((i : Int) + 1) = (i : Int) + 1 := by have h1 := HYl.out; rw [IntKind.wrap_i64]; omega
      obtain ⟨ay, hA9, hy0⟩ := ints_at HY.out.2 i hlt
      subst hA9
      have hmem : decide (ys[i] ∈ xs) = true := decide_eq_true (HSub.out _ (List.getElem_mem hlt))
      generalize ys[i] = y at hy0 hmem
      go_wp2_with (go_at_call 30; refine (hasInt_calls (some ad) c8 xs y _ (Kd.C_drewN HX6.out _) HX.out.1 (by have := HXl.out.2; omega)).mono ?_; rintro e w7 ⟨rfl, ⟨m7, rfl⟩⟩)
      go_roundg (gk - 1)
      case measure => have := hK.out; omega
      case rel => exact ⟨i + 1, by go_num, ⟨by have := hK.out; omega⟩, by repeat (first | exact Drawn0.refl _ | apply Drawn0.step)⟩
    · have hib : ¬ (i : Int) < (ys.length : Int) := by omega
      go_wp2
      go_ret
      exact ⟨rfl, HEnd.out.trans ((by repeat (first | exact Below.refl _ _ | apply pw_below_drewN) : Below w6.heap.size w6 _).mono HEnd.out.size)⟩

end Go.Proofs.Ytfdceninhieheaa.Tru
