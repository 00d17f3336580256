/- Functions of the program as plain functions, and the walks that show it. Written by the session's own program pp.py. -/
import Derived.Test.YtmfkgbncnaingaaQRowsx0
import Derived.Test.YtmfkgbncnaingaaQRowsx4
namespace Go.Proofs.Ytmfkgbncnaingaa.QRows
open Go.RowKit Go.Proofs.YtmfkgbncnaingaaW.PrintWords Go.Proofs.YtmfkgbncnaingaaW.PrintLast Go.Proofs.YtmfkgbncnaingaaW.PrintMore
attribute [local go_sem] max2_int min2_int max_two min_two max_three min_three max_four min_four   -- for this text's walks alone
set_option linter.unusedVariables false
set_option linter.unusedSimpArgs false

/-! ### bagnallkeep_rowsOf: function 40 -/
def bagnallkeep_rowsOf.f (k : Nat) (l0 : List (S67)) : Option ((List (S67)) × Bool) := (bagnallkeep_copiedRows.f l0).bind fun t113 => ((rows_Set.f k ([] : List (S67)) t113).bind fun bt116 => ((rows_Set.f k ([] : List (S67)) (([(⟨(⟨#[107]⟩ : ByteArray), (⟨#[118]⟩ : ByteArray)⟩ : S67)] : List (S67)))).bind fun bt123 => (if bt116.2 = 0 then (if bt123.2 = 0 then (if (bt123.1.length : Int) = 1 then (if 0 < (bt123.1.length : Int) then (some (bt116.1, (((rd_T67 bt123.1 0).f1).toList == ([118] : List UInt8)))) else (none)) else (some (bt116.1, false))) else (some (bt116.1, false))) else (some (bt116.1, false)))))
theorem bagnallkeep_rowsOf.mono : ∀ a0 k, LeO (bagnallkeep_rowsOf.f k a0) (bagnallkeep_rowsOf.f (k + 1) a0) := by
  intro a0 k
  unfold bagnallkeep_rowsOf.f
  repeat' first
      | (with_reducible exact rows_Set.mono _ _ _)
      | (with_reducible exact LeO.refl _)
      | (with_reducible exact LeO.none _)
      | (with_reducible refine LeO.ite ?_ ?_)
      | (with_reducible refine LeO.bind ?_ (fun _ => ?_))
      | exact rows_Set.mono _ _ _
      | exact LeO.none _
      | refine LeO.ite ?_ ?_
      | refine LeO.bind ?_ (fun _ => ?_)
set_option maxHeartbeats 8000000 in
set_option maxRecDepth 100000 in
theorem bagnallkeep_rowsOf.calls (k : Nat) (A0 : Option Addr) (c0 : Nat) (l0 : List (S67)) (r1 : List (S67)) (r2 : Bool) (w : World) (hr0 : Kd.C k67 w A0 l0.length l0) (hc0 : l0.length ≤ c0) (h : bagnallkeep_rowsOf.f k l0 = some (r1, r2)) :
    Calls Try.prog 40 #[.slice A0 l0.length c0] w fun e w' => ∃ v0_ : Value, e = .returned (.tuple #[v0_, .bool r2]) ∧ Kd.R k67 67 w' w.heap.size (fun _ => True) v0_ r1 ∧ Below w.heap.size w w' := by
  unfold bagnallkeep_rowsOf.f at h
  obtain ⟨t, ht, h⟩ := Option.bind_eq_some_iff.1 h
  obtain ⟨⟨x, e1⟩, hx, h⟩ := Option.bind_eq_some_iff.1 h
  obtain ⟨⟨y, e2⟩, hy, h⟩ := Option.bind_eq_some_iff.1 h
  dsimp only at h
  have HR := Aside0.mk hr0
  have HC := Aside0.mk hc0
  have HT := Aside0.mk ht
  have HX := Aside0.mk hx
  have HY := Aside0.mk hy
  have HH := Aside0.mk h
  clear hr0 hc0 ht hx hy h
  go_enter Try.func40, Try.ntmps40
  go_upto_region 2 with (first | (go_at_call 42; refine (bagnallkeep_copiedRows.calls A0 c0 l0 t w HR.out HC.out HT.out).mono ?_; rintro e w1 ⟨v1, rfl, hv, hb⟩; obtain ⟨A1, c1, rfl, hc1, hC1⟩ := Kd.R_reads hv; have HC1 := Aside0.mk hC1; have HL1 := Aside0.mk hc1; have HB1 := Aside0.mk hb; clear hv hb hC1 hc1) | (go_at_call 41; refine (rows_Set.calls k none 0 [] A1 c1 t x e1 _ (Kd.C_nil _ _) (Nat.le_refl _) HC1.out HL1.out HX.out).mono ?_; rintro e w2 ⟨v2, rfl, hv, hb⟩; have HV2 := Aside0.mk (Kd.R_lower hv HB1.out.size); have HB2 := Aside0.mk (HB1.out.trans (hb.mono HB1.out.size)); clear hv hb))
  go_upto_region 3 with (go_at_call 41; refine (rows_Set.calls k none 0 [] (some ⟨w2.heap.size, 0, none⟩) 1 [(⟨(⟨#[107]⟩ : ByteArray), (⟨#[118]⟩ : ByteArray)⟩ : S67)] y e2 _ (Kd.C_nil _ _) (Nat.le_refl _) (Go.Proofs.Ytmfkgbncnaingaa.Rows.one_reads (c := (⟨(⟨#[107]⟩ : ByteArray), (⟨#[118]⟩ : ByteArray)⟩ : S67)) (Go.Proofs.Ytmfkgbncnaingaa.Rows.alloc_at _ _)) (Nat.le_refl _) HY.out).mono ?_; rintro e w3 ⟨v3, rfl, hv, hb⟩; have hz := (below_alloc (Below.refl _ _) _).trans (hb.mono (by show w2.heap.size ≤ (w2.heap.push _).size; rw [Array.size_push]; omega)); have HV := Aside0.mk (Kd.R_below HV2.out hz); have HB := Aside0.mk (HB2.out.trans (hz.mono HB2.out.size)); have HW := Aside0.mk hv; clear hv hb hz)
  obtain ⟨A3, c3, rfl, hc3, hC3⟩ := Kd.R_reads HW.out
  have HC3 := Aside0.mk hC3
  clear hc3 hC3
  by_cases h1 : e1 = 0
  · subst h1
    by_cases h2 : e2 = 0
    · subst h2
      by_cases h3 : y.length = 1
      · obtain ⟨ad, rfl, hq0, hq1⟩ := at_T67 HC3.out (0 : Int) (by omega) (by omega)
        have hr : Aside0 (r1 = x ∧ r2 = ((rd_T67 y 0).f1.toList == ([118] : List UInt8))) := Aside0.mk (by
          have h := HH.out
          rw [if_pos rfl, if_pos rfl, if_pos (by omega), if_pos (by omega)] at h
          simp only [Option.some.injEq, Prod.mk.injEq] at h
          exact ⟨h.1.symm, h.2.symm⟩)
        obtain ⟨z, hz⟩ : ∃ z, z = rd_T67 y 0 := ⟨_, rfl⟩
        rw [← hz] at hq0 hq1 hr
        obtain ⟨rfl, rfl⟩ := hr.out
        clear hz HH hr
        have e0 : ad.add ((0 : Int).toNat * 2) = ad := by
          have : ((0 : Int).toNat * 2) = 0 := rfl
          rw [this]; unfold Addr.add; split <;> simp_all
        rw [e0] at hq0 hq1
        have h3' : (y.length : Int) = 1 := by omega
        have h3 : y.length = 1 := by omega
        rw [h3] at *
        go_quiet (fail)
        go_wp2
        go_ret2
        exact ⟨_, rfl, Kd.R_drewN HV.out _, pw_below_drewN HB.out _⟩
      · have hr : Aside0 (r1 = x ∧ r2 = false) := Aside0.mk (by
          have h := HH.out
          rw [if_pos rfl, if_pos rfl, if_neg (by omega)] at h
          simp only [Option.some.injEq, Prod.mk.injEq] at h
          exact ⟨h.1.symm, h.2.symm⟩)
        obtain ⟨rfl, rfl⟩ := hr.out
        clear HH hr
        have h3' : ((y.length : Int) = 1) = False := eq_false (by omega)
        go_quiet (fail)
        go_wp2
        go_ret2
        exact ⟨_, rfl, Kd.R_drewN HV.out _, pw_below_drewN HB.out _⟩
    · have hr : Aside0 (r1 = x ∧ r2 = false) := Aside0.mk (by
        have h := HH.out
        rw [if_pos rfl, if_neg h2] at h
        simp only [Option.some.injEq, Prod.mk.injEq] at h
        exact ⟨h.1.symm, h.2.symm⟩)
      obtain ⟨rfl, rfl⟩ := hr.out
      have h2' : (e2 = 0) = False := eq_false h2
      clear HH hr h2
      go_quiet (fail)
      go_wp2
      go_ret2
      exact ⟨_, rfl, Kd.R_drewN HV.out _, pw_below_drewN HB.out _⟩
  · have hr : Aside0 (r1 = x ∧ r2 = false) := Aside0.mk (by
      have h := HH.out
      rw [if_neg h1] at h
      simp only [Option.some.injEq, Prod.mk.injEq] at h
      exact ⟨h.1.symm, h.2.symm⟩)
    obtain ⟨rfl, rfl⟩ := hr.out
    have h1' : (e1 = 0) = False := eq_false h1
    clear HH hr h1
    go_quiet (fail)
    go_wp2
    go_ret2
    exact ⟨_, rfl, Kd.R_drewN HV.out _, pw_below_drewN HB.out _⟩

end Go.Proofs.Ytmfkgbncnaingaa.QRows
