/- The search for a key. -/
import Derived.Test.YtmfkgbncnaingaaRows1
namespace Go.Proofs.Ytmfkgbncnaingaa.Rows
open Go.RowKit Go.Lib Go.Proofs.Ytmfkgbncnaingaa.QRows Go.Proofs.YtmfkgbncnaingaaW.PrintWords Go.Proofs.YtmfkgbncnaingaaW.PrintLast Go.Proofs.YtmfkgbncnaingaaW.PrintMore

/-- How two texts stand. -/
def cmpOf (a b : ByteArray) : Int := if Op.bytesLess a.toList b.toList = true then -1 else if a.toList = b.toList then 0 else 1
theorem isNaN_calls (a : ByteArray) (w : World) : Calls Try.prog 98 #[.string a] w fun e w' => e = .returned (.bool false) ∧ w = w' := by
  go_enter Try.func98, Try.ntmps98
  go_wp2
  go_ret
  exact ⟨by simp, rfl⟩
theorem Compare_calls (a b : ByteArray) (w : World) : Calls Try.prog 93 #[.string a, .string b] w fun e w' => e = .returned (.int .i64 (cmpOf a b)) ∧ w = w' := by
  unfold cmpOf
  by_cases h1 : Op.bytesLess a.toList b.toList = true
  · rw [if_pos h1]
    go_enter Try.func93, Try.ntmps93
    go_wp2_with (go_at_call 98; refine (isNaN_calls _ _).mono ?_; rintro e w' ⟨rfl, rfl⟩)
    go_ret
    exact ⟨rfl, rfl⟩
  · rw [if_neg h1]
    have h1' : Op.bytesLess a.toList b.toList = false := by simpa using h1
    by_cases h2 : a.toList = b.toList
    · rw [if_pos h2]
      have h2' : (a.toList == b.toList) = true := by rw [h2]; exact beq_self_eq_true _
      clear h1 h2
      go_enter Try.func93, Try.ntmps93
      go_wp2_with (go_at_call 98; refine (isNaN_calls _ _).mono ?_; rintro e w' ⟨rfl, rfl⟩)
      all_goals (go_ret; exact ⟨rfl, rfl⟩)
    · rw [if_neg h2]
      have h2' : (a.toList == b.toList) = false := beq_eq_false_iff_ne.2 h2
      clear h1 h2
      go_enter Try.func93, Try.ntmps93
      go_wp2_with (go_at_call 98; refine (isNaN_calls _ _).mono ?_; rintro e w' ⟨rfl, rfl⟩)
      all_goals (go_ret; exact ⟨rfl, rfl⟩)

theorem closure_calls (x : S67) (b : ByteArray) (w : World) : Calls Try.prog 92 #[.agg #[.string x.f0, .string x.f1], .string b] w fun e w' => e = .returned (.int .i64 (cmpOf x.f0 b)) ∧ Below w.heap.size w w' := by
  go_enter Try.func92, Try.ntmps92
  go_wp2_with (go_at_call 93; refine (Compare_calls _ _ _).mono ?_; rintro e w' ⟨rfl, rfl⟩)
  go_ret
  exact ⟨rfl, below_alloc (Below.refl _ _) _⟩

/-- The search. -/
def bs (xs : List S67) (t : ByteArray) (i j : Nat) : Nat :=
  if i < j then (if cmpOf (rd_T67 xs (((i + j) / 2 : Nat) : Int)).f0 t < 0 then bs xs t ((i + j) / 2 + 1) j else bs xs t i ((i + j) / 2)) else i
termination_by j - i
theorem bs_le (xs : List S67) (t : ByteArray) : ∀ (d i j : Nat), j - i ≤ d → i ≤ j → i ≤ bs xs t i j ∧ bs xs t i j ≤ j := by
  intro d
  induction d with
  | zero => intro i j h1 h2; rw [bs, if_neg (by omega)]; omega
  | succ d ih =>
    intro i j h1 h2
    rw [bs]
    by_cases h : i < j
    · rw [if_pos h]
      split
      · have := ih ((i + j) / 2 + 1) j (by omega) (by omega); omega
      · have := ih i ((i + j) / 2) (by omega) (by omega); omega
    · rw [if_neg h]; omega
/-- What the search tells. -/
def found (xs : List S67) (t : ByteArray) : Nat × Bool := (bs xs t 0 xs.length, decide (bs xs t 0 xs.length < xs.length) && (cmpOf (rd_T67 xs ((bs xs t 0 xs.length : Nat) : Int)).f0 t == 0))

set_option maxRecDepth 100000 in
set_option maxHeartbeats 4000000 in
theorem Search_calls (A0 : Option Addr) (c0 : Nat) (xs : List S67) (t : ByteArray) (w : World) (hr : Kd.C k67 w A0 xs.length xs) (hl : xs.length ≤ 100000) :
    Calls Try.prog 91 #[.slice A0 xs.length c0, .string t, .func (.func 92) #[] #[]] w fun e w' => e = .returned (.tuple #[.int .i64 ((found xs t).1 : Nat), .bool (found xs t).2]) ∧ Below w.heap.size w w' := by
  have HR := Aside0.mk hr
  clear hr
  go_enter Try.func91, Try.ntmps91
  go_wp2
  go_loopg [9, 10] (xs.length + 1) (fun kq v9 v10 wr => ∃ (i j : Nat), v9 = .int .i64 i ∧ v10 = .int .i64 j ∧ Aside0 (j - i ≤ kq ∧ i ≤ j ∧ j ≤ xs.length) ∧ Aside0 (bs xs t 0 xs.length = bs xs t i j) ∧ Aside0 (Below w.heap.size w wr))
  case atStart => exact ⟨0, xs.length, rfl, rfl, ⟨by omega⟩, ⟨rfl⟩, ⟨Below.refl _ _⟩⟩
  case round =>
    obtain ⟨i, j, rfl, rfl, hK, hM, hW⟩ := hrel
    have HRr := Aside0.mk (Kd.C_below HR.out hW.out)
    by_cases hlt : i < j
    · have hb1 : decide ((i : Int) < (j : Int)) = true := decide_eq_true (by omega)
      have hb1' : (i : Int) < (j : Int) := by omega
      have hm1 : IntKind.u64.wrap ((i : Int) + (j : Int)) = (i : Int) + (j : Int) := by rw [IntKind.wrap_u64]; have := hK.out; omega
      obtain ⟨h, hh⟩ : ∃ h, h = (i + j) / 2 := ⟨_, rfl⟩
      have hm2 : wrap64 (((i : Int) + (j : Int)) / 2) = (h : Int) := by unfold wrap64; have := hK.out; omega
      have hm3 : IntKind.i64.wrap ((i : Int) + (j : Int)) = (i : Int) + (j : Int) := by rw [IntKind.wrap_i64]; have := hK.out; omega
      have hm4 : IntKind.i64.wrap ((h : Int) + 1) = (h : Int) + 1 := by rw [IntKind.wrap_i64]; have := hK.out; omega
      have hm5 : (h : Int) < (xs.length : Int) := by have := hK.out; omega
      have hH := Aside0.mk hh
      obtain ⟨ad, rfl, hx0, hx1⟩ := at_T67 HRr.out (h : Int) (by omega) hm5
      obtain ⟨x, hx⟩ : ∃ x, x = rd_T67 xs (h : Int) := ⟨_, rfl⟩
      rw [← hx] at hx0 hx1
      rw [Int.toNat_natCast] at hx0 hx1
      have hX := Aside0.mk hx
      have HC := fun w => Aside0.mk (closure_calls x t w)
      obtain ⟨cr, hcr⟩ : ∃ cr, cr = cmpOf x.f0 t := ⟨_, rfl⟩
      rw [← hcr] at HC
      have hCr := Aside0.mk hcr
      clear hx hcr hh hlt
      by_cases hc : cr < 0
      · have hc' : decide (cr < 0) = true := decide_eq_true hc
        go_wp2_with (go_at_call 92; refine (HC _).out.mono ?_; rintro e w1 ⟨rfl, hb⟩; have HB := Aside0.mk hb; clear hb)
        go_roundg (gk - 1)
        case measure => have := hK.out; have := hH.out; omega
        case rel =>
          refine ⟨h + 1, j, by go_num, rfl, ⟨by have := hK.out; have := hH.out; omega⟩, ⟨?_⟩, ⟨hW.out.trans (HB.out.mono hW.out.size)⟩⟩
          rw [hM.out, bs, if_pos (by have := hb1'; omega), ← hH.out, ← hX.out, ← hCr.out, if_pos hc]
      · have hc' : decide (cr < 0) = false := decide_eq_false hc
        go_wp2_with (go_at_call 92; refine (HC _).out.mono ?_; rintro e w1 ⟨rfl, hb⟩; have HB := Aside0.mk hb; clear hb)
        go_roundg (gk - 1)
        case measure => have := hK.out; have := hH.out; omega
        case rel =>
          refine ⟨i, h, rfl, rfl, ⟨by have := hK.out; have := hH.out; omega⟩, ⟨?_⟩, ⟨hW.out.trans (HB.out.mono hW.out.size)⟩⟩
          rw [hM.out, bs, if_pos (by have := hb1'; omega), ← hH.out, ← hX.out, ← hCr.out, if_neg (by omega)]
    · have hij : i = j := by have := hK.out; omega
      subst hij
      have hb1 : decide ((i : Int) < (i : Int)) = false := decide_eq_false (by omega)
      have hres : Aside0 (bs xs t 0 xs.length = i) := Aside0.mk (by rw [hM.out, bs, if_neg (by omega)])
      by_cases hn : i < xs.length
      · have hn' : (i : Int) < (xs.length : Int) := by omega
        obtain ⟨ad, rfl, hx0, hx1⟩ := at_T67 HRr.out (i : Int) (by omega) hn'
        obtain ⟨x, hx⟩ : ∃ x, x = rd_T67 xs (i : Int) := ⟨_, rfl⟩
        rw [← hx] at hx0 hx1
        rw [Int.toNat_natCast] at hx0 hx1
        have hX := Aside0.mk hx
        have HC := fun w => Aside0.mk (closure_calls x t w)
        have HE := Aside0.mk (show found xs t = (i, cmpOf x.f0 t == 0) by unfold found; rw [hres.out, ← hx, decide_eq_true hn, Bool.true_and])
        clear hx
        go_wp2_with (go_at_call 92; refine (HC _).out.mono ?_; rintro e w1 ⟨rfl, hb⟩; have HB := Aside0.mk hb; clear hb)
        go_ret2
        exact ⟨by rw [HE.out]; rfl, hW.out.trans (HB.out.mono hW.out.size)⟩
      · have hn' : ¬ (i : Int) < (xs.length : Int) := by omega
        have HE := Aside0.mk (show found xs t = (i, false) by unfold found; rw [hres.out, decide_eq_false hn, Bool.false_and])
        go_wp2
        go_ret2
        exact ⟨by rw [HE.out]; rfl, hW.out⟩

theorem place_calls (A0 : Option Addr) (c0 : Nat) (xs : List S67) (t : ByteArray) (w : World) (hr : Kd.C k67 w A0 xs.length xs) (hl : xs.length ≤ 100000) :
    Calls Try.prog 78 #[.slice A0 xs.length c0, .string t] w fun e w' => e = .returned (.tuple #[.int .i64 ((found xs t).1 : Nat), .bool (found xs t).2]) ∧ Below w.heap.size w w' := by
  have HC := fun w h => Aside0.mk (Search_calls A0 c0 xs t w h hl)
  have HR := Aside0.mk hr
  clear hr
  go_enter Try.func78, Try.ntmps78
  go_wp2_with (go_at_call 91; refine (HC _ HR.out).out.mono ?_; rintro e w1 ⟨rfl, hb⟩; have HB := Aside0.mk hb; clear hb)
  go_ret2
  exact ⟨rfl, HB.out⟩

end Go.Proofs.Ytmfkgbncnaingaa.Rows
