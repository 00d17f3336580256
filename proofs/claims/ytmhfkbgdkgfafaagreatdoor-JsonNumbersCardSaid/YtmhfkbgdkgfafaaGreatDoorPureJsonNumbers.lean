/- JsonNumbers: its walk straight to its answer, true. -/
import Derived.Test.YtmhfkbgdkgfafaaGreatDoorGJc
import Derived.OpenShut
namespace Go.Proofs.YtmhfkbgdkgfafaaGreatDoor.Js
open Go.RowKit Go.Proofs.YtmhfkbgdkgfafaaGreatDoor.QJson Go.Proofs.YtmhfkbgdkgfafaaGreatDoorW.PrintWords Go.Proofs.YtmhfkbgdkgfafaaGreatDoorW.PrintLast Go.Proofs.YtmhfkbgdkgfafaaGreatDoorW.PrintMore
set_option linter.unusedVariables false
set_option linter.unusedSimpArgs false

/-! ### the plain law -/
theorem dec_head (u : Nat) (hu : 1 ≤ u) : ∀ l, Lib.decDigits u ≠ 48 :: l := by
  induction u using Nat.strongRecOn with
  | _ u ih =>
    intro l h
    by_cases h10 : u < 10
    · rw [Lib.decDigits, dif_pos h10] at h
      injection h with h1 h2
      have : (UInt8.ofNat (48 + u)).toNat = 48 := by rw [h1]; rfl
      have h3 : (UInt8.ofNat (48 + u)).toNat = 48 + u := by simp; omega
      omega
    · rw [Lib.decDigits, dif_neg h10] at h
      cases hd : Lib.decDigits (u / 10) with
      | nil => exact absurd hd (decDigits_ne _)
      | cons c m =>
        rw [hd, List.cons_append] at h
        injection h with h1 h2
        subst h1
        exact ih (u / 10) (by omega) (by omega) m hd
theorem itoa_zero {v : Int} {l : List UInt8} (h : Lib.itoa v = 48 :: l) : l = [] := by
  unfold Lib.itoa at h
  split at h
  · injection h with h1 h2
    exact absurd h1 (by decide)
  · rcases Nat.eq_zero_or_pos v.toNat with h0 | h0
    · rw [h0, show Lib.decDigits 0 = [48] by rw [Lib.decDigits, dif_pos (by decide)]; rfl] at h
      injection h with h1 h2
      exact h2.symm
    · exact absurd h (dec_head _ h0 l)
theorem numP_zero (c : UInt8) (l : List UInt8) (h : digitB c = true) (ha : ∀ b ∈ c :: l, digitB b = true) : numP (48 :: c :: l) = none := by
  have hall : scan (48 :: c :: l) = (48 :: c :: l).length := by
    rw [scan, if_neg (by decide)]
    have := scanD_all (a := 48 :: c :: l) (b := []) (fun b hb => by
      rcases List.mem_cons.1 hb with rfl | hb
      · decide
      · exact ha b hb) (fun _ h => by cases h)
    rw [List.append_nil] at this
    exact this
  unfold numP
  rw [hall, List.take_length]
  cases hat : Lib.atoiAll (48 :: c :: l) with
  | ok v =>
    dsimp only
    rw [if_neg]
    intro h2
    cases itoa_zero h2
  | _ =>
    dsimp only
    rw [if_pos (.inr (by rfl))]
theorem parse_zero_head (n : Int) : parseP (48 :: Lib.itoa n) = none := by
  by_cases hn : n < 0
  · have e : Lib.itoa n = 45 :: Lib.decDigits n.natAbs := by unfold Lib.itoa; rw [if_pos hn]
    rw [e]
    have hs : scan (48 :: 45 :: Lib.decDigits n.natAbs) = 1 := by
      rw [scan, if_neg (by decide), scanD, if_pos (by decide), scanD, if_neg (by decide)]
    have hnum : numP (48 :: 45 :: Lib.decDigits n.natAbs) = some (0, 45 :: Lib.decDigits n.natAbs) := by
      have h0 : Lib.itoa 0 = [48] := by unfold Lib.itoa; rw [if_neg (by decide), show (0 : Int).toNat = 0 from rfl, Lib.decDigits, dif_pos (by decide)]; rfl
      have h1 : Lib.atoiAll [48] = .ok 0 := by rw [← h0]; exact atoi_itoa 0 (by decide) (by decide)
      unfold numP
      rw [hs, show (48 :: 45 :: Lib.decDigits n.natAbs).take 1 = [48] from rfl, h1]
      dsimp only
      rw [if_pos h0]
      rfl
    unfold parseP
    rw [sk_cons (by decide), valueP_num _ 48 _ (by decide) (by decide) (by decide) (by decide) (by decide) (by decide), hnum]
    dsimp only
    rw [sk_cons (by decide), if_neg (by simp)]
  · have e : Lib.itoa n = Lib.decDigits n.toNat := by unfold Lib.itoa; rw [if_neg hn]
    rw [e]
    cases h : Lib.decDigits n.toNat with
    | nil => exact absurd h (decDigits_ne _)
    | cons c l =>
      have hd := decDigits_digit n.toNat
      rw [h] at hd
      unfold parseP
      rw [sk_cons (by decide), valueP_num _ 48 _ (by decide) (by decide) (by decide) (by decide) (by decide) (by decide), numP_zero c l (hd c (List.mem_cons_self ..)) hd]
theorem parse_two_signs (l : List UInt8) : parseP (45 :: 45 :: l) = none := by
  unfold parseP
  rw [sk_cons (by decide), valueP_num _ 45 _ (by decide) (by decide) (by decide) (by decide) (by decide) (by decide)]
  have hs : scan (45 :: 45 :: l) = 1 := by
    rw [scan, if_pos (by decide), scanD, if_neg (by decide)]
  have hnum : numP (45 :: 45 :: l) = none := by
    unfold numP
    rw [hs]
    have h1 : Lib.atoiAll [45] = Lib.atoiAll [] := by decide +kernel
    rw [show (45 :: 45 :: l).take 1 = [45] from rfl, h1]
    show (if Lib.trimPrefix ([45] : List UInt8) [45] = [] ∨ (Lib.trimPrefix ([45] : List UInt8) [45]).getD 0 0 = 48 then none else some ((9007199254740992 : Int), (45 :: 45 :: l).drop 1)) = none
    rw [if_pos (.inl (by rfl))]
  rw [hnum]
theorem parse_itoa (n : Int) (h0 : -9007199254740992 < n) (h1 : n < 9007199254740992) : parseP (Lib.itoa n) = some ⟨4, n, ⟨#[]⟩, [], []⟩ := by
  unfold parseP
  obtain ⟨c, l, he, hc⟩ := itoa_head n
  have hr := head_ne hc
  have hv := valueP_itoa ((Lib.itoa n).length + 7) n h0 h1 (b := []) (fun _ h => by cases h)
  rw [List.append_nil] at hv
  have hsk : sk (Lib.itoa n) = Lib.itoa n := by
    rw [he]
    refine sk_cons ?_
    unfold blankB
    simp only [List.contains_cons, List.contains_nil, Bool.or_false, Bool.or_eq_false_iff, beq_eq_false_iff_ne]
    exact ⟨ne_of_nat (by show _ ≠ 32; omega), ne_of_nat (by show _ ≠ 9; omega), ne_of_nat (by show _ ≠ 10; omega), ne_of_nat (by show _ ≠ 13; omega)⟩
  rw [hsk, hv]
  dsimp only
  rw [sk_nil, if_pos rfl]
theorem num_wf (n : Int) (h0 : -9007199254740992 < n) (h1 : n < 9007199254740992) : WF 1 ⟨4, n, ⟨#[]⟩, [], []⟩ := .mk (by show (1 : Int) ≤ 4; decide) (by show (4 : Int) ≤ 7; decide) (show plainB 4 n ⟨#[]⟩ 0 0 = true from by unfold plainB; rw [show (⟨#[]⟩ : ByteArray).toList.isEmpty = true by decide +kernel]; rfl) (fun h => by cases h) h0 h1 (fun i h => absurd h (Nat.not_lt_zero _)) (fun p hp => by cases hp)
theorem num_vt (n : Int) : vt ⟨4, n, ⟨#[]⟩, [], []⟩ = Lib.itoa n := by
  rw [vt, if_neg (by decide), if_neg (by decide), if_pos rfl]
theorem num_cnt (n : Int) : cnt ⟨4, n, ⟨#[]⟩, [], []⟩ = 1 := by rw [cnt_eq]; rfl
theorem num_big (n : Int) (h0 : -9007199254740992 < n) (h1 : n < 9007199254740992) : big ⟨4, n, ⟨#[]⟩, [], []⟩ = false := by
  have := itoa_length n (by omega) (by omega)
  unfold big
  rw [num_cnt, num_vt]
  simp; omega
theorem num_text (n : Int) (h0 : -9007199254740992 < n) (h1 : n < 9007199254740992) (w : World) (hT : Tabs w) :
    Calls Tryz.prog 11 #[.agg #[.int .i64 4, .int .i64 n, .string ⟨#[]⟩, .slice none 0 0, .slice none 0 0]] w fun e w' => e = .returned (.tuple #[.string (str (Lib.itoa n)), .int .i64 0]) ∧ Below w.heap.size w w' := by
  have hl := itoa_length n (by omega) (by omega)
  have h := text_calls 1 ⟨4, n, ⟨#[]⟩, [], []⟩ (num_wf n h0 h1) (by decide) (by rw [num_cnt]; decide) (by rw [num_vt]; omega) none 0 none 0 w (Kd.C_nil _ _) (Nat.le_refl _) (Kd.C_nil _ _) (Nat.le_refl _) hT
  unfold chk at h
  rw [num_big n h0 h1, num_vt] at h
  exact h
theorem num_chk (n : Int) (h0 : -9007199254740992 < n) (h1 : n < 9007199254740992) : ChkOk ⟨4, n, ⟨#[]⟩, [], []⟩ 0 := by
  intro A3 c3 A4 c4 w h3 l3 h4 l4 hT
  have hl := itoa_length n (by omega) (by omega)
  have h := check_calls 1 ⟨4, n, ⟨#[]⟩, [], []⟩ (num_wf n h0 h1) (by decide) (by rw [num_cnt]; decide) (by rw [num_vt]; omega) A3 c3 A4 c4 w h3 l3 h4 l4 hT
  unfold chk at h
  rw [num_big n h0 h1] at h
  exact h
theorem num_is (n : Int) (h0 : -9007199254740992 < n) (h1 : n < 9007199254740992) : ParseIs (Lib.itoa n) ⟨4, n, ⟨#[]⟩, [], []⟩ 0 := by
  have hl := itoa_length n (by omega) (by omega)
  exact .inr (.inr ⟨by omega, _, parse_itoa n h0 h1, num_chk n h0 h1, by rw [if_pos rfl]⟩)
theorem zero_is (n : Int) (h0 : -9007199254740992 < n) (h1 : n < 9007199254740992) : ParseIs (48 :: Lib.itoa n) z26 4 := by
  have hl := itoa_length n (by omega) (by omega)
  exact .inr (.inl ⟨by simp only [List.length_cons]; omega, parse_zero_head n, rfl, rfl⟩)
theorem signs_is (n : Int) (h0 : -9007199254740992 < n) (h1 : n < 9007199254740992) : ParseIs (45 :: 45 :: Lib.itoa n) z26 4 := by
  have hl := itoa_length n (by omega) (by omega)
  exact .inr (.inl ⟨by simp only [List.length_cons]; omega, parse_two_signs _, rfl, rfl⟩)
theorem tmod_lt (a : Int) : -9007199254740992 < a.tmod 9007199254740992 ∧ a.tmod 9007199254740992 < 9007199254740992 := by
  have h1 := Int.tmod_lt_of_pos a (show (0 : Int) < 9007199254740992 by decide)
  have h2 := Int.lt_tmod_of_pos a (show (0 : Int) < 9007199254740992 by decide)
  exact ⟨h2, h1⟩
theorem picked_two (b : Int) (w : World) : ∃ r, Calls Tryz.prog 15 #[.int .i64 b, .int .i64 2] w fun e w' => e = .returned (.int .i64 r) ∧ Drawn0 w w' := by
  have : ∃ r, bagnallkeep_Picked.f b 2 = some r := by
    unfold bagnallkeep_Picked.f
    rw [if_neg (by decide)]
    split <;> exact ⟨_, rfl⟩
  obtain ⟨r, hr⟩ := this
  exact ⟨r, bagnallkeep_Picked.calls b 2 r w hr⟩

/-! ### the walk -/
theorem glob_at {w : World} (h : Glob w.heap.size w) : ∀ w', Below w.heap.size w w' → Glob w'.heap.size w' := fun w' hb =>
  ⟨Nat.le_refl _, fun w2 h2 => h.errs w2 (hb.trans (h2.mono hb.size)), fun w2 h2 => h.words w2 (hb.trans (h2.mono hb.size))⟩
set_option maxHeartbeats 8000000 in
set_option maxRecDepth 100000 in
theorem numbers_walk (a b : Int) (ha : -9223372036854775808 ≤ a ∧ a < 9223372036854775808) (w : World) (hE : Glob w.heap.size w) :
    Calls Tryz.prog 8 #[.int .i64 a, .int .i64 b] w fun e w' => e = .returned (.bool true) ∧ Below w.heap.size w w' := by
  obtain ⟨n, hn⟩ : ∃ n, n = a.tmod 9007199254740992 := ⟨_, rfl⟩
  have hb := tmod_lt a
  rw [← hn] at hb
  have HE := Aside0.mk hE
  have HN := Aside0.mk hb
  have HTx := Aside0.mk (num_text n hb.1 hb.2 w hE.now.tabs)
  obtain ⟨s, hs⟩ : ∃ s, s = str (Lib.itoa n) := ⟨_, rfl⟩
  have HS := Aside0.mk hs
  rw [← hs] at HTx
  have hrem : IntKind.i64.wrap (a.tmod 9007199254740992) = n := by
    rw [← hn]
    unfold IntKind.wrap
    simp [IntKind.bits, IntKind.signed]
    omega
  have hn' : a.tmod 9007199254740992 = n := hn.symm
  have hGl : ∀ w', Below w.heap.size w w' → Glob w'.heap.size w' := glob_at HE.out
  clear hb hE hs hn ha
  go_enter Tryz.func8, Tryz.ntmps8
  go_upto_region 3 with (first
    | (go_at_call 11; refine HTx.out.mono ?_; rintro e w1 ⟨rfl, hb⟩; have HB1 := Aside0.mk hb; clear hb))
  have HG1 := Aside0.mk (hGl w1 HB1.out)
  have HPa := Aside0.mk (parse_calls any_ok (Lib.itoa n) (by have := itoa_length n (by have := HN.out; omega) (by have := HN.out; omega); omega) _ _ (num_is n HN.out.1 HN.out.2) w1 HG1.out)
  rw [← HS.out] at HPa
  go_upto_region 4 with (first
    | (go_at_call 13; refine HPa.out.mono ?_; rintro e w2 ⟨v3, v4, rfl, h3, h4, hb⟩; obtain ⟨A3, c3, rfl⟩ := Kd.R_slice h3; obtain ⟨A4, c4, rfl⟩ := Kd.R_slice h4; have HB2 := Aside0.mk hb; clear h3 h4 hb))
  obtain ⟨g, hg⟩ : ∃ q, q = w2.heap.size := ⟨_, rfl⟩
  have HBl := Aside0.mk (heap_alloc_new w2 (.cells #[.int .i64 4, .int .i64 n, .string ⟨#[]⟩, .slice A3 0 c3, .slice A4 0 c4] 26))
  have HB3 := Aside0.mk (show Below w2.heap.size w2 (w2.alloc (.cells #[.int .i64 4, .int .i64 n, .string ⟨#[]⟩, .slice A3 0 c3, .slice A4 0 c4] 26)) from below_alloc (Below.refl _ _) _)
  generalize w2.alloc (.cells #[.int .i64 4, .int .i64 n, .string ⟨#[]⟩, .slice A3 0 c3, .slice A4 0 c4] 26) = w3 at HBl HB3 ⊢
  rw [← hg] at HBl ⊢
  clear hg
  have HBw3 := Aside0.mk (HB1.out.trans ((HB2.out.trans (HB3.out.mono HB2.out.size)).mono HB1.out.size))
  have k0 := blk_cell HBl.out 0
  have k1 := blk_cell HBl.out 1
  dsimp at k0 k1
  have HG3 := Aside0.mk (hGl w3 HBw3.out)
  obtain ⟨r, HPk⟩ := picked_two b w3
  have HLen := Aside0.mk (itoa_length n (by have := HN.out; omega) (by have := HN.out; omega))
  cases hr : (r == 0) with
  | true =>
    obtain ⟨q, hq⟩ : ∃ q, (⟨#[45, 45]⟩ : ByteArray) ++ s = q := ⟨_, rfl⟩
    have HQ := Aside0.mk (show q = str (45 :: 45 :: Lib.itoa n) by rw [← hq, HS.out, show (⟨#[45, 45]⟩ : ByteArray) = str [45, 45] from rfl, str_append]; rfl)
    have hsz : q.size = (Lib.itoa n).length + 2 := by rw [HQ.out, str_size]; rfl
    have n1 : ¬ 9223372036854775807 < 2 + s.size := by have h1 := HS.out; rw [h1, str_size]; have := HLen.out; omega
    have HP2 := Aside0.mk (fun w3 (h : Below w.heap.size w w3) => parse_calls any_ok (45 :: 45 :: Lib.itoa n) (by have := HLen.out; simp only [List.length_cons]; omega) _ _ (signs_is n HN.out.1 HN.out.2) w3 (hGl w3 h))
    rw [← HQ.out] at HP2
    clear HS hsz
    go_wp2_with (first
      | (go_at_call 15; refine HPk.mono ?_; rintro e w4 ⟨rfl, hb⟩; have HB4 := Aside0.mk (HBw3.out.trans ((hb.below).mono HBw3.out.size)); clear hb)
      | (go_at_call 13; refine (HP2.out _ HB4.out).mono ?_; rintro e w5 ⟨v5, v6, rfl, h3, h4, hb⟩; obtain ⟨A5, c5, rfl⟩ := Kd.R_slice h3; obtain ⟨A6, c6, rfl⟩ := Kd.R_slice h4; have HB5 := Aside0.mk (HB4.out.trans (hb.mono HB4.out.size)); clear h3 h4 hb))
    go_ret
    exact ⟨rfl, HB5.out.trans ((below_alloc (Below.refl _ _) _).mono HB5.out.size)⟩
  | false =>
    obtain ⟨q, hq⟩ : ∃ q, (⟨#[48]⟩ : ByteArray) ++ s = q := ⟨_, rfl⟩
    have HQ := Aside0.mk (show q = str (48 :: Lib.itoa n) by rw [← hq, HS.out, show (⟨#[48]⟩ : ByteArray) = str [48] from rfl, str_append]; rfl)
    have hsz : q.size = (Lib.itoa n).length + 1 := by rw [HQ.out, str_size]; rfl
    have n1 : ¬ 9223372036854775807 < 1 + s.size := by have h1 := HS.out; rw [h1, str_size]; have := HLen.out; omega
    have HP2 := Aside0.mk (fun w3 (h : Below w.heap.size w w3) => parse_calls any_ok (48 :: Lib.itoa n) (by have := HLen.out; simp only [List.length_cons]; omega) _ _ (zero_is n HN.out.1 HN.out.2) w3 (hGl w3 h))
    rw [← HQ.out] at HP2
    clear HS hsz
    go_wp2_with (first
      | (go_at_call 15; refine HPk.mono ?_; rintro e w4 ⟨rfl, hb⟩; have HB4 := Aside0.mk (HBw3.out.trans ((hb.below).mono HBw3.out.size)); clear hb)
      | (go_at_call 13; refine (HP2.out _ HB4.out).mono ?_; rintro e w5 ⟨v5, v6, rfl, h3, h4, hb⟩; obtain ⟨A5, c5, rfl⟩ := Kd.R_slice h3; obtain ⟨A6, c6, rfl⟩ := Kd.R_slice h4; have HB5 := Aside0.mk (HB4.out.trans (hb.mono HB4.out.size)); clear h3 h4 hb))
    go_ret
    exact ⟨rfl, HB5.out.trans ((below_alloc (Below.refl _ _) _).mono HB5.out.size)⟩
theorem numbers_calls (a b : Int) (w : World) (ha : (Lit.int .i64 a).wf = true) (hb : (Lit.int .i64 b).wf = true) (hE : Glob w.heap.size w) :
    Calls Tryz.prog 8 #[.int .i64 a, .int .i64 b] w fun e w' => e = .returned (.bool true) ∧ Below w.heap.size w w' := by
  have h : -9223372036854775808 ≤ a ∧ a < 9223372036854775808 := by
    have := bounds_i64 ha
    omega
  exact numbers_walk a b h w hE
end Go.Proofs.YtmhfkbgdkgfafaaGreatDoor.Js
