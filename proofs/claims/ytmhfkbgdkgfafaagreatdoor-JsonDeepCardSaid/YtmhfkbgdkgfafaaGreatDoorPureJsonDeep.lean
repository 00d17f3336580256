/- JsonDeep: its walk straight to its answer, true. -/
import Derived.Test.YtmhfkbgdkgfafaaGreatDoorGJc
import Derived.OpenShut
namespace Go.Proofs.YtmhfkbgdkgfafaaGreatDoor.Js
open Go.RowKit Go.Proofs.YtmhfkbgdkgfafaaGreatDoor.QJson Go.Proofs.YtmhfkbgdkgfafaaGreatDoorW.PrintWords Go.Proofs.YtmhfkbgdkgfafaaGreatDoorW.PrintLast Go.Proofs.YtmhfkbgdkgfafaaGreatDoorW.PrintMore
set_option linter.unusedVariables false
set_option linter.unusedSimpArgs false

/-! ### the plain law -/
/-- Arrays in one another, n + 1 of them. -/
def deepV : Nat → S26
  | 0 => ⟨6, 0, ⟨#[]⟩, [], []⟩
  | n + 1 => ⟨6, 0, ⟨#[]⟩, [], [deepV n]⟩
def deepT : Nat → List UInt8
  | 0 => [91, 93]
  | n + 1 => 91 :: (deepT n ++ [93])
theorem deepT_eq : ∀ n, deepT n = List.replicate (n + 1) 91 ++ List.replicate (n + 1) 93
  | 0 => rfl
  | n + 1 => by
    rw [deepT, deepT_eq n, List.replicate_succ (n := n + 1), List.replicate_succ' (n := n + 1) (a := 93)]
    simp
theorem deepT_head (n : Nat) : ∃ l, deepT n = 91 :: l := by cases n <;> exact ⟨_, rfl⟩
theorem deep_vt : ∀ n, vt (deepV n) = deepT n
  | 0 => by
    rw [deepV, vt, if_neg (by decide), if_neg (by decide), if_neg (by decide), if_neg (by decide), if_pos rfl, vts]
    rfl
  | n + 1 => by
    rw [deepV, vt, if_neg (by decide), if_neg (by decide), if_neg (by decide), if_neg (by decide), if_pos rfl, vts, vts, if_neg (by decide), deep_vt n, deepT]
    simp [Lib.join, List.intercalate]
theorem deep_wf : ∀ n, WF (n + 1) (deepV n)
  | 0 => .mk (by decide) (by decide) (by decide +kernel) (fun h => by cases h) (by decide) (by decide) (fun i h => absurd h (Nat.not_lt_zero _)) (fun p hp => by cases hp)
  | n + 1 => .mk (by show (1 : Int) ≤ 6; decide) (by show (6 : Int) ≤ 7; decide) (show plainB 6 0 ⟨#[]⟩ 0 1 = true by decide +kernel) (fun h => absurd h (by show ¬ (6 : Int) = 7; decide)) (by show (-9007199254740992 : Int) < 0; decide) (by show (0 : Int) < 9007199254740992; decide) (fun i h => absurd h (Nat.not_lt_zero _)) (fun p hp => by
      rw [show p = deepV n from List.mem_singleton.1 hp]
      exact deep_wf n)
theorem deep_cnt : ∀ n, cnt (deepV n) = n + 1
  | 0 => by rw [cnt_eq]; rfl
  | n + 1 => by
    rw [cnt_eq]
    show 1 + cnts [deepV n] = _
    rw [cnts, cnts, deep_cnt n]; omega
theorem deep_parse : ∀ (n d : Nat) (rest : List UInt8), n ≤ d → valueP (d + 1) (deepT n ++ rest) = some (deepV n, rest)
  | 0, d, rest, _ => by
    show valueP (d + 1) (91 :: ([] ++ 93 :: rest)) = _
    rw [valueP_arr, listS_empty 93 (by decide) _ rest [] (fun c h => by cases h)]
    rfl
  | n + 1, d, rest, h => by
    obtain ⟨e, rfl⟩ : ∃ e, d = e + 1 := ⟨d - 1, by omega⟩
    obtain ⟨l, hl⟩ := deepT_head n
    rw [deepT, List.cons_append, List.append_assoc, valueP_arr]
    show (match listS 93 (arrI (valueP (e + 1))) ((deepT n ++ 93 :: rest).length + 1) [] (deepT n ++ 93 :: rest) with | none => none | some (ps, q) => some ((⟨6, 0, ⟨#[]⟩, [], ps⟩ : S26), q)) = _
    have hj : Lib.join [deepT n] [44] = deepT n := by simp [Lib.join, List.intercalate]
    have hch : Chain 93 (arrI (valueP (e + 1))) [] [deepT n] [deepV n] := ⟨[deepV n], fun c r hcr => ⟨c :: r, by
          have hb : blankB 91 = false := by decide
          rw [hl, List.cons_append, sk_cons hb, ← List.cons_append, ← hl]
          unfold arrI
          rw [deep_parse n e (c :: r) (by omega)]
          rfl, by
          rcases hcr with rfl | rfl
          · exact sk_cons (by decide)
          · exact sk_cons (by decide)⟩, rfl⟩
    have hc := listS_chain 93 (by decide) (arrI (valueP (e + 1))) rest [deepT n] [] [deepV n] ((deepT n ++ 93 :: rest).length + 1) (by simp) (by
        rw [hj, hl, List.cons_append, sk_cons (by decide)]
        exact tk_ne (by decide) _) hch (by simp)
    rw [hj] at hc
    rw [hc]
    rfl
theorem deep_whole (n : Nat) : parseP (deepT n) = some (deepV n) := by
  unfold parseP
  obtain ⟨l, hl⟩ := deepT_head n
  have hlen : (deepT n).length = 2 * n + 2 := by rw [deepT_eq]; simp; omega
  have hv := deep_parse n ((deepT n).length + 7) [] (by omega)
  rw [List.append_nil] at hv
  have hsk : sk (deepT n) = deepT n := by rw [hl]; exact sk_cons (by decide)
  rw [hsk, hv]
  dsimp only
  rw [sk_nil, if_pos rfl]
theorem deep_fault : ∀ n : Fin 20, 6 ≤ n.val → json_fault.f 60 (deepV n).f0 (deepV n).f1 (deepV n).f2 (deepV n).f3 (deepV n).f4 0 = some 5 := by decide +kernel

set_option maxHeartbeats 4000000 in
set_option maxRecDepth 100000 in
/-- A value with a fault. -/
theorem fault_chk (K : Nat) (v : S26) (c : Int) (hc : c ≠ 0) (hk : json_fault.f K v.f0 v.f1 v.f2 v.f3 v.f4 0 = some c) : ChkOk v c := by
  intro A3 c3 A4 c4 w h3 l3 h4 l4 hT
  have HF := Aside0.mk (fun w h3 h4 => json_fault.calls K v.f0 v.f1 v.f2 A3 c3 v.f3 A4 c4 v.f4 0 c w h3 l3 h4 l4 hk)
  have H3 := Aside0.mk h3
  have H4 := Aside0.mk h4
  have q0 : (c == 0) = false := beq_eq_false_iff_ne.2 hc
  clear h3 h4 hT hk hc
  obtain ⟨k, i, t, ks, ps⟩ := v
  dsimp only at *
  obtain ⟨n3, hn3⟩ : ∃ n, n = ks.length := ⟨_, rfl⟩
  obtain ⟨n4, hn4⟩ : ∃ n, n = ps.length := ⟨_, rfl⟩
  rw [← hn3, ← hn4] at HF
  rw [← hn3] at H3 ⊢
  rw [← hn4] at H4 ⊢
  clear l3 l4 hn3 hn4
  go_enter Tryz.func17, Tryz.ntmps17
  go_upto_region 1 with (fail)
  have HB1 := Aside0.mk (show Below w.heap.size w (w.alloc (.cells #[.int .i64 k, .int .i64 i, .string t, .slice A3 n3 c3, .slice A4 n4 c4] 26)) from below_alloc (Below.refl _ _) _)
  have HC := Aside0.mk (box_cells w #[.int .i64 k, .int .i64 i, .string t, .slice A3 n3 c3, .slice A4 n4 c4])
  obtain ⟨g, hg⟩ : ∃ g, g = w.heap.size := ⟨_, rfl⟩
  generalize w.alloc (.cells #[.int .i64 k, .int .i64 i, .string t, .slice A3 n3 c3, .slice A4 n4 c4] 26) = W1 at HB1 HC ⊢
  rw [← hg] at HC ⊢
  clear hg
  have H3' := Aside0.mk (Kd.C_below H3.out HB1.out)
  have H4' := Aside0.mk (Kd.C_below H4.out HB1.out)
  have x0 := HC.out 0 _ rfl
  have x1 := HC.out 1 _ rfl
  have x2 := HC.out 2 _ rfl
  have x3 := HC.out 3 _ rfl
  have x4 := HC.out 4 _ rfl
  go_wp2_with (first | (go_at_call 22; refine (HF.out _ H3'.out H4'.out).mono ?_; rintro e w2 ⟨rfl, hb⟩; have S2 := Aside0.mk hb; clear hb))
  go_ret
  exact ⟨rfl, HB1.out.trans (S2.out.mono HB1.out.size)⟩
/-! ### the walk -/
theorem glob_at'' {w : World} (h : Glob w.heap.size w) : ∀ w', Below w.heap.size w w' → Glob w'.heap.size w' := fun w' hb =>
  ⟨Nat.le_refl _, fun w2 h2 => h.errs w2 (hb.trans (h2.mono hb.size)), fun w2 h2 => h.words w2 (hb.trans (h2.mono hb.size))⟩
theorem picked_20 (a : Int) (w : World) : ∃ m : Nat, m < 20 ∧ Calls Tryz.prog 15 #[.int .i64 a, .int .i64 20] w fun e w' => e = .returned (.int .i64 (m : Int)) ∧ Drawn0 w w' := by
  have h1 := Int.tmod_lt_of_pos a (show (0 : Int) < 20 by decide)
  have h2 := Int.lt_tmod_of_pos a (show (0 : Int) < 20 by decide)
  have : ∃ m : Nat, m < 20 ∧ bagnallkeep_Picked.f a 20 = some (m : Int) := by
    unfold bagnallkeep_Picked.f
    rw [if_neg (by decide)]
    split
    · refine ⟨(Int.tmod a 20 + 20).toNat, by omega, ?_⟩
      rw [show wrap64 (Int.tmod a 20 + 20) = Int.tmod a 20 + 20 by unfold wrap64; omega]
      congr 1; omega
    · exact ⟨(Int.tmod a 20).toNat, by omega, by congr 1; omega⟩
  obtain ⟨m, hm, hr⟩ := this
  exact ⟨m, hm, bagnallkeep_Picked.calls a 20 _ w hr⟩
theorem rep_step (a : List UInt8) (i : Nat) (c : UInt8) : str (a ++ List.replicate i c) ++ str [c] = str (a ++ List.replicate (i + 1) c) := by
  rw [str_append, List.append_assoc, ← List.replicate_succ']

set_option maxHeartbeats 8000000 in
set_option maxRecDepth 100000 in
theorem deep_walk (a : Int) (w : World) (hE : Glob w.heap.size w) :
    Calls Tryz.prog 7 #[.int .i64 a] w fun e w' => e = .returned (.bool true) ∧ Below w.heap.size w w' := by
  obtain ⟨m, hm, HPk⟩ := picked_20 a w
  have HE := Aside0.mk hE
  obtain ⟨n, hn⟩ : ∃ n, n = m + 1 := ⟨_, rfl⟩
  have hnz : IntKind.i64.wrap (1 + (m : Int)) = (n : Int) := by rw [hn, wrap_small _ (by omega) (by omega)]; omega
  have HM := Aside0.mk (And.intro hm hn)
  have hn20 : n ≤ 20 := by omega
  clear hm hn hE
  go_enter Tryz.func7, Tryz.ntmps7
  go_wp2_with (first
    | (go_at_call 15; refine HPk.mono ?_; rintro e w1 ⟨rfl, hb⟩; have HB1 := Aside0.mk hb.below; clear hb))
  go_loopg [4, 5] n (fun gf s4 s5 wx => ∃ i : Nat, i + gf = n ∧ s4 = .string (str ([] ++ List.replicate i 91)) ∧ s5 = .int .i64 (i : Int) ∧ wx = w1)
  case atStart => exact ⟨0, by omega, rfl, rfl, rfl⟩
  case round =>
    obtain ⟨i, hig, rfl, rfl, hw1⟩ := hrel
    rw [hw1]
    clear hw1
    cases gk with
    | succ g' =>
      have hi : ((i : Int) < (n : Int)) = True := by simp; omega
      have hwi : IntKind.i64.wrap ((i : Int) + 1) = (i : Int) + 1 := wrap_small _ (by omega) (by omega)
      have hcat := rep_step [] i 91
      obtain ⟨u, hu⟩ : ∃ u, str ([] ++ List.replicate i 91) = u := ⟨_, rfl⟩
      obtain ⟨u2, hu2⟩ : ∃ u, str ([] ++ List.replicate (i + 1) 91) = u := ⟨_, rfl⟩
      have n1 : ¬ 9223372036854775807 < u.size + 1 := by rw [← hu, str_size]; simp; omega
      rw [hu, hu2, show str [91] = (⟨#[91]⟩ : ByteArray) from rfl] at hcat
      rw [hu]
      have HU2 := Aside0.mk hu2
      clear hu hu2
      go_wp2
      go_roundg g'
      case measure => omega
      case rel => exact ⟨i + 1, by omega, by rw [HU2.out], by first | rfl | (push_cast; rfl), rfl⟩
    | zero =>
      obtain rfl : i = n := by omega
      have hi : ((i : Int) < (i : Int)) = False := by simp
      go_wp2
      go_loopg [4, 6] i (fun gf s4 s6 wx => ∃ j : Nat, j + gf = i ∧ s4 = .string (str (List.replicate i 91 ++ List.replicate j 93)) ∧ s6 = .int .i64 (j : Int) ∧ wx = w1)
      case atStart => exact ⟨0, by omega, by rw [List.replicate_zero, List.append_nil]; rfl, rfl, rfl⟩
      case round =>
        obtain ⟨j, hjg, rfl, rfl, hw1⟩ := hrel
        rw [hw1]
        clear hw1
        cases gk with
        | succ g' =>
          have hj : ((j : Int) < (i : Int)) = True := by simp; omega
          have hwj : IntKind.i64.wrap ((j : Int) + 1) = (j : Int) + 1 := wrap_small _ (by omega) (by omega)
          have hcat := rep_step (List.replicate i 91) j 93
          obtain ⟨u, hu⟩ : ∃ u, str (List.replicate i 91 ++ List.replicate j 93) = u := ⟨_, rfl⟩
          obtain ⟨u2, hu2⟩ : ∃ u, str (List.replicate i 91 ++ List.replicate (j + 1) 93) = u := ⟨_, rfl⟩
          have n1 : ¬ 9223372036854775807 < u.size + 1 := by rw [← hu, str_size]; simp; omega
          rw [hu, hu2, show str [93] = (⟨#[93]⟩ : ByteArray) from rfl] at hcat
          rw [hu]
          have HU2 := Aside0.mk hu2
          clear hu hu2
          go_wp2
          go_roundg g'
          case measure => omega
          case rel => exact ⟨j + 1, by omega, by rw [HU2.out], by first | rfl | (push_cast; rfl), rfl⟩
        | zero =>
          obtain rfl : j = i := by omega
          have hj : ((j : Int) < (j : Int)) = False := by simp
          obtain ⟨u, hu⟩ : ∃ u, str (List.replicate j 91 ++ List.replicate j 93) = u := ⟨_, rfl⟩
          rw [hu]
          have HU := Aside0.mk (show u = str (deepT m) by rw [← hu, deepT_eq, ← HM.out.2])
          clear hu
          have HGl := Aside0.mk (glob_at'' HE.out w1 HB1.out)
          have hlen : (deepT m).length ≤ 42 := by rw [deepT_eq]; simp; have := HM.out.1; omega
          by_cases h6 : 6 < j
          · have h6z : ((6 : Int) < (j : Int)) = True := by simp; omega
            have hf := deep_fault ⟨m, HM.out.1⟩ (by have := HM.out.2; show 6 ≤ m; omega)
            have hc := fault_chk 60 (deepV m) 5 (by decide) hf
            have hpi : ParseIs (deepT m) z26 5 := .inr (.inr ⟨by omega, deepV m, deep_whole m, hc, by rw [if_neg (by decide)]⟩)
            have HPa := Aside0.mk (parse_calls any_ok (deepT m) (by omega) _ _ hpi w1 HGl.out)
            rw [← HU.out] at HPa
            clear hf hc hpi hlen HM HU HE
            go_wp2_with (first
              | (go_at_call 13; refine HPa.out.mono ?_; rintro e w2 ⟨v3, v4, rfl, h3, h4, hb⟩; obtain ⟨A3, c3, rfl⟩ := Kd.R_slice h3; obtain ⟨A4, c4, rfl⟩ := Kd.R_slice h4; have HB2 := Aside0.mk (HB1.out.trans (hb.mono HB1.out.size)); clear h3 h4 hb))
            go_ret
            exact ⟨rfl, HB2.out.trans ((below_alloc (Below.refl _ _) _).mono HB2.out.size)⟩
          · have h6z : ((6 : Int) < (j : Int)) = False := by simp; omega
            have hm6 : m + 1 ≤ 6 := by have := HM.out.2; omega
            have hbig : big (deepV m) = false := by
              unfold big
              rw [deep_cnt, deep_vt]
              simp; omega
            have hck : chk (deepV m) = 0 := by unfold chk; rw [hbig]; rfl
            have hwf := deep_wf m
            have hvt : (vt (deepV m)).length ≤ 1000000 := by rw [deep_vt]; omega
            have hct : cnt (deepV m) ≤ 1000000 := by rw [deep_cnt]; omega
            have hc : ChkOk (deepV m) 0 := by
              intro A3 c3 A4 c4 w h3 l3 h4 l4 hT
              rw [← hck]
              exact check_calls (m + 1) (deepV m) hwf hm6 hct hvt A3 c3 A4 c4 w h3 l3 h4 l4 hT
            have hpi : ParseIs (deepT m) (deepV m) 0 := .inr (.inr ⟨by omega, deepV m, deep_whole m, hc, by rw [if_pos rfl]⟩)
            have HPa := Aside0.mk (parse_calls any_ok (deepT m) (by omega) _ _ hpi w1 HGl.out)
            have HTx := Aside0.mk (fun A3 c3 A4 c4 w h3 l3 h4 l4 hT => text_calls (m + 1) (deepV m) hwf hm6 hct hvt A3 c3 A4 c4 w h3 l3 h4 l4 hT)
            have HVt := Aside0.mk (deep_vt m)
            obtain ⟨ps, hps⟩ : ∃ ps, deepV m = ⟨6, 0, ⟨#[]⟩, [], ps⟩ := by cases m <;> exact ⟨_, rfl⟩
            rw [hck, hbig] at HTx
            rw [HVt.out] at HTx
            rw [hps] at HPa HTx
            rw [← HU.out] at HPa
            clear hc hpi hlen hwf hct hvt hck hbig hps hm6
            obtain ⟨t2, ht2⟩ : ∃ q, q = str (deepT m) := ⟨_, rfl⟩
            rw [← ht2] at HTx
            have he : (t2.toList == u.toList) = true := by rw [ht2, ← HU.out]; exact beq_iff_eq.2 rfl
            clear ht2
            go_upto_region 12 with (first
              | (go_at_call 13; refine HPa.out.mono ?_; rintro e w2 ⟨v3, v4, rfl, h3, h4, hb⟩; obtain ⟨A3, c3, rfl⟩ := Kd.R_slice h3; obtain ⟨A4, c4, hv4⟩ := Kd.R_slice h4; obtain ⟨n4, hn4⟩ : ∃ x, x = ps.length := ⟨_, rfl⟩; dsimp only at hv4; rw [← hn4] at hv4; subst hv4; have HN4 := Aside0.mk hn4; clear hn4; have H3 := Aside0.mk (Kd.R_reads' h3); have H4 := Aside0.mk (Kd.R_reads' h4); have HB2 := Aside0.mk hb; clear h3 h4 hb))
            obtain ⟨g, hg⟩ : ∃ q, q = w2.heap.size := ⟨_, rfl⟩
            have HBl := Aside0.mk (heap_alloc_new w2 (.cells #[.int .i64 6, .int .i64 0, .string ⟨#[]⟩, .slice A3 0 c3, .slice A4 n4 c4] 26))
            have HB3 := Aside0.mk (show Below w2.heap.size w2 (w2.alloc (.cells #[.int .i64 6, .int .i64 0, .string ⟨#[]⟩, .slice A3 0 c3, .slice A4 n4 c4] 26)) from below_alloc (Below.refl _ _) _)
            generalize w2.alloc (.cells #[.int .i64 6, .int .i64 0, .string ⟨#[]⟩, .slice A3 0 c3, .slice A4 n4 c4] 26) = w3 at HBl HB3 ⊢
            rw [← hg] at HBl ⊢
            clear hg
            have HBw3 := Aside0.mk (HB1.out.trans ((HB2.out.trans (HB3.out.mono HB2.out.size)).mono HB1.out.size))
            have HT3 := Aside0.mk (glob_at'' HE.out w3 HBw3.out).now.tabs
            have k0 := blk_cell HBl.out 0
            have k1 := blk_cell HBl.out 1
            have k2 := blk_cell HBl.out 2
            have k3 := blk_cell HBl.out 3
            have k4 := blk_cell HBl.out 4
            dsimp at k0 k1 k2 k3 k4
            have HTc := Aside0.mk (show Calls Tryz.prog 11 #[.agg #[.int .i64 6, .int .i64 0, .string ⟨#[]⟩, .slice A3 0 c3, .slice A4 n4 c4]] w3 fun e w' => e = .returned (.tuple #[.string t2, .int .i64 0]) ∧ Below w3.heap.size w3 w' from by
              have l4 := H4.out.2.1
              have c4' := Kd.C_below H4.out.2.2 HB3.out
              have c3' := Kd.C_below H3.out.2.2 HB3.out
              rw [HN4.out] at l4
              try rw [HN4.out] at c4'
              have h := HTx.out A3 c3 A4 c4 w3 c3' H3.out.2.1 c4' l4 HT3.out
              rw [HN4.out]
              exact h)
            go_wp2_with (first
              | (go_at_call 11; refine HTc.out.mono ?_; rintro e w4 ⟨rfl, hb⟩; have HB4 := Aside0.mk (HBw3.out.trans (hb.mono HBw3.out.size)); clear hb))
            go_ret
            exact ⟨rfl, HB4.out⟩
theorem deep_calls (a : Int) (w : World) (ha : (Lit.int .i64 a).wf = true) (hE : Glob w.heap.size w) :
    Calls Tryz.prog 7 #[.int .i64 a] w fun e w' => e = .returned (.bool true) ∧ Below w.heap.size w w' := deep_walk a w hE
end Go.Proofs.YtmhfkbgdkgfafaaGreatDoor.Js
