/- json.Parse at any text. -/
import Derived.Test.YtmhfkbgdkgfafaaGreatDoorJsSv
import Derived.Test.YtmhfkbgdkgfafaaGreatDoorGJc
namespace Go.Proofs.YtmhfkbgdkgfafaaGreatDoor.Js
open Go.RowKit Go.Proofs.YtmhfkbgdkgfafaaGreatDoor.QJson Go.Proofs.YtmhfkbgdkgfafaaGreatDoorW.PrintWords Go.Proofs.YtmhfkbgdkgfafaaGreatDoorW.PrintLast Go.Proofs.YtmhfkbgdkgfafaaGreatDoorW.PrintMore
set_option linter.unusedVariables false
set_option linter.unusedSimpArgs false

set_option maxHeartbeats 4000000 in
set_option maxRecDepth 100000 in
/-- A value with a fault. -/
theorem fault_bad (K : Nat) (v : S26) (c : Int) (hc : c ≠ 0) (hk : json_fault.f K v.f0 v.f1 v.f2 v.f3 v.f4 0 = some c) : ChkOk v c := by
  intro A3 c3 A4 c4 w h3 l3 h4 l4 hT
  have HF := Aside0.mk (fun w h3 h4 => json_fault.calls K v.f0 v.f1 v.f2 A3 c3 v.f3 A4 c4 v.f4 0 c w h3 l3 h4 l4 hk)
  have H3 := Aside0.mk h3
  have H4 := Aside0.mk h4
  have q0 : (c == 0) = false := beq_eq_false_iff_ne.2 hc
  clear h3 h4 hT hk hc
  obtain ⟨k, i, t, ks, ps⟩ := v
  dsimp only at *
  obtain ⟨n3, hn3⟩ : ∃ n, n = ks.length := ⟨_, rfl⟩
  obtain ⟨n4, hn4⟩ : ∃ n, n = ps.length := ⟨_, rfl⟩
  rw [← hn3, ← hn4] at HF
  rw [← hn3] at H3 ⊢
  rw [← hn4] at H4 ⊢
  clear l3 l4 hn3 hn4
  go_enter Tryz.func17, Tryz.ntmps17
  go_upto_region 1 with (fail)
  have HB1 := Aside0.mk (show Below w.heap.size w (w.alloc (.cells #[.int .i64 k, .int .i64 i, .string t, .slice A3 n3 c3, .slice A4 n4 c4] 26)) from below_alloc (Below.refl _ _) _)
  have HC := Aside0.mk (box_cells w #[.int .i64 k, .int .i64 i, .string t, .slice A3 n3 c3, .slice A4 n4 c4])
  obtain ⟨g, hg⟩ : ∃ g, g = w.heap.size := ⟨_, rfl⟩
  generalize w.alloc (.cells #[.int .i64 k, .int .i64 i, .string t, .slice A3 n3 c3, .slice A4 n4 c4] 26) = W1 at HB1 HC ⊢
  rw [← hg] at HC ⊢
  clear hg
  have H3' := Aside0.mk (Kd.C_below H3.out HB1.out)
  have H4' := Aside0.mk (Kd.C_below H4.out HB1.out)
  have x0 := HC.out 0 _ rfl
  have x1 := HC.out 1 _ rfl
  have x2 := HC.out 2 _ rfl
  have x3 := HC.out 3 _ rfl
  have x4 := HC.out 4 _ rfl
  go_wp2_with (first | (go_at_call 22; refine (HF.out _ H3'.out H4'.out).mono ?_; rintro e w2 ⟨rfl, hb⟩; have S2 := Aside0.mk hb; clear hb))
  go_ret
  exact ⟨rfl, HB1.out.trans (S2.out.mono HB1.out.size)⟩

theorem Sh.of_wf {d : Nat} : ∀ {v : S26}, WF d v → Sh v := by
  induction d with
  | zero => intro v h; cases h
  | succ d ih => intro v h; exact .mk h.keysLen (fun p hp => ih (h.part hp))
/-- Check at a value that may be. -/
theorem chk_ok {d : Nat} {v : S26} (hv : WF d v) (hd : d ≤ 6) (hc : cnt v ≤ 1000000) (hl : (vt v).length ≤ 1000000) : ChkOk v (chk v) := by
  intro A3 c3 A4 c4 w h3 l3 h4 l4 hT
  exact check_calls d v hv hd hc hl A3 c3 A4 c4 w h3 l3 h4 l4 hT
theorem chk_zero {v : S26} : chk v = 0 ↔ big v = false := by
  unfold chk
  cases big v with
  | true => simp
  | false => simp
/-- Check at whatever was parsed. -/
theorem chk_any (v : S26) (hs : Sh v) (hc : cnt v ≤ 1000000) (hl : WF 6 v → (vt v).length ≤ 1000000) : ∃ c, ChkOk v c ∧ (c = 0 → WF 6 v ∧ big v = false) := by
  obtain ⟨K, c, h1, h2⟩ := fault_any 6 0 rfl v hs hc
  by_cases h : c = 0
  · have hw := h2 h
    refine ⟨chk v, chk_ok hw (by decide) hc (hl hw), fun h => ⟨hw, chk_zero.1 h⟩⟩
  · exact ⟨c, fault_bad K v c h (h1 K (Nat.le_refl _)), fun h0 => absurd h0 h⟩
theorem parseP_some {l : List UInt8} {v : S26} (h : parseP l = some v) : cnt v ≤ l.length ∧ Sh v ∧ (∀ e, WF e v → (vt v).length ≤ l.length) := by
  unfold parseP at h
  cases hv : valueP (l.length + 8) (sk l) with
  | none => rw [hv] at h; cases h
  | some p =>
    obtain ⟨u, r⟩ := p
    rw [hv] at h
    dsimp only at h
    split at h
    · cases h
      have h1 := valueP_shape _ _ _ _ hv
      have h2 := valueP_len _ _ _ _ hv
      have h3 := sk_le l
      exact ⟨by omega, h1.2, fun e he => by have := h2 ⟨e, he⟩; omega⟩
    · cases h
/-- What any text is parsed to. -/
theorem parse_is (l : List UInt8) : ∃ v c, ParseIs l v c ∧ (c = 0 → parseP l = some v ∧ WF 6 v ∧ big v = false ∧ (vt v).length ≤ l.length ∧ l.length ≤ 1200) ∧ (c ≠ 0 → v = z26) := by
  by_cases hb : 1200 < l.length
  · exact ⟨z26, 1, .inl ⟨hb, rfl, rfl⟩, fun h => absurd h (by decide), fun _ => rfl⟩
  cases hp : parseP l with
  | none => exact ⟨z26, 4, .inr (.inl ⟨by omega, hp, rfl, rfl⟩), fun h => absurd h (by decide), fun _ => rfl⟩
  | some u =>
    obtain ⟨h1, h2, h3⟩ := parseP_some hp
    obtain ⟨c, hc, hc0⟩ := chk_any u h2 (by omega) (fun hw => by have := h3 6 hw; omega)
    refine ⟨if c = 0 then u else z26, c, .inr (.inr ⟨by omega, u, hp, hc, rfl⟩), fun h => ?_, fun h => by rw [if_neg h]⟩
    rw [if_pos h]
    exact ⟨rfl, (hc0 h).1, (hc0 h).2, h3 6 (hc0 h).1, by omega⟩
set_option maxHeartbeats 8000000 in
set_option maxRecDepth 100000 in
theorem parse_long (l : List UInt8) (hbig : 1200 < l.length) (w : World) :
    Calls Tryz.prog 13 #[.string (str l)] w fun e w' => ParseOut w z26 1 e w' := by
  have hsz := str_size l
  obtain ⟨s, hs⟩ : ∃ q, q = str l := ⟨_, rfl⟩
  rw [← hs] at hsz ⊢
  clear hs
  go_enter Tryz.func13, Tryz.ntmps13
  go_upto_region 1 with (fail)
  obtain ⟨rb, hrb⟩ : ∃ q, q = w.heap.size := ⟨_, rfl⟩
  have HRb0 := Aside0.mk (blk_new w (.cells #[.int .i64 0, .int .i64 0, .string ⟨#[]⟩, .slice none 0 0, .slice none 0 0] 26))
  have HB0 := Aside0.mk (show Below w.heap.size w (w.alloc (.cells #[.int .i64 0, .int .i64 0, .string ⟨#[]⟩, .slice none 0 0, .slice none 0 0] 26)) from below_alloc (Below.refl _ _) _)
  have HS0 := Aside0.mk (World.size_alloc w (.cells #[.int .i64 0, .int .i64 0, .string ⟨#[]⟩, .slice none 0 0, .slice none 0 0] 26))
  generalize w.alloc (.cells #[.int .i64 0, .int .i64 0, .string ⟨#[]⟩, .slice none 0 0, .slice none 0 0] 26) = w0 at HRb0 HB0 HS0 ⊢
  rw [← hrb] at HRb0 HS0 ⊢
  have HRb := Aside0.mk hrb
  clear hrb
  have i1 : (1200 : Int) < (l.length : Int) := by omega
  clear hbig
  have r0 := blk_cell HRb0.out 0
  have r1 := blk_cell HRb0.out 1
  have r2 := blk_cell HRb0.out 2
  have r3 := blk_cell HRb0.out 3
  have r4 := blk_cell HRb0.out 4
  have t0 := blk_frozen HRb0.out 0
  have t1 := blk_frozen HRb0.out 1
  have t2 := blk_frozen HRb0.out 2
  have t3 := blk_frozen HRb0.out 3
  have t4 := blk_frozen HRb0.out 4
  dsimp at r0 r1 r2 r3 r4
  go_wp2
  have hblk := set5_blk HRb0.out (.int .i64 0) (.int .i64 0) (.string ⟨#[]⟩) (.slice none 0 0) (.slice none 0 0)
  refine bodyPost_ret (results_ct rfl _ _ rb 26 _ (0, 0) _ rfl hblk Tryz.underlying26 rfl (by kernel_rfl)) rfl ?_
  exact parse_zero HB0.out (Nat.le_of_eq HRb.out.symm)

theorem glob_up {w : World} (h : Glob w.heap.size w) : ∀ w', Below w.heap.size w w' → Glob w'.heap.size w' := fun w' hb =>
  ⟨Nat.le_refl _, fun w2 h2 => h.errs w2 (hb.trans (h2.mono hb.size)), fun w2 h2 => h.words w2 (hb.trans (h2.mono hb.size))⟩
/-- json.Parse at any text. -/
theorem parse_any (l : List UInt8) : ∃ v c, (c = 0 → parseP l = some v ∧ WF 6 v ∧ big v = false ∧ (vt v).length ≤ l.length ∧ l.length ≤ 1200) ∧ (c ≠ 0 → v = z26) ∧
    ∀ w : World, Glob w.heap.size w → Calls Tryz.prog 13 #[.string (str l)] w fun e w' => ParseOut w v c e w' := by
  by_cases hb : 1200 < l.length
  · exact ⟨z26, 1, fun h => absurd h (by decide), fun _ => rfl, fun w _ => parse_long l hb w⟩
  · obtain ⟨v, c, h1, h2, h3⟩ := parse_is l
    exact ⟨v, c, h2, h3, fun w hG => parse_calls any_ok l (by omega) v c h1 w hG⟩
/-- json.Parse at a text that is known. -/
theorem parse_known {l : List UInt8} {v : S26} (hp : parseP l = some v) (hl : l.length ≤ 1200) (hw : WF 6 v) (hb : big v = false) (w : World) (hG : Glob w.heap.size w) : Calls Tryz.prog 13 #[.string (str l)] w fun e w' => ParseOut w v 0 e w' := by
  obtain ⟨h1, h2, h3⟩ := parseP_some hp
  have hc := chk_ok hw (by decide) (by omega) (by have := h3 6 hw; omega)
  rw [chk_zero.2 hb] at hc
  exact parse_calls any_ok l (by omega) v 0 (.inr (.inr ⟨hl, v, hp, hc, by rw [if_pos rfl]⟩)) w hG
theorem big_small {v : S26} (h : big v = false) : cnt v ≤ 100 ∧ (vt v).length ≤ 600 := by
  unfold big at h
  simp only [Bool.or_eq_false_iff, decide_eq_false_iff_not] at h
  omega
/-- json.Text at a value that is right. -/
theorem text_right {v : S26} (hw : WF 6 v) (hb : big v = false) (A3 : Option Addr) (c3 : Nat) (A4 : Option Addr) (c4 : Nat) (w : World) (h3 : Kd.C Kd.string w A3 v.f3.length v.f3) (l3 : v.f3.length ≤ c3) (h4 : Kd.C k26 w A4 v.f4.length v.f4) (l4 : v.f4.length ≤ c4) (hT : Tabs w) :
    Calls Tryz.prog 11 #[.agg #[.int .i64 v.f0, .int .i64 v.f1, .string v.f2, .slice A3 v.f3.length c3, .slice A4 v.f4.length c4]] w fun e w' => e = .returned (.tuple #[.string (str (vt v)), .int .i64 0]) ∧ Below w.heap.size w w' := by
  obtain ⟨h1, h2⟩ := big_small hb
  have h := text_calls 6 v hw (by decide) (by omega) (by omega) A3 c3 A4 c4 w h3 l3 h4 l4 hT
  rw [hb, chk_zero.2 hb] at h
  exact h

end Go.Proofs.YtmhfkbgdkgfafaaGreatDoor.Js
