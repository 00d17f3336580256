/- The turns that the laws make of raw numbers. -/
import Derived.Test.YtolnkahidgobhaaOut5
import Derived.BigQuiet
namespace Go.Proofs.Ytolnkahidgobhaa.Out
open Go.RowKit Go.Proofs.Ytolnkahidgobhaa.QOut Go.Proofs.YtolnkahidgobhaaW.PrintWords Go.Proofs.YtolnkahidgobhaaW.PrintLast Go.Proofs.YtolnkahidgobhaaW.PrintMore

theorem tmod_fix {a n : Int} (h0 : 0 < n) (h1 : n ≤ 1000000) : (Int.tmod a n < 0 → wrap64 (Int.tmod a n + n) = a % n) ∧ (¬ Int.tmod a n < 0 → Int.tmod a n = a % n) := by
  have hr0 := Int.emod_nonneg a (show n ≠ 0 by omega)
  have hr1 := Int.emod_lt_of_pos a h0
  have ht := Int.tmod_eq_emod (a := a) (b := n)
  by_cases hc : 0 ≤ a ∨ n ∣ a
  · rw [if_pos hc] at ht
    exact ⟨fun h => by omega, fun _ => by omega⟩
  · rw [if_neg hc] at ht
    exact ⟨fun h => by unfold wrap64; omega, fun h => by omega⟩

set_option maxHeartbeats 1000000 in
theorem Picked_any (w : World) (a n : Int) (h0 : 0 < n) (h1 : n ≤ 1000000) :
    Calls Try.prog 12 #[.int .i64 a, .int .i64 n] w fun e w' => e = .returned (.int .i64 (a % n)) ∧ w = w' := by
  have hf := tmod_fix (a := a) h0 h1
  have c3 : ¬ n = 0 := by omega
  have c3b0 : (n == 0) = false := beq_eq_false_iff_ne.mpr (by omega)
  have c3b1 : (n != 0) = true := bne_iff_ne.mpr (by omega)
  clear h0 h1
  by_cases c4 : Int.tmod a n < 0
  · have HE := Aside0.mk (hf.1 c4)
    have c4b0 : decide (Int.tmod a n < 0) = true := decide_eq_true c4
    clear c4 hf
    go_enter Try.func12, Try.ntmps12
    go_wp2
    go_ret
    exact ⟨by rw [← HE.out]; rfl, rfl⟩
  · have HE := Aside0.mk (hf.2 c4)
    have c4b0 : decide (Int.tmod a n < 0) = false := decide_eq_false c4
    clear c4 hf
    go_enter Try.func12, Try.ntmps12
    go_wp2
    go_ret
    exact ⟨by rw [← HE.out]; rfl, rfl⟩

/-- The letter of a number below ten. -/
def letter (k : Int) : ByteArray := ((⟨#[97, 98, 99, 100, 101, 102, 103, 104, 105, 106]⟩ : ByteArray).extract k.toNat 10).extract 0 1
/-- The turn of a raw number, and the batch that is next. -/
def turnOf (b x : Int) : S43 × Int :=
  if x % 8 = 3 ∨ x % 8 = 4 then (⟨2, ⟨#[]⟩, 1 + wrap64 (Int.tdiv x 8) % 5⟩, b)
  else if x % 8 = 5 then (⟨3, ⟨#[]⟩, b⟩, b + 1)
  else if x % 8 = 6 then (⟨4, ⟨#[]⟩, b⟩, b)
  else if x % 8 = 7 then (⟨3, ⟨#[]⟩, 1 + wrap64 (Int.tdiv x 8) % 6⟩, 1 + wrap64 (Int.tdiv x 8) % 6)
  else (⟨1, letter (wrap64 (Int.tdiv x 8) % 10), 0⟩, b)
def turns : List Int → Int → List S43
  | [], _ => []
  | x :: l, b => (turnOf b x).1 :: turns l (turnOf b x).2

theorem turnOf_range (b x : Int) (m : Nat) (h0 : 1 ≤ b) (h1 : b ≤ 6 + m) : 1 ≤ (turnOf b x).2 ∧ (turnOf b x).2 ≤ 6 + ((m + 1 : Nat) : Int) := by
  have h6 : 0 ≤ wrap64 (Int.tdiv x 8) % 6 ∧ wrap64 (Int.tdiv x 8) % 6 < 6 := ⟨Int.emod_nonneg _ (by decide), Int.emod_lt_of_pos _ (by decide)⟩
  unfold turnOf
  repeat' split
  all_goals (simp only []; omega)

set_option maxRecDepth 100000 in
set_option maxHeartbeats 4000000 in
theorem Turns_walk (A0 : Option Addr) (c0 : Nat) (l : List Int) (n : Int) (w : World) (hr : Kd.C (Kd.int .i64) w A0 l.length l) (hl : l.length ≤ 140737488351232) (hn : n ≤ 1000) :
    Calls Try.prog 18 #[.slice A0 l.length c0, .int .i64 n] w fun e w' => ∃ v0_ : Value, e = .returned v0_ ∧ Kd.R k43 43 w' w.heap.size (fun _ => True) v0_ (turns (l.take n.toNat) 1) ∧ Below w.heap.size w w' := by
  have HR := Aside0.mk hr
  have HN := Aside0.mk hn
  generalize hR : turns (l.take n.toNat) 1 = R
  have HRun := Aside0.mk hR
  clear hr hR
  go_enter Try.func18, Try.ntmps18
  go_wp2
  go_loopg [5, 6, 7] (l.length) (fun kq v5 v6 v7 wr => ∃ (i : Nat) (cs : List S43) (b : Int), v7 = .int .i64 i ∧ v6 = .int .i64 b ∧ Aside0 (kq + i = l.length) ∧ Aside0 (cs.length = i) ∧ Aside0 (i = 0 ∨ (i : Int) ≤ n) ∧ Aside0 (1 ≤ b ∧ b ≤ 6 + i) ∧ Aside0 (cs ++ turns ((l.take n.toNat).drop i) b = R) ∧ Aside0 (Kd.R k43 43 wr w.heap.size (fun _ => True) v5 cs) ∧ Aside0 (Below w.heap.size w wr))
  case atStart =>
    refine ⟨0, [], 1, rfl, rfl, ⟨by omega⟩, ⟨rfl⟩, ⟨.inl rfl⟩, ⟨by decide⟩, ⟨HRun.out⟩, ⟨Kd.R_nil _ _ _ _ _⟩, ⟨Below.refl _ _⟩⟩
  case round =>
    obtain ⟨i, cs, b, rfl, rfl, hK, hLen, hIn, hB, hRi, hCs, hBel⟩ := hrel
    by_cases hlt : i < l.length
    · by_cases hin : (i : Int) < n
      · obtain ⟨ad, rfl, hx0⟩ := Kd.at_int (Kd.C_below HR.out hBel.out) (i : Int) (by omega) (by omega)
        have hel : rd l (i : Int) = l[i] := by simp [rd, List.getD_eq_getElem?_getD, hlt]
        rw [hel] at hx0
        rw [Int.toNat_natCast] at hx0
        have hdrop : (l.take n.toNat).drop i = l[i] :: (l.take n.toNat).drop (i + 1) := by
          rw [List.drop_eq_getElem_cons (by rw [List.length_take]; omega)]; simp
        have hRi' : (cs ++ [(turnOf b l[i]).1]) ++ turns ((l.take n.toNat).drop (i + 1)) (turnOf b l[i]).2 = R := by
          rw [← hRi.out, hdrop, turns]; simp
        have HRi := Aside0.mk hRi'
        have HB := Aside0.mk (turnOf_range b l[i] i hB.out.1 hB.out.2)
        clear hel hRi hRi' hdrop
        have hinb := decide_eq_true hin
        have HIn := Aside0.mk hin
        have hb1 := hB.out.1
        have hb2 := hB.out.2
        generalize l[i] = x at *
        have hk0 : 0 ≤ wrap64 (Int.tdiv x 8) % 10 := Int.emod_nonneg _ (by decide)
        have hk1 : wrap64 (Int.tdiv x 8) % 10 < 10 := Int.emod_lt_of_pos _ (by decide)
        by_cases h3 : x % 8 = 3
        · have ht : turnOf b x = (⟨2, ⟨#[]⟩, 1 + wrap64 (Int.tdiv x 8) % 5⟩, b) := by simp [turnOf, h3]
          rw [ht] at HB HRi
          have hw : wrap64 (1 + wrap64 (Int.tdiv x 8) % 5) = (1 + wrap64 (Int.tdiv x 8) % 5) := by have h5 := Int.emod_nonneg (wrap64 (Int.tdiv x 8)) (show (5 : Int) ≠ 0 by decide); have h5' := Int.emod_lt_of_pos (wrap64 (Int.tdiv x 8)) (show (0 : Int) < 5 by decide); have h6 := Int.emod_nonneg (wrap64 (Int.tdiv x 8)) (show (6 : Int) ≠ 0 by decide); have h6' := Int.emod_lt_of_pos (wrap64 (Int.tdiv x 8)) (show (0 : Int) < 6 by decide); generalize wrap64 (Int.tdiv x 8) % 5 = z5 at *; generalize wrap64 (Int.tdiv x 8) % 6 = z6 at *; unfold wrap64; omega
          clear ht 
          go_wp2_with (first | (go_at_call 12; refine (Picked_any _ _ _ (by decide) (by decide)).mono ?_; rintro e w1 ⟨rfl, rfl⟩) | (at_builtin; refine Kd.R_append k43 (w0 := w) w.heap.size rfl (.tmp 59) (.tmp 61) 36 43 (.agg #[.int .i64 0, .string ⟨#[]⟩, .int .i64 0]) 32 rfl Try.underlying36 info43 rfl (by decide) (by omega) _ cs ⟨2, ⟨#[]⟩, 1 + wrap64 (Int.tdiv x 8) % 5⟩ [.int .i64 2, .string ⟨#[]⟩, .int .i64 (1 + wrap64 (Int.tdiv x 8) % 5)] (fun _ => True) (fun _ => False) rfl (by first | (go_simp; done) | (go_simp; rfl)) (k43_mkM _ _ _ ⟨2, ⟨#[]⟩, 1 + wrap64 (Int.tdiv x 8) % 5⟩) (fun _ h => h.elim) (fun _ _ => trivial) (Kd.R_alloc hCs.out _) (below_alloc hBel.out _) (by have := hBel.out.size; simp; omega) (by have := hLen.out; have := HIn.out; have := HN.out; omega) ?_; intro v2 w2 ho hb _ _; have HC2 := Aside0.mk ho; have HB2 := Aside0.mk hb; clear ho hb))
          go_roundg (gk - 1)
          case measure => have := hK.out; omega
          case rel => exact ⟨i + 1, cs ++ [⟨2, ⟨#[]⟩, 1 + wrap64 (Int.tdiv x 8) % 5⟩], b, by go_num, by go_num, ⟨by have := hK.out; omega⟩, ⟨by rw [List.length_append, hLen.out]; rfl⟩, ⟨.inr (by have := HIn.out; omega)⟩, HB, HRi, HC2, HB2⟩
        · have e3 := beq_eq_false_iff_ne.2 h3
          by_cases h4 : x % 8 = 4
          · have ht : turnOf b x = (⟨2, ⟨#[]⟩, 1 + wrap64 (Int.tdiv x 8) % 5⟩, b) := by simp [turnOf, h4]
            rw [ht] at HB HRi
            have hw : wrap64 (1 + wrap64 (Int.tdiv x 8) % 5) = (1 + wrap64 (Int.tdiv x 8) % 5) := by have h5 := Int.emod_nonneg (wrap64 (Int.tdiv x 8)) (show (5 : Int) ≠ 0 by decide); have h5' := Int.emod_lt_of_pos (wrap64 (Int.tdiv x 8)) (show (0 : Int) < 5 by decide); have h6 := Int.emod_nonneg (wrap64 (Int.tdiv x 8)) (show (6 : Int) ≠ 0 by decide); have h6' := Int.emod_lt_of_pos (wrap64 (Int.tdiv x 8)) (show (0 : Int) < 6 by decide); generalize wrap64 (Int.tdiv x 8) % 5 = z5 at *; generalize wrap64 (Int.tdiv x 8) % 6 = z6 at *; unfold wrap64; omega
            clear ht e3
            go_wp2_with (first | (go_at_call 12; refine (Picked_any _ _ _ (by decide) (by decide)).mono ?_; rintro e w1 ⟨rfl, rfl⟩) | (at_builtin; refine Kd.R_append k43 (w0 := w) w.heap.size rfl (.tmp 59) (.tmp 61) 36 43 (.agg #[.int .i64 0, .string ⟨#[]⟩, .int .i64 0]) 32 rfl Try.underlying36 info43 rfl (by decide) (by omega) _ cs ⟨2, ⟨#[]⟩, 1 + wrap64 (Int.tdiv x 8) % 5⟩ [.int .i64 2, .string ⟨#[]⟩, .int .i64 (1 + wrap64 (Int.tdiv x 8) % 5)] (fun _ => True) (fun _ => False) rfl (by first | (go_simp; done) | (go_simp; rfl)) (k43_mkM _ _ _ ⟨2, ⟨#[]⟩, 1 + wrap64 (Int.tdiv x 8) % 5⟩) (fun _ h => h.elim) (fun _ _ => trivial) (Kd.R_alloc hCs.out _) (below_alloc hBel.out _) (by have := hBel.out.size; simp; omega) (by have := hLen.out; have := HIn.out; have := HN.out; omega) ?_; intro v2 w2 ho hb _ _; have HC2 := Aside0.mk ho; have HB2 := Aside0.mk hb; clear ho hb))
            go_roundg (gk - 1)
            case measure => have := hK.out; omega
            case rel => exact ⟨i + 1, cs ++ [⟨2, ⟨#[]⟩, 1 + wrap64 (Int.tdiv x 8) % 5⟩], b, by go_num, by go_num, ⟨by have := hK.out; omega⟩, ⟨by rw [List.length_append, hLen.out]; rfl⟩, ⟨.inr (by have := HIn.out; omega)⟩, HB, HRi, HC2, HB2⟩
          · have e4 := beq_eq_false_iff_ne.2 h4
            by_cases h5 : x % 8 = 5
            · have ht : turnOf b x = (⟨3, ⟨#[]⟩, b⟩, b + 1) := by simp [turnOf, h5]
              rw [ht] at HB HRi
              have hw : wrap64 (b + 1) = (b + 1) := by have h5 := Int.emod_nonneg (wrap64 (Int.tdiv x 8)) (show (5 : Int) ≠ 0 by decide); have h5' := Int.emod_lt_of_pos (wrap64 (Int.tdiv x 8)) (show (0 : Int) < 5 by decide); have h6 := Int.emod_nonneg (wrap64 (Int.tdiv x 8)) (show (6 : Int) ≠ 0 by decide); have h6' := Int.emod_lt_of_pos (wrap64 (Int.tdiv x 8)) (show (0 : Int) < 6 by decide); generalize wrap64 (Int.tdiv x 8) % 5 = z5 at *; generalize wrap64 (Int.tdiv x 8) % 6 = z6 at *; unfold wrap64; omega
              clear ht e3 e4
              go_wp2_with (first | (go_at_call 12; refine (Picked_any _ _ _ (by decide) (by decide)).mono ?_; rintro e w1 ⟨rfl, rfl⟩) | (at_builtin; refine Kd.R_append k43 (w0 := w) w.heap.size rfl (.tmp 59) (.tmp 61) 36 43 (.agg #[.int .i64 0, .string ⟨#[]⟩, .int .i64 0]) 32 rfl Try.underlying36 info43 rfl (by decide) (by omega) _ cs ⟨3, ⟨#[]⟩, b⟩ [.int .i64 3, .string ⟨#[]⟩, .int .i64 b] (fun _ => True) (fun _ => False) rfl (by first | (go_simp; done) | (go_simp; rfl)) (k43_mkM _ _ _ ⟨3, ⟨#[]⟩, b⟩) (fun _ h => h.elim) (fun _ _ => trivial) (Kd.R_alloc hCs.out _) (below_alloc hBel.out _) (by have := hBel.out.size; simp; omega) (by have := hLen.out; have := HIn.out; have := HN.out; omega) ?_; intro v2 w2 ho hb _ _; have HC2 := Aside0.mk ho; have HB2 := Aside0.mk hb; clear ho hb))
              go_roundg (gk - 1)
              case measure => have := hK.out; omega
              case rel => exact ⟨i + 1, cs ++ [⟨3, ⟨#[]⟩, b⟩], b + 1, by go_num, by go_num, ⟨by have := hK.out; omega⟩, ⟨by rw [List.length_append, hLen.out]; rfl⟩, ⟨.inr (by have := HIn.out; omega)⟩, HB, HRi, HC2, HB2⟩
            · have e5 := beq_eq_false_iff_ne.2 h5
              by_cases h6 : x % 8 = 6
              · have ht : turnOf b x = (⟨4, ⟨#[]⟩, b⟩, b) := by simp [turnOf, h6]
                rw [ht] at HB HRi
                clear ht e3 e4 e5
                go_wp2_with (first | (go_at_call 12; refine (Picked_any _ _ _ (by decide) (by decide)).mono ?_; rintro e w1 ⟨rfl, rfl⟩) | (at_builtin; refine Kd.R_append k43 (w0 := w) w.heap.size rfl (.tmp 59) (.tmp 61) 36 43 (.agg #[.int .i64 0, .string ⟨#[]⟩, .int .i64 0]) 32 rfl Try.underlying36 info43 rfl (by decide) (by omega) _ cs ⟨4, ⟨#[]⟩, b⟩ [.int .i64 4, .string ⟨#[]⟩, .int .i64 b] (fun _ => True) (fun _ => False) rfl (by first | (go_simp; done) | (go_simp; rfl)) (k43_mkM _ _ _ ⟨4, ⟨#[]⟩, b⟩) (fun _ h => h.elim) (fun _ _ => trivial) (Kd.R_alloc hCs.out _) (below_alloc hBel.out _) (by have := hBel.out.size; simp; omega) (by have := hLen.out; have := HIn.out; have := HN.out; omega) ?_; intro v2 w2 ho hb _ _; have HC2 := Aside0.mk ho; have HB2 := Aside0.mk hb; clear ho hb))
                go_roundg (gk - 1)
                case measure => have := hK.out; omega
                case rel => exact ⟨i + 1, cs ++ [⟨4, ⟨#[]⟩, b⟩], b, by go_num, by go_num, ⟨by have := hK.out; omega⟩, ⟨by rw [List.length_append, hLen.out]; rfl⟩, ⟨.inr (by have := HIn.out; omega)⟩, HB, HRi, HC2, HB2⟩
              · have e6 := beq_eq_false_iff_ne.2 h6
                by_cases h7 : x % 8 = 7
                · have ht : turnOf b x = (⟨3, ⟨#[]⟩, 1 + wrap64 (Int.tdiv x 8) % 6⟩, 1 + wrap64 (Int.tdiv x 8) % 6) := by simp [turnOf, h7]
                  rw [ht] at HB HRi
                  have hw : wrap64 (1 + wrap64 (Int.tdiv x 8) % 6) = (1 + wrap64 (Int.tdiv x 8) % 6) := by have h5 := Int.emod_nonneg (wrap64 (Int.tdiv x 8)) (show (5 : Int) ≠ 0 by decide); have h5' := Int.emod_lt_of_pos (wrap64 (Int.tdiv x 8)) (show (0 : Int) < 5 by decide); have h6 := Int.emod_nonneg (wrap64 (Int.tdiv x 8)) (show (6 : Int) ≠ 0 by decide); have h6' := Int.emod_lt_of_pos (wrap64 (Int.tdiv x 8)) (show (0 : Int) < 6 by decide); generalize wrap64 (Int.tdiv x 8) % 5 = z5 at *; generalize wrap64 (Int.tdiv x 8) % 6 = z6 at *; unfold wrap64; omega
                  clear ht e3 e4 e5 e6
                  go_wp2_with (first | (go_at_call 12; refine (Picked_any _ _ _ (by decide) (by decide)).mono ?_; rintro e w1 ⟨rfl, rfl⟩) | (at_builtin; refine Kd.R_append k43 (w0 := w) w.heap.size rfl (.tmp 59) (.tmp 61) 36 43 (.agg #[.int .i64 0, .string ⟨#[]⟩, .int .i64 0]) 32 rfl Try.underlying36 info43 rfl (by decide) (by omega) _ cs ⟨3, ⟨#[]⟩, 1 + wrap64 (Int.tdiv x 8) % 6⟩ [.int .i64 3, .string ⟨#[]⟩, .int .i64 (1 + wrap64 (Int.tdiv x 8) % 6)] (fun _ => True) (fun _ => False) rfl (by first | (go_simp; done) | (go_simp; rfl)) (k43_mkM _ _ _ ⟨3, ⟨#[]⟩, 1 + wrap64 (Int.tdiv x 8) % 6⟩) (fun _ h => h.elim) (fun _ _ => trivial) (Kd.R_alloc hCs.out _) (below_alloc hBel.out _) (by have := hBel.out.size; simp; omega) (by have := hLen.out; have := HIn.out; have := HN.out; omega) ?_; intro v2 w2 ho hb _ _; have HC2 := Aside0.mk ho; have HB2 := Aside0.mk hb; clear ho hb))
                  go_roundg (gk - 1)
                  case measure => have := hK.out; omega
                  case rel => exact ⟨i + 1, cs ++ [⟨3, ⟨#[]⟩, 1 + wrap64 (Int.tdiv x 8) % 6⟩], 1 + wrap64 (Int.tdiv x 8) % 6, by go_num, by go_num, ⟨by have := hK.out; omega⟩, ⟨by rw [List.length_append, hLen.out]; rfl⟩, ⟨.inr (by have := HIn.out; omega)⟩, HB, HRi, HC2, HB2⟩
                · have e7 := beq_eq_false_iff_ne.2 h7
                  have ht : turnOf b x = (⟨1, letter (wrap64 (Int.tdiv x 8) % 10), 0⟩, b) := by simp [turnOf, h3, h4, h5, h6, h7]
                  rw [ht] at HB HRi
                  clear ht h3 h4 h5 h6 h7
                  go_wp2_with (first | (go_at_call 12; refine (Picked_any _ _ _ (by decide) (by decide)).mono ?_; rintro e w1 ⟨rfl, rfl⟩) | (at_builtin; refine Kd.R_append k43 (w0 := w) w.heap.size rfl (.tmp 59) (.tmp 61) 36 43 (.agg #[.int .i64 0, .string ⟨#[]⟩, .int .i64 0]) 32 rfl Try.underlying36 info43 rfl (by decide) (by omega) _ cs ⟨1, letter (wrap64 (Int.tdiv x 8) % 10), 0⟩ [.int .i64 1, .string (letter (wrap64 (Int.tdiv x 8) % 10)), .int .i64 0] (fun _ => True) (fun _ => False) rfl (by first | (go_simp; done) | (go_simp; rfl)) (k43_mkM _ _ _ ⟨1, letter (wrap64 (Int.tdiv x 8) % 10), 0⟩) (fun _ h => h.elim) (fun _ _ => trivial) (Kd.R_alloc hCs.out _) (below_alloc hBel.out _) (by have := hBel.out.size; simp; omega) (by have := hLen.out; have := HIn.out; have := HN.out; omega) ?_; intro v2 w2 ho hb _ _; have HC2 := Aside0.mk ho; have HB2 := Aside0.mk hb; clear ho hb))
                  go_roundg (gk - 1)
                  case measure => have := hK.out; omega
                  case rel => exact ⟨i + 1, cs ++ [⟨1, letter (wrap64 (Int.tdiv x 8) % 10), 0⟩], b, by go_num, by go_num, ⟨by have := hK.out; omega⟩, ⟨by rw [List.length_append, hLen.out]; rfl⟩, ⟨.inr (by have := HIn.out; omega)⟩, HB, HRi, HC2, HB2⟩
      · have HT := Aside0.mk (show cs = R by
          have h1 := hRi.out
          rw [List.drop_eq_nil_of_le (by rw [List.length_take]; rcases hIn.out with h | h <;> omega)] at h1
          simpa [turns] using h1)
        have hinb := decide_eq_false hin
        clear hin
        go_wp2
        go_ret
        exact ⟨_, rfl, by rw [← HT.out]; exact hCs.out, hBel.out⟩
    · have HT := Aside0.mk (show cs = R by
        have h1 := hRi.out
        rw [List.drop_eq_nil_of_le (by rw [List.length_take]; omega)] at h1
        simpa [turns] using h1)
      go_wp2
      go_ret
      exact ⟨_, rfl, by rw [← HT.out]; exact hCs.out, hBel.out⟩

end Go.Proofs.Ytolnkahidgobhaa.Out
namespace Go.Proofs.Ytolnkahidgobhaa.QOut
open Go.RowKit Go.Proofs.Ytolnkahidgobhaa.Out Go.Proofs.YtolnkahidgobhaaW.PrintWords Go.Proofs.YtolnkahidgobhaaW.PrintLast Go.Proofs.YtolnkahidgobhaaW.PrintMore

def bagnallkeep_Turns.f (l0 : List Int) (a1 : Int) : Option (List S43) :=
  if l0.length ≤ 140737488351232 ∧ a1 ≤ 1000 then some (turns (l0.take a1.toNat) 1) else none
theorem bagnallkeep_Turns.calls (A0 : Option Addr) (c0 : Nat) (l0 : List Int) (a1 : Int) (r : List S43) (w : World) (hr0 : Kd.C (Kd.int .i64) w A0 l0.length l0) (_hc0 : l0.length ≤ c0) (h : bagnallkeep_Turns.f l0 a1 = some r) :
    Calls Try.prog 18 #[.slice A0 l0.length c0, .int .i64 a1] w fun e w' => ∃ v0_ : Value, e = .returned v0_ ∧ Kd.R k43 43 w' w.heap.size (fun _ => True) v0_ r ∧ Below w.heap.size w w' := by
  unfold bagnallkeep_Turns.f at h
  by_cases hh : l0.length ≤ 140737488351232 ∧ a1 ≤ 1000
  · rw [if_pos hh] at h
    obtain rfl := Option.some.inj h
    exact Turns_walk A0 c0 l0 a1 w hr0 hh.1 hh.2
  · rw [if_neg hh] at h; cases h

end Go.Proofs.Ytolnkahidgobhaa.QOut
