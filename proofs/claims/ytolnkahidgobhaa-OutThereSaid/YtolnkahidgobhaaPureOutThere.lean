/- For every list of numbers and every number, OutThere returns true: with enough ticks and confirmations all items are delivered, in as few batches as possible. No condition. -/
import Derived.Test.YtolnkahidgobhaaQOutx4
import Derived.Test.YtolnkahidgobhaaOutPa
namespace Go.Proofs.Ytolnkahidgobhaa.Pure
open Go.RowKit Go.Proofs.Ytolnkahidgobhaa.QOut Go.Proofs.Ytolnkahidgobhaa.Out Go.Proofs.YtolnkahidgobhaaW.PrintWords Go.Proofs.YtolnkahidgobhaaW.PrintLast Go.Proofs.YtolnkahidgobhaaW.PrintMore

theorem picked_of3 (a n : Int) (h0 : 0 < n) (h1 : n ≤ 1000000) : bagnallkeep_Picked.f a n = some (a % n) := by
  have hf := tmod_fix (a := a) h0 h1
  unfold bagnallkeep_Picked.f
  rw [if_neg (by omega)]
  by_cases hc : Int.tmod a n < 0
  · rw [if_pos hc, hf.1 hc]
  · rw [if_neg hc, hf.2 hc]

theorem same_loop (x : List ByteArray) (hx : x.length ≤ 1000) : ∀ (d i k : Nat), i + d = x.length → d < k → bagnallkeep_sameTexts.l0 k x x i = some true := by
  intro d
  induction d with
  | zero =>
    intro i k hd hk
    obtain ⟨k, rfl⟩ : ∃ m, k = m + 1 := ⟨k - 1, by omega⟩
    rw [bagnallkeep_sameTexts.l0, if_neg (by omega)]
  | succ d ih =>
    intro i k hd hk
    obtain ⟨k, rfl⟩ : ∃ m, k = m + 1 := ⟨k - 1, by omega⟩
    rw [bagnallkeep_sameTexts.l0, if_pos (by omega), if_pos (by omega), if_pos (by omega), if_pos rfl, wrap_in (by omega) (by omega)]
    exact ih (i + 1) k (by omega) (by omega)
theorem same_self (x : List ByteArray) (hx : x.length ≤ 1000) (k : Nat) (hk : x.length < k) : bagnallkeep_sameTexts.f k x x = some true := by
  unfold bagnallkeep_sameTexts.f
  rw [if_pos rfl]
  exact same_loop x hx x.length 0 k (by omega) hk

/-- The tick of the law, the confirmation and the failure. -/
def tk : S43 := ⟨2, ⟨#[]⟩, 17⟩
def dn (b : Int) : S43 := ⟨3, ⟨#[]⟩, b⟩
def fl (b : Int) : S43 := ⟨4, ⟨#[]⟩, b⟩
def Small (ps : List S43) : Prop := ∀ m ∈ ps, m.f1.size ≤ 20
theorem Small.snoc {ps : List S43} (h : Small ps) {t : S43} (ht : t.f1.size ≤ 20) : Small (ps ++ [t]) := fun m hm => by
  rcases List.mem_append.1 hm with hm | hm
  · exact h m hm
  · rw [List.mem_singleton.1 hm]; exact ht
theorem after_snoc (ps : List S43) (t : S43) (s : St) : after (ps ++ [t]) s = (Out.step t.f0 t.f1 t.f2 (after ps s)).2 := by rw [after_append]; rfl

theorem last_of (ps : List S43) (t : S43) (hl : ps.length ≤ 98) : rd_T45 (run (ps ++ [t]) st0) (wrap64 (((run (ps ++ [t]) st0).length : Int) - 1)) = sent (Out.step t.f0 t.f1 t.f2 (after ps st0)) ∧ wrap64 (((run (ps ++ [t]) st0).length : Int) - 1) = (ps.length : Int) ∧ ((run (ps ++ [t]) st0).length : Int) = (ps.length : Int) + 1 := by
  have h1 : ((run (ps ++ [t]) st0).length : Int) = (ps.length : Int) + 1 := by rw [run_length, List.length_append]; simp
  have h2 : wrap64 (((run (ps ++ [t]) st0).length : Int) - 1) = (ps.length : Int) := by rw [h1, wrap_in (by omega) (by omega)]; omega
  refine ⟨?_, h2, h1⟩
  rw [h2, rd45 _ _ _ (by rw [List.length_append]; simp)]
  simp

theorem j4_tick (k : Nat) (x1 : Int) (ps : List S43) (want got : List ByteArray) (b f x12 : Int) (hps : ps.length ≤ 90) (hs : Small ps) (its : List ByteArray) (s1 : St) (hst : Out.step 2 ⟨#[]⟩ 17 (after ps st0) = ((0, b, its), s1)) :
    bagnallkeep_OutThere.j4 (k + 1) x1 ps want got b f x12 true = bagnallkeep_OutThere.j5 k x1 (ps ++ [tk]) want got b f x12 (run (ps ++ [tk]) st0) false := by
  obtain ⟨h1, h2, h3⟩ := last_of ps tk (by omega)
  have hst' : Out.step tk.f0 tk.f1 tk.f2 (after ps st0) = ((0, b, its), s1) := hst
  rw [hst'] at h1
  rw [bagnallkeep_OutThere.j4, if_pos rfl, if_pos (by omega), Option.bind_some]
  show ((bagnallkeep_outOf.f (ps ++ [tk])).bind _) = _
  rw [outOf_tells _ (by rw [List.length_append]; simp; omega) (hs.snoc (by decide)), Option.bind_some, if_pos rfl]
  show (if 0 ≤ wrap64 (((run (ps ++ [tk]) st0).length : Int) - 1) then _ else _) = _
  rw [if_pos (by omega), if_pos (by show wrap64 (((run (ps ++ [tk]) st0).length : Int) - 1) < ((run (ps ++ [tk]) st0).length : Int); omega)]
  show bagnallkeep_OutThere.j5 k x1 (ps ++ [tk]) want got b f x12 (run (ps ++ [tk]) st0) ((rd_T45 (run (ps ++ [tk]) st0) (wrap64 (((run (ps ++ [tk]) st0).length : Int) - 1))).f1 != b) = _
  rw [h1]
  show bagnallkeep_OutThere.j5 k x1 (ps ++ [tk]) want got b f x12 (run (ps ++ [tk]) st0) (b != b) = _
  rw [bne_self_eq_false]

theorem j5_got (k : Nat) (x1 : Int) (ps : List S43) (want got : List ByteArray) (b f x12 : Int) (hps : ps.length ≤ 90) (its : List ByteArray) (s1 : St) (hst : Out.step 2 ⟨#[]⟩ 17 (after ps st0) = ((0, b, its), s1)) (hi : its.length ≤ 4) (hg : got.length ≤ 1000) (hx0 : 0 ≤ x12) (hx1 : x12 ≤ 10) (hx : ¬ (x12 < f ∧ x12 < 1)) :
    bagnallkeep_OutThere.j5 (k + 1) x1 (ps ++ [tk]) want got b f x12 (run (ps ++ [tk]) st0) false = bagnallkeep_OutThere.l2 k x1 (ps ++ [tk] ++ [dn b]) want (got ++ its) b f (x12 + 1) := by
  obtain ⟨h1, h2, h3⟩ := last_of ps tk (by omega)
  have hst' : Out.step tk.f0 tk.f1 tk.f2 (after ps st0) = ((0, b, its), s1) := hst
  rw [hst'] at h1
  have h4 : (rd_T45 (run (ps ++ [tk]) st0) (wrap64 (((run (ps ++ [tk]) st0).length : Int) - 1))).f2 = its := by rw [h1]; rfl
  have h5 : (ps ++ [tk]).length ≤ 100 := by rw [List.length_append]; simp; omega
  rw [bagnallkeep_OutThere.j5, if_neg (by decide)]
  by_cases c1 : x12 < f
  · rw [if_pos c1, if_neg (fun h => hx ⟨c1, h⟩), if_pos (by omega), if_pos (by omega), h4, if_pos (by omega), if_pos (by omega), wrap_in (by omega) (by omega)]
    rfl
  · rw [if_neg c1, if_pos (by omega), if_pos (by omega), h4, if_pos (by omega), if_pos (by omega), wrap_in (by omega) (by omega)]
    rfl

theorem j5_fail (k : Nat) (x1 : Int) (ps : List S43) (want got : List ByteArray) (b f x12 : Int) (x13 : List S45) (hps : ps.length ≤ 98) (hx0 : x12 = 0) (hx : x12 < f) :
    bagnallkeep_OutThere.j5 (k + 1) x1 ps want got b f x12 x13 false = bagnallkeep_OutThere.l2 k x1 (ps ++ [fl b]) want got b f 1 := by
  subst hx0
  rw [bagnallkeep_OutThere.j5, if_neg (by decide), if_pos hx, if_pos (by decide), if_pos (by omega), wrap_in (by decide) (by decide)]
  rfl

theorem l2_in (k : Nat) (x1 : Int) (ps : List S43) (want got : List ByteArray) (b f x12 : Int) (h : x12 ≤ f) (h2 : x12 < 2) : bagnallkeep_OutThere.l2 (k + 1) x1 ps want got b f x12 = bagnallkeep_OutThere.j4 k x1 ps want got b f x12 true := by
  rw [bagnallkeep_OutThere.l2, if_pos h, decide_eq_true h2]
theorem l2_out (k : Nat) (x1 : Int) (ps : List S43) (want got : List ByteArray) (b f x12 : Int) (hb0 : 0 ≤ b) (hb1 : b ≤ 1000) (h : ¬ (x12 ≤ f ∧ x12 < 2)) : bagnallkeep_OutThere.l2 (k + 2) x1 ps want got b f x12 = bagnallkeep_OutThere.l1 k x1 ps want got (b + 1) := by
  have hj : bagnallkeep_OutThere.j4 (k + 1) x1 ps want got b f x12 false = bagnallkeep_OutThere.l1 k x1 ps want got (b + 1) := by
    rw [bagnallkeep_OutThere.j4, if_neg (by decide), wrap_in (by omega) (by omega)]
  rw [bagnallkeep_OutThere.l2]
  by_cases c : x12 ≤ f
  · rw [if_pos c, decide_eq_false (fun h2 => h ⟨c, h2⟩), hj]
  · rw [if_neg c, hj]

/-- Between two batches. -/
structure Idle (n : Int) (rest : List ByteArray) (s : St) : Prop where
  items : s.items = rest
  size : s.size = 0
  away : s.away = false
  batch : s.batch = n
  fails : s.fails = 0
  clock : 0 ≤ s.clock
  frm : s.frm ≤ s.clock

theorem tick_first {n : Int} {rest : List ByteArray} {s : St} (h : Idle n rest s) (hr : rest ≠ []) :
    Out.step 2 ⟨#[]⟩ 17 s = ((0, n + 1, rest.take 4), { s with clock := s.clock + 17, size := mn rest.length 4, batch := n + 1, away := true }) := by
  obtain ⟨rfl, h2, h3, rfl, h5, h6, h7⟩ := h
  have hl : s.items.length ≠ 0 := fun e => hr (List.eq_nil_of_length_eq_zero e)
  unfold Out.step
  rw [if_neg (by decide), if_pos rfl, if_neg (by decide)]
  unfold tick
  rw [if_neg (by rintro (h | h | h); rw [h3] at h; cases h; exact hl h; omega), if_pos h2]
  have ht : s.items.take (mn s.items.length 4).toNat = s.items.take 4 := by
    unfold mn
    split
    · rfl
    · rw [Int.toNat_natCast, List.take_of_length_le (Nat.le_refl _), List.take_of_length_le (by omega)]
  rw [ht]

/-- A batch that is on its way. -/
structure Going (n : Int) (rest : List ByteArray) (s : St) : Prop where
  items : s.items = rest
  size : s.size = mn rest.length 4
  away : s.away = true
  batch : s.batch = n
  clock : 0 ≤ s.clock

theorem drop_mn (rest : List ByteArray) : rest.drop (mn rest.length 4).toNat = rest.drop 4 := by
  unfold mn
  split
  · rfl
  · rw [Int.toNat_natCast, List.drop_of_length_le (Nat.le_refl _), List.drop_of_length_le (by omega)]
theorem take_mn (rest : List ByteArray) : rest.take (mn rest.length 4).toNat = rest.take 4 := by
  unfold mn
  split
  · rfl
  · rw [Int.toNat_natCast, List.take_of_length_le (Nat.le_refl _), List.take_of_length_le (by omega)]

theorem done_going {n : Int} {rest : List ByteArray} {s : St} (h : Going n rest s) : Idle n (rest.drop 4) (Out.step 3 ⟨#[]⟩ n s).2 := by
  obtain ⟨rfl, h2, h3, rfl, h5⟩ := h
  have e : (Out.step 3 ⟨#[]⟩ s.batch s).2 = { s with away := false, items := s.items.drop s.size.toNat, size := 0, fails := 0, frm := s.clock } := by
    simp [Out.step, fin, h3]
  rw [e]
  exact ⟨by show s.items.drop s.size.toNat = _; rw [h2, drop_mn], rfl, rfl, rfl, rfl, h5, Int.le_refl _⟩

theorem again {n : Int} {rest : List ByteArray} {s : St} (h : Going n rest s) (hf : s.fails = 0) (hr : rest ≠ []) : ∃ s1, Out.step 2 ⟨#[]⟩ 17 (Out.step 4 ⟨#[]⟩ n s).2 = ((0, n, rest.take 4), s1) ∧ Going n rest s1 := by
  obtain ⟨rfl, h2, h3, rfl, h5⟩ := h
  have hl : s.items.length ≠ 0 := fun e => hr (List.eq_nil_of_length_eq_zero e)
  have e : (Out.step 4 ⟨#[]⟩ s.batch s).2 = { s with away := false, fails := 1, frm := s.clock + 1 } := by
    simp [Out.step, fin, h3, hf, waitN]
  have hs : s.size ≠ 0 := by rw [h2]; unfold mn; split <;> omega
  rw [e]
  refine ⟨{ s with away := true, fails := 1, frm := s.clock + 1, clock := s.clock + 17 }, ?_, ⟨rfl, h2, rfl, rfl, by show 0 ≤ s.clock + 17; omega⟩⟩
  unfold Out.step
  rw [if_neg (by decide), if_pos rfl, if_neg (by decide)]
  unfold tick
  rw [if_neg (by rintro (h | h | h); cases h; exact hl h; simp only [] at h; omega), if_neg hs]
  show ((0, s.batch, s.items.take s.size.toNat), _) = _
  rw [h2, take_mn]

theorem there_loop (x1 : Int) (want : List ByteArray) (hw : want.length ≤ 20) : ∀ (n : Nat) (k : Nat) (b : Nat) (ps : List S43) (got : List ByteArray), want.length ≤ got.length + 4 * n → 1 ≤ b → b + n ≤ 6 → 14 * n + 40 ≤ k → ps.length ≤ 20 + 4 * (b - 1) → Small ps →
    got = want.take got.length → got.length ≤ want.length → Idle ((b : Int) - 1) (want.drop got.length) (after ps st0) → bagnallkeep_OutThere.l1 k x1 ps want got b = some true := by
  intro n
  induction n with
  | zero =>
    intro k b ps got h1 h2 h3 hk hps hs hg hgl hI
    obtain ⟨k, rfl⟩ : ∃ m, k = m + 2 := ⟨k - 2, by omega⟩
    have he : got = want := by rw [hg, List.take_of_length_le (by omega)]
    rw [bagnallkeep_OutThere.l1, if_neg (by omega), bagnallkeep_OutThere.j2, if_neg (by decide), outOf_tells _ (by omega) hs, Option.bind_some, if_pos rfl, he, same_self want (by omega) _ (by omega)]
    rfl
  | succ n ih =>
    intro k b ps got h1 h2 h3 hk hps hs hg hgl hI
    by_cases hlt : got.length < want.length
    · obtain ⟨k, rfl⟩ : ∃ m, k = m + 14 := ⟨k - 14, by omega⟩
      have hr : want.drop got.length ≠ [] := fun e => by have := congrArg List.length e; rw [List.length_drop] at this; simp at this; omega
      have hT := tick_first hI hr
      rw [show (b : Int) - 1 + 1 = b by omega] at hT
      generalize hs1 : ({ after ps st0 with clock := (after ps st0).clock + 17, size := mn (want.drop got.length).length 4, batch := (b : Int), away := true } : St) = s1 at hT
      have hG : Going b (want.drop got.length) s1 := by rw [← hs1]; exact ⟨hI.items, rfl, rfl, rfl, by have := hI.clock; show 0 ≤ _ + 17; omega⟩
      have hf1 : s1.fails = 0 := by rw [← hs1]; exact hI.fails
      have hp0 := Int.emod_nonneg (wrap64 (Int.tdiv x1 b)) (show (3 : Int) ≠ 0 by decide)
      have hp1 := Int.emod_lt_of_pos (wrap64 (Int.tdiv x1 b)) (show (0 : Int) < 3 by decide)
      have hb0 : (0 : Int) ≤ b := by omega
      have hb1 : (b : Int) ≤ 1000 := by omega
      have ha1 : after (ps ++ [tk]) st0 = s1 := by rw [after_snoc]; show (Out.step 2 ⟨#[]⟩ 17 (after ps st0)).2 = s1; rw [hT]
      have hits : ((want.drop got.length).take 4).length ≤ 4 := by rw [List.length_take]; omega
      -- what the next round begins with
      have hnew : ∀ (k' : Nat) (ps' : List S43), 14 * n + 40 ≤ k' → Idle b ((want.drop got.length).drop 4) (after ps' st0) → ps'.length ≤ 20 + 4 * b → Small ps' → bagnallkeep_OutThere.l1 k' x1 ps' want (got ++ (want.drop got.length).take 4) ((b : Int) + 1) = some true := by
        intro k' ps' hk' hI' hl' hs'
        have hgl' : (got ++ (want.drop got.length).take 4).length = min (got.length + 4) want.length := by rw [List.length_append, List.length_take, List.length_drop]; omega
        have h := ih k' (b + 1) ps' (got ++ (want.drop got.length).take 4) (by rw [hgl']; omega) (by omega) (by omega) (by omega) (by rw [Nat.add_sub_cancel]; exact hl') hs' (by
          rw [hgl']
          have e : got ++ (want.drop got.length).take 4 = want.take got.length ++ (want.drop got.length).take 4 := by rw [← hg]
          rw [e]
          rcases Nat.le_total (got.length + 4) want.length with h | h
          · rw [Nat.min_eq_left h, List.take_add]
          · rw [Nat.min_eq_right h, List.take_of_length_le (l := want.drop got.length) (by rw [List.length_drop]; omega), List.take_append_drop, List.take_of_length_le (Nat.le_refl _)]) (by rw [hgl']; exact Nat.min_le_right _ _) (by
          rw [hgl', show ((b + 1 : Nat) : Int) - 1 = b by omega]
          rw [List.drop_drop] at hI'
          rcases Nat.le_total (got.length + 4) want.length with h | h
          · rw [Nat.min_eq_left h]; exact hI'
          · rw [Nat.min_eq_right h, List.drop_of_length_le (Nat.le_refl _)]; rw [List.drop_of_length_le h] at hI'; exact hI')
        rwa [show ((b + 1 : Nat) : Int) = (b : Int) + 1 by omega] at h
      rw [bagnallkeep_OutThere.l1, if_pos (by omega), decide_eq_true (by omega : (b : Int) ≤ 30), bagnallkeep_OutThere.j2, if_pos rfl, if_neg (by omega), picked_of3 _ 3 (by decide) (by decide), Option.bind_some]
      generalize wrap64 (Int.tdiv x1 b) % 3 = f at hp0 hp1 ⊢
      rw [l2_in _ _ _ _ _ _ _ _ hp0 (by decide), j4_tick _ _ _ _ _ _ _ _ (by omega) hs _ _ hT]
      by_cases hf : f = 0
      · rw [j5_got _ _ _ _ _ _ _ _ (by omega) _ _ hT hits (by omega) (by decide) (by decide) (by omega)]
        rw [l2_out _ _ _ _ _ _ _ _ hb0 hb1 (by omega)]
        refine hnew _ _ (by omega) ?_ (by simp; omega) ((hs.snoc (by decide)).snoc (by show (0 : Nat) ≤ 20; decide))
        rw [after_snoc, ha1]
        exact done_going hG
      · rw [j5_fail _ _ _ _ _ _ _ _ _ (by simp; omega) rfl (by omega)]
        obtain ⟨s2, hT2, hG2⟩ := again hG hf1 hr
        have ha2 : after (ps ++ [tk] ++ [fl b]) st0 = (Out.step 4 ⟨#[]⟩ b s1).2 := by rw [after_snoc, ha1]; rfl
        rw [← ha2] at hT2
        have hs2 : Small (ps ++ [tk] ++ [fl b]) := (hs.snoc (by decide)).snoc (by show (0 : Nat) ≤ 20; decide)
        have hl2 : (ps ++ [tk] ++ [fl b]).length = ps.length + 2 := by simp
        have ha3 : after (ps ++ [tk] ++ [fl b] ++ [tk]) st0 = s2 := by rw [after_snoc]; show (Out.step 2 ⟨#[]⟩ 17 (after (ps ++ [tk] ++ [fl b]) st0)).2 = s2; rw [hT2]
        rw [l2_in _ _ _ _ _ _ _ _ (by omega) (by decide), j4_tick _ _ _ _ _ _ _ _ (by omega) hs2 _ _ hT2, j5_got _ _ _ _ _ _ _ _ (by omega) _ _ hT2 hits (by omega) (by decide) (by decide) (by omega), l2_out _ _ _ _ _ _ _ _ hb0 hb1 (by omega)]
        refine hnew _ _ (by omega) ?_ (by simp; omega) ((hs2.snoc (by decide)).snoc (by show (0 : Nat) ≤ 20; decide))
        rw [after_snoc, ha3]
        exact done_going hG2
    · have he : got = want := by rw [hg, List.take_of_length_le (by omega)]
      obtain ⟨k, rfl⟩ : ∃ m, k = m + 2 := ⟨k - 2, by omega⟩
      rw [bagnallkeep_OutThere.l1, if_neg (by omega), bagnallkeep_OutThere.j2, if_neg (by decide), outOf_tells _ (by omega) hs, Option.bind_some, if_pos rfl, he, same_self want (by omega) _ (by omega)]
      rfl

/-- The pushes among turns. -/
def pushes (ts : List S43) : List S43 := ts.filter fun t => t.f0 == 1
theorem fill_loop (x1 : Int) (ts : List S43) (hl : ts.length ≤ 100) (k : Nat) : ∀ (d i : Nat) (x6 : List S43) (x7 : List ByteArray), i + d = ts.length → x6.length ≤ i → x7.length ≤ i →
    bagnallkeep_OutThere.l0 (k + 1 + d) x1 ts x6 x7 i = bagnallkeep_OutThere.l1 k x1 (x6 ++ pushes (ts.drop i)) (x7 ++ (pushes (ts.drop i)).map (·.f1)) ([] : List ByteArray) 1 := by
  intro d
  induction d with
  | zero =>
    intro i x6 x7 hd h6 h7
    rw [show k + 1 + 0 = k + 1 by omega, bagnallkeep_OutThere.l0, if_neg (by omega), List.drop_of_length_le (by omega)]
    simp [pushes]
  | succ d ih =>
    intro i x6 x7 hd h6 h7
    have hlt : i < ts.length := by omega
    rw [show k + 1 + (d + 1) = (k + 1 + d) + 1 by omega, bagnallkeep_OutThere.l0, if_pos (by omega), if_pos (by omega), rd43 ts i hlt, wrap_in (by omega) (by omega)]
    have hdrop : ts.drop i = ts[i] :: ts.drop (i + 1) := List.drop_eq_getElem_cons hlt
    have hi : ((i : Int) + 1) = ((i + 1 : Nat) : Int) := by omega
    rw [hdrop, hi]
    generalize ts[i] = t
    by_cases h : t.f0 = 1
    · rw [if_pos h, if_pos (by omega), if_pos (by omega)]
      have hp : pushes (t :: ts.drop (i + 1)) = t :: pushes (ts.drop (i + 1)) := by unfold pushes; rw [List.filter_cons_of_pos (by simpa using h)]
      rw [hp, ih (i + 1) _ _ (by omega) (by rw [List.length_append]; simp; omega) (by rw [List.length_append]; simp; omega)]
      simp
    · rw [if_neg h]
      have hp : pushes (t :: ts.drop (i + 1)) = pushes (ts.drop (i + 1)) := by unfold pushes; rw [List.filter_cons_of_neg (by simpa using h)]
      rw [hp, ih (i + 1) _ _ (by omega) (by omega) (by omega)]

theorem after_pushes (ps : List S43) : ∀ (xs : List ByteArray), (∀ t ∈ ps, t.f0 = 1 ∧ t.f1.size = 1) → xs.length + ps.length ≤ 60 → after ps { st0 with items := xs } = { st0 with items := xs ++ ps.map (·.f1) } := by
  induction ps with
  | nil => intro xs _ _; simp [after]
  | cons t ps ih =>
    intro xs h hl
    have ht := h t List.mem_cons_self
    rw [List.length_cons] at hl
    have hst : (Out.step t.f0 t.f1 t.f2 { st0 with items := xs }).2 = { st0 with items := xs ++ [t.f1] } := by
      unfold Out.step
      rw [if_pos ht.1]
      unfold push
      rw [if_neg (by omega), if_neg (by show ¬ xs.length = 60; omega)]
    rw [after, hst, ih _ (fun u hu => h u (List.mem_cons_of_mem _ hu)) (by rw [List.length_append]; simp; omega)]
    simp

theorem OutThere : bagnallkeep_OutThere.Pure := by
  intro l a _ hl _ _
  have hT := Turns_tells l 20 hl (by decide)
  have hF := turns_fine (l.take (20 : Int).toNat) 1
  have hlen := turns_length (l.take (20 : Int).toNat) 1
  have h20 : (turns (l.take (20 : Int).toNat) 1).length ≤ 20 := by rw [hlen, List.length_take]; exact Nat.min_le_left _ _
  generalize turns (l.take (20 : Int).toNat) 1 = ts at hT hF hlen h20
  refine ⟨300 + 1 + ts.length, ?_⟩
  unfold bagnallkeep_OutThere.f
  rw [hT, Option.bind_some]
  have h := fill_loop a ts (by omega) 300 ts.length 0 [] [] (by omega) (by decide) (by decide)
  have h0 : ((0 : Nat) : Int) = 0 := rfl
  rw [h0] at h
  rw [h, List.drop_zero, List.nil_append, List.nil_append]
  have hp : ∀ t ∈ pushes ts, t.f0 = 1 ∧ t.f1.size = 1 := fun t ht => by
    have h1 := List.mem_filter.1 ht
    have h2 : t.f0 = 1 := by simpa using h1.2
    have h3 := hF t h1.1
    rcases h3 with h3 | h3 | h3 | h3
    · exact h3
    · omega
    · omega
    · omega
  have hpl : (pushes ts).length ≤ 20 := Nat.le_trans (List.length_filter_le _ _) h20
  have ha := after_pushes (pushes ts) [] hp (by simp; omega)
  refine there_loop a ((pushes ts).map (·.f1)) (by rw [List.length_map]; omega) 5 300 1 (pushes ts) [] (by rw [List.length_map]; simp; omega) (by omega) (by omega) (by omega) (by omega) (fun m hm => by have := (hp m hm).2; omega) rfl (Nat.zero_le _) ?_
  rw [show after (pushes ts) st0 = _ from ha]
  exact ⟨by simp, rfl, rfl, rfl, rfl, Int.le_refl 0, Int.le_refl 0⟩

end Go.Proofs.Ytolnkahidgobhaa.Pure
