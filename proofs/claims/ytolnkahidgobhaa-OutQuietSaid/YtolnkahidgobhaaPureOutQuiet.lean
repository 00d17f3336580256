/- For every list of numbers, OutQuiet returns true: at most one batch is in flight, and none is sent during the waiting time. No condition. -/
import Derived.Test.YtolnkahidgobhaaQOutx6
import Derived.Test.YtolnkahidgobhaaOutPa
namespace Go.Proofs.Ytolnkahidgobhaa.Pure
open Go.RowKit Go.Proofs.Ytolnkahidgobhaa.QOut Go.Proofs.Ytolnkahidgobhaa.Out Go.Proofs.YtolnkahidgobhaaW.PrintWords Go.Proofs.YtolnkahidgobhaaW.PrintLast Go.Proofs.YtolnkahidgobhaaW.PrintMore

theorem wait_some (k : Nat) (n : Int) (h0 : 0 ≤ n) (h1 : n < 1010) (hk : 20 ≤ k) : out_Wait.f k n = some (waitN n) := by
  have h := wait_all n.toNat (by omega)
  rw [Int.toNat_of_nonneg h0] at h
  exact at_rounds (g := fun k => out_Wait.f k n) (fun k => out_Wait.mono n k) hk h

/-- What the law's own count holds of the outbox. -/
structure Rel (x6 x7 x8 x9 : Int) (s : St) : Prop where
  away : x6 = if s.away = true then s.batch else 0
  one : (s.away = true ∨ s.size ≠ 0) → 1 ≤ s.batch
  fails : x7 = s.fails
  clock : x8 = s.clock
  frm : x9 ≤ s.frm

theorem quiet_loop (ts : List S43) (hF : ∀ t ∈ ts, Fine t) (hl : ts.length ≤ 100) : ∀ (d i k : Nat) (x6 x7 x8 x9 : Int), i + d = ts.length → 5 * d + 30 ≤ k → Rel x6 x7 x8 x9 (after (ts.take i) st0) →
    bagnallkeep_OutQuiet.l0 k ts (run ts st0) x6 x7 x8 x9 i = some true := by
  intro d
  induction d with
  | zero =>
    intro i k x6 x7 x8 x9 hd hk _
    obtain ⟨k, rfl⟩ : ∃ m, k = m + 1 := ⟨k - 1, by omega⟩
    rw [bagnallkeep_OutQuiet.l0, if_neg (by omega)]
  | succ d ih =>
    intro i k x6 x7 x8 x9 hd hk hR
    obtain ⟨k, rfl⟩ : ∃ m, k = m + 5 := ⟨k - 5, by omega⟩
    have hlt : i < ts.length := by omega
    have hlen := run_length ts st0
    have hI := Inv_after (ts.take i) 0 st0 Inv.first
    rw [List.length_take, Nat.min_eq_left (by omega)] at hI
    have hi1 : (i : Int) < ts.length := by omega
    have hi2 : (i : Int) < (run ts st0).length := by rw [hlen]; omega
    have hi0 : (0 : Int) ≤ i := by omega
    have hwi : wrap64 ((i : Int) + 1) = ((i + 1 : Nat) : Int) := by rw [wrap_in (by omega) (by omega)]; omega
    have hnext := ih (i + 1)
    rw [after_succ ts st0 i hlt] at hnext
    have hft := hF _ (List.getElem_mem hlt)
    have h45 := rd45 ts st0 i hlt
    have h43 := rd43 ts i hlt
    generalize ts[i] = t at *
    generalize after (ts.take i) st0 = s at *
    have hb := hI.batch
    have hfl := hI.fails
    have hc := hI.clock
    have hfr := hI.frm
    have hsz := hI.size
    obtain ⟨ra, ro, rf, rc, rr⟩ := hR
    subst rf rc
    rw [bagnallkeep_OutQuiet.l0, if_pos hi1, if_pos hi0, h43]
    rcases hft with ⟨hk1, _⟩ | ⟨hk1, _, hn0, hn1⟩ | ⟨hk1, _⟩ | ⟨hk1, _⟩
    · -- Push
      have hst : Out.step t.f0 t.f1 t.f2 s = (((push t.f1 s).1, 0, []), (push t.f1 s).2) := by simp [Out.step, hk1]
      rw [hst] at h45 hnext
      have hs' : ∃ l, (push t.f1 s).2 = { s with items := l } := by unfold push; split; exact ⟨_, rfl⟩; split; exact ⟨_, rfl⟩; exact ⟨_, rfl⟩
      obtain ⟨l, hs'⟩ := hs'
      rw [hk1, if_neg (by decide), bagnallkeep_OutQuiet.j1, if_pos hi0, if_pos hi2, h45, if_neg (by simp [sent]), bagnallkeep_OutQuiet.j2, if_neg (by decide), bagnallkeep_OutQuiet.j3, if_neg (by decide), hwi]
      refine hnext (k + 1) _ _ _ _ (by omega) (by omega) ?_
      rw [hs']
      exact ⟨ra, ro, rfl, rfl, rr⟩
    · -- Tick
      have hst : Out.step t.f0 t.f1 t.f2 s = ((0, (tick t.f2 s).1.1, (tick t.f2 s).1.2), (tick t.f2 s).2) := by
        unfold Out.step; rw [hk1, if_neg (by decide), if_pos rfl, if_neg (by omega)]
      rw [hst] at h45 hnext
      rw [hk1, if_pos rfl, wrap_in (by omega) (by omega), bagnallkeep_OutQuiet.j1, if_pos hi0, if_pos hi2, h45]
      by_cases hq : s.away = true ∨ s.items.length = 0 ∨ s.clock + t.f2 < s.frm
      · have ht : tick t.f2 s = ((0, []), { s with clock := s.clock + t.f2 }) := by unfold tick; rw [if_pos hq]
        rw [ht] at hnext ⊢
        rw [if_neg (by simp [sent]), bagnallkeep_OutQuiet.j2, if_neg (by decide), bagnallkeep_OutQuiet.j3, if_neg (by decide), hwi]
        exact hnext (k + 1) _ _ _ _ (by omega) (by omega) ⟨ra, ro, rfl, rfl, rr⟩
      · have haw : s.away = false := by cases he : s.away; rfl; exact absurd (Or.inl he) hq
        rw [haw, if_neg (by decide)] at ra
        have hb1 : ∃ s', tick t.f2 s = ((s'.batch, s'.items.take s'.size.toNat), s') ∧ 1 ≤ s'.batch ∧ s'.away = true ∧ s'.fails = s.fails ∧ s'.clock = s.clock + t.f2 ∧ s'.frm = s.frm := by
          unfold tick
          rw [if_neg hq]
          by_cases h0 : s.size = 0
          · rw [if_pos h0]; exact ⟨{ s with clock := s.clock + t.f2, size := mn s.items.length 4, batch := s.batch + 1, away := true }, rfl, by show 1 ≤ s.batch + 1; omega, rfl, rfl, rfl, rfl⟩
          · rw [if_neg h0]; exact ⟨{ s with clock := s.clock + t.f2, away := true }, rfl, ro (.inr h0), rfl, rfl, rfl, rfl⟩
        obtain ⟨s', ht, hb1, ha', hf', hc', hfr'⟩ := hb1
        rw [ht] at hnext ⊢
        rw [if_pos (show (sent ((0, s'.batch, s'.items.take s'.size.toNat), s')).f1 > 0 by show s'.batch > 0; omega), if_neg (by omega), if_neg (by omega), bagnallkeep_OutQuiet.j2, if_neg (by decide), bagnallkeep_OutQuiet.j3, if_neg (by decide), hwi]
        exact hnext (k + 1) _ _ _ _ (by omega) (by omega) ⟨by rw [ha', if_pos rfl]; rfl, fun _ => hb1, hf'.symm, hc'.symm, by show x9 ≤ s'.frm; omega⟩
    · -- Done
      have hst : Out.step t.f0 t.f1 t.f2 s = (((fin t.f2 true s).1, 0, []), (fin t.f2 true s).2) := by simp [Out.step, hk1]
      rw [hst] at h45 hnext
      rw [hk1, if_neg (by decide), bagnallkeep_OutQuiet.j1, if_pos hi0, if_pos hi2, h45, if_neg (by simp [sent]), bagnallkeep_OutQuiet.j2, if_pos rfl, bagnallkeep_OutQuiet.j3, if_pos rfl, if_pos hi0, if_pos hi2]
      by_cases hq : s.away = false ∨ t.f2 ≠ s.batch
      · have ht : fin t.f2 true s = (8, s) := by unfold fin; rw [if_pos hq]
        rw [ht] at hnext h45
        have hgo : bagnallkeep_OutQuiet.j4 (k + 1) ts (run ts st0) x6 s.fails s.clock x9 (i : Int) false 3 t.f1 t.f2 = some true := by
          rw [bagnallkeep_OutQuiet.j4, if_neg (by decide), if_pos hi0, if_pos hi2, h45, if_neg (by simp [sent]), hwi]
          exact hnext k _ _ _ _ (by omega) (by omega) ⟨ra, ro, rfl, rfl, rr⟩
        by_cases hx : x6 > 0
        · rw [if_pos hx]
          have haw : s.away = true := by by_cases e : s.away = true; exact e; rw [if_neg e] at ra; omega
          rw [if_pos haw] at ra
          have hne : (t.f2 == x6) = false := beq_eq_false_iff_ne.2 (by rcases hq with h | h; rw [haw] at h; cases h; omega)
          rw [hne, h45]; exact hgo
        · rw [if_neg hx, h45]; exact hgo
      · have haw : s.away = true := by cases he : s.away; exact absurd (Or.inl he) hq; rfl
        have hn : t.f2 = s.batch := by by_cases e : t.f2 = s.batch; exact e; exact absurd (Or.inr e) hq
        have ht : fin t.f2 true s = (0, { s with away := false, items := s.items.drop s.size.toNat, size := 0, fails := 0, frm := s.clock }) := by unfold fin; rw [if_neg hq, if_neg (by decide)]
        rw [ht] at hnext h45
        rw [if_pos haw] at ra
        have ho := ro (.inl haw)
        rw [if_pos (show x6 > 0 by omega), show (t.f2 == x6) = true from beq_iff_eq.2 (by omega), h45]
        show bagnallkeep_OutQuiet.j4 (k + 1) ts (run ts st0) x6 s.fails s.clock x9 (i : Int) false 3 t.f1 t.f2 = some true
        rw [bagnallkeep_OutQuiet.j4, if_neg (by decide), if_pos hi0, if_pos hi2, h45, if_pos (by simp [sent]), wrap_in (by omega) (by omega), wait_some _ _ (by omega) (by omega) (by omega), Option.bind_some, if_pos rfl, hwi]
        exact hnext k _ _ _ _ (by omega) (by omega) ⟨rfl, fun h => by rcases h with h | h; cases h; exact absurd rfl h, rfl, rfl, by show 0 ≤ s.clock; omega⟩
    · -- Fail
      have hst : Out.step t.f0 t.f1 t.f2 s = (((fin t.f2 false s).1, 0, []), (fin t.f2 false s).2) := by simp [Out.step, hk1]
      rw [hst] at h45 hnext
      rw [hk1, if_neg (by decide), bagnallkeep_OutQuiet.j1, if_pos hi0, if_pos hi2, h45, if_neg (by simp [sent]), bagnallkeep_OutQuiet.j2, if_neg (by decide), bagnallkeep_OutQuiet.j3, if_pos (by decide), if_pos hi0, if_pos hi2]
      by_cases hq : s.away = false ∨ t.f2 ≠ s.batch
      · have ht : fin t.f2 false s = (8, s) := by unfold fin; rw [if_pos hq]
        rw [ht] at hnext h45
        have hgo : bagnallkeep_OutQuiet.j4 (k + 1) ts (run ts st0) x6 s.fails s.clock x9 (i : Int) false 4 t.f1 t.f2 = some true := by
          rw [bagnallkeep_OutQuiet.j4, if_neg (by decide), if_pos hi0, if_pos hi2, h45, if_neg (by simp [sent]), hwi]
          exact hnext k _ _ _ _ (by omega) (by omega) ⟨ra, ro, rfl, rfl, rr⟩
        by_cases hx : x6 > 0
        · rw [if_pos hx]
          have haw : s.away = true := by by_cases e : s.away = true; exact e; rw [if_neg e] at ra; omega
          rw [if_pos haw] at ra
          have hne : (t.f2 == x6) = false := beq_eq_false_iff_ne.2 (by rcases hq with h | h; rw [haw] at h; cases h; omega)
          rw [hne, h45]; exact hgo
        · rw [if_neg hx, h45]; exact hgo
      · have haw : s.away = true := by cases he : s.away; exact absurd (Or.inl he) hq; rfl
        have hn : t.f2 = s.batch := by by_cases e : t.f2 = s.batch; exact e; exact absurd (Or.inr e) hq
        have ht : fin t.f2 false s = (0, { s with away := false, fails := s.fails + 1, frm := s.clock + waitN (s.fails + 1) }) := by unfold fin; rw [if_neg hq, if_pos rfl]
        rw [ht] at hnext h45
        rw [if_pos haw] at ra
        have ho := ro (.inl haw)
        have hwr := waitN_range (s.fails + 1)
        rw [if_pos (show x6 > 0 by omega), show (t.f2 == x6) = true from beq_iff_eq.2 (by omega), h45]
        show bagnallkeep_OutQuiet.j4 (k + 1) ts (run ts st0) x6 s.fails s.clock x9 (i : Int) false 4 t.f1 t.f2 = some true
        rw [bagnallkeep_OutQuiet.j4, if_neg (by decide), if_pos hi0, if_pos hi2, h45, if_pos (by simp [sent]), wrap_in (x := s.fails + 1) (by omega) (by omega), wait_some _ _ (by omega) (by omega) (by omega), Option.bind_some, if_neg (by decide), hwi, wrap_in (x := s.clock + waitN (s.fails + 1)) (by omega) (by omega)]
        exact hnext k _ _ _ _ (by omega) (by omega) ⟨rfl, fun h => by rcases h with h | h; cases h; exact ro (.inr h), rfl, rfl, Int.le_refl _⟩

theorem OutQuiet : bagnallkeep_OutQuiet.Pure := by
  intro l _ hl _
  have hT := Turns_tells l 90 hl (by decide)
  have hF := turns_fine (l.take (90 : Int).toNat) 1
  have hlen := turns_length (l.take (90 : Int).toNat) 1
  have h90 : (turns (l.take (90 : Int).toNat) 1).length ≤ 90 := by rw [hlen, List.length_take]; exact Nat.min_le_left _ _
  refine ⟨1000, ?_⟩
  unfold bagnallkeep_OutQuiet.f
  rw [hT, Option.bind_some, outOf_tells _ (by omega) (fun m hm => (hF m hm).size), Option.bind_some, if_pos rfl]
  exact quiet_loop _ hF (by omega) _ 0 1000 0 0 0 0 (Nat.zero_add _) (by omega) ⟨rfl, fun h => by rcases h with h | h; cases h; exact absurd rfl h, rfl, rfl, Int.le_refl 0⟩

end Go.Proofs.Ytolnkahidgobhaa.Pure
