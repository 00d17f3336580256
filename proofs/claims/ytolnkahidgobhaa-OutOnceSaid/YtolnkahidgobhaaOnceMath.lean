/- What the law OutOnce holds of an outbox, in plain words. -/
import Derived.Test.YtolnkahidgobhaaOutPa
namespace Go.Proofs.Ytolnkahidgobhaa.Pure
open Go.RowKit Go.Proofs.Ytolnkahidgobhaa.QOut Go.Proofs.Ytolnkahidgobhaa.Out Go.Proofs.YtolnkahidgobhaaW.PrintWords Go.Proofs.YtolnkahidgobhaaW.PrintLast Go.Proofs.YtolnkahidgobhaaW.PrintMore

/-- What was pushed (P), what was sent (Q), the last batch (L), its number (b), and whether it came (d), of an outbox. -/
structure Sees (P Q L : List ByteArray) (b : Int) (d : Bool) (s : St) : Prop where
  batch : b = s.batch
  idle : d = true → s.size = 0
  busy : d = false → 1 ≤ s.size ∧ s.size ≤ 4 ∧ s.size ≤ s.items.length ∧ L = s.items.take s.size.toNat ∧ 1 ≤ b
  away : s.away = true → d = false
  parts : ∃ D, P = D ++ s.items ∧ Q = if d = true then D else D ++ L

/-- What one turn may do to it. -/
inductive Round (P Q L : List ByteArray) (b : Int) (d : Bool) (t : S43) (r : S45) (s' : St) : Prop
  | pushed : t.f0 = 1 → r.f0 = 0 → r.f1 = 0 → Sees (P ++ [t.f1]) Q L b d s' → Round P Q L b d t r s'
  | nothing : ¬ (t.f0 = 1 ∧ r.f0 = 0) → r.f1 = 0 → ¬ (t.f0 = 3 ∧ r.f0 = 0) → Sees P Q L b d s' → Round P Q L b d t r s'
  | came : t.f0 = 3 → r.f0 = 0 → r.f1 = 0 → t.f2 = b → d = false → Sees P Q L b true s' → Round P Q L b d t r s'
  | again : t.f0 ≠ 1 → r.f1 = b → r.f1 ≠ 0 → 1 ≤ r.f2.length → r.f2.length ≤ 4 → d = false → L = r.f2 → Sees P Q L b d s' → Round P Q L b d t r s'
  | fresh : t.f0 ≠ 1 → r.f1 = b + 1 → r.f1 ≠ 0 → 1 ≤ r.f2.length → r.f2.length ≤ 4 → d = true → Sees P (Q ++ r.f2) r.f2 r.f1 false s' → Round P Q L b d t r s'

theorem Sees.first : Sees [] [] [] 0 true st0 := ⟨rfl, fun _ => rfl, fun h => (by cases h), fun h => (by cases h), ⟨[], rfl, rfl⟩⟩

theorem mn_le (n : Nat) (h : n ≠ 0) : 1 ≤ mn (n : Int) 4 := by unfold mn; split <;> omega

theorem sees_round {P Q L : List ByteArray} {b : Int} {d : Bool} {s : St} {m : Nat} (t : S43) (h : Sees P Q L b d s) (hI : Inv m s) (hF : Fine t) :
    Round P Q L b d t (sent (Out.step t.f0 t.f1 t.f2 s)) (Out.step t.f0 t.f1 t.f2 s).2 := by
  have hb0 := hI.batch
  obtain ⟨D, hP, hQ⟩ := h.parts
  rcases hF with ⟨hk1, hz⟩ | ⟨hk1, _, hn0, hn1⟩ | ⟨hk1, _⟩ | ⟨hk1, _⟩
  · -- Push
    have hst : Out.step t.f0 t.f1 t.f2 s = (((push t.f1 s).1, 0, []), (push t.f1 s).2) := by simp [Out.step, hk1]
    rw [hst]
    by_cases hl : s.items.length = 60
    · have hp : push t.f1 s = (10, s) := by unfold Out.push; rw [if_neg (by omega), if_pos hl]
      rw [hp]
      exact .nothing (fun ⟨_, h2⟩ => absurd (show (10 : Int) = 0 from h2) (by decide)) rfl (fun ⟨_, h2⟩ => absurd (show (10 : Int) = 0 from h2) (by decide)) h
    · have hp : push t.f1 s = (0, { s with items := s.items ++ [t.f1] }) := by unfold Out.push; rw [if_neg (by omega), if_neg hl]
      rw [hp]
      refine .pushed hk1 rfl rfl ⟨h.batch, h.idle, fun hd => ?_, h.away, ⟨D, by rw [hP, List.append_assoc], hQ⟩⟩
      obtain ⟨h1, h2, h3, h4, h5⟩ := h.busy hd
      refine ⟨h1, h2, by show s.size ≤ ((s.items ++ [t.f1]).length : Nat); rw [List.length_append]; omega, ?_, h5⟩
      show L = (s.items ++ [t.f1]).take s.size.toNat
      rw [List.take_append_of_le_length (by omega)]; exact h4
  · -- Tick
    have hst : Out.step t.f0 t.f1 t.f2 s = ((0, (tick t.f2 s).1.1, (tick t.f2 s).1.2), (tick t.f2 s).2) := by
      unfold Out.step; rw [hk1, if_neg (by decide), if_pos rfl, if_neg (by omega)]
    rw [hst]
    by_cases hq : s.away = true ∨ s.items.length = 0 ∨ s.clock + t.f2 < s.frm
    · have ht : tick t.f2 s = ((0, []), { s with clock := s.clock + t.f2 }) := by unfold tick; rw [if_pos hq]
      rw [ht]
      exact .nothing (fun ⟨h1, _⟩ => by omega) rfl (fun ⟨h1, _⟩ => by omega) ⟨h.batch, h.idle, h.busy, h.away, h.parts⟩
    · by_cases h0 : s.size = 0
      · have ht : tick t.f2 s = ((s.batch + 1, s.items.take (mn s.items.length 4).toNat), { s with clock := s.clock + t.f2, size := mn s.items.length 4, batch := s.batch + 1, away := true }) := by unfold tick; rw [if_neg hq, if_pos h0]
        have hd : d = true := by
          cases hd : d with
          | true => rfl
          | false => have := (h.busy hd).1; omega
        have hm := mn_range s.items.length
        have hm1 := mn_le s.items.length (fun e => hq (.inr (.inl e)))
        rw [ht]
        have hl : (s.items.take (mn s.items.length 4).toNat).length = (mn s.items.length 4).toNat := by rw [List.length_take]; omega
        refine .fresh (by omega) (by show s.batch + 1 = b + 1; rw [h.batch]) (by show s.batch + 1 ≠ 0; omega) (by show 1 ≤ (s.items.take (mn s.items.length 4).toNat).length; omega) (by show (s.items.take (mn s.items.length 4).toNat).length ≤ 4; omega) hd
          ⟨rfl, fun e => (by cases e), fun _ => ⟨hm1, hm.2.2, hm.2.1, rfl, by show 1 ≤ s.batch + 1; omega⟩, fun _ => rfl, ⟨D, hP, ?_⟩⟩
        rw [hQ, if_pos hd, if_neg (by decide)]
      · have ht : tick t.f2 s = ((s.batch, s.items.take s.size.toNat), { s with clock := s.clock + t.f2, away := true }) := by unfold tick; rw [if_neg hq, if_neg h0]
        have hd : d = false := by
          cases hd : d with
          | false => rfl
          | true => exact absurd (h.idle hd) h0
        obtain ⟨h1, h2, h3, h4, h5⟩ := h.busy hd
        have hbb := h.batch
        rw [ht]
        have hl : (s.items.take s.size.toNat).length = s.size.toNat := by rw [List.length_take]; omega
        exact .again (by omega) hbb.symm (by show s.batch ≠ 0; omega) (by show 1 ≤ (s.items.take s.size.toNat).length; omega) (by show (s.items.take s.size.toNat).length ≤ 4; omega) hd h4
          ⟨hbb, h.idle, h.busy, fun _ => hd, h.parts⟩
  · -- Done
    have hst : Out.step t.f0 t.f1 t.f2 s = (((fin t.f2 true s).1, 0, []), (fin t.f2 true s).2) := by simp [Out.step, hk1]
    rw [hst]
    by_cases hq : s.away = false ∨ t.f2 ≠ s.batch
    · have ht : fin t.f2 true s = (8, s) := by unfold fin; rw [if_pos hq]
      rw [ht]
      exact .nothing (fun ⟨h1, _⟩ => by omega) rfl (fun ⟨_, h2⟩ => absurd (show (8 : Int) = 0 from h2) (by decide)) h
    · have haw : s.away = true := by cases he : s.away; exact absurd (Or.inl he) hq; rfl
      have hn : t.f2 = s.batch := by by_cases e : t.f2 = s.batch; exact e; exact absurd (Or.inr e) hq
      have ht : fin t.f2 true s = (0, { s with away := false, items := s.items.drop s.size.toNat, size := 0, fails := 0, frm := s.clock }) := by unfold fin; rw [if_neg hq, if_neg (by decide)]
      have hd := h.away haw
      obtain ⟨h1, h2, h3, h4, h5⟩ := h.busy hd
      rw [ht]
      refine .came hk1 rfl rfl (by rw [hn, h.batch]) hd ⟨h.batch, fun _ => rfl, fun e => (by cases e), fun e => (by cases e), ⟨D ++ L, ?_, ?_⟩⟩
      · show P = D ++ L ++ s.items.drop s.size.toNat
        rw [h4, List.append_assoc, List.take_append_drop]; exact hP
      · rw [hQ, hd]; rfl
  · -- Fail
    have hst : Out.step t.f0 t.f1 t.f2 s = (((fin t.f2 false s).1, 0, []), (fin t.f2 false s).2) := by simp [Out.step, hk1]
    rw [hst]
    by_cases hq : s.away = false ∨ t.f2 ≠ s.batch
    · have ht : fin t.f2 false s = (8, s) := by unfold fin; rw [if_pos hq]
      rw [ht]
      exact .nothing (fun ⟨h1, _⟩ => by omega) rfl (fun ⟨_, h2⟩ => absurd (show (8 : Int) = 0 from h2) (by decide)) h
    · have ht : fin t.f2 false s = (0, { s with away := false, fails := s.fails + 1, frm := s.clock + waitN (s.fails + 1) }) := by unfold fin; rw [if_neg hq, if_pos rfl]
      rw [ht]
      exact .nothing (fun ⟨h1, _⟩ => by omega) rfl (fun ⟨h1, _⟩ => by omega) ⟨h.batch, h.idle, h.busy, fun e => (by cases e), h.parts⟩

theorem Sees.ends {P Q L : List ByteArray} {b : Int} {d : Bool} {s : St} (h : Sees P Q L b d s) : Q.length ≤ P.length ∧ P.take Q.length = Q := by
  obtain ⟨D, hP, hQ⟩ := h.parts
  cases hd : d with
  | true =>
    rw [hd, if_pos rfl] at hQ
    subst hQ
    rw [hP]
    exact ⟨by rw [List.length_append]; omega, by rw [List.take_left]⟩
  | false =>
    rw [hd, if_neg (by decide)] at hQ
    obtain ⟨h1, h2, h3, h4, h5⟩ := h.busy hd
    have hq : P = Q ++ s.items.drop s.size.toNat := by rw [hQ, h4, List.append_assoc, List.take_append_drop]; exact hP
    rw [hq]
    exact ⟨by rw [List.length_append]; omega, by rw [List.take_left]⟩

end Go.Proofs.Ytolnkahidgobhaa.Pure
