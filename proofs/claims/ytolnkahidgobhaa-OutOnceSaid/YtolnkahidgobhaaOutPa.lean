/- Plain lemmas on the outbox. -/
import Derived.Test.YtolnkahidgobhaaQOutx1
import Derived.Test.YtolnkahidgobhaaOut6
namespace Go.Proofs.Ytolnkahidgobhaa.Pure
open Go.RowKit Go.Proofs.Ytolnkahidgobhaa.QOut Go.Proofs.Ytolnkahidgobhaa.Out Go.Proofs.YtolnkahidgobhaaW.PrintWords Go.Proofs.YtolnkahidgobhaaW.PrintLast Go.Proofs.YtolnkahidgobhaaW.PrintMore

/-- The outbox behind some turns. -/
def after : List S43 → St → St
  | [], s => s
  | t :: l, s => after l (Out.step t.f0 t.f1 t.f2 s).2

theorem after_append (l m : List S43) (s : St) : after (l ++ m) s = after m (after l s) := by
  induction l generalizing s with
  | nil => rfl
  | cons t l ih => exact ih _
theorem run_append (l m : List S43) (s : St) : run (l ++ m) s = run l s ++ run m (after l s) := by
  induction l generalizing s with
  | nil => rfl
  | cons t l ih => rw [List.cons_append, run, ih, run]; rfl
theorem run_length (l : List S43) (s : St) : (run l s).length = l.length := by
  induction l generalizing s with
  | nil => rfl
  | cons t l ih => rw [run, List.length_cons, ih, List.length_cons]
theorem run_get (l : List S43) (s : St) (i : Nat) (h : i < l.length) : (run l s)[i]? = some (sent (Out.step l[i].f0 l[i].f1 l[i].f2 (after (l.take i) s))) := by
  induction l generalizing s i with
  | nil => exact absurd h (Nat.not_lt_zero _)
  | cons t l ih =>
    cases i with
    | zero => rfl
    | succ i => exact ih _ i (by simpa using h)
theorem after_succ (l : List S43) (s : St) (i : Nat) (h : i < l.length) : after (l.take (i + 1)) s = (Out.step l[i].f0 l[i].f1 l[i].f2 (after (l.take i) s)).2 := by
  rw [List.take_succ_eq_append_getElem h, after_append]; rfl
theorem rd45 (l : List S43) (s : St) (i : Nat) (h : i < l.length) : rd_T45 (run l s) (i : Int) = sent (Out.step l[i].f0 l[i].f1 l[i].f2 (after (l.take i) s)) := by
  unfold rd_T45
  rw [Int.toNat_natCast, List.getD_eq_getElem?_getD, run_get l s i h]; rfl
theorem rd43 (l : List S43) (i : Nat) (h : i < l.length) : rd_T43 l (i : Int) = l[i] := by
  unfold rd_T43
  rw [Int.toNat_natCast, List.getD_eq_getElem?_getD, List.getElem?_eq_getElem h]; rfl

theorem Inv_after (l : List S43) (m : Nat) (s : St) (h : Inv m s) : Inv (m + l.length) (after l s) := by
  induction l generalizing m s with
  | nil => exact h
  | cons t l ih => have := ih (m + 1) _ (h.step t.f0 t.f1 t.f2); rw [List.length_cons]; rw [show m + (l.length + 1) = m + 1 + l.length by omega]; exact this

theorem one_play : out_Play.f [(⟨1, (⟨#[120]⟩ : ByteArray), 0⟩ : S43), (⟨2, (⟨#[]⟩ : ByteArray), 1⟩ : S43)] = some ([⟨0, 0, []⟩, ⟨0, 1, [⟨#[120]⟩]⟩], 0) := by
  unfold out_Play.f
  rw [if_neg (by decide), if_pos (by decide)]
  rfl

theorem outOf_tells (l : List S43) (hl : l.length ≤ 100) (hs : ∀ m ∈ l, m.f1.size ≤ 20) : bagnallkeep_outOf.f l = some (run l st0, true) := by
  unfold bagnallkeep_outOf.f
  have h1 : out_Play.f ([] ++ l) = some (run l st0, 0) := by
    unfold out_Play.f
    rw [if_neg (by simp; omega), if_pos ((short_iff _).2 (fun m hm => by have := hs m (by simpa using hm); omega))]
    rfl
  rw [if_pos (by simp; omega), h1, Option.bind_some, one_play, Option.bind_some]
  simp only [run_length]
  rfl

theorem letter_size : ∀ m : Nat, m < 10 → (letter m).size = 1 := by decide
theorem letter_one (x : Int) : (letter (x % 10)).size = 1 := by
  have h0 := Int.emod_nonneg x (show (10 : Int) ≠ 0 by decide)
  have h1 := Int.emod_lt_of_pos x (show (0 : Int) < 10 by decide)
  have := letter_size (x % 10).toNat (by omega)
  rwa [Int.toNat_of_nonneg h0] at this

/-- What a turn of a raw number can be. -/
def Fine (t : S43) : Prop := (t.f0 = 1 ∧ t.f1.size = 1) ∨ (t.f0 = 2 ∧ t.f1.size = 0 ∧ 1 ≤ t.f2 ∧ t.f2 ≤ 17) ∨ (t.f0 = 3 ∧ t.f1.size = 0) ∨ (t.f0 = 4 ∧ t.f1.size = 0)
theorem Fine.size {t : S43} (h : Fine t) : t.f1.size ≤ 20 := by rcases h with h | h | h | h <;> omega
theorem turnOf_fine (b x : Int) : Fine (turnOf b x).1 := by
  have h5 := Int.emod_nonneg (wrap64 (Int.tdiv x 8)) (show (5 : Int) ≠ 0 by decide)
  have h5' := Int.emod_lt_of_pos (wrap64 (Int.tdiv x 8)) (show (0 : Int) < 5 by decide)
  have hl := letter_one (wrap64 (Int.tdiv x 8))
  unfold turnOf
  split
  · exact .inr (.inl ⟨rfl, rfl, by show 1 ≤ 1 + _; omega, by show 1 + _ ≤ 17; omega⟩)
  · split
    · exact .inr (.inr (.inl ⟨rfl, rfl⟩))
    · split
      · exact .inr (.inr (.inr ⟨rfl, rfl⟩))
      · split
        · exact .inr (.inr (.inl ⟨rfl, rfl⟩))
        · exact .inl ⟨rfl, hl⟩
theorem turns_fine (l : List Int) (b : Int) : ∀ t ∈ turns l b, Fine t := by
  induction l generalizing b with
  | nil => intro t ht; cases ht
  | cons x l ih =>
    intro t ht
    rcases List.mem_cons.1 ht with rfl | ht
    · exact turnOf_fine b x
    · exact ih _ t ht
theorem turns_length (l : List Int) (b : Int) : (turns l b).length = l.length := by
  induction l generalizing b with
  | nil => rfl
  | cons x l ih => rw [turns, List.length_cons, ih, List.length_cons]
theorem Turns_tells (l : List Int) (n : Int) (h : l.length * 8 ≤ 140737488351232) (hn : n ≤ 1000) : bagnallkeep_Turns.f l n = some (turns (l.take n.toNat) 1) := by
  unfold bagnallkeep_Turns.f
  rw [if_pos ⟨by omega, hn⟩]

theorem wrap_in {x : Int} (h0 : -1000000 ≤ x) (h1 : x ≤ 1000000) : wrap64 x = x := by unfold wrap64; omega

end Go.Proofs.Ytolnkahidgobhaa.Pure
