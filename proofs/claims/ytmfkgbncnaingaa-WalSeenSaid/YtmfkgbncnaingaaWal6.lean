/- Reading batches. -/
import Derived.Test.YtmfkgbncnaingaaWal5
namespace Go.Proofs.Ytmfkgbncnaingaa.Wal
open Go.RowKit Go.Proofs.Ytmfkgbncnaingaa.QWal Go.Proofs.YtmfkgbncnaingaaW.PrintWords Go.Proofs.YtmfkgbncnaingaaW.PrintLast Go.Proofs.YtmfkgbncnaingaaW.PrintMore

instance (b : List Int) : Decidable (noHead b) := by unfold noHead; infer_instance
instance (b : List Int) : Decidable (noSums b) := by unfold noSums; infer_instance
/-- The first frame: its record, whether it is the last one, how many bytes it has. -/
def firstOf (b : List Int) : Option (List Int × Bool × Nat) :=
  if noHead b then none else if noSums b then none else some ((b.take (wide b)).drop 2, rd b 1 == 1, wide b + 2)
theorem firstOf_some {b r : List Int} {last : Bool} {n : Nat} (h : firstOf b = some (r, last, n)) : ¬ noHead b ∧ ¬ noSums b ∧ r = (b.take (wide b)).drop 2 ∧ last = (rd b 1 == 1) ∧ n = wide b + 2 ∧ n ≤ b.length ∧ r.length + 4 = n ∧ 1 ≤ r.length := by
  unfold firstOf at h
  split at h
  · cases h
  · rename_i h1
    split at h
    · cases h
    · rename_i h2
      have h3 := Option.some.inj h
      simp only [Prod.mk.injEq] at h3
      obtain ⟨rfl, rfl, rfl⟩ := h3
      have h4 : ¬ b.length < wide b + 2 := fun h => h2 (.inl h)
      have h5 : 3 ≤ wide b := by unfold noHead at h1; unfold wide; omega
      refine ⟨h1, h2, rfl, rfl, rfl, by omega, ?_, ?_⟩ <;> (rw [List.length_drop, List.length_take]; omega)

/-- What first leaves. -/
def Firsted (w : World) (r : Option (List Int × Bool × Nat)) (e : Ending) (w' : World) : Prop :=
  Below w.heap.size w w' ∧ match r with
  | none => e = .returned (.tuple #[.slice none 0 0, .bool false, .int .i64 0])
  | some (x, last, n) => ∃ A', e = .returned (.tuple #[.slice A' x.length x.length, .bool last, .int .i64 n]) ∧ (Kd.int .u8).C w A' x.length x
theorem first_calls (A : Option Addr) (c : Nat) (b : List Int) (w : World) (hr : Kd.C (Kd.int .u8) w A b.length b) (hc : b.length ≤ c) (hl : b.length ≤ 100000) (hx : ∀ x ∈ b, 0 ≤ x ∧ x < 256) :
    Calls Try.prog 72 #[.slice A b.length c] w (Firsted w (firstOf b)) := by
  unfold firstOf
  by_cases h1 : noHead b
  · rw [if_pos h1]
    refine (first_head A c b w hr h1).mono ?_
    rintro e w' ⟨rfl, rfl⟩
    exact ⟨Below.refl _ _, rfl⟩
  · rw [if_neg h1]
    by_cases h2 : noSums b
    · rw [if_pos h2]
      by_cases h3 : b.length < wide b + 2
      · refine (first_short A c b w hr h1 h3).mono ?_
        rintro e w' ⟨rfl, hB⟩
        exact ⟨hB, rfl⟩
      · refine (first_sums A c b w hr hc h1 h3 hx hl (h2.resolve_left h3)).mono ?_
        rintro e w' ⟨rfl, hB⟩
        exact ⟨hB, rfl⟩
    · rw [if_neg h2]
      have h3 : ¬ b.length < wide b + 2 := fun h => h2 (.inl h)
      have h4 : sumsOf (b.take (wide b)) = (rd b (wide b), rd b ((wide b : Int) + 1)) := by
        by_cases e : sumsOf (b.take (wide b)) = (rd b (wide b), rd b ((wide b : Int) + 1))
        · exact e
        · exact absurd (.inr e) h2
      refine (first_ok A c b w hr hc h1 h3 hx hl h4).mono ?_
      rintro e w' ⟨A', rfl, hC, hB⟩
      have hlen : ((b.take (wide b)).drop 2).length = wide b - 2 := by rw [List.length_drop, List.length_take]; omega
      exact ⟨hB, A', by rw [hlen]; norm_cast, by rw [hlen]; exact hC⟩

/-- All batches of bytes, behind those records of a batch; where one stands; how many bytes are used. -/
def readGo (c : List Int) (batch : List (List Int)) (p used : Nat) : List (List (List Int)) × Nat :=
  match _h : firstOf c with
  | none => ([], used)
  | some (r, last, n) =>
    if last then ((batch ++ [r]) :: (readGo (c.drop n) [] (p + n) (p + n)).1, (readGo (c.drop n) [] (p + n) (p + n)).2)
    else readGo (c.drop n) (batch ++ [r]) (p + n) used
termination_by c.length
decreasing_by all_goals (have := firstOf_some (by assumption); rw [List.length_drop]; omega)
theorem readGo_none {c : List Int} (h : firstOf c = none) (batch : List (List Int)) (p used : Nat) : readGo c batch p used = ([], used) := by rw [readGo]; split; rfl; rename_i e; rw [h] at e; cases e
theorem readGo_last {c r : List Int} {n : Nat} (h : firstOf c = some (r, true, n)) (batch : List (List Int)) (p used : Nat) : readGo c batch p used = ((batch ++ [r]) :: (readGo (c.drop n) [] (p + n) (p + n)).1, (readGo (c.drop n) [] (p + n) (p + n)).2) := by
  rw [readGo]; split
  · rename_i e; rw [h] at e; cases e
  · rename_i e; rw [h] at e; injection e with e; simp only [Prod.mk.injEq] at e; obtain ⟨rfl, rfl, rfl⟩ := e; rw [if_pos rfl]
theorem readGo_more {c r : List Int} {n : Nat} (h : firstOf c = some (r, false, n)) (batch : List (List Int)) (p used : Nat) : readGo c batch p used = readGo (c.drop n) (batch ++ [r]) (p + n) used := by
  rw [readGo]; split
  · rename_i e; rw [h] at e; cases e
  · rename_i e; rw [h] at e; injection e with e; simp only [Prod.mk.injEq] at e; obtain ⟨rfl, rfl, rfl⟩ := e; rw [if_neg (by decide)]
def readOf (b : List Int) : List (List (List Int)) × Nat := readGo b [] 0 0

end Go.Proofs.Ytmfkgbncnaingaa.Wal
