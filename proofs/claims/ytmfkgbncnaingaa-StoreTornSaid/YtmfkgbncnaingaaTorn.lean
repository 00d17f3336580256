/- StoreTorn: the plain law. -/
import Derived.Test.YtmfkgbncnaingaaColl
namespace Go.Proofs.Ytmfkgbncnaingaa.Sto
open Go.Proofs.Ytmfkgbncnaingaa.QStore (S81 S83 S114 k81 k83 k114)
open Go.RowKit Go.Proofs.Ytmfkgbncnaingaa.Reg Go.Proofs.Ytmfkgbncnaingaa.QRows Go.Proofs.Ytmfkgbncnaingaa.Rows Go.Proofs.Ytmfkgbncnaingaa.Wal Go.Proofs.YtmfkgbncnaingaaW.PrintWords Go.Proofs.YtmfkgbncnaingaaW.PrintLast Go.Proofs.YtmfkgbncnaingaaW.PrintMore
set_option linter.unusedVariables false

/-- n is the number of batches that end within the first k bytes. -/
def Within (Ls : List (List S67)) (k n : Nat) : Prop := n ≤ Ls.length ∧ (bytesOfLog (Ls.take n)).length ≤ k ∧ (n = Ls.length ∨ k < (bytesOfLog (Ls.take (n + 1))).length)
theorem len_mono (Ls : List (List S67)) {a b : Nat} (h : a ≤ b) : (bytesOfLog (Ls.take a)).length ≤ (bytesOfLog (Ls.take b)).length := by
  have e : Ls.take b = Ls.take a ++ (Ls.take b).drop a := by
    have h2 := List.take_append_drop a (Ls.take b)
    rw [List.take_take, Nat.min_eq_left h] at h2
    exact h2.symm
  rw [e, log_append, List.length_append]
  omega
theorem within_ex (Ls : List (List S67)) (k : Nat) : ∃ n, Within Ls k n := by
  have h : ∀ d n, n + d = Ls.length → (bytesOfLog (Ls.take n)).length ≤ k → ∃ n, Within Ls k n := by
    intro d
    induction d with
    | zero => intro n hn hk; exact ⟨n, by omega, hk, .inl (by omega)⟩
    | succ d ih =>
      intro n hn hk
      by_cases h2 : (bytesOfLog (Ls.take (n + 1))).length ≤ k
      · exact ih (n + 1) (by omega) h2
      · exact ⟨n, by omega, hk, .inr (by omega)⟩
  exact h Ls.length 0 (by omega) (by rw [List.take_zero, log_nil]; exact Nat.zero_le _)
theorem within_mono {Ls : List (List S67)} {k m a b : Nat} (hkm : k ≤ m) (ha : Within Ls k a) (hb : Within Ls m b) : a ≤ b := by
  by_cases h : a ≤ b
  · exact h
  · rcases hb.2.2 with h2 | h2
    · have := ha.1; omega
    · have h3 := len_mono Ls (show b + 1 ≤ a by omega)
      have := ha.2.1
      omega
theorem LI.take {Ls : List (List S67)} (h : LI Ls) (n : Nat) : LI (Ls.take n) := by
  refine ⟨fun l hl => h.ok l (List.mem_of_mem_take hl), fun i => ?_, ?_⟩
  · rw [List.take_take]; exact h.room _
  · have h1 : bytesOfLog Ls = bytesOfLog (Ls.take n) ++ bytesOfLog (Ls.drop n) := by rw [← log_append, List.take_append_drop]
    have := h.disk
    rw [h1, List.length_append] at this
    omega
theorem torn_good {Ls : List (List S67)} (h : LI Ls) {k n : Nat} (hw : Within Ls k n) : QStore.GoodLog ((bytesOfLog Ls).take k) (Ls.take n) ∧ (readOf ((bytesOfLog Ls).take k)).2 = (bytesOfLog (Ls.take n)).length := by
  have h1 : ∀ j, bytesOfLog (Ls.take j) = flat ((Ls.map (·.map recOf)).take j) := fun j => by unfold bytesOfLog; rw [List.map_take]
  have hB : Bytes (flat (Ls.map (·.map recOf))) := h.bytes
  have h2 := read_cut h.good hB n k (by rw [List.length_map]; exact hw.1) (by rw [← h1]; exact hw.2.1) (by rw [List.length_map, ← h1]; exact hw.2.2)
  have h3 : readOf ((bytesOfLog Ls).take k) = ((Ls.map (·.map recOf)).take n, (flat ((Ls.map (·.map recOf)).take n)).length) := h2
  refine ⟨⟨?_, ?_, ?_, (h.take n).logs⟩, ?_⟩
  · rw [List.length_take]; have := h.disk; omega
  · exact fun x hx => h.bytes x (List.mem_of_mem_take hx)
  · rw [h3, List.map_take]
  · rw [h3, h1]
/-- The contract of Recover at a beginning of a file. -/
theorem recover_torn (A0 : Option Addr) (c0 : Nat) (b : List Int) (Ls : List (List S67)) (u : Nat) (w : World) (h : QStore.GoodLog b Ls) (hu : (readOf b).2 = u) (hr : Kd.C (Kd.int .u8) w A0 b.length b) (hc : b.length ≤ c0) :
    Calls Try.prog 50 #[.slice A0 b.length c0] w fun e w' => ∃ A1 c1, e = .returned (.tuple #[.slice A1 (tableOf Ls).length c1, .int .i64 (u : Int), .int .i64 0]) ∧ (tableOf Ls).length ≤ c1 ∧ Kd.C k67 w' A1 (tableOf Ls).length (tableOf Ls) ∧ Below w.heap.size w w' := by
  refine (QStore.store_Recover.calls A0 c0 _ _ _ _ w hr hc (QStore.Recover_is (Ls := Ls) h)).mono ?_
  rintro e w' ⟨v, rfl, hr, hb⟩
  obtain ⟨A2, c2, rfl, k2, g2⟩ := Kd.R_reads hr
  exact ⟨A2, c2, by rw [hu], k2, g2, hb⟩

/-! ### Commits alone -/
def isCommit (a : S83) : Bool := a.f0 == 1
theorem commit_log (a : S83) (h : a.f0 = 1) (Ls : List (List S67)) : (doS a Ls).2 = Ls ∨ (doS a Ls).2 = Ls ++ [a.f1] := by
  unfold doS
  rw [if_pos h]
  dsimp only
  split
  · exact .inr rfl
  · exact .inl rfl
theorem commits_grow : ∀ (l : List S83), (∀ a ∈ l, a.f0 = 1) → ∀ Ls, ∃ ext, (playS l Ls).2 = Ls ++ ext := by
  intro l
  induction l with
  | nil => intro _ Ls; exact ⟨[], (List.append_nil _).symm⟩
  | cons a l ih =>
    intro h Ls
    simp only [playS]
    obtain ⟨ext, he⟩ := ih (fun x hx => h x (List.mem_cons_of_mem _ hx)) (doS a Ls).2
    rcases commit_log a (h a List.mem_cons_self) Ls with h1 | h1
    · rw [h1] at he ⊢; exact ⟨ext, he⟩
    · rw [h1] at he ⊢; exact ⟨a.f1 :: ext, by rw [he, List.append_assoc]; rfl⟩
/-- How many batches are written behind i Commits. -/
def cnt (l : List S83) (i : Nat) : Nat := (logOf (l.take i)).length
theorem cnt_log {l : List S83} (h : ∀ a ∈ l, a.f0 = 1) (i : Nat) : logOf (l.take i) = (logOf l).take (cnt l i) := by
  have e : logOf l = (playS (l.drop i) (logOf (l.take i))).2 := by
    have h2 : logOf l = logOf (l.take i ++ l.drop i) := by rw [List.take_append_drop]
    rw [h2]; unfold logOf; rw [playS_append]
  obtain ⟨ext, he⟩ := commits_grow (l.drop i) (fun a ha => h a (List.mem_of_mem_drop ha)) (logOf (l.take i))
  rw [e, he]
  unfold cnt
  rw [List.take_left]
theorem cnt_step {l : List S83} (h : ∀ a ∈ l, a.f0 = 1) (i : Nat) : cnt l (i + 1) ≤ cnt l i + 1 := by
  unfold cnt
  by_cases hi : i < l.length
  · rw [List.take_succ_eq_append_getElem hi, logOf_snoc]
    rcases commit_log l[i] (h _ (List.getElem_mem hi)) (logOf (l.take i)) with h1 | h1
    · rw [h1]; omega
    · rw [h1, List.length_append]; exact Nat.le_refl _
  · rw [List.take_of_length_le (by omega), List.take_of_length_le (by omega)]; omega
theorem steps {p : Nat → Nat} (h0 : p 0 = 0) (hs : ∀ i, p (i + 1) ≤ p i + 1) : ∀ N n, n ≤ p N → ∃ i, i ≤ N ∧ p i = n := by
  intro N
  induction N with
  | zero => intro n hn; exact ⟨0, Nat.le_refl _, by omega⟩
  | succ N ih =>
    intro n hn
    by_cases h : n ≤ p N
    · obtain ⟨i, hi, hp⟩ := ih n h; exact ⟨i, by omega, hp⟩
    · exact ⟨N + 1, Nat.le_refl _, by have := hs N; omega⟩
/-- Both tables were, the later one not before. -/
theorem both_were {l : List S83} (h : ∀ a ∈ l, a.f0 = 1) {k m a b : Nat} (hkm : k ≤ m) (ha : Within (logOf l) k a) (hb : Within (logOf l) m b) :
    ∃ i j, i ≤ j ∧ j ≤ l.length ∧ tableOf (logOf (l.take i)) = tableOf ((logOf l).take a) ∧ tableOf (logOf (l.take j)) = tableOf ((logOf l).take b) := by
  have hab := within_mono hkm ha hb
  have h0 : cnt l 0 = 0 := by unfold cnt; rw [List.take_zero]; rfl
  have hN : cnt l l.length = (logOf l).length := by unfold cnt; rw [List.take_of_length_le (Nat.le_refl _)]
  obtain ⟨j, hj, hpj⟩ := steps h0 (cnt_step h) l.length b (by rw [hN]; exact hb.1)
  obtain ⟨i, hi, hpi⟩ := steps h0 (cnt_step h) j a (by rw [hpj]; exact hab)
  exact ⟨i, j, hi, hj, by rw [cnt_log h i, hpi], by rw [cnt_log h j, hpj]⟩

/-! ### first and last -/
def FirstI (now : Nat → List S67) (x : List S67) (i : Nat) (f : Int) : Prop := (f = -1 ∧ ∀ p, p < i → now p ≠ x) ∨ ∃ q : Nat, f = q ∧ ∀ p, p < q → now p ≠ x
def LastI (now : Nat → List S67) (y : List S67) (i : Nat) (g : Int) : Prop := (g = -1 ∧ ∀ p, p < i → now p ≠ y) ∨ ∃ q : Nat, g = q ∧ ∀ p, q < p → p < i → now p ≠ y
theorem FirstI.start (now : Nat → List S67) (x : List S67) : FirstI now x 0 (-1) := .inl ⟨rfl, fun p h => by omega⟩
theorem LastI.start (now : Nat → List S67) (y : List S67) : LastI now y 0 (-1) := .inl ⟨rfl, fun p h => by omega⟩
theorem FirstI.new {now : Nat → List S67} {x : List S67} {i : Nat} (h : FirstI now x i (-1)) : FirstI now x (i + 1) (i : Int) := by
  refine .inr ⟨i, rfl, fun p hp => ?_⟩
  rcases h with ⟨_, h⟩ | ⟨q, h, _⟩
  · exact h p hp
  · omega
theorem FirstI.old {now : Nat → List S67} {x : List S67} {i q : Nat} (h : FirstI now x i (q : Int)) : FirstI now x (i + 1) (q : Int) := by
  rcases h with ⟨h, _⟩ | ⟨q', h, h2⟩
  · omega
  · exact .inr ⟨q', h, h2⟩
theorem FirstI.not {now : Nat → List S67} {x : List S67} {i : Nat} {f : Int} (h : FirstI now x i f) (hn : now i ≠ x) : FirstI now x (i + 1) f := by
  rcases h with ⟨h, h2⟩ | h
  · exact .inl ⟨h, fun p hp => by rcases Nat.lt_succ_iff_lt_or_eq.1 hp with hp | hp; exact h2 p hp; subst hp; exact hn⟩
  · exact .inr h
theorem LastI.new {now : Nat → List S67} {y : List S67} (i : Nat) : LastI now y (i + 1) (i : Int) := .inr ⟨i, rfl, fun p h1 h2 => by omega⟩
theorem LastI.not {now : Nat → List S67} {y : List S67} {i : Nat} {g : Int} (h : LastI now y i g) (hn : now i ≠ y) : LastI now y (i + 1) g := by
  rcases h with ⟨h, h2⟩ | ⟨q, h, h2⟩
  · exact .inl ⟨h, fun p hp => by rcases Nat.lt_succ_iff_lt_or_eq.1 hp with hp | hp; exact h2 p hp; subst hp; exact hn⟩
  · exact .inr ⟨q, h, fun p h1 hp => by rcases Nat.lt_succ_iff_lt_or_eq.1 hp with hp | hp; exact h2 p h1 hp; subst hp; exact hn⟩
theorem first_last {now : Nat → List S67} {x y : List S67} {N i j : Nat} {f g : Int} (hf : FirstI now x (N + 1) f) (hg : LastI now y (N + 1) g) (hij : i ≤ j) (hj : j ≤ N) (hx : now i = x) (hy : now j = y) : 0 ≤ f ∧ f ≤ g := by
  rcases hf with ⟨_, h⟩ | ⟨q, rfl, h⟩
  · exact absurd hx (h i (by omega))
  · rcases hg with ⟨_, h2⟩ | ⟨r, rfl, h2⟩
    · exact absurd hy (h2 j (by omega))
    · have h3 : q ≤ i := by
        by_cases h3 : q ≤ i
        · exact h3
        · exact absurd hx (h i (by omega))
      have h4 : j ≤ r := by
        by_cases h4 : j ≤ r
        · exact h4
        · exact absurd hy (h2 j (by omega) (by omega))
      omega
end Go.Proofs.Ytmfkgbncnaingaa.Sto
