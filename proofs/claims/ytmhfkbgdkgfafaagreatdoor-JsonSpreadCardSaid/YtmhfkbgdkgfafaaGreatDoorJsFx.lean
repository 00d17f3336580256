/- What json's parser reads is small, and no longer as a text than what was read; its faults are told. -/
import Derived.Test.YtmhfkbgdkgfafaaGreatDoorJsBk
namespace Go.Proofs.YtmhfkbgdkgfafaaGreatDoor.Js
open Go.RowKit Go.Proofs.YtmhfkbgdkgfafaaGreatDoor.QJson Go.Proofs.YtmhfkbgdkgfafaaGreatDoorW.PrintWords Go.Proofs.YtmhfkbgdkgfafaaGreatDoorW.PrintLast Go.Proofs.YtmhfkbgdkgfafaaGreatDoorW.PrintMore
set_option linter.unusedVariables false
set_option linter.unusedSimpArgs false

/-! ### what is left is less -/
theorem tk1_len {c : UInt8} {l q : List UInt8} (h : tk [c] l = some q) : q.length + 1 = l.length := by
  rw [tk_some h]; simp
theorem tk_len {s l q : List UInt8} (h : tk s l = some q) : q.length + s.length = l.length := by
  rw [tk_some h]; simp [Nat.add_comm]
/-- A law of all items, read backwards. -/
theorem listP_back {α : Type} (E : UInt8) (I : α → List UInt8 → Option (α × List UInt8)) (G : α → Prop) (m : α → Nat) (hI : ∀ a l a' r, I a l = some (a', r) → G a' → G a ∧ m a' + r.length ≤ m a + l.length + 1) :
    ∀ (n : Nat) (a : α) (l : List UInt8) (b : α) (q : List UInt8), listP E I n a l = some (b, q) → G b → G a ∧ m b + q.length ≤ m a + l.length
  | 0, a, l, b, q, h, _ => by rw [listP] at h; cases h
  | n + 1, a, l, b, q, h, hb => by
    rw [listP] at h
    cases h1 : I a (sk l) with
    | none => rw [h1] at h; cases h
    | some p =>
      obtain ⟨a', r⟩ := p
      rw [h1] at h
      dsimp only at h
      have hs := sk_le l
      have hr := sk_le r
      cases h2 : tk [E] (sk r) with
      | some q2 =>
        rw [h2] at h
        have e := Option.some.inj h
        injection e with e1 e2
        subst e1 e2
        have h3 := tk1_len h2
        obtain ⟨g1, g2⟩ := hI _ _ _ _ h1 hb
        exact ⟨g1, by omega⟩
      | none =>
        rw [h2] at h
        dsimp only at h
        cases h3 : tk [44] (sk r) with
        | none => rw [h3] at h; cases h
        | some q2 =>
          rw [h3] at h
          dsimp only at h
          have h4 := tk1_len h3
          obtain ⟨g3, g4⟩ := listP_back E I G m hI n a' q2 b q h hb
          obtain ⟨g1, g2⟩ := hI _ _ _ _ h1 g3
          exact ⟨g1, by omega⟩
theorem listP_less {α : Type} (E : UInt8) (I : α → List UInt8 → Option (α × List UInt8)) (hI : ∀ a l a' r, I a l = some (a', r) → r.length ≤ l.length) :
    ∀ (n : Nat) (a : α) (l : List UInt8) (b : α) (q : List UInt8), listP E I n a l = some (b, q) → q.length + 1 ≤ l.length
  | 0, a, l, b, q, h => by rw [listP] at h; cases h
  | n + 1, a, l, b, q, h => by
    rw [listP] at h
    cases h1 : I a (sk l) with
    | none => rw [h1] at h; cases h
    | some p =>
      obtain ⟨a', r⟩ := p
      rw [h1] at h
      dsimp only at h
      have hs := sk_le l
      have hr := sk_le r
      have hi := hI _ _ _ _ h1
      cases h2 : tk [E] (sk r) with
      | some q2 =>
        rw [h2] at h
        have e := Option.some.inj h
        injection e with e1 e2
        subst e1 e2
        have h3 := tk1_len h2
        omega
      | none =>
        rw [h2] at h
        dsimp only at h
        cases h3 : tk [44] (sk r) with
        | none => rw [h3] at h; cases h
        | some q2 =>
          rw [h3] at h
          dsimp only at h
          have h4 := tk1_len h3
          have := listP_less E I hI n a' q2 b q h
          omega
theorem listP_keep {α : Type} (E : UInt8) (I : α → List UInt8 → Option (α × List UInt8)) (Q : α → Prop) (hI : ∀ a l a' r, I a l = some (a', r) → Q a → Q a') :
    ∀ (n : Nat) (a : α) (l : List UInt8) (b : α) (q : List UInt8), listP E I n a l = some (b, q) → Q a → Q b
  | 0, a, l, b, q, h, _ => by rw [listP] at h; cases h
  | n + 1, a, l, b, q, h, ha => by
    rw [listP] at h
    cases h1 : I a (sk l) with
    | none => rw [h1] at h; cases h
    | some p =>
      obtain ⟨a', r⟩ := p
      rw [h1] at h
      dsimp only at h
      have hi := hI _ _ _ _ h1 ha
      cases h2 : tk [E] (sk r) with
      | some q2 =>
        rw [h2] at h
        have e := Option.some.inj h
        injection e with e1 e2
        subst e1 e2
        exact hi
      | none =>
        rw [h2] at h
        dsimp only at h
        cases h3 : tk [44] (sk r) with
        | none => rw [h3] at h; cases h
        | some q2 =>
          rw [h3] at h
          exact listP_keep E I Q hI n a' q2 b q h hi
theorem listS_cases {α : Type} {E : UInt8} {I : α → List UInt8 → Option (α × List UInt8)} {n : Nat} {a b : α} {l q : List UInt8} (h : listS E I n a l = some (b, q)) : (b = a ∧ q.length + 1 ≤ l.length) ∨ listP E I n a (sk l) = some (b, q) := by
  unfold listS at h
  have hs := sk_le l
  cases h1 : tk [E] (sk l) with
  | some q2 =>
    rw [h1] at h
    have e := Option.some.inj h
    injection e with e1 e2
    subst e1 e2
    have h3 := tk1_len h1
    exact .inl ⟨rfl, by omega⟩
  | none => rw [h1] at h; exact .inr h

/-! ### strings and numbers -/
theorem esc_le (c : UInt8) : (esc c).length ≤ 6 := by
  unfold esc
  repeat' split
  all_goals simp
theorem esc_plain {c : UInt8} (h1 : isQ c = false) (h2 : ¬ c.toNat < 32) : esc c = [c] := by
  unfold isQ at h1
  simp only [Bool.or_eq_false_iff, beq_eq_false_iff_ne] at h1
  have hne : ∀ k : UInt8, k.toNat < 32 → c ≠ k := fun k hk e => h2 (by rw [e]; exact hk)
  have h32 : ¬ c < 32 := fun h => h2 (by simpa [UInt8.lt_iff_toNat_lt] using h)
  unfold esc
  rw [if_neg h1.1, if_neg h1.2, if_neg (hne 8 (by decide)), if_neg (hne 9 (by decide)), if_neg (hne 10 (by decide)), if_neg (hne 12 (by decide)), if_neg (hne 13 (by decide)), if_neg h32]
theorem seg_rst' (l : List UInt8) : l = seg l ++ rst l := (List.takeWhile_append_dropWhile ..).symm
theorem seg_noq : ∀ (l : List UInt8), ∀ c ∈ seg l, isQ c = false
  | [], c, hc => by cases hc
  | x :: l, c, hc => by
    cases hx : isQ x with
    | true => rw [seg_q hx] at hc; cases hc
    | false =>
      rw [seg_cons hx] at hc
      rcases List.mem_cons.1 hc with rfl | hc
      · exact hx
      · exact seg_noq l c hc
theorem seg_flat (l : List UInt8) (h : (seg l).any (fun c => decide (c.toNat < 32)) = false) : (seg l).flatMap esc = seg l := by
  have hq : ∀ c ∈ seg l, isQ c = false := seg_noq l
  generalize seg l = s at h hq
  induction s with
  | nil => rfl
  | cons c s ih =>
    rw [List.any_cons, Bool.or_eq_false_iff] at h
    rw [List.flatMap_cons, esc_plain (hq c (List.mem_cons_self ..)) (of_decide_eq_false h.1), ih h.2 (fun x hx => hq x (List.mem_cons_of_mem _ hx))]; rfl
theorem escP_len {l r : List UInt8} {x : UInt8} (h : escP l = some (x, r)) : (esc x).length + r.length ≤ l.length + 1 := by
  cases l with
  | nil => rw [escP] at h; cases h
  | cons c l =>
    rw [escP] at h
    have hget : ∀ {y : UInt8}, some (y, l) = some (x, r) → (esc y).length ≤ 2 → (esc x).length + r.length ≤ (c :: l).length + 1 := fun {y} e hy => by
      have e := Option.some.inj e
      injection e with e1 e2
      subst e1 e2
      rw [List.length_cons]; omega
    split at h
    · rename_i h1
      rcases h1 with rfl | rfl | rfl
      · exact hget h (by decide)
      · exact hget h (by decide)
      · exact hget h (by decide)
    split at h
    · exact hget h (by decide)
    split at h
    · exact hget h (by decide)
    split at h
    · exact hget h (by decide)
    split at h
    · exact hget h (by decide)
    split at h
    · exact hget h (by decide)
    split at h
    · split at h
      · cases h
      · rename_i h4
        cases h5 : hexFrom 0 (l.take 4) with
        | none => rw [h5] at h; cases h
        | some n =>
          rw [h5] at h
          dsimp only at h
          split at h
          · have e := Option.some.inj h
            injection e with e1 e2
            subst e2
            have := esc_le x
            rw [List.length_drop, List.length_cons]; omega
          · cases h
    · cases h
theorem textP_len : ∀ (n : Nat) (l t q : List UInt8), textP n l = some (t, q) → (t.flatMap esc).length + 1 + q.length ≤ l.length
  | 0, l, t, q, h => by rw [textP] at h; cases h
  | n + 1, l, t, q, h => by
    rw [textP] at h
    have hl := congrArg List.length (seg_rst' l)
    rw [List.length_append] at hl
    cases hr : rst l with
    | nil => rw [hr] at h; cases h
    | cons c r =>
      rw [hr] at h hl
      rw [List.length_cons] at hl
      dsimp only at h
      cases ha : (seg l).any (fun c => decide (c.toNat < 32)) with
      | true => rw [ha] at h; cases h
      | false =>
        have hf := seg_flat l ha
        rw [ha] at h
        rw [if_neg (by decide)] at h
        split at h
        · have e := Option.some.inj h
          injection e with e1 e2
          subst e1 e2
          rw [hf]; omega
        · cases he : escP r with
          | none => rw [he] at h; cases h
          | some p =>
            obtain ⟨x, r'⟩ := p
            rw [he] at h
            dsimp only at h
            cases ht : textP n r' with
            | none => rw [ht] at h; cases h
            | some p2 =>
              obtain ⟨t2, q2⟩ := p2
              rw [ht] at h
              have e := Option.some.inj h
              injection e with e1 e2
              subst e1 e2
              have h1 := escP_len he
              have h2 := textP_len n r' t2 q2 ht
              rw [List.flatMap_append, List.flatMap_cons, hf, List.length_append, List.length_append]; omega
theorem numP_len {l r : List UInt8} {k : Int} (h : numP l = some (k, r)) : r.length + 1 ≤ l.length ∧ (k < 9007199254740992 → (Lib.itoa k).length + r.length ≤ l.length) := by
  unfold numP at h
  have hl := congrArg List.length (List.take_append_drop (scan l) l)
  rw [List.length_append] at hl
  have hbad : ∀ {o : Option (Int × List UInt8)}, o = (if Lib.trimPrefix (l.take (scan l)) [45] = [] ∨ (Lib.trimPrefix (l.take (scan l)) [45]).getD 0 0 = 48 then none else some (9007199254740992, l.drop (scan l))) → o = some (k, r) → r.length + 1 ≤ l.length ∧ (k < 9007199254740992 → (Lib.itoa k).length + r.length ≤ l.length) := by
    intro o ho h
    rw [ho] at h
    split at h
    · cases h
    · rename_i hn
      have e := Option.some.inj h
      injection e with e1 e2
      subst e1 e2
      refine ⟨?_, fun h => absurd h (by decide)⟩
      have hne : l.take (scan l) ≠ [] := fun e => hn (.inl (by rw [e]; rfl))
      have : 0 < (l.take (scan l)).length := List.length_pos_iff.2 hne
      omega
  cases ha : Lib.atoiAll (l.take (scan l)) with
  | ok v =>
    rw [ha] at h
    dsimp only at h
    split at h
    · rename_i hv
      have e := Option.some.inj h
      injection e with e1 e2
      subst e1 e2
      obtain ⟨c, l2, h1, _⟩ := itoa_head v
      have h2 := congrArg List.length hv
      rw [h1, List.length_cons] at h2
      exact ⟨by omega, fun _ => by rw [hv]; omega⟩
    · cases h
  | range => rw [ha] at h; exact hbad rfl h
  | _ => rw [ha] at h; exact hbad rfl h

/-! ### values -/
def sumT (ps : List S26) : Nat := (ps.map fun p => (vt p).length + 1).sum
def sumK (ks : List ByteArray) : Nat := (ks.map fun k => (quote k.data.toList).length + 1).sum
theorem sumT_app (a b : List S26) : sumT (a ++ b) = sumT a + sumT b := by unfold sumT; rw [List.map_append, List.sum_append]
theorem sumT_cons (p : S26) (b : List S26) : sumT (p :: b) = (vt p).length + 1 + sumT b := by unfold sumT; rw [List.map_cons, List.sum_cons]
theorem sumK_app (a b : List ByteArray) : sumK (a ++ b) = sumK a + sumK b := by unfold sumK; rw [List.map_append, List.sum_append]
theorem sumK_cons (p : ByteArray) (b : List ByteArray) : sumK (p :: b) = (quote p.data.toList).length + 1 + sumK b := by unfold sumK; rw [List.map_cons, List.sum_cons]
theorem cnts_app (a b : List S26) : cnts (a ++ b) = cnts a + cnts b := by
  induction a with
  | nil => rw [List.nil_append, cnts, Nat.zero_add]
  | cons p a ih => rw [List.cons_append, cnts, cnts, ih, Nat.add_assoc]
theorem join_sum (xs : List (List UInt8)) (h : xs ≠ []) : (Lib.join xs [44]).length + 1 = (xs.map fun x => x.length + 1).sum := by
  induction xs with
  | nil => exact absurd rfl h
  | cons y ys ih =>
    cases ys with
    | nil => rw [Lib.join_one]; simp
    | cons z zs =>
      have he : Lib.join (y :: z :: zs) [44] = y ++ [44] ++ Lib.join (z :: zs) [44] := by
        simp [Lib.join, List.intercalate, List.intersperse]
      have := ih (by simp)
      rw [he, List.map_cons, List.sum_cons, ← this]
      simp only [List.length_append, List.length_cons, List.length_nil]; omega
theorem vts7_sum : ∀ (ps : List S26) (ks : List ByteArray), ks.length = ps.length → ((vts 7 ks ps).map fun x => x.length + 1).sum = sumK ks + sumT ps
  | [], [], _ => rfl
  | [], k :: ks, h => by cases h
  | p :: ps, [], h => by cases h
  | p :: ps, k :: ks, h => by
    have ih := vts7_sum ps ks (by simpa using h)
    rw [vts, if_pos rfl, List.map_cons, List.sum_cons, List.tail_cons, ih, sumK_cons, sumT_cons, List.headD_cons, List.length_append, List.length_cons]; omega
theorem vt_arr_len (ps : List S26) : (vt ⟨6, 0, ⟨#[]⟩, [], ps⟩).length ≤ 1 + max 1 (sumT ps) := by
  rw [vt, if_neg (by decide), if_neg (by decide), if_neg (by decide), if_neg (by decide), if_pos rfl, vts_arr]
  cases ps with
  | nil => rw [List.map_nil, Lib.join_nil]; simp; omega
  | cons p ps =>
    have h := join_sum ((p :: ps).map vt) (by simp)
    rw [List.map_map] at h
    have e : (List.map ((fun x : List UInt8 => x.length + 1) ∘ vt) (p :: ps)).sum = sumT (p :: ps) := rfl
    rw [e] at h
    simp only [List.length_cons, List.length_append, List.length_nil]; omega
theorem vt_obj_len (ks : List ByteArray) (ps : List S26) (hl : ks.length = ps.length) : (vt ⟨7, 0, ⟨#[]⟩, ks, ps⟩).length ≤ 1 + max 1 (sumK ks + sumT ps) := by
  rw [vt, if_neg (by decide), if_neg (by decide), if_neg (by decide), if_neg (by decide), if_neg (by decide), if_pos rfl]
  cases ps with
  | nil => rw [vts, Lib.join_nil]; simp; omega
  | cons p ps =>
    have h := join_sum (vts 7 ks (p :: ps)) (by rw [vts]; simp)
    rw [vts7_sum _ _ hl] at h
    simp only [List.length_cons, List.length_append, List.length_nil]; omega
/-- As it is parsed: keys beside parts. -/
inductive Sh : S26 → Prop
  | mk {v : S26} (h : v.f3.length ≤ v.f4.length) (ps : ∀ p ∈ v.f4, Sh p) : Sh v
theorem Sh.len {v : S26} (h : Sh v) : v.f3.length ≤ v.f4.length := by cases h with | mk h _ => exact h
theorem Sh.part {v p : S26} (h : Sh v) (hp : p ∈ v.f4) : Sh p := by cases h with | mk _ h => exact h p hp
theorem sh_leaf (k n : Int) (t : ByteArray) : Sh ⟨k, n, t, [], []⟩ := .mk (Nat.le_refl _) (fun p hp => by cases hp)
theorem arrI_some {V : List UInt8 → Option (S26 × List UInt8)} {a b : List S26} {l r : List UInt8} (h : arrI V a l = some (b, r)) : ∃ p, V l = some (p, r) ∧ b = a ++ [p] := by
  unfold arrI at h
  cases hv : V l with
  | none => rw [hv] at h; cases h
  | some x =>
    obtain ⟨p, r2⟩ := x
    rw [hv] at h
    have e := Option.some.inj h
    injection e with e1 e2
    subst e1 e2
    exact ⟨p, rfl, rfl⟩
theorem objI_some {V : List UInt8 → Option (S26 × List UInt8)} {a b : List ByteArray × List S26} {l r : List UInt8} (h : objI V a l = some (b, r)) : ∃ k p l2, V l2 = some (p, r) ∧ l2.length + (quote k.data.toList).length + 1 ≤ l.length ∧ hadK a.1 k = false ∧
    b = (a.1.take (lowK a.1 k) ++ k :: a.1.drop (lowK a.1 k), a.2.take (lowK a.1 k) ++ p :: a.2.drop (lowK a.1 k)) := by
  unfold objI at h
  cases h1 : tk [34] l with
  | none => rw [h1] at h; cases h
  | some l1 =>
    rw [h1] at h
    dsimp only at h
    have e1 := tk1_len h1
    cases h2 : textP (l1.length + 1) l1 with
    | none => rw [h2] at h; cases h
    | some x =>
      obtain ⟨t, r1⟩ := x
      rw [h2] at h
      dsimp only at h
      have e2 := textP_len _ _ _ _ h2
      cases h3 : tk [58] (sk r1) with
      | none => rw [h3] at h; cases h
      | some q =>
        rw [h3] at h
        dsimp only at h
        have e3 := tk1_len h3
        have e4 := sk_le r1
        cases h4 : V (sk q) with
        | none => rw [h4] at h; cases h
        | some y =>
          obtain ⟨p, r2⟩ := y
          rw [h4] at h
          dsimp only at h
          have e5 := sk_le q
          cases h5 : hadK a.1 (str t) with
          | true => rw [h5, if_pos rfl] at h; cases h
          | false =>
            rw [h5, if_neg (by decide)] at h
            have e := Option.some.inj h
            injection e with e6 e7
            subst e7
            refine ⟨str t, p, sk q, h4, ?_, h5, e6.symm⟩
            rw [str_list]
            unfold quote
            simp only [List.length_cons, List.length_append, List.length_nil]; omega
theorem ins_mem {α : Type} (l : List α) (i : Nat) (x : α) : ∀ y, y ∈ l.take i ++ x :: l.drop i ↔ y = x ∨ y ∈ l := by
  intro y
  have h := List.take_append_drop i l
  constructor
  · intro hy
    rcases List.mem_append.1 hy with hy | hy
    · exact .inr (List.mem_of_mem_take hy)
    · rcases List.mem_cons.1 hy with hy | hy
      · exact .inl hy
      · exact .inr (List.mem_of_mem_drop hy)
  · intro hy
    rcases hy with rfl | hy
    · simp
    · rw [← h] at hy
      rcases List.mem_append.1 hy with hy | hy
      · exact List.mem_append_left _ hy
      · exact List.mem_append_right _ (List.mem_cons_of_mem _ hy)
theorem sumT_ins (l : List S26) (i : Nat) (p : S26) : sumT (l.take i ++ p :: l.drop i) = sumT l + ((vt p).length + 1) := by
  rw [sumT_app, sumT_cons]
  have := congrArg sumT (List.take_append_drop i l)
  rw [sumT_app] at this; omega
theorem sumK_ins (l : List ByteArray) (i : Nat) (p : ByteArray) : sumK (l.take i ++ p :: l.drop i) = sumK l + ((quote p.data.toList).length + 1) := by
  rw [sumK_app, sumK_cons]
  have := congrArg sumK (List.take_append_drop i l)
  rw [sumK_app] at this; omega
theorem cnts_ins (l : List S26) (i : Nat) (p : S26) : cnts (l.take i ++ p :: l.drop i) = cnts l + cnt p := by
  rw [cnts_app, cnts]
  have := congrArg cnts (List.take_append_drop i l)
  rw [cnts_app] at this; omega
/-- What value reads: how many, of which form. -/
theorem valueP_shape : ∀ (d : Nat) (l : List UInt8) (v : S26) (r : List UInt8), valueP d l = some (v, r) → cnt v + r.length ≤ l.length ∧ Sh v
  | 0, l, v, r, h => by rw [valueP] at h; cases h
  | d + 1, l, v, r, h => by
    have IH := valueP_shape d
    have leafc : ∀ (k n : Int) (t : ByteArray), cnt ⟨k, n, t, [], []⟩ = 1 := fun k n t => by rw [cnt_eq]; rfl
    rw [valueP] at h
    cases h1 : tk nulT l with
    | some q =>
      rw [h1] at h
      have e := Option.some.inj h
      injection e with e1 e2
      subst e1 e2
      have := tk_len h1
      have h4 : nulT.length = 4 := rfl
      exact ⟨by rw [leafc]; omega, sh_leaf ..⟩
    | none =>
    rw [h1] at h
    dsimp only at h
    cases h2 : tk falT l with
    | some q =>
      rw [h2] at h
      have e := Option.some.inj h
      injection e with e1 e2
      subst e1 e2
      have := tk_len h2
      have h4 : falT.length = 5 := rfl
      exact ⟨by rw [leafc]; omega, sh_leaf ..⟩
    | none =>
    rw [h2] at h
    dsimp only at h
    cases h3 : tk truT l with
    | some q =>
      rw [h3] at h
      have e := Option.some.inj h
      injection e with e1 e2
      subst e1 e2
      have := tk_len h3
      have h4 : truT.length = 4 := rfl
      exact ⟨by rw [leafc]; omega, sh_leaf ..⟩
    | none =>
    rw [h3] at h
    dsimp only at h
    cases h4 : tk [34] l with
    | some q =>
      rw [h4] at h
      dsimp only at h
      have e4 := tk1_len h4
      cases ht : textP (q.length + 1) q with
      | none => rw [ht] at h; cases h
      | some x =>
        obtain ⟨t, q2⟩ := x
        rw [ht] at h
        have e := Option.some.inj h
        injection e with e1 e2
        subst e1 e2
        have := textP_len _ _ _ _ ht
        exact ⟨by rw [leafc]; omega, sh_leaf ..⟩
    | none =>
    rw [h4] at h
    dsimp only at h
    cases h5 : tk [91] l with
    | some q =>
      rw [h5] at h
      dsimp only at h
      have e5 := tk1_len h5
      cases hl : listS 93 (arrI (valueP d)) (q.length + 1) [] q with
      | none => rw [hl] at h; cases h
      | some x =>
        obtain ⟨ps, q2⟩ := x
        rw [hl] at h
        have e := Option.some.inj h
        injection e with e1 e2
        subst e1 e2
        have hs := sk_le q
        rcases listS_cases hl with ⟨rfl, h6⟩ | h6
        · exact ⟨by rw [leafc]; omega, sh_leaf ..⟩
        · have hb := listP_back 93 (arrI (valueP d)) (fun _ => True) cnts (fun a l a' r h _ => by
            obtain ⟨p, hp, rfl⟩ := arrI_some h
            have := (IH _ _ _ hp).1
            rw [cnts_app, cnts, cnts]
            exact ⟨trivial, by omega⟩) _ _ _ _ _ h6 trivial
          have hk := listP_keep 93 (arrI (valueP d)) (fun ps => ∀ p ∈ ps, Sh p) (fun a l a' r h ha => by
            obtain ⟨p, hp, rfl⟩ := arrI_some h
            intro x hx
            rcases List.mem_append.1 hx with hx | hx
            · exact ha x hx
            · rw [List.mem_singleton.1 hx]; exact (IH _ _ _ hp).2) _ _ _ _ _ h6 (fun p hp => by cases hp)
          rw [cnt_eq]
          have h7 := hb.2
          rw [cnts] at h7
          exact ⟨by show 1 + cnts ps + _ ≤ _; omega, .mk (Nat.zero_le _) hk⟩
    | none =>
    rw [h5] at h
    dsimp only at h
    cases h6 : tk [123] l with
    | some q =>
      rw [h6] at h
      dsimp only at h
      have e5 := tk1_len h6
      cases hl : listS 125 (objI (valueP d)) (q.length + 1) ([], []) q with
      | none => rw [hl] at h; cases h
      | some x =>
        obtain ⟨a, q2⟩ := x
        rw [hl] at h
        have e := Option.some.inj h
        injection e with e1 e2
        subst e1 e2
        have hs := sk_le q
        rcases listS_cases hl with ⟨rfl, h6⟩ | h6
        · exact ⟨by rw [leafc]; omega, sh_leaf ..⟩
        · have hb := listP_back 125 (objI (valueP d)) (fun _ => True) (fun a => cnts a.2) (fun a l a' r h _ => by
            obtain ⟨k, p, l2, hp, hlen, _, rfl⟩ := objI_some h
            have := (IH _ _ _ hp).1
            dsimp only
            rw [cnts_ins]
            exact ⟨trivial, by omega⟩) _ _ _ _ _ h6 trivial
          have hk := listP_keep 125 (objI (valueP d)) (fun a => a.1.length ≤ a.2.length ∧ ∀ p ∈ a.2, Sh p) (fun a l a' r h ha => by
            obtain ⟨k, p, l2, hp, hlen, _, rfl⟩ := objI_some h
            refine ⟨?_, fun x hx => ?_⟩
            · have := ha.1
              simp only [List.length_append, List.length_cons, List.length_take, List.length_drop]; omega
            · rcases (ins_mem _ _ _ _).1 hx with rfl | hx
              · exact (IH _ _ _ hp).2
              · exact ha.2 x hx) _ _ _ _ _ h6 ⟨Nat.le_refl _, fun p hp => by cases hp⟩
          rw [cnt_eq]
          have h7 := hb.2
          dsimp only at h7
          rw [cnts] at h7
          exact ⟨by show 1 + cnts a.2 + _ ≤ _; omega, .mk hk.1 hk.2⟩
    | none =>
    rw [h6] at h
    dsimp only at h
    cases h7 : numP l with
    | none => rw [h7] at h; cases h
    | some x =>
      obtain ⟨k, q⟩ := x
      rw [h7] at h
      have e := Option.some.inj h
      injection e with e1 e2
      subst e1 e2
      have := (numP_len h7).1
      exact ⟨by rw [leafc]; omega, sh_leaf ..⟩
/-- What value reads, if it may be, is no longer as a text. -/
theorem valueP_len : ∀ (d : Nat) (l : List UInt8) (v : S26) (r : List UInt8), valueP d l = some (v, r) → (∃ e, WF e v) → (vt v).length + r.length ≤ l.length
  | 0, l, v, r, h, _ => by rw [valueP] at h; cases h
  | d + 1, l, v, r, h, hw => by
    have IH := valueP_len d
    rw [valueP] at h
    cases h1 : tk nulT l with
    | some q =>
      rw [h1] at h
      have e := Option.some.inj h
      injection e with e1 e2
      subst e1 e2
      have := tk_len h1
      have h4 : nulT.length = 4 := rfl
      have h5 : (vt ⟨1, 0, ⟨#[]⟩, [], []⟩).length = 4 := rfl
      omega
    | none =>
    rw [h1] at h
    dsimp only at h
    cases h2 : tk falT l with
    | some q =>
      rw [h2] at h
      have e := Option.some.inj h
      injection e with e1 e2
      subst e1 e2
      have := tk_len h2
      have h4 : falT.length = 5 := rfl
      have h5 : (vt ⟨2, 0, ⟨#[]⟩, [], []⟩).length = 5 := rfl
      omega
    | none =>
    rw [h2] at h
    dsimp only at h
    cases h3 : tk truT l with
    | some q =>
      rw [h3] at h
      have e := Option.some.inj h
      injection e with e1 e2
      subst e1 e2
      have := tk_len h3
      have h4 : truT.length = 4 := rfl
      have h5 : (vt ⟨3, 0, ⟨#[]⟩, [], []⟩).length = 4 := rfl
      omega
    | none =>
    rw [h3] at h
    dsimp only at h
    cases h4 : tk [34] l with
    | some q =>
      rw [h4] at h
      dsimp only at h
      have e4 := tk1_len h4
      cases ht : textP (q.length + 1) q with
      | none => rw [ht] at h; cases h
      | some x =>
        obtain ⟨t, q2⟩ := x
        rw [ht] at h
        have e := Option.some.inj h
        injection e with e1 e2
        subst e1 e2
        have := textP_len _ _ _ _ ht
        have h5 : vt ⟨5, 0, str t, [], []⟩ = quote t := by
          rw [vt, if_neg (by decide), if_neg (by decide), if_neg (by decide), if_pos rfl, str_list]
        rw [h5]
        unfold quote
        simp only [List.length_cons, List.length_append, List.length_nil]; omega
    | none =>
    rw [h4] at h
    dsimp only at h
    cases h5 : tk [91] l with
    | some q =>
      rw [h5] at h
      dsimp only at h
      have e5 := tk1_len h5
      cases hl : listS 93 (arrI (valueP d)) (q.length + 1) [] q with
      | none => rw [hl] at h; cases h
      | some x =>
        obtain ⟨ps, q2⟩ := x
        rw [hl] at h
        have e := Option.some.inj h
        injection e with e1 e2
        subst e1 e2
        have hs := sk_le q
        obtain ⟨e, hw⟩ := hw
        obtain ⟨e, rfl⟩ : ∃ f, e = f + 1 := by cases e with
          | zero => cases hw
          | succ e => exact ⟨e, rfl⟩
        have hv := vt_arr_len ps
        have hless : q2.length + 1 ≤ q.length := by
          rcases listS_cases hl with ⟨rfl, h6⟩ | h6
          · exact h6
          · have := listP_less 93 (arrI (valueP d)) (fun a l a' r h => by
              obtain ⟨p, hp, rfl⟩ := arrI_some h
              have := (valueP_shape _ _ _ _ hp).1; omega) _ _ _ _ _ h6
            omega
        rcases listS_cases hl with ⟨rfl, h6⟩ | h6
        · have : sumT [] = 0 := rfl
          omega
        · have hb := listP_back 93 (arrI (valueP d)) (fun ps => ∀ p ∈ ps, ∃ e, WF e p) sumT (fun a l a' r h hg => by
            obtain ⟨p, hp, rfl⟩ := arrI_some h
            have := IH _ _ _ hp (hg p (by simp))
            rw [sumT_app, sumT_cons]
            have : sumT [] = 0 := rfl
            exact ⟨fun x hx => hg x (List.mem_append_left _ hx), by omega⟩) _ _ _ _ _ h6 (fun p hp => ⟨e, hw.part hp⟩)
          have : sumT [] = 0 := rfl
          have h7 := hb.2
          omega
    | none =>
    rw [h5] at h
    dsimp only at h
    cases h6 : tk [123] l with
    | some q =>
      rw [h6] at h
      dsimp only at h
      have e5 := tk1_len h6
      cases hl : listS 125 (objI (valueP d)) (q.length + 1) ([], []) q with
      | none => rw [hl] at h; cases h
      | some x =>
        obtain ⟨a, q2⟩ := x
        rw [hl] at h
        have e := Option.some.inj h
        injection e with e1 e2
        subst e1 e2
        have hs := sk_le q
        obtain ⟨e, hw⟩ := hw
        obtain ⟨e, rfl⟩ : ∃ f, e = f + 1 := by cases e with
          | zero => cases hw
          | succ e => exact ⟨e, rfl⟩
        have hv := vt_obj_len a.1 a.2 (hw.keys rfl)
        have hless : q2.length + 1 ≤ q.length := by
          rcases listS_cases hl with ⟨rfl, h6⟩ | h6
          · exact h6
          · have := listP_less 125 (objI (valueP d)) (fun a l a' r h => by
              obtain ⟨k, p, l2, hp, hlen, _, rfl⟩ := objI_some h
              have := (valueP_shape _ _ _ _ hp).1; omega) _ _ _ _ _ h6
            omega
        rcases listS_cases hl with ⟨rfl, h6⟩ | h6
        · have h8 : sumT [] = 0 := rfl
          have h9 : sumK [] = 0 := rfl
          dsimp only at hv ⊢
          omega
        · have hb := listP_back 125 (objI (valueP d)) (fun a => ∀ p ∈ a.2, ∃ e, WF e p) (fun a => sumK a.1 + sumT a.2) (fun a l a' r h hg => by
            obtain ⟨k, p, l2, hp, hlen, _, rfl⟩ := objI_some h
            dsimp only at hg ⊢
            have := IH _ _ _ hp (hg p ((ins_mem _ _ _ _).2 (.inl rfl)))
            rw [sumT_ins, sumK_ins]
            exact ⟨fun x hx => hg x ((ins_mem _ _ _ _).2 (.inr hx)), by omega⟩) _ _ _ _ _ h6 (fun p hp => ⟨e, hw.part hp⟩)
          have h8 : sumT [] = 0 := rfl
          have h9 : sumK [] = 0 := rfl
          have h7 := hb.2
          dsimp only at h7
          omega
    | none =>
    rw [h6] at h
    dsimp only at h
    cases h7 : numP l with
    | none => rw [h7] at h; cases h
    | some x =>
      obtain ⟨k, q⟩ := x
      rw [h7] at h
      have e := Option.some.inj h
      injection e with e1 e2
      subst e1 e2
      obtain ⟨e, hw⟩ := hw
      have := (numP_len h7).2 hw.num.2
      have h5 : vt ⟨4, k, ⟨#[]⟩, [], []⟩ = Lib.itoa k := by
        rw [vt, if_neg (by decide), if_neg (by decide), if_pos rfl]
      rw [h5]; omega

/-! ### its faults -/
theorem ascend_total (ks : List ByteArray) (hl : ks.length ≤ 1000001) : ∀ (d i : Nat), i + d = ks.length → ∃ b K, (∀ m, K ≤ m → json_ascend.l0 m ks ks (ks.length : Int) (i : Int) = some b) ∧ (b = true → ∀ j (h : j + 1 < ks.length), i ≤ j + 1 → Op.bytesLess (ks[j]).toList (ks[j + 1]).toList = true) := by
  intro d
  induction d with
  | zero =>
    intro i hi
    refine ⟨true, 1, fun m hm => ?_, fun _ j h h2 => by omega⟩
    obtain ⟨m, rfl⟩ : ∃ q, m = q + 1 := ⟨m - 1, by omega⟩
    rw [json_ascend.l0, if_neg (by omega)]
  | succ d ih =>
    intro i hi
    obtain ⟨b, K, h1, h2⟩ := ih (i + 1) (by omega)
    by_cases h0 : i = 0
    · refine ⟨b, K + 1, fun m hm => ?_, fun hb j h hij => h2 hb j h (by omega)⟩
      obtain ⟨m, rfl⟩ : ∃ q, m = q + 1 := ⟨m - 1, by omega⟩
      rw [json_ascend.l0, if_pos (by omega), if_pos (by omega), if_pos (by omega)]
      rw [show ((i : Int) + 1) = ((i + 1 : Nat) : Int) by omega, w64n _ (by omega)]
      rw [if_neg (by omega)]; exact h1 m (by omega)
    · have hlt : i - 1 + 1 < ks.length := by omega
      have e0 : wrap64 ((i : Int) - 1) = ((i - 1 : Nat) : Int) := by unfold wrap64; omega
      have e1 : rdOf ByteArray.empty ks ((i - 1 : Nat) : Int) = ks[i - 1] := by simp [rdOf, List.getD_eq_getElem?_getD, show i - 1 < ks.length by omega]
      have e2 : rdOf ByteArray.empty ks (i : Int) = ks[i - 1 + 1] := by simp [rdOf, List.getD_eq_getElem?_getD, show i < ks.length by omega, show i - 1 + 1 = i by omega]
      cases hx : Op.bytesLess (ks[i - 1]).toList (ks[i - 1 + 1]).toList with
      | true =>
        refine ⟨b, K + 1, fun m hm => ?_, fun hb j h hij => ?_⟩
        · obtain ⟨m, rfl⟩ : ∃ q, m = q + 1 := ⟨m - 1, by omega⟩
          rw [json_ascend.l0, if_pos (by omega), if_pos (by omega), if_pos (by omega)]
          rw [show ((i : Int) + 1) = ((i + 1 : Nat) : Int) by omega, w64n _ (by omega)]
          rw [if_pos (by omega), e0, if_pos (by omega), if_pos (by omega), e1, e2, if_pos hx]
          exact h1 m (by omega)
        · by_cases hj : j + 1 = i
          · obtain rfl : j = i - 1 := by omega
            exact hx
          · exact h2 hb j h (by omega)
      | false =>
        refine ⟨false, 1, fun m hm => ?_, fun hb => by cases hb⟩
        obtain ⟨m, rfl⟩ : ∃ q, m = q + 1 := ⟨m - 1, by omega⟩
        rw [json_ascend.l0, if_pos (by omega), if_pos (by omega), if_pos (by omega)]
        rw [if_pos (by omega), e0, if_pos (by omega), if_pos (by omega), e1, e2, if_neg (by rw [hx]; decide)]
theorem ascend_any (ks : List ByteArray) (hl : ks.length ≤ 1000001) : ∃ b K, (∀ m, K ≤ m → json_ascend.f m ks = some b) ∧ (b = true → Ascs ks) := by
  obtain ⟨b, K, h1, h2⟩ := ascend_total ks hl ks.length 0 (by omega)
  exact ⟨b, K, h1, fun hb j h => h2 hb j h (by omega)⟩
theorem fault_loop_any (a : Nat) (ha : a ≤ 100) (ps : List S26) (hl : ps.length ≤ 1000001) (P : S26 → Prop) (hp : ∀ p ∈ ps, ∃ K c, (∀ m, K ≤ m → json_fault.f m p.f0 p.f1 p.f2 p.f3 p.f4 ((a + 1 : Nat) : Int) = some c) ∧ (c = 0 → P p)) :
    ∀ (d i : Nat), i + d = ps.length → ∃ K c, (∀ m, K ≤ m → json_fault.l0 m (a : Int) ps (ps.length : Int) (i : Int) = some c) ∧ (c = 0 → ∀ j (h : j < ps.length), i ≤ j → P ps[j]) := by
  intro d
  induction d with
  | zero =>
    intro i hi
    refine ⟨1, 0, fun m hm => ?_, fun _ j h h2 => by omega⟩
    obtain ⟨m, rfl⟩ : ∃ q, m = q + 1 := ⟨m - 1, by omega⟩
    rw [json_fault.l0, if_neg (by omega)]
  | succ d ih =>
    intro i hi
    obtain ⟨K, c, h1, h2⟩ := ih (i + 1) (by omega)
    have hlt : i < ps.length := by omega
    obtain ⟨K2, c2, h3, h4⟩ := hp ps[i] (List.getElem_mem hlt)
    by_cases hc : c2 = 0
    · refine ⟨K + K2 + 1, c, fun m hm => ?_, fun hc0 j h hij => ?_⟩
      · obtain ⟨m, rfl⟩ : ∃ q, m = q + 1 := ⟨m - 1, by omega⟩
        rw [json_fault.l0, if_pos (by omega), if_pos (by omega), if_pos (by omega), rd_at ps i hlt]
        rw [show ((a : Int) + 1) = ((a + 1 : Nat) : Int) by omega, w64n _ (by omega), h3 m (by omega), Option.bind_some, if_pos hc]
        rw [show ((i : Int) + 1) = ((i + 1 : Nat) : Int) by omega, w64n _ (by omega)]
        exact h1 m (by omega)
      · by_cases hj : j = i
        · subst hj; exact h4 hc
        · exact h2 hc0 j h (by omega)
    · refine ⟨K2 + 1, c2, fun m hm => ?_, fun h => absurd h hc⟩
      obtain ⟨m, rfl⟩ : ∃ q, m = q + 1 := ⟨m - 1, by omega⟩
      rw [json_fault.l0, if_pos (by omega), if_pos (by omega), if_pos (by omega), rd_at ps i hlt]
      rw [show ((a : Int) + 1) = ((a + 1 : Nat) : Int) by omega, w64n _ (by omega), h3 m (by omega), Option.bind_some, if_neg hc]
theorem fault_any : ∀ (d a : Nat), a + d = 6 → ∀ (v : S26), Sh v → cnt v ≤ 1000000 → ∃ K c, (∀ m, K ≤ m → json_fault.f m v.f0 v.f1 v.f2 v.f3 v.f4 (a : Int) = some c) ∧ (c = 0 → WF d v)
  | 0, a, had, v, _, _ => ⟨1, 5, fun m hm => by
      obtain ⟨m, rfl⟩ : ∃ q, m = q + 1 := ⟨m - 1, by omega⟩
      rw [json_fault.f, if_pos (by omega)], fun h => absurd h (by decide)⟩
  | d + 1, a, had, v, hs, hc => by
    have hce := cnt_eq v
    have hcl := cnts_len v.f4
    have hk := hs.len
    obtain ⟨Kl, cl, hl1, hl2⟩ := fault_loop_any a (by omega) v.f4 (by omega) (WF d) (fun p hp => fault_any d (a + 1) (by omega) p (hs.part hp) (by have := cnts_le v.f4 p hp; omega)) v.f4.length 0 (by omega)
    obtain ⟨ba, Ka, ha1, ha2⟩ := ascend_any v.f3 (by omega)
    by_cases hk0 : v.f0 < 1
    · refine ⟨2, 3, fun m hm => ?_, fun h => absurd h (by decide)⟩
      obtain ⟨m, rfl⟩ : ∃ q, m = q + 2 := ⟨m - 2, by omega⟩
      rw [json_fault.f, if_neg (by omega), if_pos hk0, json_fault.j0, if_pos rfl]
    by_cases hk7 : v.f0 > 7
    · refine ⟨2, 3, fun m hm => ?_, fun h => absurd h (by decide)⟩
      obtain ⟨m, rfl⟩ : ∃ q, m = q + 2 := ⟨m - 2, by omega⟩
      rw [json_fault.f, if_neg (by omega), if_neg hk0, decide_eq_true hk7, json_fault.j0, if_pos rfl]
    have hj1 : ∀ m, json_fault.j1 (m + 1) (a : Int) true v.f0 v.f1 v.f2 v.f3 v.f4 = some 4 := fun m => by rw [json_fault.j1, if_pos rfl]
    cases hpl : plainB v.f0 v.f1 v.f2 v.f3.length v.f4.length with
    | false =>
      refine ⟨3, 4, fun m hm => ?_, fun h => absurd h (by decide)⟩
      obtain ⟨m, rfl⟩ : ∃ q, m = q + 3 := ⟨m - 3, by omega⟩
      rw [json_fault.f, if_neg (by omega), if_neg hk0, decide_eq_false hk7, json_fault.j0, if_neg (by decide), json_plain.f, Option.bind_some, hpl, if_neg (by decide)]
      exact hj1 _
    | true =>
    by_cases h7l : v.f0 = 7 ∧ v.f3.length ≠ v.f4.length
    · refine ⟨3, 4, fun m hm => ?_, fun h => absurd h (by decide)⟩
      obtain ⟨m, rfl⟩ : ∃ q, m = q + 3 := ⟨m - 3, by omega⟩
      rw [json_fault.f, if_neg (by omega), if_neg hk0, decide_eq_false hk7, json_fault.j0, if_neg (by decide), json_plain.f, Option.bind_some, hpl, if_pos rfl, if_pos h7l.1, if_neg (by omega)]
      rw [show ((v.f3.length : Int) != (v.f4.length : Int)) = true from bne_iff_ne.2 (by omega)]
      exact hj1 _
    have hstep : ∀ m, Ka ≤ m + 1 → json_fault.f (m + 3) v.f0 v.f1 v.f2 v.f3 v.f4 (a : Int) = json_fault.j1 (m + 1) (a : Int) (!ba) v.f0 v.f1 v.f2 v.f3 v.f4 := fun m hm => by
      rw [json_fault.f, if_neg (by omega), if_neg hk0, decide_eq_false hk7, json_fault.j0, if_neg (by decide), json_plain.f, Option.bind_some, hpl, if_pos rfl]
      by_cases h7 : v.f0 = 7
      · rw [if_pos h7, if_pos (by omega), ha1 _ hm, Option.bind_some]
      · rw [if_neg h7, ha1 _ hm, Option.bind_some]
    cases ba with
    | false =>
      refine ⟨Ka + 3, 4, fun m hm => ?_, fun h => absurd h (by decide)⟩
      obtain ⟨m, rfl⟩ : ∃ q, m = q + 3 := ⟨m - 3, by omega⟩
      rw [hstep m (by omega)]
      exact hj1 _
    | true =>
    by_cases hn1 : v.f1 ≥ 9007199254740992
    · refine ⟨Ka + 3, 2, fun m hm => ?_, fun h => absurd h (by decide)⟩
      obtain ⟨m, rfl⟩ : ∃ q, m = q + 3 := ⟨m - 3, by omega⟩
      rw [hstep m (by omega), json_fault.j1, if_neg (by decide), if_pos hn1]
    by_cases hn2 : v.f1 ≤ -9007199254740992
    · refine ⟨Ka + 3, 2, fun m hm => ?_, fun h => absurd h (by decide)⟩
      obtain ⟨m, rfl⟩ : ∃ q, m = q + 3 := ⟨m - 3, by omega⟩
      rw [hstep m (by omega), json_fault.j1, if_neg (by decide), if_neg hn1, if_pos hn2]
    refine ⟨Ka + Kl + 3, cl, fun m hm => ?_, fun h => ?_⟩
    · obtain ⟨m, rfl⟩ : ∃ q, m = q + 3 := ⟨m - 3, by omega⟩
      rw [hstep m (by omega), json_fault.j1, if_neg (by decide), if_neg hn1, if_neg hn2]
      exact hl1 m (by omega)
    · refine .mk (by omega) (by omega) hpl (fun h7 => Classical.byContradiction fun hne => h7l ⟨h7, hne⟩) (by omega) (by omega) (ha2 rfl) (fun p hp => ?_)
      obtain ⟨j, hj, rfl⟩ := List.mem_iff_getElem.1 hp
      exact hl2 h j hj (by omega)

end Go.Proofs.YtmhfkbgdkgfafaaGreatDoor.Js
