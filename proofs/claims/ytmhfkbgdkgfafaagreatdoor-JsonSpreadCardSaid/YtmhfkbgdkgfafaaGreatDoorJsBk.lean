/- json's parser reads a value's text back, with blanks and with the keys the other way round as well. -/
import Derived.Test.YtmhfkbgdkgfafaaGreatDoorGJb
namespace Go.Proofs.YtmhfkbgdkgfafaaGreatDoor.Js
open Go.RowKit Go.Proofs.YtmhfkbgdkgfafaaGreatDoor.QJson Go.Proofs.YtmhfkbgdkgfafaaGreatDoorW.PrintWords Go.Proofs.YtmhfkbgdkgfafaaGreatDoorW.PrintLast Go.Proofs.YtmhfkbgdkgfafaaGreatDoorW.PrintMore
set_option linter.unusedVariables false
set_option linter.unusedSimpArgs false

/-- What stands behind an item: blanks, then a comma or the end. -/
def Tail (E : UInt8) (t : List UInt8) : Prop := ∃ c r, sk t = c :: r ∧ (c = 44 ∨ c = E)
theorem Tail.noDigit {E : UInt8} {t : List UInt8} (h : Tail E t) (hE : digitB E = false) : noDigit t := by
  obtain ⟨c, r, h1, h2⟩ := h
  intro x hx
  cases t with
  | nil => cases hx
  | cons y t =>
    have hy : y = x := by simpa using hx
    subst hy
    cases hb : blankB y with
    | false =>
      rw [sk_cons hb] at h1
      injection h1 with h1 _
      rcases h2 with h2 | h2
      · rw [h1, h2]; decide
      · rw [h1, h2]; exact hE
    | true =>
      have hall : y = 32 ∨ y = 9 ∨ y = 10 ∨ y = 13 := by simpa [blankB] using hb
      rcases hall with rfl | rfl | rfl | rfl <;> decide
def ChainB {α : Type} (E : UInt8) (I : α → List UInt8 → Option (α × List UInt8)) : α → List (List UInt8) → α → Prop
  | a, [], b => a = b
  | a, x :: xs, b => ∃ a', (∀ t, Tail E t → ∃ tl, I a (sk (x ++ t)) = some (a', tl) ∧ sk tl = sk t) ∧ ChainB E I a' xs b
theorem listP_chainB {α : Type} (E : UInt8) (hE : E ≠ 44) (hbE : blankB E = false) (g : List UInt8) (hg : ∀ c ∈ g, blankB c = true) (I : α → List UInt8 → Option (α × List UInt8)) (rest : List UInt8) : ∀ (xs : List (List UInt8)) (a b : α) (n : Nat), xs ≠ [] → ChainB E I a xs b → xs.length ≤ n →
    listP E I n a (Lib.join xs [44] ++ g ++ E :: rest) = some (b, rest)
  | [], a, b, n, h, _, _ => absurd rfl h
  | [x], a, b, n, _, hc, hn => by
    obtain ⟨m, rfl⟩ : ∃ m, n = m + 1 := ⟨n - 1, by simp at hn; omega⟩
    obtain ⟨a', h1, h2⟩ := hc
    have hs : sk (g ++ E :: rest) = E :: rest := by rw [sk_blank hg, sk_cons hbE]
    obtain ⟨tl, h3, h4⟩ := h1 (g ++ E :: rest) ⟨E, rest, hs, .inr rfl⟩
    rw [Lib.join_one, List.append_assoc, listP, h3]
    dsimp only
    rw [h4, hs, tk_one]
    cases (show a' = b from h2)
    rfl
  | x :: y :: xs, a, b, n, _, hc, hn => by
    obtain ⟨m, rfl⟩ : ∃ m, n = m + 1 := ⟨n - 1, by simp at hn; omega⟩
    obtain ⟨a', h1, h2⟩ := hc
    have he : Lib.join (x :: y :: xs) [44] = x ++ 44 :: Lib.join (y :: xs) [44] := by
      simp [Lib.join, List.intercalate, List.intersperse]
    have hs : sk (44 :: (Lib.join (y :: xs) [44] ++ g ++ E :: rest)) = 44 :: (Lib.join (y :: xs) [44] ++ g ++ E :: rest) := sk_cons (by decide)
    obtain ⟨tl, h3, h4⟩ := h1 (44 :: (Lib.join (y :: xs) [44] ++ g ++ E :: rest)) ⟨44, _, hs, .inl rfl⟩
    have hq : x ++ 44 :: Lib.join (y :: xs) [44] ++ g ++ E :: rest = x ++ 44 :: (Lib.join (y :: xs) [44] ++ g ++ E :: rest) := by simp
    rw [he, hq, listP, h3]
    dsimp only
    rw [h4, hs, tk_ne hE, tk_one]
    dsimp only
    exact listP_chainB E hE hbE g hg I rest (y :: xs) a' b m (by simp) h2 (by simp at hn ⊢; omega)
/-- The whole list, blanks ahead of its end. -/
theorem listS_chainB {α : Type} (E : UInt8) (hE : E ≠ 44) (hbE : blankB E = false) (g : List UInt8) (hg : ∀ c ∈ g, blankB c = true) (I : α → List UInt8 → Option (α × List UInt8)) (rest : List UInt8) (xs : List (List UInt8)) (a b : α) (n : Nat) (h0 : xs ≠ []) (hs : tk [E] (sk (Lib.join xs [44] ++ g ++ E :: rest)) = none) (hc : ChainB E I a xs b) (hn : xs.length ≤ n) :
    listS E I n a (Lib.join xs [44] ++ g ++ E :: rest) = some (b, rest) := by
  unfold listS
  rw [hs]
  dsimp only
  rw [listP_sk]
  exact listP_chainB E hE hbE g hg I rest xs a b n h0 hc hn

/-! ### the text with blanks, the keys the other way round -/
mutual
/-- A value's text with blanks g, its keys the other way round. -/
def sp (g : List UInt8) : S26 → List UInt8
  | ⟨k, n, t, ks, ps⟩ => if k = 6 then 91 :: (spA g true ps ++ g ++ [93]) else if k = 7 then 123 :: (spO g ks ps ++ g ++ [125]) else vt ⟨k, n, t, ks, ps⟩
def spA (g : List UInt8) : Bool → List S26 → List UInt8
  | _, [] => []
  | b, p :: ps => (if b then [] else 44 :: g) ++ (g ++ sp g p) ++ spA g false ps
def spO (g : List UInt8) : List ByteArray → List S26 → List UInt8
  | _, [] => []
  | ks, p :: ps => spO g ks.tail ps ++ (if ps.length = 0 then [] else g ++ [44]) ++ (g ++ quote (ks.headD ⟨#[]⟩).data.toList ++ g ++ [58] ++ g ++ sp g p)
end
/-- The items of the two. -/
def itA (g : List UInt8) : Bool → List S26 → List (List UInt8)
  | _, [] => []
  | b, p :: ps => ((if b then [] else g) ++ g ++ sp g p) :: itA g false ps
def oneO (g : List UInt8) (k : ByteArray) (p : S26) : List UInt8 := g ++ quote k.data.toList ++ g ++ [58] ++ g ++ sp g p
theorem spA_join (g : List UInt8) : ∀ (ps : List S26) (b : Bool), spA g b ps = (if b = true ∨ ps = [] then [] else [44]) ++ Lib.join (itA g b ps) [44]
  | [], b => by
    rw [spA, itA, Lib.join_nil]; simp
  | [p], b => by
    rw [spA, spA, itA, itA, Lib.join_one]
    cases b <;> simp
  | p :: q :: ps, b => by
    have he : Lib.join (itA g b (p :: q :: ps)) [44] = ((if b then [] else g) ++ g ++ sp g p) ++ 44 :: Lib.join (itA g false (q :: ps)) [44] := by
      rw [itA, itA]
      simp [Lib.join, List.intercalate, List.intersperse]
    rw [spA, spA_join g (q :: ps) false, he]
    cases b <;> simp
def itO (g : List UInt8) : List ByteArray → List S26 → List (List UInt8)
  | _, [] => []
  | ks, p :: ps => itO g ks.tail ps ++ [oneO g (ks.headD ⟨#[]⟩) p ++ g]
theorem join_snoc (x : List UInt8) : ∀ (xs : List (List UInt8)), xs ≠ [] → Lib.join (xs ++ [x]) [44] = Lib.join xs [44] ++ 44 :: x
  | [], h => absurd rfl h
  | [y], _ => by simp [Lib.join, List.intercalate, List.intersperse]
  | y :: z :: ys, _ => by
    have h := join_snoc x (z :: ys) (by simp)
    have e1 : Lib.join (y :: z :: ys ++ [x]) [44] = y ++ 44 :: Lib.join (z :: ys ++ [x]) [44] := by
      simp [Lib.join, List.intercalate, List.intersperse]
    have e2 : Lib.join (y :: z :: ys) [44] = y ++ 44 :: Lib.join (z :: ys) [44] := by
      simp [Lib.join, List.intercalate, List.intersperse]
    rw [e1, e2, h]; simp
theorem join_head (x : List UInt8) (xs : List (List UInt8)) : ∃ l, Lib.join (x :: xs) [44] = x ++ l := by
  cases xs with
  | nil => exact ⟨[], by rw [Lib.join_one, List.append_nil]⟩
  | cons y ys => exact ⟨44 :: Lib.join (y :: ys) [44], by simp [Lib.join, List.intercalate, List.intersperse]⟩
theorem itO_ne (g : List UInt8) (ks : List ByteArray) (p : S26) (ps : List S26) : itO g ks (p :: ps) ≠ [] := by rw [itO]; simp
theorem spO_join (g : List UInt8) : ∀ (ps : List S26) (ks : List ByteArray), ps ≠ [] → spO g ks ps ++ g = Lib.join (itO g ks ps) [44]
  | [], _, h => absurd rfl h
  | [p], ks, _ => by
    rw [spO, spO, itO, itO, List.nil_append, List.nil_append, Lib.join_one, oneO]; simp
  | p :: q :: ps, ks, _ => by
    have ih := spO_join g (q :: ps) ks.tail (by simp)
    rw [spO, itO, join_snoc _ _ (itO_ne _ _ _ _), ← ih, oneO]; simp
theorem itA_length (g : List UInt8) : ∀ (ps : List S26) (b : Bool), (itA g b ps).length = ps.length
  | [], _ => by rw [itA]; rfl
  | p :: ps, b => by rw [itA, List.length_cons, itA_length g ps, List.length_cons]
theorem itO_length (g : List UInt8) : ∀ (ps : List S26) (ks : List ByteArray), (itO g ks ps).length = ps.length
  | [], _ => by rw [itO]; rfl
  | p :: ps, ks => by rw [itO, List.length_append, itO_length g ps]; simp

/-! ### items -/
theorem ChainB_app {α : Type} {E : UInt8} {I : α → List UInt8 → Option (α × List UInt8)} : ∀ {xs ys : List (List UInt8)} {a b c : α}, ChainB E I a xs b → ChainB E I b ys c → ChainB E I a (xs ++ ys) c
  | [], ys, a, b, c, h1, h2 => by cases (show a = b from h1); exact h2
  | x :: xs, ys, a, b, c, h1, h2 => by
    obtain ⟨a', h3, h4⟩ := h1
    exact ⟨a', h3, ChainB_app h4 h2⟩
theorem tail_blank {E : UInt8} {g t : List UInt8} (hg : ∀ c ∈ g, blankB c = true) (h : Tail E t) : Tail E (g ++ t) := by
  obtain ⟨c, r, h1, h2⟩ := h
  exact ⟨c, r, by rw [sk_blank hg]; exact h1, h2⟩
/-- A text that is read as a value. -/
def Reads (V : List UInt8 → Option (S26 × List UInt8)) (w : List UInt8) (p : S26) : Prop := (∃ c l, w = c :: l ∧ blankB c = false) ∧ ∀ t, noDigit t → V (w ++ t) = some (p, t)
theorem arr_item {V : List UInt8 → Option (S26 × List UInt8)} {g w : List UInt8} {p : S26} (hg : ∀ c ∈ g, blankB c = true) (hw : Reads V w p) (ps : List S26) (t : List UInt8) (ht : noDigit t) : arrI V ps (sk (g ++ w ++ t)) = some (ps ++ [p], t) := by
  obtain ⟨⟨c, l, rfl, hc⟩, h⟩ := hw
  rw [List.append_assoc, sk_blank hg, List.cons_append, sk_cons hc, ← List.cons_append, arrI, h t ht]
theorem obj_item {V : List UInt8 → Option (S26 × List UInt8)} {g w : List UInt8} {p : S26} (hg : ∀ c ∈ g, blankB c = true) (hw : Reads V w p) (a : List ByteArray × List S26) (k : ByteArray) (hk : hadK a.1 k = false) (t : List UInt8) (ht : noDigit t) :
    objI V a (sk (g ++ quote k.data.toList ++ g ++ [58] ++ g ++ w ++ t)) = some ((a.1.take (lowK a.1 k) ++ k :: a.1.drop (lowK a.1 k), a.2.take (lowK a.1 k) ++ p :: a.2.drop (lowK a.1 k)), t) := by
  obtain ⟨⟨c, l, rfl, hc⟩, h⟩ := hw
  have e : g ++ quote k.data.toList ++ g ++ [58] ++ g ++ (c :: l) ++ t = g ++ 34 :: (k.data.toList.flatMap esc ++ 34 :: (g ++ 58 :: (g ++ c :: l ++ t))) := by
    unfold quote; simp
  have e2 : sk (g ++ 58 :: (g ++ c :: l ++ t)) = 58 :: (g ++ c :: l ++ t) := by rw [sk_blank hg, sk_cons (by decide)]
  have e3 : sk (g ++ c :: l ++ t) = c :: l ++ t := by rw [List.append_assoc, sk_blank hg, List.cons_append, sk_cons hc]
  rw [e, sk_blank hg, sk_cons (by decide), objI, tk_one]
  dsimp only
  rw [textP_fuel]
  dsimp only
  rw [e2, tk_one]
  dsimp only
  rw [e3, h t ht]
  dsimp only
  rw [str_back, hk]
  rfl

/-! ### arrays and objects in full -/
theorem WF.arr {d : Nat} {v : S26} (h : WF d v) (h6 : v.f0 = 6) : v = ⟨6, 0, ⟨#[]⟩, [], v.f4⟩ := by
  have hp := h.plainOk
  obtain ⟨k, n, t, ks, ps⟩ := v
  dsimp only at *
  subst h6
  unfold plainB at hp
  simp only [show ((6 : Int) == 4) = false by decide, show ((6 : Int) == 5) = false by decide, show ((6 : Int) == 6) = true by decide, show ((6 : Int) == 7) = false by decide, Bool.false_or, Bool.true_or, Bool.or_true, Bool.and_true, Bool.and_eq_true, beq_iff_eq] at hp
  obtain ⟨⟨h1, h2⟩, h3⟩ := hp
  obtain rfl := empty_text h2
  obtain rfl : ks = [] := List.length_eq_zero_iff.1 h3
  obtain rfl : n = 0 := by omega
  rfl
theorem WF.obj {d : Nat} {v : S26} (h : WF d v) (h7 : v.f0 = 7) : v = ⟨7, 0, ⟨#[]⟩, v.f3, v.f4⟩ := by
  have hp := h.plainOk
  obtain ⟨k, n, t, ks, ps⟩ := v
  dsimp only at *
  subst h7
  unfold plainB at hp
  simp only [show ((7 : Int) == 4) = false by decide, show ((7 : Int) == 5) = false by decide, show ((7 : Int) == 6) = false by decide, show ((7 : Int) == 7) = true by decide, Bool.false_or, Bool.true_or, Bool.or_true, Bool.and_true, Bool.and_eq_true, beq_iff_eq] at hp
  obtain ⟨h1, h2⟩ := hp
  obtain rfl := empty_text h2
  obtain rfl : n = 0 := by omega
  rfl
theorem sp_leaf (g : List UInt8) {v : S26} (h6 : v.f0 ≠ 6) (h7 : v.f0 ≠ 7) : sp g v = vt v := by
  obtain ⟨k, n, t, ks, ps⟩ := v
  rw [sp, if_neg h6, if_neg h7]
theorem sp_head {e : Nat} {v : S26} (g : List UInt8) (hv : WF e v) : ∃ c l, sp g v = c :: l ∧ blankB c = false ∧ c ≠ 93 ∧ c ≠ 125 := by
  by_cases h6 : v.f0 = 6
  · obtain ⟨k, n, t, ks, ps⟩ := v
    rw [sp, if_pos h6]
    exact ⟨_, _, rfl, by decide, by decide, by decide⟩
  by_cases h7 : v.f0 = 7
  · obtain ⟨k, n, t, ks, ps⟩ := v
    rw [sp, if_neg h6, if_pos h7]
    exact ⟨_, _, rfl, by decide, by decide, by decide⟩
  · rw [sp_leaf g h6 h7]
    obtain ⟨c, l, h1, h2, h3, h4, _⟩ := vt_head hv
    exact ⟨c, l, h1, h2, h3, h4⟩
theorem Ascs.tail {k : ByteArray} {ks : List ByteArray} (h : Ascs (k :: ks)) : Ascs ks := fun i hi => by
  have := h (i + 1) (by simpa using hi)
  simpa using this
theorem Ascs.first {k : ByteArray} {ks : List ByteArray} (h : Ascs (k :: ks)) (i : Nat) (hi : i < ks.length) : Op.bytesLess k.toList ks[i].toList = true := by
  have := asc_lt h 0 (i + 1) (by omega) (by simpa using hi)
  simpa using this
theorem chain_arr (g : List UInt8) (hg : ∀ c ∈ g, blankB c = true) (V : List UInt8 → Option (S26 × List UInt8)) (E : UInt8) (hE : digitB E = false) : ∀ (ps : List S26) (b : Bool) (acc : List S26), (∀ p ∈ ps, Reads V (sp g p) p) → ChainB E (arrI V) acc (itA g b ps) (acc ++ ps)
  | [], b, acc, _ => by rw [itA, List.append_nil]; rfl
  | p :: ps, b, acc, h => by
    rw [itA]
    refine ⟨acc ++ [p], fun t ht => ⟨t, ?_, rfl⟩, ?_⟩
    · exact arr_item (g := (if b then [] else g) ++ g) (fun c hc => by cases b <;> simp at hc <;> exact hg c hc) (h p (List.mem_cons_self ..)) acc t (ht.noDigit hE)
    · have := chain_arr g hg V E hE ps false (acc ++ [p]) (fun q hq => h q (List.mem_cons_of_mem _ hq))
      rw [List.append_assoc] at this
      exact this
theorem chain_obj (g : List UInt8) (hg : ∀ c ∈ g, blankB c = true) (V : List UInt8 → Option (S26 × List UInt8)) (E : UInt8) (hE : digitB E = false) : ∀ (ps : List S26) (ks : List ByteArray), ks.length = ps.length → Ascs ks → (∀ p ∈ ps, Reads V (sp g p) p) → ChainB E (objI V) ([], []) (itO g ks ps) (ks, ps)
  | [], [], _, _, _ => by rw [itO]; rfl
  | [], k :: ks, h, _, _ => by cases h
  | p :: ps, [], h, _, _ => by cases h
  | p :: ps, k :: ks, hl, ha, h => by
    rw [itO]
    refine ChainB_app (chain_obj g hg V E hE ps ks (by simpa using hl) ha.tail (fun q hq => h q (List.mem_cons_of_mem _ hq))) ⟨(k :: ks, p :: ps), fun t ht => ⟨g ++ t, ?_, sk_blank hg t⟩, rfl⟩
    obtain ⟨h1, h2⟩ := low_first ks k (fun i hi => ha.first i hi)
    have := obj_item hg (h p (List.mem_cons_self ..)) (ks, ps) k h2 (g ++ t) ((tail_blank hg ht).noDigit hE)
    rw [h1] at this
    rw [List.headD_cons, oneO, List.append_assoc _ g t]
    exact this
/-- The text with blanks is read back. -/
theorem valueP_sp (g : List UInt8) (hg : ∀ c ∈ g, blankB c = true) : ∀ (e : Nat) (v : S26), WF e v → ∀ (d : Nat) (rest : List UInt8), e ≤ d → noDigit rest → valueP d (sp g v ++ rest) = some (v, rest)
  | 0, v, hv, _, _, _, _ => nomatch hv
  | e + 1, v, hv, d, rest, hd, hr => by
    obtain ⟨d, rfl⟩ : ∃ q, d = q + 1 := ⟨d - 1, by omega⟩
    have hR : ∀ p ∈ v.f4, Reads (valueP d) (sp g p) p := fun p hp => by
      refine ⟨?_, fun t ht => valueP_sp g hg e p (hv.part hp) d t (by omega) ht⟩
      obtain ⟨c, l, h1, h2, _⟩ := sp_head g (hv.part hp)
      exact ⟨c, l, h1, h2⟩
    by_cases h6 : v.f0 = 6
    · rw [hv.arr h6]
      generalize hps : v.f4 = ps at hR
      rw [sp, if_pos rfl, List.cons_append, valueP_arr]
      cases ps with
      | nil =>
        rw [spA, List.nil_append, List.append_assoc, List.cons_append, List.nil_append, listS_empty 93 (by decide) _ rest g hg]
      | cons p ps =>
        have hj := spA_join g (p :: ps) true
        simp only [true_or, if_true, List.nil_append] at hj
        rw [hj]
        have e : Lib.join (itA g true (p :: ps)) [44] ++ g ++ [93] ++ rest = Lib.join (itA g true (p :: ps)) [44] ++ g ++ 93 :: rest := by simp
        rw [e]
        have hlen := join_count (itA g true (p :: ps))
        have hc := listS_chainB 93 (by decide) (by decide) g hg (arrI (valueP d)) rest (itA g true (p :: ps)) [] (p :: ps) ((Lib.join (itA g true (p :: ps)) [44] ++ g ++ 93 :: rest).length + 1) (by rw [itA]; simp) (by
          rw [itA]
          obtain ⟨l2, hl2⟩ := join_head ((if true = true then [] else g) ++ g ++ sp g p) (itA g false ps)
          obtain ⟨⟨c, l, hcl, hc⟩, _⟩ := hR p (List.mem_cons_self ..)
          have hmem : p ∈ v.f4 := by rw [hps]; exact List.mem_cons_self ..
          obtain ⟨c', l', h1, h2, h3, h4⟩ := sp_head g (hv.part hmem)
          rw [hl2, h1]
          have e2 : (if true = true then [] else g) ++ g ++ (c' :: l') ++ l2 ++ g ++ 93 :: rest = g ++ (c' :: (l' ++ l2 ++ g ++ 93 :: rest)) := by simp
          rw [e2, sk_blank hg, sk_cons h2, tk_ne (Ne.symm h3)]) (chain_arr g hg (valueP d) 93 (by decide) (p :: ps) true [] hR) (by
          rw [List.length_append, List.length_append]; omega)
        rw [hc]
    by_cases h7 : v.f0 = 7
    · have hkl := hv.keys h7
      have hka := hv.ascOk
      rw [hv.obj h7]
      generalize hps : v.f4 = ps at hR hkl
      generalize hks : v.f3 = ks at hkl hka
      rw [sp, if_neg (by decide), if_pos rfl, List.cons_append, valueP_obj]
      cases ps with
      | nil =>
        obtain rfl : ks = [] := List.length_eq_zero_iff.1 hkl
        rw [spO, List.nil_append, List.append_assoc, List.cons_append, List.nil_append, listS_empty 125 (by decide) _ rest g hg]
      | cons p ps =>
        have hj := spO_join g (p :: ps) ks (by simp)
        rw [hj]
        have e : Lib.join (itO g ks (p :: ps)) [44] ++ [125] ++ rest = Lib.join (itO g ks (p :: ps)) [44] ++ [] ++ 125 :: rest := by simp
        rw [e]
        have hlen := join_count (itO g ks (p :: ps))
        have hc := listS_chainB 125 (by decide) (by decide) [] (fun c h => by cases h) (objI (valueP d)) rest (itO g ks (p :: ps)) ([], []) (ks, p :: ps) ((Lib.join (itO g ks (p :: ps)) [44] ++ [] ++ 125 :: rest).length + 1) (itO_ne _ _ _ _) (by
          have h0 : ∃ k2 p2 ys, itO g ks (p :: ps) = (oneO g k2 p2 ++ g) :: ys := by
            have : ∀ (qs : List S26) (ks : List ByteArray), qs ≠ [] → ∃ k2 p2 ys, itO g ks qs = (oneO g k2 p2 ++ g) :: ys := by
              intro qs
              induction qs with
              | nil => intro ks h; exact absurd rfl h
              | cons q qs ih =>
                intro ks _
                cases qs with
                | nil => exact ⟨_, _, _, by rw [itO, itO, List.nil_append]⟩
                | cons q2 qs =>
                  obtain ⟨a, b, ys, h⟩ := ih ks.tail (by simp)
                  exact ⟨a, b, _, by rw [itO, h, List.cons_append]⟩
            exact this _ _ (by simp)
          obtain ⟨k2, p2, ys, h0⟩ := h0
          rw [h0]
          obtain ⟨l2, hl2⟩ := join_head (oneO g k2 p2 ++ g) ys
          rw [hl2, oneO]
          have e2 : g ++ quote k2.data.toList ++ g ++ [58] ++ g ++ sp g p2 ++ g ++ l2 ++ [] ++ 125 :: rest = g ++ 34 :: (k2.data.toList.flatMap esc ++ [34] ++ g ++ [58] ++ g ++ sp g p2 ++ g ++ l2 ++ [] ++ 125 :: rest) := by unfold quote; simp
          rw [e2, sk_blank hg, sk_cons (by decide), tk_ne (by decide)]) (chain_obj g hg (valueP d) 125 (by decide) (p :: ps) ks hkl hka hR) (by
          rw [List.length_append, List.length_append]; omega)
        rw [hc]
    · rw [sp_leaf g h6 h7]
      exact valueP_leaf hv h6 h7 d hr

/-! ### the text itself -/
theorem vts_arr : ∀ (ps : List S26) (ks : List ByteArray), vts 6 ks ps = ps.map vt
  | [], _ => rfl
  | p :: ps, ks => by rw [vts, if_neg (by decide), vts_arr ps, List.map_cons]
theorem chain_vtA (V : List UInt8 → Option (S26 × List UInt8)) (E : UInt8) (hE : digitB E = false) : ∀ (ps : List S26) (acc : List S26), (∀ p ∈ ps, Reads V (vt p) p) → ChainB E (arrI V) acc (ps.map vt) (acc ++ ps)
  | [], acc, _ => by rw [List.map_nil, List.append_nil]; rfl
  | p :: ps, acc, h => by
    rw [List.map_cons]
    refine ⟨acc ++ [p], fun t ht => ⟨t, ?_, rfl⟩, ?_⟩
    · exact arr_item (g := []) (fun c hc => by cases hc) (h p (List.mem_cons_self ..)) acc t (ht.noDigit hE)
    · have := chain_vtA V E hE ps (acc ++ [p]) (fun q hq => h q (List.mem_cons_of_mem _ hq))
      rw [List.append_assoc] at this
      exact this
theorem chain_vtO (V : List UInt8 → Option (S26 × List UInt8)) (E : UInt8) (hE : digitB E = false) : ∀ (ps : List S26) (ks kacc : List ByteArray) (acc : List S26), ks.length = ps.length → kacc.length = acc.length → Ascs (kacc ++ ks) → (∀ p ∈ ps, Reads V (vt p) p) → ChainB E (objI V) (kacc, acc) (vts 7 ks ps) (kacc ++ ks, acc ++ ps)
  | [], [], kacc, acc, _, _, _, _ => by rw [vts, List.append_nil, List.append_nil]; rfl
  | [], k :: ks, _, _, h, _, _, _ => by cases h
  | p :: ps, [], _, _, h, _, _, _ => by cases h
  | p :: ps, k :: ks, kacc, acc, hl, hla, ha, h => by
    rw [vts, if_pos rfl, List.headD_cons, List.tail_cons]
    refine ⟨(kacc ++ [k], acc ++ [p]), fun t ht => ⟨t, ?_, rfl⟩, ?_⟩
    · obtain ⟨h1, h2⟩ := low_last kacc k (fun i hi => by
        have := asc_lt ha i kacc.length hi (by simp)
        simpa [List.getElem_append, hi] using this)
      have := obj_item (g := []) (fun c hc => by cases hc) (h p (List.mem_cons_self ..)) (kacc, acc) k h2 t (ht.noDigit hE)
      rw [h1] at this
      simp only [List.nil_append, List.append_nil, List.take_length, List.drop_length] at this
      rw [hla, List.take_length, List.drop_length] at this
      have e : quote k.data.toList ++ 58 :: vt p ++ t = quote k.data.toList ++ [58] ++ vt p ++ t := by simp
      rw [e]
      exact this
    · have := chain_vtO V E hE ps ks (kacc ++ [k]) (acc ++ [p]) (by simpa using hl) (by simp [hla]) (by simpa using ha) (fun q hq => h q (List.mem_cons_of_mem _ hq))
      simpa using this
/-- A value's text is read back. -/
theorem valueP_vt : ∀ (e : Nat) (v : S26), WF e v → ∀ (d : Nat) (rest : List UInt8), e ≤ d → noDigit rest → valueP d (vt v ++ rest) = some (v, rest)
  | 0, v, hv, _, _, _, _ => nomatch hv
  | e + 1, v, hv, d, rest, hd, hr => by
    obtain ⟨d, rfl⟩ : ∃ q, d = q + 1 := ⟨d - 1, by omega⟩
    have hR : ∀ p ∈ v.f4, Reads (valueP d) (vt p) p := fun p hp => by
      refine ⟨?_, fun t ht => valueP_vt e p (hv.part hp) d t (by omega) ht⟩
      obtain ⟨c, l, h1, h2, _⟩ := vt_head (hv.part hp)
      exact ⟨c, l, h1, h2⟩
    by_cases h6 : v.f0 = 6
    · rw [hv.arr h6]
      generalize hps : v.f4 = ps at hR
      rw [vt, if_neg (by decide), if_neg (by decide), if_neg (by decide), if_neg (by decide), if_pos rfl, List.cons_append, valueP_arr, vts_arr]
      cases ps with
      | nil =>
        rw [List.map_nil, Lib.join_nil, List.nil_append]
        have := listS_empty 93 (by decide) (arrI (valueP d)) rest [] (fun c h => by cases h) [] (([93] ++ rest).length + 1)
        rw [List.nil_append] at this
        show (match listS 93 (arrI (valueP d)) (([93] ++ rest).length + 1) [] (93 :: rest) with | none => none | some (ps, q) => some (_, q)) = _
        rw [this]
      | cons p ps =>
        have hlen := join_count ((p :: ps).map vt)
        have e : Lib.join ((p :: ps).map vt) [44] ++ [93] ++ rest = Lib.join ((p :: ps).map vt) [44] ++ [] ++ 93 :: rest := by simp
        rw [e]
        have hc := listS_chainB 93 (by decide) (by decide) [] (fun c h => by cases h) (arrI (valueP d)) rest ((p :: ps).map vt) [] (p :: ps) ((Lib.join ((p :: ps).map vt) [44] ++ [] ++ 93 :: rest).length + 1) (by simp) (by
          rw [List.map_cons]
          obtain ⟨l2, hl2⟩ := join_head (vt p) (ps.map vt)
          have hmem : p ∈ v.f4 := by rw [hps]; exact List.mem_cons_self ..
          obtain ⟨c', l', h1, h2, h3, h4, _⟩ := vt_head (hv.part hmem)
          rw [hl2, h1]
          have e2 : (c' :: l') ++ l2 ++ [] ++ 93 :: rest = c' :: (l' ++ l2 ++ 93 :: rest) := by simp
          rw [e2, sk_cons h2, tk_ne (Ne.symm h3)]) (chain_vtA (valueP d) 93 (by decide) (p :: ps) [] hR) (by
          rw [List.length_append, List.length_append]; omega)
        rw [hc]
    by_cases h7 : v.f0 = 7
    · have hkl := hv.keys h7
      have hka := hv.ascOk
      rw [hv.obj h7]
      generalize hps : v.f4 = ps at hR hkl
      generalize hks : v.f3 = ks at hkl hka
      rw [vt, if_neg (by decide), if_neg (by decide), if_neg (by decide), if_neg (by decide), if_neg (by decide), if_pos rfl, List.cons_append, valueP_obj]
      cases ps with
      | nil =>
        obtain rfl : ks = [] := List.length_eq_zero_iff.1 hkl
        rw [vts, Lib.join_nil, List.nil_append]
        have := listS_empty 125 (by decide) (objI (valueP d)) rest [] (fun c h => by cases h) ([], []) (([125] ++ rest).length + 1)
        rw [List.nil_append] at this
        show (match listS 125 (objI (valueP d)) (([125] ++ rest).length + 1) ([], []) (125 :: rest) with | none => none | some (a, q) => some (_, q)) = _
        rw [this]
      | cons p ps =>
        obtain ⟨k, ks, rfl⟩ : ∃ a b, ks = a :: b := by cases ks with
          | nil => cases hkl
          | cons a b => exact ⟨a, b, rfl⟩
        have hlen := join_count (vts 7 (k :: ks) (p :: ps))
        have e : Lib.join (vts 7 (k :: ks) (p :: ps)) [44] ++ [125] ++ rest = Lib.join (vts 7 (k :: ks) (p :: ps)) [44] ++ [] ++ 125 :: rest := by simp
        rw [e]
        have hc := listS_chainB 125 (by decide) (by decide) [] (fun c h => by cases h) (objI (valueP d)) rest (vts 7 (k :: ks) (p :: ps)) ([], []) (k :: ks, p :: ps) ((Lib.join (vts 7 (k :: ks) (p :: ps)) [44] ++ [] ++ 125 :: rest).length + 1) (by rw [vts]; simp) (by
          rw [vts, if_pos rfl]
          obtain ⟨l2, hl2⟩ := join_head (quote ((k :: ks).headD ⟨#[]⟩).data.toList ++ 58 :: vt p) (vts 7 (k :: ks).tail ps)
          rw [hl2]
          have e2 : quote ((k :: ks).headD ⟨#[]⟩).data.toList ++ 58 :: vt p ++ l2 ++ [] ++ 125 :: rest = 34 :: (k.data.toList.flatMap esc ++ [34] ++ 58 :: vt p ++ l2 ++ 125 :: rest) := by unfold quote; simp
          rw [e2, sk_cons (by decide), tk_ne (by decide)]) (chain_vtO (valueP d) 125 (by decide) (p :: ps) (k :: ks) [] [] hkl rfl (by simpa using hka) hR) (by
          rw [vts_length] at hlen ⊢
          rw [List.length_append, List.length_append]; omega)
        rw [hc]
    · exact valueP_leaf hv h6 h7 d hr

/-! ### whole texts -/
theorem parse_vt {e : Nat} {v : S26} (hv : WF e v) (he : e ≤ 8) : parseP (vt v) = some v := by
  unfold parseP
  obtain ⟨c, l, hl, hb, _⟩ := vt_head hv
  have hs : sk (vt v) = vt v := by rw [hl, sk_cons hb]
  have h := valueP_vt e v hv ((vt v).length + 8) [] (by omega) (fun c h => by cases h)
  rw [List.append_nil] at h
  rw [hs, h]
  dsimp only
  rw [sk_nil, if_pos rfl]
theorem blank_noDigit {g : List UInt8} (hg : ∀ c ∈ g, blankB c = true) : noDigit g := by
  intro c hc
  cases g with
  | nil => cases hc
  | cons y g =>
    have hy : y = c := by simpa using hc
    subst hy
    have hall : y = 32 ∨ y = 9 ∨ y = 10 ∨ y = 13 := by simpa [blankB] using hg y (List.mem_cons_self ..)
    rcases hall with rfl | rfl | rfl | rfl <;> decide
theorem parse_sp {e : Nat} {v : S26} (hv : WF e v) (he : e ≤ 8) (g : List UInt8) (hg : ∀ c ∈ g, blankB c = true) (g1 g2 : List UInt8) (h1 : ∀ c ∈ g1, blankB c = true) (h2 : ∀ c ∈ g2, blankB c = true) : parseP (g1 ++ sp g v ++ g2) = some v := by
  unfold parseP
  obtain ⟨c, l, hl, hb, _⟩ := sp_head g hv
  have hs : sk (g1 ++ sp g v ++ g2) = sp g v ++ g2 := by rw [List.append_assoc, sk_blank h1, hl, List.cons_append, sk_cons hb]
  have h := valueP_sp g hg e v hv ((g1 ++ sp g v ++ g2).length + 8) g2 (by omega) (blank_noDigit h2)
  rw [hs, h]
  dsimp only
  have : sk g2 = [] := by have := sk_blank h2 []; rw [List.append_nil] at this; rw [this, sk_nil]
  rw [this, if_pos rfl]
/-- No two values have one text. -/
theorem vt_inj {e : Nat} {v u : S26} (hv : WF e v) (hu : WF e u) (he : e ≤ 8) (h : vt v = vt u) : v = u := by
  have h1 := parse_vt hv he
  have h2 := parse_vt hu he
  rw [h, h2] at h1
  exact (Option.some.inj h1).symm

end Go.Proofs.YtmhfkbgdkgfafaaGreatDoor.Js
