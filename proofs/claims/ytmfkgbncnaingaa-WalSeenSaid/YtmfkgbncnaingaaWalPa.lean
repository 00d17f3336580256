/- Plain lemmas on packed batches: what is packed is read, and what is read was packed. -/
import Derived.Test.YtmfkgbncnaingaaWal6
namespace Go.Proofs.Ytmfkgbncnaingaa.Wal
open Go.RowKit Go.Proofs.Ytmfkgbncnaingaa.QWal Go.Proofs.YtmfkgbncnaingaaW.PrintWords Go.Proofs.YtmfkgbncnaingaaW.PrintLast Go.Proofs.YtmfkgbncnaingaaW.PrintMore

/-- A record that can be packed. -/
def Rec (x : List Int) : Prop := 1 ≤ x.length ∧ x.length ≤ 60
/-- A batch that can be packed. -/
def Good (z : List (List Int)) : Prop := z ≠ [] ∧ ∀ x ∈ z, Rec x
def Bytes (l : List Int) : Prop := ∀ x ∈ l, 0 ≤ x ∧ x < 256
/-- Batches, one behind the other. -/
def flat : List (List (List Int)) → List Int
  | [] => []
  | z :: l => ofGo z ++ flat l
/-- Frames of which none is the last one. -/
def pre : List (List Int) → List Int
  | [] => []
  | x :: l => frameOf x false ++ pre l

theorem rd_get (l : List Int) (i : Nat) (h : i < l.length) : rd l (i : Int) = l[i] := by simp [rd, List.getD_eq_getElem?_getD, h]
theorem drop_rd (c : List Int) (i : Nat) (h : i < c.length) : c.drop i = rd c (i : Int) :: c.drop (i + 1) := by
  rw [List.drop_eq_getElem_cons h, rd_get c i h]
theorem flat_append (l m : List (List (List Int))) : flat (l ++ m) = flat l ++ flat m := by
  induction l with
  | nil => rfl
  | cons z l ih => rw [List.cons_append, flat, flat, ih, List.append_assoc]
theorem pre_append (l m : List (List Int)) : pre (l ++ m) = pre l ++ pre m := by
  induction l with
  | nil => rfl
  | cons z l ih => rw [List.cons_append, pre, pre, ih, List.append_assoc]
theorem pre_one (x : List Int) : pre [x] = frameOf x false := by simp [pre]
theorem ofGo_snoc (l : List (List Int)) (r : List Int) : ofGo (l ++ [r]) = pre l ++ frameOf r true := by
  induction l with
  | nil => simp [pre, ofGo]
  | cons x l ih => rw [List.cons_append, ofGo, ih, pre, List.append_assoc]; congr 2; simp

theorem firstOf_frame (x : List Int) (last : Bool) (rest : List Int) (h : Rec x) : firstOf (frameOf x last ++ rest) = some (x, last, x.length + 4) := by
  obtain ⟨h1, h2⟩ := h
  have hs : ∃ s t : Int, sumsOf (headOf x last) = (s, t) := ⟨_, _, rfl⟩
  obtain ⟨s, t, hs⟩ := hs
  have e : frameOf x last ++ rest = headOf x last ++ (s :: t :: rest) := by simp [frameOf, hs]
  have hl : (headOf x last).length = x.length + 2 := by simp [headOf]
  rw [e]
  have h0 : rd (headOf x last ++ (s :: t :: rest)) 0 = (x.length : Int) := by simp [headOf, rd]
  have hb : rd (headOf x last ++ (s :: t :: rest)) 1 = if last then 1 else 0 := by simp [headOf, rd]
  have hw : wide (headOf x last ++ (s :: t :: rest)) = x.length + 2 := by unfold wide; rw [h0]; omega
  have ht : (headOf x last ++ (s :: t :: rest)).take (x.length + 2) = headOf x last := by rw [← hl, List.take_left]
  have hS : rd (headOf x last ++ (s :: t :: rest)) ((x.length + 2 : Nat) : Int) = s := by
    rw [rd_get _ _ (by rw [List.length_append, hl, List.length_cons]; omega), List.getElem_append_right (by omega)]; simp [hl]
  have hT : rd (headOf x last ++ (s :: t :: rest)) (((x.length + 2 : Nat) : Int) + 1) = t := by
    rw [show (((x.length + 2 : Nat) : Int) + 1) = ((x.length + 3 : Nat) : Int) by omega, rd_get _ _ (by rw [List.length_append, hl, List.length_cons, List.length_cons]; omega), List.getElem_append_right (by omega)]
    simp [hl]
  have hlen : (headOf x last ++ (s :: t :: rest)).length = x.length + 4 + rest.length := by rw [List.length_append, hl, List.length_cons, List.length_cons]; omega
  have n1 : ¬ noHead (headOf x last ++ (s :: t :: rest)) := by
    unfold noHead; rw [h0, hb, hlen]; cases last <;> simp <;> omega
  have n2 : ¬ noSums (headOf x last ++ (s :: t :: rest)) := by
    unfold noSums; rw [hw, ht, hS, hT, hlen, hs]
    rintro (h | h)
    · omega
    · exact h rfl
  unfold firstOf
  rw [if_neg n1, if_neg n2, hw, ht, hb]
  have e1 : (headOf x last).drop 2 = x := by simp [headOf]
  have e2 : ((if last = true then (1 : Int) else 0) == 1) = last := by cases last <;> rfl
  rw [e1, e2]

theorem firstOf_shape {c r : List Int} {last : Bool} {n : Nat} (hc : Bytes c) (h : firstOf c = some (r, last, n)) : c = frameOf r last ++ c.drop n ∧ Rec r ∧ n = r.length + 4 := by
  obtain ⟨h1, h2, hr, hb, hn, hle, hl, hl1⟩ := firstOf_some h
  have hw : wide c + 2 ≤ c.length := by omega
  unfold noHead at h1
  have h5 : sumsOf (c.take (wide c)) = (rd c (wide c), rd c ((wide c : Int) + 1)) := by
    by_cases e : sumsOf (c.take (wide c)) = (rd c (wide c), rd c ((wide c : Int) + 1))
    · exact e
    · exact absurd (.inr e) h2
  have hr0 : rd c 0 = (r.length : Int) := by
    have : wide c = 2 + (rd c 0).toNat := rfl
    omega
  have hr1 : 0 ≤ rd c 1 ∧ rd c 1 ≤ 1 := by
    have e := rd_get c 1 (by omega)
    have := hc _ (List.getElem_mem (show 1 < c.length by omega))
    have e : rd c 1 = c[1] := e
    omega
  have hb1 : rd c 1 = if last then 1 else 0 := by
    rw [hb]
    by_cases e : rd c 1 = 1
    · rw [e]; rfl
    · rw [show rd c 1 = 0 by omega]; rfl
  have ht : c.take (wide c) = headOf r last := by
    have e0 : c = rd c 0 :: rd c 1 :: c.drop 2 := by
      have a := drop_rd c 0 (by omega)
      have b := drop_rd c 1 (by omega)
      rw [List.drop_zero] at a
      rw [b] at a
      exact a
    have e1 : c.take (wide c) = rd c 0 :: rd c 1 :: (c.take (wide c)).drop 2 := by
      have a := drop_rd (c.take (wide c)) 0 (by rw [List.length_take]; omega)
      have b := drop_rd (c.take (wide c)) 1 (by rw [List.length_take]; omega)
      rw [List.drop_zero, b] at a
      have g : ∀ i : Nat, i < wide c → rd (c.take (wide c)) (i : Int) = rd c (i : Int) := fun i hi => by
        rw [rd_get _ _ (by rw [List.length_take]; omega), rd_get _ _ (by omega), List.getElem_take]
      rw [g 0 (by omega), g 1 (by omega)] at a
      exact a
    rw [e1, ← hr, hr0, hb1]; rfl
  refine ⟨?_, ⟨by omega, by omega⟩, by omega⟩
  have h6 : c.drop (wide c) = rd c (wide c) :: rd c ((wide c : Int) + 1) :: c.drop n := by
    rw [drop_rd c _ (by omega), drop_rd c _ (by omega), hn]; rfl
  have h7 : c = headOf r last ++ (rd c (wide c) :: rd c ((wide c : Int) + 1) :: c.drop n) := by
    rw [← h6, ← ht, List.take_append_drop]
  have h8 : frameOf r last = headOf r last ++ [rd c (wide c), rd c ((wide c : Int) + 1)] := by
    unfold frameOf; rw [← ht, h5]
  rw [h8, List.append_assoc]; exact h7

theorem read_batch : ∀ (z : List (List Int)), Good z → ∀ (acc : List (List Int)) (p u : Nat) (rest : List Int), readGo (ofGo z ++ rest) acc p u = ((acc ++ z) :: (readGo rest [] (p + (ofGo z).length) (p + (ofGo z).length)).1, (readGo rest [] (p + (ofGo z).length) (p + (ofGo z).length)).2) := by
  intro z
  induction z with
  | nil => exact fun h => absurd rfl h.1
  | cons x l ih =>
    intro h acc p u rest
    have hx := h.2 x List.mem_cons_self
    rw [ofGo, List.append_assoc]
    cases l with
    | nil =>
      rw [show ([] : List (List Int)).isEmpty = true from rfl, readGo_last (firstOf_frame x _ _ hx), ← frameOf_length x true, List.drop_left]
      simp [ofGo]
    | cons y l =>
      rw [show (y :: l).isEmpty = false from rfl, readGo_more (firstOf_frame x _ _ hx), ← frameOf_length x false, List.drop_left, ih ⟨by simp, fun x hx => h.2 x (List.mem_cons_of_mem _ hx)⟩]
      simp only [List.length_append, List.append_assoc, List.singleton_append, Nat.add_assoc]

theorem read_shift : ∀ (n : Nat) (c : List Int), c.length ≤ n → ∀ (acc : List (List Int)) (p u d : Nat), readGo c acc (p + d) (u + d) = ((readGo c acc p u).1, (readGo c acc p u).2 + d) := by
  intro n
  induction n with
  | zero =>
    intro c hc acc p u d
    have e : firstOf c = none := by
      unfold firstOf; rw [if_pos (by unfold noHead; omega)]
    rw [readGo_none e, readGo_none e]
  | succ n ih =>
    intro c hc acc p u d
    cases e : firstOf c with
    | none => rw [readGo_none e, readGo_none e]
    | some q =>
      obtain ⟨r, last, m⟩ := q
      have hs := firstOf_some e
      have hd : (c.drop m).length ≤ n := by rw [List.length_drop]; omega
      cases last with
      | true => rw [readGo_last e, readGo_last e, show p + d + m = p + m + d by omega, ih _ hd]
      | false => rw [readGo_more e, readGo_more e, show p + d + m = p + m + d by omega, ih _ hd]

theorem readOf_flat (bs : List (List (List Int))) (h : ∀ z ∈ bs, Good z) (rest : List Int) : readOf (flat bs ++ rest) = (bs ++ (readOf rest).1, (flat bs).length + (readOf rest).2) := by
  induction bs with
  | nil => simp [flat]
  | cons z l ih =>
    have hs := read_shift _ (flat l ++ rest) (Nat.le_refl _) [] 0 0 (ofGo z).length
    have hi := ih fun z hz => h z (List.mem_cons_of_mem _ hz)
    unfold readOf at hi
    rw [hi] at hs
    rw [flat, List.append_assoc]
    unfold readOf
    rw [read_batch z (h z List.mem_cons_self), hs, List.length_append, List.nil_append]
    simp only [Prod.mk.injEq, List.cons_append, true_and]
    omega
theorem read_nil : readOf [] = ([], 0) := by
  unfold readOf; rw [readGo_none]; unfold firstOf; rw [if_pos (.inl (by simp))]

theorem read_shape : ∀ (n : Nat) (c : List Int), c.length ≤ n → Bytes c → ∀ (acc : List (List Int)), (∀ x ∈ acc, Rec x) → ∀ (p u : Nat),
    ((readGo c acc p u).1 = [] ∧ (readGo c acc p u).2 = u) ∨ ∃ rest, pre acc ++ c = flat (readGo c acc p u).1 ++ rest ∧ (readGo c acc p u).2 + (pre acc).length = p + (flat (readGo c acc p u).1).length ∧ ∀ z ∈ (readGo c acc p u).1, Good z := by
  intro n
  induction n with
  | zero =>
    intro c hc _ acc _ p u
    have e : firstOf c = none := by
      unfold firstOf; rw [if_pos (by unfold noHead; omega)]
    exact .inl (by rw [readGo_none e]; exact ⟨rfl, rfl⟩)
  | succ n ih =>
    intro c hc hB acc ha p u
    cases e : firstOf c with
    | none => exact .inl (by rw [readGo_none e]; exact ⟨rfl, rfl⟩)
    | some q =>
      obtain ⟨r, last, m⟩ := q
      obtain ⟨hs, hr, hm⟩ := firstOf_shape hB e
      have hsome := firstOf_some e
      have hd : (c.drop m).length ≤ n := by rw [List.length_drop]; omega
      have hBd : Bytes (c.drop m) := fun x hx => hB x (List.mem_of_mem_drop hx)
      have hrec : ∀ x ∈ acc ++ [r], Rec x := fun x hx => by
        rcases List.mem_append.1 hx with hx | hx
        · exact ha x hx
        · rw [List.mem_singleton.1 hx]; exact hr
      have hfl := frameOf_length r last
      cases last with
      | true =>
        rw [readGo_last e]
        have hg : Good (acc ++ [r]) := ⟨by simp, hrec⟩
        rcases ih (c.drop m) hd hBd [] (by simp) (p + m) (p + m) with ⟨h1, h2⟩ | ⟨rest, h1, h2, h3⟩
        · refine .inr ⟨c.drop m, ?_, ?_, ?_⟩
          · simp only [h1, flat, ofGo_snoc, List.append_nil, List.append_assoc]
            rw [← hs]
          · simp only [h1, h2, flat, ofGo_snoc, List.append_nil, List.length_append]
            omega
          · simp only [h1]
            intro z hz
            rw [List.mem_singleton.1 hz]; exact hg
        · refine .inr ⟨rest, ?_, ?_, ?_⟩
          · have h1 : c.drop m = flat (readGo (c.drop m) [] (p + m) (p + m)).1 ++ rest := h1
            show _ = flat ((acc ++ [r]) :: (readGo (c.drop m) [] (p + m) (p + m)).1) ++ rest
            rw [flat, ofGo_snoc, List.append_assoc, ← h1, List.append_assoc, ← hs]
          · have h2 : (readGo (c.drop m) [] (p + m) (p + m)).2 + 0 = _ := h2
            show (readGo (c.drop m) [] (p + m) (p + m)).2 + _ = _ + (flat ((acc ++ [r]) :: (readGo (c.drop m) [] (p + m) (p + m)).1)).length
            rw [flat, ofGo_snoc, List.length_append, List.length_append]
            omega
          · intro z hz
            rcases List.mem_cons.1 hz with rfl | hz
            · exact hg
            · exact h3 z hz
      | false =>
        rw [readGo_more e]
        rcases ih (c.drop m) hd hBd (acc ++ [r]) hrec (p + m) u with h | ⟨rest, h1, h2, h3⟩
        · exact .inl h
        · refine .inr ⟨rest, ?_, ?_, h3⟩
          · rw [pre_append, pre_one, List.append_assoc, ← hs] at h1; exact h1
          · rw [pre_append, pre_one, List.length_append] at h2; omega

/-- What is read was packed. -/
theorem read_is {c : List Int} (hc : Bytes c) : ∃ rest, c = flat (readOf c).1 ++ rest ∧ (readOf c).2 = (flat (readOf c).1).length ∧ ∀ z ∈ (readOf c).1, Good z := by
  rcases read_shape _ c (Nat.le_refl _) hc [] (by simp) 0 0 with ⟨h1, h2⟩ | ⟨rest, h1, h2, h3⟩
  · refine ⟨c, ?_, ?_, ?_⟩
    · show c = flat (readGo c [] 0 0).1 ++ c
      rw [h1]; rfl
    · show (readGo c [] 0 0).2 = (flat (readGo c [] 0 0).1).length
      rw [h1, h2]; rfl
    · show ∀ z ∈ (readGo c [] 0 0).1, Good z
      rw [h1]; simp
  · exact ⟨rest, h1, by simp only [pre, List.length_nil, Nat.add_zero, Nat.zero_add] at h2; exact h2, h3⟩

/-- A torn batch is not read. -/
theorem read_torn {z : List (List Int)} {t : List (List (List Int))} {k : Nat} (hg : ∀ y ∈ z :: t, Good y) (hB : Bytes ((flat (z :: t)).take k)) (hk : k < (ofGo z).length) : readOf ((flat (z :: t)).take k) = ([], 0) := by
  obtain ⟨rest, h1, h2, h3⟩ := read_is hB
  cases e : (readOf ((flat (z :: t)).take k)).1 with
  | nil =>
    rw [e] at h2
    exact Prod.ext e h2
  | cons y X =>
    exfalso
    rw [e] at h1 h3
    have hf : flat (z :: t) = flat (y :: X) ++ (rest ++ (flat (z :: t)).drop k) := by
      rw [← List.append_assoc, ← h1, List.take_append_drop]
    have a := readOf_flat (z :: t) hg []
    have b := readOf_flat (y :: X) h3 (rest ++ (flat (z :: t)).drop k)
    rw [List.append_nil, hf, b] at a
    have hzy : y = z := by
      have := (Prod.mk.inj a).1
      rw [List.cons_append, List.cons_append] at this
      exact (List.cons.inj this).1
    have hl := congrArg List.length h1
    rw [List.length_take, List.length_append, flat, flat, List.length_append, List.length_append, hzy] at hl
    omega

/-- Of a beginning of what was packed those batches are read that end within it. -/
theorem read_cut {bs : List (List (List Int))} (hg : ∀ z ∈ bs, Good z) (hB : Bytes (flat bs)) (n k : Nat) (hn : n ≤ bs.length) (h1 : (flat (bs.take n)).length ≤ k) (h2 : n = bs.length ∨ k < (flat (bs.take (n + 1))).length) :
    readOf ((flat bs).take k) = (bs.take n, (flat (bs.take n)).length) := by
  have e : flat bs = flat (bs.take n) ++ flat (bs.drop n) := by rw [← flat_append, List.take_append_drop]
  have e2 : (flat bs).take k = flat (bs.take n) ++ (flat (bs.drop n)).take (k - (flat (bs.take n)).length) := by
    rw [e, List.take_append, List.take_of_length_le h1]
  have hgt : ∀ z ∈ bs.take n, Good z := fun z hz => hg z (List.mem_of_mem_take hz)
  have hgd : ∀ z ∈ bs.drop n, Good z := fun z hz => hg z (List.mem_of_mem_drop hz)
  have hr : readOf ((flat (bs.drop n)).take (k - (flat (bs.take n)).length)) = ([], 0) := by
    cases ed : bs.drop n with
    | nil => rw [flat, List.take_nil, read_nil]
    | cons z t =>
      rw [ed] at hgd e
      have hn' : n < bs.length := by
        have := congrArg List.length ed
        rw [List.length_drop, List.length_cons] at this; omega
      have hz : bs.take (n + 1) = bs.take n ++ [z] := by
        rw [List.take_succ_eq_append_getElem hn']
        rw [List.drop_eq_getElem_cons hn'] at ed
        rw [(List.cons.inj ed).1]
      have h3 := h2.resolve_left (by omega)
      rw [hz, flat_append, List.length_append] at h3
      refine read_torn hgd (fun x hx => hB x ?_) ?_
      · rw [e]; exact List.mem_append_right _ (List.mem_of_mem_take hx)
      · have : flat [z] = ofGo z := by simp [flat]
        rw [this] at h3; omega
  rw [e2, readOf_flat _ hgt, hr]; simp

end Go.Proofs.Ytmfkgbncnaingaa.Wal
