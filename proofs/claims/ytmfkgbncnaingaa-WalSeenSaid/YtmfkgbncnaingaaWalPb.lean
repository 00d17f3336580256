/- What the batches' functions tell. -/
import Derived.Test.YtmfkgbncnaingaaQWalx1
import Derived.Test.YtmfkgbncnaingaaQWalx2
import Derived.Test.YtmfkgbncnaingaaQWalx3
import Derived.Test.YtmfkgbncnaingaaQWalx5
import Derived.Test.YtmfkgbncnaingaaQWalx7
import Derived.Test.YtmfkgbncnaingaaWal7
import Derived.Test.YtmfkgbncnaingaaWalPa
namespace Go.Proofs.Ytmfkgbncnaingaa.Wal
open Go.RowKit Go.Proofs.Ytmfkgbncnaingaa.QWal Go.Proofs.YtmfkgbncnaingaaW.PrintWords Go.Proofs.YtmfkgbncnaingaaW.PrintLast Go.Proofs.YtmfkgbncnaingaaW.PrintMore

theorem up {α : Type} (g : Nat → Option α) (hg : ∀ k, LeO (g k) (g (k + 1))) {k m : Nat} (h : k ≤ m) {r : α} (e : g k = some r) : g m = some r := by
  obtain ⟨d, rfl⟩ := Nat.le.dest h
  clear h
  induction d with
  | zero => exact e
  | succ d ih => exact hg _ _ ih
theorem w64 {n : Int} (h0 : -9223372036854775808 ≤ n) (h1 : n ≤ 9223372036854775807) : wrap64 n = n := by unfold wrap64; omega
theorem pick_fix {a n : Int} (h0 : 0 < n) (h1 : n ≤ 1000000) : (Int.tmod a n < 0 → wrap64 (Int.tmod a n + n) = a % n) ∧ (¬ Int.tmod a n < 0 → Int.tmod a n = a % n) := by
  have hr0 := Int.emod_nonneg a (show n ≠ 0 by omega)
  have hr1 := Int.emod_lt_of_pos a h0
  have ht := Int.tmod_eq_emod (a := a) (b := n)
  by_cases hc : 0 ≤ a ∨ n ∣ a
  · rw [if_pos hc] at ht
    exact ⟨fun h => by omega, fun _ => by omega⟩
  · rw [if_neg hc] at ht
    exact ⟨fun h => by unfold wrap64; omega, fun h => by omega⟩
theorem picked (a n : Int) (h0 : 0 < n) (h1 : n ≤ 1000000) : bagnallkeep_Picked.f a n = some (a % n) := by
  have hf := pick_fix (a := a) h0 h1
  unfold bagnallkeep_Picked.f
  rw [if_neg (by omega)]
  by_cases h : Int.tmod a n < 0
  · rw [if_pos h, hf.1 h]
  · rw [if_neg h, hf.2 h]
theorem cut_tells (l : List Int) (hl : l.length ≤ 140737488351232) : bagnallkeep_cutBytes.f l = some (l.take 200) := by
  unfold bagnallkeep_cutBytes.f
  have hm : mn (l.length : Int) 200 = ((min l.length 200 : Nat) : Int) := by unfold mn; split <;> omega
  rw [hm, if_pos (by omega), if_pos (by omega), if_pos (by simp; omega)]
  simp only [Int.toNat_natCast, List.nil_append]
  congr 1
  by_cases h : l.length ≤ 200
  · rw [Nat.min_eq_left h, List.take_of_length_le h, List.take_of_length_le (Nat.le_refl _)]
  · rw [Nat.min_eq_right (by omega)]
theorem bytes_wf {l : List Int} (h : ∀ x ∈ l, (Lit.int .u8 x).wf = true) : Bytes l := fun x hx => by
  have h1 := h x hx
  simp [Lit.wf, IntKind.min, IntKind.max, IntKind.bits, IntKind.signed] at h1
  omega
theorem Bytes.take {l : List Int} (h : Bytes l) (n : Nat) : Bytes (l.take n) := fun x hx => h x (List.mem_of_mem_take hx)
theorem Bytes.append {x y : List Int} (h : Bytes x) (k : Bytes y) : Bytes (x ++ y) := fun z hz => by
  rcases List.mem_append.1 hz with hz | hz
  · exact h z hz
  · exact k z hz

/-- A record and a batch of the kind that raw numbers make. -/
def Six (x : List Int) : Prop := (1 ≤ x.length ∧ x.length ≤ 6) ∧ Bytes x
def Nice (z : List (List Int)) : Prop := (1 ≤ z.length ∧ z.length ≤ 3) ∧ ∀ x ∈ z, Six x
theorem Six.rec {x : List Int} (h : Six x) : Rec x := ⟨h.1.1, by have := h.1.2; omega⟩
theorem Nice.good {z : List (List Int)} (h : Nice z) : Good z := ⟨by intro e; have := h.1.1; rw [e] at this; simp at this, fun x hx => (h.2 x hx).rec⟩
theorem rd_L2_get (l : List (List (List Int))) (i : Nat) (h : i < l.length) : rd_L2 l (i : Int) = l[i] := by simp [rd_L2, List.getD_eq_getElem?_getD, h]
theorem rd_L1_get (l : List (List Int)) (i : Nat) (h : i < l.length) : rd_L1 l (i : Int) = l[i] := by simp [rd_L1, List.getD_eq_getElem?_getD, h]

theorem b_l2 (x0 : List Int) (x1 : Int) (x5 : List (List (List Int))) (x6 : Int) (x7 : List (List Int)) (x8 : Nat) (h60 : 0 ≤ x6) (h61 : x6 < (x0.length : Int)) (h8 : x8 ≤ 2) (h7 : x7.length ≤ 2) (P : List (List (List Int)) → Prop)
    (hc : ∀ y, Six y → ∃ r, P r ∧ ∃ k, bagnallkeep_Batches.l1 k x0 x1 x5 x6 (x7 ++ [y]) ((x8 + 1 : Nat) : Int) = some r) :
    ∀ (d i : Nat) (x9 : List Int), i + d = (wrap64 (Int.tdiv (rd x0 x6) (wrap64 (7 + (x8 : Int)))) % 6).toNat → x9.length = i + 1 → Bytes x9 → ∃ r, P r ∧ ∃ k, bagnallkeep_Batches.l2 k x0 x1 x5 x6 x7 (x8 : Int) x9 (i : Int) = some r := by
  have e7 : wrap64 (7 + (x8 : Int)) = 7 + (x8 : Int) := w64 (by omega) (by omega)
  have m0 := Int.emod_nonneg (wrap64 (Int.tdiv (rd x0 x6) (wrap64 (7 + (x8 : Int))))) (show (6 : Int) ≠ 0 by decide)
  have m1 := Int.emod_lt_of_pos (wrap64 (Int.tdiv (rd x0 x6) (wrap64 (7 + (x8 : Int))))) (show (0 : Int) < 6 by decide)
  intro d
  induction d with
  | zero =>
    intro i x9 hi hl hB
    obtain ⟨r, hP, k, hk⟩ := hc x9 ⟨⟨by omega, by omega⟩, hB⟩
    refine ⟨r, hP, k + 1, ?_⟩
    rw [bagnallkeep_Batches.l2, if_pos h60, if_pos h61, if_neg (by omega), picked _ 6 (by omega) (by omega), Option.bind_some, if_neg (by omega), if_pos (by omega), show wrap64 ((x8 : Int) + 1) = ((x8 + 1 : Nat) : Int) by rw [w64 (by omega) (by omega)]; omega]
    exact hk
  | succ d ih =>
    intro i x9 hi hl hB
    obtain ⟨r, hP, k, hk⟩ := ih (i + 1) (x9 ++ [wrap64 ((wrap64 (Int.tdiv (rd x0 x6) 5) % 250) + (i : Int)) % 256]) (by omega) (by rw [List.length_append, hl]; rfl)
      (hB.append fun x hx => by rw [List.mem_singleton.1 hx]; exact ⟨Int.emod_nonneg _ (by decide), Int.emod_lt_of_pos _ (by decide)⟩)
    refine ⟨r, hP, k + 1, ?_⟩
    rw [bagnallkeep_Batches.l2, if_pos h60, if_pos h61, if_neg (by omega), picked _ 6 (by omega) (by omega), Option.bind_some, if_pos (by omega), picked _ 250 (by omega) (by omega), Option.bind_some, if_pos (by omega), show wrap64 ((i : Int) + 1) = ((i + 1 : Nat) : Int) by rw [w64 (by omega) (by omega)]; omega]
    exact hk

theorem b_l1 (x0 : List Int) (x1 : Int) (x5 : List (List (List Int))) (x6 : Nat) (h61 : x6 < x0.length) (h62 : x6 < 1000) (h5 : x5.length ≤ 1000) (P : List (List (List Int)) → Prop)
    (hc : ∀ z, Nice z → ∃ r, P r ∧ ∃ k, bagnallkeep_Batches.l0 k x0 x1 (x5 ++ [z]) ((x6 + 1 : Nat) : Int) = some r) :
    ∀ (d i : Nat) (x7 : List (List Int)), i + d = (rd x0 (x6 : Int) % 3).toNat + 1 → x7.length = i → (∀ x ∈ x7, Six x) → ∃ r, P r ∧ ∃ k, bagnallkeep_Batches.l1 k x0 x1 x5 (x6 : Int) x7 (i : Int) = some r := by
  have m0 := Int.emod_nonneg (rd x0 (x6 : Int)) (show (3 : Int) ≠ 0 by decide)
  have m1 := Int.emod_lt_of_pos (rd x0 (x6 : Int)) (show (0 : Int) < 3 by decide)
  intro d
  induction d with
  | zero =>
    intro i x7 hi hl hs
    obtain ⟨r, hP, k, hk⟩ := hc x7 ⟨⟨by omega, by omega⟩, hs⟩
    refine ⟨r, hP, k + 1, ?_⟩
    rw [bagnallkeep_Batches.l1, if_pos (by omega), if_pos (by omega), picked _ 3 (by omega) (by omega), Option.bind_some, if_neg (by omega), if_pos (by omega), show wrap64 ((x6 : Int) + 1) = ((x6 + 1 : Nat) : Int) by rw [w64 (by omega) (by omega)]; omega]
    exact hk
  | succ d ih =>
    intro i x7 hi hl hs
    obtain ⟨r, hP, k, hk⟩ := b_l2 x0 x1 x5 (x6 : Int) x7 i (by omega) (by omega) (by omega) (by omega) P
      (fun y hy => ih (i + 1) (x7 ++ [y]) (by omega) (by rw [List.length_append, hl]; rfl) (fun x hx => by
        rcases List.mem_append.1 hx with hx | hx
        · exact hs x hx
        · rw [List.mem_singleton.1 hx]; exact hy))
      (wrap64 (Int.tdiv (rd x0 (x6 : Int)) (wrap64 (7 + (i : Int)))) % 6).toNat 0 [(wrap64 (Int.tdiv (rd x0 (x6 : Int)) 3) % 256) % 256] (by omega) rfl
      (fun x hx => by rw [List.mem_singleton.1 hx]; exact ⟨Int.emod_nonneg _ (by decide), Int.emod_lt_of_pos _ (by decide)⟩)
    refine ⟨r, hP, k + 1, ?_⟩
    rw [bagnallkeep_Batches.l1, if_pos (by omega), if_pos (by omega), picked _ 3 (by omega) (by omega), Option.bind_some, if_pos (by omega), picked _ 256 (by omega) (by omega), Option.bind_some]
    exact hk

theorem b_l0 (x0 : List Int) (n : Nat) (hn : n ≤ 100) : ∀ (d i : Nat) (x5 : List (List (List Int))), i + d = min n x0.length → x5.length = i → (∀ z ∈ x5, Nice z) → ∃ r : List (List (List Int)), (r.length ≤ n ∧ ∀ z ∈ r, Nice z) ∧ ∃ k, bagnallkeep_Batches.l0 k x0 (n : Int) x5 (i : Int) = some r := by
  intro d
  induction d with
  | zero =>
    intro i x5 hi hl hs
    refine ⟨x5, ⟨by omega, hs⟩, 2, ?_⟩
    rw [bagnallkeep_Batches.l0]
    by_cases h : (i : Int) < (x0.length : Int)
    · rw [if_pos h, bagnallkeep_Batches.j1, if_neg (by rw [decide_eq_true_eq]; omega)]
    · rw [if_neg h, bagnallkeep_Batches.j1, if_neg (by decide)]
  | succ d ih =>
    intro i x5 hi hl hs
    obtain ⟨r, hP, k, hk⟩ := b_l1 x0 (n : Int) x5 i (by omega) (by omega) (by omega) (fun r => r.length ≤ n ∧ ∀ z ∈ r, Nice z)
      (fun z hz => ih (i + 1) (x5 ++ [z]) (by omega) (by rw [List.length_append, hl]; rfl) (fun x hx => by
        rcases List.mem_append.1 hx with hx | hx
        · exact hs x hx
        · rw [List.mem_singleton.1 hx]; exact hz))
      ((rd x0 (i : Int) % 3).toNat + 1) 0 [] (by omega) rfl (by simp)
    refine ⟨r, hP, k + 2, ?_⟩
    rw [bagnallkeep_Batches.l0, if_pos (by omega), bagnallkeep_Batches.j1, if_pos (decide_eq_true (by omega))]
    exact hk

/-- Raw numbers make batches. -/
theorem batches (l : List Int) (n : Nat) (hn : n ≤ 100) : ∃ r : List (List (List Int)), (r.length ≤ n ∧ ∀ z ∈ r, Nice z) ∧ ∃ k, ∀ m, k ≤ m → bagnallkeep_Batches.f m l (n : Int) = some r := by
  obtain ⟨r, hP, k, hk⟩ := b_l0 l n hn (min n l.length) 0 [] (by omega) rfl (by simp)
  exact ⟨r, hP, k, fun m hm => up (fun k => bagnallkeep_Batches.f k l (n : Int)) (fun k => bagnallkeep_Batches.mono l n k) hm hk⟩

theorem Nice.ofGo {z : List (List Int)} (h : Nice z) : 5 ≤ (ofGo z).length ∧ (ofGo z).length ≤ 30 ∧ Bytes (ofGo z) := by
  have hlen : ∀ z : List (List Int), (∀ x ∈ z, Six x) → 5 * z.length ≤ (Wal.ofGo z).length ∧ (Wal.ofGo z).length ≤ 10 * z.length ∧ Bytes (Wal.ofGo z) := by
    intro z
    induction z with
    | nil => exact fun _ => ⟨by simp, by simp [Wal.ofGo], fun x hx => by cases hx⟩
    | cons x l ih =>
      intro h
      obtain ⟨h1, h2, h3⟩ := ih fun y hy => h y (List.mem_cons_of_mem _ hy)
      obtain ⟨⟨ha, hb⟩, hB⟩ := h x List.mem_cons_self
      have hf := frameOf_length x l.isEmpty
      refine ⟨?_, ?_, ?_⟩
      · rw [Wal.ofGo, List.length_append, List.length_cons]; omega
      · rw [Wal.ofGo, List.length_append, List.length_cons]; omega
      · rw [Wal.ofGo]
        refine Bytes.append ?_ h3
        have hs := sumsGo_range (headOf x l.isEmpty) 0 0 (by decide) (by decide)
        unfold frameOf
        refine Bytes.append ?_ ?_
        · unfold headOf
          refine Bytes.append ?_ hB
          intro y hy
          rcases List.mem_cons.1 hy with rfl | hy
          · omega
          · rw [List.mem_singleton.1 hy]; split <;> omega
        · intro y hy
          rcases List.mem_cons.1 hy with rfl | hy
          · show 0 ≤ (sumsGo _ 0 0).1 ∧ (sumsGo _ 0 0).1 < 256
            omega
          · rw [List.mem_singleton.1 hy]
            show 0 ≤ (sumsGo _ 0 0).2 ∧ (sumsGo _ 0 0).2 < 256
            omega
  have h1 := hlen z h.2
  have h2 := h.1
  exact ⟨by omega, by omega, h1.2.2⟩
theorem pack_tells {z : List (List Int)} (h : Nice z) : wal_Pack.f z = some (ofGo z, 0) := by
  unfold wal_Pack.f
  have h1 := h.1
  have hm : mayAll z = true := by
    unfold mayAll may
    rw [List.all_eq_true]
    exact fun x hx => decide_eq_true (by have := (h.2 x hx).1; omega)
  have hf : fitIn z = true := (fitIn_iff z).2 fun x hx => ⟨by have := (h.2 x hx).1; omega, (h.2 x hx).2⟩
  rw [if_neg (by rw [hm]; rintro (h | h | h); omega; omega; cases h), if_pos hf]
theorem flat_len (l : List (List (List Int))) (h : ∀ z ∈ l, Nice z) : (flat l).length ≤ 30 * l.length ∧ Bytes (flat l) := by
  induction l with
  | nil => exact ⟨by simp [flat], fun x hx => by cases hx⟩
  | cons z l ih =>
    obtain ⟨h1, h2⟩ := ih fun y hy => h y (List.mem_cons_of_mem _ hy)
    obtain ⟨_, h3, h4⟩ := (h z List.mem_cons_self).ofGo
    rw [flat]
    exact ⟨by rw [List.length_append, List.length_cons]; omega, h4.append h2⟩
/-- Where the batches end. -/
def ends (l : List (List (List Int))) (n : Nat) : List Int := (List.range (n + 1)).map fun i => ((flat (l.take i)).length : Int)
theorem ends_length (l : List (List (List Int))) (n : Nat) : (ends l n).length = n + 1 := by simp [ends]
theorem ends_get (l : List (List (List Int))) (n i : Nat) (h : i ≤ n) : rd (ends l n) (i : Int) = ((flat (l.take i)).length : Int) := by
  rw [rd_get _ _ (by rw [ends_length]; omega)]; simp [ends]
theorem packed_l0 (l : List (List (List Int))) (h : ∀ z ∈ l, Nice z) (hl : l.length ≤ 1000) : ∀ (d i : Nat), i + d = l.length → bagnallkeep_packed.l0 (d + 1) l (flat (l.take i)) (ends l i) (i : Int) = some (flat l, ends l l.length, true) := by
  intro d
  induction d with
  | zero =>
    intro i hi
    rw [bagnallkeep_packed.l0, if_neg (by omega), List.take_of_length_le (by omega), show i = l.length by omega]
  | succ d ih =>
    intro i hi
    have hi' : i < l.length := by omega
    have hz := h _ (List.getElem_mem hi')
    obtain ⟨h5, h6, h7⟩ := hz.ofGo
    have hf := (flat_len (l.take i) fun z hz => h z (List.mem_of_mem_take hz)).1
    rw [List.length_take] at hf
    have e : flat (l.take i) ++ ofGo l[i] = flat (l.take (i + 1)) := by
      rw [List.take_succ_eq_append_getElem hi', flat_append]; simp [flat]
    have e2 : ends l i ++ [((flat (l.take (i + 1))).length : Int)] = ends l (i + 1) := by
      unfold ends; rw [List.range_succ (n := i + 1), List.map_append]; rfl
    rw [bagnallkeep_packed.l0, if_pos (by omega), if_pos (by omega), rd_L2_get l i hi', pack_tells hz, Option.bind_some, if_pos rfl, if_neg (by show ¬ ((ofGo l[i]).length : Int) < 5; omega), if_pos (by show _ + (ofGo l[i]).length < _; omega), Option.bind_some, if_pos (by rw [ends_length]; omega), e, e2, show wrap64 ((i : Int) + 1) = ((i + 1 : Nat) : Int) by rw [w64 (by omega) (by omega)]; omega]
    exact ih (i + 1) (by omega)
theorem packed_tells (l : List (List (List Int))) (h : ∀ z ∈ l, Nice z) (hl : l.length ≤ 1000) (m : Nat) (hm : l.length < m) : bagnallkeep_packed.f m l = some (flat l, ends l l.length, true) :=
  up (fun k => bagnallkeep_packed.f k l) (fun k => bagnallkeep_packed.mono l k) (show l.length + 1 ≤ m by omega) (packed_l0 l h hl l.length 0 (by omega))

theorem same_loop (x y : List Int) (he : x.length = y.length) (hx : x.length ≤ 10000) : ∀ (d i k : Nat), i + d = x.length → d < k → bagnallkeep_sameBytes.l0 k x y i = some (decide (x.drop i = y.drop i)) := by
  intro d
  induction d with
  | zero =>
    intro i k hd hk
    obtain ⟨k, rfl⟩ : ∃ m, k = m + 1 := ⟨k - 1, by omega⟩
    rw [bagnallkeep_sameBytes.l0, if_neg (by omega), List.drop_of_length_le (by omega), List.drop_of_length_le (by omega)]
    rfl
  | succ d ih =>
    intro i k hd hk
    obtain ⟨k, rfl⟩ : ∃ m, k = m + 1 := ⟨k - 1, by omega⟩
    have h1 : i < x.length := by omega
    have h2 : i < y.length := by omega
    have r1 : rd x (i : Int) = x[i] := by simp [rd, List.getD_eq_getElem?_getD, h1]
    have r2 : rd y (i : Int) = y[i] := by simp [rd, List.getD_eq_getElem?_getD, h2]
    rw [bagnallkeep_sameBytes.l0, if_pos (by omega), if_pos (by omega), if_pos (by omega), r1, r2]
    have hd : x.drop i = y.drop i ↔ x[i] = y[i] ∧ x.drop (i + 1) = y.drop (i + 1) := by
      rw [List.drop_eq_getElem_cons h1, List.drop_eq_getElem_cons h2, List.cons.injEq]
    by_cases h : x[i] = y[i]
    · rw [if_pos h, show wrap64 ((i : Int) + 1) = ((i + 1 : Nat) : Int) by unfold wrap64; omega, ih (i + 1) k (by omega) (by omega)]
      congr 1
      exact decide_eq_decide.2 ⟨fun e => hd.2 ⟨h, e⟩, fun e => (hd.1 e).2⟩
    · rw [if_neg h, decide_eq_false (fun e => h (hd.1 e).1)]
theorem same_tells (x y : List Int) (hx : x.length ≤ 10000) (k : Nat) (hk : x.length < k) : bagnallkeep_sameBytes.f k x y = some (decide (x = y)) := by
  unfold bagnallkeep_sameBytes.f
  by_cases he : x.length = y.length
  · rw [if_pos (by omega)]
    have h := same_loop x y he hx x.length 0 k (by omega) hk
    simpa using h
  · rw [if_neg (by omega), decide_eq_false (fun e => he (by rw [e]))]

/-- Few batches of few short records. -/
def Small (a : List (List (List Int))) : Prop := a.length ≤ 10000 ∧ ∀ z ∈ a, z.length ≤ 10000 ∧ ∀ x ∈ z, x.length ≤ 10000
theorem sb_l1 (a b : List (List (List Int))) (hs : Small a) (i : Nat) (h1 : i < a.length) (h2 : i < b.length) (he : a[i].length = b[i].length) (hc : ∃ k, bagnallkeep_sameBatches.l0 k a b ((i + 1 : Nat) : Int) = some (decide (a.drop (i + 1) = b.drop (i + 1)))) :
    ∀ (d j : Nat), j + d = a[i].length → ∃ k, bagnallkeep_sameBatches.l1 k a b (i : Int) (j : Int) = some (decide (a[i].drop j = b[i].drop j ∧ a.drop (i + 1) = b.drop (i + 1))) := by
  obtain ⟨hs1, hs2⟩ := hs
  obtain ⟨hz1, hz2⟩ := hs2 _ (List.getElem_mem h1)
  intro d
  induction d with
  | zero =>
    intro j hj
    obtain ⟨k, hk⟩ := hc
    refine ⟨k + 1, ?_⟩
    rw [bagnallkeep_sameBatches.l1, if_pos (by omega), if_pos (by omega), rd_L2_get a i h1, if_neg (by omega), show wrap64 ((i : Int) + 1) = ((i + 1 : Nat) : Int) by rw [w64 (by omega) (by omega)]; omega, hk, show a[i].drop j = [] from List.drop_of_length_le (by omega), show b[i].drop j = [] from List.drop_of_length_le (by omega)]
    congr 1
    exact decide_eq_decide.2 ⟨fun h => ⟨rfl, h⟩, fun h => h.2⟩
  | succ d ih =>
    intro j hj
    obtain ⟨k, hk⟩ := ih (j + 1) (by omega)
    have g1 : j < a[i].length := by omega
    have g2 : j < b[i].length := by omega
    have hx := hz2 _ (List.getElem_mem g1)
    refine ⟨max k (a[i][j].length + 1) + 1, ?_⟩
    have hk' := up (fun k => bagnallkeep_sameBatches.l1 k a b (i : Int) ((j + 1 : Nat) : Int)) (fun k => (bagnallkeep_sameBatches.mono_l k).2 a b i ((j + 1 : Nat) : Int)) (Nat.le_max_left k (a[i][j].length + 1)) hk
    have hdd : (a[i].drop j = b[i].drop j ∧ a.drop (i + 1) = b.drop (i + 1)) ↔ a[i][j] = b[i][j] ∧ (a[i].drop (j + 1) = b[i].drop (j + 1) ∧ a.drop (i + 1) = b.drop (i + 1)) := by
      rw [List.drop_eq_getElem_cons g1, List.drop_eq_getElem_cons g2, List.cons.injEq, and_assoc]
    rw [bagnallkeep_sameBatches.l1, if_pos (by omega), if_pos (by omega), rd_L2_get a i h1, rd_L2_get b i h2, if_pos (by omega), if_pos (by omega), if_pos (by omega), if_pos (by omega), rd_L1_get _ _ g1, rd_L1_get _ _ g2, same_tells _ _ hx _ (by omega), Option.bind_some]
    by_cases h : a[i][j] = b[i][j]
    · rw [if_pos (decide_eq_true h), show wrap64 ((j : Int) + 1) = ((j + 1 : Nat) : Int) by rw [w64 (by omega) (by omega)]; omega]
      refine hk'.trans ?_
      congr 1
      exact decide_eq_decide.2 ⟨fun e => hdd.2 ⟨h, e⟩, fun e => (hdd.1 e).2⟩
    · rw [if_neg (by rw [decide_eq_true_eq]; exact h), decide_eq_false (fun e => h (hdd.1 e).1)]
theorem sb_l0 (a b : List (List (List Int))) (hs : Small a) (he : a.length = b.length) : ∀ (d i : Nat), i + d = a.length → ∃ k, bagnallkeep_sameBatches.l0 k a b (i : Int) = some (decide (a.drop i = b.drop i)) := by
  intro d
  induction d with
  | zero =>
    intro i hi
    refine ⟨1, ?_⟩
    rw [bagnallkeep_sameBatches.l0, if_neg (by omega), List.drop_of_length_le (by omega), List.drop_of_length_le (by omega)]
    rfl
  | succ d ih =>
    intro i hi
    have h1 : i < a.length := by omega
    have h2 : i < b.length := by omega
    have hd : a.drop i = b.drop i ↔ a[i] = b[i] ∧ a.drop (i + 1) = b.drop (i + 1) := by
      rw [List.drop_eq_getElem_cons h1, List.drop_eq_getElem_cons h2, List.cons.injEq]
    by_cases h : a[i].length = b[i].length
    · obtain ⟨k, hk⟩ := sb_l1 a b hs i h1 h2 h (ih (i + 1) (by omega)) a[i].length 0 (by omega)
      refine ⟨k + 1, ?_⟩
      rw [bagnallkeep_sameBatches.l0, if_pos (by omega), if_pos (by omega), if_pos (by omega), rd_L2_get a i h1, rd_L2_get b i h2, if_pos (by omega)]
      refine hk.trans ?_
      congr 1
      exact decide_eq_decide.2 hd.symm
    · refine ⟨1, ?_⟩
      rw [bagnallkeep_sameBatches.l0, if_pos (by omega), if_pos (by omega), if_pos (by omega), rd_L2_get a i h1, rd_L2_get b i h2, if_neg (by omega), decide_eq_false (fun e => h (by rw [(hd.1 e).1]))]
theorem batches_same (a b : List (List (List Int))) (hs : Small a) : ∃ k, ∀ m, k ≤ m → bagnallkeep_sameBatches.f m a b = some (decide (a = b)) := by
  by_cases he : a.length = b.length
  · obtain ⟨k, hk⟩ := sb_l0 a b hs he a.length 0 (by omega)
    refine ⟨k, fun m hm => ?_⟩
    unfold bagnallkeep_sameBatches.f
    rw [if_pos (by omega)]
    exact up (fun k => bagnallkeep_sameBatches.l0 k a b 0) (fun k => (bagnallkeep_sameBatches.mono_l k).1 a b 0) hm hk
  · refine ⟨0, fun m _ => ?_⟩
    unfold bagnallkeep_sameBatches.f
    rw [if_neg (by omega), decide_eq_false (fun e => he (by rw [e]))]
theorem small_good (a : List (List (List Int))) (h : ∀ z ∈ a, Good z) (hl : (flat a).length ≤ 10000) : Small a := by
  have ho : ∀ z : List (List Int), z.length ≤ (ofGo z).length := by
    intro z
    induction z with
    | nil => simp
    | cons x l ih => rw [ofGo, List.length_append, frameOf_length, List.length_cons]; omega
  have h1 : ∀ a : List (List (List Int)), (∀ z ∈ a, Good z) → a.length ≤ (flat a).length ∧ ∀ z ∈ a, z.length ≤ (flat a).length := by
    intro a
    induction a with
    | nil => exact fun _ => ⟨by simp, by simp⟩
    | cons z l ih =>
      intro h
      obtain ⟨i1, i2⟩ := ih fun y hy => h y (List.mem_cons_of_mem _ hy)
      have hz := ho z
      have hz0 : 1 ≤ z.length := by
        cases z with
        | nil => exact absurd rfl (h _ List.mem_cons_self).1
        | cons x l => simp
      rw [flat, List.length_append, List.length_cons]
      refine ⟨by omega, fun y hy => ?_⟩
      rcases List.mem_cons.1 hy with rfl | hy
      · omega
      · have := i2 y hy; omega
  obtain ⟨i1, i2⟩ := h1 a h
  exact ⟨by omega, fun z hz => ⟨by have := i2 z hz; omega, fun x hx => by have := ((h z hz).2 x hx).2; omega⟩⟩
theorem small_read {c : List Int} (hc : Bytes c) (hl : c.length ≤ 10000) : Small (readOf c).1 := by
  obtain ⟨rest, h1, _, h3⟩ := read_is hc
  refine small_good _ h3 ?_
  have := congrArg List.length h1
  rw [List.length_append] at this; omega
theorem scan_tells {c : List Int} (hc : Bytes c) (hl : c.length ≤ 1200) : wal_Scan.f c = some ((readOf c).1, ((readOf c).2 : Int), 0) := by
  unfold wal_Scan.f
  rw [if_neg (by omega), if_pos ((bytesIn_iff c).2 hc)]
theorem one_tells : wal_Pack.f [[0]] = some (ofGo [[0]], 0) := pack_tells ⟨by decide, fun x hx => by rw [List.mem_singleton.1 hx]; exact ⟨by decide, fun y hy => by rw [List.mem_singleton.1 hy]; decide⟩⟩
theorem one_five : ((ofGo [[0]]).length : Int) = 5 := by decide

end Go.Proofs.Ytmfkgbncnaingaa.Wal
