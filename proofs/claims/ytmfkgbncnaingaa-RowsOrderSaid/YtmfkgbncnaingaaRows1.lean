/- Rows of two cells: what a row holds, copies within it, and slices.Insert of one row. -/
import Derived.Test.YtmfkgbncnaingaaQRowsx0
import Derived.Shelf.Spec.SlicesInsert
import Derived.Lib.AppendZerosOnto
import Derived.Laws.NewBlocks
import Derived.Laws.CopyRow
import Derived.Laws.CopyOwn
namespace Go.Proofs.Ytmfkgbncnaingaa.Rows
open Go.RowKit Go.Lib Go.Proofs.Ytmfkgbncnaingaa.QRows Go.Proofs.YtmfkgbncnaingaaW.PrintWords Go.Proofs.YtmfkgbncnaingaaW.PrintLast Go.Proofs.YtmfkgbncnaingaaW.PrintMore

/-- The cells of rows. -/
def cs (x : S67) : List Value := [.string x.f0, .string x.f1]
def cells : List S67 → List Value
  | [] => []
  | x :: l => .string x.f0 :: .string x.f1 :: cells l
theorem cells_append (a b : List S67) : cells (a ++ b) = cells a ++ cells b := by
  induction a with
  | nil => rfl
  | cons x l ih => simp [cells, ih]
theorem cells_length (a : List S67) : (cells a).length = a.length * 2 := by
  induction a with
  | nil => rfl
  | cons x l ih => simp only [cells, List.length_cons, ih]; omega
theorem cells_one (a : List S67) : ∀ v ∈ cells a, v.oneCell' = true := by
  induction a with
  | nil => intro v hv; cases hv
  | cons x l ih =>
    intro v hv
    rcases List.mem_cons.1 hv with rfl | hv
    · rfl
    · rcases List.mem_cons.1 hv with rfl | hv
      · rfl
      · exact ih v hv
theorem cells_take (a : List S67) (i : Nat) : (cells a).take (i * 2) = cells (a.take i) := by
  induction i generalizing a with
  | zero => simp [cells]
  | succ i ih =>
    cases a with
    | nil => simp [cells]
    | cons x l => rw [show (i + 1) * 2 = i * 2 + 1 + 1 by omega, cells, List.take_succ_cons, List.take_succ_cons, ih, List.take_succ_cons, cells]
theorem cells_drop (a : List S67) (i : Nat) : (cells a).drop (i * 2) = cells (a.drop i) := by
  induction i generalizing a with
  | zero => simp
  | succ i ih =>
    cases a with
    | nil => simp [cells]
    | cons x l => rw [show (i + 1) * 2 = i * 2 + 1 + 1 by omega, cells, List.drop_succ_cons, List.drop_succ_cons, ih, List.drop_succ_cons]
theorem cells_get (a : List S67) (j : Nat) (p : S67) (h : a[j]? = some p) : ((cells a).drop (j * 2)).take 2 = cs p := by
  obtain ⟨hj, rfl⟩ := List.getElem?_eq_some_iff.1 h
  rw [cells_drop, List.drop_eq_getElem_cons hj]; rfl
theorem reps_cells {w : World} {base : Nat} {ok : Nat → Prop} (xs : List S67) : Reps (k67.M w base ok) k67.sz xs (cells xs) :=
  ⟨cells_length xs, fun j p hj => by
    have h := cells_get xs j p hj
    show k67.M w base ok p (((cells xs).drop (j * 2)).take 2)
    rw [h]; exact k67_mkM w base ok p⟩
theorem reps_is {w : World} {base : Nat} {ok : Nat → Prop} {xs : List S67} {l : List Value} (h : Reps (k67.M w base ok) k67.sz xs l) : l = cells xs := by
  induction xs generalizing l with
  | nil => exact List.eq_nil_of_length_eq_zero (by have := h.1; simpa using this)
  | cons x t ih =>
    have hl : l.length = (t.length + 1) * 2 := h.1
    have h0 := k67_openM (h.2 0 x rfl)
    rw [show (0 : Nat) * k67.sz = 0 by simp, List.drop_zero, show k67.sz = 2 from rfl] at h0
    have ht := ih (l := l.drop 2) ⟨by rw [List.length_drop, hl]; show (t.length + 1) * 2 - 2 = t.length * 2; omega, fun j p hj => by
      have := h.2 (j + 1) p hj
      rw [List.drop_drop, show 2 + j * k67.sz = (j + 1) * k67.sz by show 2 + j * 2 = (j + 1) * 2; omega]
      exact this⟩
    rw [cells, ← ht, ← List.take_append_drop 2 l, h0]; rfl
/-- What a row of rows is. -/
theorem row_open {w : World} {base : Nat} {ok : Nat → Prop} {v : Value} {xs : List S67} (h : k67.R 67 w base ok v xs) : (v = .slice none 0 0 ∧ xs = []) ∨
    ∃ g cap cur, v = .slice (some ⟨g, 0, none⟩) xs.length cap ∧ base ≤ g ∧ ok g ∧ w.heap[g]? = some (.cells cur 67 (0, 0)) ∧ xs.length ≤ cap ∧ cap ≤ maxLen ∧ cur.size = cap * 2 ∧ cur.toList.take (xs.length * 2) = cells xs := by
  obtain ⟨hok, inner, ⟨_, ho⟩, hr⟩ := h
  rcases ho with ⟨rfl, hn⟩ | ⟨g, cap, cur, rfl, hb, hh, h1, h2, h3, h4⟩
  · exact .inl ⟨rfl, List.eq_nil_of_length_eq_zero hn⟩
  · exact .inr ⟨g, cap, cur, rfl, hb, hok g rfl, hh, h1, h2, h3, h4.trans (reps_is hr)⟩
theorem row_close {w : World} {base g cap : Nat} {ok : Nat → Prop} {cur : Array Value} {xs : List S67} (hb : base ≤ g) (hok : ok g) (hh : w.heap[g]? = some (.cells cur 67 (0, 0))) (h1 : xs.length ≤ cap) (h2 : cap ≤ maxLen) (h3 : cur.size = cap * 2) (h4 : cur.toList.take (xs.length * 2) = cells xs) :
    k67.R 67 w base ok (.slice (some ⟨g, 0, none⟩) xs.length cap) xs :=
  ⟨fun k hk => by injection hk with hk; rw [← hk]; exact hok, cells xs, ⟨cells_length xs, .inr ⟨g, cap, cur, rfl, hb, hh, h1, h2, h3, h4⟩⟩, reps_cells xs⟩

/-- copy of elements of any size into a row. -/
theorem run_copy_wide {P : Program} (w : World) (dT sT ty elem : TypeId) (sz g o dLen dCap : Nat) (a : Addr) (sLen sCap : Nat) (cur : Array Value) (t : TypeId) (cs : List Value)
    (hu : P.underlying dT = some (.slice elem)) (hs : (P.info? elem).map (·.size) = some sz)
    (hg : w.heap[g]? = some (.cells cur t (0, 0))) (hn : cs.length = Nat.min sLen dLen * sz)
    (hsrc : ∀ j v, cs[j]? = some v → w.cell? (a.add j) = some v) (hfit : o + cs.length ≤ cur.size) (h1 : ∀ v ∈ cs, v.oneCell' = true) :
    (Builtin.copy_ #[dT, sT] ty #[.slice (some ⟨g, o, none⟩) dLen dCap, .slice (some a) sLen sCap]).run P w =
      .ok (goInt (Nat.min sLen dLen)) (w.setRow g (cur.toList.take o ++ cs ++ cur.toList.drop (o + cs.length)).toArray) := by
  have hl := run_loadCells_list (P := P) w a cs hsrc
  have hst := run_storeCells_at P g o t cs 0 cur w hg (by simpa using hfit) h1
  cases hq : P.info? elem with
  | none => simp [hq] at hs
  | some i =>
    have hi : i.size = sz := by simpa [hq] using hs
    rw [Nat.add_zero] at hst
    simp [Builtin.copy_, run_underlying hu, Builtin.lenOf, Builtin.firstCells, sizeOf, typeInfo, hq, hi, ← hn, hl, hst]

theorem size67 : (Try.prog.info? 67).map (·.size) = some 2 := by kernel_rfl
theorem sizeOf67 (w : World) : (sizeOf 67).run Try.prog w = .ok 2 w := by
  have h := size67
  cases hq : Try.prog.info? 67 with
  | none => simp [hq] at h
  | some i =>
    have hi : i.size = 2 := by simpa [hq] using h
    simp [sizeOf, typeInfo, hq, hi]
theorem f94_is : Try.prog.funcs[94]? = some Try.f94 := by kernel_rfl
theorem overlaps_run (w : World) (a b : Addr) (la ca lb cb : Nat) (ca1 cb1 : Array Value) (ta tb : TypeId) (hne : a.block ≠ b.block) (hA : w.heap[a.block]? = some (.cells ca1 ta (0, 0))) (hB : w.heap[b.block]? = some (.cells cb1 tb (0, 0))) (hk : cb1.size ≠ 0) :
    (callFunc 94 #[.slice (some a) la ca, .slice (some b) lb cb]).run Try.prog w = .ok (.value (.bool false)) w := by
  rw [run_callFunc_extern f94_is (by kernel_rfl) (by kernel_rfl) (by kernel_rfl) (e := Extern.SlicesOverlaps.overlaps #[58, 58] #[4]) (by kernel_rfl),
    Lib.run_overlaps_apart w 58 4 67 Try.underlying58 2 sizeOf67 a b la ca lb cb hne ta tb ca1.size cb1.size (by simp [World.shape?, hA]) (by simp [World.shape?, hB]) hk (by simp [World.frozen?, hA]) (by simp [World.frozen?, hA])]
  rfl

end Go.Proofs.Ytmfkgbncnaingaa.Rows
