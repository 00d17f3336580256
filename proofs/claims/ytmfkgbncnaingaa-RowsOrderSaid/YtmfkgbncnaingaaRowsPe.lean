/- Tables of good changes: what Set, rowsOf and sameRows come to, and what the laws' changes are. -/
import Derived.Test.YtmfkgbncnaingaaRowsPd
import Derived.Test.YtmfkgbncnaingaaRows9
import Derived.Test.YtmfkgbncnaingaaQRowsx5
import Derived.Test.YtmfkgbncnaingaaQRowsx10
namespace Go.Proofs.Ytmfkgbncnaingaa.Rows
open Go.RowKit Go.Lib Go.Proofs.Ytmfkgbncnaingaa.QRows Go.Proofs.YtmfkgbncnaingaaW.PrintWords Go.Proofs.YtmfkgbncnaingaaW.PrintLast Go.Proofs.YtmfkgbncnaingaaW.PrintMore

/-- A change that may be. -/
def Small (c : S67) : Prop := keyOk c.f0 = true ∧ c.f1.size ≤ 20
/-- A table that may be. -/
structure Good (T : List S67) : Prop where
  sorted : Sorted T
  fine : ∀ x ∈ T, Fine x
  room : T.length ≤ 40
theorem Good.nil : Good [] := ⟨List.Pairwise.nil, fun _ h => (by cases h), by simp⟩
theorem not_odd {cs : List S67} (h : ∀ c ∈ cs, Small c) : cs.any odd = false := by
  rw [List.any_eq_false]
  intro c hc
  obtain ⟨h1, h2⟩ := h c hc
  unfold odd
  rw [h1, decide_eq_false (by omega)]; simp
theorem lastOf_key {cs : List S67} {k : List UInt8} {c : S67} (h : lastOf cs k = some c) : c ∈ cs ∧ c.f0.toList = k := by
  revert h
  refine snoc_cases (P := fun cs => lastOf cs k = some c → c ∈ cs ∧ c.f0.toList = k) ?_ ?_ cs
  · intro h; cases h
  · intro l d ih h
    rw [lastOf_snoc] at h
    split at h
    · rename_i hd
      obtain rfl := Option.some.inj h
      exact ⟨by simp, hd⟩
    · exact ⟨List.mem_append_left _ (ih h).1, (ih h).2⟩
theorem changed_fine {T cs : List S67} (hT : Sorted T) (hf : ∀ x ∈ T, Fine x) (hc : ∀ c ∈ cs, Small c) : ∀ x ∈ changed T cs, Fine x := by
  intro x hx
  rw [changed_mem T hT] at hx
  unfold Stands at hx
  cases hl : lastOf cs x.f0.toList with
  | none => rw [hl] at hx; exact hf x hx
  | some c =>
    rw [hl] at hx
    obtain ⟨rfl, hne⟩ := hx
    obtain ⟨h1, h2⟩ := hc x (lastOf_key hl).1
    exact ⟨h1, h2, hne⟩
theorem Good.changed {T cs : List S67} (h : Good T) (hc : ∀ c ∈ cs, Small c) (hl : (changed T cs).length ≤ 40) : Good (changed T cs) :=
  ⟨changed_sorted _ _ h.sorted, changed_fine h.sorted h.fine hc, hl⟩
theorem check_ok' {T : List S67} (h : Good T) {m : Nat} (hm : 81 ≤ m) : rows_Check.f m T = some 0 :=
  at_rounds (g := fun k => rows_Check.f k T) (fun k => rows_Check.mono T k) (show 2 * T.length + 1 ≤ m by have := h.room; omega) (check_ok T h.sorted h.fine h.room)
theorem set_ok {T cs : List S67} (h : Good T) (hc : ∀ c ∈ cs, Small c) (hn : cs.length ≤ 60) (hl : (changed T cs).length ≤ 40) {m : Nat} (hm : 81 ≤ m) : rows_Set.f m T cs = some (changed T cs, 0) := by
  unfold rows_Set.f
  have hr := h.room
  rw [check_ok' h hm, Option.bind_some, if_pos rfl]
  unfold rows_Fault.f
  rw [if_pos (by omega), Option.bind_some]
  have hf : faultOf T cs = 0 := by
    unfold faultOf
    rw [if_neg (by omega), if_neg (by rw [not_odd hc]; simp), if_neg (by omega)]
  rw [hf, if_pos rfl]
  unfold rows_Changed.f
  rw [if_pos (by omega), Option.bind_some]
theorem copied_is (l : List S67) (h : l.length < 4398046511104) : bagnallkeep_copiedRows.f l = some l := by
  unfold bagnallkeep_copiedRows.f
  rw [if_pos (by simpa using h)]; rfl
theorem rowsOf_ok {cs : List S67} (hc : ∀ c ∈ cs, Small c) (hn : cs.length ≤ 60) (hl : (changed [] cs).length ≤ 40) {m : Nat} (hm : 81 ≤ m) : bagnallkeep_rowsOf.f m cs = some (changed [] cs, true) := by
  unfold bagnallkeep_rowsOf.f
  have h1 : changed [] [(⟨(⟨#[107]⟩ : ByteArray), (⟨#[118]⟩ : ByteArray)⟩ : S67)] = [(⟨(⟨#[107]⟩ : ByteArray), (⟨#[118]⟩ : ByteArray)⟩ : S67)] := by
    show change [] _ = _
    have h0 : found ([] : List S67) (⟨#[107]⟩ : ByteArray) = (0, false) := by
      unfold found; rw [bs]; rfl
    unfold change
    rw [h0, if_neg (by simp), if_neg (by decide +kernel)]; rfl
  rw [copied_is cs (by omega), Option.bind_some, set_ok Good.nil hc hn hl hm, Option.bind_some, set_ok (m := m) Good.nil (fun c hc => by rw [List.mem_singleton.1 hc]; exact ⟨by decide +kernel, by decide⟩) (by simp) (by rw [h1]; simp) hm, Option.bind_some, h1]
  dsimp only
  rw [if_pos rfl, if_pos rfl, if_pos (by decide), if_pos (by decide), show ((rd_T67 [(⟨(⟨#[107]⟩ : ByteArray), (⟨#[118]⟩ : ByteArray)⟩ : S67)] 0).f1.toList == ([118] : List UInt8)) = true by decide +kernel]

theorem same_loop (a : List S67) (hl : a.length ≤ 1000000) : ∀ (d i : Nat), i + d = a.length → bagnallkeep_sameRows.l0 (d + 1) a a (i : Int) = some true := by
  intro d
  induction d with
  | zero => intro i hi; rw [bagnallkeep_sameRows.l0, if_neg (by omega)]
  | succ d ih =>
    intro i hi
    rw [bagnallkeep_sameRows.l0, if_pos (by omega), if_pos (by omega), if_pos (by omega), if_neg (by simp), show wrap64 ((i : Int) + 1) = ((i + 1 : Nat) : Int) by unfold wrap64; omega]
    exact ih (i + 1) (by omega)
theorem same_ok (a : List S67) (hl : a.length ≤ 1000000) {m : Nat} (hm : a.length < m) : bagnallkeep_sameRows.f m a a = some true := by
  unfold bagnallkeep_sameRows.f
  rw [if_pos rfl]
  exact at_rounds (g := fun k => bagnallkeep_sameRows.l0 k a a 0) (fun k => bagnallkeep_sameRows.mono_l k a a 0) (show a.length + 1 ≤ m by omega) (same_loop a hl a.length 0 (by omega))

/-! ### the laws' changes -/
theorem key8 (p : Nat) (h : p < 8) : keyOk (keyTab.getD p ⟨#[]⟩) = true := by
  match p, h with
  | 0, _ | 1, _ | 2, _ | 3, _ | 4, _ | 5, _ | 6, _ | 7, _ => decide +kernel
theorem val4 (p : Nat) (h : p < 4) : (valTab.getD p ⟨#[]⟩).size ≤ 20 := by
  match p, h with
  | 0, _ | 1, _ | 2, _ | 3, _ => decide
theorem row_small (x : Int) : Small (rowOf x) := ⟨key8 _ (pickN_lt _ _ (by omega)), val4 _ (pickN_lt _ _ (by omega))⟩
theorem changes_small (l : List Int) (n : Int) : ∀ c ∈ changesOf l n, Small c := by
  intro c hc
  obtain ⟨x, _, rfl⟩ := List.mem_map.1 hc
  exact row_small x
theorem changes_length (l : List Int) (n : Int) : (changesOf l n).length ≤ n.toNat := by
  unfold changesOf; rw [List.length_map, List.length_take]; omega
/-- The keys that the laws' changes have. -/
def keys8 : List (List UInt8) := [[97], [98], [97, 98], [97, 99], [98, 255], [107], [107, 49], [255]]
theorem key_of8 (p : Nat) (h : p < 8) : (keyTab.getD p ⟨#[]⟩).toList ∈ keys8 := by
  match p, h with
  | 0, _ | 1, _ | 2, _ | 3, _ | 4, _ | 5, _ | 6, _ | 7, _ => decide +kernel
theorem few {α : Type} [DecidableEq α] : ∀ (xs ks : List α), xs.Nodup → (∀ x ∈ xs, x ∈ ks) → xs.length ≤ ks.length := by
  intro xs
  induction xs with
  | nil => intro ks _ _; exact Nat.zero_le _
  | cons x l ih =>
    intro ks hn hs
    have hn' := List.nodup_cons.1 hn
    have h1 := ih (ks.erase x) hn'.2 (fun y hy => by
      have hne : y ≠ x := fun e => hn'.1 (e ▸ hy)
      exact (List.mem_erase_of_ne hne).2 (hs y (List.mem_cons_of_mem _ hy)))
    have h2 := List.length_erase_of_mem (hs x List.mem_cons_self)
    have h3 := List.length_pos_of_mem (hs x List.mem_cons_self)
    rw [List.length_cons]; omega
theorem sorted_nodup {T : List S67} (h : Sorted T) : (T.map fun x => x.f0.toList).Nodup := by
  rw [List.nodup_iff_pairwise_ne, List.pairwise_map]
  refine h.imp fun {a b} hab e => ?_
  rw [e, less_irrefl] at hab; cases hab
/-- A table of keys among so few has so few rows. -/
theorem changed_few {cs : List S67} (ks : List (List UInt8)) (hk : ∀ c ∈ cs, c.f0.toList ∈ ks) {T : List S67} (hT : Sorted T) (hTk : ∀ x ∈ T, x.f0.toList ∈ ks) : (changed T cs).length ≤ ks.length := by
  have h1 := few ((changed T cs).map fun x => x.f0.toList) ks (sorted_nodup (changed_sorted _ _ hT)) (fun k hkm => by
    obtain ⟨x, hx, rfl⟩ := List.mem_map.1 hkm
    rw [changed_mem T hT] at hx
    unfold Stands at hx
    cases hl : lastOf cs x.f0.toList with
    | none => rw [hl] at hx; exact hTk x hx
    | some c => rw [hl] at hx; rw [hx.1]; exact hk c (lastOf_key hl).1)
  rwa [List.length_map] at h1
theorem changes_keys (l : List Int) (n : Int) : ∀ c ∈ changesOf l n, c.f0.toList ∈ keys8 := by
  intro c hc
  obtain ⟨x, _, rfl⟩ := List.mem_map.1 hc
  exact key_of8 _ (pickN_lt _ _ (by omega))
theorem changes_few (l : List Int) (n : Int) : (changed [] (changesOf l n)).length ≤ 40 := by
  have := changed_few keys8 (changes_keys l n) (T := []) List.Pairwise.nil (fun _ h => by cases h)
  have h : keys8.length = 8 := rfl
  omega
theorem Changes_is (l : List Int) (n : Int) (hn : n ≤ 1000) : bagnallkeep_Changes.f l n = some (changesOf l n) := by
  unfold bagnallkeep_Changes.f; rw [if_pos hn]

end Go.Proofs.Ytmfkgbncnaingaa.Rows
