/- For every list of numbers and every number, RowsHeads returns true: the rows that begin with a head stand side by side, and end where Next says. -/
import Derived.Test.YtmfkgbncnaingaaRowsPe
import Derived.Test.YtmfkgbncnaingaaQRowsx15
namespace Go.Proofs.Ytmfkgbncnaingaa.Pure
open Go.RowKit Go.Proofs.Ytmfkgbncnaingaa.Rows Go.Proofs.Ytmfkgbncnaingaa.QRows Go.Proofs.YtmfkgbncnaingaaW.PrintWords Go.Proofs.YtmfkgbncnaingaaW.PrintLast

/-- Does a row stand between a head and what stands next? -/
def inB (t nx : List UInt8) (x : S67) : Bool := !Op.bytesLess x.f0.toList t && (decide (nx = []) || Op.bytesLess x.f0.toList nx)
theorem filter_cut {α : Type} (p : α → Bool) (T : List α) (lo hi : Nat) (h1 : lo ≤ hi) (h2 : hi ≤ T.length) (ha : ∀ i (h : i < T.length), i < lo → p T[i] = false) (hb : ∀ i (h : i < T.length), lo ≤ i → i < hi → p T[i] = true) (hc : ∀ i (h : i < T.length), hi ≤ i → p T[i] = false) : T.filter p = (T.take hi).drop lo := by
  have hT : T = T.take lo ++ ((T.take hi).drop lo ++ T.drop hi) := by
    have e1 : T.take lo = (T.take hi).take lo := by rw [List.take_take, Nat.min_eq_left h1]
    rw [e1, ← List.append_assoc, List.take_append_drop, List.take_append_drop]
  have f1 : (T.take lo).filter p = [] := by
    rw [List.filter_eq_nil_iff]
    intro x hx
    obtain ⟨i, hi1, rfl⟩ := List.getElem_of_mem hx
    rw [List.length_take] at hi1
    rw [List.getElem_take, ha i (by omega) (by omega)]; simp
  have f2 : ((T.take hi).drop lo).filter p = (T.take hi).drop lo := by
    rw [List.filter_eq_self]
    intro x hx
    obtain ⟨i, hi1, rfl⟩ := List.getElem_of_mem hx
    rw [List.length_drop, List.length_take] at hi1
    rw [List.getElem_drop, List.getElem_take]
    exact hb _ (by omega) (by omega) (by omega)
  have f3 : (T.drop hi).filter p = [] := by
    rw [List.filter_eq_nil_iff]
    intro x hx
    obtain ⟨i, hi1, rfl⟩ := List.getElem_of_mem hx
    rw [List.length_drop] at hi1
    rw [List.getElem_drop, hc _ (by omega) (by omega)]; simp
  calc T.filter p = (T.take lo ++ ((T.take hi).drop lo ++ T.drop hi)).filter p := by rw [← hT]
    _ = _ := by rw [List.filter_append, List.filter_append, f1, f2, f3, List.nil_append, List.append_nil]

theorem begins (T : List S67) (hs : Sorted T) (t nx : ByteArray) (h : nx.toList = ([] : List UInt8) ∨ Op.bytesLess t.toList nx.toList = true) : rows_Beginning.of T t nx = some (T.filter (inB t.toList nx.toList)) := by
  have hir : ∀ a : List UInt8, ¬ Op.bytesLess a a = true := fun a h => by rw [less_irrefl] at h; cases h
  obtain ⟨a1, a2, a3, -⟩ := found_is T t hs
  unfold rows_Beginning.of
  by_cases he : nx.toList = ([] : List UInt8)
  · rw [if_pos he, filter_cut (inB t.toList nx.toList) T (found T t).1 T.length a1 (Nat.le_refl _) ?_ ?_ (fun i h1 h2 => by omega), List.take_length]
    · intro i h1 h2; unfold inB; rw [a2 i h1 h2]; rfl
    · intro i h1 h2 _; unfold inB; rw [he, Bool.eq_false_iff.2 (a3 i h1 h2)]; rfl
  · have hlt := h.resolve_left he
    obtain ⟨b1, b2, b3, -⟩ := found_is T nx hs
    have hle : (found T t).1 ≤ (found T nx).1 := by
      apply Decidable.byContradiction
      intro hc
      have h1 : (found T nx).1 < T.length := by omega
      have h2 := a2 _ h1 (by omega)
      exact b3 _ h1 (Nat.le_refl _) (less_trans _ _ _ h2 hlt)
    rw [if_neg he, if_pos hle, filter_cut (inB t.toList nx.toList) T (found T t).1 (found T nx).1 hle b1 ?_ ?_ ?_]
    · intro i h1 h2; unfold inB; rw [a2 i h1 h2]; rfl
    · intro i h1 h2 h3; unfold inB; rw [b2 i h1 h3, Bool.eq_false_iff.2 (a3 i h1 h2), Bool.or_true]; rfl
    · intro i h1 h2; unfold inB; rw [Bool.eq_false_iff.2 (b3 i h1 h2), decide_eq_false he, Bool.or_false, Bool.and_false]

def heads : List ByteArray := [(⟨#[]⟩ : ByteArray), (⟨#[97]⟩ : ByteArray), (⟨#[98]⟩ : ByteArray), (⟨#[98, 255]⟩ : ByteArray), (⟨#[107]⟩ : ByteArray), (⟨#[255]⟩ : ByteArray), (⟨#[107, 49]⟩ : ByteArray), (⟨#[97, 98]⟩ : ByteArray)]
theorem next_of (p : Nat) (hp : p < 8) : ∃ nx : ByteArray, rows_Next.f 9 (rdOf ByteArray.empty heads (p : Int)) = some nx ∧ (nx.toList = ([] : List UInt8) ∨ Op.bytesLess (rdOf ByteArray.empty heads (p : Int)).toList nx.toList = true) := by
  match p, hp with
  | 0, _ => exact ⟨⟨#[]⟩, by decide +kernel, by decide +kernel⟩
  | 1, _ => exact ⟨⟨#[98]⟩, by decide +kernel, by decide +kernel⟩
  | 2, _ => exact ⟨⟨#[99]⟩, by decide +kernel, by decide +kernel⟩
  | 3, _ => exact ⟨⟨#[99]⟩, by decide +kernel, by decide +kernel⟩
  | 4, _ => exact ⟨⟨#[108]⟩, by decide +kernel, by decide +kernel⟩
  | 5, _ => exact ⟨⟨#[]⟩, by decide +kernel, by decide +kernel⟩
  | 6, _ => exact ⟨⟨#[107, 50]⟩, by decide +kernel, by decide +kernel⟩
  | 7, _ => exact ⟨⟨#[97, 99]⟩, by decide +kernel, by decide +kernel⟩

theorem heads_loop (T : List S67) (hl : T.length ≤ 40) (t nx : ByteArray) :
    ∀ (d i : Nat), i + d = T.length → bagnallkeep_RowsHeads.l0 (d + 100) T true t (T.filter (inB t.toList nx.toList)) 0 nx ((T.take i).filter (inB t.toList nx.toList)) (i : Int) = some true := by
  intro d
  induction d with
  | zero =>
    intro i hi
    have hf : (T.filter (inB t.toList nx.toList)).length ≤ T.length := List.length_filter_le _ _
    rw [show 0 + 100 = 99 + 1 by rfl, bagnallkeep_RowsHeads.l0, if_neg (by omega), if_pos rfl, if_pos rfl, List.take_of_length_le (by omega), same_ok _ (by omega) (by omega)]
    rfl
  | succ d ih =>
    intro i hi
    have hi' : i < T.length := by omega
    have hn := ih (i + 1) (by omega)
    have hs : T.take (i + 1) = T.take i ++ [T[i]] := List.take_succ_eq_append_getElem hi'
    have hf : ((T.take i).filter (inB t.toList nx.toList)).length ≤ (T.take i).length := List.length_filter_le _ _
    rw [List.length_take] at hf
    rw [hs, List.filter_append] at hn
    rw [show d + 1 + 100 = d + 100 + 1 by omega, bagnallkeep_RowsHeads.l0, if_pos (by omega), if_pos (by omega), rd_T67_get T i hi', show wrap64 ((i : Int) + 1) = ((i + 1 : Nat) : Int) by unfold wrap64; omega]
    have hin : inB t.toList nx.toList T[i] = (!Op.bytesLess T[i].f0.toList t.toList && (decide (nx.toList = []) || Op.bytesLess T[i].f0.toList nx.toList)) := rfl
    by_cases h1 : Op.bytesLess T[i].f0.toList t.toList = true
    · rw [if_pos h1]
      rw [h1] at hin
      rw [List.filter_cons_of_neg (by rw [hin]; simp), List.filter_nil, List.append_nil] at hn
      exact hn
    · rw [if_neg h1]
      rw [Bool.eq_false_iff.2 h1] at hin
      by_cases h2 : nx.toList = ([] : List UInt8)
      · rw [if_pos h2, if_pos (by omega)]
        rw [decide_eq_true h2] at hin
        rw [List.filter_cons_of_pos (by rw [hin]; rfl), List.filter_nil] at hn
        exact hn
      · rw [if_neg h2]
        rw [decide_eq_false h2] at hin
        by_cases h3 : Op.bytesLess T[i].f0.toList nx.toList = true
        · rw [if_pos h3, if_pos (by omega)]
          rw [h3] at hin
          rw [List.filter_cons_of_pos (by rw [hin]; rfl), List.filter_nil] at hn
          exact hn
        · rw [if_neg h3]
          rw [Bool.eq_false_iff.2 h3] at hin
          rw [List.filter_cons_of_neg (by rw [hin]; simp), List.filter_nil, List.append_nil] at hn
          exact hn

theorem RowsHeads : bagnallkeep_RowsHeads.Pure := by
  intro l n _ _ _ _
  have hc := changes_small l 50
  have hn : (changesOf l 50).length ≤ 50 := changes_length l 50
  have hf := changes_few l 50
  generalize hcs : changesOf l 50 = cs at *
  have hG := Good.nil.changed hc hf
  generalize hTT : changed [] cs = T at *
  have hp := Picked_is n 8 (by omega) (by omega)
  have hpl := pickN_lt n 8 (by omega)
  generalize pickN n 8 = p at *
  obtain ⟨nx, hx, hlt⟩ := next_of p hpl
  have hx' : ∀ m, 9 ≤ m → rows_Next.f m (rdOf ByteArray.empty heads (p : Int)) = some nx := fun m hm => at_rounds (g := fun k => rows_Next.f k _) (fun k => rows_Next.mono _ k) hm hx
  refine ⟨T.length + 100, ?_⟩
  unfold bagnallkeep_RowsHeads.f
  rw [Changes_is l 50 (by omega), hcs, Option.bind_some, rowsOf_ok hc (by omega) (by rw [hTT]; exact hf) (by omega), Option.bind_some, hTT, Option.bind_some]
  change ((bagnallkeep_Picked.f n ((8 : Nat) : Int)).bind fun t220 => (if 0 ≤ t220 then (if t220 < (heads.length : Int) then ((bagnallkeep_copiedRows.f T).bind fun t222 => ((rows_Begin.f (T.length + 100) t222 (rdOf ByteArray.empty heads t220)).bind fun bt225 => ((rows_Next.f (T.length + 100) (rdOf ByteArray.empty heads t220)).bind fun t229 => (bagnallkeep_RowsHeads.l0 (T.length + 100) T true (rdOf ByteArray.empty heads t220) bt225.1 bt225.2 t229 ([] : List (S67)) 0)))) else (none)) else (none))) = some true
  rw [hp, Option.bind_some, if_pos (by omega), if_pos (by show (p : Int) < 8; omega), copied_is _ (by omega), Option.bind_some]
  have hb : rows_Begin.f (T.length + 100) T (rdOf ByteArray.empty heads (p : Int)) = some (T.filter (inB (rdOf ByteArray.empty heads (p : Int)).toList nx.toList), 0) := by
    unfold rows_Begin.f
    rw [check_ok' hG (by omega), Option.bind_some, if_pos rfl]
    unfold rows_Beginning.f
    rw [if_pos (by omega), hx' _ (by omega), Option.bind_some, begins T hG.sorted _ _ hlt, Option.bind_some]
  rw [hb, Option.bind_some, hx' _ (by omega), Option.bind_some]
  exact heads_loop T hf _ nx T.length 0 (by omega)

end Go.Proofs.Ytmfkgbncnaingaa.Pure
