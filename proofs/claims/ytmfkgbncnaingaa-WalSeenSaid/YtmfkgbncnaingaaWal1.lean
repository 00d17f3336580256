/- The sums of bytes. -/
import Derived.Test.YtmfkgbncnaingaaDisk4
import Derived.Test.YtmfkgbncnaingaaQWalx0
import Derived.Laws.Rows
import Derived.BigQuiet
namespace Go.Proofs.Ytmfkgbncnaingaa.Wal
open Go.RowKit Go.Proofs.YtmfkgbncnaingaaW.PrintWords Go.Proofs.YtmfkgbncnaingaaW.PrintLast Go.Proofs.YtmfkgbncnaingaaW.PrintMore

/-- The two sums, from a and b on. -/
def sumsGo : List Int → Int → Int → Int × Int
  | [], a, b => (a, b)
  | x :: l, a, b => sumsGo l ((a + x + 1) % 251) ((b + (a + x + 1) % 251) % 251)
def sumsOf (l : List Int) : Int × Int := sumsGo l 0 0
theorem sumsGo_range (l : List Int) (a b : Int) (ha : 0 ≤ a ∧ a < 251) (hb : 0 ≤ b ∧ b < 251) : (0 ≤ (sumsGo l a b).1 ∧ (sumsGo l a b).1 < 251) ∧ 0 ≤ (sumsGo l a b).2 ∧ (sumsGo l a b).2 < 251 := by
  induction l generalizing a b with
  | nil => exact ⟨ha, hb⟩
  | cons x l ih => exact ih _ _ ⟨by omega, by omega⟩ ⟨by omega, by omega⟩
theorem sumsOf_range (l : List Int) : (0 ≤ (sumsOf l).1 ∧ (sumsOf l).1 < 251) ∧ 0 ≤ (sumsOf l).2 ∧ (sumsOf l).2 < 251 := sumsGo_range l 0 0 (by omega) (by omega)

set_option maxRecDepth 100000 in
set_option maxHeartbeats 4000000 in
theorem sums_calls (A0 : Option Addr) (c0 : Nat) (l : List Int) (w : World) (hr : Kd.C (Kd.int .u8) w A0 l.length l) (hl : l.length ≤ 100000) (hx : ∀ x ∈ l, 0 ≤ x ∧ x < 256) :
    Calls Try.prog 89 #[.slice A0 l.length c0] w fun e w' => e = .returned (.agg #[.int .u8 (sumsOf l).1, .int .u8 (sumsOf l).2]) ∧ Below w.heap.size w w' := by
  have HR := Aside0.mk hr
  have HX := Aside0.mk hx
  have hrg := sumsOf_range l
  have HRun := Aside0.mk (show sumsGo l 0 0 = sumsOf l from rfl)
  generalize sumsOf l = R at HRun hrg ⊢
  obtain ⟨r1, r2⟩ := R
  have hc1 : IntKind.u8.wrap r1 = r1 := by rw [IntKind.wrap_u8]; have := hrg.1; simp only [] at this; omega
  have hc2 : IntKind.u8.wrap r2 = r2 := by rw [IntKind.wrap_u8]; have := hrg.2; simp only [] at this; omega
  clear hr hx hrg
  go_enter Try.func89, Try.ntmps89
  go_wp2
  go_loopg [3, 4, 9] (l.length) (fun kq v3 v4 v9 wr => ∃ (i : Nat) (a b : Int), v9 = .int .i64 i ∧ v3 = .int .i64 a ∧ v4 = .int .i64 b ∧ Aside0 (kq + i = l.length) ∧ Aside0 ((0 ≤ a ∧ a < 251) ∧ 0 ≤ b ∧ b < 251) ∧ Aside0 (sumsGo (l.drop i) a b = (r1, r2)) ∧ Aside0 (wr.heap[w.heap.size]? = some (.cells #[.int .u8 0, .int .u8 0] 135 (0, 0))) ∧ Aside0 (Below w.heap.size w wr))
  case atStart =>
    exact ⟨0, 0, 0, rfl, rfl, rfl, ⟨by omega⟩, ⟨by decide⟩, HRun, ⟨by simpa using heap_alloc_new w _⟩, ⟨below_alloc (Below.refl _ _) _⟩⟩
  case round =>
    obtain ⟨i, a, b, rfl, rfl, rfl, hK, hab, hRi, hBk, hBel⟩ := hrel
    by_cases hlt : i < l.length
    · obtain ⟨ad, rfl, hx0⟩ := Kd.at_int (Kd.C_below HR.out hBel.out) (i : Int) (by omega) (by omega)
      have hel : rd l (i : Int) = l[i] := by simp [rd, List.getD_eq_getElem?_getD, hlt]
      rw [hel] at hx0
      rw [Int.toNat_natCast] at hx0
      obtain ⟨hx1, hx2⟩ := HX.out _ (List.getElem_mem hlt)
      have hRi' := hRi.out
      rw [List.drop_eq_getElem_cons hlt, sumsGo] at hRi'
      generalize l[i] = x at *
      obtain ⟨⟨ha0, ha1⟩, hb0, hb1⟩ := hab.out
      obtain ⟨a2, ha2⟩ : ∃ z, (a + x + 1) % 251 = z := ⟨_, rfl⟩
      rw [ha2] at hRi'
      obtain ⟨b2, hb2⟩ : ∃ z, (b + a2) % 251 = z := ⟨_, rfl⟩
      rw [hb2] at hRi'
      have HRi := Aside0.mk hRi'
      have htm1 : Int.tmod (a + x + 1) 251 = a2 := by rw [Int.tmod_eq_emod_of_nonneg (by omega)]; exact ha2
      have ha3 : 0 ≤ a2 ∧ a2 < 251 := by omega
      obtain ⟨ha4, ha5⟩ := ha3
      have htm2 : Int.tmod (b + a2) 251 = b2 := by rw [Int.tmod_eq_emod_of_nonneg (by omega)]; exact hb2
      have HAB := Aside0.mk (show (0 ≤ a2 ∧ a2 < 251) ∧ 0 ≤ b2 ∧ b2 < 251 by omega)
      clear hRi hRi' hel ha2 hb2
      go_wp2
      go_roundg (l.length - (i + 1))
      case measure => have := hK.out; omega
      case rel => exact ⟨i + 1, a2, b2, by go_num, rfl, rfl, ⟨by omega⟩, HAB, HRi, hBk, hBel⟩
    · have hR := hRi.out
      rw [List.drop_of_length_le (by omega), sumsGo] at hR
      simp only [Prod.mk.injEq] at hR
      obtain ⟨rfl, rfl⟩ := hR
      have hbk := hBk.out
      have hd0 : wr.cell? ⟨w.heap.size, 0, none⟩ = some (.int .u8 0) := (blk_cell hbk 0).trans rfl
      have hd1 : wr.cell? ⟨w.heap.size, 1, none⟩ = some (.int .u8 0) := (blk_cell hbk 1).trans rfl
      have hf := fun i => blk_frozen hbk i
      have HBk2 := Aside0.mk (show ((wr.setCell ⟨w.heap.size, 0, none⟩ (.int .u8 a)).setCell ⟨w.heap.size, 1, none⟩ (.int .u8 b)).heap[w.heap.size]? = some (.cells #[.int .u8 a, .int .u8 b] 135 (0, 0)) by simpa using blk_set (blk_set hbk 0 (.int .u8 a)) 1 (.int .u8 b))
      have HB2 := Aside0.mk ((hBel.out.setCell (p := ⟨w.heap.size, 0, none⟩) (Nat.le_refl _) (.int .u8 a)).setCell (p := ⟨w.heap.size, 1, none⟩) (Nat.le_refl _) (.int .u8 b))
      clear hbk
      go_wp2
      refine bodyPost_ret (results_cell_row rfl _ _ w.heap.size 135 _ (0, 0) _ rfl HBk2.out Try.underlying135 rfl (by kernel_rfl)) rfl ?_
      exact ⟨rfl, HB2.out⟩

end Go.Proofs.Ytmfkgbncnaingaa.Wal
