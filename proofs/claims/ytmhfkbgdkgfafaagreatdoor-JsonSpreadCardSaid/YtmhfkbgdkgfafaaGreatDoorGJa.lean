/- 14 texts of this family in one. -/
import Derived.Test.YtmhfkbgdkgfafaaGreatDoorProg
import Derived.Below
import Derived.Deep.Draws
import Derived.Deep.AppendLies
import Derived.Maps.AppendAt
import Derived.OwnWalk
import Derived.Laws.BytesArg
import Derived.Laws.MakeOwn
import Derived.Laws.OwnMore
import Derived.Deep.OwnRows
import Derived.Tactics
import Derived.Lib.ConvBytes
import Derived.Laws.Slices
import Derived.WalkKit
import Derived.KernelRfl
import Derived.RowKit3
import Derived.Deep.LoopGhost
import Derived.Deep.QuietTactic
import Derived.BigQuiet
import Derived.WideLaws
import Derived.Deep.DeepCutAuto
import Derived.Deep.CutBlock
import Derived.Deep.RegionHeld3
import Derived.Laws.Rows
import Derived.Lib.AppendStr
import Derived.ArgAppend
import Derived.Laws.IdiomCopy
import Derived.OrdersHeld
import Derived.Laws.BitsLemmas
import Derived.RowKit
import Derived.Laws.Cover1
import Derived.Test.YtmhfkbgdkgfafaaGreatDoorWWords
import Derived.Test.YtmhfkbgdkgfafaaGreatDoorWLast
import Derived.Test.YtmhfkbgdkgfafaaGreatDoorWTab
import Derived.Test.YtmhfkbgdkgfafaaGreatDoorWx
import Derived.Test.YtmhfkbgdkgfafaaGreatDoorWRepsOne
import Derived.Test.YtmhfkbgdkgfafaaGreatDoorShelf
import Derived.Laws.Externs
import Derived.Lib.Builder
import Derived.Lib.UnsafeStr
import Derived.Lib.LaidTab
import Derived.Lib.AppendIntMem

section
/- Functions of the program as plain functions, and the walks that show it. Written by the session's own program pp.py. -/
namespace Go.Proofs.YtmhfkbgdkgfafaaGreatDoor.QJson
open Go.RowKit Go.Proofs.YtmhfkbgdkgfafaaGreatDoorW.PrintWords Go.Proofs.YtmhfkbgdkgfafaaGreatDoorW.PrintLast Go.Proofs.YtmhfkbgdkgfafaaGreatDoorW.PrintMore
attribute [local go_sem] max2_int min2_int max_two min_two max_three min_three max_four min_four   -- for this text's walks alone
set_option linter.unusedVariables false
set_option linter.unusedSimpArgs false

def errW : Option Int → Value
  | none => .nilIface
  | some c => .iface 156 (.int .i64 c)
theorem errW_none : errW none = .nilIface := rfl
theorem errW_some (c : Int) : errW (some c) = .iface 156 (.int .i64 c) := rfl

theorem info3 : (Tryz.prog.info? 3).map (fun i => (i.zero, i.size, i.bytes)) = some (some (.int .i64 0), 1, 8) := by kernel_rfl
theorem info9 : (Tryz.prog.info? 9).map (fun i => (i.zero, i.size, i.bytes)) = some (some (.string ⟨#[]⟩), 1, 16) := by kernel_rfl
theorem info26 : (Tryz.prog.info? 26).map (fun i => (i.zero, i.size, i.bytes)) = some (some (.agg #[(.int .i64 0), (.int .i64 0), (.string ⟨#[]⟩), (.slice none 0 0), (.slice none 0 0)]), 5, 80) := by kernel_rfl
-- the values' own types

/-! #### struct type 26, nested in itself -/
structure S26 where
  f0 : Int
  f1 : Int
  f2 : ByteArray
  f3 : (List ByteArray)
  f4 : (List S26)
def z26 : S26 := ⟨(0 : Int), (0 : Int), (⟨#[]⟩ : ByteArray), ([] : List ByteArray), ([] : List S26)⟩
def F26 (d : Kd S26) : Kd S26 := Kd.iso (Kd.pair (Kd.int .i64) (Kd.pair (Kd.int .i64) (Kd.pair Kd.string (Kd.pair (Kd.slice 9 Kd.string) (Kd.slice 26 d))))) (fun x : S26 => (x.f0, x.f1, x.f2, x.f3, x.f4))
theorem mono26 : Kd.Mono F26 := Kd.mono_iso _ (Kd.mono_pair (Kd.mono_const _) (Kd.mono_pair (Kd.mono_const _) (Kd.mono_pair (Kd.mono_const _) (Kd.mono_pair (Kd.mono_const _) (Kd.mono_slice 26 Kd.mono_id)))))
theorem sub26 : Kd.Sub F26 [9, 26] := Kd.sub_iso _ (Kd.sub_pair (Kd.sub_const _ (by decide)) (Kd.sub_pair (Kd.sub_const _ (by decide)) (Kd.sub_pair (Kd.sub_const _ (by decide)) (Kd.sub_pair (Kd.sub_const _ (by decide)) (Kd.sub_slice 26 (by decide) Kd.sub_id)))))
theorem sz26 : ∀ n, (Kd.upto F26 5 [9, 26] n).sz = 5 := Kd.upto_sz (fun _ => rfl)
def k26 : Kd S26 := Kd.fix F26 5 [9, 26] sz26 (Kd.upto_E sub26)
theorem k26_open {w : World} {x : S26} {cs : List Value} (h : k26.K w x cs) : ∃ A3 c3 A4 c4, cs = [.int .i64 x.f0, .int .i64 x.f1, .string x.f2, .slice A3 x.f3.length c3, .slice A4 x.f4.length c4] ∧ x.f3.length ≤ c3 ∧ Kd.string.C w A3 x.f3.length x.f3 ∧ x.f4.length ≤ c4 ∧ k26.C w A4 x.f4.length x.f4 := by
  obtain ⟨n, h⟩ := h
  cases n with
  | zero => exact h.elim
  | succ n =>
    obtain ⟨_, _, rfl, rfl, ⟨_, _, rfl, rfl, ⟨_, _, rfl, rfl, ⟨_, _, rfl, ⟨A3, c3, rfl, l3, g3⟩, ⟨A4, c4, rfl, l4, g4⟩⟩⟩⟩⟩ := h
    exact ⟨A3, c3, A4, c4, rfl, l3, g3, l4, Kd.fix_C g4⟩
theorem k26_mkM (w : World) (base : Nat) (ok : Nat → Prop) (x : S26) {v3 : Value} (g3 : Kd.string.R 9 w base ok v3 x.f3) {v4 : Value} (g4 : k26.R 26 w base ok v4 x.f4) : k26.M w base ok x [.int .i64 x.f0, .int .i64 x.f1, .string x.f2, v3, v4] := by
  obtain ⟨n4, q4⟩ := Kd.fix_R_back mono26 g4
  have r4 := Kd.upto_R_le mono26 sz26 (show n4 ≤ n4 by omega) q4
  exact ⟨n4 + 1, ⟨[.int .i64 x.f0], [.int .i64 x.f1, .string x.f2, v3, v4], rfl, rfl, ⟨[.int .i64 x.f1], [.string x.f2, v3, v4], rfl, rfl, ⟨[.string x.f2], [v3, v4], rfl, rfl, ⟨[v3], [v4], rfl, ⟨v3, rfl, g3⟩, ⟨v4, rfl, r4⟩⟩⟩⟩⟩⟩
def rd_T26 (xs : List S26) (i : Int) : S26 := xs.getD i.toNat z26
theorem at_T26 {w : World} {A : Option Addr} {n : Nat} {xs : List S26} (h : Kd.C k26 w A n xs) (i : Int) (h0 : 0 ≤ i) (h1 : i < n) : ∃ ad A3 c3 A4 c4, A = some ad ∧ w.cell? (ad.add (i.toNat * 5)) = some (.int .i64 (rd_T26 xs i).f0) ∧ w.cell? ⟨(ad.add (i.toNat * 5)).block, (ad.add (i.toNat * 5)).off + 1, none⟩ = some (.int .i64 (rd_T26 xs i).f1) ∧ w.cell? ⟨(ad.add (i.toNat * 5)).block, (ad.add (i.toNat * 5)).off + 2, none⟩ = some (.string (rd_T26 xs i).f2) ∧ w.cell? ⟨(ad.add (i.toNat * 5)).block, (ad.add (i.toNat * 5)).off + 3, none⟩ = some (.slice A3 (rd_T26 xs i).f3.length c3) ∧ w.cell? ⟨(ad.add (i.toNat * 5)).block, (ad.add (i.toNat * 5)).off + 4, none⟩ = some (.slice A4 (rd_T26 xs i).f4.length c4) ∧ (rd_T26 xs i).f3.length ≤ c3 ∧ Kd.string.C w A3 (rd_T26 xs i).f3.length (rd_T26 xs i).f3 ∧ (rd_T26 xs i).f4.length ≤ c4 ∧ k26.C w A4 (rd_T26 xs i).f4.length (rd_T26 xs i).f4 := by
  obtain ⟨ad, c, e, _, hK, hc0⟩ := Kd.C_get h z26 i h0 h1
  have hc : ∀ j u, c[j]? = some u → w.cell? (ad.add (i.toNat * 5 + j)) = some u := hc0
  obtain ⟨A3, c3, A4, c4, rfl, l3, g3, l4, g4⟩ := k26_open hK
  exact ⟨ad, A3, c3, A4, c4, e, hc 0 _ rfl, by rw [← add_field _ _ 1 (by omega)]; exact hc 1 _ rfl, by rw [← add_field _ _ 2 (by omega)]; exact hc 2 _ rfl, by rw [← add_field _ _ 3 (by omega)]; exact hc 3 _ rfl, by rw [← add_field _ _ 4 (by omega)]; exact hc 4 _ rfl, l3, g3, l4, g4⟩

end Go.Proofs.YtmhfkbgdkgfafaaGreatDoor.QJson
end

section
/- strings.Builder at this program: what its methods do. -/
namespace Go.Proofs.YtmhfkbgdkgfafaaGreatDoor.Js
open Go.RowKit Go.Proofs.YtmhfkbgdkgfafaaGreatDoorW.PrintWords Go.Proofs.YtmhfkbgdkgfafaaGreatDoorW.PrintLast Go.Proofs.YtmhfkbgdkgfafaaGreatDoorW.PrintMore

theorem sizeB : (Tryz.prog.info? 84).map (·.size) = some 2 := by kernel_rfl
theorem infoByte : (Tryz.prog.info? 5).map (fun i => (i.zero, i.size, i.bytes)) = some (some (.int .u8 0), 1, 1) := by kernel_rfl

set_option maxHeartbeats 1000000 in
set_option maxRecDepth 100000 in
theorem check_used (b : Nat) (w : World) (h0 : w.cell? ⟨b, 0, none⟩ = some (.pointer (some ⟨b, 0, none⟩))) :
    Calls Tryz.prog 84 #[.pointer (some ⟨b, 0, none⟩)] w fun e w' => e = .returned (.tuple #[]) ∧ w' = w := by
  obtain ⟨j, hj, _⟩ := Option.map_eq_some_iff.1 sizeB
  go_enter Tryz.func84, Tryz.ntmps84
  go_wp2
  rw [Lib.run_neq_ptr_same w _ Tryz.underlying81 hj]
  go_wp2
  go_end0
  exact ⟨rfl, rfl⟩

set_option maxHeartbeats 1000000 in
set_option maxRecDepth 100000 in
theorem check_fresh (b : Nat) (w : World) (h0 : w.cell? ⟨b, 0, none⟩ = some (.pointer none)) (hsh : w.shape? b = some (84, 2)) (hfz : w.frozen? ⟨b, 0, none⟩ = false) :
    Calls Tryz.prog 84 #[.pointer (some ⟨b, 0, none⟩)] w fun e w' => e = .returned (.tuple #[]) ∧ w' = w.setCell ⟨b, 0, none⟩ (.pointer (some ⟨b, 0, none⟩)) := by
  obtain ⟨j, hj, hjs⟩ := Option.map_eq_some_iff.1 sizeB
  go_enter Tryz.func84, Tryz.ntmps84
  go_wp2
  rw [Lib.run_to_unsafe w ⟨b, 0, none⟩ Tryz.underlying81 Tryz.underlying112 hj (by rw [hjs]; decide) hsh (Nat.zero_lt_succ 1)]
  simp only [Result.andThen]
  rw [Oper.upon_value]
  go_wp2
  rw [run_callFunc_extern Tryz.func111 (by kernel_rfl) (by kernel_rfl) (by kernel_rfl) (e := Extern.AbiNoEscape.same) (by kernel_rfl)]
  rw [Lib.run_noEscape]
  simp only [Result.andThen]
  rw [Oper.upon_value]
  go_wp2
  rw [Lib.run_from_unsafe w ⟨b, 0, none⟩ Tryz.underlying112 Tryz.underlying81 hj hsh (by kernel_rfl)]
  simp only [Result.andThen]
  rw [Oper.upon_value]
  go_wp2
  go_end0
  exact ⟨rfl, rfl⟩

theorem check (B b : Nat) (bs : List Value) (w : World) (h : Lib.IsBuilder 84 5 B b bs w) :
    Calls Tryz.prog 84 #[.pointer (some ⟨b, 0, none⟩)] w fun e w' => e = .returned (.tuple #[]) ∧ (Lib.BuilderAt 84 5 B b (.pointer (some ⟨b, 0, none⟩)) bs w' ∧ Below B w w') := by
  rcases h with h | h
  · refine (check_fresh b w h.cell0 h.shape h.frozen0).mono ?_
    rintro e w' ⟨rfl, rfl⟩
    exact ⟨rfl, h.used _, (Below.refl B w).setCell (p := ⟨b, 0, none⟩) h.1 _⟩
  · refine (check_used b w h.cell0).mono ?_
    rintro e w' ⟨rfl, rfl⟩
    exact ⟨rfl, h, Below.refl B _⟩

set_option maxHeartbeats 2000000 in
set_option maxRecDepth 100000 in
theorem WriteByte_calls (B b : Nat) (bs : List Value) (c : Int) (w : World) (h : Lib.IsBuilder 84 5 B b bs w) (hlen : bs.length + 1 ≤ 140737488355328) (hBw : B ≤ w.heap.size) :
    Calls Tryz.prog 43 #[.pointer (some ⟨b, 0, none⟩), .int .u8 c] w fun e w' => e = .returned .nilIface ∧ (Lib.BuilderAt 84 5 B b (.pointer (some ⟨b, 0, none⟩)) (bs ++ [.int .u8 c]) w' ∧ Below B w w') := by
  obtain ⟨i0, hi, hz0, hz1, hz2⟩ := info_parts infoByte
  go_enter Tryz.func43, Tryz.ntmps43
  go_wp2_with (go_at_call 84; refine (check B b bs _ h).mono ?_)
  rintro e w1 ⟨rfl, h1, hb1⟩
  obtain ⟨hB, v, hbk, hown, hne⟩ := h1
  have c0 : w1.cell? ⟨b, 0, none⟩ = some (.pointer (some ⟨b, 0, none⟩)) := by rw [Lib.cell_of_heap hbk]; rfl
  have c1 : w1.cell? ⟨b, 1, none⟩ = some v := by rw [Lib.cell_of_heap hbk]; rfl
  go_wp2_with (at_builtin; refine wpList_append_own _ rfl _ _ 82 rfl B 5 i0 (.int .u8 0) 1 1 Tryz.underlying82 hi hz0 hz1 hz2 rfl (by decide) _ _ _ rfl (hown.alloc _) ⟨w1.heap.size, 0, none⟩ 1 1 [.int .u8 c] rfl rfl ?c1 ?c2 ?c3 ?c4 ?c5 ?_)
  case c1 =>
    intro j u hj
    match j, hj with
    | 0, hj => simp at hj; subst hj; simp [Addr.add]
  case c2 => intro u hu; simp at hu; subst hu; rfl
  case c3 => unfold maxLen; omega
  case c4 => omega
  case c5 => have := hb1.size; simp; omega
  intro v' w2 hown' hgrow _
  have hlt : b < w1.heap.size := by
    rcases Nat.lt_or_ge b w1.heap.size with h' | h'
    · exact h'
    · simp [Array.getElem?_eq_none h'] at hbk
  have hb2 : w2.heap[b]? = some (.cells #[.pointer (some ⟨b, 0, none⟩), v] 84 (0, 0)) := by
    rw [hgrow.block b (by simp; omega) (fun e => hne e.symm), Lib.alloc_old w1 _ b hlt]
    exact hbk
  have d0 : w2.cell? ⟨b, 0, none⟩ = some (.pointer (some ⟨b, 0, none⟩)) := by rw [Lib.cell_of_heap hb2]; rfl
  have d1 : w2.cell? ⟨b, 1, none⟩ = some v := by rw [Lib.cell_of_heap hb2]; rfl
  have f1 : w2.frozen? ⟨b, 1, none⟩ = false := Lib.frozen_of_heap hb2 1
  obtain ⟨g, cap, rfl⟩ : ∃ g cap, v' = .slice (some ⟨g, 0, none⟩) (bs.length + 1) cap := by
    rcases hown'.2 with ⟨_, h0⟩ | ⟨g, cap, cur, hv, _⟩
    · omega
    · exact ⟨g, cap, hv⟩
  go_wp2
  go_ret
  refine ⟨rfl, ?_, ?_⟩
  · exact Lib.BuilderAt.put (T := 84) (e := 5) hB hb2 (bs' := bs ++ [.int .u8 c]) (by simpa using hown') (by decide)
  · exact ((hb1.alloc (by have := hb1.size; omega) _).grown hgrow (by have := hb1.size; simp; omega) (fun k hk => (hown.lt k hk).1)).setCell (p := ⟨b, 1, none⟩) hB _

set_option maxHeartbeats 2000000 in
set_option maxRecDepth 100000 in
theorem WriteString_calls (B b : Nat) (bs : List Value) (s : ByteArray) (w : World) (h : Lib.IsBuilder 84 5 B b bs w) (hlen : bs.length + s.size ≤ 140737488355328) (hBw : B ≤ w.heap.size) :
    Calls Tryz.prog 45 #[.pointer (some ⟨b, 0, none⟩), .string s] w fun e w' => e = .returned (.tuple #[.int .i64 s.size, .nilIface]) ∧ (Lib.BuilderAt 84 5 B b (.pointer (some ⟨b, 0, none⟩)) (bs ++ Lib.strCells s) w' ∧ Below B w w') := by
  obtain ⟨i0, hi, hz0, hz1, hz2⟩ := info_parts infoByte
  go_enter Tryz.func45, Tryz.ntmps45
  go_wp2_with (go_at_call 84; refine (check B b bs _ h).mono ?_)
  rintro e w1 ⟨rfl, h1, hb1⟩
  obtain ⟨hB, v, hbk, hown, hne⟩ := h1
  have c0 : w1.cell? ⟨b, 0, none⟩ = some (.pointer (some ⟨b, 0, none⟩)) := by rw [Lib.cell_of_heap hbk]; rfl
  have c1 : w1.cell? ⟨b, 1, none⟩ = some v := by rw [Lib.cell_of_heap hbk]; rfl
  go_wp2_with (at_builtin; refine Lib.wpList_append_own_string _ rfl _ _ 82 9 rfl B 5 i0 Tryz.underlying82 Tryz.underlying9 hi hz0 hz1 hz2 _ _ _ rfl hown s rfl ?c3 ?c4 ?c5 ?_)
  case c3 => unfold maxLen; omega
  case c4 => omega
  case c5 => have := hb1.size; omega
  intro v' w2 hown' hgrow _
  have hlt : b < w1.heap.size := by
    rcases Nat.lt_or_ge b w1.heap.size with h' | h'
    · exact h'
    · simp [Array.getElem?_eq_none h'] at hbk
  have hb2 : w2.heap[b]? = some (.cells #[.pointer (some ⟨b, 0, none⟩), v] 84 (0, 0)) := by
    rw [hgrow.block b hlt (fun e => hne e.symm)]
    exact hbk
  have d0 : w2.cell? ⟨b, 0, none⟩ = some (.pointer (some ⟨b, 0, none⟩)) := by rw [Lib.cell_of_heap hb2]; rfl
  have d1 : w2.cell? ⟨b, 1, none⟩ = some v := by rw [Lib.cell_of_heap hb2]; rfl
  have f1 : w2.frozen? ⟨b, 1, none⟩ = false := Lib.frozen_of_heap hb2 1
  obtain ⟨ao, n', cap, rfl⟩ : ∃ ao n' cap, v' = .slice ao n' cap := by
    rcases hown'.2 with ⟨hv, _⟩ | ⟨g, cap, cur, hv, _⟩
    · exact ⟨_, _, _, hv⟩
    · exact ⟨_, _, _, hv⟩
  go_wp2
  go_ret2
  refine ⟨rfl, ?_, ?_⟩
  · exact Lib.BuilderAt.put (T := 84) (e := 5) hB hb2 (bs' := bs ++ Lib.strCells s) (by simpa [Lib.strCells_length] using hown') (by decide)
  · exact (hb1.grown hgrow (by have := hb1.size; omega) (fun k hk => (hown.lt k hk).1)).setCell (p := ⟨b, 1, none⟩) hB _

end Go.Proofs.YtmhfkbgdkgfafaaGreatDoor.Js
end

section
/- strconv.FormatInt at base 16: of 256 to 287. -/
namespace Go.Proofs.YtmhfkbgdkgfafaaGreatDoor.Js
open Go.RowKit Go.Proofs.YtmhfkbgdkgfafaaGreatDoorW.PrintWords Go.Proofs.YtmhfkbgdkgfafaaGreatDoorW.PrintLast Go.Proofs.YtmhfkbgdkgfafaaGreatDoorW.PrintMore
set_option linter.unusedVariables false
set_option linter.unusedSimpArgs false

/-- math/bits.deBruijn64tab. -/
def tab64 : List Int := [0, 1, 56, 2, 57, 49, 28, 3, 61, 58, 42, 50, 38, 29, 17, 4, 62, 47, 59, 36, 45, 43, 51, 22, 53, 39, 33, 30, 24, 18, 12, 5, 63, 55, 48, 27, 60, 41, 37, 16, 46, 35, 44, 21, 52, 32, 23, 11, 54, 26, 40, 15, 34, 20, 31, 10, 25, 14, 19, 9, 13, 8, 7, 6]
theorem named64 : Tryz.prog.globalNamed "math/bits.deBruijn64tab" = some 8 := by kernel_rfl

set_option maxRecDepth 100000 in
theorem tz64 (w : World) (h : Lib.TabIs Tryz.prog w "math/bits.deBruijn64tab" .u8 tab64) : Calls Tryz.prog 145 #[.int .u64 16] w fun e w' => e = .returned (.int .i64 4) ∧ w' = w := by
  have hc := h.cell named64 15 (by decide)
  rw [show tab64.getD 15 0 = 4 by rfl] at hc
  have hb : bits .and .u64 16 (IntKind.u64.wrap (-16)) = 16 := by decide
  have hq : IntKind.u64.wrap (16 * 285870213051353865) / 288230376151711744 = 15 := by decide
  have hq2 : IntKind.u64.wrap 4573923408821661840 / 288230376151711744 = 15 := by decide
  clear h
  go_enter Tryz.func145, Tryz.ntmps145
  go_wp2
  go_ret
  exact ⟨rfl, rfl⟩
set_option maxRecDepth 100000 in
theorem tz (w : World) (h : Lib.TabIs Tryz.prog w "math/bits.deBruijn64tab" .u8 tab64) : Calls Tryz.prog 137 #[.int .u64 16] w fun e w' => e = .returned (.int .i64 4) ∧ w' = w := by
  have H := Aside0.mk h
  clear h
  go_enter Tryz.func137, Tryz.ntmps137
  go_wp2_with (go_at_call 145; refine (tz64 _ H.out).mono ?_; rintro e w1 ⟨rfl, rfl⟩)
  go_ret
  exact ⟨rfl, rfl⟩
set_option maxRecDepth 100000 in
theorem pow2 (w : World) : Calls Tryz.prog 136 #[.int .i64 16] w fun e w' => e = .returned (.bool true) ∧ w' = w := by
  have hb : bits .and .i64 16 15 = 0 := by decide
  go_enter Tryz.func136, Tryz.ntmps136
  go_wp2
  go_ret
  exact ⟨rfl, rfl⟩

end Go.Proofs.YtmhfkbgdkgfafaaGreatDoor.Js
end

section
/- strconv.FormatInt at base 16: the walk. -/
namespace Go.Proofs.YtmhfkbgdkgfafaaGreatDoor.Js
open Go.RowKit Go.Proofs.YtmhfkbgdkgfafaaGreatDoorW.PrintWords Go.Proofs.YtmhfkbgdkgfafaaGreatDoorW.PrintLast Go.Proofs.YtmhfkbgdkgfafaaGreatDoorW.PrintMore
set_option linter.unusedVariables false
set_option linter.unusedSimpArgs false

/-- A digit's byte. -/
def hexB (d : Nat) : UInt8 := if d < 10 then (48 + d).toUInt8 else (87 + d).toUInt8
def digs : ByteArray := ⟨#[48, 49, 50, 51, 52, 53, 54, 55, 56, 57, 97, 98, 99, 100, 101, 102, 103, 104, 105, 106, 107, 108, 109, 110, 111, 112, 113, 114, 115, 116, 117, 118, 119, 120, 121, 122]⟩
theorem digs_at : ∀ d : Fin 16, (bt digs (d.val : Int)) = ((hexB d.val).toNat : Int) := by decide +kernel
theorem in64u (n : Int) (h0 : 0 ≤ n) (h1 : n < 2 ^ 20) : IntKind.u64.wrap n = n := by rw [IntKind.wrap_u64]; omega
theorem and15u (x : Int) (h0 : 0 ≤ x) (h1 : x < 1048576) : bits .and .u64 x 15 = x % 16 := bits_mask .u64 20 (by decide) in64u 4 (by decide) x h0 h1

theorem zeroTA (w : World) : (zeroValue 164).run Tryz.prog w = .ok (.agg (Array.replicate 65 (.int .u8 0))) w := by kernel_rfl
theorem lenTA : Tryz.prog.arrayLen 164 = 65 := by kernel_rfl
theorem zs_at (w : World) (zs : Array Value) (hzs : zs = Array.replicate 65 (.int .u8 0)) (j : Nat) (hj : j < 65) : (w.alloc (.cells zs 164)).cell? ⟨w.heap.size, j, none⟩ = some (.int .u8 0) := by
  rw [World.cell?_alloc_new, hzs]
  simp [Array.getElem?_replicate, hj]

set_option maxHeartbeats 4000000 in
set_option maxRecDepth 100000 in
theorem bits16 (c : Nat) (hc : c < 32) (w : World) (h : Lib.TabIs Tryz.prog w "math/bits.deBruijn64tab" .u8 tab64) :
    Calls Tryz.prog 116 #[.slice none 0 0, .int .u64 (256 + c : Nat), .int .i64 16, .bool false, .bool false] w fun e w' => e = .returned (.tuple #[.slice none 0 0, .string ⟨#[49, hexB (c / 16), hexB (c % 16)]⟩]) ∧ Below w.heap.size w w' := by
  have H := Aside0.mk (Lib.tabBelow_of_tabIs h)
  obtain ⟨u0, hu0⟩ : ∃ u : Int, u = ((256 + c : Nat) : Int) := ⟨_, rfl⟩
  obtain ⟨u1, hu1⟩ : ∃ u : Int, u = ((16 + c / 16 : Nat) : Int) := ⟨_, rfl⟩
  obtain ⟨d0, hd0⟩ : ∃ d : Int, d = ((c % 16 : Nat) : Int) := ⟨_, rfl⟩
  obtain ⟨d1, hd1⟩ : ∃ d : Int, d = ((c / 16 : Nat) : Int) := ⟨_, rfl⟩
  obtain ⟨e0, he0⟩ : ∃ e : Int, e = ((hexB (c % 16)).toNat : Int) := ⟨_, rfl⟩
  obtain ⟨e1, he1⟩ : ∃ e : Int, e = ((hexB (c / 16)).toNat : Int) := ⟨_, rfl⟩
  have ha0 : bits .and .u64 u0 15 = d0 := by rw [and15u u0 (by omega) (by omega)]; omega
  have ha1 : bits .and .u64 u1 15 = d1 := by rw [and15u u1 (by omega) (by omega)]; omega
  have hs0 : u0 / 16 = u1 := by omega
  have hs1 : u1 / 16 = 1 := by omega
  have hb0 : bt digs d0 = e0 := by rw [hd0, he0]; exact digs_at ⟨c % 16, by omega⟩
  have hb1 : bt digs d1 = e1 := by rw [hd1, he1]; exact digs_at ⟨c / 16, by omega⟩
  have hb2 : bt digs 1 = 49 := digs_at ⟨1, by omega⟩
  have hr0 : (0 ≤ d0 ∧ d0 < 36) ∧ 16 ≤ u0 := by omega
  have hr1 : (0 ≤ d1 ∧ d1 < 36) ∧ 16 ≤ u1 := by omega
  have HE := Aside0.mk (And.intro he0 he1)
  rw [← hu0]
  have hz := zeroTA
  have hbt := bt_at
  have hal := lenTA
  obtain ⟨zs, hzs⟩ : ∃ zs, zs = Array.replicate 65 (Value.int .u8 0) := ⟨_, rfl⟩
  rw [← hzs] at hz
  have HZ := Aside0.mk (zs_at w zs hzs)
  unfold digs at hb0 hb1 hb2
  clear h hu0 hu1 hd0 hd1 he0 he1 hzs
  go_enter Tryz.func116, Tryz.ntmps116
  go_wp2_with (first
    | (go_at_call 136; refine (pow2 _).mono ?_; rintro e w1 ⟨rfl, rfl⟩)
    | (go_at_call 137; refine (tz _ (H.out _ (below_alloc (Below.refl _ _) _))).mono ?_; rintro e w1 ⟨rfl, rfl⟩))
  obtain ⟨g, hg⟩ : ∃ g, g = w.heap.size := ⟨_, rfl⟩
  have HB0 := Aside0.mk (show Below w.heap.size w (w.alloc (.cells zs 164)) from below_alloc (Below.refl _ _) _)
  have HF := Aside0.mk (show ∀ j, (w.alloc (.cells zs 164)).frozen? ⟨w.heap.size, j, none⟩ = false from fun j => World.frozen?_alloc_new _ _ _ _)
  have HG := Aside0.mk (show w.heap.size ≤ g by omega)
  generalize w.alloc (.cells zs 164) = W0 at HZ HF HB0 ⊢
  rw [← hg] at HZ HF ⊢
  clear hg H
  have z64 := HZ.out 64 (by omega)
  have z63 := HZ.out 63 (by omega)
  have z62 := HZ.out 62 (by omega)
  have f64 := HF.out 64
  have f63 := HF.out 63
  have f62 := HF.out 62
  go_loopg [1, 13] 2 (fun kq v1 v13 wr => ∃ (u i : Int), v1 = .int .u64 u ∧ v13 = .int .i64 i ∧ ((kq = 2 ∧ u = u0 ∧ i = 65 ∧ wr = W0) ∨ (kq = 1 ∧ u = u1 ∧ i = 64 ∧ wr = W0.setCell ⟨g, 64, none⟩ (.int .u8 e0)) ∨ (kq = 0 ∧ u = 1 ∧ i = 63 ∧ wr = (W0.setCell ⟨g, 64, none⟩ (.int .u8 e0)).setCell ⟨g, 63, none⟩ (.int .u8 e1))))
  case atStart => exact ⟨u0, 65, rfl, rfl, .inl ⟨rfl, rfl, rfl, rfl⟩⟩
  case round =>
    obtain ⟨u, i, rfl, rfl, hq⟩ := hrel
    rcases hq with ⟨hkq, rfl, rfl, rfl⟩ | ⟨hkq, rfl, rfl, rfl⟩ | ⟨hkq, rfl, rfl, rfl⟩
    · go_wp2
      go_roundg 1
      case measure => omega
      case rel => exact ⟨u1, 64, by go_num, by go_num, .inr (.inl ⟨rfl, rfl, rfl, rfl⟩)⟩
    · go_wp2
      go_roundg 0
      case measure => omega
      case rel => exact ⟨1, 63, by go_num, by go_num, .inr (.inr ⟨rfl, rfl, rfl, rfl⟩)⟩
    · have h49 : ∀ h : 1 < (⟨#[48, 49, 50, 51, 52, 53, 54, 55, 56, 57, 97, 98, 99, 100, 101, 102, 103, 104, 105, 106, 107, 108, 109, 110, 111, 112, 113, 114, 115, 116, 117, 118, 119, 120, 121, 122]⟩ : ByteArray).size, ((⟨#[48, 49, 50, 51, 52, 53, 54, 55, 56, 57, 97, 98, 99, 100, 101, 102, 103, 104, 105, 106, 107, 108, 109, 110, 111, 112, 113, 114, 115, 116, 117, 118, 119, 120, 121, 122]⟩ : ByteArray)[1]'h).toNat = 49 := fun _ => rfl
      have hcv : (convert 82 9 (.slice (some ⟨g, 62, none⟩) 3 3)).run Tryz.prog (((W0.setCell ⟨g, 64, none⟩ (.int .u8 e0)).setCell ⟨g, 63, none⟩ (.int .u8 e1)).setCell ⟨g, 62, none⟩ (.int .u8 49)) = .ok (.string ⟨#[49, hexB (c / 16), hexB (c % 16)]⟩) (((W0.setCell ⟨g, 64, none⟩ (.int .u8 e0)).setCell ⟨g, 63, none⟩ (.int .u8 e1)).setCell ⟨g, 62, none⟩ (.int .u8 49)) := by
        refine run_convert_bytes_back (P := Tryz.prog) _ 82 9 5 ⟨g, 62, none⟩ 3 [49, hexB (c / 16), hexB (c % 16)] Tryz.underlying82 Tryz.underlying5 Tryz.underlying9 (fun j hj => ?_)
        match j, hj with
        | 0, _ => exact World.cell?_setCell_same _ _ _ (by rw [World.cell?_setCell_other _ _ _ _ (by simp), World.cell?_setCell_other _ _ _ _ (by simp)]; exact z62)
        | 1, _ =>
          rw [show (⟨g, 62, none⟩ : Addr).add 1 = ⟨g, 63, none⟩ from rfl, World.cell?_setCell_other _ _ _ _ (by simp)]
          rw [World.cell?_setCell_same _ _ _ (by rw [World.cell?_setCell_other _ _ _ _ (by simp)]; exact z63), HE.out.2]; rfl
        | 2, _ =>
          rw [show (⟨g, 62, none⟩ : Addr).add 2 = ⟨g, 64, none⟩ from rfl, World.cell?_setCell_other _ _ _ _ (by simp), World.cell?_setCell_other _ _ _ _ (by simp)]
          rw [World.cell?_setCell_same _ _ _ z64, HE.out.1]; rfl
      go_wp2
      go_ret2
      refine ⟨rfl, ?_⟩
      exact ((HB0.out.setCell (p := ⟨g, 64, none⟩) HG.out _).setCell (p := ⟨g, 63, none⟩) HG.out _).setCell (p := ⟨g, 62, none⟩) HG.out _

set_option maxRecDepth 100000 in
theorem format16i (c : Nat) (hc : c < 32) (w : World) (h : Lib.TabIs Tryz.prog w "math/bits.deBruijn64tab" .u8 tab64) :
    Calls Tryz.prog 86 #[.int .i64 ((256 + c : Nat) : Int), .int .i64 16] w fun e w' => e = .returned (.string ⟨#[49, hexB (c / 16), hexB (c % 16)]⟩) ∧ Below w.heap.size w w' := by
  have HC := Aside0.mk (bits16 c hc w h)
  obtain ⟨u, hu⟩ : ∃ u : Int, u = ((256 + c : Nat) : Int) := ⟨_, rfl⟩
  have h0 : ¬ u < 0 := by omega
  have h2 : IntKind.u64.wrap u = u := by rw [IntKind.wrap_u64]; omega
  rw [← hu] at HC ⊢
  clear h hu hc
  go_enter Tryz.func86, Tryz.ntmps86
  go_wp2_with (first
    | (go_at_call 116; refine HC.out.mono ?_; rintro e w1 ⟨rfl, hb⟩; have HB := Aside0.mk hb; clear hb))
  go_ret
  exact ⟨rfl, HB.out⟩
set_option maxRecDepth 100000 in
theorem format16 (c : Nat) (hc : c < 32) (w : World) (h : Lib.TabIs Tryz.prog w "math/bits.deBruijn64tab" .u8 tab64) :
    Calls Tryz.prog 46 #[.int .i64 ((256 + c : Nat) : Int), .int .i64 16] w fun e w' => e = .returned (.string ⟨#[49, hexB (c / 16), hexB (c % 16)]⟩) ∧ Below w.heap.size w w' := by
  have HC := Aside0.mk (format16i c hc w h)
  obtain ⟨u, hu⟩ : ∃ u : Int, u = ((256 + c : Nat) : Int) := ⟨_, rfl⟩
  rw [← hu] at HC ⊢
  clear h hu hc
  go_enter Tryz.func46, Tryz.ntmps46
  go_wp2_with (first
    | (go_at_call 86; refine HC.out.mono ?_; rintro e w1 ⟨rfl, hb⟩; have HB := Aside0.mk hb; clear hb))
  go_ret
  exact ⟨rfl, HB.out⟩

end Go.Proofs.YtmhfkbgdkgfafaaGreatDoor.Js
end

section
/- json.quoted: a string's text. -/
namespace Go.Proofs.YtmhfkbgdkgfafaaGreatDoor.Js
open Go.RowKit Go.Proofs.YtmhfkbgdkgfafaaGreatDoorW.PrintWords Go.Proofs.YtmhfkbgdkgfafaaGreatDoorW.PrintLast Go.Proofs.YtmhfkbgdkgfafaaGreatDoorW.PrintMore
set_option linter.unusedVariables false
set_option linter.unusedSimpArgs false

/-- A byte's text within a string. -/
def esc (c : UInt8) : List UInt8 :=
  if c = 34 then [92, 34] else if c = 92 then [92, 92]
  else if c = 8 then [92, 98] else if c = 9 then [92, 116] else if c = 10 then [92, 110] else if c = 12 then [92, 102] else if c = 13 then [92, 114]
  else if c < 32 then [92, 117, 48, 48, hexB (c.toNat / 16), hexB (c.toNat % 16)]
  else [c]
/-- A string's text. -/
def quote (l : List UInt8) : List UInt8 := 34 :: (l.flatMap esc ++ [34])
theorem esc_length (c : UInt8) : (esc c).length ≤ 6 := by
  unfold esc
  repeat' split
  all_goals simp
theorem flat_length (l : List UInt8) : (l.flatMap esc).length ≤ 6 * l.length := by
  induction l with
  | nil => simp
  | cons c l ih => rw [List.flatMap_cons, List.length_append, List.length_cons]; have := esc_length c; omega
def kOf (x : Int) : Int := if x = 8 then 0 else if x = 9 then 1 else if x = 10 then 2 else if x = 12 then 3 else if x = 13 then 4 else -1
theorem kOf_eq : ∀ c : Fin 256, Lib.indexByte (⟨#[8, 9, 10, 12, 13]⟩ : ByteArray).data.toList ((c.val : Int)).toNat.toUInt8 = kOf c.val := by decide +kernel
theorem idx (x : Int) (h0 : 0 ≤ x) (h1 : x < 256) (w : World) : Calls Tryz.prog 44 #[.string ⟨#[8, 9, 10, 12, 13]⟩, .int .u8 x] w fun e w' => e = .returned (.int .i64 (kOf x)) ∧ w' = w := by
  have h := Tryz.strings_IndexByte ⟨#[8, 9, 10, 12, 13]⟩ x w
  have h2 := kOf_eq ⟨x.toNat, by omega⟩
  simp only [Int.toNat_of_nonneg h0] at h2
  rw [h2] at h
  exact h
theorem at_eq (s : ByteArray) (l : List UInt8) (hl : s.data.toList = l) (i : Nat) (hi : i < l.length) : ∀ h : i < s.size, (s[i]'h).toNat = (l[i]).toNat := by
  subst hl
  intro h
  simp [ByteArray.getElem_eq_getElem_data]
theorem extract_one (s : ByteArray) (l : List UInt8) (hl : s.data.toList = l) (i : Nat) (hi : i < l.length) : s.extract i (i + 1) = ⟨#[l[i]]⟩ := by
  subst hl
  have h : i < s.data.size := by simpa using hi
  apply ByteArray.ext
  rw [ByteArray.data_extract]
  apply Array.ext'
  rw [Array.toList_extract]
  simp only [Array.length_toList] at hi
  rw [List.extract_eq_take_drop]
  rw [List.drop_eq_getElem_cons (by simpa using h)]
  simp

theorem slice_one {s : ByteArray} {i : Nat} {c : UInt8} (hx : s.extract i (i + 1) = ⟨#[c]⟩) (hi : i < s.size) (W : World) : (Instr.slice 9 (.string s) (some (.int .i64 (i : Int))) (some (.int .i64 ((i : Int) + 1))) none).run Tryz.prog W = .ok (.string ⟨#[c]⟩) W := by
  rw [run_slice_string W 9 s .i64 .i64 (i : Int) ((i : Int) + 1) Tryz.underlying9 (by omega) (by omega) (by omega)]
  rw [show ((i : Int)).toNat = i by omega, show ((i : Int) + 1).toNat = i + 1 by omega, hx]
theorem slice_short (k : Int) (eb : UInt8) (h0 : 0 ≤ k) (h1 : k < 5) (hx : (⟨#[98, 116, 110, 102, 114]⟩ : ByteArray).extract k.toNat (k.toNat + 1) = ⟨#[eb]⟩) (W : World) : (Instr.slice 9 (.string ⟨#[98, 116, 110, 102, 114]⟩) (some (.int .i64 k)) (some (.int .i64 (k + 1))) none).run Tryz.prog W = .ok (.string ⟨#[eb]⟩) W := by
  rw [run_slice_string W 9 _ .i64 .i64 k (k + 1) Tryz.underlying9 (by omega) (by omega) (by show k + 1 ≤ 5; omega)]
  rw [show (k + 1).toNat = k.toNat + 1 by omega, hx]
theorem slice_two (a b : UInt8) (W : World) : (Instr.slice 9 (.string ⟨#[49, a, b]⟩) (some (.int .i64 1)) none none).run Tryz.prog W = .ok (.string ⟨#[a, b]⟩) W := by
  rw [run_slice_string_l (ht := Tryz.underlying9) (h0 := by decide) (h1 := by show (1 : Int) ≤ 3; decide)]
  rfl
theorem esc_short (c : UInt8) (x k : Int) (hx : x = (c.toNat : Int)) (hk : k = kOf x) (h0 : 0 ≤ k) : ∃ eb, k < 5 ∧ esc c = [92, eb] ∧ (⟨#[98, 116, 110, 102, 114]⟩ : ByteArray).extract k.toNat (k.toNat + 1) = ⟨#[eb]⟩ := by
  have hc : ∀ n : Nat, x = (n : Int) → n < 256 → c = n.toUInt8 := fun n h h2 => UInt8.toNat_inj.1 (by have : c.toNat = n := by omega
                                                                                                      rw [this]; simp [Nat.mod_eq_of_lt h2])
  unfold kOf at hk
  split at hk
  · rename_i h; obtain rfl := hc 8 h (by decide); subst hk; exact ⟨98, by decide, rfl, rfl⟩
  split at hk
  · rename_i h; obtain rfl := hc 9 h (by decide); subst hk; exact ⟨116, by decide, rfl, rfl⟩
  split at hk
  · rename_i h; obtain rfl := hc 10 h (by decide); subst hk; exact ⟨110, by decide, rfl, rfl⟩
  split at hk
  · rename_i h; obtain rfl := hc 12 h (by decide); subst hk; exact ⟨102, by decide, rfl, rfl⟩
  split at hk
  · rename_i h; obtain rfl := hc 13 h (by decide); subst hk; exact ⟨114, by decide, rfl, rfl⟩
  omega
theorem not_short (x k : Int) (hk : k = kOf x) (h0 : ¬ 0 ≤ k) : x ≠ 8 ∧ x ≠ 9 ∧ x ≠ 10 ∧ x ≠ 12 ∧ x ≠ 13 := by
  unfold kOf at hk
  refine ⟨?_, ?_, ?_, ?_, ?_⟩ <;> rintro rfl <;> simp at hk <;> omega
theorem ne_of_int {c : UInt8} {x : Int} (n : UInt8) (hx : x = (c.toNat : Int)) (h : x ≠ (n.toNat : Int)) : c ≠ n := fun e => h (by rw [hx, e])
theorem esc_rest (c : UInt8) (x k : Int) (hx : x = (c.toNat : Int)) (hk : k = kOf x) (h0 : ¬ 0 ≤ k) (h34 : x ≠ 34) (h92 : x ≠ 92) : esc c = if c < 32 then [92, 117, 48, 48, hexB (c.toNat / 16), hexB (c.toNat % 16)] else [c] := by
  obtain ⟨g8, g9, g10, g12, g13⟩ := not_short x k hk h0
  unfold esc
  rw [if_neg (ne_of_int 34 hx h34), if_neg (ne_of_int 92 hx h92), if_neg (ne_of_int 8 hx g8), if_neg (ne_of_int 9 hx g9), if_neg (ne_of_int 10 hx g10), if_neg (ne_of_int 12 hx g12), if_neg (ne_of_int 13 hx g13)]
theorem esc_low (c : UInt8) (x k : Int) (hx : x = (c.toNat : Int)) (hk : k = kOf x) (h0 : ¬ 0 ≤ k) (h34 : x ≠ 34) (h92 : x ≠ 92) (h32 : x < 32) : ∃ a b, esc c = [92, 117, 48, 48, a, b] ∧ ∀ w, Lib.TabIs Tryz.prog w "math/bits.deBruijn64tab" .u8 tab64 → Calls Tryz.prog 46 #[.int .i64 (x + 256), .int .i64 16] w fun e w' => e = .returned (.string ⟨#[49, a, b]⟩) ∧ Below w.heap.size w w' := by
  refine ⟨_, _, by rw [esc_rest c x k hx hk h0 h34 h92, if_pos (show c < 32 from UInt8.lt_iff_toNat_lt.2 (by show c.toNat < 32; omega))], fun w h => ?_⟩
  have h2 := format16 c.toNat (by omega) w h
  rw [show ((256 + c.toNat : Nat) : Int) = x + 256 by omega] at h2
  exact h2
theorem esc_else (c : UInt8) (x k : Int) (hx : x = (c.toNat : Int)) (hk : k = kOf x) (h0 : ¬ 0 ≤ k) (h34 : x ≠ 34) (h92 : x ≠ 92) (h32 : ¬ x < 32) : esc c = [c] := by
  rw [esc_rest c x k hx hk h0 h34 h92, if_neg (fun h => h32 (by have := UInt8.lt_iff_toNat_lt.1 h; have h3 : c.toNat < 32 := this; omega))]
theorem WriteStr (B b : Nat) (os es : List UInt8) (st : ByteArray) (w : World) (h : Lib.IsBuilder 84 5 B b (Lib.byteCells os) w) (he : st.data.toList = es) (hlen : os.length + es.length ≤ 140737488355328) (hBw : B ≤ w.heap.size) :
    Calls Tryz.prog 45 #[.pointer (some ⟨b, 0, none⟩), .string st] w fun e w' => e = .returned (.tuple #[.int .i64 st.size, .nilIface]) ∧ Lib.IsBuilder 84 5 B b (Lib.byteCells (os ++ es)) w' ∧ Below B w w' := by
  refine (WriteString_calls B b (Lib.byteCells os) st w h (by rw [Lib.byteCells_length, ← st.size_data, ← Array.length_toList, he]; exact hlen) hBw).mono ?_
  rintro e w' ⟨rfl, h1, h2⟩
  rw [Lib.strCells_eq, he, ← Lib.byteCells_append] at h1
  exact ⟨rfl, .inr h1, h2⟩
theorem WriteByt (B b : Nat) (os : List UInt8) (c : UInt8) (x : Int) (w : World) (hx : x = (c.toNat : Int)) (h : Lib.IsBuilder 84 5 B b (Lib.byteCells os) w) (hlen : os.length + 1 ≤ 140737488355328) (hBw : B ≤ w.heap.size) :
    Calls Tryz.prog 43 #[.pointer (some ⟨b, 0, none⟩), .int .u8 x] w fun e w' => e = .returned .nilIface ∧ Lib.IsBuilder 84 5 B b (Lib.byteCells (os ++ [c])) w' ∧ Below B w w' := by
  refine (WriteByte_calls B b (Lib.byteCells os) x w h (by rw [Lib.byteCells_length]; exact hlen) hBw).mono ?_
  rintro e w' ⟨rfl, h1, h2⟩
  rw [hx, show ([Value.int .u8 (c.toNat : Int)] : List Value) = Lib.byteCells [c] from rfl, ← Lib.byteCells_append] at h1
  exact ⟨rfl, .inr h1, h2⟩
theorem bu_below {B b : Nat} {bs : List Value} {w w' : World} (h : Lib.IsBuilder 84 5 B b bs w) (hb : Below w.heap.size w w') : Lib.IsBuilder 84 5 B b bs w' := by
  have hat : ∀ {p : Value}, Lib.BuilderAt 84 5 B b p bs w → Lib.BuilderAt 84 5 B b p bs w' := fun {p} h => by
    have hlt := h.lt
    obtain ⟨hB, v, hbk, hown, hne⟩ := h
    exact ⟨hB, v, (hb.block b hlt).trans hbk, own_move hown (fun k hk => hb.block k (own_lt hown k hk)), hne⟩
  exact h.elim (fun h => .inl (hat h)) (fun h => .inr (hat h))

set_option maxHeartbeats 8000000 in
set_option maxRecDepth 100000 in
theorem quoted_walk (s : ByteArray) (l : List UInt8) (hl : s.data.toList = l) (hn : l.length ≤ 1000000) (w : World) (h : Lib.TabIs Tryz.prog w "math/bits.deBruijn64tab" .u8 tab64) :
    Calls Tryz.prog 26 #[.string s] w fun e w' => e = .returned (.string ⟨(quote l).toArray⟩) ∧ Below w.heap.size w w' := by
  have H := Aside0.mk (Lib.tabBelow_of_tabIs h)
  have hsz : s.size = l.length := by rw [← hl, ← s.size_data]; simp
  have HL := Aside0.mk hl
  obtain ⟨R, hR⟩ : ∃ R, R = quote l := ⟨_, rfl⟩
  have HRq := Aside0.mk hR
  rw [← hR]
  have hbt := bt_at
  clear h hl hR
  go_enter Tryz.func26, Tryz.ntmps26
  go_wp2_with (first | (go_at_call 43; refine (WriteByte_calls w.heap.size w.heap.size [] _ _ (.inl ⟨Nat.le_refl _, .slice none 0 0, by simpa using heap_alloc_new w _, own_nil _ _ _ _, by simp [Value.ownBlock]⟩) (by simp) (by simp)).mono ?_; rintro e w1 ⟨rfl, h1, hb1⟩; have HB1 := Aside0.mk h1; have HBel1 := Aside0.mk ((below_alloc (Below.refl _ _) _).trans hb1); clear h1 hb1))
  go_loopg [4, 5, 6, 10] l.length (fun kq v4 v5 v6 v10 wr => ∃ (i : Nat), v10 = .int .i64 i ∧ Aside0 (kq + i = l.length) ∧ Aside0 (Lib.IsBuilder 84 5 w.heap.size w.heap.size (Lib.byteCells (34 :: (l.take i).flatMap esc)) wr) ∧ Aside0 (Below w.heap.size w wr))
  case atStart => exact ⟨0, rfl, ⟨by omega⟩, ⟨.inr HB1.out⟩, HBel1⟩
  case round =>
    obtain ⟨i, rfl, hK, hBu, hBel⟩ := hrel
    by_cases hlt : i < l.length
    · have hi1 : (i : Int) < (l.length : Int) := by omega
      have hwi : IntKind.i64.wrap ((i : Int) + 1) = (i : Int) + 1 := by rw [IntKind.wrap_i64]; omega
      have hb := at_eq s l HL.out i hlt
      have hx := extract_one s l HL.out i hlt
      have HLen := Aside0.mk (show (34 :: (l.take i).flatMap esc).length ≤ 6 * i + 1 by
        have := flat_length (l.take i)
        rw [List.length_take] at this
        simp only [List.length_cons]; omega)
      have HTake := Aside0.mk (show 34 :: (l.take (i + 1)).flatMap esc = 34 :: (l.take i).flatMap esc ++ esc l[i] by
        rw [List.take_succ_eq_append_getElem hlt, List.flatMap_append]; simp)
      generalize l[i] = c at hb hx HTake
      obtain ⟨os, hos⟩ : ∃ os, os = 34 :: (l.take i).flatMap esc := ⟨_, rfl⟩
      rw [← hos] at hBu HLen HTake
      obtain ⟨x, hxc⟩ : ∃ x : Int, x = (c.toNat : Int) := ⟨_, rfl⟩
      have hb2 : ∀ h : i < s.size, (((s[i]'h).toNat : Nat) : Int) = x := fun h => by rw [hb h, hxc]
      have hx0 : 0 ≤ x ∧ x < 256 := by have := c.toNat_lt; omega
      have HIdx := Aside0.mk (fun w => idx x hx0.1 hx0.2 w)
      have HX := Aside0.mk hxc
      obtain ⟨k, hk⟩ : ∃ k, k = kOf x := ⟨_, rfl⟩
      rw [← hk] at HIdx
      have HK := Aside0.mk hk
      clear hos hb hxc hk
      by_cases h34 : x = 34
      · have q1 : (x == 34) = true := beq_iff_eq.2 h34
        have HE := Aside0.mk (show esc c = [92, c] by
          have : c = 34 := UInt8.toNat_inj.1 (by have := HX.out; rw [h34] at this; exact (by omega : c.toNat = 34))
          subst this; rfl)
        have hsl := slice_one (i := i) (c := c) hx (by omega)
        clear h34 hx
        go_wp2_with (first
          | (go_at_call 44; refine (HIdx.out _).mono ?_; rintro e w2 ⟨rfl, rfl⟩)
          | (go_at_call 45; refine (WriteStr w.heap.size w.heap.size os [92, c] _ _ hBu.out rfl (by have := HLen.out; simp only [List.length_cons, List.length_nil]; omega) hBel.out.size).mono ?_; rintro e w3 ⟨rfl, h3, hb3⟩; have HB3 := Aside0.mk h3; have HBel3 := Aside0.mk (hBel.out.trans hb3); clear h3 hb3))
        go_roundg (gk - 1)
        case measure => have := hK.out; omega
        case rel => exact ⟨i + 1, by go_num, ⟨by have := hK.out; omega⟩, ⟨by rw [HTake.out, HE.out]; exact HB3.out⟩, HBel3⟩
      · have q1 : (x == 34) = false := beq_eq_false_iff_ne.2 h34
        by_cases h92 : x = 92
        · have q2 : (x == 92) = true := beq_iff_eq.2 h92
          have HE := Aside0.mk (show esc c = [92, c] by
            have : c = 92 := UInt8.toNat_inj.1 (by have := HX.out; rw [h92] at this; exact (by omega : c.toNat = 92))
            subst this; rfl)
          have hsl := slice_one (i := i) (c := c) hx (by omega)
          clear h34 h92 hx
          go_wp2_with (first
            | (go_at_call 44; refine (HIdx.out _).mono ?_; rintro e w2 ⟨rfl, rfl⟩)
            | (go_at_call 45; refine (WriteStr w.heap.size w.heap.size os [92, c] _ _ hBu.out rfl (by have := HLen.out; simp only [List.length_cons, List.length_nil]; omega) hBel.out.size).mono ?_; rintro e w3 ⟨rfl, h3, hb3⟩; have HB3 := Aside0.mk h3; have HBel3 := Aside0.mk (hBel.out.trans hb3); clear h3 hb3))
          go_roundg (gk - 1)
          case measure => have := hK.out; omega
          case rel => exact ⟨i + 1, by go_num, ⟨by have := hK.out; omega⟩, ⟨by rw [HTake.out, HE.out]; exact HB3.out⟩, HBel3⟩
        · have q2 : (x == 92) = false := beq_eq_false_iff_ne.2 h92
          by_cases hk0 : 0 ≤ k
          · obtain ⟨eb, hk5, hes, hex⟩ := esc_short c x k HX.out HK.out hk0
            have HE := Aside0.mk hes
            have hwk : IntKind.i64.wrap (k + 1) = k + 1 := by rw [IntKind.wrap_i64]; omega
            have hsl := slice_short k eb hk0 hk5 hex
            clear h34 h92 hx hk5 hes hex
            go_wp2_with (first
              | (go_at_call 44; refine (HIdx.out _).mono ?_; rintro e w2 ⟨rfl, rfl⟩)
              | (go_at_call 45; refine (WriteStr w.heap.size w.heap.size os [92, eb] _ _ hBu.out rfl (by have := HLen.out; simp only [List.length_cons, List.length_nil]; omega) hBel.out.size).mono ?_; rintro e w3 ⟨rfl, h3, hb3⟩; have HB3 := Aside0.mk h3; have HBel3 := Aside0.mk (hBel.out.trans hb3); clear h3 hb3))
            go_roundg (gk - 1)
            case measure => have := hK.out; omega
            case rel => exact ⟨i + 1, by go_num, ⟨by have := hK.out; omega⟩, ⟨by rw [HTake.out, HE.out]; exact HB3.out⟩, HBel3⟩
          · by_cases h32 : x < 32
            · obtain ⟨a, b, hab, HFm⟩ := esc_low c x k HX.out HK.out hk0 h34 h92 h32
              have HE := Aside0.mk hab
              have HFm := Aside0.mk HFm
              have hwx : IntKind.i64.wrap x = x := by rw [IntKind.wrap_i64]; omega
              have hwy : IntKind.i64.wrap (x + 256) = x + 256 := by rw [IntKind.wrap_i64]; omega
              have hsl := slice_two a b
              clear h34 h92 hx hab
              go_wp2_with (first
                | (go_at_call 44; refine (HIdx.out _).mono ?_; rintro e w2 ⟨rfl, rfl⟩)
                | (go_at_call 46; refine (HFm.out _ (H.out _ hBel.out)).mono ?_; rintro e w4 ⟨rfl, hb⟩; have HB4 := Aside0.mk (hBel.out.trans (hb.mono hBel.out.size)); have HBu4 := Aside0.mk (bu_below hBu.out hb); clear hb)
                | (go_at_call 45; refine (WriteStr w.heap.size w.heap.size os [92, 117, 48, 48, a, b] _ _ HBu4.out rfl (by have := HLen.out; simp only [List.length_cons, List.length_nil]; omega) HB4.out.size).mono ?_; rintro e w3 ⟨rfl, h3, hb3⟩; have HB3 := Aside0.mk h3; have HBel3 := Aside0.mk (HB4.out.trans hb3); clear h3 hb3))
              go_roundg (gk - 1)
              case measure => have := hK.out; omega
              case rel => exact ⟨i + 1, by go_num, ⟨by have := hK.out; omega⟩, ⟨by rw [HTake.out, HE.out]; exact HB3.out⟩, HBel3⟩
            · have HE := Aside0.mk (esc_else c x k HX.out HK.out hk0 h34 h92 h32)
              clear h34 h92 hx
              go_wp2_with (first
                | (go_at_call 44; refine (HIdx.out _).mono ?_; rintro e w2 ⟨rfl, rfl⟩)
                | (go_at_call 43; refine (WriteByt w.heap.size w.heap.size os c x _ HX.out hBu.out (by have := HLen.out; omega) hBel.out.size).mono ?_; rintro e w3 ⟨rfl, h3, hb3⟩; have HB3 := Aside0.mk h3; have HBel3 := Aside0.mk (hBel.out.trans hb3); clear h3 hb3))
              go_roundg (gk - 1)
              case measure => have := hK.out; omega
              case rel => exact ⟨i + 1, by go_num, ⟨by have := hK.out; omega⟩, ⟨by rw [HTake.out, HE.out]; exact HB3.out⟩, HBel3⟩
    · have hib : ¬ (i : Int) < (l.length : Int) := by omega
      have hil : l.take i = l := List.take_of_length_le (by omega)
      have HLen := Aside0.mk (flat_length l)
      have hbu := hBu.out
      rw [hil] at hbu
      have HBu := Aside0.mk hbu
      clear hBu hbu hil
      go_wp2_with (first
        | (go_at_call 43; refine (WriteByt w.heap.size w.heap.size _ 34 34 _ rfl HBu.out (by have := HLen.out; simp only [List.length_cons]; omega) hBel.out.size).mono ?_; rintro e w3 ⟨rfl, h3, hb3⟩; have HB3 := Aside0.mk h3; have HBel3 := Aside0.mk (hBel.out.trans hb3); clear h3 hb3)
        | (go_at_call 47; refine (Tryz.Builder_String_any w.heap.size w.heap.size _ _ HB3.out HBel3.out.size).mono ?_; rintro e w4 ⟨rfl, hb4⟩; have HBel4 := Aside0.mk (HBel3.out.trans hb4); clear hb4))
      go_ret
      exact ⟨by rw [HRq.out]; rfl, HBel4.out⟩

end Go.Proofs.YtmhfkbgdkgfafaaGreatDoor.Js
end

section
/- json.plain: are all fields empty that a kind does not use? -/
namespace Go.Proofs.YtmhfkbgdkgfafaaGreatDoor.QJson
open Go.RowKit Go.Proofs.YtmhfkbgdkgfafaaGreatDoorW.PrintWords Go.Proofs.YtmhfkbgdkgfafaaGreatDoorW.PrintLast Go.Proofs.YtmhfkbgdkgfafaaGreatDoorW.PrintMore
set_option linter.unusedVariables false
set_option linter.unusedSimpArgs false

def plainB (k n : Int) (t : ByteArray) (ks ps : Nat) : Bool := (k == 4 || n == 0) && (k == 5 || t.toList.isEmpty) && (k == 7 || ks == 0) && (k == 6 || k == 7 || ps == 0)
def json_plain.f (a0_0 : Int) (a0_1 : Int) (a0_2 : ByteArray) (l0_3 : List ByteArray) (l0_4 : List S26) : Option Bool := some (plainB a0_0 a0_1 a0_2 l0_3.length l0_4.length)

set_option maxHeartbeats 8000000 in
set_option maxRecDepth 100000 in
theorem json_plain.calls (a0_0 : Int) (a0_1 : Int) (a0_2 : ByteArray) (A0_3 : Option Addr) (c0_3 : Nat) (l0_3 : List ByteArray) (A0_4 : Option Addr) (c0_4 : Nat) (l0_4 : List (S26)) (r : Bool) (w : World) (hr0_3 : Kd.C Kd.string w A0_3 l0_3.length l0_3) (hc0_3 : l0_3.length ≤ c0_3) (hr0_4 : Kd.C k26 w A0_4 l0_4.length l0_4) (hc0_4 : l0_4.length ≤ c0_4) (h : json_plain.f a0_0 a0_1 a0_2 l0_3 l0_4 = some r) :
    Calls Tryz.prog 36 #[.agg #[.int .i64 a0_0, .int .i64 a0_1, .string a0_2, .slice A0_3 l0_3.length c0_3, .slice A0_4 l0_4.length c0_4]] w fun e w' => e = .returned (.bool r) ∧ Below w.heap.size w w' := by
  obtain rfl := Option.some.inj h
  generalize hks : l0_3.length = ks
  generalize hps : l0_4.length = ps
  have h0 := (⟨trivial⟩ : Aside0 True)
  clear hr0_3 hr0_4 hc0_3 hc0_4 h hks hps
  obtain ⟨r, hr⟩ : ∃ r, r = plainB a0_0 a0_1 a0_2 ks ps := ⟨_, rfl⟩
  rw [← hr]
  by_cases h4 : a0_0 = 4
  · subst h4
    by_cases ht : a0_2.toList = []
    · have q_t : a0_2.toList.isEmpty = true := by rw [ht]; rfl
      have q_t2 : (a0_2.toList == []) = true := by rw [ht]; rfl
      by_cases h_ks : ks = 0
      · subst h_ks
        by_cases h_ps : ps = 0
        · subst h_ps
          have HR := Aside0.mk (show r = true by rw [hr]; unfold plainB; simp [*])
          clear hr
          go_enter Tryz.func36, Tryz.ntmps36
          go_wp2
          go_ret
          exact ⟨by rw [HR.out]; rfl, (below_alloc (below_alloc (Below.refl _ _) _) _)⟩
        · have q_ps : ((ps : Int) == 0) = false := beq_eq_false_iff_ne.2 (by omega)
          have q_ps2 : (ps == 0) = false := beq_eq_false_iff_ne.2 h_ps
          have HR := Aside0.mk (show r = false by rw [hr]; unfold plainB; simp [*])
          clear hr
          go_enter Tryz.func36, Tryz.ntmps36
          go_wp2
          go_ret
          exact ⟨by rw [HR.out]; rfl, (below_alloc (below_alloc (Below.refl _ _) _) _)⟩
      · have q_ks : ((ks : Int) == 0) = false := beq_eq_false_iff_ne.2 (by omega)
        have q_ks2 : (ks == 0) = false := beq_eq_false_iff_ne.2 h_ks
        have HR := Aside0.mk (show r = false by rw [hr]; unfold plainB; simp [*])
        clear hr
        go_enter Tryz.func36, Tryz.ntmps36
        go_wp2
        go_ret
        exact ⟨by rw [HR.out]; rfl, (below_alloc (below_alloc (Below.refl _ _) _) _)⟩
    · have q_t : a0_2.toList.isEmpty = false := by simpa using ht
      have q_t2 : (a0_2.toList == []) = false := beq_eq_false_iff_ne.2 ht
      have HR := Aside0.mk (show r = false by rw [hr]; unfold plainB; simp [*])
      clear hr
      go_enter Tryz.func36, Tryz.ntmps36
      go_wp2
      go_ret
      exact ⟨by rw [HR.out]; rfl, (below_alloc (below_alloc (Below.refl _ _) _) _)⟩
  · have k4 : (a0_0 == 4) = false := beq_eq_false_iff_ne.2 h4
    by_cases h5 : a0_0 = 5
    · subst h5
      by_cases hn : a0_1 = 0
      · subst hn
        by_cases h_ks : ks = 0
        · subst h_ks
          by_cases h_ps : ps = 0
          · subst h_ps
            have HR := Aside0.mk (show r = true by rw [hr]; unfold plainB; simp [*])
            clear hr
            go_enter Tryz.func36, Tryz.ntmps36
            go_wp2
            go_ret
            exact ⟨by rw [HR.out]; rfl, (below_alloc (below_alloc (Below.refl _ _) _) _)⟩
          · have q_ps : ((ps : Int) == 0) = false := beq_eq_false_iff_ne.2 (by omega)
            have q_ps2 : (ps == 0) = false := beq_eq_false_iff_ne.2 h_ps
            have HR := Aside0.mk (show r = false by rw [hr]; unfold plainB; simp [*])
            clear hr
            go_enter Tryz.func36, Tryz.ntmps36
            go_wp2
            go_ret
            exact ⟨by rw [HR.out]; rfl, (below_alloc (below_alloc (Below.refl _ _) _) _)⟩
        · have q_ks : ((ks : Int) == 0) = false := beq_eq_false_iff_ne.2 (by omega)
          have q_ks2 : (ks == 0) = false := beq_eq_false_iff_ne.2 h_ks
          have HR := Aside0.mk (show r = false by rw [hr]; unfold plainB; simp [*])
          clear hr
          go_enter Tryz.func36, Tryz.ntmps36
          go_wp2
          go_ret
          exact ⟨by rw [HR.out]; rfl, (below_alloc (below_alloc (Below.refl _ _) _) _)⟩
      · have q_n : (a0_1 == 0) = false := beq_eq_false_iff_ne.2 hn
        have HR := Aside0.mk (show r = false by rw [hr]; unfold plainB; simp [*])
        clear hr
        go_enter Tryz.func36, Tryz.ntmps36
        go_wp2
        go_ret
        exact ⟨by rw [HR.out]; rfl, (below_alloc (below_alloc (Below.refl _ _) _) _)⟩
    · have k5 : (a0_0 == 5) = false := beq_eq_false_iff_ne.2 h5
      by_cases h6 : a0_0 = 6
      · subst h6
        by_cases hn : a0_1 = 0
        · subst hn
          by_cases ht : a0_2.toList = []
          · have q_t : a0_2.toList.isEmpty = true := by rw [ht]; rfl
            have q_t2 : (a0_2.toList == []) = true := by rw [ht]; rfl
            by_cases h_ks : ks = 0
            · subst h_ks
              have HR := Aside0.mk (show r = true by rw [hr]; unfold plainB; simp [*])
              clear hr
              go_enter Tryz.func36, Tryz.ntmps36
              go_wp2
              go_ret
              exact ⟨by rw [HR.out]; rfl, (below_alloc (below_alloc (Below.refl _ _) _) _)⟩
            · have q_ks : ((ks : Int) == 0) = false := beq_eq_false_iff_ne.2 (by omega)
              have q_ks2 : (ks == 0) = false := beq_eq_false_iff_ne.2 h_ks
              have HR := Aside0.mk (show r = false by rw [hr]; unfold plainB; simp [*])
              clear hr
              go_enter Tryz.func36, Tryz.ntmps36
              go_wp2
              go_ret
              exact ⟨by rw [HR.out]; rfl, (below_alloc (below_alloc (Below.refl _ _) _) _)⟩
          · have q_t : a0_2.toList.isEmpty = false := by simpa using ht
            have q_t2 : (a0_2.toList == []) = false := beq_eq_false_iff_ne.2 ht
            have HR := Aside0.mk (show r = false by rw [hr]; unfold plainB; simp [*])
            clear hr
            go_enter Tryz.func36, Tryz.ntmps36
            go_wp2
            go_ret
            exact ⟨by rw [HR.out]; rfl, (below_alloc (below_alloc (Below.refl _ _) _) _)⟩
        · have q_n : (a0_1 == 0) = false := beq_eq_false_iff_ne.2 hn
          have HR := Aside0.mk (show r = false by rw [hr]; unfold plainB; simp [*])
          clear hr
          go_enter Tryz.func36, Tryz.ntmps36
          go_wp2
          go_ret
          exact ⟨by rw [HR.out]; rfl, (below_alloc (below_alloc (Below.refl _ _) _) _)⟩
      · have k6 : (a0_0 == 6) = false := beq_eq_false_iff_ne.2 h6
        by_cases h7 : a0_0 = 7
        · subst h7
          by_cases hn : a0_1 = 0
          · subst hn
            by_cases ht : a0_2.toList = []
            · have q_t : a0_2.toList.isEmpty = true := by rw [ht]; rfl
              have q_t2 : (a0_2.toList == []) = true := by rw [ht]; rfl
              have HR := Aside0.mk (show r = true by rw [hr]; unfold plainB; simp [*])
              clear hr
              go_enter Tryz.func36, Tryz.ntmps36
              go_wp2
              go_ret
              exact ⟨by rw [HR.out]; rfl, (below_alloc (below_alloc (Below.refl _ _) _) _)⟩
            · have q_t : a0_2.toList.isEmpty = false := by simpa using ht
              have q_t2 : (a0_2.toList == []) = false := beq_eq_false_iff_ne.2 ht
              have HR := Aside0.mk (show r = false by rw [hr]; unfold plainB; simp [*])
              clear hr
              go_enter Tryz.func36, Tryz.ntmps36
              go_wp2
              go_ret
              exact ⟨by rw [HR.out]; rfl, (below_alloc (below_alloc (Below.refl _ _) _) _)⟩
          · have q_n : (a0_1 == 0) = false := beq_eq_false_iff_ne.2 hn
            have HR := Aside0.mk (show r = false by rw [hr]; unfold plainB; simp [*])
            clear hr
            go_enter Tryz.func36, Tryz.ntmps36
            go_wp2
            go_ret
            exact ⟨by rw [HR.out]; rfl, (below_alloc (below_alloc (Below.refl _ _) _) _)⟩
        · have k7 : (a0_0 == 7) = false := beq_eq_false_iff_ne.2 h7
          by_cases hn : a0_1 = 0
          · subst hn
            by_cases ht : a0_2.toList = []
            · have q_t : a0_2.toList.isEmpty = true := by rw [ht]; rfl
              have q_t2 : (a0_2.toList == []) = true := by rw [ht]; rfl
              by_cases h_ks : ks = 0
              · subst h_ks
                by_cases h_ps : ps = 0
                · subst h_ps
                  have HR := Aside0.mk (show r = true by rw [hr]; unfold plainB; simp [*])
                  clear hr
                  go_enter Tryz.func36, Tryz.ntmps36
                  go_wp2
                  go_ret
                  exact ⟨by rw [HR.out]; rfl, (below_alloc (below_alloc (Below.refl _ _) _) _)⟩
                · have q_ps : ((ps : Int) == 0) = false := beq_eq_false_iff_ne.2 (by omega)
                  have q_ps2 : (ps == 0) = false := beq_eq_false_iff_ne.2 h_ps
                  have HR := Aside0.mk (show r = false by rw [hr]; unfold plainB; simp [*])
                  clear hr
                  go_enter Tryz.func36, Tryz.ntmps36
                  go_wp2
                  go_ret
                  exact ⟨by rw [HR.out]; rfl, (below_alloc (below_alloc (Below.refl _ _) _) _)⟩
              · have q_ks : ((ks : Int) == 0) = false := beq_eq_false_iff_ne.2 (by omega)
                have q_ks2 : (ks == 0) = false := beq_eq_false_iff_ne.2 h_ks
                have HR := Aside0.mk (show r = false by rw [hr]; unfold plainB; simp [*])
                clear hr
                go_enter Tryz.func36, Tryz.ntmps36
                go_wp2
                go_ret
                exact ⟨by rw [HR.out]; rfl, (below_alloc (below_alloc (Below.refl _ _) _) _)⟩
            · have q_t : a0_2.toList.isEmpty = false := by simpa using ht
              have q_t2 : (a0_2.toList == []) = false := beq_eq_false_iff_ne.2 ht
              have HR := Aside0.mk (show r = false by rw [hr]; unfold plainB; simp [*])
              clear hr
              go_enter Tryz.func36, Tryz.ntmps36
              go_wp2
              go_ret
              exact ⟨by rw [HR.out]; rfl, (below_alloc (below_alloc (Below.refl _ _) _) _)⟩
          · have q_n : (a0_1 == 0) = false := beq_eq_false_iff_ne.2 hn
            have HR := Aside0.mk (show r = false by rw [hr]; unfold plainB; simp [*])
            clear hr
            go_enter Tryz.func36, Tryz.ntmps36
            go_wp2
            go_ret
            exact ⟨by rw [HR.out]; rfl, (below_alloc (below_alloc (Below.refl _ _) _) _)⟩

end Go.Proofs.YtmhfkbgdkgfafaaGreatDoor.QJson
end

section
/- json.Of: a value's text. -/
namespace Go.Proofs.YtmhfkbgdkgfafaaGreatDoor.Js
open Go.RowKit Go.Proofs.YtmhfkbgdkgfafaaGreatDoor.QJson Go.Proofs.YtmhfkbgdkgfafaaGreatDoorW.PrintWords Go.Proofs.YtmhfkbgdkgfafaaGreatDoorW.PrintLast Go.Proofs.YtmhfkbgdkgfafaaGreatDoorW.PrintMore
set_option linter.unusedVariables false
set_option linter.unusedSimpArgs false

mutual
/-- A value's text. -/
def vt : S26 → List UInt8
  | ⟨k, n, t, ks, ps⟩ =>
    if k = 2 then [102, 97, 108, 115, 101] else if k = 3 then [116, 114, 117, 101] else if k = 4 then Lib.itoa n else if k = 5 then quote t.data.toList
    else if k = 6 then 91 :: (Lib.join (vts k ks ps) [44] ++ [93]) else if k = 7 then 123 :: (Lib.join (vts k ks ps) [44] ++ [125]) else [110, 117, 108, 108]
def vts : Int → List ByteArray → List S26 → List (List UInt8)
  | _, _, [] => []
  | k, ks, p :: ps => (if k = 7 then quote (ks.headD ⟨#[]⟩).data.toList ++ 58 :: vt p else vt p) :: vts k ks.tail ps
end
/-- One item's text. -/
def item (k : Int) (key : ByteArray) (p : S26) : List UInt8 := if k = 7 then quote key.data.toList ++ 58 :: vt p else vt p
theorem vts_length (k : Int) : ∀ (ps : List S26) (ks : List ByteArray), (vts k ks ps).length = ps.length
  | [], _ => rfl
  | p :: ps, ks => by rw [vts, List.length_cons, vts_length k ps, List.length_cons]
theorem vts_get (k : Int) : ∀ (ps : List S26) (ks : List ByteArray) (i : Nat) (hi : i < ps.length), (vts k ks ps)[i]? = some (item k (ks.getD i ⟨#[]⟩) ps[i])
  | [], _, i, hi => absurd hi (Nat.not_lt_zero _)
  | p :: ps, ks, 0, _ => by rw [vts]; cases ks <;> rfl
  | p :: ps, ks, i + 1, hi => by
    rw [vts, List.getElem?_cons_succ, vts_get k ps ks.tail i (by simpa using hi)]
    cases ks <;> simp

/-- Keys in their order. -/
def Ascs (ks : List ByteArray) : Prop := ∀ i (h : i + 1 < ks.length), Op.bytesLess (ks[i]).toList (ks[i + 1]).toList = true
/-- As a value may be. -/
inductive WF : Nat → S26 → Prop
  | mk {d : Nat} {v : S26} (k1 : 1 ≤ v.f0) (k7 : v.f0 ≤ 7) (pl : plainB v.f0 v.f1 v.f2 v.f3.length v.f4.length = true) (kp : v.f0 = 7 → v.f3.length = v.f4.length)
    (n0 : -9007199254740992 < v.f1) (n1 : v.f1 < 9007199254740992) (ha : Ascs v.f3) (ps : ∀ p ∈ v.f4, WF d p) : WF (d + 1) v
theorem WF.leaf {d : Nat} {v : S26} (h : WF d v) (h6 : v.f0 ≠ 6) (h7 : v.f0 ≠ 7) : v.f4 = [] := by
  obtain ⟨k1, k7, pl, kp, n0, n1, ha, ps⟩ := h
  unfold plainB at pl
  have e6 : (v.f0 == 6) = false := beq_eq_false_iff_ne.2 h6
  have e7 : (v.f0 == 7) = false := beq_eq_false_iff_ne.2 h7
  rw [e6, e7] at pl
  simp only [Bool.false_or, Bool.and_eq_true, beq_iff_eq] at pl
  exact List.length_eq_zero_iff.1 pl.2
theorem WF.part {d : Nat} {v p : S26} (h : WF (d + 1) v) (hp : p ∈ v.f4) : WF d p := by
  cases h with
  | mk _ _ _ _ _ _ _ h => exact h p hp
theorem WF.keys {d : Nat} {v : S26} (h : WF d v) (h7 : v.f0 = 7) : v.f3.length = v.f4.length := by
  cases h with
  | mk _ _ _ h _ _ _ _ => exact h h7
theorem WF.plainOk {d : Nat} {v : S26} (h : WF d v) : plainB v.f0 v.f1 v.f2 v.f3.length v.f4.length = true := by
  cases h with
  | mk _ _ h _ _ _ _ _ => exact h
theorem WF.ascOk {d : Nat} {v : S26} (h : WF d v) : Ascs v.f3 := by
  cases h with
  | mk _ _ _ _ _ _ h _ => exact h
theorem WF.keysLen {d : Nat} {v : S26} (h : WF d v) : v.f3.length ≤ v.f4.length := by
  by_cases h7 : v.f0 = 7
  · rw [h.keys h7]; exact Nat.le_refl _
  · have pl := h.plainOk
    unfold plainB at pl
    have e7 : (v.f0 == 7) = false := beq_eq_false_iff_ne.2 h7
    rw [e7] at pl
    simp only [Bool.false_or, Bool.and_eq_true, beq_iff_eq] at pl
    omega
theorem WF.num {d : Nat} {v : S26} (h : WF d v) : -9007199254740992 < v.f1 ∧ v.f1 < 9007199254740992 := by
  cases h with
  | mk _ _ _ _ h0 h1 _ _ => exact ⟨h0, h1⟩
theorem WF.kind {d : Nat} {v : S26} (h : WF d v) : 1 ≤ v.f0 ∧ v.f0 ≤ 7 := by
  cases h with
  | mk h0 h1 _ _ _ _ _ _ => exact ⟨h0, h1⟩
theorem box_cells (w : World) (cs : Array Value) (j : Nat) (u : Value) (h : cs[j]? = some u) : (w.alloc (.cells cs 26)).cell? ⟨w.heap.size, j, none⟩ = some u := by
  rw [World.cell?_alloc_new]; exact h
theorem join_le {x : List UInt8} {xs : List (List UInt8)} {sep : List UInt8} (h : x ∈ xs) : x.length ≤ (Lib.join xs sep).length := by
  induction xs with
  | nil => cases h
  | cons y ys ih =>
    cases ys with
    | nil =>
      rw [Lib.join_one]
      rw [List.mem_singleton.1 h]; exact Nat.le_refl _
    | cons z zs =>
      have he : Lib.join (y :: z :: zs) sep = y ++ sep ++ Lib.join (z :: zs) sep := by
        simp [Lib.join, List.intercalate, List.intersperse]
      rw [he]
      rcases List.mem_cons.1 h with rfl | h
      · simp only [List.length_append]; omega
      · have := ih h
        simp only [List.length_append]; omega
/-- Both tables of the library's. -/
structure Tabs (w : World) : Prop where
  deb : Lib.TabIs Tryz.prog w "math/bits.deBruijn64tab" .u8 tab64
  pow : Lib.TabIs Tryz.prog w "internal/strconv.uint64pow10" .u64 Lib.pow10Tab
theorem Tabs.below {w w' : World} (h : Tabs w) (hb : Below w.heap.size w w') : Tabs w' := ⟨Lib.tabBelow_of_tabIs h.deb w' hb, Lib.tabBelow_of_tabIs h.pow w' hb⟩
theorem itoa_calls (n : Int) (h0 : -9007199254740992 < n) (h1 : n < 9007199254740992) (w : World) (hT : Tabs w) : Calls Tryz.prog 27 #[.int .i64 n] w fun e w' => e = .returned (.string ⟨(Lib.itoa n).toArray⟩) ∧ Below w.heap.size w w' := by
  refine (Tryz.strconv_Itoa n (by omega) (by omega) w hT.pow).mono ?_
  rintro e w' ⟨rfl, k, os, rfl⟩
  exact ⟨rfl, Lib.below_grow _ _ (Nat.le_refl _) k os⟩
/-- A text as a string. -/
def str (l : List UInt8) : ByteArray := ⟨l.toArray⟩
theorem str_list (l : List UInt8) : (str l).data.toList = l := by simp [str]
theorem str_append (a b : List UInt8) : str a ++ str b = str (a ++ b) := by
  apply ByteArray.ext
  rw [ByteArray.data_append]
  simp [str]
theorem quoted_calls (s : ByteArray) (hn : s.data.toList.length ≤ 1000000) (w : World) (hT : Tabs w) : Calls Tryz.prog 26 #[.string s] w fun e w' => e = .returned (.string (str (quote s.data.toList))) ∧ Below w.heap.size w w' := quoted_walk s _ rfl hn w hT.deb
theorem str_size (l : List UInt8) : (str l).size = l.length := by rw [← ByteArray.size_data]; simp [str]
/-- strings.Join of strings of the call's own. -/
theorem join_calls {w : World} {base : Nat} {ok : Nat → Prop} {A : Option Addr} {c : Nat} (xs : List (List UInt8)) (h : Kd.string.R 9 w base ok (.slice A (xs.map str).length c) (xs.map str)) (hl : (Lib.join xs [44]).length ≤ 1000000) (hn : xs.length ≤ 1000000) :
    Calls Tryz.prog 28 #[.slice A (xs.map str).length c, .string ⟨#[44]⟩] w fun e w' => e = .returned (.string (str (Lib.join xs [44]))) ∧ Below w.heap.size w w' := by
  have ho := Kd.own_of_R h
  rcases ho.2 with ⟨hv, h0⟩ | ⟨g, cap, cur, hv, hb, hh, hc, hm, hs, ht⟩
  · have hx : xs = [] := by simpa using h0
    subst hx
    refine (Tryz.strings_Join_none A c ⟨#[44]⟩ w).mono ?_
    rintro e w' ⟨rfl, rfl⟩
    exact ⟨rfl, Below.refl _ _⟩
  · injection hv with e1 e2 e3
    subst e1 e3
    have hmap : (xs.map str).map (fun x : ByteArray => x.data.toList) = xs := by
      rw [List.map_map, show ((fun x : ByteArray => x.data.toList) ∘ str) = id from funext str_list, List.map_id]
    have hj := Tryz.strings_Join g 0 c (xs.map str) ⟨#[44]⟩ w (fun j x hj => by
        have hjl := (List.getElem?_eq_some_iff.1 hj).1
        rw [Nat.zero_add, blk_cell hh]
        have h2 : ((cur.toList.take ((xs.map str).length * 1)))[j]? = some (.string x) := by
          rw [ht]; show ((xs.map str).map Value.string)[j]? = _; rw [List.getElem?_map, hj]; rfl
        rw [List.getElem?_take_of_lt (by omega)] at h2
        simpa using h2) (own_lt ho g (by simp [Value.ownBlock])) (by rw [List.length_map]; omega) (by simpa using hc) (by rw [hmap]; show (Lib.join xs [44]).length ≤ _; omega)
    rw [hmap] at hj
    exact hj

theorem quote_le (l : List UInt8) : l.length ≤ (quote l).length := by
  have h : l.length ≤ (l.flatMap esc).length := by
    induction l with
    | nil => simp
    | cons c l ih =>
      rw [List.flatMap_cons, List.length_append, List.length_cons]
      have : 1 ≤ (esc c).length := by
        unfold esc
        repeat' split
        all_goals simp
      omega
  unfold quote
  simp only [List.length_cons, List.length_append]
  omega
theorem item_le {k n : Int} {t : ByteArray} {ks : List ByteArray} {ps : List S26} (h67 : k = 6 ∨ k = 7) {i : Nat} (hi : i < ps.length) : (item k (ks.getD i ⟨#[]⟩) ps[i]).length ≤ (vt ⟨k, n, t, ks, ps⟩).length ∧ (vts k ks ps).length = ps.length := by
  have hm : item k (ks.getD i ⟨#[]⟩) ps[i] ∈ vts k ks ps := List.mem_of_getElem? (vts_get k ps ks i hi)
  have h1 := join_le (sep := [44]) hm
  refine ⟨?_, vts_length _ _ _⟩
  rcases h67 with rfl | rfl
  · rw [vt, if_neg (by decide), if_neg (by decide), if_neg (by decide), if_neg (by decide), if_pos rfl]
    simp only [List.length_cons, List.length_append]; omega
  · rw [vt, if_neg (by decide), if_neg (by decide), if_neg (by decide), if_neg (by decide), if_neg (by decide), if_pos rfl]
    simp only [List.length_cons, List.length_append]; omega
theorem join_count (xs : List (List UInt8)) : xs.length ≤ (Lib.join xs [44]).length + 1 := by
  induction xs with
  | nil => simp
  | cons y ys ih =>
    cases ys with
    | nil => simp
    | cons z zs =>
      have he : Lib.join (y :: z :: zs) [44] = y ++ [44] ++ Lib.join (z :: zs) [44] := by
        simp [Lib.join, List.intercalate, List.intersperse]
      rw [he]
      simp only [List.length_append, List.length_cons] at ih ⊢
      omega
theorem vts_count {k n : Int} {t : ByteArray} {ks : List ByteArray} {ps : List S26} (h67 : k = 6 ∨ k = 7) (hl : (vt ⟨k, n, t, ks, ps⟩).length ≤ 1000000) : ps.length ≤ 1000001 := by
  have h1 := join_count (vts k ks ps)
  rw [vts_length] at h1
  rcases h67 with rfl | rfl
  · rw [vt, if_neg (by decide), if_neg (by decide), if_neg (by decide), if_neg (by decide), if_pos rfl] at hl
    simp only [List.length_cons, List.length_append] at hl; omega
  · rw [vt, if_neg (by decide), if_neg (by decide), if_neg (by decide), if_neg (by decide), if_neg (by decide), if_pos rfl] at hl
    simp only [List.length_cons, List.length_append] at hl; omega
theorem key_cell {w : World} {ks : List ByteArray} {kd : Addr} {key : ByteArray} (h : Kd.C Kd.string w (some kd) ks.length ks) (i : Nat) (h0 : (0 : Int) ≤ i) (h1 : (i : Int) < ks.length) (hk : key = ks.getD i ⟨#[]⟩) : w.cell? (kd.add i) = some (.string key) := by
  obtain ⟨ad, e, hc⟩ := Kd.at_string h (i : Int) h0 h1
  cases e
  rw [Int.toNat_natCast] at hc
  rw [hc, hk]; rfl
theorem item_part (k : Int) (key : ByteArray) (p : S26) : (vt p).length ≤ (item k key p).length := by
  unfold item; split
  · simp only [List.length_append, List.length_cons]; omega
  · exact Nat.le_refl _
theorem item_key (key : ByteArray) (p : S26) : key.data.toList.length ≤ (item 7 key p).length := by
  unfold item; rw [if_pos rfl]
  have := quote_le key.data.toList
  simp only [List.length_append, List.length_cons]; omega
theorem take_item (k : Int) (ks : List ByteArray) (ps : List S26) (i : Nat) (hi : i < ps.length) : (((vts k ks ps).take (i + 1)).map str) = ((vts k ks ps).take i).map str ++ [str (item k (ks.getD i ⟨#[]⟩) ps[i])] := by
  have h := vts_get k ps ks i hi
  obtain ⟨h1, h2⟩ := List.getElem?_eq_some_iff.1 h
  rw [List.take_succ_eq_append_getElem h1, h2, List.map_append]; rfl

set_option maxHeartbeats 8000000 in
set_option maxRecDepth 100000 in
theorem of_walk : ∀ (d : Nat) (v : S26) (hv : WF d v) (hl : (vt v).length ≤ 1000000) (A3 : Option Addr) (c3 : Nat) (A4 : Option Addr) (c4 : Nat) (w : World) (h3 : Kd.C Kd.string w A3 v.f3.length v.f3) (l3 : v.f3.length ≤ c3) (h4 : Kd.C k26 w A4 v.f4.length v.f4) (l4 : v.f4.length ≤ c4) (hT : Tabs w),
    Calls Tryz.prog 19 #[.agg #[.int .i64 v.f0, .int .i64 v.f1, .string v.f2, .slice A3 v.f3.length c3, .slice A4 v.f4.length c4]] w fun e w' => e = .returned (.string (str (vt v))) ∧ Below w.heap.size w w'
  | 0, v, hv => nomatch hv
  | d + 1, v, hv => by
    intro hl A3 c3 A4 c4 w h3 l3 h4 l4 hT
    have IH := Aside0.mk (of_walk d)
    have HV := Aside0.mk hv
    have H3 := Aside0.mk h3
    have H4 := Aside0.mk h4
    have HT := Aside0.mk hT
    have HL := Aside0.mk hl
    obtain ⟨k, n, t, ks, ps⟩ := v
    dsimp only at *
    clear hv h3 h4 hT hl l3 l4
    go_enter Tryz.func19, Tryz.ntmps19
    go_wp2
    obtain ⟨g, hg⟩ : ∃ g, g = w.heap.size := ⟨_, rfl⟩
    have HG := Aside0.mk (show g < (w.alloc (.cells #[.int .i64 k, .int .i64 n, .string t, .slice A3 ks.length c3, .slice A4 ps.length c4] 26)).heap.size by rw [hg]; simp)
    have HB1 := Aside0.mk (show Below w.heap.size w (w.alloc (.cells #[.int .i64 k, .int .i64 n, .string t, .slice A3 ks.length c3, .slice A4 ps.length c4] 26)) from below_alloc (Below.refl _ _) _)
    have HC := Aside0.mk (box_cells w #[.int .i64 k, .int .i64 n, .string t, .slice A3 ks.length c3, .slice A4 ps.length c4])
    generalize w.alloc (.cells #[.int .i64 k, .int .i64 n, .string t, .slice A3 ks.length c3, .slice A4 ps.length c4] 26) = W1 at HG HB1 HC ⊢
    rw [← hg] at HC ⊢
    clear hg
    have HT1 := Aside0.mk (HT.out.below HB1.out)
    have H3' := Aside0.mk (Kd.C_below H3.out HB1.out)
    have H4' := Aside0.mk (Kd.C_below H4.out HB1.out)
    clear HT H3 H4
    go_loopg [3, 10] ps.length (fun kq v3 v10 wr => ∃ (i : Nat), v10 = .int .i64 i ∧ Aside0 (kq + i = ps.length) ∧ Aside0 (Kd.R Kd.string 9 wr W1.heap.size (fun _ => True) v3 (((vts k ks ps).take i).map str)) ∧ Aside0 (Below W1.heap.size W1 wr))
    case atStart => exact ⟨0, rfl, ⟨by omega⟩, ⟨Kd.R_nil _ _ _ _ _⟩, ⟨Below.refl _ _⟩⟩
    case round =>
      obtain ⟨i, rfl, hK, hO, hW⟩ := hrel
      have x0 := (hW.out.cell (p := ⟨g, 0, none⟩) HG.out).trans (HC.out 0 _ rfl)
      have x1 := (hW.out.cell (p := ⟨g, 1, none⟩) HG.out).trans (HC.out 1 _ rfl)
      have x2 := (hW.out.cell (p := ⟨g, 2, none⟩) HG.out).trans (HC.out 2 _ rfl)
      have x3 := (hW.out.cell (p := ⟨g, 3, none⟩) HG.out).trans (HC.out 3 _ rfl)
      have hO2 := hO.out
      obtain ⟨A, c, hv3⟩ := Kd.R_slice hO2
      obtain ⟨olds, holds⟩ : ∃ o, o = ((vts k ks ps).take i).map str := ⟨_, rfl⟩
      have HOl := Aside0.mk holds
      rw [← holds] at hO2 hv3
      obtain ⟨no, hno⟩ : ∃ m, m = olds.length := ⟨_, rfl⟩
      rw [← hno] at hv3
      subst hv3
      have HO2 := Aside0.mk hO2
      have HNo := Aside0.mk hno
      clear holds hO2 hO hno
      by_cases hlt : i < ps.length
      · have hi1 : (i : Int) < (ps.length : Int) := by omega
        have hi0 : (0 : Int) ≤ (i : Int) := by omega
        have HTk := Aside0.mk (take_item k ks ps i hlt)
        have h67 : k = 6 ∨ k = 7 := by
          by_cases h6 : k = 6
          · exact .inl h6
          · by_cases h7 : k = 7
            · exact .inr h7
            · have := HV.out.leaf h6 h7
              rw [show ps = [] from this] at hlt
              exact absurd hlt (Nat.not_lt_zero _)
        have HIt := Aside0.mk (item_le (n := n) (t := t) (ks := ks) h67 hlt)
        have hwf := HV.out.part (List.getElem_mem hlt)
        have hel : rd_T26 ps (i : Int) = ps[i] := by simp [rd_T26, List.getD_eq_getElem?_getD, hlt]
        obtain ⟨ad, B3, b3, B4, b4, hA4, e0, e1, e2, e3, e4, l3, g3, l4, g4⟩ := at_T26 (Kd.C_below H4'.out hW.out) (i : Int) hi0 hi1
        subst hA4
        rw [hel] at e0 e1 e2 e3 e4 l3 g3 l4 g4
        rw [Int.toNat_natCast] at e0 e1 e2 e3 e4
        generalize ps[i] = p at HTk HIt hwf e0 e1 e2 e3 e4 l3 g3 l4 g4
        have HWf := Aside0.mk hwf
        have HG3 := Aside0.mk (And.intro g3 l3)
        have HG4 := Aside0.mk (And.intro g4 l4)
        have HIH := Aside0.mk (fun B3 b3 B4 b4 w h3 l3 h4 l4 hT => IH.out p hwf (by have h1 := HIt.out.1; have h2 := item_part k (ks.getD i ⟨#[]⟩) p; have h3 := HL.out; omega) B3 b3 B4 b4 w h3 l3 h4 l4 hT)
        obtain ⟨sv, hsv⟩ : ∃ s, s = str (vt p) := ⟨_, rfl⟩
        rw [← hsv] at HIH
        have HSv := Aside0.mk hsv
        obtain ⟨f0, f1, f2, f3, f4⟩ := p
        dsimp only at e0 e1 e2 e3 e4 HG3 HG4 HIH
        clear hwf hel l3 g3 l4 g4 hsv
        have HPs := Aside0.mk (vts_count (n := n) (t := t) (ks := ks) (ps := ps) h67 HL.out)
        have HNl := Aside0.mk (show olds.length ≤ i by rw [HOl.out, List.length_map, List.length_take]; omega)
        have hwi : IntKind.i64.wrap ((i : Int) + 1) = (i : Int) + 1 := by have := HPs.out; rw [IntKind.wrap_i64]; omega
        rcases h67 with rfl | rfl
        · have q7 : ((6 : Int) == 7) = false := by decide
          go_wp2_with (first
            | (have _s := HSv; go_at_call 19; refine (HIH.out B3 b3 B4 b4 _ (Kd.C_below HG3.out.1 (below_alloc (Below.refl _ _) _)) HG3.out.2 (Kd.C_below HG4.out.1 (below_alloc (Below.refl _ _) _)) HG4.out.2 ((HT1.out.below hW.out).below (below_alloc (Below.refl _ _) _))).mono ?_; rintro e w5 ⟨rfl, hb⟩; have S5 := Aside0.mk ((below_alloc (Below.refl _ _) _).trans (hb.mono (by simp))); have HW5 := Aside0.mk (hW.out.trans (S5.out.mono hW.out.size)); have y0 := (HW5.out.cell (p := ⟨g, 0, none⟩) HG.out).trans (HC.out 0 _ rfl); have y3 := (HW5.out.cell (p := ⟨g, 3, none⟩) HG.out).trans (HC.out 3 _ rfl); clear hb _s)
            | ((with_reducible refine gate_builtin (b := .append) (xs := #[.tmp 29, .tmp 31]) rfl ?_); at_builtin; refine Kd.R_append Kd.string (w0 := W1) W1.heap.size rfl (.tmp 29) (.tmp 31) 23 9 _ _ rfl Tryz.underlying23 info9 rfl (by decide) (by omega) _ olds sv [.string sv] (fun _ => True) (fun _ => False) (by first | rfl | (rw [← HNo.out]; rfl)) (by first | (go_simp; done) | (go_simp; rfl)) rfl (fun _ h => h.elim) (fun _ _ => trivial) (Kd.R_below HO2.out S5.out) HW5.out HW5.out.size (by have h1 := HNl.out; have h2 := HPs.out; omega) ?_; intro v6 w6 ho hb _ _; have HO6 := Aside0.mk ho; have HB6 := Aside0.mk hb; clear ho hb))
          go_roundg (gk - 1)
          case measure => have := hK.out; omega
          case rel => exact ⟨i + 1, by go_num, ⟨by have := hK.out; omega⟩, ⟨by rw [HTk.out, ← HOl.out, item, if_neg (by decide), ← HSv.out]; exact HO6.out⟩, HB6⟩
        · have q7 : ((7 : Int) == 7) = true := by decide
          have hkl : (i : Int) < (ks.length : Int) := by have := HV.out.keys rfl; dsimp only at this; omega
          obtain ⟨kd, hA3, _⟩ := Kd.at_string H3'.out (i : Int) hi0 hkl
          subst hA3
          obtain ⟨key, hkey⟩ : ∃ key, key = ks.getD i ⟨#[]⟩ := ⟨_, rfl⟩
          have HKey := Aside0.mk (fun (w' : World) (h : Kd.C Kd.string w' (some kd) ks.length ks) => key_cell h i hi0 hkl hkey)
          have HQ := Aside0.mk (fun w hT => quoted_calls key (by have h1 := HIt.out.1; rw [← hkey] at h1; have h2 := item_key key ⟨f0, f1, f2, f3, f4⟩; have h3 := HL.out; omega) w hT)
          rw [← hkey] at HTk
          obtain ⟨qk, hqk⟩ : ∃ q, q = str (quote key.data.toList) := ⟨_, rfl⟩
          rw [← hqk] at HQ
          obtain ⟨q1, hq1⟩ : ∃ q, q = qk ++ (⟨#[58]⟩ : ByteArray) := ⟨_, rfl⟩
          obtain ⟨q2, hq2⟩ : ∃ q, q = q1 ++ sv := ⟨_, rfl⟩
          have HQ2 := Aside0.mk (show str (item 7 key ⟨f0, f1, f2, f3, f4⟩) = q2 by
            rw [hq2, hq1, hqk, HSv.out, show (⟨#[58]⟩ : ByteArray) = str [58] from rfl, str_append, str_append, item, if_pos rfl]; simp)
          have hz1 : ¬ 9223372036854775807 < qk.size + 1 := by
            have h1 := HIt.out.1; rw [← hkey] at h1
            have h2 : (quote key.data.toList).length ≤ (item 7 key ⟨f0, f1, f2, f3, f4⟩).length := by rw [item, if_pos rfl, List.length_append]; omega
            have h3 := HL.out
            rw [hqk, str_size]; omega
          have hz2 : ¬ 9223372036854775807 < q1.size + sv.size := by
            have h1 := HIt.out.1; rw [← hkey] at h1
            have h2 : (quote key.data.toList).length ≤ (item 7 key ⟨f0, f1, f2, f3, f4⟩).length := by rw [item, if_pos rfl, List.length_append]; omega
            have h4 := item_part 7 key ⟨f0, f1, f2, f3, f4⟩
            have h3 := HL.out
            rw [hq1, hqk, HSv.out, show (⟨#[58]⟩ : ByteArray) = str [58] from rfl, str_append, str_size, str_size, List.length_append]
            simp only [List.length_cons, List.length_nil]; omega
          have hc1 := hq1.symm
          have hc2 := hq2.symm
          clear hkey hqk hq1 hq2
          go_wp2_with (first
            | (have _s := HSv; go_at_call 19; refine (HIH.out B3 b3 B4 b4 _ (Kd.C_below HG3.out.1 (below_alloc (Below.refl _ _) _)) HG3.out.2 (Kd.C_below HG4.out.1 (below_alloc (Below.refl _ _) _)) HG4.out.2 ((HT1.out.below hW.out).below (below_alloc (Below.refl _ _) _))).mono ?_; rintro e w5 ⟨rfl, hb⟩; have S5 := Aside0.mk ((below_alloc (Below.refl _ _) _).trans (hb.mono (by simp))); have HW5 := Aside0.mk (hW.out.trans (S5.out.mono hW.out.size)); have y0 := (HW5.out.cell (p := ⟨g, 0, none⟩) HG.out).trans (HC.out 0 _ rfl); have y3 := (HW5.out.cell (p := ⟨g, 3, none⟩) HG.out).trans (HC.out 3 _ rfl); have z0 := HKey.out w5 (Kd.C_below H3'.out HW5.out); clear hb _s HKey)
            | (go_at_call 26; refine (HQ.out _ (HT1.out.below HW5.out)).mono ?_; rintro e w7 ⟨rfl, hb⟩; have S7 := Aside0.mk hb; have HW7 := Aside0.mk (HW5.out.trans (hb.mono HW5.out.size)); clear hb)
            | ((with_reducible refine gate_builtin (b := .append) (xs := #[.tmp 29, .tmp 31]) rfl ?_); at_builtin; refine Kd.R_append Kd.string (w0 := W1) W1.heap.size rfl (.tmp 29) (.tmp 31) 23 9 _ _ rfl Tryz.underlying23 info9 rfl (by decide) (by omega) _ olds q2 [.string q2] (fun _ => True) (fun _ => False) (by first | rfl | (rw [← HNo.out]; rfl)) (by first | (go_simp; done) | (go_simp; rfl)) rfl (fun _ h => h.elim) (fun _ _ => trivial) (Kd.R_below (Kd.R_below HO2.out S5.out) S7.out) HW7.out HW7.out.size (by have h1 := HNl.out; have h2 := HPs.out; omega) ?_; intro v6 w6 ho hb _ _; have HO6 := Aside0.mk ho; have HB6 := Aside0.mk hb; clear ho hb))
          go_roundg (gk - 1)
          case measure => have := hK.out; omega
          case rel => exact ⟨i + 1, by go_num, ⟨by have := hK.out; omega⟩, ⟨by rw [HTk.out, ← HOl.out, HQ2.out]; exact HO6.out⟩, HB6⟩
      · have hil : i = ps.length := by have := hK.out; omega
        have hib : ¬ (i : Int) < (ps.length : Int) := by omega
        have hall : olds = (vts k ks ps).map str := by rw [HOl.out, List.take_of_length_le (by rw [vts_length]; omega)]
        have HRo := Aside0.mk (show Kd.R Kd.string 9 wr W1.heap.size (fun _ => True) (.slice A ((vts k ks ps).map str).length c) ((vts k ks ps).map str) by
          have h1 := HO2.out
          rw [HNo.out, hall] at h1; exact h1)
        have hno2 : no = ((vts k ks ps).map str).length := by rw [HNo.out, hall]
        have hkr := HV.out.kind
        dsimp only at hkr
        clear hil hall
        by_cases e2 : k = 2
        · have HR := Aside0.mk (show str (vt ⟨k, n, t, ks, ps⟩) = ⟨#[102, 97, 108, 115, 101]⟩ by rw [vt, if_pos e2]; rfl)
          subst e2
          go_wp2
          go_ret
          exact ⟨by rw [HR.out]; rfl, HB1.out.trans (hW.out.mono HB1.out.size)⟩
        · have f2 : (k == 2) = false := beq_eq_false_iff_ne.2 e2
          by_cases e3 : k = 3
          · have HR := Aside0.mk (show str (vt ⟨k, n, t, ks, ps⟩) = ⟨#[116, 114, 117, 101]⟩ by rw [vt, if_neg e2, if_pos e3]; rfl)
            subst e3
            go_wp2
            go_ret
            exact ⟨by rw [HR.out]; rfl, HB1.out.trans (hW.out.mono HB1.out.size)⟩
          · have f3 : (k == 3) = false := beq_eq_false_iff_ne.2 e3
            by_cases e4 : k = 4
            · have HR := Aside0.mk (show str (vt ⟨k, n, t, ks, ps⟩) = str (Lib.itoa n) by rw [vt, if_neg e2, if_neg e3, if_pos e4])
              have HN := Aside0.mk HV.out.num
              subst e4
              go_wp2_with (first
                | (go_at_call 27; refine (itoa_calls n HN.out.1 HN.out.2 _ (HT1.out.below hW.out)).mono ?_; rintro e w5 ⟨rfl, hb⟩; have S5 := Aside0.mk hb; clear hb))
              go_ret
              exact ⟨by rw [HR.out]; rfl, HB1.out.trans ((hW.out.trans (S5.out.mono hW.out.size)).mono HB1.out.size)⟩
            · have f4 : (k == 4) = false := beq_eq_false_iff_ne.2 e4
              by_cases e5 : k = 5
              · have HR := Aside0.mk (show str (vt ⟨k, n, t, ks, ps⟩) = str (quote t.data.toList) by rw [vt, if_neg e2, if_neg e3, if_neg e4, if_pos e5])
                have HQ := Aside0.mk (fun w hT => quoted_calls t (by
                  have h1 := quote_le t.data.toList
                  have h2 := HL.out
                  have h3 := congrArg ByteArray.size HR.out
                  rw [str_size, str_size] at h3; omega) w hT)
                subst e5
                go_wp2_with (first
                  | (go_at_call 26; refine (HQ.out _ (HT1.out.below hW.out)).mono ?_; rintro e w5 ⟨rfl, hb⟩; have S5 := Aside0.mk hb; clear hb))
                go_ret
                exact ⟨by rw [HR.out]; rfl, HB1.out.trans ((hW.out.trans (S5.out.mono hW.out.size)).mono HB1.out.size)⟩
              · have f5 : (k == 5) = false := beq_eq_false_iff_ne.2 e5
                by_cases e6 : k = 6
                · have HR := Aside0.mk (show str (vt ⟨k, n, t, ks, ps⟩) = str (91 :: (Lib.join (vts k ks ps) [44] ++ [93])) by rw [vt, if_neg e2, if_neg e3, if_neg e4, if_neg e5, if_pos e6])
                  have hjl : (Lib.join (vts k ks ps) [44]).length + 2 ≤ 1000000 := by
                    have h2 := HL.out
                    have h3 := congrArg ByteArray.size HR.out
                    rw [str_size, str_size] at h3
                    simp only [List.length_cons, List.length_append, List.length_nil] at h3; omega
                  have HJ := Aside0.mk (fun (w' : World) (hb : Below wr.heap.size wr w') => join_calls (vts k ks ps) (Kd.R_below HRo.out hb) (by omega) (by have h1 := join_count (vts k ks ps); omega))
                  rw [← hno2] at HJ
                  obtain ⟨sj, hsj⟩ : ∃ s, s = str (Lib.join (vts k ks ps) [44]) := ⟨_, rfl⟩
                  rw [← hsj] at HJ
                  obtain ⟨q1, hq1⟩ : ∃ q, q = (⟨#[91]⟩ : ByteArray) ++ sj := ⟨_, rfl⟩
                  obtain ⟨q2, hq2⟩ : ∃ q, q = q1 ++ (⟨#[93]⟩ : ByteArray) := ⟨_, rfl⟩
                  have HR2 := Aside0.mk (show str (vt ⟨k, n, t, ks, ps⟩) = q2 by
                    rw [HR.out, hq2, hq1, hsj, show (⟨#[91]⟩ : ByteArray) = str [91] from rfl, show (⟨#[93]⟩ : ByteArray) = str [93] from rfl, str_append, str_append]; rfl)
                  have hz1 : ¬ 9223372036854775807 < 1 + sj.size := by rw [hsj, str_size]; omega
                  have hz2 : ¬ 9223372036854775807 < q1.size + 1 := by
                    rw [hq1, hsj, show (⟨#[91]⟩ : ByteArray) = str [91] from rfl, str_append, str_size, List.length_append]
                    simp only [List.length_cons, List.length_nil]; omega
                  have hc1 := hq1.symm
                  have hc2 := hq2.symm
                  clear hq1 hq2 hsj hjl hno2
                  subst e6
                  go_wp2_with (first
                    | (go_at_call 28; refine (HJ.out _ (Below.refl _ _)).mono ?_; rintro e w5 ⟨rfl, hb⟩; have S5 := Aside0.mk hb; clear hb))
                  go_ret
                  exact ⟨by rw [HR2.out]; rfl, HB1.out.trans ((hW.out.trans (S5.out.mono hW.out.size)).mono HB1.out.size)⟩
                · have f6 : (k == 6) = false := beq_eq_false_iff_ne.2 e6
                  by_cases e7 : k = 7
                  · have HR := Aside0.mk (show str (vt ⟨k, n, t, ks, ps⟩) = str (123 :: (Lib.join (vts k ks ps) [44] ++ [125])) by rw [vt, if_neg e2, if_neg e3, if_neg e4, if_neg e5, if_neg e6, if_pos e7])
                    have hjl : (Lib.join (vts k ks ps) [44]).length + 2 ≤ 1000000 := by
                      have h2 := HL.out
                      have h3 := congrArg ByteArray.size HR.out
                      rw [str_size, str_size] at h3
                      simp only [List.length_cons, List.length_append, List.length_nil] at h3; omega
                    have HJ := Aside0.mk (fun (w' : World) (hb : Below wr.heap.size wr w') => join_calls (vts k ks ps) (Kd.R_below HRo.out hb) (by omega) (by have h1 := join_count (vts k ks ps); omega))
                    rw [← hno2] at HJ
                    obtain ⟨sj, hsj⟩ : ∃ s, s = str (Lib.join (vts k ks ps) [44]) := ⟨_, rfl⟩
                    rw [← hsj] at HJ
                    obtain ⟨q1, hq1⟩ : ∃ q, q = (⟨#[123]⟩ : ByteArray) ++ sj := ⟨_, rfl⟩
                    obtain ⟨q2, hq2⟩ : ∃ q, q = q1 ++ (⟨#[125]⟩ : ByteArray) := ⟨_, rfl⟩
                    have HR2 := Aside0.mk (show str (vt ⟨k, n, t, ks, ps⟩) = q2 by
                      rw [HR.out, hq2, hq1, hsj, show (⟨#[123]⟩ : ByteArray) = str [123] from rfl, show (⟨#[125]⟩ : ByteArray) = str [125] from rfl, str_append, str_append]; rfl)
                    have hz1 : ¬ 9223372036854775807 < 1 + sj.size := by rw [hsj, str_size]; omega
                    have hz2 : ¬ 9223372036854775807 < q1.size + 1 := by
                      rw [hq1, hsj, show (⟨#[123]⟩ : ByteArray) = str [123] from rfl, str_append, str_size, List.length_append]
                      simp only [List.length_cons, List.length_nil]; omega
                    have hc1 := hq1.symm
                    have hc2 := hq2.symm
                    clear hq1 hq2 hsj hjl hno2
                    subst e7
                    go_wp2_with (first
                      | (go_at_call 28; refine (HJ.out _ (Below.refl _ _)).mono ?_; rintro e w5 ⟨rfl, hb⟩; have S5 := Aside0.mk hb; clear hb))
                    go_ret
                    exact ⟨by rw [HR2.out]; rfl, HB1.out.trans ((hW.out.trans (S5.out.mono hW.out.size)).mono HB1.out.size)⟩
                  · have f7 : (k == 7) = false := beq_eq_false_iff_ne.2 e7
                    have HR := Aside0.mk (show str (vt ⟨k, n, t, ks, ps⟩) = ⟨#[110, 117, 108, 108]⟩ by rw [vt, if_neg e2, if_neg e3, if_neg e4, if_neg e5, if_neg e6, if_neg e7]; rfl)
                    clear e2 e3 e4 e5 e6 e7 hkr
                    go_wp2
                    go_ret
                    exact ⟨by rw [HR.out]; rfl, HB1.out.trans (hW.out.mono HB1.out.size)⟩

end Go.Proofs.YtmhfkbgdkgfafaaGreatDoor.Js
end

section
/- Functions of the program as plain functions, and the walks that show it. Written by the session's own program pp.py. -/
namespace Go.Proofs.YtmhfkbgdkgfafaaGreatDoor.QJson
open Go.RowKit Go.Proofs.YtmhfkbgdkgfafaaGreatDoorW.PrintWords Go.Proofs.YtmhfkbgdkgfafaaGreatDoorW.PrintLast Go.Proofs.YtmhfkbgdkgfafaaGreatDoorW.PrintMore
attribute [local go_sem] max2_int min2_int max_two min_two max_three min_three max_four min_four   -- for this text's walks alone
set_option linter.unusedVariables false
set_option linter.unusedSimpArgs false

/-! ### json_ascend: function 37 -/
def json_ascend.l0 : Nat → List ByteArray → List ByteArray → Int → Int → Option (Bool)
  | 0, _, _, _, _ => none
  | k + 1, x0, x5, x6, x7 => if x7 < x6 then (if 0 ≤ x7 then (if x7 < (x5.length : Int) then (if x7 > 0 then (if 0 ≤ (wrap64 (x7 - 1)) then (if (wrap64 (x7 - 1)) < (x0.length : Int) then (if ((Op.bytesLess ((rdOf ByteArray.empty x0 (wrap64 (x7 - 1))).toList) ((rdOf ByteArray.empty x5 x7).toList)) = true) then (json_ascend.l0 k x0 x5 x6 (wrap64 (x7 + 1))) else (some false)) else (none)) else (none)) else (json_ascend.l0 k x0 x5 x6 (wrap64 (x7 + 1)))) else (none)) else (none)) else (some true)
def json_ascend.f (k : Nat) (l0 : List ByteArray) : Option (Bool) := json_ascend.l0 k l0 l0 (l0.length : Int) 0
theorem json_ascend.mono_l : ∀ k, (∀ y0 y1 y2 y3, LeO (json_ascend.l0 k y0 y1 y2 y3) (json_ascend.l0 (k + 1) y0 y1 y2 y3))
  | 0 => fun _ _ _ _ r h => by simp [json_ascend.l0] at h
  | k + 1 => by
    have ih0 := json_ascend.mono_l k
    · intro y0 y1 y2 y3
      unfold json_ascend.l0
      repeat' first
      | (with_reducible exact ih0 _ _ _ _)
      | (with_reducible exact LeO.refl _)
      | (with_reducible exact LeO.none _)
      | (with_reducible refine LeO.ite ?_ ?_)
      | (with_reducible refine LeO.bind ?_ (fun _ => ?_))
      | exact ih0 _ _ _ _
      | exact LeO.none _
      | refine LeO.ite ?_ ?_
      | refine LeO.bind ?_ (fun _ => ?_)
theorem json_ascend.mono : ∀ a0 k, LeO (json_ascend.f k a0) (json_ascend.f (k + 1) a0) := by
  intro a0 k
  have ih0 := json_ascend.mono_l k
  unfold json_ascend.f
  repeat' first
      | (with_reducible exact ih0 _ _ _ _)
      | (with_reducible exact LeO.refl _)
      | (with_reducible exact LeO.none _)
      | (with_reducible refine LeO.ite ?_ ?_)
      | (with_reducible refine LeO.bind ?_ (fun _ => ?_))
      | exact ih0 _ _ _ _
      | exact LeO.none _
      | refine LeO.ite ?_ ?_
      | refine LeO.bind ?_ (fun _ => ?_)
set_option maxHeartbeats 8000000 in
set_option maxRecDepth 100000 in
theorem json_ascend.calls (k : Nat) (A0 : Option Addr) (c0 : Nat) (l0 : List ByteArray) (r : Bool) (w : World) (hr0 : Kd.C Kd.string w A0 l0.length l0) (hc0 : l0.length ≤ c0) (h : json_ascend.f k l0 = some r) :
    Calls Tryz.prog 37 #[.slice A0 l0.length c0] w fun e w' => e = .returned (.bool r) ∧ Drawn0 w w' := by
  have HR0 := Aside0.mk hr0
  have HC0 := Aside0.mk hc0
  clear hr0 hc0
  have H : (json_ascend.l0 k l0 l0 (l0.length : Int) 0) = some r := h
  clear h
  have H' := Aside0.mk H
  clear H
  go_enter Tryz.func37, Tryz.ntmps37
  go_wp2
  go_loopg [7] k (fun kq v7 w' => ∃ (x7_1 : Int), v7 = .int .i64 x7_1 ∧ Aside0 (json_ascend.l0 kq l0 l0 (l0.length : Int) x7_1 = some r) ∧ Aside0 (kq ≤ k) ∧ Drawn0 w w')
  case atStart => exact ⟨(0), (by first | rfl | (simp; done) | (simp [*]; done)), H', ⟨Nat.le_refl _⟩, by repeat (first | exact Drawn0.refl _ | apply Drawn0.step)⟩
  case round =>
    clear H'
    obtain ⟨x7_1, rfl, HA, HK1, ⟨m1, rfl⟩⟩ := hrel
    cases gk with
    | zero => exact absurd HA.out (by simp [json_ascend.l0])
    | succ k1 =>
      have H := HA.out
      clear HA
      simp only [json_ascend.l0] at H
      by_cases c2 : x7_1 < (l0.length : Int)
      · rw [if_pos c2] at H
        have c2b0 : decide (x7_1 < (l0.length : Int)) = true := decide_eq_true c2
        clear c2
        by_cases c3 : 0 ≤ x7_1
        · rw [if_pos c3] at H
          have c3b0 : decide (0 ≤ x7_1) = true := decide_eq_true c3
          clear c3
          by_cases c4 : x7_1 < (l0.length : Int)
          · rw [if_pos c4] at H
            have c4b0 : decide (x7_1 < (l0.length : Int)) = true := decide_eq_true c4
            clear c4
            by_cases c5 : x7_1 > 0
            · rw [if_pos c5] at H
              have c5b0 : decide (0 < x7_1) = true := decide_eq_true c5
              clear c5
              obtain ⟨ji6, hji6⟩ : ∃ j_ : Int, (wrap64 (x7_1 - 1)) = j_ := ⟨_, rfl⟩
              replace H : (if 0 ≤ (ji6) then (if (ji6) < (l0.length : Int) then (if ((Op.bytesLess ((rdOf ByteArray.empty l0 (ji6)).toList) ((rdOf ByteArray.empty l0 x7_1).toList)) = true) then (json_ascend.l0 k1 l0 l0 (l0.length : Int) (wrap64 (x7_1 + 1))) else (some false)) else (none)) else (none)) = some r := by first | (rw [hji6] at H; exact H) | (simp only [hji6] at H ⊢; exact H)
              have hji6w : (IntKind.i64.wrap (x7_1 - 1)) = ji6 := (i64_w _).trans hji6
              by_cases c7 : 0 ≤ (ji6)
              · rw [if_pos c7] at H
                have c7b0 : decide (0 ≤ (ji6)) = true := decide_eq_true c7
                clear c7
                by_cases c8 : (ji6) < (l0.length : Int)
                · rw [if_pos c8] at H
                  have c8b0 : decide ((ji6) < (l0.length : Int)) = true := decide_eq_true c8
                  clear c8
                  by_cases c9 : ((Op.bytesLess ((rdOf ByteArray.empty l0 (ji6)).toList) ((rdOf ByteArray.empty l0 x7_1).toList)) = true)
                  · rw [if_pos c9] at H
                    have c9b0 : (Op.bytesLess ((rdOf ByteArray.empty l0 (ji6)).toList) ((rdOf ByteArray.empty l0 x7_1).toList)) = true := c9
                    clear c9
                    have H' := Aside0.mk H
                    clear H
                    have p170 : 0 ≤ (x7_1 : Int) := of_decide_eq_true (by first | (with_reducible assumption) | assumption)
                    have q170 : x7_1 < (l0.length : Int) := of_decide_eq_true (by first | (with_reducible assumption) | assumption)
                    obtain ⟨ad170, e170, hx170_0⟩ := Kd.at_string HR0.out x7_1 p170 q170
                    cases e170
                    replace p170 := eq_true p170
                    replace q170 := eq_true q170
                    have p171 : 0 ≤ ((ji6) : Int) := of_decide_eq_true (by first | (with_reducible assumption) | assumption)
                    have q171 : (ji6) < (l0.length : Int) := of_decide_eq_true (by first | (with_reducible assumption) | assumption)
                    obtain ⟨ad171, e171, hx171_0⟩ := Kd.at_string HR0.out (ji6) p171 q171
                    obtain rfl : ad170 = ad171 := (by injection e171)
                    replace p171 := eq_true p171
                    replace q171 := eq_true q171
                    go_wp2
                    go_roundg k1
                    case measure => have := HK1.out; omega
                    case rel => exact ⟨(wrap64 (x7_1 + 1)), (by first | rfl | (simp; done) | (simp [*]; done)), H', ⟨by have := HK1.out; omega⟩, by repeat (first | exact Drawn0.refl _ | apply Drawn0.step)⟩
                  · rw [if_neg c9] at H
                    have c9b0 : (Op.bytesLess ((rdOf ByteArray.empty l0 (ji6)).toList) ((rdOf ByteArray.empty l0 x7_1).toList)) = false := by simpa using c9
                    clear c9
                    obtain rfl := Option.some.inj H
                    have p170 : 0 ≤ (x7_1 : Int) := of_decide_eq_true (by first | (with_reducible assumption) | assumption)
                    have q170 : x7_1 < (l0.length : Int) := of_decide_eq_true (by first | (with_reducible assumption) | assumption)
                    obtain ⟨ad170, e170, hx170_0⟩ := Kd.at_string HR0.out x7_1 p170 q170
                    cases e170
                    replace p170 := eq_true p170
                    replace q170 := eq_true q170
                    have p171 : 0 ≤ ((ji6) : Int) := of_decide_eq_true (by first | (with_reducible assumption) | assumption)
                    have q171 : (ji6) < (l0.length : Int) := of_decide_eq_true (by first | (with_reducible assumption) | assumption)
                    obtain ⟨ad171, e171, hx171_0⟩ := Kd.at_string HR0.out (ji6) p171 q171
                    obtain rfl : ad170 = ad171 := (by injection e171)
                    replace p171 := eq_true p171
                    replace q171 := eq_true q171
                    go_wp2
                    go_ret
                    exact ⟨by first | rfl | (simp; done) | (simp only [← hji6] <;> (first | rfl | simp)) | (simp [*]; done), by repeat (first | exact Drawn0.refl _ | apply Drawn0.step)⟩
                · rw [if_neg c8] at H
                  exact absurd H (by simp)
              · rw [if_neg c7] at H
                exact absurd H (by simp)
            · rw [if_neg c5] at H
              have c5b0 : decide (0 < x7_1) = false := decide_eq_false c5
              clear c5
              have H' := Aside0.mk H
              clear H
              have p170 : 0 ≤ (x7_1 : Int) := of_decide_eq_true (by first | (with_reducible assumption) | assumption)
              have q170 : x7_1 < (l0.length : Int) := of_decide_eq_true (by first | (with_reducible assumption) | assumption)
              obtain ⟨ad170, e170, hx170_0⟩ := Kd.at_string HR0.out x7_1 p170 q170
              cases e170
              replace p170 := eq_true p170
              replace q170 := eq_true q170
              go_wp2
              go_roundg k1
              case measure => have := HK1.out; omega
              case rel => exact ⟨(wrap64 (x7_1 + 1)), (by first | rfl | (simp; done) | (simp [*]; done)), H', ⟨by have := HK1.out; omega⟩, by repeat (first | exact Drawn0.refl _ | apply Drawn0.step)⟩
          · rw [if_neg c4] at H
            exact absurd H (by simp)
        · rw [if_neg c3] at H
          exact absurd H (by simp)
      · rw [if_neg c2] at H
        have c2b0 : decide (x7_1 < (l0.length : Int)) = false := decide_eq_false c2
        clear c2
        obtain rfl := Option.some.inj H
        go_wp2
        go_ret
        exact ⟨by first | rfl | (simp; done) | (simp [*]; done), by repeat (first | exact Drawn0.refl _ | apply Drawn0.step)⟩

end Go.Proofs.YtmhfkbgdkgfafaaGreatDoor.QJson
end

section
/- Functions of the program as plain functions, and the walks that show it. Written by the session's own program pp.py. -/
namespace Go.Proofs.YtmhfkbgdkgfafaaGreatDoor.QJson
open Go.RowKit Go.Proofs.YtmhfkbgdkgfafaaGreatDoorW.PrintWords Go.Proofs.YtmhfkbgdkgfafaaGreatDoorW.PrintLast Go.Proofs.YtmhfkbgdkgfafaaGreatDoorW.PrintMore
attribute [local go_sem] max2_int min2_int max_two min_two max_three min_three max_four min_four   -- for this text's walks alone
set_option linter.unusedVariables false
set_option linter.unusedSimpArgs false

/-! ### json_fault: function 22 -/
mutual
def json_fault.j0 : Nat → Int → Bool → Int → Int → ByteArray → List ByteArray → List (S26) → Option (Int)
  | 0, _, _, _, _, _, _, _ => none
  | k + 1, x1, x11, x173000, x173001, x173002, x173003, x173004 => if x11 = true then (some 3) else ((json_plain.f x173000 x173001 x173002 x173003 x173004).bind fun t173 => (if t173 = true then (if x173000 = 7 then (if (x173003.length : Int) = (x173004.length : Int) then ((json_ascend.f k x173003).bind fun t174 => (json_fault.j1 k x1 (!t174) x173000 x173001 x173002 x173003 x173004)) else (json_fault.j1 k x1 ((x173003.length : Int) != (x173004.length : Int)) x173000 x173001 x173002 x173003 x173004)) else ((json_ascend.f k x173003).bind fun t175 => (json_fault.j1 k x1 (!t175) x173000 x173001 x173002 x173003 x173004))) else (json_fault.j1 k x1 (!t173) x173000 x173001 x173002 x173003 x173004)))
def json_fault.j1 : Nat → Int → Bool → Int → Int → ByteArray → List ByteArray → List (S26) → Option (Int)
  | 0, _, _, _, _, _, _, _ => none
  | k + 1, x1, x20, x173000, x173001, x173002, x173003, x173004 => if x20 = true then (some 4) else (if x173001 ≥ 9007199254740992 then (some 2) else (if x173001 ≤ (-9007199254740992) then (some 2) else (json_fault.l0 k x1 x173004 (x173004.length : Int) 0)))
def json_fault.l0 : Nat → Int → List (S26) → Int → Int → Option (Int)
  | 0, _, _, _, _ => none
  | k + 1, x1, x50, x51, x52 => if x52 < x51 then (if 0 ≤ x52 then (if x52 < (x50.length : Int) then ((json_fault.f k ((rd_T26 x50 x52).f0) ((rd_T26 x50 x52).f1) ((rd_T26 x50 x52).f2) ((rd_T26 x50 x52).f3) ((rd_T26 x50 x52).f4) (wrap64 (x1 + 1))).bind fun t178 => (if t178 = 0 then (json_fault.l0 k x1 x50 x51 (wrap64 (x52 + 1))) else (some t178))) else (none)) else (none)) else (some 0)
def json_fault.f : Nat → Int → Int → ByteArray → List ByteArray → List (S26) → Int → Option (Int)
  | 0, _, _, _, _, _, _ => none
  | k + 1, a0_0, a0_1, a0_2, l0_3, l0_4, a1 => if a1 ≥ 6 then (some 5) else (if a0_0 < 1 then (json_fault.j0 k a1 true a0_0 a0_1 a0_2 l0_3 l0_4) else (json_fault.j0 k a1 (decide (a0_0 > 7)) a0_0 a0_1 a0_2 l0_3 l0_4))
end
theorem json_fault.mono_l : ∀ k, (∀ y0 y1 y2 y3 y4 y5, LeO (json_fault.f k y0 y1 y2 y3 y4 y5) (json_fault.f (k + 1) y0 y1 y2 y3 y4 y5)) ∧ (∀ y0 y1 y2 y3 y4 y5 y6, LeO (json_fault.j0 k y0 y1 y2 y3 y4 y5 y6) (json_fault.j0 (k + 1) y0 y1 y2 y3 y4 y5 y6)) ∧ (∀ y0 y1 y2 y3 y4 y5 y6, LeO (json_fault.j1 k y0 y1 y2 y3 y4 y5 y6) (json_fault.j1 (k + 1) y0 y1 y2 y3 y4 y5 y6)) ∧ (∀ y0 y1 y2 y3, LeO (json_fault.l0 k y0 y1 y2 y3) (json_fault.l0 (k + 1) y0 y1 y2 y3))
  | 0 => ⟨fun _ _ _ _ _ _ r h => by simp [json_fault.f] at h, fun _ _ _ _ _ _ _ r h => by simp [json_fault.j0] at h, fun _ _ _ _ _ _ _ r h => by simp [json_fault.j1] at h, fun _ _ _ _ r h => by simp [json_fault.l0] at h⟩
  | k + 1 => by
    obtain ⟨ih0, ih1, ih2, ih3⟩ := json_fault.mono_l k
    refine ⟨?_, ?_, ?_, ?_⟩
    · intro y0 y1 y2 y3 y4 y5
      unfold json_fault.f
      repeat' first
      | (with_reducible exact ih0 _ _ _ _ _ _)
      | (with_reducible exact ih1 _ _ _ _ _ _ _)
      | (with_reducible exact ih2 _ _ _ _ _ _ _)
      | (with_reducible exact ih3 _ _ _ _)
      | (with_reducible exact json_ascend.mono _ _)
      | (with_reducible exact LeO.refl _)
      | (with_reducible exact LeO.none _)
      | (with_reducible refine LeO.ite ?_ ?_)
      | (with_reducible refine LeO.bind ?_ (fun _ => ?_))
      | exact ih0 _ _ _ _ _ _
      | exact ih1 _ _ _ _ _ _ _
      | exact ih2 _ _ _ _ _ _ _
      | exact ih3 _ _ _ _
      | exact json_ascend.mono _ _
      | exact LeO.none _
      | refine LeO.ite ?_ ?_
      | refine LeO.bind ?_ (fun _ => ?_)
    · intro y0 y1 y2 y3 y4 y5 y6
      unfold json_fault.j0
      repeat' first
      | (with_reducible exact ih0 _ _ _ _ _ _)
      | (with_reducible exact ih1 _ _ _ _ _ _ _)
      | (with_reducible exact ih2 _ _ _ _ _ _ _)
      | (with_reducible exact ih3 _ _ _ _)
      | (with_reducible exact json_ascend.mono _ _)
      | (with_reducible exact LeO.refl _)
      | (with_reducible exact LeO.none _)
      | (with_reducible refine LeO.ite ?_ ?_)
      | (with_reducible refine LeO.bind ?_ (fun _ => ?_))
      | exact ih0 _ _ _ _ _ _
      | exact ih1 _ _ _ _ _ _ _
      | exact ih2 _ _ _ _ _ _ _
      | exact ih3 _ _ _ _
      | exact json_ascend.mono _ _
      | exact LeO.none _
      | refine LeO.ite ?_ ?_
      | refine LeO.bind ?_ (fun _ => ?_)
    · intro y0 y1 y2 y3 y4 y5 y6
      unfold json_fault.j1
      repeat' first
      | (with_reducible exact ih0 _ _ _ _ _ _)
      | (with_reducible exact ih1 _ _ _ _ _ _ _)
      | (with_reducible exact ih2 _ _ _ _ _ _ _)
      | (with_reducible exact ih3 _ _ _ _)
      | (with_reducible exact json_ascend.mono _ _)
      | (with_reducible exact LeO.refl _)
      | (with_reducible exact LeO.none _)
      | (with_reducible refine LeO.ite ?_ ?_)
      | (with_reducible refine LeO.bind ?_ (fun _ => ?_))
      | exact ih0 _ _ _ _ _ _
      | exact ih1 _ _ _ _ _ _ _
      | exact ih2 _ _ _ _ _ _ _
      | exact ih3 _ _ _ _
      | exact json_ascend.mono _ _
      | exact LeO.none _
      | refine LeO.ite ?_ ?_
      | refine LeO.bind ?_ (fun _ => ?_)
    · intro y0 y1 y2 y3
      unfold json_fault.l0
      repeat' first
      | (with_reducible exact ih0 _ _ _ _ _ _)
      | (with_reducible exact ih1 _ _ _ _ _ _ _)
      | (with_reducible exact ih2 _ _ _ _ _ _ _)
      | (with_reducible exact ih3 _ _ _ _)
      | (with_reducible exact json_ascend.mono _ _)
      | (with_reducible exact LeO.refl _)
      | (with_reducible exact LeO.none _)
      | (with_reducible refine LeO.ite ?_ ?_)
      | (with_reducible refine LeO.bind ?_ (fun _ => ?_))
      | exact ih0 _ _ _ _ _ _
      | exact ih1 _ _ _ _ _ _ _
      | exact ih2 _ _ _ _ _ _ _
      | exact ih3 _ _ _ _
      | exact json_ascend.mono _ _
      | exact LeO.none _
      | refine LeO.ite ?_ ?_
      | refine LeO.bind ?_ (fun _ => ?_)
theorem json_fault.mono : ∀ a0 a1 a2 a3 a4 a5 k, LeO (json_fault.f k a0 a1 a2 a3 a4 a5) (json_fault.f (k + 1) a0 a1 a2 a3 a4 a5) := by
  intro a0 a1 a2 a3 a4 a5 k
  obtain ⟨ih0, ih1, ih2, ih3⟩ := json_fault.mono_l k
  exact ih0 a0 a1 a2 a3 a4 a5
set_option maxHeartbeats 8000000 in
set_option maxRecDepth 100000 in
theorem json_fault.calls (k : Nat) : ∀ (a0_0 : Int) (a0_1 : Int) (a0_2 : ByteArray) (A0_3 : Option Addr) (c0_3 : Nat) (l0_3 : List ByteArray) (A0_4 : Option Addr) (c0_4 : Nat) (l0_4 : List (S26)) (a1 : Int) (r : Int) (w : World) (hr0_3 : Kd.C Kd.string w A0_3 l0_3.length l0_3) (hc0_3 : l0_3.length ≤ c0_3) (hr0_4 : Kd.C k26 w A0_4 l0_4.length l0_4) (hc0_4 : l0_4.length ≤ c0_4) (h : json_fault.f k a0_0 a0_1 a0_2 l0_3 l0_4 a1 = some r),
    Calls Tryz.prog 22 #[.agg #[.int .i64 a0_0, .int .i64 a0_1, .string a0_2, .slice A0_3 l0_3.length c0_3, .slice A0_4 l0_4.length c0_4], .int .i64 a1] w fun e w' => e = .returned (.int .i64 r) ∧ Below w.heap.size w w' := by
  induction k using Nat.strongRecOn with
  | _ k ih =>
  intro a0_0 a0_1 a0_2 A0_3 c0_3 l0_3 A0_4 c0_4 l0_4 a1 r w hr0_3 hc0_3 hr0_4 hc0_4 h
  cases k with
  | zero => exact absurd h (by simp [json_fault.f])
  | succ k =>
  simp only [json_fault.f] at h
  have hu26 := Tryz.underlying26
  have HR0_3 := Aside0.mk hr0_3
  have HC0_3 := Aside0.mk hc0_3
  clear hr0_3 hc0_3
  have HR0_4 := Aside0.mk hr0_4
  have HC0_4 := Aside0.mk hc0_4
  clear hr0_4 hc0_4
  have HB := Aside0.mk (Below.refl w.heap.size w)
  have H : (if a1 ≥ 6 then (some 5) else (if a0_0 < 1 then (json_fault.j0 k a1 true a0_0 a0_1 a0_2 l0_3 l0_4) else (json_fault.j0 k a1 (decide (a0_0 > 7)) a0_0 a0_1 a0_2 l0_3 l0_4))) = some r := h
  clear h
  by_cases c3 : a1 ≥ 6
  · rw [if_pos c3] at H
    have c3b0 : decide (6 ≤ a1) = true := decide_eq_true c3
    clear c3
    obtain rfl := Option.some.inj H
    go_enter Tryz.func22, Tryz.ntmps22
    go_wp2_with (first | ((with_reducible refine gate_dst (N := 2) rfl ?_); (try (refine gate_guard (by rfl) ?_; dsimp only)); refine box_event ?hg (N := 2) ?hd (cs := #[.int .i64 a0_0, .int .i64 a0_1, .string a0_2, .slice A0_3 l0_3.length c0_3, .slice A0_4 l0_4.length c0_4]) (t := 26) ?hr ?_; (case hd => rfl); (case hg => rfl); (case hr => first | (go_simp; done) | (go_simp; rfl)); intro gb172 hg w4 hbox hb; have n0_ := Aside0.mk (below_step (by repeat (first | (with_reducible first | exact HB.out | apply below_alloc | apply pw_below_drewN | apply below_drew1) | exact HB.out)) hb); have n1_ := Aside0.mk (hbox); have n2_ := Aside0.mk ((by rw [hg]; exact (below_size (by repeat (first | (with_reducible first | exact HB.out | apply below_alloc | apply pw_below_drewN | apply below_drew1) | exact HB.out))) : w.heap.size ≤ gb172)); have n3_ := Aside0.mk ((by rw [hg]; exact (below_size (by repeat (first | (with_reducible first | exact HB.out | apply below_alloc | apply pw_below_drewN | apply below_drew1) | exact HB.out))) : w.heap.size ≤ gb172)); clear HB; have HB := n0_; have BK172 := n1_; have GW172 := n2_; have GE172 := n3_; clear n0_ n1_ n2_ n3_; clear hb hbox hg))
    go_ret
    exact ⟨by first | rfl | (simp [errW_none, errW_some] <;> rfl) | (simp [*, errW_none, errW_some] <;> rfl), by repeat (first | (with_reducible first | exact HB.out | apply below_alloc | apply pw_below_drewN | apply below_drew1 | refine below_set ?_ GE172.out) | exact HB.out)⟩
  · rw [if_neg c3] at H
    have c3b0 : decide (6 ≤ a1) = false := decide_eq_false c3
    clear c3
    have HC5 := Aside0.mk H
    clear H
    go_enter Tryz.func22, Tryz.ntmps22
    go_upto_region 3 with (first | ((with_reducible refine gate_dst (N := 2) rfl ?_); (try (refine gate_guard (by rfl) ?_; dsimp only)); refine box_event ?hg (N := 2) ?hd (cs := #[.int .i64 a0_0, .int .i64 a0_1, .string a0_2, .slice A0_3 l0_3.length c0_3, .slice A0_4 l0_4.length c0_4]) (t := 26) ?hr ?_; (case hd => rfl); (case hg => rfl); (case hr => first | (go_simp; done) | (go_simp; rfl)); intro gb172 hg w6 hbox hb; have n0_ := Aside0.mk (below_step (by repeat (first | (with_reducible first | exact HB.out | apply below_alloc | apply pw_below_drewN | apply below_drew1) | exact HB.out)) hb); have n1_ := Aside0.mk (hbox); have n2_ := Aside0.mk ((by rw [hg]; exact (below_size (by repeat (first | (with_reducible first | exact HB.out | apply below_alloc | apply pw_below_drewN | apply below_drew1) | exact HB.out))) : w.heap.size ≤ gb172)); have n3_ := Aside0.mk ((by rw [hg]; exact (below_size (by repeat (first | (with_reducible first | exact HB.out | apply below_alloc | apply pw_below_drewN | apply below_drew1) | exact HB.out))) : w.heap.size ≤ gb172)); clear HB; have HB := n0_; have BK172 := n1_; have GW172 := n2_; have GE172 := n3_; clear n0_ n1_ n2_ n3_; clear hb hbox hg))
    (try simp only [Act.put, List.setIfInBounds_toArray, List.set_cons_zero, List.set_cons_succ])
    go_cut [11] (fun v11 wc => ∃ (kq : Nat) (x11_4 : Bool), v11 = .bool x11_4 ∧ Aside0 (json_fault.j0 kq a1 x11_4 a0_0 a0_1 a0_2 l0_3 l0_4 = some r) ∧ Aside0 (kq ≤ k) ∧ Aside0 (wc.heap[gb172]? = some (.cells #[.int .i64 a0_0, .int .i64 a0_1, .string a0_2, (.slice A0_3 l0_3.length c0_3), (.slice A0_4 l0_4.length c0_4)] 26 (0, 0))) ∧ Aside0 (Below w.heap.size w wc))
    case first =>
      have H := HC5.out
      clear HC5
      by_cases c7 : a0_0 < 1
      · rw [if_pos c7] at H
        have c7b0 : decide (a0_0 < 1) = true := decide_eq_true c7
        clear c7
        (first | rw [c7b0] | (simp only [i64_w, i32_w]; rw [c7b0]) | skip)
        have H' := Aside0.mk H
        clear H
        have hcz8_0 : w6.cell? ⟨gb172, 0, none⟩ = some (.int .i64 a0_0) := (blk_cell BK172.out 0).trans rfl
        have hcz8_1 : w6.cell? ⟨gb172, 1, none⟩ = some (.int .i64 a0_1) := (blk_cell BK172.out 1).trans rfl
        have hcz8_2 : w6.cell? ⟨gb172, 2, none⟩ = some (.string a0_2) := (blk_cell BK172.out 2).trans rfl
        have hcz8_3 : w6.cell? ⟨gb172, 3, none⟩ = some (.slice A0_3 l0_3.length c0_3) := (blk_cell BK172.out 3).trans rfl
        have hcz8_4 : w6.cell? ⟨gb172, 4, none⟩ = some (.slice A0_4 l0_4.length c0_4) := (blk_cell BK172.out 4).trans rfl
        have hfz8_0 := blk_frozen BK172.out 0
        have hfz8_1 := blk_frozen BK172.out 1
        have hfz8_2 := blk_frozen BK172.out 2
        have hfz8_3 := blk_frozen BK172.out 3
        have hfz8_4 := blk_frozen BK172.out 4
        go_wp2
        go_meet
        case rel => exact ⟨_, (true), (by first | rfl | (simp; done) | (simp [*]; done)), H', ⟨by first | omega | exact Nat.le_refl _⟩, ⟨by (with_reducible repeat (first | refine blk_drewN ?_ _ | refine blk_drew ?_ | refine blk_alloc ?_ _)); exact BK172.out⟩, ⟨by repeat (first | (with_reducible first | exact HB.out | apply below_alloc | apply pw_below_drewN | apply below_drew1 | refine below_set ?_ GE172.out) | exact HB.out)⟩⟩
      · rw [if_neg c7] at H
        have c7b0 : decide (a0_0 < 1) = false := decide_eq_false c7
        clear c7
        (first | rw [c7b0] | (simp only [i64_w, i32_w]; rw [c7b0]) | skip)
        have H' := Aside0.mk H
        clear H
        have hcz9_0 : w6.cell? ⟨gb172, 0, none⟩ = some (.int .i64 a0_0) := (blk_cell BK172.out 0).trans rfl
        have hcz9_1 : w6.cell? ⟨gb172, 1, none⟩ = some (.int .i64 a0_1) := (blk_cell BK172.out 1).trans rfl
        have hcz9_2 : w6.cell? ⟨gb172, 2, none⟩ = some (.string a0_2) := (blk_cell BK172.out 2).trans rfl
        have hcz9_3 : w6.cell? ⟨gb172, 3, none⟩ = some (.slice A0_3 l0_3.length c0_3) := (blk_cell BK172.out 3).trans rfl
        have hcz9_4 : w6.cell? ⟨gb172, 4, none⟩ = some (.slice A0_4 l0_4.length c0_4) := (blk_cell BK172.out 4).trans rfl
        have hfz9_0 := blk_frozen BK172.out 0
        have hfz9_1 := blk_frozen BK172.out 1
        have hfz9_2 := blk_frozen BK172.out 2
        have hfz9_3 := blk_frozen BK172.out 3
        have hfz9_4 := blk_frozen BK172.out 4
        go_wp2
        go_meet
        case rel => exact ⟨_, (decide (a0_0 > 7)), (by first | rfl | (simp; done) | (simp [*]; done)), H', ⟨by first | omega | exact Nat.le_refl _⟩, ⟨by (with_reducible repeat (first | refine blk_drewN ?_ _ | refine blk_drew ?_ | refine blk_alloc ?_ _)); exact BK172.out⟩, ⟨by repeat (first | (with_reducible first | exact HB.out | apply below_alloc | apply pw_below_drewN | apply below_drew1 | refine below_set ?_ GE172.out) | exact HB.out)⟩⟩
    case rest =>
      clear HC5
      try clear c2
      try clear p2
      try clear c3
      try clear c3b0
      try clear c7
      try clear c7b0
      try clear hcz8_0
      try clear hcz8_1
      try clear hcz8_2
      try clear hcz8_3
      try clear hcz8_4
      try clear hcz9_0
      try clear hcz9_1
      try clear hcz9_2
      try clear hcz9_3
      try clear hcz9_4
      try clear hfz8_0
      try clear hfz8_1
      try clear hfz8_2
      try clear hfz8_3
      try clear hfz8_4
      try clear hfz9_0
      try clear hfz9_1
      try clear hfz9_2
      try clear hfz9_3
      try clear hfz9_4
      obtain ⟨kq, x11_4, rfl, HA, HJ4, BK172, HB⟩ := hcut
      cases kq with
      | zero => exact absurd HA.out (by simp [json_fault.j0])
      | succ kj4 =>
        have H := HA.out
        clear HA
        simp only [json_fault.j0] at H
        by_cases c10 : x11_4 = true
        · subst c10
          have H1 : (some 3) = some r := by rw [if_pos rfl] at H; exact H
          clear H
          have H := H1
          clear H1
          obtain rfl := Option.some.inj H
          go_wp2
          go_ret
          exact ⟨by first | rfl | (simp [errW_none, errW_some] <;> rfl) | (simp [*, errW_none, errW_some] <;> rfl), by repeat (first | (with_reducible first | exact HB.out | apply below_alloc | apply pw_below_drewN | apply below_drew1 | refine below_set ?_ GE172.out) | exact HB.out)⟩
        · replace c10 := Bool.eq_false_iff.mpr c10
          subst c10
          have H1 : ((json_plain.f a0_0 a0_1 a0_2 l0_3 l0_4).bind fun t173 => (if t173 = true then (if a0_0 = 7 then (if (l0_3.length : Int) = (l0_4.length : Int) then ((json_ascend.f kj4 l0_3).bind fun t174 => (json_fault.j1 kj4 a1 (!t174) a0_0 a0_1 a0_2 l0_3 l0_4)) else (json_fault.j1 kj4 a1 ((l0_3.length : Int) != (l0_4.length : Int)) a0_0 a0_1 a0_2 l0_3 l0_4)) else ((json_ascend.f kj4 l0_3).bind fun t175 => (json_fault.j1 kj4 a1 (!t175) a0_0 a0_1 a0_2 l0_3 l0_4))) else (json_fault.j1 kj4 a1 (!t173) a0_0 a0_1 a0_2 l0_3 l0_4))) = some r := by rw [if_neg (show ¬ (false = true) by decide)] at H; exact H
          clear H
          have H := H1
          clear H1
          replace H := Option.bind_eq_some_iff.mp H
          obtain ⟨t173, A110, H⟩ := H
          replace H : (if t173 = true then (if a0_0 = 7 then (if (l0_3.length : Int) = (l0_4.length : Int) then ((json_ascend.f kj4 l0_3).bind fun t174 => (json_fault.j1 kj4 a1 (!t174) a0_0 a0_1 a0_2 l0_3 l0_4)) else (json_fault.j1 kj4 a1 ((l0_3.length : Int) != (l0_4.length : Int)) a0_0 a0_1 a0_2 l0_3 l0_4)) else ((json_ascend.f kj4 l0_3).bind fun t175 => (json_fault.j1 kj4 a1 (!t175) a0_0 a0_1 a0_2 l0_3 l0_4))) else (json_fault.j1 kj4 a1 (!t173) a0_0 a0_1 a0_2 l0_3 l0_4)) = some r := H
          have A11 := Aside0.mk A110
          clear A110
          have HC12 := Aside0.mk H
          clear H
          have hcz13_0 : wc.cell? ⟨gb172, 0, none⟩ = some (.int .i64 a0_0) := (blk_cell BK172.out 0).trans rfl
          have hcz13_1 : wc.cell? ⟨gb172, 1, none⟩ = some (.int .i64 a0_1) := (blk_cell BK172.out 1).trans rfl
          have hcz13_2 : wc.cell? ⟨gb172, 2, none⟩ = some (.string a0_2) := (blk_cell BK172.out 2).trans rfl
          have hcz13_3 : wc.cell? ⟨gb172, 3, none⟩ = some (.slice A0_3 l0_3.length c0_3) := (blk_cell BK172.out 3).trans rfl
          have hcz13_4 : wc.cell? ⟨gb172, 4, none⟩ = some (.slice A0_4 l0_4.length c0_4) := (blk_cell BK172.out 4).trans rfl
          have hfz13_0 := blk_frozen BK172.out 0
          have hfz13_1 := blk_frozen BK172.out 1
          have hfz13_2 := blk_frozen BK172.out 2
          have hfz13_3 := blk_frozen BK172.out 3
          have hfz13_4 := blk_frozen BK172.out 4
          go_upto_if 20 with (first | ((with_reducible refine gate_callee (f := 36) rfl ?_); refine goesL_ (some 22) rfl rfl Tryz.func36 (by kernel_rfl) rfl #[.agg #[.int .i64 a0_0, .int .i64 a0_1, .string a0_2, .slice A0_3 l0_3.length c0_3, .slice A0_4 l0_4.length c0_4]] rfl (by (try simp only [List.map_toArray, List.map_cons, List.map_nil]); first | done | rfl | (simp only [List.length_drop, List.length_take]; rfl)) ?_; (with_reducible refine (json_plain.calls a0_0 a0_1 a0_2 _ _ l0_3 _ _ l0_4 t173 _ ?side1 ?side2 ?side3 ?side4 A11.out).mono ?_); (case side1 => repeat (first | exact (Kd.C_below HR0_3.out HB.out) | (with_reducible refine Kd.C_alloc ?_ _) | (with_reducible refine Kd.C_drewN ?_ _) | (with_reducible refine Kd.C_drew ?_))); (case side2 => exact HC0_3.out); (case side3 => repeat (first | exact (Kd.C_below HR0_4.out HB.out) | (with_reducible refine Kd.C_alloc ?_ _) | (with_reducible refine Kd.C_drewN ?_ _) | (with_reducible refine Kd.C_drew ?_))); (case side4 => exact HC0_4.out); rintro e w14 ⟨rfl, hb⟩; refine ⟨_, rfl, ?_⟩; have n0_ := Aside0.mk (blk_below (g := gb172) (o := .cells #[.int .i64 a0_0, .int .i64 a0_1, .string a0_2, .slice A0_3 l0_3.length c0_3, .slice A0_4 l0_4.length c0_4] 26 (0, 0)) (by (with_reducible repeat (first | refine blk_drewN ?_ _ | refine blk_drew ?_ | refine blk_alloc ?_ _)); exact BK172.out) hb); have n1_ := Aside0.mk (below_step (by repeat (first | (with_reducible first | exact HB.out | apply below_alloc | apply pw_below_drewN | apply below_drew1 | refine below_set ?_ GE172.out) | exact HB.out)) hb); clear BK172; clear HB; have BK172 := n0_; have HB := n1_; clear n0_ n1_; (try clear hb); (try clear hb2); (try clear hk); (try clear hi)))
          (try simp only [Act.put, List.setIfInBounds_toArray, List.set_cons_zero, List.set_cons_succ])
          go_cut [20] (fun v20 wc => ∃ (kq : Nat) (x20_11 : Bool), v20 = .bool x20_11 ∧ Aside0 (json_fault.j1 kq a1 x20_11 a0_0 a0_1 a0_2 l0_3 l0_4 = some r) ∧ Aside0 (kq ≤ kj4) ∧ Aside0 (wc.heap[gb172]? = some (.cells #[.int .i64 a0_0, .int .i64 a0_1, .string a0_2, (.slice A0_3 l0_3.length c0_3), (.slice A0_4 l0_4.length c0_4)] 26 (0, 0))) ∧ Aside0 (Below w.heap.size w wc))
          case first =>
            have H := HC12.out
            clear HC12
            by_cases c15 : t173 = true
            · subst c15
              have H1 : (if a0_0 = 7 then (if (l0_3.length : Int) = (l0_4.length : Int) then ((json_ascend.f kj4 l0_3).bind fun t174 => (json_fault.j1 kj4 a1 (!t174) a0_0 a0_1 a0_2 l0_3 l0_4)) else (json_fault.j1 kj4 a1 ((l0_3.length : Int) != (l0_4.length : Int)) a0_0 a0_1 a0_2 l0_3 l0_4)) else ((json_ascend.f kj4 l0_3).bind fun t175 => (json_fault.j1 kj4 a1 (!t175) a0_0 a0_1 a0_2 l0_3 l0_4))) = some r := by rw [if_pos rfl] at H; exact H
              clear H
              have H := H1
              clear H1
              by_cases c16 : a0_0 = 7
              · rw [if_pos c16] at H
                have c16b0 : (a0_0 == 7) = true := beq_iff_eq.mpr c16
                have c16b1 : (a0_0 != 7) = false := bne_eq_false_iff_eq.mpr c16
                clear c16
                (first | rw [c16b0] | (simp only [i64_w, i32_w]; rw [c16b0]) | skip)
                by_cases c17 : (l0_3.length : Int) = (l0_4.length : Int)
                · rw [if_pos c17] at H
                  have c17b0 : ((l0_3.length : Int) == (l0_4.length : Int)) = true := beq_iff_eq.mpr c17
                  have c17b1 : ((l0_3.length : Int) != (l0_4.length : Int)) = false := bne_eq_false_iff_eq.mpr c17
                  have c17b2 : (l0_3.length == l0_4.length) = true := by first | simpa using c17 | (simp at c17 ⊢; omega)
                  clear c17
                  replace H := Option.bind_eq_some_iff.mp H
                  obtain ⟨t174, A180, H⟩ := H
                  replace H : (json_fault.j1 kj4 a1 (!t174) a0_0 a0_1 a0_2 l0_3 l0_4) = some r := H
                  have A18 := Aside0.mk A180
                  clear A180
                  have H' := Aside0.mk H
                  clear H
                  have hcz19_0 : w14.cell? ⟨gb172, 0, none⟩ = some (.int .i64 a0_0) := (blk_cell BK172.out 0).trans rfl
                  have hcz19_1 : w14.cell? ⟨gb172, 1, none⟩ = some (.int .i64 a0_1) := (blk_cell BK172.out 1).trans rfl
                  have hcz19_2 : w14.cell? ⟨gb172, 2, none⟩ = some (.string a0_2) := (blk_cell BK172.out 2).trans rfl
                  have hcz19_3 : w14.cell? ⟨gb172, 3, none⟩ = some (.slice A0_3 l0_3.length c0_3) := (blk_cell BK172.out 3).trans rfl
                  have hcz19_4 : w14.cell? ⟨gb172, 4, none⟩ = some (.slice A0_4 l0_4.length c0_4) := (blk_cell BK172.out 4).trans rfl
                  have hfz19_0 := blk_frozen BK172.out 0
                  have hfz19_1 := blk_frozen BK172.out 1
                  have hfz19_2 := blk_frozen BK172.out 2
                  have hfz19_3 := blk_frozen BK172.out 3
                  have hfz19_4 := blk_frozen BK172.out 4
                  go_wp2_with (first | ((with_reducible refine gate_callee (f := 37) rfl ?_); refine goesL_ (some 38) rfl rfl Tryz.func37 (by kernel_rfl) rfl #[.slice A0_3 l0_3.length c0_3] rfl (by (try simp only [List.map_toArray, List.map_cons, List.map_nil]); first | done | rfl | (simp only [List.length_drop, List.length_take]; rfl)) ?_; (with_reducible refine (json_ascend.calls kj4 _ _ l0_3 t174 _ ?side1 ?side2 A18.out).mono ?_); (case side1 => repeat (first | exact (Kd.C_below HR0_3.out HB.out) | (with_reducible refine Kd.C_alloc ?_ _) | (with_reducible refine Kd.C_drewN ?_ _) | (with_reducible refine Kd.C_drew ?_))); (case side2 => exact HC0_3.out); rintro e w' ⟨rfl, ⟨nd, rfl⟩⟩; refine ⟨_, rfl, ?_⟩))
                  go_meet
                  case rel => exact ⟨_, (!t174), (by first | rfl | (simp; done) | (simp [*]; done)), H', ⟨by have := HJ4.out; first | omega | exact Nat.le_refl _⟩, ⟨by (with_reducible repeat (first | refine blk_drewN ?_ _ | refine blk_drew ?_ | refine blk_alloc ?_ _)); exact BK172.out⟩, ⟨by repeat (first | (with_reducible first | exact HB.out | apply below_alloc | apply pw_below_drewN | apply below_drew1 | refine below_set ?_ GE172.out) | exact HB.out)⟩⟩
                · rw [if_neg c17] at H
                  have c17b0 : ((l0_3.length : Int) == (l0_4.length : Int)) = false := beq_eq_false_iff_ne.mpr c17
                  have c17b1 : ((l0_3.length : Int) != (l0_4.length : Int)) = true := bne_iff_ne.mpr c17
                  have c17b2 : (l0_3.length == l0_4.length) = false := by first | simpa using c17 | (simp at c17 ⊢; omega)
                  have H' := Aside0.mk H
                  clear H
                  have hcz20_0 : w14.cell? ⟨gb172, 0, none⟩ = some (.int .i64 a0_0) := (blk_cell BK172.out 0).trans rfl
                  have hcz20_1 : w14.cell? ⟨gb172, 1, none⟩ = some (.int .i64 a0_1) := (blk_cell BK172.out 1).trans rfl
                  have hcz20_2 : w14.cell? ⟨gb172, 2, none⟩ = some (.string a0_2) := (blk_cell BK172.out 2).trans rfl
                  have hcz20_3 : w14.cell? ⟨gb172, 3, none⟩ = some (.slice A0_3 l0_3.length c0_3) := (blk_cell BK172.out 3).trans rfl
                  have hcz20_4 : w14.cell? ⟨gb172, 4, none⟩ = some (.slice A0_4 l0_4.length c0_4) := (blk_cell BK172.out 4).trans rfl
                  have hfz20_0 := blk_frozen BK172.out 0
                  have hfz20_1 := blk_frozen BK172.out 1
                  have hfz20_2 := blk_frozen BK172.out 2
                  have hfz20_3 := blk_frozen BK172.out 3
                  have hfz20_4 := blk_frozen BK172.out 4
                  go_wp2
                  go_meet
                  case rel => exact ⟨_, (((l0_3.length : Int) != (l0_4.length : Int))), (by first | rfl | (simp; done) | (simp [*]; done)), H', ⟨by have := HJ4.out; first | omega | exact Nat.le_refl _⟩, ⟨by (with_reducible repeat (first | refine blk_drewN ?_ _ | refine blk_drew ?_ | refine blk_alloc ?_ _)); exact BK172.out⟩, ⟨by repeat (first | (with_reducible first | exact HB.out | apply below_alloc | apply pw_below_drewN | apply below_drew1 | refine below_set ?_ GE172.out) | exact HB.out)⟩⟩
              · rw [if_neg c16] at H
                have c16b0 : (a0_0 == 7) = false := beq_eq_false_iff_ne.mpr c16
                have c16b1 : (a0_0 != 7) = true := bne_iff_ne.mpr c16
                (first | rw [c16b0] | (simp only [i64_w, i32_w]; rw [c16b0]) | skip)
                replace H := Option.bind_eq_some_iff.mp H
                obtain ⟨t175, A210, H⟩ := H
                replace H : (json_fault.j1 kj4 a1 (!t175) a0_0 a0_1 a0_2 l0_3 l0_4) = some r := H
                have A21 := Aside0.mk A210
                clear A210
                have H' := Aside0.mk H
                clear H
                have hcz22_0 : w14.cell? ⟨gb172, 0, none⟩ = some (.int .i64 a0_0) := (blk_cell BK172.out 0).trans rfl
                have hcz22_1 : w14.cell? ⟨gb172, 1, none⟩ = some (.int .i64 a0_1) := (blk_cell BK172.out 1).trans rfl
                have hcz22_2 : w14.cell? ⟨gb172, 2, none⟩ = some (.string a0_2) := (blk_cell BK172.out 2).trans rfl
                have hcz22_3 : w14.cell? ⟨gb172, 3, none⟩ = some (.slice A0_3 l0_3.length c0_3) := (blk_cell BK172.out 3).trans rfl
                have hcz22_4 : w14.cell? ⟨gb172, 4, none⟩ = some (.slice A0_4 l0_4.length c0_4) := (blk_cell BK172.out 4).trans rfl
                have hfz22_0 := blk_frozen BK172.out 0
                have hfz22_1 := blk_frozen BK172.out 1
                have hfz22_2 := blk_frozen BK172.out 2
                have hfz22_3 := blk_frozen BK172.out 3
                have hfz22_4 := blk_frozen BK172.out 4
                go_wp2_with (first | ((with_reducible refine gate_callee (f := 37) rfl ?_); refine goesL_ (some 38) rfl rfl Tryz.func37 (by kernel_rfl) rfl #[.slice A0_3 l0_3.length c0_3] rfl (by (try simp only [List.map_toArray, List.map_cons, List.map_nil]); first | done | rfl | (simp only [List.length_drop, List.length_take]; rfl)) ?_; (with_reducible refine (json_ascend.calls kj4 _ _ l0_3 t175 _ ?side1 ?side2 A21.out).mono ?_); (case side1 => repeat (first | exact (Kd.C_below HR0_3.out HB.out) | (with_reducible refine Kd.C_alloc ?_ _) | (with_reducible refine Kd.C_drewN ?_ _) | (with_reducible refine Kd.C_drew ?_))); (case side2 => exact HC0_3.out); rintro e w' ⟨rfl, ⟨nd, rfl⟩⟩; refine ⟨_, rfl, ?_⟩))
                go_meet
                case rel => exact ⟨_, (!t175), (by first | rfl | (simp; done) | (simp [*]; done)), H', ⟨by have := HJ4.out; first | omega | exact Nat.le_refl _⟩, ⟨by (with_reducible repeat (first | refine blk_drewN ?_ _ | refine blk_drew ?_ | refine blk_alloc ?_ _)); exact BK172.out⟩, ⟨by repeat (first | (with_reducible first | exact HB.out | apply below_alloc | apply pw_below_drewN | apply below_drew1 | refine below_set ?_ GE172.out) | exact HB.out)⟩⟩
            · replace c15 := Bool.eq_false_iff.mpr c15
              subst c15
              have H1 : (json_fault.j1 kj4 a1 (!false) a0_0 a0_1 a0_2 l0_3 l0_4) = some r := by rw [if_neg (show ¬ (false = true) by decide)] at H; exact H
              clear H
              have H := H1
              clear H1
              have H' := Aside0.mk H
              clear H
              go_wp2
              go_meet
              case rel => exact ⟨_, (!false), (by first | rfl | (simp; done) | (simp [*]; done)), H', ⟨by have := HJ4.out; first | omega | exact Nat.le_refl _⟩, ⟨by (with_reducible repeat (first | refine blk_drewN ?_ _ | refine blk_drew ?_ | refine blk_alloc ?_ _)); exact BK172.out⟩, ⟨by repeat (first | (with_reducible first | exact HB.out | apply below_alloc | apply pw_below_drewN | apply below_drew1 | refine below_set ?_ GE172.out) | exact HB.out)⟩⟩
          case rest =>
            clear HC12
            try clear c1
            try clear c2
            try clear p2
            try clear c3
            try clear c3b0
            try clear c7
            try clear c7b0
            try clear c10
            try clear c15
            try clear c16
            try clear c16b0
            try clear c16b1
            try clear c17
            try clear c17b0
            try clear c17b1
            try clear c17b2
            try clear c22
            try clear hcz13_0
            try clear hcz13_1
            try clear hcz13_2
            try clear hcz13_3
            try clear hcz13_4
            try clear hcz19_0
            try clear hcz19_1
            try clear hcz19_2
            try clear hcz19_3
            try clear hcz19_4
            try clear hcz20_0
            try clear hcz20_1
            try clear hcz20_2
            try clear hcz20_3
            try clear hcz20_4
            try clear hcz22_0
            try clear hcz22_1
            try clear hcz22_2
            try clear hcz22_3
            try clear hcz22_4
            try clear hcz8_0
            try clear hcz8_1
            try clear hcz8_2
            try clear hcz8_3
            try clear hcz8_4
            try clear hcz9_0
            try clear hcz9_1
            try clear hcz9_2
            try clear hcz9_3
            try clear hcz9_4
            try clear hfz13_0
            try clear hfz13_1
            try clear hfz13_2
            try clear hfz13_3
            try clear hfz13_4
            try clear hfz19_0
            try clear hfz19_1
            try clear hfz19_2
            try clear hfz19_3
            try clear hfz19_4
            try clear hfz20_0
            try clear hfz20_1
            try clear hfz20_2
            try clear hfz20_3
            try clear hfz20_4
            try clear hfz22_0
            try clear hfz22_1
            try clear hfz22_2
            try clear hfz22_3
            try clear hfz22_4
            try clear hfz8_0
            try clear hfz8_1
            try clear hfz8_2
            try clear hfz8_3
            try clear hfz8_4
            try clear hfz9_0
            try clear hfz9_1
            try clear hfz9_2
            try clear hfz9_3
            try clear hfz9_4
            try clear p2
            obtain ⟨kq, x20_11, rfl, HA, HJ11, BK172, HB⟩ := hcut
            cases kq with
            | zero => exact absurd HA.out (by simp [json_fault.j1])
            | succ kj11 =>
              have H := HA.out
              clear HA
              simp only [json_fault.j1] at H
              by_cases c23 : x20_11 = true
              · subst c23
                have H1 : (some 4) = some r := by rw [if_pos rfl] at H; exact H
                clear H
                have H := H1
                clear H1
                obtain rfl := Option.some.inj H
                go_wp2
                go_ret
                exact ⟨by first | rfl | (simp [errW_none, errW_some] <;> rfl) | (simp [*, errW_none, errW_some] <;> rfl), by repeat (first | (with_reducible first | exact HB.out | apply below_alloc | apply pw_below_drewN | apply below_drew1 | refine below_set ?_ GE172.out) | exact HB.out)⟩
              · replace c23 := Bool.eq_false_iff.mpr c23
                subst c23
                have H1 : (if a0_1 ≥ 9007199254740992 then (some 2) else (if a0_1 ≤ (-9007199254740992) then (some 2) else (json_fault.l0 kj11 a1 l0_4 (l0_4.length : Int) 0))) = some r := by rw [if_neg (show ¬ (false = true) by decide)] at H; exact H
                clear H
                have H := H1
                clear H1
                by_cases c24 : a0_1 ≥ 9007199254740992
                · rw [if_pos c24] at H
                  have c24b0 : decide (9007199254740992 ≤ a0_1) = true := decide_eq_true c24
                  clear c24
                  obtain rfl := Option.some.inj H
                  have hcz25_0 : wc.cell? ⟨gb172, 0, none⟩ = some (.int .i64 a0_0) := (blk_cell BK172.out 0).trans rfl
                  have hcz25_1 : wc.cell? ⟨gb172, 1, none⟩ = some (.int .i64 a0_1) := (blk_cell BK172.out 1).trans rfl
                  have hcz25_2 : wc.cell? ⟨gb172, 2, none⟩ = some (.string a0_2) := (blk_cell BK172.out 2).trans rfl
                  have hcz25_3 : wc.cell? ⟨gb172, 3, none⟩ = some (.slice A0_3 l0_3.length c0_3) := (blk_cell BK172.out 3).trans rfl
                  have hcz25_4 : wc.cell? ⟨gb172, 4, none⟩ = some (.slice A0_4 l0_4.length c0_4) := (blk_cell BK172.out 4).trans rfl
                  have hfz25_0 := blk_frozen BK172.out 0
                  have hfz25_1 := blk_frozen BK172.out 1
                  have hfz25_2 := blk_frozen BK172.out 2
                  have hfz25_3 := blk_frozen BK172.out 3
                  have hfz25_4 := blk_frozen BK172.out 4
                  go_wp2
                  go_ret
                  exact ⟨by first | rfl | (simp [errW_none, errW_some] <;> rfl) | (simp [*, errW_none, errW_some] <;> rfl), by repeat (first | (with_reducible first | exact HB.out | apply below_alloc | apply pw_below_drewN | apply below_drew1 | refine below_set ?_ GE172.out) | exact HB.out)⟩
                · rw [if_neg c24] at H
                  have c24b0 : decide (9007199254740992 ≤ a0_1) = false := decide_eq_false c24
                  clear c24
                  by_cases c26 : a0_1 ≤ (-9007199254740992)
                  · rw [if_pos c26] at H
                    have c26b0 : decide (a0_1 ≤ (-9007199254740992)) = true := decide_eq_true c26
                    clear c26
                    obtain rfl := Option.some.inj H
                    have hcz27_0 : wc.cell? ⟨gb172, 0, none⟩ = some (.int .i64 a0_0) := (blk_cell BK172.out 0).trans rfl
                    have hcz27_1 : wc.cell? ⟨gb172, 1, none⟩ = some (.int .i64 a0_1) := (blk_cell BK172.out 1).trans rfl
                    have hcz27_2 : wc.cell? ⟨gb172, 2, none⟩ = some (.string a0_2) := (blk_cell BK172.out 2).trans rfl
                    have hcz27_3 : wc.cell? ⟨gb172, 3, none⟩ = some (.slice A0_3 l0_3.length c0_3) := (blk_cell BK172.out 3).trans rfl
                    have hcz27_4 : wc.cell? ⟨gb172, 4, none⟩ = some (.slice A0_4 l0_4.length c0_4) := (blk_cell BK172.out 4).trans rfl
                    have hfz27_0 := blk_frozen BK172.out 0
                    have hfz27_1 := blk_frozen BK172.out 1
                    have hfz27_2 := blk_frozen BK172.out 2
                    have hfz27_3 := blk_frozen BK172.out 3
                    have hfz27_4 := blk_frozen BK172.out 4
                    go_wp2
                    go_ret
                    exact ⟨by first | rfl | (simp [errW_none, errW_some] <;> rfl) | (simp [*, errW_none, errW_some] <;> rfl), by repeat (first | (with_reducible first | exact HB.out | apply below_alloc | apply pw_below_drewN | apply below_drew1 | refine below_set ?_ GE172.out) | exact HB.out)⟩
                  · rw [if_neg c26] at H
                    have c26b0 : decide (a0_1 ≤ (-9007199254740992)) = false := decide_eq_false c26
                    clear c26
                    have H' := Aside0.mk H
                    clear H
                    have hcz28_0 : wc.cell? ⟨gb172, 0, none⟩ = some (.int .i64 a0_0) := (blk_cell BK172.out 0).trans rfl
                    have hcz28_1 : wc.cell? ⟨gb172, 1, none⟩ = some (.int .i64 a0_1) := (blk_cell BK172.out 1).trans rfl
                    have hcz28_2 : wc.cell? ⟨gb172, 2, none⟩ = some (.string a0_2) := (blk_cell BK172.out 2).trans rfl
                    have hcz28_3 : wc.cell? ⟨gb172, 3, none⟩ = some (.slice A0_3 l0_3.length c0_3) := (blk_cell BK172.out 3).trans rfl
                    have hcz28_4 : wc.cell? ⟨gb172, 4, none⟩ = some (.slice A0_4 l0_4.length c0_4) := (blk_cell BK172.out 4).trans rfl
                    have hfz28_0 := blk_frozen BK172.out 0
                    have hfz28_1 := blk_frozen BK172.out 1
                    have hfz28_2 := blk_frozen BK172.out 2
                    have hfz28_3 := blk_frozen BK172.out 3
                    have hfz28_4 := blk_frozen BK172.out 4
                    go_wp2
                    go_loopg [52] kj11 (fun kq v52 w' => ∃ (x52_3 : Int), v52 = .int .i64 x52_3 ∧ Aside0 (json_fault.l0 kq a1 l0_4 (l0_4.length : Int) x52_3 = some r) ∧ Aside0 (kq ≤ kj11) ∧ Aside0 (w'.heap[gb172]? = some (.cells #[.int .i64 a0_0, .int .i64 a0_1, .string a0_2, (.slice A0_3 l0_3.length c0_3), (.slice A0_4 l0_4.length c0_4)] 26 (0, 0))) ∧ Aside0 (Below w.heap.size w w'))
                    case atStart => exact ⟨(0), (by first | rfl | (simp; done) | (simp [*]; done)), H', ⟨Nat.le_refl _⟩, ⟨by (with_reducible repeat (first | refine blk_drewN ?_ _ | refine blk_drew ?_ | refine blk_alloc ?_ _)); exact BK172.out⟩, ⟨by repeat (first | (with_reducible first | exact HB.out | apply below_alloc | apply pw_below_drewN | apply below_drew1 | refine below_set ?_ GE172.out) | exact HB.out)⟩⟩
                    case round =>
                      clear H'
                      try clear c1
                      try clear c2
                      try clear p2
                      try clear c3
                      try clear c3b0
                      try clear c7
                      try clear c7b0
                      try clear c10
                      try clear c15
                      try clear c16
                      try clear c16b0
                      try clear c16b1
                      try clear c17
                      try clear c17b0
                      try clear c17b1
                      try clear c17b2
                      try clear c22
                      try clear c23
                      try clear c24
                      try clear c24b0
                      try clear c26
                      try clear c26b0
                      try clear hcz13_0
                      try clear hcz13_1
                      try clear hcz13_2
                      try clear hcz13_3
                      try clear hcz13_4
                      try clear hcz19_0
                      try clear hcz19_1
                      try clear hcz19_2
                      try clear hcz19_3
                      try clear hcz19_4
                      try clear hcz20_0
                      try clear hcz20_1
                      try clear hcz20_2
                      try clear hcz20_3
                      try clear hcz20_4
                      try clear hcz22_0
                      try clear hcz22_1
                      try clear hcz22_2
                      try clear hcz22_3
                      try clear hcz22_4
                      try clear hcz25_0
                      try clear hcz25_1
                      try clear hcz25_2
                      try clear hcz25_3
                      try clear hcz25_4
                      try clear hcz27_0
                      try clear hcz27_1
                      try clear hcz27_2
                      try clear hcz27_3
                      try clear hcz27_4
                      try clear hcz28_0
                      try clear hcz28_1
                      try clear hcz28_2
                      try clear hcz28_3
                      try clear hcz28_4
                      try clear hcz8_0
                      try clear hcz8_1
                      try clear hcz8_2
                      try clear hcz8_3
                      try clear hcz8_4
                      try clear hcz9_0
                      try clear hcz9_1
                      try clear hcz9_2
                      try clear hcz9_3
                      try clear hcz9_4
                      try clear hfz13_0
                      try clear hfz13_1
                      try clear hfz13_2
                      try clear hfz13_3
                      try clear hfz13_4
                      try clear hfz19_0
                      try clear hfz19_1
                      try clear hfz19_2
                      try clear hfz19_3
                      try clear hfz19_4
                      try clear hfz20_0
                      try clear hfz20_1
                      try clear hfz20_2
                      try clear hfz20_3
                      try clear hfz20_4
                      try clear hfz22_0
                      try clear hfz22_1
                      try clear hfz22_2
                      try clear hfz22_3
                      try clear hfz22_4
                      try clear hfz25_0
                      try clear hfz25_1
                      try clear hfz25_2
                      try clear hfz25_3
                      try clear hfz25_4
                      try clear hfz27_0
                      try clear hfz27_1
                      try clear hfz27_2
                      try clear hfz27_3
                      try clear hfz27_4
                      try clear hfz28_0
                      try clear hfz28_1
                      try clear hfz28_2
                      try clear hfz28_3
                      try clear hfz28_4
                      try clear hfz8_0
                      try clear hfz8_1
                      try clear hfz8_2
                      try clear hfz8_3
                      try clear hfz8_4
                      try clear hfz9_0
                      try clear hfz9_1
                      try clear hfz9_2
                      try clear hfz9_3
                      try clear hfz9_4
                      try clear p2
                      obtain ⟨x52_3, rfl, HA, HK3, BK172, HB⟩ := hrel
                      cases gk with
                      | zero => exact absurd HA.out (by simp [json_fault.l0])
                      | succ k3 =>
                        have H := HA.out
                        clear HA
                        simp only [json_fault.l0] at H
                        by_cases c29 : x52_3 < (l0_4.length : Int)
                        · rw [if_pos c29] at H
                          have c29b0 : decide (x52_3 < (l0_4.length : Int)) = true := decide_eq_true c29
                          clear c29
                          by_cases c30 : 0 ≤ x52_3
                          · rw [if_pos c30] at H
                            have c30b0 : decide (0 ≤ x52_3) = true := decide_eq_true c30
                            clear c30
                            by_cases c31 : x52_3 < (l0_4.length : Int)
                            · rw [if_pos c31] at H
                              have c31b0 : decide (x52_3 < (l0_4.length : Int)) = true := decide_eq_true c31
                              clear c31
                              replace H := Option.bind_eq_some_iff.mp H
                              obtain ⟨t178, A320, H⟩ := H
                              replace H : (if t178 = 0 then (json_fault.l0 k3 a1 l0_4 (l0_4.length : Int) (wrap64 (x52_3 + 1))) else (some t178)) = some r := H
                              have A32 := Aside0.mk A320
                              clear A320
                              by_cases c33 : t178 = 0
                              · rw [if_pos c33] at H
                                have c33b0 : (t178 == 0) = true := beq_iff_eq.mpr c33
                                have c33b1 : (t178 != 0) = false := bne_eq_false_iff_eq.mpr c33
                                clear c33
                                have H' := Aside0.mk H
                                clear H
                                have p176 : 0 ≤ (x52_3 : Int) := of_decide_eq_true (by first | (with_reducible assumption) | assumption)
                                have q176 : x52_3 < (l0_4.length : Int) := of_decide_eq_true (by first | (with_reducible assumption) | assumption)
                                obtain ⟨ad176, A176_3, c176_3, A176_4, c176_4, e176, hx176_0, hx176_1, hx176_2, hx176_3, hx176_4, hl176_3, hi176_3, hl176_4, hi176_4⟩ := at_T26 HR0_4.out x52_3 p176 q176
                                cases e176
                                replace hx176_0 := (HB.out.cell (World.block_lt_of_cell? w _ hx176_0)).trans hx176_0
                                replace hx176_1 := (HB.out.cell (World.block_lt_of_cell? w _ hx176_1)).trans hx176_1
                                replace hx176_2 := (HB.out.cell (World.block_lt_of_cell? w _ hx176_2)).trans hx176_2
                                replace hx176_3 := (HB.out.cell (World.block_lt_of_cell? w _ hx176_3)).trans hx176_3
                                replace hx176_4 := (HB.out.cell (World.block_lt_of_cell? w _ hx176_4)).trans hx176_4
                                have HR176_3 := Aside0.mk hi176_3
                                have HC176_3 := Aside0.mk hl176_3
                                clear hi176_3 hl176_3
                                have HR176_4 := Aside0.mk hi176_4
                                have HC176_4 := Aside0.mk hl176_4
                                clear hi176_4 hl176_4
                                replace p176 := eq_true p176
                                replace q176 := eq_true q176
                                go_wp2_with (first | ((with_reducible refine gate_dst (N := 6) rfl ?_); (try (refine gate_guard (by rfl) ?_; dsimp only)); refine box_event ?hg (N := 6) ?hd (cs := #[.int .i64 0, .int .i64 0, .string (⟨#[]⟩ : ByteArray), .slice none 0 0, .slice none 0 0]) (t := 26) ?hr ?_; (case hd => rfl); (case hg => rfl); (case hr => first | (go_simp; done) | (go_simp; rfl)); intro gb177 hg w34 hbox hb; have n0_ := Aside0.mk (blk_below (g := gb172) (o := .cells #[.int .i64 a0_0, .int .i64 a0_1, .string a0_2, .slice A0_3 l0_3.length c0_3, .slice (some ad176) l0_4.length c0_4] 26 (0, 0)) (by (with_reducible repeat (first | refine blk_drewN ?_ _ | refine blk_drew ?_ | refine blk_alloc ?_ _)); exact BK172.out) hb); have n1_ := Aside0.mk (below_step (by repeat (first | (with_reducible first | exact HB.out | apply below_alloc | apply pw_below_drewN | apply below_drew1 | refine below_set ?_ GE172.out) | exact HB.out)) hb); have n2_ := Aside0.mk (hbox); have n3_ := Aside0.mk ((by rw [hg]; exact (below_size (by repeat (first | (with_reducible first | exact HB.out | apply below_alloc | apply pw_below_drewN | apply below_drew1 | refine below_set ?_ GE172.out) | exact HB.out))) : w.heap.size ≤ gb177)); have n4_ := Aside0.mk ((by rw [hg]; exact (below_size (by repeat (first | (with_reducible first | exact HB.out | apply below_alloc | apply pw_below_drewN | apply below_drew1 | refine below_set ?_ GE172.out) | exact HB.out))) : w.heap.size ≤ gb177)); have n5_ := Aside0.mk ((by rw [hg]; exact Nat.ne_of_lt (blk_lt (g := gb172) (o := .cells #[.int .i64 a0_0, .int .i64 a0_1, .string a0_2, .slice A0_3 l0_3.length c0_3, .slice (some ad176) l0_4.length c0_4] 26 (0, 0)) (by (with_reducible repeat (first | refine blk_drewN ?_ _ | refine blk_drew ?_ | refine blk_alloc ?_ _)); exact BK172.out)) : gb172 ≠ gb177)); have n6_ := Aside0.mk ((by rw [hg]; exact Nat.ne_of_gt (blk_lt (g := gb172) (o := .cells #[.int .i64 a0_0, .int .i64 a0_1, .string a0_2, .slice A0_3 l0_3.length c0_3, .slice (some ad176) l0_4.length c0_4] 26 (0, 0)) (by (with_reducible repeat (first | refine blk_drewN ?_ _ | refine blk_drew ?_ | refine blk_alloc ?_ _)); exact BK172.out)) : gb177 ≠ gb172)); clear BK172; clear HB; have BK172 := n0_; have HB := n1_; have BK177 := n2_; have GW177 := n3_; have GE177 := n4_; have NB172_177 := n5_; have NB177_172 := n6_; clear n0_ n1_ n2_ n3_ n4_ n5_ n6_; clear hb hbox hg; have hnb35 := NB177_172.out; have hnc35 := NB172_177.out; have hcz36_0 : w34.cell? ⟨gb177, 0, none⟩ = some (.int .i64 0) := (blk_cell BK177.out 0).trans rfl; have hcz36_1 : w34.cell? ⟨gb177, 1, none⟩ = some (.int .i64 0) := (blk_cell BK177.out 1).trans rfl; have hcz36_2 : w34.cell? ⟨gb177, 2, none⟩ = some (.string (⟨#[]⟩ : ByteArray)) := (blk_cell BK177.out 2).trans rfl; have hcz36_3 : w34.cell? ⟨gb177, 3, none⟩ = some (.slice none 0 0) := (blk_cell BK177.out 3).trans rfl; have hcz36_4 : w34.cell? ⟨gb177, 4, none⟩ = some (.slice none 0 0) := (blk_cell BK177.out 4).trans rfl; have hfz36_0 := blk_frozen BK177.out 0; have hfz36_1 := blk_frozen BK177.out 1; have hfz36_2 := blk_frozen BK177.out 2; have hfz36_3 := blk_frozen BK177.out 3; have hfz36_4 := blk_frozen BK177.out 4) | ((with_reducible refine gate_callee (f := 22) rfl ?_); refine goesL_ (some 59) rfl rfl Tryz.func22 (by kernel_rfl) rfl #[.agg #[.int .i64 ((rd_T26 l0_4 x52_3).f0), .int .i64 ((rd_T26 l0_4 x52_3).f1), .string ((rd_T26 l0_4 x52_3).f2), .slice A176_3 ((rd_T26 l0_4 x52_3).f3).length c176_3, .slice A176_4 ((rd_T26 l0_4 x52_3).f4).length c176_4], .int .i64 (wrap64 (a1 + 1))] rfl (by (try simp only [List.map_toArray, List.map_cons, List.map_nil]); first | done | rfl | (simp only [List.length_drop, List.length_take]; rfl)) ?_; (with_reducible refine (ih k3 (by have := HJ4.out; have := HJ11.out; have := HK3.out; omega) ((rd_T26 l0_4 x52_3).f0) ((rd_T26 l0_4 x52_3).f1) ((rd_T26 l0_4 x52_3).f2) _ _ ((rd_T26 l0_4 x52_3).f3) _ _ ((rd_T26 l0_4 x52_3).f4) (wrap64 (a1 + 1)) t178 _ ?side1 ?side2 ?side3 ?side4 A32.out).mono ?_); (case side1 => exact Kd.C_below HR176_3.out (by repeat (first | (with_reducible first | exact HB.out | apply below_alloc | apply pw_below_drewN | apply below_drew1 | refine below_set ?_ GE172.out | refine below_set ?_ GE177.out) | exact HB.out))); (case side2 => exact HC176_3.out); (case side3 => exact Kd.C_below HR176_4.out (by repeat (first | (with_reducible first | exact HB.out | apply below_alloc | apply pw_below_drewN | apply below_drew1 | refine below_set ?_ GE172.out | refine below_set ?_ GE177.out) | exact HB.out))); (case side4 => exact HC176_4.out); rintro e w37 ⟨rfl, hb⟩; refine ⟨_, rfl, ?_⟩; have n0_ := Aside0.mk (blk_below (g := gb172) (o := .cells #[.int .i64 a0_0, .int .i64 a0_1, .string a0_2, .slice A0_3 l0_3.length c0_3, .slice (some ad176) l0_4.length c0_4] 26 (0, 0)) (by (with_reducible repeat (first | refine blk_drewN ?_ _ | refine blk_drew ?_ | refine blk_alloc ?_ _)); refine blk_far ?_ NB172_177.out _; (with_reducible repeat (first | refine blk_drewN ?_ _ | refine blk_drew ?_ | refine blk_alloc ?_ _)); refine blk_far ?_ NB172_177.out _; (with_reducible repeat (first | refine blk_drewN ?_ _ | refine blk_drew ?_ | refine blk_alloc ?_ _)); refine blk_far ?_ NB172_177.out _; (with_reducible repeat (first | refine blk_drewN ?_ _ | refine blk_drew ?_ | refine blk_alloc ?_ _)); refine blk_far ?_ NB172_177.out _; (with_reducible repeat (first | refine blk_drewN ?_ _ | refine blk_drew ?_ | refine blk_alloc ?_ _)); refine blk_far ?_ NB172_177.out _; (with_reducible repeat (first | refine blk_drewN ?_ _ | refine blk_drew ?_ | refine blk_alloc ?_ _)); exact BK172.out) hb); have n1_ := Aside0.mk (blk_below (g := gb177) (o := .cells #[.int .i64 ((rd_T26 l0_4 x52_3).f0), .int .i64 ((rd_T26 l0_4 x52_3).f1), .string ((rd_T26 l0_4 x52_3).f2), .slice A176_3 ((rd_T26 l0_4 x52_3).f3).length c176_3, .slice A176_4 ((rd_T26 l0_4 x52_3).f4).length c176_4] 26 (0, 0)) (by (with_reducible repeat (first | refine blk_drewN ?_ _ | refine blk_drew ?_ | refine blk_alloc ?_ _)); refine blk_put (cs := #[.int .i64 ((rd_T26 l0_4 x52_3).f0), .int .i64 ((rd_T26 l0_4 x52_3).f1), .string ((rd_T26 l0_4 x52_3).f2), .slice A176_3 ((rd_T26 l0_4 x52_3).f3).length c176_3, .slice none 0 0]) ?_ 4 _ rfl; (with_reducible repeat (first | refine blk_drewN ?_ _ | refine blk_drew ?_ | refine blk_alloc ?_ _)); refine blk_put (cs := #[.int .i64 ((rd_T26 l0_4 x52_3).f0), .int .i64 ((rd_T26 l0_4 x52_3).f1), .string ((rd_T26 l0_4 x52_3).f2), .slice none 0 0, .slice none 0 0]) ?_ 3 _ rfl; (with_reducible repeat (first | refine blk_drewN ?_ _ | refine blk_drew ?_ | refine blk_alloc ?_ _)); refine blk_put (cs := #[.int .i64 ((rd_T26 l0_4 x52_3).f0), .int .i64 ((rd_T26 l0_4 x52_3).f1), .string (⟨#[]⟩ : ByteArray), .slice none 0 0, .slice none 0 0]) ?_ 2 _ rfl; (with_reducible repeat (first | refine blk_drewN ?_ _ | refine blk_drew ?_ | refine blk_alloc ?_ _)); refine blk_put (cs := #[.int .i64 ((rd_T26 l0_4 x52_3).f0), .int .i64 0, .string (⟨#[]⟩ : ByteArray), .slice none 0 0, .slice none 0 0]) ?_ 1 _ rfl; (with_reducible repeat (first | refine blk_drewN ?_ _ | refine blk_drew ?_ | refine blk_alloc ?_ _)); refine blk_put (cs := #[.int .i64 0, .int .i64 0, .string (⟨#[]⟩ : ByteArray), .slice none 0 0, .slice none 0 0]) ?_ 0 _ rfl; (with_reducible repeat (first | refine blk_drewN ?_ _ | refine blk_drew ?_ | refine blk_alloc ?_ _)); exact BK177.out) hb); have n2_ := Aside0.mk (below_step (by repeat (first | (with_reducible first | exact HB.out | apply below_alloc | apply pw_below_drewN | apply below_drew1 | refine below_set ?_ GE172.out | refine below_set ?_ GE177.out) | exact HB.out)) hb); clear BK172; clear BK177; clear HB; have BK172 := n0_; have BK177 := n1_; have HB := n2_; clear n0_ n1_ n2_; (try clear hb); (try clear hb2); (try clear hk); (try clear hi)))
                                go_roundg k3
                                case measure => have := HJ4.out; have := HJ11.out; have := HK3.out; omega
                                case rel => exact ⟨(wrap64 (x52_3 + 1)), (by first | rfl | (simp; done) | (simp [*]; done)), H', ⟨by have := HJ4.out; have := HJ11.out; have := HK3.out; omega⟩, ⟨by (with_reducible repeat (first | refine blk_drewN ?_ _ | refine blk_drew ?_ | refine blk_alloc ?_ _)); exact BK172.out⟩, ⟨by repeat (first | (with_reducible first | exact HB.out | apply below_alloc | apply pw_below_drewN | apply below_drew1 | refine below_set ?_ GE172.out | refine below_set ?_ GE177.out) | exact HB.out)⟩⟩
                              · rw [if_neg c33] at H
                                have c33b0 : (t178 == 0) = false := beq_eq_false_iff_ne.mpr c33
                                have c33b1 : (t178 != 0) = true := bne_iff_ne.mpr c33
                                obtain rfl := Option.some.inj H
                                have p176 : 0 ≤ (x52_3 : Int) := of_decide_eq_true (by first | (with_reducible assumption) | assumption)
                                have q176 : x52_3 < (l0_4.length : Int) := of_decide_eq_true (by first | (with_reducible assumption) | assumption)
                                obtain ⟨ad176, A176_3, c176_3, A176_4, c176_4, e176, hx176_0, hx176_1, hx176_2, hx176_3, hx176_4, hl176_3, hi176_3, hl176_4, hi176_4⟩ := at_T26 HR0_4.out x52_3 p176 q176
                                cases e176
                                replace hx176_0 := (HB.out.cell (World.block_lt_of_cell? w _ hx176_0)).trans hx176_0
                                replace hx176_1 := (HB.out.cell (World.block_lt_of_cell? w _ hx176_1)).trans hx176_1
                                replace hx176_2 := (HB.out.cell (World.block_lt_of_cell? w _ hx176_2)).trans hx176_2
                                replace hx176_3 := (HB.out.cell (World.block_lt_of_cell? w _ hx176_3)).trans hx176_3
                                replace hx176_4 := (HB.out.cell (World.block_lt_of_cell? w _ hx176_4)).trans hx176_4
                                have HR176_3 := Aside0.mk hi176_3
                                have HC176_3 := Aside0.mk hl176_3
                                clear hi176_3 hl176_3
                                have HR176_4 := Aside0.mk hi176_4
                                have HC176_4 := Aside0.mk hl176_4
                                clear hi176_4 hl176_4
                                replace p176 := eq_true p176
                                replace q176 := eq_true q176
                                go_wp2_with (first | ((with_reducible refine gate_dst (N := 6) rfl ?_); (try (refine gate_guard (by rfl) ?_; dsimp only)); refine box_event ?hg (N := 6) ?hd (cs := #[.int .i64 0, .int .i64 0, .string (⟨#[]⟩ : ByteArray), .slice none 0 0, .slice none 0 0]) (t := 26) ?hr ?_; (case hd => rfl); (case hg => rfl); (case hr => first | (go_simp; done) | (go_simp; rfl)); intro gb177 hg w38 hbox hb; have n0_ := Aside0.mk (blk_below (g := gb172) (o := .cells #[.int .i64 a0_0, .int .i64 a0_1, .string a0_2, .slice A0_3 l0_3.length c0_3, .slice (some ad176) l0_4.length c0_4] 26 (0, 0)) (by (with_reducible repeat (first | refine blk_drewN ?_ _ | refine blk_drew ?_ | refine blk_alloc ?_ _)); exact BK172.out) hb); have n1_ := Aside0.mk (below_step (by repeat (first | (with_reducible first | exact HB.out | apply below_alloc | apply pw_below_drewN | apply below_drew1 | refine below_set ?_ GE172.out) | exact HB.out)) hb); have n2_ := Aside0.mk (hbox); have n3_ := Aside0.mk ((by rw [hg]; exact (below_size (by repeat (first | (with_reducible first | exact HB.out | apply below_alloc | apply pw_below_drewN | apply below_drew1 | refine below_set ?_ GE172.out) | exact HB.out))) : w.heap.size ≤ gb177)); have n4_ := Aside0.mk ((by rw [hg]; exact (below_size (by repeat (first | (with_reducible first | exact HB.out | apply below_alloc | apply pw_below_drewN | apply below_drew1 | refine below_set ?_ GE172.out) | exact HB.out))) : w.heap.size ≤ gb177)); have n5_ := Aside0.mk ((by rw [hg]; exact Nat.ne_of_lt (blk_lt (g := gb172) (o := .cells #[.int .i64 a0_0, .int .i64 a0_1, .string a0_2, .slice A0_3 l0_3.length c0_3, .slice (some ad176) l0_4.length c0_4] 26 (0, 0)) (by (with_reducible repeat (first | refine blk_drewN ?_ _ | refine blk_drew ?_ | refine blk_alloc ?_ _)); exact BK172.out)) : gb172 ≠ gb177)); have n6_ := Aside0.mk ((by rw [hg]; exact Nat.ne_of_gt (blk_lt (g := gb172) (o := .cells #[.int .i64 a0_0, .int .i64 a0_1, .string a0_2, .slice A0_3 l0_3.length c0_3, .slice (some ad176) l0_4.length c0_4] 26 (0, 0)) (by (with_reducible repeat (first | refine blk_drewN ?_ _ | refine blk_drew ?_ | refine blk_alloc ?_ _)); exact BK172.out)) : gb177 ≠ gb172)); clear BK172; clear HB; have BK172 := n0_; have HB := n1_; have BK177 := n2_; have GW177 := n3_; have GE177 := n4_; have NB172_177 := n5_; have NB177_172 := n6_; clear n0_ n1_ n2_ n3_ n4_ n5_ n6_; clear hb hbox hg; have hnb39 := NB177_172.out; have hnc39 := NB172_177.out; have hcz40_0 : w38.cell? ⟨gb177, 0, none⟩ = some (.int .i64 0) := (blk_cell BK177.out 0).trans rfl; have hcz40_1 : w38.cell? ⟨gb177, 1, none⟩ = some (.int .i64 0) := (blk_cell BK177.out 1).trans rfl; have hcz40_2 : w38.cell? ⟨gb177, 2, none⟩ = some (.string (⟨#[]⟩ : ByteArray)) := (blk_cell BK177.out 2).trans rfl; have hcz40_3 : w38.cell? ⟨gb177, 3, none⟩ = some (.slice none 0 0) := (blk_cell BK177.out 3).trans rfl; have hcz40_4 : w38.cell? ⟨gb177, 4, none⟩ = some (.slice none 0 0) := (blk_cell BK177.out 4).trans rfl; have hfz40_0 := blk_frozen BK177.out 0; have hfz40_1 := blk_frozen BK177.out 1; have hfz40_2 := blk_frozen BK177.out 2; have hfz40_3 := blk_frozen BK177.out 3; have hfz40_4 := blk_frozen BK177.out 4) | ((with_reducible refine gate_callee (f := 22) rfl ?_); refine goesL_ (some 59) rfl rfl Tryz.func22 (by kernel_rfl) rfl #[.agg #[.int .i64 ((rd_T26 l0_4 x52_3).f0), .int .i64 ((rd_T26 l0_4 x52_3).f1), .string ((rd_T26 l0_4 x52_3).f2), .slice A176_3 ((rd_T26 l0_4 x52_3).f3).length c176_3, .slice A176_4 ((rd_T26 l0_4 x52_3).f4).length c176_4], .int .i64 (wrap64 (a1 + 1))] rfl (by (try simp only [List.map_toArray, List.map_cons, List.map_nil]); first | done | rfl | (simp only [List.length_drop, List.length_take]; rfl)) ?_; (with_reducible refine (ih k3 (by have := HJ4.out; have := HJ11.out; have := HK3.out; omega) ((rd_T26 l0_4 x52_3).f0) ((rd_T26 l0_4 x52_3).f1) ((rd_T26 l0_4 x52_3).f2) _ _ ((rd_T26 l0_4 x52_3).f3) _ _ ((rd_T26 l0_4 x52_3).f4) (wrap64 (a1 + 1)) t178 _ ?side1 ?side2 ?side3 ?side4 A32.out).mono ?_); (case side1 => exact Kd.C_below HR176_3.out (by repeat (first | (with_reducible first | exact HB.out | apply below_alloc | apply pw_below_drewN | apply below_drew1 | refine below_set ?_ GE172.out | refine below_set ?_ GE177.out) | exact HB.out))); (case side2 => exact HC176_3.out); (case side3 => exact Kd.C_below HR176_4.out (by repeat (first | (with_reducible first | exact HB.out | apply below_alloc | apply pw_below_drewN | apply below_drew1 | refine below_set ?_ GE172.out | refine below_set ?_ GE177.out) | exact HB.out))); (case side4 => exact HC176_4.out); rintro e w41 ⟨rfl, hb⟩; refine ⟨_, rfl, ?_⟩; have n0_ := Aside0.mk (blk_below (g := gb172) (o := .cells #[.int .i64 a0_0, .int .i64 a0_1, .string a0_2, .slice A0_3 l0_3.length c0_3, .slice (some ad176) l0_4.length c0_4] 26 (0, 0)) (by (with_reducible repeat (first | refine blk_drewN ?_ _ | refine blk_drew ?_ | refine blk_alloc ?_ _)); refine blk_far ?_ NB172_177.out _; (with_reducible repeat (first | refine blk_drewN ?_ _ | refine blk_drew ?_ | refine blk_alloc ?_ _)); refine blk_far ?_ NB172_177.out _; (with_reducible repeat (first | refine blk_drewN ?_ _ | refine blk_drew ?_ | refine blk_alloc ?_ _)); refine blk_far ?_ NB172_177.out _; (with_reducible repeat (first | refine blk_drewN ?_ _ | refine blk_drew ?_ | refine blk_alloc ?_ _)); refine blk_far ?_ NB172_177.out _; (with_reducible repeat (first | refine blk_drewN ?_ _ | refine blk_drew ?_ | refine blk_alloc ?_ _)); refine blk_far ?_ NB172_177.out _; (with_reducible repeat (first | refine blk_drewN ?_ _ | refine blk_drew ?_ | refine blk_alloc ?_ _)); exact BK172.out) hb); have n1_ := Aside0.mk (blk_below (g := gb177) (o := .cells #[.int .i64 ((rd_T26 l0_4 x52_3).f0), .int .i64 ((rd_T26 l0_4 x52_3).f1), .string ((rd_T26 l0_4 x52_3).f2), .slice A176_3 ((rd_T26 l0_4 x52_3).f3).length c176_3, .slice A176_4 ((rd_T26 l0_4 x52_3).f4).length c176_4] 26 (0, 0)) (by (with_reducible repeat (first | refine blk_drewN ?_ _ | refine blk_drew ?_ | refine blk_alloc ?_ _)); refine blk_put (cs := #[.int .i64 ((rd_T26 l0_4 x52_3).f0), .int .i64 ((rd_T26 l0_4 x52_3).f1), .string ((rd_T26 l0_4 x52_3).f2), .slice A176_3 ((rd_T26 l0_4 x52_3).f3).length c176_3, .slice none 0 0]) ?_ 4 _ rfl; (with_reducible repeat (first | refine blk_drewN ?_ _ | refine blk_drew ?_ | refine blk_alloc ?_ _)); refine blk_put (cs := #[.int .i64 ((rd_T26 l0_4 x52_3).f0), .int .i64 ((rd_T26 l0_4 x52_3).f1), .string ((rd_T26 l0_4 x52_3).f2), .slice none 0 0, .slice none 0 0]) ?_ 3 _ rfl; (with_reducible repeat (first | refine blk_drewN ?_ _ | refine blk_drew ?_ | refine blk_alloc ?_ _)); refine blk_put (cs := #[.int .i64 ((rd_T26 l0_4 x52_3).f0), .int .i64 ((rd_T26 l0_4 x52_3).f1), .string (⟨#[]⟩ : ByteArray), .slice none 0 0, .slice none 0 0]) ?_ 2 _ rfl; (with_reducible repeat (first | refine blk_drewN ?_ _ | refine blk_drew ?_ | refine blk_alloc ?_ _)); refine blk_put (cs := #[.int .i64 ((rd_T26 l0_4 x52_3).f0), .int .i64 0, .string (⟨#[]⟩ : ByteArray), .slice none 0 0, .slice none 0 0]) ?_ 1 _ rfl; (with_reducible repeat (first | refine blk_drewN ?_ _ | refine blk_drew ?_ | refine blk_alloc ?_ _)); refine blk_put (cs := #[.int .i64 0, .int .i64 0, .string (⟨#[]⟩ : ByteArray), .slice none 0 0, .slice none 0 0]) ?_ 0 _ rfl; (with_reducible repeat (first | refine blk_drewN ?_ _ | refine blk_drew ?_ | refine blk_alloc ?_ _)); exact BK177.out) hb); have n2_ := Aside0.mk (below_step (by repeat (first | (with_reducible first | exact HB.out | apply below_alloc | apply pw_below_drewN | apply below_drew1 | refine below_set ?_ GE172.out | refine below_set ?_ GE177.out) | exact HB.out)) hb); clear BK172; clear BK177; clear HB; have BK172 := n0_; have BK177 := n1_; have HB := n2_; clear n0_ n1_ n2_; (try clear hb); (try clear hb2); (try clear hk); (try clear hi)))
                                go_ret
                                exact ⟨by first | rfl | (simp [errW_none, errW_some] <;> rfl) | (simp [*, errW_none, errW_some] <;> rfl), by repeat (first | (with_reducible first | exact HB.out | apply below_alloc | apply pw_below_drewN | apply below_drew1 | refine below_set ?_ GE172.out | refine below_set ?_ GE177.out) | exact HB.out)⟩
                            · rw [if_neg c31] at H
                              exact absurd H (by simp)
                          · rw [if_neg c30] at H
                            exact absurd H (by simp)
                        · rw [if_neg c29] at H
                          have c29b0 : decide (x52_3 < (l0_4.length : Int)) = false := decide_eq_false c29
                          clear c29
                          obtain rfl := Option.some.inj H
                          go_wp2
                          go_ret
                          exact ⟨by first | rfl | (simp [errW_none, errW_some] <;> rfl) | (simp [*, errW_none, errW_some] <;> rfl), by repeat (first | (with_reducible first | exact HB.out | apply below_alloc | apply pw_below_drewN | apply below_drew1 | refine below_set ?_ GE172.out) | exact HB.out)⟩

end Go.Proofs.YtmhfkbgdkgfafaaGreatDoor.QJson
end

section
/- Functions of the program as plain functions, and the walks that show it. Written by the session's own program pp.py. -/
namespace Go.Proofs.YtmhfkbgdkgfafaaGreatDoor.QJson
open Go.RowKit Go.Proofs.YtmhfkbgdkgfafaaGreatDoorW.PrintWords Go.Proofs.YtmhfkbgdkgfafaaGreatDoorW.PrintLast Go.Proofs.YtmhfkbgdkgfafaaGreatDoorW.PrintMore
attribute [local go_sem] max2_int min2_int max_two min_two max_three min_three max_four min_four   -- for this text's walks alone
set_option linter.unusedVariables false
set_option linter.unusedSimpArgs false

/-! ### json_count: function 23 -/
mutual
def json_count.l0 : Nat → Int → List (S26) → Int → Int → Option (Int)
  | 0, _, _, _, _ => none
  | k + 1, x3, x7, x8, x9 => if x9 < x8 then (if 0 ≤ x9 then (if x9 < (x7.length : Int) then ((json_count.f k ((rd_T26 x7 x9).f0) ((rd_T26 x7 x9).f1) ((rd_T26 x7 x9).f2) ((rd_T26 x7 x9).f3) ((rd_T26 x7 x9).f4)).bind fun t182 => (json_count.l0 k (wrap64 (x3 + t182)) x7 x8 (wrap64 (x9 + 1)))) else (none)) else (none)) else (some x3)
def json_count.f : Nat → Int → Int → ByteArray → List ByteArray → List (S26) → Option (Int)
  | 0, _, _, _, _, _ => none
  | k + 1, a0_0, a0_1, a0_2, l0_3, l0_4 => json_count.l0 k 1 l0_4 (l0_4.length : Int) 0
end
theorem json_count.mono_l : ∀ k, (∀ y0 y1 y2 y3 y4, LeO (json_count.f k y0 y1 y2 y3 y4) (json_count.f (k + 1) y0 y1 y2 y3 y4)) ∧ (∀ y0 y1 y2 y3, LeO (json_count.l0 k y0 y1 y2 y3) (json_count.l0 (k + 1) y0 y1 y2 y3))
  | 0 => ⟨fun _ _ _ _ _ r h => by simp [json_count.f] at h, fun _ _ _ _ r h => by simp [json_count.l0] at h⟩
  | k + 1 => by
    obtain ⟨ih0, ih1⟩ := json_count.mono_l k
    refine ⟨?_, ?_⟩
    · intro y0 y1 y2 y3 y4
      unfold json_count.f
      repeat' first
      | (with_reducible exact ih0 _ _ _ _ _)
      | (with_reducible exact ih1 _ _ _ _)
      | (with_reducible exact LeO.refl _)
      | (with_reducible exact LeO.none _)
      | (with_reducible refine LeO.ite ?_ ?_)
      | (with_reducible refine LeO.bind ?_ (fun _ => ?_))
      | exact ih0 _ _ _ _ _
      | exact ih1 _ _ _ _
      | exact LeO.none _
      | refine LeO.ite ?_ ?_
      | refine LeO.bind ?_ (fun _ => ?_)
    · intro y0 y1 y2 y3
      unfold json_count.l0
      repeat' first
      | (with_reducible exact ih0 _ _ _ _ _)
      | (with_reducible exact ih1 _ _ _ _)
      | (with_reducible exact LeO.refl _)
      | (with_reducible exact LeO.none _)
      | (with_reducible refine LeO.ite ?_ ?_)
      | (with_reducible refine LeO.bind ?_ (fun _ => ?_))
      | exact ih0 _ _ _ _ _
      | exact ih1 _ _ _ _
      | exact LeO.none _
      | refine LeO.ite ?_ ?_
      | refine LeO.bind ?_ (fun _ => ?_)
theorem json_count.mono : ∀ a0 a1 a2 a3 a4 k, LeO (json_count.f k a0 a1 a2 a3 a4) (json_count.f (k + 1) a0 a1 a2 a3 a4) := by
  intro a0 a1 a2 a3 a4 k
  obtain ⟨ih0, ih1⟩ := json_count.mono_l k
  exact ih0 a0 a1 a2 a3 a4
set_option maxHeartbeats 8000000 in
set_option maxRecDepth 100000 in
theorem json_count.calls (k : Nat) : ∀ (a0_0 : Int) (a0_1 : Int) (a0_2 : ByteArray) (A0_3 : Option Addr) (c0_3 : Nat) (l0_3 : List ByteArray) (A0_4 : Option Addr) (c0_4 : Nat) (l0_4 : List (S26)) (r : Int) (w : World) (hr0_3 : Kd.C Kd.string w A0_3 l0_3.length l0_3) (hc0_3 : l0_3.length ≤ c0_3) (hr0_4 : Kd.C k26 w A0_4 l0_4.length l0_4) (hc0_4 : l0_4.length ≤ c0_4) (h : json_count.f k a0_0 a0_1 a0_2 l0_3 l0_4 = some r),
    Calls Tryz.prog 23 #[.agg #[.int .i64 a0_0, .int .i64 a0_1, .string a0_2, .slice A0_3 l0_3.length c0_3, .slice A0_4 l0_4.length c0_4]] w fun e w' => e = .returned (.int .i64 r) ∧ Below w.heap.size w w' := by
  induction k using Nat.strongRecOn with
  | _ k ih =>
  intro a0_0 a0_1 a0_2 A0_3 c0_3 l0_3 A0_4 c0_4 l0_4 r w hr0_3 hc0_3 hr0_4 hc0_4 h
  cases k with
  | zero => exact absurd h (by simp [json_count.f])
  | succ k =>
  simp only [json_count.f] at h
  have hu26 := Tryz.underlying26
  have HR0_3 := Aside0.mk hr0_3
  have HC0_3 := Aside0.mk hc0_3
  clear hr0_3 hc0_3
  have HR0_4 := Aside0.mk hr0_4
  have HC0_4 := Aside0.mk hc0_4
  clear hr0_4 hc0_4
  have HB := Aside0.mk (Below.refl w.heap.size w)
  have H : (json_count.l0 k 1 l0_4 (l0_4.length : Int) 0) = some r := h
  clear h
  have H' := Aside0.mk H
  clear H
  go_enter Tryz.func23, Tryz.ntmps23
  go_wp2_with (first | ((with_reducible refine gate_dst (N := 1) rfl ?_); refine box_event ?hg (N := 1) ?hd (cs := #[.int .i64 a0_0, .int .i64 a0_1, .string a0_2, .slice A0_3 l0_3.length c0_3, .slice A0_4 l0_4.length c0_4]) (t := 26) ?hr ?_; (case hd => rfl); (case hg => rfl); (case hr => first | (go_simp; done) | (go_simp; rfl)); intro gb179 hg w2 hbox hb; have n0_ := Aside0.mk (below_step (by repeat (first | (with_reducible first | exact HB.out | apply below_alloc | apply pw_below_drewN | apply below_drew1) | exact HB.out)) hb); have n1_ := Aside0.mk (hbox); have n2_ := Aside0.mk ((by rw [hg]; exact (below_size (by repeat (first | (with_reducible first | exact HB.out | apply below_alloc | apply pw_below_drewN | apply below_drew1) | exact HB.out))) : w.heap.size ≤ gb179)); have n3_ := Aside0.mk ((by rw [hg]; exact (below_size (by repeat (first | (with_reducible first | exact HB.out | apply below_alloc | apply pw_below_drewN | apply below_drew1) | exact HB.out))) : w.heap.size ≤ gb179)); clear HB; have HB := n0_; have BK179 := n1_; have GW179 := n2_; have GE179 := n3_; clear n0_ n1_ n2_ n3_; clear hb hbox hg; have hcz3_0 : w2.cell? ⟨gb179, 0, none⟩ = some (.int .i64 a0_0) := (blk_cell BK179.out 0).trans rfl; have hcz3_1 : w2.cell? ⟨gb179, 1, none⟩ = some (.int .i64 a0_1) := (blk_cell BK179.out 1).trans rfl; have hcz3_2 : w2.cell? ⟨gb179, 2, none⟩ = some (.string a0_2) := (blk_cell BK179.out 2).trans rfl; have hcz3_3 : w2.cell? ⟨gb179, 3, none⟩ = some (.slice A0_3 l0_3.length c0_3) := (blk_cell BK179.out 3).trans rfl; have hcz3_4 : w2.cell? ⟨gb179, 4, none⟩ = some (.slice A0_4 l0_4.length c0_4) := (blk_cell BK179.out 4).trans rfl; have hfz3_0 := blk_frozen BK179.out 0; have hfz3_1 := blk_frozen BK179.out 1; have hfz3_2 := blk_frozen BK179.out 2; have hfz3_3 := blk_frozen BK179.out 3; have hfz3_4 := blk_frozen BK179.out 4))
  go_loopg [3, 9] k (fun kq v3 v9 w' => ∃ (x3_1 : Int) (x9_1 : Int), v3 = .int .i64 x3_1 ∧ v9 = .int .i64 x9_1 ∧ Aside0 (json_count.l0 kq x3_1 l0_4 (l0_4.length : Int) x9_1 = some r) ∧ Aside0 (kq ≤ k) ∧ Aside0 (w'.heap[gb179]? = some (.cells #[.int .i64 a0_0, .int .i64 a0_1, .string a0_2, (.slice A0_3 l0_3.length c0_3), (.slice A0_4 l0_4.length c0_4)] 26 (0, 0))) ∧ Aside0 (Below w.heap.size w w'))
  case atStart => exact ⟨(1), (0), (by first | rfl | (simp; done) | (simp [*]; done)), (by first | rfl | (simp; done) | (simp [*]; done)), H', ⟨Nat.le_refl _⟩, ⟨by (with_reducible repeat (first | refine blk_drewN ?_ _ | refine blk_drew ?_ | refine blk_alloc ?_ _)); exact BK179.out⟩, ⟨by repeat (first | (with_reducible first | exact HB.out | apply below_alloc | apply pw_below_drewN | apply below_drew1 | refine below_set ?_ GE179.out) | exact HB.out)⟩⟩
  case round =>
    clear H'
    try clear c2
    try clear p2
    try clear hcz3_0
    try clear hcz3_1
    try clear hcz3_2
    try clear hcz3_3
    try clear hcz3_4
    try clear hfz3_0
    try clear hfz3_1
    try clear hfz3_2
    try clear hfz3_3
    try clear hfz3_4
    obtain ⟨x3_1, x9_1, rfl, rfl, HA, HK1, BK179, HB⟩ := hrel
    cases gk with
    | zero => exact absurd HA.out (by simp [json_count.l0])
    | succ k1 =>
      have H := HA.out
      clear HA
      simp only [json_count.l0] at H
      by_cases c4 : x9_1 < (l0_4.length : Int)
      · rw [if_pos c4] at H
        have c4b0 : decide (x9_1 < (l0_4.length : Int)) = true := decide_eq_true c4
        clear c4
        by_cases c5 : 0 ≤ x9_1
        · rw [if_pos c5] at H
          have c5b0 : decide (0 ≤ x9_1) = true := decide_eq_true c5
          clear c5
          by_cases c6 : x9_1 < (l0_4.length : Int)
          · rw [if_pos c6] at H
            have c6b0 : decide (x9_1 < (l0_4.length : Int)) = true := decide_eq_true c6
            clear c6
            replace H := Option.bind_eq_some_iff.mp H
            obtain ⟨t182, A70, H⟩ := H
            replace H : (json_count.l0 k1 (wrap64 (x3_1 + t182)) l0_4 (l0_4.length : Int) (wrap64 (x9_1 + 1))) = some r := H
            have A7 := Aside0.mk A70
            clear A70
            have H' := Aside0.mk H
            clear H
            have p180 : 0 ≤ (x9_1 : Int) := of_decide_eq_true (by first | (with_reducible assumption) | assumption)
            have q180 : x9_1 < (l0_4.length : Int) := of_decide_eq_true (by first | (with_reducible assumption) | assumption)
            obtain ⟨ad180, A180_3, c180_3, A180_4, c180_4, e180, hx180_0, hx180_1, hx180_2, hx180_3, hx180_4, hl180_3, hi180_3, hl180_4, hi180_4⟩ := at_T26 HR0_4.out x9_1 p180 q180
            cases e180
            replace hx180_0 := (HB.out.cell (World.block_lt_of_cell? w _ hx180_0)).trans hx180_0
            replace hx180_1 := (HB.out.cell (World.block_lt_of_cell? w _ hx180_1)).trans hx180_1
            replace hx180_2 := (HB.out.cell (World.block_lt_of_cell? w _ hx180_2)).trans hx180_2
            replace hx180_3 := (HB.out.cell (World.block_lt_of_cell? w _ hx180_3)).trans hx180_3
            replace hx180_4 := (HB.out.cell (World.block_lt_of_cell? w _ hx180_4)).trans hx180_4
            have HR180_3 := Aside0.mk hi180_3
            have HC180_3 := Aside0.mk hl180_3
            clear hi180_3 hl180_3
            have HR180_4 := Aside0.mk hi180_4
            have HC180_4 := Aside0.mk hl180_4
            clear hi180_4 hl180_4
            replace p180 := eq_true p180
            replace q180 := eq_true q180
            go_wp2_with (first | ((with_reducible refine gate_dst (N := 5) rfl ?_); refine box_event ?hg (N := 5) ?hd (cs := #[.int .i64 0, .int .i64 0, .string (⟨#[]⟩ : ByteArray), .slice none 0 0, .slice none 0 0]) (t := 26) ?hr ?_; (case hd => rfl); (case hg => rfl); (case hr => first | (go_simp; done) | (go_simp; rfl)); intro gb181 hg w8 hbox hb; have n0_ := Aside0.mk (blk_below (g := gb179) (o := .cells #[.int .i64 a0_0, .int .i64 a0_1, .string a0_2, .slice A0_3 l0_3.length c0_3, .slice (some ad180) l0_4.length c0_4] 26 (0, 0)) (by (with_reducible repeat (first | refine blk_drewN ?_ _ | refine blk_drew ?_ | refine blk_alloc ?_ _)); exact BK179.out) hb); have n1_ := Aside0.mk (below_step (by repeat (first | (with_reducible first | exact HB.out | apply below_alloc | apply pw_below_drewN | apply below_drew1 | refine below_set ?_ GE179.out) | exact HB.out)) hb); have n2_ := Aside0.mk (hbox); have n3_ := Aside0.mk ((by rw [hg]; exact (below_size (by repeat (first | (with_reducible first | exact HB.out | apply below_alloc | apply pw_below_drewN | apply below_drew1 | refine below_set ?_ GE179.out) | exact HB.out))) : w.heap.size ≤ gb181)); have n4_ := Aside0.mk ((by rw [hg]; exact (below_size (by repeat (first | (with_reducible first | exact HB.out | apply below_alloc | apply pw_below_drewN | apply below_drew1 | refine below_set ?_ GE179.out) | exact HB.out))) : w.heap.size ≤ gb181)); have n5_ := Aside0.mk ((by rw [hg]; exact Nat.ne_of_lt (blk_lt (g := gb179) (o := .cells #[.int .i64 a0_0, .int .i64 a0_1, .string a0_2, .slice A0_3 l0_3.length c0_3, .slice (some ad180) l0_4.length c0_4] 26 (0, 0)) (by (with_reducible repeat (first | refine blk_drewN ?_ _ | refine blk_drew ?_ | refine blk_alloc ?_ _)); exact BK179.out)) : gb179 ≠ gb181)); have n6_ := Aside0.mk ((by rw [hg]; exact Nat.ne_of_gt (blk_lt (g := gb179) (o := .cells #[.int .i64 a0_0, .int .i64 a0_1, .string a0_2, .slice A0_3 l0_3.length c0_3, .slice (some ad180) l0_4.length c0_4] 26 (0, 0)) (by (with_reducible repeat (first | refine blk_drewN ?_ _ | refine blk_drew ?_ | refine blk_alloc ?_ _)); exact BK179.out)) : gb181 ≠ gb179)); clear BK179; clear HB; have BK179 := n0_; have HB := n1_; have BK181 := n2_; have GW181 := n3_; have GE181 := n4_; have NB179_181 := n5_; have NB181_179 := n6_; clear n0_ n1_ n2_ n3_ n4_ n5_ n6_; clear hb hbox hg; have hnb9 := NB181_179.out; have hnc9 := NB179_181.out; have hcz10_0 : w8.cell? ⟨gb181, 0, none⟩ = some (.int .i64 0) := (blk_cell BK181.out 0).trans rfl; have hcz10_1 : w8.cell? ⟨gb181, 1, none⟩ = some (.int .i64 0) := (blk_cell BK181.out 1).trans rfl; have hcz10_2 : w8.cell? ⟨gb181, 2, none⟩ = some (.string (⟨#[]⟩ : ByteArray)) := (blk_cell BK181.out 2).trans rfl; have hcz10_3 : w8.cell? ⟨gb181, 3, none⟩ = some (.slice none 0 0) := (blk_cell BK181.out 3).trans rfl; have hcz10_4 : w8.cell? ⟨gb181, 4, none⟩ = some (.slice none 0 0) := (blk_cell BK181.out 4).trans rfl; have hfz10_0 := blk_frozen BK181.out 0; have hfz10_1 := blk_frozen BK181.out 1; have hfz10_2 := blk_frozen BK181.out 2; have hfz10_3 := blk_frozen BK181.out 3; have hfz10_4 := blk_frozen BK181.out 4) | ((with_reducible refine gate_callee (f := 23) rfl ?_); refine goesL_ (some 15) rfl rfl Tryz.func23 (by kernel_rfl) rfl #[.agg #[.int .i64 ((rd_T26 l0_4 x9_1).f0), .int .i64 ((rd_T26 l0_4 x9_1).f1), .string ((rd_T26 l0_4 x9_1).f2), .slice A180_3 ((rd_T26 l0_4 x9_1).f3).length c180_3, .slice A180_4 ((rd_T26 l0_4 x9_1).f4).length c180_4]] rfl (by (try simp only [List.map_toArray, List.map_cons, List.map_nil]); first | done | rfl | (simp only [List.length_drop, List.length_take]; rfl)) ?_; (with_reducible refine (ih k1 (by have := HK1.out; omega) ((rd_T26 l0_4 x9_1).f0) ((rd_T26 l0_4 x9_1).f1) ((rd_T26 l0_4 x9_1).f2) _ _ ((rd_T26 l0_4 x9_1).f3) _ _ ((rd_T26 l0_4 x9_1).f4) t182 _ ?side1 ?side2 ?side3 ?side4 A7.out).mono ?_); (case side1 => exact Kd.C_below HR180_3.out (by repeat (first | (with_reducible first | exact HB.out | apply below_alloc | apply pw_below_drewN | apply below_drew1 | refine below_set ?_ GE179.out | refine below_set ?_ GE181.out) | exact HB.out))); (case side2 => exact HC180_3.out); (case side3 => exact Kd.C_below HR180_4.out (by repeat (first | (with_reducible first | exact HB.out | apply below_alloc | apply pw_below_drewN | apply below_drew1 | refine below_set ?_ GE179.out | refine below_set ?_ GE181.out) | exact HB.out))); (case side4 => exact HC180_4.out); rintro e w11 ⟨rfl, hb⟩; refine ⟨_, rfl, ?_⟩; have n0_ := Aside0.mk (blk_below (g := gb179) (o := .cells #[.int .i64 a0_0, .int .i64 a0_1, .string a0_2, .slice A0_3 l0_3.length c0_3, .slice (some ad180) l0_4.length c0_4] 26 (0, 0)) (by (with_reducible repeat (first | refine blk_drewN ?_ _ | refine blk_drew ?_ | refine blk_alloc ?_ _)); refine blk_far ?_ NB179_181.out _; (with_reducible repeat (first | refine blk_drewN ?_ _ | refine blk_drew ?_ | refine blk_alloc ?_ _)); refine blk_far ?_ NB179_181.out _; (with_reducible repeat (first | refine blk_drewN ?_ _ | refine blk_drew ?_ | refine blk_alloc ?_ _)); refine blk_far ?_ NB179_181.out _; (with_reducible repeat (first | refine blk_drewN ?_ _ | refine blk_drew ?_ | refine blk_alloc ?_ _)); refine blk_far ?_ NB179_181.out _; (with_reducible repeat (first | refine blk_drewN ?_ _ | refine blk_drew ?_ | refine blk_alloc ?_ _)); refine blk_far ?_ NB179_181.out _; (with_reducible repeat (first | refine blk_drewN ?_ _ | refine blk_drew ?_ | refine blk_alloc ?_ _)); exact BK179.out) hb); have n1_ := Aside0.mk (blk_below (g := gb181) (o := .cells #[.int .i64 ((rd_T26 l0_4 x9_1).f0), .int .i64 ((rd_T26 l0_4 x9_1).f1), .string ((rd_T26 l0_4 x9_1).f2), .slice A180_3 ((rd_T26 l0_4 x9_1).f3).length c180_3, .slice A180_4 ((rd_T26 l0_4 x9_1).f4).length c180_4] 26 (0, 0)) (by (with_reducible repeat (first | refine blk_drewN ?_ _ | refine blk_drew ?_ | refine blk_alloc ?_ _)); refine blk_put (cs := #[.int .i64 ((rd_T26 l0_4 x9_1).f0), .int .i64 ((rd_T26 l0_4 x9_1).f1), .string ((rd_T26 l0_4 x9_1).f2), .slice A180_3 ((rd_T26 l0_4 x9_1).f3).length c180_3, .slice none 0 0]) ?_ 4 _ rfl; (with_reducible repeat (first | refine blk_drewN ?_ _ | refine blk_drew ?_ | refine blk_alloc ?_ _)); refine blk_put (cs := #[.int .i64 ((rd_T26 l0_4 x9_1).f0), .int .i64 ((rd_T26 l0_4 x9_1).f1), .string ((rd_T26 l0_4 x9_1).f2), .slice none 0 0, .slice none 0 0]) ?_ 3 _ rfl; (with_reducible repeat (first | refine blk_drewN ?_ _ | refine blk_drew ?_ | refine blk_alloc ?_ _)); refine blk_put (cs := #[.int .i64 ((rd_T26 l0_4 x9_1).f0), .int .i64 ((rd_T26 l0_4 x9_1).f1), .string (⟨#[]⟩ : ByteArray), .slice none 0 0, .slice none 0 0]) ?_ 2 _ rfl; (with_reducible repeat (first | refine blk_drewN ?_ _ | refine blk_drew ?_ | refine blk_alloc ?_ _)); refine blk_put (cs := #[.int .i64 ((rd_T26 l0_4 x9_1).f0), .int .i64 0, .string (⟨#[]⟩ : ByteArray), .slice none 0 0, .slice none 0 0]) ?_ 1 _ rfl; (with_reducible repeat (first | refine blk_drewN ?_ _ | refine blk_drew ?_ | refine blk_alloc ?_ _)); refine blk_put (cs := #[.int .i64 0, .int .i64 0, .string (⟨#[]⟩ : ByteArray), .slice none 0 0, .slice none 0 0]) ?_ 0 _ rfl; (with_reducible repeat (first | refine blk_drewN ?_ _ | refine blk_drew ?_ | refine blk_alloc ?_ _)); exact BK181.out) hb); have n2_ := Aside0.mk (below_step (by repeat (first | (with_reducible first | exact HB.out | apply below_alloc | apply pw_below_drewN | apply below_drew1 | refine below_set ?_ GE179.out | refine below_set ?_ GE181.out) | exact HB.out)) hb); clear BK179; clear BK181; clear HB; have BK179 := n0_; have BK181 := n1_; have HB := n2_; clear n0_ n1_ n2_; (try clear hb); (try clear hb2); (try clear hk); (try clear hi)))
            go_roundg k1
            case measure => have := HK1.out; omega
            case rel => exact ⟨(wrap64 (x3_1 + t182)), (wrap64 (x9_1 + 1)), (by first | rfl | (simp; done) | (simp [*]; done)), (by first | rfl | (simp; done) | (simp [*]; done)), H', ⟨by have := HK1.out; omega⟩, ⟨by (with_reducible repeat (first | refine blk_drewN ?_ _ | refine blk_drew ?_ | refine blk_alloc ?_ _)); exact BK179.out⟩, ⟨by repeat (first | (with_reducible first | exact HB.out | apply below_alloc | apply pw_below_drewN | apply below_drew1 | refine below_set ?_ GE179.out | refine below_set ?_ GE181.out) | exact HB.out)⟩⟩
          · rw [if_neg c6] at H
            exact absurd H (by simp)
        · rw [if_neg c5] at H
          exact absurd H (by simp)
      · rw [if_neg c4] at H
        have c4b0 : decide (x9_1 < (l0_4.length : Int)) = false := decide_eq_false c4
        clear c4
        obtain rfl := Option.some.inj H
        go_wp2
        go_ret
        exact ⟨by first | rfl | (simp [errW_none, errW_some] <;> rfl) | (simp [*, errW_none, errW_some] <;> rfl), by repeat (first | (with_reducible first | exact HB.out | apply below_alloc | apply pw_below_drewN | apply below_drew1 | refine below_set ?_ GE179.out) | exact HB.out)⟩

end Go.Proofs.YtmhfkbgdkgfafaaGreatDoor.QJson
end

section
/- json.Check, json.Text at values that may be. -/
namespace Go.Proofs.YtmhfkbgdkgfafaaGreatDoor.Js
open Go.RowKit Go.Proofs.YtmhfkbgdkgfafaaGreatDoor.QJson Go.Proofs.YtmhfkbgdkgfafaaGreatDoorW.PrintWords Go.Proofs.YtmhfkbgdkgfafaaGreatDoorW.PrintLast Go.Proofs.YtmhfkbgdkgfafaaGreatDoorW.PrintMore
set_option linter.unusedVariables false
set_option linter.unusedSimpArgs false

mutual
/-- How many values there are. -/
def cnt : S26 → Nat
  | ⟨_, _, _, _, ps⟩ => 1 + cnts ps
def cnts : List S26 → Nat
  | [] => 0
  | p :: ps => cnt p + cnts ps
end
theorem cnt_eq (v : S26) : cnt v = 1 + cnts v.f4 := by obtain ⟨k, n, t, ks, ps⟩ := v; rw [cnt]
theorem cnts_drop (ps : List S26) (i : Nat) (hi : i < ps.length) : cnts (ps.drop i) = cnt ps[i] + cnts (ps.drop (i + 1)) := by
  rw [List.drop_eq_getElem_cons hi, cnts]
theorem cnts_le (ps : List S26) : ∀ p ∈ ps, cnt p ≤ cnts ps := by
  induction ps with
  | nil => intro p hp; cases hp
  | cons q qs ih =>
    intro p hp
    rw [cnts]
    rcases List.mem_cons.1 hp with rfl | hp
    · omega
    · have := ih p hp; omega
/-- A bound for all of a list. -/
theorem all_bound {P : S26 → Nat → Prop} (ps : List S26) (h : ∀ p ∈ ps, ∃ K, ∀ m, K ≤ m → P p m) : ∃ K, ∀ p ∈ ps, ∀ m, K ≤ m → P p m := by
  induction ps with
  | nil => exact ⟨0, fun p hp => by cases hp⟩
  | cons q qs ih =>
    obtain ⟨K1, h1⟩ := h q (List.mem_cons_self ..)
    obtain ⟨K2, h2⟩ := ih (fun p hp => h p (List.mem_cons_of_mem _ hp))
    refine ⟨K1 + K2, fun p hp m hm => ?_⟩
    rcases List.mem_cons.1 hp with rfl | hp
    · exact h1 m (by omega)
    · exact h2 p hp m (by omega)
theorem rd_at (ps : List S26) (i : Nat) (hi : i < ps.length) : rd_T26 ps (i : Int) = ps[i] := by simp [rd_T26, List.getD_eq_getElem?_getD, hi]
theorem w64n (n : Nat) (h : n ≤ 4000000) : wrap64 (n : Int) = (n : Int) := by unfold wrap64; omega

theorem count_loop (ps : List S26) (K : Nat) (hK : ∀ p ∈ ps, ∀ m, K ≤ m → json_count.f m p.f0 p.f1 p.f2 p.f3 p.f4 = some (cnt p : Int)) (hl : ps.length ≤ 1000001) :
    ∀ (d i a m : Nat), i + d = ps.length → K + d + 1 ≤ m → a + cnts (ps.drop i) ≤ 2000000 → json_count.l0 m (a : Int) ps (ps.length : Int) (i : Int) = some ((a + cnts (ps.drop i) : Nat) : Int) := by
  intro d
  induction d with
  | zero =>
    intro i a m hi hm ha
    obtain ⟨m, rfl⟩ : ∃ q, m = q + 1 := ⟨m - 1, by omega⟩
    rw [json_count.l0, if_neg (by omega), List.drop_of_length_le (by omega)]
    rw [cnts, Nat.add_zero]
  | succ d ih =>
    intro i a m hi hm ha
    obtain ⟨m, rfl⟩ : ∃ q, m = q + 1 := ⟨m - 1, by omega⟩
    have hlt : i < ps.length := by omega
    have hd := cnts_drop ps i hlt
    rw [json_count.l0, if_pos (by omega), if_pos (by omega), if_pos (by omega), rd_at ps i hlt, hK _ (List.getElem_mem hlt) m (by omega), Option.bind_some]
    rw [show ((a : Int) + (cnt ps[i] : Int)) = ((a + cnt ps[i] : Nat) : Int) by omega, w64n _ (by omega), show ((i : Int) + 1) = ((i + 1 : Nat) : Int) by omega, w64n _ (by omega)]
    rw [ih (i + 1) (a + cnt ps[i]) m (by omega) (by omega) (by omega), hd, Nat.add_assoc]
theorem count_some : ∀ (d : Nat) (v : S26), WF d v → cnt v ≤ 1000000 → (∀ e u, WF e u → u.f4.length ≤ 1000001 ∨ 1000000 < cnt u) → ∃ K, ∀ m, K ≤ m → json_count.f m v.f0 v.f1 v.f2 v.f3 v.f4 = some (cnt v : Int)
  | 0, v, hv, _, _ => nomatch hv
  | d + 1, v, hv, hc, hl => by
    have hce := cnt_eq v
    obtain ⟨K, hK⟩ := all_bound (P := fun p m => json_count.f m p.f0 p.f1 p.f2 p.f3 p.f4 = some (cnt p : Int)) v.f4 (fun p hp => count_some d p (hv.part hp) (by have := cnts_le v.f4 p hp; omega) hl)
    refine ⟨K + v.f4.length + 2, fun m hm => ?_⟩
    obtain ⟨m, rfl⟩ : ∃ q, m = q + 1 := ⟨m - 1, by omega⟩
    have h1 := count_loop v.f4 K hK (by rcases hl _ v hv with h | h <;> omega) v.f4.length 0 1 m (by omega) (by omega) (by rw [List.drop_zero]; omega)
    rw [List.drop_zero, ← hce] at h1
    rw [json_count.f]
    exact h1
theorem cnts_len (ps : List S26) : ps.length ≤ cnts ps := by
  induction ps with
  | nil => simp [cnts]
  | cons q qs ih => rw [cnts, List.length_cons, cnt_eq]; omega
theorem count_calls_some (d : Nat) (v : S26) (hv : WF d v) (hc : cnt v ≤ 1000000) : ∃ K, json_count.f K v.f0 v.f1 v.f2 v.f3 v.f4 = some (cnt v : Int) := by
  obtain ⟨K, h⟩ := count_some d v hv hc (fun e u _ => by
    have h1 := cnts_len u.f4
    have h2 := cnt_eq u
    omega)
  exact ⟨K, h K (Nat.le_refl _)⟩

theorem ascend_loop (ks : List ByteArray) (ha : Ascs ks) (hl : ks.length ≤ 1000001) : ∀ (d i m : Nat), i + d = ks.length → d + 1 ≤ m → json_ascend.l0 m ks ks (ks.length : Int) (i : Int) = some true := by
  intro d
  induction d with
  | zero =>
    intro i m hi hm
    obtain ⟨m, rfl⟩ : ∃ q, m = q + 1 := ⟨m - 1, by omega⟩
    rw [json_ascend.l0, if_neg (by omega)]
  | succ d ih =>
    intro i m hi hm
    obtain ⟨m, rfl⟩ : ∃ q, m = q + 1 := ⟨m - 1, by omega⟩
    have hn := ih (i + 1) m (by omega) (by omega)
    rw [json_ascend.l0, if_pos (by omega), if_pos (by omega), if_pos (by omega)]
    rw [show ((i : Int) + 1) = ((i + 1 : Nat) : Int) by omega, w64n _ (by omega)]
    by_cases h0 : i = 0
    · rw [if_neg (by omega)]; exact hn
    · have hlt : i - 1 + 1 < ks.length := by omega
      have h1 := ha (i - 1) hlt
      have e0 : wrap64 ((i : Int) - 1) = ((i - 1 : Nat) : Int) := by unfold wrap64; omega
      have e1 : rdOf ByteArray.empty ks ((i - 1 : Nat) : Int) = ks[i - 1] := by simp [rdOf, List.getD_eq_getElem?_getD, show i - 1 < ks.length by omega]
      have e2 : rdOf ByteArray.empty ks (i : Int) = ks[i - 1 + 1] := by simp [rdOf, List.getD_eq_getElem?_getD, show i < ks.length by omega, show i - 1 + 1 = i by omega]
      rw [if_pos (by omega), e0, if_pos (by omega), if_pos (by omega), e1, e2, if_pos h1]
      exact hn
theorem fault_loop (a : Nat) (ps : List S26) (K : Nat) (ha : a ≤ 100) (hK : ∀ p ∈ ps, ∀ m, K ≤ m → json_fault.f m p.f0 p.f1 p.f2 p.f3 p.f4 ((a + 1 : Nat) : Int) = some 0) (hl : ps.length ≤ 1000001) :
    ∀ (d i m : Nat), i + d = ps.length → K + d + 1 ≤ m → json_fault.l0 m (a : Int) ps (ps.length : Int) (i : Int) = some 0 := by
  intro d
  induction d with
  | zero =>
    intro i m hi hm
    obtain ⟨m, rfl⟩ : ∃ q, m = q + 1 := ⟨m - 1, by omega⟩
    rw [json_fault.l0, if_neg (by omega)]
  | succ d ih =>
    intro i m hi hm
    obtain ⟨m, rfl⟩ : ∃ q, m = q + 1 := ⟨m - 1, by omega⟩
    have hlt : i < ps.length := by omega
    rw [json_fault.l0, if_pos (by omega), if_pos (by omega), if_pos (by omega), rd_at ps i hlt]
    rw [show ((a : Int) + 1) = ((a + 1 : Nat) : Int) by omega, w64n _ (by omega), hK _ (List.getElem_mem hlt) m (by omega), Option.bind_some, if_pos rfl]
    rw [show ((i : Int) + 1) = ((i + 1 : Nat) : Int) by omega, w64n _ (by omega)]
    exact ih (i + 1) m (by omega) (by omega)
theorem fault_some : ∀ (d : Nat) (v : S26) (a : Nat), WF d v → cnt v ≤ 1000000 → a + d ≤ 6 → ∃ K, ∀ m, K ≤ m → json_fault.f m v.f0 v.f1 v.f2 v.f3 v.f4 (a : Int) = some 0
  | 0, v, _, hv, _, _ => nomatch hv
  | d + 1, v, a, hv, hc, hd => by
    have hce := cnt_eq v
    have hcl := cnts_len v.f4
    obtain ⟨K, hK⟩ := all_bound (P := fun p m => json_fault.f m p.f0 p.f1 p.f2 p.f3 p.f4 ((a + 1 : Nat) : Int) = some 0) v.f4 (fun p hp => fault_some d p (a + 1) (hv.part hp) (by have := cnts_le v.f4 p hp; omega) (by omega))
    have hkl : v.f3.length ≤ 1000001 := by have := hv.keysLen; omega
    refine ⟨K + v.f4.length + v.f3.length + 6, fun m hm => ?_⟩
    obtain ⟨m, rfl⟩ : ∃ q, m = q + 4 := ⟨m - 4, by omega⟩
    have hnum := hv.num
    have hkind := hv.kind
    have hpl := hv.plainOk
    have has := hv.ascOk
    have hkp := hv.keys
    have h1 := fault_loop a v.f4 K (by omega) hK (by omega) v.f4.length 0 (m + 1) (by omega) (by omega)
    have h2 : json_ascend.f (m + 2) v.f3 = some true := ascend_loop v.f3 has hkl v.f3.length 0 (m + 2) (by omega) (by omega)
    have h3 : json_fault.j1 (m + 2) (a : Int) false v.f0 v.f1 v.f2 v.f3 v.f4 = some 0 := by
      rw [json_fault.j1, if_neg (by decide), if_neg (by omega), if_neg (by omega)]
      exact h1
    rw [json_fault.f, if_neg (by omega), if_neg (by omega), decide_eq_false (by omega), json_fault.j0, if_neg (by decide), json_plain.f, Option.bind_some, if_pos hpl]
    by_cases h7 : v.f0 = 7
    · rw [if_pos h7, if_pos (by have := hkp h7; omega), h2, Option.bind_some]; exact h3
    · rw [if_neg h7, h2, Option.bind_some]; exact h3

end Go.Proofs.YtmhfkbgdkgfafaaGreatDoor.Js
end

section
/- json.Check, json.Text at values that may be. -/
namespace Go.Proofs.YtmhfkbgdkgfafaaGreatDoor.Js
open Go.RowKit Go.Proofs.YtmhfkbgdkgfafaaGreatDoor.QJson Go.Proofs.YtmhfkbgdkgfafaaGreatDoorW.PrintWords Go.Proofs.YtmhfkbgdkgfafaaGreatDoorW.PrintLast Go.Proofs.YtmhfkbgdkgfafaaGreatDoorW.PrintMore
set_option linter.unusedVariables false
set_option linter.unusedSimpArgs false

/-- Is it too great? -/
def big (v : S26) : Bool := decide (100 < cnt v) || decide (600 < (vt v).length)
def chk (v : S26) : Int := if big v = true then 1 else 0

set_option maxHeartbeats 4000000 in
set_option maxRecDepth 100000 in
theorem check_calls (d : Nat) (v : S26) (hv : WF d v) (hd : d ≤ 6) (hc : cnt v ≤ 1000000) (hl : (vt v).length ≤ 1000000) (A3 : Option Addr) (c3 : Nat) (A4 : Option Addr) (c4 : Nat) (w : World) (h3 : Kd.C Kd.string w A3 v.f3.length v.f3) (l3 : v.f3.length ≤ c3) (h4 : Kd.C k26 w A4 v.f4.length v.f4) (l4 : v.f4.length ≤ c4) (hT : Tabs w) :
    Calls Tryz.prog 17 #[.agg #[.int .i64 v.f0, .int .i64 v.f1, .string v.f2, .slice A3 v.f3.length c3, .slice A4 v.f4.length c4]] w fun e w' => e = .returned (.int .i64 (chk v)) ∧ Below w.heap.size w w' := by
  obtain ⟨K1, hK1⟩ := fault_some d v 0 hv hc (by omega)
  have hk1 := hK1 K1 (Nat.le_refl _)
  obtain ⟨K2, hk2⟩ := count_calls_some d v hv hc
  have HF := Aside0.mk (fun w h3 h4 => json_fault.calls K1 v.f0 v.f1 v.f2 A3 c3 v.f3 A4 c4 v.f4 0 0 w h3 l3 h4 l4 hk1)
  have HCn := Aside0.mk (fun w h3 h4 => json_count.calls K2 v.f0 v.f1 v.f2 A3 c3 v.f3 A4 c4 v.f4 (cnt v) w h3 l3 h4 l4 hk2)
  have HO := Aside0.mk (fun w h3 h4 hT => of_walk d v hv hl A3 c3 A4 c4 w h3 l3 h4 l4 hT)
  have H3 := Aside0.mk h3
  have H4 := Aside0.mk h4
  have HT := Aside0.mk hT
  have HZ := Aside0.mk (str_size (vt v))
  obtain ⟨n, hn⟩ : ∃ n, n = cnt v := ⟨_, rfl⟩
  obtain ⟨m, hm⟩ : ∃ m, m = (vt v).length := ⟨_, rfl⟩
  obtain ⟨s, hs⟩ : ∃ s, s = str (vt v) := ⟨_, rfl⟩
  obtain ⟨r, hr⟩ : ∃ r, r = chk v := ⟨_, rfl⟩
  have HR := Aside0.mk (show r = if 100 < n ∨ 600 < m then 1 else 0 by
    rw [hr, hn, hm]; unfold chk big
    by_cases g1 : 100 < cnt v <;> by_cases g2 : 600 < (vt v).length <;> simp [g1, g2])
  rw [← hn] at HCn hc
  rw [← hs] at HO HZ
  rw [← hm] at HZ hl
  rw [← hr]
  have hsz := HZ.out
  clear hn hm hs hr h3 h4 hT hK1 hk1 hk2 HZ
  obtain ⟨k, i, t, ks, ps⟩ := v
  dsimp only at *
  clear l3 l4 hv
  go_enter Tryz.func17, Tryz.ntmps17
  go_upto_region 1 with (fail)
  obtain ⟨g, hg⟩ : ∃ g, g = w.heap.size := ⟨_, rfl⟩
  have HG := Aside0.mk (show g < (w.alloc (.cells #[.int .i64 k, .int .i64 i, .string t, .slice A3 ks.length c3, .slice A4 ps.length c4] 26)).heap.size by rw [hg]; simp)
  have HB1 := Aside0.mk (show Below w.heap.size w (w.alloc (.cells #[.int .i64 k, .int .i64 i, .string t, .slice A3 ks.length c3, .slice A4 ps.length c4] 26)) from below_alloc (Below.refl _ _) _)
  have HC := Aside0.mk (box_cells w #[.int .i64 k, .int .i64 i, .string t, .slice A3 ks.length c3, .slice A4 ps.length c4])
  generalize w.alloc (.cells #[.int .i64 k, .int .i64 i, .string t, .slice A3 ks.length c3, .slice A4 ps.length c4] 26) = W1 at HG HB1 HC ⊢
  rw [← hg] at HC ⊢
  clear hg
  have HT1 := Aside0.mk (HT.out.below HB1.out)
  have H3' := Aside0.mk (Kd.C_below H3.out HB1.out)
  have H4' := Aside0.mk (Kd.C_below H4.out HB1.out)
  clear HT H3 H4
  have x0 := HC.out 0 _ rfl
  have x1 := HC.out 1 _ rfl
  have x2 := HC.out 2 _ rfl
  have x3 := HC.out 3 _ rfl
  have x4 := HC.out 4 _ rfl
  go_upto_region 4 with (first | (go_at_call 22; refine (HF.out _ H3'.out H4'.out).mono ?_; rintro e w2 ⟨rfl, hb⟩; have S2 := Aside0.mk hb; have y0 := (S2.out.cell (p := ⟨g, 0, none⟩) HG.out).trans (HC.out 0 _ rfl); have y1 := (S2.out.cell (p := ⟨g, 1, none⟩) HG.out).trans (HC.out 1 _ rfl); have y2 := (S2.out.cell (p := ⟨g, 2, none⟩) HG.out).trans (HC.out 2 _ rfl); have y3 := (S2.out.cell (p := ⟨g, 3, none⟩) HG.out).trans (HC.out 3 _ rfl); have y4 := (S2.out.cell (p := ⟨g, 4, none⟩) HG.out).trans (HC.out 4 _ rfl); clear hb))
  by_cases g1 : 100 < n
  · have hr := HR.out
    rw [if_pos (.inl g1)] at hr
    have g1' : (100 : Int) < (n : Int) := by omega
    subst hr
    clear g1
    go_wp2_with (first
      | (go_at_call 23; refine (HCn.out _ (Kd.C_below H3'.out S2.out) (Kd.C_below H4'.out S2.out)).mono ?_; rintro e w3 ⟨rfl, hb⟩; have S3 := Aside0.mk (S2.out.trans (hb.mono S2.out.size)); have z0 := (S3.out.cell (p := ⟨g, 0, none⟩) HG.out).trans (HC.out 0 _ rfl); have z1 := (S3.out.cell (p := ⟨g, 1, none⟩) HG.out).trans (HC.out 1 _ rfl); have z2 := (S3.out.cell (p := ⟨g, 2, none⟩) HG.out).trans (HC.out 2 _ rfl); have z3 := (S3.out.cell (p := ⟨g, 3, none⟩) HG.out).trans (HC.out 3 _ rfl); have z4 := (S3.out.cell (p := ⟨g, 4, none⟩) HG.out).trans (HC.out 4 _ rfl); clear hb))
    go_ret
    exact ⟨rfl, HB1.out.trans (S3.out.mono HB1.out.size)⟩
  · have g1' : ¬ (100 : Int) < (n : Int) := by omega
    by_cases g2 : 600 < m
    · have hr := HR.out
      rw [if_pos (.inr g2)] at hr
      have g2' : (600 : Int) < (m : Int) := by omega
      subst hr
      clear g1 g2
      go_wp2_with (first
        | (go_at_call 23; refine (HCn.out _ (Kd.C_below H3'.out S2.out) (Kd.C_below H4'.out S2.out)).mono ?_; rintro e w3 ⟨rfl, hb⟩; have S3 := Aside0.mk (S2.out.trans (hb.mono S2.out.size)); have z0 := (S3.out.cell (p := ⟨g, 0, none⟩) HG.out).trans (HC.out 0 _ rfl); have z1 := (S3.out.cell (p := ⟨g, 1, none⟩) HG.out).trans (HC.out 1 _ rfl); have z2 := (S3.out.cell (p := ⟨g, 2, none⟩) HG.out).trans (HC.out 2 _ rfl); have z3 := (S3.out.cell (p := ⟨g, 3, none⟩) HG.out).trans (HC.out 3 _ rfl); have z4 := (S3.out.cell (p := ⟨g, 4, none⟩) HG.out).trans (HC.out 4 _ rfl); clear hb)
        | (go_at_call 19; refine (HO.out _ (Kd.C_below H3'.out S3.out) (Kd.C_below H4'.out S3.out) (HT1.out.below S3.out)).mono ?_; rintro e w4 ⟨rfl, hb⟩; have S4 := Aside0.mk (S3.out.trans (hb.mono S3.out.size)); clear hb))
      go_ret
      exact ⟨rfl, HB1.out.trans (S4.out.mono HB1.out.size)⟩
    · have hr := HR.out
      rw [if_neg (by omega)] at hr
      have g2' : ¬ (600 : Int) < (m : Int) := by omega
      subst hr
      clear g1 g2
      go_wp2_with (first
        | (go_at_call 23; refine (HCn.out _ (Kd.C_below H3'.out S2.out) (Kd.C_below H4'.out S2.out)).mono ?_; rintro e w3 ⟨rfl, hb⟩; have S3 := Aside0.mk (S2.out.trans (hb.mono S2.out.size)); have z0 := (S3.out.cell (p := ⟨g, 0, none⟩) HG.out).trans (HC.out 0 _ rfl); have z1 := (S3.out.cell (p := ⟨g, 1, none⟩) HG.out).trans (HC.out 1 _ rfl); have z2 := (S3.out.cell (p := ⟨g, 2, none⟩) HG.out).trans (HC.out 2 _ rfl); have z3 := (S3.out.cell (p := ⟨g, 3, none⟩) HG.out).trans (HC.out 3 _ rfl); have z4 := (S3.out.cell (p := ⟨g, 4, none⟩) HG.out).trans (HC.out 4 _ rfl); clear hb)
        | (go_at_call 19; refine (HO.out _ (Kd.C_below H3'.out S3.out) (Kd.C_below H4'.out S3.out) (HT1.out.below S3.out)).mono ?_; rintro e w4 ⟨rfl, hb⟩; have S4 := Aside0.mk (S3.out.trans (hb.mono S3.out.size)); clear hb))
      go_ret
      exact ⟨rfl, HB1.out.trans (S4.out.mono HB1.out.size)⟩

set_option maxHeartbeats 4000000 in
set_option maxRecDepth 100000 in
theorem text_calls (d : Nat) (v : S26) (hv : WF d v) (hd : d ≤ 6) (hc : cnt v ≤ 1000000) (hl : (vt v).length ≤ 1000000) (A3 : Option Addr) (c3 : Nat) (A4 : Option Addr) (c4 : Nat) (w : World) (h3 : Kd.C Kd.string w A3 v.f3.length v.f3) (l3 : v.f3.length ≤ c3) (h4 : Kd.C k26 w A4 v.f4.length v.f4) (l4 : v.f4.length ≤ c4) (hT : Tabs w) :
    Calls Tryz.prog 11 #[.agg #[.int .i64 v.f0, .int .i64 v.f1, .string v.f2, .slice A3 v.f3.length c3, .slice A4 v.f4.length c4]] w fun e w' => e = .returned (.tuple #[.string (if big v = true then ⟨#[]⟩ else str (vt v)), .int .i64 (chk v)]) ∧ Below w.heap.size w w' := by
  have HCk := Aside0.mk (fun w h3 h4 hT => check_calls d v hv hd hc hl A3 c3 A4 c4 w h3 l3 h4 l4 hT)
  have HO := Aside0.mk (fun w h3 h4 hT => of_walk d v hv hl A3 c3 A4 c4 w h3 l3 h4 l4 hT)
  have H3 := Aside0.mk h3
  have H4 := Aside0.mk h4
  have HT := Aside0.mk hT
  obtain ⟨s, hs⟩ : ∃ s, s = str (vt v) := ⟨_, rfl⟩
  rw [← hs] at HO ⊢
  have hbig : chk v = if big v = true then 1 else 0 := rfl
  obtain ⟨b, hb⟩ : ∃ b, b = big v := ⟨_, rfl⟩
  rw [hbig] at HCk ⊢
  rw [← hb] at HCk ⊢
  clear hbig hb hs h3 h4 hT
  obtain ⟨k, i, t, ks, ps⟩ := v
  dsimp only at *
  clear l3 l4 hv hc hl
  go_enter Tryz.func11, Tryz.ntmps11
  go_upto_region 1 with (fail)
  obtain ⟨g, hg⟩ : ∃ g, g = w.heap.size := ⟨_, rfl⟩
  have HG := Aside0.mk (show g < (w.alloc (.cells #[.int .i64 k, .int .i64 i, .string t, .slice A3 ks.length c3, .slice A4 ps.length c4] 26)).heap.size by rw [hg]; simp)
  have HB1 := Aside0.mk (show Below w.heap.size w (w.alloc (.cells #[.int .i64 k, .int .i64 i, .string t, .slice A3 ks.length c3, .slice A4 ps.length c4] 26)) from below_alloc (Below.refl _ _) _)
  have HC := Aside0.mk (box_cells w #[.int .i64 k, .int .i64 i, .string t, .slice A3 ks.length c3, .slice A4 ps.length c4])
  generalize w.alloc (.cells #[.int .i64 k, .int .i64 i, .string t, .slice A3 ks.length c3, .slice A4 ps.length c4] 26) = W1 at HG HB1 HC ⊢
  rw [← hg] at HC ⊢
  clear hg
  have HT1 := Aside0.mk (HT.out.below HB1.out)
  have H3' := Aside0.mk (Kd.C_below H3.out HB1.out)
  have H4' := Aside0.mk (Kd.C_below H4.out HB1.out)
  clear HT H3 H4
  have x0 := HC.out 0 _ rfl
  have x1 := HC.out 1 _ rfl
  have x2 := HC.out 2 _ rfl
  have x3 := HC.out 3 _ rfl
  have x4 := HC.out 4 _ rfl
  cases b with
  | true =>
    go_wp2_with (first | (go_at_call 17; refine (HCk.out _ H3'.out H4'.out HT1.out).mono ?_; rintro e w2 ⟨rfl, hb⟩; have S2 := Aside0.mk hb; clear hb))
    go_ret2
    exact ⟨rfl, HB1.out.trans (S2.out.mono HB1.out.size)⟩
  | false =>
    go_wp2_with (first
      | (go_at_call 17; refine (HCk.out _ H3'.out H4'.out HT1.out).mono ?_; rintro e w2 ⟨rfl, hb⟩; have S2 := Aside0.mk hb; have y0 := (S2.out.cell (p := ⟨g, 0, none⟩) HG.out).trans (HC.out 0 _ rfl); have y1 := (S2.out.cell (p := ⟨g, 1, none⟩) HG.out).trans (HC.out 1 _ rfl); have y2 := (S2.out.cell (p := ⟨g, 2, none⟩) HG.out).trans (HC.out 2 _ rfl); have y3 := (S2.out.cell (p := ⟨g, 3, none⟩) HG.out).trans (HC.out 3 _ rfl); have y4 := (S2.out.cell (p := ⟨g, 4, none⟩) HG.out).trans (HC.out 4 _ rfl); clear hb)
      | (go_at_call 19; refine (HO.out _ (Kd.C_below H3'.out S2.out) (Kd.C_below H4'.out S2.out) (HT1.out.below S2.out)).mono ?_; rintro e w4 ⟨rfl, hb⟩; have S4 := Aside0.mk (S2.out.trans (hb.mono S2.out.size)); clear hb))
    go_ret2
    exact ⟨rfl, HB1.out.trans (S4.out.mono HB1.out.size)⟩

theorem v7_wf : WF 1 ⟨4, 7, ⟨#[]⟩, [], []⟩ := .mk (by decide) (by decide) (by decide +kernel) (fun h => by cases h) (by decide) (by decide) (fun i h => absurd h (by simp)) (fun p hp => by cases hp)
theorem v7_vt : vt ⟨4, 7, ⟨#[]⟩, [], []⟩ = [55] := by
  rw [vt, if_neg (by decide), if_neg (by decide), if_pos rfl]; decide +kernel
theorem v7_cnt : cnt ⟨4, 7, ⟨#[]⟩, [], []⟩ = 1 := by rw [cnt_eq]; rfl
set_option maxRecDepth 100000 in
theorem sure_calls (w : World) (hT : Tabs w) : Calls Tryz.prog 12 #[] w fun e w' => e = .returned (.bool true) ∧ Below w.heap.size w w' := by
  have h := text_calls 1 ⟨4, 7, ⟨#[]⟩, [], []⟩ v7_wf (by decide) (by rw [v7_cnt]; decide) (by rw [v7_vt]; decide) none 0 none 0 w (Kd.C_nil _ _) (Nat.le_refl _) (Kd.C_nil _ _) (Nat.le_refl _) hT
  have hb : big ⟨4, 7, ⟨#[]⟩, [], []⟩ = false := by unfold big; rw [v7_cnt, v7_vt]; rfl
  unfold chk at h
  rw [hb, v7_vt] at h
  have H := Aside0.mk h
  have h7 : ((str [55]).toList == [55]) = true := by decide +kernel
  clear h hb hT
  go_enter Tryz.func12, Tryz.ntmps12
  go_wp2_with (first
    | (go_at_call 11; refine H.out.mono ?_; rintro e w2 ⟨rfl, hb⟩; have S2 := Aside0.mk hb; clear hb))
  go_ret
  exact ⟨rfl, S2.out⟩

end Go.Proofs.YtmhfkbgdkgfafaaGreatDoor.Js
end

section
/- How long a number's text is. -/
namespace Go.Proofs.YtmhfkbgdkgfafaaGreatDoor.Js
open Go.RowKit Go.Proofs.YtmhfkbgdkgfafaaGreatDoor.QJson Go.Proofs.YtmhfkbgdkgfafaaGreatDoorW.PrintWords Go.Proofs.YtmhfkbgdkgfafaaGreatDoorW.PrintLast Go.Proofs.YtmhfkbgdkgfafaaGreatDoorW.PrintMore
set_option linter.unusedVariables false
set_option linter.unusedSimpArgs false

theorem dec_length : ∀ (f u : Nat), u < 10 ^ f → (Lib.decDigits u).length ≤ f + 1
  | 0, u, h => by
    unfold Lib.decDigits
    rw [dif_pos (by omega)]; simp
  | f + 1, u, h => by
    unfold Lib.decDigits
    split
    · simp
    · rw [List.length_append]
      have := dec_length f (u / 10) (by rw [Nat.div_lt_iff_lt_mul (by decide)]; rw [Nat.pow_succ] at h; exact h)
      simp only [List.length_cons, List.length_nil]; omega
theorem itoa_length (n : Int) (h0 : -1000000000000000000 < n) (h1 : n < 1000000000000000000) : (Lib.itoa n).length ≤ 20 := by
  unfold Lib.itoa
  split
  · have := dec_length 18 n.natAbs (by omega)
    rw [List.length_cons]; omega
  · have := dec_length 18 n.toNat (by omega)
    omega
end Go.Proofs.YtmhfkbgdkgfafaaGreatDoor.Js
end

section
/- Functions of the program as plain functions, and the walks that show it. Written by the session's own program pp.py. -/
namespace Go.Proofs.YtmhfkbgdkgfafaaGreatDoor.QJson
open Go.RowKit Go.Proofs.YtmhfkbgdkgfafaaGreatDoorW.PrintWords Go.Proofs.YtmhfkbgdkgfafaaGreatDoorW.PrintLast Go.Proofs.YtmhfkbgdkgfafaaGreatDoorW.PrintMore
attribute [local go_sem] max2_int min2_int max_two min_two max_three min_three max_four min_four   -- for this text's walks alone
set_option linter.unusedVariables false
set_option linter.unusedSimpArgs false

/-! ### bagnallkeep_Picked: function 15 -/
def bagnallkeep_Picked.f (a0 : Int) (a1 : Int) : Option (Int) := if a1 = 0 then (none) else (if (Int.tmod a0 a1) < 0 then (some (wrap64 ((Int.tmod a0 a1) + a1))) else (some (Int.tmod a0 a1)))
set_option maxHeartbeats 8000000 in
set_option maxRecDepth 100000 in
theorem bagnallkeep_Picked.calls (a0 : Int) (a1 : Int) (r : Int) (w : World) (h : bagnallkeep_Picked.f a0 a1 = some r) :
    Calls Tryz.prog 15 #[.int .i64 a0, .int .i64 a1] w fun e w' => e = .returned (.int .i64 r) ∧ Drawn0 w w' := by
  have H : (if a1 = 0 then (none) else (if (Int.tmod a0 a1) < 0 then (some (wrap64 ((Int.tmod a0 a1) + a1))) else (some (Int.tmod a0 a1)))) = some r := h
  clear h
  by_cases c3 : a1 = 0
  · rw [if_pos c3] at H
    exact absurd H (by simp)
  · rw [if_neg c3] at H
    have c3b0 : (a1 == 0) = false := beq_eq_false_iff_ne.mpr c3
    have c3b1 : (a1 != 0) = true := bne_iff_ne.mpr c3
    by_cases c4 : (Int.tmod a0 a1) < 0
    · rw [if_pos c4] at H
      have c4b0 : decide ((Int.tmod a0 a1) < 0) = true := decide_eq_true c4
      clear c4
      obtain rfl := Option.some.inj H
      go_enter Tryz.func15, Tryz.ntmps15
      go_wp2
      go_ret
      exact ⟨by first | rfl | (simp; done) | (simp [*]; done), by repeat (first | exact Drawn0.refl _ | apply Drawn0.step)⟩
    · rw [if_neg c4] at H
      have c4b0 : decide ((Int.tmod a0 a1) < 0) = false := decide_eq_false c4
      clear c4
      obtain rfl := Option.some.inj H
      go_enter Tryz.func15, Tryz.ntmps15
      go_wp2
      go_ret
      exact ⟨by first | rfl | (simp; done) | (simp [*]; done), by repeat (first | exact Drawn0.refl _ | apply Drawn0.step)⟩

end Go.Proofs.YtmhfkbgdkgfafaaGreatDoor.QJson
end
