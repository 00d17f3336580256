/- What base.Of comes to. -/
import Derived.Test.YtolnkahidgobhaaBase0
import Derived.Laws.BitsLemmas
namespace Go.Proofs.Ytolnkahidgobhaa.Base
open Go.RowKit Go.Proofs.YtolnkahidgobhaaW.PrintWords Go.Proofs.YtolnkahidgobhaaW.PrintLast Go.Proofs.YtolnkahidgobhaaW.PrintMore

theorem in20 (n : Int) (h0 : 0 ≤ n) (h1 : n < 2 ^ 20) : IntKind.i64.wrap n = n := by rw [IntKind.wrap_i64]; omega
theorem and_mask (i : Nat) (hi : i ≤ 20) (x : Int) (h0 : 0 ≤ x) (h1 : x < 2 ^ 20) : bits .and .i64 x (2 ^ i - 1) = x % 2 ^ i := bits_mask .i64 20 (by decide) in20 i hi x h0 h1
theorem and63 (x : Int) (h0 : 0 ≤ x) (h1 : x < 1048576) : bits .and .i64 x 63 = x % 64 := and_mask 6 (by decide) x h0 h1
theorem and15 (x : Int) (h0 : 0 ≤ x) (h1 : x < 1048576) : bits .and .i64 x 15 = x % 16 := and_mask 4 (by decide) x h0 h1
theorem and3 (x : Int) (h0 : 0 ≤ x) (h1 : x < 1048576) : bits .and .i64 x 3 = x % 4 := and_mask 2 (by decide) x h0 h1
theorem and0 (x : Int) (h0 : 0 ≤ x) (h1 : x < 1048576) : bits .and .i64 x 0 = 0 := by have := and_mask 0 (by decide) x h0 h1; rw [Int.pow_zero, Int.emod_one] at this; exact this
theorem or8 (b x : Int) (h0 : 0 ≤ b) (h1 : b < 1024) (h2 : 0 ≤ x) (h3 : x < 256) : bits .or .i64 (wrap64 (b * 256)) (wrap64 x) = b * 256 + x := by
  rw [show wrap64 (b * 256) = b * 256 by unfold wrap64; omega, show wrap64 x = x by unfold wrap64; omega]
  exact bits_join .i64 20 (by decide) in20 8 _ _ (by omega) (by omega) (by omega) h2 (by omega) (by omega)

/-- The signs. -/
def signs : ByteArray := ⟨#[65, 66, 67, 68, 69, 70, 71, 72, 73, 74, 75, 76, 77, 78, 79, 80, 81, 82, 83, 84, 85, 86, 87, 88, 89, 90, 97, 98, 99, 100, 101, 102, 103, 104, 105, 106, 107, 108, 109, 110, 111, 112, 113, 114, 115, 116, 117, 118, 119, 120, 121, 122, 48, 49, 50, 51, 52, 53, 54, 55, 56, 57, 43, 47]⟩
def sgn (e : Int) : UInt8 := (bt signs e).toNat.toUInt8
theorem sgn_toNat (e : Int) : ((sgn e).toNat : Int) = bt signs e := by
  have := bt_range signs e
  unfold sgn
  show ((UInt8.ofNat (bt signs e).toNat).toNat : Int) = _
  rw [UInt8.toNat_ofNat']
  omega
theorem cell_sgn (e : Int) : Lib.byteCells [sgn e] = [.int .u8 (bt signs e)] := by
  show [Value.int .u8 ((sgn e).toNat : Int)] = _
  rw [sgn_toNat]

/-- The text of bytes, from b of m bits on. -/
def encGo : Int → Int → List Int → List UInt8
  | m, b, [] => if m = 2 then [sgn (b * 16 % 64)] else if m = 4 then [sgn (b * 4 % 64)] else []
  | m, b, x :: l =>
    if m = 4 then sgn ((b * 256 + x) / 64 % 64) :: sgn ((b * 256 + x) % 64) :: encGo 0 0 l
    else if m = 2 then sgn ((b * 256 + x) / 16 % 64) :: encGo 4 ((b * 256 + x) % 16) l
    else sgn ((b * 256 + x) / 4 % 64) :: encGo 2 ((b * 256 + x) % 4) l

/-- What is left of a byte. -/
def Left (m b : Int) : Prop := (m = 0 ∧ b = 0) ∨ (m = 2 ∧ 0 ≤ b ∧ b < 4) ∨ (m = 4 ∧ 0 ≤ b ∧ b < 16)
theorem written {w1 : World} {B c : Nat} {os : List UInt8} {e : Int} (h : Lib.BuilderAt 56 5 B c (.pointer (some ⟨c, 0, none⟩)) (Lib.byteCells os ++ [.int .u8 (bt signs e)]) w1) : Lib.IsBuilder 56 5 B c (Lib.byteCells (os ++ [sgn e])) w1 := by
  rw [Lib.byteCells_append, cell_sgn]
  exact .inr h

set_option maxRecDepth 100000 in
set_option maxHeartbeats 4000000 in
theorem Of_walk (A0 : Option Addr) (c0 : Nat) (l : List Int) (w : World) (hr : Kd.C (Kd.int .u8) w A0 l.length l) (hl : l.length ≤ 100000) (hx : ∀ x ∈ l, 0 ≤ x ∧ x < 256) :
    Calls Try.prog 21 #[.slice A0 l.length c0] w fun e w' => e = .returned (.string ⟨(encGo 0 0 l).toArray⟩) ∧ Below w.heap.size w w' := by
  have HR := Aside0.mk hr
  have HX := Aside0.mk hx
  generalize hR : encGo 0 0 l = R
  have HRun := Aside0.mk hR
  have hbt := bt_at
  clear hr hx hR
  go_enter Try.func21, Try.ntmps21
  go_wp2
  go_loopg [4, 5, 10] (l.length) (fun kq v4 v5 v10 wr => ∃ (i : Nat) (b m : Int) (os : List UInt8), v10 = .int .i64 i ∧ v4 = .int .i64 b ∧ v5 = .int .i64 m ∧ Aside0 (kq + i = l.length) ∧ Aside0 (Left m b) ∧ Aside0 (os.length ≤ 2 * i) ∧ Aside0 (os ++ encGo m b (l.drop i) = R) ∧ Aside0 (Lib.IsBuilder 56 5 w.heap.size w.heap.size (Lib.byteCells os) wr) ∧ Aside0 (Below w.heap.size w wr))
  case atStart =>
    refine ⟨0, 0, 0, [], rfl, rfl, rfl, ⟨by omega⟩, ⟨.inl ⟨rfl, rfl⟩⟩, ⟨Nat.le_refl 0⟩, ⟨HRun.out⟩, ⟨.inl ⟨Nat.le_refl _, .slice none 0 0, by simpa using heap_alloc_new w _, own_nil _ _ _ _, by simp [Value.ownBlock]⟩⟩, ⟨below_alloc (Below.refl _ _) _⟩⟩
  case round =>
    obtain ⟨i, b, m, os, rfl, rfl, rfl, hK, hLeft, hLen, hRi, hBu, hBel⟩ := hrel
    by_cases hlt : i < l.length
    · obtain ⟨ad, rfl, hx0⟩ := Kd.at_int (Kd.C_below HR.out hBel.out) (i : Int) (by omega) (by omega)
      have hel : rd l (i : Int) = l[i] := by simp [rd, List.getD_eq_getElem?_getD, hlt]
      rw [hel] at hx0
      rw [Int.toNat_natCast] at hx0
      obtain ⟨hx1, hx2⟩ := HX.out _ (List.getElem_mem hlt)
      have hRi' := hRi.out
      rw [List.drop_eq_getElem_cons hlt] at hRi'
      generalize l[i] = x at *
      have hos : os.length ≤ 2 * i := hLen.out
      clear hel hRi
      by_cases hm0 : m = 0
      · subst hm0
        have hb0 : b = 0 := by rcases hLeft.out with h | h | h <;> omega
        subst hb0
        obtain ⟨B, hBv⟩ : ∃ B, 0 * 256 + x = B := ⟨_, rfl⟩
        have hB1 : 0 ≤ B ∧ B < 256 := by omega
        have hor := or8 0 x (by omega) (by omega) hx1 hx2
        rw [hBv] at hor
        have hor2 : bits .or .i64 0 (wrap64 x) = B := by rw [← hor, show wrap64 (0 * 256) = 0 by unfold wrap64; omega]
        have hor3 : bits .or .i64 0 x = B := by rw [← hor, show wrap64 x = x by unfold wrap64; omega, show wrap64 (0 * 256) = 0 by unfold wrap64; omega]
        obtain ⟨e0, he0⟩ : ∃ e, (B / 4) % 64 = e := ⟨_, rfl⟩
        have had0 := and63 (B / 4) (by omega) (by omega)
        rw [he0] at had0
        have hz0 : 0 ≤ e0 := by omega
        have hy0 : e0 < 64 := by omega
        have hand := and3 B (by omega) (by omega)
        obtain ⟨nb, hnb⟩ : ∃ nb, B % 4 = nb := ⟨_, rfl⟩
        rw [hnb] at hand
        have HRi := Aside0.mk (show (os ++ [sgn e0]) ++ encGo 2 nb (l.drop (i + 1)) = R by
          rw [← hRi', encGo]
          rw [if_neg (by decide), if_neg (by decide), hBv, he0, hnb]; simp)
        have HLeft := Aside0.mk (show Left 2 nb by exact .inr (.inl ⟨rfl, by omega, by omega⟩))
        clear hBv hRi' he0 hnb hB1
        go_wp2
        go_loopg [5] (1) (fun kq v5 wr2 => ∃ (q : Int) (os2 : List UInt8), v5 = .int .i64 q ∧ ((q = 8 ∧ kq = 1 ∧ os = os2) ∨ (q = 2 ∧ kq = 0 ∧ os ++ [sgn e0] = os2)) ∧ Aside0 (os2.length + 1 ≤ 140737488355328) ∧ Aside0 (Lib.IsBuilder 56 5 w.heap.size w.heap.size (Lib.byteCells os2) wr2) ∧ Aside0 (Below w.heap.size w wr2))
        case atStart => exact ⟨8, os, rfl, .inl ⟨rfl, rfl, rfl⟩, ⟨by omega⟩, hBu, hBel⟩
        case round =>
          obtain ⟨q, os2, rfl, hq, HOs, hbu, hbel⟩ := hrel
          rcases hq with ⟨rfl, hkq, rfl⟩ | ⟨rfl, hkq, rfl⟩
          · go_wp2_with (first | (go_at_call 24; go_loud (refine (WriteByte_calls w.heap.size w.heap.size (Lib.byteCells (os)) _ _ hbu.out ?_ hbel.out.size).mono ?_; (rw [Lib.byteCells_length]; exact HOs.out); rintro e w3 ⟨rfl, h3, hb3⟩; have HB3 := Aside0.mk (written h3); have HBel3 := Aside0.mk (hbel.out.trans hb3); clear h3 hb3)))
            go_roundg (gk - 1)
            case measure => omega
            case rel => exact ⟨2, _, rfl, .inr (⟨rfl, by omega, rfl⟩), ⟨by have := hLen.out; simp; omega⟩, HB3, HBel3⟩
          · go_wp2
            go_roundg (l.length - (i + 1))
            case measure => have := hK.out; omega
            case rel => exact ⟨i + 1, nb, 2, os ++ [sgn e0], by go_num, rfl, rfl, ⟨by omega⟩, HLeft, ⟨by simp; omega⟩, HRi, hbu, hbel⟩
      · by_cases hm2 : m = 2
        · subst hm2
          have hb0 : 0 ≤ b ∧ b < 4 := by rcases hLeft.out with h | h | h <;> omega
          obtain ⟨B, hBv⟩ : ∃ B, b * 256 + x = B := ⟨_, rfl⟩
          have hB1 : 0 ≤ B ∧ B < 1024 := by omega
          have hor := or8 b x (by omega) (by omega) hx1 hx2
          rw [hBv] at hor
          have hor2 : bits .or .i64 (b * 256) (wrap64 x) = B := by rw [← hor, show wrap64 (b * 256) = b * 256 by unfold wrap64; omega]
          have hor3 : bits .or .i64 (wrap64 (b * 256)) x = B := by rw [← hor, show wrap64 x = x by unfold wrap64; omega]
          have hor4 : bits .or .i64 (b * 256) x = B := by rw [← hor3, show wrap64 (b * 256) = b * 256 by unfold wrap64; omega]
          obtain ⟨e0, he0⟩ : ∃ e, (B / 16) % 64 = e := ⟨_, rfl⟩
          have had0 := and63 (B / 16) (by omega) (by omega)
          rw [he0] at had0
          have hz0 : 0 ≤ e0 := by omega
          have hy0 : e0 < 64 := by omega
          have hand := and15 B (by omega) (by omega)
          obtain ⟨nb, hnb⟩ : ∃ nb, B % 16 = nb := ⟨_, rfl⟩
          rw [hnb] at hand
          have HRi := Aside0.mk (show (os ++ [sgn e0]) ++ encGo 4 nb (l.drop (i + 1)) = R by
            rw [← hRi', encGo]
            rw [if_neg (by decide), if_pos rfl, hBv, he0, hnb]; simp)
          have HLeft := Aside0.mk (show Left 4 nb by exact .inr (.inr ⟨rfl, by omega, by omega⟩))
          clear hBv hRi' he0 hnb hB1 hb0
          go_wp2
          go_loopg [5] (1) (fun kq v5 wr2 => ∃ (q : Int) (os2 : List UInt8), v5 = .int .i64 q ∧ ((q = 10 ∧ kq = 1 ∧ os = os2) ∨ (q = 4 ∧ kq = 0 ∧ os ++ [sgn e0] = os2)) ∧ Aside0 (os2.length + 1 ≤ 140737488355328) ∧ Aside0 (Lib.IsBuilder 56 5 w.heap.size w.heap.size (Lib.byteCells os2) wr2) ∧ Aside0 (Below w.heap.size w wr2))
          case atStart => exact ⟨10, os, rfl, .inl ⟨rfl, rfl, rfl⟩, ⟨by omega⟩, hBu, hBel⟩
          case round =>
            obtain ⟨q, os2, rfl, hq, HOs, hbu, hbel⟩ := hrel
            rcases hq with ⟨rfl, hkq, rfl⟩ | ⟨rfl, hkq, rfl⟩
            · go_wp2_with (first | (go_at_call 24; go_loud (refine (WriteByte_calls w.heap.size w.heap.size (Lib.byteCells (os)) _ _ hbu.out ?_ hbel.out.size).mono ?_; (rw [Lib.byteCells_length]; exact HOs.out); rintro e w3 ⟨rfl, h3, hb3⟩; have HB3 := Aside0.mk (written h3); have HBel3 := Aside0.mk (hbel.out.trans hb3); clear h3 hb3)))
              go_roundg (gk - 1)
              case measure => omega
              case rel => exact ⟨4, _, rfl, .inr (⟨rfl, by omega, rfl⟩), ⟨by have := hLen.out; simp; omega⟩, HB3, HBel3⟩
            · go_wp2
              go_roundg (l.length - (i + 1))
              case measure => have := hK.out; omega
              case rel => exact ⟨i + 1, nb, 4, os ++ [sgn e0], by go_num, rfl, rfl, ⟨by omega⟩, HLeft, ⟨by simp; omega⟩, HRi, hbu, hbel⟩
        · have hm4 : m = 4 := by rcases hLeft.out with h | h | h <;> omega
          subst hm4
          have hb0 : 0 ≤ b ∧ b < 16 := by rcases hLeft.out with h | h | h <;> omega
          obtain ⟨B, hBv⟩ : ∃ B, b * 256 + x = B := ⟨_, rfl⟩
          have hB1 : 0 ≤ B ∧ B < 4096 := by omega
          have hor := or8 b x (by omega) (by omega) hx1 hx2
          rw [hBv] at hor
          have hor2 : bits .or .i64 (b * 256) (wrap64 x) = B := by rw [← hor, show wrap64 (b * 256) = b * 256 by unfold wrap64; omega]
          have hor3 : bits .or .i64 (wrap64 (b * 256)) x = B := by rw [← hor, show wrap64 x = x by unfold wrap64; omega]
          have hor4 : bits .or .i64 (b * 256) x = B := by rw [← hor3, show wrap64 (b * 256) = b * 256 by unfold wrap64; omega]
          obtain ⟨e0, he0⟩ : ∃ e, (B / 64) % 64 = e := ⟨_, rfl⟩
          have had0 := and63 (B / 64) (by omega) (by omega)
          rw [he0] at had0
          have hz0 : 0 ≤ e0 := by omega
          have hy0 : e0 < 64 := by omega
          obtain ⟨e1, he1⟩ : ∃ e, (B) % 64 = e := ⟨_, rfl⟩
          have had1 := and63 (B) (by omega) (by omega)
          rw [he1] at had1
          have hz1 : 0 ≤ e1 := by omega
          have hy1 : e1 < 64 := by omega
          have hand := and0 B (by omega) (by omega)
          have HRi := Aside0.mk (show (os ++ [sgn e0, sgn e1]) ++ encGo 0 0 (l.drop (i + 1)) = R by
            rw [← hRi', encGo]
            rw [if_pos rfl, hBv, he0, he1]; simp)
          have HLeft := Aside0.mk (show Left 0 0 by exact .inl ⟨rfl, rfl⟩)
          clear hBv hRi' he0 he1 hB1 hb0
          go_wp2
          go_loopg [5] (2) (fun kq v5 wr2 => ∃ (q : Int) (os2 : List UInt8), v5 = .int .i64 q ∧ ((q = 12 ∧ kq = 2 ∧ os = os2) ∨ (q = 6 ∧ kq = 1 ∧ os ++ [sgn e0] = os2) ∨ (q = 0 ∧ kq = 0 ∧ os ++ [sgn e0, sgn e1] = os2)) ∧ Aside0 (os2.length + 1 ≤ 140737488355328) ∧ Aside0 (Lib.IsBuilder 56 5 w.heap.size w.heap.size (Lib.byteCells os2) wr2) ∧ Aside0 (Below w.heap.size w wr2))
          case atStart => exact ⟨12, os, rfl, .inl ⟨rfl, rfl, rfl⟩, ⟨by omega⟩, hBu, hBel⟩
          case round =>
            obtain ⟨q, os2, rfl, hq, HOs, hbu, hbel⟩ := hrel
            rcases hq with ⟨rfl, hkq, rfl⟩ | ⟨rfl, hkq, rfl⟩ | ⟨rfl, hkq, rfl⟩
            · go_wp2_with (first | (go_at_call 24; go_loud (refine (WriteByte_calls w.heap.size w.heap.size (Lib.byteCells (os)) _ _ hbu.out ?_ hbel.out.size).mono ?_; (rw [Lib.byteCells_length]; exact HOs.out); rintro e w3 ⟨rfl, h3, hb3⟩; have HB3 := Aside0.mk (written h3); have HBel3 := Aside0.mk (hbel.out.trans hb3); clear h3 hb3)))
              go_roundg (gk - 1)
              case measure => omega
              case rel => exact ⟨6, _, rfl, .inr (.inl ⟨rfl, by omega, rfl⟩), ⟨by have := hLen.out; simp; omega⟩, HB3, HBel3⟩
            · go_wp2_with (first | (go_at_call 24; go_loud (refine (WriteByte_calls w.heap.size w.heap.size (Lib.byteCells (os ++ [sgn e0])) _ _ hbu.out ?_ hbel.out.size).mono ?_; (rw [Lib.byteCells_length]; exact HOs.out); rintro e w3 ⟨rfl, h3, hb3⟩; have HB3 := Aside0.mk (written h3); have HBel3 := Aside0.mk (hbel.out.trans hb3); clear h3 hb3)))
              go_roundg (gk - 1)
              case measure => omega
              case rel => exact ⟨0, _, rfl, .inr (.inr (⟨rfl, by omega, by simp⟩)), ⟨by have := hLen.out; simp; omega⟩, HB3, HBel3⟩
            · go_wp2
              go_roundg (l.length - (i + 1))
              case measure => have := hK.out; omega
              case rel => exact ⟨i + 1, 0, 0, os ++ [sgn e0, sgn e1], by go_num, rfl, rfl, ⟨by omega⟩, HLeft, ⟨by simp; omega⟩, HRi, hbu, hbel⟩
    · have HD := Aside0.mk (show l.drop i = [] from List.drop_of_length_le (by omega))
      have HOs := Aside0.mk (show os.length + 1 ≤ 140737488355328 by have := hLen.out; have := hK.out; omega)
      by_cases hm0 : m = 0
      · subst hm0
        have HE := Aside0.mk (show os = R by rw [← hRi.out, HD.out, encGo, if_neg (by decide), if_neg (by decide), List.append_nil])
        go_wp2_with (first | (go_at_call 25; refine (Try.Builder_String_any w.heap.size w.heap.size os _ hBu.out hBel.out.size).mono ?_; rintro e w4 ⟨rfl, hb4⟩; have HBel4 := Aside0.mk (hBel.out.trans hb4); clear hb4))
        go_ret
        exact ⟨by rw [← HE.out]; rfl, HBel4.out⟩
      · by_cases hm2 : m = 2
        · subst hm2
          have hb0 : 0 ≤ b ∧ b < 4 := by rcases hLeft.out with h | h | h <;> omega
          obtain ⟨e0, he0⟩ : ∃ e, (b * 16) % 64 = e := ⟨_, rfl⟩
          have had := and63 (b * 16) (by omega) (by omega)
          rw [he0] at had
          have had2 : bits .and .i64 (wrap64 (b * 16)) 63 = e0 := by rw [← had, show wrap64 (b * 16) = b * 16 by unfold wrap64; omega]
          have hz0 : 0 ≤ e0 := by omega
          have hy0 : e0 < 64 := by omega
          have HE := Aside0.mk (show os ++ [sgn e0] = R by rw [← hRi.out, HD.out, encGo, if_pos rfl, he0])
          clear he0 hb0
          go_wp2_with (first | (go_at_call 24; refine (WriteByte_calls w.heap.size w.heap.size (Lib.byteCells os) _ _ hBu.out ?_ hBel.out.size).mono ?_; (rw [Lib.byteCells_length]; exact HOs.out); rintro e w3 ⟨rfl, h3, hb3⟩; have HB3 := Aside0.mk (written h3); have HBel3 := Aside0.mk (hBel.out.trans hb3); clear h3 hb3) | (go_at_call 25; refine (Try.Builder_String_any w.heap.size w.heap.size (os ++ [sgn e0]) _ HB3.out HBel3.out.size).mono ?_; rintro e w4 ⟨rfl, hb4⟩; have HBel4 := Aside0.mk (HBel3.out.trans hb4); clear hb4))
          go_ret
          exact ⟨by rw [← HE.out]; rfl, HBel4.out⟩
        · have hm4 : m = 4 := by rcases hLeft.out with h | h | h <;> omega
          subst hm4
          have hb0 : 0 ≤ b ∧ b < 16 := by rcases hLeft.out with h | h | h <;> omega
          obtain ⟨e0, he0⟩ : ∃ e, (b * 4) % 64 = e := ⟨_, rfl⟩
          have had := and63 (b * 4) (by omega) (by omega)
          rw [he0] at had
          have had2 : bits .and .i64 (wrap64 (b * 4)) 63 = e0 := by rw [← had, show wrap64 (b * 4) = b * 4 by unfold wrap64; omega]
          have hz0 : 0 ≤ e0 := by omega
          have hy0 : e0 < 64 := by omega
          have HE := Aside0.mk (show os ++ [sgn e0] = R by rw [← hRi.out, HD.out, encGo, if_neg (by decide), if_pos rfl, he0])
          clear he0 hb0
          go_wp2_with (first | (go_at_call 24; refine (WriteByte_calls w.heap.size w.heap.size (Lib.byteCells os) _ _ hBu.out ?_ hBel.out.size).mono ?_; (rw [Lib.byteCells_length]; exact HOs.out); rintro e w3 ⟨rfl, h3, hb3⟩; have HB3 := Aside0.mk (written h3); have HBel3 := Aside0.mk (hBel.out.trans hb3); clear h3 hb3) | (go_at_call 25; refine (Try.Builder_String_any w.heap.size w.heap.size (os ++ [sgn e0]) _ HB3.out HBel3.out.size).mono ?_; rintro e w4 ⟨rfl, hb4⟩; have HBel4 := Aside0.mk (HBel3.out.trans hb4); clear hb4))
          go_ret
          exact ⟨by rw [← HE.out]; rfl, HBel4.out⟩

end Go.Proofs.Ytolnkahidgobhaa.Base
namespace Go.Proofs.Ytolnkahidgobhaa.QBase
open Go.RowKit Go.Proofs.Ytolnkahidgobhaa.Base Go.Proofs.YtolnkahidgobhaaW.PrintWords Go.Proofs.YtolnkahidgobhaaW.PrintLast Go.Proofs.YtolnkahidgobhaaW.PrintMore

/-- Are all of them bytes? -/
def bytesIn (l : List Int) : Bool := l.all fun x => decide (0 ≤ x) && decide (x < 256)
theorem bytesIn_iff (l : List Int) : bytesIn l = true ↔ ∀ x ∈ l, 0 ≤ x ∧ x < 256 := by simp [bytesIn]
def base_Of.f (l : List Int) : Option ByteArray := if l.length ≤ 100000 ∧ bytesIn l = true then some ⟨(encGo 0 0 l).toArray⟩ else none
theorem base_Of.calls (A0 : Option Addr) (c0 : Nat) (l0 : List Int) (r : ByteArray) (w : World) (hr0 : Kd.C (Kd.int .u8) w A0 l0.length l0) (_hc0 : l0.length ≤ c0) (h : base_Of.f l0 = some r) :
    Calls Try.prog 21 #[.slice A0 l0.length c0] w fun e w' => e = .returned (.string r) ∧ Below w.heap.size w w' := by
  unfold base_Of.f at h
  by_cases hh : l0.length ≤ 100000 ∧ bytesIn l0 = true
  · rw [if_pos hh] at h
    obtain rfl := Option.some.inj h
    exact Of_walk A0 c0 l0 w hr0 hh.1 ((bytesIn_iff l0).1 hh.2)
  · rw [if_neg hh] at h; cases h

end Go.Proofs.Ytolnkahidgobhaa.QBase
