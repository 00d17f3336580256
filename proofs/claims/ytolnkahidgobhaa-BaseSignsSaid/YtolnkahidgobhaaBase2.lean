/- What base.Bytes comes to. -/
import Derived.Test.YtolnkahidgobhaaBase1
import Derived.BigQuiet
namespace Go.Proofs.Ytolnkahidgobhaa.Base
open Go.RowKit Go.Proofs.YtolnkahidgobhaaW.PrintWords Go.Proofs.YtolnkahidgobhaaW.PrintLast Go.Proofs.YtolnkahidgobhaaW.PrintMore

/-- The number of a sign, or -1. -/
def idx (c : UInt8) : Int := Lib.indexByte signs.data.toList c
theorem idx_all : ∀ n : Nat, n < 256 → -1 ≤ idx n.toUInt8 ∧ idx n.toUInt8 < 64 := by decide +kernel
theorem idx_range (c : UInt8) : -1 ≤ idx c ∧ idx c < 64 := by
  have h := idx_all c.toNat (UInt8.toNat_lt c)
  have e : c.toNat.toUInt8 = c := by simp
  rwa [e] at h
theorem or6 (b x : Int) (h0 : 0 ≤ b) (h1 : b < 1024) (h2 : 0 ≤ x) (h3 : x < 64) : bits .or .i64 (wrap64 (b * 64)) x = b * 64 + x := by
  rw [show wrap64 (b * 64) = b * 64 by unfold wrap64; omega]
  exact bits_join .i64 20 (by decide) in20 6 _ _ (by omega) (by omega) (by omega) h2 (by omega) (by omega)

/-- The bytes of signs, from b of m bits on. -/
def decGo : Int → Int → List UInt8 → Option (List Int)
  | m, b, [] => if m = 6 then none else if b = 0 then some [] else none
  | m, b, c :: l =>
    if idx c < 0 then none
    else if m = 0 then decGo 6 (b * 64 + idx c) l
    else if m = 6 then (decGo 4 ((b * 64 + idx c) % 16) l).map (((b * 64 + idx c) / 16) :: ·)
    else if m = 4 then (decGo 2 ((b * 64 + idx c) % 4) l).map (((b * 64 + idx c) / 4) :: ·)
    else (decGo 0 0 l).map ((b * 64 + idx c) :: ·)
/-- What Bytes tells. -/
def told (r : Option (List Int)) : List Int × Int := match r with | none => ([], 4) | some l => (l, 0)

def Left2 (m b : Int) : Prop := (m = 0 ∧ b = 0) ∨ (m = 2 ∧ 0 ≤ b ∧ b < 4) ∨ (m = 4 ∧ 0 ≤ b ∧ b < 16) ∨ (m = 6 ∧ 0 ≤ b ∧ b < 64)
theorem bt_char (s : ByteArray) (i : Nat) (h : i < s.data.toList.length) : (bt s (i : Int)).toNat.toUInt8 = s.data.toList[i] := by
  have hs : i < s.size := by rw [Array.length_toList] at h; exact h
  unfold bt
  rw [dif_pos (by simpa using hs)]
  simp
  rfl

set_option maxRecDepth 100000 in
set_option maxHeartbeats 4000000 in
theorem Bytes_walk (s : ByteArray) (w : World) (hl : s.size ≤ 1200) :
    Calls Try.prog 16 #[.string s] w fun e w' => ∃ v0_ : Value, e = .returned (.tuple #[v0_, .int .i64 (told (decGo 0 0 s.data.toList)).2]) ∧ (Kd.int .u8).R 5 w' w.heap.size (fun _ => True) v0_ (told (decGo 0 0 s.data.toList)).1 ∧ Below w.heap.size w w' := by
  have hlen : s.data.toList.length = s.size := by rw [Array.length_toList]; rfl
  have HLn := Aside0.mk hlen
  have HL := Aside0.mk hl
  have ht : decide (1200 < (s.size : Int)) = false := decide_eq_false (by omega)
  generalize hR : decGo 0 0 s.data.toList = R
  have HRun := Aside0.mk hR
  have hbt := bt_at
  clear hR hlen
  go_enter Try.func16, Try.ntmps16
  go_wp2
  go_loopg [4, 5, 6, 14] (s.size) (fun kq v4 v5 v6 v14 wr => ∃ (i : Nat) (b m : Int) (os : List Int), v14 = .int .i64 i ∧ v5 = .int .i64 b ∧ v6 = .int .i64 m ∧ Aside0 (kq + i = s.size) ∧ Aside0 (Left2 m b) ∧ Aside0 (os.length ≤ i) ∧ Aside0 ((decGo m b (s.data.toList.drop i)).map (os ++ ·) = R) ∧ Aside0 ((Kd.int .u8).R 5 wr w.heap.size (fun _ => True) v4 os) ∧ Aside0 (Below w.heap.size w wr))
  case atStart =>
    refine ⟨0, 0, 0, [], rfl, rfl, rfl, ⟨by omega⟩, ⟨.inl ⟨rfl, rfl⟩⟩, ⟨Nat.le_refl 0⟩, ⟨?_⟩, ⟨Kd.R_nil _ _ _ _ _⟩, ⟨Below.refl _ _⟩⟩
    rw [← HRun.out]; simp
  case round =>
    obtain ⟨i, b, m, os, rfl, rfl, rfl, hK, hLeft, hLen, hRi, hOs, hBel⟩ := hrel
    by_cases hlt : i < s.size
    · have hlt2 : i < s.data.toList.length := by rw [HLn.out]; exact hlt
      have hch := bt_char s i hlt2
      have hbn : ∀ h : i < s.size, ((s[i]'h).toNat : Int) = bt s (i : Int) := fun h => bt_at s (i : Int) (by simpa using h)
      have hRi' := hRi.out
      rw [List.drop_eq_getElem_cons hlt2] at hRi'
      obtain ⟨hk0, hk1⟩ := idx_range s.data.toList[i]
      have HIdx := fun w => Aside0.mk (by have h := Try.strings_IndexByte signs (bt s (i : Int)) w; rw [hch] at h; exact h : Calls Try.prog 22 #[.string signs, .int .u8 (bt s (i : Int))] w fun e w' => e = .returned (.int .i64 (idx s.data.toList[i])) ∧ w' = w)
      generalize s.data.toList[i] = c at *
      clear hch hRi hlt2
      by_cases hneg : idx c < 0
      · have HE := Aside0.mk (show R = none by rw [← hRi', decGo, if_pos hneg]; rfl)
        have hneg2 := decide_eq_true hneg
        generalize idx c = kx at *
        clear hneg hk0 hk1 hRi'
        go_wp2_with (first | (go_at_call 22; refine (HIdx _).out.mono ?_; rintro e w3 ⟨rfl, rfl⟩))
        go_ret2
        rw [HE.out]
        exact ⟨_, rfl, Kd.R_nil _ _ _ _ _, hBel.out⟩
      · rw [decGo, if_neg hneg] at hRi'
        have hneg2 := decide_eq_false hneg
        generalize idx c = kx at *
        have hos : os.length ≤ i := hLen.out
        by_cases hm0 : m = 0
        · subst hm0
          have hb0 : b = 0 := by rcases hLeft.out with h | h | h | h <;> omega
          subst hb0
          obtain ⟨B, hBv⟩ : ∃ B, 0 * 64 + kx = B := ⟨_, rfl⟩
          have hor := or6 0 kx (by omega) (by omega) (by omega) hk1
          rw [hBv] at hor
          have hor2 : bits .or .i64 0 kx = B := by rw [← hor, show wrap64 (0 * 64) = 0 by unfold wrap64; omega]
          have hB1 : 0 ≤ B ∧ B < 64 := by omega
          have HRi := Aside0.mk (show (decGo 6 B (s.data.toList.drop (i + 1))).map (os ++ ·) = R by rw [← hRi', if_pos rfl, hBv])
          have HLeft := Aside0.mk (show Left2 6 B from .inr (.inr (.inr ⟨rfl, by omega, by omega⟩)))
          clear hRi' hBv hk0 hneg hB1
          go_wp2_with (first | (go_at_call 22; refine (HIdx _).out.mono ?_; rintro e w3 ⟨rfl, rfl⟩))
          go_roundg (gk - 1)
          case measure => have := hK.out; omega
          case rel => exact ⟨i + 1, B, 6, os, by have hL_ := HL.out; go_num, rfl, rfl, ⟨by have := hK.out; omega⟩, HLeft, ⟨by omega⟩, HRi, hOs, hBel⟩
        · by_cases hm6 : m = 6
          · subst hm6
            have hb0 : 0 ≤ b ∧ b < 64 := by rcases hLeft.out with h | h | h | h <;> omega
            obtain ⟨B, hBv⟩ : ∃ B, b * 64 + kx = B := ⟨_, rfl⟩
            have hor := or6 b kx (by omega) (by omega) (by omega) hk1
            rw [hBv] at hor
            have hor2 : bits .or .i64 (b * 64) kx = B := by rw [← hor, show wrap64 (b * 64) = b * 64 by unfold wrap64; omega]
            have hB1 : 0 ≤ B ∧ B < 4096 := by omega
            obtain ⟨v, hv⟩ : ∃ v, B / 16 = v := ⟨_, rfl⟩
            have hcv : IntKind.u8.wrap (B / 16) = v := by rw [IntKind.wrap_u8]; omega
            have hcv2 : (B / 16) % 256 = v := by omega
            have hand := and15 B (by omega) (by omega)
            obtain ⟨nb, hnb⟩ : ∃ nb, B % 16 = nb := ⟨_, rfl⟩
            rw [hnb] at hand
            have HRi := Aside0.mk (show (decGo 4 nb (s.data.toList.drop (i + 1))).map ((os ++ [v]) ++ ·) = R by
              rw [← hRi', if_neg (by decide), if_pos rfl, hBv, hv, hnb, Option.map_map]; congr 1; funext z; simp)
            have HLeft := Aside0.mk (show Left2 4 nb from .inr (.inr (.inl ⟨rfl, by omega, by omega⟩)))
            clear hRi' hBv hk0 hneg hB1 hb0 hnb hv
            go_wp2_with (first | (go_at_call 22; refine (HIdx _).out.mono ?_; rintro e w3 ⟨rfl, rfl⟩) | (at_builtin; refine Kd.R_append (Kd.int .u8) (w0 := w) w.heap.size rfl (.tmp 33) (.tmp 38) 25 5 (.int .u8 0) 1 rfl Try.underlying25 infoByte rfl (by decide) (by omega) _ os v [.int .u8 v] (fun _ => True) (fun _ => False) rfl (by first | (go_simp; done) | (go_simp; rfl)) rfl (fun _ h => h.elim) (fun _ _ => trivial) hOs.out hBel.out (by have := hBel.out.size; omega) (by have := hLen.out; have := HL.out; omega) ?_; intro v2 w2 ho hb _ _; have HC2 := Aside0.mk ho; have HB2 := Aside0.mk hb; clear ho hb))
            go_roundg (gk - 1)
            case measure => have := hK.out; omega
            case rel => exact ⟨i + 1, nb, 4, os ++ [v], by have hL_ := HL.out; go_num, rfl, rfl, ⟨by have := hK.out; omega⟩, HLeft, ⟨by simp; omega⟩, HRi, HC2, HB2⟩
          · by_cases hm4 : m = 4
            · subst hm4
              have hb0 : 0 ≤ b ∧ b < 16 := by rcases hLeft.out with h | h | h | h <;> omega
              obtain ⟨B, hBv⟩ : ∃ B, b * 64 + kx = B := ⟨_, rfl⟩
              have hor := or6 b kx (by omega) (by omega) (by omega) hk1
              rw [hBv] at hor
              have hor2 : bits .or .i64 (b * 64) kx = B := by rw [← hor, show wrap64 (b * 64) = b * 64 by unfold wrap64; omega]
              have hB1 : 0 ≤ B ∧ B < 1024 := by omega
              obtain ⟨v, hv⟩ : ∃ v, B / 4 = v := ⟨_, rfl⟩
              have hcv : IntKind.u8.wrap (B / 4) = v := by rw [IntKind.wrap_u8]; omega
              have hcv2 : (B / 4) % 256 = v := by omega
              have hand := and3 B (by omega) (by omega)
              obtain ⟨nb, hnb⟩ : ∃ nb, B % 4 = nb := ⟨_, rfl⟩
              rw [hnb] at hand
              have HRi := Aside0.mk (show (decGo 2 nb (s.data.toList.drop (i + 1))).map ((os ++ [v]) ++ ·) = R by
                rw [← hRi', if_neg (by decide), if_neg (by decide), if_pos rfl, hBv, hv, hnb, Option.map_map]; congr 1; funext z; simp)
              have HLeft := Aside0.mk (show Left2 2 nb from .inr (.inl ⟨rfl, by omega, by omega⟩))
              clear hRi' hBv hk0 hneg hB1 hb0 hnb hv
              go_wp2_with (first | (go_at_call 22; refine (HIdx _).out.mono ?_; rintro e w3 ⟨rfl, rfl⟩) | (at_builtin; refine Kd.R_append (Kd.int .u8) (w0 := w) w.heap.size rfl (.tmp 33) (.tmp 38) 25 5 (.int .u8 0) 1 rfl Try.underlying25 infoByte rfl (by decide) (by omega) _ os v [.int .u8 v] (fun _ => True) (fun _ => False) rfl (by first | (go_simp; done) | (go_simp; rfl)) rfl (fun _ h => h.elim) (fun _ _ => trivial) hOs.out hBel.out (by have := hBel.out.size; omega) (by have := hLen.out; have := HL.out; omega) ?_; intro v2 w2 ho hb _ _; have HC2 := Aside0.mk ho; have HB2 := Aside0.mk hb; clear ho hb))
              go_roundg (gk - 1)
              case measure => have := hK.out; omega
              case rel => exact ⟨i + 1, nb, 2, os ++ [v], by have hL_ := HL.out; go_num, rfl, rfl, ⟨by have := hK.out; omega⟩, HLeft, ⟨by simp; omega⟩, HRi, HC2, HB2⟩
            · have hm2 : m = 2 := by rcases hLeft.out with h | h | h | h <;> omega
              subst hm2
              have hb0 : 0 ≤ b ∧ b < 4 := by rcases hLeft.out with h | h | h | h <;> omega
              obtain ⟨B, hBv⟩ : ∃ B, b * 64 + kx = B := ⟨_, rfl⟩
              have hor := or6 b kx (by omega) (by omega) (by omega) hk1
              rw [hBv] at hor
              have hor2 : bits .or .i64 (b * 64) kx = B := by rw [← hor, show wrap64 (b * 64) = b * 64 by unfold wrap64; omega]
              have hB1 : 0 ≤ B ∧ B < 256 := by omega
              have hcv : IntKind.u8.wrap B = B := by rw [IntKind.wrap_u8]; omega
              have hcv2 : B % 256 = B := by omega
              have hand := and0 B (by omega) (by omega)
              have HRi := Aside0.mk (show (decGo 0 0 (s.data.toList.drop (i + 1))).map ((os ++ [B]) ++ ·) = R by
                rw [← hRi', if_neg (by decide), if_neg (by decide), if_neg (by decide), hBv, Option.map_map]; congr 1; funext z; simp)
              have HLeft := Aside0.mk (show Left2 0 0 from .inl ⟨rfl, rfl⟩)
              clear hRi' hBv hk0 hneg hB1 hb0
              go_wp2_with (first | (go_at_call 22; refine (HIdx _).out.mono ?_; rintro e w3 ⟨rfl, rfl⟩) | (at_builtin; refine Kd.R_append (Kd.int .u8) (w0 := w) w.heap.size rfl (.tmp 33) (.tmp 38) 25 5 (.int .u8 0) 1 rfl Try.underlying25 infoByte rfl (by decide) (by omega) _ os B [.int .u8 B] (fun _ => True) (fun _ => False) rfl (by first | (go_simp; done) | (go_simp; rfl)) rfl (fun _ h => h.elim) (fun _ _ => trivial) hOs.out hBel.out (by have := hBel.out.size; omega) (by have := hLen.out; have := HL.out; omega) ?_; intro v2 w2 ho hb _ _; have HC2 := Aside0.mk ho; have HB2 := Aside0.mk hb; clear ho hb))
              go_roundg (gk - 1)
              case measure => have := hK.out; omega
              case rel => exact ⟨i + 1, 0, 0, os ++ [B], by have hL_ := HL.out; go_num, rfl, rfl, ⟨by have := hK.out; omega⟩, HLeft, ⟨by simp; omega⟩, HRi, HC2, HB2⟩
    · have hR := hRi.out
      rw [List.drop_of_length_le (by rw [HLn.out]; omega), decGo] at hR
      by_cases hm6 : m = 6
      · rw [if_pos hm6] at hR
        have HE := Aside0.mk hR.symm
        subst hm6
        clear hR
        go_wp2
        go_ret2
        rw [HE.out]
        exact ⟨_, rfl, Kd.R_nil _ _ _ _ _, hBel.out⟩
      · rw [if_neg hm6] at hR
        have hm6b := beq_eq_false_iff_ne.2 hm6
        by_cases hb : b = 0
        · rw [if_pos hb] at hR
          have HE := Aside0.mk hR.symm
          subst hb
          clear hR hm6
          go_wp2
          go_ret2
          rw [HE.out]
          exact ⟨_, rfl, by simpa [told] using hOs.out, hBel.out⟩
        · rw [if_neg hb] at hR
          have HE := Aside0.mk hR.symm
          have hbb := beq_eq_false_iff_ne.2 hb
          clear hR hm6 hb
          go_wp2
          go_ret2
          rw [HE.out]
          exact ⟨_, rfl, Kd.R_nil _ _ _ _ _, hBel.out⟩

set_option maxRecDepth 100000 in
theorem Bytes_many (s : ByteArray) (w : World) (hl : 1200 < s.size) :
    Calls Try.prog 16 #[.string s] w fun e w' => e = .returned (.tuple #[.slice none 0 0, .int .i64 1]) ∧ w = w' := by
  have ht : decide (1200 < (s.size : Int)) = true := decide_eq_true (by omega)
  go_enter Try.func16, Try.ntmps16
  go_wp2
  go_ret2
  exact ⟨rfl, rfl⟩

end Go.Proofs.Ytolnkahidgobhaa.Base
namespace Go.Proofs.Ytolnkahidgobhaa.QBase
open Go.RowKit Go.Proofs.Ytolnkahidgobhaa.Base Go.Proofs.YtolnkahidgobhaaW.PrintWords Go.Proofs.YtolnkahidgobhaaW.PrintLast Go.Proofs.YtolnkahidgobhaaW.PrintMore

def base_Bytes.f (s : ByteArray) : Option (List Int × Int) := if 1200 < s.size then some ([], 1) else some (told (decGo 0 0 s.data.toList))
theorem base_Bytes.calls (a0 : ByteArray) (r1 : List Int) (r2 : Int) (w : World) (h : base_Bytes.f a0 = some (r1, r2)) :
    Calls Try.prog 16 #[.string a0] w fun e w' => ∃ v0_ : Value, e = .returned (.tuple #[v0_, .int .i64 r2]) ∧ Kd.R (Kd.int .u8) 5 w' w.heap.size (fun _ => True) v0_ r1 ∧ Below w.heap.size w w' := by
  unfold base_Bytes.f at h
  by_cases hm : 1200 < a0.size
  · rw [if_pos hm] at h
    simp only [Option.some.injEq, Prod.mk.injEq] at h
    obtain ⟨rfl, rfl⟩ := h
    refine (Bytes_many a0 w hm).mono ?_
    rintro e w' ⟨rfl, rfl⟩
    exact ⟨_, rfl, Kd.R_nil _ _ _ _ _, Below.refl _ _⟩
  · rw [if_neg hm] at h
    have h2 := Option.some.inj h
    have e1 : (told (decGo 0 0 a0.data.toList)).1 = r1 := by rw [h2]
    have e2 : (told (decGo 0 0 a0.data.toList)).2 = r2 := by rw [h2]
    subst e1 e2
    exact Bytes_walk a0 w (by omega)

end Go.Proofs.Ytolnkahidgobhaa.QBase
