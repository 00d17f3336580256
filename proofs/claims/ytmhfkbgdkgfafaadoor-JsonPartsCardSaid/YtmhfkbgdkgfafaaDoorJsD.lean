/- json.quoted: a string's text. -/
import Derived.Test.YtmhfkbgdkgfafaaDoorJsC
namespace Go.Proofs.YtmhfkbgdkgfafaaDoor.Js
open Go.RowKit Go.Proofs.YtmhfkbgdkgfafaaDoorW.PrintWords Go.Proofs.YtmhfkbgdkgfafaaDoorW.PrintLast Go.Proofs.YtmhfkbgdkgfafaaDoorW.PrintMore
set_option linter.unusedVariables false
set_option linter.unusedSimpArgs false

/-- A byte's text within a string. -/
def esc (c : UInt8) : List UInt8 :=
  if c = 34 then [92, 34] else if c = 92 then [92, 92]
  else if c = 8 then [92, 98] else if c = 9 then [92, 116] else if c = 10 then [92, 110] else if c = 12 then [92, 102] else if c = 13 then [92, 114]
  else if c < 32 then [92, 117, 48, 48, hexB (c.toNat / 16), hexB (c.toNat % 16)]
  else [c]
/-- A string's text. -/
def quote (l : List UInt8) : List UInt8 := 34 :: (l.flatMap esc ++ [34])
theorem esc_length (c : UInt8) : (esc c).length ≤ 6 := by
  unfold esc
  repeat' split
  all_goals simp
theorem flat_length (l : List UInt8) : (l.flatMap esc).length ≤ 6 * l.length := by
  induction l with
  | nil => simp
  | cons c l ih => rw [List.flatMap_cons, List.length_append, List.length_cons]; have := esc_length c; omega
def kOf (x : Int) : Int := if x = 8 then 0 else if x = 9 then 1 else if x = 10 then 2 else if x = 12 then 3 else if x = 13 then 4 else -1
theorem kOf_eq : ∀ c : Fin 256, Lib.indexByte (⟨#[8, 9, 10, 12, 13]⟩ : ByteArray).data.toList ((c.val : Int)).toNat.toUInt8 = kOf c.val := by decide +kernel
theorem idx (x : Int) (h0 : 0 ≤ x) (h1 : x < 256) (w : World) : Calls Tryd.prog 18 #[.string ⟨#[8, 9, 10, 12, 13]⟩, .int .u8 x] w fun e w' => e = .returned (.int .i64 (kOf x)) ∧ w' = w := by
  have h := Tryd.strings_IndexByte ⟨#[8, 9, 10, 12, 13]⟩ x w
  have h2 := kOf_eq ⟨x.toNat, by omega⟩
  simp only [Int.toNat_of_nonneg h0] at h2
  rw [h2] at h
  exact h
theorem at_eq (s : ByteArray) (l : List UInt8) (hl : s.data.toList = l) (i : Nat) (hi : i < l.length) : ∀ h : i < s.size, (s[i]'h).toNat = (l[i]).toNat := by
  subst hl
  intro h
  simp [ByteArray.getElem_eq_getElem_data]
theorem extract_one (s : ByteArray) (l : List UInt8) (hl : s.data.toList = l) (i : Nat) (hi : i < l.length) : s.extract i (i + 1) = ⟨#[l[i]]⟩ := by
  subst hl
  have h : i < s.data.size := by simpa using hi
  apply ByteArray.ext
  rw [ByteArray.data_extract]
  apply Array.ext'
  rw [Array.toList_extract]
  simp only [Array.length_toList] at hi
  rw [List.extract_eq_take_drop]
  rw [List.drop_eq_getElem_cons (by simpa using h)]
  simp

theorem slice_one {s : ByteArray} {i : Nat} {c : UInt8} (hx : s.extract i (i + 1) = ⟨#[c]⟩) (hi : i < s.size) (W : World) : (Instr.slice 9 (.string s) (some (.int .i64 (i : Int))) (some (.int .i64 ((i : Int) + 1))) none).run Tryd.prog W = .ok (.string ⟨#[c]⟩) W := by
  rw [run_slice_string W 9 s .i64 .i64 (i : Int) ((i : Int) + 1) Tryd.underlying9 (by omega) (by omega) (by omega)]
  rw [show ((i : Int)).toNat = i by omega, show ((i : Int) + 1).toNat = i + 1 by omega, hx]
theorem slice_short (k : Int) (eb : UInt8) (h0 : 0 ≤ k) (h1 : k < 5) (hx : (⟨#[98, 116, 110, 102, 114]⟩ : ByteArray).extract k.toNat (k.toNat + 1) = ⟨#[eb]⟩) (W : World) : (Instr.slice 9 (.string ⟨#[98, 116, 110, 102, 114]⟩) (some (.int .i64 k)) (some (.int .i64 (k + 1))) none).run Tryd.prog W = .ok (.string ⟨#[eb]⟩) W := by
  rw [run_slice_string W 9 _ .i64 .i64 k (k + 1) Tryd.underlying9 (by omega) (by omega) (by show k + 1 ≤ 5; omega)]
  rw [show (k + 1).toNat = k.toNat + 1 by omega, hx]
theorem slice_two (a b : UInt8) (W : World) : (Instr.slice 9 (.string ⟨#[49, a, b]⟩) (some (.int .i64 1)) none none).run Tryd.prog W = .ok (.string ⟨#[a, b]⟩) W := by
  rw [run_slice_string_l (ht := Tryd.underlying9) (h0 := by decide) (h1 := by show (1 : Int) ≤ 3; decide)]
  rfl
theorem esc_short (c : UInt8) (x k : Int) (hx : x = (c.toNat : Int)) (hk : k = kOf x) (h0 : 0 ≤ k) : ∃ eb, k < 5 ∧ esc c = [92, eb] ∧ (⟨#[98, 116, 110, 102, 114]⟩ : ByteArray).extract k.toNat (k.toNat + 1) = ⟨#[eb]⟩ := by
  have hc : ∀ n : Nat, x = (n : Int) → n < 256 → c = n.toUInt8 := fun n h h2 => UInt8.toNat_inj.1 (by have : c.toNat = n := by omega
                                                                                                      rw [this]; simp [Nat.mod_eq_of_lt h2])
  unfold kOf at hk
  split at hk
  · rename_i h; obtain rfl := hc 8 h (by decide); subst hk; exact ⟨98, by decide, rfl, rfl⟩
  split at hk
  · rename_i h; obtain rfl := hc 9 h (by decide); subst hk; exact ⟨116, by decide, rfl, rfl⟩
  split at hk
  · rename_i h; obtain rfl := hc 10 h (by decide); subst hk; exact ⟨110, by decide, rfl, rfl⟩
  split at hk
  · rename_i h; obtain rfl := hc 12 h (by decide); subst hk; exact ⟨102, by decide, rfl, rfl⟩
  split at hk
  · rename_i h; obtain rfl := hc 13 h (by decide); subst hk; exact ⟨114, by decide, rfl, rfl⟩
  omega
theorem not_short (x k : Int) (hk : k = kOf x) (h0 : ¬ 0 ≤ k) : x ≠ 8 ∧ x ≠ 9 ∧ x ≠ 10 ∧ x ≠ 12 ∧ x ≠ 13 := by
  unfold kOf at hk
  refine ⟨?_, ?_, ?_, ?_, ?_⟩ <;> rintro rfl <;> simp at hk <;> omega
theorem ne_of_int {c : UInt8} {x : Int} (n : UInt8) (hx : x = (c.toNat : Int)) (h : x ≠ (n.toNat : Int)) : c ≠ n := fun e => h (by rw [hx, e])
theorem esc_rest (c : UInt8) (x k : Int) (hx : x = (c.toNat : Int)) (hk : k = kOf x) (h0 : ¬ 0 ≤ k) (h34 : x ≠ 34) (h92 : x ≠ 92) : esc c = if c < 32 then [92, 117, 48, 48, hexB (c.toNat / 16), hexB (c.toNat % 16)] else [c] := by
  obtain ⟨g8, g9, g10, g12, g13⟩ := not_short x k hk h0
  unfold esc
  rw [if_neg (ne_of_int 34 hx h34), if_neg (ne_of_int 92 hx h92), if_neg (ne_of_int 8 hx g8), if_neg (ne_of_int 9 hx g9), if_neg (ne_of_int 10 hx g10), if_neg (ne_of_int 12 hx g12), if_neg (ne_of_int 13 hx g13)]
theorem esc_low (c : UInt8) (x k : Int) (hx : x = (c.toNat : Int)) (hk : k = kOf x) (h0 : ¬ 0 ≤ k) (h34 : x ≠ 34) (h92 : x ≠ 92) (h32 : x < 32) : ∃ a b, esc c = [92, 117, 48, 48, a, b] ∧ ∀ w, Lib.TabIs Tryd.prog w "math/bits.deBruijn64tab" .u8 tab64 → Calls Tryd.prog 20 #[.int .i64 (x + 256), .int .i64 16] w fun e w' => e = .returned (.string ⟨#[49, a, b]⟩) ∧ Below w.heap.size w w' := by
  refine ⟨_, _, by rw [esc_rest c x k hx hk h0 h34 h92, if_pos (show c < 32 from UInt8.lt_iff_toNat_lt.2 (by show c.toNat < 32; omega))], fun w h => ?_⟩
  have h2 := format16 c.toNat (by omega) w h
  rw [show ((256 + c.toNat : Nat) : Int) = x + 256 by omega] at h2
  exact h2
theorem esc_else (c : UInt8) (x k : Int) (hx : x = (c.toNat : Int)) (hk : k = kOf x) (h0 : ¬ 0 ≤ k) (h34 : x ≠ 34) (h92 : x ≠ 92) (h32 : ¬ x < 32) : esc c = [c] := by
  rw [esc_rest c x k hx hk h0 h34 h92, if_neg (fun h => h32 (by have := UInt8.lt_iff_toNat_lt.1 h; have h3 : c.toNat < 32 := this; omega))]
theorem WriteStr (B b : Nat) (os es : List UInt8) (st : ByteArray) (w : World) (h : Lib.IsBuilder 47 5 B b (Lib.byteCells os) w) (he : st.data.toList = es) (hlen : os.length + es.length ≤ 140737488355328) (hBw : B ≤ w.heap.size) :
    Calls Tryd.prog 19 #[.pointer (some ⟨b, 0, none⟩), .string st] w fun e w' => e = .returned (.tuple #[.int .i64 st.size, .nilIface]) ∧ Lib.IsBuilder 47 5 B b (Lib.byteCells (os ++ es)) w' ∧ Below B w w' := by
  refine (WriteString_calls B b (Lib.byteCells os) st w h (by rw [Lib.byteCells_length, ← st.size_data, ← Array.length_toList, he]; exact hlen) hBw).mono ?_
  rintro e w' ⟨rfl, h1, h2⟩
  rw [Lib.strCells_eq, he, ← Lib.byteCells_append] at h1
  exact ⟨rfl, .inr h1, h2⟩
theorem WriteByt (B b : Nat) (os : List UInt8) (c : UInt8) (x : Int) (w : World) (hx : x = (c.toNat : Int)) (h : Lib.IsBuilder 47 5 B b (Lib.byteCells os) w) (hlen : os.length + 1 ≤ 140737488355328) (hBw : B ≤ w.heap.size) :
    Calls Tryd.prog 17 #[.pointer (some ⟨b, 0, none⟩), .int .u8 x] w fun e w' => e = .returned .nilIface ∧ Lib.IsBuilder 47 5 B b (Lib.byteCells (os ++ [c])) w' ∧ Below B w w' := by
  refine (WriteByte_calls B b (Lib.byteCells os) x w h (by rw [Lib.byteCells_length]; exact hlen) hBw).mono ?_
  rintro e w' ⟨rfl, h1, h2⟩
  rw [hx, show ([Value.int .u8 (c.toNat : Int)] : List Value) = Lib.byteCells [c] from rfl, ← Lib.byteCells_append] at h1
  exact ⟨rfl, .inr h1, h2⟩
theorem bu_below {B b : Nat} {bs : List Value} {w w' : World} (h : Lib.IsBuilder 47 5 B b bs w) (hb : Below w.heap.size w w') : Lib.IsBuilder 47 5 B b bs w' := by
  have hat : ∀ {p : Value}, Lib.BuilderAt 47 5 B b p bs w → Lib.BuilderAt 47 5 B b p bs w' := fun {p} h => by
    have hlt := h.lt
    obtain ⟨hB, v, hbk, hown, hne⟩ := h
    exact ⟨hB, v, (hb.block b hlt).trans hbk, own_move hown (fun k hk => hb.block k (own_lt hown k hk)), hne⟩
  exact h.elim (fun h => .inl (hat h)) (fun h => .inr (hat h))

set_option maxHeartbeats 8000000 in
set_option maxRecDepth 100000 in
theorem quoted_walk (s : ByteArray) (l : List UInt8) (hl : s.data.toList = l) (hn : l.length ≤ 1000000) (w : World) (h : Lib.TabIs Tryd.prog w "math/bits.deBruijn64tab" .u8 tab64) :
    Calls Tryd.prog 12 #[.string s] w fun e w' => e = .returned (.string ⟨(quote l).toArray⟩) ∧ Below w.heap.size w w' := by
  have H := Aside0.mk (Lib.tabBelow_of_tabIs h)
  have hsz : s.size = l.length := by rw [← hl, ← s.size_data]; simp
  have HL := Aside0.mk hl
  obtain ⟨R, hR⟩ : ∃ R, R = quote l := ⟨_, rfl⟩
  have HRq := Aside0.mk hR
  rw [← hR]
  have hbt := bt_at
  clear h hl hR
  go_enter Tryd.func12, Tryd.ntmps12
  go_wp2_with (first | (go_at_call 17; refine (WriteByte_calls w.heap.size w.heap.size [] _ _ (.inl ⟨Nat.le_refl _, .slice none 0 0, by simpa using heap_alloc_new w _, own_nil _ _ _ _, by simp [Value.ownBlock]⟩) (by simp) (by simp)).mono ?_; rintro e w1 ⟨rfl, h1, hb1⟩; have HB1 := Aside0.mk h1; have HBel1 := Aside0.mk ((below_alloc (Below.refl _ _) _).trans hb1); clear h1 hb1))
  go_loopg [4, 5, 6, 10] l.length (fun kq v4 v5 v6 v10 wr => ∃ (i : Nat), v10 = .int .i64 i ∧ Aside0 (kq + i = l.length) ∧ Aside0 (Lib.IsBuilder 47 5 w.heap.size w.heap.size (Lib.byteCells (34 :: (l.take i).flatMap esc)) wr) ∧ Aside0 (Below w.heap.size w wr))
  case atStart => exact ⟨0, rfl, ⟨by omega⟩, ⟨.inr HB1.out⟩, HBel1⟩
  case round =>
    obtain ⟨i, rfl, hK, hBu, hBel⟩ := hrel
    by_cases hlt : i < l.length
    · have hi1 : (i : Int) < (l.length : Int) := by omega
      have hwi : IntKind.i64.wrap ((i : Int) + 1) = (i : Int) + 1 := by rw [IntKind.wrap_i64]; omega
      have hb := at_eq s l HL.out i hlt
      have hx := extract_one s l HL.out i hlt
      have HLen := Aside0.mk (show (34 :: (l.take i).flatMap esc).length ≤ 6 * i + 1 by
        have := flat_length (l.take i)
        rw [List.length_take] at this
        simp only [List.length_cons]; omega)
      have HTake := Aside0.mk (show 34 :: (l.take (i + 1)).flatMap esc = 34 :: (l.take i).flatMap esc ++ esc l[i] by
        rw [List.take_succ_eq_append_getElem hlt, List.flatMap_append]; simp)
      generalize l[i] = c at hb hx HTake
      obtain ⟨os, hos⟩ : ∃ os, os = 34 :: (l.take i).flatMap esc := ⟨_, rfl⟩
      rw [← hos] at hBu HLen HTake
      obtain ⟨x, hxc⟩ : ∃ x : Int, x = (c.toNat : Int) := ⟨_, rfl⟩
      have hb2 : ∀ h : i < s.size, (((s[i]'h).toNat : Nat) : Int) = x := fun h => by rw [hb h, hxc]
      have hx0 : 0 ≤ x ∧ x < 256 := by have := c.toNat_lt; omega
      have HIdx := Aside0.mk (fun w => idx x hx0.1 hx0.2 w)
      have HX := Aside0.mk hxc
      obtain ⟨k, hk⟩ : ∃ k, k = kOf x := ⟨_, rfl⟩
      rw [← hk] at HIdx
      have HK := Aside0.mk hk
      clear hos hb hxc hk
      by_cases h34 : x = 34
      · have q1 : (x == 34) = true := beq_iff_eq.2 h34
        have HE := Aside0.mk (show esc c = [92, c] by
          have : c = 34 := UInt8.toNat_inj.1 (by have := HX.out; rw [h34] at this; exact (by omega : c.toNat = 34))
          subst this; rfl)
        have hsl := slice_one (i := i) (c := c) hx (by omega)
        clear h34 hx
        go_wp2_with (first
          | (go_at_call 18; refine (HIdx.out _).mono ?_; rintro e w2 ⟨rfl, rfl⟩)
          | (go_at_call 19; refine (WriteStr w.heap.size w.heap.size os [92, c] _ _ hBu.out rfl (by have := HLen.out; simp only [List.length_cons, List.length_nil]; omega) hBel.out.size).mono ?_; rintro e w3 ⟨rfl, h3, hb3⟩; have HB3 := Aside0.mk h3; have HBel3 := Aside0.mk (hBel.out.trans hb3); clear h3 hb3))
        go_roundg (gk - 1)
        case measure => have := hK.out; omega
        case rel => exact ⟨i + 1, by go_num, ⟨by have := hK.out; omega⟩, ⟨by rw [HTake.out, HE.out]; exact HB3.out⟩, HBel3⟩
      · have q1 : (x == 34) = false := beq_eq_false_iff_ne.2 h34
        by_cases h92 : x = 92
        · have q2 : (x == 92) = true := beq_iff_eq.2 h92
          have HE := Aside0.mk (show esc c = [92, c] by
            have : c = 92 := UInt8.toNat_inj.1 (by have := HX.out; rw [h92] at this; exact (by omega : c.toNat = 92))
            subst this; rfl)
          have hsl := slice_one (i := i) (c := c) hx (by omega)
          clear h34 h92 hx
          go_wp2_with (first
            | (go_at_call 18; refine (HIdx.out _).mono ?_; rintro e w2 ⟨rfl, rfl⟩)
            | (go_at_call 19; refine (WriteStr w.heap.size w.heap.size os [92, c] _ _ hBu.out rfl (by have := HLen.out; simp only [List.length_cons, List.length_nil]; omega) hBel.out.size).mono ?_; rintro e w3 ⟨rfl, h3, hb3⟩; have HB3 := Aside0.mk h3; have HBel3 := Aside0.mk (hBel.out.trans hb3); clear h3 hb3))
          go_roundg (gk - 1)
          case measure => have := hK.out; omega
          case rel => exact ⟨i + 1, by go_num, ⟨by have := hK.out; omega⟩, ⟨by rw [HTake.out, HE.out]; exact HB3.out⟩, HBel3⟩
        · have q2 : (x == 92) = false := beq_eq_false_iff_ne.2 h92
          by_cases hk0 : 0 ≤ k
          · obtain ⟨eb, hk5, hes, hex⟩ := esc_short c x k HX.out HK.out hk0
            have HE := Aside0.mk hes
            have hwk : IntKind.i64.wrap (k + 1) = k + 1 := by rw [IntKind.wrap_i64]; omega
            have hsl := slice_short k eb hk0 hk5 hex
            clear h34 h92 hx hk5 hes hex
            go_wp2_with (first
              | (go_at_call 18; refine (HIdx.out _).mono ?_; rintro e w2 ⟨rfl, rfl⟩)
              | (go_at_call 19; refine (WriteStr w.heap.size w.heap.size os [92, eb] _ _ hBu.out rfl (by have := HLen.out; simp only [List.length_cons, List.length_nil]; omega) hBel.out.size).mono ?_; rintro e w3 ⟨rfl, h3, hb3⟩; have HB3 := Aside0.mk h3; have HBel3 := Aside0.mk (hBel.out.trans hb3); clear h3 hb3))
            go_roundg (gk - 1)
            case measure => have := hK.out; omega
            case rel => exact ⟨i + 1, by go_num, ⟨by have := hK.out; omega⟩, ⟨by rw [HTake.out, HE.out]; exact HB3.out⟩, HBel3⟩
          · by_cases h32 : x < 32
            · obtain ⟨a, b, hab, HFm⟩ := esc_low c x k HX.out HK.out hk0 h34 h92 h32
              have HE := Aside0.mk hab
              have HFm := Aside0.mk HFm
              have hwx : IntKind.i64.wrap x = x := by rw [IntKind.wrap_i64]; omega
              have hwy : IntKind.i64.wrap (x + 256) = x + 256 := by rw [IntKind.wrap_i64]; omega
              have hsl := slice_two a b
              clear h34 h92 hx hab
              go_wp2_with (first
                | (go_at_call 18; refine (HIdx.out _).mono ?_; rintro e w2 ⟨rfl, rfl⟩)
                | (go_at_call 20; refine (HFm.out _ (H.out _ hBel.out)).mono ?_; rintro e w4 ⟨rfl, hb⟩; have HB4 := Aside0.mk (hBel.out.trans (hb.mono hBel.out.size)); have HBu4 := Aside0.mk (bu_below hBu.out hb); clear hb)
                | (go_at_call 19; refine (WriteStr w.heap.size w.heap.size os [92, 117, 48, 48, a, b] _ _ HBu4.out rfl (by have := HLen.out; simp only [List.length_cons, List.length_nil]; omega) HB4.out.size).mono ?_; rintro e w3 ⟨rfl, h3, hb3⟩; have HB3 := Aside0.mk h3; have HBel3 := Aside0.mk (HB4.out.trans hb3); clear h3 hb3))
              go_roundg (gk - 1)
              case measure => have := hK.out; omega
              case rel => exact ⟨i + 1, by go_num, ⟨by have := hK.out; omega⟩, ⟨by rw [HTake.out, HE.out]; exact HB3.out⟩, HBel3⟩
            · have HE := Aside0.mk (esc_else c x k HX.out HK.out hk0 h34 h92 h32)
              clear h34 h92 hx
              go_wp2_with (first
                | (go_at_call 18; refine (HIdx.out _).mono ?_; rintro e w2 ⟨rfl, rfl⟩)
                | (go_at_call 17; refine (WriteByt w.heap.size w.heap.size os c x _ HX.out hBu.out (by have := HLen.out; omega) hBel.out.size).mono ?_; rintro e w3 ⟨rfl, h3, hb3⟩; have HB3 := Aside0.mk h3; have HBel3 := Aside0.mk (hBel.out.trans hb3); clear h3 hb3))
              go_roundg (gk - 1)
              case measure => have := hK.out; omega
              case rel => exact ⟨i + 1, by go_num, ⟨by have := hK.out; omega⟩, ⟨by rw [HTake.out, HE.out]; exact HB3.out⟩, HBel3⟩
    · have hib : ¬ (i : Int) < (l.length : Int) := by omega
      have hil : l.take i = l := List.take_of_length_le (by omega)
      have HLen := Aside0.mk (flat_length l)
      have hbu := hBu.out
      rw [hil] at hbu
      have HBu := Aside0.mk hbu
      clear hBu hbu hil
      go_wp2_with (first
        | (go_at_call 17; refine (WriteByt w.heap.size w.heap.size _ 34 34 _ rfl HBu.out (by have := HLen.out; simp only [List.length_cons]; omega) hBel.out.size).mono ?_; rintro e w3 ⟨rfl, h3, hb3⟩; have HB3 := Aside0.mk h3; have HBel3 := Aside0.mk (hBel.out.trans hb3); clear h3 hb3)
        | (go_at_call 21; refine (Tryd.Builder_String_any w.heap.size w.heap.size _ _ HB3.out HBel3.out.size).mono ?_; rintro e w4 ⟨rfl, hb4⟩; have HBel4 := Aside0.mk (HBel3.out.trans hb4); clear hb4))
      go_ret
      exact ⟨by rw [HRq.out]; rfl, HBel4.out⟩

end Go.Proofs.YtmhfkbgdkgfafaaDoor.Js
