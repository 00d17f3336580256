/- JsonStrings: its walk straight to its answer, true. -/
import Derived.Test.YtmhfkbgdkgfafaaGreatDoorGJc
import Derived.OpenShut
namespace Go.Proofs.YtmhfkbgdkgfafaaGreatDoor.Js
open Go.RowKit Go.Proofs.YtmhfkbgdkgfafaaGreatDoor.QJson Go.Proofs.YtmhfkbgdkgfafaaGreatDoorW.PrintWords Go.Proofs.YtmhfkbgdkgfafaaGreatDoorW.PrintLast Go.Proofs.YtmhfkbgdkgfafaaGreatDoorW.PrintMore
set_option linter.unusedVariables false
set_option linter.unusedSimpArgs false

/-! ### the plain law -/
theorem esc_bytes : ∀ c : Fin 256, (esc (UInt8.ofNat c.val)).length ≤ 6 ∧ ∀ b ∈ esc (UInt8.ofNat c.val), 32 ≤ b.toNat := by decide +kernel
theorem esc_byte (c : UInt8) : (esc c).length ≤ 6 ∧ ∀ b ∈ esc c, 32 ≤ b.toNat := by
  have h := esc_bytes ⟨c.toNat, c.toNat_lt⟩
  simp only [UInt8.ofNat_toNat] at h
  exact h
theorem flat_bytes (l : List UInt8) : (l.flatMap esc).length ≤ 6 * l.length ∧ ∀ b ∈ l.flatMap esc, 32 ≤ b.toNat := by
  induction l with
  | nil => exact ⟨Nat.le_refl _, fun b hb => by cases hb⟩
  | cons c l ih =>
    rw [List.flatMap_cons]
    refine ⟨by rw [List.length_append, List.length_cons]; have := (esc_byte c).1; omega, fun b hb => ?_⟩
    rcases List.mem_append.1 hb with h | h
    · exact (esc_byte c).2 b h
    · exact ih.2 b h
theorem quote_bytes (l : List UInt8) : (quote l).length ≤ 6 * l.length + 2 ∧ l.length + 2 ≤ (quote l).length ∧ ∀ b ∈ quote l, 32 ≤ b.toNat := by
  have h := quote_app l []
  rw [List.append_nil] at h
  have h1 := flat_bytes l
  have h2 := flat_le l
  rw [h]
  refine ⟨by simp only [List.length_cons, List.length_append, List.length_nil]; omega, by simp only [List.length_cons, List.length_append, List.length_nil]; omega, fun b hb => ?_⟩
  rcases List.mem_cons.1 hb with rfl | hb
  · decide
  · rcases List.mem_append.1 hb with hb | hb
    · exact h1.2 b hb
    · rw [List.mem_singleton.1 hb]; decide
theorem str_wf (u : ByteArray) : WF 1 ⟨5, 0, u, [], []⟩ := .mk (by show (1 : Int) ≤ 5; decide) (by show (5 : Int) ≤ 7; decide) (show plainB 5 0 u 0 0 = true from by unfold plainB; rfl) (fun h => by cases h) (by show (-9007199254740992 : Int) < 0; decide) (by show (0 : Int) < 9007199254740992; decide) (fun i h => absurd h (Nat.not_lt_zero _)) (fun p hp => by cases hp)
theorem str_vt (u : ByteArray) : vt ⟨5, 0, u, [], []⟩ = quote u.data.toList := by
  rw [vt, if_neg (by decide), if_neg (by decide), if_neg (by decide), if_pos rfl]
theorem str_cnt (u : ByteArray) : cnt ⟨5, 0, u, [], []⟩ = 1 := by rw [cnt_eq]; rfl
theorem str_big (u : ByteArray) (h : u.data.toList.length ≤ 90) : big ⟨5, 0, u, [], []⟩ = false := by
  have := (quote_bytes u.data.toList).1
  unfold big
  rw [str_cnt, str_vt]
  simp; omega
theorem str_text (u : ByteArray) (h : u.data.toList.length ≤ 90) (w : World) (hT : Tabs w) :
    Calls Tryz.prog 11 #[.agg #[.int .i64 5, .int .i64 0, .string u, .slice none 0 0, .slice none 0 0]] w fun e w' => e = .returned (.tuple #[.string (str (quote u.data.toList)), .int .i64 0]) ∧ Below w.heap.size w w' := by
  have hl := (quote_bytes u.data.toList).1
  have h' := text_calls 1 ⟨5, 0, u, [], []⟩ (str_wf u) (by decide) (by rw [str_cnt]; decide) (by rw [str_vt]; omega) none 0 none 0 w (Kd.C_nil _ _) (Nat.le_refl _) (Kd.C_nil _ _) (Nat.le_refl _) hT
  unfold chk at h'
  rw [str_big u h, str_vt] at h'
  exact h'
theorem str_chk (u : ByteArray) (h : u.data.toList.length ≤ 90) : ChkOk ⟨5, 0, u, [], []⟩ 0 := by
  intro A3 c3 A4 c4 w h3 l3 h4 l4 hT
  have hl := (quote_bytes u.data.toList).1
  have h' := check_calls 1 ⟨5, 0, u, [], []⟩ (str_wf u) (by decide) (by rw [str_cnt]; decide) (by rw [str_vt]; omega) A3 c3 A4 c4 w h3 l3 h4 l4 hT
  unfold chk at h'
  rw [str_big u h] at h'
  exact h'
theorem parse_quote (u : ByteArray) : parseP (quote u.data.toList) = some ⟨5, 0, u, [], []⟩ := by
  unfold parseP
  have hv := valueP_quote ((quote u.data.toList).length + 7) u.data.toList []
  rw [List.append_nil, str_back] at hv
  have hsk : sk (quote u.data.toList) = quote u.data.toList := by
    have h := quote_app u.data.toList []
    rw [List.append_nil] at h
    rw [h]
    exact sk_cons (by decide)
  rw [hsk, hv]
  dsimp only
  rw [sk_nil, if_pos rfl]
theorem str_is (u : ByteArray) (h : u.data.toList.length ≤ 90) : ParseIs (quote u.data.toList) ⟨5, 0, u, [], []⟩ 0 := by
  have hl := (quote_bytes u.data.toList).1
  exact .inr (.inr ⟨by omega, _, parse_quote u, str_chk u h, by rw [if_pos rfl]⟩)

/-! ### the walk -/
theorem glob_at' {w : World} (h : Glob w.heap.size w) : ∀ w', Below w.heap.size w w' → Glob w'.heap.size w' := fun w' hb =>
  ⟨Nat.le_refl _, fun w2 h2 => h.errs w2 (hb.trans (h2.mono hb.size)), fun w2 h2 => h.words w2 (hb.trans (h2.mono hb.size))⟩

set_option maxHeartbeats 8000000 in
set_option maxRecDepth 100000 in
theorem strings_walk (s u : ByteArray) (k : Nat) (hk : k = min s.size 90) (hu : u = s.extract 0 k) (w : World) (hE : Glob w.heap.size w) :
    Calls Tryz.prog 6 #[.string s] w fun e w' => e = .returned (.bool true) ∧ Below w.heap.size w w' := by
  have hlen : u.data.toList.length ≤ 90 := by
    rw [hu, ← Lib.size_eq, ByteArray.size_extract]; omega
  have hmin : min (s.size : Int) 90 = (k : Int) := by rw [hk]; omega
  have hle : k ≤ s.size := by omega
  have hsl : ∀ W, (Instr.slice 9 (.string s) none (some (.int .i64 (k : Int))) none).run Tryz.prog W = .ok (.string u) W := fun W => by
    rw [run_slice_string_h W 9 s Tryz.underlying9 .i64 (k : Int) (by omega) (by omega), hu]
    rfl
  have HE := Aside0.mk hE
  have HTx := Aside0.mk (str_text u hlen w hE.now.tabs)
  have HPa0 := Aside0.mk (fun w1 (hb : Below w.heap.size w w1) => parse_calls any_ok (quote u.data.toList) (by have := (quote_bytes u.data.toList).1; omega) _ _ (str_is u hlen) w1 (glob_at' hE w1 hb))
  have HQ := Aside0.mk (quote_bytes u.data.toList)
  obtain ⟨q, hq⟩ : ∃ q, q = str (quote u.data.toList) := ⟨_, rfl⟩
  obtain ⟨u2, hu2⟩ : ∃ x, x = u := ⟨_, rfl⟩
  rw [← hq] at HTx HPa0
  have hqs : u.size + 2 ≤ q.size := by rw [hq, str_size, Lib.size_eq]; exact HQ.out.2.1
  have hus : u.size ≤ 90 := by rw [Lib.size_eq]; exact hlen
  have HB := Aside0.mk (show ∀ (i : Nat) (x : UInt8), q.data.toList[i]? = some x → 32 ≤ x.toNat from fun i x h => by
    rw [hq, str_list] at h; exact HQ.out.2.2 x (List.mem_of_getElem? h))
  have HPa := Aside0.mk (show ∀ w1, Below w.heap.size w w1 → Calls Tryz.prog 13 #[.string q] w1 fun e w' => ParseOut w1 ⟨5, 0, u2, [], []⟩ 0 e w' from by rw [hu2]; exact HPa0.out)
  have he : (u2.toList == u.toList) = true := by rw [hu2]; exact beq_iff_eq.2 rfl
  have hwk : IntKind.i64.wrap ((u.size : Int) + 2) = (u.size : Int) + 2 := wrap_small _ (by omega) (by omega)
  have hlt : ((q.size : Int) < (u.size : Int) + 2) = False := by simp; omega
  have hsz := Aside0.mk (show q.size ≤ 600 by rw [hq, str_size]; have := HQ.out.1; omega)
  clear hk hu hE hlen HPa0 HQ hq hu2 hqs hus hle
  go_enter Tryz.func6, Tryz.ntmps6
  go_upto_region 3 with (first
    | (go_at_call 11; refine HTx.out.mono ?_; rintro e w1 ⟨rfl, hb⟩; have HB1 := Aside0.mk hb; clear hb))
  go_upto_region 4 with (first
    | (go_at_call 13; refine (HPa.out _ HB1.out).mono ?_; rintro e w2 ⟨v3, v4, rfl, h3, h4, hb⟩; obtain ⟨A3, c3, rfl⟩ := Kd.R_slice h3; obtain ⟨A4, c4, rfl⟩ := Kd.R_slice h4; have HB2 := Aside0.mk hb; clear h3 h4 hb))
  obtain ⟨g, hg⟩ : ∃ q, q = w2.heap.size := ⟨_, rfl⟩
  have HBl := Aside0.mk (heap_alloc_new w2 (.cells #[.int .i64 5, .int .i64 0, .string u2, .slice A3 0 c3, .slice A4 0 c4] 26))
  have HB3 := Aside0.mk (show Below w2.heap.size w2 (w2.alloc (.cells #[.int .i64 5, .int .i64 0, .string u2, .slice A3 0 c3, .slice A4 0 c4] 26)) from below_alloc (Below.refl _ _) _)
  generalize w2.alloc (.cells #[.int .i64 5, .int .i64 0, .string u2, .slice A3 0 c3, .slice A4 0 c4] 26) = w3 at HBl HB3 ⊢
  rw [← hg] at HBl ⊢
  clear hg
  have HBw3 := Aside0.mk (HB1.out.trans ((HB2.out.trans (HB3.out.mono HB2.out.size)).mono HB1.out.size))
  have k0 := blk_cell HBl.out 0
  have k1 := blk_cell HBl.out 1
  have k2 := blk_cell HBl.out 2
  dsimp at k0 k1 k2
  clear HTx HPa HBl HB1 HB2 HB3 HE
  go_wp2_with (fail)
  go_loopg [8] q.size (fun gf s8 wx => ∃ i : Nat, i + gf = q.size ∧ s8 = .int .i64 (i : Int) ∧ wx = w3)
  case atStart => exact ⟨0, by omega, rfl, rfl⟩
  case round =>
    obtain ⟨i, hig, rfl, hw3⟩ := hrel
    rw [hw3]
    cases gk with
    | zero =>
      obtain rfl : i = q.size := by omega
      have hiz : ((q.size : Int) < (q.size : Int)) = False := by simp
      go_wp2
      go_ret
      exact ⟨rfl, HBw3.out⟩
    | succ g' =>
      have hi : i < q.size := by omega
      have hiz : ((i : Int) < (q.size : Int)) = True := by simp; omega
      obtain ⟨x, hx⟩ : ∃ x : UInt8, q[i]'hi = x := ⟨_, rfl⟩
      have hxl : q.data.toList[i]? = some x := by rw [← hx]; exact Lib.data_getElem? q i hi
      have hwi : IntKind.i64.wrap ((i : Int) + 1) = (i : Int) + 1 := wrap_small _ (by omega) (by have := hsz.out; omega)
      have hx32 : ((x.toNat : Int) < 32) = False := by have := HB.out i x hxl; simp; omega
      have ix : ∀ W, (Instr.index 9 (.string q) (.int .i64 (i : Int))).run Tryz.prog W = .ok (.int .u8 (x.toNat : Int)) W := fun W => by
        rw [run_index_string W 9 q .i64 i Tryz.underlying9, dif_pos (by omega)]; rw [← hx]; rfl
      clear hx hxl
      go_wp2
      go_roundg g'
      case measure => omega
      case rel => exact ⟨i + 1, by omega, by first | rfl | (push_cast; rfl) | (simp; done), rfl⟩

theorem strings_calls (s : ByteArray) (w : World) (hs : s.size ≤ maxLen) (hE : Glob w.heap.size w) :
    Calls Tryz.prog 6 #[.string s] w fun e w' => e = .returned (.bool true) ∧ Below w.heap.size w w' :=
  strings_walk s _ _ rfl rfl w hE
end Go.Proofs.YtmhfkbgdkgfafaaGreatDoor.Js
