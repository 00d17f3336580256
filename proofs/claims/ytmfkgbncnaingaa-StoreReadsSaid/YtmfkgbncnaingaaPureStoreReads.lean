/- StoreReads: its walk. -/
import Derived.Test.YtmfkgbncnaingaaGStore
namespace Go.Proofs.Ytmfkgbncnaingaa.Sto
open Go.Proofs.Ytmfkgbncnaingaa.QStore (S81 S83 S114 k81 k83 k114 k83_mk k83_mkM k83_mkF k83_open rd_T83 rd_T81 rd_T114 at_T83 at_T81 at_T114 info83)
open Go.RowKit Go.Proofs.Ytmfkgbncnaingaa.Reg Go.Proofs.Ytmfkgbncnaingaa.QRows Go.Proofs.Ytmfkgbncnaingaa.Rows Go.Proofs.Ytmfkgbncnaingaa.Wal Go.Proofs.YtmfkgbncnaingaaW.PrintWords Go.Proofs.YtmfkgbncnaingaaW.PrintLast Go.Proofs.YtmfkgbncnaingaaW.PrintMore
set_option linter.unusedVariables false
set_option linter.unusedSimpArgs false

attribute [local go_sem high] eqA67
/-! ### the plain law -/
def writer (a : S83) : Bool := a.f0 != 2 && a.f0 != 3
theorem do_reader {a : S83} (h : writer a = false) (Ls : List (List S67)) : (doS a Ls).2 = Ls := by
  unfold writer at h
  by_cases h2 : a.f0 = 2
  · unfold doS; rw [if_neg (by omega), if_pos h2]
  · by_cases h3 : a.f0 = 3
    · unfold doS; rw [if_neg (by omega), if_neg (by omega), if_pos h3]
    · simp [h2, h3] at h
theorem log_writers : ∀ (l : List S83) (Ls : List (List S67)), (playS (l.filter writer) Ls).2 = (playS l Ls).2 := by
  intro l
  induction l with
  | nil => intro Ls; rfl
  | cons a l ih =>
    intro Ls
    by_cases h : writer a = true
    · rw [List.filter_cons_of_pos h]
      simp only [playS]
      exact ih _
    · rw [List.filter_cons_of_neg h]
      simp only [playS]
      rw [ih, do_reader (by simpa using h)]
theorem bytes_list {a b : ByteArray} (h : a.toList = b.toList) : a = b := by
  have := @bytes_eq a b
  rw [beq_iff_eq.2 h] at this
  exact of_decide_eq_true this.symm
/-- What is got by a key. -/
def gotOf (T : List S67) (key : ByteArray) : S81 := if (valueOf T key).2 = true then ⟨0, [⟨key, (valueOf T key).1⟩]⟩ else ⟨8, []⟩
theorem do_get_is (key : ByteArray) (Ls : List (List S67)) : doS ⟨2, [], key, 0⟩ Ls = (gotOf (tableOf Ls) key, Ls) := by
  unfold doS gotOf
  rw [if_neg (show ¬ (2 : Int) = 1 by decide), if_pos (show (2 : Int) = 2 from rfl)]
theorem got_row {T : List S67} {key : ByteArray} (hs : Sorted T) {i : Nat} (hi : i < T.length) (hk : T[i].f0 = key) : gotOf T key = ⟨0, [T[i]]⟩ := by
  unfold gotOf valueOf
  rcases found_row T key hs with ⟨h1, h2, h3⟩ | ⟨_, h2⟩
  · rw [if_pos h1]
    have he : (found T key).1 = i := by
      rcases Nat.lt_trichotomy (found T key).1 i with hlt | he | hgt
      · have := hs.lt hlt hi
        rw [h3, hk, less_irrefl] at this; cases this
      · exact he
      · have := hs.lt hgt h2
        rw [h3, hk, less_irrefl] at this; cases this
    rw [if_pos rfl]
    dsimp only
    rw [he, rd_T67_get T i hi, ← hk]
  · exact absurd (by rw [hk]) (h2 T[i] (List.getElem_mem hi))
theorem got_none {T : List S67} {key : ByteArray} (hs : Sorted T) (h : ∀ i (hi : i < T.length), T[i].f0 ≠ key) : gotOf T key = ⟨8, []⟩ := by
  unfold gotOf valueOf
  rcases found_row T key hs with ⟨h1, h2, h3⟩ | ⟨h1, _⟩
  · exact absurd (bytes_list h3) (h _ h2)
  · rw [if_neg (by rw [h1]; simp)]
theorem heap67 : Kd.Heap k67 := by unfold k67; exact Kd.heap_iso _ (Kd.heap_pair Kd.heap_string Kd.heap_string)
/-- A member of a row that reads. -/
theorem FK83 {w W : World} {x : S83} {A : Option Addr} {c : Nat} (hl : x.f1.length ≤ c) (h : Kd.C k67 w A x.f1.length x.f1) (hb : Below w.heap.size w W) : Kd.FK k83 W (fun k => k < w.heap.size) x [.int .i64 x.f0, .slice A x.f1.length c, .string x.f2, .int .i64 x.f3] :=
  k83_mkF W _ x hl (Kd.F_below (Kd.C_F heap67 h) hb)

set_option maxRecDepth 100000 in
set_option maxHeartbeats 8000000 in
theorem reads_walk (A0 : Option Addr) (c0 : Nat) (l : List S114) (n : Int) (w0 : World) (hr : Kd.C k114 w0 A0 l.length l) (hc : l.length ≤ c0) :
    Calls Try.prog 20 #[.slice A0 l.length c0, .int .i64 n] w0 fun e w' => e = .returned (.bool true) ∧ Below w0.heap.size w0 w' := by
  have hu83 := Try.underlying83
  have hu67 := Try.underlying67
  have hu81 := Try.underlying81
  have hs : Short (actsOf l 40) := Short.acts l 40 (by decide)
  have hl : (actsOf l 40).length ≤ 40 := by unfold actsOf; rw [List.length_map, List.length_take]; show min 40 _ ≤ _; omega
  obtain ⟨xs, has⟩ : ∃ xs, xs = actsOf l 40 := ⟨_, rfl⟩
  rw [← has] at hs hl
  have hsf : Short (xs.filter writer) := hs.sub List.filter_sublist
  have hlf : logOf (xs.filter writer) = logOf xs := log_writers xs []
  obtain ⟨few, hfew⟩ : ∃ few, few = xs.filter writer := ⟨_, rfl⟩
  rw [← hfew] at hsf hlf
  obtain ⟨key, hkey⟩ : ∃ key, key = (rowOf n).f0 := ⟨_, rfl⟩
  have hks : key.size ≤ 140737488351232 := by
    have := (row_small n).1
    rw [← hkey] at this
    unfold keyOk at this
    simp at this
    omega
  obtain ⟨T, hT⟩ : ∃ T, T = tableOf (logOf xs) := ⟨_, rfl⟩
  have hTs : Sorted T := by rw [hT]; exact (LI.log xs).table.sorted
  have hTm : T.length ≤ 1000000 := by rw [hT]; have := (LI.log xs).table.room; omega
  obtain ⟨L1, hL1⟩ : ∃ L, L = xs ++ [(⟨2, [], key, 0⟩ : S83)] := ⟨_, rfl⟩
  have hs1 : Short L1 := by rw [hL1]; exact hs.snoc (by omega) hks
  have hl1 : L1.length = xs.length + 1 := by rw [hL1]; simp
  have hgot0 : rd_T81 (toldOf L1) (xs.length : Int) = gotOf T key := by
    rw [hL1, toldOf_snoc, do_get_is, hT]; unfold rd_T81
    rw [Int.toNat_natCast, List.getD_eq_getElem?_getD, List.getElem?_append_right (by rw [toldOf_length]; exact Nat.le_refl _), toldOf_length, Nat.sub_self]; rfl
  obtain ⟨got, hgot⟩ : ∃ got, got = gotOf T key := ⟨_, rfl⟩
  rw [← hgot] at hgot0
  obtain ⟨a, ha⟩ : ∃ a, a = bytesOfLog (logOf xs) := ⟨_, rfl⟩
  have hb2 : bytesOfLog (logOf few) = a := by rw [hlf, ha]
  have HMa := Aside0.mk (show a.length ≤ 1200 by rw [ha]; exact (LI.log xs).disk)
  have HAs := Aside0.mk has
  have HFew := Aside0.mk hfew
  have HL := Aside0.mk hl
  have HKey := Aside0.mk hkey
  have HL1 := Aside0.mk hL1
  have HLen := Aside0.mk hl1
  have HT := Aside0.mk hT
  have HTs := Aside0.mk hTs
  have HTm := Aside0.mk hTm
  have HG0 := Aside0.mk hgot0
  have HG := Aside0.mk hgot
  have GA := Aside0.mk ha.symm
  have GF := Aside0.mk hb2
  have H1 := Aside0.mk (Acts_calls A0 c0 l 40 w0 hr hc (by decide))
  have HT0 := fun A c w h k => Aside0.mk (stored_ok A c xs w h k hs)
  have HT1 := fun A c w h k => Aside0.mk (stored_ok A c few w h k hsf)
  have HT2 := fun A c w h k => Aside0.mk (stored_ok A c L1 w h k hs1)
  have HAll := fun A c w h k => Aside0.mk (all_ok A c xs w h k hs (by omega))
  clear hr hs hl has hsf hlf hfew hkey hks hT hTs hTm hL1 hs1 hl1 hgot0 hgot ha hb2
  go_enter Try.func20, Try.ntmps20
  go_upto_region 2 with (go_at_call 47; refine H1.out.mono ?_; rintro e w1 ⟨v, rfl, hs, hb⟩; rw [← HAs.out] at hs; obtain ⟨A1, c1, rfl, k1, g1⟩ := Kd.R_reads (Kd.S_R hs); have HC1 := Aside0.mk (And.intro k1 g1); have S0 := Aside0.mk hb; clear hs hb k1 g1)
  clear H1
  go_wp2
  go_loopg [6, 7] (xs.length) (fun kq v6 v7 wr => ∃ (i : Nat), v7 = .int .i64 i ∧ Aside0 (kq + i = xs.length) ∧ Aside0 (Kd.N k83 83 wr w1.heap.size (fun _ => True) v6 ((xs.take i).filter writer)) ∧ Aside0 (Below w1.heap.size w1 wr))
  case atStart => exact ⟨0, rfl, ⟨by omega⟩, ⟨Kd.N_nil _ _ _ _ _⟩, ⟨Below.refl _ _⟩⟩
  case round =>
    obtain ⟨i, rfl, hK, hN, hW⟩ := hrel
    by_cases hlt : i < xs.length
    · have hb1 : (i : Int) < (xs.length : Int) := by omega
      have hb0 : (0 : Int) ≤ (i : Int) := by omega
      have hwi : IntKind.i64.wrap ((i : Int) + 1) = (i : Int) + 1 := by have := HL.out; rw [IntKind.wrap_i64]; omega
      obtain ⟨ad0, B0, d0, e0, -, hy1, -, -, hcx, hCx⟩ := at_T83 HC1.out.2 (i : Int) hb0 hb1
      obtain ⟨ad, B1, d1, rfl, hx0, hx1, hx2, hx3, -, -⟩ := at_T83 (Kd.C_below HC1.out.2 hW.out) (i : Int) hb0 hb1
      obtain rfl : ad = ad0 := by injection e0
      have hsame : B0 = B1 ∧ d0 = d1 := by
        have h9 := cell_below hy1 hW.out
        rw [h9] at hx1
        injection hx1 with hx1
        injection hx1 with e1 _ e2
        exact ⟨e1, e2⟩
      obtain ⟨rfl, rfl⟩ := hsame
      have hxe : rd_T83 xs (i : Int) = xs[i] := by unfold rd_T83; simp [List.getD_eq_getElem?_getD, hlt]
      rw [hxe] at hcx hCx hx0 hx1 hx2 hx3
      rw [Int.toNat_natCast] at hx0 hx1 hx2 hx3
      obtain ⟨x, hx⟩ : ∃ x, x = xs[i] := ⟨_, rfl⟩
      rw [← hx] at hcx hCx hx0 hx1 hx2 hx3
      have HX := Aside0.mk hx
      have HCX := Aside0.mk (And.intro hcx hCx)
      clear hy1 hcx hCx hxe e0 hx
      by_cases hk : writer x = true
      · have h2 : (x.f0 == 2) = false := by unfold writer at hk; simp at hk; exact beq_eq_false_iff_ne.2 hk.1
        have h3 : (x.f0 == 3) = false := by unfold writer at hk; simp at hk; exact beq_eq_false_iff_ne.2 hk.2
        have h2' : (x.f0 != 2) = true := by rw [bne, h2]; rfl
        have h3' : (x.f0 != 3) = true := by rw [bne, h3]; rfl
        have HK2 := Aside0.mk hk
        clear hk
        go_wp2_with ((with_reducible refine gate_builtin (b := .append) (xs := #[.tmp 44, .tmp 49]) rfl ?_); at_builtin; refine Kd.N_append k83 (w0 := w1) w1.heap.size rfl (.tmp 44) (.tmp 49) 75 83 (.agg #[(.int .i64 0), (.slice none 0 0), (.string ⟨#[]⟩), (.int .i64 0)]) 56 rfl Try.underlying75 info83 rfl (by decide) (by omega) _ ((xs.take i).filter writer) x [.int .i64 x.f0, .slice B0 x.f1.length d0, .string x.f2, .int .i64 x.f3] (fun _ => True) (fun k => k < w1.heap.size) rfl (by first | (go_simp; done) | (go_simp; rfl)) (FK83 HCX.out.1 HCX.out.2 hW.out) (fun k hk => ⟨trivial, fun e => by have := Kd.N_base hN.out k e.symm; omega⟩) (fun _ _ => trivial) hN.out hW.out hW.out.size (by have h1 := HL.out; have h2 := List.length_filter_le writer (xs.take i); rw [List.length_take] at h2; omega) ?_; intro v2 w2 ho hb _ _; have HN2 := Aside0.mk ho; have HB2 := Aside0.mk hb; clear ho hb)
        go_roundg (gk - 1)
        case measure => have := hK.out; omega
        case rel => exact ⟨i + 1, by go_num, ⟨by have := hK.out; omega⟩, ⟨by rw [List.take_succ_eq_append_getElem hlt, List.filter_append, ← HX.out, List.filter_cons_of_pos HK2.out]; exact HN2.out⟩, HB2⟩
      · have HK2 := Aside0.mk hk
        have hN2 : Aside0 ((xs.take (i + 1)).filter writer = (xs.take i).filter writer) := ⟨by rw [List.take_succ_eq_append_getElem hlt, List.filter_append, ← HX.out, List.filter_cons_of_neg hk]; simp⟩
        by_cases h2 : x.f0 = 2
        · rw [h2] at hx0
          clear h2 hk
          go_wp2
          go_roundg (gk - 1)
          case measure => have := hK.out; omega
          case rel => exact ⟨i + 1, by go_num, ⟨by have := hK.out; omega⟩, ⟨by rw [hN2.out]; exact hN.out⟩, hW⟩
        · have h3 : x.f0 = 3 := by
            by_cases h3 : x.f0 = 3
            · exact h3
            · unfold writer at hk; simp [h2, h3] at hk
          rw [h3] at hx0
          clear h2 h3 hk
          go_wp2
          go_roundg (gk - 1)
          case measure => have := hK.out; omega
          case rel => exact ⟨i + 1, by go_num, ⟨by have := hK.out; omega⟩, ⟨by rw [hN2.out]; exact hN.out⟩, hW⟩
    · have hE : Aside0 ((xs.take i).filter writer = few) := ⟨by rw [List.take_of_length_le (by omega)]; exact HFew.out.symm⟩
      have hb1 : ¬ (i : Int) < (xs.length : Int) := by omega
      have hb2 : decide ((i : Int) < (xs.length : Int)) = false := decide_eq_false hb1
      have hN2 := hN.out
      rw [hE.out] at hN2
      clear hN
      obtain ⟨A6, c6, rfl⟩ := Kd.N_slice hN2
      have HC6 := Aside0.mk (Kd.N_reads' hN2).2
      have HC5 := Aside0.mk (Kd.C_below HC1.out.2 hW.out)
      have HBr := Aside0.mk (S0.out.trans (hW.out.mono S0.out.size))
      clear hlt hN2 hE
      go_upto_region 9 with (go_at_call 48; refine (HT0 A1 c1 wr HC5.out HC1.out.1).out.mono ?_; rintro e w8 ⟨At8, ct8, Ab8, cb8, rfl, k6, g6, k7, g7, hb⟩; rw [GA.out] at k7 g7 ⊢; have E8 := Aside0.mk (And.intro k7 g7); have S8 := Aside0.mk hb; clear hb k6 g6 k7 g7)
      clear HT0
      go_upto_region 10 with (go_at_call 48; refine (HT1 A6 c6 w8 (Kd.C_below HC6.out.2 S8.out) HC6.out.1).out.mono ?_; rintro e w9 ⟨At9, ct9, Ab9, cb9, rfl, k6, g6, k7, g7, hb⟩; rw [GF.out] at k7 g7 ⊢; have E9 := Aside0.mk (And.intro k7 g7); have S9 := Aside0.mk hb; clear hb k6 g6 k7 g7)
      clear HT1
      have HCa := Aside0.mk (Kd.C_below HC5.out (S8.out.trans (S9.out.mono S8.out.size)))
      go_upto_region 11 with (go_at_call 49; refine (HAll A1 c1 w9 HCa.out HC1.out.1).out.mono ?_; rintro e w10 ⟨A10, c10, rfl, k2, g2, hb⟩; rw [← HT.out] at k2 g2 ⊢; have HC10 := Aside0.mk (And.intro k2 g2); have S10 := Aside0.mk hb; have HCb := Aside0.mk (Kd.C_below HCa.out hb); clear hb k2 g2)
      clear HAll
      go_upto_region 12 with (go_at_call 39; refine (Changes_calls (some ⟨w10.heap.size, 0, none⟩) 1 [n] 1 _ (one_int (new_block _ _)) (Nat.le_refl _) (by decide)).mono ?_; rintro e w11 ⟨v6, rfl, hr, hb⟩; obtain ⟨A11, c11, rfl, _, hC6⟩ := Kd.R_reads hr; obtain ⟨ad6, rfl, hk6, -⟩ := at_T67 hC6 (0 : Int) (by omega) (by simp [changesOf]); obtain ⟨g6, rfl⟩ := Kd.R_head hr; have S11 := Aside0.mk ((below_alloc (Below.refl w10.heap.size w10) _).trans (hb.mono (by simp))); have hk7 : w11.cell? ⟨g6, 0, none⟩ = some (.string key) := (by rw [HKey.out]; exact hk6); have hl6 : (0 : Int) < ((changesOf [n] 1).length : Int) := (by simp [changesOf]); clear hr hb hC6 hk6)
      clear hk7 hl6
      have HF := Aside0.mk (Kd.C_F heap83 (Kd.C_below HCb.out S11.out))
      go_upto_region 13 with (first
        | ((with_reducible refine gate_builtin (b := .append) (xs := #[.const _, .tmp 75]) rfl ?_); at_builtin; refine Kd.N_append_rows k83 (w0 := w11) w11.heap.size rfl (.const (.slice none 0 0)) (.tmp 75) 75 83 (.agg #[(.int .i64 0), (.slice none 0 0), (.string ⟨#[]⟩), (.int .i64 0)]) 56 rfl Try.underlying75 info83 rfl (by decide) (by omega) (.slice none 0 0) ([] : List (S83)) xs _ _ _ (fun k_ => True) (fun k_ => k_ < w11.heap.size) rfl rfl (Kd.N_nil _ _ _ _ _) HF.out (fun k_ hk => ⟨trivial, by simp [Value.ownBlock]⟩) (fun _ _ => trivial) (Below.refl _ _) (Nat.le_refl _) (by have := HL.out; simp; omega) ?_; intro v1 w12 ho hb _ _; obtain ⟨A12, c12, rfl⟩ := Kd.N_slice ho; have HN := Aside0.mk ho; have HB12 := Aside0.mk hb; clear ho hb)
        | ((with_reducible refine gate_builtin (b := .append) (xs := #[.tmp 76, .tmp 79]) rfl ?_); at_builtin; refine Kd.N_append k83 (w0 := w11) w11.heap.size rfl (.tmp 76) (.tmp 79) 75 83 (.agg #[(.int .i64 0), (.slice none 0 0), (.string ⟨#[]⟩), (.int .i64 0)]) 56 rfl Try.underlying75 info83 rfl (by decide) (by omega) _ xs (⟨2, [], key, 0⟩ : S83) [.int .i64 2, .slice none 0 0, .string key, .int .i64 0] (fun _ => True) (fun _ => False) rfl (by first | (go_simp; done) | (go_simp; rfl)) (k83_mkF _ _ (⟨2, [], key, 0⟩ : S83) (Nat.le_refl _) (Kd.F_nil _ _ _)) (fun _ h => h.elim) (fun _ _ => trivial) HN.out HB12.out HB12.out.size (by have := HL.out; omega) ?_; intro v2 w13 ho hb _ _; rw [← HL1.out] at ho; obtain ⟨A13, c13, rfl⟩ := Kd.N_slice ho; have HN2 := Aside0.mk ho; have HB13 := Aside0.mk hb; clear ho hb)
        | (go_at_call 48; refine (HT2 A13 c13 w13 (Kd.N_reads' HN2.out).2.2 (Kd.N_reads' HN2.out).2.1).out.mono ?_; rintro e w14 ⟨At14, ct14, Ab14, cb14, rfl, k6, g6, k7, g7, hb⟩; have HCt := Aside0.mk g6; have S12 := Aside0.mk (HB13.out.trans (hb.mono HB13.out.size)); clear hb k6 g6 k7 g7))
      clear HF HN HB12 HN2 HB13 HT2
      have b11 := S11.out.trans (S12.out.mono S11.out.size)
      have b10 := S10.out.trans (b11.mono S10.out.size)
      have b9 := S9.out.trans (b10.mono S9.out.size)
      have D8 := Aside0.mk (And.intro E8.out.1 (Kd.C_below E8.out.2 b9))
      have D9 := Aside0.mk (And.intro E9.out.1 (Kd.C_below E9.out.2 b10))
      have D10 := Aside0.mk (And.intro HC10.out.1 (Kd.C_below HC10.out.2 b11))
      have HEnd := Aside0.mk (HBr.out.trans ((S8.out.trans (b9.mono S8.out.size)).mono HBr.out.size))
      clear b9 b10 b11 S8 S9 S10 S11 S12 E8 E9 HC10 HCa HCb HC5 HC6 HBr
      go_upto_region 15 with (go_at_call 30; refine (same_bytes Ab8 Ab9 cb8 cb9 a w14 D8.out.2 D8.out.1 D9.out.2 D9.out.1 (by have := HMa.out; omega)).mono ?_; rintro e w15 ⟨rfl, hb⟩; have S14 := Aside0.mk hb; clear hb)
      have HLe := HLen.out
      have hwL : IntKind.i64.wrap ((L1.length : Int) - 1) = (xs.length : Int) := by have := HL.out; rw [IntKind.wrap_i64]; omega
      have hl0 : (0 : Int) ≤ (xs.length : Int) := by omega
      have hl2 : (xs.length : Int) < (L1.length : Int) := by omega
      obtain ⟨ad, A16, c16, rfl, hz0, hz1, hzc, hzC⟩ := at_T81 (Kd.C_below HCt.out S14.out) (xs.length : Int) hl0 (by rw [toldOf_length]; exact hl2)
      rw [HG0.out, Int.toNat_natCast] at hz0 hz1
      rw [HG0.out] at hzc hzC
      have HCg := Aside0.mk (And.intro hzc hzC)
      clear HLe hzc hzC
      go_upto_region 16 with (fail)
      obtain ⟨w16, hw16⟩ : ∃ w, w = w15.alloc (.cells #[.int .i64 got.f0, .slice A16 got.f1.length c16] 81) := ⟨_, rfl⟩
      obtain ⟨g, hg⟩ : ∃ g, g = w15.heap.size := ⟨_, rfl⟩
      have hbx : w16.heap[g]? = some (.cells #[.int .i64 got.f0, .slice A16 got.f1.length c16] 81 (0, 0)) := by rw [hw16, hg]; exact new_block _ _
      have hb16 : Below w15.heap.size w15 w16 := by rw [hw16]; exact below_alloc (Below.refl _ _) _
      rw [← hw16, ← hg]
      have HBx := Aside0.mk hbx
      have b16 := S14.out.trans (hb16.mono S14.out.size)
      have F10 := Aside0.mk (And.intro D10.out.1 (Kd.C_below D10.out.2 b16))
      have FG := Aside0.mk (And.intro HCg.out.1 (Kd.C_below HCg.out.2 hb16))
      have HEnd2 := Aside0.mk (HEnd.out.trans (b16.mono HEnd.out.size))
      clear hw16 hg hbx hb16 b16 D8 D9 D10 HCg HEnd S14 hz0 hz1 hwL hl0 hl2 HCt
      go_wp2
      go_loopg [21] (T.length) (fun kq v21 wr2 => ∃ (j : Nat), v21 = .int .i64 j ∧ w16 = wr2 ∧ Aside0 (kq + j = T.length) ∧ Aside0 (∀ i (hi : i < T.length), i < j → T[i].f0 ≠ key))
      case atStart => exact ⟨0, rfl, rfl, ⟨by omega⟩, ⟨fun i _ h => by omega⟩⟩
      case round =>
        obtain ⟨j, rfl, rfl, hK2, hNo⟩ := hrel
        have hg0 : w16.cell? ⟨g, 0, none⟩ = some (.int .i64 got.f0) := (blk_cell HBx.out 0).trans rfl
        have hg1 : w16.cell? ⟨g, 1, none⟩ = some (.slice A16 got.f1.length c16) := (blk_cell HBx.out 1).trans rfl
        by_cases hlt : j < T.length
        · have hb1 : (j : Int) < (T.length : Int) := by omega
          have hb0 : (0 : Int) ≤ (j : Int) := by omega
          have hwj : IntKind.i64.wrap ((j : Int) + 1) = (j : Int) + 1 := by have := HTm.out; rw [IntKind.wrap_i64]; omega
          obtain ⟨adT, rfl, hy0, hy1⟩ := at_T67 F10.out.2 (j : Int) hb0 hb1
          rw [rd_T67_get T j hlt, Int.toNat_natCast] at hy0 hy1
          obtain ⟨y, hy⟩ : ∃ y, y = T[j] := ⟨_, rfl⟩
          rw [← hy] at hy0 hy1
          have HY := Aside0.mk hy
          clear hy
          by_cases hk : y.f0 = key
          · have hgr := got_row HTs.out hlt (by rw [← HY.out, hk])
            rw [← HG.out, ← HY.out] at hgr
            have hkk : (y.f0.toList == key.toList) = true := by rw [hk]; simp
            obtain ⟨adG, rfl, hq0, hq1⟩ := at_T67 FG.out.2 (0 : Int) (by omega) (by rw [hgr]; show (0 : Int) < ((1 : Nat) : Int); omega)
            rw [hgr] at hq0 hq1 hg0 hg1
            have hq0' : w16.cell? adG = some (.string y.f0) := by have h9 := hq0; cases adG; exact h9
            have hq1' : w16.cell? ⟨adG.block, adG.off + 1, none⟩ = some (.string y.f1) := by have h9 := hq1; cases adG; exact h9
            clear hgr hq0 hq1 hk
            have h01 : (0 : Int) < ((1 : Nat) : Int) := by omega
            go_upto_region 20 with (fail)
            go_quiet (fail)
            go_wp2
            go_ret
            exact ⟨rfl, pw_below_drewN HEnd2.out _⟩
          · have hkk : (y.f0.toList == key.toList) = false := by rw [bytes_eq]; exact decide_eq_false hk
            have HK := Aside0.mk hk
            clear hk
            go_wp2
            go_roundg (gk - 1)
            case measure => have := hK2.out; omega
            case rel => exact ⟨j + 1, by go_num, rfl, ⟨by have := hK2.out; omega⟩, ⟨fun i hi h => by
              rcases Nat.lt_succ_iff_lt_or_eq.1 h with h | h
              · exact hNo.out i hi h
              · subst h; rw [← HY.out]; exact HK.out⟩⟩
        · have hb1 : ¬ (j : Int) < (T.length : Int) := by omega
          have hb2 : decide ((j : Int) < (T.length : Int)) = false := decide_eq_false hb1
          have hgn := got_none HTs.out (fun i hi => hNo.out i hi (by omega))
          rw [← HG.out] at hgn
          rw [hgn] at hg0 hg1
          clear hgn hlt
          go_wp2
          go_ret
          exact ⟨rfl, HEnd2.out⟩
end Go.Proofs.Ytmfkgbncnaingaa.Sto
