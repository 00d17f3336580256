/- StoreRefused: its walk. -/
import Derived.Test.YtmfkgbncnaingaaColl
namespace Go.Proofs.Ytmfkgbncnaingaa.Sto
open Go.Proofs.Ytmfkgbncnaingaa.QStore (S81 S83 S114 k81 k83 k114 k83_mk k83_mkM k83_mkF k83_open rd_T83 rd_T81 rd_T114 at_T83 at_T81 at_T114 info83 info81)
open Go.RowKit Go.Proofs.Ytmfkgbncnaingaa.Reg Go.Proofs.Ytmfkgbncnaingaa.QRows Go.Proofs.Ytmfkgbncnaingaa.Rows Go.Proofs.Ytmfkgbncnaingaa.Wal Go.Proofs.YtmfkgbncnaingaaW.PrintWords Go.Proofs.YtmfkgbncnaingaaW.PrintLast Go.Proofs.YtmfkgbncnaingaaW.PrintMore
set_option linter.unusedVariables false
set_option linter.unusedSimpArgs false

/-! ### the plain law -/
def okOf (q : S83 × S81) : Bool := q.2.f0 == 0
theorem do_refused (a : S83) (Ls : List (List S67)) (h : (doS a Ls).1.f0 ≠ 0) : (doS a Ls).2 = Ls := by
  unfold doS at h ⊢
  by_cases h1 : a.f0 = 1
  · rw [if_pos h1] at h ⊢
    dsimp only at h ⊢
    rw [if_neg h]
  · rw [if_neg h1] at h ⊢
    by_cases h2 : a.f0 = 2
    · rw [if_pos h2]
    · rw [if_neg h2] at h ⊢
      by_cases h3 : a.f0 = 3
      · rw [if_pos h3]
      · rw [if_neg h3] at h ⊢
        by_cases h4 : a.f0 = 4
        · rw [if_pos h4] at h; exact absurd rfl h
        · rw [if_neg h4] at h ⊢
          by_cases h5 : a.f0 = 5
          · rw [if_pos h5] at h ⊢
            dsimp only at h ⊢
            unfold crashS at h ⊢
            split at h
            · rename_i hn; rw [if_pos hn]
            · rename_i hn
              rw [if_neg hn]
              split at h
              · rename_i hf; rw [if_pos hf]
              · exact absurd rfl h
          · rw [if_neg h5]
theorem play_kept : ∀ (l : List S83) (Ls : List (List S67)), playS (((l.zip (playS l Ls).1).filter okOf).map (·.1)) Ls = (((l.zip (playS l Ls).1).filter okOf).map (·.2), (playS l Ls).2) := by
  intro l
  induction l with
  | nil => intro Ls; rfl
  | cons a l ih =>
    intro Ls
    simp only [playS, List.zip_cons_cons]
    by_cases h : (doS a Ls).1.f0 = 0
    · rw [List.filter_cons_of_pos (by unfold okOf; simp [h])]
      simp only [List.map_cons, playS, ih]
    · rw [List.filter_cons_of_neg (by unfold okOf; simp [h])]
      have h2 := do_refused a Ls h
      rw [h2]
      exact ih Ls
theorem told_short (a : S83) {Ls : List (List S67)} (h : LI Ls) : (doS a Ls).1.f1.length ≤ 1000 := by
  unfold doS
  split
  · exact Nat.zero_le _
  · split
    · split
      · exact (show 1 ≤ 1000 by decide)
      · exact Nat.zero_le _
    · split
      · dsimp only
        unfold beginOf
        have := List.length_filter_le (inB a.f2.toList ((NextMath.nextS a.f2.data.toList).getD [])) (tableOf Ls)
        have := h.table.room
        omega
      · split
        · exact Nat.zero_le _
        · split <;> exact Nat.zero_le _
theorem play_short : ∀ (l : List S83) {Ls : List (List S67)}, LI Ls → ∀ t ∈ (playS l Ls).1, t.f1.length ≤ 1000 := by
  intro l
  induction l with
  | nil => intro Ls _ t ht; cases ht
  | cons a l ih =>
    intro Ls h t ht
    simp only [playS] at ht
    rcases List.mem_cons.1 ht with ht | ht
    · rw [ht]; exact told_short a h
    · exact ih (h.doS a) t ht

set_option maxRecDepth 100000 in
set_option maxHeartbeats 8000000 in
theorem refused_walk (A0 : Option Addr) (c0 : Nat) (l : List S114) (w0 : World) (hr : Kd.C k114 w0 A0 l.length l) (hc : l.length ≤ c0) :
    Calls Try.prog 19 #[.slice A0 l.length c0] w0 fun e w' => e = .returned (.bool true) ∧ Below w0.heap.size w0 w' := by
  have hu83 := Try.underlying83
  have hu67 := Try.underlying67
  have hu81 := Try.underlying81
  have hs : Short (actsOf l 60) := Short.acts l 60 (by decide)
  have hl : (actsOf l 60).length ≤ 60 := by unfold actsOf; rw [List.length_map, List.length_take]; show min 60 _ ≤ _; omega
  obtain ⟨xs, has⟩ : ∃ xs, xs = actsOf l 60 := ⟨_, rfl⟩
  rw [← has] at hs hl
  have hkp := play_kept xs []
  obtain ⟨z, hz⟩ : ∃ z, z = xs.zip (toldOf xs) := ⟨_, rfl⟩
  have hzl : z.length = xs.length := by rw [hz, List.length_zip, toldOf_length, Nat.min_self]
  obtain ⟨few, hfew⟩ : ∃ few, few = (z.filter okOf).map (·.1) := ⟨_, rfl⟩
  obtain ⟨want, hwant⟩ : ∃ want, want = (z.filter okOf).map (·.2) := ⟨_, rfl⟩
  have hkp2 : playS few [] = (want, logOf xs) := by rw [hfew, hwant, hz]; exact hkp
  have htf : toldOf few = want := by unfold toldOf; rw [hkp2]
  have hlf : logOf few = logOf xs := by show (playS few []).2 = _; rw [hkp2]
  have hsf : Short few := by
    refine hs.sub ?_
    rw [hfew]
    have h1 := (List.filter_sublist (l := z) (p := okOf)).map (·.1)
    have h2 : z.map (·.1) = xs := by rw [hz]; exact List.map_fst_zip (by rw [toldOf_length]; exact Nat.le_refl _)
    rw [h2] at h1
    exact h1
  have hsh : ∀ t ∈ want, t.f1.length ≤ 1000 := by rw [← htf]; exact play_short few LI.nil
  have hwl : want.length = few.length := by rw [hwant, hfew, List.length_map, List.length_map]
  obtain ⟨ts, hts⟩ : ∃ ts, ts = toldOf xs := ⟨_, rfl⟩
  have htl : ts.length = xs.length := by rw [hts, toldOf_length]
  rw [← hts] at hz
  obtain ⟨a, ha⟩ : ∃ a, a = bytesOfLog (logOf xs) := ⟨_, rfl⟩
  have hb2 : bytesOfLog (logOf few) = a := by rw [hlf, ha]
  have HMa := Aside0.mk (show a.length ≤ 1200 by rw [ha]; exact (LI.log xs).disk)
  have HAs := Aside0.mk has
  have HZ := Aside0.mk hz
  have HZl := Aside0.mk hzl
  have HFew := Aside0.mk hfew
  have HWant := Aside0.mk hwant
  have HWl := Aside0.mk hwl
  have HSh := Aside0.mk hsh
  have HTl := Aside0.mk htl
  have HTs := Aside0.mk hts
  have HTf := Aside0.mk htf
  have HL := Aside0.mk hl
  have GA := Aside0.mk ha.symm
  have GF := Aside0.mk hb2
  have H1 := Aside0.mk (Acts_calls A0 c0 l 60 w0 hr hc (by decide))
  have HT0 := fun A c w h k => Aside0.mk (stored_ok A c xs w h k hs)
  have HT1 := fun A c w h k => Aside0.mk (stored_ok A c few w h k hsf)
  clear hr hs hl has hkp hz hzl hfew hwant hkp2 htf hlf hsf hsh hwl hts htl ha hb2
  go_enter Try.func19, Try.ntmps19
  go_upto_region 2 with (go_at_call 47; refine H1.out.mono ?_; rintro e w1 ⟨v, rfl, hs, hb⟩; rw [← HAs.out] at hs; obtain ⟨A1, c1, rfl, k1, g1⟩ := Kd.R_reads (Kd.S_R hs); have HC0 := Aside0.mk (And.intro k1 g1); have S0 := Aside0.mk hb; clear hs hb k1 g1)
  clear H1
  go_upto_region 3 with (go_at_call 48; refine (HT0 A1 c1 w1 HC0.out.2 HC0.out.1).out.mono ?_; rintro e w2 ⟨A2, c2, Ab, cb, rfl, k6, g6, k7, g7, hb⟩; rw [GA.out] at k7 g7 ⊢; rw [← HTs.out] at g6; have E2 := Aside0.mk (And.intro k7 g7); have HC1 := Aside0.mk (And.intro HC0.out.1 (Kd.C_below HC0.out.2 hb)); have HC2 := Aside0.mk g6; have HBr := Aside0.mk (S0.out.trans (hb.mono S0.out.size)); clear hb k6 g6 k7 g7)
  clear HT0 HC0 S0
  go_wp2
  go_loopg [7, 8, 9] (xs.length) (fun kq v7 v8 v9 wr => ∃ (i : Nat), v9 = .int .i64 i ∧ Aside0 (kq + i = xs.length) ∧ Aside0 (Coll k83 83 w2 wr v7 (((z.take i).filter okOf).map (·.1))) ∧ Aside0 (Coll k81 81 w2 wr v8 (((z.take i).filter okOf).map (·.2))) ∧ Aside0 (Below w2.heap.size w2 wr))
  case atStart => exact ⟨0, rfl, ⟨by omega⟩, ⟨Coll.nil _ _ _ _⟩, ⟨Coll.nil _ _ _ _⟩, ⟨Below.refl _ _⟩⟩
  case round =>
    obtain ⟨i, rfl, hK, hF, hG, hW⟩ := hrel
    by_cases hlt : i < xs.length
    · have hb1 : (i : Int) < (xs.length : Int) := by omega
      have hb0 : (0 : Int) ≤ (i : Int) := by omega
      have hwi : IntKind.i64.wrap ((i : Int) + 1) = (i : Int) + 1 := by have := HL.out; rw [IntKind.wrap_i64]; omega
      have htlt : i < ts.length := by rw [HTl.out]; exact hlt
      have hzlt : i < z.length := by rw [HZl.out]; exact hlt
      obtain ⟨ad, B1, d1, rfl, hx0, hx1, hx2, hx3, hcx, hCx⟩ := at_T83 HC1.out.2 (i : Int) hb0 hb1
      obtain ⟨at', B2, d2, rfl, hy0, hy1, hcy, hCy⟩ := at_T81 HC2.out (i : Int) hb0 (by rw [HTl.out]; exact hb1)
      have hxe : rd_T83 xs (i : Int) = xs[i] := by unfold rd_T83; simp [List.getD_eq_getElem?_getD, hlt]
      have hye : rd_T81 ts (i : Int) = ts[i] := by unfold rd_T81; simp [List.getD_eq_getElem?_getD, htlt]
      have hze : z[i] = (xs[i], ts[i]) := by simp only [HZ.out, List.getElem_zip]
      rw [hxe] at hcx hCx hx0 hx1 hx2 hx3
      rw [hye] at hcy hCy hy0 hy1
      rw [Int.toNat_natCast] at hx0 hx1 hx2 hx3 hy0 hy1
      obtain ⟨x, hx⟩ : ∃ x, x = xs[i] := ⟨_, rfl⟩
      obtain ⟨y, hy⟩ : ∃ y, y = ts[i] := ⟨_, rfl⟩
      rw [← hx] at hcx hCx hx0 hx1 hx2 hx3 hze
      rw [← hy] at hcy hCy hy0 hy1 hze
      have HCX := Aside0.mk (FK83' hcx hCx)
      have HCY := Aside0.mk (FK81' hcy hCy)
      have HY01 := Aside0.mk (And.intro hy0 hy1)
      have HZE := Aside0.mk hze
      have kx0 := cell_below hx0 hW.out
      have kx1 := cell_below hx1 hW.out
      have kx2 := cell_below hx2 hW.out
      have kx3 := cell_below hx3 hW.out
      have ky0 := cell_below hy0 hW.out
      have ky1 := cell_below hy1 hW.out
      clear hxe hye hze hx hy hcx hCx hcy hCy hx0 hx1 hx2 hx3 hy0 hy1 htlt
      by_cases hk : y.f0 = 0
      · have hok : okOf (x, y) = true := by unfold okOf; simp [hk]
        have HOk := Aside0.mk hok
        have hkb : (y.f0 == 0) = true := by rw [hk]; rfl
        clear hk hok
        have hlen1 : (((z.take i).filter okOf).map (·.1)).length ≤ 60 := by rw [List.length_map]; have h1 := HL.out; have h2 := List.length_filter_le okOf (z.take i); rw [List.length_take] at h2; omega
        have hlen2 : (((z.take i).filter okOf).map (·.2)).length ≤ 60 := by rw [List.length_map]; have h1 := HL.out; have h2 := List.length_filter_le okOf (z.take i); rw [List.length_take] at h2; omega
        have HLn := Aside0.mk (And.intro hlen1 hlen2)
        clear hlen1 hlen2
        go_wp2_with (first
          | ((with_reducible refine gate_builtin (b := .append) (xs := #[.tmp 36, .tmp 41]) rfl ?_); at_builtin; (refine Coll_append k83 (B := w2) rfl (.tmp 36) (.tmp 41) 75 83 (.agg #[(.int .i64 0), (.slice none 0 0), (.string ⟨#[]⟩), (.int .i64 0)]) 56 rfl Try.underlying75 info83 rfl (by decide) (by omega) _ _ x [.int .i64 x.f0, .slice B1 x.f1.length d1, .string x.f2, .int .i64 x.f3] rfl (by first | (go_simp; done) | (go_simp; rfl)) HCX.out hF.out hW.out (by have := HLn.out.1; omega) ?_; intro v2 wA ho hb hg; have HF2 := Aside0.mk ho; have HG2 := Aside0.mk (hG.out.grown hF.out (by decide) (show wr.grownBy wA u7.ownBlock from hg)); have HBA := Aside0.mk hb; have ly0 := cell_below HY01.out.1 hb; have ly1 := cell_below HY01.out.2 hb; clear ho hb hg))
          | ((with_reducible refine gate_builtin (b := .append) (xs := #[.tmp 43, .tmp 48]) rfl ?_); at_builtin; (refine Coll_append k81 (B := w2) rfl (.tmp 43) (.tmp 48) 77 81 (.agg #[(.int .i64 0), (.slice none 0 0)]) 32 rfl Try.underlying77 info81 rfl (by decide) (by omega) _ _ y [.int .i64 y.f0, .slice B2 y.f1.length d2] rfl (by first | (go_simp; done) | (go_simp; rfl)) HCY.out HG2.out HBA.out (by have := HLn.out.2; omega) ?_; intro v3 wB ho hb hg; have HG3 := Aside0.mk ho; have HF3 := Aside0.mk (HF2.out.grown HG2.out (by decide) (show wA.grownBy wB u8.ownBlock from hg)); have HBB := Aside0.mk hb; clear ho hb hg)))
        go_roundg (gk - 1)
        case measure => have := hK.out; omega
        case rel => exact ⟨i + 1, by go_num, ⟨by have := hK.out; omega⟩, ⟨by rw [List.take_succ_eq_append_getElem hzlt, HZE.out, List.filter_append, List.filter_cons_of_pos HOk.out, List.map_append]; exact HF3.out⟩, ⟨by rw [List.take_succ_eq_append_getElem hzlt, HZE.out, List.filter_append, List.filter_cons_of_pos HOk.out, List.map_append]; exact HG3.out⟩, HBB⟩
      · have hok : ¬ okOf (x, y) = true := by unfold okOf; simp [hk]
        have hkb : (y.f0 == 0) = false := beq_eq_false_iff_ne.2 hk
        have hN2 : Aside0 ((z.take (i + 1)).filter okOf = (z.take i).filter okOf) := ⟨by rw [List.take_succ_eq_append_getElem hzlt, HZE.out, List.filter_append, List.filter_cons_of_neg hok]; simp⟩
        clear hk hok
        go_wp2
        go_roundg (gk - 1)
        case measure => have := hK.out; omega
        case rel => exact ⟨i + 1, by go_num, ⟨by have := hK.out; omega⟩, ⟨by rw [hN2.out]; exact hF.out⟩, ⟨by rw [hN2.out]; exact hG.out⟩, hW⟩
    · have hE : Aside0 (((z.take i).filter okOf).map (·.1) = few ∧ ((z.take i).filter okOf).map (·.2) = want) := ⟨by rw [List.take_of_length_le (by rw [HZl.out]; omega)]; exact ⟨HFew.out.symm, HWant.out.symm⟩⟩
      have hb1 : ¬ (i : Int) < (xs.length : Int) := by omega
      have hb2 : decide ((i : Int) < (xs.length : Int)) = false := decide_eq_false hb1
      have hF2 := hF.out
      have hG2 := hG.out
      rw [hE.out.1] at hF2
      rw [hE.out.2] at hG2
      obtain ⟨A7, c7, rfl, k7, g7⟩ := hF2.reads hW.out
      obtain ⟨A8, c8, rfl, k8, g8⟩ := hG2.reads hW.out
      have HC7 := Aside0.mk (And.intro k7 g7)
      have HC8 := Aside0.mk (And.intro k8 g8)
      have E3 := Aside0.mk (And.intro E2.out.1 (Kd.C_below E2.out.2 hW.out))
      have HBs := Aside0.mk (HBr.out.trans (hW.out.mono HBr.out.size))
      clear hlt hF2 hG2 hE k7 g7 k8 g8 hF hG
      go_upto_region 14 with (go_at_call 48; refine (HT1 A7 c7 wr HC7.out.2 HC7.out.1).out.mono ?_; rintro e w8 ⟨Ax, cx, Ab2, cb2, rfl, k6, g6, k7, g7, hb⟩; rw [GF.out] at k7 g7 ⊢; rw [HTf.out] at g6; rw [← HWl.out]; have E8 := Aside0.mk (And.intro k7 g7); have HCx := Aside0.mk g6; have S8 := Aside0.mk hb; clear hb k6 g6 k7 g7)
      go_upto_region 16 with (go_at_call 30; refine (same_bytes Ab Ab2 cb cb2 a w8 (Kd.C_below E3.out.2 S8.out) E3.out.1 E8.out.2 E8.out.1 (by have := HMa.out; omega)).mono ?_; rintro e w9 ⟨rfl, hb⟩; have S9 := Aside0.mk hb; clear hb)
      have b9 := S8.out.trans (S9.out.mono S8.out.size)
      have FX := Aside0.mk (Kd.C_below HCx.out S9.out)
      have FW := Aside0.mk (Kd.C_below HC8.out.2 b9)
      have HEnd := Aside0.mk (HBs.out.trans (b9.mono HBs.out.size))
      clear b9 S8 S9 E3 E8 HCx HC7 HC8 HBs HT1 hb1 hb2
      go_wp2
      go_loopg [13] (want.length) (fun kq v13 wr2 => ∃ (j : Nat), v13 = .int .i64 j ∧ Aside0 (kq + j = want.length) ∧ Aside0 (Below w9.heap.size w9 wr2))
      case atStart => exact ⟨0, rfl, ⟨by omega⟩, ⟨Below.refl _ _⟩⟩
      case round =>
        obtain ⟨j, rfl, hK2, hW2⟩ := hrel
        by_cases hlt : j < want.length
        · have hb1 : (j : Int) < (want.length : Int) := by omega
          have hb0 : (0 : Int) ≤ (j : Int) := by omega
          have hw60 : want.length ≤ 60 := by
            have h1 := HL.out
            have h3 := HWant.out
            rw [h3, List.length_map]
            have h5 := List.length_filter_le okOf z
            rw [HZl.out] at h5
            omega
          have hwj : IntKind.i64.wrap ((j : Int) + 1) = (j : Int) + 1 := by rw [IntKind.wrap_i64]; omega
          clear hw60
          obtain ⟨adx, B1, d1, rfl, hx0, hx1, hcx, hCx⟩ := at_T81 FX.out (j : Int) hb0 hb1
          obtain ⟨adw, B2, d2, rfl, hy0, hy1, hcy, hCy⟩ := at_T81 FW.out (j : Int) hb0 hb1
          have hye : rd_T81 want (j : Int) = want[j] := by unfold rd_T81; simp [List.getD_eq_getElem?_getD, hlt]
          have hsm : (rd_T81 want (j : Int)).f1.length ≤ 1000000 := by rw [hye]; have := HSh.out want[j] (List.getElem_mem hlt); omega
          obtain ⟨y, hy⟩ : ∃ y, y = rd_T81 want (j : Int) := ⟨_, rfl⟩
          rw [← hy] at hx0 hx1 hcx hCx hy0 hy1 hcy hCy hsm
          rw [Int.toNat_natCast] at hx0 hx1 hy0 hy1
          have hbd := hW2.out.drew
          have px0 := cell_below hx0 hbd
          have px1 := cell_below hx1 hbd
          have py0 := cell_below hy0 hbd
          have py1 := cell_below hy1 hbd
          have HP := Aside0.mk (And.intro px0 (And.intro px1 (And.intro py0 py1)))
          have HSm := Aside0.mk (same_rows B1 B2 d1 d2 y.f1 y.f1 wr.drew (Kd.C_below hCx hbd) hcx (Kd.C_below hCy hbd) hcy hsm)
          clear hye hy hcx hCx hcy hCy hx0 hx1 hy0 hy1 hbd hsm
          go_upto_region 19 with (fail)
          go_region_held3 (fun x => x.cell? (adx.add (j * 2)) = some (.int .i64 y.f0) ∧ x.cell? ⟨(adx.add (j * 2)).block, (adx.add (j * 2)).off + 1, none⟩ = some (.slice B1 y.f1.length d1) ∧ x.cell? (adw.add (j * 2)) = some (.int .i64 y.f0) ∧ x.cell? ⟨(adw.add (j * 2)).block, (adw.add (j * 2)).off + 1, none⟩ = some (.slice B2 y.f1.length d2)) (first | exact HP.out | exact hk3.out) (first | (go_at_call 43; refine HSm.out.mono ?_; rintro e w3 ⟨rfl, hb⟩; rw [decide_eq_true rfl]; have hk3 := Aside0.mk (And.intro (pw_cell_below hb HP.out.1) (And.intro (pw_cell_below hb HP.out.2.1) (And.intro (pw_cell_below hb HP.out.2.2.1) (pw_cell_below hb HP.out.2.2.2)))); have HB3 := Aside0.mk (below_undrew hb); clear hb))
          go_wp2
          go_roundg (gk - 1)
          case measure => have := hK2.out; omega
          case rel => exact ⟨j + 1, by go_num, ⟨by have := hK2.out; omega⟩, ⟨hW2.out.trans (HB3.out.mono hW2.out.size)⟩⟩
        · have hb1 : ¬ (j : Int) < (want.length : Int) := by omega
          have hb2 : decide ((j : Int) < (want.length : Int)) = false := decide_eq_false hb1
          clear hlt
          go_wp2
          go_ret
          exact ⟨rfl, HEnd.out.trans (hW2.out.mono HEnd.out.size)⟩
end Go.Proofs.Ytmfkgbncnaingaa.Sto
