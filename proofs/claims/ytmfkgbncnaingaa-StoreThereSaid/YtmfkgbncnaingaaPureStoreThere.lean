/- StoreThere: its walk. -/
import Derived.Test.YtmfkgbncnaingaaGStore
namespace Go.Proofs.Ytmfkgbncnaingaa.Sto
open Go.Proofs.Ytmfkgbncnaingaa.QStore (S81 S83 S114 k81 k83 k114 k83_mk k83_mkM k83_mkF k83_open rd_T83 rd_T81 rd_T114 at_T83 at_T81 at_T114 info83)
open Go.RowKit Go.Proofs.Ytmfkgbncnaingaa.Reg Go.Proofs.Ytmfkgbncnaingaa.QRows Go.Proofs.Ytmfkgbncnaingaa.Rows Go.Proofs.Ytmfkgbncnaingaa.Wal Go.Proofs.YtmfkgbncnaingaaW.PrintWords Go.Proofs.YtmfkgbncnaingaaW.PrintLast Go.Proofs.YtmfkgbncnaingaaW.PrintMore
set_option linter.unusedVariables false
set_option linter.unusedSimpArgs false

/-! ### the plain law -/
theorem log_take {xs : List S83} {i : Nat} (h : i < xs.length) : logOf (xs.take (i + 1)) = (doS xs[i] (logOf (xs.take i))).2 := by
  rw [List.take_succ_eq_append_getElem h, logOf_snoc]
theorem told_at {xs : List S83} {i : Nat} (h : i < xs.length) : rd_T81 (toldOf xs) (i : Int) = (doS xs[i] (logOf (xs.take i))).1 := by
  have h1 : toldOf xs = toldOf (xs.take i ++ (xs[i] :: xs.drop (i + 1))) := by rw [← List.drop_eq_getElem_cons h, List.take_append_drop]
  have h2 : toldOf (xs.take i ++ (xs[i] :: xs.drop (i + 1))) = toldOf (xs.take i) ++ (playS (xs[i] :: xs.drop (i + 1)) (logOf (xs.take i))).1 := by unfold toldOf logOf; rw [playS_append]
  have h3 : (toldOf (xs.take i)).length = i := by rw [toldOf_length, List.length_take]; omega
  rw [h1, h2]
  unfold rd_T81
  rw [Int.toNat_natCast, List.getD_eq_getElem?_getD, List.getElem?_append_right (by omega), h3, Nat.sub_self]
  rfl
theorem step_same (a : S83) {Ls : List (List S67)} (hL : LI Ls) (h : (a.f0 ≠ 1 ∧ a.f0 ≠ 5) ∨ (doS a Ls).1.f0 ≠ 0) : tableOf (doS a Ls).2 = tableOf Ls := by
  by_cases h1 : a.f0 = 1
  · have h0 : (doS a Ls).1.f0 ≠ 0 := by rcases h with h | h; exact absurd h1 h.1; exact h
    unfold doS at h0 ⊢
    rw [if_pos h1] at h0 ⊢
    dsimp only at h0 ⊢
    rw [if_neg h0]
  · by_cases h5 : a.f0 = 5
    · have h0 : (doS a Ls).1.f0 ≠ 0 := by rcases h with h | h; exact absurd h5 h.2; exact h
      unfold doS at h0 ⊢
      rw [if_neg h1, if_neg (by omega), if_neg (by omega), if_neg (by omega), if_pos h5] at h0 ⊢
      dsimp only at h0 ⊢
      unfold crashS at h0 ⊢
      split at h0
      · rename_i hn; rw [if_pos hn]
      · rename_i hn
        rw [if_neg hn]
        split at h0
        · rename_i hf; rw [if_pos hf]
        · exact absurd rfl h0
    · unfold doS
      rw [if_neg h1]
      split
      · rfl
      · split
        · rfl
        · split
          · exact hL.packed.2
          · first | rfl | rw [if_neg h5]
theorem fault_parts {D : List Int} {T l : List S67} (h : faultS D T l = 0) : (∀ x ∈ l, Small x) ∧ (changed T l).length ≤ 40 := by
  have hft : faultOf T l = 0 := by
    unfold faultS at h
    split at h
    · omega
    · split at h
      · rename_i h2; exact absurd h h2
      · rename_i h2; exact Classical.not_not.1 h2
  have := wr_of_fault hft
  exact ⟨fun x hx => wr_small (this.2.1 x hx), this.2.2⟩
theorem step_commit (a : S83) (Ls : List (List S67)) (h1 : a.f0 = 1) (h0 : (doS a Ls).1.f0 = 0) : faultS (bytesOfLog Ls) (tableOf Ls) a.f1 = 0 ∧ tableOf (doS a Ls).2 = changed (tableOf Ls) a.f1 := by
  unfold doS at h0 ⊢
  rw [if_pos h1] at h0 ⊢
  dsimp only at h0 ⊢
  rw [if_pos h0, tableOf_snoc]
  exact ⟨h0, rfl⟩
theorem step_crash (a : S83) (Ls : List (List S67)) (h5 : a.f0 = 5) (h0 : (doS a Ls).1.f0 = 0) : faultS (bytesOfLog Ls) (tableOf Ls) a.f1 = 0 ∧ (tableOf (doS a Ls).2 = tableOf Ls ∨ tableOf (doS a Ls).2 = changed (tableOf Ls) a.f1) := by
  unfold doS at h0 ⊢
  rw [if_neg (by omega), if_neg (by omega), if_neg (by omega), if_neg (by omega), if_pos h5] at h0 ⊢
  dsimp only at h0 ⊢
  unfold crashS at h0 ⊢
  split at h0
  · dsimp only at h0; omega
  · rename_i hn
    rw [if_neg hn]
    split at h0
    · rename_i hf; exact absurd h0 hf
    · rename_i hf
      rw [if_neg hf]
      refine ⟨Classical.not_not.1 hf, ?_⟩
      dsimp only
      split
      · exact .inr (tableOf_snoc _ _)
      · exact .inl rfl
theorem act_rows (x : S114) : (actOf x).f1.length ≤ 4 := by
  have := changesOf_length x.f1
  unfold actOf
  repeat' split
  all_goals first | exact Nat.zero_le _ | (simp; omega)

set_option maxRecDepth 100000 in
set_option maxHeartbeats 8000000 in
theorem there_walk (A0 : Option Addr) (c0 : Nat) (l : List S114) (w0 : World) (hr : Kd.C k114 w0 A0 l.length l) (hc : l.length ≤ c0) :
    Calls Try.prog 23 #[.slice A0 l.length c0] w0 fun e w' => e = .returned (.bool true) ∧ Below w0.heap.size w0 w' := by
  have hu83 := Try.underlying83
  have hu67 := Try.underlying67
  have hu81 := Try.underlying81
  have hs : Short (actsOf l 40) := Short.acts l 40 (by decide)
  have hl : (actsOf l 40).length ≤ 40 := by unfold actsOf; rw [List.length_map, List.length_take]; show min 40 _ ≤ _; omega
  have hrw : ∀ a ∈ actsOf l 40, a.f1.length ≤ 4 := fun a ha => by
    unfold actsOf at ha
    obtain ⟨x, _, rfl⟩ := List.mem_map.1 ha
    exact act_rows x
  obtain ⟨xs, has⟩ : ∃ xs, xs = actsOf l 40 := ⟨_, rfl⟩
  rw [← has] at hs hl hrw
  obtain ⟨T, hT⟩ : ∃ T, T = tableOf (logOf xs) := ⟨_, rfl⟩
  have hTm : T.length ≤ 1000000 := by rw [hT]; have := (LI.log xs).table.room; omega
  obtain ⟨ts, hts⟩ : ∃ ts, ts = toldOf xs := ⟨_, rfl⟩
  have htl : ts.length = xs.length := by rw [hts, toldOf_length]
  obtain ⟨b, hb⟩ : ∃ b, b = bytesOfLog (logOf xs) := ⟨_, rfl⟩
  have HBl := Aside0.mk (show b.length ≤ 1200 by rw [hb]; exact (LI.log xs).disk)
  have HAs := Aside0.mk has
  have HT := Aside0.mk hT
  have HTm := Aside0.mk hTm
  have HTs := Aside0.mk hts
  have HTl := Aside0.mk htl
  have HL := Aside0.mk hl
  have HRw := Aside0.mk hrw
  have GA := Aside0.mk hb.symm
  have H1 := Aside0.mk (Acts_calls A0 c0 l 40 w0 hr hc (by decide))
  have HSt := fun A c w h k => Aside0.mk (stored_ok A c xs w h k hs)
  have HAll := fun A c w h k => Aside0.mk (all_ok A c xs w h k hs (by omega))
  have HRec := fun A c w h k => Aside0.mk (recover_ok A c (logOf xs) w (LI.log xs) h k)
  simp only [← hb] at HRec
  have HS := Aside0.mk hs
  clear hr hs hl has hrw hT hTm hts htl hb
  go_enter Try.func23, Try.ntmps23
  go_upto_region 2 with (go_at_call 47; refine H1.out.mono ?_; rintro e w1 ⟨v, rfl, hs, hb⟩; rw [← HAs.out] at hs; obtain ⟨A1, c1, rfl, k1, g1⟩ := Kd.R_reads (Kd.S_R hs); have HC1 := Aside0.mk (And.intro k1 g1); have S0 := Aside0.mk hb; clear hs hb k1 g1)
  clear H1
  go_upto_region 3 with (go_at_call 48; refine (HSt A1 c1 w1 HC1.out.2 HC1.out.1).out.mono ?_; rintro e w2 ⟨A2, c2, Ab, cb, rfl, k6, g6, k7, g7, hb⟩; rw [GA.out] at k7 g7 ⊢; rw [← HTs.out] at g6; have E2 := Aside0.mk (And.intro k7 g7); have HC2 := Aside0.mk g6; have S1 := Aside0.mk hb; clear hb k6 g6 k7 g7)
  clear HSt
  have HC1b := Aside0.mk (Kd.C_below HC1.out.2 S1.out)
  go_upto_region 4 with (go_at_call 49; refine (HAll A1 c1 w2 HC1b.out HC1.out.1).out.mono ?_; rintro e w3 ⟨A3, c3, rfl, k2, g2, hb⟩; rw [← HT.out] at k2 g2 ⊢; have HC3 := Aside0.mk (And.intro k2 g2); have S2 := Aside0.mk hb; clear hb k2 g2)
  clear HAll
  have E3 := Aside0.mk (Kd.C_below E2.out.2 S2.out)
  go_upto_region 5 with (first
    | ((with_reducible refine gate_builtin (b := .append) (xs := #[.const _, .tmp 33]) rfl ?_); at_builtin; refine Kd.R_append_rows (Kd.int .u8) (w0 := w3) w3.heap.size rfl (.const (.slice none 0 0)) (.tmp 33) 25 5 (.int .u8 0) 1 rfl Try.underlying25 info5u rfl (by decide) (by omega) (.slice none 0 0) ([] : List Int) b _ _ _ (fun _ => True) (fun _ => False) rfl rfl (Kd.R_nil _ _ _ _ _) E3.out (fun x cs h => h) (fun _ h => h.elim) (fun _ _ => trivial) (Below.refl _ _) (Nat.le_refl _) (by have := HBl.out; simp; omega) ?_; intro v1 wa ho hb _ _; obtain ⟨Aa, ca, rfl, _, _⟩ := Kd.R_reads ho; have HRa := Aside0.mk ho; have HBa := Aside0.mk hb; clear ho hb)
    | (go_at_call 50; refine (HRec Aa ca wa (Kd.R_reads' HRa.out).2.2 (Kd.R_reads' HRa.out).2.1).out.mono ?_; rintro e w4 ⟨A4, c4, rfl, k13, g13, hb⟩; rw [← HT.out] at k13 g13 ⊢; have HC4 := Aside0.mk (And.intro k13 g13); have S3 := Aside0.mk (HBa.out.trans (hb.mono HBa.out.size)); clear hb k13 g13))
  clear HRec HRa HBa E3
  go_upto_region 7 with (go_at_call 43; refine (same_rows A4 A3 c4 c3 T T w4 HC4.out.2 HC4.out.1 (Kd.C_below HC3.out.2 S3.out) HC3.out.1 HTm.out).mono ?_; rintro e w5 ⟨rfl, hb⟩; rw [decide_eq_true rfl]; have S4 := Aside0.mk hb; clear hb)
  have b3 := S3.out.trans (S4.out.mono S3.out.size)
  have b2 := S2.out.trans (b3.mono S2.out.size)
  have b1 := S1.out.trans (b2.mono S1.out.size)
  have F1 := Aside0.mk (Kd.C_below HC1.out.2 b1)
  have F2 := Aside0.mk (Kd.C_below HC2.out b2)
  have F3 := Aside0.mk (And.intro HC3.out.1 (Kd.C_below HC3.out.2 b3))
  have HEnd := Aside0.mk (S0.out.trans (b1.mono S0.out.size))
  have K1 := Aside0.mk HC1.out.1
  clear b1 b2 b3 S0 S1 S2 S3 S4 HC1 HC1b HC2 HC3 HC4 E2
  go_wp2
  go_loopg [12, 13, 14] (xs.length) (fun kq v12 v13 v14 wr => ∃ (i : Nat) (A : Option Addr) (c : Nat), v14 = .int .i64 i ∧ v13 = .bool true ∧ v12 = .slice A (tableOf (logOf (xs.take i))).length c ∧ Aside0 (kq + i = xs.length) ∧ Aside0 ((tableOf (logOf (xs.take i))).length ≤ c ∧ Kd.C k67 wr A (tableOf (logOf (xs.take i))).length (tableOf (logOf (xs.take i)))) ∧ Aside0 (Below w5.heap.size w5 wr))
  case atStart => exact ⟨0, none, 0, rfl, rfl, rfl, ⟨by omega⟩, ⟨⟨Nat.le_refl _, Kd.C_nil _ _⟩⟩, ⟨Below.refl _ _⟩⟩
  case round =>
    obtain ⟨i, Aw, cw, rfl, rfl, rfl, hK, hC, hW⟩ := hrel
    by_cases hlt : i < xs.length
    · have hb1 : (i : Int) < (xs.length : Int) := by omega
      have hb0 : (0 : Int) ≤ (i : Int) := by omega
      have hwi : IntKind.i64.wrap ((i : Int) + 1) = (i : Int) + 1 := by have := HL.out; rw [IntKind.wrap_i64]; omega
      obtain ⟨ad, B1, d1, rfl, hx0, hx1, hx2, hx3, hcx, hCx⟩ := at_T83 F1.out (i : Int) hb0 hb1
      obtain ⟨adt, B2, d2, rfl, hy0, hy1, hcy, hCy⟩ := at_T81 F2.out (i : Int) hb0 (by rw [HTl.out]; exact hb1)
      have hxe : rd_T83 xs (i : Int) = xs[i] := by unfold rd_T83; simp [List.getD_eq_getElem?_getD, hlt]
      have hye : rd_T81 ts (i : Int) = (doS xs[i] (logOf (xs.take i))).1 := by rw [HTs.out]; exact told_at hlt
      rw [hxe] at hcx hCx hx0 hx1
      rw [hye] at hy0
      rw [Int.toNat_natCast] at hx0 hx1 hy0
      have hLI := LI.log (xs.take i)
      have hnx := log_take hlt
      have hr4 := HRw.out xs[i] (List.getElem_mem hlt)
      have hTake := Short.sub HS.out (List.take_sublist (i + 1) xs)
      have htk : (xs.take (i + 1)).length = i + 1 := by rw [List.length_take]; omega
      obtain ⟨x, hx⟩ : ∃ x, x = xs[i] := ⟨_, rfl⟩
      rw [← hx] at hcx hCx hx0 hx1 hy0 hnx hr4
      obtain ⟨Ls, hLs⟩ : ∃ Ls, Ls = logOf (xs.take i) := ⟨_, rfl⟩
      rw [← hLs] at hy0 hLI hnx
      have hC0 := hC.out
      rw [← hLs] at hC0 ⊢
      have hGd := hLI.table
      obtain ⟨W, hWt⟩ : ∃ W, W = tableOf Ls := ⟨_, rfl⟩
      rw [← hWt] at hC0 hGd ⊢
      obtain ⟨y, hy⟩ : ∃ y, y = (doS x Ls).1 := ⟨_, rfl⟩
      rw [← hy] at hy0
      obtain ⟨Wn, hWn⟩ : ∃ Wn, Wn = tableOf (logOf (xs.take (i + 1))) := ⟨_, rfl⟩
      have HWn := Aside0.mk hWn
      have hWe : Wn = tableOf (doS x Ls).2 := by rw [hWn, hnx]
      have hWm : Wn.length ≤ 40 := by rw [hWn]; exact (LI.log _).table.room
      have HC0 := Aside0.mk hC0
      have HGd := Aside0.mk hGd
      have kx0 := cell_below hx0 hW.out
      have kx1 := cell_below hx1 hW.out
      have ky0 := cell_below hy0 hW.out
      have HX1 := Aside0.mk (And.intro hcx hCx)
      have HR4 := Aside0.mk hr4
      have HK0 := Aside0.mk (And.intro hx1 hx0)
      have HY0 := Aside0.mk hy0
      have HAl := fun A c w h k => Aside0.mk (all_ok A c (xs.take (i + 1)) w h k hTake (by have := HL.out; omega))
      rw [htk] at HAl
      simp only [← hWn] at HAl
      have HTk := Aside0.mk (fun w' (hb : Below w5.heap.size w5 w') => (by have h2 := Kd.C_take (Kd.C_below F1.out hb) (show i + 1 ≤ xs.length by omega); rw [htk] at h2; exact h2 : Kd.C k83 w' (some ad) (i + 1) (xs.take (i + 1))))
      have hWm' := Aside0.mk hWm
      have hcase : (x.f0 = 1 ∧ y.f0 = 0) ∨ (x.f0 = 5 ∧ y.f0 = 0) ∨ ((x.f0 ≠ 1 ∧ x.f0 ≠ 5) ∨ y.f0 ≠ 0) := by
        by_cases h1 : x.f0 = 1 <;> by_cases h5 : x.f0 = 5 <;> by_cases h0 : y.f0 = 0 <;> simp [h1, h5, h0]
      have hSame : ((x.f0 ≠ 1 ∧ x.f0 ≠ 5) ∨ y.f0 ≠ 0) → Wn = W := fun h => by rw [hWe, hWt]; exact step_same x hLI (by rw [← hy]; exact h)
      have hComm : x.f0 = 1 → y.f0 = 0 → (∀ c ∈ x.f1, Small c) ∧ (changed W x.f1).length ≤ 40 ∧ Wn = changed W x.f1 := fun h1 h0 => by
        have h2 := step_commit x Ls h1 (by rw [← hy]; exact h0)
        have h3 := fault_parts h2.1
        rw [hWe, hWt]
        exact ⟨h3.1, h3.2, h2.2⟩
      have hCrash : x.f0 = 5 → y.f0 = 0 → (∀ c ∈ x.f1, Small c) ∧ (changed W x.f1).length ≤ 40 ∧ (Wn = W ∨ Wn = changed W x.f1) := fun h1 h0 => by
        have h2 := step_crash x Ls h1 (by rw [← hy]; exact h0)
        have h3 := fault_parts h2.1
        rw [hWe, hWt]
        exact ⟨h3.1, h3.2, h2.2⟩
      have HSame := Aside0.mk hSame
      have HComm := Aside0.mk hComm
      have HCrash := Aside0.mk hCrash
      clear hxe hye hLI hnx hr4 hTake htk hx hLs hC0 hGd hWt hy hWn hWe hWm hx0 hx1 hx2 hx3 hcx hCx hy0 hy1 hcy hCy hC hSame hComm hCrash
      rcases hcase with ⟨h1, h0⟩ | ⟨h5, h0⟩ | hn
      · obtain ⟨hsm, hcl, hE⟩ := HComm.out h1 h0
        rw [h1] at kx0
        rw [h0] at ky0
        have HE := Aside0.mk (And.intro hE HWn.out)
        have HBeh := fun w h k => Aside0.mk (behind_ok Aw B1 cw d1 W x.f1 w h HC0.out.1 k HX1.out.1 HGd.out hsm (by have h8 := HGd.out.room; have h9 := HR4.out; omega) hcl)
        have hK0 := HK0.out
        rw [h1] at hK0
        have HK1 := Aside0.mk hK0
        clear h1 h0 hsm hcl hE hK0
        go_wp2_with (go_at_call 51; refine (HBeh wr HC0.out.2 (Kd.C_below HX1.out.2 hW.out)).out.mono ?_; rintro e w6 ⟨A6, c6, rfl, k6, g6, hb⟩; rw [← HE.out.1] at k6 g6 ⊢; have hb6 := hW.out.trans (hb.mono hW.out.size); have HB6 := Aside0.mk hb6; have HC6 := Aside0.mk (And.intro k6 g6); have kx0b := cell_below HK1.out.2 hb6; clear hb hb6 k6 g6)
        go_roundg (gk - 1)
        case measure => have := hK.out; omega
        case rel => exact ⟨i + 1, _, _, by go_num, rfl, by rw [← HE.out.2], ⟨by have := hK.out; omega⟩, ⟨by rw [← HE.out.2]; exact HC6.out⟩, HB6⟩
      · obtain ⟨hsm, hcl, hE⟩ := HCrash.out h5 h0
        rw [h5] at kx0
        rw [h0] at ky0
        have HE := Aside0.mk (And.intro hE HWn.out)
        have HBeh := fun w h k => Aside0.mk (behind_ok Aw B1 cw d1 W x.f1 w h HC0.out.1 k HX1.out.1 HGd.out hsm (by have h8 := HGd.out.room; have h9 := HR4.out; omega) hcl)
        obtain ⟨M, hM⟩ : ∃ M, M = changed W x.f1 := ⟨_, rfl⟩
        rw [← hM] at HBeh HE
        have hcb : ((i : Int) + 1) ≤ (c1 : Int) := by have := K1.out; omega
        have hcb0 : (0 : Int) ≤ (i : Int) + 1 := by omega
        have hcn : ((i : Int) + 1).toNat = i + 1 := by omega
        clear h5 h0 hsm hcl hE hM
        go_upto_region 15 with (go_at_call 49; refine (HAl (some ad) c1 wr (HTk.out wr hW.out) (by have := K1.out; omega)).out.mono ?_; rintro e w6 ⟨A6, c6, rfl, k6, g6, hb⟩; have hb6 := hW.out.trans (hb.mono hW.out.size); have HB6 := Aside0.mk hb6; have HC6 := Aside0.mk (And.intro k6 g6); have HW6 := Aside0.mk (Kd.C_below HC0.out.2 hb); have kx1b := cell_below HK0.out.1 hb6; clear hb hb6 k6 g6)
        clear kx0 kx1 ky0
        go_upto_region 16 with (go_at_call 51; refine (HBeh w6 HW6.out (Kd.C_below HX1.out.2 HB6.out)).out.mono ?_; rintro e w7 ⟨A7, c7, rfl, k7, g7, hb⟩; have HB7 := Aside0.mk (HB6.out.trans (hb.mono HB6.out.size)); have HC7 := Aside0.mk (And.intro k7 g7); have HW7 := Aside0.mk (Kd.C_below HW6.out hb); have HN7 := Aside0.mk (And.intro HC6.out.1 (Kd.C_below HC6.out.2 hb)); clear hb k7 g7)
        clear kx1b
        have tok1 : True := trivial
        have hWm2 := Aside0.mk (show Wn.length ≤ 1000000 by have := hWm'.out; omega)
        by_cases hq : Wn = W
        · have hqd := Aside0.mk (decide_eq_true hq)
          clear hq
          go_wp2_with (go_at_call 43; refine (same_rows A6 Aw c6 cw Wn W w7 HN7.out.2 HN7.out.1 HW7.out HC0.out.1 hWm2.out).mono ?_; rintro e w8 ⟨rfl, hb⟩; rw [hqd.out]; have HB8 := Aside0.mk (HB7.out.trans (hb.mono HB7.out.size)); have HN8 := Aside0.mk (And.intro HN7.out.1 (Kd.C_below HN7.out.2 hb)); clear hb)
          go_roundg (gk - 1)
          case measure => have := hK.out; omega
          case rel => exact ⟨i + 1, _, _, by go_num, rfl, by rw [← HE.out.2], ⟨by have := hK.out; omega⟩, ⟨by rw [← HE.out.2]; exact HN8.out⟩, HB8⟩
        · have hqm : Wn = M := by rcases HE.out.1 with h | h; exact absurd h hq; exact h
          have hqd := Aside0.mk (And.intro (decide_eq_false hq) (decide_eq_true hqm))
          clear hq hqm
          go_wp2_with (first
            | (go_at_call 43; have _t := tok1; clear _t tok1; refine (same_rows A6 Aw c6 cw Wn W w7 HN7.out.2 HN7.out.1 HW7.out HC0.out.1 hWm2.out).mono ?_; rintro e w8 ⟨rfl, hb⟩; rw [hqd.out.1]; have S7 := Aside0.mk hb; have HB8 := Aside0.mk (HB7.out.trans (hb.mono HB7.out.size)); have HN8 := Aside0.mk (And.intro HN7.out.1 (Kd.C_below HN7.out.2 hb)); clear hb)
            | (go_at_call 43; refine (same_rows A6 A7 c6 c7 Wn M w8 HN8.out.2 HN8.out.1 (Kd.C_below HC7.out.2 S7.out) HC7.out.1 hWm2.out).mono ?_; rintro e w9 ⟨rfl, hb⟩; rw [hqd.out.2]; have HB9 := Aside0.mk (HB8.out.trans (hb.mono HB8.out.size)); have HN9 := Aside0.mk (And.intro HN8.out.1 (Kd.C_below HN8.out.2 hb)); clear hb))
          go_roundg (gk - 1)
          case measure => have := hK.out; omega
          case rel => exact ⟨i + 1, _, _, by go_num, rfl, by rw [← HE.out.2], ⟨by have := hK.out; omega⟩, ⟨by rw [← HE.out.2]; exact HN9.out⟩, HB9⟩
      · have hE := HSame.out hn
        have HE := Aside0.mk (And.intro hE HWn.out)
        have HC0b : Aside0 (Wn.length ≤ cw ∧ Kd.C k67 wr Aw Wn.length Wn) := ⟨by rw [hE]; exact HC0.out⟩
        rw [← hE]
        clear hE
        by_cases h1 : x.f0 = 1
        · have h0 : y.f0 ≠ 0 := by rcases hn with h | h; exact absurd h1 h.1; exact h
          have hb0' : (y.f0 == 0) = false := beq_eq_false_iff_ne.2 h0
          rw [h1] at kx0
          clear hn h1 h0
          go_wp2
          go_roundg (gk - 1)
          case measure => have := hK.out; omega
          case rel => exact ⟨i + 1, _, _, by go_num, rfl, by rw [← HE.out.2], ⟨by have := hK.out; omega⟩, ⟨by rw [← HE.out.2]; exact HC0b.out⟩, hW⟩
        · by_cases h5 : x.f0 = 5
          · have h0 : y.f0 ≠ 0 := by rcases hn with h | h; exact absurd h5 h.2; exact h
            have hb0' : (y.f0 == 0) = false := beq_eq_false_iff_ne.2 h0
            rw [h5] at kx0
            clear hn h1 h5 h0
            go_wp2
            go_roundg (gk - 1)
            case measure => have := hK.out; omega
            case rel => exact ⟨i + 1, _, _, by go_num, rfl, by rw [← HE.out.2], ⟨by have := hK.out; omega⟩, ⟨by rw [← HE.out.2]; exact HC0b.out⟩, hW⟩
          · have hk1 : (x.f0 == 1) = false := beq_eq_false_iff_ne.2 h1
            have hk5 : (x.f0 == 5) = false := beq_eq_false_iff_ne.2 h5
            clear hn h1 h5
            go_wp2
            go_roundg (gk - 1)
            case measure => have := hK.out; omega
            case rel => exact ⟨i + 1, _, _, by go_num, rfl, by rw [← HE.out.2], ⟨by have := hK.out; omega⟩, ⟨by rw [← HE.out.2]; exact HC0b.out⟩, hW⟩
    · have hE : Aside0 (tableOf (logOf (xs.take i)) = T) := ⟨by rw [List.take_of_length_le (by omega)]; exact HT.out.symm⟩
      have hb1 : ¬ (i : Int) < (xs.length : Int) := by omega
      have hb2 : decide ((i : Int) < (xs.length : Int)) = false := decide_eq_false hb1
      have hC0 := hC.out
      rw [hE.out] at hC0 ⊢
      have HC0 := Aside0.mk hC0
      clear hlt hC hC0 hE
      go_wp2_with (go_at_call 43; refine (same_rows Aw A3 cw c3 T T wr HC0.out.2 HC0.out.1 (Kd.C_below F3.out.2 hW.out) F3.out.1 HTm.out).mono ?_; rintro e w8 ⟨rfl, hb⟩; rw [decide_eq_true rfl]; have HB8 := Aside0.mk (hW.out.trans (hb.mono hW.out.size)); clear hb)
      go_ret
      exact ⟨rfl, HEnd.out.trans (HB8.out.mono HEnd.out.size)⟩
end Go.Proofs.Ytmfkgbncnaingaa.Sto
