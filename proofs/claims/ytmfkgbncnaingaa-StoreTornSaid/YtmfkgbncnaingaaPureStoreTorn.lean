/- StoreTorn: its walk. -/
import Derived.Test.YtmfkgbncnaingaaTorn
namespace Go.Proofs.Ytmfkgbncnaingaa.Sto
open Go.Proofs.Ytmfkgbncnaingaa.QStore (S81 S83 S114 k81 k83 k114 k83_mk k83_mkM k83_mkF k83_open rd_T83 rd_T81 rd_T114 at_T83 at_T81 at_T114 info83)
open Go.RowKit Go.Proofs.Ytmfkgbncnaingaa.Reg Go.Proofs.Ytmfkgbncnaingaa.QRows Go.Proofs.Ytmfkgbncnaingaa.Rows Go.Proofs.Ytmfkgbncnaingaa.Wal Go.Proofs.YtmfkgbncnaingaaW.PrintWords Go.Proofs.YtmfkgbncnaingaaW.PrintLast Go.Proofs.YtmfkgbncnaingaaW.PrintMore
set_option linter.unusedVariables false
set_option linter.unusedSimpArgs false

/-! ### the plain law, a part of it -/
theorem log_take {xs : List S83} {i : Nat} (h : i < xs.length) : logOf (xs.take (i + 1)) = (doS xs[i] (logOf (xs.take i))).2 := by
  rw [List.take_succ_eq_append_getElem h, logOf_snoc]
theorem told_at {xs : List S83} {i : Nat} (h : i < xs.length) : rd_T81 (toldOf xs) (i : Int) = (doS xs[i] (logOf (xs.take i))).1 := by
  have h1 : toldOf xs = toldOf (xs.take i ++ (xs[i] :: xs.drop (i + 1))) := by rw [← List.drop_eq_getElem_cons h, List.take_append_drop]
  have h2 : toldOf (xs.take i ++ (xs[i] :: xs.drop (i + 1))) = toldOf (xs.take i) ++ (playS (xs[i] :: xs.drop (i + 1)) (logOf (xs.take i))).1 := by unfold toldOf logOf; rw [playS_append]
  have h3 : (toldOf (xs.take i)).length = i := by rw [toldOf_length, List.length_take]; omega
  rw [h1, h2]
  unfold rd_T81
  rw [Int.toNat_natCast, List.getD_eq_getElem?_getD, List.getElem?_append_right (by omega), h3, Nat.sub_self]
  rfl
theorem fault_parts {D : List Int} {T l : List S67} (h : faultS D T l = 0) : (∀ x ∈ l, Small x) ∧ (changed T l).length ≤ 40 := by
  have hft : faultOf T l = 0 := by
    unfold faultS at h
    split at h
    · omega
    · split at h
      · rename_i h2; exact absurd h h2
      · rename_i h2; exact Classical.not_not.1 h2
  have := wr_of_fault hft
  exact ⟨fun x hx => wr_small (this.2.1 x hx), this.2.2⟩
theorem step_commit (a : S83) (Ls : List (List S67)) (h1 : a.f0 = 1) (h0 : (doS a Ls).1.f0 = 0) : faultS (bytesOfLog Ls) (tableOf Ls) a.f1 = 0 ∧ tableOf (doS a Ls).2 = changed (tableOf Ls) a.f1 := by
  unfold doS at h0 ⊢
  rw [if_pos h1] at h0 ⊢
  dsimp only at h0 ⊢
  rw [if_pos h0, tableOf_snoc]
  exact ⟨h0, rfl⟩
theorem act_rows (x : S114) : (actOf x).f1.length ≤ 4 := by
  have := changesOf_length x.f1
  unfold actOf
  repeat' split
  all_goals first | exact Nat.zero_le _ | (simp; omega)


theorem step_refused (a : S83) (Ls : List (List S67)) (h1 : a.f0 = 1) (h0 : (doS a Ls).1.f0 ≠ 0) : tableOf (doS a Ls).2 = tableOf Ls := by
  unfold doS at h0 ⊢
  rw [if_pos h1] at h0 ⊢
  dsimp only at h0 ⊢
  rw [if_neg h0]

set_option maxRecDepth 100000 in
set_option maxHeartbeats 16000000 in
theorem torn_walk (A0 : Option Addr) (c0 : Nat) (l : List S114) (cut more : Int) (w0 : World) (hr : Kd.C k114 w0 A0 l.length l) (hc : l.length ≤ c0) :
    Calls Try.prog 24 #[.slice A0 l.length c0, .int .i64 cut, .int .i64 more] w0 fun e w' => e = .returned (.bool true) ∧ Below w0.heap.size w0 w' := by
  have hu83 := Try.underlying83
  have hu67 := Try.underlying67
  have hu81 := Try.underlying81
  have hs : Short (actsOf l 20) := Short.acts l 20 (by decide)
  have hl : (actsOf l 20).length ≤ 20 := by unfold actsOf; rw [List.length_map, List.length_take]; show min 20 _ ≤ _; omega
  have hrw : ∀ a ∈ actsOf l 20, a.f1.length ≤ 4 := fun a ha => by
    unfold actsOf at ha
    obtain ⟨x, _, rfl⟩ := List.mem_map.1 ha
    exact act_rows x
  obtain ⟨al, hal⟩ : ∃ al, al = actsOf l 20 := ⟨_, rfl⟩
  rw [← hal] at hs hl hrw
  have hsf : Short (al.filter isCommit) := hs.sub List.filter_sublist
  have hlf : (al.filter isCommit).length ≤ 20 := Nat.le_trans (List.length_filter_le _ _) hl
  have hcm : ∀ a ∈ al.filter isCommit, a.f0 = 1 := fun a ha => by
    have := (List.mem_filter.1 ha).2
    unfold isCommit at this
    simpa using this
  have hrf : ∀ a ∈ al.filter isCommit, a.f1.length ≤ 4 := fun a ha => hrw a (List.mem_filter.1 ha).1
  obtain ⟨xs, hxs⟩ : ∃ xs, xs = al.filter isCommit := ⟨_, rfl⟩
  rw [← hxs] at hsf hlf hcm hrf
  obtain ⟨ts, hts⟩ : ∃ ts, ts = toldOf xs := ⟨_, rfl⟩
  have htl : ts.length = xs.length := by rw [hts, toldOf_length]
  have hLI := LI.log xs
  obtain ⟨b, hb⟩ : ∃ b, b = bytesOfLog (logOf xs) := ⟨_, rfl⟩
  have hbl : b.length ≤ 1200 := by rw [hb]; exact hLI.disk
  obtain ⟨k, hk⟩ : ∃ k, k = pickN cut (b.length + 1) := ⟨_, rfl⟩
  have hkb : k ≤ b.length := by have := pickN_lt cut (b.length + 1) (by omega); omega
  obtain ⟨d, hd⟩ : ∃ d, d = pickN more (b.length - k + 1) := ⟨_, rfl⟩
  have hdb : k + d ≤ b.length := by have := pickN_lt more (b.length - k + 1) (by omega); omega
  obtain ⟨na, hna⟩ := within_ex (logOf xs) k
  obtain ⟨nb, hnb⟩ := within_ex (logOf xs) (k + d)
  obtain ⟨hga, hua⟩ := torn_good hLI hna
  obtain ⟨hgb, hub⟩ := torn_good hLI hnb
  rw [← hb] at hga hua hgb hub
  obtain ⟨ii, jj, hij, hjn, hxi, hyj⟩ := both_were hcm (Nat.le_add_right k d) hna hnb
  obtain ⟨ba, hba⟩ : ∃ ba, ba = b.take k := ⟨_, rfl⟩
  obtain ⟨bb, hbb⟩ : ∃ bb, bb = b.take (k + d) := ⟨_, rfl⟩
  have hbal : ba.length = k := by rw [hba, List.length_take]; omega
  have hbbl : bb.length = k + d := by rw [hbb, List.length_take]; omega
  rw [← hba] at hga hua
  rw [← hbb] at hgb hub
  obtain ⟨ua, hua'⟩ : ∃ u, u = (bytesOfLog ((logOf xs).take na)).length := ⟨_, rfl⟩
  obtain ⟨ub, hub'⟩ : ∃ u, u = (bytesOfLog ((logOf xs).take nb)).length := ⟨_, rfl⟩
  have huk : ua ≤ k := by rw [hua']; exact hna.2.1
  have huu : ua ≤ ub := by rw [hua', hub']; exact len_mono _ (within_mono (Nat.le_add_right k d) hna hnb)
  rw [← hua'] at hua
  rw [← hub'] at hub
  obtain ⟨X, hX⟩ : ∃ X, X = tableOf ((logOf xs).take na) := ⟨_, rfl⟩
  obtain ⟨Y, hY⟩ : ∃ Y, Y = tableOf ((logOf xs).take nb) := ⟨_, rfl⟩
  rw [← hX] at hxi
  rw [← hY] at hyj
  obtain ⟨now, hnow⟩ : ∃ now : Nat → List S67, now = fun i => tableOf (logOf (xs.take i)) := ⟨_, rfl⟩
  have hnowi : ∀ i, now i = tableOf (logOf (xs.take i)) := fun i => by rw [hnow]
  have hngood : ∀ i, Rows.Good (now i) := fun i => by rw [hnowi]; exact (LI.log _).table
  have hnstep : ∀ i (h : i < xs.length), rd_T81 ts (i : Int) = (doS xs[i] (logOf (xs.take i))).1 ∧ now (i + 1) = tableOf (doS xs[i] (logOf (xs.take i))).2 := fun i h => ⟨by rw [hts]; exact told_at h, by rw [hnowi, log_take h]⟩
  rw [← hnowi] at hxi hyj
  have HAl := Aside0.mk hal
  have HXs := Aside0.mk hxs
  have HL := Aside0.mk hl
  have HLf := Aside0.mk hlf
  have HCm := Aside0.mk hcm
  have HRf := Aside0.mk hrf
  have HTl := Aside0.mk htl
  have HBl := Aside0.mk hbl
  have HKb := Aside0.mk (And.intro hkb hdb)
  have HBa := Aside0.mk (And.intro hba hbb)
  have HLa := Aside0.mk (And.intro hbal hbbl)
  have HUs := Aside0.mk (And.intro huk huu)
  have HNowI := Aside0.mk hnowi
  have HGood := Aside0.mk hngood
  have HStep := Aside0.mk hnstep
  have HBoth := Aside0.mk (And.intro hij (And.intro hjn (And.intro hxi hyj)))
  have GB := Aside0.mk hb.symm
  have HTs := Aside0.mk hts
  have HN0 : Aside0 (now 0 = []) := ⟨by rw [hnowi, List.take_zero]; rfl⟩
  have H1 := Aside0.mk (Acts_calls A0 c0 l 20 w0 hr hc (by decide))
  have HSt := fun A c w h k => Aside0.mk (stored_ok A c xs w h k hsf)
  have HPk := fun w => Aside0.mk (Picked8 cut (b.length + 1) (by omega) (by omega) w)
  have HPm := fun w => Aside0.mk (Picked8 more (b.length - k + 1) (by omega) (by omega) w)
  simp only [← hk] at HPk
  simp only [← hd] at HPm
  have HRa := fun A c w h k => Aside0.mk (recover_torn A c ba ((logOf xs).take na) ua w hga hua h k)
  have HRb := fun A c w h k => Aside0.mk (recover_torn A c bb ((logOf xs).take nb) ub w hgb hub h k)
  simp only [← hX] at HRa
  simp only [← hY] at HRb
  have HXm := Aside0.mk (show X.length ≤ 40 ∧ Y.length ≤ 40 by rw [← hxi, ← hyj]; exact ⟨(hngood _).room, (hngood _).room⟩)
  have hw1 : IntKind.i64.wrap ((b.length : Int) + 1) = ((b.length + 1 : Nat) : Int) := by rw [IntKind.wrap_i64]; omega
  have hw2 : IntKind.i64.wrap ((b.length : Int) - (k : Int)) = ((b.length - k : Nat) : Int) := by rw [IntKind.wrap_i64]; omega
  have hw3 : IntKind.i64.wrap (((b.length - k : Nat) : Int) + 1) = ((b.length - k + 1 : Nat) : Int) := by rw [IntKind.wrap_i64]; omega
  have hw4 : IntKind.i64.wrap ((k : Int) + (d : Int)) = ((k + d : Nat) : Int) := by rw [IntKind.wrap_i64]; omega
  have HW := Aside0.mk (And.intro hw1 (And.intro hw2 (And.intro hw3 hw4)))
  clear hr hs hl hrw hal hsf hlf hcm hrf hxs hts htl hLI hb hbl hk hkb hd hdb hna hnb hga hua hgb hub hij hjn hxi hyj hba hbb hbal hbbl hua' hub' huk huu hX hY hnow hnowi hngood hnstep hw1 hw2 hw3 hw4
  go_enter Try.func24, Try.ntmps24
  go_upto_region 3 with (go_at_call 47; refine H1.out.mono ?_; rintro e w1 ⟨v, rfl, hs, hb⟩; rw [← HAl.out] at hs; obtain ⟨A1, c1, rfl, k1, g1⟩ := Kd.R_reads (Kd.S_R hs); have HC1 := Aside0.mk (And.intro k1 g1); have S0 := Aside0.mk hb; clear hs hb k1 g1)
  clear H1
  go_wp2
  go_loopg [7, 9] (al.length) (fun kq v7 v9 wr => ∃ (i : Nat), v9 = .int .i64 i ∧ Aside0 (kq + i = al.length) ∧ Aside0 (Coll k83 83 w1 wr v7 ((al.take i).filter isCommit)) ∧ Aside0 (Below w1.heap.size w1 wr))
  case atStart => exact ⟨0, rfl, ⟨by omega⟩, ⟨Coll.nil _ _ _ _⟩, ⟨Below.refl _ _⟩⟩
  case round =>
    obtain ⟨i, rfl, hK, hF, hW⟩ := hrel
    by_cases hlt : i < al.length
    · have hb1 : (i : Int) < (al.length : Int) := by omega
      have hb0 : (0 : Int) ≤ (i : Int) := by omega
      have hwi : IntKind.i64.wrap ((i : Int) + 1) = (i : Int) + 1 := by have := HL.out; rw [IntKind.wrap_i64]; omega
      obtain ⟨ad, B1, d1, rfl, hx0, hx1, hx2, hx3, hcx, hCx⟩ := at_T83 HC1.out.2 (i : Int) hb0 hb1
      have hxe : rd_T83 al (i : Int) = al[i] := by unfold rd_T83; simp [List.getD_eq_getElem?_getD, hlt]
      rw [hxe] at hcx hCx hx0 hx1 hx2 hx3
      rw [Int.toNat_natCast] at hx0 hx1 hx2 hx3
      obtain ⟨x, hx⟩ : ∃ x, x = al[i] := ⟨_, rfl⟩
      rw [← hx] at hcx hCx hx0 hx1 hx2 hx3
      have HX := Aside0.mk hx
      have HCX := Aside0.mk (FK83' hcx hCx)
      have kx0 := cell_below hx0 hW.out
      have kx1 := cell_below hx1 hW.out
      have kx2 := cell_below hx2 hW.out
      have kx3 := cell_below hx3 hW.out
      clear hxe hx hcx hCx hx0 hx1 hx2 hx3
      by_cases hk : x.f0 = 1
      · have hok : isCommit x = true := by unfold isCommit; simp [hk]
        have HOk := Aside0.mk hok
        have hkb : (x.f0 == 1) = true := by rw [hk]; rfl
        clear hk hok
        have hlen1 : ((al.take i).filter isCommit).length ≤ 20 := by have h1 := HL.out; have h2 := List.length_filter_le isCommit (al.take i); rw [List.length_take] at h2; omega
        have HLn := Aside0.mk hlen1
        clear hlen1
        go_wp2_with ((with_reducible refine gate_builtin (b := .append) (xs := #[.tmp 41, .tmp 46]) rfl ?_); at_builtin; refine Coll_append k83 (B := w1) rfl (.tmp 41) (.tmp 46) 75 83 (.agg #[(.int .i64 0), (.slice none 0 0), (.string ⟨#[]⟩), (.int .i64 0)]) 56 rfl Try.underlying75 info83 rfl (by decide) (by omega) _ _ x [.int .i64 x.f0, .slice B1 x.f1.length d1, .string x.f2, .int .i64 x.f3] rfl (by first | (go_simp; done) | (go_simp; rfl)) HCX.out hF.out hW.out (by have := HLn.out; omega) ?_; intro v2 wA ho hb hg; have HF2 := Aside0.mk ho; have HBA := Aside0.mk hb; clear ho hb hg)
        go_roundg (gk - 1)
        case measure => have := hK.out; omega
        case rel => exact ⟨i + 1, by go_num, ⟨by have := hK.out; omega⟩, ⟨by rw [List.take_succ_eq_append_getElem hlt, ← HX.out, List.filter_append, List.filter_cons_of_pos HOk.out]; exact HF2.out⟩, HBA⟩
      · have hok : ¬ isCommit x = true := by unfold isCommit; simp [hk]
        have hkb : (x.f0 == 1) = false := beq_eq_false_iff_ne.2 hk
        have hN2 : Aside0 ((al.take (i + 1)).filter isCommit = (al.take i).filter isCommit) := ⟨by rw [List.take_succ_eq_append_getElem hlt, ← HX.out, List.filter_append, List.filter_cons_of_neg hok]; simp⟩
        clear hk hok
        go_wp2
        go_roundg (gk - 1)
        case measure => have := hK.out; omega
        case rel => exact ⟨i + 1, by go_num, ⟨by have := hK.out; omega⟩, ⟨by rw [hN2.out]; exact hF.out⟩, hW⟩
    · have hE : Aside0 ((al.take i).filter isCommit = xs) := ⟨by rw [List.take_of_length_le (by omega)]; exact HXs.out.symm⟩
      have hb1 : ¬ (i : Int) < (al.length : Int) := by omega
      have hb2 : decide ((i : Int) < (al.length : Int)) = false := decide_eq_false hb1
      have hF2 := hF.out
      rw [hE.out] at hF2
      obtain ⟨A7, c7, rfl, k7, g7⟩ := hF2.reads hW.out
      have HC7 := Aside0.mk (And.intro k7 g7)
      have HBr := Aside0.mk (S0.out.trans (hW.out.mono S0.out.size))
      clear hlt hF2 hE k7 g7 hF
      go_upto_region 9 with (go_at_call 48; refine (HSt A7 c7 wr HC7.out.2 HC7.out.1).out.mono ?_; rintro e w8 ⟨A8, c8, Ab, cb, rfl, k6, g6, k7, g7, hb⟩; rw [GB.out] at k7 g7 ⊢; rw [← HTs.out] at g6; have E8 := Aside0.mk (And.intro k7 g7); have HC8 := Aside0.mk g6; have S8 := Aside0.mk hb; clear hb k6 g6 k7 g7)
      clear HSt hb1 hb2
      obtain ⟨hw1, hw2, hw3, hw4⟩ := HW.out
      go_upto_region 12 with (go_at_call 31; refine (HPk w8).out.mono ?_; rintro e w9 ⟨rfl, hb⟩; have S9 := Aside0.mk hb; clear hb)
      clear HPk
      go_upto_region 13 with (go_at_call 31; refine (HPm w9).out.mono ?_; rintro e w10 ⟨rfl, hb⟩; have S10 := Aside0.mk hb; clear hb)
      clear HPm hw1 hw2 hw3 hw4
      have HKs := HKb.out
      have b8 := S9.out.trans (S10.out.mono S9.out.size)
      have E10 := Aside0.mk (Kd.C_below E8.out.2 b8)
      have HTa : Aside0 (Kd.C (Kd.int .u8) w10 Ab k ba) := ⟨by have h2 := Kd.C_take E10.out HKs.1; rw [← HBa.out.1, HLa.out.1] at h2; exact h2⟩
      have hcb : (k : Int) ≤ (cb : Int) := by have := E8.out.1; omega
      have hk0 : (0 : Int) ≤ (k : Int) := by omega
      have HBa12 := Aside0.mk (show ba.length ≤ 1200 by have := HBl.out; rw [HLa.out.1]; omega)
      have HBb12 := Aside0.mk (show bb.length ≤ 1200 by have := HBl.out; rw [HLa.out.2]; omega)
      clear HKs
      go_upto_region 14 with (first
        | ((with_reducible refine gate_builtin (b := .append) (xs := #[.const _, .tmp 73]) rfl ?_); at_builtin; refine Kd.R_append_rows (Kd.int .u8) (w0 := w10) w10.heap.size rfl (.const (.slice none 0 0)) (.tmp 73) 25 5 (.int .u8 0) 1 rfl Try.underlying25 info5u rfl (by decide) (by omega) (.slice none 0 0) ([] : List Int) ba _ _ _ (fun _ => True) (fun _ => False) rfl rfl (Kd.R_nil _ _ _ _ _) HTa.out (fun x cs h => h) (fun _ h => h.elim) (fun _ _ => trivial) (Below.refl _ _) (Nat.le_refl _) (by have := HBa12.out; simp; rw [HLa.out.1] at this; omega) ?_; intro v1 wa ho hb _ _; obtain ⟨Aa, ca, rfl, _, _⟩ := Kd.R_reads ho; have HRa1 := Aside0.mk ho; have HBa1 := Aside0.mk hb; clear ho hb)
        | (go_at_call 50; refine (HRa Aa ca wa (Kd.R_reads' HRa1.out).2.2 (Kd.R_reads' HRa1.out).2.1).out.mono ?_; rintro e w11 ⟨AX, cX, rfl, k13, g13, hb⟩; have HCX := Aside0.mk (And.intro k13 g13); have S11 := Aside0.mk (HBa1.out.trans (hb.mono HBa1.out.size)); clear hb k13 g13))
      clear HRa HRa1 HBa1 hcb
      have HTb : Aside0 (Kd.C (Kd.int .u8) w11 Ab (k + d) bb) := ⟨by have h2 := Kd.C_take (Kd.C_below E10.out S11.out) HKb.out.2; rw [← HBa.out.2, HLa.out.2] at h2; exact h2⟩
      have hcb : (k : Int) + (d : Int) ≤ (cb : Int) := by have := E8.out.1; have := HKb.out.2; omega
      have hk0 : (0 : Int) ≤ (k : Int) + (d : Int) := by omega
      have hkn : ((k : Int) + (d : Int)).toNat = k + d := by omega
      go_upto_region 15 with (first
        | ((with_reducible refine gate_builtin (b := .append) (xs := #[.const _, .tmp 82]) rfl ?_); at_builtin; refine Kd.R_append_rows (Kd.int .u8) (w0 := w11) w11.heap.size rfl (.const (.slice none 0 0)) (.tmp 82) 25 5 (.int .u8 0) 1 rfl Try.underlying25 info5u rfl (by decide) (by omega) (.slice none 0 0) ([] : List Int) bb _ _ _ (fun _ => True) (fun _ => False) rfl rfl (Kd.R_nil _ _ _ _ _) HTb.out (fun x cs h => h) (fun _ h => h.elim) (fun _ _ => trivial) (Below.refl _ _) (Nat.le_refl _) (by have := HBb12.out; simp; rw [HLa.out.2] at this; omega) ?_; intro v1 wa ho hb _ _; obtain ⟨Aa, ca, rfl, _, _⟩ := Kd.R_reads ho; have HRa1 := Aside0.mk ho; have HBa1 := Aside0.mk hb; clear ho hb)
        | (go_at_call 50; refine (HRb Aa ca wa (Kd.R_reads' HRa1.out).2.2 (Kd.R_reads' HRa1.out).2.1).out.mono ?_; rintro e w12 ⟨AY, cY, rfl, k13, g13, hb⟩; have HCY := Aside0.mk (And.intro k13 g13); have S12 := Aside0.mk (HBa1.out.trans (hb.mono HBa1.out.size)); clear hb k13 g13))
      clear HRb HRa1 HBa1 hcb hk0 hkn
      have hn1 : ¬ (ub : Int) < (ua : Int) := by have := HUs.out; omega
      have hn2 : ¬ (k : Int) < (ua : Int) := by have := HUs.out; omega
      have hg1 : decide ((ub : Int) < (ua : Int)) = false := decide_eq_false (by have := HUs.out; omega)
      have hg2 : decide ((k : Int) < (ua : Int)) = false := decide_eq_false (by have := HUs.out; omega)
      have b10 := S11.out.trans (S12.out.mono S11.out.size)
      have b8' := b8.trans (b10.mono b8.size)
      have b7 := S8.out.trans (b8'.mono S8.out.size)
      have bw := hW.out.trans (b7.mono hW.out.size)
      have F7 := Aside0.mk (And.intro HC7.out.1 (Kd.C_below HC7.out.2 b7))
      have F8 := Aside0.mk (Kd.C_below HC8.out b8')
      have FX := Aside0.mk (And.intro HCX.out.1 (Kd.C_below HCX.out.2 S12.out))
      have FY := HCY
      have HEnd := Aside0.mk (HBr.out.trans (b7.mono HBr.out.size))
      clear b8 b10 b8' b7 bw S8 S9 S10 S11 S12 HTa HTb E8 E10 HC7 HC8 HCX HBr HC1 hW hk0
      go_upto_region 17 with (fail)
      clear hn1 hn2 hg1 hg2
      go_wp2
      go_loopg [21, 22, 23, 24] (xs.length + 1) (fun kq v21 v22 v23 v24 wr2 => ∃ (i : Nat) (A : Option Addr) (c : Nat) (f g : Int), v24 = .int .i64 i ∧ v22 = .int .i64 f ∧ v23 = .int .i64 g ∧ v21 = .slice A (now i).length c ∧ Aside0 (kq + i = xs.length + 1) ∧ Aside0 (FirstI now X i f) ∧ Aside0 (LastI now Y i g) ∧ Aside0 ((now i).length ≤ c ∧ Kd.C k67 wr2 A (now i).length (now i)) ∧ Aside0 (Below w12.heap.size w12 wr2))
      case atStart => exact ⟨0, none, 0, -1, -1, rfl, rfl, rfl, by rw [HN0.out]; rfl, ⟨by omega⟩, ⟨FirstI.start _ _⟩, ⟨LastI.start _ _⟩, ⟨by rw [HN0.out]; exact ⟨Nat.le_refl _, Kd.C_nil _ _⟩⟩, ⟨Below.refl _ _⟩⟩
      case round =>
        obtain ⟨i, Aw, cw, f, g, rfl, rfl, rfl, rfl, hK2, HFi, HLi, HC, hW2⟩ := hrel
        by_cases hlt : i ≤ xs.length
        · have hb1 : (i : Int) ≤ (xs.length : Int) := by omega
          have hbd : decide ((i : Int) ≤ (xs.length : Int)) = true := decide_eq_true hb1
          have hwi : IntKind.i64.wrap ((i : Int) + 1) = (i : Int) + 1 := by have := HLf.out; rw [IntKind.wrap_i64]; omega
          have hgd := HGood.out i
          have hc0 := HC.out
          obtain ⟨N1, hN1⟩ : ∃ N1, N1 = now i := ⟨_, rfl⟩
          rw [← hN1] at hgd hc0 ⊢
          obtain ⟨N2, hN2⟩ : ∃ N2, N2 = now (i + 1) := ⟨_, rfl⟩
          have HN1 := Aside0.mk hN1
          have HN2 := Aside0.mk hN2
          have HGd := Aside0.mk hgd
          have HC0 := Aside0.mk hc0
          have HNm := Aside0.mk (show N1.length ≤ 1000000 by have := hgd.room; omega)
          have tok1 : True := trivial
          clear hN1 hN2 hgd hc0 HC
          have hcases : ∃ F' : Int, ((N1 = X ∧ f = -1 ∧ F' = (i : Int)) ∨ (N1 = X ∧ (∃ q : Nat, f = q ∧ F' = q)) ∨ (N1 ≠ X ∧ F' = f)) ∧ FirstI now X (i + 1) F' := by
            by_cases hq : N1 = X
            · rcases id HFi.out with ⟨rfl, _⟩ | ⟨q, rfl, _⟩
              · exact ⟨i, .inl ⟨hq, rfl, rfl⟩, HFi.out.new⟩
              · exact ⟨q, .inr (.inl ⟨hq, q, rfl, rfl⟩), HFi.out.old⟩
            · exact ⟨f, .inr (.inr ⟨hq, rfl⟩), HFi.out.not (by rw [← HN1.out]; exact hq)⟩
          have lcases : ∃ L' : Int, ((N1 = Y ∧ L' = (i : Int)) ∨ (N1 ≠ Y ∧ L' = g)) ∧ LastI now Y (i + 1) L' := by
            by_cases hq : N1 = Y
            · exact ⟨i, .inl ⟨hq, rfl⟩, LastI.new i⟩
            · exact ⟨g, .inr ⟨hq, rfl⟩, HLi.out.not (by rw [← HN1.out]; exact hq)⟩
          obtain ⟨F', hF', HF'⟩ := hcases
          obtain ⟨L', hL', HL'⟩ := lcases
          have HFn := Aside0.mk HF'
          have HLn := Aside0.mk HL'
          clear HF' HL' HFi HLi
          by_cases hi : i < xs.length
          · have hi1 : (i : Int) < (xs.length : Int) := by omega
            have hi0 : (0 : Int) ≤ (i : Int) := by omega
            have hid : decide ((i : Int) < (xs.length : Int)) = true := decide_eq_true hi1
            obtain ⟨ad, B1, d1, rfl, hx0, hx1, hx2, hx3, hcx, hCx⟩ := at_T83 F7.out.2 (i : Int) hi0 hi1
            obtain ⟨adt, B2, d2, rfl, hy0, hy1, hcy, hCy⟩ := at_T81 F8.out (i : Int) hi0 (by rw [HTl.out]; exact hi1)
            have hxe : rd_T83 xs (i : Int) = xs[i] := by unfold rd_T83; simp [List.getD_eq_getElem?_getD, hi]
            obtain ⟨hst1, hst2⟩ := HStep.out i hi
            rw [hxe] at hcx hCx hx1
            rw [hst1] at hy0
            rw [Int.toNat_natCast] at hx1 hy0
            have hk1 := HCm.out xs[i] (List.getElem_mem hi)
            have hr4 := HRf.out xs[i] (List.getElem_mem hi)
            obtain ⟨x, hx⟩ : ∃ x, x = xs[i] := ⟨_, rfl⟩
            rw [← hx] at hcx hCx hx1 hst1 hst2 hy0 hk1 hr4
            have hT1 : tableOf (logOf (xs.take i)) = N1 := by rw [HN1.out, HNowI.out]
            rw [← HN2.out] at hst2
            have HX1 := Aside0.mk (And.intro hcx hCx)
            have HY0 := Aside0.mk (And.intro hy0 hx1)
            by_cases h0 : (doS x (logOf (xs.take i))).1.f0 = 0
            · have h2 := step_commit x _ hk1 h0
              have h3 := fault_parts h2.1
              rw [hT1] at h2 h3
              have HE := Aside0.mk (hst2.trans h2.2)
              have HBeh := fun w h k => Aside0.mk (behind_ok Aw B1 cw d1 N1 x.f1 w h HC0.out.1 k HX1.out.1 HGd.out h3.1 (by have h8 := HGd.out.room; omega) h3.2)
              rw [h0] at hy0
              have HY0' := Aside0.mk (And.intro hy0 hx1)
              clear hxe hst1 hst2 hx hT1 h0 h2 h3 hk1 hr4 hcx hCx hx0 hx1 hx2 hx3 hy0 hy1 hcy hCy HY0
              rcases hF' with ⟨hq, rfl, rfl⟩ | ⟨hq, q, rfl, rfl⟩ | ⟨hq, rfl⟩
              · have hqd := Aside0.mk (decide_eq_true hq)
                clear hq
                rcases hL' with ⟨hq, rfl⟩ | ⟨hq, rfl⟩
                · have hyd := Aside0.mk (decide_eq_true hq)
                  clear hq
                  go_wp2_with (first | (go_at_call 43; have _t := tok1; clear _t tok1; refine (same_rows Aw AX cw cX N1 X wr HC0.out.2 HC0.out.1 (Kd.C_below FX.out.2 hW2.out) FX.out.1 HNm.out).mono ?_; rintro e w13 ⟨rfl, hb⟩; rw [hqd.out]; have B13 := Aside0.mk (hW2.out.trans (hb.mono hW2.out.size)); have HC13 := Aside0.mk (Kd.C_below HC0.out.2 hb); clear hb) | (go_at_call 43; refine (same_rows Aw AY cw cY N1 Y w13 HC13.out HC0.out.1 (Kd.C_below FY.out.2 B13.out) FY.out.1 HNm.out).mono ?_; rintro e w14 ⟨rfl, hb⟩; rw [hyd.out]; have hb14 := B13.out.trans (hb.mono B13.out.size); have B14 := Aside0.mk hb14; have HC14 := Aside0.mk (Kd.C_below HC13.out hb); have kx1 := cell_below HY0'.out.2 hb14; have ky0 := cell_below HY0'.out.1 hb14; clear hb hb14) | (go_at_call 51; refine (HBeh w14 HC14.out (Kd.C_below HX1.out.2 B14.out)).out.mono ?_; rintro e w15 ⟨A15, c15, rfl, k15, g15, hb⟩; rw [← HE.out] at k15 g15 ⊢; have B15 := Aside0.mk (B14.out.trans (hb.mono B14.out.size)); have HC15 := Aside0.mk (And.intro k15 g15); clear hb k15 g15))
                  go_roundg (gk - 1)
                  case measure => have := hK2.out; omega
                  case rel => exact ⟨i + 1, _, _, _, _, by go_num, rfl, rfl, by rw [← HN2.out], ⟨by have := hK2.out; omega⟩, HFn, HLn, ⟨by rw [← HN2.out]; exact HC15.out⟩, B15⟩
                · have hyd := Aside0.mk (decide_eq_false hq)
                  clear hq
                  go_wp2_with (first | (go_at_call 43; have _t := tok1; clear _t tok1; refine (same_rows Aw AX cw cX N1 X wr HC0.out.2 HC0.out.1 (Kd.C_below FX.out.2 hW2.out) FX.out.1 HNm.out).mono ?_; rintro e w13 ⟨rfl, hb⟩; rw [hqd.out]; have B13 := Aside0.mk (hW2.out.trans (hb.mono hW2.out.size)); have HC13 := Aside0.mk (Kd.C_below HC0.out.2 hb); clear hb) | (go_at_call 43; refine (same_rows Aw AY cw cY N1 Y w13 HC13.out HC0.out.1 (Kd.C_below FY.out.2 B13.out) FY.out.1 HNm.out).mono ?_; rintro e w14 ⟨rfl, hb⟩; rw [hyd.out]; have hb14 := B13.out.trans (hb.mono B13.out.size); have B14 := Aside0.mk hb14; have HC14 := Aside0.mk (Kd.C_below HC13.out hb); have kx1 := cell_below HY0'.out.2 hb14; have ky0 := cell_below HY0'.out.1 hb14; clear hb hb14) | (go_at_call 51; refine (HBeh w14 HC14.out (Kd.C_below HX1.out.2 B14.out)).out.mono ?_; rintro e w15 ⟨A15, c15, rfl, k15, g15, hb⟩; rw [← HE.out] at k15 g15 ⊢; have B15 := Aside0.mk (B14.out.trans (hb.mono B14.out.size)); have HC15 := Aside0.mk (And.intro k15 g15); clear hb k15 g15))
                  go_roundg (gk - 1)
                  case measure => have := hK2.out; omega
                  case rel => exact ⟨i + 1, _, _, _, _, by go_num, rfl, rfl, by rw [← HN2.out], ⟨by have := hK2.out; omega⟩, HFn, HLn, ⟨by rw [← HN2.out]; exact HC15.out⟩, B15⟩
              · have hqd := Aside0.mk (decide_eq_true hq)
                have hn0 : ¬ (q : Int) < 0 := by omega
                have hnd : decide ((q : Int) < 0) = false := decide_eq_false hn0
                clear hq
                rcases hL' with ⟨hq, rfl⟩ | ⟨hq, rfl⟩
                · have hyd := Aside0.mk (decide_eq_true hq)
                  clear hq
                  go_wp2_with (first | (go_at_call 43; have _t := tok1; clear _t tok1; refine (same_rows Aw AX cw cX N1 X wr HC0.out.2 HC0.out.1 (Kd.C_below FX.out.2 hW2.out) FX.out.1 HNm.out).mono ?_; rintro e w13 ⟨rfl, hb⟩; rw [hqd.out]; have B13 := Aside0.mk (hW2.out.trans (hb.mono hW2.out.size)); have HC13 := Aside0.mk (Kd.C_below HC0.out.2 hb); clear hb) | (go_at_call 43; refine (same_rows Aw AY cw cY N1 Y w13 HC13.out HC0.out.1 (Kd.C_below FY.out.2 B13.out) FY.out.1 HNm.out).mono ?_; rintro e w14 ⟨rfl, hb⟩; rw [hyd.out]; have hb14 := B13.out.trans (hb.mono B13.out.size); have B14 := Aside0.mk hb14; have HC14 := Aside0.mk (Kd.C_below HC13.out hb); have kx1 := cell_below HY0'.out.2 hb14; have ky0 := cell_below HY0'.out.1 hb14; clear hb hb14) | (go_at_call 51; refine (HBeh w14 HC14.out (Kd.C_below HX1.out.2 B14.out)).out.mono ?_; rintro e w15 ⟨A15, c15, rfl, k15, g15, hb⟩; rw [← HE.out] at k15 g15 ⊢; have B15 := Aside0.mk (B14.out.trans (hb.mono B14.out.size)); have HC15 := Aside0.mk (And.intro k15 g15); clear hb k15 g15))
                  go_roundg (gk - 1)
                  case measure => have := hK2.out; omega
                  case rel => exact ⟨i + 1, _, _, _, _, by go_num, rfl, rfl, by rw [← HN2.out], ⟨by have := hK2.out; omega⟩, HFn, HLn, ⟨by rw [← HN2.out]; exact HC15.out⟩, B15⟩
                · have hyd := Aside0.mk (decide_eq_false hq)
                  clear hq
                  go_wp2_with (first | (go_at_call 43; have _t := tok1; clear _t tok1; refine (same_rows Aw AX cw cX N1 X wr HC0.out.2 HC0.out.1 (Kd.C_below FX.out.2 hW2.out) FX.out.1 HNm.out).mono ?_; rintro e w13 ⟨rfl, hb⟩; rw [hqd.out]; have B13 := Aside0.mk (hW2.out.trans (hb.mono hW2.out.size)); have HC13 := Aside0.mk (Kd.C_below HC0.out.2 hb); clear hb) | (go_at_call 43; refine (same_rows Aw AY cw cY N1 Y w13 HC13.out HC0.out.1 (Kd.C_below FY.out.2 B13.out) FY.out.1 HNm.out).mono ?_; rintro e w14 ⟨rfl, hb⟩; rw [hyd.out]; have hb14 := B13.out.trans (hb.mono B13.out.size); have B14 := Aside0.mk hb14; have HC14 := Aside0.mk (Kd.C_below HC13.out hb); have kx1 := cell_below HY0'.out.2 hb14; have ky0 := cell_below HY0'.out.1 hb14; clear hb hb14) | (go_at_call 51; refine (HBeh w14 HC14.out (Kd.C_below HX1.out.2 B14.out)).out.mono ?_; rintro e w15 ⟨A15, c15, rfl, k15, g15, hb⟩; rw [← HE.out] at k15 g15 ⊢; have B15 := Aside0.mk (B14.out.trans (hb.mono B14.out.size)); have HC15 := Aside0.mk (And.intro k15 g15); clear hb k15 g15))
                  go_roundg (gk - 1)
                  case measure => have := hK2.out; omega
                  case rel => exact ⟨i + 1, _, _, _, _, by go_num, rfl, rfl, by rw [← HN2.out], ⟨by have := hK2.out; omega⟩, HFn, HLn, ⟨by rw [← HN2.out]; exact HC15.out⟩, B15⟩
              · have hqd := Aside0.mk (decide_eq_false hq)
                clear hq
                rcases hL' with ⟨hq, rfl⟩ | ⟨hq, rfl⟩
                · have hyd := Aside0.mk (decide_eq_true hq)
                  clear hq
                  go_wp2_with (first | (go_at_call 43; have _t := tok1; clear _t tok1; refine (same_rows Aw AX cw cX N1 X wr HC0.out.2 HC0.out.1 (Kd.C_below FX.out.2 hW2.out) FX.out.1 HNm.out).mono ?_; rintro e w13 ⟨rfl, hb⟩; rw [hqd.out]; have B13 := Aside0.mk (hW2.out.trans (hb.mono hW2.out.size)); have HC13 := Aside0.mk (Kd.C_below HC0.out.2 hb); clear hb) | (go_at_call 43; refine (same_rows Aw AY cw cY N1 Y w13 HC13.out HC0.out.1 (Kd.C_below FY.out.2 B13.out) FY.out.1 HNm.out).mono ?_; rintro e w14 ⟨rfl, hb⟩; rw [hyd.out]; have hb14 := B13.out.trans (hb.mono B13.out.size); have B14 := Aside0.mk hb14; have HC14 := Aside0.mk (Kd.C_below HC13.out hb); have kx1 := cell_below HY0'.out.2 hb14; have ky0 := cell_below HY0'.out.1 hb14; clear hb hb14) | (go_at_call 51; refine (HBeh w14 HC14.out (Kd.C_below HX1.out.2 B14.out)).out.mono ?_; rintro e w15 ⟨A15, c15, rfl, k15, g15, hb⟩; rw [← HE.out] at k15 g15 ⊢; have B15 := Aside0.mk (B14.out.trans (hb.mono B14.out.size)); have HC15 := Aside0.mk (And.intro k15 g15); clear hb k15 g15))
                  go_roundg (gk - 1)
                  case measure => have := hK2.out; omega
                  case rel => exact ⟨i + 1, _, _, _, _, by go_num, rfl, rfl, by rw [← HN2.out], ⟨by have := hK2.out; omega⟩, HFn, HLn, ⟨by rw [← HN2.out]; exact HC15.out⟩, B15⟩
                · have hyd := Aside0.mk (decide_eq_false hq)
                  clear hq
                  go_wp2_with (first | (go_at_call 43; have _t := tok1; clear _t tok1; refine (same_rows Aw AX cw cX N1 X wr HC0.out.2 HC0.out.1 (Kd.C_below FX.out.2 hW2.out) FX.out.1 HNm.out).mono ?_; rintro e w13 ⟨rfl, hb⟩; rw [hqd.out]; have B13 := Aside0.mk (hW2.out.trans (hb.mono hW2.out.size)); have HC13 := Aside0.mk (Kd.C_below HC0.out.2 hb); clear hb) | (go_at_call 43; refine (same_rows Aw AY cw cY N1 Y w13 HC13.out HC0.out.1 (Kd.C_below FY.out.2 B13.out) FY.out.1 HNm.out).mono ?_; rintro e w14 ⟨rfl, hb⟩; rw [hyd.out]; have hb14 := B13.out.trans (hb.mono B13.out.size); have B14 := Aside0.mk hb14; have HC14 := Aside0.mk (Kd.C_below HC13.out hb); have kx1 := cell_below HY0'.out.2 hb14; have ky0 := cell_below HY0'.out.1 hb14; clear hb hb14) | (go_at_call 51; refine (HBeh w14 HC14.out (Kd.C_below HX1.out.2 B14.out)).out.mono ?_; rintro e w15 ⟨A15, c15, rfl, k15, g15, hb⟩; rw [← HE.out] at k15 g15 ⊢; have B15 := Aside0.mk (B14.out.trans (hb.mono B14.out.size)); have HC15 := Aside0.mk (And.intro k15 g15); clear hb k15 g15))
                  go_roundg (gk - 1)
                  case measure => have := hK2.out; omega
                  case rel => exact ⟨i + 1, _, _, _, _, by go_num, rfl, rfl, by rw [← HN2.out], ⟨by have := hK2.out; omega⟩, HFn, HLn, ⟨by rw [← HN2.out]; exact HC15.out⟩, B15⟩
            · have hE : N2 = N1 := by rw [hst2, step_refused x _ hk1 h0, hT1]
              have hyb : ((doS x (logOf (xs.take i))).1.f0 == 0) = false := beq_eq_false_iff_ne.2 h0
              obtain ⟨yc, hyc⟩ : ∃ yc, yc = (doS x (logOf (xs.take i))).1.f0 := ⟨_, rfl⟩
              rw [← hyc] at hyb hy0
              have HY0' := Aside0.mk hy0
              clear hxe hst1 hst2 hx hT1 h0 hk1 hr4 hcx hCx hx0 hx1 hx2 hx3 hy0 hy1 hcy hCy HY0 hyc
              subst hE
              rcases hF' with ⟨hq, rfl, rfl⟩ | ⟨hq, q, rfl, rfl⟩ | ⟨hq, rfl⟩
              · have hqd := Aside0.mk (decide_eq_true hq)
                clear hq
                rcases hL' with ⟨hq, rfl⟩ | ⟨hq, rfl⟩
                · have hyd := Aside0.mk (decide_eq_true hq)
                  clear hq
                  go_wp2_with (first | (go_at_call 43; have _t := tok1; clear _t tok1; refine (same_rows Aw AX cw cX N2 X wr HC0.out.2 HC0.out.1 (Kd.C_below FX.out.2 hW2.out) FX.out.1 HNm.out).mono ?_; rintro e w13 ⟨rfl, hb⟩; rw [hqd.out]; have B13 := Aside0.mk (hW2.out.trans (hb.mono hW2.out.size)); have HC13 := Aside0.mk (Kd.C_below HC0.out.2 hb); clear hb) | (go_at_call 43; refine (same_rows Aw AY cw cY N2 Y w13 HC13.out HC0.out.1 (Kd.C_below FY.out.2 B13.out) FY.out.1 HNm.out).mono ?_; rintro e w14 ⟨rfl, hb⟩; rw [hyd.out]; have hb14 := B13.out.trans (hb.mono B13.out.size); have B14 := Aside0.mk hb14; have HC14 := Aside0.mk (Kd.C_below HC13.out hb); have ky0 := cell_below HY0'.out hb14; clear hb hb14))
                  go_roundg (gk - 1)
                  case measure => have := hK2.out; omega
                  case rel => exact ⟨i + 1, _, _, _, _, by go_num, rfl, rfl, by rw [← HN2.out], ⟨by have := hK2.out; omega⟩, HFn, HLn, ⟨by rw [← HN2.out]; exact ⟨HC0.out.1, HC14.out⟩⟩, B14⟩
                · have hyd := Aside0.mk (decide_eq_false hq)
                  clear hq
                  go_wp2_with (first | (go_at_call 43; have _t := tok1; clear _t tok1; refine (same_rows Aw AX cw cX N2 X wr HC0.out.2 HC0.out.1 (Kd.C_below FX.out.2 hW2.out) FX.out.1 HNm.out).mono ?_; rintro e w13 ⟨rfl, hb⟩; rw [hqd.out]; have B13 := Aside0.mk (hW2.out.trans (hb.mono hW2.out.size)); have HC13 := Aside0.mk (Kd.C_below HC0.out.2 hb); clear hb) | (go_at_call 43; refine (same_rows Aw AY cw cY N2 Y w13 HC13.out HC0.out.1 (Kd.C_below FY.out.2 B13.out) FY.out.1 HNm.out).mono ?_; rintro e w14 ⟨rfl, hb⟩; rw [hyd.out]; have hb14 := B13.out.trans (hb.mono B13.out.size); have B14 := Aside0.mk hb14; have HC14 := Aside0.mk (Kd.C_below HC13.out hb); have ky0 := cell_below HY0'.out hb14; clear hb hb14))
                  go_roundg (gk - 1)
                  case measure => have := hK2.out; omega
                  case rel => exact ⟨i + 1, _, _, _, _, by go_num, rfl, rfl, by rw [← HN2.out], ⟨by have := hK2.out; omega⟩, HFn, HLn, ⟨by rw [← HN2.out]; exact ⟨HC0.out.1, HC14.out⟩⟩, B14⟩
              · have hqd := Aside0.mk (decide_eq_true hq)
                have hn0 : ¬ (q : Int) < 0 := by omega
                have hnd : decide ((q : Int) < 0) = false := decide_eq_false hn0
                clear hq
                rcases hL' with ⟨hq, rfl⟩ | ⟨hq, rfl⟩
                · have hyd := Aside0.mk (decide_eq_true hq)
                  clear hq
                  go_wp2_with (first | (go_at_call 43; have _t := tok1; clear _t tok1; refine (same_rows Aw AX cw cX N2 X wr HC0.out.2 HC0.out.1 (Kd.C_below FX.out.2 hW2.out) FX.out.1 HNm.out).mono ?_; rintro e w13 ⟨rfl, hb⟩; rw [hqd.out]; have B13 := Aside0.mk (hW2.out.trans (hb.mono hW2.out.size)); have HC13 := Aside0.mk (Kd.C_below HC0.out.2 hb); clear hb) | (go_at_call 43; refine (same_rows Aw AY cw cY N2 Y w13 HC13.out HC0.out.1 (Kd.C_below FY.out.2 B13.out) FY.out.1 HNm.out).mono ?_; rintro e w14 ⟨rfl, hb⟩; rw [hyd.out]; have hb14 := B13.out.trans (hb.mono B13.out.size); have B14 := Aside0.mk hb14; have HC14 := Aside0.mk (Kd.C_below HC13.out hb); have ky0 := cell_below HY0'.out hb14; clear hb hb14))
                  go_roundg (gk - 1)
                  case measure => have := hK2.out; omega
                  case rel => exact ⟨i + 1, _, _, _, _, by go_num, rfl, rfl, by rw [← HN2.out], ⟨by have := hK2.out; omega⟩, HFn, HLn, ⟨by rw [← HN2.out]; exact ⟨HC0.out.1, HC14.out⟩⟩, B14⟩
                · have hyd := Aside0.mk (decide_eq_false hq)
                  clear hq
                  go_wp2_with (first | (go_at_call 43; have _t := tok1; clear _t tok1; refine (same_rows Aw AX cw cX N2 X wr HC0.out.2 HC0.out.1 (Kd.C_below FX.out.2 hW2.out) FX.out.1 HNm.out).mono ?_; rintro e w13 ⟨rfl, hb⟩; rw [hqd.out]; have B13 := Aside0.mk (hW2.out.trans (hb.mono hW2.out.size)); have HC13 := Aside0.mk (Kd.C_below HC0.out.2 hb); clear hb) | (go_at_call 43; refine (same_rows Aw AY cw cY N2 Y w13 HC13.out HC0.out.1 (Kd.C_below FY.out.2 B13.out) FY.out.1 HNm.out).mono ?_; rintro e w14 ⟨rfl, hb⟩; rw [hyd.out]; have hb14 := B13.out.trans (hb.mono B13.out.size); have B14 := Aside0.mk hb14; have HC14 := Aside0.mk (Kd.C_below HC13.out hb); have ky0 := cell_below HY0'.out hb14; clear hb hb14))
                  go_roundg (gk - 1)
                  case measure => have := hK2.out; omega
                  case rel => exact ⟨i + 1, _, _, _, _, by go_num, rfl, rfl, by rw [← HN2.out], ⟨by have := hK2.out; omega⟩, HFn, HLn, ⟨by rw [← HN2.out]; exact ⟨HC0.out.1, HC14.out⟩⟩, B14⟩
              · have hqd := Aside0.mk (decide_eq_false hq)
                clear hq
                rcases hL' with ⟨hq, rfl⟩ | ⟨hq, rfl⟩
                · have hyd := Aside0.mk (decide_eq_true hq)
                  clear hq
                  go_wp2_with (first | (go_at_call 43; have _t := tok1; clear _t tok1; refine (same_rows Aw AX cw cX N2 X wr HC0.out.2 HC0.out.1 (Kd.C_below FX.out.2 hW2.out) FX.out.1 HNm.out).mono ?_; rintro e w13 ⟨rfl, hb⟩; rw [hqd.out]; have B13 := Aside0.mk (hW2.out.trans (hb.mono hW2.out.size)); have HC13 := Aside0.mk (Kd.C_below HC0.out.2 hb); clear hb) | (go_at_call 43; refine (same_rows Aw AY cw cY N2 Y w13 HC13.out HC0.out.1 (Kd.C_below FY.out.2 B13.out) FY.out.1 HNm.out).mono ?_; rintro e w14 ⟨rfl, hb⟩; rw [hyd.out]; have hb14 := B13.out.trans (hb.mono B13.out.size); have B14 := Aside0.mk hb14; have HC14 := Aside0.mk (Kd.C_below HC13.out hb); have ky0 := cell_below HY0'.out hb14; clear hb hb14))
                  go_roundg (gk - 1)
                  case measure => have := hK2.out; omega
                  case rel => exact ⟨i + 1, _, _, _, _, by go_num, rfl, rfl, by rw [← HN2.out], ⟨by have := hK2.out; omega⟩, HFn, HLn, ⟨by rw [← HN2.out]; exact ⟨HC0.out.1, HC14.out⟩⟩, B14⟩
                · have hyd := Aside0.mk (decide_eq_false hq)
                  clear hq
                  go_wp2_with (first | (go_at_call 43; have _t := tok1; clear _t tok1; refine (same_rows Aw AX cw cX N2 X wr HC0.out.2 HC0.out.1 (Kd.C_below FX.out.2 hW2.out) FX.out.1 HNm.out).mono ?_; rintro e w13 ⟨rfl, hb⟩; rw [hqd.out]; have B13 := Aside0.mk (hW2.out.trans (hb.mono hW2.out.size)); have HC13 := Aside0.mk (Kd.C_below HC0.out.2 hb); clear hb) | (go_at_call 43; refine (same_rows Aw AY cw cY N2 Y w13 HC13.out HC0.out.1 (Kd.C_below FY.out.2 B13.out) FY.out.1 HNm.out).mono ?_; rintro e w14 ⟨rfl, hb⟩; rw [hyd.out]; have hb14 := B13.out.trans (hb.mono B13.out.size); have B14 := Aside0.mk hb14; have HC14 := Aside0.mk (Kd.C_below HC13.out hb); have ky0 := cell_below HY0'.out hb14; clear hb hb14))
                  go_roundg (gk - 1)
                  case measure => have := hK2.out; omega
                  case rel => exact ⟨i + 1, _, _, _, _, by go_num, rfl, rfl, by rw [← HN2.out], ⟨by have := hK2.out; omega⟩, HFn, HLn, ⟨by rw [← HN2.out]; exact ⟨HC0.out.1, HC14.out⟩⟩, B14⟩
          · have hi1 : ¬ (i : Int) < (xs.length : Int) := by omega
            have hid : decide ((i : Int) < (xs.length : Int)) = false := decide_eq_false hi1
            have hE : N2 = N1 := by rw [HN2.out, HN1.out, HNowI.out, HNowI.out, List.take_of_length_le (by omega), List.take_of_length_le (by omega)]
            clear hi
            subst hE
            rcases hF' with ⟨hq, rfl, rfl⟩ | ⟨hq, q, rfl, rfl⟩ | ⟨hq, rfl⟩
            · have hqd := Aside0.mk (decide_eq_true hq)
              clear hq
              rcases hL' with ⟨hq, rfl⟩ | ⟨hq, rfl⟩
              · have hyd := Aside0.mk (decide_eq_true hq)
                clear hq
                go_wp2_with (first | (go_at_call 43; have _t := tok1; clear _t tok1; refine (same_rows Aw AX cw cX N2 X wr HC0.out.2 HC0.out.1 (Kd.C_below FX.out.2 hW2.out) FX.out.1 HNm.out).mono ?_; rintro e w13 ⟨rfl, hb⟩; rw [hqd.out]; have B13 := Aside0.mk (hW2.out.trans (hb.mono hW2.out.size)); have HC13 := Aside0.mk (Kd.C_below HC0.out.2 hb); clear hb) | (go_at_call 43; refine (same_rows Aw AY cw cY N2 Y w13 HC13.out HC0.out.1 (Kd.C_below FY.out.2 B13.out) FY.out.1 HNm.out).mono ?_; rintro e w14 ⟨rfl, hb⟩; rw [hyd.out]; have hb14 := B13.out.trans (hb.mono B13.out.size); have B14 := Aside0.mk hb14; have HC14 := Aside0.mk (Kd.C_below HC13.out hb); clear hb hb14))
                go_roundg (gk - 1)
                case measure => have := hK2.out; omega
                case rel => exact ⟨i + 1, _, _, _, _, by go_num, rfl, rfl, by rw [← HN2.out], ⟨by have := hK2.out; omega⟩, HFn, HLn, ⟨by rw [← HN2.out]; exact ⟨HC0.out.1, HC14.out⟩⟩, B14⟩
              · have hyd := Aside0.mk (decide_eq_false hq)
                clear hq
                go_wp2_with (first | (go_at_call 43; have _t := tok1; clear _t tok1; refine (same_rows Aw AX cw cX N2 X wr HC0.out.2 HC0.out.1 (Kd.C_below FX.out.2 hW2.out) FX.out.1 HNm.out).mono ?_; rintro e w13 ⟨rfl, hb⟩; rw [hqd.out]; have B13 := Aside0.mk (hW2.out.trans (hb.mono hW2.out.size)); have HC13 := Aside0.mk (Kd.C_below HC0.out.2 hb); clear hb) | (go_at_call 43; refine (same_rows Aw AY cw cY N2 Y w13 HC13.out HC0.out.1 (Kd.C_below FY.out.2 B13.out) FY.out.1 HNm.out).mono ?_; rintro e w14 ⟨rfl, hb⟩; rw [hyd.out]; have hb14 := B13.out.trans (hb.mono B13.out.size); have B14 := Aside0.mk hb14; have HC14 := Aside0.mk (Kd.C_below HC13.out hb); clear hb hb14))
                go_roundg (gk - 1)
                case measure => have := hK2.out; omega
                case rel => exact ⟨i + 1, _, _, _, _, by go_num, rfl, rfl, by rw [← HN2.out], ⟨by have := hK2.out; omega⟩, HFn, HLn, ⟨by rw [← HN2.out]; exact ⟨HC0.out.1, HC14.out⟩⟩, B14⟩
            · have hqd := Aside0.mk (decide_eq_true hq)
              have hn0 : ¬ (q : Int) < 0 := by omega
              have hnd : decide ((q : Int) < 0) = false := decide_eq_false hn0
              clear hq
              rcases hL' with ⟨hq, rfl⟩ | ⟨hq, rfl⟩
              · have hyd := Aside0.mk (decide_eq_true hq)
                clear hq
                go_wp2_with (first | (go_at_call 43; have _t := tok1; clear _t tok1; refine (same_rows Aw AX cw cX N2 X wr HC0.out.2 HC0.out.1 (Kd.C_below FX.out.2 hW2.out) FX.out.1 HNm.out).mono ?_; rintro e w13 ⟨rfl, hb⟩; rw [hqd.out]; have B13 := Aside0.mk (hW2.out.trans (hb.mono hW2.out.size)); have HC13 := Aside0.mk (Kd.C_below HC0.out.2 hb); clear hb) | (go_at_call 43; refine (same_rows Aw AY cw cY N2 Y w13 HC13.out HC0.out.1 (Kd.C_below FY.out.2 B13.out) FY.out.1 HNm.out).mono ?_; rintro e w14 ⟨rfl, hb⟩; rw [hyd.out]; have hb14 := B13.out.trans (hb.mono B13.out.size); have B14 := Aside0.mk hb14; have HC14 := Aside0.mk (Kd.C_below HC13.out hb); clear hb hb14))
                go_roundg (gk - 1)
                case measure => have := hK2.out; omega
                case rel => exact ⟨i + 1, _, _, _, _, by go_num, rfl, rfl, by rw [← HN2.out], ⟨by have := hK2.out; omega⟩, HFn, HLn, ⟨by rw [← HN2.out]; exact ⟨HC0.out.1, HC14.out⟩⟩, B14⟩
              · have hyd := Aside0.mk (decide_eq_false hq)
                clear hq
                go_wp2_with (first | (go_at_call 43; have _t := tok1; clear _t tok1; refine (same_rows Aw AX cw cX N2 X wr HC0.out.2 HC0.out.1 (Kd.C_below FX.out.2 hW2.out) FX.out.1 HNm.out).mono ?_; rintro e w13 ⟨rfl, hb⟩; rw [hqd.out]; have B13 := Aside0.mk (hW2.out.trans (hb.mono hW2.out.size)); have HC13 := Aside0.mk (Kd.C_below HC0.out.2 hb); clear hb) | (go_at_call 43; refine (same_rows Aw AY cw cY N2 Y w13 HC13.out HC0.out.1 (Kd.C_below FY.out.2 B13.out) FY.out.1 HNm.out).mono ?_; rintro e w14 ⟨rfl, hb⟩; rw [hyd.out]; have hb14 := B13.out.trans (hb.mono B13.out.size); have B14 := Aside0.mk hb14; have HC14 := Aside0.mk (Kd.C_below HC13.out hb); clear hb hb14))
                go_roundg (gk - 1)
                case measure => have := hK2.out; omega
                case rel => exact ⟨i + 1, _, _, _, _, by go_num, rfl, rfl, by rw [← HN2.out], ⟨by have := hK2.out; omega⟩, HFn, HLn, ⟨by rw [← HN2.out]; exact ⟨HC0.out.1, HC14.out⟩⟩, B14⟩
            · have hqd := Aside0.mk (decide_eq_false hq)
              clear hq
              rcases hL' with ⟨hq, rfl⟩ | ⟨hq, rfl⟩
              · have hyd := Aside0.mk (decide_eq_true hq)
                clear hq
                go_wp2_with (first | (go_at_call 43; have _t := tok1; clear _t tok1; refine (same_rows Aw AX cw cX N2 X wr HC0.out.2 HC0.out.1 (Kd.C_below FX.out.2 hW2.out) FX.out.1 HNm.out).mono ?_; rintro e w13 ⟨rfl, hb⟩; rw [hqd.out]; have B13 := Aside0.mk (hW2.out.trans (hb.mono hW2.out.size)); have HC13 := Aside0.mk (Kd.C_below HC0.out.2 hb); clear hb) | (go_at_call 43; refine (same_rows Aw AY cw cY N2 Y w13 HC13.out HC0.out.1 (Kd.C_below FY.out.2 B13.out) FY.out.1 HNm.out).mono ?_; rintro e w14 ⟨rfl, hb⟩; rw [hyd.out]; have hb14 := B13.out.trans (hb.mono B13.out.size); have B14 := Aside0.mk hb14; have HC14 := Aside0.mk (Kd.C_below HC13.out hb); clear hb hb14))
                go_roundg (gk - 1)
                case measure => have := hK2.out; omega
                case rel => exact ⟨i + 1, _, _, _, _, by go_num, rfl, rfl, by rw [← HN2.out], ⟨by have := hK2.out; omega⟩, HFn, HLn, ⟨by rw [← HN2.out]; exact ⟨HC0.out.1, HC14.out⟩⟩, B14⟩
              · have hyd := Aside0.mk (decide_eq_false hq)
                clear hq
                go_wp2_with (first | (go_at_call 43; have _t := tok1; clear _t tok1; refine (same_rows Aw AX cw cX N2 X wr HC0.out.2 HC0.out.1 (Kd.C_below FX.out.2 hW2.out) FX.out.1 HNm.out).mono ?_; rintro e w13 ⟨rfl, hb⟩; rw [hqd.out]; have B13 := Aside0.mk (hW2.out.trans (hb.mono hW2.out.size)); have HC13 := Aside0.mk (Kd.C_below HC0.out.2 hb); clear hb) | (go_at_call 43; refine (same_rows Aw AY cw cY N2 Y w13 HC13.out HC0.out.1 (Kd.C_below FY.out.2 B13.out) FY.out.1 HNm.out).mono ?_; rintro e w14 ⟨rfl, hb⟩; rw [hyd.out]; have hb14 := B13.out.trans (hb.mono B13.out.size); have B14 := Aside0.mk hb14; have HC14 := Aside0.mk (Kd.C_below HC13.out hb); clear hb hb14))
                go_roundg (gk - 1)
                case measure => have := hK2.out; omega
                case rel => exact ⟨i + 1, _, _, _, _, by go_num, rfl, rfl, by rw [← HN2.out], ⟨by have := hK2.out; omega⟩, HFn, HLn, ⟨by rw [← HN2.out]; exact ⟨HC0.out.1, HC14.out⟩⟩, B14⟩
        · have hb1 : ¬ (i : Int) ≤ (xs.length : Int) := by omega
          have hbd : decide ((i : Int) ≤ (xs.length : Int)) = false := decide_eq_false hb1
          have hie : i = xs.length + 1 := by have := hK2.out; omega
          obtain ⟨ii', jj', h1, h2, h3, h4⟩ : ∃ i' j', i' ≤ j' ∧ j' ≤ xs.length ∧ now i' = X ∧ now j' = Y := ⟨ii, jj, HBoth.out⟩
          have hfl := first_last (by rw [← hie]; exact HFi.out) (by rw [← hie]; exact HLi.out) h1 h2 h3 h4
          have hf0 : (0 : Int) ≤ f := hfl.1
          have hfd : decide ((0 : Int) ≤ f) = true := decide_eq_true hf0
          have hg0 : f ≤ g := hfl.2
          have hgd : decide (f ≤ g) = true := decide_eq_true hg0
          clear hlt hie h1 h2 h3 h4 hfl HBoth
          go_wp2
          go_ret
          exact ⟨rfl, HEnd.out.trans (hW2.out.mono HEnd.out.size)⟩
end Go.Proofs.Ytmfkgbncnaingaa.Sto
