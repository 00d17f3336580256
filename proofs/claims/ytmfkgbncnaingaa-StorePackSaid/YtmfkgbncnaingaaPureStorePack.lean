/- StorePack: its walk. -/
import Derived.Test.YtmfkgbncnaingaaGStore
namespace Go.Proofs.Ytmfkgbncnaingaa.Sto
open Go.Proofs.Ytmfkgbncnaingaa.QStore (S81 S83 S114 k81 k83 k114 k83_mk k83_mkM k83_mkF k83_open rd_T83 rd_T81 rd_T114 at_T83 at_T81 at_T114 info83)
open Go.RowKit Go.Proofs.Ytmfkgbncnaingaa.Reg Go.Proofs.Ytmfkgbncnaingaa.QRows Go.Proofs.Ytmfkgbncnaingaa.Rows Go.Proofs.Ytmfkgbncnaingaa.Wal Go.Proofs.YtmfkgbncnaingaaW.PrintWords Go.Proofs.YtmfkgbncnaingaaW.PrintLast Go.Proofs.YtmfkgbncnaingaaW.PrintMore
set_option linter.unusedVariables false
set_option linter.unusedSimpArgs false

def actPack : S83 := ⟨4, [], ⟨#[]⟩, 0⟩
theorem do_pack_is (Ls : List (List S67)) : doS actPack Ls = (⟨0, []⟩, packed Ls) := by
  unfold doS actPack
  rw [if_neg (by decide), if_neg (by decide), if_neg (by decide), if_pos rfl]
theorem packed_twice {Ls : List (List S67)} (h : LI Ls) : packed (packed Ls) = packed Ls := by
  have h2 := h.packed.2
  unfold packed at h2 ⊢
  rw [h2]
set_option maxRecDepth 100000 in
set_option maxHeartbeats 8000000 in
theorem pack_walk (A0 : Option Addr) (c0 : Nat) (l : List S114) (w : World) (hr : Kd.C k114 w A0 l.length l) (hc : l.length ≤ c0) :
    Calls Try.prog 22 #[.slice A0 l.length c0] w fun e w' => e = .returned (.bool true) ∧ Below w.heap.size w w' := by
  have hu83 := Try.underlying83
  have hs : Short (actsOf l 40) := Short.acts l 40 (by decide)
  have hl : (actsOf l 40).length ≤ 40 := by unfold actsOf; rw [List.length_map, List.length_take]; show min 40 _ ≤ _; omega
  obtain ⟨xs, has⟩ : ∃ xs, xs = actsOf l 40 := ⟨_, rfl⟩
  rw [← has] at hs hl
  have HAs := Aside0.mk has
  have hLI := LI.log xs
  have hs2 := hs.snoc (by omega) (x := actPack) (by decide)
  have hl2 : (xs ++ [actPack]).length ≤ 41 := by simp; omega
  have hg2 : logOf (xs ++ [actPack]) = packed (logOf xs) := by rw [logOf_snoc, do_pack_is]
  obtain ⟨once, ho⟩ : ∃ once, once = xs ++ [actPack] := ⟨_, rfl⟩
  rw [← ho] at hs2 hl2 hg2
  have HO := Aside0.mk ho
  have hs3 := hs2.snoc (by omega) (x := actPack) (by decide)
  have hg3 : logOf (once ++ [actPack]) = packed (logOf xs) := by rw [logOf_snoc, do_pack_is, hg2]; exact packed_twice hLI
  obtain ⟨twice, ht⟩ : ∃ twice, twice = once ++ [actPack] := ⟨_, rfl⟩
  rw [← ht] at hs3 hg3
  have HTw := Aside0.mk ht
  obtain ⟨T, hT⟩ : ∃ T, T = tableOf (logOf xs) := ⟨_, rfl⟩
  have HT := Aside0.mk hT
  have hTm : T.length ≤ 1000000 := by rw [hT]; have := hLI.table.room; omega
  have HTm := Aside0.mk hTm
  have hpT : tableOf (packed (logOf xs)) = T := by rw [hLI.packed.2, hT]
  obtain ⟨Ls, hLs⟩ : ∃ Ls, Ls = packed (logOf xs) := ⟨_, rfl⟩
  have hLI2 : LI Ls := by rw [hLs]; exact hLI.packed.1
  rw [← hLs] at hg2 hg3 hpT
  obtain ⟨b, hb⟩ : ∃ b, b = bytesOfLog Ls := ⟨_, rfl⟩
  have HBl := Aside0.mk (show b.length ≤ 1200 by rw [hb]; exact hLI2.disk)
  have HL := Aside0.mk hl
  have HL2 := Aside0.mk hl2
  have HG := Aside0.mk (And.intro hg2 hg3)
  have HP := Aside0.mk hpT
  have HBy := Aside0.mk hb
  have H1 := Aside0.mk (Acts_calls A0 c0 l 40 w hr hc (by decide))
  have HAll := fun A c w h k => Aside0.mk (all_ok A c xs w h k hs (by omega))
  have HAll2 := fun A c w h k => Aside0.mk (all_ok A c once w h k hs2 (by omega))
  have HSt2 := fun A c w h k => Aside0.mk (stored_ok A c once w h k hs2)
  have HSt3 := fun A c w h k => Aside0.mk (stored_ok A c twice w h k hs3)
  have HRec := fun A c w h k => Aside0.mk (recover_ok A c Ls w hLI2 h k)
  simp only [← hb] at HRec
  clear hr hs hl has hLI hs2 hl2 hg2 ho hs3 hg3 ht hT hTm hpT hLs hLI2 hb
  go_enter Try.func22, Try.ntmps22
  go_upto_region 2 with (go_at_call 47; refine H1.out.mono ?_; rintro e w1 ⟨v, rfl, hs, hb⟩; rw [← HAs.out] at hs; obtain ⟨A1, c1, rfl, k1, g1⟩ := Kd.R_reads (Kd.S_R hs); have HC1 := Aside0.mk (And.intro k1 g1); have HB1 := Aside0.mk hb; clear hs hb k1 g1)
  clear H1
  go_upto_region 3 with (go_at_call 49; refine (HAll A1 c1 w1 HC1.out.2 HC1.out.1).out.mono ?_; rintro e w2 ⟨A2, c2, rfl, k2, g2, hb⟩; rw [← HT.out] at k2 g2 ⊢; have HC2 := Aside0.mk (And.intro k2 g2); have HB2 := Aside0.mk (HB1.out.trans (hb.mono HB1.out.size)); have HF := Aside0.mk (Kd.C_F heap83 (Kd.C_below HC1.out.2 hb)); clear hb k2 g2)
  clear HAll
  go_upto_region 4 with (first
    | ((with_reducible refine gate_builtin (b := .append) (xs := #[.const _, .tmp 25]) rfl ?_); at_builtin; refine Kd.N_append_rows k83 (w0 := w2) w2.heap.size rfl (.const (.slice none 0 0)) (.tmp 25) 75 83 (.agg #[(.int .i64 0), (.slice none 0 0), (.string ⟨#[]⟩), (.int .i64 0)]) 56 rfl Try.underlying75 info83 rfl (by decide) (by omega) (.slice none 0 0) ([] : List (S83)) xs _ _ _ (fun k_ => True) (fun k_ => k_ < w2.heap.size) rfl rfl (Kd.N_nil _ _ _ _ _) HF.out (fun k_ hk => ⟨trivial, by simp [Value.ownBlock]⟩) (fun _ _ => trivial) (Below.refl _ _) (Nat.le_refl _) (by have := HL.out; simp; omega) ?_; intro v1 w3 ho hb _ _; obtain ⟨A3, c3, rfl⟩ := Kd.N_slice ho; have HN := Aside0.mk ho; have HB3 := Aside0.mk hb; clear ho hb)
    | ((with_reducible refine gate_builtin (b := .append) (xs := #[.tmp 26, .tmp 28]) rfl ?_); at_builtin; refine Kd.N_append k83 (w0 := w2) w2.heap.size rfl (.tmp 26) (.tmp 28) 75 83 (.agg #[(.int .i64 0), (.slice none 0 0), (.string ⟨#[]⟩), (.int .i64 0)]) 56 rfl Try.underlying75 info83 rfl (by decide) (by omega) _ xs actPack [.int .i64 4, .slice none 0 0, .string (⟨#[]⟩ : ByteArray), .int .i64 0] (fun _ => True) (fun _ => False) rfl (by first | (go_simp; done) | (go_simp; rfl)) (k83_mkF _ _ actPack (Nat.le_refl _) (Kd.F_nil _ _ _)) (fun _ h => h.elim) (fun _ _ => trivial) HN.out HB3.out HB3.out.size (by have := HL.out; omega) ?_; intro v2 w4 ho hb _ _; rw [← HO.out] at ho; obtain ⟨A4, c4, rfl⟩ := Kd.N_slice ho; have HN2 := Aside0.mk ho; have HB4 := Aside0.mk hb; clear ho hb))
  have HC4 := Aside0.mk (Kd.N_reads' HN2.out).2
  clear HF HN HB3 HN2
  go_upto_region 5 with (go_at_call 49; refine (HAll2 A4 c4 w4 HC4.out.2 HC4.out.1).out.mono ?_; rintro e w5 ⟨A5, c5, rfl, k5, g5, hb⟩; rw [HG.out.1, HP.out] at k5 g5 ⊢; have HC5 := Aside0.mk (And.intro k5 g5); have HBa := Aside0.mk (HB4.out.trans (hb.mono HB4.out.size)); have HC6 := Aside0.mk (And.intro HC4.out.1 (Kd.C_below HC4.out.2 hb)); clear hb k5 g5)
  clear HAll2
  go_upto_region 6 with (go_at_call 48; refine (HSt2 A4 c4 w5 HC6.out.2 HC6.out.1).out.mono ?_; rintro e w6 ⟨A6, c6, A7, c7, rfl, k6, g6, k7, g7, hb⟩; rw [HG.out.1, ← HBy.out] at k7 g7 ⊢; have HC7 := Aside0.mk (And.intro k7 g7); have HBb := Aside0.mk (HBa.out.trans (hb.mono HBa.out.size)); have HBc := Aside0.mk (Kd.C_below HC5.out.2 hb); have HF := Aside0.mk (Kd.C_F heap83 (Kd.C_below HC6.out.2 hb)); clear hb k6 g6 k7 g7)
  clear HSt2
  go_upto_region 7 with (first
    | ((with_reducible refine gate_builtin (b := .append) (xs := #[.const _, .tmp 42]) rfl ?_); at_builtin; refine Kd.N_append_rows k83 (w0 := w6) w6.heap.size rfl (.const (.slice none 0 0)) (.tmp 42) 75 83 (.agg #[(.int .i64 0), (.slice none 0 0), (.string ⟨#[]⟩), (.int .i64 0)]) 56 rfl Try.underlying75 info83 rfl (by decide) (by omega) (.slice none 0 0) ([] : List (S83)) once _ _ _ (fun k_ => True) (fun k_ => k_ < w6.heap.size) rfl rfl (Kd.N_nil _ _ _ _ _) HF.out (fun k_ hk => ⟨trivial, by simp [Value.ownBlock]⟩) (fun _ _ => trivial) (Below.refl _ _) (Nat.le_refl _) (by have := HL2.out; simp; omega) ?_; intro v1 w7 ho hb _ _; obtain ⟨A8, c8, rfl⟩ := Kd.N_slice ho; have HN := Aside0.mk ho; have HB7 := Aside0.mk hb; clear ho hb)
    | ((with_reducible refine gate_builtin (b := .append) (xs := #[.tmp 43, .tmp 45]) rfl ?_); at_builtin; refine Kd.N_append k83 (w0 := w6) w6.heap.size rfl (.tmp 43) (.tmp 45) 75 83 (.agg #[(.int .i64 0), (.slice none 0 0), (.string ⟨#[]⟩), (.int .i64 0)]) 56 rfl Try.underlying75 info83 rfl (by decide) (by omega) _ once actPack [.int .i64 4, .slice none 0 0, .string (⟨#[]⟩ : ByteArray), .int .i64 0] (fun _ => True) (fun _ => False) rfl (by first | (go_simp; done) | (go_simp; rfl)) (k83_mkF _ _ actPack (Nat.le_refl _) (Kd.F_nil _ _ _)) (fun _ h => h.elim) (fun _ _ => trivial) HN.out HB7.out HB7.out.size (by have := HL2.out; omega) ?_; intro v2 w8 ho hb _ _; rw [← HTw.out] at ho; obtain ⟨A9, c9, rfl⟩ := Kd.N_slice ho; have HN2 := Aside0.mk ho; have HB8 := Aside0.mk hb; clear ho hb)
    | (go_at_call 48; refine (HSt3 A9 c9 w8 (Kd.N_reads' HN2.out).2.2 (Kd.N_reads' HN2.out).2.1).out.mono ?_; rintro e w9 ⟨A10, c10, A11, c11, rfl, k6, g6, k7, g7, hb⟩; rw [HG.out.2, ← HBy.out] at k7 g7 ⊢; have HC11 := Aside0.mk (And.intro k7 g7); have HB9 := Aside0.mk (HB8.out.trans (hb.mono HB8.out.size)); clear hb k6 g6 k7 g7))
  have HC7b := Aside0.mk (Kd.C_below HC7.out.2 HB9.out)
  clear HSt3 HF HN HN2 HB7 HB8
  go_upto_region 8 with (first
    | ((with_reducible refine gate_builtin (b := .append) (xs := #[.const _, .tmp 52]) rfl ?_); at_builtin; refine Kd.R_append_rows (Kd.int .u8) (w0 := w9) w9.heap.size rfl (.const (.slice none 0 0)) (.tmp 52) 25 5 (.int .u8 0) 1 rfl Try.underlying25 info5u rfl (by decide) (by omega) (.slice none 0 0) ([] : List Int) b _ _ _ (fun _ => True) (fun _ => False) rfl rfl (Kd.R_nil _ _ _ _ _) HC7b.out (fun x cs h => h) (fun _ h => h.elim) (fun _ _ => trivial) (Below.refl _ _) (Nat.le_refl _) (by have := HBl.out; simp; omega) ?_; intro v1 w10 ho hb _ _; obtain ⟨A12, c12, rfl, _, _⟩ := Kd.R_reads ho; have HR12 := Aside0.mk ho; have HB10 := Aside0.mk hb; clear ho hb)
    | (go_at_call 50; refine (HRec A12 c12 w10 (Kd.R_reads' HR12.out).2.2 (Kd.R_reads' HR12.out).2.1).out.mono ?_; rintro e w11 ⟨A13, c13, rfl, k13, g13, hb⟩; rw [HP.out] at k13 g13 ⊢; have HC13 := Aside0.mk (And.intro k13 g13); have HB11 := Aside0.mk (HB10.out.trans (hb.mono HB10.out.size)); clear hb k13 g13))
  have hb6 := HB9.out.trans (HB11.out.mono HB9.out.size)
  have hb2 := HBb.out.trans (hb6.mono HBb.out.size)
  have D2 := Aside0.mk (And.intro HC2.out.1 (Kd.C_below HC2.out.2 hb2))
  have D5 := Aside0.mk (And.intro HC5.out.1 (Kd.C_below HBc.out hb6))
  have E7 := Aside0.mk (And.intro HC7.out.1 (Kd.C_below HC7.out.2 hb6))
  have E11 := Aside0.mk (And.intro HC11.out.1 (Kd.C_below HC11.out.2 HB11.out))
  have HEnd := Aside0.mk (HB2.out.trans (hb2.mono HB2.out.size))
  have tok1 : True := trivial
  clear hb2 hb6 HC1 HB1 HB2 HB4 HC4 HC5 HC6 HC7 HC7b HC11 HB9 HB10 HB11 HRec HR12 HBa HBb HBc HC2
  go_wp2_with (first
    | (go_at_call 43; have _t := tok1; clear _t tok1; refine (same_rows A2 A5 c2 c5 T T w11 D2.out.2 D2.out.1 D5.out.2 D5.out.1 HTm.out).mono ?_; rintro e w12 ⟨rfl, hb⟩; rw [decide_eq_true rfl]; have HB12 := Aside0.mk hb; clear hb)
    | (go_at_call 43; refine (same_rows A13 A2 c13 c2 T T w12 (Kd.C_below HC13.out.2 HB12.out) HC13.out.1 (Kd.C_below D2.out.2 HB12.out) D2.out.1 HTm.out).mono ?_; rintro e w13 ⟨rfl, hb⟩; rw [decide_eq_true rfl]; have HB13 := Aside0.mk (HB12.out.trans (hb.mono HB12.out.size)); clear hb)
    | (go_at_call 30; refine (same_bytes A7 A11 c7 c11 b w13 (Kd.C_below E7.out.2 HB13.out) E7.out.1 (Kd.C_below E11.out.2 HB13.out) E11.out.1 (by have := HBl.out; omega)).mono ?_; rintro e w14 ⟨rfl, hb⟩; have HB14 := Aside0.mk (HB13.out.trans (hb.mono HB13.out.size)); clear hb))
  go_ret
  exact ⟨rfl, HEnd.out.trans (HB14.out.mono HEnd.out.size)⟩
end Go.Proofs.Ytmfkgbncnaingaa.Sto
