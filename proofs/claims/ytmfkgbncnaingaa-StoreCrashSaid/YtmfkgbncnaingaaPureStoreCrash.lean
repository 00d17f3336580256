/- StoreCrash: its walk. -/
import Derived.Test.YtmfkgbncnaingaaGStore
namespace Go.Proofs.Ytmfkgbncnaingaa.Sto
open Go.Proofs.Ytmfkgbncnaingaa.QStore (S81 S83 S114 k81 k83 k114 k83_mk k83_mkM k83_mkF k83_open rd_T83 rd_T81 rd_T114 at_T83 at_T81 at_T114 info83)
open Go.RowKit Go.Proofs.Ytmfkgbncnaingaa.Reg Go.Proofs.Ytmfkgbncnaingaa.QRows Go.Proofs.Ytmfkgbncnaingaa.Rows Go.Proofs.Ytmfkgbncnaingaa.Wal Go.Proofs.YtmfkgbncnaingaaW.PrintWords Go.Proofs.YtmfkgbncnaingaaW.PrintLast Go.Proofs.YtmfkgbncnaingaaW.PrintMore
set_option linter.unusedVariables false
set_option linter.unusedSimpArgs false

open Go.Proofs.Ytmfkgbncnaingaa.QStore in
theorem sameB_loop2 (a b : List Int) (hl : a.length = b.length) (hm : a.length ≤ 1000000) : ∀ (d i : Nat), i + d = a.length → a.take i = b.take i → bagnallkeep_sameBytes.l0 (d + 1) a b (i : Int) = some (decide (a = b)) := by
  intro d
  induction d with
  | zero =>
    intro i hi ht
    rw [bagnallkeep_sameBytes.l0, if_neg (by omega)]
    rw [List.take_of_length_le (by omega), List.take_of_length_le (by omega)] at ht
    rw [decide_eq_true ht]
  | succ d ih =>
    intro i hi ht
    have hia : i < a.length := by omega
    have hib : i < b.length := by omega
    have ea : rd a (i : Int) = a[i] := by unfold rd; simp [List.getD_eq_getElem?_getD, hia]
    have eb : rd b (i : Int) = b[i] := by unfold rd; simp [List.getD_eq_getElem?_getD, hib]
    rw [bagnallkeep_sameBytes.l0, if_pos (by omega), if_pos (by omega), if_pos (by omega), ea, eb]
    by_cases he : a[i] = b[i]
    · rw [if_pos he, show wrap64 ((i : Int) + 1) = ((i + 1 : Nat) : Int) by unfold wrap64; omega]
      exact ih (i + 1) (by omega) (by rw [List.take_succ_eq_append_getElem hia, List.take_succ_eq_append_getElem hib, ht, he])
    · rw [if_neg he, decide_eq_false (fun e => he (by subst e; rfl))]
open Go.Proofs.Ytmfkgbncnaingaa.QStore in
theorem same_bytes_is (A0 A1 : Option Addr) (c0 c1 : Nat) (a b : List Int) (w : World) (h0 : Kd.C (Kd.int .u8) w A0 a.length a) (k0 : a.length ≤ c0) (h1 : Kd.C (Kd.int .u8) w A1 b.length b) (k1 : b.length ≤ c1) (hm : a.length ≤ 1000000) :
    Calls Try.prog 30 #[.slice A0 a.length c0, .slice A1 b.length c1] w fun e w' => e = .returned (.bool (decide (a = b))) ∧ Below w.heap.size w w' := by
  have h2 : bagnallkeep_sameBytes.f (a.length + 1) a b = some (decide (a = b)) := by
    unfold bagnallkeep_sameBytes.f
    by_cases hl : a.length = b.length
    · rw [if_pos (by omega)]
      exact sameB_loop2 a b hl hm a.length 0 (by omega) (by simp)
    · rw [if_neg (by omega), decide_eq_false (fun e => hl (by rw [e]))]
  exact (bagnallkeep_sameBytes.calls (a.length + 1) A0 c0 a A1 c1 b _ w h0 k0 h1 k1 h2).mono fun e w' ⟨he, hd⟩ => ⟨he, by obtain ⟨m, rfl⟩ := hd; exact pw_below_drewN (Below.refl _ _) m⟩

/-- The file behind a Commit of rs, or of nothing. -/
def logPut (Ls : List (List S67)) (rs : List S67) : List (List S67) := if faultS (bytesOfLog Ls) (tableOf Ls) rs = 0 then Ls ++ [rs] else Ls
theorem log_commit (Ls : List (List S67)) (rs : List S67) : (doS ⟨1, rs, ⟨#[]⟩, 0⟩ Ls).2 = logPut Ls rs := by
  unfold doS logPut; rw [if_pos rfl]
theorem do_crash_eq (Ls : List (List S67)) (rs : List S67) (n : Int) : (doS ⟨5, rs, ⟨#[]⟩, n⟩ Ls).2 = (crashS Ls rs n).2 := by
  unfold doS
  rw [if_neg (show ¬ (5 : Int) = 1 by decide), if_neg (show ¬ (5 : Int) = 2 by decide), if_neg (show ¬ (5 : Int) = 3 by decide), if_neg (show ¬ (5 : Int) = 4 by decide), if_pos (show (5 : Int) = 5 from rfl)]
theorem log_crash (Ls : List (List S67)) (rs : List S67) (n : Int) (h0 : 0 ≤ n) : (doS ⟨5, rs, ⟨#[]⟩, n⟩ Ls).2 = Ls ∨ (doS ⟨5, rs, ⟨#[]⟩, n⟩ Ls).2 = logPut Ls rs := by
  rw [do_crash_eq]
  unfold logPut crashS
  rw [if_neg (by omega)]
  by_cases hf : faultS (bytesOfLog Ls) (tableOf Ls) rs = 0
  · rw [if_neg (by simp [hf]), if_pos hf]
    dsimp only
    split
    · exact .inr rfl
    · exact .inl rfl
  · rw [if_pos hf]; exact .inl rfl
theorem log_full (Ls : List (List S67)) (rs : List S67) : (doS ⟨5, rs, ⟨#[]⟩, 1073741824⟩ Ls).2 = logPut Ls rs := by
  rw [do_crash_eq]
  unfold logPut crashS
  rw [if_neg (by omega)]
  by_cases hf : faultS (bytesOfLog Ls) (tableOf Ls) rs = 0
  · rw [if_neg (by simp [hf]), if_pos hf]
    dsimp only
    have hft : faultOf (tableOf Ls) rs = 0 := by
      unfold faultS at hf
      split at hf
      · omega
      · split at hf
        · rename_i h; exact absurd hf h
        · rename_i h; exact Classical.not_not.1 h
    have h1 := batch_length rs (wr_of_fault hft).2.1
    have h2 := (wr_of_fault hft).1
    rw [if_pos (by omega)]
  · rw [if_pos hf, if_neg hf]
theorem log_none (Ls : List (List S67)) (rs : List S67) : (doS ⟨5, rs, ⟨#[]⟩, 0⟩ Ls).2 = Ls := by
  rw [do_crash_eq]
  unfold crashS
  rw [if_neg (by omega)]
  by_cases hf : faultS (bytesOfLog Ls) (tableOf Ls) rs = 0
  · rw [if_neg (by simp [hf])]
    dsimp only
    have hft : faultOf (tableOf Ls) rs = 0 := by
      unfold faultS at hf
      split at hf
      · omega
      · split at hf
        · rename_i h; exact absurd hf h
        · rename_i h; exact Classical.not_not.1 h
    have h1 := batch_min (faultS_ne hf) (wr_of_fault hft).2.1
    rw [if_neg (by omega)]
  · rw [if_pos hf]

set_option maxRecDepth 100000 in
set_option maxHeartbeats 8000000 in
theorem crash_walk (A0 : Option Addr) (c0 : Nat) (l : List S114) (Am : Option Addr) (cm : Nat) (m : List Int) (n : Int) (w0 : World) (hr : Kd.C k114 w0 A0 l.length l) (hc : l.length ≤ c0) (hrm : Kd.C (Kd.int .i64) w0 Am m.length m) (hcm : m.length ≤ cm) :
    Calls Try.prog 21 #[.slice A0 l.length c0, .slice Am m.length cm, .int .i64 n] w0 fun e w' => e = .returned (.bool true) ∧ Below w0.heap.size w0 w' := by
  have hu83 := Try.underlying83
  have hu67 := Try.underlying67
  have hs : Short (actsOf l 30) := Short.acts l 30 (by decide)
  have hl : (actsOf l 30).length ≤ 30 := by unfold actsOf; rw [List.length_map, List.length_take]; show min 30 _ ≤ _; omega
  obtain ⟨xs, has⟩ : ∃ xs, xs = actsOf l 30 := ⟨_, rfl⟩
  rw [← has] at hs hl
  obtain ⟨rs, hrs⟩ : ∃ rs, rs = changesOf m 3 ++ [rowTV] := ⟨_, rfl⟩
  have hrl : rs.length ≤ 4 := by rw [hrs, List.length_append]; have := changesOf_length m; simp; omega
  have HCp := Aside0.mk (copied_is rs (by omega))
  obtain ⟨p, hp⟩ : ∃ p, p = pickN n 100 := ⟨_, rfl⟩
  obtain ⟨L1, hL1⟩ : ∃ L, L = xs ++ [(⟨1, rs, ⟨#[]⟩, 0⟩ : S83)] := ⟨_, rfl⟩
  obtain ⟨L2, hL2⟩ : ∃ L, L = xs ++ [(⟨5, rs, ⟨#[]⟩, p⟩ : S83)] := ⟨_, rfl⟩
  obtain ⟨L3, hL3⟩ : ∃ L, L = xs ++ [(⟨5, rs, ⟨#[]⟩, 1073741824⟩ : S83)] := ⟨_, rfl⟩
  obtain ⟨L4, hL4⟩ : ∃ L, L = xs ++ [(⟨5, rs, ⟨#[]⟩, 0⟩ : S83)] := ⟨_, rfl⟩
  have hs1 : Short L1 := by rw [hL1]; exact hs.snoc (by omega) (Nat.zero_le _)
  have hs2 : Short L2 := by rw [hL2]; exact hs.snoc (by omega) (Nat.zero_le _)
  have hs3 : Short L3 := by rw [hL3]; exact hs.snoc (by omega) (Nat.zero_le _)
  have hs4 : Short L4 := by rw [hL4]; exact hs.snoc (by omega) (Nat.zero_le _)
  obtain ⟨a, ha⟩ : ∃ a, a = bytesOfLog (logOf xs) := ⟨_, rfl⟩
  obtain ⟨b, hb⟩ : ∃ b, b = bytesOfLog (logOf L1) := ⟨_, rfl⟩
  obtain ⟨c, hcc⟩ : ∃ c, c = bytesOfLog (logOf L2) := ⟨_, rfl⟩
  have hg1 : logOf L1 = logPut (logOf xs) rs := by rw [hL1, logOf_snoc, log_commit]
  have hb3 : bytesOfLog (logOf L3) = b := by rw [hb, hg1, hL3, logOf_snoc, log_full]
  have hb4 : bytesOfLog (logOf L4) = a := by rw [ha, hL4, logOf_snoc, log_none]
  have hc2 : c = a ∨ c = b := by
    rw [hcc, hb, ha, hg1, hL2, logOf_snoc]
    rcases log_crash (logOf xs) rs p (by omega) with h | h <;> rw [h]
    · exact .inl rfl
    · exact .inr rfl
  have HMa := Aside0.mk (show a.length ≤ 1200 by rw [ha]; exact (LI.log xs).disk)
  have HMb := Aside0.mk (show b.length ≤ 1200 by rw [hb]; exact (LI.log L1).disk)
  have HMc := Aside0.mk (show c.length ≤ 1200 by rw [hcc]; exact (LI.log L2).disk)
  have HAs := Aside0.mk has
  have HRs := Aside0.mk hrs
  have HL := Aside0.mk hl
  have HLr := Aside0.mk hrl
  have HPn := Aside0.mk hp
  have HL1 := Aside0.mk hL1
  have HL2 := Aside0.mk hL2
  have HL3 := Aside0.mk hL3
  have HL4 := Aside0.mk hL4
  have GA := Aside0.mk ha.symm
  have GB := Aside0.mk hb.symm
  have GC := Aside0.mk hcc.symm
  have GD := Aside0.mk hb3
  have GE := Aside0.mk hb4
  have HCase := Aside0.mk hc2
  have H1 := Aside0.mk (Acts_calls A0 c0 l 30 w0 hr hc (by decide))
  have H2 := Aside0.mk hrm
  have H2c := Aside0.mk hcm
  have HT0 := fun A c w h k => Aside0.mk (stored_ok A c xs w h k hs)
  have HT1 := fun A c w h k => Aside0.mk (stored_ok A c L1 w h k hs1)
  have HT2 := fun A c w h k => Aside0.mk (stored_ok A c L2 w h k hs2)
  have HT3 := fun A c w h k => Aside0.mk (stored_ok A c L3 w h k hs3)
  have HT4 := fun A c w h k => Aside0.mk (stored_ok A c L4 w h k hs4)
  clear hr hs hl has hrs hrl hp hL1 hL2 hL3 hL4 hs1 hs2 hs3 hs4 ha hb hcc hg1 hb3 hb4 hc2 hrm hcm
  go_enter Try.func21, Try.ntmps21
  go_upto_region 2 with (go_at_call 47; refine H1.out.mono ?_; rintro e w1 ⟨v, rfl, hs, hb⟩; rw [← HAs.out] at hs; obtain ⟨A1, c1, rfl, k1, g1⟩ := Kd.R_reads (Kd.S_R hs); have HC1 := Aside0.mk (And.intro k1 g1); have S0 := Aside0.mk hb; clear hs hb k1 g1)
  clear H1
  go_upto_region 3 with (first
    | (go_at_call 39; refine (Changes_calls Am cm m 3 w1 (Kd.C_below H2.out S0.out) H2c.out (by decide)).mono ?_; rintro e wa ⟨v2, rfl, hr, hb⟩; obtain ⟨Aa, ca, rfl, _, _⟩ := Kd.R_reads hr; have HRa := Aside0.mk hr; have HBa := Aside0.mk hb; clear hr hb)
    | (at_builtin; refine Kd.R_append_rows k67 (w0 := w1) w1.heap.size rfl (.tmp 31) (.tmp 33) 58 67 (.agg #[(.string ⟨#[]⟩), (.string ⟨#[]⟩)]) 32 rfl Try.underlying58 info67 rfl (by decide) (by omega) _ _ [rowTV] _ _ _ (fun _ => True) (fun _ => False) rfl rfl (Kd.R_alloc HRa.out _) (one_reads (c := rowTV) (new_block_at rfl)) (fun x cs h => by rw [k67_open h]; exact k67_mkM _ _ _ x) (fun _ h => h.elim) (fun _ _ => trivial) (below_alloc HBa.out _) (by have := HBa.out.size; simp at this ⊢; omega) (by have h1 := changesOf_length m; simp; omega) ?_; intro v3 w2 ho hbb _ _; rw [← HRs.out] at ho; obtain ⟨A2, c2, rfl, k2, g2⟩ := Kd.R_reads ho; have HC2 := Aside0.mk (And.intro k2 g2); have S1 := Aside0.mk hbb; clear ho hbb k2 g2))
  clear H2 H2c HRa HBa HRs
  have HF := Aside0.mk (Kd.C_F heap83 (Kd.C_below HC1.out.2 S1.out))
  have HRS := Aside0.mk (Kd.C_below HC2.out.2 (Below.refl w2.heap.size w2))
  go_upto_region 4 with (first
    | ((with_reducible refine gate_builtin (b := .append) (xs := #[.const _, .tmp 35]) rfl ?_); at_builtin; refine Kd.N_append_rows k83 (w0 := w2) w2.heap.size rfl (.const (.slice none 0 0)) (.tmp 35) 75 83 (.agg #[(.int .i64 0), (.slice none 0 0), (.string ⟨#[]⟩), (.int .i64 0)]) 56 rfl Try.underlying75 info83 rfl (by decide) (by omega) (.slice none 0 0) ([] : List (S83)) xs _ _ _ (fun k_ => True) (fun k_ => k_ < w2.heap.size) rfl rfl (Kd.N_nil _ _ _ _ _) HF.out (fun k_ hk => ⟨trivial, by simp [Value.ownBlock]⟩) (fun _ _ => trivial) (Below.refl _ _) (Nat.le_refl _) (by have := HL.out; simp; omega) ?_; intro v1 wa ho hb _ _; obtain ⟨Aa, ca, rfl⟩ := Kd.N_slice ho; have HN := Aside0.mk ho; have HBa := Aside0.mk hb; clear ho hb)
    | (go_at_call 42; refine (bagnallkeep_copiedRows.calls A2 c2 rs rs wa (Kd.C_below HRS.out HBa.out) HC2.out.1 HCp.out).mono ?_; rintro e wb ⟨vb, rfl, hr, hb⟩; obtain ⟨Ab, cb, rfl, kb, gb⟩ := Kd.R_reads hr; have HRb := Aside0.mk (And.intro kb (Kd.R_F (Kd.R_mono (Kd.R_bound hr) (ok' := fun k => wa.heap.size ≤ k) (fun k hk => hk.2.1)))); have HNb := Aside0.mk (Kd.N_below HN.out hb); have HNl := Aside0.mk (Kd.N_lt HN.out); have HBb := Aside0.mk (HBa.out.trans (hb.mono HBa.out.size)); clear hr hb kb gb)
    | ((with_reducible refine gate_builtin (b := .append) (xs := #[.tmp 36, .tmp 40]) rfl ?_); at_builtin; refine Kd.N_append k83 (w0 := w2) w2.heap.size rfl (.tmp 36) (.tmp 40) 75 83 (.agg #[(.int .i64 0), (.slice none 0 0), (.string ⟨#[]⟩), (.int .i64 0)]) 56 rfl Try.underlying75 info83 rfl (by decide) (by omega) _ xs (⟨1, rs, ⟨#[]⟩, 0⟩ : S83) [.int .i64 1, .slice Ab rs.length cb, .string (⟨#[]⟩ : ByteArray), .int .i64 0] (fun _ => True) (fun k => wa.heap.size ≤ k) rfl (by first | (go_simp; done) | (go_simp; rfl)) (k83_mkF _ _ (⟨1, rs, ⟨#[]⟩, 0⟩ : S83) HRb.out.1 HRb.out.2) (fun k hk => ⟨trivial, fun e => by have := HNl.out k e.symm; omega⟩) (fun _ _ => trivial) HNb.out HBb.out HBb.out.size (by have := HL.out; omega) ?_; intro v2 w3 ho hb _ _; rw [← HL1.out] at ho; obtain ⟨A3, c3, rfl⟩ := Kd.N_slice ho; have HN2 := Aside0.mk ho; have S2 := Aside0.mk hb; clear ho hb))
  have HC3 := Aside0.mk (Kd.N_reads' HN2.out).2
  clear HF HRS HN HBa HRb HNb HNl HBb HN2
  have HF := Aside0.mk (Kd.C_F heap83 (Kd.C_below HC1.out.2 (S1.out.trans (S2.out.mono S1.out.size))))
  have HRS := Aside0.mk (Kd.C_below HC2.out.2 S2.out)
  go_upto_region 5 with (first
    | ((with_reducible refine gate_builtin (b := .append) (xs := #[.const _, .tmp 42]) rfl ?_); at_builtin; refine Kd.N_append_rows k83 (w0 := w3) w3.heap.size rfl (.const (.slice none 0 0)) (.tmp 42) 75 83 (.agg #[(.int .i64 0), (.slice none 0 0), (.string ⟨#[]⟩), (.int .i64 0)]) 56 rfl Try.underlying75 info83 rfl (by decide) (by omega) (.slice none 0 0) ([] : List (S83)) xs _ _ _ (fun k_ => True) (fun k_ => k_ < w3.heap.size) rfl rfl (Kd.N_nil _ _ _ _ _) HF.out (fun k_ hk => ⟨trivial, by simp [Value.ownBlock]⟩) (fun _ _ => trivial) (Below.refl _ _) (Nat.le_refl _) (by have := HL.out; simp; omega) ?_; intro v1 wa ho hb _ _; obtain ⟨Aa, ca, rfl⟩ := Kd.N_slice ho; have HN := Aside0.mk ho; have HBa := Aside0.mk hb; clear ho hb)
    | (go_at_call 42; refine (bagnallkeep_copiedRows.calls A2 c2 rs rs wa (Kd.C_below HRS.out HBa.out) HC2.out.1 HCp.out).mono ?_; rintro e wb ⟨vb, rfl, hr, hb⟩; obtain ⟨Ab, cb, rfl, kb, gb⟩ := Kd.R_reads hr; have HRb := Aside0.mk (And.intro kb (Kd.R_F (Kd.R_mono (Kd.R_bound hr) (ok' := fun k => wa.heap.size ≤ k) (fun k hk => hk.2.1)))); have HNb := Aside0.mk (Kd.N_below HN.out hb); have HNl := Aside0.mk (Kd.N_lt HN.out); have HBb := Aside0.mk (HBa.out.trans (hb.mono HBa.out.size)); clear hr hb kb gb)
    | (go_at_call 31; refine (Picked8 n 100 (by omega) (by omega) wb).mono ?_; rintro e wp ⟨rfl, hb⟩; rw [← HPn.out]; have HRp := Aside0.mk (And.intro HRb.out.1 (Kd.F_below HRb.out.2 hb)); have HNp := Aside0.mk (Kd.N_below HNb.out hb); have HBp := Aside0.mk (HBb.out.trans (hb.mono HBb.out.size)); clear hb)
    | ((with_reducible refine gate_builtin (b := .append) (xs := #[.tmp 43, .tmp 49]) rfl ?_); at_builtin; refine Kd.N_append k83 (w0 := w3) w3.heap.size rfl (.tmp 43) (.tmp 49) 75 83 (.agg #[(.int .i64 0), (.slice none 0 0), (.string ⟨#[]⟩), (.int .i64 0)]) 56 rfl Try.underlying75 info83 rfl (by decide) (by omega) _ xs (⟨5, rs, ⟨#[]⟩, p⟩ : S83) [.int .i64 5, .slice Ab rs.length cb, .string (⟨#[]⟩ : ByteArray), .int .i64 (p : Nat)] (fun _ => True) (fun k => wa.heap.size ≤ k) rfl (by first | (go_simp; done) | (go_simp; rfl)) (k83_mkF _ _ (⟨5, rs, ⟨#[]⟩, p⟩ : S83) HRp.out.1 HRp.out.2) (fun k hk => ⟨trivial, fun e => by have := HNl.out k e.symm; omega⟩) (fun _ _ => trivial) HNp.out HBp.out HBp.out.size (by have := HL.out; omega) ?_; intro v2 w4 ho hb _ _; rw [← HL2.out] at ho; obtain ⟨A4, c4, rfl⟩ := Kd.N_slice ho; have HN2 := Aside0.mk ho; have S3 := Aside0.mk hb; clear ho hb))
  have HC4 := Aside0.mk (Kd.N_reads' HN2.out).2
  clear HF HRS HN HBa HRb HNb HNl HBb HN2 HRp HNp HBp
  have HF := Aside0.mk (Kd.C_F heap83 (Kd.C_below HC1.out.2 (S1.out.trans ((S2.out.trans (S3.out.mono S2.out.size)).mono S1.out.size))))
  have HRS := Aside0.mk (Kd.C_below HC2.out.2 (S2.out.trans (S3.out.mono S2.out.size)))
  go_upto_region 6 with (first
    | ((with_reducible refine gate_builtin (b := .append) (xs := #[.const _, .tmp 51]) rfl ?_); at_builtin; refine Kd.N_append_rows k83 (w0 := w4) w4.heap.size rfl (.const (.slice none 0 0)) (.tmp 51) 75 83 (.agg #[(.int .i64 0), (.slice none 0 0), (.string ⟨#[]⟩), (.int .i64 0)]) 56 rfl Try.underlying75 info83 rfl (by decide) (by omega) (.slice none 0 0) ([] : List (S83)) xs _ _ _ (fun k_ => True) (fun k_ => k_ < w4.heap.size) rfl rfl (Kd.N_nil _ _ _ _ _) HF.out (fun k_ hk => ⟨trivial, by simp [Value.ownBlock]⟩) (fun _ _ => trivial) (Below.refl _ _) (Nat.le_refl _) (by have := HL.out; simp; omega) ?_; intro v1 wa ho hb _ _; obtain ⟨Aa, ca, rfl⟩ := Kd.N_slice ho; have HN := Aside0.mk ho; have HBa := Aside0.mk hb; clear ho hb)
    | (go_at_call 42; refine (bagnallkeep_copiedRows.calls A2 c2 rs rs wa (Kd.C_below HRS.out HBa.out) HC2.out.1 HCp.out).mono ?_; rintro e wb ⟨vb, rfl, hr, hb⟩; obtain ⟨Ab, cb, rfl, kb, gb⟩ := Kd.R_reads hr; have HRb := Aside0.mk (And.intro kb (Kd.R_F (Kd.R_mono (Kd.R_bound hr) (ok' := fun k => wa.heap.size ≤ k) (fun k hk => hk.2.1)))); have HNb := Aside0.mk (Kd.N_below HN.out hb); have HNl := Aside0.mk (Kd.N_lt HN.out); have HBb := Aside0.mk (HBa.out.trans (hb.mono HBa.out.size)); clear hr hb kb gb)
    | ((with_reducible refine gate_builtin (b := .append) (xs := #[.tmp 52, .tmp 56]) rfl ?_); at_builtin; refine Kd.N_append k83 (w0 := w4) w4.heap.size rfl (.tmp 52) (.tmp 56) 75 83 (.agg #[(.int .i64 0), (.slice none 0 0), (.string ⟨#[]⟩), (.int .i64 0)]) 56 rfl Try.underlying75 info83 rfl (by decide) (by omega) _ xs (⟨5, rs, ⟨#[]⟩, 1073741824⟩ : S83) [.int .i64 5, .slice Ab rs.length cb, .string (⟨#[]⟩ : ByteArray), .int .i64 1073741824] (fun _ => True) (fun k => wa.heap.size ≤ k) rfl (by first | (go_simp; done) | (go_simp; rfl)) (k83_mkF _ _ (⟨5, rs, ⟨#[]⟩, 1073741824⟩ : S83) HRb.out.1 HRb.out.2) (fun k hk => ⟨trivial, fun e => by have := HNl.out k e.symm; omega⟩) (fun _ _ => trivial) HNb.out HBb.out HBb.out.size (by have := HL.out; omega) ?_; intro v2 w5 ho hb _ _; rw [← HL3.out] at ho; obtain ⟨A5, c5, rfl⟩ := Kd.N_slice ho; have HN2 := Aside0.mk ho; have S4 := Aside0.mk hb; clear ho hb))
  have HC5 := Aside0.mk (Kd.N_reads' HN2.out).2
  clear HF HRS HN HBa HRb HNb HNl HBb HN2
  have HF := Aside0.mk (Kd.C_F heap83 (Kd.C_below HC1.out.2 (S1.out.trans ((S2.out.trans ((S3.out.trans (S4.out.mono S3.out.size)).mono S2.out.size)).mono S1.out.size))))
  have HRS := Aside0.mk (Kd.C_below HC2.out.2 (S2.out.trans ((S3.out.trans (S4.out.mono S3.out.size)).mono S2.out.size)))
  go_upto_region 7 with (first
    | ((with_reducible refine gate_builtin (b := .append) (xs := #[.const _, .tmp 58]) rfl ?_); at_builtin; refine Kd.N_append_rows k83 (w0 := w5) w5.heap.size rfl (.const (.slice none 0 0)) (.tmp 58) 75 83 (.agg #[(.int .i64 0), (.slice none 0 0), (.string ⟨#[]⟩), (.int .i64 0)]) 56 rfl Try.underlying75 info83 rfl (by decide) (by omega) (.slice none 0 0) ([] : List (S83)) xs _ _ _ (fun k_ => True) (fun k_ => k_ < w5.heap.size) rfl rfl (Kd.N_nil _ _ _ _ _) HF.out (fun k_ hk => ⟨trivial, by simp [Value.ownBlock]⟩) (fun _ _ => trivial) (Below.refl _ _) (Nat.le_refl _) (by have := HL.out; simp; omega) ?_; intro v1 wa ho hb _ _; obtain ⟨Aa, ca, rfl⟩ := Kd.N_slice ho; have HN := Aside0.mk ho; have HBa := Aside0.mk hb; clear ho hb)
    | (go_at_call 42; refine (bagnallkeep_copiedRows.calls A2 c2 rs rs wa (Kd.C_below HRS.out HBa.out) HC2.out.1 HCp.out).mono ?_; rintro e wb ⟨vb, rfl, hr, hb⟩; obtain ⟨Ab, cb, rfl, kb, gb⟩ := Kd.R_reads hr; have HRb := Aside0.mk (And.intro kb (Kd.R_F (Kd.R_mono (Kd.R_bound hr) (ok' := fun k => wa.heap.size ≤ k) (fun k hk => hk.2.1)))); have HNb := Aside0.mk (Kd.N_below HN.out hb); have HNl := Aside0.mk (Kd.N_lt HN.out); have HBb := Aside0.mk (HBa.out.trans (hb.mono HBa.out.size)); clear hr hb kb gb)
    | ((with_reducible refine gate_builtin (b := .append) (xs := #[.tmp 59, .tmp 63]) rfl ?_); at_builtin; refine Kd.N_append k83 (w0 := w5) w5.heap.size rfl (.tmp 59) (.tmp 63) 75 83 (.agg #[(.int .i64 0), (.slice none 0 0), (.string ⟨#[]⟩), (.int .i64 0)]) 56 rfl Try.underlying75 info83 rfl (by decide) (by omega) _ xs (⟨5, rs, ⟨#[]⟩, 0⟩ : S83) [.int .i64 5, .slice Ab rs.length cb, .string (⟨#[]⟩ : ByteArray), .int .i64 0] (fun _ => True) (fun k => wa.heap.size ≤ k) rfl (by first | (go_simp; done) | (go_simp; rfl)) (k83_mkF _ _ (⟨5, rs, ⟨#[]⟩, 0⟩ : S83) HRb.out.1 HRb.out.2) (fun k hk => ⟨trivial, fun e => by have := HNl.out k e.symm; omega⟩) (fun _ _ => trivial) HNb.out HBb.out HBb.out.size (by have := HL.out; omega) ?_; intro v2 w6 ho hb _ _; rw [← HL4.out] at ho; obtain ⟨A6, c6, rfl⟩ := Kd.N_slice ho; have HN2 := Aside0.mk ho; have S5 := Aside0.mk hb; clear ho hb))
  have HC6 := Aside0.mk (Kd.N_reads' HN2.out).2
  clear HF HRS HN HBa HRb HNb HNl HBb HN2
  go_upto_region 8 with (go_at_call 48; refine (HT0 A1 c1 w6 (Kd.C_below HC1.out.2 (S1.out.trans ((S2.out.trans ((S3.out.trans ((S4.out.trans (S5.out.mono S4.out.size)).mono S3.out.size)).mono S2.out.size)).mono S1.out.size))) HC1.out.1).out.mono ?_; rintro e w7 ⟨At7, ct7, Ab7, cb7, rfl, k6, g6, k7, g7, hb⟩; rw [GA.out] at k7 g7 ⊢; have E7 := Aside0.mk (And.intro k7 g7); have S6 := Aside0.mk hb; clear hb k6 g6 k7 g7)
  clear HT0
  go_upto_region 9 with (go_at_call 48; refine (HT1 A3 c3 w7 (Kd.C_below HC3.out.2 (S3.out.trans ((S4.out.trans ((S5.out.trans (S6.out.mono S5.out.size)).mono S4.out.size)).mono S3.out.size))) HC3.out.1).out.mono ?_; rintro e w8 ⟨At8, ct8, Ab8, cb8, rfl, k6, g6, k7, g7, hb⟩; rw [GB.out] at k7 g7 ⊢; have E8 := Aside0.mk (And.intro k7 g7); have S7 := Aside0.mk hb; clear hb k6 g6 k7 g7)
  clear HT1
  go_upto_region 10 with (go_at_call 48; refine (HT2 A4 c4 w8 (Kd.C_below HC4.out.2 (S4.out.trans ((S5.out.trans ((S6.out.trans (S7.out.mono S6.out.size)).mono S5.out.size)).mono S4.out.size))) HC4.out.1).out.mono ?_; rintro e w9 ⟨At9, ct9, Ab9, cb9, rfl, k6, g6, k7, g7, hb⟩; rw [GC.out] at k7 g7 ⊢; have E9 := Aside0.mk (And.intro k7 g7); have S8 := Aside0.mk hb; clear hb k6 g6 k7 g7)
  clear HT2
  go_upto_region 11 with (go_at_call 48; refine (HT3 A5 c5 w9 (Kd.C_below HC5.out.2 (S5.out.trans ((S6.out.trans ((S7.out.trans (S8.out.mono S7.out.size)).mono S6.out.size)).mono S5.out.size))) HC5.out.1).out.mono ?_; rintro e w10 ⟨At10, ct10, Ab10, cb10, rfl, k6, g6, k7, g7, hb⟩; rw [GD.out] at k7 g7 ⊢; have E10 := Aside0.mk (And.intro k7 g7); have S9 := Aside0.mk hb; clear hb k6 g6 k7 g7)
  clear HT3
  go_upto_region 12 with (go_at_call 48; refine (HT4 A6 c6 w10 (Kd.C_below HC6.out.2 (S6.out.trans ((S7.out.trans ((S8.out.trans (S9.out.mono S8.out.size)).mono S7.out.size)).mono S6.out.size))) HC6.out.1).out.mono ?_; rintro e w11 ⟨At11, ct11, Ab11, cb11, rfl, k6, g6, k7, g7, hb⟩; rw [GE.out] at k7 g7 ⊢; have E11 := Aside0.mk (And.intro k7 g7); have S10 := Aside0.mk hb; clear hb k6 g6 k7 g7)
  clear HT4
  have D7 := Aside0.mk (And.intro E7.out.1 (Kd.C_below E7.out.2 (S7.out.trans ((S8.out.trans ((S9.out.trans (S10.out.mono S9.out.size)).mono S8.out.size)).mono S7.out.size))))
  have D8 := Aside0.mk (And.intro E8.out.1 (Kd.C_below E8.out.2 (S8.out.trans ((S9.out.trans (S10.out.mono S9.out.size)).mono S8.out.size))))
  have D9 := Aside0.mk (And.intro E9.out.1 (Kd.C_below E9.out.2 (S9.out.trans (S10.out.mono S9.out.size))))
  have D10 := Aside0.mk (And.intro E10.out.1 (Kd.C_below E10.out.2 S10.out))
  have D11 := Aside0.mk (And.intro E11.out.1 (Kd.C_below E11.out.2 (Below.refl w11.heap.size w11)))
  have HEnd := Aside0.mk (S0.out.trans ((S1.out.trans ((S2.out.trans ((S3.out.trans ((S4.out.trans ((S5.out.trans ((S6.out.trans ((S7.out.trans ((S8.out.trans ((S9.out.trans (S10.out.mono S9.out.size)).mono S8.out.size)).mono S7.out.size)).mono S6.out.size)).mono S5.out.size)).mono S4.out.size)).mono S3.out.size)).mono S2.out.size)).mono S1.out.size)).mono S0.out.size))
  clear S0 S1 S2 S3 S4 S5 S6 S7 S8 S9 S10 E7 E8 E9 E10 E11 HC1 HC2 HC3 HC4 HC5 HC6
  have tok1 : True := trivial
  have tok2 : True := trivial
  have tok3 : True := trivial
  by_cases hca : c = a
  · subst hca
    go_wp2_with (first
      | (go_at_call 30; have _t := tok1; clear _t tok1; refine (same_bytes_is Ab9 Ab7 cb9 cb7 c c w11 D9.out.2 D9.out.1 D7.out.2 D7.out.1 (by have := HMc.out; omega)).mono ?_; rintro e x1 ⟨rfl, hb⟩; rw [decide_eq_true rfl]; have Bx1 := Aside0.mk hb; clear hb)
      | (go_at_call 30; have _t := tok2; clear _t tok2; refine (same_bytes_is Ab10 Ab8 cb10 cb8 b b x1 (Kd.C_below D10.out.2 Bx1.out) D10.out.1 (Kd.C_below D8.out.2 Bx1.out) D8.out.1 (by have := HMb.out; omega)).mono ?_; rintro e x2 ⟨rfl, hb⟩; rw [decide_eq_true rfl]; have Bx2 := Aside0.mk (Bx1.out.trans (hb.mono Bx1.out.size)); clear hb)
      | (go_at_call 30; refine (same_bytes_is Ab11 Ab7 cb11 cb7 c c x2 (Kd.C_below D11.out.2 Bx2.out) D11.out.1 (Kd.C_below D7.out.2 Bx2.out) D7.out.1 (by have := HMc.out; omega)).mono ?_; rintro e x3 ⟨rfl, hb⟩; rw [decide_eq_true rfl]; have Bx3 := Aside0.mk (Bx2.out.trans (hb.mono Bx2.out.size)); clear hb))
    go_ret
    exact ⟨rfl, HEnd.out.trans (Bx3.out.mono HEnd.out.size)⟩
  · obtain rfl : c = b := by rcases HCase.out with h | h; exact absurd h hca; exact h
    have hn : decide (c = a) = false := decide_eq_false hca
    have HNc := Aside0.mk hn
    clear hn hca
    go_wp2_with (first
      | (go_at_call 30; have _t := tok1; clear _t tok1; refine (same_bytes_is Ab9 Ab7 cb9 cb7 c a w11 D9.out.2 D9.out.1 D7.out.2 D7.out.1 (by have := HMc.out; omega)).mono ?_; rintro e x1 ⟨rfl, hb⟩; rw [HNc.out]; have Bx1 := Aside0.mk hb; clear hb)
      | (go_at_call 30; have _t := tok2; clear _t tok2; refine (same_bytes_is Ab9 Ab8 cb9 cb8 c c x1 (Kd.C_below D9.out.2 Bx1.out) D9.out.1 (Kd.C_below D8.out.2 Bx1.out) D8.out.1 (by have := HMc.out; omega)).mono ?_; rintro e x2 ⟨rfl, hb⟩; rw [decide_eq_true rfl]; have Bx2 := Aside0.mk (Bx1.out.trans (hb.mono Bx1.out.size)); clear hb)
      | (go_at_call 30; have _t := tok3; clear _t tok3; refine (same_bytes_is Ab10 Ab8 cb10 cb8 c c x2 (Kd.C_below D10.out.2 Bx2.out) D10.out.1 (Kd.C_below D8.out.2 Bx2.out) D8.out.1 (by have := HMc.out; omega)).mono ?_; rintro e x3 ⟨rfl, hb⟩; rw [decide_eq_true rfl]; have Bx3 := Aside0.mk (Bx2.out.trans (hb.mono Bx2.out.size)); clear hb)
      | (go_at_call 30; refine (same_bytes_is Ab11 Ab7 cb11 cb7 a a x3 (Kd.C_below D11.out.2 Bx3.out) D11.out.1 (Kd.C_below D7.out.2 Bx3.out) D7.out.1 (by have := HMa.out; omega)).mono ?_; rintro e x4 ⟨rfl, hb⟩; rw [decide_eq_true rfl]; have Bx4 := Aside0.mk (Bx3.out.trans (hb.mono Bx3.out.size)); clear hb))
    go_ret
    exact ⟨rfl, HEnd.out.trans (Bx4.out.mono HEnd.out.size)⟩
end Go.Proofs.Ytmfkgbncnaingaa.Sto
