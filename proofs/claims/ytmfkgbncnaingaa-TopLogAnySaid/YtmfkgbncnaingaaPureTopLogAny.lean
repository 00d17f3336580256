/- TopLogAny: its walk. -/
import Derived.Test.YtmfkgbncnaingaaTopKept
namespace Go.Proofs.Ytmfkgbncnaingaa.Sto
open Go.Proofs.Ytmfkgbncnaingaa.QStore (S81 S83 S114 k81 k83 k114 k83_mk k83_mkM k83_mkF k83_open rd_T83 rd_T81 rd_T114 at_T83 at_T81 at_T114 info83)
open Go.RowKit Go.Proofs.Ytmfkgbncnaingaa.Reg Go.Proofs.Ytmfkgbncnaingaa.QRows Go.Proofs.Ytmfkgbncnaingaa.Rows Go.Proofs.Ytmfkgbncnaingaa.Wal Go.Proofs.YtmfkgbncnaingaaW.PrintWords Go.Proofs.YtmfkgbncnaingaaW.PrintLast Go.Proofs.YtmfkgbncnaingaaW.PrintMore
set_option linter.unusedVariables false
set_option linter.unusedSimpArgs false

theorem scan_ok (A0 : Option Addr) (c0 : Nat) (Ls : List (List S67)) (w : World) (h : LI Ls) (hr : Kd.C (Kd.int .u8) w A0 (bytesOfLog Ls).length (bytesOfLog Ls)) (hc : (bytesOfLog Ls).length ≤ c0) :
    Calls Try.prog 36 #[.slice A0 (bytesOfLog Ls).length c0] w fun e w' => ∃ A1 c1, e = .returned (.tuple #[.slice A1 (Ls.map (·.map recOf)).length c1, .int .i64 ((bytesOfLog Ls).length : Int), .int .i64 0]) ∧ (Ls.map (·.map recOf)).length ≤ c1 ∧ Kd.C k3 w' A1 (Ls.map (·.map recOf)).length (Ls.map (·.map recOf)) ∧ Below w.heap.size w w' := by
  have h2 : QWal.wal_Scan.f (bytesOfLog Ls) = some (Ls.map (·.map recOf), ((bytesOfLog Ls).length : Int), 0) := by
    unfold QWal.wal_Scan.f
    rw [if_neg (by have := h.disk; omega), if_pos ((QWal.bytesIn_iff _).2 h.bytes), h.read]
  refine (QWal.wal_Scan.calls A0 c0 _ _ _ _ w hr hc h2).mono ?_
  rintro e w' ⟨v, rfl, hr, hb⟩
  obtain ⟨A2, c2, rfl, k2, g2⟩ := Kd.R_reads hr
  exact ⟨A2, c2, rfl, k2, g2, hb⟩
theorem set_calls (A0 A1 : Option Addr) (c0 c1 : Nat) (T cs : List S67) (w : World) (h0 : Kd.C k67 w A0 T.length T) (k0 : T.length ≤ c0) (h1 : Kd.C k67 w A1 cs.length cs) (k1 : cs.length ≤ c1) (hT : Rows.Good T) (hc : ∀ c ∈ cs, Small c) (hn : cs.length ≤ 60) (hl : (changed T cs).length ≤ 40) :
    Calls Try.prog 41 #[.slice A0 T.length c0, .slice A1 cs.length c1] w fun e w' => ∃ A2 c2, e = .returned (.tuple #[.slice A2 (changed T cs).length c2, .int .i64 0]) ∧ (changed T cs).length ≤ c2 ∧ Kd.C k67 w' A2 (changed T cs).length (changed T cs) ∧ Below w.heap.size w w' := by
  refine (rows_Set.calls 81 A0 c0 T A1 c1 cs _ _ w h0 k0 h1 k1 (set_ok hT hc hn hl (Nat.le_refl _))).mono ?_
  rintro e w' ⟨v, rfl, hr, hb⟩
  obtain ⟨A2, c2, rfl, k2, g2⟩ := Kd.R_reads hr
  exact ⟨A2, c2, rfl, k2, g2, hb⟩

theorem LI.take' {Ls : List (List S67)} (h : LI Ls) (n : Nat) : LI (Ls.take n) := by
  refine ⟨fun l hl => h.ok l (List.mem_of_mem_take hl), fun i => ?_, ?_⟩
  · rw [List.take_take]; exact h.room _
  · have h1 : bytesOfLog Ls = bytesOfLog (Ls.take n) ++ bytesOfLog (Ls.drop n) := by rw [← log_append, List.take_append_drop]
    have := h.disk
    rw [h1, List.length_append] at this
    omega
def F20 (B : Nat) (v : Value) (ad A1 : Addr) (A2 : Option Addr) (N c n m : Nat) (ks vs : ByteArray) : Nat → Value → World → Prop
  | 0 => FIs v
  | 1 => FIs (.slice (some ad) N c)
  | 2 => FIs (.slice (some ad) N c)
  | 3 => FIs (.pointer (some ad))
  | 4 => FIs (.int .u8 n)
  | 5 => FIs (.int .i64 n)
  | 6 => FIs (.int .i64 (1 + (n : Int)))
  | 7 => FIs (.slice (some A1) n (c - 1))
  | 8 => FIs (.string ks)
  | 9 => FIs (.slice (some ad) N c)
  | 10 => FIs (.slice (some ad) N c)
  | 11 => FIs (.pointer (some ad))
  | 12 => FIs (.int .u8 n)
  | 13 => FIs (.int .i64 n)
  | 14 => FIs (.int .i64 (1 + (n : Int)))
  | 15 => FIs (.slice A2 m (c - (n + 1)))
  | 16 => FIs (.string vs)
  | 17 => FIs (.agg #[.string ks, .string vs])
  | _ => FLit B #[.string ks, .string vs] 67 1
theorem F20.last {B : Nat} {v0 : Value} {ad A1 : Addr} {A2 : Option Addr} {N c n m : Nat} {ks vs : ByteArray} (k : Nat) (v : Value) (w w' : World) (h : F20 B v0 ad A1 A2 N c n m ks vs k v w) (hb : Below w.heap.size w w') : F20 B v0 ad A1 A2 N c n m ks vs k v w' := by
  unfold F20 at *
  split at h <;> first | exact FIs.last h hb | exact FLit.last h hb

set_option maxRecDepth 100000 in
set_option maxHeartbeats 16000000 in
theorem log_walk (A0 : Option Addr) (c0 : Nat) (l : List S83) (w0 : World) (hr : Kd.C k83 w0 A0 l.length l) (hc : l.length ≤ c0) (hll : l.length ≤ 1000000000000000) (hks : ∀ m ∈ l, m.f2.size ≤ 140737488351232) :
    Calls Try.prog 25 #[.slice A0 l.length c0] w0 fun e w' => e = .returned (.bool true) ∧ Below w0.heap.size w0 w' := by
  have hu83 := Try.underlying83
  have hu67 := Try.underlying67
  have hu81 := Try.underlying81
  have hw1 : IntKind.i64.wrap ((l.length : Int) + 1) = (l.length : Int) + 1 := by rw [IntKind.wrap_i64]; omega
  by_cases hmany : 99 < l.length
  · have hd : decide ((100 : Int) < (l.length : Int) + 1) = true := decide_eq_true (by omega)
    have hn : (100 : Int) < (l.length : Int) + 1 := by omega
    clear hmany hks hr
    go_enter Try.func25, Try.ntmps25
    go_wp2_with (go_at_call 52; refine (kept_ok w0).mono ?_; rintro e w1 ⟨rfl, hb⟩; have S0 := Aside0.mk hb; clear hb)
    go_ret
    exact ⟨rfl, S0.out⟩
  · have hd : decide ((100 : Int) < (l.length : Int) + 1) = false := decide_eq_false (by omega)
    have hn : ¬ (100 : Int) < (l.length : Int) + 1 := by omega
    have hl : l.length ≤ 99 := by omega
    have hs : Short (l ++ [actAll]) := Short.snoc ⟨by omega, hks⟩ hl (by decide)
    obtain ⟨Ls, hLs⟩ : ∃ Ls, Ls = logOf l := ⟨_, rfl⟩
    have hLI : LI Ls := by rw [hLs]; exact LI.log l
    have hlog : logOf (l ++ [actAll]) = Ls := by rw [logOf_snoc, do_all, hLs]
    have htold0 : rd_T81 (toldOf (l ++ [actAll])) (l.length : Int) = ⟨0, tableOf Ls⟩ := by
      rw [toldOf_snoc, do_all, hLs]; unfold rd_T81
      rw [Int.toNat_natCast, List.getD_eq_getElem?_getD, List.getElem?_append_right (by rw [toldOf_length]; exact Nat.le_refl _), toldOf_length, Nat.sub_self]; rfl
    have hml : (l ++ [actAll]).length = l.length + 1 := by simp
    obtain ⟨m, hm⟩ : ∃ m, m = l ++ [actAll] := ⟨_, rfl⟩
    rw [← hm] at hs hlog htold0 hml
    obtain ⟨T, hT⟩ : ∃ T, T = tableOf Ls := ⟨_, rfl⟩
    rw [← hT] at htold0
    have hTm : T.length ≤ 1000000 := by rw [hT]; have := hLI.table.room; omega
    obtain ⟨b, hb⟩ : ∃ b, b = bytesOfLog Ls := ⟨_, rfl⟩
    have HBl := Aside0.mk (show b.length ≤ 1200 by rw [hb]; exact hLI.disk)
    obtain ⟨bs, hbs⟩ : ∃ bs, bs = Ls.map (·.map recOf) := ⟨_, rfl⟩
    have hbsl : bs.length = Ls.length := by rw [hbs, List.length_map]
    have HL := Aside0.mk hl
    have HM := Aside0.mk hm
    have HLog := Aside0.mk hlog
    have HTold := Aside0.mk htold0
    have HMl := Aside0.mk hml
    have HT := Aside0.mk hT
    have HTm := Aside0.mk hTm
    have HLI := Aside0.mk hLI
    have HBs := Aside0.mk (And.intro hbs hbsl)
    have GB := Aside0.mk hb.symm
    have HF := Aside0.mk (Kd.C_F heap83 hr)
    have HP := fun A c w h k => Aside0.mk (play_ok A c m w h k hs)
    rw [hlog] at HP
    simp only [← hb] at HP
    have HSc := fun A c w h k => Aside0.mk (scan_ok A c Ls w hLI h k)
    simp only [← hb, ← hbs] at HSc
    have HR0 := Aside0.mk hr
    have hm2 : (m.length : Int) = (l.length : Int) + 1 := by omega
    clear hmany hks hr hs hLs hLI hlog htold0 hml hm hT hTm hb hbs hbsl hl
    go_enter Try.func25, Try.ntmps25
    go_upto_region 3 with (go_at_call 52; refine (kept_ok w0).mono ?_; rintro e w1 ⟨rfl, hb⟩; have S0 := Aside0.mk hb; clear hb)
    have HFa := Aside0.mk (Kd.C_F heap83 (Kd.C_below HR0.out S0.out))
    go_upto_region 6 with (first
      | ((with_reducible refine gate_builtin (b := .append) (xs := #[.const _, .tmp 23]) rfl ?_); at_builtin; refine Kd.N_append_rows k83 (w0 := w1) w1.heap.size rfl (.const (.slice none 0 0)) (.tmp 23) 75 83 (.agg #[(.int .i64 0), (.slice none 0 0), (.string ⟨#[]⟩), (.int .i64 0)]) 56 rfl Try.underlying75 info83 rfl (by decide) (by omega) (.slice none 0 0) ([] : List (S83)) l _ _ _ (fun k_ => True) (fun k_ => k_ < w1.heap.size) rfl rfl (Kd.N_nil _ _ _ _ _) HFa.out (fun k_ hk => ⟨trivial, by simp [Value.ownBlock]⟩) (fun _ _ => trivial) (Below.refl _ _) (Nat.le_refl _) (by have := HL.out; simp; omega) ?_; intro v1 wa ho hb _ _; obtain ⟨Aa, ca, rfl⟩ := Kd.N_slice ho; have HN := Aside0.mk ho; have HBa := Aside0.mk hb; clear ho hb)
      | ((with_reducible refine gate_builtin (b := .append) (xs := #[.tmp 24, .tmp 26]) rfl ?_); at_builtin; refine Kd.N_append k83 (w0 := w1) w1.heap.size rfl (.tmp 24) (.tmp 26) 75 83 (.agg #[(.int .i64 0), (.slice none 0 0), (.string ⟨#[]⟩), (.int .i64 0)]) 56 rfl Try.underlying75 info83 rfl (by decide) (by omega) _ l actAll [.int .i64 3, .slice none 0 0, .string (⟨#[]⟩ : ByteArray), .int .i64 0] (fun _ => True) (fun _ => False) rfl (by first | (go_simp; done) | (go_simp; rfl)) (k83_mkF _ _ actAll (Nat.le_refl _) (Kd.F_nil _ _ _)) (fun _ h => h.elim) (fun _ _ => trivial) HN.out HBa.out HBa.out.size (by have := HL.out; omega) ?_; intro v2 wb ho hb _ _; rw [← HM.out] at ho; obtain ⟨Ab, cb, rfl⟩ := Kd.N_slice ho; have HN2 := Aside0.mk ho; have HBb := Aside0.mk hb; clear ho hb)
      | (go_at_call 53; refine (HP Ab cb wb (Kd.N_reads' HN2.out).2.2 (Kd.N_reads' HN2.out).2.1).out.mono ?_; rintro e w5 ⟨A5, c5, A6, c6, rfl, k5, g5, k6, g6, hb⟩; have HC5 := Aside0.mk g5; have HC6 := Aside0.mk (And.intro k6 g6); have S1 := Aside0.mk (HBb.out.trans (hb.mono HBb.out.size)); clear hb k5 g5 k6 g6))
    clear HFa HN HBa HN2 HBb HP HF
    go_upto_region 7 with (first
      | ((with_reducible refine gate_builtin (b := .append) (xs := #[.const _, .tmp 33]) rfl ?_); at_builtin; refine Kd.R_append_rows (Kd.int .u8) (w0 := w5) w5.heap.size rfl (.const (.slice none 0 0)) (.tmp 33) 25 5 (.int .u8 0) 1 rfl Try.underlying25 info5u rfl (by decide) (by omega) (.slice none 0 0) ([] : List Int) b _ _ _ (fun _ => True) (fun _ => False) rfl rfl (Kd.R_nil _ _ _ _ _) HC6.out.2 (fun x cs h => h) (fun _ h => h.elim) (fun _ _ => trivial) (Below.refl _ _) (Nat.le_refl _) (by have := HBl.out; simp; omega) ?_; intro v1 wa ho hb _ _; obtain ⟨Aa, ca, rfl, _, _⟩ := Kd.R_reads ho; have HRa := Aside0.mk ho; have HBa := Aside0.mk hb; clear ho hb)
      | (go_at_call 36; refine (HSc Aa ca wa (Kd.R_reads' HRa.out).2.2 (Kd.R_reads' HRa.out).2.1).out.mono ?_; rintro e w6 ⟨A7, c7, rfl, k7, g7, hb⟩; have HC7 := Aside0.mk (And.intro k7 g7); have S5 := Aside0.mk (HBa.out.trans (hb.mono HBa.out.size)); clear hb k7 g7))
    clear HRa HBa HSc HC6
    have F5 := Aside0.mk (Kd.C_below HC5.out S5.out)
    have HEnd := Aside0.mk (S0.out.trans ((S1.out.trans (S5.out.mono S1.out.size)).mono S0.out.size))
    have hme : ((m.length : Int) == (l.length : Int) + 1) = true := by rw [hm2]; simp
    have hmn : ((m.length : Int) != (l.length : Int) + 1) = false := by rw [bne, hme]; rfl
    clear HC5 S0 S1 S5 HR0
    go_upto_region 9 with (fail)
    have hn2 := hmn
    clear hn2
    go_wp2
    go_loopg [9, 10] (bs.length) (fun kq v9 v10 wr => ∃ (i : Nat) (A : Option Addr) (c : Nat), v10 = .int .i64 i ∧ v9 = .slice A (tableOf (Ls.take i)).length c ∧ Aside0 (kq + i = bs.length) ∧ Aside0 ((tableOf (Ls.take i)).length ≤ c ∧ Kd.C k67 wr A (tableOf (Ls.take i)).length (tableOf (Ls.take i))) ∧ Aside0 (Below w6.heap.size w6 wr))
    case atStart => exact ⟨0, none, 0, rfl, rfl, ⟨by omega⟩, ⟨⟨Nat.le_refl _, Kd.C_nil _ _⟩⟩, ⟨Below.refl _ _⟩⟩
    case round =>
      obtain ⟨i, Aw, cw, rfl, rfl, hK, hC, hW⟩ := hrel
      by_cases hlt : i < bs.length
      · have hb1 : (i : Int) < (bs.length : Int) := by omega
        have hb0 : (0 : Int) ≤ (i : Int) := by omega
        have hil : i < Ls.length := by rw [← HBs.out.2]; exact hlt
        have hwi : IntKind.i64.wrap ((i : Int) + 1) = (i : Int) + 1 := by have h1 := HLI.out.many; have h2 := HBs.out.2; rw [IntKind.wrap_i64]; omega
        obtain ⟨ad7, A8, d8, rfl, hz0, hzc, hzC⟩ := at_rows HC7.out.2 i hlt
        have hre : bs.getD i [] = Ls[i].map recOf := by rw [HBs.out.1]; simp [List.getD_eq_getElem?_getD, hil]
        obtain ⟨r, hr⟩ : ∃ r, r = bs.getD i [] := ⟨_, rfl⟩
        rw [← hr] at hz0 hzc hzC hre
        have hXok := HLI.out.ok Ls[i] (List.getElem_mem hil)
        have hnext := tableOf_take Ls i hil
        obtain ⟨X, hX⟩ : ∃ X, X = Ls[i] := ⟨_, rfl⟩
        rw [← hX] at hre hXok hnext
        have hrl : r.length = X.length := by rw [hre, List.length_map]
        have hGd : Rows.Good (tableOf (Ls.take i)) := (HLI.out.take' i).table
        have hGn : (tableOf (Ls.take (i + 1))).length ≤ 40 := HLI.out.room (i + 1)
        have hC0 := hC.out
        obtain ⟨W, hWt⟩ : ∃ W, W = tableOf (Ls.take i) := ⟨_, rfl⟩
        rw [← hWt] at hC0 hGd hnext ⊢
        obtain ⟨Wn, hWn⟩ : ∃ Wn, Wn = tableOf (Ls.take (i + 1)) := ⟨_, rfl⟩
        rw [← hWn] at hnext hGn
        have HC0 := Aside0.mk hC0
        have HWn := Aside0.mk hWn
        have HRe := Aside0.mk hre
        have HRl := Aside0.mk hrl
        have HX := Aside0.mk hXok
        have HNx := Aside0.mk hnext
        have HGd := Aside0.mk (And.intro hGd hGn)
        have HZ := Aside0.mk hz0
        have HZC := Aside0.mk (And.intro hzc hzC)
        obtain ⟨W1, hW1⟩ : ∃ W, W = wr := ⟨_, rfl⟩
        subst hW1
        obtain ⟨G1, hG1⟩ : ∃ G, G = gk := ⟨_, rfl⟩
        subst hG1
        have kz0 := cell_below hz0 hW.out
        clear hr hX hrl hre hXok hnext hGd hGn hC0 hC hWt hWn hz0 hzc hzC hil
        go_wp2
        go_loopg [11, 12] (r.length) (fun kq v11 v12 wr => ∃ (k : Nat), v12 = .int .i64 k ∧ Aside0 (kq + k = r.length) ∧ Aside0 (k67.R 67 wr W1.heap.size (fun _ => True) v11 (X.take k)) ∧ Aside0 (Below W1.heap.size W1 wr))
        case atStart => exact ⟨0, rfl, ⟨by omega⟩, ⟨Kd.R_nil _ _ _ _ _⟩, ⟨Below.refl _ _⟩⟩
        case round =>
          obtain ⟨k, rfl, hK2, hO, hW2⟩ := hrel
          have kz1 := cell_below kz0 hW2.out
          by_cases hkl : k < r.length
          · have hk1 : (k : Int) < (r.length : Int) := by omega
            have hk0 : (0 : Int) ≤ (k : Int) := by omega
            have hkX : k < X.length := by rw [← HRl.out]; exact hkl
            have hwk : IntKind.i64.wrap ((k : Int) + 1) = (k : Int) + 1 := by have h1 := HX.out.2.1; rw [IntKind.wrap_i64]; omega
            obtain ⟨ad8, A9, c9, rfl, hy0, hyc, hyC⟩ := at_row HZC.out.2 k hkl
            have hye : r.getD k [] = recOf X[k] := by rw [HRe.out]; simp [List.getD_eq_getElem?_getD, hkX]
            rw [hye] at hy0 hyc hyC
            have hWr := HX.out.2.2 X[k] (List.getElem_mem hkX)
            obtain ⟨x, hx⟩ : ∃ x, x = X[k] := ⟨_, rfl⟩
            rw [← hx] at hy0 hyc hyC hWr
            have HXk := Aside0.mk hx
            have hb6 := hW.out.trans (hW2.out.mono hW.out.size)
            obtain ⟨h1, h2, h3⟩ := hWr
            have hl := rec_length x
            obtain ⟨ad, rfl, hx0⟩ := Kd.at_int hyC 0 (by omega) (by omega)
            have hx0' : w6.cell? ad = some (.int .u8 x.f0.size) := by rw [← show rd (recOf x) 0 = (x.f0.size : Int) from rfl, ← hx0]; simp [Addr.add]
            have hcv1 : (Kd.int .u8).C w6 (some (ad.add 1)) x.f0.size (bytesOf x.f0) := by
              have h := Kd.C_mid (c := c9) (lo := 1) (hi := x.f0.size + 1) hyC (by omega) (by omega) hyc
              rw [rec_key, bytesOf_length, if_neg (by omega)] at h
              exact h
            have hcv2 : (Kd.int .u8).C w6 (if c9 = x.f0.size + 1 then some ad else some (ad.add (x.f0.size + 1))) x.f1.size (bytesOf x.f1) := by
              have h := Kd.C_drop (c := c9) (m := x.f0.size + 1) hyC (by omega) hyc
              rw [rec_val, bytesOf_length] at h
              have e : (x.f0.size + 1) * (Kd.int .u8).sz = x.f0.size + 1 := Nat.mul_one _
              rw [e] at h
              exact h
            rw [hl] at hyc hy0
            have HXe : Aside0 (X.take (k + 1) = X.take k ++ [x]) := ⟨by rw [List.take_succ_eq_append_getElem hkX, hx]⟩
            have HLk := Aside0.mk (show (X.take k).length = k ∧ k ≤ 60 by rw [List.length_take]; have := HX.out.2.1; omega)
            have hx0 := cell_below hx0' hb6
            have ky0 := cell_below hy0 hb6
            have hC1 := Aside0.mk (Kd.C_below hcv1 hb6)
            have hC2 := Aside0.mk (Kd.C_below hcv2 hb6)
            clear hye hx hl hx0' hcv1 hcv2 hy0 hyC
            obtain ⟨ks, vs⟩ := x
            dsimp only at *
            have hlt3 : decide ((((ks.size + vs.size + 1 : Nat)) : Int) < (ks.size : Int) + 1) = false := decide_eq_false (by omega)
            have hln3 : ¬ (((ks.size + vs.size + 1 : Nat)) : Int) < (ks.size : Int) + 1 := by omega
            have hz0 : (0 : Int) < (((ks.size + vs.size + 1 : Nat)) : Int) := by omega
            have hze : ((((ks.size + vs.size + 1 : Nat)) : Int) == 0) = false := beq_eq_false_iff_ne.2 (by omega)
            have hc1 : (c9 = 1) = False := eq_false (by omega)
            have hw : IntKind.i64.wrap ((ks.size : Int) + 1) = (ks.size : Int) + 1 := by rw [IntKind.wrap_i64]; omega
            have hw2 : IntKind.i64.wrap (1 + (ks.size : Int)) = 1 + (ks.size : Int) := by rw [IntKind.wrap_i64]; omega
            have hwn : IntKind.i64.wrap (ks.size : Int) = (ks.size : Int) := by rw [IntKind.wrap_i64]; omega
            have hNb : ks.size + 1 ≤ ks.size + vs.size + 1 := by omega
            have hVs := Aside0.mk (show ks.size + vs.size + 1 - (ks.size + 1) = vs.size by omega)
            have hbig := Aside0.mk (And.intro h2 h3)
            generalize hNN : ks.size + vs.size + 1 = N at *
            generalize hn : ks.size = n at *
            clear hn hNN h1 h2 h3
            obtain ⟨A1, hA1⟩ : ∃ A1, A1 = ad.add 1 := ⟨_, rfl⟩
            rw [← hA1] at hC1
            obtain ⟨i5, hi5, hi5s⟩ := info5e
            have hs1 : ∀ W, Sem.run Try.prog (Instr.slice 25 (.slice (some ad) N c9) (some (.int .i64 1)) (some (.int .i64 (1 + (n : Int)))) none) W = .ok (.slice (some A1) n (c9 - 1)) W := fun W => by
              have h := cut_mid (P := Try.prog) 25 5 .i64 .i64 Try.underlying25 hi5 1 hi5s (some ad) N c9 1 (1 + (n : Int)) (by omega) (by omega) (by omega) hyc W
              rw [h, if_neg (by show ¬ c9 = 1; rw [hc1]; exact not_false), show (1 + (n : Int)).toNat - (1 : Int).toNat = n by omega]
              rw [hA1]; rfl
            obtain ⟨A2, hA2⟩ : ∃ A2, A2 = if c9 = n + 1 then some ad else some (ad.add (n + 1)) := ⟨_, rfl⟩
            rw [← hA2] at hC2
            have hs2 : ∀ W, Sem.run Try.prog (Instr.slice 25 (.slice (some ad) N c9) (some (.int .i64 (1 + (n : Int)))) none none) W = .ok (.slice A2 vs.size (c9 - (n + 1))) W := fun W => by
              have h := cut_from (P := Try.prog) 25 5 .i64 Try.underlying25 hi5 1 hi5s (some ad) N c9 (1 + (n : Int)) (by omega) (by omega) W
              rw [h, show (1 + (n : Int)).toNat = n + 1 by omega, hA2, Nat.mul_one, hVs.out]; rfl
            clear hA2 hA1 hb6
            obtain ⟨A11, c11, rfl, _, _⟩ := Kd.R_reads hO.out
            obtain ⟨K11, hK11⟩ : ∃ K11, K11 = (X.take k).length := ⟨_, rfl⟩
            have hO2 := hO.out
            rw [← hK11] at hO2 ⊢
            have HO2 := Aside0.mk hO2
            have HK11 := Aside0.mk hK11
            clear hO2 hK11 hO
            go_upto_region 20 with (fail)
            refine region_facts (by kernel_rfl) 19 (F20 wr.heap.size (.slice A11 K11 c11) ad A1 A2 N c9 n vs.size ks vs) (by kernel_rfl) F20.last ?_ ?_
            · refine ⟨?_, ?_, ?_, ?_, ?_, ?_, ?_, ?_, ?_, ?_, ?_, ?_, ?_, ?_, ?_, ?_, ?_, ?_, ?_, trivial⟩
              · intro ev w1 hb hc hf hg hbase hdep
                refine ⟨fun _ => ?_, fun h => absurd trivial h⟩
                have e0 : ev (.tmp 11) = .slice A11 K11 c11 := hbase 11 (by decide)
                unfold Gives
                go_simp
                exact ⟨rfl, Below.refl _ _⟩
              · intro ev w1 hb hc hf hg hbase hdep
                refine ⟨fun _ => ?_, fun h => absurd trivial h⟩
                have e0 : ev (.tmp 13) = .slice (some ad) N c9 := hbase 13 (by decide)
                unfold Gives
                go_simp
                exact ⟨rfl, Below.refl _ _⟩
              · intro ev w1 hb hc hf hg hbase hdep
                refine ⟨fun _ => ?_, fun h => absurd trivial h⟩
                have e0 : ev (.tmp 13) = .slice (some ad) N c9 := hbase 13 (by decide)
                unfold Gives
                go_simp
                exact ⟨rfl, Below.refl _ _⟩
              · intro ev w1 hb hc hf hg hbase hdep
                refine ⟨fun _ => ?_, fun h => absurd trivial h⟩
                have e1 : ev (.tmp 96) = .slice (some ad) N c9 := hdep 2 (by decide)
                have hN0 : 0 < N := by omega
                unfold Gives
                go_simp
                exact ⟨rfl, Below.refl _ _⟩
              · intro ev w1 hb hc hf hg hbase hdep
                refine ⟨fun _ => ?_, fun h => absurd trivial h⟩
                have e1 : ev (.tmp 97) = .pointer (some ad) := hdep 3 (by decide)
                have hc1 : w1.cell? ad = some (.int .u8 n) := cell_below hx0 hb
                unfold Gives
                go_simp
                exact ⟨rfl, Below.refl _ _⟩
              · intro ev w1 hb hc hf hg hbase hdep
                refine ⟨fun _ => ?_, fun h => absurd trivial h⟩
                have e1 : ev (.tmp 98) = .int .u8 n := hdep 4 (by decide)
                unfold Gives
                go_simp
                exact ⟨rfl, Below.refl _ _⟩
              · intro ev w1 hb hc hf hg hbase hdep
                refine ⟨fun _ => ?_, fun h => absurd trivial h⟩
                have e1 : ev (.tmp 99) = .int .i64 n := hdep 5 (by decide)
                unfold Gives
                go_simp
                exact ⟨rfl, Below.refl _ _⟩
              · intro ev w1 hb hc hf hg hbase hdep
                refine ⟨fun _ => ?_, fun h => absurd trivial h⟩
                have e1 : ev (.tmp 95) = .slice (some ad) N c9 := hdep 1 (by decide)
                have e2 : ev (.tmp 100) = .int .i64 (1 + (n : Int)) := hdep 6 (by decide)
                unfold Gives
                go_simp
                exact ⟨rfl, Below.refl _ _⟩
              · intro ev w1 hb hc hf hg hbase hdep
                refine ⟨fun _ => ?_, fun h => absurd trivial h⟩
                have e1 : ev (.tmp 101) = .slice (some A1) n (c9 - 1) := hdep 7 (by decide)
                have hcv := Kd.C_string (P := Try.prog) (src := 25) (dst := 9) (c := c9 - 1) Try.underlying25 under5 under9 (Kd.C_below hC1.out hb)
                rw [str_bytes] at hcv
                unfold Gives
                go_simp
                exact ⟨rfl, Below.refl _ _⟩
              · intro ev w1 hb hc hf hg hbase hdep
                refine ⟨fun _ => ?_, fun h => absurd trivial h⟩
                have e0 : ev (.tmp 13) = .slice (some ad) N c9 := hbase 13 (by decide)
                unfold Gives
                go_simp
                exact ⟨rfl, Below.refl _ _⟩
              · intro ev w1 hb hc hf hg hbase hdep
                refine ⟨fun _ => ?_, fun h => absurd trivial h⟩
                have e0 : ev (.tmp 13) = .slice (some ad) N c9 := hbase 13 (by decide)
                unfold Gives
                go_simp
                exact ⟨rfl, Below.refl _ _⟩
              · intro ev w1 hb hc hf hg hbase hdep
                refine ⟨fun _ => ?_, fun h => absurd trivial h⟩
                have e1 : ev (.tmp 104) = .slice (some ad) N c9 := hdep 10 (by decide)
                have hN0 : 0 < N := by omega
                unfold Gives
                go_simp
                exact ⟨rfl, Below.refl _ _⟩
              · intro ev w1 hb hc hf hg hbase hdep
                refine ⟨fun _ => ?_, fun h => absurd trivial h⟩
                have e1 : ev (.tmp 105) = .pointer (some ad) := hdep 11 (by decide)
                have hc1 : w1.cell? ad = some (.int .u8 n) := cell_below hx0 hb
                unfold Gives
                go_simp
                exact ⟨rfl, Below.refl _ _⟩
              · intro ev w1 hb hc hf hg hbase hdep
                refine ⟨fun _ => ?_, fun h => absurd trivial h⟩
                have e1 : ev (.tmp 106) = .int .u8 n := hdep 12 (by decide)
                unfold Gives
                go_simp
                exact ⟨rfl, Below.refl _ _⟩
              · intro ev w1 hb hc hf hg hbase hdep
                refine ⟨fun _ => ?_, fun h => absurd trivial h⟩
                have e1 : ev (.tmp 107) = .int .i64 n := hdep 13 (by decide)
                unfold Gives
                go_simp
                exact ⟨rfl, Below.refl _ _⟩
              · intro ev w1 hb hc hf hg hbase hdep
                refine ⟨fun _ => ?_, fun h => absurd trivial h⟩
                have e1 : ev (.tmp 103) = .slice (some ad) N c9 := hdep 9 (by decide)
                have e2 : ev (.tmp 108) = .int .i64 (1 + (n : Int)) := hdep 14 (by decide)
                unfold Gives
                go_simp
                exact ⟨rfl, Below.refl _ _⟩
              · intro ev w1 hb hc hf hg hbase hdep
                refine ⟨fun _ => ?_, fun h => absurd trivial h⟩
                have e1 : ev (.tmp 109) = .slice A2 vs.size (c9 - (n + 1)) := hdep 15 (by decide)
                have hcv := Kd.C_string (P := Try.prog) (src := 25) (dst := 9) (c := c9 - (n + 1)) Try.underlying25 under5 under9 (Kd.C_below hC2.out hb)
                rw [str_bytes] at hcv
                unfold Gives
                go_simp
                exact ⟨rfl, Below.refl _ _⟩
              · intro ev w1 hb hc hf hg hbase hdep
                refine ⟨fun _ => ?_, fun h => absurd trivial h⟩
                have e1 : ev (.tmp 102) = .string ks := hdep 8 (by decide)
                have e2 : ev (.tmp 110) = .string vs := hdep 16 (by decide)
                unfold Gives
                go_simp
                exact ⟨rfl, Below.refl _ _⟩
              · intro ev w1 hb hc hf hg hbase hdep
                refine ⟨fun _ => ?_, fun h => absurd trivial h⟩
                have e1 : ev (.tmp 111) = .agg #[.string ks, .string vs] := hdep 17 (by decide)
                unfold Gives
                go_simp
                exact ⟨⟨_, rfl, hb.size, new_block _ _⟩, below_alloc (Below.refl _ _) _⟩
            · intro y w1 hb hbase hF
              have e94 : y 94 = .slice A11 K11 c11 := hF 0 (by decide)
              obtain ⟨g, e112, hg0, hg1⟩ : FLit wr.heap.size #[.string ks, .string vs] 67 1 (y 112) w1 := hF 18 (by decide)
              have e0 := hbase 0 (by decide)
              have e1 := hbase 1 (by decide)
              have e2 := hbase 2 (by decide)
              have e3 := hbase 3 (by decide)
              have e4 := hbase 4 (by decide)
              have e5 := hbase 5 (by decide)
              have e6 := hbase 6 (by decide)
              have e7 := hbase 7 (by decide)
              have e8 := hbase 8 (by decide)
              have e9 := hbase 9 (by decide)
              have e10 := hbase 10 (by decide)
              have e11 := hbase 11 (by decide)
              have e12 := hbase 12 (by decide)
              have e13 := hbase 13 (by decide)
              have e14 := hbase 14 (by decide)
              have e15 := hbase 15 (by decide)
              have e16 := hbase 16 (by decide)
              have e17 := hbase 17 (by decide)
              have e18 := hbase 18 (by decide)
              have e19 := hbase 19 (by decide)
              have e20 := hbase 20 (by decide)
              have e21 := hbase 21 (by decide)
              have e22 := hbase 22 (by decide)
              have e23 := hbase 23 (by decide)
              have e24 := hbase 24 (by decide)
              have e25 := hbase 25 (by decide)
              have e26 := hbase 26 (by decide)
              have e27 := hbase 27 (by decide)
              have e28 := hbase 28 (by decide)
              have e29 := hbase 29 (by decide)
              have e30 := hbase 30 (by decide)
              have e31 := hbase 31 (by decide)
              have e32 := hbase 32 (by decide)
              have e33 := hbase 33 (by decide)
              have e34 := hbase 34 (by decide)
              have e35 := hbase 35 (by decide)
              have e36 := hbase 36 (by decide)
              have e37 := hbase 37 (by decide)
              have e38 := hbase 38 (by decide)
              have e39 := hbase 39 (by decide)
              have e40 := hbase 40 (by decide)
              have e41 := hbase 41 (by decide)
              have e42 := hbase 42 (by decide)
              have e43 := hbase 43 (by decide)
              have e44 := hbase 44 (by decide)
              have e45 := hbase 45 (by decide)
              have e46 := hbase 46 (by decide)
              have e47 := hbase 47 (by decide)
              have e48 := hbase 48 (by decide)
              have e49 := hbase 49 (by decide)
              have e50 := hbase 50 (by decide)
              have e51 := hbase 51 (by decide)
              have e52 := hbase 52 (by decide)
              have e53 := hbase 53 (by decide)
              have e54 := hbase 54 (by decide)
              have e55 := hbase 55 (by decide)
              have e56 := hbase 56 (by decide)
              have e57 := hbase 57 (by decide)
              have e58 := hbase 58 (by decide)
              have e59 := hbase 59 (by decide)
              have e60 := hbase 60 (by decide)
              have e61 := hbase 61 (by decide)
              have e62 := hbase 62 (by decide)
              have e63 := hbase 63 (by decide)
              have e64 := hbase 64 (by decide)
              have e65 := hbase 65 (by decide)
              have e66 := hbase 66 (by decide)
              have e67 := hbase 67 (by decide)
              have e68 := hbase 68 (by decide)
              have e69 := hbase 69 (by decide)
              have e70 := hbase 70 (by decide)
              have e71 := hbase 71 (by decide)
              have e72 := hbase 72 (by decide)
              have e73 := hbase 73 (by decide)
              have e74 := hbase 74 (by decide)
              have e75 := hbase 75 (by decide)
              have e76 := hbase 76 (by decide)
              have e77 := hbase 77 (by decide)
              have e78 := hbase 78 (by decide)
              have e79 := hbase 79 (by decide)
              have e80 := hbase 80 (by decide)
              have e81 := hbase 81 (by decide)
              have e82 := hbase 82 (by decide)
              have e83 := hbase 83 (by decide)
              have e84 := hbase 84 (by decide)
              have e85 := hbase 85 (by decide)
              have e86 := hbase 86 (by decide)
              have e87 := hbase 87 (by decide)
              have e88 := hbase 88 (by decide)
              have e89 := hbase 89 (by decide)
              have e90 := hbase 90 (by decide)
              have e91 := hbase 91 (by decide)
              have e92 := hbase 92 (by decide)
              have e93 := hbase 93 (by decide)
              have e113 := hbase 113 (by decide)
              have e114 := hbase 114 (by decide)
              have e115 := hbase 115 (by decide)
              have e116 := hbase 116 (by decide)
              have e117 := hbase 117 (by decide)
              have e118 := hbase 118 (by decide)
              have e119 := hbase 119 (by decide)
              have e120 := hbase 120 (by decide)
              have e121 := hbase 121 (by decide)
              have e122 := hbase 122 (by decide)
              have e123 := hbase 123 (by decide)
              have e124 := hbase 124 (by decide)
              have e125 := hbase 125 (by decide)
              have e126 := hbase 126 (by decide)
              have e127 := hbase 127 (by decide)
              have e128 := hbase 128 (by decide)
              have e129 := hbase 129 (by decide)
              have e130 := hbase 130 (by decide)
              have e131 := hbase 131 (by decide)
              have HO3 := Aside0.mk (Kd.R_below HO2.out hb)
              have HB3 := Aside0.mk (hW2.out.trans (hb.mono hW2.out.size))
              have HG1 := Aside0.mk hg1
              simp only [List.drop_succ_cons, List.drop_zero, List.size_toArray, List.length_cons, List.length_nil, Nat.reduceAdd, List.range, List.range.loop, List.map_cons, List.map_nil, e94, e112, e0, e1, e2, e3, e4, e5, e6, e7, e8, e9, e10, e11, e12, e13, e14, e15, e16, e17, e18, e19, e20, e21, e22, e23, e24, e25, e26, e27, e28, e29, e30, e31, e32, e33, e34, e35, e36, e37, e38, e39, e40, e41, e42, e43, e44, e45, e46, e47, e48, e49, e50, e51, e52, e53, e54, e55, e56, e57, e58, e59, e60, e61, e62, e63, e64, e65, e66, e67, e68, e69, e70, e71, e72, e73, e74, e75, e76, e77, e78, e79, e80, e81, e82, e83, e84, e85, e86, e87, e88, e89, e90, e91, e92, e93, e113, e114, e115, e116, e117, e118, e119, e120, e121, e122, e123, e124, e125, e126, e127, e128, e129, e130, e131]
              clear hF hbase e94 e112 hg0 hg1 hb e0 e1 e2 e3 e4 e5 e6 e7 e8 e9 e10 e11 e12 e13 e14 e15 e16 e17 e18 e19 e20 e21 e22 e23 e24 e25 e26 e27 e28 e29 e30 e31 e32 e33 e34 e35 e36 e37 e38 e39 e40 e41 e42 e43 e44 e45 e46 e47 e48 e49 e50 e51 e52 e53 e54 e55 e56 e57 e58 e59 e60 e61 e62 e63 e64 e65 e66 e67 e68 e69 e70 e71 e72 e73 e74 e75 e76 e77 e78 e79 e80 e81 e82 e83 e84 e85 e86 e87 e88 e89 e90 e91 e92 e93 e113 e114 e115 e116 e117 e118 e119 e120 e121 e122 e123 e124 e125 e126 e127 e128 e129 e130 e131
              clear hs1 hs2 hx0 hC1 hC2
              go_wp2_with (at_builtin; refine Kd.R_append_rows k67 (w0 := W1) W1.heap.size rfl (.tmp 94) (.tmp 112) 58 67 (.agg #[(.string ⟨#[]⟩), (.string ⟨#[]⟩)]) 32 rfl Try.underlying58 info67 rfl (by decide) (by omega) _ (X.take k) [(⟨ks, vs⟩ : S67)] _ _ _ (fun _ => True) (fun _ => False) rfl rfl HO3.out (one_reads (c := (⟨ks, vs⟩ : S67)) HG1.out) (fun x cs h => by rw [k67_open h]; exact k67_mkM _ _ _ x) (fun _ h => h.elim) (fun _ _ => trivial) HB3.out HB3.out.size (by rw [HLk.out.1]; have := HLk.out.2; omega) ?_; intro v3 w3 ho hbb _ _; have HO4 := Aside0.mk ho; have HB4 := Aside0.mk hbb; clear ho hbb)
              go_roundg (gk - 1)
              case measure => have := hK2.out; omega
              case rel => exact ⟨k + 1, by go_num, ⟨by have := hK2.out; omega⟩, ⟨by rw [HXe.out]; exact HO4.out⟩, HB4⟩
          · have hk1 : ¬ (k : Int) < (r.length : Int) := by omega
            have hkd : decide ((k : Int) < (r.length : Int)) = false := decide_eq_false hk1
            have hE : Aside0 (X.take k = X) := ⟨List.take_of_length_le (by rw [← HRl.out]; omega)⟩
            have hO2 := hO.out
            rw [hE.out] at hO2
            obtain ⟨A11, c11, rfl, k11, g11⟩ := Kd.R_reads hO2
            have HC11 := Aside0.mk (And.intro k11 g11)
            clear hkl hO hO2 hE k11 g11
            go_wp2_with (go_at_call 41; refine (set_calls Aw A11 cw c11 W X wr (Kd.C_below HC0.out.2 hW2.out) HC0.out.1 HC11.out.2 HC11.out.1 HGd.out.1 (fun c hc => wr_small (HX.out.2.2 c hc)) HX.out.2.1 (by rw [← HNx.out]; exact HGd.out.2)).mono ?_; rintro e w8 ⟨A12, c12, rfl, k12, g12, hb⟩; rw [← HNx.out] at k12 g12 ⊢; have HC12 := Aside0.mk (And.intro k12 g12); have HB8 := Aside0.mk (hW.out.trans ((hW2.out.trans (hb.mono hW2.out.size)).mono hW.out.size)); clear hb k12 g12)
            go_roundg (G1 - 1)
            case measure => have := hK.out; omega
            case rel => exact ⟨i + 1, _, _, by go_num, by rw [← HWn.out], ⟨by have := hK.out; omega⟩, ⟨by rw [← HWn.out]; exact HC12.out⟩, HB8⟩
      · have hE : Aside0 (tableOf (Ls.take i) = T) := ⟨by rw [List.take_of_length_le (by rw [← HBs.out.2]; omega)]; exact HT.out.symm⟩
        have hb1 : ¬ (i : Int) < (bs.length : Int) := by omega
        have hb2 : decide ((i : Int) < (bs.length : Int)) = false := decide_eq_false hb1
        have hC0 := hC.out
        rw [hE.out] at hC0 ⊢
        have HC0 := Aside0.mk hC0
        have hwL : IntKind.i64.wrap ((m.length : Int) - 1) = (l.length : Int) := by have := HMl.out; have := HL.out; rw [IntKind.wrap_i64]; omega
        have hl0 : (0 : Int) ≤ (l.length : Int) := by omega
        have hl2 : (l.length : Int) < (m.length : Int) := by omega
        have hq := F5.out
        rw [toldOf_length] at hq
        obtain ⟨ad5, A9, c9, rfl, hz0, hz1, hzc, hzC⟩ := at_T81 hq (l.length : Int) hl0 hl2
        rw [HTold.out, Int.toNat_natCast] at hz1
        rw [HTold.out] at hzc hzC
        dsimp only at hz1 hzc hzC
        have kz1 := cell_below hz1 hW.out
        have HC9 := Aside0.mk (And.intro hzc (Kd.C_below hzC hW.out))
        clear hlt hC hC0 hE hq hz0 hz1 hzc hzC
        go_wp2_with (go_at_call 54; refine (top_same Aw A9 cw c9 T T wr HC0.out.2 HC0.out.1 HC9.out.2 HC9.out.1 HTm.out).mono ?_; rintro e w8 ⟨rfl, hb⟩; rw [decide_eq_true rfl]; have HB8 := Aside0.mk (hW.out.trans (hb.mono hW.out.size)); clear hb)
        go_ret
        exact ⟨rfl, HEnd.out.trans (HB8.out.mono HEnd.out.size)⟩
end Go.Proofs.Ytmfkgbncnaingaa.Sto
