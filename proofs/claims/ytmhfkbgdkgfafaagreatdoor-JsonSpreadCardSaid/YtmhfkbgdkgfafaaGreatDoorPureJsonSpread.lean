/- JsonSpread: its walk straight to its answer, true. -/
import Derived.Test.YtmhfkbgdkgfafaaGreatDoorJsSp
import Derived.OpenShut
namespace Go.Proofs.YtmhfkbgdkgfafaaGreatDoor.Js
open Go.RowKit Go.Proofs.YtmhfkbgdkgfafaaGreatDoor.QJson Go.Proofs.YtmhfkbgdkgfafaaGreatDoorW.PrintWords Go.Proofs.YtmhfkbgdkgfafaaGreatDoorW.PrintLast Go.Proofs.YtmhfkbgdkgfafaaGreatDoorW.PrintMore
set_option linter.unusedVariables false
set_option linter.unusedSimpArgs false


def gapOf : Nat → List UInt8
  | 0 => []
  | 1 => [32]
  | 2 => [10, 9]
  | _ => [32, 32, 13]
theorem gap_blank (m : Nat) : ∀ c ∈ gapOf m, blankB c = true := by
  intro c hc
  have hall : ∀ l ∈ ([[], [32], [10, 9], [32, 32, 13]] : List (List UInt8)), ∀ c ∈ l, blankB c = true := by decide
  refine hall (gapOf m) ?_ c hc
  match m with
  | 0 => simp [gapOf]
  | 1 => simp [gapOf]
  | 2 => simp [gapOf]
  | m + 3 => simp [gapOf]
theorem gap_len (m : Nat) : (gapOf m).length ≤ 3 := by
  match m with
  | 0 => simp [gapOf]
  | 1 => simp [gapOf]
  | 2 => simp [gapOf]
  | m + 3 => simp [gapOf]
theorem gap_cell (m : Nat) (hm : m < 4) : (#[.string ⟨#[]⟩, .string ⟨#[32]⟩, .string ⟨#[10, 9]⟩, .string ⟨#[32, 32, 13]⟩] : Array Value)[m]? = some (.string (str (gapOf m))) := by
  match m, hm with
  | 0, _ => rfl
  | 1, _ => rfl
  | 2, _ => rfl
  | 3, _ => rfl
theorem picked_4 (a : Int) (w : World) : ∃ m : Nat, m < 4 ∧ Calls Tryz.prog 15 #[.int .i64 a, .int .i64 4] w fun e w' => e = .returned (.int .i64 (m : Int)) ∧ Drawn0 w w' := by
  have h1 := Int.emod_nonneg a (show (4 : Int) ≠ 0 by decide)
  have h2 := Int.emod_lt_of_pos a (show (0 : Int) < 4 by decide)
  refine ⟨(a % 4).toNat, by omega, ?_⟩
  rw [show (((a % 4).toNat : Nat) : Int) = a % 4 by omega]
  exact bagnallkeep_Picked.calls a 4 _ w (picked a 4 (by decide) (by decide))
/-! ### how long the text with blanks is -/
theorem sp_bound (g : List UInt8) (hg : g.length ≤ 3) : ∀ (e : Nat) (v : S26), WF e v → Tame v → (sp g v).length + 30 ≤ 200 * cnt v
  | 0, v, hv, _ => nomatch hv
  | e + 1, v, hv, ht => by
    have IH := sp_bound g hg e
    obtain ⟨k, n, t, ks, ps⟩ := v
    have hce : cnt ⟨k, n, t, ks, ps⟩ = 1 + cnts ps := cnt_eq _
    have hA : ∀ (qs : List S26) (b : Bool), (∀ p ∈ qs, p ∈ ps) → (spA g b qs).length ≤ 200 * cnts qs := by
      intro qs
      induction qs with
      | nil => intro b _; rw [spA, cnts]; simp
      | cons q qs ih =>
        intro b hq
        have h1 := ih false (fun p hp => hq p (List.mem_cons_of_mem _ hp))
        have hm := hq q (List.mem_cons_self ..)
        have h2 := IH q (hv.part hm) (ht.part hm)
        rw [spA, cnts]
        simp only [List.length_append]
        have h3 : (if b = true then ([] : List UInt8) else 44 :: g).length ≤ 1 + g.length := by
          split
          · simp
          · simp; omega
        omega
    have hO : ∀ (qs : List S26) (ls : List ByteArray), (∀ p ∈ qs, p ∈ ps) → (∀ l ∈ ls, l ∈ ks) → ls.length = qs.length → (spO g ls qs).length ≤ 200 * cnts qs := by
      intro qs
      induction qs with
      | nil => intro ls _ _ _; rw [spO, cnts]; simp
      | cons q qs ih =>
        intro ls hq hls hlen
        cases ls with
        | nil => cases hlen
        | cons a ls =>
          have h1 := ih ls (fun p hp => hq p (List.mem_cons_of_mem _ hp)) (fun l hl => hls l (List.mem_cons_of_mem _ hl)) (by simpa using hlen)
          have hm := hq q (List.mem_cons_self ..)
          have h2 := IH q (hv.part hm) (ht.part hm)
          have h4 := ht.key a (hls a (List.mem_cons_self ..))
          rw [spO, cnts, List.headD_cons, List.tail_cons]
          simp only [List.length_append, List.length_cons, List.length_nil]
          have h3 : (if qs.length = 0 then ([] : List UInt8) else g ++ [44]).length ≤ 1 + g.length := by
            split
            · simp
            · simp; omega
          omega
    by_cases h6 : k = 6
    · rw [sp, if_pos h6, hce]
      have := hA ps true (fun p hp => hp)
      simp only [List.length_cons, List.length_append, List.length_nil]; omega
    by_cases h7 : k = 7
    · rw [sp, if_neg h6, if_pos h7, hce]
      have := hO ps ks (fun p hp => hp) (fun l hl => hl) (hv.keys h7)
      simp only [List.length_cons, List.length_append, List.length_nil]; omega
    · rw [sp, if_neg h6, if_neg h7, hce]
      have := ht.leaf h6 h7
      omega

set_option maxHeartbeats 8000000 in
set_option maxRecDepth 100000 in
theorem spreadl_walk (A0 : Option Addr) (c0 : Nat) (l : List Int) (a : Int) (w : World) (hr0 : Kd.C (Kd.int .i64) w A0 l.length l) (hc0 : l.length ≤ c0) (ha : (Lit.int .i64 a).wf = true) (hE : Glob w.heap.size w) :
    Calls Tryz.prog 4 #[.slice A0 l.length c0, .int .i64 a] w fun e w' => e = .returned (.bool true) ∧ Below w.heap.size w w' := by
  have HR0 := Aside0.mk (And.intro hr0 hc0)
  have HE := Aside0.mk hE
  clear hr0 hc0 hE ha
  go_enter Tryz.func4, Tryz.ntmps4
  go_upto_region 2 with (first
    | (go_at_call 10; refine (valueOf_calls 3 (by decide) A0 c0 l w HR0.out.1 HR0.out.2).mono ?_; rintro e w1 ⟨v, A3, c3, A4, c4, v5, rfl, k1, k2, hb⟩; have HF := Aside0.mk k1; have V1 := Aside0.mk k2; have S1 := Aside0.mk hb; clear k1 k2 hb))
  have hbx := Box.new w1 v A3 c3 A4 c4
  have hb1 : Below w1.heap.size w1 (w1.alloc (.cells #[.int .i64 v.f0, .int .i64 v.f1, .string v.f2, .slice A3 v.f3.length c3, .slice A4 v.f4.length c4] 26)) := below_alloc (Below.refl _ _) _
  generalize w1.alloc (.cells #[.int .i64 v.f0, .int .i64 v.f1, .string v.f2, .slice A3 v.f3.length c3, .slice A4 v.f4.length c4] 26) = W1 at hbx hb1 ⊢
  obtain ⟨ga, hga⟩ : ∃ g, g = w1.heap.size := ⟨_, rfl⟩
  rw [← hga] at hbx ⊢
  clear hga
  have X1 := Aside0.mk hbx
  have Y1 := Aside0.mk (V1.out.below hb1)
  have T1 := Aside0.mk (S1.out.trans (hb1.mono S1.out.size))
  clear hbx hb1 V1 S1 HR0
  obtain ⟨k, n, t, ks, ps⟩ := v
  obtain ⟨m, hm, hpk0⟩ := picked_4 a (W1.alloc (.cells #[.string ⟨#[]⟩, .string ⟨#[32]⟩, .string ⟨#[10, 9]⟩, .string ⟨#[32, 32, 13]⟩] 9))
  have HPk := Aside0.mk hpk0
  have hm1 : (m : Int) < 4 := by omega
  have hm0 : (0 : Int) ≤ (m : Int) := by omega
  obtain ⟨gs, hgs⟩ : ∃ x, x = str (gapOf m) := ⟨_, rfl⟩
  have HGc := Aside0.mk (show ∀ w3, Below (W1.alloc (.cells #[.string ⟨#[]⟩, .string ⟨#[32]⟩, .string ⟨#[10, 9]⟩, .string ⟨#[32, 32, 13]⟩] 9)).heap.size (W1.alloc (.cells #[.string ⟨#[]⟩, .string ⟨#[32]⟩, .string ⟨#[10, 9]⟩, .string ⟨#[32, 32, 13]⟩] 9)) w3 → w3.cell? ⟨W1.heap.size, m, none⟩ = some (.string gs) ∧ Below W1.heap.size W1 w3 from fun w3 hb => by
    refine ⟨(hb.cell (p := ⟨W1.heap.size, m, none⟩) (by simp)).trans ?_, (below_alloc (Below.refl _ _) _).trans (hb.mono (by simp))⟩
    rw [World.cell?_alloc_new, hgs]
    exact gap_cell m hm)
  have HGs := Aside0.mk (And.intro hgs hm)
  have hgz : gs.size ≤ 3 := by rw [hgs, str_size]; exact gap_len m
  clear hgs hm hpk0
  go_upto_region 3 with (first
    | (go_at_call 15; refine HPk.out.mono ?_; rintro e w3 ⟨rfl, hb⟩; obtain ⟨hgc, hb3⟩ := HGc.out w3 hb.below; have S3 := Aside0.mk hb3; clear hb hb3))
  clear hgc HPk HGc hm1 hm0
  have X3 := Aside0.mk (X1.out.below S3.out)
  have Y3 := Aside0.mk (Y1.out.below S3.out)
  have T3 := Aside0.mk (T1.out.trans (S3.out.mono T1.out.size))
  clear X1 Y1 T1 S3
  obtain ⟨n3, hn3⟩ : ∃ x, x = ks.length := ⟨_, rfl⟩
  obtain ⟨n4, hn4⟩ : ∃ x, x = ps.length := ⟨_, rfl⟩
  have HN := Aside0.mk (And.intro hn3 hn4)
  have HXc := Aside0.mk (show ∀ w1, Box w1 ga ⟨k, n, t, ks, ps⟩ A3 c3 A4 c4 → w1.cell? ⟨ga, 0, none⟩ = some (.int .i64 k) ∧ w1.cell? ⟨ga, 1, none⟩ = some (.int .i64 n) ∧ w1.cell? ⟨ga, 2, none⟩ = some (.string t) ∧ w1.cell? ⟨ga, 3, none⟩ = some (.slice A3 n3 c3) ∧ w1.cell? ⟨ga, 4, none⟩ = some (.slice A4 n4 c4) from fun w1 h => by rw [hn3, hn4]; exact h.all)
  have hbd := sp_bound (gapOf m) (gap_len m) 4 _ HF.out.wf HF.out.tm
  have HBd := Aside0.mk (show (sp (gapOf m) ⟨k, n, t, ks, ps⟩).length ≤ 60000 by have := HF.out.cn; omega)
  have HSp := Aside0.mk (show ∀ w1, Val w1 ⟨k, n, t, ks, ps⟩ A3 c3 A4 c4 → Below w.heap.size w w1 → Calls Tryz.prog 16 #[.agg #[.int .i64 k, .int .i64 n, .string t, .slice A3 n3 c3, .slice A4 n4 c4], .string gs] w1 fun e w' => e = .returned (.string (str (sp (gapOf m) ⟨k, n, t, ks, ps⟩))) ∧ Below w1.heap.size w1 w' from fun w1 hv hb => by
    rw [hn3, hn4, HGs.out.1]
    exact spread_walk (gapOf m) (by have := gap_len m; omega) 4 ⟨k, n, t, ks, ps⟩ HF.out.wf (by decide) HF.out.tm (by have := HBd.out; omega) A3 c3 A4 c4 w1 hv (glob_up HE.out w1 hb).now.tabs)
  have HCk := Aside0.mk (show ∀ w1, Val w1 ⟨k, n, t, ks, ps⟩ A3 c3 A4 c4 → Below w.heap.size w w1 → Calls Tryz.prog 17 #[.agg #[.int .i64 k, .int .i64 n, .string t, .slice A3 n3 c3, .slice A4 n4 c4]] w1 fun e w' => e = .returned (.int .i64 (chk ⟨k, n, t, ks, ps⟩)) ∧ Below w1.heap.size w1 w' from fun w1 hv hb => by
    rw [hn3, hn4]
    have h5 := HF.out.cn
    have h6 := HF.out.tx
    exact chk_ok HF.out.wf (by decide) (by omega) (by omega) A3 c3 A4 c4 w1 hv.k3 hv.l3 hv.k4 hv.l4 (glob_up HE.out w1 hb).now.tabs)
  have HSu := Aside0.mk (fun w1 (hb : Below w.heap.size w w1) => sure_calls w1 (glob_up HE.out w1 hb).now.tabs)
  clear hn3 hn4 hbd
  obtain ⟨x0, x1, x2, x3, x4⟩ := HXc.out w3 X3.out
  have HCa := Aside0.mk (HSp.out w3 Y3.out T3.out)
  have hsv0 := str_size (sp (gapOf m) ⟨k, n, t, ks, ps⟩)
  obtain ⟨sv, hsv⟩ : ∃ s, s = str (sp (gapOf m) ⟨k, n, t, ks, ps⟩) := ⟨_, rfl⟩
  rw [← hsv] at HCa hsv0
  have HSv := Aside0.mk hsv
  obtain ⟨s1, hs1⟩ : ∃ x, gs ++ sv = x := ⟨_, rfl⟩
  obtain ⟨s2, hs2⟩ : ∃ x, s1 ++ gs = x := ⟨_, rfl⟩
  have hsv1 : sv.size ≤ 60000 := by rw [hsv0]; exact HBd.out
  have z1 : s1.size = gs.size + sv.size := by rw [← hs1, ByteArray.size_append]
  have z2 : s2.size = s1.size + gs.size := by rw [← hs2, ByteArray.size_append]
  have hz1 : ¬ 9223372036854775807 < gs.size + sv.size := by omega
  have hz2 : ¬ 9223372036854775807 < s1.size + gs.size := by omega
  have HS2 := Aside0.mk (show s2 = str (gapOf m ++ sp (gapOf m) ⟨k, n, t, ks, ps⟩ ++ gapOf m) by rw [← hs2, ← hs1, HGs.out.1, hsv, str_append, str_append])
  have HZ2 := Aside0.mk z2
  clear hsv hsv0 hsv1 z1 z2 hgz HSp HBd
  go_upto_region 4 with (first
    | (go_at_call 16; refine HCa.out.mono ?_; rintro e w4 ⟨rfl, hb⟩; have S4 := Aside0.mk hb; clear hb))
  clear x0 x1 x2 x3 x4 HCa hz1 hz2 hs1 hs2 HSv
  have X4 := Aside0.mk (X3.out.below S4.out)
  have Y4 := Aside0.mk (Y3.out.below S4.out)
  have T4 := Aside0.mk (T3.out.trans (S4.out.mono T3.out.size))
  clear X3 Y3 T3 S4
  obtain ⟨x0, x1, x2, x3, x4⟩ := HXc.out w4 X4.out
  have hl2 := str_size (gapOf m ++ sp (gapOf m) ⟨k, n, t, ks, ps⟩ ++ gapOf m)
  rw [← HS2.out] at hl2
  have HL2 := Aside0.mk hl2
  clear hl2 HZ2
  by_cases hbig : 1200 < s2.size
  · have hb1 : ((1200 : Int) < (s2.size : Int)) = True := by simp; omega
    have HSua := Aside0.mk (HSu.out w4 T4.out)
    clear HCk HSu HE hbig
    go_wp2_with (first
      | (go_at_call 12; refine HSua.out.mono ?_; rintro e w5 ⟨rfl, hb⟩; have S5 := Aside0.mk (T4.out.trans (hb.mono T4.out.size)); clear hb))
    go_ret
    exact ⟨rfl, S5.out⟩
  have hb1 : ((1200 : Int) < (s2.size : Int)) = False := by simp; omega
  have HSm := Aside0.mk hbig
  clear hbig
  have HCa := Aside0.mk (HCk.out w4 Y4.out T4.out)
  clear HCk
  obtain ⟨cc, hcc⟩ : ∃ c, c = chk ⟨k, n, t, ks, ps⟩ := ⟨_, rfl⟩
  rw [← hcc] at HCa
  rcases chk01 ⟨k, n, t, ks, ps⟩ with ⟨h1, h1b⟩ | ⟨h1, h1b⟩
  · obtain rfl : cc = 1 := hcc.trans h1
    clear h1 h1b hcc
    go_wp2_with (first
      | (go_at_call 17; refine HCa.out.mono ?_; rintro e w5 ⟨rfl, hb⟩; have S5 := Aside0.mk (T4.out.trans (hb.mono T4.out.size)); clear hb)
      | (go_at_call 12; refine (HSu.out _ S5.out).mono ?_; rintro e w6 ⟨rfl, hb⟩; have S6 := Aside0.mk (S5.out.trans (hb.mono S5.out.size)); clear hb))
    go_ret
    exact ⟨rfl, S6.out⟩
  obtain rfl : cc = 0 := hcc.trans h1
  have HBg := Aside0.mk h1b
  clear h1 h1b hcc
  have HPa := Aside0.mk (show ∀ w5, Below w.heap.size w w5 → Calls Tryz.prog 13 #[.string s2] w5 fun e w' => ParseOut w5 ⟨k, n, t, ks, ps⟩ 0 e w' from fun w5 h5 => by
    rw [HS2.out]
    exact parse_known (parse_sp (fine_small HF.out).1 (by decide) (gapOf m) (gap_blank m) (gapOf m) (gapOf m) (gap_blank m) (gap_blank m)) (by have h1 := HL2.out; have h2 := HSm.out; omega) (fine_small HF.out).1 HBg.out w5 (glob_up HE.out w5 h5))
  have HSame1 := Aside0.mk (fun D3 e3 D4 e4 w1 (hu : Val w1 ⟨k, n, t, ks, ps⟩ D3 e3 D4 e4) (hv : Val w1 ⟨k, n, t, ks, ps⟩ A3 c3 A4 c4) => same_vals (fine_small HF.out).2.1 (fine_small HF.out).2.2 true ⟨fun _ => rfl, fun _ => rfl⟩ w1 hu hv)
  (try dsimp only at HSame1)
  rw [← HN.out.1, ← HN.out.2] at HSame1
  clear HF HE HBg HL2 HSm HS2 HGs
  go_upto_region 7 with (first
    | (go_at_call 17; refine HCa.out.mono ?_; rintro e w5 ⟨rfl, hb⟩; have S45 := Aside0.mk hb; have S5 := Aside0.mk (T4.out.trans (hb.mono T4.out.size)); clear hb)
    | (go_at_call 13; refine (HPa.out _ S5.out).mono ?_; rintro e w6 ⟨v3, v4, rfl, h3, h4, hb⟩; obtain ⟨D3, e3, D4, e4, hv3, hv4, hval⟩ := val_parsed (v := ⟨k, n, t, ks, ps⟩) h3 h4; (try dsimp only at hv3); (try dsimp only at hv4); rw [← HN.out.1] at hv3; rw [← HN.out.2] at hv4; subst hv3 hv4; have V6 := Aside0.mk hval; have S6 := Aside0.mk hb; clear h3 h4 hb hval))
  have hbx := Box.new w6 ⟨k, n, t, ks, ps⟩ D3 e3 D4 e4
  (try dsimp only at hbx)
  rw [← HN.out.1, ← HN.out.2] at hbx
  have hb2 : Below w6.heap.size w6 (w6.alloc (.cells #[.int .i64 k, .int .i64 n, .string t, .slice D3 n3 e3, .slice D4 n4 e4] 26)) := below_alloc (Below.refl _ _) _
  generalize w6.alloc (.cells #[.int .i64 k, .int .i64 n, .string t, .slice D3 n3 e3, .slice D4 n4 e4] 26) = W6 at hbx hb2 ⊢
  obtain ⟨gc, hgc⟩ : ∃ g, g = w6.heap.size := ⟨_, rfl⟩
  rw [← hgc] at hbx ⊢
  clear hgc
  have S56 := Aside0.mk (S6.out.trans (hb2.mono S6.out.size))
  have S46 := Aside0.mk (S45.out.trans (S56.out.mono S45.out.size))
  have P6 := Aside0.mk hbx
  have O6 := Aside0.mk (V6.out.below hb2)
  have T6 := Aside0.mk (S5.out.trans (S56.out.mono S5.out.size))
  clear hbx hb2 V6 S6 S56 S45
  have HW := Aside0.mk (show ∀ w7, Below W6.heap.size W6 w7 → Box w7 ga ⟨k, n, t, ks, ps⟩ A3 c3 A4 c4 ∧ Box w7 gc ⟨k, n, t, ks, ps⟩ D3 e3 D4 e4 ∧ Val w7 ⟨k, n, t, ks, ps⟩ A3 c3 A4 c4 ∧ Val w7 ⟨k, n, t, ks, ps⟩ D3 e3 D4 e4 ∧ Below w.heap.size w w7 from fun w7 h => by
    have h7 := S46.out.trans (h.mono S46.out.size)
    exact ⟨X4.out.below h7, P6.out.below h, Y4.out.below h7, O6.out.below h, T6.out.trans (h.mono T6.out.size)⟩)
  have HPc := Aside0.mk (show ∀ w1, Box w1 gc ⟨k, n, t, ks, ps⟩ D3 e3 D4 e4 → w1.cell? ⟨gc, 0, none⟩ = some (.int .i64 k) ∧ w1.cell? ⟨gc, 1, none⟩ = some (.int .i64 n) ∧ w1.cell? ⟨gc, 2, none⟩ = some (.string t) ∧ w1.cell? ⟨gc, 3, none⟩ = some (.slice D3 n3 e3) ∧ w1.cell? ⟨gc, 4, none⟩ = some (.slice D4 n4 e4) from fun w1 h => by rw [HN.out.1, HN.out.2]; exact h.all)
  have HSua := Aside0.mk (HSu.out W6 T6.out)
  clear HPa HSu HCa x0 x1 x2 x3 x4 X4 Y4 P6 O6 T6 S46 S5 T4
  go_wp2_with (first
    | (go_at_call 12; refine HSua.out.mono ?_; rintro e w7 ⟨rfl, hb⟩; have S7 := Aside0.mk hb; obtain ⟨b1, b2, b3, b4, b5⟩ := HW.out w7 hb; have HS1 := Aside0.mk (HSame1.out D3 e3 D4 e4 w7 b4 b3); obtain ⟨p0, p1, p2, p3, p4⟩ := HPc.out w7 b2; obtain ⟨q0, q1, q2, q3, q4⟩ := HXc.out w7 b1; clear hb b1 b2 b3 b4 b5)
    | (go_at_call 14; refine HS1.out.mono ?_; rintro e w8 ⟨rfl, hb⟩; have S8 := Aside0.mk (S7.out.trans (hb.mono S7.out.size)); clear hb))
  go_ret
  exact ⟨rfl, (HW.out _ S8.out).2.2.2.2⟩

end Go.Proofs.YtmhfkbgdkgfafaaGreatDoor.Js
