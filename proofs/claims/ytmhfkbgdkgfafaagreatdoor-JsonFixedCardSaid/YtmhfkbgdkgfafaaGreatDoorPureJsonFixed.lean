/- JsonFixed: its walk straight to its answer, true. -/
import Derived.Test.YtmhfkbgdkgfafaaGreatDoorJsPf
import Derived.OpenShut
namespace Go.Proofs.YtmhfkbgdkgfafaaGreatDoor.Js
open Go.RowKit Go.Proofs.YtmhfkbgdkgfafaaGreatDoor.QJson Go.Proofs.YtmhfkbgdkgfafaaGreatDoorW.PrintWords Go.Proofs.YtmhfkbgdkgfafaaGreatDoorW.PrintLast Go.Proofs.YtmhfkbgdkgfafaaGreatDoorW.PrintMore
set_option linter.unusedVariables false
set_option linter.unusedSimpArgs false


theorem str_data (s : ByteArray) : str s.data.toList = s := str_back s
/-- A struct of the values' type that has been laid anew. -/
theorem cells5 (w : World) (k n : Int) (t : ByteArray) (v3 v4 : Value) : ∀ (j : Nat) (u : Value), (#[.int .i64 k, .int .i64 n, .string t, v3, v4] : Array Value)[j]? = some u → (w.alloc (.cells #[.int .i64 k, .int .i64 n, .string t, v3, v4] 26)).cell? ⟨w.heap.size, j, none⟩ = some u := fun j u h => box_cells w _ j u h

set_option maxHeartbeats 8000000 in
set_option maxRecDepth 100000 in
theorem fixed_walk (s : ByteArray) (w : World) (hE : Glob w.heap.size w) :
    Calls Tryz.prog 5 #[.string s] w fun e w' => e = .returned (.bool true) ∧ Below w.heap.size w w' := by
  obtain ⟨v, c, hv0, hv1, hpa⟩ := parse_any s.data.toList
  rw [str_back] at hpa
  have HE := Aside0.mk hE
  have HP := Aside0.mk (hpa w hE)
  have HV0 := Aside0.mk hv0
  have HV1 := Aside0.mk hv1
  have hss : (s.size : Int) = (s.data.toList.length : Int) := by rw [Lib.size_eq]
  have HSs := Aside0.mk hss
  clear hE hpa hv0 hv1 hss
  by_cases hc : c = 0
  · subst hc
    obtain ⟨hpar, hw, hbig, hle, hlen⟩ := HV0.out rfl
    have HT0 := Aside0.mk (fun (w1 : World) (hb : Below w.heap.size w w1) => parse_known (parse_vt hw (by decide)) (by omega) hw hbig w1 (glob_up HE.out w1 hb))
    have HX0 := Aside0.mk (fun (A3 : Option Addr) (c3 : Nat) (A4 : Option Addr) (c4 : Nat) (w1 : World) h3 l3 h4 l4 (hb : Below w.heap.size w w1) => text_right hw hbig A3 c3 A4 c4 w1 h3 l3 h4 l4 (glob_up HE.out w1 hb).now.tabs)
    have HSv := Aside0.mk (fun (A3 : Option Addr) (c3 : Nat) (A4 : Option Addr) (c4 : Nat) (B3 : Option Addr) (d3 : Nat) (B4 : Option Addr) (d4 : Nat) (w1 : World) h3 l3 h4 l4 g3 m3 g4 m4 => same_walk 1000000 v v (Sh.of_wf hw) (by have := (big_small hbig).1; omega) (Nat.le_refl _) true ⟨fun _ => rfl, fun _ => rfl⟩ A3 c3 A4 c4 B3 d3 B4 d4 w1 h3 l3 h4 l4 g3 m3 g4 m4)
    have HSu := Aside0.mk (fun (w1 : World) (hb : Below w.heap.size w w1) => sure_calls w1 (glob_up HE.out w1 hb).now.tabs)
    obtain ⟨t, ht⟩ : ∃ t, t = str (vt v) := ⟨_, rfl⟩
    rw [← ht] at HT0 HX0
    have hts : (t.size : Int) = ((vt v).length : Int) := by rw [ht, str_size]
    have hlt : (t.size : Int) ≤ (s.size : Int) := by rw [hts, HSs.out]; omega
    have hlt2 : decide ((t.size : Int) ≤ (s.size : Int)) = true := decide_eq_true hlt
    have hlt3 : ((s.size : Int) < (t.size : Int)) = False := by simp; omega
    obtain ⟨t2, ht2⟩ : ∃ x, x = t := ⟨_, rfl⟩
    have hee : (t2.toList == t.toList) = true := by rw [ht2]; exact beq_iff_eq.2 rfl
    have HX1 := Aside0.mk (show ∀ (A3 : Option Addr) (c3 : Nat) (A4 : Option Addr) (c4 : Nat) (w1 : World), Kd.C Kd.string w1 A3 v.f3.length v.f3 → v.f3.length ≤ c3 → Kd.C k26 w1 A4 v.f4.length v.f4 → v.f4.length ≤ c4 → Below w.heap.size w w1 →
        Calls Tryz.prog 11 #[.agg #[.int .i64 v.f0, .int .i64 v.f1, .string v.f2, .slice A3 v.f3.length c3, .slice A4 v.f4.length c4]] w1 fun e w' => e = .returned (.tuple #[.string t2, .int .i64 0]) ∧ Below w1.heap.size w1 w' from by rw [ht2]; exact HX0.out)
    clear hpar hw hbig hle hlen ht hts HV0 HV1 HSs ht2
    obtain ⟨k, n, b, ks, ps⟩ := v
    try dsimp only at HT0
    try dsimp only at HX0
    try dsimp only at HX1
    try dsimp only at HSv
    try dsimp only at HP
    obtain ⟨n3, hn3⟩ : ∃ x, x = ks.length := ⟨_, rfl⟩
    obtain ⟨n4, hn4⟩ : ∃ x, x = ps.length := ⟨_, rfl⟩
    rw [← hn3, ← hn4] at HX0 HX1 HSv
    have HN := Aside0.mk (And.intro hn3 hn4)
    clear hn3 hn4
    go_enter Tryz.func5, Tryz.ntmps5
    go_upto_region 2 with (first
      | (go_at_call 13; refine HP.out.mono ?_; rintro e w2 ⟨v3, v4, rfl, h3, h4, hb⟩; obtain ⟨A3, c3, hv3⟩ := Kd.R_slice h3; obtain ⟨A4, c4, hv4⟩ := Kd.R_slice h4; (try dsimp only at hv3); (try dsimp only at hv4); rw [← HN.out.1] at hv3; rw [← HN.out.2] at hv4; subst hv3 hv4; have H3 := Aside0.mk (Kd.R_reads' h3); have H4 := Aside0.mk (Kd.R_reads' h4); have HB2 := Aside0.mk hb; clear h3 h4 hb))
    have H3' := H3.out; have H4' := H4.out
    try dsimp only at H3'
    try dsimp only at H4'
    rw [← HN.out.1] at H3'
    rw [← HN.out.2] at H4'
    obtain ⟨-, l3, h3⟩ := H3'
    obtain ⟨-, l4, h4⟩ := H4'
    clear H3 H4
    have hcs := cells5 w2 k n b (.slice A3 n3 c3) (.slice A4 n4 c4)
    have hb3 : Below w2.heap.size w2 (w2.alloc (.cells #[.int .i64 k, .int .i64 n, .string b, .slice A3 n3 c3, .slice A4 n4 c4] 26)) := below_alloc (Below.refl _ _) _
    have hsz : w2.heap.size < (w2.alloc (.cells #[.int .i64 k, .int .i64 n, .string b, .slice A3 n3 c3, .slice A4 n4 c4] 26)).heap.size := by simp
    generalize w2.alloc (.cells #[.int .i64 k, .int .i64 n, .string b, .slice A3 n3 c3, .slice A4 n4 c4] 26) = w3 at hcs hb3 hsz ⊢
    obtain ⟨g, hg⟩ : ∃ q, q = w2.heap.size := ⟨_, rfl⟩
    rw [← hg] at hcs hsz ⊢
    clear hg
    have B3 := Aside0.mk (HB2.out.trans (hb3.mono HB2.out.size))
    have C3 := Aside0.mk hcs
    have Z3 := Aside0.mk hsz
    have K3 := Aside0.mk (And.intro (Kd.C_below h3 hb3) (And.intro l3 (And.intro (Kd.C_below h4 hb3) l4)))
    clear hcs hsz hb3 h3 h4 l3 l4
    have x0 := C3.out 0 _ rfl
    have x1 := C3.out 1 _ rfl
    have x2 := C3.out 2 _ rfl
    have x3 := C3.out 3 _ rfl
    have x4 := C3.out 4 _ rfl
    have HXa := Aside0.mk (HX0.out A3 c3 A4 c4 w3 K3.out.1 K3.out.2.1 K3.out.2.2.1 K3.out.2.2.2 B3.out)
    clear HX0
    have htok : True := trivial
    go_upto_region 5 with (first
      | (have _t := htok; clear _t htok; go_at_call 11; refine HXa.out.mono ?_; rintro e w4 ⟨rfl, hb⟩; have HB4 := Aside0.mk hb; clear hb))
    clear HXa x0 x1 x2 x3 x4
    have B4 := Aside0.mk (B3.out.trans (HB4.out.mono B3.out.size))
    have HPb := Aside0.mk (HT0.out w4 B4.out)
    clear HT0 HP
    go_upto_region 6 with (first
      | (go_at_call 13; refine HPb.out.mono ?_; rintro e w5 ⟨v3, v4, rfl, h3, h4, hb⟩; obtain ⟨D3, d3, hv3⟩ := Kd.R_slice h3; obtain ⟨D4, d4, hv4⟩ := Kd.R_slice h4; (try dsimp only at hv3); (try dsimp only at hv4); rw [← HN.out.1] at hv3; rw [← HN.out.2] at hv4; subst hv3 hv4; have H3 := Aside0.mk (Kd.R_reads' h3); have H4 := Aside0.mk (Kd.R_reads' h4); have HB5 := Aside0.mk hb; clear h3 h4 hb))
    have H3' := H3.out; have H4' := H4.out
    try dsimp only at H3'
    try dsimp only at H4'
    rw [← HN.out.1] at H3'
    rw [← HN.out.2] at H4'
    obtain ⟨-, l3, h3⟩ := H3'
    obtain ⟨-, l4, h4⟩ := H4'
    clear H3 H4 HPb
    have hcs := cells5 w5 k n b (.slice D3 n3 d3) (.slice D4 n4 d4)
    have hb3 : Below w5.heap.size w5 (w5.alloc (.cells #[.int .i64 k, .int .i64 n, .string b, .slice D3 n3 d3, .slice D4 n4 d4] 26)) := below_alloc (Below.refl _ _) _
    have hsz : w5.heap.size < (w5.alloc (.cells #[.int .i64 k, .int .i64 n, .string b, .slice D3 n3 d3, .slice D4 n4 d4] 26)).heap.size := by simp
    generalize w5.alloc (.cells #[.int .i64 k, .int .i64 n, .string b, .slice D3 n3 d3, .slice D4 n4 d4] 26) = w6 at hcs hb3 hsz ⊢
    obtain ⟨g', hg⟩ : ∃ q, q = w5.heap.size := ⟨_, rfl⟩
    rw [← hg] at hcs hsz ⊢
    clear hg
    have S36 := Aside0.mk (HB4.out.trans ((HB5.out.trans (hb3.mono HB5.out.size)).mono HB4.out.size))
    have B6 := Aside0.mk (B3.out.trans (S36.out.mono B3.out.size))
    have C6 := Aside0.mk hcs
    have Z6 := Aside0.mk hsz
    have K6 := Aside0.mk (And.intro (Kd.C_below h3 hb3) (And.intro l3 (And.intro (Kd.C_below h4 hb3) l4)))
    clear hcs hsz hb3 h3 h4 l3 l4
    have x0 := C6.out 0 _ rfl
    have x1 := C6.out 1 _ rfl
    have x2 := C6.out 2 _ rfl
    have x3 := C6.out 3 _ rfl
    have x4 := C6.out 4 _ rfl
    have HXa := Aside0.mk (HX1.out D3 d3 D4 d4 w6 K6.out.1 K6.out.2.1 K6.out.2.2.1 K6.out.2.2.2 B6.out)
    clear HX1
    go_upto_region 7 with (first
      | (go_at_call 11; refine HXa.out.mono ?_; rintro e w7 ⟨rfl, hb⟩; have HB7 := Aside0.mk hb; clear hb))
    clear HXa x0 x1 x2 x3 x4
    have B7 := Aside0.mk (B6.out.trans (HB7.out.mono B6.out.size))
    have HSa := Aside0.mk (HSu.out w7 B7.out)
    have HY := Aside0.mk (show ∀ w8, Below w7.heap.size w7 w8 → (∀ (j : Nat) (u : Value), (#[.int .i64 k, .int .i64 n, .string b, .slice A3 n3 c3, .slice A4 n4 c4] : Array Value)[j]? = some u → w8.cell? ⟨g, j, none⟩ = some u) ∧ (∀ (j : Nat) (u : Value), (#[.int .i64 k, .int .i64 n, .string b, .slice D3 n3 d3, .slice D4 n4 d4] : Array Value)[j]? = some u → w8.cell? ⟨g', j, none⟩ = some u) ∧
        Calls Tryz.prog 14 #[.agg #[.int .i64 k, .int .i64 n, .string b, .slice D3 n3 d3, .slice D4 n4 d4], .agg #[.int .i64 k, .int .i64 n, .string b, .slice A3 n3 c3, .slice A4 n4 c4]] w8 fun e w' => e = .returned (.bool true) ∧ Below w8.heap.size w8 w' from fun w8 h8 => by
      have s68 := HB7.out.trans (h8.mono HB7.out.size)
      have s38 := S36.out.trans (s68.mono S36.out.size)
      refine ⟨fun j u h => (s38.cell (p := ⟨g, j, none⟩) Z3.out).trans (C3.out j u h), fun j u h => (s68.cell (p := ⟨g', j, none⟩) Z6.out).trans (C6.out j u h), ?_⟩
      exact HSv.out D3 d3 D4 d4 A3 c3 A4 c4 w8 (Kd.C_below K6.out.1 s68) K6.out.2.1 (Kd.C_below K6.out.2.2.1 s68) K6.out.2.2.2 (Kd.C_below K3.out.1 s38) K3.out.2.1 (Kd.C_below K3.out.2.2.1 s38) K3.out.2.2.2)
    go_wp2_with (first
      | (go_at_call 12; refine HSa.out.mono ?_; rintro e w8 ⟨rfl, hb⟩; obtain ⟨y1, y2, y3⟩ := HY.out w8 hb; have HC := Aside0.mk y3; have a0 := y1 0 _ rfl; have a1 := y1 1 _ rfl; have a2 := y1 2 _ rfl; have a3 := y1 3 _ rfl; have a4 := y1 4 _ rfl; have b0 := y2 0 _ rfl; have b1 := y2 1 _ rfl; have b2 := y2 2 _ rfl; have b3 := y2 3 _ rfl; have b4 := y2 4 _ rfl; have B8 := Aside0.mk (B7.out.trans (hb.mono B7.out.size)); clear hb y1 y2 y3)
      | (go_at_call 14; refine HC.out.mono ?_; rintro e w9 ⟨rfl, hb⟩; have B9 := Aside0.mk (B8.out.trans (hb.mono B8.out.size)); clear hb))
    go_ret
    exact ⟨rfl, B9.out⟩
  · have hz := HV1.out hc
    have q0 : (c == 0) = false := beq_eq_false_iff_ne.2 hc
    have q1 : (c != 0) = true := bne_iff_ne.2 hc
    subst hz
    have HSv := Aside0.mk (fun (A3 : Option Addr) (c3 : Nat) (A4 : Option Addr) (c4 : Nat) (w1 : World) (hb : Below w.heap.size w w1) => same_walk 1000000 z26 z26 (sh_leaf 0 0 ⟨#[]⟩) (by rw [cnt_eq]; show 1 + cnts [] ≤ _; rw [cnts]; omega) (Nat.le_refl _) true ⟨fun _ => rfl, fun _ => rfl⟩ A3 c3 A4 c4 none 0 none 0 w1)
    have HSu := Aside0.mk (fun (w1 : World) (hb : Below w.heap.size w w1) => sure_calls w1 (glob_up HE.out w1 hb).now.tabs)
    have HSw := Aside0.mk (show ∀ (A3 : Option Addr) (c3 : Nat) (A4 : Option Addr) (c4 : Nat) (w1 : World), Kd.C Kd.string w1 A3 0 [] → Kd.C k26 w1 A4 0 [] →
        Calls Tryz.prog 14 #[.agg #[.int .i64 0, .int .i64 0, .string ⟨#[]⟩, .slice A3 0 c3, .slice A4 0 c4], .agg #[.int .i64 0, .int .i64 0, .string ⟨#[]⟩, .slice none 0 0, .slice none 0 0]] w1 fun e w' => e = .returned (.bool true) ∧ Below w1.heap.size w1 w' from fun A3 c3 A4 c4 w1 h3 h4 =>
      same_walk 1000000 z26 z26 (sh_leaf 0 0 ⟨#[]⟩) (by rw [cnt_eq]; show 1 + cnts [] ≤ _; rw [cnts]; omega) (Nat.le_refl _) true ⟨fun _ => rfl, fun _ => rfl⟩ A3 c3 A4 c4 none 0 none 0 w1 h3 (Nat.zero_le _) h4 (Nat.zero_le _) (Kd.C_nil _ _) (Nat.le_refl _) (Kd.C_nil _ _) (Nat.le_refl _))
    have HP2 := Aside0.mk (show Calls Tryz.prog 13 #[.string s] w fun e w' => ∃ A3 c3 A4 c4, e = .returned (.tuple #[.agg #[.int .i64 0, .int .i64 0, .string ⟨#[]⟩, .slice A3 0 c3, .slice A4 0 c4], .int .i64 c]) ∧ Kd.C Kd.string w' A3 0 [] ∧ Kd.C k26 w' A4 0 [] ∧ Below w.heap.size w w' from by
      refine HP.out.mono ?_
      rintro e w2 ⟨v3, v4, rfl, h3, h4, hb⟩
      obtain ⟨A3, c3, hv3⟩ := Kd.R_slice h3
      obtain ⟨A4, c4, hv4⟩ := Kd.R_slice h4
      subst hv3 hv4
      exact ⟨A3, c3, A4, c4, rfl, (Kd.R_reads' h3).2.2, (Kd.R_reads' h4).2.2, hb⟩)
    clear hc HV0 HV1 HSv HSs HP
    go_enter Tryz.func5, Tryz.ntmps5
    go_upto_region 2 with (first
      | (go_at_call 13; refine HP2.out.mono ?_; rintro e w2 ⟨A3, c3, A4, c4, rfl, h3, h4, hb⟩; have H3 := Aside0.mk h3; have H4 := Aside0.mk h4; have HB2 := Aside0.mk hb; clear h3 h4 hb))
    have hcs := cells5 w2 0 0 ⟨#[]⟩ (.slice A3 0 c3) (.slice A4 0 c4)
    have hb3 : Below w2.heap.size w2 (w2.alloc (.cells #[.int .i64 0, .int .i64 0, .string ⟨#[]⟩, .slice A3 0 c3, .slice A4 0 c4] 26)) := below_alloc (Below.refl _ _) _
    generalize w2.alloc (.cells #[.int .i64 0, .int .i64 0, .string ⟨#[]⟩, .slice A3 0 c3, .slice A4 0 c4] 26) = w3 at hcs hb3 ⊢
    obtain ⟨g, hg⟩ : ∃ q, q = w2.heap.size := ⟨_, rfl⟩
    rw [← hg] at hcs ⊢
    clear hg
    have B3 := Aside0.mk (HB2.out.trans (hb3.mono HB2.out.size))
    have x0 := hcs 0 _ rfl
    have x1 := hcs 1 _ rfl
    have x2 := hcs 2 _ rfl
    have x3 := hcs 3 _ rfl
    have x4 := hcs 4 _ rfl
    have HSa := Aside0.mk (HSw.out A3 c3 A4 c4 w3 (Kd.C_below H3.out hb3) (Kd.C_below H4.out hb3))
    clear hcs hb3
    go_wp2_with (first
      | (go_at_call 14; refine HSa.out.mono ?_; rintro e w4 ⟨rfl, hb⟩; have B4 := Aside0.mk (B3.out.trans (hb.mono B3.out.size)); clear hb)
      | (go_at_call 12; refine (HSu.out _ B4.out).mono ?_; rintro e w5 ⟨rfl, hb⟩; have B5 := Aside0.mk (B4.out.trans (hb.mono B4.out.size)); clear hb))
    go_ret
    exact ⟨rfl, B5.out⟩
theorem fixed_calls (s : ByteArray) (w : World) (hs : s.size ≤ maxLen) (hE : Glob w.heap.size w) :
    Calls Tryz.prog 5 #[.string s] w fun e w' => e = .returned (.bool true) ∧ Below w.heap.size w w' := fixed_walk s w hE
end Go.Proofs.YtmhfkbgdkgfafaaGreatDoor.Js
