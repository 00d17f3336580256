/- What bagnalltop.kept comes to. -/
import Derived.Test.YtmfkgbncnaingaaTopSame
namespace Go.Proofs.Ytmfkgbncnaingaa.Sto
open Go.Proofs.Ytmfkgbncnaingaa.QStore (S81 S83 S114 k81 k83 k114 k83_mk k83_mkM k83_mkF k83_open rd_T83 rd_T81 rd_T114 at_T83 at_T81 at_T114 info83)
open Go.RowKit Go.Proofs.Ytmfkgbncnaingaa.Reg Go.Proofs.Ytmfkgbncnaingaa.QRows Go.Proofs.Ytmfkgbncnaingaa.Rows Go.Proofs.Ytmfkgbncnaingaa.Wal Go.Proofs.YtmfkgbncnaingaaW.PrintWords Go.Proofs.YtmfkgbncnaingaaW.PrintLast Go.Proofs.YtmfkgbncnaingaaW.PrintMore
set_option linter.unusedVariables false
set_option linter.unusedSimpArgs false

section
open Go.Proofs.Ytmfkgbncnaingaa.QStore
theorem top_loop (a b : List S67) (hl : a.length = b.length) (hm : a.length ≤ 1000000) : ∀ (d i : Nat), i + d = a.length → a.take i = b.take i → bagnalltop_sameRows.l0 (d + 1) a b (i : Int) = some (decide (a = b)) := by
  intro d
  induction d with
  | zero =>
    intro i hi ht
    rw [bagnalltop_sameRows.l0, if_neg (by omega)]
    rw [List.take_of_length_le (by omega), List.take_of_length_le (by omega)] at ht
    rw [decide_eq_true ht]
  | succ d ih =>
    intro i hi ht
    have hia : i < a.length := by omega
    have hib : i < b.length := by omega
    have ea : rd_T67 a (i : Int) = a[i] := by unfold rd_T67; simp [List.getD_eq_getElem?_getD, hia]
    have eb : rd_T67 b (i : Int) = b[i] := by unfold rd_T67; simp [List.getD_eq_getElem?_getD, hib]
    rw [bagnalltop_sameRows.l0, if_pos (by omega), if_pos (by omega), if_pos (by omega), row_eq, ea, eb]
    by_cases he : a[i] = b[i]
    · rw [decide_eq_true he, if_neg (by decide), show wrap64 ((i : Int) + 1) = ((i + 1 : Nat) : Int) by unfold wrap64; omega]
      exact ih (i + 1) (by omega) (by rw [List.take_succ_eq_append_getElem hia, List.take_succ_eq_append_getElem hib, ht, he])
    · rw [decide_eq_false he, if_pos (by decide), decide_eq_false (fun e => he (by subst e; rfl))]
theorem top_same (A0 A1 : Option Addr) (c0 c1 : Nat) (a b : List S67) (w : World) (h0 : Kd.C k67 w A0 a.length a) (k0 : a.length ≤ c0) (h1 : Kd.C k67 w A1 b.length b) (k1 : b.length ≤ c1) (hm : a.length ≤ 1000000) :
    Calls Try.prog 54 #[.slice A0 a.length c0, .slice A1 b.length c1] w fun e w' => e = .returned (.bool (decide (a = b))) ∧ Below w.heap.size w w' := by
  have h2 : bagnalltop_sameRows.f (a.length + 1) a b = some (decide (a = b)) := by
    unfold bagnalltop_sameRows.f
    by_cases hl : a.length = b.length
    · rw [if_pos (by omega)]
      exact top_loop a b hl hm a.length 0 (by omega) (by simp)
    · rw [if_neg (by omega), decide_eq_false (fun e => hl (by rw [e]))]
  exact (bagnalltop_sameRows.calls (a.length + 1) A0 c0 a A1 c1 b _ w h0 k0 h1 k1 h2).mono fun e w' ⟨he, hd⟩ => ⟨he, by obtain ⟨m, rfl⟩ := hd; exact pw_below_drewN (Below.refl _ _) m⟩
end
/-- Play, in plain words. -/
theorem play_ok (A0 : Option Addr) (c0 : Nat) (l : List S83) (w : World) (hr0 : Kd.C k83 w A0 l.length l) (hc : l.length ≤ c0) (hs : Short l) :
    Calls Try.prog 53 #[.slice A0 l.length c0] w fun e w' => ∃ A1 c1 A2 c2, e = .returned (.tuple #[.slice A1 l.length c1, .slice A2 (bytesOfLog (logOf l)).length c2, .int .i64 0]) ∧ l.length ≤ c1 ∧ Kd.C k81 w' A1 (toldOf l).length (toldOf l) ∧ (bytesOfLog (logOf l)).length ≤ c2 ∧ Kd.C (Kd.int .u8) w' A2 (bytesOfLog (logOf l)).length (bytesOfLog (logOf l)) ∧ Below w.heap.size w w' := by
  have h1 : QStore.store_Play.f l = some (toldOf l, bytesOfLog (logOf l), 0) := by
    unfold QStore.store_Play.f
    rw [if_neg (by have := hs.1; omega), if_pos ((QStore.short_iff l).2 hs.2)]; rfl
  refine (QStore.store_Play.calls A0 c0 l _ _ _ w hr0 hc h1).mono ?_
  rintro e w' ⟨v0, v1, rfl, h0, h2, hb⟩
  obtain ⟨A1, c1, rfl, k1, g1⟩ := Kd.R_reads (Kd.S_R h0)
  obtain ⟨A2, c2, rfl, k2, g2⟩ := Kd.R_reads h2
  exact ⟨A1, c1, A2, c2, by rw [toldOf_length], by rw [toldOf_length] at k1; exact k1, g1, k2, g2, hb⟩
theorem first_act : doS act1 [] = (⟨0, []⟩, [[rowKV]]) := by
  obtain ⟨x, p, h, _⟩ := sure_play
  have hfault : faultS (bytesOfLog []) (tableOf []) [rowKV] = 0 := by
    have h1 : faultOf [] [rowKV] = 0 := by
      unfold faultOf
      rw [if_neg (by decide), if_neg (by rw [not_odd (fun c hc => by rw [List.mem_singleton.1 hc]; exact wr_small wr_one)]; simp), if_neg (by rw [table_one]; decide)]
    have h2 := batch_length [rowKV] (fun x hx => by rw [List.mem_singleton.1 hx]; exact wr_one)
    unfold faultS
    rw [if_neg (by decide), show tableOf [] = [] from rfl, h1, if_neg (by omega), if_neg (by rw [log_nil]; simp at h2 ⊢; omega)]
  unfold doS act1
  rw [if_pos rfl]
  dsimp only
  rw [if_pos hfault, hfault]; rfl
def two : List S83 := [act1, actAll]
theorem two_told : toldOf two = [⟨0, []⟩, ⟨0, [rowKV]⟩] ∧ logOf two = [[rowKV]] := by
  have h2 : doS actAll [[rowKV]] = (⟨0, [rowKV]⟩, [[rowKV]]) := by rw [do_all]; congr 2; exact table_one
  constructor
  · show (playS [act1, actAll] []).1 = _
    simp only [playS, first_act, h2]
  · show (playS [act1, actAll] []).2 = _
    simp only [playS, first_act, h2]
theorem two_bytes : 6 ≤ (bytesOfLog [[rowKV]]).length := by
  rw [log_one]; exact batch_min (by simp) (fun x hx => by rw [List.mem_singleton.1 hx]; exact wr_one)
theorem short_two : Short two := ⟨by decide, fun m hm => by
  rcases List.mem_cons.1 hm with hm | hm
  · rw [hm]; decide
  · rw [List.mem_singleton.1 hm]; decide⟩
theorem two_lit2 (w : World) : Kd.C k83 ((w.alloc (.cells #[.string ⟨#[107]⟩, .string ⟨#[118]⟩] 67)).alloc (.cells #[.int .i64 1, .slice (some ⟨w.heap.size, 0, none⟩) 1 1, .string ⟨#[]⟩, .int .i64 0, .int .i64 3, .slice none 0 0, .string ⟨#[]⟩, .int .i64 0] 83)) (some ⟨w.heap.size + 1, 0, none⟩) 2 two := by
  have h4 : (w.alloc (.cells #[.string ⟨#[107]⟩, .string ⟨#[118]⟩] 67)).heap.size = w.heap.size + 1 := by simp
  have h0 := lasts (new_block w (.cells #[.string ⟨#[107]⟩, .string ⟨#[118]⟩] 67 (0, 0))) (below_alloc (Below.refl _ _) (.cells #[.int .i64 1, .slice (some ⟨w.heap.size, 0, none⟩) 1 1, .string ⟨#[]⟩, .int .i64 0, .int .i64 3, .slice none 0 0, .string ⟨#[]⟩, .int .i64 0] 83))
  have h1 := new_block (w.alloc (.cells #[.string ⟨#[107]⟩, .string ⟨#[118]⟩] 67)) (.cells #[.int .i64 1, .slice (some ⟨w.heap.size, 0, none⟩) 1 1, .string ⟨#[]⟩, .int .i64 0, .int .i64 3, .slice none 0 0, .string ⟨#[]⟩, .int .i64 0] 83 (0, 0))
  rw [h4] at h1
  generalize (w.alloc (.cells #[.string ⟨#[107]⟩, .string ⟨#[118]⟩] 67)).alloc _ = W at *
  refine ⟨rfl, by omega, fun _ => ⟨_, rfl, fun j p hj => ?_⟩⟩
  cases j with
  | zero =>
    injection hj with hj
    subst hj
    refine ⟨_, rfl, k83_mk W act1 (A1 := some ⟨w.heap.size, 0, none⟩) (c1 := 1) (Nat.le_refl _) (one_reads (c := rowKV) h0), fun k u hk => ?_⟩
    rw [Addr.add_lit]
    match k, hk with
    | 0, hk | 1, hk | 2, hk | 3, hk => simp [act1] at hk; subst hk; simp [World.cell?, h1]
    | k + 4, hk => simp [act1] at hk
  | succ j =>
    cases j with
    | zero =>
      injection hj with hj
      subst hj
      refine ⟨_, rfl, k83_mk W actAll (A1 := none) (c1 := 0) (Nat.le_refl _) (Kd.C_nil _ _), fun k u hk => ?_⟩
      rw [Addr.add_lit]
      match k, hk with
      | 0, hk | 1, hk | 2, hk | 3, hk => simp [actAll] at hk; subst hk; simp [World.cell?, h1, Kd.iso, Kd.pair, Kd.int, Kd.string, Kd.slice, Kd.scalar, k83]
      | k + 4, hk => simp [actAll] at hk
    | succ j => cases hj

set_option maxRecDepth 100000 in
set_option maxHeartbeats 8000000 in
theorem kept_ok (w : World) : Calls Try.prog 52 #[] w fun e w' => e = .returned (.bool true) ∧ Below w.heap.size w w' := by
  have hu83 := Try.underlying83
  have hu67 := Try.underlying67
  have HS : ∀ z w, Kd.C k83 w (some ⟨z, 0, none⟩) 2 two → Aside0 (Calls Try.prog 53 #[.slice (some ⟨z, 0, none⟩) 2 2] w fun e w' => ∃ A1 c1 A2 c2 n, e = .returned (.tuple #[.slice A1 2 c1, .slice A2 n c2, .int .i64 0]) ∧ (0 : Int) < (n : Int) ∧ Kd.C k81 w' A1 2 [⟨0, []⟩, ⟨0, [rowKV]⟩] ∧ Below w.heap.size w w') := fun z w h => ⟨by
    refine (play_ok (some ⟨z, 0, none⟩) 2 two w h (Nat.le_refl _) short_two).mono ?_
    rintro e w' ⟨A1, c1, A2, c2, rfl, _, h2, _, _, hb⟩
    rw [two_told.1] at h2
    refine ⟨A1, c1, A2, c2, _, rfl, ?_, h2, hb⟩
    rw [two_told.2]
    have := two_bytes
    omega⟩
  go_enter Try.func52, Try.ntmps52
  go_upto_region 2 with (go_at_call 53; refine (HS _ _ (two_lit2 w)).out.mono ?_; rintro e w2 ⟨A1, c1, A2, c2, n, rfl, hn, hC, hb⟩; have HC := Aside0.mk hC; have HN := Aside0.mk hn; have HB := Aside0.mk ((below_alloc (below_alloc (Below.refl w.heap.size w) _) _).trans (hb.mono (by simp; omega))); clear hC hn hb)
  obtain ⟨ad, A6, c6, rfl, -, hx1, hc6, hC6⟩ := at_T81 HC.out (1 : Int) (by omega) (show (1 : Int) < 2 by omega)
  have hx1' : w2.cell? ⟨ad.block, ad.off + 3, none⟩ = some (.slice A6 1 c6) := hx1
  have hx1'' : w2.cell? ⟨(ad.add 2).block, (ad.add 2).off + 1, none⟩ = some (.slice A6 1 c6) := hx1
  have HC6 := Aside0.mk (And.intro hc6 hC6)
  have hn := HN.out
  have hnd : decide ((0 : Int) < (n : Int)) = true := decide_eq_true hn
  have h12 : (1 : Int) < 2 := by omega
  clear hx1 hc6 hC6
  go_wp2_with (go_at_call 54; refine (top_same A6 (some ⟨w2.heap.size, 0, none⟩) c6 1 [rowKV] [rowKV] _ (Kd.C_alloc HC6.out.2 _) HC6.out.1 (one_reads (c := rowKV) (new_block _ _)) (Nat.le_refl _) (by decide)).mono ?_; rintro e w3 ⟨rfl, hb⟩; rw [decide_eq_true rfl]; have HB3 := Aside0.mk (HB.out.trans (((below_alloc (Below.refl w2.heap.size w2) _).trans (hb.mono (by simp))).mono HB.out.size)); clear hb)
  go_ret
  exact ⟨rfl, HB3.out⟩
end Go.Proofs.Ytmfkgbncnaingaa.Sto
