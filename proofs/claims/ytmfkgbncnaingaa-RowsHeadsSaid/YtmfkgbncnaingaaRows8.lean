/- What rows.Beginning comes to. -/
import Derived.Test.YtmfkgbncnaingaaRows7
import Derived.Test.YtmfkgbncnaingaaQRowsx13
namespace Go.Proofs.Ytmfkgbncnaingaa.Rows
open Go.RowKit Go.Lib Go.Proofs.Ytmfkgbncnaingaa.QRows Go.Proofs.YtmfkgbncnaingaaW.PrintWords Go.Proofs.YtmfkgbncnaingaaW.PrintLast Go.Proofs.YtmfkgbncnaingaaW.PrintMore

/-- A cut of a row that is read. -/
theorem C_cut {w : World} {A : Option Addr} {xs : List S67} (h : k67.C w A xs.length xs) (lo hi : Nat) (h1 : lo ≤ hi) (h2 : hi ≤ xs.length) {B : Option Addr} (hB : lo < hi → B = A.map fun a => a.add (lo * 2)) : k67.C w B (hi - lo) ((xs.take hi).drop lo) := by
  refine ⟨by rw [List.length_drop, List.length_take]; omega, by have := h.2.1; omega, fun hp => ?_⟩
  obtain ⟨ad, rfl, hc⟩ := h.2.2 (by omega)
  refine ⟨ad.add (lo * 2), hB (by omega), fun j p hj => ?_⟩
  have hj' : xs[lo + j]? = some p := by
    rw [List.getElem?_drop, List.getElem?_take] at hj
    split at hj
    · exact hj
    · cases hj
  obtain ⟨c, e1, e2, e3⟩ := hc (lo + j) p hj'
  refine ⟨c, e1, e2, fun k u hk => ?_⟩
  have h5 := e3 k u hk
  rw [show (lo + j) * k67.sz + k = lo * 2 + (j * k67.sz + k) by show (lo + j) * 2 + k = lo * 2 + (j * 2 + k); omega] at h5
  rw [Go.Proofs.YtmfkgbncnaingaaW.PrintWords.add_add]; exact h5

theorem Clone_cut (w : World) (A : Option Addr) (c n : Nat) (xs : List S67) (hn : xs.length = n) (h : k67.C w A n xs) (hl : n ≤ 100000) :
    Calls Try.prog 77 #[.slice A n c] w fun e w' => ∃ v, e = .returned v ∧ k67.R 67 w' w.heap.size (fun _ => True) v xs ∧ Below w.heap.size w w' := by
  subst hn; exact Clone_calls w A c xs h hl

set_option maxRecDepth 100000 in
set_option maxHeartbeats 4000000 in
theorem Beginning_end (k : Nat) (A0 : Option Addr) (c0 : Nat) (l : List S67) (t nx : ByteArray) (w : World) (hr : k67.C w A0 l.length l) (hc : l.length ≤ c0) (hl : l.length ≤ 100000) (hx : rows_Next.f k t = some nx) (he : nx.toList = ([] : List UInt8)) :
    Calls Try.prog 67 #[.slice A0 l.length c0, .string t] w fun e w' => ∃ v, e = .returned v ∧ k67.R 67 w' w.heap.size (fun _ => True) v (l.drop (found l t).1) ∧ Below w.heap.size w w' := by
  have HR := Aside0.mk hr
  have HX := Aside0.mk hx
  clear hr hx
  have h1 := bs_le l t l.length 0 l.length (by omega) (by omega)
  obtain ⟨fb, hfb⟩ : ∃ fb, fb = found l t := ⟨_, rfl⟩
  have hfl : fb.1 ≤ l.length := by rw [hfb]; exact h1.2
  have HP := fun w h => Aside0.mk (place_calls A0 c0 l t w h hl)
  rw [← hfb] at HP ⊢
  obtain ⟨lo, b⟩ := fb
  have hlo : lo ≤ l.length := hfl
  clear h1 hfb hfl
  have he' : (nx.toList == ([] : List UInt8)) = true := by rw [he]; rfl
  have hlo1 : (lo : Int) ≤ (l.length : Int) := by omega
  have hcc1 : (l.length : Int) ≤ (c0 : Int) := by omega
  have hdl : Aside0 ((l.drop lo).length = l.length - lo) := Aside0.mk List.length_drop
  clear he
  by_cases hcc : c0 = lo
  · obtain rfl : c0 = l.length := by omega
    subst hcc
    have HDL : Aside0 (([] : List S67).length = 0) := ⟨rfl⟩
    have hE : Aside0 (l.drop l.length = []) := ⟨List.drop_of_length_le (Nat.le_refl _)⟩
    have hN : Aside0 (∀ w1, Below w.heap.size w w1 → k67.C w1 A0 0 []) := Aside0.mk (fun w1 _ => ⟨rfl, by omega, fun h => absurd h (by omega)⟩)
    clear hdl hlo hlo1 hcc1 hc
    go_enter Try.func67, Try.ntmps67
    go_wp2_with (first | (go_at_call 78; refine (HP _ HR.out).out.mono ?_; rintro e w1 ⟨rfl, hb⟩; have HB1 := Aside0.mk hb; clear hb) | (go_at_call 26; refine (rows_Next.calls k t nx _ HX.out).mono ?_; rintro e w2 ⟨rfl, hb⟩; have HB2 := Aside0.mk (HB1.out.trans (hb.mono HB1.out.size)); clear hb) | (go_at_call 77; refine (Clone_cut _ _ _ _ _ HDL.out (hN.out _ HB2.out) (by omega)).mono ?_; rintro e w3 ⟨v, rfl, hv, hb⟩; have HV := Aside0.mk hv; have HB3 := Aside0.mk (HB2.out.trans (hb.mono HB2.out.size)); clear hb hv))
    go_ret
    exact ⟨_, rfl, by rw [hE.out]; exact Kd.R_lower HV.out HB2.out.size, HB3.out⟩
  · have HDL := hdl
    have hN : Aside0 (∀ w1, Below w.heap.size w w1 → k67.C w1 (A0.map fun a => a.add (lo * 2)) (l.length - lo) (l.drop lo)) := Aside0.mk (fun w1 hb => by
      have h := C_cut (Kd.C_below HR.out hb) lo l.length hlo (Nat.le_refl _) (B := A0.map fun a => a.add (lo * 2)) (fun _ => rfl)
      rwa [List.take_length] at h)
    go_enter Try.func67, Try.ntmps67
    go_wp2_with (first | (go_at_call 78; refine (HP _ HR.out).out.mono ?_; rintro e w1 ⟨rfl, hb⟩; have HB1 := Aside0.mk hb; clear hb) | (go_at_call 26; refine (rows_Next.calls k t nx _ HX.out).mono ?_; rintro e w2 ⟨rfl, hb⟩; have HB2 := Aside0.mk (HB1.out.trans (hb.mono HB1.out.size)); clear hb) | (go_at_call 77; refine (Clone_cut _ _ _ _ _ HDL.out (hN.out _ HB2.out) (by omega)).mono ?_; rintro e w3 ⟨v, rfl, hv, hb⟩; have HV := Aside0.mk hv; have HB3 := Aside0.mk (HB2.out.trans (hb.mono HB2.out.size)); clear hb hv))
    go_ret
    exact ⟨_, rfl, Kd.R_lower HV.out HB2.out.size, HB3.out⟩

set_option maxRecDepth 100000 in
set_option maxHeartbeats 4000000 in
theorem Beginning_cut (k : Nat) (A0 : Option Addr) (c0 : Nat) (l : List S67) (t nx : ByteArray) (w : World) (hr : k67.C w A0 l.length l) (hc : l.length ≤ c0) (hl : l.length ≤ 100000) (hx : rows_Next.f k t = some nx) (he : ¬ nx.toList = ([] : List UInt8)) (hle : (found l t).1 ≤ (found l nx).1) :
    Calls Try.prog 67 #[.slice A0 l.length c0, .string t] w fun e w' => ∃ v, e = .returned v ∧ k67.R 67 w' w.heap.size (fun _ => True) v ((l.take (found l nx).1).drop (found l t).1) ∧ Below w.heap.size w w' := by
  have HR := Aside0.mk hr
  have HX := Aside0.mk hx
  clear hr hx
  have h1 := bs_le l t l.length 0 l.length (by omega) (by omega)
  have h2 := bs_le l nx l.length 0 l.length (by omega) (by omega)
  have hlo : (found l t).1 ≤ l.length := h1.2
  have hhi : (found l nx).1 ≤ l.length := h2.2
  obtain ⟨g, hg⟩ : ∃ g, g = found l := ⟨_, rfl⟩
  have HP := fun x w h => place_calls A0 c0 l x w h hl
  rw [← hg] at HP hlo hhi hle ⊢
  clear hg h1 h2
  obtain ⟨⟨lo, b⟩, hgt⟩ : ∃ q, g t = q := ⟨_, rfl⟩
  obtain ⟨⟨hi, b2⟩, hgn⟩ : ∃ q, g nx = q := ⟨_, rfl⟩
  rw [hgt] at hlo hle ⊢
  rw [hgn] at hhi hle ⊢
  have hlh : lo ≤ hi := hle
  replace hlo : lo ≤ l.length := hlo
  replace hhi : hi ≤ l.length := hhi
  clear hle
  have he' : (nx.toList == ([] : List UInt8)) = false := beq_eq_false_iff_ne.2 he
  have hlo1 : (lo : Int) ≤ (l.length : Int) := by omega
  have hcc1 : (l.length : Int) ≤ (c0 : Int) := by omega
  have hdl : Aside0 (((l.take hi).drop lo).length = hi - lo) := Aside0.mk (by rw [List.length_drop, List.length_take]; omega)
  have hhi1 : (hi : Int) ≤ (c0 : Int) := by omega
  have hlh1 : (lo : Int) ≤ (hi : Int) := by omega
  clear he
  by_cases hcc : c0 = lo
  · obtain rfl : c0 = l.length := by omega
    subst hcc
    obtain rfl : hi = l.length := by omega
    have HDL : Aside0 (([] : List S67).length = 0) := ⟨rfl⟩
    have hE : Aside0 ((l.take l.length).drop l.length = []) := ⟨List.drop_of_length_le (by rw [List.length_take]; omega)⟩
    have hN : Aside0 (∀ w1, Below w.heap.size w w1 → k67.C w1 A0 0 []) := Aside0.mk (fun w1 _ => ⟨rfl, by omega, fun h => absurd h (by omega)⟩)
    clear hdl hlo hlo1 hcc1 hc hhi hlh hhi1 hlh1
    go_enter Try.func67, Try.ntmps67
    go_wp2_with (first | (go_at_call 78; refine (HP _ _ ?c78).mono ?_; (case c78 => first | exact HR.out | exact Kd.C_below HR.out HB2.out); rintro e w4 ⟨rfl, hb⟩; first | (have HB1 := Aside0.mk (show Below w.heap.size w _ from hb); clear hb) | (have hz := HB2.out.trans (hb.mono HB2.out.size); clear HB2; have HB2 := Aside0.mk hz; clear hb hz)) | (go_at_call 26; refine (rows_Next.calls k t nx _ HX.out).mono ?_; rintro e w2 ⟨rfl, hb⟩; have HB2 := Aside0.mk (HB1.out.trans (hb.mono HB1.out.size)); clear hb) | (go_at_call 77; refine (Clone_cut _ _ _ _ _ HDL.out (hN.out _ HB2.out) (by omega)).mono ?_; rintro e w3 ⟨v, rfl, hv, hb⟩; have HV := Aside0.mk hv; have HB3 := Aside0.mk (HB2.out.trans (hb.mono HB2.out.size)); clear hb hv))
    go_ret
    exact ⟨_, rfl, by rw [hE.out]; exact Kd.R_lower HV.out HB2.out.size, HB3.out⟩
  · have HDL := hdl
    have hN : Aside0 (∀ w1, Below w.heap.size w w1 → k67.C w1 (A0.map fun a => a.add (lo * 2)) (hi - lo) ((l.take hi).drop lo)) := Aside0.mk (fun w1 hb => C_cut (Kd.C_below HR.out hb) lo hi hlh hhi (B := A0.map fun a => a.add (lo * 2)) (fun _ => rfl))
    go_enter Try.func67, Try.ntmps67
    go_wp2_with (first | (go_at_call 78; refine (HP _ _ ?c78).mono ?_; (case c78 => first | exact HR.out | exact Kd.C_below HR.out HB2.out); rintro e w4 ⟨rfl, hb⟩; first | (have HB1 := Aside0.mk (show Below w.heap.size w _ from hb); clear hb) | (have hz := HB2.out.trans (hb.mono HB2.out.size); clear HB2; have HB2 := Aside0.mk hz; clear hb hz)) | (go_at_call 26; refine (rows_Next.calls k t nx _ HX.out).mono ?_; rintro e w2 ⟨rfl, hb⟩; have HB2 := Aside0.mk (HB1.out.trans (hb.mono HB1.out.size)); clear hb) | (go_at_call 77; refine (Clone_cut _ _ _ _ _ HDL.out (hN.out _ HB2.out) (by omega)).mono ?_; rintro e w3 ⟨v, rfl, hv, hb⟩; have HV := Aside0.mk hv; have HB3 := Aside0.mk (HB2.out.trans (hb.mono HB2.out.size)); clear hb hv))
    go_ret
    exact ⟨_, rfl, Kd.R_lower HV.out HB2.out.size, HB3.out⟩

end Go.Proofs.Ytmfkgbncnaingaa.Rows
namespace Go.Proofs.Ytmfkgbncnaingaa.QRows
open Go.RowKit Go.Proofs.Ytmfkgbncnaingaa.Rows Go.Proofs.YtmfkgbncnaingaaW.PrintWords Go.Proofs.YtmfkgbncnaingaaW.PrintLast Go.Proofs.YtmfkgbncnaingaaW.PrintMore

def rows_Beginning.of (l0 : List S67) (a1 nx : ByteArray) : Option (List S67) :=
  if nx.toList = ([] : List UInt8) then some (l0.drop (found l0 a1).1) else if (found l0 a1).1 ≤ (found l0 nx).1 then some ((l0.take (found l0 nx).1).drop (found l0 a1).1) else none
def rows_Beginning.f (k : Nat) (l0 : List S67) (a1 : ByteArray) : Option (List S67) := if l0.length ≤ 100000 then (rows_Next.f k a1).bind fun nx => rows_Beginning.of l0 a1 nx else none
theorem rows_Beginning.mono : ∀ a0 a1 k, LeO (rows_Beginning.f k a0 a1) (rows_Beginning.f (k + 1) a0 a1) := by
  intro a0 a1 k
  unfold rows_Beginning.f
  exact LeO.ite (LeO.bind (rows_Next.mono a1 k) fun _ => LeO.refl _) (LeO.refl _)
theorem rows_Beginning.calls (k : Nat) (A0 : Option Addr) (c0 : Nat) (l0 : List S67) (a1 : ByteArray) (r : List S67) (w : World) (hr0 : Kd.C k67 w A0 l0.length l0) (hc0 : l0.length ≤ c0) (h : rows_Beginning.f k l0 a1 = some r) :
    Calls Try.prog 67 #[.slice A0 l0.length c0, .string a1] w fun e w' => ∃ v0_ : Value, e = .returned (v0_) ∧ Kd.R k67 67 w' w.heap.size (fun _ => True) v0_ r ∧ Below w.heap.size w w' := by
  unfold rows_Beginning.f at h
  by_cases hl : l0.length ≤ 100000
  · rw [if_pos hl] at h
    obtain ⟨nx, hx, h⟩ := Option.bind_eq_some_iff.1 h
    unfold rows_Beginning.of at h
    by_cases he : nx.toList = ([] : List UInt8)
    · rw [if_pos he] at h
      obtain rfl := Option.some.inj h
      exact Beginning_end k A0 c0 l0 a1 nx w hr0 hc0 hl hx he
    · rw [if_neg he] at h
      by_cases hle : (found l0 a1).1 ≤ (found l0 nx).1
      · rw [if_pos hle] at h
        obtain rfl := Option.some.inj h
        exact Beginning_cut k A0 c0 l0 a1 nx w hr0 hc0 hl hx he hle
      · rw [if_neg hle] at h; cases h
  · rw [if_neg hl] at h; cases h

end Go.Proofs.Ytmfkgbncnaingaa.QRows
