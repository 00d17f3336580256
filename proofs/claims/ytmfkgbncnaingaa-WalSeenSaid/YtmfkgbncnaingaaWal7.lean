/- What wal.Scan comes to. -/
import Derived.Test.YtmfkgbncnaingaaWal6
namespace Go.Proofs.Ytmfkgbncnaingaa.Wal
open Go.RowKit Go.Proofs.Ytmfkgbncnaingaa.QWal Go.Proofs.YtmfkgbncnaingaaW.PrintWords Go.Proofs.YtmfkgbncnaingaaW.PrintLast Go.Proofs.YtmfkgbncnaingaaW.PrintMore

abbrev k2 : Kd (List Int) := Kd.slice 5 (Kd.int .u8)
abbrev k3 : Kd (List (List Int)) := Kd.slice 25 (Kd.slice 5 (Kd.int .u8))

/-- The call of first, as Read makes it. -/
theorem first_at (A : Option Addr) (c p : Nat) (b : List Int) (w : World) (hr : Kd.C (Kd.int .u8) w A b.length b) (hc : b.length ≤ c) (hl : b.length ≤ 100000) (hx : ∀ x ∈ b, 0 ≤ x ∧ x < 256) (hp : p ≤ b.length) (c' : Nat) (hc' : b.length - p ≤ c') :
    Calls Try.prog 72 #[.slice (if c = p then A else Option.map (fun x => x.add p) A) (b.length - p) c'] w (Firsted w (firstOf (b.drop p))) := by
  have h1 := Kd.C_drop (c := c) (m := p) hr hp hc
  have h2 : (p * (Kd.int .u8).sz) = p := Nat.mul_one _
  rw [h2] at h1
  have h3 := first_calls _ c' (b.drop p) w h1 (by rw [List.length_drop]; exact hc') (by rw [List.length_drop]; omega) (fun x h => hx x (List.mem_of_mem_drop h))
  rw [List.length_drop] at h3
  exact h3

/-- What is held at a round of Read. -/
structure Held (w wr : World) (v2 v4 : Value) (outs : List (List (List Int))) (batch : List (List Int)) : Prop where
  outs : k3.R 53 wr w.heap.size (fun k_ => True ∧ some k_ ≠ v4.ownBlock) v2 outs
  batch : k2.R 25 wr w.heap.size (fun k_ => some k_ ≠ v2.ownBlock) v4 batch
  below : Below w.heap.size w wr
theorem Held.step {w wr w1 : World} {v2 v4 : Value} {outs : List (List (List Int))} {batch : List (List Int)} (h : Held w wr v2 v4 outs batch) (hb : Below wr.heap.size wr w1) : Held w w1 v2 v4 outs batch :=
  ⟨Kd.R_below h.outs hb, Kd.R_below h.batch hb, h.below.trans (hb.mono h.below.size)⟩

/-- What an append to the batch asks, and leaves. -/
theorem Held.row {w wr w3 : World} {v2 v4 v : Value} {outs : List (List (List Int))} {batch : List (List Int)} {r : List Int} (h : Held w wr v2 v4 outs batch) (hv : (Kd.int .u8).R 5 w3 wr.heap.size (fun _ => True) v r) : k2.M w3 w.heap.size (fun k => wr.heap.size ≤ k) r [v] :=
  Kd.M_row (Kd.R_lower (Kd.R_mono (Kd.R_bound hv) (fun _ hk => hk.2.1)) h.below.size)
theorem Held.okp {w wr : World} {v2 v4 : Value} {outs : List (List (List Int))} {batch : List (List Int)} (h : Held w wr v2 v4 outs batch) : ∀ k, wr.heap.size ≤ k → some k ≠ v2.ownBlock ∧ some k ≠ v4.ownBlock := fun k hk =>
  ⟨fun e => by have := Kd.R_lt h.outs k e.symm; omega, fun e => by have := Kd.R_lt h.batch k e.symm; omega⟩
theorem Held.fresh {w wr : World} {v2 v4 : Value} {outs : List (List (List Int))} {batch : List (List Int)} (h : Held w wr v2 v4 outs batch) : ∀ k, wr.heap.size ≤ k → some k ≠ v2.ownBlock := fun k hk => (h.okp k hk).1

set_option maxRecDepth 100000 in
set_option maxHeartbeats 4000000 in
theorem Read_calls (A0 : Option Addr) (c0 : Nat) (b : List Int) (w : World) (hr : Kd.C (Kd.int .u8) w A0 b.length b) (hc : b.length ≤ c0) (hl : b.length ≤ 100000) (hx : ∀ x ∈ b, 0 ≤ x ∧ x < 256) :
    Calls Try.prog 58 #[.slice A0 b.length c0] w fun e w' => ∃ v, e = .returned (.tuple #[v, .int .i64 (readOf b).2]) ∧ k3.R 53 w' w.heap.size (fun _ => True) v (readOf b).1 ∧ Below w.heap.size w w' := by
  have HR := Aside0.mk hr
  have HX := Aside0.mk hx
  have HRun := Aside0.mk (show readGo b [] 0 0 = readOf b from rfl)
  generalize readOf b = R at HRun ⊢
  clear hr hx
  go_enter Try.func58, Try.ntmps58
  go_wp2
  go_loopg [2, 3, 4, 5] (b.length) (fun kq v2 v3 v4 v5 wr => ∃ (p used : Nat) (outs : List (List (List Int))) (batch : List (List Int)), v5 = .int .i64 p ∧ v3 = .int .i64 used ∧ Aside0 (kq + p = b.length) ∧ Aside0 (outs.length ≤ p ∧ batch.length ≤ p) ∧ Aside0 ((outs ++ (readGo (b.drop p) batch p used).1, (readGo (b.drop p) batch p used).2) = R) ∧ Aside0 (Held w wr v2 v4 outs batch))
  case atStart =>
    exact ⟨0, 0, [], [], rfl, rfl, ⟨by omega⟩, ⟨by simp⟩, ⟨by rw [← HRun.out]; rfl⟩, ⟨⟨Kd.R_nil _ _ _ _ _, Kd.R_nil _ _ _ _ _, Below.refl _ _⟩⟩⟩
  case round =>
    obtain ⟨p, used, outs, batch, rfl, rfl, hK, hLen, hRi, hH⟩ := hrel
    have hp : p ≤ b.length := by have := hK.out; omega
    have hlo : (0 : Int) ≤ (p : Int) := by omega
    have hhi : (p : Int) ≤ (b.length : Int) := by omega
    have hhi2 : (p : Int) ≤ (c0 : Int) := by omega
    have HF := fun (c' : Nat) (h' : b.length - p ≤ c') (w' : World) (h : Kd.C (Kd.int .u8) w' A0 b.length b) => Aside0.mk (first_at A0 c0 p b w' h hc hl HX.out hp c' h')
    cases hfo : firstOf (b.drop p) with
    | none =>
      rw [hfo] at HF
      have hRR := hRi.out
      rw [readGo_none hfo] at hRR
      have HE := Aside0.mk hRR
      clear hfo hRi hRR
      by_cases hce : c0 = p
      · subst hce
        have hbp : b.length = c0 := by omega
        have HF2 := fun w' h => Aside0.mk (by have h2 := (HF 0 (by omega) w' h).out; rw [if_pos rfl, show b.length - c0 = 0 by omega] at h2; exact h2)
        clear HF
        go_wp2_with (first | (go_at_call 72; refine (HF2 _ (Kd.C_below HR.out hH.out.below)).out.mono ?_; rintro e w1 ⟨hb1, rfl⟩; have H1 := Aside0.mk (hH.out.step hb1); clear hb1))
        go_ret2
        have e1 : outs = R.1 := by rw [← HE.out]; simp
        have e2 : used = R.2 := by rw [← HE.out]
        exact ⟨u2, by rw [← e2]; rfl, by rw [← e1]; exact Kd.R_mono H1.out.outs (fun _ _ => trivial), H1.out.below⟩
      · have HF2 := fun w' h => Aside0.mk (by have h2 := (HF (c0 - p) (by omega) w' h).out; rw [if_neg hce] at h2; exact h2)
        have hce2 := eq_false hce
        clear HF hce
        go_wp2_with (first | (go_at_call 72; refine (HF2 _ (Kd.C_below HR.out hH.out.below)).out.mono ?_; rintro e w1 ⟨hb1, rfl⟩; have H1 := Aside0.mk (hH.out.step hb1); clear hb1))
        go_ret2
        have e1 : outs = R.1 := by rw [← HE.out]; simp
        have e2 : used = R.2 := by rw [← HE.out]
        exact ⟨u2, by rw [← e2]; rfl, by rw [← e1]; exact Kd.R_mono H1.out.outs (fun _ _ => trivial), H1.out.below⟩
    | some t =>
      obtain ⟨r, last, n⟩ := t
      obtain ⟨-, -, -, -, -, hn1, hn2, hn3⟩ := firstOf_some hfo
      rw [List.length_drop] at hn1
      have hce : ¬ c0 = p := by omega
      rw [hfo] at HF
      have HRl := Aside0.mk (show r.length ≤ 140737488351232 by omega)
      have HBl := Aside0.mk (show (batch ++ [r]).length = batch.length + 1 by simp)
      have hn0 : ((n : Int) == 0) = false := beq_eq_false_iff_ne.mpr (by omega)
      have hdd : (b.drop p).drop n = b.drop (p + n) := List.drop_drop
      have HF2 := fun w' h => Aside0.mk (by have h2 := (HF (c0 - p) (by omega) w' h).out; rw [if_neg hce] at h2; exact h2)
      have hce2 := eq_false hce
      have HPN := Aside0.mk (And.intro (show p + n ≤ b.length by omega) (show 1 ≤ n by omega))
      have hpn1 : (p : Int) + (n : Int) ≤ (b.length : Int) := by omega
      cases last with
      | true =>
        have hRR := hRi.out
        rw [readGo_last hfo, hdd] at hRR
        have HE := Aside0.mk hRR
        clear hfo hRi hRR HF hce hn1 hn2 hn3 hdd
        go_wp2_with (first | (go_at_call 72; refine (HF2 _ (Kd.C_below HR.out hH.out.below)).out.mono ?_; rintro e w1 ⟨hb1, A', rfl, hC1⟩; have H1 := Aside0.mk (hH.out.step hb1); have HC1 := Aside0.mk (Kd.C_below hC1 hb1); have HS1 := Aside0.mk hb1.size; clear hb1 hC1) | (go_at_call 57; refine (Disk.Clone_calls _ A' r.length r HC1.out HRl.out).mono ?_; rintro e w3 ⟨v, rfl, hv, hb3⟩; obtain ⟨A3, c3, rfl, _, _⟩ := Kd.R_reads hv; have H3 := Aside0.mk (H1.out.step hb3); have HV := Aside0.mk (Kd.R_lower hv HS1.out); have HS3 := Aside0.mk (Nat.le_trans HS1.out hb3.size); clear hv hb3) | ((with_reducible refine gate_builtin (b := .append) (xs := #[.tmp 21, .tmp 24]) rfl ?_); at_builtin; refine Kd.R_append (Kd.slice 5 (Kd.int .u8)) (w0 := w) w.heap.size rfl (.tmp 21) (.tmp 24) 53 25 (.slice none 0 0) 24 rfl Try.underlying53 info25 rfl (by decide) (by omega) _ batch r [.slice A3 r.length c3] (fun k_ => some k_ ≠ u2.ownBlock) (fun k_ => wr.heap.size ≤ k_) rfl (by first | (go_simp; done) | (go_simp; rfl)) (hH.out.row HV.out) hH.out.okp (fun k_ hk_ => hH.out.fresh k_ (Nat.le_trans HS3.out hk_)) H3.out.batch H3.out.below H3.out.below.size (by have := hLen.out.2; omega) ?_; intro v4 w4 h4 hb4 hg4 hat4; obtain ⟨A4, c4, rfl, _, _⟩ := Kd.R_reads h4; have HO4 := Aside0.mk (Kd.R_after H3.out.outs hg4 hat4); rw [HBl.out] at h4 HO4; have H4 := Aside0.mk h4; have HB4 := Aside0.mk hb4; clear h4 hb4 hg4 hat4) | ((with_reducible refine gate_builtin (b := .append) (xs := #[.tmp 30, .tmp 32]) rfl ?_); at_builtin; refine Kd.R_append (Kd.slice 25 (Kd.slice 5 (Kd.int .u8))) (w0 := w) w.heap.size rfl (.tmp 30) (.tmp 32) 45 53 (.slice none 0 0) 24 rfl Try.underlying45 info53 rfl (by decide) (by omega) _ outs (batch ++ [r]) [.slice A4 (batch.length + 1) c4] (fun _ => True) (fun k_ => some k_ ≠ u2.ownBlock) rfl (by first | (go_simp; done) | (go_simp; rfl)) (Kd.M_row H4.out) (fun k_ hk_ => ⟨trivial, hk_⟩) (fun _ _ => trivial) (Kd.R_mono HO4.out (fun _ _ => trivial)) HB4.out HB4.out.size (by have := hLen.out.1; omega) ?_; intro v5 w5 h5 hb5 _ _; have H5 := Aside0.mk h5; have HB5 := Aside0.mk hb5; clear h5 hb5))
        go_roundg (b.length - (p + n))
        case measure => have := hK.out; have := HPN.out; omega
        case rel => exact ⟨p + n, p + n, outs ++ [batch ++ [r]], [], by go_num, by go_num, ⟨by have := HPN.out; omega⟩, ⟨by have := hLen.out; have := HPN.out; simp; omega⟩, ⟨by rw [← HE.out]; simp⟩, ⟨⟨Kd.R_apart_nil H5.out, Kd.R_nil _ _ _ _ _, HB5.out⟩⟩⟩
      | false =>
        have hRR := hRi.out
        rw [readGo_more hfo, hdd] at hRR
        have HE := Aside0.mk hRR
        clear hfo hRi hRR HF hce hn1 hn2 hn3 hdd
        go_wp2_with (first | (go_at_call 72; refine (HF2 _ (Kd.C_below HR.out hH.out.below)).out.mono ?_; rintro e w1 ⟨hb1, A', rfl, hC1⟩; have H1 := Aside0.mk (hH.out.step hb1); have HC1 := Aside0.mk (Kd.C_below hC1 hb1); have HS1 := Aside0.mk hb1.size; clear hb1 hC1) | (go_at_call 57; refine (Disk.Clone_calls _ A' r.length r HC1.out HRl.out).mono ?_; rintro e w3 ⟨v, rfl, hv, hb3⟩; obtain ⟨A3, c3, rfl, _, _⟩ := Kd.R_reads hv; have H3 := Aside0.mk (H1.out.step hb3); have HV := Aside0.mk (Kd.R_lower hv HS1.out); have HS3 := Aside0.mk (Nat.le_trans HS1.out hb3.size); clear hv hb3) | ((with_reducible refine gate_builtin (b := .append) (xs := #[.tmp 21, .tmp 24]) rfl ?_); at_builtin; refine Kd.R_append (Kd.slice 5 (Kd.int .u8)) (w0 := w) w.heap.size rfl (.tmp 21) (.tmp 24) 53 25 (.slice none 0 0) 24 rfl Try.underlying53 info25 rfl (by decide) (by omega) _ batch r [.slice A3 r.length c3] (fun k_ => some k_ ≠ u2.ownBlock) (fun k_ => wr.heap.size ≤ k_) rfl (by first | (go_simp; done) | (go_simp; rfl)) (hH.out.row HV.out) hH.out.okp (fun k_ hk_ => hH.out.fresh k_ (Nat.le_trans HS3.out hk_)) H3.out.batch H3.out.below H3.out.below.size (by have := hLen.out.2; omega) ?_; intro v4 w4 h4 hb4 hg4 hat4; obtain ⟨A4, c4, rfl, _, _⟩ := Kd.R_reads h4; have HO4 := Aside0.mk (Kd.R_after H3.out.outs hg4 hat4); rw [HBl.out] at h4 HO4; have H4 := Aside0.mk h4; have HB4 := Aside0.mk hb4; clear h4 hb4 hg4 hat4))
        go_roundg (b.length - (p + n))
        case measure => have := hK.out; have := HPN.out; omega
        case rel => exact ⟨p + n, used, outs, batch ++ [r], by go_num, rfl, ⟨by have := HPN.out; omega⟩, ⟨by have := hLen.out; have := HPN.out; simp; omega⟩, HE, ⟨⟨HO4.out, H4.out, HB4.out⟩⟩⟩

theorem Scan_many (A0 : Option Addr) (c0 n : Nat) (w : World) (hl : 1200 < n) :
    Calls Try.prog 36 #[.slice A0 n c0] w fun e w' => e = .returned (.tuple #[.slice none 0 0, .int .i64 0, .int .i64 1]) ∧ w = w' := by
  have ht : decide ((1200 : Int) < (n : Int)) = true := decide_eq_true (by omega)
  go_enter Try.func36, Try.ntmps36
  go_wp2
  go_ret3
  exact ⟨rfl, rfl⟩

theorem Scan_walk (A0 : Option Addr) (c0 : Nat) (b : List Int) (w : World) (hr : Kd.C (Kd.int .u8) w A0 b.length b) (hc : b.length ≤ c0) (hl : b.length ≤ 1200) (hx : ∀ x ∈ b, 0 ≤ x ∧ x < 256) :
    Calls Try.prog 36 #[.slice A0 b.length c0] w fun e w' => ∃ v, e = .returned (.tuple #[v, .int .i64 (readOf b).2, .int .i64 0]) ∧ k3.R 53 w' w.heap.size (fun _ => True) v (readOf b).1 ∧ Below w.heap.size w w' := by
  have ht : decide ((1200 : Int) < (b.length : Int)) = false := decide_eq_false (by omega)
  have HRd := fun w h => Aside0.mk (Read_calls A0 c0 b w h hc (by omega) hx)
  have HR := Aside0.mk hr
  clear hr hx
  go_enter Try.func36, Try.ntmps36
  go_wp2_with (go_at_call 58; refine (HRd _ HR.out).out.mono ?_; rintro e w1 ⟨v, rfl, hv, hb⟩; have HV := Aside0.mk hv; have HB := Aside0.mk hb; clear hv hb)
  go_ret3
  exact ⟨_, rfl, HV.out, HB.out⟩

end Go.Proofs.Ytmfkgbncnaingaa.Wal
namespace Go.Proofs.Ytmfkgbncnaingaa.QWal
open Go.RowKit Go.Proofs.Ytmfkgbncnaingaa.Wal Go.Proofs.YtmfkgbncnaingaaW.PrintWords Go.Proofs.YtmfkgbncnaingaaW.PrintLast Go.Proofs.YtmfkgbncnaingaaW.PrintMore

def wal_Scan.f (l : List Int) : Option (List (List (List Int)) × Int × Int) :=
  if 1200 < l.length then some ([], 0, 1) else if bytesIn l = true then some ((readOf l).1, ((readOf l).2 : Int), 0) else none
theorem wal_Scan.calls (A0 : Option Addr) (c0 : Nat) (l0 : List Int) (r1 : List (List (List Int))) (r2 r3 : Int) (w : World) (hr0 : Kd.C (Kd.int .u8) w A0 l0.length l0) (hc0 : l0.length ≤ c0) (h : wal_Scan.f l0 = some (r1, r2, r3)) :
    Calls Try.prog 36 #[.slice A0 l0.length c0] w fun e w' => ∃ v0_ : Value, e = .returned (.tuple #[v0_, .int .i64 r2, .int .i64 r3]) ∧ Kd.R (Kd.slice 25 (Kd.slice 5 (Kd.int .u8))) 53 w' w.heap.size (fun _ => True) v0_ r1 ∧ Below w.heap.size w w' := by
  unfold wal_Scan.f at h
  by_cases hm : 1200 < l0.length
  · rw [if_pos hm] at h
    simp only [Option.some.injEq, Prod.mk.injEq] at h
    obtain ⟨rfl, rfl, rfl⟩ := h
    refine (Scan_many A0 c0 l0.length w hm).mono ?_
    rintro e w' ⟨rfl, rfl⟩
    exact ⟨_, rfl, Kd.R_nil _ _ _ _ _, Below.refl _ _⟩
  · rw [if_neg hm] at h
    by_cases hf : bytesIn l0 = true
    · rw [if_pos hf] at h
      simp only [Option.some.injEq, Prod.mk.injEq] at h
      obtain ⟨rfl, rfl, rfl⟩ := h
      exact Scan_walk A0 c0 l0 w hr0 hc0 (by omega) ((bytesIn_iff l0).1 hf)
    · rw [if_neg hf] at h; cases h

end Go.Proofs.Ytmfkgbncnaingaa.QWal
