/- What disk.Play and disk.Held come to. -/
import Derived.Test.YtmfkgbncnaingaaDisk3
import Derived.Lib.SliceRun
namespace Go.Proofs.Ytmfkgbncnaingaa.Disk
open Go.RowKit Go.Proofs.Ytmfkgbncnaingaa.QDisk Go.Proofs.YtmfkgbncnaingaaW.PrintWords Go.Proofs.YtmfkgbncnaingaaW.PrintLast Go.Proofs.YtmfkgbncnaingaaW.PrintMore

/-- The empty literal is a row. -/
theorem empty_row (w : World) : (Kd.int .u8).R 5 (w.alloc (.cells #[] 5)) w.heap.size (fun _ => True) (.slice (some ⟨w.heap.size, 0, none⟩) 0 0) [] :=
  Kd.R_of_own (xs := ([] : List Int)) (own_lit_of (enc := Value.int .u8) w w.heap.size 5 ([] : List Int) (Nat.le_refl _) (by decide)) (fun _ _ => trivial)

set_option maxRecDepth 100000 in
set_option maxHeartbeats 1000000 in
theorem Clone_calls (w : World) (A : Option Addr) (c : Nat) (xs : List Int) (h : (Kd.int .u8).C w A xs.length xs) (hl : xs.length ≤ 140737488351232) :
    Calls Try.prog 57 #[.slice A xs.length c] w fun e w' => ∃ v, e = .returned v ∧ (Kd.int .u8).R 5 w' w.heap.size (fun _ => True) v xs ∧ Below w.heap.size w w' := by
  have HC := Aside0.mk h
  have hq := fun (w : World) (a : Option Addr) (n c n' c' : Nat) => Lib.run_eql_slice_nil (P := Try.prog) w 25 5 a n c n' c' Try.underlying25
  cases A with
  | none =>
    have h0 : xs = [] := by
      have h1 := HC.out
      cases xs with
      | nil => rfl
      | cons x l => obtain ⟨_, _, h2⟩ := h1; obtain ⟨ad, h3, _⟩ := h2 (by simp); cases h3
    subst h0
    go_enter Try.func57, Try.ntmps57
    go_wp2
    go_ret
    exact ⟨_, rfl, Kd.R_nil _ _ _ _ _, Below.refl _ _⟩
  | some ad =>
    clear h
    go_enter Try.func57, Try.ntmps57
    go_wp2_with (first | (at_builtin; refine Kd.R_append_rows (Kd.int .u8) (w0 := w) w.heap.size rfl (.tmp 5) (.tmp 6) 25 5 (.int .u8 0) 1 rfl Try.underlying25 info5 rfl (by decide) (by omega) _ [] xs _ _ _ (fun _ => True) (fun _ => False) rfl rfl (empty_row w) (Kd.C_alloc HC.out _) (fun _ _ h => h) (fun _ h => h.elim) (fun _ _ => trivial) (below_alloc (Below.refl _ _) _) (by simp) (by simp; omega) ?_; intro v1 w1 ho hb _ _; have HO := Aside0.mk ho; have HB := Aside0.mk hb; clear ho hb))
    go_ret
    exact ⟨_, rfl, HO.out, HB.out⟩

theorem C_of_At {w : World} {base g : Nat} {v : Value} {D : List Int} {s : Int} (h : At w base g v D s) : ∃ A c, v = .slice A D.length c ∧ (Kd.int .u8).C w A D.length D := by
  obtain ⟨A, c, rfl, _, hC⟩ := Kd.R_reads h.row
  exact ⟨A, c, rfl, hC⟩

end Go.Proofs.Ytmfkgbncnaingaa.Disk
namespace Go.Proofs.Ytmfkgbncnaingaa.QDisk
open Go.RowKit Go.Proofs.Ytmfkgbncnaingaa.Disk Go.Proofs.YtmfkgbncnaingaaW.PrintWords Go.Proofs.YtmfkgbncnaingaaW.PrintLast Go.Proofs.YtmfkgbncnaingaaW.PrintMore

/-- Are all data short enough to be? -/
def short (l : List S32) : Bool := l.all fun m => decide (m.f1.length ≤ 140737488351232)
theorem short_iff (l : List S32) : short l = true ↔ ∀ m ∈ l, m.f1.length ≤ 140737488351232 := by simp [short]

def disk_Play.f (l : List S32) : Option (List Int × List Int × Int) :=
  if 100 < l.length then some ([], [], 1) else if short l = true then some ((run l [] 0).1, (run l [] 0).2.1, 0) else none
def disk_Held.f (l : List S32) : Option (Int × Int × Int) :=
  if 100 < l.length then some (0, 0, 1) else if short l = true then some (((run l [] 0).2.1.length : Int), (run l [] 0).2.2, 0) else none

set_option maxRecDepth 100000 in
set_option maxHeartbeats 4000000 in
theorem disk_Play.calls (A0 : Option Addr) (c0 : Nat) (l0 : List S32) (r1 r2 : List Int) (r3 : Int) (w : World) (hr0 : Kd.C k32 w A0 l0.length l0) (_hc0 : l0.length ≤ c0) (h : disk_Play.f l0 = some (r1, r2, r3)) :
    Calls Try.prog 32 #[.slice A0 l0.length c0] w fun e w' => ∃ v0_ v1_ : Value, e = .returned (.tuple #[v0_, v1_, .int .i64 r3]) ∧ Kd.R (Kd.int .i64) 37 w' w.heap.size (fun _ => True) v0_ r1 ∧ Kd.R (Kd.int .u8) 5 w' w.heap.size (fun _ => True) v1_ r2 ∧ Below w.heap.size w w' := by
  unfold disk_Play.f at h
  have HR := Aside0.mk hr0
  clear hr0
  by_cases hm : 100 < l0.length
  · rw [if_pos hm] at h
    simp only [Option.some.injEq, Prod.mk.injEq] at h
    obtain ⟨rfl, rfl, rfl⟩ := h
    have HM := Aside0.mk hm
    clear hm
    go_enter Try.func32, Try.ntmps32
    go_wp2_with (go_at_call 56; refine (play_many A0 c0 l0.length _ HM.out).mono ?_; rintro e w' ⟨rfl, rfl⟩)
    go_ret3
    exact ⟨_, _, rfl, Kd.R_nil _ _ _ _ _, Kd.R_nil _ _ _ _ _, Below.refl _ _⟩
  · rw [if_neg hm] at h
    by_cases hs : short l0 = true
    · rw [if_pos hs] at h
      simp only [Option.some.injEq, Prod.mk.injEq] at h
      obtain ⟨rfl, rfl, rfl⟩ := h
      have HP := Aside0.mk (play_calls A0 c0 l0 w HR.out (by omega) ((short_iff l0).1 hs))
      clear hm hs
      generalize run l0 [] 0 = R at HP ⊢
      go_enter Try.func32, Try.ntmps32
      go_wp2_with (first | (go_at_call 56; refine HP.out.mono ?_; rintro e w1 ⟨g, v, cv, rfl, hA, hOk, hC, hB⟩; obtain ⟨A1, c1, rfl, hcd⟩ := C_of_At hA; have hc0 := (blk_cell hA.blk 0).trans rfl; have HA := Aside0.mk hA; have HOk := Aside0.mk hOk; have HC := Aside0.mk hC; have HB := Aside0.mk hB; have HD := Aside0.mk hcd; clear hA hOk hC hB hcd) | (go_at_call 57; refine (Clone_calls _ A1 c1 R.2.1 HD.out (by have := HOk.out.1; omega)).mono ?_; rintro e w2 ⟨v2, rfl, hO, hB2⟩; have HO := Aside0.mk hO; have HB2 := Aside0.mk hB2; clear hO hB2))
      go_ret3
      exact ⟨_, _, rfl, Kd.R_below HC.out HB2.out, Kd.R_lower HO.out HB.out.size, HB.out.trans (HB2.out.mono HB.out.size)⟩
    · rw [if_neg hs] at h; cases h

set_option maxRecDepth 100000 in
set_option maxHeartbeats 4000000 in
theorem disk_Held.calls (A0 : Option Addr) (c0 : Nat) (l0 : List S32) (r1 r2 r3 : Int) (w : World) (hr0 : Kd.C k32 w A0 l0.length l0) (_hc0 : l0.length ≤ c0) (h : disk_Held.f l0 = some (r1, r2, r3)) :
    Calls Try.prog 33 #[.slice A0 l0.length c0] w fun e w' => e = .returned (.tuple #[.int .i64 r1, .int .i64 r2, .int .i64 r3]) ∧ Below w.heap.size w w' := by
  unfold disk_Held.f at h
  have HR := Aside0.mk hr0
  clear hr0
  by_cases hm : 100 < l0.length
  · rw [if_pos hm] at h
    simp only [Option.some.injEq, Prod.mk.injEq] at h
    obtain ⟨rfl, rfl, rfl⟩ := h
    have HM := Aside0.mk hm
    clear hm
    go_enter Try.func33, Try.ntmps33
    go_wp2_with (go_at_call 56; refine (play_many A0 c0 l0.length _ HM.out).mono ?_; rintro e w' ⟨rfl, rfl⟩)
    go_ret3
    exact ⟨rfl, Below.refl _ _⟩
  · rw [if_neg hm] at h
    by_cases hs : short l0 = true
    · rw [if_pos hs] at h
      simp only [Option.some.injEq, Prod.mk.injEq] at h
      obtain ⟨rfl, rfl, rfl⟩ := h
      have HP := Aside0.mk (play_calls A0 c0 l0 w HR.out (by omega) ((short_iff l0).1 hs))
      clear hm hs
      generalize run l0 [] 0 = R at HP ⊢
      go_enter Try.func33, Try.ntmps33
      go_wp2_with (first | (go_at_call 56; refine HP.out.mono ?_; rintro e w1 ⟨g, v, cv, rfl, hA, hOk, hC, hB⟩; obtain ⟨A1, c1, rfl, hcd⟩ := C_of_At hA; have hc0 := (blk_cell hA.blk 0).trans rfl; have hc1 := (blk_cell hA.blk 1).trans rfl; have HB := Aside0.mk hB; clear hA hOk hC hB hcd))
      go_quiet (fail)
      go_wp2
      go_ret3
      exact ⟨rfl, pw_below_drewN HB.out _⟩
    · rw [if_neg hs] at h; cases h

end Go.Proofs.Ytmfkgbncnaingaa.QDisk
