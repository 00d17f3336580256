/- What a move does to a disk: the method do. -/
import Derived.Test.YtmfkgbncnaingaaDisk1
import Derived.Deep.QuietTactic
import Derived.BigQuiet
namespace Go.Proofs.Ytmfkgbncnaingaa.Disk
open Go.RowKit Go.Proofs.YtmfkgbncnaingaaW.PrintWords Go.Proofs.YtmfkgbncnaingaaW.PrintLast Go.Proofs.YtmfkgbncnaingaaW.PrintMore

theorem At.alloc {w : World} {base g : Nat} {v : Value} {D : List Int} {s : Int} (h : At w base g v D s) (o : Obj) : At (w.alloc o) base g v D s := ⟨blk_alloc h.blk o, h.ge, Kd.R_alloc h.row o⟩
theorem Eff.alloc (w : World) (base g : Nat) (o : Obj) : Eff w (w.alloc o) base g := ⟨rfl, rfl, rfl, by simp, fun k hk _ => Below.heap_alloc _ _ _ hk⟩

/-- What a move leaves. -/
def Post (w : World) (base g : Nat) (r : Int × List Int × Int) (e : Ending) (w' : World) : Prop := e = .returned (.int .i64 r.1) ∧ (∃ v', At w' base g v' r.2.1 r.2.2) ∧ Eff w w' base g

set_option maxRecDepth 100000 in
set_option maxHeartbeats 2000000 in
theorem do_write (w : World) (base g : Nat) (v : Value) (D b : List Int) (s n : Int) (A : Option Addr) (c : Nat) (h : At w base g v D s) (hb : (Kd.int .u8).C w A b.length b) (hl : D.length ≤ 1200) (hlb : b.length ≤ 140737488351232) :
    Calls Try.prog 71 #[.pointer (some ⟨g, 0, none⟩), .agg #[.int .i64 1, .slice A b.length c, .int .i64 n]] w (Post w base g (step 1 b n D s)) := by
  have HAt := Aside0.mk h
  have HC := Aside0.mk hb
  clear h hb
  by_cases hf : D.length + b.length ≤ 1200
  · have hs : step 1 b n D s = (0, D ++ b, s) := by simp [step, hf]
    rw [hs]
    have HF := Aside0.mk hf
    clear hf
    go_enter Try.func71, Try.ntmps71
    go_wp2_with (go_at_call 85; refine (Write_calls _ base g v D b s A c (HAt.out.alloc _) (Kd.C_alloc HC.out _) HF.out).mono ?_; rintro e w1 ⟨v1, rfl, hA, hE⟩; have HA := Aside0.mk hA; have HE := Aside0.mk hE; clear hA hE)
    go_ret
    exact ⟨rfl, ⟨_, HA.out⟩, (Eff.alloc w base g _).trans HE.out⟩
  · have hs : step 1 b n D s = (10, D, s) := by simp [step, hf]
    rw [hs]
    have HF := Aside0.mk hf
    clear hf
    go_enter Try.func71, Try.ntmps71
    go_wp2_with (go_at_call 85; refine (Write_full _ base g v D b s A c (HAt.out.alloc _) HF.out hl hlb).mono ?_; rintro e w1 ⟨rfl, rfl⟩)
    go_ret
    exact ⟨rfl, ⟨_, HAt.out.alloc _⟩, Eff.alloc w base g _⟩

set_option maxRecDepth 100000 in
set_option maxHeartbeats 2000000 in
theorem do_sync (w : World) (base g : Nat) (v : Value) (D b : List Int) (s n : Int) (A : Option Addr) (c : Nat) (h : At w base g v D s) :
    Calls Try.prog 71 #[.pointer (some ⟨g, 0, none⟩), .agg #[.int .i64 2, .slice A b.length c, .int .i64 n]] w (Post w base g (step 2 b n D s)) := by
  have HAt := Aside0.mk h
  clear h
  have hs : step 2 b n D s = (0, D, (D.length : Int)) := by simp [step]
  rw [hs]
  go_enter Try.func71, Try.ntmps71
  go_wp2_with (go_at_call 86; refine (Sync_calls _ base g v D s (HAt.out.alloc _)).mono ?_; rintro e w1 ⟨rfl, hA, hE⟩; have HA := Aside0.mk hA; have HE := Aside0.mk hE; clear hA hE)
  go_ret
  exact ⟨rfl, ⟨_, HA.out⟩, (Eff.alloc w base g _).trans HE.out⟩

set_option maxRecDepth 100000 in
set_option maxHeartbeats 2000000 in
theorem do_fall (w : World) (base g : Nat) (v : Value) (D b : List Int) (s n : Int) (A : Option Addr) (c : Nat) (h : At w base g v D s) (hs0 : 0 ≤ s) (hs1 : s ≤ D.length) (hl : D.length ≤ 1200) :
    Calls Try.prog 71 #[.pointer (some ⟨g, 0, none⟩), .agg #[.int .i64 4, .slice A b.length c, .int .i64 n]] w (Post w base g (step 4 b n D s)) := by
  have HAt := Aside0.mk h
  clear h
  by_cases hn : n < 0
  · have hs : step 4 b n D s = (2, D, s) := by simp [step, hn]
    rw [hs]
    have hb := decide_eq_true hn
    clear hn
    go_enter Try.func71, Try.ntmps71
    go_wp2
    go_ret
    exact ⟨rfl, ⟨_, HAt.out.alloc _⟩, Eff.alloc w base g _⟩
  · have hs : step 4 b n D s = (0, D.take (fallTo D.length s n).toNat, fallTo D.length s n) := by simp [step, hn]
    rw [hs]
    have hb := decide_eq_false hn
    have HN := Aside0.mk hn
    clear hn
    go_enter Try.func71, Try.ntmps71
    go_wp2_with (go_at_call 88; refine (Fall_calls _ base g v D s n (HAt.out.alloc _) hs0 hs1 (by have := HN.out; omega) hl).mono ?_; rintro e w1 ⟨rfl, ⟨v1, hA⟩, hE⟩; have HA := Aside0.mk hA; have HE := Aside0.mk hE; clear hA hE)
    go_ret
    exact ⟨rfl, ⟨_, HA.out⟩, (Eff.alloc w base g _).trans HE.out⟩

set_option maxRecDepth 100000 in
set_option maxHeartbeats 2000000 in
theorem do_other (w : World) (base g : Nat) (v : Value) (D b : List Int) (s n k : Int) (A : Option Addr) (c : Nat) (h : At w base g v D s) (h1 : k ≠ 1) (h2 : k ≠ 2) (h3 : k ≠ 3) (h4 : k ≠ 4) :
    Calls Try.prog 71 #[.pointer (some ⟨g, 0, none⟩), .agg #[.int .i64 k, .slice A b.length c, .int .i64 n]] w (Post w base g (step k b n D s)) := by
  have HAt := Aside0.mk h
  clear h
  have hs : step k b n D s = (3, D, s) := by simp [step, h1, h2, h3, h4]
  rw [hs]
  have e1 := beq_eq_false_iff_ne.2 h1
  have e2 := beq_eq_false_iff_ne.2 h2
  have e3 := beq_eq_false_iff_ne.2 h3
  have e4 := beq_eq_false_iff_ne.2 h4
  clear h1 h2 h3 h4
  go_enter Try.func71, Try.ntmps71
  go_wp2
  go_ret
  exact ⟨rfl, ⟨_, HAt.out.alloc _⟩, Eff.alloc w base g _⟩

set_option maxRecDepth 100000 in
set_option maxHeartbeats 2000000 in
theorem do_trim (w : World) (base g : Nat) (v : Value) (D b : List Int) (s n : Int) (A : Option Addr) (c : Nat) (h : At w base g v D s) (hl : D.length ≤ 1200) :
    Calls Try.prog 71 #[.pointer (some ⟨g, 0, none⟩), .agg #[.int .i64 3, .slice A b.length c, .int .i64 n]] w (Post w base g (step 3 b n D s)) := by
  have HAt := Aside0.mk h
  obtain ⟨Ad, cd, rfl, hlc, hrd⟩ := Kd.R_reads h.row
  have hc0 : ∀ o, (w.alloc o).cell? ⟨g, 0, none⟩ = some (.slice Ad D.length cd) := fun o => (blk_cell (h.alloc o).blk 0).trans rfl
  clear h hrd
  by_cases hn : n < 0
  · have hs : step 3 b n D s = (2, D, s) := by simp [step, hn]
    rw [hs]
    have hb := decide_eq_true hn
    clear hn
    go_enter Try.func71, Try.ntmps71
    go_wp2
    go_quiet (fail)
    go_wp2
    go_ret
    exact ⟨rfl, ⟨_, (HAt.out.alloc _).drewN _⟩, (Eff.alloc w base g _).trans (Eff.drewN _ base g _)⟩
  · by_cases hm : (D.length : Int) < n
    · have hs : step 3 b n D s = (2, D, s) := by simp [step, hm]
      rw [hs]
      have hb := decide_eq_false hn
      have hb2 := decide_eq_true hm
      clear hn hm
      go_enter Try.func71, Try.ntmps71
      go_wp2
      go_quiet (fail)
      go_wp2
      go_ret
      exact ⟨rfl, ⟨_, (HAt.out.alloc _).drewN _⟩, (Eff.alloc w base g _).trans (Eff.drewN _ base g _)⟩
    · have hs : step 3 b n D s = (0, D.take n.toNat, n) := by simp [step, hn, hm]
      rw [hs]
      have hb := decide_eq_false hn
      have hb2 := decide_eq_false hm
      have HN := Aside0.mk (And.intro hn hm)
      clear hn hm
      go_enter Try.func71, Try.ntmps71
      go_wp2
      go_quiet (fail)
      go_wp2_with (go_at_call 87; refine (Trim_calls _ base g _ D s n ((HAt.out.alloc _).drewN _) (by have := HN.out; omega) (by have := HN.out; omega) hl).mono ?_; rintro e w1 ⟨rfl, ⟨v1, hA⟩, hE⟩; have HA := Aside0.mk hA; have HE := Aside0.mk hE; clear hA hE)
      go_ret
      exact ⟨rfl, ⟨_, HA.out⟩, ((Eff.alloc w base g _).trans (Eff.drewN _ base g _)).trans HE.out⟩

end Go.Proofs.Ytmfkgbncnaingaa.Disk
