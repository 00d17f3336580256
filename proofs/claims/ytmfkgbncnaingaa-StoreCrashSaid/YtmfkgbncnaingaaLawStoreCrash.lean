/- For every input the Go function StoreCrash returns true, and each argument reads behind the call as it read before. No condition. -/
import Derived.Test.YtmfkgbncnaingaaRows
import Derived.Test.YtmfkgbncnaingaaGStore
import Derived.Test.YtmfkgbncnaingaaPureStoreCrash
import Derived.WalkKit
import Derived.ProofKit
import Derived.OpenShut
import Derived.ShutString
import Derived.ChangeOld
import Derived.Below
import Derived.SizedLaws
import Derived.Test.YtmfkgbncnaingaaWSized
namespace Go.Proofs.Ytmfkgbncnaingaa.storeCrash
open Go.ChangeShapes Go.WideShapes Go.ChangeAt Go.RowKit
open Go.ChangeMaps (open_string shut_string)
set_option linter.unusedVariables false
theorem own : ownKnob Try.prog.godebug = none := by kernel_rfl
theorem laidOut : laidOutB Try.prog = true := by kernel_rfl
set_option maxRecDepth 100000 in
theorem lifted (os : Os) (started : os.Started) (H : Type) (enc : TypeId × Value → H) :
    ReturnsInHanded {} Try.checked os 21 .any (Rows.storeCrashSpec.pre6 enc Try.prog Try.f21 Rows.storeCrashRow.domain false) (Rows.storeCrashSpec.post enc Try.prog Try.f21 false true false false) := by
  refine returnsInHanded_of_change_sized (C := Try.checked) own started (by kernel_rfl) Try.func21
    (ChangeSpec.witness6 (enc := enc) (C := Try.checked) false ⟨#[], #[.slice none 0 0, .slice none 0 0, .int .i64 0], []⟩ 8 (by kernel_rfl) (by kernel_rfl) (by kernel_rfl) (by kernel_rfl)) ?_
  intro W base args ds gs before hval0 hW hcnd hsz0 _
  have hval : ∀ (j : Nat) t v, Try.f21.params[j]? = some t → args[j]? = some v → Value.okWide Try.prog W .any base t v := hval0
  have hW' := hW
  obtain ⟨p, q, hA0, hV, rfl, hfz, hnd⟩ := hW
  have hA : DataW.TrodAll enc Try.prog W 0 (fun _ => true) true Try.f21.params.toList args.toList ds p := hA0
  rw [Try.params21] at hA hval
  obtain ⟨v0, vs0, d0, ds0, p0, q0, hargs, rfl, rfl, h0, r0⟩ := trodAll_cons hA
  obtain ⟨v1, vs1, d1, ds1, p1, q1, rfl, rfl, rfl, h1, r1⟩ := trodAll_cons r0
  obtain ⟨v2, vs2, d2, ds2, p2, q2, rfl, rfl, rfl, h2, r2⟩ := trodAll_cons r1
  obtain ⟨rfl, rfl, rfl⟩ := trodAll_nil r2
  obtain rfl : args = #[v0, v1, v2] := by cases args; simp_all
  obtain ⟨rfl, rfl⟩ := trodVars_none hV
  obtain ⟨a0, len0, cap0, rfl⟩ := okWide_slice Try.underlying74 (hval 0 74 v0 rfl rfl)
  have k0 := h0
  have lt0 : ∀ x ∈ p0, x.block < W.heap.size := by obtain ⟨m, hm⟩ := k0; exact DataW.trod_lt m _ _ _ hm
  obtain ⟨z0, hz0, hl0, hC0⟩ := (by obtain ⟨m, hm⟩ := k0; exact Sto.wishes (by simpa [Value.cells] using hm) : ∃ zs, zs.length = len0 ∧ len0 ≤ cap0 ∧ Go.Proofs.YtmfkgbncnaingaaW.PrintWords.Kd.C QStore.k114 W a0 len0 zs)
  subst hz0
  obtain ⟨a1, len1, cap1, rfl⟩ := okWide_slice Try.underlying24 (hval 1 24 v1 rfl rfl)
  have k1 := h1
  have lt1 : ∀ x ∈ p1, x.block < W.heap.size := by obtain ⟨m, hm⟩ := k1; exact DataW.trod_lt m _ _ _ hm
  obtain ⟨z1, hz1, hl1, hC1⟩ : ∃ zs, zs.length = len1 ∧ len1 ≤ cap1 ∧ Go.Proofs.YtmfkgbncnaingaaW.PrintWords.Kd.C (Go.Proofs.YtmfkgbncnaingaaW.PrintWords.Kd.int .i64) W a1 len1 zs := by
    obtain ⟨m, hm⟩ := k1
    obtain ⟨A, n, c, zs, hv, hz, hl, hC⟩ := Sto.numbers (show DataW.trod enc Try.prog W 0 (fun _ => true) true m 24 [.slice a1 len1 cap1] = some _ by simpa [Value.cells] using hm)
    injection hv with e1 e2 e3; subst e1 e2 e3; exact ⟨zs, hz, hl, hC⟩
  subst hz1
  obtain ⟨a2, rfl, rfl, rfl, w2⟩ := open_int Try.underlying3 (hval 2 3 v2 rfl rfl) h2
  clear hA0 hval0 hsz0
  refine (Sto.crash_walk a0 cap0 z0 a1 cap1 z1 a2 W hC0 hl0 hC1 hl1).mono fun e W' ⟨he, bel⟩ => ?_
  subst he
  exact ⟨_, rfl, _, _, _, [], _, [], hW', trodAll_mk1 (shut_bool Try.underlying4 _), (trodAll_cons_mk (Below.trod laidOut (by kernel_rfl) (of_decide_eq_true (by kernel_rfl)) k0 bel lt0) (trodAll_cons_mk (Below.trod laidOut (by kernel_rfl) (of_decide_eq_true (by kernel_rfl)) k1 bel lt1) (trodAll_cons_mk (shut_int Try.underlying3 w2) trodAll_mk0))), rfl, bel.frame _, fun h => by cases h⟩
set_option maxHeartbeats 40000000 in
theorem joined : joinedFacts Try.checked.prog 21 Try.f21 Rows.storeCrashSpec Rows.storeCrashRow = true := by
  simp only [joinedFacts, Bool.and_eq_true]
  repeat' apply And.intro
  all_goals (as_aux_lemma => kernel_rfl)
theorem over : Rows.storeCrashRow.holds Try.pinned (OpenSpec.ofChange Rows.storeCrashSpec) :=
  OpenClaim.holds_of_wide 21 Try.f21 rfl rfl rfl rfl rfl rfl rfl ⟨rfl, rfl, rfl, rfl, rfl⟩ rfl rfl rfl rfl rfl (by kernel_rfl) Try.func21 joined
    (of_decide_eq_true (by kernel_rfl)) (by unfold Func.isWrapper; first | (rw [if_pos (by decide +kernel)]; kernel_rfl) | (rw [if_neg (by decide +kernel)]; exact ⟨rfl, rfl⟩))
    (fun os started H enc _ => lifted os started H enc)
theorem proved : Rows.StoreCrashSaid := over
#print axioms proved
end Go.Proofs.Ytmfkgbncnaingaa.storeCrash
namespace Go.Proofs.Ytmfkgbncnaingaa
/-- The row, under a short name, for the claim. -/
theorem storeCrash_holds : Rows.StoreCrashSaid := storeCrash.proved
end Go.Proofs.Ytmfkgbncnaingaa
