/- For every input the Go function TopLogAny returns true, and each argument reads behind the call as it read before. No condition. -/
import Derived.Test.YtmfkgbncnaingaaRows
import Derived.Test.YtmfkgbncnaingaaActArg
import Derived.Test.YtmfkgbncnaingaaPureTopLogAny
import Derived.WalkKit
import Derived.ProofKit
import Derived.OpenShut
import Derived.ShutString
import Derived.ChangeOld
import Derived.Below
import Derived.SizedLaws
import Derived.Test.YtmfkgbncnaingaaWSized
namespace Go.Proofs.Ytmfkgbncnaingaa.topLogAny
open Go.ChangeShapes Go.WideShapes Go.ChangeAt Go.RowKit
open Go.ChangeMaps (open_string shut_string)
set_option linter.unusedVariables false
theorem own : ownKnob Try.prog.godebug = none := by kernel_rfl
theorem laidOut : laidOutB Try.prog = true := by kernel_rfl
set_option maxRecDepth 100000 in
theorem lifted (os : Os) (started : os.Started) (H : Type) (enc : TypeId × Value → H) :
    ReturnsInHanded {} Try.checked os 25 .any (Rows.topLogAnySpec.pre6 enc Try.prog Try.f25 Rows.topLogAnyRow.domain false) (Rows.topLogAnySpec.post enc Try.prog Try.f25 false true false false) := by
  refine returnsInHanded_of_change_sized (C := Try.checked) own started (by kernel_rfl) Try.func25
    (ChangeSpec.witness6 (enc := enc) (C := Try.checked) false ⟨#[], #[.slice none 0 0], []⟩ 8 (by kernel_rfl) (by kernel_rfl) (by kernel_rfl) (by kernel_rfl)) ?_
  intro W base args ds gs before hval0 hW hcnd hsz0 _
  have hval : ∀ (j : Nat) t v, Try.f25.params[j]? = some t → args[j]? = some v → Value.okWide Try.prog W .any base t v := hval0
  have hW' := hW
  obtain ⟨p, q, hA0, hV, rfl, hfz, hnd⟩ := hW
  have hA : DataW.TrodAll enc Try.prog W 0 (fun _ => true) true Try.f25.params.toList args.toList ds p := hA0
  rw [Try.params25] at hA hval
  obtain ⟨v0, vs0, d0, ds0, p0, q0, hargs, rfl, rfl, h0, r0⟩ := trodAll_cons hA
  obtain ⟨rfl, rfl, rfl⟩ := trodAll_nil r0
  obtain rfl : args = #[v0] := by cases args; simp_all
  obtain ⟨rfl, rfl⟩ := trodVars_none hV
  obtain ⟨a0, len0, cap0, rfl⟩ := okWide_slice Try.underlying75 (hval 0 75 v0 rfl rfl)
  have k0 := h0
  have lt0 : ∀ x ∈ p0, x.block < W.heap.size := by obtain ⟨m, hm⟩ := k0; exact DataW.trod_lt m _ _ _ hm
  have hwt : ∀ k ∈ d0.weights Try.prog 75, k ≤ reachBytes := fun k hk => by
    have h9 := List.all_eq_true.1 hsz0 k (DataW.weights_mem_each (j := 0) (t := 75) (d := d0) (by rw [Try.params25]; rfl) rfl k hk)
    simpa using h9
  obtain ⟨z0, hz0, hl0, hC0, hll, hks⟩ := (by obtain ⟨m, hm⟩ := k0; exact Sto.actsArg (x := (d0, p0)) (by simpa [Value.cells] using hm) hwt : ∃ zs, zs.length = len0 ∧ len0 ≤ cap0 ∧ Go.Proofs.YtmfkgbncnaingaaW.PrintWords.Kd.C QStore.k83 W a0 len0 zs ∧ zs.length ≤ 1000000000000000 ∧ ∀ m ∈ zs, m.f2.size ≤ 140737488351232)
  subst hz0
  clear hA0 hval0 hsz0
  refine (Sto.log_walk a0 cap0 z0 W hC0 hl0 hll hks).mono fun e W' ⟨he, bel⟩ => ?_
  subst he
  exact ⟨_, rfl, _, _, _, [], _, [], hW', trodAll_mk1 (shut_bool Try.underlying4 _), (trodAll_cons_mk (Below.trod laidOut (by kernel_rfl) (of_decide_eq_true (by kernel_rfl)) k0 bel lt0) trodAll_mk0), rfl, bel.frame _, fun h => by cases h⟩
set_option maxHeartbeats 40000000 in
theorem joined : joinedFacts Try.checked.prog 25 Try.f25 Rows.topLogAnySpec Rows.topLogAnyRow = true := by
  simp only [joinedFacts, Bool.and_eq_true]
  repeat' apply And.intro
  all_goals (as_aux_lemma => kernel_rfl)
theorem over : Rows.topLogAnyRow.holds Try.pinned (OpenSpec.ofChange Rows.topLogAnySpec) :=
  OpenClaim.holds_of_wide 25 Try.f25 rfl rfl rfl rfl rfl rfl rfl ⟨rfl, rfl, rfl, rfl, rfl⟩ rfl rfl rfl rfl rfl (by kernel_rfl) Try.func25 joined
    (of_decide_eq_true (by kernel_rfl)) (by unfold Func.isWrapper; first | (rw [if_pos (by decide +kernel)]; kernel_rfl) | (rw [if_neg (by decide +kernel)]; exact ⟨rfl, rfl⟩))
    (fun os started H enc _ => lifted os started H enc)
theorem proved : Rows.TopLogAnySaid := over
#print axioms proved
end Go.Proofs.Ytmfkgbncnaingaa.topLogAny
namespace Go.Proofs.Ytmfkgbncnaingaa
/-- The row, under a short name, for the claim. -/
theorem topLogAny_holds : Rows.TopLogAnySaid := topLogAny.proved
end Go.Proofs.Ytmfkgbncnaingaa
