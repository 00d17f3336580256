/-
  No cell of these rows narrows 'for every input' (looked for: loops, veiled, ifaces, maps, wideKeys, modest, calm, conditions, laid).
  DERIVED. THE GIVEN ROWS OF THIS SEAT. 9 by the template 'for every input the law returns true; each argument reads behind the call as it read before'; 0 by the template 'total and deterministic' (their statements: YtolnkahidgobhaaTotals.lean).
  GIVEN WITH THE SEED: the statements are not yours to turn. If you find one false, say at which input.
  Laid BY PROGRAM, IN A SANDBOX (cutbox-rows.mjs): the forced cells as the released guide's own fill.sh prints them over the translation 192b1360badbf13a… (all of the seat's roots in one cut). By AI agents, Wed Nov 11 2026. No macro, syntax, notation, axiom, sorry.
-/
import Derived.Test.YtolnkahidgobhaaChecked
import GoSem.Claim
import GoSem.ClaimJoined
import GoSem.ClaimMapViews
import Derived.JoinedTies
import Derived.KernelRfl
namespace Go.Proofs.Ytolnkahidgobhaa
/- THE CELL 'sum', in the pinned program and in every row, IS THE sha256 OF THE DUMP (.gsa) THAT YtolnkahidgobhaaProg.lean LOADS. Nothing in Lean hashes anything: it is a label: what it is worth is what the hold of that sum in a sandbox is worth. -/
noncomputable def Try.pinned : Pinned := { name := "ytolnkahidgobhaa", sum := "192b1360badbf13a527ffce2e9d0516e35e19a095828b3e04b56ac437666e63d", checked := Try.checked }
namespace Rows
def none {H : Type} : Left H := { results := [], args := [] }

/-- 'bagnallkeep.WaitGrows': WHATEVER THE INPUT: true; the input reads as it did. -/
def waitGrowsSpec : ChangeSpec := { name := "waitGrows", fn := fun _ => fun
  | [d] => { results := [.lit (.bool true)], args := [d] }
  | _ => none }
def waitGrowsRow : OpenClaim := { program := "ytolnkahidgobhaa", sum := "192b1360badbf13a527ffce2e9d0516e35e19a095828b3e04b56ac437666e63d", func := "bagnall/bagnallkeep.WaitGrows", spec := "waitGrows", apart := false }
def WaitGrowsSaid : Prop := waitGrowsRow.holds Try.pinned (OpenSpec.ofChange waitGrowsSpec)

/-- ITS FALSE NEIGHBOUR: 'it returns false'. Refute it at one input. -/
def waitGrowsWrong : ChangeSpec := { name := "waitGrows", fn := fun _ => fun
  | [d] => { results := [.lit (.bool false)], args := [d] }
  | _ => none }
def WaitGrowsWrongFalsely : Prop := waitGrowsRow.holds Try.pinned (OpenSpec.ofChange waitGrowsWrong)

/-- 'bagnallkeep.BaseParts': WHATEVER THE INPUT: true; the input reads as it did. -/
def basePartsSpec : ChangeSpec := { name := "baseParts", fn := fun _ => fun
  | [d1, d2] => { results := [.lit (.bool true)], args := [d1, d2] }
  | _ => none }
def basePartsRow : OpenClaim := { program := "ytolnkahidgobhaa", sum := "192b1360badbf13a527ffce2e9d0516e35e19a095828b3e04b56ac437666e63d", func := "bagnall/bagnallkeep.BaseParts", spec := "baseParts", inPlace := ["internal/abi.NoEscape"], apart := false }
def BasePartsSaid : Prop := basePartsRow.holds Try.pinned (OpenSpec.ofChange basePartsSpec)

/-- ITS FALSE NEIGHBOUR: 'it returns false'. Refute it at one input. -/
def basePartsWrong : ChangeSpec := { name := "baseParts", fn := fun _ => fun
  | [d1, d2] => { results := [.lit (.bool false)], args := [d1, d2] }
  | _ => none }
def BasePartsWrongFalsely : Prop := basePartsRow.holds Try.pinned (OpenSpec.ofChange basePartsWrong)

/-- 'bagnallkeep.BaseSigns': WHATEVER THE INPUT: true; the input reads as it did. -/
def baseSignsSpec : ChangeSpec := { name := "baseSigns", fn := fun _ => fun
  | [d1, d2] => { results := [.lit (.bool true)], args := [d1, d2] }
  | _ => none }
def baseSignsRow : OpenClaim := { program := "ytolnkahidgobhaa", sum := "192b1360badbf13a527ffce2e9d0516e35e19a095828b3e04b56ac437666e63d", func := "bagnall/bagnallkeep.BaseSigns", spec := "baseSigns", inPlace := ["internal/abi.NoEscape"], apart := false }
def BaseSignsSaid : Prop := baseSignsRow.holds Try.pinned (OpenSpec.ofChange baseSignsSpec)

/-- ITS FALSE NEIGHBOUR: 'it returns false'. Refute it at one input. -/
def baseSignsWrong : ChangeSpec := { name := "baseSigns", fn := fun _ => fun
  | [d1, d2] => { results := [.lit (.bool false)], args := [d1, d2] }
  | _ => none }
def BaseSignsWrongFalsely : Prop := baseSignsRow.holds Try.pinned (OpenSpec.ofChange baseSignsWrong)

/-- 'bagnallkeep.BaseBack': WHATEVER THE INPUT: true; the input reads as it did. -/
def baseBackSpec : ChangeSpec := { name := "baseBack", fn := fun _ => fun
  | [d1, d2] => { results := [.lit (.bool true)], args := [d1, d2] }
  | _ => none }
def baseBackRow : OpenClaim := { program := "ytolnkahidgobhaa", sum := "192b1360badbf13a527ffce2e9d0516e35e19a095828b3e04b56ac437666e63d", func := "bagnall/bagnallkeep.BaseBack", spec := "baseBack", inPlace := ["internal/abi.NoEscape", "internal/bytealg.IndexByteString"], apart := false }
def BaseBackSaid : Prop := baseBackRow.holds Try.pinned (OpenSpec.ofChange baseBackSpec)

/-- ITS FALSE NEIGHBOUR: 'it returns false'. Refute it at one input. -/
def baseBackWrong : ChangeSpec := { name := "baseBack", fn := fun _ => fun
  | [d1, d2] => { results := [.lit (.bool false)], args := [d1, d2] }
  | _ => none }
def BaseBackWrongFalsely : Prop := baseBackRow.holds Try.pinned (OpenSpec.ofChange baseBackWrong)

/-- 'bagnallkeep.BaseFixed': WHATEVER THE INPUT: true; the input reads as it did. -/
def baseFixedSpec : ChangeSpec := { name := "baseFixed", fn := fun _ => fun
  | [d] => { results := [.lit (.bool true)], args := [d] }
  | _ => none }
def baseFixedRow : OpenClaim := { program := "ytolnkahidgobhaa", sum := "192b1360badbf13a527ffce2e9d0516e35e19a095828b3e04b56ac437666e63d", func := "bagnall/bagnallkeep.BaseFixed", spec := "baseFixed", inPlace := ["internal/bytealg.IndexByteString", "internal/abi.NoEscape"], apart := false }
def BaseFixedSaid : Prop := baseFixedRow.holds Try.pinned (OpenSpec.ofChange baseFixedSpec)

/-- ITS FALSE NEIGHBOUR: 'it returns false'. Refute it at one input. -/
def baseFixedWrong : ChangeSpec := { name := "baseFixed", fn := fun _ => fun
  | [d] => { results := [.lit (.bool false)], args := [d] }
  | _ => none }
def BaseFixedWrongFalsely : Prop := baseFixedRow.holds Try.pinned (OpenSpec.ofChange baseFixedWrong)

/-- 'bagnallkeep.OutOnce': WHATEVER THE INPUT: true; the input reads as it did. -/
def outOnceSpec : ChangeSpec := { name := "outOnce", fn := fun _ => fun
  | [d] => { results := [.lit (.bool true)], args := [d] }
  | _ => none }
def outOnceRow : OpenClaim := { program := "ytolnkahidgobhaa", sum := "192b1360badbf13a527ffce2e9d0516e35e19a095828b3e04b56ac437666e63d", func := "bagnall/bagnallkeep.OutOnce", spec := "outOnce", apart := false }
def OutOnceSaid : Prop := outOnceRow.holds Try.pinned (OpenSpec.ofChange outOnceSpec)

/-- ITS FALSE NEIGHBOUR: 'it returns false'. Refute it at one input. -/
def outOnceWrong : ChangeSpec := { name := "outOnce", fn := fun _ => fun
  | [d] => { results := [.lit (.bool false)], args := [d] }
  | _ => none }
def OutOnceWrongFalsely : Prop := outOnceRow.holds Try.pinned (OpenSpec.ofChange outOnceWrong)

/-- 'bagnallkeep.OutThere': WHATEVER THE INPUT: true; the input reads as it did. -/
def outThereSpec : ChangeSpec := { name := "outThere", fn := fun _ => fun
  | [d1, d2] => { results := [.lit (.bool true)], args := [d1, d2] }
  | _ => none }
def outThereRow : OpenClaim := { program := "ytolnkahidgobhaa", sum := "192b1360badbf13a527ffce2e9d0516e35e19a095828b3e04b56ac437666e63d", func := "bagnall/bagnallkeep.OutThere", spec := "outThere", apart := false }
def OutThereSaid : Prop := outThereRow.holds Try.pinned (OpenSpec.ofChange outThereSpec)

/-- ITS FALSE NEIGHBOUR: 'it returns false'. Refute it at one input. -/
def outThereWrong : ChangeSpec := { name := "outThere", fn := fun _ => fun
  | [d1, d2] => { results := [.lit (.bool false)], args := [d1, d2] }
  | _ => none }
def OutThereWrongFalsely : Prop := outThereRow.holds Try.pinned (OpenSpec.ofChange outThereWrong)

/-- 'bagnallkeep.OutQuiet': WHATEVER THE INPUT: true; the input reads as it did. -/
def outQuietSpec : ChangeSpec := { name := "outQuiet", fn := fun _ => fun
  | [d] => { results := [.lit (.bool true)], args := [d] }
  | _ => none }
def outQuietRow : OpenClaim := { program := "ytolnkahidgobhaa", sum := "192b1360badbf13a527ffce2e9d0516e35e19a095828b3e04b56ac437666e63d", func := "bagnall/bagnallkeep.OutQuiet", spec := "outQuiet", apart := false }
def OutQuietSaid : Prop := outQuietRow.holds Try.pinned (OpenSpec.ofChange outQuietSpec)

/-- ITS FALSE NEIGHBOUR: 'it returns false'. Refute it at one input. -/
def outQuietWrong : ChangeSpec := { name := "outQuiet", fn := fun _ => fun
  | [d] => { results := [.lit (.bool false)], args := [d] }
  | _ => none }
def OutQuietWrongFalsely : Prop := outQuietRow.holds Try.pinned (OpenSpec.ofChange outQuietWrong)

/-- 'bagnallkeep.OutFull': WHATEVER THE INPUT: true; the input reads as it did. -/
def outFullSpec : ChangeSpec := { name := "outFull", fn := fun _ => fun
  | [d] => { results := [.lit (.bool true)], args := [d] }
  | _ => none }
def outFullRow : OpenClaim := { program := "ytolnkahidgobhaa", sum := "192b1360badbf13a527ffce2e9d0516e35e19a095828b3e04b56ac437666e63d", func := "bagnall/bagnallkeep.OutFull", spec := "outFull", apart := false }
def OutFullSaid : Prop := outFullRow.holds Try.pinned (OpenSpec.ofChange outFullSpec)

/-- ITS FALSE NEIGHBOUR: 'it returns false'. Refute it at one input. -/
def outFullWrong : ChangeSpec := { name := "outFull", fn := fun _ => fun
  | [d] => { results := [.lit (.bool false)], args := [d] }
  | _ => none }
def OutFullWrongFalsely : Prop := outFullRow.holds Try.pinned (OpenSpec.ofChange outFullWrong)

/- THE SECOND FORM. 'bulk': how many values and letters a reading holds, each counted each time it is reached (what is shared counts as often as it is met; a slice's spare places count too). A statement '..UptoSaid' is the law's where the arguments, and the package variables that the reading takes, are together of bulk at most 1048576: NARROWER than '..Said'. Prove '..Said' where nothing that the law and all that it calls make is longer than what came in: it says more and counts as full. Else prove '..UptoSaid'. A law counts once. -/
mutual
def uptoBulk {H : Type} : DataW H → Nat
  | .lit (.string bytes) => bytes.length + 1
  | .lit _ => 1
  | .nil => 1
  | .ptr d => uptoBulk d + 1
  | .slice elems spare => uptoBulkAll elems + uptoBulkAll spare + 1
  | .agg parts => uptoBulkAll parts + 1
  | .iface _ d => uptoBulk d + 1
  | .map entries => uptoBulkEntries entries + 1
  | .held _ => 1
def uptoBulkAll {H : Type} : List (DataW H) → Nat
  | [] => 0
  | d :: r => uptoBulk d + uptoBulkAll r
def uptoBulkEntries {H : Type} : List (Lit × DataW H) → Nat
  | [] => 0
  | x :: r => uptoBulkEntry x + uptoBulkEntries r
def uptoBulkEntry {H : Type} : Lit × DataW H → Nat
  | (.string bytes, d) => bytes.length + uptoBulk d + 1
  | (_, d) => uptoBulk d + 1
 end
def uptoSmall : (H : Type) → List (DataW H) → Bool := fun _ ds => decide (uptoBulkAll ds ≤ 1048576)
def OpenSpec.upto (s : _root_.Go.ChangeSpec) : _root_.Go.OpenSpec := { _root_.Go.OpenSpec.ofChange s with cond := some uptoSmall }

/-- 'bagnallkeep.WaitGrows', WHERE WHAT IT READS IS OF BULK AT MOST 1048576: true; the input reads as it did. -/
def waitGrowsUptoRow : OpenClaim := { program := "ytolnkahidgobhaa", sum := "192b1360badbf13a527ffce2e9d0516e35e19a095828b3e04b56ac437666e63d", func := "bagnall/bagnallkeep.WaitGrows", spec := "waitGrows", apart := false, narrowed := true }
def WaitGrowsUptoSaid : Prop := waitGrowsUptoRow.holds Try.pinned (OpenSpec.upto waitGrowsSpec)

/-- 'bagnallkeep.BaseParts', WHERE WHAT IT READS IS OF BULK AT MOST 1048576: true; the input reads as it did. -/
def basePartsUptoRow : OpenClaim := { program := "ytolnkahidgobhaa", sum := "192b1360badbf13a527ffce2e9d0516e35e19a095828b3e04b56ac437666e63d", func := "bagnall/bagnallkeep.BaseParts", spec := "baseParts", inPlace := ["internal/abi.NoEscape"], apart := false, narrowed := true }
def BasePartsUptoSaid : Prop := basePartsUptoRow.holds Try.pinned (OpenSpec.upto basePartsSpec)

/-- 'bagnallkeep.BaseSigns', WHERE WHAT IT READS IS OF BULK AT MOST 1048576: true; the input reads as it did. -/
def baseSignsUptoRow : OpenClaim := { program := "ytolnkahidgobhaa", sum := "192b1360badbf13a527ffce2e9d0516e35e19a095828b3e04b56ac437666e63d", func := "bagnall/bagnallkeep.BaseSigns", spec := "baseSigns", inPlace := ["internal/abi.NoEscape"], apart := false, narrowed := true }
def BaseSignsUptoSaid : Prop := baseSignsUptoRow.holds Try.pinned (OpenSpec.upto baseSignsSpec)

/-- 'bagnallkeep.BaseBack', WHERE WHAT IT READS IS OF BULK AT MOST 1048576: true; the input reads as it did. -/
def baseBackUptoRow : OpenClaim := { program := "ytolnkahidgobhaa", sum := "192b1360badbf13a527ffce2e9d0516e35e19a095828b3e04b56ac437666e63d", func := "bagnall/bagnallkeep.BaseBack", spec := "baseBack", inPlace := ["internal/abi.NoEscape", "internal/bytealg.IndexByteString"], apart := false, narrowed := true }
def BaseBackUptoSaid : Prop := baseBackUptoRow.holds Try.pinned (OpenSpec.upto baseBackSpec)

/-- 'bagnallkeep.BaseFixed', WHERE WHAT IT READS IS OF BULK AT MOST 1048576: true; the input reads as it did. -/
def baseFixedUptoRow : OpenClaim := { program := "ytolnkahidgobhaa", sum := "192b1360badbf13a527ffce2e9d0516e35e19a095828b3e04b56ac437666e63d", func := "bagnall/bagnallkeep.BaseFixed", spec := "baseFixed", inPlace := ["internal/bytealg.IndexByteString", "internal/abi.NoEscape"], apart := false, narrowed := true }
def BaseFixedUptoSaid : Prop := baseFixedUptoRow.holds Try.pinned (OpenSpec.upto baseFixedSpec)

/-- 'bagnallkeep.OutOnce', WHERE WHAT IT READS IS OF BULK AT MOST 1048576: true; the input reads as it did. -/
def outOnceUptoRow : OpenClaim := { program := "ytolnkahidgobhaa", sum := "192b1360badbf13a527ffce2e9d0516e35e19a095828b3e04b56ac437666e63d", func := "bagnall/bagnallkeep.OutOnce", spec := "outOnce", apart := false, narrowed := true }
def OutOnceUptoSaid : Prop := outOnceUptoRow.holds Try.pinned (OpenSpec.upto outOnceSpec)

/-- 'bagnallkeep.OutThere', WHERE WHAT IT READS IS OF BULK AT MOST 1048576: true; the input reads as it did. -/
def outThereUptoRow : OpenClaim := { program := "ytolnkahidgobhaa", sum := "192b1360badbf13a527ffce2e9d0516e35e19a095828b3e04b56ac437666e63d", func := "bagnall/bagnallkeep.OutThere", spec := "outThere", apart := false, narrowed := true }
def OutThereUptoSaid : Prop := outThereUptoRow.holds Try.pinned (OpenSpec.upto outThereSpec)

/-- 'bagnallkeep.OutQuiet', WHERE WHAT IT READS IS OF BULK AT MOST 1048576: true; the input reads as it did. -/
def outQuietUptoRow : OpenClaim := { program := "ytolnkahidgobhaa", sum := "192b1360badbf13a527ffce2e9d0516e35e19a095828b3e04b56ac437666e63d", func := "bagnall/bagnallkeep.OutQuiet", spec := "outQuiet", apart := false, narrowed := true }
def OutQuietUptoSaid : Prop := outQuietUptoRow.holds Try.pinned (OpenSpec.upto outQuietSpec)

/-- 'bagnallkeep.OutFull', WHERE WHAT IT READS IS OF BULK AT MOST 1048576: true; the input reads as it did. -/
def outFullUptoRow : OpenClaim := { program := "ytolnkahidgobhaa", sum := "192b1360badbf13a527ffce2e9d0516e35e19a095828b3e04b56ac437666e63d", func := "bagnall/bagnallkeep.OutFull", spec := "outFull", apart := false, narrowed := true }
def OutFullUptoSaid : Prop := outFullUptoRow.holds Try.pinned (OpenSpec.upto outFullSpec)

end Rows
end Go.Proofs.Ytolnkahidgobhaa
