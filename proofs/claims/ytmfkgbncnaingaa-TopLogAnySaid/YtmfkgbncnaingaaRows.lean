/-
  No cell of these rows narrows 'for every input' (looked for: loops, veiled, ifaces, maps, wideKeys, modest, calm, conditions, laid).
  DERIVED. THE GIVEN ROWS OF THIS SEAT. 23 by the template 'for every input the law returns true; each argument reads behind the call as it read before'; 0 by the template 'total and deterministic' (their statements: YtmfkgbncnaingaaTotals.lean).
  GIVEN WITH THE SEED: the statements are not yours to turn. If you find one false, say at which input.
  Laid BY PROGRAM, IN A SANDBOX (cutbox-rows.mjs): the forced cells as the released guide's own fill.sh prints them over the translation 443a34c609ef2b94… (all of the seat's roots in one cut). By AI agents, Wed Nov 11 2026. No macro, syntax, notation, axiom, sorry.
-/
import Derived.Test.YtmfkgbncnaingaaChecked
import GoSem.Claim
import GoSem.ClaimJoined
import GoSem.ClaimMapViews
import Derived.JoinedTies
import Derived.KernelRfl
namespace Go.Proofs.Ytmfkgbncnaingaa
/- THE CELL 'sum', in the pinned program and in every row, IS THE sha256 OF THE DUMP (.gsa) THAT YtmfkgbncnaingaaProg.lean LOADS. Nothing in Lean hashes anything: it is a label: what it is worth is what the hold of that sum in a sandbox is worth. -/
noncomputable def Try.pinned : Pinned := { name := "ytmfkgbncnaingaa", sum := "443a34c609ef2b94d3b3478c251a2e228337e67842f9c9df306944c26825d4b6", checked := Try.checked }
namespace Rows
def none {H : Type} : Left H := { results := [], args := [] }

/-- 'bagnallkeep.NextBehind': WHATEVER THE INPUT: true; the input reads as it did. -/
def nextBehindSpec : ChangeSpec := { name := "nextBehind", fn := fun _ => fun
  | [d1, d2, d3] => { results := [.lit (.bool true)], args := [d1, d2, d3] }
  | _ => none }
def nextBehindRow : OpenClaim := { program := "ytmfkgbncnaingaa", sum := "443a34c609ef2b94d3b3478c251a2e228337e67842f9c9df306944c26825d4b6", func := "bagnall/bagnallkeep.NextBehind", spec := "nextBehind", apart := false }
def NextBehindSaid : Prop := nextBehindRow.holds Try.pinned (OpenSpec.ofChange nextBehindSpec)

/-- ITS FALSE NEIGHBOUR: 'it returns false'. Refute it at one input. -/
def nextBehindWrong : ChangeSpec := { name := "nextBehind", fn := fun _ => fun
  | [d1, d2, d3] => { results := [.lit (.bool false)], args := [d1, d2, d3] }
  | _ => none }
def NextBehindWrongFalsely : Prop := nextBehindRow.holds Try.pinned (OpenSpec.ofChange nextBehindWrong)

/-- 'bagnallkeep.DiskBehind': WHATEVER THE INPUT: true; the input reads as it did. -/
def diskBehindSpec : ChangeSpec := { name := "diskBehind", fn := fun _ => fun
  | [d1, d2] => { results := [.lit (.bool true)], args := [d1, d2] }
  | _ => none }
def diskBehindRow : OpenClaim := { program := "ytmfkgbncnaingaa", sum := "443a34c609ef2b94d3b3478c251a2e228337e67842f9c9df306944c26825d4b6", func := "bagnall/bagnallkeep.DiskBehind", spec := "diskBehind", apart := false }
def DiskBehindSaid : Prop := diskBehindRow.holds Try.pinned (OpenSpec.ofChange diskBehindSpec)

/-- ITS FALSE NEIGHBOUR: 'it returns false'. Refute it at one input. -/
def diskBehindWrong : ChangeSpec := { name := "diskBehind", fn := fun _ => fun
  | [d1, d2] => { results := [.lit (.bool false)], args := [d1, d2] }
  | _ => none }
def DiskBehindWrongFalsely : Prop := diskBehindRow.holds Try.pinned (OpenSpec.ofChange diskBehindWrong)

/-- 'bagnallkeep.DiskFull': WHATEVER THE INPUT: true; the input reads as it did. -/
def diskFullSpec : ChangeSpec := { name := "diskFull", fn := fun _ => fun
  | [d1, d2] => { results := [.lit (.bool true)], args := [d1, d2] }
  | _ => none }
def diskFullRow : OpenClaim := { program := "ytmfkgbncnaingaa", sum := "443a34c609ef2b94d3b3478c251a2e228337e67842f9c9df306944c26825d4b6", func := "bagnall/bagnallkeep.DiskFull", spec := "diskFull", apart := false }
def DiskFullSaid : Prop := diskFullRow.holds Try.pinned (OpenSpec.ofChange diskFullSpec)

/-- ITS FALSE NEIGHBOUR: 'it returns false'. Refute it at one input. -/
def diskFullWrong : ChangeSpec := { name := "diskFull", fn := fun _ => fun
  | [d1, d2] => { results := [.lit (.bool false)], args := [d1, d2] }
  | _ => none }
def DiskFullWrongFalsely : Prop := diskFullRow.holds Try.pinned (OpenSpec.ofChange diskFullWrong)

/-- 'bagnallkeep.DiskSafe': WHATEVER THE INPUT: true; the input reads as it did. -/
def diskSafeSpec : ChangeSpec := { name := "diskSafe", fn := fun _ => fun
  | [d1, d2] => { results := [.lit (.bool true)], args := [d1, d2] }
  | _ => none }
def diskSafeRow : OpenClaim := { program := "ytmfkgbncnaingaa", sum := "443a34c609ef2b94d3b3478c251a2e228337e67842f9c9df306944c26825d4b6", func := "bagnall/bagnallkeep.DiskSafe", spec := "diskSafe", apart := false }
def DiskSafeSaid : Prop := diskSafeRow.holds Try.pinned (OpenSpec.ofChange diskSafeSpec)

/-- ITS FALSE NEIGHBOUR: 'it returns false'. Refute it at one input. -/
def diskSafeWrong : ChangeSpec := { name := "diskSafe", fn := fun _ => fun
  | [d1, d2] => { results := [.lit (.bool false)], args := [d1, d2] }
  | _ => none }
def DiskSafeWrongFalsely : Prop := diskSafeRow.holds Try.pinned (OpenSpec.ofChange diskSafeWrong)

/-- 'bagnallkeep.DiskTwice': WHATEVER THE INPUT: true; the input reads as it did. -/
def diskTwiceSpec : ChangeSpec := { name := "diskTwice", fn := fun _ => fun
  | [d1, d2, d3] => { results := [.lit (.bool true)], args := [d1, d2, d3] }
  | _ => none }
def diskTwiceRow : OpenClaim := { program := "ytmfkgbncnaingaa", sum := "443a34c609ef2b94d3b3478c251a2e228337e67842f9c9df306944c26825d4b6", func := "bagnall/bagnallkeep.DiskTwice", spec := "diskTwice", apart := false }
def DiskTwiceSaid : Prop := diskTwiceRow.holds Try.pinned (OpenSpec.ofChange diskTwiceSpec)

/-- ITS FALSE NEIGHBOUR: 'it returns false'. Refute it at one input. -/
def diskTwiceWrong : ChangeSpec := { name := "diskTwice", fn := fun _ => fun
  | [d1, d2, d3] => { results := [.lit (.bool false)], args := [d1, d2, d3] }
  | _ => none }
def DiskTwiceWrongFalsely : Prop := diskTwiceRow.holds Try.pinned (OpenSpec.ofChange diskTwiceWrong)

/-- 'bagnallkeep.DiskTrim': WHATEVER THE INPUT: true; the input reads as it did. -/
def diskTrimSpec : ChangeSpec := { name := "diskTrim", fn := fun _ => fun
  | [d1, d2] => { results := [.lit (.bool true)], args := [d1, d2] }
  | _ => none }
def diskTrimRow : OpenClaim := { program := "ytmfkgbncnaingaa", sum := "443a34c609ef2b94d3b3478c251a2e228337e67842f9c9df306944c26825d4b6", func := "bagnall/bagnallkeep.DiskTrim", spec := "diskTrim", apart := false }
def DiskTrimSaid : Prop := diskTrimRow.holds Try.pinned (OpenSpec.ofChange diskTrimSpec)

/-- ITS FALSE NEIGHBOUR: 'it returns false'. Refute it at one input. -/
def diskTrimWrong : ChangeSpec := { name := "diskTrim", fn := fun _ => fun
  | [d1, d2] => { results := [.lit (.bool false)], args := [d1, d2] }
  | _ => none }
def DiskTrimWrongFalsely : Prop := diskTrimRow.holds Try.pinned (OpenSpec.ofChange diskTrimWrong)

/-- 'bagnallkeep.WalTorn': WHATEVER THE INPUT: true; the input reads as it did. -/
def walTornSpec : ChangeSpec := { name := "walTorn", fn := fun _ => fun
  | [d1, d2] => { results := [.lit (.bool true)], args := [d1, d2] }
  | _ => none }
def walTornRow : OpenClaim := { program := "ytmfkgbncnaingaa", sum := "443a34c609ef2b94d3b3478c251a2e228337e67842f9c9df306944c26825d4b6", func := "bagnall/bagnallkeep.WalTorn", spec := "walTorn", unfollowed := true, recurses := true, apart := false }
def WalTornSaid : Prop := walTornRow.holds Try.pinned (OpenSpec.ofChange walTornSpec)

/-- ITS FALSE NEIGHBOUR: 'it returns false'. Refute it at one input. -/
def walTornWrong : ChangeSpec := { name := "walTorn", fn := fun _ => fun
  | [d1, d2] => { results := [.lit (.bool false)], args := [d1, d2] }
  | _ => none }
def WalTornWrongFalsely : Prop := walTornRow.holds Try.pinned (OpenSpec.ofChange walTornWrong)

/-- 'bagnallkeep.WalMore': WHATEVER THE INPUT: true; the input reads as it did. -/
def walMoreSpec : ChangeSpec := { name := "walMore", fn := fun _ => fun
  | [d1, d2] => { results := [.lit (.bool true)], args := [d1, d2] }
  | _ => none }
def walMoreRow : OpenClaim := { program := "ytmfkgbncnaingaa", sum := "443a34c609ef2b94d3b3478c251a2e228337e67842f9c9df306944c26825d4b6", func := "bagnall/bagnallkeep.WalMore", spec := "walMore", unfollowed := true, recurses := true, apart := false }
def WalMoreSaid : Prop := walMoreRow.holds Try.pinned (OpenSpec.ofChange walMoreSpec)

/-- ITS FALSE NEIGHBOUR: 'it returns false'. Refute it at one input. -/
def walMoreWrong : ChangeSpec := { name := "walMore", fn := fun _ => fun
  | [d1, d2] => { results := [.lit (.bool false)], args := [d1, d2] }
  | _ => none }
def WalMoreWrongFalsely : Prop := walMoreRow.holds Try.pinned (OpenSpec.ofChange walMoreWrong)

/-- 'bagnallkeep.WalSeen': WHATEVER THE INPUT: true; the input reads as it did. -/
def walSeenSpec : ChangeSpec := { name := "walSeen", fn := fun _ => fun
  | [d1, d2, d3] => { results := [.lit (.bool true)], args := [d1, d2, d3] }
  | _ => none }
def walSeenRow : OpenClaim := { program := "ytmfkgbncnaingaa", sum := "443a34c609ef2b94d3b3478c251a2e228337e67842f9c9df306944c26825d4b6", func := "bagnall/bagnallkeep.WalSeen", spec := "walSeen", unfollowed := true, recurses := true, apart := false }
def WalSeenSaid : Prop := walSeenRow.holds Try.pinned (OpenSpec.ofChange walSeenSpec)

/-- ITS FALSE NEIGHBOUR: 'it returns false'. Refute it at one input. -/
def walSeenWrong : ChangeSpec := { name := "walSeen", fn := fun _ => fun
  | [d1, d2, d3] => { results := [.lit (.bool false)], args := [d1, d2, d3] }
  | _ => none }
def WalSeenWrongFalsely : Prop := walSeenRow.holds Try.pinned (OpenSpec.ofChange walSeenWrong)

/-- 'bagnallkeep.WalLong': WHATEVER THE INPUT: true; the input reads as it did. -/
def walLongSpec : ChangeSpec := { name := "walLong", fn := fun _ => fun
  | [d] => { results := [.lit (.bool true)], args := [d] }
  | _ => none }
def walLongRow : OpenClaim := { program := "ytmfkgbncnaingaa", sum := "443a34c609ef2b94d3b3478c251a2e228337e67842f9c9df306944c26825d4b6", func := "bagnall/bagnallkeep.WalLong", spec := "walLong", unfollowed := true, recurses := true, apart := false }
def WalLongSaid : Prop := walLongRow.holds Try.pinned (OpenSpec.ofChange walLongSpec)

/-- ITS FALSE NEIGHBOUR: 'it returns false'. Refute it at one input. -/
def walLongWrong : ChangeSpec := { name := "walLong", fn := fun _ => fun
  | [d] => { results := [.lit (.bool false)], args := [d] }
  | _ => none }
def WalLongWrongFalsely : Prop := walLongRow.holds Try.pinned (OpenSpec.ofChange walLongWrong)

/-- 'bagnallkeep.WalUsed': WHATEVER THE INPUT: true; the input reads as it did. -/
def walUsedSpec : ChangeSpec := { name := "walUsed", fn := fun _ => fun
  | [d1, d2] => { results := [.lit (.bool true)], args := [d1, d2] }
  | _ => none }
def walUsedRow : OpenClaim := { program := "ytmfkgbncnaingaa", sum := "443a34c609ef2b94d3b3478c251a2e228337e67842f9c9df306944c26825d4b6", func := "bagnall/bagnallkeep.WalUsed", spec := "walUsed", unfollowed := true, recurses := true, apart := false }
def WalUsedSaid : Prop := walUsedRow.holds Try.pinned (OpenSpec.ofChange walUsedSpec)

/-- ITS FALSE NEIGHBOUR: 'it returns false'. Refute it at one input. -/
def walUsedWrong : ChangeSpec := { name := "walUsed", fn := fun _ => fun
  | [d1, d2] => { results := [.lit (.bool false)], args := [d1, d2] }
  | _ => none }
def WalUsedWrongFalsely : Prop := walUsedRow.holds Try.pinned (OpenSpec.ofChange walUsedWrong)

/-- 'bagnallkeep.RowsParts': WHATEVER THE INPUT: true; the input reads as it did. -/
def rowsPartsSpec : ChangeSpec := { name := "rowsParts", fn := fun _ => fun
  | [d1, d2] => { results := [.lit (.bool true)], args := [d1, d2] }
  | _ => none }
def rowsPartsRow : OpenClaim := { program := "ytmfkgbncnaingaa", sum := "443a34c609ef2b94d3b3478c251a2e228337e67842f9c9df306944c26825d4b6", func := "bagnall/bagnallkeep.RowsParts", spec := "rowsParts", inPlace := ["slices.overlaps[bagnall/api.Row]"], unfollowed := true, recurses := true, apart := false }
def RowsPartsSaid : Prop := rowsPartsRow.holds Try.pinned (OpenSpec.ofChange rowsPartsSpec)

/-- ITS FALSE NEIGHBOUR: 'it returns false'. Refute it at one input. -/
def rowsPartsWrong : ChangeSpec := { name := "rowsParts", fn := fun _ => fun
  | [d1, d2] => { results := [.lit (.bool false)], args := [d1, d2] }
  | _ => none }
def RowsPartsWrongFalsely : Prop := rowsPartsRow.holds Try.pinned (OpenSpec.ofChange rowsPartsWrong)

/-- 'bagnallkeep.RowsOrder': WHATEVER THE INPUT: true; the input reads as it did. -/
def rowsOrderSpec : ChangeSpec := { name := "rowsOrder", fn := fun _ => fun
  | [d1, d2] => { results := [.lit (.bool true)], args := [d1, d2] }
  | _ => none }
def rowsOrderRow : OpenClaim := { program := "ytmfkgbncnaingaa", sum := "443a34c609ef2b94d3b3478c251a2e228337e67842f9c9df306944c26825d4b6", func := "bagnall/bagnallkeep.RowsOrder", spec := "rowsOrder", inPlace := ["slices.overlaps[bagnall/api.Row]"], unfollowed := true, recurses := true, apart := false }
def RowsOrderSaid : Prop := rowsOrderRow.holds Try.pinned (OpenSpec.ofChange rowsOrderSpec)

/-- ITS FALSE NEIGHBOUR: 'it returns false'. Refute it at one input. -/
def rowsOrderWrong : ChangeSpec := { name := "rowsOrder", fn := fun _ => fun
  | [d1, d2] => { results := [.lit (.bool false)], args := [d1, d2] }
  | _ => none }
def RowsOrderWrongFalsely : Prop := rowsOrderRow.holds Try.pinned (OpenSpec.ofChange rowsOrderWrong)

/-- 'bagnallkeep.RowsFull': WHATEVER THE INPUT: true; the input reads as it did. -/
def rowsFullSpec : ChangeSpec := { name := "rowsFull", fn := fun _ => fun
  | [d] => { results := [.lit (.bool true)], args := [d] }
  | _ => none }
def rowsFullRow : OpenClaim := { program := "ytmfkgbncnaingaa", sum := "443a34c609ef2b94d3b3478c251a2e228337e67842f9c9df306944c26825d4b6", func := "bagnall/bagnallkeep.RowsFull", spec := "rowsFull", inPlace := ["slices.overlaps[bagnall/api.Row]"], unfollowed := true, recurses := true, apart := false }
def RowsFullSaid : Prop := rowsFullRow.holds Try.pinned (OpenSpec.ofChange rowsFullSpec)

/-- ITS FALSE NEIGHBOUR: 'it returns false'. Refute it at one input. -/
def rowsFullWrong : ChangeSpec := { name := "rowsFull", fn := fun _ => fun
  | [d] => { results := [.lit (.bool false)], args := [d] }
  | _ => none }
def RowsFullWrongFalsely : Prop := rowsFullRow.holds Try.pinned (OpenSpec.ofChange rowsFullWrong)

/-- 'bagnallkeep.RowsLast': WHATEVER THE INPUT: true; the input reads as it did. -/
def rowsLastSpec : ChangeSpec := { name := "rowsLast", fn := fun _ => fun
  | [d1, d2] => { results := [.lit (.bool true)], args := [d1, d2] }
  | _ => none }
def rowsLastRow : OpenClaim := { program := "ytmfkgbncnaingaa", sum := "443a34c609ef2b94d3b3478c251a2e228337e67842f9c9df306944c26825d4b6", func := "bagnall/bagnallkeep.RowsLast", spec := "rowsLast", inPlace := ["slices.overlaps[bagnall/api.Row]"], unfollowed := true, recurses := true, apart := false }
def RowsLastSaid : Prop := rowsLastRow.holds Try.pinned (OpenSpec.ofChange rowsLastSpec)

/-- ITS FALSE NEIGHBOUR: 'it returns false'. Refute it at one input. -/
def rowsLastWrong : ChangeSpec := { name := "rowsLast", fn := fun _ => fun
  | [d1, d2] => { results := [.lit (.bool false)], args := [d1, d2] }
  | _ => none }
def RowsLastWrongFalsely : Prop := rowsLastRow.holds Try.pinned (OpenSpec.ofChange rowsLastWrong)

/-- 'bagnallkeep.RowsHeads': WHATEVER THE INPUT: true; the input reads as it did. -/
def rowsHeadsSpec : ChangeSpec := { name := "rowsHeads", fn := fun _ => fun
  | [d1, d2] => { results := [.lit (.bool true)], args := [d1, d2] }
  | _ => none }
def rowsHeadsRow : OpenClaim := { program := "ytmfkgbncnaingaa", sum := "443a34c609ef2b94d3b3478c251a2e228337e67842f9c9df306944c26825d4b6", func := "bagnall/bagnallkeep.RowsHeads", spec := "rowsHeads", inPlace := ["slices.overlaps[bagnall/api.Row]"], unfollowed := true, recurses := true, apart := false }
def RowsHeadsSaid : Prop := rowsHeadsRow.holds Try.pinned (OpenSpec.ofChange rowsHeadsSpec)

/-- ITS FALSE NEIGHBOUR: 'it returns false'. Refute it at one input. -/
def rowsHeadsWrong : ChangeSpec := { name := "rowsHeads", fn := fun _ => fun
  | [d1, d2] => { results := [.lit (.bool false)], args := [d1, d2] }
  | _ => none }
def RowsHeadsWrongFalsely : Prop := rowsHeadsRow.holds Try.pinned (OpenSpec.ofChange rowsHeadsWrong)

/-- 'bagnallkeep.StoreRefused': WHATEVER THE INPUT: true; the input reads as it did. -/
def storeRefusedSpec : ChangeSpec := { name := "storeRefused", fn := fun _ => fun
  | [d] => { results := [.lit (.bool true)], args := [d] }
  | _ => none }
def storeRefusedRow : OpenClaim := { program := "ytmfkgbncnaingaa", sum := "443a34c609ef2b94d3b3478c251a2e228337e67842f9c9df306944c26825d4b6", func := "bagnall/bagnallkeep.StoreRefused", spec := "storeRefused", inPlace := ["slices.overlaps[bagnall/api.Row]"], unfollowed := true, recurses := true, apart := false }
def StoreRefusedSaid : Prop := storeRefusedRow.holds Try.pinned (OpenSpec.ofChange storeRefusedSpec)

/-- ITS FALSE NEIGHBOUR: 'it returns false'. Refute it at one input. -/
def storeRefusedWrong : ChangeSpec := { name := "storeRefused", fn := fun _ => fun
  | [d] => { results := [.lit (.bool false)], args := [d] }
  | _ => none }
def StoreRefusedWrongFalsely : Prop := storeRefusedRow.holds Try.pinned (OpenSpec.ofChange storeRefusedWrong)

/-- 'bagnallkeep.StoreReads': WHATEVER THE INPUT: true; the input reads as it did. -/
def storeReadsSpec : ChangeSpec := { name := "storeReads", fn := fun _ => fun
  | [d1, d2] => { results := [.lit (.bool true)], args := [d1, d2] }
  | _ => none }
def storeReadsRow : OpenClaim := { program := "ytmfkgbncnaingaa", sum := "443a34c609ef2b94d3b3478c251a2e228337e67842f9c9df306944c26825d4b6", func := "bagnall/bagnallkeep.StoreReads", spec := "storeReads", inPlace := ["slices.overlaps[bagnall/api.Row]"], unfollowed := true, recurses := true, apart := false }
def StoreReadsSaid : Prop := storeReadsRow.holds Try.pinned (OpenSpec.ofChange storeReadsSpec)

/-- ITS FALSE NEIGHBOUR: 'it returns false'. Refute it at one input. -/
def storeReadsWrong : ChangeSpec := { name := "storeReads", fn := fun _ => fun
  | [d1, d2] => { results := [.lit (.bool false)], args := [d1, d2] }
  | _ => none }
def StoreReadsWrongFalsely : Prop := storeReadsRow.holds Try.pinned (OpenSpec.ofChange storeReadsWrong)

/-- 'bagnallkeep.StoreCrash': WHATEVER THE INPUT: true; the input reads as it did. -/
def storeCrashSpec : ChangeSpec := { name := "storeCrash", fn := fun _ => fun
  | [d1, d2, d3] => { results := [.lit (.bool true)], args := [d1, d2, d3] }
  | _ => none }
def storeCrashRow : OpenClaim := { program := "ytmfkgbncnaingaa", sum := "443a34c609ef2b94d3b3478c251a2e228337e67842f9c9df306944c26825d4b6", func := "bagnall/bagnallkeep.StoreCrash", spec := "storeCrash", inPlace := ["slices.overlaps[bagnall/api.Row]"], unfollowed := true, recurses := true, apart := false }
def StoreCrashSaid : Prop := storeCrashRow.holds Try.pinned (OpenSpec.ofChange storeCrashSpec)

/-- ITS FALSE NEIGHBOUR: 'it returns false'. Refute it at one input. -/
def storeCrashWrong : ChangeSpec := { name := "storeCrash", fn := fun _ => fun
  | [d1, d2, d3] => { results := [.lit (.bool false)], args := [d1, d2, d3] }
  | _ => none }
def StoreCrashWrongFalsely : Prop := storeCrashRow.holds Try.pinned (OpenSpec.ofChange storeCrashWrong)

/-- 'bagnallkeep.StorePack': WHATEVER THE INPUT: true; the input reads as it did. -/
def storePackSpec : ChangeSpec := { name := "storePack", fn := fun _ => fun
  | [d] => { results := [.lit (.bool true)], args := [d] }
  | _ => none }
def storePackRow : OpenClaim := { program := "ytmfkgbncnaingaa", sum := "443a34c609ef2b94d3b3478c251a2e228337e67842f9c9df306944c26825d4b6", func := "bagnall/bagnallkeep.StorePack", spec := "storePack", inPlace := ["slices.overlaps[bagnall/api.Row]"], unfollowed := true, recurses := true, apart := false }
def StorePackSaid : Prop := storePackRow.holds Try.pinned (OpenSpec.ofChange storePackSpec)

/-- ITS FALSE NEIGHBOUR: 'it returns false'. Refute it at one input. -/
def storePackWrong : ChangeSpec := { name := "storePack", fn := fun _ => fun
  | [d] => { results := [.lit (.bool false)], args := [d] }
  | _ => none }
def StorePackWrongFalsely : Prop := storePackRow.holds Try.pinned (OpenSpec.ofChange storePackWrong)

/-- 'bagnallkeep.StoreThere': WHATEVER THE INPUT: true; the input reads as it did. -/
def storeThereSpec : ChangeSpec := { name := "storeThere", fn := fun _ => fun
  | [d] => { results := [.lit (.bool true)], args := [d] }
  | _ => none }
def storeThereRow : OpenClaim := { program := "ytmfkgbncnaingaa", sum := "443a34c609ef2b94d3b3478c251a2e228337e67842f9c9df306944c26825d4b6", func := "bagnall/bagnallkeep.StoreThere", spec := "storeThere", inPlace := ["slices.overlaps[bagnall/api.Row]"], unfollowed := true, recurses := true, apart := false }
def StoreThereSaid : Prop := storeThereRow.holds Try.pinned (OpenSpec.ofChange storeThereSpec)

/-- ITS FALSE NEIGHBOUR: 'it returns false'. Refute it at one input. -/
def storeThereWrong : ChangeSpec := { name := "storeThere", fn := fun _ => fun
  | [d] => { results := [.lit (.bool false)], args := [d] }
  | _ => none }
def StoreThereWrongFalsely : Prop := storeThereRow.holds Try.pinned (OpenSpec.ofChange storeThereWrong)

/-- 'bagnallkeep.StoreTorn': WHATEVER THE INPUT: true; the input reads as it did. -/
def storeTornSpec : ChangeSpec := { name := "storeTorn", fn := fun _ => fun
  | [d1, d2, d3] => { results := [.lit (.bool true)], args := [d1, d2, d3] }
  | _ => none }
def storeTornRow : OpenClaim := { program := "ytmfkgbncnaingaa", sum := "443a34c609ef2b94d3b3478c251a2e228337e67842f9c9df306944c26825d4b6", func := "bagnall/bagnallkeep.StoreTorn", spec := "storeTorn", inPlace := ["slices.overlaps[bagnall/api.Row]"], unfollowed := true, recurses := true, apart := false }
def StoreTornSaid : Prop := storeTornRow.holds Try.pinned (OpenSpec.ofChange storeTornSpec)

/-- ITS FALSE NEIGHBOUR: 'it returns false'. Refute it at one input. -/
def storeTornWrong : ChangeSpec := { name := "storeTorn", fn := fun _ => fun
  | [d1, d2, d3] => { results := [.lit (.bool false)], args := [d1, d2, d3] }
  | _ => none }
def StoreTornWrongFalsely : Prop := storeTornRow.holds Try.pinned (OpenSpec.ofChange storeTornWrong)

/-- 'bagnalltop.TopLogAny': WHATEVER THE INPUT: true; the input reads as it did. -/
def topLogAnySpec : ChangeSpec := { name := "topLogAny", fn := fun _ => fun
  | [d] => { results := [.lit (.bool true)], args := [d] }
  | _ => none }
def topLogAnyRow : OpenClaim := { program := "ytmfkgbncnaingaa", sum := "443a34c609ef2b94d3b3478c251a2e228337e67842f9c9df306944c26825d4b6", func := "bagnall/bagnalltop.TopLogAny", spec := "topLogAny", inPlace := ["slices.overlaps[bagnall/api.Row]"], unfollowed := true, recurses := true, apart := false }
def TopLogAnySaid : Prop := topLogAnyRow.holds Try.pinned (OpenSpec.ofChange topLogAnySpec)

/-- ITS FALSE NEIGHBOUR: 'it returns false'. Refute it at one input. -/
def topLogAnyWrong : ChangeSpec := { name := "topLogAny", fn := fun _ => fun
  | [d] => { results := [.lit (.bool false)], args := [d] }
  | _ => none }
def TopLogAnyWrongFalsely : Prop := topLogAnyRow.holds Try.pinned (OpenSpec.ofChange topLogAnyWrong)

/- THE SECOND FORM. 'bulk': how many values and letters a reading holds, each counted each time it is reached (what is shared counts as often as it is met; a slice's spare places count too). A statement '..UptoSaid' is the law's where the arguments, and the package variables that the reading takes, are together of bulk at most 1048576: NARROWER than '..Said'. Prove '..Said' where nothing that the law and all that it calls make is longer than what came in: it says more and counts as full. Else prove '..UptoSaid'. A law counts once. -/
mutual
def uptoBulk {H : Type} : DataW H → Nat
  | .lit (.string bytes) => bytes.length + 1
  | .lit _ => 1
  | .nil => 1
  | .ptr d => uptoBulk d + 1
  | .slice elems spare => uptoBulkAll elems + uptoBulkAll spare + 1
  | .agg parts => uptoBulkAll parts + 1
  | .iface _ d => uptoBulk d + 1
  | .map entries => uptoBulkEntries entries + 1
  | .held _ => 1
def uptoBulkAll {H : Type} : List (DataW H) → Nat
  | [] => 0
  | d :: r => uptoBulk d + uptoBulkAll r
def uptoBulkEntries {H : Type} : List (Lit × DataW H) → Nat
  | [] => 0
  | x :: r => uptoBulkEntry x + uptoBulkEntries r
def uptoBulkEntry {H : Type} : Lit × DataW H → Nat
  | (.string bytes, d) => bytes.length + uptoBulk d + 1
  | (_, d) => uptoBulk d + 1
 end
def uptoSmall : (H : Type) → List (DataW H) → Bool := fun _ ds => decide (uptoBulkAll ds ≤ 1048576)
def OpenSpec.upto (s : _root_.Go.ChangeSpec) : _root_.Go.OpenSpec := { _root_.Go.OpenSpec.ofChange s with cond := some uptoSmall }

/-- 'bagnallkeep.NextBehind', WHERE WHAT IT READS IS OF BULK AT MOST 1048576: true; the input reads as it did. -/
def nextBehindUptoRow : OpenClaim := { program := "ytmfkgbncnaingaa", sum := "443a34c609ef2b94d3b3478c251a2e228337e67842f9c9df306944c26825d4b6", func := "bagnall/bagnallkeep.NextBehind", spec := "nextBehind", apart := false, narrowed := true }
def NextBehindUptoSaid : Prop := nextBehindUptoRow.holds Try.pinned (OpenSpec.upto nextBehindSpec)

/-- 'bagnallkeep.DiskBehind', WHERE WHAT IT READS IS OF BULK AT MOST 1048576: true; the input reads as it did. -/
def diskBehindUptoRow : OpenClaim := { program := "ytmfkgbncnaingaa", sum := "443a34c609ef2b94d3b3478c251a2e228337e67842f9c9df306944c26825d4b6", func := "bagnall/bagnallkeep.DiskBehind", spec := "diskBehind", apart := false, narrowed := true }
def DiskBehindUptoSaid : Prop := diskBehindUptoRow.holds Try.pinned (OpenSpec.upto diskBehindSpec)

/-- 'bagnallkeep.DiskFull', WHERE WHAT IT READS IS OF BULK AT MOST 1048576: true; the input reads as it did. -/
def diskFullUptoRow : OpenClaim := { program := "ytmfkgbncnaingaa", sum := "443a34c609ef2b94d3b3478c251a2e228337e67842f9c9df306944c26825d4b6", func := "bagnall/bagnallkeep.DiskFull", spec := "diskFull", apart := false, narrowed := true }
def DiskFullUptoSaid : Prop := diskFullUptoRow.holds Try.pinned (OpenSpec.upto diskFullSpec)

/-- 'bagnallkeep.DiskSafe', WHERE WHAT IT READS IS OF BULK AT MOST 1048576: true; the input reads as it did. -/
def diskSafeUptoRow : OpenClaim := { program := "ytmfkgbncnaingaa", sum := "443a34c609ef2b94d3b3478c251a2e228337e67842f9c9df306944c26825d4b6", func := "bagnall/bagnallkeep.DiskSafe", spec := "diskSafe", apart := false, narrowed := true }
def DiskSafeUptoSaid : Prop := diskSafeUptoRow.holds Try.pinned (OpenSpec.upto diskSafeSpec)

/-- 'bagnallkeep.DiskTwice', WHERE WHAT IT READS IS OF BULK AT MOST 1048576: true; the input reads as it did. -/
def diskTwiceUptoRow : OpenClaim := { program := "ytmfkgbncnaingaa", sum := "443a34c609ef2b94d3b3478c251a2e228337e67842f9c9df306944c26825d4b6", func := "bagnall/bagnallkeep.DiskTwice", spec := "diskTwice", apart := false, narrowed := true }
def DiskTwiceUptoSaid : Prop := diskTwiceUptoRow.holds Try.pinned (OpenSpec.upto diskTwiceSpec)

/-- 'bagnallkeep.DiskTrim', WHERE WHAT IT READS IS OF BULK AT MOST 1048576: true; the input reads as it did. -/
def diskTrimUptoRow : OpenClaim := { program := "ytmfkgbncnaingaa", sum := "443a34c609ef2b94d3b3478c251a2e228337e67842f9c9df306944c26825d4b6", func := "bagnall/bagnallkeep.DiskTrim", spec := "diskTrim", apart := false, narrowed := true }
def DiskTrimUptoSaid : Prop := diskTrimUptoRow.holds Try.pinned (OpenSpec.upto diskTrimSpec)

/-- 'bagnallkeep.WalTorn', WHERE WHAT IT READS IS OF BULK AT MOST 1048576: true; the input reads as it did. -/
def walTornUptoRow : OpenClaim := { program := "ytmfkgbncnaingaa", sum := "443a34c609ef2b94d3b3478c251a2e228337e67842f9c9df306944c26825d4b6", func := "bagnall/bagnallkeep.WalTorn", spec := "walTorn", unfollowed := true, recurses := true, apart := false, narrowed := true }
def WalTornUptoSaid : Prop := walTornUptoRow.holds Try.pinned (OpenSpec.upto walTornSpec)

/-- 'bagnallkeep.WalMore', WHERE WHAT IT READS IS OF BULK AT MOST 1048576: true; the input reads as it did. -/
def walMoreUptoRow : OpenClaim := { program := "ytmfkgbncnaingaa", sum := "443a34c609ef2b94d3b3478c251a2e228337e67842f9c9df306944c26825d4b6", func := "bagnall/bagnallkeep.WalMore", spec := "walMore", unfollowed := true, recurses := true, apart := false, narrowed := true }
def WalMoreUptoSaid : Prop := walMoreUptoRow.holds Try.pinned (OpenSpec.upto walMoreSpec)

/-- 'bagnallkeep.WalSeen', WHERE WHAT IT READS IS OF BULK AT MOST 1048576: true; the input reads as it did. -/
def walSeenUptoRow : OpenClaim := { program := "ytmfkgbncnaingaa", sum := "443a34c609ef2b94d3b3478c251a2e228337e67842f9c9df306944c26825d4b6", func := "bagnall/bagnallkeep.WalSeen", spec := "walSeen", unfollowed := true, recurses := true, apart := false, narrowed := true }
def WalSeenUptoSaid : Prop := walSeenUptoRow.holds Try.pinned (OpenSpec.upto walSeenSpec)

/-- 'bagnallkeep.WalLong', WHERE WHAT IT READS IS OF BULK AT MOST 1048576: true; the input reads as it did. -/
def walLongUptoRow : OpenClaim := { program := "ytmfkgbncnaingaa", sum := "443a34c609ef2b94d3b3478c251a2e228337e67842f9c9df306944c26825d4b6", func := "bagnall/bagnallkeep.WalLong", spec := "walLong", unfollowed := true, recurses := true, apart := false, narrowed := true }
def WalLongUptoSaid : Prop := walLongUptoRow.holds Try.pinned (OpenSpec.upto walLongSpec)

/-- 'bagnallkeep.WalUsed', WHERE WHAT IT READS IS OF BULK AT MOST 1048576: true; the input reads as it did. -/
def walUsedUptoRow : OpenClaim := { program := "ytmfkgbncnaingaa", sum := "443a34c609ef2b94d3b3478c251a2e228337e67842f9c9df306944c26825d4b6", func := "bagnall/bagnallkeep.WalUsed", spec := "walUsed", unfollowed := true, recurses := true, apart := false, narrowed := true }
def WalUsedUptoSaid : Prop := walUsedUptoRow.holds Try.pinned (OpenSpec.upto walUsedSpec)

/-- 'bagnallkeep.RowsParts', WHERE WHAT IT READS IS OF BULK AT MOST 1048576: true; the input reads as it did. -/
def rowsPartsUptoRow : OpenClaim := { program := "ytmfkgbncnaingaa", sum := "443a34c609ef2b94d3b3478c251a2e228337e67842f9c9df306944c26825d4b6", func := "bagnall/bagnallkeep.RowsParts", spec := "rowsParts", inPlace := ["slices.overlaps[bagnall/api.Row]"], unfollowed := true, recurses := true, apart := false, narrowed := true }
def RowsPartsUptoSaid : Prop := rowsPartsUptoRow.holds Try.pinned (OpenSpec.upto rowsPartsSpec)

/-- 'bagnallkeep.RowsOrder', WHERE WHAT IT READS IS OF BULK AT MOST 1048576: true; the input reads as it did. -/
def rowsOrderUptoRow : OpenClaim := { program := "ytmfkgbncnaingaa", sum := "443a34c609ef2b94d3b3478c251a2e228337e67842f9c9df306944c26825d4b6", func := "bagnall/bagnallkeep.RowsOrder", spec := "rowsOrder", inPlace := ["slices.overlaps[bagnall/api.Row]"], unfollowed := true, recurses := true, apart := false, narrowed := true }
def RowsOrderUptoSaid : Prop := rowsOrderUptoRow.holds Try.pinned (OpenSpec.upto rowsOrderSpec)

/-- 'bagnallkeep.RowsFull', WHERE WHAT IT READS IS OF BULK AT MOST 1048576: true; the input reads as it did. -/
def rowsFullUptoRow : OpenClaim := { program := "ytmfkgbncnaingaa", sum := "443a34c609ef2b94d3b3478c251a2e228337e67842f9c9df306944c26825d4b6", func := "bagnall/bagnallkeep.RowsFull", spec := "rowsFull", inPlace := ["slices.overlaps[bagnall/api.Row]"], unfollowed := true, recurses := true, apart := false, narrowed := true }
def RowsFullUptoSaid : Prop := rowsFullUptoRow.holds Try.pinned (OpenSpec.upto rowsFullSpec)

/-- 'bagnallkeep.RowsLast', WHERE WHAT IT READS IS OF BULK AT MOST 1048576: true; the input reads as it did. -/
def rowsLastUptoRow : OpenClaim := { program := "ytmfkgbncnaingaa", sum := "443a34c609ef2b94d3b3478c251a2e228337e67842f9c9df306944c26825d4b6", func := "bagnall/bagnallkeep.RowsLast", spec := "rowsLast", inPlace := ["slices.overlaps[bagnall/api.Row]"], unfollowed := true, recurses := true, apart := false, narrowed := true }
def RowsLastUptoSaid : Prop := rowsLastUptoRow.holds Try.pinned (OpenSpec.upto rowsLastSpec)

/-- 'bagnallkeep.RowsHeads', WHERE WHAT IT READS IS OF BULK AT MOST 1048576: true; the input reads as it did. -/
def rowsHeadsUptoRow : OpenClaim := { program := "ytmfkgbncnaingaa", sum := "443a34c609ef2b94d3b3478c251a2e228337e67842f9c9df306944c26825d4b6", func := "bagnall/bagnallkeep.RowsHeads", spec := "rowsHeads", inPlace := ["slices.overlaps[bagnall/api.Row]"], unfollowed := true, recurses := true, apart := false, narrowed := true }
def RowsHeadsUptoSaid : Prop := rowsHeadsUptoRow.holds Try.pinned (OpenSpec.upto rowsHeadsSpec)

/-- 'bagnallkeep.StoreRefused', WHERE WHAT IT READS IS OF BULK AT MOST 1048576: true; the input reads as it did. -/
def storeRefusedUptoRow : OpenClaim := { program := "ytmfkgbncnaingaa", sum := "443a34c609ef2b94d3b3478c251a2e228337e67842f9c9df306944c26825d4b6", func := "bagnall/bagnallkeep.StoreRefused", spec := "storeRefused", inPlace := ["slices.overlaps[bagnall/api.Row]"], unfollowed := true, recurses := true, apart := false, narrowed := true }
def StoreRefusedUptoSaid : Prop := storeRefusedUptoRow.holds Try.pinned (OpenSpec.upto storeRefusedSpec)

/-- 'bagnallkeep.StoreReads', WHERE WHAT IT READS IS OF BULK AT MOST 1048576: true; the input reads as it did. -/
def storeReadsUptoRow : OpenClaim := { program := "ytmfkgbncnaingaa", sum := "443a34c609ef2b94d3b3478c251a2e228337e67842f9c9df306944c26825d4b6", func := "bagnall/bagnallkeep.StoreReads", spec := "storeReads", inPlace := ["slices.overlaps[bagnall/api.Row]"], unfollowed := true, recurses := true, apart := false, narrowed := true }
def StoreReadsUptoSaid : Prop := storeReadsUptoRow.holds Try.pinned (OpenSpec.upto storeReadsSpec)

/-- 'bagnallkeep.StoreCrash', WHERE WHAT IT READS IS OF BULK AT MOST 1048576: true; the input reads as it did. -/
def storeCrashUptoRow : OpenClaim := { program := "ytmfkgbncnaingaa", sum := "443a34c609ef2b94d3b3478c251a2e228337e67842f9c9df306944c26825d4b6", func := "bagnall/bagnallkeep.StoreCrash", spec := "storeCrash", inPlace := ["slices.overlaps[bagnall/api.Row]"], unfollowed := true, recurses := true, apart := false, narrowed := true }
def StoreCrashUptoSaid : Prop := storeCrashUptoRow.holds Try.pinned (OpenSpec.upto storeCrashSpec)

/-- 'bagnallkeep.StorePack', WHERE WHAT IT READS IS OF BULK AT MOST 1048576: true; the input reads as it did. -/
def storePackUptoRow : OpenClaim := { program := "ytmfkgbncnaingaa", sum := "443a34c609ef2b94d3b3478c251a2e228337e67842f9c9df306944c26825d4b6", func := "bagnall/bagnallkeep.StorePack", spec := "storePack", inPlace := ["slices.overlaps[bagnall/api.Row]"], unfollowed := true, recurses := true, apart := false, narrowed := true }
def StorePackUptoSaid : Prop := storePackUptoRow.holds Try.pinned (OpenSpec.upto storePackSpec)

/-- 'bagnallkeep.StoreThere', WHERE WHAT IT READS IS OF BULK AT MOST 1048576: true; the input reads as it did. -/
def storeThereUptoRow : OpenClaim := { program := "ytmfkgbncnaingaa", sum := "443a34c609ef2b94d3b3478c251a2e228337e67842f9c9df306944c26825d4b6", func := "bagnall/bagnallkeep.StoreThere", spec := "storeThere", inPlace := ["slices.overlaps[bagnall/api.Row]"], unfollowed := true, recurses := true, apart := false, narrowed := true }
def StoreThereUptoSaid : Prop := storeThereUptoRow.holds Try.pinned (OpenSpec.upto storeThereSpec)

/-- 'bagnallkeep.StoreTorn', WHERE WHAT IT READS IS OF BULK AT MOST 1048576: true; the input reads as it did. -/
def storeTornUptoRow : OpenClaim := { program := "ytmfkgbncnaingaa", sum := "443a34c609ef2b94d3b3478c251a2e228337e67842f9c9df306944c26825d4b6", func := "bagnall/bagnallkeep.StoreTorn", spec := "storeTorn", inPlace := ["slices.overlaps[bagnall/api.Row]"], unfollowed := true, recurses := true, apart := false, narrowed := true }
def StoreTornUptoSaid : Prop := storeTornUptoRow.holds Try.pinned (OpenSpec.upto storeTornSpec)

/-- 'bagnalltop.TopLogAny', WHERE WHAT IT READS IS OF BULK AT MOST 1048576: true; the input reads as it did. -/
def topLogAnyUptoRow : OpenClaim := { program := "ytmfkgbncnaingaa", sum := "443a34c609ef2b94d3b3478c251a2e228337e67842f9c9df306944c26825d4b6", func := "bagnall/bagnalltop.TopLogAny", spec := "topLogAny", inPlace := ["slices.overlaps[bagnall/api.Row]"], unfollowed := true, recurses := true, apart := false, narrowed := true }
def TopLogAnyUptoSaid : Prop := topLogAnyUptoRow.holds Try.pinned (OpenSpec.upto topLogAnySpec)

end Rows
end Go.Proofs.Ytmfkgbncnaingaa
