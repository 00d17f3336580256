/-
  No cell of these rows narrows 'for every input' (looked for: loops, veiled, ifaces, maps, wideKeys, modest, calm, conditions, laid).
  DERIVED. THE GIVEN ROWS OF THIS SEAT. 12 by the template 'for every input the law returns true; each argument reads behind the call as it read before'; 0 by the template 'total and deterministic' (their statements: YtfdceninhieheaaTotals.lean).
  GIVEN WITH THE SEED: the statements are not yours to turn. If you find one false, say at which input.
  Laid BY PROGRAM, IN A SANDBOX (cutbox-rows.mjs): the forced cells as the released guide's own fill.sh prints them over the translation 2081f80daa6fe383… (all of the seat's roots in one cut). By AI agents, Wed Nov 11 2026. No macro, syntax, notation, axiom, sorry.
-/
import Derived.Test.YtfdceninhieheaaChecked
import GoSem.Claim
import GoSem.ClaimJoined
import GoSem.ClaimMapViews
import Derived.JoinedTies
import Derived.KernelRfl
namespace Go.Proofs.Ytfdceninhieheaa
/- THE CELL 'sum', in the pinned program and in every row, IS THE sha256 OF THE DUMP (.gsa) THAT YtfdceninhieheaaProg.lean LOADS. Nothing in Lean hashes anything: it is a label: what it is worth is what the hold of that sum in a sandbox is worth. -/
noncomputable def Try.pinned : Pinned := { name := "ytfdceninhieheaa", sum := "2081f80daa6fe38300fa79b1c08e61218bdab4629021ade1e7d3b82fadc261d1", checked := Try.checked }
namespace Rows
def none {H : Type} : Left H := { results := [], args := [] }

/-- 'bagnallkeep.HashParts': WHATEVER THE INPUT: true; the input reads as it did. -/
def hashPartsSpec : ChangeSpec := { name := "hashParts", fn := fun _ => fun
  | [d1, d2, d3] => { results := [.lit (.bool true)], args := [d1, d2, d3] }
  | _ => none }
def hashPartsRow : OpenClaim := { program := "ytfdceninhieheaa", sum := "2081f80daa6fe38300fa79b1c08e61218bdab4629021ade1e7d3b82fadc261d1", func := "bagnall/bagnallkeep.HashParts", spec := "hashParts", apart := false }
def HashPartsSaid : Prop := hashPartsRow.holds Try.pinned (OpenSpec.ofChange hashPartsSpec)

/-- ITS FALSE NEIGHBOUR: 'it returns false'. Refute it at one input. -/
def hashPartsWrong : ChangeSpec := { name := "hashParts", fn := fun _ => fun
  | [d1, d2, d3] => { results := [.lit (.bool false)], args := [d1, d2, d3] }
  | _ => none }
def HashPartsWrongFalsely : Prop := hashPartsRow.holds Try.pinned (OpenSpec.ofChange hashPartsWrong)

/-- 'bagnallkeep.SignPowers': WHATEVER THE INPUT: true; the input reads as it did. -/
def signPowersSpec : ChangeSpec := { name := "signPowers", fn := fun _ => fun
  | [d1, d2] => { results := [.lit (.bool true)], args := [d1, d2] }
  | _ => none }
def signPowersRow : OpenClaim := { program := "ytfdceninhieheaa", sum := "2081f80daa6fe38300fa79b1c08e61218bdab4629021ade1e7d3b82fadc261d1", func := "bagnall/bagnallkeep.SignPowers", spec := "signPowers", apart := false }
def SignPowersSaid : Prop := signPowersRow.holds Try.pinned (OpenSpec.ofChange signPowersSpec)

/-- ITS FALSE NEIGHBOUR: 'it returns false'. Refute it at one input. -/
def signPowersWrong : ChangeSpec := { name := "signPowers", fn := fun _ => fun
  | [d1, d2] => { results := [.lit (.bool false)], args := [d1, d2] }
  | _ => none }
def SignPowersWrongFalsely : Prop := signPowersRow.holds Try.pinned (OpenSpec.ofChange signPowersWrong)

/-- 'bagnallkeep.SignGood': WHATEVER THE INPUT: true; the input reads as it did. -/
def signGoodSpec : ChangeSpec := { name := "signGood", fn := fun _ => fun
  | [d1, d2, d3, d4] => { results := [.lit (.bool true)], args := [d1, d2, d3, d4] }
  | _ => none }
def signGoodRow : OpenClaim := { program := "ytfdceninhieheaa", sum := "2081f80daa6fe38300fa79b1c08e61218bdab4629021ade1e7d3b82fadc261d1", func := "bagnall/bagnallkeep.SignGood", spec := "signGood", apart := false }
def SignGoodSaid : Prop := signGoodRow.holds Try.pinned (OpenSpec.ofChange signGoodSpec)

/-- ITS FALSE NEIGHBOUR: 'it returns false'. Refute it at one input. -/
def signGoodWrong : ChangeSpec := { name := "signGood", fn := fun _ => fun
  | [d1, d2, d3, d4] => { results := [.lit (.bool false)], args := [d1, d2, d3, d4] }
  | _ => none }
def SignGoodWrongFalsely : Prop := signGoodRow.holds Try.pinned (OpenSpec.ofChange signGoodWrong)

/-- 'bagnallkeep.SignApart': WHATEVER THE INPUT: true; the input reads as it did. -/
def signApartSpec : ChangeSpec := { name := "signApart", fn := fun _ => fun
  | [d1, d2, d3, d4] => { results := [.lit (.bool true)], args := [d1, d2, d3, d4] }
  | _ => none }
def signApartRow : OpenClaim := { program := "ytfdceninhieheaa", sum := "2081f80daa6fe38300fa79b1c08e61218bdab4629021ade1e7d3b82fadc261d1", func := "bagnall/bagnallkeep.SignApart", spec := "signApart", apart := false }
def SignApartSaid : Prop := signApartRow.holds Try.pinned (OpenSpec.ofChange signApartSpec)

/-- ITS FALSE NEIGHBOUR: 'it returns false'. Refute it at one input. -/
def signApartWrong : ChangeSpec := { name := "signApart", fn := fun _ => fun
  | [d1, d2, d3, d4] => { results := [.lit (.bool false)], args := [d1, d2, d3, d4] }
  | _ => none }
def SignApartWrongFalsely : Prop := signApartRow.holds Try.pinned (OpenSpec.ofChange signApartWrong)

/-- 'bagnallkeep.SignTexts': WHATEVER THE INPUT: true; the input reads as it did. -/
def signTextsSpec : ChangeSpec := { name := "signTexts", fn := fun _ => fun
  | [d1, d2, d3, d4] => { results := [.lit (.bool true)], args := [d1, d2, d3, d4] }
  | _ => none }
def signTextsRow : OpenClaim := { program := "ytfdceninhieheaa", sum := "2081f80daa6fe38300fa79b1c08e61218bdab4629021ade1e7d3b82fadc261d1", func := "bagnall/bagnallkeep.SignTexts", spec := "signTexts", apart := false }
def SignTextsSaid : Prop := signTextsRow.holds Try.pinned (OpenSpec.ofChange signTextsSpec)

/-- ITS FALSE NEIGHBOUR: 'it returns false'. Refute it at one input. -/
def signTextsWrong : ChangeSpec := { name := "signTexts", fn := fun _ => fun
  | [d1, d2, d3, d4] => { results := [.lit (.bool false)], args := [d1, d2, d3, d4] }
  | _ => none }
def SignTextsWrongFalsely : Prop := signTextsRow.holds Try.pinned (OpenSpec.ofChange signTextsWrong)

/-- 'bagnallkeep.SignTwice': WHATEVER THE INPUT: true; the input reads as it did. -/
def signTwiceSpec : ChangeSpec := { name := "signTwice", fn := fun _ => fun
  | [d1, d2, d3, d4] => { results := [.lit (.bool true)], args := [d1, d2, d3, d4] }
  | _ => none }
def signTwiceRow : OpenClaim := { program := "ytfdceninhieheaa", sum := "2081f80daa6fe38300fa79b1c08e61218bdab4629021ade1e7d3b82fadc261d1", func := "bagnall/bagnallkeep.SignTwice", spec := "signTwice", apart := false }
def SignTwiceSaid : Prop := signTwiceRow.holds Try.pinned (OpenSpec.ofChange signTwiceSpec)

/-- ITS FALSE NEIGHBOUR: 'it returns false'. Refute it at one input. -/
def signTwiceWrong : ChangeSpec := { name := "signTwice", fn := fun _ => fun
  | [d1, d2, d3, d4] => { results := [.lit (.bool false)], args := [d1, d2, d3, d4] }
  | _ => none }
def SignTwiceWrongFalsely : Prop := signTwiceRow.holds Try.pinned (OpenSpec.ofChange signTwiceWrong)

/-- 'bagnallkeep.CrewGood': WHATEVER THE INPUT: true; the input reads as it did. -/
def crewGoodSpec : ChangeSpec := { name := "crewGood", fn := fun _ => fun
  | [d1, d2, d3] => { results := [.lit (.bool true)], args := [d1, d2, d3] }
  | _ => none }
def crewGoodRow : OpenClaim := { program := "ytfdceninhieheaa", sum := "2081f80daa6fe38300fa79b1c08e61218bdab4629021ade1e7d3b82fadc261d1", func := "bagnall/bagnallkeep.CrewGood", spec := "crewGood", inPlace := ["(*sync.WaitGroup).Add", "internal/race.ReleaseMerge", "internal/race.Disable", "internal/race.Enable", "internal/synctest.IsInBubble", "internal/synctest.Associate[sync.WaitGroup]", "sync.fatal", "sync/atomic.OrUint64", "sync/atomic.AddUint64", "internal/race.Read", "sync/atomic.LoadUint64", "sync/atomic.StoreUint64", "internal/synctest.Disassociate[sync.WaitGroup]", "sync.runtime_Semrelease", "(*sync.WaitGroup).Done", "(*sync.WaitGroup).Wait", "internal/race.Acquire", "internal/synctest.IsAssociated[sync.WaitGroup]", "sync/atomic.CompareAndSwapUint64", "internal/race.Write", "sync.runtime_SemacquireWaitGroup"], unfollowed := true, recurses := true, leaving := true, apart := false }
def CrewGoodSaid : Prop := crewGoodRow.holds Try.pinned (OpenSpec.ofChange crewGoodSpec)

/-- ITS FALSE NEIGHBOUR: 'it returns false'. Refute it at one input. -/
def crewGoodWrong : ChangeSpec := { name := "crewGood", fn := fun _ => fun
  | [d1, d2, d3] => { results := [.lit (.bool false)], args := [d1, d2, d3] }
  | _ => none }
def CrewGoodWrongFalsely : Prop := crewGoodRow.holds Try.pinned (OpenSpec.ofChange crewGoodWrong)

/-- 'bagnallkeep.TrustShort': WHATEVER THE INPUT: true; the input reads as it did. -/
def trustShortSpec : ChangeSpec := { name := "trustShort", fn := fun _ => fun
  | [d1, d2, d3] => { results := [.lit (.bool true)], args := [d1, d2, d3] }
  | _ => none }
def trustShortRow : OpenClaim := { program := "ytfdceninhieheaa", sum := "2081f80daa6fe38300fa79b1c08e61218bdab4629021ade1e7d3b82fadc261d1", func := "bagnall/bagnallkeep.TrustShort", spec := "trustShort", recurses := true, apart := false }
def TrustShortSaid : Prop := trustShortRow.holds Try.pinned (OpenSpec.ofChange trustShortSpec)

/-- ITS FALSE NEIGHBOUR: 'it returns false'. Refute it at one input. -/
def trustShortWrong : ChangeSpec := { name := "trustShort", fn := fun _ => fun
  | [d1, d2, d3] => { results := [.lit (.bool false)], args := [d1, d2, d3] }
  | _ => none }
def TrustShortWrongFalsely : Prop := trustShortRow.holds Try.pinned (OpenSpec.ofChange trustShortWrong)

/-- 'bagnallkeep.TrustMore': WHATEVER THE INPUT: true; the input reads as it did. -/
def trustMoreSpec : ChangeSpec := { name := "trustMore", fn := fun _ => fun
  | [d1, d2] => { results := [.lit (.bool true)], args := [d1, d2] }
  | _ => none }
def trustMoreRow : OpenClaim := { program := "ytfdceninhieheaa", sum := "2081f80daa6fe38300fa79b1c08e61218bdab4629021ade1e7d3b82fadc261d1", func := "bagnall/bagnallkeep.TrustMore", spec := "trustMore", unfollowed := true, recurses := true, leaving := true, apart := false }
def TrustMoreSaid : Prop := trustMoreRow.holds Try.pinned (OpenSpec.ofChange trustMoreSpec)

/-- ITS FALSE NEIGHBOUR: 'it returns false'. Refute it at one input. -/
def trustMoreWrong : ChangeSpec := { name := "trustMore", fn := fun _ => fun
  | [d1, d2] => { results := [.lit (.bool false)], args := [d1, d2] }
  | _ => none }
def TrustMoreWrongFalsely : Prop := trustMoreRow.holds Try.pinned (OpenSpec.ofChange trustMoreWrong)

/-- 'bagnallkeep.TrustThrough': WHATEVER THE INPUT: true; the input reads as it did. -/
def trustThroughSpec : ChangeSpec := { name := "trustThrough", fn := fun _ => fun
  | [d1, d2] => { results := [.lit (.bool true)], args := [d1, d2] }
  | _ => none }
def trustThroughRow : OpenClaim := { program := "ytfdceninhieheaa", sum := "2081f80daa6fe38300fa79b1c08e61218bdab4629021ade1e7d3b82fadc261d1", func := "bagnall/bagnallkeep.TrustThrough", spec := "trustThrough", unfollowed := true, recurses := true, leaving := true, apart := false }
def TrustThroughSaid : Prop := trustThroughRow.holds Try.pinned (OpenSpec.ofChange trustThroughSpec)

/-- ITS FALSE NEIGHBOUR: 'it returns false'. Refute it at one input. -/
def trustThroughWrong : ChangeSpec := { name := "trustThrough", fn := fun _ => fun
  | [d1, d2] => { results := [.lit (.bool false)], args := [d1, d2] }
  | _ => none }
def TrustThroughWrongFalsely : Prop := trustThroughRow.holds Try.pinned (OpenSpec.ofChange trustThroughWrong)

/-- 'bagnallkeep.TrustPath': WHATEVER THE INPUT: true; the input reads as it did. -/
def trustPathSpec : ChangeSpec := { name := "trustPath", fn := fun _ => fun
  | [d1, d2] => { results := [.lit (.bool true)], args := [d1, d2] }
  | _ => none }
def trustPathRow : OpenClaim := { program := "ytfdceninhieheaa", sum := "2081f80daa6fe38300fa79b1c08e61218bdab4629021ade1e7d3b82fadc261d1", func := "bagnall/bagnallkeep.TrustPath", spec := "trustPath", unfollowed := true, recurses := true, leaving := true, apart := false }
def TrustPathSaid : Prop := trustPathRow.holds Try.pinned (OpenSpec.ofChange trustPathSpec)

/-- ITS FALSE NEIGHBOUR: 'it returns false'. Refute it at one input. -/
def trustPathWrong : ChangeSpec := { name := "trustPath", fn := fun _ => fun
  | [d1, d2] => { results := [.lit (.bool false)], args := [d1, d2] }
  | _ => none }
def TrustPathWrongFalsely : Prop := trustPathRow.holds Try.pinned (OpenSpec.ofChange trustPathWrong)

/-- 'bagnallkeep.TrustOrder': WHATEVER THE INPUT: true; the input reads as it did. -/
def trustOrderSpec : ChangeSpec := { name := "trustOrder", fn := fun _ => fun
  | [d1, d2, d3] => { results := [.lit (.bool true)], args := [d1, d2, d3] }
  | _ => none }
def trustOrderRow : OpenClaim := { program := "ytfdceninhieheaa", sum := "2081f80daa6fe38300fa79b1c08e61218bdab4629021ade1e7d3b82fadc261d1", func := "bagnall/bagnallkeep.TrustOrder", spec := "trustOrder", unfollowed := true, recurses := true, leaving := true, apart := false }
def TrustOrderSaid : Prop := trustOrderRow.holds Try.pinned (OpenSpec.ofChange trustOrderSpec)

/-- ITS FALSE NEIGHBOUR: 'it returns false'. Refute it at one input. -/
def trustOrderWrong : ChangeSpec := { name := "trustOrder", fn := fun _ => fun
  | [d1, d2, d3] => { results := [.lit (.bool false)], args := [d1, d2, d3] }
  | _ => none }
def TrustOrderWrongFalsely : Prop := trustOrderRow.holds Try.pinned (OpenSpec.ofChange trustOrderWrong)

/- THE SECOND FORM. 'bulk': how many values and letters a reading holds, each counted each time it is reached (what is shared counts as often as it is met; a slice's spare places count too). A statement '..UptoSaid' is the law's where the arguments, and the package variables that the reading takes, are together of bulk at most 1048576: NARROWER than '..Said'. Prove '..Said' where nothing that the law and all that it calls make is longer than what came in: it says more and counts as full. Else prove '..UptoSaid'. A law counts once. -/
mutual
def uptoBulk {H : Type} : DataW H → Nat
  | .lit (.string bytes) => bytes.length + 1
  | .lit _ => 1
  | .nil => 1
  | .ptr d => uptoBulk d + 1
  | .slice elems spare => uptoBulkAll elems + uptoBulkAll spare + 1
  | .agg parts => uptoBulkAll parts + 1
  | .iface _ d => uptoBulk d + 1
  | .map entries => uptoBulkEntries entries + 1
  | .held _ => 1
def uptoBulkAll {H : Type} : List (DataW H) → Nat
  | [] => 0
  | d :: r => uptoBulk d + uptoBulkAll r
def uptoBulkEntries {H : Type} : List (Lit × DataW H) → Nat
  | [] => 0
  | x :: r => uptoBulkEntry x + uptoBulkEntries r
def uptoBulkEntry {H : Type} : Lit × DataW H → Nat
  | (.string bytes, d) => bytes.length + uptoBulk d + 1
  | (_, d) => uptoBulk d + 1
 end
def uptoSmall : (H : Type) → List (DataW H) → Bool := fun _ ds => decide (uptoBulkAll ds ≤ 1048576)
def OpenSpec.upto (s : _root_.Go.ChangeSpec) : _root_.Go.OpenSpec := { _root_.Go.OpenSpec.ofChange s with cond := some uptoSmall }

/-- 'bagnallkeep.HashParts', WHERE WHAT IT READS IS OF BULK AT MOST 1048576: true; the input reads as it did. -/
def hashPartsUptoRow : OpenClaim := { program := "ytfdceninhieheaa", sum := "2081f80daa6fe38300fa79b1c08e61218bdab4629021ade1e7d3b82fadc261d1", func := "bagnall/bagnallkeep.HashParts", spec := "hashParts", apart := false, narrowed := true }
def HashPartsUptoSaid : Prop := hashPartsUptoRow.holds Try.pinned (OpenSpec.upto hashPartsSpec)

/-- 'bagnallkeep.SignPowers', WHERE WHAT IT READS IS OF BULK AT MOST 1048576: true; the input reads as it did. -/
def signPowersUptoRow : OpenClaim := { program := "ytfdceninhieheaa", sum := "2081f80daa6fe38300fa79b1c08e61218bdab4629021ade1e7d3b82fadc261d1", func := "bagnall/bagnallkeep.SignPowers", spec := "signPowers", apart := false, narrowed := true }
def SignPowersUptoSaid : Prop := signPowersUptoRow.holds Try.pinned (OpenSpec.upto signPowersSpec)

/-- 'bagnallkeep.SignGood', WHERE WHAT IT READS IS OF BULK AT MOST 1048576: true; the input reads as it did. -/
def signGoodUptoRow : OpenClaim := { program := "ytfdceninhieheaa", sum := "2081f80daa6fe38300fa79b1c08e61218bdab4629021ade1e7d3b82fadc261d1", func := "bagnall/bagnallkeep.SignGood", spec := "signGood", apart := false, narrowed := true }
def SignGoodUptoSaid : Prop := signGoodUptoRow.holds Try.pinned (OpenSpec.upto signGoodSpec)

/-- 'bagnallkeep.SignApart', WHERE WHAT IT READS IS OF BULK AT MOST 1048576: true; the input reads as it did. -/
def signApartUptoRow : OpenClaim := { program := "ytfdceninhieheaa", sum := "2081f80daa6fe38300fa79b1c08e61218bdab4629021ade1e7d3b82fadc261d1", func := "bagnall/bagnallkeep.SignApart", spec := "signApart", apart := false, narrowed := true }
def SignApartUptoSaid : Prop := signApartUptoRow.holds Try.pinned (OpenSpec.upto signApartSpec)

/-- 'bagnallkeep.SignTexts', WHERE WHAT IT READS IS OF BULK AT MOST 1048576: true; the input reads as it did. -/
def signTextsUptoRow : OpenClaim := { program := "ytfdceninhieheaa", sum := "2081f80daa6fe38300fa79b1c08e61218bdab4629021ade1e7d3b82fadc261d1", func := "bagnall/bagnallkeep.SignTexts", spec := "signTexts", apart := false, narrowed := true }
def SignTextsUptoSaid : Prop := signTextsUptoRow.holds Try.pinned (OpenSpec.upto signTextsSpec)

/-- 'bagnallkeep.SignTwice', WHERE WHAT IT READS IS OF BULK AT MOST 1048576: true; the input reads as it did. -/
def signTwiceUptoRow : OpenClaim := { program := "ytfdceninhieheaa", sum := "2081f80daa6fe38300fa79b1c08e61218bdab4629021ade1e7d3b82fadc261d1", func := "bagnall/bagnallkeep.SignTwice", spec := "signTwice", apart := false, narrowed := true }
def SignTwiceUptoSaid : Prop := signTwiceUptoRow.holds Try.pinned (OpenSpec.upto signTwiceSpec)

/-- 'bagnallkeep.CrewGood', WHERE WHAT IT READS IS OF BULK AT MOST 1048576: true; the input reads as it did. -/
def crewGoodUptoRow : OpenClaim := { program := "ytfdceninhieheaa", sum := "2081f80daa6fe38300fa79b1c08e61218bdab4629021ade1e7d3b82fadc261d1", func := "bagnall/bagnallkeep.CrewGood", spec := "crewGood", inPlace := ["(*sync.WaitGroup).Add", "internal/race.ReleaseMerge", "internal/race.Disable", "internal/race.Enable", "internal/synctest.IsInBubble", "internal/synctest.Associate[sync.WaitGroup]", "sync.fatal", "sync/atomic.OrUint64", "sync/atomic.AddUint64", "internal/race.Read", "sync/atomic.LoadUint64", "sync/atomic.StoreUint64", "internal/synctest.Disassociate[sync.WaitGroup]", "sync.runtime_Semrelease", "(*sync.WaitGroup).Done", "(*sync.WaitGroup).Wait", "internal/race.Acquire", "internal/synctest.IsAssociated[sync.WaitGroup]", "sync/atomic.CompareAndSwapUint64", "internal/race.Write", "sync.runtime_SemacquireWaitGroup"], unfollowed := true, recurses := true, leaving := true, apart := false, narrowed := true }
def CrewGoodUptoSaid : Prop := crewGoodUptoRow.holds Try.pinned (OpenSpec.upto crewGoodSpec)

/-- 'bagnallkeep.TrustShort', WHERE WHAT IT READS IS OF BULK AT MOST 1048576: true; the input reads as it did. -/
def trustShortUptoRow : OpenClaim := { program := "ytfdceninhieheaa", sum := "2081f80daa6fe38300fa79b1c08e61218bdab4629021ade1e7d3b82fadc261d1", func := "bagnall/bagnallkeep.TrustShort", spec := "trustShort", recurses := true, apart := false, narrowed := true }
def TrustShortUptoSaid : Prop := trustShortUptoRow.holds Try.pinned (OpenSpec.upto trustShortSpec)

/-- 'bagnallkeep.TrustMore', WHERE WHAT IT READS IS OF BULK AT MOST 1048576: true; the input reads as it did. -/
def trustMoreUptoRow : OpenClaim := { program := "ytfdceninhieheaa", sum := "2081f80daa6fe38300fa79b1c08e61218bdab4629021ade1e7d3b82fadc261d1", func := "bagnall/bagnallkeep.TrustMore", spec := "trustMore", unfollowed := true, recurses := true, leaving := true, apart := false, narrowed := true }
def TrustMoreUptoSaid : Prop := trustMoreUptoRow.holds Try.pinned (OpenSpec.upto trustMoreSpec)

/-- 'bagnallkeep.TrustThrough', WHERE WHAT IT READS IS OF BULK AT MOST 1048576: true; the input reads as it did. -/
def trustThroughUptoRow : OpenClaim := { program := "ytfdceninhieheaa", sum := "2081f80daa6fe38300fa79b1c08e61218bdab4629021ade1e7d3b82fadc261d1", func := "bagnall/bagnallkeep.TrustThrough", spec := "trustThrough", unfollowed := true, recurses := true, leaving := true, apart := false, narrowed := true }
def TrustThroughUptoSaid : Prop := trustThroughUptoRow.holds Try.pinned (OpenSpec.upto trustThroughSpec)

/-- 'bagnallkeep.TrustPath', WHERE WHAT IT READS IS OF BULK AT MOST 1048576: true; the input reads as it did. -/
def trustPathUptoRow : OpenClaim := { program := "ytfdceninhieheaa", sum := "2081f80daa6fe38300fa79b1c08e61218bdab4629021ade1e7d3b82fadc261d1", func := "bagnall/bagnallkeep.TrustPath", spec := "trustPath", unfollowed := true, recurses := true, leaving := true, apart := false, narrowed := true }
def TrustPathUptoSaid : Prop := trustPathUptoRow.holds Try.pinned (OpenSpec.upto trustPathSpec)

/-- 'bagnallkeep.TrustOrder', WHERE WHAT IT READS IS OF BULK AT MOST 1048576: true; the input reads as it did. -/
def trustOrderUptoRow : OpenClaim := { program := "ytfdceninhieheaa", sum := "2081f80daa6fe38300fa79b1c08e61218bdab4629021ade1e7d3b82fadc261d1", func := "bagnall/bagnallkeep.TrustOrder", spec := "trustOrder", unfollowed := true, recurses := true, leaving := true, apart := false, narrowed := true }
def TrustOrderUptoSaid : Prop := trustOrderUptoRow.holds Try.pinned (OpenSpec.upto trustOrderSpec)

end Rows
end Go.Proofs.Ytfdceninhieheaa
