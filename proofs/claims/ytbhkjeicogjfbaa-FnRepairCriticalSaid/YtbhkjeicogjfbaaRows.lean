/-
  No cell of these rows narrows 'for every input' (looked for: loops, veiled, ifaces, maps, wideKeys, modest, calm, conditions, laid).
  DERIVED. THE GIVEN ROWS OF THIS SEAT. 13 by the template 'for every input the law returns true; each argument reads behind the call as it read before'; 0 by the template 'total and deterministic' (their statements: YtbhkjeicogjfbaaTotals.lean).
  GIVEN WITH THE SEED: the statements are not yours to turn. If you find one false, say at which input.
  Laid BY PROGRAM, IN A SANDBOX (cutbox-rows.mjs): the forced cells as the released guide's own fill.sh prints them over the translation 67574491f3f96df3… (all of the seat's roots in one cut). By AI agents, Wed Nov 11 2026. No macro, syntax, notation, axiom, sorry.
-/
import Derived.Test.YtbhkjeicogjfbaaChecked
import GoSem.Claim
import GoSem.ClaimJoined
import GoSem.ClaimMapViews
import Derived.JoinedTies
import Derived.KernelRfl
namespace Go.Proofs.Ytbhkjeicogjfbaa
/- THE CELL 'sum', in the pinned program and in every row, IS THE sha256 OF THE DUMP (.gsa) THAT YtbhkjeicogjfbaaProg.lean LOADS. Nothing in Lean hashes anything: it is a label: what it is worth is what the hold of that sum in a sandbox is worth. -/
noncomputable def Try.pinned : Pinned := { name := "ytbhkjeicogjfbaa", sum := "67574491f3f96df31a0db94b3e01068a199ca0c75f97af2a6d9bbc5894df3c92", checked := Try.checked }
namespace Rows
def none {H : Type} : Left H := { results := [], args := [] }

/-- 'laws.FnNoLoop': WHATEVER THE INPUT: true; the input reads as it did. -/
def fnNoLoopSpec : ChangeSpec := { name := "fnNoLoop", fn := fun _ => fun
  | [d1, d2] => { results := [.lit (.bool true)], args := [d1, d2] }
  | _ => none }
def fnNoLoopRow : OpenClaim := { program := "ytbhkjeicogjfbaa", sum := "67574491f3f96df31a0db94b3e01068a199ca0c75f97af2a6d9bbc5894df3c92", func := "loop.example/linkstaterouting/laws.FnNoLoop", spec := "fnNoLoop", unfollowed := true, recurses := true, apart := false }
def FnNoLoopSaid : Prop := fnNoLoopRow.holds Try.pinned (OpenSpec.ofChange fnNoLoopSpec)

/-- ITS FALSE NEIGHBOUR: 'it returns false'. Refute it at one input. -/
def fnNoLoopWrong : ChangeSpec := { name := "fnNoLoop", fn := fun _ => fun
  | [d1, d2] => { results := [.lit (.bool false)], args := [d1, d2] }
  | _ => none }
def FnNoLoopWrongFalsely : Prop := fnNoLoopRow.holds Try.pinned (OpenSpec.ofChange fnNoLoopWrong)

/-- 'laws.FnArrivesMore': WHATEVER THE INPUT: true; the input reads as it did. -/
def fnArrivesMoreSpec : ChangeSpec := { name := "fnArrivesMore", fn := fun _ => fun
  | [d1, d2] => { results := [.lit (.bool true)], args := [d1, d2] }
  | _ => none }
def fnArrivesMoreRow : OpenClaim := { program := "ytbhkjeicogjfbaa", sum := "67574491f3f96df31a0db94b3e01068a199ca0c75f97af2a6d9bbc5894df3c92", func := "loop.example/linkstaterouting/laws.FnArrivesMore", spec := "fnArrivesMore", unfollowed := true, recurses := true, apart := false }
def FnArrivesMoreSaid : Prop := fnArrivesMoreRow.holds Try.pinned (OpenSpec.ofChange fnArrivesMoreSpec)

/-- ITS FALSE NEIGHBOUR: 'it returns false'. Refute it at one input. -/
def fnArrivesMoreWrong : ChangeSpec := { name := "fnArrivesMore", fn := fun _ => fun
  | [d1, d2] => { results := [.lit (.bool false)], args := [d1, d2] }
  | _ => none }
def FnArrivesMoreWrongFalsely : Prop := fnArrivesMoreRow.holds Try.pinned (OpenSpec.ofChange fnArrivesMoreWrong)

/-- 'laws.FnArrivesAll': WHATEVER THE INPUT: true; the input reads as it did. -/
def fnArrivesAllSpec : ChangeSpec := { name := "fnArrivesAll", fn := fun _ => fun
  | [d] => { results := [.lit (.bool true)], args := [d] }
  | _ => none }
def fnArrivesAllRow : OpenClaim := { program := "ytbhkjeicogjfbaa", sum := "67574491f3f96df31a0db94b3e01068a199ca0c75f97af2a6d9bbc5894df3c92", func := "loop.example/linkstaterouting/laws.FnArrivesAll", spec := "fnArrivesAll", unfollowed := true, recurses := true, apart := false }
def FnArrivesAllSaid : Prop := fnArrivesAllRow.holds Try.pinned (OpenSpec.ofChange fnArrivesAllSpec)

/-- ITS FALSE NEIGHBOUR: 'it returns false'. Refute it at one input. -/
def fnArrivesAllWrong : ChangeSpec := { name := "fnArrivesAll", fn := fun _ => fun
  | [d] => { results := [.lit (.bool false)], args := [d] }
  | _ => none }
def FnArrivesAllWrongFalsely : Prop := fnArrivesAllRow.holds Try.pinned (OpenSpec.ofChange fnArrivesAllWrong)

/-- 'laws.FnExactMixedHops': WHATEVER THE INPUT: true; the input reads as it did. -/
def fnExactMixedHopsSpec : ChangeSpec := { name := "fnExactMixedHops", fn := fun _ => fun
  | [d1, d2, d3, d4, d5] => { results := [.lit (.bool true)], args := [d1, d2, d3, d4, d5] }
  | _ => none }
def fnExactMixedHopsRow : OpenClaim := { program := "ytbhkjeicogjfbaa", sum := "67574491f3f96df31a0db94b3e01068a199ca0c75f97af2a6d9bbc5894df3c92", func := "loop.example/linkstaterouting/laws.FnExactMixedHops", spec := "fnExactMixedHops", unfollowed := true, recurses := true, apart := false }
def FnExactMixedHopsSaid : Prop := fnExactMixedHopsRow.holds Try.pinned (OpenSpec.ofChange fnExactMixedHopsSpec)

/-- ITS FALSE NEIGHBOUR: 'it returns false'. Refute it at one input. -/
def fnExactMixedHopsWrong : ChangeSpec := { name := "fnExactMixedHops", fn := fun _ => fun
  | [d1, d2, d3, d4, d5] => { results := [.lit (.bool false)], args := [d1, d2, d3, d4, d5] }
  | _ => none }
def FnExactMixedHopsWrongFalsely : Prop := fnExactMixedHopsRow.holds Try.pinned (OpenSpec.ofChange fnExactMixedHopsWrong)

/-- 'laws.FnMixedNew': WHATEVER THE INPUT: true; the input reads as it did. -/
def fnMixedNewSpec : ChangeSpec := { name := "fnMixedNew", fn := fun _ => fun
  | [d] => { results := [.lit (.bool true)], args := [d] }
  | _ => none }
def fnMixedNewRow : OpenClaim := { program := "ytbhkjeicogjfbaa", sum := "67574491f3f96df31a0db94b3e01068a199ca0c75f97af2a6d9bbc5894df3c92", func := "loop.example/linkstaterouting/laws.FnMixedNew", spec := "fnMixedNew", unfollowed := true, recurses := true, apart := false }
def FnMixedNewSaid : Prop := fnMixedNewRow.holds Try.pinned (OpenSpec.ofChange fnMixedNewSpec)

/-- ITS FALSE NEIGHBOUR: 'it returns false'. Refute it at one input. -/
def fnMixedNewWrong : ChangeSpec := { name := "fnMixedNew", fn := fun _ => fun
  | [d] => { results := [.lit (.bool false)], args := [d] }
  | _ => none }
def FnMixedNewWrongFalsely : Prop := fnMixedNewRow.holds Try.pinned (OpenSpec.ofChange fnMixedNewWrong)

/-- 'laws.FnMixedUnused': WHATEVER THE INPUT: true; the input reads as it did. -/
def fnMixedUnusedSpec : ChangeSpec := { name := "fnMixedUnused", fn := fun _ => fun
  | [d] => { results := [.lit (.bool true)], args := [d] }
  | _ => none }
def fnMixedUnusedRow : OpenClaim := { program := "ytbhkjeicogjfbaa", sum := "67574491f3f96df31a0db94b3e01068a199ca0c75f97af2a6d9bbc5894df3c92", func := "loop.example/linkstaterouting/laws.FnMixedUnused", spec := "fnMixedUnused", unfollowed := true, recurses := true, apart := false }
def FnMixedUnusedSaid : Prop := fnMixedUnusedRow.holds Try.pinned (OpenSpec.ofChange fnMixedUnusedSpec)

/-- ITS FALSE NEIGHBOUR: 'it returns false'. Refute it at one input. -/
def fnMixedUnusedWrong : ChangeSpec := { name := "fnMixedUnused", fn := fun _ => fun
  | [d] => { results := [.lit (.bool false)], args := [d] }
  | _ => none }
def FnMixedUnusedWrongFalsely : Prop := fnMixedUnusedRow.holds Try.pinned (OpenSpec.ofChange fnMixedUnusedWrong)

/-- 'laws.FnMixedOld': WHATEVER THE INPUT: true; the input reads as it did. -/
def fnMixedOldSpec : ChangeSpec := { name := "fnMixedOld", fn := fun _ => fun
  | [d] => { results := [.lit (.bool true)], args := [d] }
  | _ => none }
def fnMixedOldRow : OpenClaim := { program := "ytbhkjeicogjfbaa", sum := "67574491f3f96df31a0db94b3e01068a199ca0c75f97af2a6d9bbc5894df3c92", func := "loop.example/linkstaterouting/laws.FnMixedOld", spec := "fnMixedOld", unfollowed := true, recurses := true, apart := false }
def FnMixedOldSaid : Prop := fnMixedOldRow.holds Try.pinned (OpenSpec.ofChange fnMixedOldSpec)

/-- ITS FALSE NEIGHBOUR: 'it returns false'. Refute it at one input. -/
def fnMixedOldWrong : ChangeSpec := { name := "fnMixedOld", fn := fun _ => fun
  | [d] => { results := [.lit (.bool false)], args := [d] }
  | _ => none }
def FnMixedOldWrongFalsely : Prop := fnMixedOldRow.holds Try.pinned (OpenSpec.ofChange fnMixedOldWrong)

/-- 'laws.FnExactMixedArrives': WHATEVER THE INPUT: true; the input reads as it did. -/
def fnExactMixedArrivesSpec : ChangeSpec := { name := "fnExactMixedArrives", fn := fun _ => fun
  | [d1, d2, d3, d4] => { results := [.lit (.bool true)], args := [d1, d2, d3, d4] }
  | _ => none }
def fnExactMixedArrivesRow : OpenClaim := { program := "ytbhkjeicogjfbaa", sum := "67574491f3f96df31a0db94b3e01068a199ca0c75f97af2a6d9bbc5894df3c92", func := "loop.example/linkstaterouting/laws.FnExactMixedArrives", spec := "fnExactMixedArrives", unfollowed := true, recurses := true, apart := false }
def FnExactMixedArrivesSaid : Prop := fnExactMixedArrivesRow.holds Try.pinned (OpenSpec.ofChange fnExactMixedArrivesSpec)

/-- ITS FALSE NEIGHBOUR: 'it returns false'. Refute it at one input. -/
def fnExactMixedArrivesWrong : ChangeSpec := { name := "fnExactMixedArrives", fn := fun _ => fun
  | [d1, d2, d3, d4] => { results := [.lit (.bool false)], args := [d1, d2, d3, d4] }
  | _ => none }
def FnExactMixedArrivesWrongFalsely : Prop := fnExactMixedArrivesRow.holds Try.pinned (OpenSpec.ofChange fnExactMixedArrivesWrong)

/-- 'laws.FnExactMixedLoop': WHATEVER THE INPUT: true; the input reads as it did. -/
def fnExactMixedLoopSpec : ChangeSpec := { name := "fnExactMixedLoop", fn := fun _ => fun
  | [d1, d2, d3, d4] => { results := [.lit (.bool true)], args := [d1, d2, d3, d4] }
  | _ => none }
def fnExactMixedLoopRow : OpenClaim := { program := "ytbhkjeicogjfbaa", sum := "67574491f3f96df31a0db94b3e01068a199ca0c75f97af2a6d9bbc5894df3c92", func := "loop.example/linkstaterouting/laws.FnExactMixedLoop", spec := "fnExactMixedLoop", unfollowed := true, recurses := true, apart := false }
def FnExactMixedLoopSaid : Prop := fnExactMixedLoopRow.holds Try.pinned (OpenSpec.ofChange fnExactMixedLoopSpec)

/-- ITS FALSE NEIGHBOUR: 'it returns false'. Refute it at one input. -/
def fnExactMixedLoopWrong : ChangeSpec := { name := "fnExactMixedLoop", fn := fun _ => fun
  | [d1, d2, d3, d4] => { results := [.lit (.bool false)], args := [d1, d2, d3, d4] }
  | _ => none }
def FnExactMixedLoopWrongFalsely : Prop := fnExactMixedLoopRow.holds Try.pinned (OpenSpec.ofChange fnExactMixedLoopWrong)

/-- 'laws.FnLoopNodes': WHATEVER THE INPUT: true; the input reads as it did. -/
def fnLoopNodesSpec : ChangeSpec := { name := "fnLoopNodes", fn := fun _ => fun
  | [d] => { results := [.lit (.bool true)], args := [d] }
  | _ => none }
def fnLoopNodesRow : OpenClaim := { program := "ytbhkjeicogjfbaa", sum := "67574491f3f96df31a0db94b3e01068a199ca0c75f97af2a6d9bbc5894df3c92", func := "loop.example/linkstaterouting/laws.FnLoopNodes", spec := "fnLoopNodes", unfollowed := true, recurses := true, apart := false }
def FnLoopNodesSaid : Prop := fnLoopNodesRow.holds Try.pinned (OpenSpec.ofChange fnLoopNodesSpec)

/-- ITS FALSE NEIGHBOUR: 'it returns false'. Refute it at one input. -/
def fnLoopNodesWrong : ChangeSpec := { name := "fnLoopNodes", fn := fun _ => fun
  | [d] => { results := [.lit (.bool false)], args := [d] }
  | _ => none }
def FnLoopNodesWrongFalsely : Prop := fnLoopNodesRow.holds Try.pinned (OpenSpec.ofChange fnLoopNodesWrong)

/-- 'laws.FnArrivesSome': WHATEVER THE INPUT: true; the input reads as it did. -/
def fnArrivesSomeSpec : ChangeSpec := { name := "fnArrivesSome", fn := fun _ => fun
  | [d] => { results := [.lit (.bool true)], args := [d] }
  | _ => none }
def fnArrivesSomeRow : OpenClaim := { program := "ytbhkjeicogjfbaa", sum := "67574491f3f96df31a0db94b3e01068a199ca0c75f97af2a6d9bbc5894df3c92", func := "loop.example/linkstaterouting/laws.FnArrivesSome", spec := "fnArrivesSome", unfollowed := true, recurses := true, apart := false }
def FnArrivesSomeSaid : Prop := fnArrivesSomeRow.holds Try.pinned (OpenSpec.ofChange fnArrivesSomeSpec)

/-- ITS FALSE NEIGHBOUR: 'it returns false'. Refute it at one input. -/
def fnArrivesSomeWrong : ChangeSpec := { name := "fnArrivesSome", fn := fun _ => fun
  | [d] => { results := [.lit (.bool false)], args := [d] }
  | _ => none }
def FnArrivesSomeWrongFalsely : Prop := fnArrivesSomeRow.holds Try.pinned (OpenSpec.ofChange fnArrivesSomeWrong)

/-- 'laws.FnArrivesNoLoop': WHATEVER THE INPUT: true; the input reads as it did. -/
def fnArrivesNoLoopSpec : ChangeSpec := { name := "fnArrivesNoLoop", fn := fun _ => fun
  | [d] => { results := [.lit (.bool true)], args := [d] }
  | _ => none }
def fnArrivesNoLoopRow : OpenClaim := { program := "ytbhkjeicogjfbaa", sum := "67574491f3f96df31a0db94b3e01068a199ca0c75f97af2a6d9bbc5894df3c92", func := "loop.example/linkstaterouting/laws.FnArrivesNoLoop", spec := "fnArrivesNoLoop", unfollowed := true, recurses := true, apart := false }
def FnArrivesNoLoopSaid : Prop := fnArrivesNoLoopRow.holds Try.pinned (OpenSpec.ofChange fnArrivesNoLoopSpec)

/-- ITS FALSE NEIGHBOUR: 'it returns false'. Refute it at one input. -/
def fnArrivesNoLoopWrong : ChangeSpec := { name := "fnArrivesNoLoop", fn := fun _ => fun
  | [d] => { results := [.lit (.bool false)], args := [d] }
  | _ => none }
def FnArrivesNoLoopWrongFalsely : Prop := fnArrivesNoLoopRow.holds Try.pinned (OpenSpec.ofChange fnArrivesNoLoopWrong)

/-- 'laws.FnRepairCritical': WHATEVER THE INPUT: true; the input reads as it did. -/
def fnRepairCriticalSpec : ChangeSpec := { name := "fnRepairCritical", fn := fun _ => fun
  | [d1, d2] => { results := [.lit (.bool true)], args := [d1, d2] }
  | _ => none }
def fnRepairCriticalRow : OpenClaim := { program := "ytbhkjeicogjfbaa", sum := "67574491f3f96df31a0db94b3e01068a199ca0c75f97af2a6d9bbc5894df3c92", func := "loop.example/linkstaterouting/laws.FnRepairCritical", spec := "fnRepairCritical", unfollowed := true, recurses := true, apart := false }
def FnRepairCriticalSaid : Prop := fnRepairCriticalRow.holds Try.pinned (OpenSpec.ofChange fnRepairCriticalSpec)

/-- ITS FALSE NEIGHBOUR: 'it returns false'. Refute it at one input. -/
def fnRepairCriticalWrong : ChangeSpec := { name := "fnRepairCritical", fn := fun _ => fun
  | [d1, d2] => { results := [.lit (.bool false)], args := [d1, d2] }
  | _ => none }
def FnRepairCriticalWrongFalsely : Prop := fnRepairCriticalRow.holds Try.pinned (OpenSpec.ofChange fnRepairCriticalWrong)

/- THE SECOND FORM. 'bulk': how many values and letters a reading holds, each counted each time it is reached (what is shared counts as often as it is met; a slice's spare places count too). A statement '..UptoSaid' is the law's where the arguments, and the package variables that the reading takes, are together of bulk at most 1048576: NARROWER than '..Said'. Prove '..Said' where nothing that the law and all that it calls make is longer than what came in: it says more and counts as full. Else prove '..UptoSaid'. A law counts once. -/
mutual
def uptoBulk {H : Type} : DataW H → Nat
  | .lit (.string bytes) => bytes.length + 1
  | .lit _ => 1
  | .nil => 1
  | .ptr d => uptoBulk d + 1
  | .slice elems spare => uptoBulkAll elems + uptoBulkAll spare + 1
  | .agg parts => uptoBulkAll parts + 1
  | .iface _ d => uptoBulk d + 1
  | .map entries => uptoBulkEntries entries + 1
  | .held _ => 1
def uptoBulkAll {H : Type} : List (DataW H) → Nat
  | [] => 0
  | d :: r => uptoBulk d + uptoBulkAll r
def uptoBulkEntries {H : Type} : List (Lit × DataW H) → Nat
  | [] => 0
  | x :: r => uptoBulkEntry x + uptoBulkEntries r
def uptoBulkEntry {H : Type} : Lit × DataW H → Nat
  | (.string bytes, d) => bytes.length + uptoBulk d + 1
  | (_, d) => uptoBulk d + 1
 end
def uptoSmall : (H : Type) → List (DataW H) → Bool := fun _ ds => decide (uptoBulkAll ds ≤ 1048576)
def OpenSpec.upto (s : _root_.Go.ChangeSpec) : _root_.Go.OpenSpec := { _root_.Go.OpenSpec.ofChange s with cond := some uptoSmall }

/-- 'laws.FnNoLoop', WHERE WHAT IT READS IS OF BULK AT MOST 1048576: true; the input reads as it did. -/
def fnNoLoopUptoRow : OpenClaim := { program := "ytbhkjeicogjfbaa", sum := "67574491f3f96df31a0db94b3e01068a199ca0c75f97af2a6d9bbc5894df3c92", func := "loop.example/linkstaterouting/laws.FnNoLoop", spec := "fnNoLoop", unfollowed := true, recurses := true, apart := false, narrowed := true }
def FnNoLoopUptoSaid : Prop := fnNoLoopUptoRow.holds Try.pinned (OpenSpec.upto fnNoLoopSpec)

/-- 'laws.FnArrivesMore', WHERE WHAT IT READS IS OF BULK AT MOST 1048576: true; the input reads as it did. -/
def fnArrivesMoreUptoRow : OpenClaim := { program := "ytbhkjeicogjfbaa", sum := "67574491f3f96df31a0db94b3e01068a199ca0c75f97af2a6d9bbc5894df3c92", func := "loop.example/linkstaterouting/laws.FnArrivesMore", spec := "fnArrivesMore", unfollowed := true, recurses := true, apart := false, narrowed := true }
def FnArrivesMoreUptoSaid : Prop := fnArrivesMoreUptoRow.holds Try.pinned (OpenSpec.upto fnArrivesMoreSpec)

/-- 'laws.FnArrivesAll', WHERE WHAT IT READS IS OF BULK AT MOST 1048576: true; the input reads as it did. -/
def fnArrivesAllUptoRow : OpenClaim := { program := "ytbhkjeicogjfbaa", sum := "67574491f3f96df31a0db94b3e01068a199ca0c75f97af2a6d9bbc5894df3c92", func := "loop.example/linkstaterouting/laws.FnArrivesAll", spec := "fnArrivesAll", unfollowed := true, recurses := true, apart := false, narrowed := true }
def FnArrivesAllUptoSaid : Prop := fnArrivesAllUptoRow.holds Try.pinned (OpenSpec.upto fnArrivesAllSpec)

/-- 'laws.FnExactMixedHops', WHERE WHAT IT READS IS OF BULK AT MOST 1048576: true; the input reads as it did. -/
def fnExactMixedHopsUptoRow : OpenClaim := { program := "ytbhkjeicogjfbaa", sum := "67574491f3f96df31a0db94b3e01068a199ca0c75f97af2a6d9bbc5894df3c92", func := "loop.example/linkstaterouting/laws.FnExactMixedHops", spec := "fnExactMixedHops", unfollowed := true, recurses := true, apart := false, narrowed := true }
def FnExactMixedHopsUptoSaid : Prop := fnExactMixedHopsUptoRow.holds Try.pinned (OpenSpec.upto fnExactMixedHopsSpec)

/-- 'laws.FnMixedNew', WHERE WHAT IT READS IS OF BULK AT MOST 1048576: true; the input reads as it did. -/
def fnMixedNewUptoRow : OpenClaim := { program := "ytbhkjeicogjfbaa", sum := "67574491f3f96df31a0db94b3e01068a199ca0c75f97af2a6d9bbc5894df3c92", func := "loop.example/linkstaterouting/laws.FnMixedNew", spec := "fnMixedNew", unfollowed := true, recurses := true, apart := false, narrowed := true }
def FnMixedNewUptoSaid : Prop := fnMixedNewUptoRow.holds Try.pinned (OpenSpec.upto fnMixedNewSpec)

/-- 'laws.FnMixedUnused', WHERE WHAT IT READS IS OF BULK AT MOST 1048576: true; the input reads as it did. -/
def fnMixedUnusedUptoRow : OpenClaim := { program := "ytbhkjeicogjfbaa", sum := "67574491f3f96df31a0db94b3e01068a199ca0c75f97af2a6d9bbc5894df3c92", func := "loop.example/linkstaterouting/laws.FnMixedUnused", spec := "fnMixedUnused", unfollowed := true, recurses := true, apart := false, narrowed := true }
def FnMixedUnusedUptoSaid : Prop := fnMixedUnusedUptoRow.holds Try.pinned (OpenSpec.upto fnMixedUnusedSpec)

/-- 'laws.FnMixedOld', WHERE WHAT IT READS IS OF BULK AT MOST 1048576: true; the input reads as it did. -/
def fnMixedOldUptoRow : OpenClaim := { program := "ytbhkjeicogjfbaa", sum := "67574491f3f96df31a0db94b3e01068a199ca0c75f97af2a6d9bbc5894df3c92", func := "loop.example/linkstaterouting/laws.FnMixedOld", spec := "fnMixedOld", unfollowed := true, recurses := true, apart := false, narrowed := true }
def FnMixedOldUptoSaid : Prop := fnMixedOldUptoRow.holds Try.pinned (OpenSpec.upto fnMixedOldSpec)

/-- 'laws.FnExactMixedArrives', WHERE WHAT IT READS IS OF BULK AT MOST 1048576: true; the input reads as it did. -/
def fnExactMixedArrivesUptoRow : OpenClaim := { program := "ytbhkjeicogjfbaa", sum := "67574491f3f96df31a0db94b3e01068a199ca0c75f97af2a6d9bbc5894df3c92", func := "loop.example/linkstaterouting/laws.FnExactMixedArrives", spec := "fnExactMixedArrives", unfollowed := true, recurses := true, apart := false, narrowed := true }
def FnExactMixedArrivesUptoSaid : Prop := fnExactMixedArrivesUptoRow.holds Try.pinned (OpenSpec.upto fnExactMixedArrivesSpec)

/-- 'laws.FnExactMixedLoop', WHERE WHAT IT READS IS OF BULK AT MOST 1048576: true; the input reads as it did. -/
def fnExactMixedLoopUptoRow : OpenClaim := { program := "ytbhkjeicogjfbaa", sum := "67574491f3f96df31a0db94b3e01068a199ca0c75f97af2a6d9bbc5894df3c92", func := "loop.example/linkstaterouting/laws.FnExactMixedLoop", spec := "fnExactMixedLoop", unfollowed := true, recurses := true, apart := false, narrowed := true }
def FnExactMixedLoopUptoSaid : Prop := fnExactMixedLoopUptoRow.holds Try.pinned (OpenSpec.upto fnExactMixedLoopSpec)

/-- 'laws.FnLoopNodes', WHERE WHAT IT READS IS OF BULK AT MOST 1048576: true; the input reads as it did. -/
def fnLoopNodesUptoRow : OpenClaim := { program := "ytbhkjeicogjfbaa", sum := "67574491f3f96df31a0db94b3e01068a199ca0c75f97af2a6d9bbc5894df3c92", func := "loop.example/linkstaterouting/laws.FnLoopNodes", spec := "fnLoopNodes", unfollowed := true, recurses := true, apart := false, narrowed := true }
def FnLoopNodesUptoSaid : Prop := fnLoopNodesUptoRow.holds Try.pinned (OpenSpec.upto fnLoopNodesSpec)

/-- 'laws.FnArrivesSome', WHERE WHAT IT READS IS OF BULK AT MOST 1048576: true; the input reads as it did. -/
def fnArrivesSomeUptoRow : OpenClaim := { program := "ytbhkjeicogjfbaa", sum := "67574491f3f96df31a0db94b3e01068a199ca0c75f97af2a6d9bbc5894df3c92", func := "loop.example/linkstaterouting/laws.FnArrivesSome", spec := "fnArrivesSome", unfollowed := true, recurses := true, apart := false, narrowed := true }
def FnArrivesSomeUptoSaid : Prop := fnArrivesSomeUptoRow.holds Try.pinned (OpenSpec.upto fnArrivesSomeSpec)

/-- 'laws.FnArrivesNoLoop', WHERE WHAT IT READS IS OF BULK AT MOST 1048576: true; the input reads as it did. -/
def fnArrivesNoLoopUptoRow : OpenClaim := { program := "ytbhkjeicogjfbaa", sum := "67574491f3f96df31a0db94b3e01068a199ca0c75f97af2a6d9bbc5894df3c92", func := "loop.example/linkstaterouting/laws.FnArrivesNoLoop", spec := "fnArrivesNoLoop", unfollowed := true, recurses := true, apart := false, narrowed := true }
def FnArrivesNoLoopUptoSaid : Prop := fnArrivesNoLoopUptoRow.holds Try.pinned (OpenSpec.upto fnArrivesNoLoopSpec)

/-- 'laws.FnRepairCritical', WHERE WHAT IT READS IS OF BULK AT MOST 1048576: true; the input reads as it did. -/
def fnRepairCriticalUptoRow : OpenClaim := { program := "ytbhkjeicogjfbaa", sum := "67574491f3f96df31a0db94b3e01068a199ca0c75f97af2a6d9bbc5894df3c92", func := "loop.example/linkstaterouting/laws.FnRepairCritical", spec := "fnRepairCritical", unfollowed := true, recurses := true, apart := false, narrowed := true }
def FnRepairCriticalUptoSaid : Prop := fnRepairCriticalUptoRow.holds Try.pinned (OpenSpec.upto fnRepairCriticalSpec)

end Rows
end Go.Proofs.Ytbhkjeicogjfbaa
