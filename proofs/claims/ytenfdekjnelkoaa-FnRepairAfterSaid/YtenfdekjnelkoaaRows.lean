/-
  No cell of these rows narrows 'for every input' (looked for: loops, veiled, ifaces, maps, wideKeys, modest, calm, conditions, laid).
  DERIVED. THE GIVEN ROWS OF THIS SEAT. 12 by the template 'for every input the law returns true; each argument reads behind the call as it read before'; 0 by the template 'total and deterministic' (their statements: YtenfdekjnelkoaaTotals.lean).
  GIVEN WITH THE SEED: the statements are not yours to turn. If you find one false, say at which input.
  Laid BY PROGRAM, IN A SANDBOX (cutbox-rows.mjs): the forced cells as the released guide's own fill.sh prints them over the translation 42d0c35a2d10e53f… (all of the seat's roots in one cut). By AI agents, Wed Nov 11 2026. No macro, syntax, notation, axiom, sorry.
-/
import Derived.Test.YtenfdekjnelkoaaChecked
import GoSem.Claim
import GoSem.ClaimJoined
import GoSem.ClaimMapViews
import Derived.JoinedTies
import Derived.KernelRfl
namespace Go.Proofs.Ytenfdekjnelkoaa
/- THE CELL 'sum', in the pinned program and in every row, IS THE sha256 OF THE DUMP (.gsa) THAT YtenfdekjnelkoaaProg.lean LOADS. Nothing in Lean hashes anything: it is a label: what it is worth is what the hold of that sum in a sandbox is worth. -/
noncomputable def Try.pinned : Pinned := { name := "ytenfdekjnelkoaa", sum := "42d0c35a2d10e53fa1288121d6129db923610c87eae4e1850320a61c0e15bb1c", checked := Try.checked }
namespace Rows
def none {H : Type} : Left H := { results := [], args := [] }

/-- 'laws.FnRepairCritical': WHATEVER THE INPUT: true; the input reads as it did. -/
def fnRepairCriticalSpec : ChangeSpec := { name := "fnRepairCritical", fn := fun _ => fun
  | [d1, d2] => { results := [.lit (.bool true)], args := [d1, d2] }
  | _ => none }
def fnRepairCriticalRow : OpenClaim := { program := "ytenfdekjnelkoaa", sum := "42d0c35a2d10e53fa1288121d6129db923610c87eae4e1850320a61c0e15bb1c", func := "loop.example/linkstaterouting/laws.FnRepairCritical", spec := "fnRepairCritical", unfollowed := true, recurses := true, apart := false }
def FnRepairCriticalSaid : Prop := fnRepairCriticalRow.holds Try.pinned (OpenSpec.ofChange fnRepairCriticalSpec)

/-- ITS FALSE NEIGHBOUR: 'it returns false'. Refute it at one input. -/
def fnRepairCriticalWrong : ChangeSpec := { name := "fnRepairCritical", fn := fun _ => fun
  | [d1, d2] => { results := [.lit (.bool false)], args := [d1, d2] }
  | _ => none }
def FnRepairCriticalWrongFalsely : Prop := fnRepairCriticalRow.holds Try.pinned (OpenSpec.ofChange fnRepairCriticalWrong)

/-- 'laws.FnExactRepairPath': WHATEVER THE INPUT: true; the input reads as it did. -/
def fnExactRepairPathSpec : ChangeSpec := { name := "fnExactRepairPath", fn := fun _ => fun
  | [d1, d2, d3, d4] => { results := [.lit (.bool true)], args := [d1, d2, d3, d4] }
  | _ => none }
def fnExactRepairPathRow : OpenClaim := { program := "ytenfdekjnelkoaa", sum := "42d0c35a2d10e53fa1288121d6129db923610c87eae4e1850320a61c0e15bb1c", func := "loop.example/linkstaterouting/laws.FnExactRepairPath", spec := "fnExactRepairPath", unfollowed := true, recurses := true, apart := false }
def FnExactRepairPathSaid : Prop := fnExactRepairPathRow.holds Try.pinned (OpenSpec.ofChange fnExactRepairPathSpec)

/-- ITS FALSE NEIGHBOUR: 'it returns false'. Refute it at one input. -/
def fnExactRepairPathWrong : ChangeSpec := { name := "fnExactRepairPath", fn := fun _ => fun
  | [d1, d2, d3, d4] => { results := [.lit (.bool false)], args := [d1, d2, d3, d4] }
  | _ => none }
def FnExactRepairPathWrongFalsely : Prop := fnExactRepairPathRow.holds Try.pinned (OpenSpec.ofChange fnExactRepairPathWrong)

/-- 'laws.FnRepairPath': WHATEVER THE INPUT: true; the input reads as it did. -/
def fnRepairPathSpec : ChangeSpec := { name := "fnRepairPath", fn := fun _ => fun
  | [d] => { results := [.lit (.bool true)], args := [d] }
  | _ => none }
def fnRepairPathRow : OpenClaim := { program := "ytenfdekjnelkoaa", sum := "42d0c35a2d10e53fa1288121d6129db923610c87eae4e1850320a61c0e15bb1c", func := "loop.example/linkstaterouting/laws.FnRepairPath", spec := "fnRepairPath", unfollowed := true, recurses := true, apart := false }
def FnRepairPathSaid : Prop := fnRepairPathRow.holds Try.pinned (OpenSpec.ofChange fnRepairPathSpec)

/-- ITS FALSE NEIGHBOUR: 'it returns false'. Refute it at one input. -/
def fnRepairPathWrong : ChangeSpec := { name := "fnRepairPath", fn := fun _ => fun
  | [d] => { results := [.lit (.bool false)], args := [d] }
  | _ => none }
def FnRepairPathWrongFalsely : Prop := fnRepairPathRow.holds Try.pinned (OpenSpec.ofChange fnRepairPathWrong)

/-- 'laws.FnRepairOwn': WHATEVER THE INPUT: true; the input reads as it did. -/
def fnRepairOwnSpec : ChangeSpec := { name := "fnRepairOwn", fn := fun _ => fun
  | [d] => { results := [.lit (.bool true)], args := [d] }
  | _ => none }
def fnRepairOwnRow : OpenClaim := { program := "ytenfdekjnelkoaa", sum := "42d0c35a2d10e53fa1288121d6129db923610c87eae4e1850320a61c0e15bb1c", func := "loop.example/linkstaterouting/laws.FnRepairOwn", spec := "fnRepairOwn", unfollowed := true, recurses := true, apart := false }
def FnRepairOwnSaid : Prop := fnRepairOwnRow.holds Try.pinned (OpenSpec.ofChange fnRepairOwnSpec)

/-- ITS FALSE NEIGHBOUR: 'it returns false'. Refute it at one input. -/
def fnRepairOwnWrong : ChangeSpec := { name := "fnRepairOwn", fn := fun _ => fun
  | [d] => { results := [.lit (.bool false)], args := [d] }
  | _ => none }
def FnRepairOwnWrongFalsely : Prop := fnRepairOwnRow.holds Try.pinned (OpenSpec.ofChange fnRepairOwnWrong)

/-- 'laws.FnRepairShort': WHATEVER THE INPUT: true; the input reads as it did. -/
def fnRepairShortSpec : ChangeSpec := { name := "fnRepairShort", fn := fun _ => fun
  | [d] => { results := [.lit (.bool true)], args := [d] }
  | _ => none }
def fnRepairShortRow : OpenClaim := { program := "ytenfdekjnelkoaa", sum := "42d0c35a2d10e53fa1288121d6129db923610c87eae4e1850320a61c0e15bb1c", func := "loop.example/linkstaterouting/laws.FnRepairShort", spec := "fnRepairShort", unfollowed := true, recurses := true, apart := false }
def FnRepairShortSaid : Prop := fnRepairShortRow.holds Try.pinned (OpenSpec.ofChange fnRepairShortSpec)

/-- ITS FALSE NEIGHBOUR: 'it returns false'. Refute it at one input. -/
def fnRepairShortWrong : ChangeSpec := { name := "fnRepairShort", fn := fun _ => fun
  | [d] => { results := [.lit (.bool false)], args := [d] }
  | _ => none }
def FnRepairShortWrongFalsely : Prop := fnRepairShortRow.holds Try.pinned (OpenSpec.ofChange fnRepairShortWrong)

/-- 'laws.FnRepairAlways': WHATEVER THE INPUT: true; the input reads as it did. -/
def fnRepairAlwaysSpec : ChangeSpec := { name := "fnRepairAlways", fn := fun _ => fun
  | [d] => { results := [.lit (.bool true)], args := [d] }
  | _ => none }
def fnRepairAlwaysRow : OpenClaim := { program := "ytenfdekjnelkoaa", sum := "42d0c35a2d10e53fa1288121d6129db923610c87eae4e1850320a61c0e15bb1c", func := "loop.example/linkstaterouting/laws.FnRepairAlways", spec := "fnRepairAlways", unfollowed := true, recurses := true, apart := false }
def FnRepairAlwaysSaid : Prop := fnRepairAlwaysRow.holds Try.pinned (OpenSpec.ofChange fnRepairAlwaysSpec)

/-- ITS FALSE NEIGHBOUR: 'it returns false'. Refute it at one input. -/
def fnRepairAlwaysWrong : ChangeSpec := { name := "fnRepairAlways", fn := fun _ => fun
  | [d] => { results := [.lit (.bool false)], args := [d] }
  | _ => none }
def FnRepairAlwaysWrongFalsely : Prop := fnRepairAlwaysRow.holds Try.pinned (OpenSpec.ofChange fnRepairAlwaysWrong)

/-- 'laws.FnRepairSafe': WHATEVER THE INPUT: true; the input reads as it did. -/
def fnRepairSafeSpec : ChangeSpec := { name := "fnRepairSafe", fn := fun _ => fun
  | [d] => { results := [.lit (.bool true)], args := [d] }
  | _ => none }
def fnRepairSafeRow : OpenClaim := { program := "ytenfdekjnelkoaa", sum := "42d0c35a2d10e53fa1288121d6129db923610c87eae4e1850320a61c0e15bb1c", func := "loop.example/linkstaterouting/laws.FnRepairSafe", spec := "fnRepairSafe", unfollowed := true, recurses := true, apart := false }
def FnRepairSafeSaid : Prop := fnRepairSafeRow.holds Try.pinned (OpenSpec.ofChange fnRepairSafeSpec)

/-- ITS FALSE NEIGHBOUR: 'it returns false'. Refute it at one input. -/
def fnRepairSafeWrong : ChangeSpec := { name := "fnRepairSafe", fn := fun _ => fun
  | [d] => { results := [.lit (.bool false)], args := [d] }
  | _ => none }
def FnRepairSafeWrongFalsely : Prop := fnRepairSafeRow.holds Try.pinned (OpenSpec.ofChange fnRepairSafeWrong)

/-- 'laws.FnExactRepairStack': WHATEVER THE INPUT: true; the input reads as it did. -/
def fnExactRepairStackSpec : ChangeSpec := { name := "fnExactRepairStack", fn := fun _ => fun
  | [d1, d2, d3, d4] => { results := [.lit (.bool true)], args := [d1, d2, d3, d4] }
  | _ => none }
def fnExactRepairStackRow : OpenClaim := { program := "ytenfdekjnelkoaa", sum := "42d0c35a2d10e53fa1288121d6129db923610c87eae4e1850320a61c0e15bb1c", func := "loop.example/linkstaterouting/laws.FnExactRepairStack", spec := "fnExactRepairStack", unfollowed := true, recurses := true, apart := false }
def FnExactRepairStackSaid : Prop := fnExactRepairStackRow.holds Try.pinned (OpenSpec.ofChange fnExactRepairStackSpec)

/-- ITS FALSE NEIGHBOUR: 'it returns false'. Refute it at one input. -/
def fnExactRepairStackWrong : ChangeSpec := { name := "fnExactRepairStack", fn := fun _ => fun
  | [d1, d2, d3, d4] => { results := [.lit (.bool false)], args := [d1, d2, d3, d4] }
  | _ => none }
def FnExactRepairStackWrongFalsely : Prop := fnExactRepairStackRow.holds Try.pinned (OpenSpec.ofChange fnExactRepairStackWrong)

/-- 'laws.FnRepair': WHATEVER THE INPUT: true; the input reads as it did. -/
def fnRepairSpec : ChangeSpec := { name := "fnRepair", fn := fun _ => fun
  | [d] => { results := [.lit (.bool true)], args := [d] }
  | _ => none }
def fnRepairRow : OpenClaim := { program := "ytenfdekjnelkoaa", sum := "42d0c35a2d10e53fa1288121d6129db923610c87eae4e1850320a61c0e15bb1c", func := "loop.example/linkstaterouting/laws.FnRepair", spec := "fnRepair", unfollowed := true, recurses := true, apart := false }
def FnRepairSaid : Prop := fnRepairRow.holds Try.pinned (OpenSpec.ofChange fnRepairSpec)

/-- ITS FALSE NEIGHBOUR: 'it returns false'. Refute it at one input. -/
def fnRepairWrong : ChangeSpec := { name := "fnRepair", fn := fun _ => fun
  | [d] => { results := [.lit (.bool false)], args := [d] }
  | _ => none }
def FnRepairWrongFalsely : Prop := fnRepairRow.holds Try.pinned (OpenSpec.ofChange fnRepairWrong)

/-- 'laws.FnRepairAfter': WHATEVER THE INPUT: true; the input reads as it did. -/
def fnRepairAfterSpec : ChangeSpec := { name := "fnRepairAfter", fn := fun _ => fun
  | [d] => { results := [.lit (.bool true)], args := [d] }
  | _ => none }
def fnRepairAfterRow : OpenClaim := { program := "ytenfdekjnelkoaa", sum := "42d0c35a2d10e53fa1288121d6129db923610c87eae4e1850320a61c0e15bb1c", func := "loop.example/linkstaterouting/laws.FnRepairAfter", spec := "fnRepairAfter", unfollowed := true, recurses := true, apart := false }
def FnRepairAfterSaid : Prop := fnRepairAfterRow.holds Try.pinned (OpenSpec.ofChange fnRepairAfterSpec)

/-- ITS FALSE NEIGHBOUR: 'it returns false'. Refute it at one input. -/
def fnRepairAfterWrong : ChangeSpec := { name := "fnRepairAfter", fn := fun _ => fun
  | [d] => { results := [.lit (.bool false)], args := [d] }
  | _ => none }
def FnRepairAfterWrongFalsely : Prop := fnRepairAfterRow.holds Try.pinned (OpenSpec.ofChange fnRepairAfterWrong)

/-- 'laws.FnRepairCost': WHATEVER THE INPUT: true; the input reads as it did. -/
def fnRepairCostSpec : ChangeSpec := { name := "fnRepairCost", fn := fun _ => fun
  | [d] => { results := [.lit (.bool true)], args := [d] }
  | _ => none }
def fnRepairCostRow : OpenClaim := { program := "ytenfdekjnelkoaa", sum := "42d0c35a2d10e53fa1288121d6129db923610c87eae4e1850320a61c0e15bb1c", func := "loop.example/linkstaterouting/laws.FnRepairCost", spec := "fnRepairCost", unfollowed := true, recurses := true, apart := false }
def FnRepairCostSaid : Prop := fnRepairCostRow.holds Try.pinned (OpenSpec.ofChange fnRepairCostSpec)

/-- ITS FALSE NEIGHBOUR: 'it returns false'. Refute it at one input. -/
def fnRepairCostWrong : ChangeSpec := { name := "fnRepairCost", fn := fun _ => fun
  | [d] => { results := [.lit (.bool false)], args := [d] }
  | _ => none }
def FnRepairCostWrongFalsely : Prop := fnRepairCostRow.holds Try.pinned (OpenSpec.ofChange fnRepairCostWrong)

/-- 'laws.FnRepairNodes': WHATEVER THE INPUT: true; the input reads as it did. -/
def fnRepairNodesSpec : ChangeSpec := { name := "fnRepairNodes", fn := fun _ => fun
  | [d] => { results := [.lit (.bool true)], args := [d] }
  | _ => none }
def fnRepairNodesRow : OpenClaim := { program := "ytenfdekjnelkoaa", sum := "42d0c35a2d10e53fa1288121d6129db923610c87eae4e1850320a61c0e15bb1c", func := "loop.example/linkstaterouting/laws.FnRepairNodes", spec := "fnRepairNodes", unfollowed := true, recurses := true, apart := false }
def FnRepairNodesSaid : Prop := fnRepairNodesRow.holds Try.pinned (OpenSpec.ofChange fnRepairNodesSpec)

/-- ITS FALSE NEIGHBOUR: 'it returns false'. Refute it at one input. -/
def fnRepairNodesWrong : ChangeSpec := { name := "fnRepairNodes", fn := fun _ => fun
  | [d] => { results := [.lit (.bool false)], args := [d] }
  | _ => none }
def FnRepairNodesWrongFalsely : Prop := fnRepairNodesRow.holds Try.pinned (OpenSpec.ofChange fnRepairNodesWrong)

/- THE SECOND FORM. 'bulk': how many values and letters a reading holds, each counted each time it is reached (what is shared counts as often as it is met; a slice's spare places count too). A statement '..UptoSaid' is the law's where the arguments, and the package variables that the reading takes, are together of bulk at most 1048576: NARROWER than '..Said'. Prove '..Said' where nothing that the law and all that it calls make is longer than what came in: it says more and counts as full. Else prove '..UptoSaid'. A law counts once. -/
mutual
def uptoBulk {H : Type} : DataW H → Nat
  | .lit (.string bytes) => bytes.length + 1
  | .lit _ => 1
  | .nil => 1
  | .ptr d => uptoBulk d + 1
  | .slice elems spare => uptoBulkAll elems + uptoBulkAll spare + 1
  | .agg parts => uptoBulkAll parts + 1
  | .iface _ d => uptoBulk d + 1
  | .map entries => uptoBulkEntries entries + 1
  | .held _ => 1
def uptoBulkAll {H : Type} : List (DataW H) → Nat
  | [] => 0
  | d :: r => uptoBulk d + uptoBulkAll r
def uptoBulkEntries {H : Type} : List (Lit × DataW H) → Nat
  | [] => 0
  | x :: r => uptoBulkEntry x + uptoBulkEntries r
def uptoBulkEntry {H : Type} : Lit × DataW H → Nat
  | (.string bytes, d) => bytes.length + uptoBulk d + 1
  | (_, d) => uptoBulk d + 1
 end
def uptoSmall : (H : Type) → List (DataW H) → Bool := fun _ ds => decide (uptoBulkAll ds ≤ 1048576)
def OpenSpec.upto (s : _root_.Go.ChangeSpec) : _root_.Go.OpenSpec := { _root_.Go.OpenSpec.ofChange s with cond := some uptoSmall }

/-- 'laws.FnRepairCritical', WHERE WHAT IT READS IS OF BULK AT MOST 1048576: true; the input reads as it did. -/
def fnRepairCriticalUptoRow : OpenClaim := { program := "ytenfdekjnelkoaa", sum := "42d0c35a2d10e53fa1288121d6129db923610c87eae4e1850320a61c0e15bb1c", func := "loop.example/linkstaterouting/laws.FnRepairCritical", spec := "fnRepairCritical", unfollowed := true, recurses := true, apart := false, narrowed := true }
def FnRepairCriticalUptoSaid : Prop := fnRepairCriticalUptoRow.holds Try.pinned (OpenSpec.upto fnRepairCriticalSpec)

/-- 'laws.FnExactRepairPath', WHERE WHAT IT READS IS OF BULK AT MOST 1048576: true; the input reads as it did. -/
def fnExactRepairPathUptoRow : OpenClaim := { program := "ytenfdekjnelkoaa", sum := "42d0c35a2d10e53fa1288121d6129db923610c87eae4e1850320a61c0e15bb1c", func := "loop.example/linkstaterouting/laws.FnExactRepairPath", spec := "fnExactRepairPath", unfollowed := true, recurses := true, apart := false, narrowed := true }
def FnExactRepairPathUptoSaid : Prop := fnExactRepairPathUptoRow.holds Try.pinned (OpenSpec.upto fnExactRepairPathSpec)

/-- 'laws.FnRepairPath', WHERE WHAT IT READS IS OF BULK AT MOST 1048576: true; the input reads as it did. -/
def fnRepairPathUptoRow : OpenClaim := { program := "ytenfdekjnelkoaa", sum := "42d0c35a2d10e53fa1288121d6129db923610c87eae4e1850320a61c0e15bb1c", func := "loop.example/linkstaterouting/laws.FnRepairPath", spec := "fnRepairPath", unfollowed := true, recurses := true, apart := false, narrowed := true }
def FnRepairPathUptoSaid : Prop := fnRepairPathUptoRow.holds Try.pinned (OpenSpec.upto fnRepairPathSpec)

/-- 'laws.FnRepairOwn', WHERE WHAT IT READS IS OF BULK AT MOST 1048576: true; the input reads as it did. -/
def fnRepairOwnUptoRow : OpenClaim := { program := "ytenfdekjnelkoaa", sum := "42d0c35a2d10e53fa1288121d6129db923610c87eae4e1850320a61c0e15bb1c", func := "loop.example/linkstaterouting/laws.FnRepairOwn", spec := "fnRepairOwn", unfollowed := true, recurses := true, apart := false, narrowed := true }
def FnRepairOwnUptoSaid : Prop := fnRepairOwnUptoRow.holds Try.pinned (OpenSpec.upto fnRepairOwnSpec)

/-- 'laws.FnRepairShort', WHERE WHAT IT READS IS OF BULK AT MOST 1048576: true; the input reads as it did. -/
def fnRepairShortUptoRow : OpenClaim := { program := "ytenfdekjnelkoaa", sum := "42d0c35a2d10e53fa1288121d6129db923610c87eae4e1850320a61c0e15bb1c", func := "loop.example/linkstaterouting/laws.FnRepairShort", spec := "fnRepairShort", unfollowed := true, recurses := true, apart := false, narrowed := true }
def FnRepairShortUptoSaid : Prop := fnRepairShortUptoRow.holds Try.pinned (OpenSpec.upto fnRepairShortSpec)

/-- 'laws.FnRepairAlways', WHERE WHAT IT READS IS OF BULK AT MOST 1048576: true; the input reads as it did. -/
def fnRepairAlwaysUptoRow : OpenClaim := { program := "ytenfdekjnelkoaa", sum := "42d0c35a2d10e53fa1288121d6129db923610c87eae4e1850320a61c0e15bb1c", func := "loop.example/linkstaterouting/laws.FnRepairAlways", spec := "fnRepairAlways", unfollowed := true, recurses := true, apart := false, narrowed := true }
def FnRepairAlwaysUptoSaid : Prop := fnRepairAlwaysUptoRow.holds Try.pinned (OpenSpec.upto fnRepairAlwaysSpec)

/-- 'laws.FnRepairSafe', WHERE WHAT IT READS IS OF BULK AT MOST 1048576: true; the input reads as it did. -/
def fnRepairSafeUptoRow : OpenClaim := { program := "ytenfdekjnelkoaa", sum := "42d0c35a2d10e53fa1288121d6129db923610c87eae4e1850320a61c0e15bb1c", func := "loop.example/linkstaterouting/laws.FnRepairSafe", spec := "fnRepairSafe", unfollowed := true, recurses := true, apart := false, narrowed := true }
def FnRepairSafeUptoSaid : Prop := fnRepairSafeUptoRow.holds Try.pinned (OpenSpec.upto fnRepairSafeSpec)

/-- 'laws.FnExactRepairStack', WHERE WHAT IT READS IS OF BULK AT MOST 1048576: true; the input reads as it did. -/
def fnExactRepairStackUptoRow : OpenClaim := { program := "ytenfdekjnelkoaa", sum := "42d0c35a2d10e53fa1288121d6129db923610c87eae4e1850320a61c0e15bb1c", func := "loop.example/linkstaterouting/laws.FnExactRepairStack", spec := "fnExactRepairStack", unfollowed := true, recurses := true, apart := false, narrowed := true }
def FnExactRepairStackUptoSaid : Prop := fnExactRepairStackUptoRow.holds Try.pinned (OpenSpec.upto fnExactRepairStackSpec)

/-- 'laws.FnRepair', WHERE WHAT IT READS IS OF BULK AT MOST 1048576: true; the input reads as it did. -/
def fnRepairUptoRow : OpenClaim := { program := "ytenfdekjnelkoaa", sum := "42d0c35a2d10e53fa1288121d6129db923610c87eae4e1850320a61c0e15bb1c", func := "loop.example/linkstaterouting/laws.FnRepair", spec := "fnRepair", unfollowed := true, recurses := true, apart := false, narrowed := true }
def FnRepairUptoSaid : Prop := fnRepairUptoRow.holds Try.pinned (OpenSpec.upto fnRepairSpec)

/-- 'laws.FnRepairAfter', WHERE WHAT IT READS IS OF BULK AT MOST 1048576: true; the input reads as it did. -/
def fnRepairAfterUptoRow : OpenClaim := { program := "ytenfdekjnelkoaa", sum := "42d0c35a2d10e53fa1288121d6129db923610c87eae4e1850320a61c0e15bb1c", func := "loop.example/linkstaterouting/laws.FnRepairAfter", spec := "fnRepairAfter", unfollowed := true, recurses := true, apart := false, narrowed := true }
def FnRepairAfterUptoSaid : Prop := fnRepairAfterUptoRow.holds Try.pinned (OpenSpec.upto fnRepairAfterSpec)

/-- 'laws.FnRepairCost', WHERE WHAT IT READS IS OF BULK AT MOST 1048576: true; the input reads as it did. -/
def fnRepairCostUptoRow : OpenClaim := { program := "ytenfdekjnelkoaa", sum := "42d0c35a2d10e53fa1288121d6129db923610c87eae4e1850320a61c0e15bb1c", func := "loop.example/linkstaterouting/laws.FnRepairCost", spec := "fnRepairCost", unfollowed := true, recurses := true, apart := false, narrowed := true }
def FnRepairCostUptoSaid : Prop := fnRepairCostUptoRow.holds Try.pinned (OpenSpec.upto fnRepairCostSpec)

/-- 'laws.FnRepairNodes', WHERE WHAT IT READS IS OF BULK AT MOST 1048576: true; the input reads as it did. -/
def fnRepairNodesUptoRow : OpenClaim := { program := "ytenfdekjnelkoaa", sum := "42d0c35a2d10e53fa1288121d6129db923610c87eae4e1850320a61c0e15bb1c", func := "loop.example/linkstaterouting/laws.FnRepairNodes", spec := "fnRepairNodes", unfollowed := true, recurses := true, apart := false, narrowed := true }
def FnRepairNodesUptoSaid : Prop := fnRepairNodesUptoRow.holds Try.pinned (OpenSpec.upto fnRepairNodesSpec)

end Rows
end Go.Proofs.Ytenfdekjnelkoaa
