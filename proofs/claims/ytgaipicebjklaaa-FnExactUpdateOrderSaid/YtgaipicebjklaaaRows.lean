/-
  No cell of these rows narrows 'for every input' (looked for: loops, veiled, ifaces, maps, wideKeys, modest, calm, conditions, laid).
  DERIVED. THE GIVEN ROWS OF THIS SEAT. 10 by the template 'for every input the law returns true; each argument reads behind the call as it read before'; 0 by the template 'total and deterministic' (their statements: YtgaipicebjklaaaTotals.lean).
  GIVEN WITH THE SEED: the statements are not yours to turn. If you find one false, say at which input.
  Laid BY PROGRAM, IN A SANDBOX (cutbox-rows.mjs): the forced cells as the released guide's own fill.sh prints them over the translation 22d3eb9419567603… (all of the seat's roots in one cut). By AI agents, Wed Nov 11 2026. No macro, syntax, notation, axiom, sorry.
-/
import Derived.Test.YtgaipicebjklaaaChecked
import GoSem.Claim
import GoSem.ClaimJoined
import GoSem.ClaimMapViews
import Derived.JoinedTies
import Derived.KernelRfl
namespace Go.Proofs.Ytgaipicebjklaaa
/- THE CELL 'sum', in the pinned program and in every row, IS THE sha256 OF THE DUMP (.gsa) THAT YtgaipicebjklaaaProg.lean LOADS. Nothing in Lean hashes anything: it is a label: what it is worth is what the hold of that sum in a sandbox is worth. -/
noncomputable def Try.pinned : Pinned := { name := "ytgaipicebjklaaa", sum := "22d3eb941956760391c3eed0fff1170ca80b98e610bd469b66e2941a8ad60b0d", checked := Try.checked }
namespace Rows
def none {H : Type} : Left H := { results := [], args := [] }

/-- 'laws.FnNeededBack': WHATEVER THE INPUT: true; the input reads as it did. -/
def fnNeededBackSpec : ChangeSpec := { name := "fnNeededBack", fn := fun _ => fun
  | [d1, d2] => { results := [.lit (.bool true)], args := [d1, d2] }
  | _ => none }
def fnNeededBackRow : OpenClaim := { program := "ytgaipicebjklaaa", sum := "22d3eb941956760391c3eed0fff1170ca80b98e610bd469b66e2941a8ad60b0d", func := "loop.example/linkstaterouting/laws.FnNeededBack", spec := "fnNeededBack", unfollowed := true, recurses := true, apart := false }
def FnNeededBackSaid : Prop := fnNeededBackRow.holds Try.pinned (OpenSpec.ofChange fnNeededBackSpec)

/-- ITS FALSE NEIGHBOUR: 'it returns false'. Refute it at one input. -/
def fnNeededBackWrong : ChangeSpec := { name := "fnNeededBack", fn := fun _ => fun
  | [d1, d2] => { results := [.lit (.bool false)], args := [d1, d2] }
  | _ => none }
def FnNeededBackWrongFalsely : Prop := fnNeededBackRow.holds Try.pinned (OpenSpec.ofChange fnNeededBackWrong)

/-- 'laws.FnExactRepairNeeded': WHATEVER THE INPUT: true; the input reads as it did. -/
def fnExactRepairNeededSpec : ChangeSpec := { name := "fnExactRepairNeeded", fn := fun _ => fun
  | [d1, d2, d3] => { results := [.lit (.bool true)], args := [d1, d2, d3] }
  | _ => none }
def fnExactRepairNeededRow : OpenClaim := { program := "ytgaipicebjklaaa", sum := "22d3eb941956760391c3eed0fff1170ca80b98e610bd469b66e2941a8ad60b0d", func := "loop.example/linkstaterouting/laws.FnExactRepairNeeded", spec := "fnExactRepairNeeded", unfollowed := true, recurses := true, apart := false }
def FnExactRepairNeededSaid : Prop := fnExactRepairNeededRow.holds Try.pinned (OpenSpec.ofChange fnExactRepairNeededSpec)

/-- ITS FALSE NEIGHBOUR: 'it returns false'. Refute it at one input. -/
def fnExactRepairNeededWrong : ChangeSpec := { name := "fnExactRepairNeeded", fn := fun _ => fun
  | [d1, d2, d3] => { results := [.lit (.bool false)], args := [d1, d2, d3] }
  | _ => none }
def FnExactRepairNeededWrongFalsely : Prop := fnExactRepairNeededRow.holds Try.pinned (OpenSpec.ofChange fnExactRepairNeededWrong)

/-- 'laws.FnExactRepairSafe': WHATEVER THE INPUT: true; the input reads as it did. -/
def fnExactRepairSafeSpec : ChangeSpec := { name := "fnExactRepairSafe", fn := fun _ => fun
  | [d1, d2, d3] => { results := [.lit (.bool true)], args := [d1, d2, d3] }
  | _ => none }
def fnExactRepairSafeRow : OpenClaim := { program := "ytgaipicebjklaaa", sum := "22d3eb941956760391c3eed0fff1170ca80b98e610bd469b66e2941a8ad60b0d", func := "loop.example/linkstaterouting/laws.FnExactRepairSafe", spec := "fnExactRepairSafe", unfollowed := true, recurses := true, apart := false }
def FnExactRepairSafeSaid : Prop := fnExactRepairSafeRow.holds Try.pinned (OpenSpec.ofChange fnExactRepairSafeSpec)

/-- ITS FALSE NEIGHBOUR: 'it returns false'. Refute it at one input. -/
def fnExactRepairSafeWrong : ChangeSpec := { name := "fnExactRepairSafe", fn := fun _ => fun
  | [d1, d2, d3] => { results := [.lit (.bool false)], args := [d1, d2, d3] }
  | _ => none }
def FnExactRepairSafeWrongFalsely : Prop := fnExactRepairSafeRow.holds Try.pinned (OpenSpec.ofChange fnExactRepairSafeWrong)

/-- 'laws.FnSafeSame': WHATEVER THE INPUT: true; the input reads as it did. -/
def fnSafeSameSpec : ChangeSpec := { name := "fnSafeSame", fn := fun _ => fun
  | [d] => { results := [.lit (.bool true)], args := [d] }
  | _ => none }
def fnSafeSameRow : OpenClaim := { program := "ytgaipicebjklaaa", sum := "22d3eb941956760391c3eed0fff1170ca80b98e610bd469b66e2941a8ad60b0d", func := "loop.example/linkstaterouting/laws.FnSafeSame", spec := "fnSafeSame", unfollowed := true, recurses := true, apart := false }
def FnSafeSameSaid : Prop := fnSafeSameRow.holds Try.pinned (OpenSpec.ofChange fnSafeSameSpec)

/-- ITS FALSE NEIGHBOUR: 'it returns false'. Refute it at one input. -/
def fnSafeSameWrong : ChangeSpec := { name := "fnSafeSame", fn := fun _ => fun
  | [d] => { results := [.lit (.bool false)], args := [d] }
  | _ => none }
def FnSafeSameWrongFalsely : Prop := fnSafeSameRow.holds Try.pinned (OpenSpec.ofChange fnSafeSameWrong)

/-- 'laws.FnNeeded': WHATEVER THE INPUT: true; the input reads as it did. -/
def fnNeededSpec : ChangeSpec := { name := "fnNeeded", fn := fun _ => fun
  | [d] => { results := [.lit (.bool true)], args := [d] }
  | _ => none }
def fnNeededRow : OpenClaim := { program := "ytgaipicebjklaaa", sum := "22d3eb941956760391c3eed0fff1170ca80b98e610bd469b66e2941a8ad60b0d", func := "loop.example/linkstaterouting/laws.FnNeeded", spec := "fnNeeded", unfollowed := true, recurses := true, apart := false }
def FnNeededSaid : Prop := fnNeededRow.holds Try.pinned (OpenSpec.ofChange fnNeededSpec)

/-- ITS FALSE NEIGHBOUR: 'it returns false'. Refute it at one input. -/
def fnNeededWrong : ChangeSpec := { name := "fnNeeded", fn := fun _ => fun
  | [d] => { results := [.lit (.bool false)], args := [d] }
  | _ => none }
def FnNeededWrongFalsely : Prop := fnNeededRow.holds Try.pinned (OpenSpec.ofChange fnNeededWrong)

/-- 'laws.FnSafeNodes': WHATEVER THE INPUT: true; the input reads as it did. -/
def fnSafeNodesSpec : ChangeSpec := { name := "fnSafeNodes", fn := fun _ => fun
  | [d] => { results := [.lit (.bool true)], args := [d] }
  | _ => none }
def fnSafeNodesRow : OpenClaim := { program := "ytgaipicebjklaaa", sum := "22d3eb941956760391c3eed0fff1170ca80b98e610bd469b66e2941a8ad60b0d", func := "loop.example/linkstaterouting/laws.FnSafeNodes", spec := "fnSafeNodes", unfollowed := true, recurses := true, apart := false }
def FnSafeNodesSaid : Prop := fnSafeNodesRow.holds Try.pinned (OpenSpec.ofChange fnSafeNodesSpec)

/-- ITS FALSE NEIGHBOUR: 'it returns false'. Refute it at one input. -/
def fnSafeNodesWrong : ChangeSpec := { name := "fnSafeNodes", fn := fun _ => fun
  | [d] => { results := [.lit (.bool false)], args := [d] }
  | _ => none }
def FnSafeNodesWrongFalsely : Prop := fnSafeNodesRow.holds Try.pinned (OpenSpec.ofChange fnSafeNodesWrong)

/-- 'laws.FnOrderFar': WHATEVER THE INPUT: true; the input reads as it did. -/
def fnOrderFarSpec : ChangeSpec := { name := "fnOrderFar", fn := fun _ => fun
  | [d] => { results := [.lit (.bool true)], args := [d] }
  | _ => none }
def fnOrderFarRow : OpenClaim := { program := "ytgaipicebjklaaa", sum := "22d3eb941956760391c3eed0fff1170ca80b98e610bd469b66e2941a8ad60b0d", func := "loop.example/linkstaterouting/laws.FnOrderFar", spec := "fnOrderFar", unfollowed := true, recurses := true, apart := false }
def FnOrderFarSaid : Prop := fnOrderFarRow.holds Try.pinned (OpenSpec.ofChange fnOrderFarSpec)

/-- ITS FALSE NEIGHBOUR: 'it returns false'. Refute it at one input. -/
def fnOrderFarWrong : ChangeSpec := { name := "fnOrderFar", fn := fun _ => fun
  | [d] => { results := [.lit (.bool false)], args := [d] }
  | _ => none }
def FnOrderFarWrongFalsely : Prop := fnOrderFarRow.holds Try.pinned (OpenSpec.ofChange fnOrderFarWrong)

/-- 'laws.FnOrderNodes': WHATEVER THE INPUT: true; the input reads as it did. -/
def fnOrderNodesSpec : ChangeSpec := { name := "fnOrderNodes", fn := fun _ => fun
  | [d] => { results := [.lit (.bool true)], args := [d] }
  | _ => none }
def fnOrderNodesRow : OpenClaim := { program := "ytgaipicebjklaaa", sum := "22d3eb941956760391c3eed0fff1170ca80b98e610bd469b66e2941a8ad60b0d", func := "loop.example/linkstaterouting/laws.FnOrderNodes", spec := "fnOrderNodes", unfollowed := true, recurses := true, apart := false }
def FnOrderNodesSaid : Prop := fnOrderNodesRow.holds Try.pinned (OpenSpec.ofChange fnOrderNodesSpec)

/-- ITS FALSE NEIGHBOUR: 'it returns false'. Refute it at one input. -/
def fnOrderNodesWrong : ChangeSpec := { name := "fnOrderNodes", fn := fun _ => fun
  | [d] => { results := [.lit (.bool false)], args := [d] }
  | _ => none }
def FnOrderNodesWrongFalsely : Prop := fnOrderNodesRow.holds Try.pinned (OpenSpec.ofChange fnOrderNodesWrong)

/-- 'laws.FnOrderNone': WHATEVER THE INPUT: true; the input reads as it did. -/
def fnOrderNoneSpec : ChangeSpec := { name := "fnOrderNone", fn := fun _ => fun
  | [d] => { results := [.lit (.bool true)], args := [d] }
  | _ => none }
def fnOrderNoneRow : OpenClaim := { program := "ytgaipicebjklaaa", sum := "22d3eb941956760391c3eed0fff1170ca80b98e610bd469b66e2941a8ad60b0d", func := "loop.example/linkstaterouting/laws.FnOrderNone", spec := "fnOrderNone", unfollowed := true, recurses := true, apart := false }
def FnOrderNoneSaid : Prop := fnOrderNoneRow.holds Try.pinned (OpenSpec.ofChange fnOrderNoneSpec)

/-- ITS FALSE NEIGHBOUR: 'it returns false'. Refute it at one input. -/
def fnOrderNoneWrong : ChangeSpec := { name := "fnOrderNone", fn := fun _ => fun
  | [d] => { results := [.lit (.bool false)], args := [d] }
  | _ => none }
def FnOrderNoneWrongFalsely : Prop := fnOrderNoneRow.holds Try.pinned (OpenSpec.ofChange fnOrderNoneWrong)

/-- 'laws.FnExactUpdateOrder': WHATEVER THE INPUT: true; the input reads as it did. -/
def fnExactUpdateOrderSpec : ChangeSpec := { name := "fnExactUpdateOrder", fn := fun _ => fun
  | [d1, d2, d3] => { results := [.lit (.bool true)], args := [d1, d2, d3] }
  | _ => none }
def fnExactUpdateOrderRow : OpenClaim := { program := "ytgaipicebjklaaa", sum := "22d3eb941956760391c3eed0fff1170ca80b98e610bd469b66e2941a8ad60b0d", func := "loop.example/linkstaterouting/laws.FnExactUpdateOrder", spec := "fnExactUpdateOrder", unfollowed := true, recurses := true, apart := false }
def FnExactUpdateOrderSaid : Prop := fnExactUpdateOrderRow.holds Try.pinned (OpenSpec.ofChange fnExactUpdateOrderSpec)

/-- ITS FALSE NEIGHBOUR: 'it returns false'. Refute it at one input. -/
def fnExactUpdateOrderWrong : ChangeSpec := { name := "fnExactUpdateOrder", fn := fun _ => fun
  | [d1, d2, d3] => { results := [.lit (.bool false)], args := [d1, d2, d3] }
  | _ => none }
def FnExactUpdateOrderWrongFalsely : Prop := fnExactUpdateOrderRow.holds Try.pinned (OpenSpec.ofChange fnExactUpdateOrderWrong)

/- THE SECOND FORM. 'bulk': how many values and letters a reading holds, each counted each time it is reached (what is shared counts as often as it is met; a slice's spare places count too). A statement '..UptoSaid' is the law's where the arguments, and the package variables that the reading takes, are together of bulk at most 1048576: NARROWER than '..Said'. Prove '..Said' where nothing that the law and all that it calls make is longer than what came in: it says more and counts as full. Else prove '..UptoSaid'. A law counts once. -/
mutual
def uptoBulk {H : Type} : DataW H → Nat
  | .lit (.string bytes) => bytes.length + 1
  | .lit _ => 1
  | .nil => 1
  | .ptr d => uptoBulk d + 1
  | .slice elems spare => uptoBulkAll elems + uptoBulkAll spare + 1
  | .agg parts => uptoBulkAll parts + 1
  | .iface _ d => uptoBulk d + 1
  | .map entries => uptoBulkEntries entries + 1
  | .held _ => 1
def uptoBulkAll {H : Type} : List (DataW H) → Nat
  | [] => 0
  | d :: r => uptoBulk d + uptoBulkAll r
def uptoBulkEntries {H : Type} : List (Lit × DataW H) → Nat
  | [] => 0
  | x :: r => uptoBulkEntry x + uptoBulkEntries r
def uptoBulkEntry {H : Type} : Lit × DataW H → Nat
  | (.string bytes, d) => bytes.length + uptoBulk d + 1
  | (_, d) => uptoBulk d + 1
 end
def uptoSmall : (H : Type) → List (DataW H) → Bool := fun _ ds => decide (uptoBulkAll ds ≤ 1048576)
def OpenSpec.upto (s : _root_.Go.ChangeSpec) : _root_.Go.OpenSpec := { _root_.Go.OpenSpec.ofChange s with cond := some uptoSmall }

/-- 'laws.FnNeededBack', WHERE WHAT IT READS IS OF BULK AT MOST 1048576: true; the input reads as it did. -/
def fnNeededBackUptoRow : OpenClaim := { program := "ytgaipicebjklaaa", sum := "22d3eb941956760391c3eed0fff1170ca80b98e610bd469b66e2941a8ad60b0d", func := "loop.example/linkstaterouting/laws.FnNeededBack", spec := "fnNeededBack", unfollowed := true, recurses := true, apart := false, narrowed := true }
def FnNeededBackUptoSaid : Prop := fnNeededBackUptoRow.holds Try.pinned (OpenSpec.upto fnNeededBackSpec)

/-- 'laws.FnExactRepairNeeded', WHERE WHAT IT READS IS OF BULK AT MOST 1048576: true; the input reads as it did. -/
def fnExactRepairNeededUptoRow : OpenClaim := { program := "ytgaipicebjklaaa", sum := "22d3eb941956760391c3eed0fff1170ca80b98e610bd469b66e2941a8ad60b0d", func := "loop.example/linkstaterouting/laws.FnExactRepairNeeded", spec := "fnExactRepairNeeded", unfollowed := true, recurses := true, apart := false, narrowed := true }
def FnExactRepairNeededUptoSaid : Prop := fnExactRepairNeededUptoRow.holds Try.pinned (OpenSpec.upto fnExactRepairNeededSpec)

/-- 'laws.FnExactRepairSafe', WHERE WHAT IT READS IS OF BULK AT MOST 1048576: true; the input reads as it did. -/
def fnExactRepairSafeUptoRow : OpenClaim := { program := "ytgaipicebjklaaa", sum := "22d3eb941956760391c3eed0fff1170ca80b98e610bd469b66e2941a8ad60b0d", func := "loop.example/linkstaterouting/laws.FnExactRepairSafe", spec := "fnExactRepairSafe", unfollowed := true, recurses := true, apart := false, narrowed := true }
def FnExactRepairSafeUptoSaid : Prop := fnExactRepairSafeUptoRow.holds Try.pinned (OpenSpec.upto fnExactRepairSafeSpec)

/-- 'laws.FnSafeSame', WHERE WHAT IT READS IS OF BULK AT MOST 1048576: true; the input reads as it did. -/
def fnSafeSameUptoRow : OpenClaim := { program := "ytgaipicebjklaaa", sum := "22d3eb941956760391c3eed0fff1170ca80b98e610bd469b66e2941a8ad60b0d", func := "loop.example/linkstaterouting/laws.FnSafeSame", spec := "fnSafeSame", unfollowed := true, recurses := true, apart := false, narrowed := true }
def FnSafeSameUptoSaid : Prop := fnSafeSameUptoRow.holds Try.pinned (OpenSpec.upto fnSafeSameSpec)

/-- 'laws.FnNeeded', WHERE WHAT IT READS IS OF BULK AT MOST 1048576: true; the input reads as it did. -/
def fnNeededUptoRow : OpenClaim := { program := "ytgaipicebjklaaa", sum := "22d3eb941956760391c3eed0fff1170ca80b98e610bd469b66e2941a8ad60b0d", func := "loop.example/linkstaterouting/laws.FnNeeded", spec := "fnNeeded", unfollowed := true, recurses := true, apart := false, narrowed := true }
def FnNeededUptoSaid : Prop := fnNeededUptoRow.holds Try.pinned (OpenSpec.upto fnNeededSpec)

/-- 'laws.FnSafeNodes', WHERE WHAT IT READS IS OF BULK AT MOST 1048576: true; the input reads as it did. -/
def fnSafeNodesUptoRow : OpenClaim := { program := "ytgaipicebjklaaa", sum := "22d3eb941956760391c3eed0fff1170ca80b98e610bd469b66e2941a8ad60b0d", func := "loop.example/linkstaterouting/laws.FnSafeNodes", spec := "fnSafeNodes", unfollowed := true, recurses := true, apart := false, narrowed := true }
def FnSafeNodesUptoSaid : Prop := fnSafeNodesUptoRow.holds Try.pinned (OpenSpec.upto fnSafeNodesSpec)

/-- 'laws.FnOrderFar', WHERE WHAT IT READS IS OF BULK AT MOST 1048576: true; the input reads as it did. -/
def fnOrderFarUptoRow : OpenClaim := { program := "ytgaipicebjklaaa", sum := "22d3eb941956760391c3eed0fff1170ca80b98e610bd469b66e2941a8ad60b0d", func := "loop.example/linkstaterouting/laws.FnOrderFar", spec := "fnOrderFar", unfollowed := true, recurses := true, apart := false, narrowed := true }
def FnOrderFarUptoSaid : Prop := fnOrderFarUptoRow.holds Try.pinned (OpenSpec.upto fnOrderFarSpec)

/-- 'laws.FnOrderNodes', WHERE WHAT IT READS IS OF BULK AT MOST 1048576: true; the input reads as it did. -/
def fnOrderNodesUptoRow : OpenClaim := { program := "ytgaipicebjklaaa", sum := "22d3eb941956760391c3eed0fff1170ca80b98e610bd469b66e2941a8ad60b0d", func := "loop.example/linkstaterouting/laws.FnOrderNodes", spec := "fnOrderNodes", unfollowed := true, recurses := true, apart := false, narrowed := true }
def FnOrderNodesUptoSaid : Prop := fnOrderNodesUptoRow.holds Try.pinned (OpenSpec.upto fnOrderNodesSpec)

/-- 'laws.FnOrderNone', WHERE WHAT IT READS IS OF BULK AT MOST 1048576: true; the input reads as it did. -/
def fnOrderNoneUptoRow : OpenClaim := { program := "ytgaipicebjklaaa", sum := "22d3eb941956760391c3eed0fff1170ca80b98e610bd469b66e2941a8ad60b0d", func := "loop.example/linkstaterouting/laws.FnOrderNone", spec := "fnOrderNone", unfollowed := true, recurses := true, apart := false, narrowed := true }
def FnOrderNoneUptoSaid : Prop := fnOrderNoneUptoRow.holds Try.pinned (OpenSpec.upto fnOrderNoneSpec)

/-- 'laws.FnExactUpdateOrder', WHERE WHAT IT READS IS OF BULK AT MOST 1048576: true; the input reads as it did. -/
def fnExactUpdateOrderUptoRow : OpenClaim := { program := "ytgaipicebjklaaa", sum := "22d3eb941956760391c3eed0fff1170ca80b98e610bd469b66e2941a8ad60b0d", func := "loop.example/linkstaterouting/laws.FnExactUpdateOrder", spec := "fnExactUpdateOrder", unfollowed := true, recurses := true, apart := false, narrowed := true }
def FnExactUpdateOrderUptoSaid : Prop := fnExactUpdateOrderUptoRow.holds Try.pinned (OpenSpec.upto fnExactUpdateOrderSpec)

end Rows
end Go.Proofs.Ytgaipicebjklaaa
