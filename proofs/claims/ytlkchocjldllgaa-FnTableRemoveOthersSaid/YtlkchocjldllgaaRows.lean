/-
  No cell of these rows narrows 'for every input' (looked for: loops, veiled, ifaces, maps, wideKeys, modest, calm, conditions, laid).
  DERIVED. THE GIVEN ROWS OF THIS SEAT. 19 by the template 'for every input the law returns true; each argument reads behind the call as it read before'; 0 by the template 'total and deterministic' (their statements: YtlkchocjldllgaaTotals.lean).
  GIVEN WITH THE SEED: the statements are not yours to turn. If you find one false, say at which input.
  Laid BY PROGRAM, IN A SANDBOX (cutbox-rows.mjs): the forced cells as the released guide's own fill.sh prints them over the translation bb8b67262b446555… (all of the seat's roots in one cut). By AI agents, Wed Nov 11 2026. No macro, syntax, notation, axiom, sorry.
-/
import Derived.Test.YtlkchocjldllgaaChecked
import GoSem.Claim
import GoSem.ClaimJoined
import GoSem.ClaimMapViews
import Derived.JoinedTies
import Derived.KernelRfl
namespace Go.Proofs.Ytlkchocjldllgaa
/- THE CELL 'sum', in the pinned program and in every row, IS THE sha256 OF THE DUMP (.gsa) THAT YtlkchocjldllgaaProg.lean LOADS. Nothing in Lean hashes anything: it is a label: what it is worth is what the hold of that sum in a sandbox is worth. -/
noncomputable def Try.pinned : Pinned := { name := "ytlkchocjldllgaa", sum := "bb8b67262b44655540803e955df3533cf0be40cd4b5e6b9c294de82a3ec720be", checked := Try.checked }
namespace Rows
def none {H : Type} : Left H := { results := [], args := [] }

/-- 'laws.FnExactTableValid': WHATEVER THE INPUT: true; the input reads as it did. -/
def fnExactTableValidSpec : ChangeSpec := { name := "fnExactTableValid", fn := fun _ => fun
  | [d] => { results := [.lit (.bool true)], args := [d] }
  | _ => none }
def fnExactTableValidRow : OpenClaim := { program := "ytlkchocjldllgaa", sum := "bb8b67262b44655540803e955df3533cf0be40cd4b5e6b9c294de82a3ec720be", func := "loop.example/linkstaterouting/laws.FnExactTableValid", spec := "fnExactTableValid", apart := false }
def FnExactTableValidSaid : Prop := fnExactTableValidRow.holds Try.pinned (OpenSpec.ofChange fnExactTableValidSpec)

/-- ITS FALSE NEIGHBOUR: 'it returns false'. Refute it at one input. -/
def fnExactTableValidWrong : ChangeSpec := { name := "fnExactTableValid", fn := fun _ => fun
  | [d] => { results := [.lit (.bool false)], args := [d] }
  | _ => none }
def FnExactTableValidWrongFalsely : Prop := fnExactTableValidRow.holds Try.pinned (OpenSpec.ofChange fnExactTableValidWrong)

/-- 'laws.FnExactTableFind': WHATEVER THE INPUT: true; the input reads as it did. -/
def fnExactTableFindSpec : ChangeSpec := { name := "fnExactTableFind", fn := fun _ => fun
  | [d1, d2] => { results := [.lit (.bool true)], args := [d1, d2] }
  | _ => none }
def fnExactTableFindRow : OpenClaim := { program := "ytlkchocjldllgaa", sum := "bb8b67262b44655540803e955df3533cf0be40cd4b5e6b9c294de82a3ec720be", func := "loop.example/linkstaterouting/laws.FnExactTableFind", spec := "fnExactTableFind", apart := false }
def FnExactTableFindSaid : Prop := fnExactTableFindRow.holds Try.pinned (OpenSpec.ofChange fnExactTableFindSpec)

/-- ITS FALSE NEIGHBOUR: 'it returns false'. Refute it at one input. -/
def fnExactTableFindWrong : ChangeSpec := { name := "fnExactTableFind", fn := fun _ => fun
  | [d1, d2] => { results := [.lit (.bool false)], args := [d1, d2] }
  | _ => none }
def FnExactTableFindWrongFalsely : Prop := fnExactTableFindRow.holds Try.pinned (OpenSpec.ofChange fnExactTableFindWrong)

/-- 'laws.FnTableExact': WHATEVER THE INPUT: true; the input reads as it did. -/
def fnTableExactSpec : ChangeSpec := { name := "fnTableExact", fn := fun _ => fun
  | [d] => { results := [.lit (.bool true)], args := [d] }
  | _ => none }
def fnTableExactRow : OpenClaim := { program := "ytlkchocjldllgaa", sum := "bb8b67262b44655540803e955df3533cf0be40cd4b5e6b9c294de82a3ec720be", func := "loop.example/linkstaterouting/laws.FnTableExact", spec := "fnTableExact", apart := false }
def FnTableExactSaid : Prop := fnTableExactRow.holds Try.pinned (OpenSpec.ofChange fnTableExactSpec)

/-- ITS FALSE NEIGHBOUR: 'it returns false'. Refute it at one input. -/
def fnTableExactWrong : ChangeSpec := { name := "fnTableExact", fn := fun _ => fun
  | [d] => { results := [.lit (.bool false)], args := [d] }
  | _ => none }
def FnTableExactWrongFalsely : Prop := fnTableExactRow.holds Try.pinned (OpenSpec.ofChange fnTableExactWrong)

/-- 'laws.FnTableFind': WHATEVER THE INPUT: true; the input reads as it did. -/
def fnTableFindSpec : ChangeSpec := { name := "fnTableFind", fn := fun _ => fun
  | [d] => { results := [.lit (.bool true)], args := [d] }
  | _ => none }
def fnTableFindRow : OpenClaim := { program := "ytlkchocjldllgaa", sum := "bb8b67262b44655540803e955df3533cf0be40cd4b5e6b9c294de82a3ec720be", func := "loop.example/linkstaterouting/laws.FnTableFind", spec := "fnTableFind", apart := false }
def FnTableFindSaid : Prop := fnTableFindRow.holds Try.pinned (OpenSpec.ofChange fnTableFindSpec)

/-- ITS FALSE NEIGHBOUR: 'it returns false'. Refute it at one input. -/
def fnTableFindWrong : ChangeSpec := { name := "fnTableFind", fn := fun _ => fun
  | [d] => { results := [.lit (.bool false)], args := [d] }
  | _ => none }
def FnTableFindWrongFalsely : Prop := fnTableFindRow.holds Try.pinned (OpenSpec.ofChange fnTableFindWrong)

/-- 'laws.FnExactTableHop': WHATEVER THE INPUT: true; the input reads as it did. -/
def fnExactTableHopSpec : ChangeSpec := { name := "fnExactTableHop", fn := fun _ => fun
  | [d1, d2] => { results := [.lit (.bool true)], args := [d1, d2] }
  | _ => none }
def fnExactTableHopRow : OpenClaim := { program := "ytlkchocjldllgaa", sum := "bb8b67262b44655540803e955df3533cf0be40cd4b5e6b9c294de82a3ec720be", func := "loop.example/linkstaterouting/laws.FnExactTableHop", spec := "fnExactTableHop", apart := false }
def FnExactTableHopSaid : Prop := fnExactTableHopRow.holds Try.pinned (OpenSpec.ofChange fnExactTableHopSpec)

/-- ITS FALSE NEIGHBOUR: 'it returns false'. Refute it at one input. -/
def fnExactTableHopWrong : ChangeSpec := { name := "fnExactTableHop", fn := fun _ => fun
  | [d1, d2] => { results := [.lit (.bool false)], args := [d1, d2] }
  | _ => none }
def FnExactTableHopWrongFalsely : Prop := fnExactTableHopRow.holds Try.pinned (OpenSpec.ofChange fnExactTableHopWrong)

/-- 'laws.FnTableHop': WHATEVER THE INPUT: true; the input reads as it did. -/
def fnTableHopSpec : ChangeSpec := { name := "fnTableHop", fn := fun _ => fun
  | [d] => { results := [.lit (.bool true)], args := [d] }
  | _ => none }
def fnTableHopRow : OpenClaim := { program := "ytlkchocjldllgaa", sum := "bb8b67262b44655540803e955df3533cf0be40cd4b5e6b9c294de82a3ec720be", func := "loop.example/linkstaterouting/laws.FnTableHop", spec := "fnTableHop", apart := false }
def FnTableHopSaid : Prop := fnTableHopRow.holds Try.pinned (OpenSpec.ofChange fnTableHopSpec)

/-- ITS FALSE NEIGHBOUR: 'it returns false'. Refute it at one input. -/
def fnTableHopWrong : ChangeSpec := { name := "fnTableHop", fn := fun _ => fun
  | [d] => { results := [.lit (.bool false)], args := [d] }
  | _ => none }
def FnTableHopWrongFalsely : Prop := fnTableHopRow.holds Try.pinned (OpenSpec.ofChange fnTableHopWrong)

/-- 'laws.FnTableTurnCount': WHATEVER THE INPUT: true; the input reads as it did. -/
def fnTableTurnCountSpec : ChangeSpec := { name := "fnTableTurnCount", fn := fun _ => fun
  | [d] => { results := [.lit (.bool true)], args := [d] }
  | _ => none }
def fnTableTurnCountRow : OpenClaim := { program := "ytlkchocjldllgaa", sum := "bb8b67262b44655540803e955df3533cf0be40cd4b5e6b9c294de82a3ec720be", func := "loop.example/linkstaterouting/laws.FnTableTurnCount", spec := "fnTableTurnCount", apart := false }
def FnTableTurnCountSaid : Prop := fnTableTurnCountRow.holds Try.pinned (OpenSpec.ofChange fnTableTurnCountSpec)

/-- ITS FALSE NEIGHBOUR: 'it returns false'. Refute it at one input. -/
def fnTableTurnCountWrong : ChangeSpec := { name := "fnTableTurnCount", fn := fun _ => fun
  | [d] => { results := [.lit (.bool false)], args := [d] }
  | _ => none }
def FnTableTurnCountWrongFalsely : Prop := fnTableTurnCountRow.holds Try.pinned (OpenSpec.ofChange fnTableTurnCountWrong)

/-- 'laws.FnTableTurn': WHATEVER THE INPUT: true; the input reads as it did. -/
def fnTableTurnSpec : ChangeSpec := { name := "fnTableTurn", fn := fun _ => fun
  | [d] => { results := [.lit (.bool true)], args := [d] }
  | _ => none }
def fnTableTurnRow : OpenClaim := { program := "ytlkchocjldllgaa", sum := "bb8b67262b44655540803e955df3533cf0be40cd4b5e6b9c294de82a3ec720be", func := "loop.example/linkstaterouting/laws.FnTableTurn", spec := "fnTableTurn", apart := false }
def FnTableTurnSaid : Prop := fnTableTurnRow.holds Try.pinned (OpenSpec.ofChange fnTableTurnSpec)

/-- ITS FALSE NEIGHBOUR: 'it returns false'. Refute it at one input. -/
def fnTableTurnWrong : ChangeSpec := { name := "fnTableTurn", fn := fun _ => fun
  | [d] => { results := [.lit (.bool false)], args := [d] }
  | _ => none }
def FnTableTurnWrongFalsely : Prop := fnTableTurnRow.holds Try.pinned (OpenSpec.ofChange fnTableTurnWrong)

/-- 'laws.FnExactTableTurn': WHATEVER THE INPUT: true; the input reads as it did. -/
def fnExactTableTurnSpec : ChangeSpec := { name := "fnExactTableTurn", fn := fun _ => fun
  | [d1, d2, d3] => { results := [.lit (.bool true)], args := [d1, d2, d3] }
  | _ => none }
def fnExactTableTurnRow : OpenClaim := { program := "ytlkchocjldllgaa", sum := "bb8b67262b44655540803e955df3533cf0be40cd4b5e6b9c294de82a3ec720be", func := "loop.example/linkstaterouting/laws.FnExactTableTurn", spec := "fnExactTableTurn", apart := false }
def FnExactTableTurnSaid : Prop := fnExactTableTurnRow.holds Try.pinned (OpenSpec.ofChange fnExactTableTurnSpec)

/-- ITS FALSE NEIGHBOUR: 'it returns false'. Refute it at one input. -/
def fnExactTableTurnWrong : ChangeSpec := { name := "fnExactTableTurn", fn := fun _ => fun
  | [d1, d2, d3] => { results := [.lit (.bool false)], args := [d1, d2, d3] }
  | _ => none }
def FnExactTableTurnWrongFalsely : Prop := fnExactTableTurnRow.holds Try.pinned (OpenSpec.ofChange fnExactTableTurnWrong)

/-- 'laws.FnTableRemoveOthers': WHATEVER THE INPUT: true; the input reads as it did. -/
def fnTableRemoveOthersSpec : ChangeSpec := { name := "fnTableRemoveOthers", fn := fun _ => fun
  | [d1, d2] => { results := [.lit (.bool true)], args := [d1, d2] }
  | _ => none }
def fnTableRemoveOthersRow : OpenClaim := { program := "ytlkchocjldllgaa", sum := "bb8b67262b44655540803e955df3533cf0be40cd4b5e6b9c294de82a3ec720be", func := "loop.example/linkstaterouting/laws.FnTableRemoveOthers", spec := "fnTableRemoveOthers", unfollowed := true, recurses := true, apart := false }
def FnTableRemoveOthersSaid : Prop := fnTableRemoveOthersRow.holds Try.pinned (OpenSpec.ofChange fnTableRemoveOthersSpec)

/-- ITS FALSE NEIGHBOUR: 'it returns false'. Refute it at one input. -/
def fnTableRemoveOthersWrong : ChangeSpec := { name := "fnTableRemoveOthers", fn := fun _ => fun
  | [d1, d2] => { results := [.lit (.bool false)], args := [d1, d2] }
  | _ => none }
def FnTableRemoveOthersWrongFalsely : Prop := fnTableRemoveOthersRow.holds Try.pinned (OpenSpec.ofChange fnTableRemoveOthersWrong)

/-- 'laws.FnExactTableRemove': WHATEVER THE INPUT: true; the input reads as it did. -/
def fnExactTableRemoveSpec : ChangeSpec := { name := "fnExactTableRemove", fn := fun _ => fun
  | [d1, d2, d3] => { results := [.lit (.bool true)], args := [d1, d2, d3] }
  | _ => none }
def fnExactTableRemoveRow : OpenClaim := { program := "ytlkchocjldllgaa", sum := "bb8b67262b44655540803e955df3533cf0be40cd4b5e6b9c294de82a3ec720be", func := "loop.example/linkstaterouting/laws.FnExactTableRemove", spec := "fnExactTableRemove", unfollowed := true, recurses := true, apart := false }
def FnExactTableRemoveSaid : Prop := fnExactTableRemoveRow.holds Try.pinned (OpenSpec.ofChange fnExactTableRemoveSpec)

/-- ITS FALSE NEIGHBOUR: 'it returns false'. Refute it at one input. -/
def fnExactTableRemoveWrong : ChangeSpec := { name := "fnExactTableRemove", fn := fun _ => fun
  | [d1, d2, d3] => { results := [.lit (.bool false)], args := [d1, d2, d3] }
  | _ => none }
def FnExactTableRemoveWrongFalsely : Prop := fnExactTableRemoveRow.holds Try.pinned (OpenSpec.ofChange fnExactTableRemoveWrong)

/-- 'laws.FnTableAdd': WHATEVER THE INPUT: true; the input reads as it did. -/
def fnTableAddSpec : ChangeSpec := { name := "fnTableAdd", fn := fun _ => fun
  | [d] => { results := [.lit (.bool true)], args := [d] }
  | _ => none }
def fnTableAddRow : OpenClaim := { program := "ytlkchocjldllgaa", sum := "bb8b67262b44655540803e955df3533cf0be40cd4b5e6b9c294de82a3ec720be", func := "loop.example/linkstaterouting/laws.FnTableAdd", spec := "fnTableAdd", inPlace := ["slices.overlaps[loop.example/linkstaterouting/impl.Route]"], unfollowed := true, recurses := true, apart := false }
def FnTableAddSaid : Prop := fnTableAddRow.holds Try.pinned (OpenSpec.ofChange fnTableAddSpec)

/-- ITS FALSE NEIGHBOUR: 'it returns false'. Refute it at one input. -/
def fnTableAddWrong : ChangeSpec := { name := "fnTableAdd", fn := fun _ => fun
  | [d] => { results := [.lit (.bool false)], args := [d] }
  | _ => none }
def FnTableAddWrongFalsely : Prop := fnTableAddRow.holds Try.pinned (OpenSpec.ofChange fnTableAddWrong)

/-- 'laws.FnTableAddFull': WHATEVER THE INPUT: true; the input reads as it did. -/
def fnTableAddFullSpec : ChangeSpec := { name := "fnTableAddFull", fn := fun _ => fun
  | [d] => { results := [.lit (.bool true)], args := [d] }
  | _ => none }
def fnTableAddFullRow : OpenClaim := { program := "ytlkchocjldllgaa", sum := "bb8b67262b44655540803e955df3533cf0be40cd4b5e6b9c294de82a3ec720be", func := "loop.example/linkstaterouting/laws.FnTableAddFull", spec := "fnTableAddFull", inPlace := ["slices.overlaps[loop.example/linkstaterouting/impl.Route]"], unfollowed := true, recurses := true, apart := false }
def FnTableAddFullSaid : Prop := fnTableAddFullRow.holds Try.pinned (OpenSpec.ofChange fnTableAddFullSpec)

/-- ITS FALSE NEIGHBOUR: 'it returns false'. Refute it at one input. -/
def fnTableAddFullWrong : ChangeSpec := { name := "fnTableAddFull", fn := fun _ => fun
  | [d] => { results := [.lit (.bool false)], args := [d] }
  | _ => none }
def FnTableAddFullWrongFalsely : Prop := fnTableAddFullRow.holds Try.pinned (OpenSpec.ofChange fnTableAddFullWrong)

/-- 'laws.FnTableAddOrder': WHATEVER THE INPUT: true; the input reads as it did. -/
def fnTableAddOrderSpec : ChangeSpec := { name := "fnTableAddOrder", fn := fun _ => fun
  | [d1, d2] => { results := [.lit (.bool true)], args := [d1, d2] }
  | _ => none }
def fnTableAddOrderRow : OpenClaim := { program := "ytlkchocjldllgaa", sum := "bb8b67262b44655540803e955df3533cf0be40cd4b5e6b9c294de82a3ec720be", func := "loop.example/linkstaterouting/laws.FnTableAddOrder", spec := "fnTableAddOrder", inPlace := ["slices.overlaps[loop.example/linkstaterouting/impl.Route]"], unfollowed := true, recurses := true, apart := false }
def FnTableAddOrderSaid : Prop := fnTableAddOrderRow.holds Try.pinned (OpenSpec.ofChange fnTableAddOrderSpec)

/-- ITS FALSE NEIGHBOUR: 'it returns false'. Refute it at one input. -/
def fnTableAddOrderWrong : ChangeSpec := { name := "fnTableAddOrder", fn := fun _ => fun
  | [d1, d2] => { results := [.lit (.bool false)], args := [d1, d2] }
  | _ => none }
def FnTableAddOrderWrongFalsely : Prop := fnTableAddOrderRow.holds Try.pinned (OpenSpec.ofChange fnTableAddOrderWrong)

/-- 'laws.FnTableAddTwice': WHATEVER THE INPUT: true; the input reads as it did. -/
def fnTableAddTwiceSpec : ChangeSpec := { name := "fnTableAddTwice", fn := fun _ => fun
  | [d] => { results := [.lit (.bool true)], args := [d] }
  | _ => none }
def fnTableAddTwiceRow : OpenClaim := { program := "ytlkchocjldllgaa", sum := "bb8b67262b44655540803e955df3533cf0be40cd4b5e6b9c294de82a3ec720be", func := "loop.example/linkstaterouting/laws.FnTableAddTwice", spec := "fnTableAddTwice", inPlace := ["slices.overlaps[loop.example/linkstaterouting/impl.Route]"], unfollowed := true, recurses := true, apart := false }
def FnTableAddTwiceSaid : Prop := fnTableAddTwiceRow.holds Try.pinned (OpenSpec.ofChange fnTableAddTwiceSpec)

/-- ITS FALSE NEIGHBOUR: 'it returns false'. Refute it at one input. -/
def fnTableAddTwiceWrong : ChangeSpec := { name := "fnTableAddTwice", fn := fun _ => fun
  | [d] => { results := [.lit (.bool false)], args := [d] }
  | _ => none }
def FnTableAddTwiceWrongFalsely : Prop := fnTableAddTwiceRow.holds Try.pinned (OpenSpec.ofChange fnTableAddTwiceWrong)

/-- 'laws.FnTableDefault': WHATEVER THE INPUT: true; the input reads as it did. -/
def fnTableDefaultSpec : ChangeSpec := { name := "fnTableDefault", fn := fun _ => fun
  | [d1, d2] => { results := [.lit (.bool true)], args := [d1, d2] }
  | _ => none }
def fnTableDefaultRow : OpenClaim := { program := "ytlkchocjldllgaa", sum := "bb8b67262b44655540803e955df3533cf0be40cd4b5e6b9c294de82a3ec720be", func := "loop.example/linkstaterouting/laws.FnTableDefault", spec := "fnTableDefault", inPlace := ["slices.overlaps[loop.example/linkstaterouting/impl.Route]"], unfollowed := true, recurses := true, apart := false }
def FnTableDefaultSaid : Prop := fnTableDefaultRow.holds Try.pinned (OpenSpec.ofChange fnTableDefaultSpec)

/-- ITS FALSE NEIGHBOUR: 'it returns false'. Refute it at one input. -/
def fnTableDefaultWrong : ChangeSpec := { name := "fnTableDefault", fn := fun _ => fun
  | [d1, d2] => { results := [.lit (.bool false)], args := [d1, d2] }
  | _ => none }
def FnTableDefaultWrongFalsely : Prop := fnTableDefaultRow.holds Try.pinned (OpenSpec.ofChange fnTableDefaultWrong)

/-- 'laws.FnTableHopOthers': WHATEVER THE INPUT: true; the input reads as it did. -/
def fnTableHopOthersSpec : ChangeSpec := { name := "fnTableHopOthers", fn := fun _ => fun
  | [d1, d2] => { results := [.lit (.bool true)], args := [d1, d2] }
  | _ => none }
def fnTableHopOthersRow : OpenClaim := { program := "ytlkchocjldllgaa", sum := "bb8b67262b44655540803e955df3533cf0be40cd4b5e6b9c294de82a3ec720be", func := "loop.example/linkstaterouting/laws.FnTableHopOthers", spec := "fnTableHopOthers", inPlace := ["slices.overlaps[loop.example/linkstaterouting/impl.Route]"], unfollowed := true, recurses := true, apart := false }
def FnTableHopOthersSaid : Prop := fnTableHopOthersRow.holds Try.pinned (OpenSpec.ofChange fnTableHopOthersSpec)

/-- ITS FALSE NEIGHBOUR: 'it returns false'. Refute it at one input. -/
def fnTableHopOthersWrong : ChangeSpec := { name := "fnTableHopOthers", fn := fun _ => fun
  | [d1, d2] => { results := [.lit (.bool false)], args := [d1, d2] }
  | _ => none }
def FnTableHopOthersWrongFalsely : Prop := fnTableHopOthersRow.holds Try.pinned (OpenSpec.ofChange fnTableHopOthersWrong)

/-- 'laws.FnTableRemove': WHATEVER THE INPUT: true; the input reads as it did. -/
def fnTableRemoveSpec : ChangeSpec := { name := "fnTableRemove", fn := fun _ => fun
  | [d] => { results := [.lit (.bool true)], args := [d] }
  | _ => none }
def fnTableRemoveRow : OpenClaim := { program := "ytlkchocjldllgaa", sum := "bb8b67262b44655540803e955df3533cf0be40cd4b5e6b9c294de82a3ec720be", func := "loop.example/linkstaterouting/laws.FnTableRemove", spec := "fnTableRemove", inPlace := ["slices.overlaps[loop.example/linkstaterouting/impl.Route]"], unfollowed := true, recurses := true, apart := false }
def FnTableRemoveSaid : Prop := fnTableRemoveRow.holds Try.pinned (OpenSpec.ofChange fnTableRemoveSpec)

/-- ITS FALSE NEIGHBOUR: 'it returns false'. Refute it at one input. -/
def fnTableRemoveWrong : ChangeSpec := { name := "fnTableRemove", fn := fun _ => fun
  | [d] => { results := [.lit (.bool false)], args := [d] }
  | _ => none }
def FnTableRemoveWrongFalsely : Prop := fnTableRemoveRow.holds Try.pinned (OpenSpec.ofChange fnTableRemoveWrong)

/-- 'laws.FnExactTableAdd': WHATEVER THE INPUT: true; the input reads as it did. -/
def fnExactTableAddSpec : ChangeSpec := { name := "fnExactTableAdd", fn := fun _ => fun
  | [d1, d2] => { results := [.lit (.bool true)], args := [d1, d2] }
  | _ => none }
def fnExactTableAddRow : OpenClaim := { program := "ytlkchocjldllgaa", sum := "bb8b67262b44655540803e955df3533cf0be40cd4b5e6b9c294de82a3ec720be", func := "loop.example/linkstaterouting/laws.FnExactTableAdd", spec := "fnExactTableAdd", inPlace := ["slices.overlaps[loop.example/linkstaterouting/impl.Route]"], unfollowed := true, recurses := true, apart := false }
def FnExactTableAddSaid : Prop := fnExactTableAddRow.holds Try.pinned (OpenSpec.ofChange fnExactTableAddSpec)

/-- ITS FALSE NEIGHBOUR: 'it returns false'. Refute it at one input. -/
def fnExactTableAddWrong : ChangeSpec := { name := "fnExactTableAdd", fn := fun _ => fun
  | [d1, d2] => { results := [.lit (.bool false)], args := [d1, d2] }
  | _ => none }
def FnExactTableAddWrongFalsely : Prop := fnExactTableAddRow.holds Try.pinned (OpenSpec.ofChange fnExactTableAddWrong)

/- THE SECOND FORM. 'bulk': how many values and letters a reading holds, each counted each time it is reached (what is shared counts as often as it is met; a slice's spare places count too). A statement '..UptoSaid' is the law's where the arguments, and the package variables that the reading takes, are together of bulk at most 1048576: NARROWER than '..Said'. Prove '..Said' where nothing that the law and all that it calls make is longer than what came in: it says more and counts as full. Else prove '..UptoSaid'. A law counts once. -/
mutual
def uptoBulk {H : Type} : DataW H → Nat
  | .lit (.string bytes) => bytes.length + 1
  | .lit _ => 1
  | .nil => 1
  | .ptr d => uptoBulk d + 1
  | .slice elems spare => uptoBulkAll elems + uptoBulkAll spare + 1
  | .agg parts => uptoBulkAll parts + 1
  | .iface _ d => uptoBulk d + 1
  | .map entries => uptoBulkEntries entries + 1
  | .held _ => 1
def uptoBulkAll {H : Type} : List (DataW H) → Nat
  | [] => 0
  | d :: r => uptoBulk d + uptoBulkAll r
def uptoBulkEntries {H : Type} : List (Lit × DataW H) → Nat
  | [] => 0
  | x :: r => uptoBulkEntry x + uptoBulkEntries r
def uptoBulkEntry {H : Type} : Lit × DataW H → Nat
  | (.string bytes, d) => bytes.length + uptoBulk d + 1
  | (_, d) => uptoBulk d + 1
 end
def uptoSmall : (H : Type) → List (DataW H) → Bool := fun _ ds => decide (uptoBulkAll ds ≤ 1048576)
def OpenSpec.upto (s : _root_.Go.ChangeSpec) : _root_.Go.OpenSpec := { _root_.Go.OpenSpec.ofChange s with cond := some uptoSmall }

/-- 'laws.FnExactTableValid', WHERE WHAT IT READS IS OF BULK AT MOST 1048576: true; the input reads as it did. -/
def fnExactTableValidUptoRow : OpenClaim := { program := "ytlkchocjldllgaa", sum := "bb8b67262b44655540803e955df3533cf0be40cd4b5e6b9c294de82a3ec720be", func := "loop.example/linkstaterouting/laws.FnExactTableValid", spec := "fnExactTableValid", apart := false, narrowed := true }
def FnExactTableValidUptoSaid : Prop := fnExactTableValidUptoRow.holds Try.pinned (OpenSpec.upto fnExactTableValidSpec)

/-- 'laws.FnExactTableFind', WHERE WHAT IT READS IS OF BULK AT MOST 1048576: true; the input reads as it did. -/
def fnExactTableFindUptoRow : OpenClaim := { program := "ytlkchocjldllgaa", sum := "bb8b67262b44655540803e955df3533cf0be40cd4b5e6b9c294de82a3ec720be", func := "loop.example/linkstaterouting/laws.FnExactTableFind", spec := "fnExactTableFind", apart := false, narrowed := true }
def FnExactTableFindUptoSaid : Prop := fnExactTableFindUptoRow.holds Try.pinned (OpenSpec.upto fnExactTableFindSpec)

/-- 'laws.FnTableExact', WHERE WHAT IT READS IS OF BULK AT MOST 1048576: true; the input reads as it did. -/
def fnTableExactUptoRow : OpenClaim := { program := "ytlkchocjldllgaa", sum := "bb8b67262b44655540803e955df3533cf0be40cd4b5e6b9c294de82a3ec720be", func := "loop.example/linkstaterouting/laws.FnTableExact", spec := "fnTableExact", apart := false, narrowed := true }
def FnTableExactUptoSaid : Prop := fnTableExactUptoRow.holds Try.pinned (OpenSpec.upto fnTableExactSpec)

/-- 'laws.FnTableFind', WHERE WHAT IT READS IS OF BULK AT MOST 1048576: true; the input reads as it did. -/
def fnTableFindUptoRow : OpenClaim := { program := "ytlkchocjldllgaa", sum := "bb8b67262b44655540803e955df3533cf0be40cd4b5e6b9c294de82a3ec720be", func := "loop.example/linkstaterouting/laws.FnTableFind", spec := "fnTableFind", apart := false, narrowed := true }
def FnTableFindUptoSaid : Prop := fnTableFindUptoRow.holds Try.pinned (OpenSpec.upto fnTableFindSpec)

/-- 'laws.FnExactTableHop', WHERE WHAT IT READS IS OF BULK AT MOST 1048576: true; the input reads as it did. -/
def fnExactTableHopUptoRow : OpenClaim := { program := "ytlkchocjldllgaa", sum := "bb8b67262b44655540803e955df3533cf0be40cd4b5e6b9c294de82a3ec720be", func := "loop.example/linkstaterouting/laws.FnExactTableHop", spec := "fnExactTableHop", apart := false, narrowed := true }
def FnExactTableHopUptoSaid : Prop := fnExactTableHopUptoRow.holds Try.pinned (OpenSpec.upto fnExactTableHopSpec)

/-- 'laws.FnTableHop', WHERE WHAT IT READS IS OF BULK AT MOST 1048576: true; the input reads as it did. -/
def fnTableHopUptoRow : OpenClaim := { program := "ytlkchocjldllgaa", sum := "bb8b67262b44655540803e955df3533cf0be40cd4b5e6b9c294de82a3ec720be", func := "loop.example/linkstaterouting/laws.FnTableHop", spec := "fnTableHop", apart := false, narrowed := true }
def FnTableHopUptoSaid : Prop := fnTableHopUptoRow.holds Try.pinned (OpenSpec.upto fnTableHopSpec)

/-- 'laws.FnTableTurnCount', WHERE WHAT IT READS IS OF BULK AT MOST 1048576: true; the input reads as it did. -/
def fnTableTurnCountUptoRow : OpenClaim := { program := "ytlkchocjldllgaa", sum := "bb8b67262b44655540803e955df3533cf0be40cd4b5e6b9c294de82a3ec720be", func := "loop.example/linkstaterouting/laws.FnTableTurnCount", spec := "fnTableTurnCount", apart := false, narrowed := true }
def FnTableTurnCountUptoSaid : Prop := fnTableTurnCountUptoRow.holds Try.pinned (OpenSpec.upto fnTableTurnCountSpec)

/-- 'laws.FnTableTurn', WHERE WHAT IT READS IS OF BULK AT MOST 1048576: true; the input reads as it did. -/
def fnTableTurnUptoRow : OpenClaim := { program := "ytlkchocjldllgaa", sum := "bb8b67262b44655540803e955df3533cf0be40cd4b5e6b9c294de82a3ec720be", func := "loop.example/linkstaterouting/laws.FnTableTurn", spec := "fnTableTurn", apart := false, narrowed := true }
def FnTableTurnUptoSaid : Prop := fnTableTurnUptoRow.holds Try.pinned (OpenSpec.upto fnTableTurnSpec)

/-- 'laws.FnExactTableTurn', WHERE WHAT IT READS IS OF BULK AT MOST 1048576: true; the input reads as it did. -/
def fnExactTableTurnUptoRow : OpenClaim := { program := "ytlkchocjldllgaa", sum := "bb8b67262b44655540803e955df3533cf0be40cd4b5e6b9c294de82a3ec720be", func := "loop.example/linkstaterouting/laws.FnExactTableTurn", spec := "fnExactTableTurn", apart := false, narrowed := true }
def FnExactTableTurnUptoSaid : Prop := fnExactTableTurnUptoRow.holds Try.pinned (OpenSpec.upto fnExactTableTurnSpec)

/-- 'laws.FnTableRemoveOthers', WHERE WHAT IT READS IS OF BULK AT MOST 1048576: true; the input reads as it did. -/
def fnTableRemoveOthersUptoRow : OpenClaim := { program := "ytlkchocjldllgaa", sum := "bb8b67262b44655540803e955df3533cf0be40cd4b5e6b9c294de82a3ec720be", func := "loop.example/linkstaterouting/laws.FnTableRemoveOthers", spec := "fnTableRemoveOthers", unfollowed := true, recurses := true, apart := false, narrowed := true }
def FnTableRemoveOthersUptoSaid : Prop := fnTableRemoveOthersUptoRow.holds Try.pinned (OpenSpec.upto fnTableRemoveOthersSpec)

/-- 'laws.FnExactTableRemove', WHERE WHAT IT READS IS OF BULK AT MOST 1048576: true; the input reads as it did. -/
def fnExactTableRemoveUptoRow : OpenClaim := { program := "ytlkchocjldllgaa", sum := "bb8b67262b44655540803e955df3533cf0be40cd4b5e6b9c294de82a3ec720be", func := "loop.example/linkstaterouting/laws.FnExactTableRemove", spec := "fnExactTableRemove", unfollowed := true, recurses := true, apart := false, narrowed := true }
def FnExactTableRemoveUptoSaid : Prop := fnExactTableRemoveUptoRow.holds Try.pinned (OpenSpec.upto fnExactTableRemoveSpec)

/-- 'laws.FnTableAdd', WHERE WHAT IT READS IS OF BULK AT MOST 1048576: true; the input reads as it did. -/
def fnTableAddUptoRow : OpenClaim := { program := "ytlkchocjldllgaa", sum := "bb8b67262b44655540803e955df3533cf0be40cd4b5e6b9c294de82a3ec720be", func := "loop.example/linkstaterouting/laws.FnTableAdd", spec := "fnTableAdd", inPlace := ["slices.overlaps[loop.example/linkstaterouting/impl.Route]"], unfollowed := true, recurses := true, apart := false, narrowed := true }
def FnTableAddUptoSaid : Prop := fnTableAddUptoRow.holds Try.pinned (OpenSpec.upto fnTableAddSpec)

/-- 'laws.FnTableAddFull', WHERE WHAT IT READS IS OF BULK AT MOST 1048576: true; the input reads as it did. -/
def fnTableAddFullUptoRow : OpenClaim := { program := "ytlkchocjldllgaa", sum := "bb8b67262b44655540803e955df3533cf0be40cd4b5e6b9c294de82a3ec720be", func := "loop.example/linkstaterouting/laws.FnTableAddFull", spec := "fnTableAddFull", inPlace := ["slices.overlaps[loop.example/linkstaterouting/impl.Route]"], unfollowed := true, recurses := true, apart := false, narrowed := true }
def FnTableAddFullUptoSaid : Prop := fnTableAddFullUptoRow.holds Try.pinned (OpenSpec.upto fnTableAddFullSpec)

/-- 'laws.FnTableAddOrder', WHERE WHAT IT READS IS OF BULK AT MOST 1048576: true; the input reads as it did. -/
def fnTableAddOrderUptoRow : OpenClaim := { program := "ytlkchocjldllgaa", sum := "bb8b67262b44655540803e955df3533cf0be40cd4b5e6b9c294de82a3ec720be", func := "loop.example/linkstaterouting/laws.FnTableAddOrder", spec := "fnTableAddOrder", inPlace := ["slices.overlaps[loop.example/linkstaterouting/impl.Route]"], unfollowed := true, recurses := true, apart := false, narrowed := true }
def FnTableAddOrderUptoSaid : Prop := fnTableAddOrderUptoRow.holds Try.pinned (OpenSpec.upto fnTableAddOrderSpec)

/-- 'laws.FnTableAddTwice', WHERE WHAT IT READS IS OF BULK AT MOST 1048576: true; the input reads as it did. -/
def fnTableAddTwiceUptoRow : OpenClaim := { program := "ytlkchocjldllgaa", sum := "bb8b67262b44655540803e955df3533cf0be40cd4b5e6b9c294de82a3ec720be", func := "loop.example/linkstaterouting/laws.FnTableAddTwice", spec := "fnTableAddTwice", inPlace := ["slices.overlaps[loop.example/linkstaterouting/impl.Route]"], unfollowed := true, recurses := true, apart := false, narrowed := true }
def FnTableAddTwiceUptoSaid : Prop := fnTableAddTwiceUptoRow.holds Try.pinned (OpenSpec.upto fnTableAddTwiceSpec)

/-- 'laws.FnTableDefault', WHERE WHAT IT READS IS OF BULK AT MOST 1048576: true; the input reads as it did. -/
def fnTableDefaultUptoRow : OpenClaim := { program := "ytlkchocjldllgaa", sum := "bb8b67262b44655540803e955df3533cf0be40cd4b5e6b9c294de82a3ec720be", func := "loop.example/linkstaterouting/laws.FnTableDefault", spec := "fnTableDefault", inPlace := ["slices.overlaps[loop.example/linkstaterouting/impl.Route]"], unfollowed := true, recurses := true, apart := false, narrowed := true }
def FnTableDefaultUptoSaid : Prop := fnTableDefaultUptoRow.holds Try.pinned (OpenSpec.upto fnTableDefaultSpec)

/-- 'laws.FnTableHopOthers', WHERE WHAT IT READS IS OF BULK AT MOST 1048576: true; the input reads as it did. -/
def fnTableHopOthersUptoRow : OpenClaim := { program := "ytlkchocjldllgaa", sum := "bb8b67262b44655540803e955df3533cf0be40cd4b5e6b9c294de82a3ec720be", func := "loop.example/linkstaterouting/laws.FnTableHopOthers", spec := "fnTableHopOthers", inPlace := ["slices.overlaps[loop.example/linkstaterouting/impl.Route]"], unfollowed := true, recurses := true, apart := false, narrowed := true }
def FnTableHopOthersUptoSaid : Prop := fnTableHopOthersUptoRow.holds Try.pinned (OpenSpec.upto fnTableHopOthersSpec)

/-- 'laws.FnTableRemove', WHERE WHAT IT READS IS OF BULK AT MOST 1048576: true; the input reads as it did. -/
def fnTableRemoveUptoRow : OpenClaim := { program := "ytlkchocjldllgaa", sum := "bb8b67262b44655540803e955df3533cf0be40cd4b5e6b9c294de82a3ec720be", func := "loop.example/linkstaterouting/laws.FnTableRemove", spec := "fnTableRemove", inPlace := ["slices.overlaps[loop.example/linkstaterouting/impl.Route]"], unfollowed := true, recurses := true, apart := false, narrowed := true }
def FnTableRemoveUptoSaid : Prop := fnTableRemoveUptoRow.holds Try.pinned (OpenSpec.upto fnTableRemoveSpec)

/-- 'laws.FnExactTableAdd', WHERE WHAT IT READS IS OF BULK AT MOST 1048576: true; the input reads as it did. -/
def fnExactTableAddUptoRow : OpenClaim := { program := "ytlkchocjldllgaa", sum := "bb8b67262b44655540803e955df3533cf0be40cd4b5e6b9c294de82a3ec720be", func := "loop.example/linkstaterouting/laws.FnExactTableAdd", spec := "fnExactTableAdd", inPlace := ["slices.overlaps[loop.example/linkstaterouting/impl.Route]"], unfollowed := true, recurses := true, apart := false, narrowed := true }
def FnExactTableAddUptoSaid : Prop := fnExactTableAddUptoRow.holds Try.pinned (OpenSpec.upto fnExactTableAddSpec)

end Rows
end Go.Proofs.Ytlkchocjldllgaa
