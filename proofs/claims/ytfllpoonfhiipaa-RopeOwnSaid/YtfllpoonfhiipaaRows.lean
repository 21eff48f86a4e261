/-
  No cell of these rows narrows 'for every input' (looked for: loops, veiled, ifaces, maps, wideKeys, modest, calm, conditions, laid).
  DERIVED. THE GIVEN ROWS OF THIS SEAT. 12 by the template 'for every input the law returns true; each argument reads behind the call as it read before'; 0 by the template 'total and deterministic' (their statements: YtfllpoonfhiipaaTotals.lean).
  GIVEN WITH THE SEED: the statements are not yours to turn. If you find one false, say at which input.
  Laid BY PROGRAM, IN A SANDBOX (cutbox-rows.mjs): the forced cells as the released guide's own fill.sh prints them over the translation 7c03922c6ff4591d… (all of the seat's roots in one cut). By AI agents, Wed Nov 11 2026. No macro, syntax, notation, axiom, sorry.
-/
import Derived.Test.YtfllpoonfhiipaaChecked
import GoSem.Claim
import GoSem.ClaimJoined
import GoSem.ClaimMapViews
import Derived.JoinedTies
import Derived.KernelRfl
namespace Go.Proofs.Ytfllpoonfhiipaa
/- THE CELL 'sum', in the pinned program and in every row, IS THE sha256 OF THE DUMP (.gsa) THAT YtfllpoonfhiipaaProg.lean LOADS. Nothing in Lean hashes anything: it is a label: what it is worth is what the hold of that sum in a sandbox is worth. -/
noncomputable def Try.pinned : Pinned := { name := "ytfllpoonfhiipaa", sum := "7c03922c6ff4591d0c330f3573f8e15ecc77ad787b8da4df6e3f6ce263d5c138", checked := Try.checked }
namespace Rows
def none {H : Type} : Left H := { results := [], args := [] }

/-- 'marginalialaw01.RopeApplies': WHATEVER THE INPUT: true; the input reads as it did. -/
def ropeAppliesSpec : ChangeSpec := { name := "ropeApplies", fn := fun _ => fun
  | [d1, d2] => { results := [.lit (.bool true)], args := [d1, d2] }
  | _ => none }
def ropeAppliesRow : OpenClaim := { program := "ytfllpoonfhiipaa", sum := "7c03922c6ff4591d0c330f3573f8e15ecc77ad787b8da4df6e3f6ce263d5c138", func := "marginalia/marginalialaw01.RopeApplies", spec := "ropeApplies", inPlace := ["internal/abi.NoEscape", "internal/bytealg.CountString", "internal/bytealg.IndexByteString", "internal/bytealg.IndexString", "internal/bytealg.MakeNoZero"], named := ["internal/bytealg.MaxLen"], apart := false }
def RopeAppliesSaid : Prop := ropeAppliesRow.holds Try.pinned (OpenSpec.ofChange ropeAppliesSpec)

/-- ITS FALSE NEIGHBOUR: 'it returns false'. Refute it at one input. -/
def ropeAppliesWrong : ChangeSpec := { name := "ropeApplies", fn := fun _ => fun
  | [d1, d2] => { results := [.lit (.bool false)], args := [d1, d2] }
  | _ => none }
def RopeAppliesWrongFalsely : Prop := ropeAppliesRow.holds Try.pinned (OpenSpec.ofChange ropeAppliesWrong)

/-- 'marginalialaw01.RopeMoves': WHATEVER THE INPUT: true; the input reads as it did. -/
def ropeMovesSpec : ChangeSpec := { name := "ropeMoves", fn := fun _ => fun
  | [d1, d2, d3] => { results := [.lit (.bool true)], args := [d1, d2, d3] }
  | _ => none }
def ropeMovesRow : OpenClaim := { program := "ytfllpoonfhiipaa", sum := "7c03922c6ff4591d0c330f3573f8e15ecc77ad787b8da4df6e3f6ce263d5c138", func := "marginalia/marginalialaw01.RopeMoves", spec := "ropeMoves", inPlace := ["internal/abi.NoEscape", "internal/bytealg.CountString", "internal/bytealg.IndexByteString", "internal/bytealg.IndexString", "internal/bytealg.MakeNoZero"], named := ["internal/bytealg.MaxLen"], apart := false }
def RopeMovesSaid : Prop := ropeMovesRow.holds Try.pinned (OpenSpec.ofChange ropeMovesSpec)

/-- ITS FALSE NEIGHBOUR: 'it returns false'. Refute it at one input. -/
def ropeMovesWrong : ChangeSpec := { name := "ropeMoves", fn := fun _ => fun
  | [d1, d2, d3] => { results := [.lit (.bool false)], args := [d1, d2, d3] }
  | _ => none }
def RopeMovesWrongFalsely : Prop := ropeMovesRow.holds Try.pinned (OpenSpec.ofChange ropeMovesWrong)

/-- 'marginalialaw01.RopeDiffs': WHATEVER THE INPUT: true; the input reads as it did. -/
def ropeDiffsSpec : ChangeSpec := { name := "ropeDiffs", fn := fun _ => fun
  | [d1, d2] => { results := [.lit (.bool true)], args := [d1, d2] }
  | _ => none }
def ropeDiffsRow : OpenClaim := { program := "ytfllpoonfhiipaa", sum := "7c03922c6ff4591d0c330f3573f8e15ecc77ad787b8da4df6e3f6ce263d5c138", func := "marginalia/marginalialaw01.RopeDiffs", spec := "ropeDiffs", inPlace := ["internal/abi.NoEscape", "internal/bytealg.CountString", "internal/bytealg.IndexByteString", "internal/bytealg.IndexString", "internal/bytealg.MakeNoZero"], named := ["internal/bytealg.MaxLen"], apart := false }
def RopeDiffsSaid : Prop := ropeDiffsRow.holds Try.pinned (OpenSpec.ofChange ropeDiffsSpec)

/-- ITS FALSE NEIGHBOUR: 'it returns false'. Refute it at one input. -/
def ropeDiffsWrong : ChangeSpec := { name := "ropeDiffs", fn := fun _ => fun
  | [d1, d2] => { results := [.lit (.bool false)], args := [d1, d2] }
  | _ => none }
def RopeDiffsWrongFalsely : Prop := ropeDiffsRow.holds Try.pinned (OpenSpec.ofChange ropeDiffsWrong)

/-- 'marginalialaw01.RopeKeeps': WHATEVER THE INPUT: true; the input reads as it did. -/
def ropeKeepsSpec : ChangeSpec := { name := "ropeKeeps", fn := fun _ => fun
  | [d1, d2, d3, d4, d5] => { results := [.lit (.bool true)], args := [d1, d2, d3, d4, d5] }
  | _ => none }
def ropeKeepsRow : OpenClaim := { program := "ytfllpoonfhiipaa", sum := "7c03922c6ff4591d0c330f3573f8e15ecc77ad787b8da4df6e3f6ce263d5c138", func := "marginalia/marginalialaw01.RopeKeeps", spec := "ropeKeeps", inPlace := ["internal/abi.NoEscape", "internal/bytealg.CountString", "internal/bytealg.IndexByteString", "internal/bytealg.IndexString", "internal/bytealg.MakeNoZero"], named := ["internal/bytealg.MaxLen"], apart := false }
def RopeKeepsSaid : Prop := ropeKeepsRow.holds Try.pinned (OpenSpec.ofChange ropeKeepsSpec)

/-- ITS FALSE NEIGHBOUR: 'it returns false'. Refute it at one input. -/
def ropeKeepsWrong : ChangeSpec := { name := "ropeKeeps", fn := fun _ => fun
  | [d1, d2, d3, d4, d5] => { results := [.lit (.bool false)], args := [d1, d2, d3, d4, d5] }
  | _ => none }
def RopeKeepsWrongFalsely : Prop := ropeKeepsRow.holds Try.pinned (OpenSpec.ofChange ropeKeepsWrong)

/-- 'marginalialaw01.RopeLeast': WHATEVER THE INPUT: true; the input reads as it did. -/
def ropeLeastSpec : ChangeSpec := { name := "ropeLeast", fn := fun _ => fun
  | [d1, d2] => { results := [.lit (.bool true)], args := [d1, d2] }
  | _ => none }
def ropeLeastRow : OpenClaim := { program := "ytfllpoonfhiipaa", sum := "7c03922c6ff4591d0c330f3573f8e15ecc77ad787b8da4df6e3f6ce263d5c138", func := "marginalia/marginalialaw01.RopeLeast", spec := "ropeLeast", inPlace := ["internal/abi.NoEscape", "internal/bytealg.CountString", "internal/bytealg.IndexByteString", "internal/bytealg.IndexString", "internal/bytealg.MakeNoZero"], named := ["internal/bytealg.MaxLen"], apart := false }
def RopeLeastSaid : Prop := ropeLeastRow.holds Try.pinned (OpenSpec.ofChange ropeLeastSpec)

/-- ITS FALSE NEIGHBOUR: 'it returns false'. Refute it at one input. -/
def ropeLeastWrong : ChangeSpec := { name := "ropeLeast", fn := fun _ => fun
  | [d1, d2] => { results := [.lit (.bool false)], args := [d1, d2] }
  | _ => none }
def RopeLeastWrongFalsely : Prop := ropeLeastRow.holds Try.pinned (OpenSpec.ofChange ropeLeastWrong)

/-- 'marginalialaw01.RopeBack': WHATEVER THE INPUT: true; the input reads as it did. -/
def ropeBackSpec : ChangeSpec := { name := "ropeBack", fn := fun _ => fun
  | [d1, d2] => { results := [.lit (.bool true)], args := [d1, d2] }
  | _ => none }
def ropeBackRow : OpenClaim := { program := "ytfllpoonfhiipaa", sum := "7c03922c6ff4591d0c330f3573f8e15ecc77ad787b8da4df6e3f6ce263d5c138", func := "marginalia/marginalialaw01.RopeBack", spec := "ropeBack", inPlace := ["internal/abi.NoEscape", "internal/bytealg.CountString", "internal/bytealg.IndexByteString", "internal/bytealg.IndexString", "internal/bytealg.MakeNoZero"], named := ["internal/bytealg.MaxLen"], apart := false }
def RopeBackSaid : Prop := ropeBackRow.holds Try.pinned (OpenSpec.ofChange ropeBackSpec)

/-- ITS FALSE NEIGHBOUR: 'it returns false'. Refute it at one input. -/
def ropeBackWrong : ChangeSpec := { name := "ropeBack", fn := fun _ => fun
  | [d1, d2] => { results := [.lit (.bool false)], args := [d1, d2] }
  | _ => none }
def RopeBackWrongFalsely : Prop := ropeBackRow.holds Try.pinned (OpenSpec.ofChange ropeBackWrong)

/-- 'marginalialaw01.RopePieces': WHATEVER THE INPUT: true; the input reads as it did. -/
def ropePiecesSpec : ChangeSpec := { name := "ropePieces", fn := fun _ => fun
  | [d1, d2] => { results := [.lit (.bool true)], args := [d1, d2] }
  | _ => none }
def ropePiecesRow : OpenClaim := { program := "ytfllpoonfhiipaa", sum := "7c03922c6ff4591d0c330f3573f8e15ecc77ad787b8da4df6e3f6ce263d5c138", func := "marginalia/marginalialaw01.RopePieces", spec := "ropePieces", inPlace := ["internal/abi.NoEscape", "internal/bytealg.CountString", "internal/bytealg.IndexByteString", "internal/bytealg.IndexString", "internal/bytealg.MakeNoZero"], named := ["internal/bytealg.MaxLen"], apart := false }
def RopePiecesSaid : Prop := ropePiecesRow.holds Try.pinned (OpenSpec.ofChange ropePiecesSpec)

/-- ITS FALSE NEIGHBOUR: 'it returns false'. Refute it at one input. -/
def ropePiecesWrong : ChangeSpec := { name := "ropePieces", fn := fun _ => fun
  | [d1, d2] => { results := [.lit (.bool false)], args := [d1, d2] }
  | _ => none }
def RopePiecesWrongFalsely : Prop := ropePiecesRow.holds Try.pinned (OpenSpec.ofChange ropePiecesWrong)

/-- 'marginalialaw01.RopeEdits': WHATEVER THE INPUT: true; the input reads as it did. -/
def ropeEditsSpec : ChangeSpec := { name := "ropeEdits", fn := fun _ => fun
  | [d1, d2, d3, d4] => { results := [.lit (.bool true)], args := [d1, d2, d3, d4] }
  | _ => none }
def ropeEditsRow : OpenClaim := { program := "ytfllpoonfhiipaa", sum := "7c03922c6ff4591d0c330f3573f8e15ecc77ad787b8da4df6e3f6ce263d5c138", func := "marginalia/marginalialaw01.RopeEdits", spec := "ropeEdits", inPlace := ["internal/abi.NoEscape", "internal/bytealg.CountString", "internal/bytealg.IndexByteString", "internal/bytealg.IndexString", "internal/bytealg.MakeNoZero"], named := ["internal/bytealg.MaxLen"], apart := false }
def RopeEditsSaid : Prop := ropeEditsRow.holds Try.pinned (OpenSpec.ofChange ropeEditsSpec)

/-- ITS FALSE NEIGHBOUR: 'it returns false'. Refute it at one input. -/
def ropeEditsWrong : ChangeSpec := { name := "ropeEdits", fn := fun _ => fun
  | [d1, d2, d3, d4] => { results := [.lit (.bool false)], args := [d1, d2, d3, d4] }
  | _ => none }
def RopeEditsWrongFalsely : Prop := ropeEditsRow.holds Try.pinned (OpenSpec.ofChange ropeEditsWrong)

/-- 'marginalialaw01.RopeVoid': WHATEVER THE INPUT: true; the input reads as it did. -/
def ropeVoidSpec : ChangeSpec := { name := "ropeVoid", fn := fun _ => fun
  | [d1, d2, d3] => { results := [.lit (.bool true)], args := [d1, d2, d3] }
  | _ => none }
def ropeVoidRow : OpenClaim := { program := "ytfllpoonfhiipaa", sum := "7c03922c6ff4591d0c330f3573f8e15ecc77ad787b8da4df6e3f6ce263d5c138", func := "marginalia/marginalialaw01.RopeVoid", spec := "ropeVoid", inPlace := ["internal/abi.NoEscape", "internal/bytealg.MakeNoZero", "internal/bytealg.CountString", "internal/bytealg.IndexByteString", "internal/bytealg.IndexString"], named := ["internal/bytealg.MaxLen"], apart := false }
def RopeVoidSaid : Prop := ropeVoidRow.holds Try.pinned (OpenSpec.ofChange ropeVoidSpec)

/-- ITS FALSE NEIGHBOUR: 'it returns false'. Refute it at one input. -/
def ropeVoidWrong : ChangeSpec := { name := "ropeVoid", fn := fun _ => fun
  | [d1, d2, d3] => { results := [.lit (.bool false)], args := [d1, d2, d3] }
  | _ => none }
def RopeVoidWrongFalsely : Prop := ropeVoidRow.holds Try.pinned (OpenSpec.ofChange ropeVoidWrong)

/-- 'marginalialaw01.RopeMerges': WHATEVER THE INPUT: true; the input reads as it did. -/
def ropeMergesSpec : ChangeSpec := { name := "ropeMerges", fn := fun _ => fun
  | [d1, d2, d3] => { results := [.lit (.bool true)], args := [d1, d2, d3] }
  | _ => none }
def ropeMergesRow : OpenClaim := { program := "ytfllpoonfhiipaa", sum := "7c03922c6ff4591d0c330f3573f8e15ecc77ad787b8da4df6e3f6ce263d5c138", func := "marginalia/marginalialaw01.RopeMerges", spec := "ropeMerges", inPlace := ["internal/abi.NoEscape", "internal/bytealg.CountString", "internal/bytealg.IndexByteString", "internal/bytealg.IndexString", "internal/bytealg.MakeNoZero"], unfollowed := true, recurses := true, named := ["internal/bytealg.MaxLen"], apart := false }
def RopeMergesSaid : Prop := ropeMergesRow.holds Try.pinned (OpenSpec.ofChange ropeMergesSpec)

/-- ITS FALSE NEIGHBOUR: 'it returns false'. Refute it at one input. -/
def ropeMergesWrong : ChangeSpec := { name := "ropeMerges", fn := fun _ => fun
  | [d1, d2, d3] => { results := [.lit (.bool false)], args := [d1, d2, d3] }
  | _ => none }
def RopeMergesWrongFalsely : Prop := ropeMergesRow.holds Try.pinned (OpenSpec.ofChange ropeMergesWrong)

/-- 'marginalialaw01.RopeThen': WHATEVER THE INPUT: true; the input reads as it did. -/
def ropeThenSpec : ChangeSpec := { name := "ropeThen", fn := fun _ => fun
  | [d1, d2, d3] => { results := [.lit (.bool true)], args := [d1, d2, d3] }
  | _ => none }
def ropeThenRow : OpenClaim := { program := "ytfllpoonfhiipaa", sum := "7c03922c6ff4591d0c330f3573f8e15ecc77ad787b8da4df6e3f6ce263d5c138", func := "marginalia/marginalialaw01.RopeThen", spec := "ropeThen", inPlace := ["internal/abi.NoEscape", "internal/bytealg.CountString", "internal/bytealg.IndexByteString", "internal/bytealg.IndexString", "internal/bytealg.MakeNoZero"], unfollowed := true, recurses := true, named := ["internal/bytealg.MaxLen"], apart := false }
def RopeThenSaid : Prop := ropeThenRow.holds Try.pinned (OpenSpec.ofChange ropeThenSpec)

/-- ITS FALSE NEIGHBOUR: 'it returns false'. Refute it at one input. -/
def ropeThenWrong : ChangeSpec := { name := "ropeThen", fn := fun _ => fun
  | [d1, d2, d3] => { results := [.lit (.bool false)], args := [d1, d2, d3] }
  | _ => none }
def RopeThenWrongFalsely : Prop := ropeThenRow.holds Try.pinned (OpenSpec.ofChange ropeThenWrong)

/-- 'marginalialaw01.RopeOwn': WHATEVER THE INPUT: true; the input reads as it did. -/
def ropeOwnSpec : ChangeSpec := { name := "ropeOwn", fn := fun _ => fun
  | [d1, d2, d3] => { results := [.lit (.bool true)], args := [d1, d2, d3] }
  | _ => none }
def ropeOwnRow : OpenClaim := { program := "ytfllpoonfhiipaa", sum := "7c03922c6ff4591d0c330f3573f8e15ecc77ad787b8da4df6e3f6ce263d5c138", func := "marginalia/marginalialaw01.RopeOwn", spec := "ropeOwn", inPlace := ["internal/abi.NoEscape", "internal/bytealg.CountString", "internal/bytealg.IndexByteString", "internal/bytealg.IndexString", "internal/bytealg.MakeNoZero"], unfollowed := true, recurses := true, named := ["internal/bytealg.MaxLen"], apart := false }
def RopeOwnSaid : Prop := ropeOwnRow.holds Try.pinned (OpenSpec.ofChange ropeOwnSpec)

/-- ITS FALSE NEIGHBOUR: 'it returns false'. Refute it at one input. -/
def ropeOwnWrong : ChangeSpec := { name := "ropeOwn", fn := fun _ => fun
  | [d1, d2, d3] => { results := [.lit (.bool false)], args := [d1, d2, d3] }
  | _ => none }
def RopeOwnWrongFalsely : Prop := ropeOwnRow.holds Try.pinned (OpenSpec.ofChange ropeOwnWrong)

/- THE SECOND FORM. 'bulk': how many values and letters a reading holds, each counted each time it is reached (what is shared counts as often as it is met; a slice's spare places count too). A statement '..UptoSaid' is the law's where the arguments, and the package variables that the reading takes, are together of bulk at most 1048576: NARROWER than '..Said'. Prove '..Said' where nothing that the law and all that it calls make is longer than what came in: it says more and counts as full. Else prove '..UptoSaid'. A law counts once. -/
mutual
def uptoBulk {H : Type} : DataW H → Nat
  | .lit (.string bytes) => bytes.length + 1
  | .lit _ => 1
  | .nil => 1
  | .ptr d => uptoBulk d + 1
  | .slice elems spare => uptoBulkAll elems + uptoBulkAll spare + 1
  | .agg parts => uptoBulkAll parts + 1
  | .iface _ d => uptoBulk d + 1
  | .map entries => uptoBulkEntries entries + 1
  | .held _ => 1
def uptoBulkAll {H : Type} : List (DataW H) → Nat
  | [] => 0
  | d :: r => uptoBulk d + uptoBulkAll r
def uptoBulkEntries {H : Type} : List (Lit × DataW H) → Nat
  | [] => 0
  | x :: r => uptoBulkEntry x + uptoBulkEntries r
def uptoBulkEntry {H : Type} : Lit × DataW H → Nat
  | (.string bytes, d) => bytes.length + uptoBulk d + 1
  | (_, d) => uptoBulk d + 1
 end
def uptoSmall : (H : Type) → List (DataW H) → Bool := fun _ ds => decide (uptoBulkAll ds ≤ 1048576)
def OpenSpec.upto (s : _root_.Go.ChangeSpec) : _root_.Go.OpenSpec := { _root_.Go.OpenSpec.ofChange s with cond := some uptoSmall }

/-- 'marginalialaw01.RopeApplies', WHERE WHAT IT READS IS OF BULK AT MOST 1048576: true; the input reads as it did. -/
def ropeAppliesUptoRow : OpenClaim := { program := "ytfllpoonfhiipaa", sum := "7c03922c6ff4591d0c330f3573f8e15ecc77ad787b8da4df6e3f6ce263d5c138", func := "marginalia/marginalialaw01.RopeApplies", spec := "ropeApplies", inPlace := ["internal/abi.NoEscape", "internal/bytealg.CountString", "internal/bytealg.IndexByteString", "internal/bytealg.IndexString", "internal/bytealg.MakeNoZero"], named := ["internal/bytealg.MaxLen"], apart := false, narrowed := true }
def RopeAppliesUptoSaid : Prop := ropeAppliesUptoRow.holds Try.pinned (OpenSpec.upto ropeAppliesSpec)

/-- 'marginalialaw01.RopeMoves', WHERE WHAT IT READS IS OF BULK AT MOST 1048576: true; the input reads as it did. -/
def ropeMovesUptoRow : OpenClaim := { program := "ytfllpoonfhiipaa", sum := "7c03922c6ff4591d0c330f3573f8e15ecc77ad787b8da4df6e3f6ce263d5c138", func := "marginalia/marginalialaw01.RopeMoves", spec := "ropeMoves", inPlace := ["internal/abi.NoEscape", "internal/bytealg.CountString", "internal/bytealg.IndexByteString", "internal/bytealg.IndexString", "internal/bytealg.MakeNoZero"], named := ["internal/bytealg.MaxLen"], apart := false, narrowed := true }
def RopeMovesUptoSaid : Prop := ropeMovesUptoRow.holds Try.pinned (OpenSpec.upto ropeMovesSpec)

/-- 'marginalialaw01.RopeDiffs', WHERE WHAT IT READS IS OF BULK AT MOST 1048576: true; the input reads as it did. -/
def ropeDiffsUptoRow : OpenClaim := { program := "ytfllpoonfhiipaa", sum := "7c03922c6ff4591d0c330f3573f8e15ecc77ad787b8da4df6e3f6ce263d5c138", func := "marginalia/marginalialaw01.RopeDiffs", spec := "ropeDiffs", inPlace := ["internal/abi.NoEscape", "internal/bytealg.CountString", "internal/bytealg.IndexByteString", "internal/bytealg.IndexString", "internal/bytealg.MakeNoZero"], named := ["internal/bytealg.MaxLen"], apart := false, narrowed := true }
def RopeDiffsUptoSaid : Prop := ropeDiffsUptoRow.holds Try.pinned (OpenSpec.upto ropeDiffsSpec)

/-- 'marginalialaw01.RopeKeeps', WHERE WHAT IT READS IS OF BULK AT MOST 1048576: true; the input reads as it did. -/
def ropeKeepsUptoRow : OpenClaim := { program := "ytfllpoonfhiipaa", sum := "7c03922c6ff4591d0c330f3573f8e15ecc77ad787b8da4df6e3f6ce263d5c138", func := "marginalia/marginalialaw01.RopeKeeps", spec := "ropeKeeps", inPlace := ["internal/abi.NoEscape", "internal/bytealg.CountString", "internal/bytealg.IndexByteString", "internal/bytealg.IndexString", "internal/bytealg.MakeNoZero"], named := ["internal/bytealg.MaxLen"], apart := false, narrowed := true }
def RopeKeepsUptoSaid : Prop := ropeKeepsUptoRow.holds Try.pinned (OpenSpec.upto ropeKeepsSpec)

/-- 'marginalialaw01.RopeLeast', WHERE WHAT IT READS IS OF BULK AT MOST 1048576: true; the input reads as it did. -/
def ropeLeastUptoRow : OpenClaim := { program := "ytfllpoonfhiipaa", sum := "7c03922c6ff4591d0c330f3573f8e15ecc77ad787b8da4df6e3f6ce263d5c138", func := "marginalia/marginalialaw01.RopeLeast", spec := "ropeLeast", inPlace := ["internal/abi.NoEscape", "internal/bytealg.CountString", "internal/bytealg.IndexByteString", "internal/bytealg.IndexString", "internal/bytealg.MakeNoZero"], named := ["internal/bytealg.MaxLen"], apart := false, narrowed := true }
def RopeLeastUptoSaid : Prop := ropeLeastUptoRow.holds Try.pinned (OpenSpec.upto ropeLeastSpec)

/-- 'marginalialaw01.RopeBack', WHERE WHAT IT READS IS OF BULK AT MOST 1048576: true; the input reads as it did. -/
def ropeBackUptoRow : OpenClaim := { program := "ytfllpoonfhiipaa", sum := "7c03922c6ff4591d0c330f3573f8e15ecc77ad787b8da4df6e3f6ce263d5c138", func := "marginalia/marginalialaw01.RopeBack", spec := "ropeBack", inPlace := ["internal/abi.NoEscape", "internal/bytealg.CountString", "internal/bytealg.IndexByteString", "internal/bytealg.IndexString", "internal/bytealg.MakeNoZero"], named := ["internal/bytealg.MaxLen"], apart := false, narrowed := true }
def RopeBackUptoSaid : Prop := ropeBackUptoRow.holds Try.pinned (OpenSpec.upto ropeBackSpec)

/-- 'marginalialaw01.RopePieces', WHERE WHAT IT READS IS OF BULK AT MOST 1048576: true; the input reads as it did. -/
def ropePiecesUptoRow : OpenClaim := { program := "ytfllpoonfhiipaa", sum := "7c03922c6ff4591d0c330f3573f8e15ecc77ad787b8da4df6e3f6ce263d5c138", func := "marginalia/marginalialaw01.RopePieces", spec := "ropePieces", inPlace := ["internal/abi.NoEscape", "internal/bytealg.CountString", "internal/bytealg.IndexByteString", "internal/bytealg.IndexString", "internal/bytealg.MakeNoZero"], named := ["internal/bytealg.MaxLen"], apart := false, narrowed := true }
def RopePiecesUptoSaid : Prop := ropePiecesUptoRow.holds Try.pinned (OpenSpec.upto ropePiecesSpec)

/-- 'marginalialaw01.RopeEdits', WHERE WHAT IT READS IS OF BULK AT MOST 1048576: true; the input reads as it did. -/
def ropeEditsUptoRow : OpenClaim := { program := "ytfllpoonfhiipaa", sum := "7c03922c6ff4591d0c330f3573f8e15ecc77ad787b8da4df6e3f6ce263d5c138", func := "marginalia/marginalialaw01.RopeEdits", spec := "ropeEdits", inPlace := ["internal/abi.NoEscape", "internal/bytealg.CountString", "internal/bytealg.IndexByteString", "internal/bytealg.IndexString", "internal/bytealg.MakeNoZero"], named := ["internal/bytealg.MaxLen"], apart := false, narrowed := true }
def RopeEditsUptoSaid : Prop := ropeEditsUptoRow.holds Try.pinned (OpenSpec.upto ropeEditsSpec)

/-- 'marginalialaw01.RopeVoid', WHERE WHAT IT READS IS OF BULK AT MOST 1048576: true; the input reads as it did. -/
def ropeVoidUptoRow : OpenClaim := { program := "ytfllpoonfhiipaa", sum := "7c03922c6ff4591d0c330f3573f8e15ecc77ad787b8da4df6e3f6ce263d5c138", func := "marginalia/marginalialaw01.RopeVoid", spec := "ropeVoid", inPlace := ["internal/abi.NoEscape", "internal/bytealg.MakeNoZero", "internal/bytealg.CountString", "internal/bytealg.IndexByteString", "internal/bytealg.IndexString"], named := ["internal/bytealg.MaxLen"], apart := false, narrowed := true }
def RopeVoidUptoSaid : Prop := ropeVoidUptoRow.holds Try.pinned (OpenSpec.upto ropeVoidSpec)

/-- 'marginalialaw01.RopeMerges', WHERE WHAT IT READS IS OF BULK AT MOST 1048576: true; the input reads as it did. -/
def ropeMergesUptoRow : OpenClaim := { program := "ytfllpoonfhiipaa", sum := "7c03922c6ff4591d0c330f3573f8e15ecc77ad787b8da4df6e3f6ce263d5c138", func := "marginalia/marginalialaw01.RopeMerges", spec := "ropeMerges", inPlace := ["internal/abi.NoEscape", "internal/bytealg.CountString", "internal/bytealg.IndexByteString", "internal/bytealg.IndexString", "internal/bytealg.MakeNoZero"], unfollowed := true, recurses := true, named := ["internal/bytealg.MaxLen"], apart := false, narrowed := true }
def RopeMergesUptoSaid : Prop := ropeMergesUptoRow.holds Try.pinned (OpenSpec.upto ropeMergesSpec)

/-- 'marginalialaw01.RopeThen', WHERE WHAT IT READS IS OF BULK AT MOST 1048576: true; the input reads as it did. -/
def ropeThenUptoRow : OpenClaim := { program := "ytfllpoonfhiipaa", sum := "7c03922c6ff4591d0c330f3573f8e15ecc77ad787b8da4df6e3f6ce263d5c138", func := "marginalia/marginalialaw01.RopeThen", spec := "ropeThen", inPlace := ["internal/abi.NoEscape", "internal/bytealg.CountString", "internal/bytealg.IndexByteString", "internal/bytealg.IndexString", "internal/bytealg.MakeNoZero"], unfollowed := true, recurses := true, named := ["internal/bytealg.MaxLen"], apart := false, narrowed := true }
def RopeThenUptoSaid : Prop := ropeThenUptoRow.holds Try.pinned (OpenSpec.upto ropeThenSpec)

/-- 'marginalialaw01.RopeOwn', WHERE WHAT IT READS IS OF BULK AT MOST 1048576: true; the input reads as it did. -/
def ropeOwnUptoRow : OpenClaim := { program := "ytfllpoonfhiipaa", sum := "7c03922c6ff4591d0c330f3573f8e15ecc77ad787b8da4df6e3f6ce263d5c138", func := "marginalia/marginalialaw01.RopeOwn", spec := "ropeOwn", inPlace := ["internal/abi.NoEscape", "internal/bytealg.CountString", "internal/bytealg.IndexByteString", "internal/bytealg.IndexString", "internal/bytealg.MakeNoZero"], unfollowed := true, recurses := true, named := ["internal/bytealg.MaxLen"], apart := false, narrowed := true }
def RopeOwnUptoSaid : Prop := ropeOwnUptoRow.holds Try.pinned (OpenSpec.upto ropeOwnSpec)

end Rows
end Go.Proofs.Ytfllpoonfhiipaa
