/-
  No cell of these rows narrows 'for every input' (looked for: loops, veiled, ifaces, maps, wideKeys, modest, calm, conditions, laid).
  DERIVED. THE GIVEN ROWS OF THIS SEAT. 7 by the template 'for every input the law returns true; each argument reads behind the call as it read before'; 0 by the template 'total and deterministic' (their statements: YtahcpappailjgaaTotals.lean).
  GIVEN WITH THE SEED: the statements are not yours to turn. If you find one false, say at which input.
  Laid BY PROGRAM, IN A SANDBOX (cutbox-rows.mjs): the forced cells as the released guide's own fill.sh prints them over the translation 5bb4dec826eb2be1… (all of the seat's roots in one cut). By AI agents, Wed Nov 11 2026. No macro, syntax, notation, axiom, sorry.
-/
import Derived.Test.YtahcpappailjgaaChecked
import GoSem.Claim
import GoSem.ClaimJoined
import GoSem.ClaimMapViews
import Derived.JoinedTies
import Derived.KernelRfl
namespace Go.Proofs.Ytahcpappailjgaa
/- THE CELL 'sum', in the pinned program and in every row, IS THE sha256 OF THE DUMP (.gsa) THAT YtahcpappailjgaaProg.lean LOADS. Nothing in Lean hashes anything: it is a label: what it is worth is what the hold of that sum in a sandbox is worth. -/
noncomputable def Try.pinned : Pinned := { name := "ytahcpappailjgaa", sum := "5bb4dec826eb2be136e67eb93498f0f64461ac90273594eb407a24c56b0c6df6", checked := Try.checked }
namespace Rows
def none {H : Type} : Left H := { results := [], args := [] }

/-- 'marginalialaw04.RelexTokens': WHATEVER THE INPUT: true; the input reads as it did. -/
def relexTokensSpec : ChangeSpec := { name := "relexTokens", fn := fun _ => fun
  | [d1, d2] => { results := [.lit (.bool true)], args := [d1, d2] }
  | _ => none }
def relexTokensRow : OpenClaim := { program := "ytahcpappailjgaa", sum := "5bb4dec826eb2be136e67eb93498f0f64461ac90273594eb407a24c56b0c6df6", func := "marginalia/marginalialaw04.RelexTokens", spec := "relexTokens", inPlace := ["internal/abi.NoEscape", "internal/bytealg.IndexByteString"], unfollowed := true, recurses := true, apart := false }
def RelexTokensSaid : Prop := relexTokensRow.holds Try.pinned (OpenSpec.ofChange relexTokensSpec)

/-- ITS FALSE NEIGHBOUR: 'it returns false'. Refute it at one input. -/
def relexTokensWrong : ChangeSpec := { name := "relexTokens", fn := fun _ => fun
  | [d1, d2] => { results := [.lit (.bool false)], args := [d1, d2] }
  | _ => none }
def RelexTokensWrongFalsely : Prop := relexTokensRow.holds Try.pinned (OpenSpec.ofChange relexTokensWrong)

/-- 'marginalialaw04.RelexCommons': WHATEVER THE INPUT: true; the input reads as it did. -/
def relexCommonsSpec : ChangeSpec := { name := "relexCommons", fn := fun _ => fun
  | [d1, d2] => { results := [.lit (.bool true)], args := [d1, d2] }
  | _ => none }
def relexCommonsRow : OpenClaim := { program := "ytahcpappailjgaa", sum := "5bb4dec826eb2be136e67eb93498f0f64461ac90273594eb407a24c56b0c6df6", func := "marginalia/marginalialaw04.RelexCommons", spec := "relexCommons", inPlace := ["internal/abi.NoEscape", "internal/bytealg.IndexByteString"], unfollowed := true, recurses := true, apart := false }
def RelexCommonsSaid : Prop := relexCommonsRow.holds Try.pinned (OpenSpec.ofChange relexCommonsSpec)

/-- ITS FALSE NEIGHBOUR: 'it returns false'. Refute it at one input. -/
def relexCommonsWrong : ChangeSpec := { name := "relexCommons", fn := fun _ => fun
  | [d1, d2] => { results := [.lit (.bool false)], args := [d1, d2] }
  | _ => none }
def RelexCommonsWrongFalsely : Prop := relexCommonsRow.holds Try.pinned (OpenSpec.ofChange relexCommonsWrong)

/-- 'marginalialaw04.RelexLines': WHATEVER THE INPUT: true; the input reads as it did. -/
def relexLinesSpec : ChangeSpec := { name := "relexLines", fn := fun _ => fun
  | [d1, d2] => { results := [.lit (.bool true)], args := [d1, d2] }
  | _ => none }
def relexLinesRow : OpenClaim := { program := "ytahcpappailjgaa", sum := "5bb4dec826eb2be136e67eb93498f0f64461ac90273594eb407a24c56b0c6df6", func := "marginalia/marginalialaw04.RelexLines", spec := "relexLines", inPlace := ["internal/abi.NoEscape", "internal/bytealg.IndexByteString"], unfollowed := true, recurses := true, apart := false }
def RelexLinesSaid : Prop := relexLinesRow.holds Try.pinned (OpenSpec.ofChange relexLinesSpec)

/-- ITS FALSE NEIGHBOUR: 'it returns false'. Refute it at one input. -/
def relexLinesWrong : ChangeSpec := { name := "relexLines", fn := fun _ => fun
  | [d1, d2] => { results := [.lit (.bool false)], args := [d1, d2] }
  | _ => none }
def RelexLinesWrongFalsely : Prop := relexLinesRow.holds Try.pinned (OpenSpec.ofChange relexLinesWrong)

/-- 'marginalialaw04.RelexSame': WHATEVER THE INPUT: true; the input reads as it did. -/
def relexSameSpec : ChangeSpec := { name := "relexSame", fn := fun _ => fun
  | [d1, d2] => { results := [.lit (.bool true)], args := [d1, d2] }
  | _ => none }
def relexSameRow : OpenClaim := { program := "ytahcpappailjgaa", sum := "5bb4dec826eb2be136e67eb93498f0f64461ac90273594eb407a24c56b0c6df6", func := "marginalia/marginalialaw04.RelexSame", spec := "relexSame", inPlace := ["internal/bytealg.IndexByteString", "internal/abi.NoEscape"], unfollowed := true, recurses := true, apart := false }
def RelexSameSaid : Prop := relexSameRow.holds Try.pinned (OpenSpec.ofChange relexSameSpec)

/-- ITS FALSE NEIGHBOUR: 'it returns false'. Refute it at one input. -/
def relexSameWrong : ChangeSpec := { name := "relexSame", fn := fun _ => fun
  | [d1, d2] => { results := [.lit (.bool false)], args := [d1, d2] }
  | _ => none }
def RelexSameWrongFalsely : Prop := relexSameRow.holds Try.pinned (OpenSpec.ofChange relexSameWrong)

/-- 'marginalialaw04.RelexBack': WHATEVER THE INPUT: true; the input reads as it did. -/
def relexBackSpec : ChangeSpec := { name := "relexBack", fn := fun _ => fun
  | [d1, d2] => { results := [.lit (.bool true)], args := [d1, d2] }
  | _ => none }
def relexBackRow : OpenClaim := { program := "ytahcpappailjgaa", sum := "5bb4dec826eb2be136e67eb93498f0f64461ac90273594eb407a24c56b0c6df6", func := "marginalia/marginalialaw04.RelexBack", spec := "relexBack", inPlace := ["internal/bytealg.IndexByteString", "internal/abi.NoEscape"], unfollowed := true, recurses := true, apart := false }
def RelexBackSaid : Prop := relexBackRow.holds Try.pinned (OpenSpec.ofChange relexBackSpec)

/-- ITS FALSE NEIGHBOUR: 'it returns false'. Refute it at one input. -/
def relexBackWrong : ChangeSpec := { name := "relexBack", fn := fun _ => fun
  | [d1, d2] => { results := [.lit (.bool false)], args := [d1, d2] }
  | _ => none }
def RelexBackWrongFalsely : Prop := relexBackRow.holds Try.pinned (OpenSpec.ofChange relexBackWrong)

/-- 'marginalialaw04.RelexLess': WHATEVER THE INPUT: true; the input reads as it did. -/
def relexLessSpec : ChangeSpec := { name := "relexLess", fn := fun _ => fun
  | [d1, d2, d3, d4] => { results := [.lit (.bool true)], args := [d1, d2, d3, d4] }
  | _ => none }
def relexLessRow : OpenClaim := { program := "ytahcpappailjgaa", sum := "5bb4dec826eb2be136e67eb93498f0f64461ac90273594eb407a24c56b0c6df6", func := "marginalia/marginalialaw04.RelexLess", spec := "relexLess", inPlace := ["internal/abi.NoEscape", "internal/bytealg.IndexByteString"], unfollowed := true, recurses := true, apart := false }
def RelexLessSaid : Prop := relexLessRow.holds Try.pinned (OpenSpec.ofChange relexLessSpec)

/-- ITS FALSE NEIGHBOUR: 'it returns false'. Refute it at one input. -/
def relexLessWrong : ChangeSpec := { name := "relexLess", fn := fun _ => fun
  | [d1, d2, d3, d4] => { results := [.lit (.bool false)], args := [d1, d2, d3, d4] }
  | _ => none }
def RelexLessWrongFalsely : Prop := relexLessRow.holds Try.pinned (OpenSpec.ofChange relexLessWrong)

/-- 'marginalialaw04.RelexThen': WHATEVER THE INPUT: true; the input reads as it did. -/
def relexThenSpec : ChangeSpec := { name := "relexThen", fn := fun _ => fun
  | [d1, d2, d3] => { results := [.lit (.bool true)], args := [d1, d2, d3] }
  | _ => none }
def relexThenRow : OpenClaim := { program := "ytahcpappailjgaa", sum := "5bb4dec826eb2be136e67eb93498f0f64461ac90273594eb407a24c56b0c6df6", func := "marginalia/marginalialaw04.RelexThen", spec := "relexThen", inPlace := ["internal/bytealg.IndexByteString", "internal/abi.NoEscape"], unfollowed := true, recurses := true, apart := false }
def RelexThenSaid : Prop := relexThenRow.holds Try.pinned (OpenSpec.ofChange relexThenSpec)

/-- ITS FALSE NEIGHBOUR: 'it returns false'. Refute it at one input. -/
def relexThenWrong : ChangeSpec := { name := "relexThen", fn := fun _ => fun
  | [d1, d2, d3] => { results := [.lit (.bool false)], args := [d1, d2, d3] }
  | _ => none }
def RelexThenWrongFalsely : Prop := relexThenRow.holds Try.pinned (OpenSpec.ofChange relexThenWrong)

/- THE SECOND FORM. 'bulk': how many values and letters a reading holds, each counted each time it is reached (what is shared counts as often as it is met; a slice's spare places count too). A statement '..UptoSaid' is the law's where the arguments, and the package variables that the reading takes, are together of bulk at most 1048576: NARROWER than '..Said'. Prove '..Said' where nothing that the law and all that it calls make is longer than what came in: it says more and counts as full. Else prove '..UptoSaid'. A law counts once. -/
mutual
def uptoBulk {H : Type} : DataW H → Nat
  | .lit (.string bytes) => bytes.length + 1
  | .lit _ => 1
  | .nil => 1
  | .ptr d => uptoBulk d + 1
  | .slice elems spare => uptoBulkAll elems + uptoBulkAll spare + 1
  | .agg parts => uptoBulkAll parts + 1
  | .iface _ d => uptoBulk d + 1
  | .map entries => uptoBulkEntries entries + 1
  | .held _ => 1
def uptoBulkAll {H : Type} : List (DataW H) → Nat
  | [] => 0
  | d :: r => uptoBulk d + uptoBulkAll r
def uptoBulkEntries {H : Type} : List (Lit × DataW H) → Nat
  | [] => 0
  | x :: r => uptoBulkEntry x + uptoBulkEntries r
def uptoBulkEntry {H : Type} : Lit × DataW H → Nat
  | (.string bytes, d) => bytes.length + uptoBulk d + 1
  | (_, d) => uptoBulk d + 1
 end
def uptoSmall : (H : Type) → List (DataW H) → Bool := fun _ ds => decide (uptoBulkAll ds ≤ 1048576)
def OpenSpec.upto (s : _root_.Go.ChangeSpec) : _root_.Go.OpenSpec := { _root_.Go.OpenSpec.ofChange s with cond := some uptoSmall }

/-- 'marginalialaw04.RelexTokens', WHERE WHAT IT READS IS OF BULK AT MOST 1048576: true; the input reads as it did. -/
def relexTokensUptoRow : OpenClaim := { program := "ytahcpappailjgaa", sum := "5bb4dec826eb2be136e67eb93498f0f64461ac90273594eb407a24c56b0c6df6", func := "marginalia/marginalialaw04.RelexTokens", spec := "relexTokens", inPlace := ["internal/abi.NoEscape", "internal/bytealg.IndexByteString"], unfollowed := true, recurses := true, apart := false, narrowed := true }
def RelexTokensUptoSaid : Prop := relexTokensUptoRow.holds Try.pinned (OpenSpec.upto relexTokensSpec)

/-- 'marginalialaw04.RelexCommons', WHERE WHAT IT READS IS OF BULK AT MOST 1048576: true; the input reads as it did. -/
def relexCommonsUptoRow : OpenClaim := { program := "ytahcpappailjgaa", sum := "5bb4dec826eb2be136e67eb93498f0f64461ac90273594eb407a24c56b0c6df6", func := "marginalia/marginalialaw04.RelexCommons", spec := "relexCommons", inPlace := ["internal/abi.NoEscape", "internal/bytealg.IndexByteString"], unfollowed := true, recurses := true, apart := false, narrowed := true }
def RelexCommonsUptoSaid : Prop := relexCommonsUptoRow.holds Try.pinned (OpenSpec.upto relexCommonsSpec)

/-- 'marginalialaw04.RelexLines', WHERE WHAT IT READS IS OF BULK AT MOST 1048576: true; the input reads as it did. -/
def relexLinesUptoRow : OpenClaim := { program := "ytahcpappailjgaa", sum := "5bb4dec826eb2be136e67eb93498f0f64461ac90273594eb407a24c56b0c6df6", func := "marginalia/marginalialaw04.RelexLines", spec := "relexLines", inPlace := ["internal/abi.NoEscape", "internal/bytealg.IndexByteString"], unfollowed := true, recurses := true, apart := false, narrowed := true }
def RelexLinesUptoSaid : Prop := relexLinesUptoRow.holds Try.pinned (OpenSpec.upto relexLinesSpec)

/-- 'marginalialaw04.RelexSame', WHERE WHAT IT READS IS OF BULK AT MOST 1048576: true; the input reads as it did. -/
def relexSameUptoRow : OpenClaim := { program := "ytahcpappailjgaa", sum := "5bb4dec826eb2be136e67eb93498f0f64461ac90273594eb407a24c56b0c6df6", func := "marginalia/marginalialaw04.RelexSame", spec := "relexSame", inPlace := ["internal/bytealg.IndexByteString", "internal/abi.NoEscape"], unfollowed := true, recurses := true, apart := false, narrowed := true }
def RelexSameUptoSaid : Prop := relexSameUptoRow.holds Try.pinned (OpenSpec.upto relexSameSpec)

/-- 'marginalialaw04.RelexBack', WHERE WHAT IT READS IS OF BULK AT MOST 1048576: true; the input reads as it did. -/
def relexBackUptoRow : OpenClaim := { program := "ytahcpappailjgaa", sum := "5bb4dec826eb2be136e67eb93498f0f64461ac90273594eb407a24c56b0c6df6", func := "marginalia/marginalialaw04.RelexBack", spec := "relexBack", inPlace := ["internal/bytealg.IndexByteString", "internal/abi.NoEscape"], unfollowed := true, recurses := true, apart := false, narrowed := true }
def RelexBackUptoSaid : Prop := relexBackUptoRow.holds Try.pinned (OpenSpec.upto relexBackSpec)

/-- 'marginalialaw04.RelexLess', WHERE WHAT IT READS IS OF BULK AT MOST 1048576: true; the input reads as it did. -/
def relexLessUptoRow : OpenClaim := { program := "ytahcpappailjgaa", sum := "5bb4dec826eb2be136e67eb93498f0f64461ac90273594eb407a24c56b0c6df6", func := "marginalia/marginalialaw04.RelexLess", spec := "relexLess", inPlace := ["internal/abi.NoEscape", "internal/bytealg.IndexByteString"], unfollowed := true, recurses := true, apart := false, narrowed := true }
def RelexLessUptoSaid : Prop := relexLessUptoRow.holds Try.pinned (OpenSpec.upto relexLessSpec)

/-- 'marginalialaw04.RelexThen', WHERE WHAT IT READS IS OF BULK AT MOST 1048576: true; the input reads as it did. -/
def relexThenUptoRow : OpenClaim := { program := "ytahcpappailjgaa", sum := "5bb4dec826eb2be136e67eb93498f0f64461ac90273594eb407a24c56b0c6df6", func := "marginalia/marginalialaw04.RelexThen", spec := "relexThen", inPlace := ["internal/bytealg.IndexByteString", "internal/abi.NoEscape"], unfollowed := true, recurses := true, apart := false, narrowed := true }
def RelexThenUptoSaid : Prop := relexThenUptoRow.holds Try.pinned (OpenSpec.upto relexThenSpec)

end Rows
end Go.Proofs.Ytahcpappailjgaa
