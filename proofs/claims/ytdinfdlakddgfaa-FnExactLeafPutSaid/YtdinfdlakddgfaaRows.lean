/-
  No cell of these rows narrows 'for every input' (looked for: loops, veiled, ifaces, maps, wideKeys, modest, calm, conditions, laid).
  DERIVED. THE GIVEN ROWS OF THIS SEAT. 8 by the template 'for every input the law returns true; each argument reads behind the call as it read before'; 0 by the template 'total and deterministic' (their statements: YtdinfdlakddgfaaTotals.lean).
  GIVEN WITH THE SEED: the statements are not yours to turn. If you find one false, say at which input.
  Laid BY PROGRAM, IN A SANDBOX (cutbox-rows.mjs): the forced cells as the released guide's own fill.sh prints them over the translation 64eef4eca2252f2e… (all of the seat's roots in one cut). By AI agents, Wed Nov 11 2026. No macro, syntax, notation, axiom, sorry.
-/
import Derived.Test.YtdinfdlakddgfaaChecked
import GoSem.Claim
import GoSem.ClaimJoined
import GoSem.ClaimMapViews
import Derived.JoinedTies
import Derived.KernelRfl
namespace Go.Proofs.Ytdinfdlakddgfaa
/- THE CELL 'sum', in the pinned program and in every row, IS THE sha256 OF THE DUMP (.gsa) THAT YtdinfdlakddgfaaProg.lean LOADS. Nothing in Lean hashes anything: it is a label: what it is worth is what the hold of that sum in a sandbox is worth. -/
noncomputable def Try.pinned : Pinned := { name := "ytdinfdlakddgfaa", sum := "64eef4eca2252f2ebd3a77841237fc7399421df8f063bc1a0512ee919216cbfc", checked := Try.checked }
namespace Rows
def none {H : Type} : Left H := { results := [], args := [] }

/-- 'laws.FnExactLeavesOk': WHATEVER THE INPUT: true; the input reads as it did. -/
def fnExactLeavesOkSpec : ChangeSpec := { name := "fnExactLeavesOk", fn := fun _ => fun
  | [d] => { results := [.lit (.bool true)], args := [d] }
  | _ => none }
def fnExactLeavesOkRow : OpenClaim := { program := "ytdinfdlakddgfaa", sum := "64eef4eca2252f2ebd3a77841237fc7399421df8f063bc1a0512ee919216cbfc", func := "loop.example/g00284/laws.FnExactLeavesOk", spec := "fnExactLeavesOk", apart := false }
def FnExactLeavesOkSaid : Prop := fnExactLeavesOkRow.holds Try.pinned (OpenSpec.ofChange fnExactLeavesOkSpec)

/-- ITS FALSE NEIGHBOUR: 'it returns false'. Refute it at one input. -/
def fnExactLeavesOkWrong : ChangeSpec := { name := "fnExactLeavesOk", fn := fun _ => fun
  | [d] => { results := [.lit (.bool false)], args := [d] }
  | _ => none }
def FnExactLeavesOkWrongFalsely : Prop := fnExactLeavesOkRow.holds Try.pinned (OpenSpec.ofChange fnExactLeavesOkWrong)

/-- 'laws.FnExactProofSays': WHATEVER THE INPUT: true; the input reads as it did. -/
def fnExactProofSaysSpec : ChangeSpec := { name := "fnExactProofSays", fn := fun _ => fun
  | [d1, d2] => { results := [.lit (.bool true)], args := [d1, d2] }
  | _ => none }
def fnExactProofSaysRow : OpenClaim := { program := "ytdinfdlakddgfaa", sum := "64eef4eca2252f2ebd3a77841237fc7399421df8f063bc1a0512ee919216cbfc", func := "loop.example/g00284/laws.FnExactProofSays", spec := "fnExactProofSays", apart := false }
def FnExactProofSaysSaid : Prop := fnExactProofSaysRow.holds Try.pinned (OpenSpec.ofChange fnExactProofSaysSpec)

/-- ITS FALSE NEIGHBOUR: 'it returns false'. Refute it at one input. -/
def fnExactProofSaysWrong : ChangeSpec := { name := "fnExactProofSays", fn := fun _ => fun
  | [d1, d2] => { results := [.lit (.bool false)], args := [d1, d2] }
  | _ => none }
def FnExactProofSaysWrongFalsely : Prop := fnExactProofSaysRow.holds Try.pinned (OpenSpec.ofChange fnExactProofSaysWrong)

/-- 'laws.FnExactLeavesText': WHATEVER THE INPUT: true; the input reads as it did. -/
def fnExactLeavesTextSpec : ChangeSpec := { name := "fnExactLeavesText", fn := fun _ => fun
  | [d] => { results := [.lit (.bool true)], args := [d] }
  | _ => none }
def fnExactLeavesTextRow : OpenClaim := { program := "ytdinfdlakddgfaa", sum := "64eef4eca2252f2ebd3a77841237fc7399421df8f063bc1a0512ee919216cbfc", func := "loop.example/g00284/laws.FnExactLeavesText", spec := "fnExactLeavesText", apart := false }
def FnExactLeavesTextSaid : Prop := fnExactLeavesTextRow.holds Try.pinned (OpenSpec.ofChange fnExactLeavesTextSpec)

/-- ITS FALSE NEIGHBOUR: 'it returns false'. Refute it at one input. -/
def fnExactLeavesTextWrong : ChangeSpec := { name := "fnExactLeavesText", fn := fun _ => fun
  | [d] => { results := [.lit (.bool false)], args := [d] }
  | _ => none }
def FnExactLeavesTextWrongFalsely : Prop := fnExactLeavesTextRow.holds Try.pinned (OpenSpec.ofChange fnExactLeavesTextWrong)

/-- 'laws.FnExactBucketText': WHATEVER THE INPUT: true; the input reads as it did. -/
def fnExactBucketTextSpec : ChangeSpec := { name := "fnExactBucketText", fn := fun _ => fun
  | [d] => { results := [.lit (.bool true)], args := [d] }
  | _ => none }
def fnExactBucketTextRow : OpenClaim := { program := "ytdinfdlakddgfaa", sum := "64eef4eca2252f2ebd3a77841237fc7399421df8f063bc1a0512ee919216cbfc", func := "loop.example/g00284/laws.FnExactBucketText", spec := "fnExactBucketText", apart := false }
def FnExactBucketTextSaid : Prop := fnExactBucketTextRow.holds Try.pinned (OpenSpec.ofChange fnExactBucketTextSpec)

/-- ITS FALSE NEIGHBOUR: 'it returns false'. Refute it at one input. -/
def fnExactBucketTextWrong : ChangeSpec := { name := "fnExactBucketText", fn := fun _ => fun
  | [d] => { results := [.lit (.bool false)], args := [d] }
  | _ => none }
def FnExactBucketTextWrongFalsely : Prop := fnExactBucketTextRow.holds Try.pinned (OpenSpec.ofChange fnExactBucketTextWrong)

/-- 'laws.FnExactLeafDrop': WHATEVER THE INPUT: true; the input reads as it did. -/
def fnExactLeafDropSpec : ChangeSpec := { name := "fnExactLeafDrop", fn := fun _ => fun
  | [d1, d2] => { results := [.lit (.bool true)], args := [d1, d2] }
  | _ => none }
def fnExactLeafDropRow : OpenClaim := { program := "ytdinfdlakddgfaa", sum := "64eef4eca2252f2ebd3a77841237fc7399421df8f063bc1a0512ee919216cbfc", func := "loop.example/g00284/laws.FnExactLeafDrop", spec := "fnExactLeafDrop", apart := false }
def FnExactLeafDropSaid : Prop := fnExactLeafDropRow.holds Try.pinned (OpenSpec.ofChange fnExactLeafDropSpec)

/-- ITS FALSE NEIGHBOUR: 'it returns false'. Refute it at one input. -/
def fnExactLeafDropWrong : ChangeSpec := { name := "fnExactLeafDrop", fn := fun _ => fun
  | [d1, d2] => { results := [.lit (.bool false)], args := [d1, d2] }
  | _ => none }
def FnExactLeafDropWrongFalsely : Prop := fnExactLeafDropRow.holds Try.pinned (OpenSpec.ofChange fnExactLeafDropWrong)

/-- 'laws.FnExactLeafPut': WHATEVER THE INPUT: true; the input reads as it did. -/
def fnExactLeafPutSpec : ChangeSpec := { name := "fnExactLeafPut", fn := fun _ => fun
  | [d1, d2, d3] => { results := [.lit (.bool true)], args := [d1, d2, d3] }
  | _ => none }
def fnExactLeafPutRow : OpenClaim := { program := "ytdinfdlakddgfaa", sum := "64eef4eca2252f2ebd3a77841237fc7399421df8f063bc1a0512ee919216cbfc", func := "loop.example/g00284/laws.FnExactLeafPut", spec := "fnExactLeafPut", apart := false }
def FnExactLeafPutSaid : Prop := fnExactLeafPutRow.holds Try.pinned (OpenSpec.ofChange fnExactLeafPutSpec)

/-- ITS FALSE NEIGHBOUR: 'it returns false'. Refute it at one input. -/
def fnExactLeafPutWrong : ChangeSpec := { name := "fnExactLeafPut", fn := fun _ => fun
  | [d1, d2, d3] => { results := [.lit (.bool false)], args := [d1, d2, d3] }
  | _ => none }
def FnExactLeafPutWrongFalsely : Prop := fnExactLeafPutRow.holds Try.pinned (OpenSpec.ofChange fnExactLeafPutWrong)

/-- 'laws.FnExactSealText': WHATEVER THE INPUT: true; the input reads as it did. -/
def fnExactSealTextSpec : ChangeSpec := { name := "fnExactSealText", fn := fun _ => fun
  | [d] => { results := [.lit (.bool true)], args := [d] }
  | _ => none }
def fnExactSealTextRow : OpenClaim := { program := "ytdinfdlakddgfaa", sum := "64eef4eca2252f2ebd3a77841237fc7399421df8f063bc1a0512ee919216cbfc", func := "loop.example/g00284/laws.FnExactSealText", spec := "fnExactSealText", apart := false }
def FnExactSealTextSaid : Prop := fnExactSealTextRow.holds Try.pinned (OpenSpec.ofChange fnExactSealTextSpec)

/-- ITS FALSE NEIGHBOUR: 'it returns false'. Refute it at one input. -/
def fnExactSealTextWrong : ChangeSpec := { name := "fnExactSealText", fn := fun _ => fun
  | [d] => { results := [.lit (.bool false)], args := [d] }
  | _ => none }
def FnExactSealTextWrongFalsely : Prop := fnExactSealTextRow.holds Try.pinned (OpenSpec.ofChange fnExactSealTextWrong)

/-- 'laws.FnExactProofText': WHATEVER THE INPUT: true; the input reads as it did. -/
def fnExactProofTextSpec : ChangeSpec := { name := "fnExactProofText", fn := fun _ => fun
  | [d1, d2] => { results := [.lit (.bool true)], args := [d1, d2] }
  | _ => none }
def fnExactProofTextRow : OpenClaim := { program := "ytdinfdlakddgfaa", sum := "64eef4eca2252f2ebd3a77841237fc7399421df8f063bc1a0512ee919216cbfc", func := "loop.example/g00284/laws.FnExactProofText", spec := "fnExactProofText", apart := false }
def FnExactProofTextSaid : Prop := fnExactProofTextRow.holds Try.pinned (OpenSpec.ofChange fnExactProofTextSpec)

/-- ITS FALSE NEIGHBOUR: 'it returns false'. Refute it at one input. -/
def fnExactProofTextWrong : ChangeSpec := { name := "fnExactProofText", fn := fun _ => fun
  | [d1, d2] => { results := [.lit (.bool false)], args := [d1, d2] }
  | _ => none }
def FnExactProofTextWrongFalsely : Prop := fnExactProofTextRow.holds Try.pinned (OpenSpec.ofChange fnExactProofTextWrong)

/- THE SECOND FORM. 'bulk': how many values and letters a reading holds, each counted each time it is reached (what is shared counts as often as it is met; a slice's spare places count too). A statement '..UptoSaid' is the law's where the arguments, and the package variables that the reading takes, are together of bulk at most 1048576: NARROWER than '..Said'. Prove '..Said' where nothing that the law and all that it calls make is longer than what came in: it says more and counts as full. Else prove '..UptoSaid'. A law counts once. -/
mutual
def uptoBulk {H : Type} : DataW H → Nat
  | .lit (.string bytes) => bytes.length + 1
  | .lit _ => 1
  | .nil => 1
  | .ptr d => uptoBulk d + 1
  | .slice elems spare => uptoBulkAll elems + uptoBulkAll spare + 1
  | .agg parts => uptoBulkAll parts + 1
  | .iface _ d => uptoBulk d + 1
  | .map entries => uptoBulkEntries entries + 1
  | .held _ => 1
def uptoBulkAll {H : Type} : List (DataW H) → Nat
  | [] => 0
  | d :: r => uptoBulk d + uptoBulkAll r
def uptoBulkEntries {H : Type} : List (Lit × DataW H) → Nat
  | [] => 0
  | x :: r => uptoBulkEntry x + uptoBulkEntries r
def uptoBulkEntry {H : Type} : Lit × DataW H → Nat
  | (.string bytes, d) => bytes.length + uptoBulk d + 1
  | (_, d) => uptoBulk d + 1
 end
def uptoSmall : (H : Type) → List (DataW H) → Bool := fun _ ds => decide (uptoBulkAll ds ≤ 1048576)
def OpenSpec.upto (s : _root_.Go.ChangeSpec) : _root_.Go.OpenSpec := { _root_.Go.OpenSpec.ofChange s with cond := some uptoSmall }

/-- 'laws.FnExactLeavesOk', WHERE WHAT IT READS IS OF BULK AT MOST 1048576: true; the input reads as it did. -/
def fnExactLeavesOkUptoRow : OpenClaim := { program := "ytdinfdlakddgfaa", sum := "64eef4eca2252f2ebd3a77841237fc7399421df8f063bc1a0512ee919216cbfc", func := "loop.example/g00284/laws.FnExactLeavesOk", spec := "fnExactLeavesOk", apart := false, narrowed := true }
def FnExactLeavesOkUptoSaid : Prop := fnExactLeavesOkUptoRow.holds Try.pinned (OpenSpec.upto fnExactLeavesOkSpec)

/-- 'laws.FnExactProofSays', WHERE WHAT IT READS IS OF BULK AT MOST 1048576: true; the input reads as it did. -/
def fnExactProofSaysUptoRow : OpenClaim := { program := "ytdinfdlakddgfaa", sum := "64eef4eca2252f2ebd3a77841237fc7399421df8f063bc1a0512ee919216cbfc", func := "loop.example/g00284/laws.FnExactProofSays", spec := "fnExactProofSays", apart := false, narrowed := true }
def FnExactProofSaysUptoSaid : Prop := fnExactProofSaysUptoRow.holds Try.pinned (OpenSpec.upto fnExactProofSaysSpec)

/-- 'laws.FnExactLeavesText', WHERE WHAT IT READS IS OF BULK AT MOST 1048576: true; the input reads as it did. -/
def fnExactLeavesTextUptoRow : OpenClaim := { program := "ytdinfdlakddgfaa", sum := "64eef4eca2252f2ebd3a77841237fc7399421df8f063bc1a0512ee919216cbfc", func := "loop.example/g00284/laws.FnExactLeavesText", spec := "fnExactLeavesText", apart := false, narrowed := true }
def FnExactLeavesTextUptoSaid : Prop := fnExactLeavesTextUptoRow.holds Try.pinned (OpenSpec.upto fnExactLeavesTextSpec)

/-- 'laws.FnExactBucketText', WHERE WHAT IT READS IS OF BULK AT MOST 1048576: true; the input reads as it did. -/
def fnExactBucketTextUptoRow : OpenClaim := { program := "ytdinfdlakddgfaa", sum := "64eef4eca2252f2ebd3a77841237fc7399421df8f063bc1a0512ee919216cbfc", func := "loop.example/g00284/laws.FnExactBucketText", spec := "fnExactBucketText", apart := false, narrowed := true }
def FnExactBucketTextUptoSaid : Prop := fnExactBucketTextUptoRow.holds Try.pinned (OpenSpec.upto fnExactBucketTextSpec)

/-- 'laws.FnExactLeafDrop', WHERE WHAT IT READS IS OF BULK AT MOST 1048576: true; the input reads as it did. -/
def fnExactLeafDropUptoRow : OpenClaim := { program := "ytdinfdlakddgfaa", sum := "64eef4eca2252f2ebd3a77841237fc7399421df8f063bc1a0512ee919216cbfc", func := "loop.example/g00284/laws.FnExactLeafDrop", spec := "fnExactLeafDrop", apart := false, narrowed := true }
def FnExactLeafDropUptoSaid : Prop := fnExactLeafDropUptoRow.holds Try.pinned (OpenSpec.upto fnExactLeafDropSpec)

/-- 'laws.FnExactLeafPut', WHERE WHAT IT READS IS OF BULK AT MOST 1048576: true; the input reads as it did. -/
def fnExactLeafPutUptoRow : OpenClaim := { program := "ytdinfdlakddgfaa", sum := "64eef4eca2252f2ebd3a77841237fc7399421df8f063bc1a0512ee919216cbfc", func := "loop.example/g00284/laws.FnExactLeafPut", spec := "fnExactLeafPut", apart := false, narrowed := true }
def FnExactLeafPutUptoSaid : Prop := fnExactLeafPutUptoRow.holds Try.pinned (OpenSpec.upto fnExactLeafPutSpec)

/-- 'laws.FnExactSealText', WHERE WHAT IT READS IS OF BULK AT MOST 1048576: true; the input reads as it did. -/
def fnExactSealTextUptoRow : OpenClaim := { program := "ytdinfdlakddgfaa", sum := "64eef4eca2252f2ebd3a77841237fc7399421df8f063bc1a0512ee919216cbfc", func := "loop.example/g00284/laws.FnExactSealText", spec := "fnExactSealText", apart := false, narrowed := true }
def FnExactSealTextUptoSaid : Prop := fnExactSealTextUptoRow.holds Try.pinned (OpenSpec.upto fnExactSealTextSpec)

/-- 'laws.FnExactProofText', WHERE WHAT IT READS IS OF BULK AT MOST 1048576: true; the input reads as it did. -/
def fnExactProofTextUptoRow : OpenClaim := { program := "ytdinfdlakddgfaa", sum := "64eef4eca2252f2ebd3a77841237fc7399421df8f063bc1a0512ee919216cbfc", func := "loop.example/g00284/laws.FnExactProofText", spec := "fnExactProofText", apart := false, narrowed := true }
def FnExactProofTextUptoSaid : Prop := fnExactProofTextUptoRow.holds Try.pinned (OpenSpec.upto fnExactProofTextSpec)

end Rows
end Go.Proofs.Ytdinfdlakddgfaa
