/-
  No cell of these rows narrows 'for every input' (looked for: loops, veiled, ifaces, maps, wideKeys, modest, calm, conditions, laid).
  DERIVED. THE GIVEN ROWS OF THIS SEAT. 3 by the template 'for every input the law returns true; each argument reads behind the call as it read before'; 0 by the template 'total and deterministic' (their statements: YtckipgijfgeghaaTotals.lean).
  GIVEN WITH THE SEED: the statements are not yours to turn. If you find one false, say at which input.
  Laid BY PROGRAM, IN A SANDBOX (cutbox-rows.mjs): the forced cells as the released guide's own fill.sh prints them over the translation d0b3fdf6e7b645e1… (all of the seat's roots in one cut). By AI agents, Wed Nov 11 2026. No macro, syntax, notation, axiom, sorry.
-/
import Derived.Test.YtckipgijfgeghaaChecked
import GoSem.Claim
import GoSem.ClaimJoined
import GoSem.ClaimMapViews
import Derived.JoinedTies
import Derived.KernelRfl
namespace Go.Proofs.Ytckipgijfgeghaa
/- THE CELL 'sum', in the pinned program and in every row, IS THE sha256 OF THE DUMP (.gsa) THAT YtckipgijfgeghaaProg.lean LOADS. Nothing in Lean hashes anything: it is a label: what it is worth is what the hold of that sum in a sandbox is worth. -/
noncomputable def Try.pinned : Pinned := { name := "ytckipgijfgeghaa", sum := "d0b3fdf6e7b645e1a6665d4ea943c5f2a06dea6a2b446eb042bdc8b336bacf07", checked := Try.checked }
namespace Rows
def none {H : Type} : Left H := { results := [], args := [] }

/-- 'laws.FnExactAllLeaves': WHATEVER THE INPUT: true; the input reads as it did. -/
def fnExactAllLeavesSpec : ChangeSpec := { name := "fnExactAllLeaves", fn := fun _ => fun
  | [d] => { results := [.lit (.bool true)], args := [d] }
  | _ => none }
def fnExactAllLeavesRow : OpenClaim := { program := "ytckipgijfgeghaa", sum := "d0b3fdf6e7b645e1a6665d4ea943c5f2a06dea6a2b446eb042bdc8b336bacf07", func := "loop.example/g00284/laws.FnExactAllLeaves", spec := "fnExactAllLeaves", inPlace := ["internal/reflectlite.ValueOf", "internal/reflectlite.Swapper", "(internal/reflectlite.Value).Len"], unfollowed := true, recurses := true, apart := false }
def FnExactAllLeavesSaid : Prop := fnExactAllLeavesRow.holds Try.pinned (OpenSpec.ofChange fnExactAllLeavesSpec)

/-- ITS FALSE NEIGHBOUR: 'it returns false'. Refute it at one input. -/
def fnExactAllLeavesWrong : ChangeSpec := { name := "fnExactAllLeaves", fn := fun _ => fun
  | [d] => { results := [.lit (.bool false)], args := [d] }
  | _ => none }
def FnExactAllLeavesWrongFalsely : Prop := fnExactAllLeavesRow.holds Try.pinned (OpenSpec.ofChange fnExactAllLeavesWrong)

/-- 'laws.FnWritten': WHATEVER THE INPUT: true; the input reads as it did. -/
def fnWrittenSpec : ChangeSpec := { name := "fnWritten", fn := fun _ => fun
  | [d] => { results := [.lit (.bool true)], args := [d] }
  | _ => none }
def fnWrittenRow : OpenClaim := { program := "ytckipgijfgeghaa", sum := "d0b3fdf6e7b645e1a6665d4ea943c5f2a06dea6a2b446eb042bdc8b336bacf07", func := "loop.example/g00284/laws.FnWritten", spec := "fnWritten", inPlace := ["internal/reflectlite.ValueOf", "internal/reflectlite.Swapper", "(internal/reflectlite.Value).Len"], unfollowed := true, recurses := true, apart := false }
def FnWrittenSaid : Prop := fnWrittenRow.holds Try.pinned (OpenSpec.ofChange fnWrittenSpec)

/-- ITS FALSE NEIGHBOUR: 'it returns false'. Refute it at one input. -/
def fnWrittenWrong : ChangeSpec := { name := "fnWritten", fn := fun _ => fun
  | [d] => { results := [.lit (.bool false)], args := [d] }
  | _ => none }
def FnWrittenWrongFalsely : Prop := fnWrittenRow.holds Try.pinned (OpenSpec.ofChange fnWrittenWrong)

/-- 'laws.FnAnew': WHATEVER THE INPUT: true; the input reads as it did. -/
def fnAnewSpec : ChangeSpec := { name := "fnAnew", fn := fun _ => fun
  | [d] => { results := [.lit (.bool true)], args := [d] }
  | _ => none }
def fnAnewRow : OpenClaim := { program := "ytckipgijfgeghaa", sum := "d0b3fdf6e7b645e1a6665d4ea943c5f2a06dea6a2b446eb042bdc8b336bacf07", func := "loop.example/g00284/laws.FnAnew", spec := "fnAnew", inPlace := ["internal/reflectlite.ValueOf", "internal/reflectlite.Swapper", "(internal/reflectlite.Value).Len"], unfollowed := true, recurses := true, apart := false }
def FnAnewSaid : Prop := fnAnewRow.holds Try.pinned (OpenSpec.ofChange fnAnewSpec)

/-- ITS FALSE NEIGHBOUR: 'it returns false'. Refute it at one input. -/
def fnAnewWrong : ChangeSpec := { name := "fnAnew", fn := fun _ => fun
  | [d] => { results := [.lit (.bool false)], args := [d] }
  | _ => none }
def FnAnewWrongFalsely : Prop := fnAnewRow.holds Try.pinned (OpenSpec.ofChange fnAnewWrong)

/- THE SECOND FORM. 'bulk': how many values and letters a reading holds, each counted each time it is reached (what is shared counts as often as it is met; a slice's spare places count too). A statement '..UptoSaid' is the law's where the arguments, and the package variables that the reading takes, are together of bulk at most 1048576: NARROWER than '..Said'. Prove '..Said' where nothing that the law and all that it calls make is longer than what came in: it says more and counts as full. Else prove '..UptoSaid'. A law counts once. -/
mutual
def uptoBulk {H : Type} : DataW H → Nat
  | .lit (.string bytes) => bytes.length + 1
  | .lit _ => 1
  | .nil => 1
  | .ptr d => uptoBulk d + 1
  | .slice elems spare => uptoBulkAll elems + uptoBulkAll spare + 1
  | .agg parts => uptoBulkAll parts + 1
  | .iface _ d => uptoBulk d + 1
  | .map entries => uptoBulkEntries entries + 1
  | .held _ => 1
def uptoBulkAll {H : Type} : List (DataW H) → Nat
  | [] => 0
  | d :: r => uptoBulk d + uptoBulkAll r
def uptoBulkEntries {H : Type} : List (Lit × DataW H) → Nat
  | [] => 0
  | x :: r => uptoBulkEntry x + uptoBulkEntries r
def uptoBulkEntry {H : Type} : Lit × DataW H → Nat
  | (.string bytes, d) => bytes.length + uptoBulk d + 1
  | (_, d) => uptoBulk d + 1
 end
def uptoSmall : (H : Type) → List (DataW H) → Bool := fun _ ds => decide (uptoBulkAll ds ≤ 1048576)
def OpenSpec.upto (s : _root_.Go.ChangeSpec) : _root_.Go.OpenSpec := { _root_.Go.OpenSpec.ofChange s with cond := some uptoSmall }

/-- 'laws.FnExactAllLeaves', WHERE WHAT IT READS IS OF BULK AT MOST 1048576: true; the input reads as it did. -/
def fnExactAllLeavesUptoRow : OpenClaim := { program := "ytckipgijfgeghaa", sum := "d0b3fdf6e7b645e1a6665d4ea943c5f2a06dea6a2b446eb042bdc8b336bacf07", func := "loop.example/g00284/laws.FnExactAllLeaves", spec := "fnExactAllLeaves", inPlace := ["internal/reflectlite.ValueOf", "internal/reflectlite.Swapper", "(internal/reflectlite.Value).Len"], unfollowed := true, recurses := true, apart := false, narrowed := true }
def FnExactAllLeavesUptoSaid : Prop := fnExactAllLeavesUptoRow.holds Try.pinned (OpenSpec.upto fnExactAllLeavesSpec)

/-- 'laws.FnWritten', WHERE WHAT IT READS IS OF BULK AT MOST 1048576: true; the input reads as it did. -/
def fnWrittenUptoRow : OpenClaim := { program := "ytckipgijfgeghaa", sum := "d0b3fdf6e7b645e1a6665d4ea943c5f2a06dea6a2b446eb042bdc8b336bacf07", func := "loop.example/g00284/laws.FnWritten", spec := "fnWritten", inPlace := ["internal/reflectlite.ValueOf", "internal/reflectlite.Swapper", "(internal/reflectlite.Value).Len"], unfollowed := true, recurses := true, apart := false, narrowed := true }
def FnWrittenUptoSaid : Prop := fnWrittenUptoRow.holds Try.pinned (OpenSpec.upto fnWrittenSpec)

/-- 'laws.FnAnew', WHERE WHAT IT READS IS OF BULK AT MOST 1048576: true; the input reads as it did. -/
def fnAnewUptoRow : OpenClaim := { program := "ytckipgijfgeghaa", sum := "d0b3fdf6e7b645e1a6665d4ea943c5f2a06dea6a2b446eb042bdc8b336bacf07", func := "loop.example/g00284/laws.FnAnew", spec := "fnAnew", inPlace := ["internal/reflectlite.ValueOf", "internal/reflectlite.Swapper", "(internal/reflectlite.Value).Len"], unfollowed := true, recurses := true, apart := false, narrowed := true }
def FnAnewUptoSaid : Prop := fnAnewUptoRow.holds Try.pinned (OpenSpec.upto fnAnewSpec)

end Rows
end Go.Proofs.Ytckipgijfgeghaa
