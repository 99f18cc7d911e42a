/-
  No cell of these rows narrows 'for every input' (looked for: loops, veiled, ifaces, maps, wideKeys, modest, calm, conditions, laid).
  DERIVED. THE GIVEN ROWS OF THIS SEAT. 6 by the template 'for every input the law returns true; each argument reads behind the call as it read before'; 0 by the template 'total and deterministic' (their statements: YtnobaocicdppoaaTotals.lean).
  GIVEN WITH THE SEED: the statements are not yours to turn. If you find one false, say at which input.
  Laid BY PROGRAM, IN A SANDBOX (cutbox-rows.mjs): the forced cells as the released guide's own fill.sh prints them over the translation 16a999b0b3632add… (all of the seat's roots in one cut). By AI agents, Wed Nov 11 2026. No macro, syntax, notation, axiom, sorry.
-/
import Derived.Test.YtnobaocicdppoaaChecked
import GoSem.Claim
import GoSem.ClaimJoined
import GoSem.ClaimMapViews
import Derived.JoinedTies
import Derived.KernelRfl
namespace Go.Proofs.Ytnobaocicdppoaa
/- THE CELL 'sum', in the pinned program and in every row, IS THE sha256 OF THE DUMP (.gsa) THAT YtnobaocicdppoaaProg.lean LOADS. Nothing in Lean hashes anything: it is a label: what it is worth is what the hold of that sum in a sandbox is worth. -/
noncomputable def Try.pinned : Pinned := { name := "ytnobaocicdppoaa", sum := "16a999b0b3632add286d7876448987f65d1f0bda79ec35ee41733f5cc9b36b9c", checked := Try.checked }
namespace Rows
def none {H : Type} : Left H := { results := [], args := [] }

/-- 'laws.FnExactSealAt': WHATEVER THE INPUT: true; the input reads as it did. -/
def fnExactSealAtSpec : ChangeSpec := { name := "fnExactSealAt", fn := fun _ => fun
  | [d] => { results := [.lit (.bool true)], args := [d] }
  | _ => none }
def fnExactSealAtRow : OpenClaim := { program := "ytnobaocicdppoaa", sum := "16a999b0b3632add286d7876448987f65d1f0bda79ec35ee41733f5cc9b36b9c", func := "loop.example/g00284/laws.FnExactSealAt", spec := "fnExactSealAt", apart := false }
def FnExactSealAtSaid : Prop := fnExactSealAtRow.holds Try.pinned (OpenSpec.ofChange fnExactSealAtSpec)

/-- ITS FALSE NEIGHBOUR: 'it returns false'. Refute it at one input. -/
def fnExactSealAtWrong : ChangeSpec := { name := "fnExactSealAt", fn := fun _ => fun
  | [d] => { results := [.lit (.bool false)], args := [d] }
  | _ => none }
def FnExactSealAtWrongFalsely : Prop := fnExactSealAtRow.holds Try.pinned (OpenSpec.ofChange fnExactSealAtWrong)

/-- 'laws.FnExactStampAt': WHATEVER THE INPUT: true; the input reads as it did. -/
def fnExactStampAtSpec : ChangeSpec := { name := "fnExactStampAt", fn := fun _ => fun
  | [d1, d2] => { results := [.lit (.bool true)], args := [d1, d2] }
  | _ => none }
def fnExactStampAtRow : OpenClaim := { program := "ytnobaocicdppoaa", sum := "16a999b0b3632add286d7876448987f65d1f0bda79ec35ee41733f5cc9b36b9c", func := "loop.example/g00284/laws.FnExactStampAt", spec := "fnExactStampAt", apart := false }
def FnExactStampAtSaid : Prop := fnExactStampAtRow.holds Try.pinned (OpenSpec.ofChange fnExactStampAtSpec)

/-- ITS FALSE NEIGHBOUR: 'it returns false'. Refute it at one input. -/
def fnExactStampAtWrong : ChangeSpec := { name := "fnExactStampAt", fn := fun _ => fun
  | [d1, d2] => { results := [.lit (.bool false)], args := [d1, d2] }
  | _ => none }
def FnExactStampAtWrongFalsely : Prop := fnExactStampAtRow.holds Try.pinned (OpenSpec.ofChange fnExactStampAtWrong)

/-- 'laws.FnExactHeadOk': WHATEVER THE INPUT: true; the input reads as it did. -/
def fnExactHeadOkSpec : ChangeSpec := { name := "fnExactHeadOk", fn := fun _ => fun
  | [d] => { results := [.lit (.bool true)], args := [d] }
  | _ => none }
def fnExactHeadOkRow : OpenClaim := { program := "ytnobaocicdppoaa", sum := "16a999b0b3632add286d7876448987f65d1f0bda79ec35ee41733f5cc9b36b9c", func := "loop.example/g00284/laws.FnExactHeadOk", spec := "fnExactHeadOk", apart := false }
def FnExactHeadOkSaid : Prop := fnExactHeadOkRow.holds Try.pinned (OpenSpec.ofChange fnExactHeadOkSpec)

/-- ITS FALSE NEIGHBOUR: 'it returns false'. Refute it at one input. -/
def fnExactHeadOkWrong : ChangeSpec := { name := "fnExactHeadOk", fn := fun _ => fun
  | [d] => { results := [.lit (.bool false)], args := [d] }
  | _ => none }
def FnExactHeadOkWrongFalsely : Prop := fnExactHeadOkRow.holds Try.pinned (OpenSpec.ofChange fnExactHeadOkWrong)

/-- 'laws.FnExactHeadText': WHATEVER THE INPUT: true; the input reads as it did. -/
def fnExactHeadTextSpec : ChangeSpec := { name := "fnExactHeadText", fn := fun _ => fun
  | [d] => { results := [.lit (.bool true)], args := [d] }
  | _ => none }
def fnExactHeadTextRow : OpenClaim := { program := "ytnobaocicdppoaa", sum := "16a999b0b3632add286d7876448987f65d1f0bda79ec35ee41733f5cc9b36b9c", func := "loop.example/g00284/laws.FnExactHeadText", spec := "fnExactHeadText", apart := false }
def FnExactHeadTextSaid : Prop := fnExactHeadTextRow.holds Try.pinned (OpenSpec.ofChange fnExactHeadTextSpec)

/-- ITS FALSE NEIGHBOUR: 'it returns false'. Refute it at one input. -/
def fnExactHeadTextWrong : ChangeSpec := { name := "fnExactHeadText", fn := fun _ => fun
  | [d] => { results := [.lit (.bool false)], args := [d] }
  | _ => none }
def FnExactHeadTextWrongFalsely : Prop := fnExactHeadTextRow.holds Try.pinned (OpenSpec.ofChange fnExactHeadTextWrong)

/-- 'laws.FnExactReadHead': WHATEVER THE INPUT: true; the input reads as it did. -/
def fnExactReadHeadSpec : ChangeSpec := { name := "fnExactReadHead", fn := fun _ => fun
  | [d] => { results := [.lit (.bool true)], args := [d] }
  | _ => none }
def fnExactReadHeadRow : OpenClaim := { program := "ytnobaocicdppoaa", sum := "16a999b0b3632add286d7876448987f65d1f0bda79ec35ee41733f5cc9b36b9c", func := "loop.example/g00284/laws.FnExactReadHead", spec := "fnExactReadHead", apart := false }
def FnExactReadHeadSaid : Prop := fnExactReadHeadRow.holds Try.pinned (OpenSpec.ofChange fnExactReadHeadSpec)

/-- ITS FALSE NEIGHBOUR: 'it returns false'. Refute it at one input. -/
def fnExactReadHeadWrong : ChangeSpec := { name := "fnExactReadHead", fn := fun _ => fun
  | [d] => { results := [.lit (.bool false)], args := [d] }
  | _ => none }
def FnExactReadHeadWrongFalsely : Prop := fnExactReadHeadRow.holds Try.pinned (OpenSpec.ofChange fnExactReadHeadWrong)

/-- 'laws.FnExactTrustOk': WHATEVER THE INPUT: true; the input reads as it did. -/
def fnExactTrustOkSpec : ChangeSpec := { name := "fnExactTrustOk", fn := fun _ => fun
  | [d] => { results := [.lit (.bool true)], args := [d] }
  | _ => none }
def fnExactTrustOkRow : OpenClaim := { program := "ytnobaocicdppoaa", sum := "16a999b0b3632add286d7876448987f65d1f0bda79ec35ee41733f5cc9b36b9c", func := "loop.example/g00284/laws.FnExactTrustOk", spec := "fnExactTrustOk", apart := false }
def FnExactTrustOkSaid : Prop := fnExactTrustOkRow.holds Try.pinned (OpenSpec.ofChange fnExactTrustOkSpec)

/-- ITS FALSE NEIGHBOUR: 'it returns false'. Refute it at one input. -/
def fnExactTrustOkWrong : ChangeSpec := { name := "fnExactTrustOk", fn := fun _ => fun
  | [d] => { results := [.lit (.bool false)], args := [d] }
  | _ => none }
def FnExactTrustOkWrongFalsely : Prop := fnExactTrustOkRow.holds Try.pinned (OpenSpec.ofChange fnExactTrustOkWrong)

/- THE SECOND FORM. 'bulk': how many values and letters a reading holds, each counted each time it is reached (what is shared counts as often as it is met; a slice's spare places count too). A statement '..UptoSaid' is the law's where the arguments, and the package variables that the reading takes, are together of bulk at most 1048576: NARROWER than '..Said'. Prove '..Said' where nothing that the law and all that it calls make is longer than what came in: it says more and counts as full. Else prove '..UptoSaid'. A law counts once. -/
mutual
def uptoBulk {H : Type} : DataW H → Nat
  | .lit (.string bytes) => bytes.length + 1
  | .lit _ => 1
  | .nil => 1
  | .ptr d => uptoBulk d + 1
  | .slice elems spare => uptoBulkAll elems + uptoBulkAll spare + 1
  | .agg parts => uptoBulkAll parts + 1
  | .iface _ d => uptoBulk d + 1
  | .map entries => uptoBulkEntries entries + 1
  | .held _ => 1
def uptoBulkAll {H : Type} : List (DataW H) → Nat
  | [] => 0
  | d :: r => uptoBulk d + uptoBulkAll r
def uptoBulkEntries {H : Type} : List (Lit × DataW H) → Nat
  | [] => 0
  | x :: r => uptoBulkEntry x + uptoBulkEntries r
def uptoBulkEntry {H : Type} : Lit × DataW H → Nat
  | (.string bytes, d) => bytes.length + uptoBulk d + 1
  | (_, d) => uptoBulk d + 1
 end
def uptoSmall : (H : Type) → List (DataW H) → Bool := fun _ ds => decide (uptoBulkAll ds ≤ 1048576)
def OpenSpec.upto (s : _root_.Go.ChangeSpec) : _root_.Go.OpenSpec := { _root_.Go.OpenSpec.ofChange s with cond := some uptoSmall }

/-- 'laws.FnExactSealAt', WHERE WHAT IT READS IS OF BULK AT MOST 1048576: true; the input reads as it did. -/
def fnExactSealAtUptoRow : OpenClaim := { program := "ytnobaocicdppoaa", sum := "16a999b0b3632add286d7876448987f65d1f0bda79ec35ee41733f5cc9b36b9c", func := "loop.example/g00284/laws.FnExactSealAt", spec := "fnExactSealAt", apart := false, narrowed := true }
def FnExactSealAtUptoSaid : Prop := fnExactSealAtUptoRow.holds Try.pinned (OpenSpec.upto fnExactSealAtSpec)

/-- 'laws.FnExactStampAt', WHERE WHAT IT READS IS OF BULK AT MOST 1048576: true; the input reads as it did. -/
def fnExactStampAtUptoRow : OpenClaim := { program := "ytnobaocicdppoaa", sum := "16a999b0b3632add286d7876448987f65d1f0bda79ec35ee41733f5cc9b36b9c", func := "loop.example/g00284/laws.FnExactStampAt", spec := "fnExactStampAt", apart := false, narrowed := true }
def FnExactStampAtUptoSaid : Prop := fnExactStampAtUptoRow.holds Try.pinned (OpenSpec.upto fnExactStampAtSpec)

/-- 'laws.FnExactHeadOk', WHERE WHAT IT READS IS OF BULK AT MOST 1048576: true; the input reads as it did. -/
def fnExactHeadOkUptoRow : OpenClaim := { program := "ytnobaocicdppoaa", sum := "16a999b0b3632add286d7876448987f65d1f0bda79ec35ee41733f5cc9b36b9c", func := "loop.example/g00284/laws.FnExactHeadOk", spec := "fnExactHeadOk", apart := false, narrowed := true }
def FnExactHeadOkUptoSaid : Prop := fnExactHeadOkUptoRow.holds Try.pinned (OpenSpec.upto fnExactHeadOkSpec)

/-- 'laws.FnExactHeadText', WHERE WHAT IT READS IS OF BULK AT MOST 1048576: true; the input reads as it did. -/
def fnExactHeadTextUptoRow : OpenClaim := { program := "ytnobaocicdppoaa", sum := "16a999b0b3632add286d7876448987f65d1f0bda79ec35ee41733f5cc9b36b9c", func := "loop.example/g00284/laws.FnExactHeadText", spec := "fnExactHeadText", apart := false, narrowed := true }
def FnExactHeadTextUptoSaid : Prop := fnExactHeadTextUptoRow.holds Try.pinned (OpenSpec.upto fnExactHeadTextSpec)

/-- 'laws.FnExactReadHead', WHERE WHAT IT READS IS OF BULK AT MOST 1048576: true; the input reads as it did. -/
def fnExactReadHeadUptoRow : OpenClaim := { program := "ytnobaocicdppoaa", sum := "16a999b0b3632add286d7876448987f65d1f0bda79ec35ee41733f5cc9b36b9c", func := "loop.example/g00284/laws.FnExactReadHead", spec := "fnExactReadHead", apart := false, narrowed := true }
def FnExactReadHeadUptoSaid : Prop := fnExactReadHeadUptoRow.holds Try.pinned (OpenSpec.upto fnExactReadHeadSpec)

/-- 'laws.FnExactTrustOk', WHERE WHAT IT READS IS OF BULK AT MOST 1048576: true; the input reads as it did. -/
def fnExactTrustOkUptoRow : OpenClaim := { program := "ytnobaocicdppoaa", sum := "16a999b0b3632add286d7876448987f65d1f0bda79ec35ee41733f5cc9b36b9c", func := "loop.example/g00284/laws.FnExactTrustOk", spec := "fnExactTrustOk", apart := false, narrowed := true }
def FnExactTrustOkUptoSaid : Prop := fnExactTrustOkUptoRow.holds Try.pinned (OpenSpec.upto fnExactTrustOkSpec)

end Rows
end Go.Proofs.Ytnobaocicdppoaa
