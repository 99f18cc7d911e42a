/-
  NARROWER THAN 'FOR EVERY INPUT', by the rows' own cells (each row's printed sentence says how): FnExactChainOk: laid · FnExactNextHead: laid · FnExactNodeHash: laid · FnExactRootOf: laid · FnExactShardRoot: laid · FnExactSidesOf: laid · FnExactProveLeaf: laid · FnExactProofTexts: laid · FnExactProofHash: laid · FnExactExtractTwo: laid.
  DERIVED. THE GIVEN ROWS OF THIS SEAT. 10 by the template 'for every input the law returns true; each argument reads behind the call as it read before'; 0 by the template 'total and deterministic' (their statements: YtagkcgbggeajkaaDoorTotals.lean).
  GIVEN WITH THE SEED: the statements are not yours to turn. If you find one false, say at which input.
  Laid BY PROGRAM, IN A SANDBOX (cutbox-rows.mjs): the forced cells as the released guide's own fill.sh prints them over the translation dfe9fb53420ec888… (all of the seat's roots in one cut). By AI agents, Wed Nov 11 2026. No macro, syntax, notation, axiom, sorry.
-/
import Derived.Test.YtagkcgbggeajkaaDoorChecked
import GoSem.Claim
import GoSem.ClaimJoined
import GoSem.ClaimMapViews
import Derived.JoinedTies
import Derived.KernelRfl
namespace Go.Proofs.YtagkcgbggeajkaaDoor
/- THE CELL 'sum', in the pinned program and in every row, IS THE sha256 OF THE DUMP (.gsa) THAT YtagkcgbggeajkaaDoorProg.lean LOADS. Nothing in Lean hashes anything: it is a label: what it is worth is what the hold of that sum in a sandbox is worth. -/
noncomputable def Tryd.pinned : Pinned := { name := "ytagkcgbggeajkaadoor", sum := "dfe9fb53420ec8886d400e87c3f95e09f95bcba75555a62cb5064e283d2ffb83", checked := Tryd.checked }
namespace Rows
def none {H : Type} : Left H := { results := [], args := [] }

/- WHAT THE LISTED PACKAGE-LEVEL VARIABLES READ AS WHEN THE CALL BEGINS. Each datum BY PROGRAM (the guide's laid-datum.mjs) off the statement by which the dump's own 'gosem.cut.vars' lays the variable. In a bare row this is a premise. The card (YtagkcgbggeajkaaDoorCards.lean) ties it to the program's text. -/
def laid_loop_example_g00284_impl_roundWords {H : Type} : DataW H := .agg [.lit (.int .u32 1116352408), .lit (.int .u32 1899447441), .lit (.int .u32 3049323471), .lit (.int .u32 3921009573), .lit (.int .u32 961987163), .lit (.int .u32 1508970993), .lit (.int .u32 2453635748), .lit (.int .u32 2870763221), .lit (.int .u32 3624381080), .lit (.int .u32 310598401), .lit (.int .u32 607225278), .lit (.int .u32 1426881987), .lit (.int .u32 1925078388), .lit (.int .u32 2162078206), .lit (.int .u32 2614888103), .lit (.int .u32 3248222580), .lit (.int .u32 3835390401), .lit (.int .u32 4022224774), .lit (.int .u32 264347078), .lit (.int .u32 604807628), .lit (.int .u32 770255983), .lit (.int .u32 1249150122), .lit (.int .u32 1555081692), .lit (.int .u32 1996064986), .lit (.int .u32 2554220882), .lit (.int .u32 2821834349), .lit (.int .u32 2952996808), .lit (.int .u32 3210313671), .lit (.int .u32 3336571891), .lit (.int .u32 3584528711), .lit (.int .u32 113926993), .lit (.int .u32 338241895), .lit (.int .u32 666307205), .lit (.int .u32 773529912), .lit (.int .u32 1294757372), .lit (.int .u32 1396182291), .lit (.int .u32 1695183700), .lit (.int .u32 1986661051), .lit (.int .u32 2177026350), .lit (.int .u32 2456956037), .lit (.int .u32 2730485921), .lit (.int .u32 2820302411), .lit (.int .u32 3259730800), .lit (.int .u32 3345764771), .lit (.int .u32 3516065817), .lit (.int .u32 3600352804), .lit (.int .u32 4094571909), .lit (.int .u32 275423344), .lit (.int .u32 430227734), .lit (.int .u32 506948616), .lit (.int .u32 659060556), .lit (.int .u32 883997877), .lit (.int .u32 958139571), .lit (.int .u32 1322822218), .lit (.int .u32 1537002063), .lit (.int .u32 1747873779), .lit (.int .u32 1955562222), .lit (.int .u32 2024104815), .lit (.int .u32 2227730452), .lit (.int .u32 2361852424), .lit (.int .u32 2428436474), .lit (.int .u32 2756734187), .lit (.int .u32 3204031479), .lit (.int .u32 3329325298)]
def laid_loop_example_g00284_impl_startWords {H : Type} : DataW H := .agg [.lit (.int .u32 1779033703), .lit (.int .u32 3144134277), .lit (.int .u32 1013904242), .lit (.int .u32 2773480762), .lit (.int .u32 1359893119), .lit (.int .u32 2600822924), .lit (.int .u32 528734635), .lit (.int .u32 1541459225)]

/-- 'laws.FnExactChainOk': WHATEVER THE INPUT: true; the input reads as it did. -/
def fnExactChainOkSpec : ChangeSpec := { name := "fnExactChainOk", vars := ["loop.example/g00284/impl.startWords", "loop.example/g00284/impl.roundWords"], fn := fun _ => fun
  | [d1, d2, g1, g2] => { results := [.lit (.bool true)], args := [d1, d2], vars := [g1, g2] }
  | _ => none }
def fnExactChainOkRow : OpenClaim := { program := "ytagkcgbggeajkaadoor", sum := "dfe9fb53420ec8886d400e87c3f95e09f95bcba75555a62cb5064e283d2ffb83", func := "loop.example/g00284/laws.FnExactChainOk", spec := "fnExactChainOk", unfollowed := true, recurses := true, named := ["loop.example/g00284/impl.startWords", "loop.example/g00284/impl.roundWords"], apart := false, laid := [("loop.example/g00284/impl.roundWords", laid_loop_example_g00284_impl_roundWords), ("loop.example/g00284/impl.startWords", laid_loop_example_g00284_impl_startWords)] }
def FnExactChainOkSaid : Prop := fnExactChainOkRow.holds Tryd.pinned (OpenSpec.ofChange fnExactChainOkSpec)

/-- ITS FALSE NEIGHBOUR: 'it returns false'. Refute it at one input. -/
def fnExactChainOkWrong : ChangeSpec := { name := "fnExactChainOk", vars := ["loop.example/g00284/impl.startWords", "loop.example/g00284/impl.roundWords"], fn := fun _ => fun
  | [d1, d2, g1, g2] => { results := [.lit (.bool false)], args := [d1, d2], vars := [g1, g2] }
  | _ => none }
def FnExactChainOkWrongFalsely : Prop := fnExactChainOkRow.holds Tryd.pinned (OpenSpec.ofChange fnExactChainOkWrong)

/-- 'laws.FnExactNextHead': WHATEVER THE INPUT: true; the input reads as it did. -/
def fnExactNextHeadSpec : ChangeSpec := { name := "fnExactNextHead", vars := ["loop.example/g00284/impl.startWords", "loop.example/g00284/impl.roundWords"], fn := fun _ => fun
  | [d1, d2, d3, g1, g2] => { results := [.lit (.bool true)], args := [d1, d2, d3], vars := [g1, g2] }
  | _ => none }
def fnExactNextHeadRow : OpenClaim := { program := "ytagkcgbggeajkaadoor", sum := "dfe9fb53420ec8886d400e87c3f95e09f95bcba75555a62cb5064e283d2ffb83", func := "loop.example/g00284/laws.FnExactNextHead", spec := "fnExactNextHead", unfollowed := true, recurses := true, named := ["loop.example/g00284/impl.startWords", "loop.example/g00284/impl.roundWords"], apart := false, laid := [("loop.example/g00284/impl.roundWords", laid_loop_example_g00284_impl_roundWords), ("loop.example/g00284/impl.startWords", laid_loop_example_g00284_impl_startWords)] }
def FnExactNextHeadSaid : Prop := fnExactNextHeadRow.holds Tryd.pinned (OpenSpec.ofChange fnExactNextHeadSpec)

/-- ITS FALSE NEIGHBOUR: 'it returns false'. Refute it at one input. -/
def fnExactNextHeadWrong : ChangeSpec := { name := "fnExactNextHead", vars := ["loop.example/g00284/impl.startWords", "loop.example/g00284/impl.roundWords"], fn := fun _ => fun
  | [d1, d2, d3, g1, g2] => { results := [.lit (.bool false)], args := [d1, d2, d3], vars := [g1, g2] }
  | _ => none }
def FnExactNextHeadWrongFalsely : Prop := fnExactNextHeadRow.holds Tryd.pinned (OpenSpec.ofChange fnExactNextHeadWrong)

/-- 'laws.FnExactNodeHash': WHATEVER THE INPUT: true; the input reads as it did. -/
def fnExactNodeHashSpec : ChangeSpec := { name := "fnExactNodeHash", vars := ["loop.example/g00284/impl.startWords", "loop.example/g00284/impl.roundWords"], fn := fun _ => fun
  | [d1, d2, d3, d4, g1, g2] => { results := [.lit (.bool true)], args := [d1, d2, d3, d4], vars := [g1, g2] }
  | _ => none }
def fnExactNodeHashRow : OpenClaim := { program := "ytagkcgbggeajkaadoor", sum := "dfe9fb53420ec8886d400e87c3f95e09f95bcba75555a62cb5064e283d2ffb83", func := "loop.example/g00284/laws.FnExactNodeHash", spec := "fnExactNodeHash", unfollowed := true, recurses := true, named := ["loop.example/g00284/impl.startWords", "loop.example/g00284/impl.roundWords"], apart := false, laid := [("loop.example/g00284/impl.roundWords", laid_loop_example_g00284_impl_roundWords), ("loop.example/g00284/impl.startWords", laid_loop_example_g00284_impl_startWords)] }
def FnExactNodeHashSaid : Prop := fnExactNodeHashRow.holds Tryd.pinned (OpenSpec.ofChange fnExactNodeHashSpec)

/-- ITS FALSE NEIGHBOUR: 'it returns false'. Refute it at one input. -/
def fnExactNodeHashWrong : ChangeSpec := { name := "fnExactNodeHash", vars := ["loop.example/g00284/impl.startWords", "loop.example/g00284/impl.roundWords"], fn := fun _ => fun
  | [d1, d2, d3, d4, g1, g2] => { results := [.lit (.bool false)], args := [d1, d2, d3, d4], vars := [g1, g2] }
  | _ => none }
def FnExactNodeHashWrongFalsely : Prop := fnExactNodeHashRow.holds Tryd.pinned (OpenSpec.ofChange fnExactNodeHashWrong)

/-- 'laws.FnExactRootOf': WHATEVER THE INPUT: true; the input reads as it did. -/
def fnExactRootOfSpec : ChangeSpec := { name := "fnExactRootOf", vars := ["loop.example/g00284/impl.startWords", "loop.example/g00284/impl.roundWords"], fn := fun _ => fun
  | [d1, d2, g1, g2] => { results := [.lit (.bool true)], args := [d1, d2], vars := [g1, g2] }
  | _ => none }
def fnExactRootOfRow : OpenClaim := { program := "ytagkcgbggeajkaadoor", sum := "dfe9fb53420ec8886d400e87c3f95e09f95bcba75555a62cb5064e283d2ffb83", func := "loop.example/g00284/laws.FnExactRootOf", spec := "fnExactRootOf", unfollowed := true, recurses := true, named := ["loop.example/g00284/impl.startWords", "loop.example/g00284/impl.roundWords"], apart := false, laid := [("loop.example/g00284/impl.roundWords", laid_loop_example_g00284_impl_roundWords), ("loop.example/g00284/impl.startWords", laid_loop_example_g00284_impl_startWords)] }
def FnExactRootOfSaid : Prop := fnExactRootOfRow.holds Tryd.pinned (OpenSpec.ofChange fnExactRootOfSpec)

/-- ITS FALSE NEIGHBOUR: 'it returns false'. Refute it at one input. -/
def fnExactRootOfWrong : ChangeSpec := { name := "fnExactRootOf", vars := ["loop.example/g00284/impl.startWords", "loop.example/g00284/impl.roundWords"], fn := fun _ => fun
  | [d1, d2, g1, g2] => { results := [.lit (.bool false)], args := [d1, d2], vars := [g1, g2] }
  | _ => none }
def FnExactRootOfWrongFalsely : Prop := fnExactRootOfRow.holds Tryd.pinned (OpenSpec.ofChange fnExactRootOfWrong)

/-- 'laws.FnExactShardRoot': WHATEVER THE INPUT: true; the input reads as it did. -/
def fnExactShardRootSpec : ChangeSpec := { name := "fnExactShardRoot", vars := ["loop.example/g00284/impl.startWords", "loop.example/g00284/impl.roundWords"], fn := fun _ => fun
  | [d1, d2, d3, d4, g1, g2] => { results := [.lit (.bool true)], args := [d1, d2, d3, d4], vars := [g1, g2] }
  | _ => none }
def fnExactShardRootRow : OpenClaim := { program := "ytagkcgbggeajkaadoor", sum := "dfe9fb53420ec8886d400e87c3f95e09f95bcba75555a62cb5064e283d2ffb83", func := "loop.example/g00284/laws.FnExactShardRoot", spec := "fnExactShardRoot", unfollowed := true, recurses := true, named := ["loop.example/g00284/impl.startWords", "loop.example/g00284/impl.roundWords"], apart := false, laid := [("loop.example/g00284/impl.roundWords", laid_loop_example_g00284_impl_roundWords), ("loop.example/g00284/impl.startWords", laid_loop_example_g00284_impl_startWords)] }
def FnExactShardRootSaid : Prop := fnExactShardRootRow.holds Tryd.pinned (OpenSpec.ofChange fnExactShardRootSpec)

/-- ITS FALSE NEIGHBOUR: 'it returns false'. Refute it at one input. -/
def fnExactShardRootWrong : ChangeSpec := { name := "fnExactShardRoot", vars := ["loop.example/g00284/impl.startWords", "loop.example/g00284/impl.roundWords"], fn := fun _ => fun
  | [d1, d2, d3, d4, g1, g2] => { results := [.lit (.bool false)], args := [d1, d2, d3, d4], vars := [g1, g2] }
  | _ => none }
def FnExactShardRootWrongFalsely : Prop := fnExactShardRootRow.holds Tryd.pinned (OpenSpec.ofChange fnExactShardRootWrong)

/-- 'laws.FnExactSidesOf': WHATEVER THE INPUT: true; the input reads as it did. -/
def fnExactSidesOfSpec : ChangeSpec := { name := "fnExactSidesOf", vars := ["loop.example/g00284/impl.startWords", "loop.example/g00284/impl.roundWords"], fn := fun _ => fun
  | [d1, d2, d3, d4, g1, g2] => { results := [.lit (.bool true)], args := [d1, d2, d3, d4], vars := [g1, g2] }
  | _ => none }
def fnExactSidesOfRow : OpenClaim := { program := "ytagkcgbggeajkaadoor", sum := "dfe9fb53420ec8886d400e87c3f95e09f95bcba75555a62cb5064e283d2ffb83", func := "loop.example/g00284/laws.FnExactSidesOf", spec := "fnExactSidesOf", unfollowed := true, recurses := true, named := ["loop.example/g00284/impl.startWords", "loop.example/g00284/impl.roundWords"], apart := false, laid := [("loop.example/g00284/impl.roundWords", laid_loop_example_g00284_impl_roundWords), ("loop.example/g00284/impl.startWords", laid_loop_example_g00284_impl_startWords)] }
def FnExactSidesOfSaid : Prop := fnExactSidesOfRow.holds Tryd.pinned (OpenSpec.ofChange fnExactSidesOfSpec)

/-- ITS FALSE NEIGHBOUR: 'it returns false'. Refute it at one input. -/
def fnExactSidesOfWrong : ChangeSpec := { name := "fnExactSidesOf", vars := ["loop.example/g00284/impl.startWords", "loop.example/g00284/impl.roundWords"], fn := fun _ => fun
  | [d1, d2, d3, d4, g1, g2] => { results := [.lit (.bool false)], args := [d1, d2, d3, d4], vars := [g1, g2] }
  | _ => none }
def FnExactSidesOfWrongFalsely : Prop := fnExactSidesOfRow.holds Tryd.pinned (OpenSpec.ofChange fnExactSidesOfWrong)

/-- 'laws.FnExactProveLeaf': WHATEVER THE INPUT: true; the input reads as it did. -/
def fnExactProveLeafSpec : ChangeSpec := { name := "fnExactProveLeaf", vars := ["loop.example/g00284/impl.startWords", "loop.example/g00284/impl.roundWords"], fn := fun _ => fun
  | [d1, d2, d3, d4, g1, g2] => { results := [.lit (.bool true)], args := [d1, d2, d3, d4], vars := [g1, g2] }
  | _ => none }
def fnExactProveLeafRow : OpenClaim := { program := "ytagkcgbggeajkaadoor", sum := "dfe9fb53420ec8886d400e87c3f95e09f95bcba75555a62cb5064e283d2ffb83", func := "loop.example/g00284/laws.FnExactProveLeaf", spec := "fnExactProveLeaf", unfollowed := true, recurses := true, named := ["loop.example/g00284/impl.startWords", "loop.example/g00284/impl.roundWords"], apart := false, laid := [("loop.example/g00284/impl.roundWords", laid_loop_example_g00284_impl_roundWords), ("loop.example/g00284/impl.startWords", laid_loop_example_g00284_impl_startWords)] }
def FnExactProveLeafSaid : Prop := fnExactProveLeafRow.holds Tryd.pinned (OpenSpec.ofChange fnExactProveLeafSpec)

/-- ITS FALSE NEIGHBOUR: 'it returns false'. Refute it at one input. -/
def fnExactProveLeafWrong : ChangeSpec := { name := "fnExactProveLeaf", vars := ["loop.example/g00284/impl.startWords", "loop.example/g00284/impl.roundWords"], fn := fun _ => fun
  | [d1, d2, d3, d4, g1, g2] => { results := [.lit (.bool false)], args := [d1, d2, d3, d4], vars := [g1, g2] }
  | _ => none }
def FnExactProveLeafWrongFalsely : Prop := fnExactProveLeafRow.holds Tryd.pinned (OpenSpec.ofChange fnExactProveLeafWrong)

/-- 'laws.FnExactProofTexts': WHATEVER THE INPUT: true; the input reads as it did. -/
def fnExactProofTextsSpec : ChangeSpec := { name := "fnExactProofTexts", vars := ["loop.example/g00284/impl.startWords", "loop.example/g00284/impl.roundWords"], fn := fun _ => fun
  | [d1, d2, d3, g1, g2] => { results := [.lit (.bool true)], args := [d1, d2, d3], vars := [g1, g2] }
  | _ => none }
def fnExactProofTextsRow : OpenClaim := { program := "ytagkcgbggeajkaadoor", sum := "dfe9fb53420ec8886d400e87c3f95e09f95bcba75555a62cb5064e283d2ffb83", func := "loop.example/g00284/laws.FnExactProofTexts", spec := "fnExactProofTexts", unfollowed := true, recurses := true, named := ["loop.example/g00284/impl.startWords", "loop.example/g00284/impl.roundWords"], apart := false, laid := [("loop.example/g00284/impl.roundWords", laid_loop_example_g00284_impl_roundWords), ("loop.example/g00284/impl.startWords", laid_loop_example_g00284_impl_startWords)] }
def FnExactProofTextsSaid : Prop := fnExactProofTextsRow.holds Tryd.pinned (OpenSpec.ofChange fnExactProofTextsSpec)

/-- ITS FALSE NEIGHBOUR: 'it returns false'. Refute it at one input. -/
def fnExactProofTextsWrong : ChangeSpec := { name := "fnExactProofTexts", vars := ["loop.example/g00284/impl.startWords", "loop.example/g00284/impl.roundWords"], fn := fun _ => fun
  | [d1, d2, d3, g1, g2] => { results := [.lit (.bool false)], args := [d1, d2, d3], vars := [g1, g2] }
  | _ => none }
def FnExactProofTextsWrongFalsely : Prop := fnExactProofTextsRow.holds Tryd.pinned (OpenSpec.ofChange fnExactProofTextsWrong)

/-- 'laws.FnExactProofHash': WHATEVER THE INPUT: true; the input reads as it did. -/
def fnExactProofHashSpec : ChangeSpec := { name := "fnExactProofHash", vars := ["loop.example/g00284/impl.startWords", "loop.example/g00284/impl.roundWords"], fn := fun _ => fun
  | [d1, d2, d3, g1, g2] => { results := [.lit (.bool true)], args := [d1, d2, d3], vars := [g1, g2] }
  | _ => none }
def fnExactProofHashRow : OpenClaim := { program := "ytagkcgbggeajkaadoor", sum := "dfe9fb53420ec8886d400e87c3f95e09f95bcba75555a62cb5064e283d2ffb83", func := "loop.example/g00284/laws.FnExactProofHash", spec := "fnExactProofHash", unfollowed := true, recurses := true, named := ["loop.example/g00284/impl.startWords", "loop.example/g00284/impl.roundWords"], apart := false, laid := [("loop.example/g00284/impl.roundWords", laid_loop_example_g00284_impl_roundWords), ("loop.example/g00284/impl.startWords", laid_loop_example_g00284_impl_startWords)] }
def FnExactProofHashSaid : Prop := fnExactProofHashRow.holds Tryd.pinned (OpenSpec.ofChange fnExactProofHashSpec)

/-- ITS FALSE NEIGHBOUR: 'it returns false'. Refute it at one input. -/
def fnExactProofHashWrong : ChangeSpec := { name := "fnExactProofHash", vars := ["loop.example/g00284/impl.startWords", "loop.example/g00284/impl.roundWords"], fn := fun _ => fun
  | [d1, d2, d3, g1, g2] => { results := [.lit (.bool false)], args := [d1, d2, d3], vars := [g1, g2] }
  | _ => none }
def FnExactProofHashWrongFalsely : Prop := fnExactProofHashRow.holds Tryd.pinned (OpenSpec.ofChange fnExactProofHashWrong)

/-- 'laws.FnExactExtractTwo': WHATEVER THE INPUT: true; the input reads as it did. -/
def fnExactExtractTwoSpec : ChangeSpec := { name := "fnExactExtractTwo", vars := ["loop.example/g00284/impl.startWords", "loop.example/g00284/impl.roundWords"], fn := fun _ => fun
  | [d1, d2, d3, d4, g1, g2] => { results := [.lit (.bool true)], args := [d1, d2, d3, d4], vars := [g1, g2] }
  | _ => none }
def fnExactExtractTwoRow : OpenClaim := { program := "ytagkcgbggeajkaadoor", sum := "dfe9fb53420ec8886d400e87c3f95e09f95bcba75555a62cb5064e283d2ffb83", func := "loop.example/g00284/laws.FnExactExtractTwo", spec := "fnExactExtractTwo", unfollowed := true, recurses := true, named := ["loop.example/g00284/impl.startWords", "loop.example/g00284/impl.roundWords"], apart := false, laid := [("loop.example/g00284/impl.roundWords", laid_loop_example_g00284_impl_roundWords), ("loop.example/g00284/impl.startWords", laid_loop_example_g00284_impl_startWords)] }
def FnExactExtractTwoSaid : Prop := fnExactExtractTwoRow.holds Tryd.pinned (OpenSpec.ofChange fnExactExtractTwoSpec)

/-- ITS FALSE NEIGHBOUR: 'it returns false'. Refute it at one input. -/
def fnExactExtractTwoWrong : ChangeSpec := { name := "fnExactExtractTwo", vars := ["loop.example/g00284/impl.startWords", "loop.example/g00284/impl.roundWords"], fn := fun _ => fun
  | [d1, d2, d3, d4, g1, g2] => { results := [.lit (.bool false)], args := [d1, d2, d3, d4], vars := [g1, g2] }
  | _ => none }
def FnExactExtractTwoWrongFalsely : Prop := fnExactExtractTwoRow.holds Tryd.pinned (OpenSpec.ofChange fnExactExtractTwoWrong)

/- THE SECOND FORM. 'bulk': how many values and letters a reading holds, each counted each time it is reached (what is shared counts as often as it is met; a slice's spare places count too). A statement '..UptoSaid' is the law's where the arguments, and the package variables that the reading takes, are together of bulk at most 1048576: NARROWER than '..Said'. Prove '..Said' where nothing that the law and all that it calls make is longer than what came in: it says more and counts as full. Else prove '..UptoSaid'. A law counts once. -/
mutual
def uptoBulk {H : Type} : DataW H → Nat
  | .lit (.string bytes) => bytes.length + 1
  | .lit _ => 1
  | .nil => 1
  | .ptr d => uptoBulk d + 1
  | .slice elems spare => uptoBulkAll elems + uptoBulkAll spare + 1
  | .agg parts => uptoBulkAll parts + 1
  | .iface _ d => uptoBulk d + 1
  | .map entries => uptoBulkEntries entries + 1
  | .held _ => 1
def uptoBulkAll {H : Type} : List (DataW H) → Nat
  | [] => 0
  | d :: r => uptoBulk d + uptoBulkAll r
def uptoBulkEntries {H : Type} : List (Lit × DataW H) → Nat
  | [] => 0
  | x :: r => uptoBulkEntry x + uptoBulkEntries r
def uptoBulkEntry {H : Type} : Lit × DataW H → Nat
  | (.string bytes, d) => bytes.length + uptoBulk d + 1
  | (_, d) => uptoBulk d + 1
 end
def uptoSmall : (H : Type) → List (DataW H) → Bool := fun _ ds => decide (uptoBulkAll ds ≤ 1048576)
def OpenSpec.upto (s : _root_.Go.ChangeSpec) : _root_.Go.OpenSpec := { _root_.Go.OpenSpec.ofChange s with cond := some uptoSmall }

/-- 'laws.FnExactChainOk', WHERE WHAT IT READS IS OF BULK AT MOST 1048576: true; the input reads as it did. -/
def fnExactChainOkUptoRow : OpenClaim := { program := "ytagkcgbggeajkaadoor", sum := "dfe9fb53420ec8886d400e87c3f95e09f95bcba75555a62cb5064e283d2ffb83", func := "loop.example/g00284/laws.FnExactChainOk", spec := "fnExactChainOk", unfollowed := true, recurses := true, named := ["loop.example/g00284/impl.startWords", "loop.example/g00284/impl.roundWords"], apart := false, laid := [("loop.example/g00284/impl.roundWords", laid_loop_example_g00284_impl_roundWords), ("loop.example/g00284/impl.startWords", laid_loop_example_g00284_impl_startWords)], narrowed := true }
def FnExactChainOkUptoSaid : Prop := fnExactChainOkUptoRow.holds Tryd.pinned (OpenSpec.upto fnExactChainOkSpec)

/-- 'laws.FnExactNextHead', WHERE WHAT IT READS IS OF BULK AT MOST 1048576: true; the input reads as it did. -/
def fnExactNextHeadUptoRow : OpenClaim := { program := "ytagkcgbggeajkaadoor", sum := "dfe9fb53420ec8886d400e87c3f95e09f95bcba75555a62cb5064e283d2ffb83", func := "loop.example/g00284/laws.FnExactNextHead", spec := "fnExactNextHead", unfollowed := true, recurses := true, named := ["loop.example/g00284/impl.startWords", "loop.example/g00284/impl.roundWords"], apart := false, laid := [("loop.example/g00284/impl.roundWords", laid_loop_example_g00284_impl_roundWords), ("loop.example/g00284/impl.startWords", laid_loop_example_g00284_impl_startWords)], narrowed := true }
def FnExactNextHeadUptoSaid : Prop := fnExactNextHeadUptoRow.holds Tryd.pinned (OpenSpec.upto fnExactNextHeadSpec)

/-- 'laws.FnExactNodeHash', WHERE WHAT IT READS IS OF BULK AT MOST 1048576: true; the input reads as it did. -/
def fnExactNodeHashUptoRow : OpenClaim := { program := "ytagkcgbggeajkaadoor", sum := "dfe9fb53420ec8886d400e87c3f95e09f95bcba75555a62cb5064e283d2ffb83", func := "loop.example/g00284/laws.FnExactNodeHash", spec := "fnExactNodeHash", unfollowed := true, recurses := true, named := ["loop.example/g00284/impl.startWords", "loop.example/g00284/impl.roundWords"], apart := false, laid := [("loop.example/g00284/impl.roundWords", laid_loop_example_g00284_impl_roundWords), ("loop.example/g00284/impl.startWords", laid_loop_example_g00284_impl_startWords)], narrowed := true }
def FnExactNodeHashUptoSaid : Prop := fnExactNodeHashUptoRow.holds Tryd.pinned (OpenSpec.upto fnExactNodeHashSpec)

/-- 'laws.FnExactRootOf', WHERE WHAT IT READS IS OF BULK AT MOST 1048576: true; the input reads as it did. -/
def fnExactRootOfUptoRow : OpenClaim := { program := "ytagkcgbggeajkaadoor", sum := "dfe9fb53420ec8886d400e87c3f95e09f95bcba75555a62cb5064e283d2ffb83", func := "loop.example/g00284/laws.FnExactRootOf", spec := "fnExactRootOf", unfollowed := true, recurses := true, named := ["loop.example/g00284/impl.startWords", "loop.example/g00284/impl.roundWords"], apart := false, laid := [("loop.example/g00284/impl.roundWords", laid_loop_example_g00284_impl_roundWords), ("loop.example/g00284/impl.startWords", laid_loop_example_g00284_impl_startWords)], narrowed := true }
def FnExactRootOfUptoSaid : Prop := fnExactRootOfUptoRow.holds Tryd.pinned (OpenSpec.upto fnExactRootOfSpec)

/-- 'laws.FnExactShardRoot', WHERE WHAT IT READS IS OF BULK AT MOST 1048576: true; the input reads as it did. -/
def fnExactShardRootUptoRow : OpenClaim := { program := "ytagkcgbggeajkaadoor", sum := "dfe9fb53420ec8886d400e87c3f95e09f95bcba75555a62cb5064e283d2ffb83", func := "loop.example/g00284/laws.FnExactShardRoot", spec := "fnExactShardRoot", unfollowed := true, recurses := true, named := ["loop.example/g00284/impl.startWords", "loop.example/g00284/impl.roundWords"], apart := false, laid := [("loop.example/g00284/impl.roundWords", laid_loop_example_g00284_impl_roundWords), ("loop.example/g00284/impl.startWords", laid_loop_example_g00284_impl_startWords)], narrowed := true }
def FnExactShardRootUptoSaid : Prop := fnExactShardRootUptoRow.holds Tryd.pinned (OpenSpec.upto fnExactShardRootSpec)

/-- 'laws.FnExactSidesOf', WHERE WHAT IT READS IS OF BULK AT MOST 1048576: true; the input reads as it did. -/
def fnExactSidesOfUptoRow : OpenClaim := { program := "ytagkcgbggeajkaadoor", sum := "dfe9fb53420ec8886d400e87c3f95e09f95bcba75555a62cb5064e283d2ffb83", func := "loop.example/g00284/laws.FnExactSidesOf", spec := "fnExactSidesOf", unfollowed := true, recurses := true, named := ["loop.example/g00284/impl.startWords", "loop.example/g00284/impl.roundWords"], apart := false, laid := [("loop.example/g00284/impl.roundWords", laid_loop_example_g00284_impl_roundWords), ("loop.example/g00284/impl.startWords", laid_loop_example_g00284_impl_startWords)], narrowed := true }
def FnExactSidesOfUptoSaid : Prop := fnExactSidesOfUptoRow.holds Tryd.pinned (OpenSpec.upto fnExactSidesOfSpec)

/-- 'laws.FnExactProveLeaf', WHERE WHAT IT READS IS OF BULK AT MOST 1048576: true; the input reads as it did. -/
def fnExactProveLeafUptoRow : OpenClaim := { program := "ytagkcgbggeajkaadoor", sum := "dfe9fb53420ec8886d400e87c3f95e09f95bcba75555a62cb5064e283d2ffb83", func := "loop.example/g00284/laws.FnExactProveLeaf", spec := "fnExactProveLeaf", unfollowed := true, recurses := true, named := ["loop.example/g00284/impl.startWords", "loop.example/g00284/impl.roundWords"], apart := false, laid := [("loop.example/g00284/impl.roundWords", laid_loop_example_g00284_impl_roundWords), ("loop.example/g00284/impl.startWords", laid_loop_example_g00284_impl_startWords)], narrowed := true }
def FnExactProveLeafUptoSaid : Prop := fnExactProveLeafUptoRow.holds Tryd.pinned (OpenSpec.upto fnExactProveLeafSpec)

/-- 'laws.FnExactProofTexts', WHERE WHAT IT READS IS OF BULK AT MOST 1048576: true; the input reads as it did. -/
def fnExactProofTextsUptoRow : OpenClaim := { program := "ytagkcgbggeajkaadoor", sum := "dfe9fb53420ec8886d400e87c3f95e09f95bcba75555a62cb5064e283d2ffb83", func := "loop.example/g00284/laws.FnExactProofTexts", spec := "fnExactProofTexts", unfollowed := true, recurses := true, named := ["loop.example/g00284/impl.startWords", "loop.example/g00284/impl.roundWords"], apart := false, laid := [("loop.example/g00284/impl.roundWords", laid_loop_example_g00284_impl_roundWords), ("loop.example/g00284/impl.startWords", laid_loop_example_g00284_impl_startWords)], narrowed := true }
def FnExactProofTextsUptoSaid : Prop := fnExactProofTextsUptoRow.holds Tryd.pinned (OpenSpec.upto fnExactProofTextsSpec)

/-- 'laws.FnExactProofHash', WHERE WHAT IT READS IS OF BULK AT MOST 1048576: true; the input reads as it did. -/
def fnExactProofHashUptoRow : OpenClaim := { program := "ytagkcgbggeajkaadoor", sum := "dfe9fb53420ec8886d400e87c3f95e09f95bcba75555a62cb5064e283d2ffb83", func := "loop.example/g00284/laws.FnExactProofHash", spec := "fnExactProofHash", unfollowed := true, recurses := true, named := ["loop.example/g00284/impl.startWords", "loop.example/g00284/impl.roundWords"], apart := false, laid := [("loop.example/g00284/impl.roundWords", laid_loop_example_g00284_impl_roundWords), ("loop.example/g00284/impl.startWords", laid_loop_example_g00284_impl_startWords)], narrowed := true }
def FnExactProofHashUptoSaid : Prop := fnExactProofHashUptoRow.holds Tryd.pinned (OpenSpec.upto fnExactProofHashSpec)

/-- 'laws.FnExactExtractTwo', WHERE WHAT IT READS IS OF BULK AT MOST 1048576: true; the input reads as it did. -/
def fnExactExtractTwoUptoRow : OpenClaim := { program := "ytagkcgbggeajkaadoor", sum := "dfe9fb53420ec8886d400e87c3f95e09f95bcba75555a62cb5064e283d2ffb83", func := "loop.example/g00284/laws.FnExactExtractTwo", spec := "fnExactExtractTwo", unfollowed := true, recurses := true, named := ["loop.example/g00284/impl.startWords", "loop.example/g00284/impl.roundWords"], apart := false, laid := [("loop.example/g00284/impl.roundWords", laid_loop_example_g00284_impl_roundWords), ("loop.example/g00284/impl.startWords", laid_loop_example_g00284_impl_startWords)], narrowed := true }
def FnExactExtractTwoUptoSaid : Prop := fnExactExtractTwoUptoRow.holds Tryd.pinned (OpenSpec.upto fnExactExtractTwoSpec)

end Rows
end Go.Proofs.YtagkcgbggeajkaaDoor
