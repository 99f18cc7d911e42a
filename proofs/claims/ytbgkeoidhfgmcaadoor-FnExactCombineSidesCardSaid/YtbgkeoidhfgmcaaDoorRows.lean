/-
  NARROWER THAN 'FOR EVERY INPUT', by the rows' own cells (each row's printed sentence says how): FnExactShardOf: laid · FnExactEmptyHash: laid · FnExactBucketOf: laid · FnExactShardLeaves: laid · FnExactHeadHash: laid · FnExactFoldUp: laid · FnExactCombineRoots: laid · FnExactCombineSides: laid · FnExactChainOk: laid · FnExactBucketHash: laid · FnExactProofOk: laid.
  DERIVED. THE GIVEN ROWS OF THIS SEAT. 11 by the template 'for every input the law returns true; each argument reads behind the call as it read before'; 0 by the template 'total and deterministic' (their statements: YtbgkeoidhfgmcaaDoorTotals.lean).
  GIVEN WITH THE SEED: the statements are not yours to turn. If you find one false, say at which input.
  Laid BY PROGRAM, IN A SANDBOX (cutbox-rows.mjs): the forced cells as the released guide's own fill.sh prints them over the translation c5f42c97eac76eae… (all of the seat's roots in one cut). By AI agents, Wed Nov 11 2026. No macro, syntax, notation, axiom, sorry.
-/
import Derived.Test.YtbgkeoidhfgmcaaDoorChecked
import GoSem.Claim
import GoSem.ClaimJoined
import GoSem.ClaimMapViews
import Derived.JoinedTies
import Derived.KernelRfl
namespace Go.Proofs.YtbgkeoidhfgmcaaDoor
/- THE CELL 'sum', in the pinned program and in every row, IS THE sha256 OF THE DUMP (.gsa) THAT YtbgkeoidhfgmcaaDoorProg.lean LOADS. Nothing in Lean hashes anything: it is a label: what it is worth is what the hold of that sum in a sandbox is worth. -/
noncomputable def Tryd.pinned : Pinned := { name := "ytbgkeoidhfgmcaadoor", sum := "c5f42c97eac76eae8606367b3e01872c9a91ed384e9bd2330d6e8d4811a50ed7", checked := Tryd.checked }
namespace Rows
def none {H : Type} : Left H := { results := [], args := [] }

/- WHAT THE LISTED PACKAGE-LEVEL VARIABLES READ AS WHEN THE CALL BEGINS. Each datum BY PROGRAM (the guide's laid-datum.mjs) off the statement by which the dump's own 'gosem.cut.vars' lays the variable. In a bare row this is a premise. The card (YtbgkeoidhfgmcaaDoorCards.lean) ties it to the program's text. -/
def laid_loop_example_g00284_impl_roundWords {H : Type} : DataW H := .agg [.lit (.int .u32 1116352408), .lit (.int .u32 1899447441), .lit (.int .u32 3049323471), .lit (.int .u32 3921009573), .lit (.int .u32 961987163), .lit (.int .u32 1508970993), .lit (.int .u32 2453635748), .lit (.int .u32 2870763221), .lit (.int .u32 3624381080), .lit (.int .u32 310598401), .lit (.int .u32 607225278), .lit (.int .u32 1426881987), .lit (.int .u32 1925078388), .lit (.int .u32 2162078206), .lit (.int .u32 2614888103), .lit (.int .u32 3248222580), .lit (.int .u32 3835390401), .lit (.int .u32 4022224774), .lit (.int .u32 264347078), .lit (.int .u32 604807628), .lit (.int .u32 770255983), .lit (.int .u32 1249150122), .lit (.int .u32 1555081692), .lit (.int .u32 1996064986), .lit (.int .u32 2554220882), .lit (.int .u32 2821834349), .lit (.int .u32 2952996808), .lit (.int .u32 3210313671), .lit (.int .u32 3336571891), .lit (.int .u32 3584528711), .lit (.int .u32 113926993), .lit (.int .u32 338241895), .lit (.int .u32 666307205), .lit (.int .u32 773529912), .lit (.int .u32 1294757372), .lit (.int .u32 1396182291), .lit (.int .u32 1695183700), .lit (.int .u32 1986661051), .lit (.int .u32 2177026350), .lit (.int .u32 2456956037), .lit (.int .u32 2730485921), .lit (.int .u32 2820302411), .lit (.int .u32 3259730800), .lit (.int .u32 3345764771), .lit (.int .u32 3516065817), .lit (.int .u32 3600352804), .lit (.int .u32 4094571909), .lit (.int .u32 275423344), .lit (.int .u32 430227734), .lit (.int .u32 506948616), .lit (.int .u32 659060556), .lit (.int .u32 883997877), .lit (.int .u32 958139571), .lit (.int .u32 1322822218), .lit (.int .u32 1537002063), .lit (.int .u32 1747873779), .lit (.int .u32 1955562222), .lit (.int .u32 2024104815), .lit (.int .u32 2227730452), .lit (.int .u32 2361852424), .lit (.int .u32 2428436474), .lit (.int .u32 2756734187), .lit (.int .u32 3204031479), .lit (.int .u32 3329325298)]
def laid_loop_example_g00284_impl_startWords {H : Type} : DataW H := .agg [.lit (.int .u32 1779033703), .lit (.int .u32 3144134277), .lit (.int .u32 1013904242), .lit (.int .u32 2773480762), .lit (.int .u32 1359893119), .lit (.int .u32 2600822924), .lit (.int .u32 528734635), .lit (.int .u32 1541459225)]

/-- 'laws.FnExactShardOf': WHATEVER THE INPUT: true; the input reads as it did. -/
def fnExactShardOfSpec : ChangeSpec := { name := "fnExactShardOf", vars := ["loop.example/g00284/impl.startWords", "loop.example/g00284/impl.roundWords"], fn := fun _ => fun
  | [d1, d2, g1, g2] => { results := [.lit (.bool true)], args := [d1, d2], vars := [g1, g2] }
  | _ => none }
def fnExactShardOfRow : OpenClaim := { program := "ytbgkeoidhfgmcaadoor", sum := "c5f42c97eac76eae8606367b3e01872c9a91ed384e9bd2330d6e8d4811a50ed7", func := "loop.example/g00284/laws.FnExactShardOf", spec := "fnExactShardOf", unfollowed := true, recurses := true, named := ["loop.example/g00284/impl.startWords", "loop.example/g00284/impl.roundWords"], apart := false, laid := [("loop.example/g00284/impl.roundWords", laid_loop_example_g00284_impl_roundWords), ("loop.example/g00284/impl.startWords", laid_loop_example_g00284_impl_startWords)] }
def FnExactShardOfSaid : Prop := fnExactShardOfRow.holds Tryd.pinned (OpenSpec.ofChange fnExactShardOfSpec)

/-- ITS FALSE NEIGHBOUR: 'it returns false'. Refute it at one input. -/
def fnExactShardOfWrong : ChangeSpec := { name := "fnExactShardOf", vars := ["loop.example/g00284/impl.startWords", "loop.example/g00284/impl.roundWords"], fn := fun _ => fun
  | [d1, d2, g1, g2] => { results := [.lit (.bool false)], args := [d1, d2], vars := [g1, g2] }
  | _ => none }
def FnExactShardOfWrongFalsely : Prop := fnExactShardOfRow.holds Tryd.pinned (OpenSpec.ofChange fnExactShardOfWrong)

/-- 'laws.FnExactEmptyHash': WHATEVER THE INPUT: true; the input reads as it did. -/
def fnExactEmptyHashSpec : ChangeSpec := { name := "fnExactEmptyHash", vars := ["loop.example/g00284/impl.startWords", "loop.example/g00284/impl.roundWords"], fn := fun _ => fun
  | [d1, d2, g1, g2] => { results := [.lit (.bool true)], args := [d1, d2], vars := [g1, g2] }
  | _ => none }
def fnExactEmptyHashRow : OpenClaim := { program := "ytbgkeoidhfgmcaadoor", sum := "c5f42c97eac76eae8606367b3e01872c9a91ed384e9bd2330d6e8d4811a50ed7", func := "loop.example/g00284/laws.FnExactEmptyHash", spec := "fnExactEmptyHash", unfollowed := true, recurses := true, named := ["loop.example/g00284/impl.startWords", "loop.example/g00284/impl.roundWords"], apart := false, laid := [("loop.example/g00284/impl.roundWords", laid_loop_example_g00284_impl_roundWords), ("loop.example/g00284/impl.startWords", laid_loop_example_g00284_impl_startWords)] }
def FnExactEmptyHashSaid : Prop := fnExactEmptyHashRow.holds Tryd.pinned (OpenSpec.ofChange fnExactEmptyHashSpec)

/-- ITS FALSE NEIGHBOUR: 'it returns false'. Refute it at one input. -/
def fnExactEmptyHashWrong : ChangeSpec := { name := "fnExactEmptyHash", vars := ["loop.example/g00284/impl.startWords", "loop.example/g00284/impl.roundWords"], fn := fun _ => fun
  | [d1, d2, g1, g2] => { results := [.lit (.bool false)], args := [d1, d2], vars := [g1, g2] }
  | _ => none }
def FnExactEmptyHashWrongFalsely : Prop := fnExactEmptyHashRow.holds Tryd.pinned (OpenSpec.ofChange fnExactEmptyHashWrong)

/-- 'laws.FnExactBucketOf': WHATEVER THE INPUT: true; the input reads as it did. -/
def fnExactBucketOfSpec : ChangeSpec := { name := "fnExactBucketOf", vars := ["loop.example/g00284/impl.startWords", "loop.example/g00284/impl.roundWords"], fn := fun _ => fun
  | [d1, d2, g1, g2] => { results := [.lit (.bool true)], args := [d1, d2], vars := [g1, g2] }
  | _ => none }
def fnExactBucketOfRow : OpenClaim := { program := "ytbgkeoidhfgmcaadoor", sum := "c5f42c97eac76eae8606367b3e01872c9a91ed384e9bd2330d6e8d4811a50ed7", func := "loop.example/g00284/laws.FnExactBucketOf", spec := "fnExactBucketOf", unfollowed := true, recurses := true, named := ["loop.example/g00284/impl.startWords", "loop.example/g00284/impl.roundWords"], apart := false, laid := [("loop.example/g00284/impl.roundWords", laid_loop_example_g00284_impl_roundWords), ("loop.example/g00284/impl.startWords", laid_loop_example_g00284_impl_startWords)] }
def FnExactBucketOfSaid : Prop := fnExactBucketOfRow.holds Tryd.pinned (OpenSpec.ofChange fnExactBucketOfSpec)

/-- ITS FALSE NEIGHBOUR: 'it returns false'. Refute it at one input. -/
def fnExactBucketOfWrong : ChangeSpec := { name := "fnExactBucketOf", vars := ["loop.example/g00284/impl.startWords", "loop.example/g00284/impl.roundWords"], fn := fun _ => fun
  | [d1, d2, g1, g2] => { results := [.lit (.bool false)], args := [d1, d2], vars := [g1, g2] }
  | _ => none }
def FnExactBucketOfWrongFalsely : Prop := fnExactBucketOfRow.holds Tryd.pinned (OpenSpec.ofChange fnExactBucketOfWrong)

/-- 'laws.FnExactShardLeaves': WHATEVER THE INPUT: true; the input reads as it did. -/
def fnExactShardLeavesSpec : ChangeSpec := { name := "fnExactShardLeaves", vars := ["loop.example/g00284/impl.startWords", "loop.example/g00284/impl.roundWords"], fn := fun _ => fun
  | [d1, d2, d3, g1, g2] => { results := [.lit (.bool true)], args := [d1, d2, d3], vars := [g1, g2] }
  | _ => none }
def fnExactShardLeavesRow : OpenClaim := { program := "ytbgkeoidhfgmcaadoor", sum := "c5f42c97eac76eae8606367b3e01872c9a91ed384e9bd2330d6e8d4811a50ed7", func := "loop.example/g00284/laws.FnExactShardLeaves", spec := "fnExactShardLeaves", unfollowed := true, recurses := true, named := ["loop.example/g00284/impl.startWords", "loop.example/g00284/impl.roundWords"], apart := false, laid := [("loop.example/g00284/impl.roundWords", laid_loop_example_g00284_impl_roundWords), ("loop.example/g00284/impl.startWords", laid_loop_example_g00284_impl_startWords)] }
def FnExactShardLeavesSaid : Prop := fnExactShardLeavesRow.holds Tryd.pinned (OpenSpec.ofChange fnExactShardLeavesSpec)

/-- ITS FALSE NEIGHBOUR: 'it returns false'. Refute it at one input. -/
def fnExactShardLeavesWrong : ChangeSpec := { name := "fnExactShardLeaves", vars := ["loop.example/g00284/impl.startWords", "loop.example/g00284/impl.roundWords"], fn := fun _ => fun
  | [d1, d2, d3, g1, g2] => { results := [.lit (.bool false)], args := [d1, d2, d3], vars := [g1, g2] }
  | _ => none }
def FnExactShardLeavesWrongFalsely : Prop := fnExactShardLeavesRow.holds Tryd.pinned (OpenSpec.ofChange fnExactShardLeavesWrong)

/-- 'laws.FnExactHeadHash': WHATEVER THE INPUT: true; the input reads as it did. -/
def fnExactHeadHashSpec : ChangeSpec := { name := "fnExactHeadHash", vars := ["loop.example/g00284/impl.startWords", "loop.example/g00284/impl.roundWords"], fn := fun _ => fun
  | [d, g1, g2] => { results := [.lit (.bool true)], args := [d], vars := [g1, g2] }
  | _ => none }
def fnExactHeadHashRow : OpenClaim := { program := "ytbgkeoidhfgmcaadoor", sum := "c5f42c97eac76eae8606367b3e01872c9a91ed384e9bd2330d6e8d4811a50ed7", func := "loop.example/g00284/laws.FnExactHeadHash", spec := "fnExactHeadHash", unfollowed := true, recurses := true, named := ["loop.example/g00284/impl.startWords", "loop.example/g00284/impl.roundWords"], apart := false, laid := [("loop.example/g00284/impl.roundWords", laid_loop_example_g00284_impl_roundWords), ("loop.example/g00284/impl.startWords", laid_loop_example_g00284_impl_startWords)] }
def FnExactHeadHashSaid : Prop := fnExactHeadHashRow.holds Tryd.pinned (OpenSpec.ofChange fnExactHeadHashSpec)

/-- ITS FALSE NEIGHBOUR: 'it returns false'. Refute it at one input. -/
def fnExactHeadHashWrong : ChangeSpec := { name := "fnExactHeadHash", vars := ["loop.example/g00284/impl.startWords", "loop.example/g00284/impl.roundWords"], fn := fun _ => fun
  | [d, g1, g2] => { results := [.lit (.bool false)], args := [d], vars := [g1, g2] }
  | _ => none }
def FnExactHeadHashWrongFalsely : Prop := fnExactHeadHashRow.holds Tryd.pinned (OpenSpec.ofChange fnExactHeadHashWrong)

/-- 'laws.FnExactFoldUp': WHATEVER THE INPUT: true; the input reads as it did. -/
def fnExactFoldUpSpec : ChangeSpec := { name := "fnExactFoldUp", vars := ["loop.example/g00284/impl.startWords", "loop.example/g00284/impl.roundWords"], fn := fun _ => fun
  | [d1, d2, d3, d4, d5, g1, g2] => { results := [.lit (.bool true)], args := [d1, d2, d3, d4, d5], vars := [g1, g2] }
  | _ => none }
def fnExactFoldUpRow : OpenClaim := { program := "ytbgkeoidhfgmcaadoor", sum := "c5f42c97eac76eae8606367b3e01872c9a91ed384e9bd2330d6e8d4811a50ed7", func := "loop.example/g00284/laws.FnExactFoldUp", spec := "fnExactFoldUp", unfollowed := true, recurses := true, named := ["loop.example/g00284/impl.startWords", "loop.example/g00284/impl.roundWords"], apart := false, laid := [("loop.example/g00284/impl.roundWords", laid_loop_example_g00284_impl_roundWords), ("loop.example/g00284/impl.startWords", laid_loop_example_g00284_impl_startWords)] }
def FnExactFoldUpSaid : Prop := fnExactFoldUpRow.holds Tryd.pinned (OpenSpec.ofChange fnExactFoldUpSpec)

/-- ITS FALSE NEIGHBOUR: 'it returns false'. Refute it at one input. -/
def fnExactFoldUpWrong : ChangeSpec := { name := "fnExactFoldUp", vars := ["loop.example/g00284/impl.startWords", "loop.example/g00284/impl.roundWords"], fn := fun _ => fun
  | [d1, d2, d3, d4, d5, g1, g2] => { results := [.lit (.bool false)], args := [d1, d2, d3, d4, d5], vars := [g1, g2] }
  | _ => none }
def FnExactFoldUpWrongFalsely : Prop := fnExactFoldUpRow.holds Tryd.pinned (OpenSpec.ofChange fnExactFoldUpWrong)

/-- 'laws.FnExactCombineRoots': WHATEVER THE INPUT: true; the input reads as it did. -/
def fnExactCombineRootsSpec : ChangeSpec := { name := "fnExactCombineRoots", vars := ["loop.example/g00284/impl.startWords", "loop.example/g00284/impl.roundWords"], fn := fun _ => fun
  | [d1, d2, g1, g2] => { results := [.lit (.bool true)], args := [d1, d2], vars := [g1, g2] }
  | _ => none }
def fnExactCombineRootsRow : OpenClaim := { program := "ytbgkeoidhfgmcaadoor", sum := "c5f42c97eac76eae8606367b3e01872c9a91ed384e9bd2330d6e8d4811a50ed7", func := "loop.example/g00284/laws.FnExactCombineRoots", spec := "fnExactCombineRoots", unfollowed := true, recurses := true, named := ["loop.example/g00284/impl.startWords", "loop.example/g00284/impl.roundWords"], apart := false, laid := [("loop.example/g00284/impl.roundWords", laid_loop_example_g00284_impl_roundWords), ("loop.example/g00284/impl.startWords", laid_loop_example_g00284_impl_startWords)] }
def FnExactCombineRootsSaid : Prop := fnExactCombineRootsRow.holds Tryd.pinned (OpenSpec.ofChange fnExactCombineRootsSpec)

/-- ITS FALSE NEIGHBOUR: 'it returns false'. Refute it at one input. -/
def fnExactCombineRootsWrong : ChangeSpec := { name := "fnExactCombineRoots", vars := ["loop.example/g00284/impl.startWords", "loop.example/g00284/impl.roundWords"], fn := fun _ => fun
  | [d1, d2, g1, g2] => { results := [.lit (.bool false)], args := [d1, d2], vars := [g1, g2] }
  | _ => none }
def FnExactCombineRootsWrongFalsely : Prop := fnExactCombineRootsRow.holds Tryd.pinned (OpenSpec.ofChange fnExactCombineRootsWrong)

/-- 'laws.FnExactCombineSides': WHATEVER THE INPUT: true; the input reads as it did. -/
def fnExactCombineSidesSpec : ChangeSpec := { name := "fnExactCombineSides", vars := ["loop.example/g00284/impl.startWords", "loop.example/g00284/impl.roundWords"], fn := fun _ => fun
  | [d1, d2, d3, g1, g2] => { results := [.lit (.bool true)], args := [d1, d2, d3], vars := [g1, g2] }
  | _ => none }
def fnExactCombineSidesRow : OpenClaim := { program := "ytbgkeoidhfgmcaadoor", sum := "c5f42c97eac76eae8606367b3e01872c9a91ed384e9bd2330d6e8d4811a50ed7", func := "loop.example/g00284/laws.FnExactCombineSides", spec := "fnExactCombineSides", unfollowed := true, recurses := true, named := ["loop.example/g00284/impl.startWords", "loop.example/g00284/impl.roundWords"], apart := false, laid := [("loop.example/g00284/impl.roundWords", laid_loop_example_g00284_impl_roundWords), ("loop.example/g00284/impl.startWords", laid_loop_example_g00284_impl_startWords)] }
def FnExactCombineSidesSaid : Prop := fnExactCombineSidesRow.holds Tryd.pinned (OpenSpec.ofChange fnExactCombineSidesSpec)

/-- ITS FALSE NEIGHBOUR: 'it returns false'. Refute it at one input. -/
def fnExactCombineSidesWrong : ChangeSpec := { name := "fnExactCombineSides", vars := ["loop.example/g00284/impl.startWords", "loop.example/g00284/impl.roundWords"], fn := fun _ => fun
  | [d1, d2, d3, g1, g2] => { results := [.lit (.bool false)], args := [d1, d2, d3], vars := [g1, g2] }
  | _ => none }
def FnExactCombineSidesWrongFalsely : Prop := fnExactCombineSidesRow.holds Tryd.pinned (OpenSpec.ofChange fnExactCombineSidesWrong)

/-- 'laws.FnExactChainOk': WHATEVER THE INPUT: true; the input reads as it did. -/
def fnExactChainOkSpec : ChangeSpec := { name := "fnExactChainOk", vars := ["loop.example/g00284/impl.startWords", "loop.example/g00284/impl.roundWords"], fn := fun _ => fun
  | [d1, d2, g1, g2] => { results := [.lit (.bool true)], args := [d1, d2], vars := [g1, g2] }
  | _ => none }
def fnExactChainOkRow : OpenClaim := { program := "ytbgkeoidhfgmcaadoor", sum := "c5f42c97eac76eae8606367b3e01872c9a91ed384e9bd2330d6e8d4811a50ed7", func := "loop.example/g00284/laws.FnExactChainOk", spec := "fnExactChainOk", unfollowed := true, recurses := true, named := ["loop.example/g00284/impl.startWords", "loop.example/g00284/impl.roundWords"], apart := false, laid := [("loop.example/g00284/impl.roundWords", laid_loop_example_g00284_impl_roundWords), ("loop.example/g00284/impl.startWords", laid_loop_example_g00284_impl_startWords)] }
def FnExactChainOkSaid : Prop := fnExactChainOkRow.holds Tryd.pinned (OpenSpec.ofChange fnExactChainOkSpec)

/-- ITS FALSE NEIGHBOUR: 'it returns false'. Refute it at one input. -/
def fnExactChainOkWrong : ChangeSpec := { name := "fnExactChainOk", vars := ["loop.example/g00284/impl.startWords", "loop.example/g00284/impl.roundWords"], fn := fun _ => fun
  | [d1, d2, g1, g2] => { results := [.lit (.bool false)], args := [d1, d2], vars := [g1, g2] }
  | _ => none }
def FnExactChainOkWrongFalsely : Prop := fnExactChainOkRow.holds Tryd.pinned (OpenSpec.ofChange fnExactChainOkWrong)

/-- 'laws.FnExactBucketHash': WHATEVER THE INPUT: true; the input reads as it did. -/
def fnExactBucketHashSpec : ChangeSpec := { name := "fnExactBucketHash", vars := ["loop.example/g00284/impl.startWords", "loop.example/g00284/impl.roundWords"], fn := fun _ => fun
  | [d1, d2, g1, g2] => { results := [.lit (.bool true)], args := [d1, d2], vars := [g1, g2] }
  | _ => none }
def fnExactBucketHashRow : OpenClaim := { program := "ytbgkeoidhfgmcaadoor", sum := "c5f42c97eac76eae8606367b3e01872c9a91ed384e9bd2330d6e8d4811a50ed7", func := "loop.example/g00284/laws.FnExactBucketHash", spec := "fnExactBucketHash", unfollowed := true, recurses := true, named := ["loop.example/g00284/impl.startWords", "loop.example/g00284/impl.roundWords"], apart := false, laid := [("loop.example/g00284/impl.roundWords", laid_loop_example_g00284_impl_roundWords), ("loop.example/g00284/impl.startWords", laid_loop_example_g00284_impl_startWords)] }
def FnExactBucketHashSaid : Prop := fnExactBucketHashRow.holds Tryd.pinned (OpenSpec.ofChange fnExactBucketHashSpec)

/-- ITS FALSE NEIGHBOUR: 'it returns false'. Refute it at one input. -/
def fnExactBucketHashWrong : ChangeSpec := { name := "fnExactBucketHash", vars := ["loop.example/g00284/impl.startWords", "loop.example/g00284/impl.roundWords"], fn := fun _ => fun
  | [d1, d2, g1, g2] => { results := [.lit (.bool false)], args := [d1, d2], vars := [g1, g2] }
  | _ => none }
def FnExactBucketHashWrongFalsely : Prop := fnExactBucketHashRow.holds Tryd.pinned (OpenSpec.ofChange fnExactBucketHashWrong)

/-- 'laws.FnExactProofOk': WHATEVER THE INPUT: true; the input reads as it did. -/
def fnExactProofOkSpec : ChangeSpec := { name := "fnExactProofOk", vars := ["loop.example/g00284/impl.startWords", "loop.example/g00284/impl.roundWords"], fn := fun _ => fun
  | [d1, d2, d3, g1, g2] => { results := [.lit (.bool true)], args := [d1, d2, d3], vars := [g1, g2] }
  | _ => none }
def fnExactProofOkRow : OpenClaim := { program := "ytbgkeoidhfgmcaadoor", sum := "c5f42c97eac76eae8606367b3e01872c9a91ed384e9bd2330d6e8d4811a50ed7", func := "loop.example/g00284/laws.FnExactProofOk", spec := "fnExactProofOk", unfollowed := true, recurses := true, named := ["loop.example/g00284/impl.startWords", "loop.example/g00284/impl.roundWords"], apart := false, laid := [("loop.example/g00284/impl.roundWords", laid_loop_example_g00284_impl_roundWords), ("loop.example/g00284/impl.startWords", laid_loop_example_g00284_impl_startWords)] }
def FnExactProofOkSaid : Prop := fnExactProofOkRow.holds Tryd.pinned (OpenSpec.ofChange fnExactProofOkSpec)

/-- ITS FALSE NEIGHBOUR: 'it returns false'. Refute it at one input. -/
def fnExactProofOkWrong : ChangeSpec := { name := "fnExactProofOk", vars := ["loop.example/g00284/impl.startWords", "loop.example/g00284/impl.roundWords"], fn := fun _ => fun
  | [d1, d2, d3, g1, g2] => { results := [.lit (.bool false)], args := [d1, d2, d3], vars := [g1, g2] }
  | _ => none }
def FnExactProofOkWrongFalsely : Prop := fnExactProofOkRow.holds Tryd.pinned (OpenSpec.ofChange fnExactProofOkWrong)

/- THE SECOND FORM. 'bulk': how many values and letters a reading holds, each counted each time it is reached (what is shared counts as often as it is met; a slice's spare places count too). A statement '..UptoSaid' is the law's where the arguments, and the package variables that the reading takes, are together of bulk at most 1048576: NARROWER than '..Said'. Prove '..Said' where nothing that the law and all that it calls make is longer than what came in: it says more and counts as full. Else prove '..UptoSaid'. A law counts once. -/
mutual
def uptoBulk {H : Type} : DataW H → Nat
  | .lit (.string bytes) => bytes.length + 1
  | .lit _ => 1
  | .nil => 1
  | .ptr d => uptoBulk d + 1
  | .slice elems spare => uptoBulkAll elems + uptoBulkAll spare + 1
  | .agg parts => uptoBulkAll parts + 1
  | .iface _ d => uptoBulk d + 1
  | .map entries => uptoBulkEntries entries + 1
  | .held _ => 1
def uptoBulkAll {H : Type} : List (DataW H) → Nat
  | [] => 0
  | d :: r => uptoBulk d + uptoBulkAll r
def uptoBulkEntries {H : Type} : List (Lit × DataW H) → Nat
  | [] => 0
  | x :: r => uptoBulkEntry x + uptoBulkEntries r
def uptoBulkEntry {H : Type} : Lit × DataW H → Nat
  | (.string bytes, d) => bytes.length + uptoBulk d + 1
  | (_, d) => uptoBulk d + 1
 end
def uptoSmall : (H : Type) → List (DataW H) → Bool := fun _ ds => decide (uptoBulkAll ds ≤ 1048576)
def OpenSpec.upto (s : _root_.Go.ChangeSpec) : _root_.Go.OpenSpec := { _root_.Go.OpenSpec.ofChange s with cond := some uptoSmall }

/-- 'laws.FnExactShardOf', WHERE WHAT IT READS IS OF BULK AT MOST 1048576: true; the input reads as it did. -/
def fnExactShardOfUptoRow : OpenClaim := { program := "ytbgkeoidhfgmcaadoor", sum := "c5f42c97eac76eae8606367b3e01872c9a91ed384e9bd2330d6e8d4811a50ed7", func := "loop.example/g00284/laws.FnExactShardOf", spec := "fnExactShardOf", unfollowed := true, recurses := true, named := ["loop.example/g00284/impl.startWords", "loop.example/g00284/impl.roundWords"], apart := false, laid := [("loop.example/g00284/impl.roundWords", laid_loop_example_g00284_impl_roundWords), ("loop.example/g00284/impl.startWords", laid_loop_example_g00284_impl_startWords)], narrowed := true }
def FnExactShardOfUptoSaid : Prop := fnExactShardOfUptoRow.holds Tryd.pinned (OpenSpec.upto fnExactShardOfSpec)

/-- 'laws.FnExactEmptyHash', WHERE WHAT IT READS IS OF BULK AT MOST 1048576: true; the input reads as it did. -/
def fnExactEmptyHashUptoRow : OpenClaim := { program := "ytbgkeoidhfgmcaadoor", sum := "c5f42c97eac76eae8606367b3e01872c9a91ed384e9bd2330d6e8d4811a50ed7", func := "loop.example/g00284/laws.FnExactEmptyHash", spec := "fnExactEmptyHash", unfollowed := true, recurses := true, named := ["loop.example/g00284/impl.startWords", "loop.example/g00284/impl.roundWords"], apart := false, laid := [("loop.example/g00284/impl.roundWords", laid_loop_example_g00284_impl_roundWords), ("loop.example/g00284/impl.startWords", laid_loop_example_g00284_impl_startWords)], narrowed := true }
def FnExactEmptyHashUptoSaid : Prop := fnExactEmptyHashUptoRow.holds Tryd.pinned (OpenSpec.upto fnExactEmptyHashSpec)

/-- 'laws.FnExactBucketOf', WHERE WHAT IT READS IS OF BULK AT MOST 1048576: true; the input reads as it did. -/
def fnExactBucketOfUptoRow : OpenClaim := { program := "ytbgkeoidhfgmcaadoor", sum := "c5f42c97eac76eae8606367b3e01872c9a91ed384e9bd2330d6e8d4811a50ed7", func := "loop.example/g00284/laws.FnExactBucketOf", spec := "fnExactBucketOf", unfollowed := true, recurses := true, named := ["loop.example/g00284/impl.startWords", "loop.example/g00284/impl.roundWords"], apart := false, laid := [("loop.example/g00284/impl.roundWords", laid_loop_example_g00284_impl_roundWords), ("loop.example/g00284/impl.startWords", laid_loop_example_g00284_impl_startWords)], narrowed := true }
def FnExactBucketOfUptoSaid : Prop := fnExactBucketOfUptoRow.holds Tryd.pinned (OpenSpec.upto fnExactBucketOfSpec)

/-- 'laws.FnExactShardLeaves', WHERE WHAT IT READS IS OF BULK AT MOST 1048576: true; the input reads as it did. -/
def fnExactShardLeavesUptoRow : OpenClaim := { program := "ytbgkeoidhfgmcaadoor", sum := "c5f42c97eac76eae8606367b3e01872c9a91ed384e9bd2330d6e8d4811a50ed7", func := "loop.example/g00284/laws.FnExactShardLeaves", spec := "fnExactShardLeaves", unfollowed := true, recurses := true, named := ["loop.example/g00284/impl.startWords", "loop.example/g00284/impl.roundWords"], apart := false, laid := [("loop.example/g00284/impl.roundWords", laid_loop_example_g00284_impl_roundWords), ("loop.example/g00284/impl.startWords", laid_loop_example_g00284_impl_startWords)], narrowed := true }
def FnExactShardLeavesUptoSaid : Prop := fnExactShardLeavesUptoRow.holds Tryd.pinned (OpenSpec.upto fnExactShardLeavesSpec)

/-- 'laws.FnExactHeadHash', WHERE WHAT IT READS IS OF BULK AT MOST 1048576: true; the input reads as it did. -/
def fnExactHeadHashUptoRow : OpenClaim := { program := "ytbgkeoidhfgmcaadoor", sum := "c5f42c97eac76eae8606367b3e01872c9a91ed384e9bd2330d6e8d4811a50ed7", func := "loop.example/g00284/laws.FnExactHeadHash", spec := "fnExactHeadHash", unfollowed := true, recurses := true, named := ["loop.example/g00284/impl.startWords", "loop.example/g00284/impl.roundWords"], apart := false, laid := [("loop.example/g00284/impl.roundWords", laid_loop_example_g00284_impl_roundWords), ("loop.example/g00284/impl.startWords", laid_loop_example_g00284_impl_startWords)], narrowed := true }
def FnExactHeadHashUptoSaid : Prop := fnExactHeadHashUptoRow.holds Tryd.pinned (OpenSpec.upto fnExactHeadHashSpec)

/-- 'laws.FnExactFoldUp', WHERE WHAT IT READS IS OF BULK AT MOST 1048576: true; the input reads as it did. -/
def fnExactFoldUpUptoRow : OpenClaim := { program := "ytbgkeoidhfgmcaadoor", sum := "c5f42c97eac76eae8606367b3e01872c9a91ed384e9bd2330d6e8d4811a50ed7", func := "loop.example/g00284/laws.FnExactFoldUp", spec := "fnExactFoldUp", unfollowed := true, recurses := true, named := ["loop.example/g00284/impl.startWords", "loop.example/g00284/impl.roundWords"], apart := false, laid := [("loop.example/g00284/impl.roundWords", laid_loop_example_g00284_impl_roundWords), ("loop.example/g00284/impl.startWords", laid_loop_example_g00284_impl_startWords)], narrowed := true }
def FnExactFoldUpUptoSaid : Prop := fnExactFoldUpUptoRow.holds Tryd.pinned (OpenSpec.upto fnExactFoldUpSpec)

/-- 'laws.FnExactCombineRoots', WHERE WHAT IT READS IS OF BULK AT MOST 1048576: true; the input reads as it did. -/
def fnExactCombineRootsUptoRow : OpenClaim := { program := "ytbgkeoidhfgmcaadoor", sum := "c5f42c97eac76eae8606367b3e01872c9a91ed384e9bd2330d6e8d4811a50ed7", func := "loop.example/g00284/laws.FnExactCombineRoots", spec := "fnExactCombineRoots", unfollowed := true, recurses := true, named := ["loop.example/g00284/impl.startWords", "loop.example/g00284/impl.roundWords"], apart := false, laid := [("loop.example/g00284/impl.roundWords", laid_loop_example_g00284_impl_roundWords), ("loop.example/g00284/impl.startWords", laid_loop_example_g00284_impl_startWords)], narrowed := true }
def FnExactCombineRootsUptoSaid : Prop := fnExactCombineRootsUptoRow.holds Tryd.pinned (OpenSpec.upto fnExactCombineRootsSpec)

/-- 'laws.FnExactCombineSides', WHERE WHAT IT READS IS OF BULK AT MOST 1048576: true; the input reads as it did. -/
def fnExactCombineSidesUptoRow : OpenClaim := { program := "ytbgkeoidhfgmcaadoor", sum := "c5f42c97eac76eae8606367b3e01872c9a91ed384e9bd2330d6e8d4811a50ed7", func := "loop.example/g00284/laws.FnExactCombineSides", spec := "fnExactCombineSides", unfollowed := true, recurses := true, named := ["loop.example/g00284/impl.startWords", "loop.example/g00284/impl.roundWords"], apart := false, laid := [("loop.example/g00284/impl.roundWords", laid_loop_example_g00284_impl_roundWords), ("loop.example/g00284/impl.startWords", laid_loop_example_g00284_impl_startWords)], narrowed := true }
def FnExactCombineSidesUptoSaid : Prop := fnExactCombineSidesUptoRow.holds Tryd.pinned (OpenSpec.upto fnExactCombineSidesSpec)

/-- 'laws.FnExactChainOk', WHERE WHAT IT READS IS OF BULK AT MOST 1048576: true; the input reads as it did. -/
def fnExactChainOkUptoRow : OpenClaim := { program := "ytbgkeoidhfgmcaadoor", sum := "c5f42c97eac76eae8606367b3e01872c9a91ed384e9bd2330d6e8d4811a50ed7", func := "loop.example/g00284/laws.FnExactChainOk", spec := "fnExactChainOk", unfollowed := true, recurses := true, named := ["loop.example/g00284/impl.startWords", "loop.example/g00284/impl.roundWords"], apart := false, laid := [("loop.example/g00284/impl.roundWords", laid_loop_example_g00284_impl_roundWords), ("loop.example/g00284/impl.startWords", laid_loop_example_g00284_impl_startWords)], narrowed := true }
def FnExactChainOkUptoSaid : Prop := fnExactChainOkUptoRow.holds Tryd.pinned (OpenSpec.upto fnExactChainOkSpec)

/-- 'laws.FnExactBucketHash', WHERE WHAT IT READS IS OF BULK AT MOST 1048576: true; the input reads as it did. -/
def fnExactBucketHashUptoRow : OpenClaim := { program := "ytbgkeoidhfgmcaadoor", sum := "c5f42c97eac76eae8606367b3e01872c9a91ed384e9bd2330d6e8d4811a50ed7", func := "loop.example/g00284/laws.FnExactBucketHash", spec := "fnExactBucketHash", unfollowed := true, recurses := true, named := ["loop.example/g00284/impl.startWords", "loop.example/g00284/impl.roundWords"], apart := false, laid := [("loop.example/g00284/impl.roundWords", laid_loop_example_g00284_impl_roundWords), ("loop.example/g00284/impl.startWords", laid_loop_example_g00284_impl_startWords)], narrowed := true }
def FnExactBucketHashUptoSaid : Prop := fnExactBucketHashUptoRow.holds Tryd.pinned (OpenSpec.upto fnExactBucketHashSpec)

/-- 'laws.FnExactProofOk', WHERE WHAT IT READS IS OF BULK AT MOST 1048576: true; the input reads as it did. -/
def fnExactProofOkUptoRow : OpenClaim := { program := "ytbgkeoidhfgmcaadoor", sum := "c5f42c97eac76eae8606367b3e01872c9a91ed384e9bd2330d6e8d4811a50ed7", func := "loop.example/g00284/laws.FnExactProofOk", spec := "fnExactProofOk", unfollowed := true, recurses := true, named := ["loop.example/g00284/impl.startWords", "loop.example/g00284/impl.roundWords"], apart := false, laid := [("loop.example/g00284/impl.roundWords", laid_loop_example_g00284_impl_roundWords), ("loop.example/g00284/impl.startWords", laid_loop_example_g00284_impl_startWords)], narrowed := true }
def FnExactProofOkUptoSaid : Prop := fnExactProofOkUptoRow.holds Tryd.pinned (OpenSpec.upto fnExactProofOkSpec)

end Rows
end Go.Proofs.YtbgkeoidhfgmcaaDoor
