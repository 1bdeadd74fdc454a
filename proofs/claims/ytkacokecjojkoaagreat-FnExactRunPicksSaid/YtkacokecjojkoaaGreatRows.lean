/-
  No cell of these rows narrows 'for every input' (looked for: loops, veiled, ifaces, maps, wideKeys, modest, calm, conditions, laid).
  DERIVED. THE GIVEN ROWS OF THIS SEAT. 12 by the template 'for every input the law returns true; each argument reads behind the call as it read before'; 0 by the template 'total and deterministic' (their statements: YtkacokecjojkoaaGreatTotals.lean).
  GIVEN WITH THE SEED: the statements are not yours to turn. If you find one false, say at which input.
  Laid BY PROGRAM, IN A SANDBOX (cutbox-rows.mjs): the forced cells as the released guide's own fill.sh prints them over the translation cfe71357aadcb5d1… (all of the seat's roots in one cut). By AI agents, Wed Nov 11 2026. No macro, syntax, notation, axiom, sorry.
-/
import Derived.Test.YtkacokecjojkoaaGreatChecked
import GoSem.Claim
import GoSem.ClaimJoined
import GoSem.ClaimMapViews
import Derived.JoinedTies
import Derived.KernelRfl
namespace Go.Proofs.YtkacokecjojkoaaGreat
/- THE CELL 'sum', in the pinned program and in every row, IS THE sha256 OF THE DUMP (.gsa) THAT YtkacokecjojkoaaGreatProg.lean LOADS. Nothing in Lean hashes anything: it is a label: what it is worth is what the hold of that sum in a sandbox is worth. -/
noncomputable def Tryz.pinned : Pinned := { name := "ytkacokecjojkoaagreat", sum := "cfe71357aadcb5d1029f3d542fb6233b28013377922d8a445031db44e466c881", checked := Tryz.checked }
namespace Rows
def none {H : Type} : Left H := { results := [], args := [] }

/-- 'laws.FnExactRunWarp': WHATEVER THE INPUT: true; the input reads as it did. -/
def fnExactRunWarpSpec : ChangeSpec := { name := "fnExactRunWarp", fn := fun _ => fun
  | [d1, d2, d3] => { results := [.lit (.bool true)], args := [d1, d2, d3] }
  | _ => none }
def fnExactRunWarpRow : OpenClaim := { program := "ytkacokecjojkoaagreat", sum := "cfe71357aadcb5d1029f3d542fb6233b28013377922d8a445031db44e466c881", func := "loop.example/g00985/laws.FnExactRunWarp", spec := "fnExactRunWarp", unfollowed := true, recurses := true, apart := false }
def FnExactRunWarpSaid : Prop := fnExactRunWarpRow.holds Tryz.pinned (OpenSpec.ofChange fnExactRunWarpSpec)

/-- ITS FALSE NEIGHBOUR: 'it returns false'. Refute it at one input. -/
def fnExactRunWarpWrong : ChangeSpec := { name := "fnExactRunWarp", fn := fun _ => fun
  | [d1, d2, d3] => { results := [.lit (.bool false)], args := [d1, d2, d3] }
  | _ => none }
def FnExactRunWarpWrongFalsely : Prop := fnExactRunWarpRow.holds Tryz.pinned (OpenSpec.ofChange fnExactRunWarpWrong)

/-- 'laws.FnExactWarpResult': WHATEVER THE INPUT: true; the input reads as it did. -/
def fnExactWarpResultSpec : ChangeSpec := { name := "fnExactWarpResult", fn := fun _ => fun
  | [d1, d2] => { results := [.lit (.bool true)], args := [d1, d2] }
  | _ => none }
def fnExactWarpResultRow : OpenClaim := { program := "ytkacokecjojkoaagreat", sum := "cfe71357aadcb5d1029f3d542fb6233b28013377922d8a445031db44e466c881", func := "loop.example/g00985/laws.FnExactWarpResult", spec := "fnExactWarpResult", unfollowed := true, recurses := true, apart := false }
def FnExactWarpResultSaid : Prop := fnExactWarpResultRow.holds Tryz.pinned (OpenSpec.ofChange fnExactWarpResultSpec)

/-- ITS FALSE NEIGHBOUR: 'it returns false'. Refute it at one input. -/
def fnExactWarpResultWrong : ChangeSpec := { name := "fnExactWarpResult", fn := fun _ => fun
  | [d1, d2] => { results := [.lit (.bool false)], args := [d1, d2] }
  | _ => none }
def FnExactWarpResultWrongFalsely : Prop := fnExactWarpResultRow.holds Tryz.pinned (OpenSpec.ofChange fnExactWarpResultWrong)

/-- 'laws.FnExactLongestStack': WHATEVER THE INPUT: true; the input reads as it did. -/
def fnExactLongestStackSpec : ChangeSpec := { name := "fnExactLongestStack", fn := fun _ => fun
  | [d1, d2] => { results := [.lit (.bool true)], args := [d1, d2] }
  | _ => none }
def fnExactLongestStackRow : OpenClaim := { program := "ytkacokecjojkoaagreat", sum := "cfe71357aadcb5d1029f3d542fb6233b28013377922d8a445031db44e466c881", func := "loop.example/g00985/laws.FnExactLongestStack", spec := "fnExactLongestStack", unfollowed := true, recurses := true, apart := false }
def FnExactLongestStackSaid : Prop := fnExactLongestStackRow.holds Tryz.pinned (OpenSpec.ofChange fnExactLongestStackSpec)

/-- ITS FALSE NEIGHBOUR: 'it returns false'. Refute it at one input. -/
def fnExactLongestStackWrong : ChangeSpec := { name := "fnExactLongestStack", fn := fun _ => fun
  | [d1, d2] => { results := [.lit (.bool false)], args := [d1, d2] }
  | _ => none }
def FnExactLongestStackWrongFalsely : Prop := fnExactLongestStackRow.holds Tryz.pinned (OpenSpec.ofChange fnExactLongestStackWrong)

/-- 'laws.FnExactCostOf': WHATEVER THE INPUT: true; the input reads as it did. -/
def fnExactCostOfSpec : ChangeSpec := { name := "fnExactCostOf", fn := fun _ => fun
  | [d1, d2] => { results := [.lit (.bool true)], args := [d1, d2] }
  | _ => none }
def fnExactCostOfRow : OpenClaim := { program := "ytkacokecjojkoaagreat", sum := "cfe71357aadcb5d1029f3d542fb6233b28013377922d8a445031db44e466c881", func := "loop.example/g00985/laws.FnExactCostOf", spec := "fnExactCostOf", unfollowed := true, recurses := true, apart := false }
def FnExactCostOfSaid : Prop := fnExactCostOfRow.holds Tryz.pinned (OpenSpec.ofChange fnExactCostOfSpec)

/-- ITS FALSE NEIGHBOUR: 'it returns false'. Refute it at one input. -/
def fnExactCostOfWrong : ChangeSpec := { name := "fnExactCostOf", fn := fun _ => fun
  | [d1, d2] => { results := [.lit (.bool false)], args := [d1, d2] }
  | _ => none }
def FnExactCostOfWrongFalsely : Prop := fnExactCostOfRow.holds Tryz.pinned (OpenSpec.ofChange fnExactCostOfWrong)

/-- 'laws.FnExactLanesAgree': WHATEVER THE INPUT: true; the input reads as it did. -/
def fnExactLanesAgreeSpec : ChangeSpec := { name := "fnExactLanesAgree", fn := fun _ => fun
  | [d1, d2] => { results := [.lit (.bool true)], args := [d1, d2] }
  | _ => none }
def fnExactLanesAgreeRow : OpenClaim := { program := "ytkacokecjojkoaagreat", sum := "cfe71357aadcb5d1029f3d542fb6233b28013377922d8a445031db44e466c881", func := "loop.example/g00985/laws.FnExactLanesAgree", spec := "fnExactLanesAgree", unfollowed := true, recurses := true, apart := false }
def FnExactLanesAgreeSaid : Prop := fnExactLanesAgreeRow.holds Tryz.pinned (OpenSpec.ofChange fnExactLanesAgreeSpec)

/-- ITS FALSE NEIGHBOUR: 'it returns false'. Refute it at one input. -/
def fnExactLanesAgreeWrong : ChangeSpec := { name := "fnExactLanesAgree", fn := fun _ => fun
  | [d1, d2] => { results := [.lit (.bool false)], args := [d1, d2] }
  | _ => none }
def FnExactLanesAgreeWrongFalsely : Prop := fnExactLanesAgreeRow.holds Tryz.pinned (OpenSpec.ofChange fnExactLanesAgreeWrong)

/-- 'laws.FnExactSavedSplits': WHATEVER THE INPUT: true; the input reads as it did. -/
def fnExactSavedSplitsSpec : ChangeSpec := { name := "fnExactSavedSplits", fn := fun _ => fun
  | [d1, d2] => { results := [.lit (.bool true)], args := [d1, d2] }
  | _ => none }
def fnExactSavedSplitsRow : OpenClaim := { program := "ytkacokecjojkoaagreat", sum := "cfe71357aadcb5d1029f3d542fb6233b28013377922d8a445031db44e466c881", func := "loop.example/g00985/laws.FnExactSavedSplits", spec := "fnExactSavedSplits", unfollowed := true, recurses := true, apart := false }
def FnExactSavedSplitsSaid : Prop := fnExactSavedSplitsRow.holds Tryz.pinned (OpenSpec.ofChange fnExactSavedSplitsSpec)

/-- ITS FALSE NEIGHBOUR: 'it returns false'. Refute it at one input. -/
def fnExactSavedSplitsWrong : ChangeSpec := { name := "fnExactSavedSplits", fn := fun _ => fun
  | [d1, d2] => { results := [.lit (.bool false)], args := [d1, d2] }
  | _ => none }
def FnExactSavedSplitsWrongFalsely : Prop := fnExactSavedSplitsRow.holds Tryz.pinned (OpenSpec.ofChange fnExactSavedSplitsWrong)

/-- 'laws.FnExactAccessesOf': WHATEVER THE INPUT: true; the input reads as it did. -/
def fnExactAccessesOfSpec : ChangeSpec := { name := "fnExactAccessesOf", fn := fun _ => fun
  | [d1, d2] => { results := [.lit (.bool true)], args := [d1, d2] }
  | _ => none }
def fnExactAccessesOfRow : OpenClaim := { program := "ytkacokecjojkoaagreat", sum := "cfe71357aadcb5d1029f3d542fb6233b28013377922d8a445031db44e466c881", func := "loop.example/g00985/laws.FnExactAccessesOf", spec := "fnExactAccessesOf", unfollowed := true, recurses := true, apart := false }
def FnExactAccessesOfSaid : Prop := fnExactAccessesOfRow.holds Tryz.pinned (OpenSpec.ofChange fnExactAccessesOfSpec)

/-- ITS FALSE NEIGHBOUR: 'it returns false'. Refute it at one input. -/
def fnExactAccessesOfWrong : ChangeSpec := { name := "fnExactAccessesOf", fn := fun _ => fun
  | [d1, d2] => { results := [.lit (.bool false)], args := [d1, d2] }
  | _ => none }
def FnExactAccessesOfWrongFalsely : Prop := fnExactAccessesOfRow.holds Tryz.pinned (OpenSpec.ofChange fnExactAccessesOfWrong)

/-- 'laws.FnExactBlockStep': WHATEVER THE INPUT: true; the input reads as it did. -/
def fnExactBlockStepSpec : ChangeSpec := { name := "fnExactBlockStep", fn := fun _ => fun
  | [d1, d2] => { results := [.lit (.bool true)], args := [d1, d2] }
  | _ => none }
def fnExactBlockStepRow : OpenClaim := { program := "ytkacokecjojkoaagreat", sum := "cfe71357aadcb5d1029f3d542fb6233b28013377922d8a445031db44e466c881", func := "loop.example/g00985/laws.FnExactBlockStep", spec := "fnExactBlockStep", unfollowed := true, recurses := true, apart := false }
def FnExactBlockStepSaid : Prop := fnExactBlockStepRow.holds Tryz.pinned (OpenSpec.ofChange fnExactBlockStepSpec)

/-- ITS FALSE NEIGHBOUR: 'it returns false'. Refute it at one input. -/
def fnExactBlockStepWrong : ChangeSpec := { name := "fnExactBlockStep", fn := fun _ => fun
  | [d1, d2] => { results := [.lit (.bool false)], args := [d1, d2] }
  | _ => none }
def FnExactBlockStepWrongFalsely : Prop := fnExactBlockStepRow.holds Tryz.pinned (OpenSpec.ofChange fnExactBlockStepWrong)

/-- 'laws.FnExactFinishBlock': WHATEVER THE INPUT: true; the input reads as it did. -/
def fnExactFinishBlockSpec : ChangeSpec := { name := "fnExactFinishBlock", fn := fun _ => fun
  | [d1, d2] => { results := [.lit (.bool true)], args := [d1, d2] }
  | _ => none }
def fnExactFinishBlockRow : OpenClaim := { program := "ytkacokecjojkoaagreat", sum := "cfe71357aadcb5d1029f3d542fb6233b28013377922d8a445031db44e466c881", func := "loop.example/g00985/laws.FnExactFinishBlock", spec := "fnExactFinishBlock", unfollowed := true, recurses := true, apart := false }
def FnExactFinishBlockSaid : Prop := fnExactFinishBlockRow.holds Tryz.pinned (OpenSpec.ofChange fnExactFinishBlockSpec)

/-- ITS FALSE NEIGHBOUR: 'it returns false'. Refute it at one input. -/
def fnExactFinishBlockWrong : ChangeSpec := { name := "fnExactFinishBlock", fn := fun _ => fun
  | [d1, d2] => { results := [.lit (.bool false)], args := [d1, d2] }
  | _ => none }
def FnExactFinishBlockWrongFalsely : Prop := fnExactFinishBlockRow.holds Tryz.pinned (OpenSpec.ofChange fnExactFinishBlockWrong)

/-- 'laws.FnExactRunPicks': WHATEVER THE INPUT: true; the input reads as it did. -/
def fnExactRunPicksSpec : ChangeSpec := { name := "fnExactRunPicks", fn := fun _ => fun
  | [d1, d2] => { results := [.lit (.bool true)], args := [d1, d2] }
  | _ => none }
def fnExactRunPicksRow : OpenClaim := { program := "ytkacokecjojkoaagreat", sum := "cfe71357aadcb5d1029f3d542fb6233b28013377922d8a445031db44e466c881", func := "loop.example/g00985/laws.FnExactRunPicks", spec := "fnExactRunPicks", unfollowed := true, recurses := true, apart := false }
def FnExactRunPicksSaid : Prop := fnExactRunPicksRow.holds Tryz.pinned (OpenSpec.ofChange fnExactRunPicksSpec)

/-- ITS FALSE NEIGHBOUR: 'it returns false'. Refute it at one input. -/
def fnExactRunPicksWrong : ChangeSpec := { name := "fnExactRunPicks", fn := fun _ => fun
  | [d1, d2] => { results := [.lit (.bool false)], args := [d1, d2] }
  | _ => none }
def FnExactRunPicksWrongFalsely : Prop := fnExactRunPicksRow.holds Tryz.pinned (OpenSpec.ofChange fnExactRunPicksWrong)

/-- 'laws.FnExactEndMemory': WHATEVER THE INPUT: true; the input reads as it did. -/
def fnExactEndMemorySpec : ChangeSpec := { name := "fnExactEndMemory", fn := fun _ => fun
  | [d1, d2, d3] => { results := [.lit (.bool true)], args := [d1, d2, d3] }
  | _ => none }
def fnExactEndMemoryRow : OpenClaim := { program := "ytkacokecjojkoaagreat", sum := "cfe71357aadcb5d1029f3d542fb6233b28013377922d8a445031db44e466c881", func := "loop.example/g00985/laws.FnExactEndMemory", spec := "fnExactEndMemory", unfollowed := true, recurses := true, apart := false }
def FnExactEndMemorySaid : Prop := fnExactEndMemoryRow.holds Tryz.pinned (OpenSpec.ofChange fnExactEndMemorySpec)

/-- ITS FALSE NEIGHBOUR: 'it returns false'. Refute it at one input. -/
def fnExactEndMemoryWrong : ChangeSpec := { name := "fnExactEndMemory", fn := fun _ => fun
  | [d1, d2, d3] => { results := [.lit (.bool false)], args := [d1, d2, d3] }
  | _ => none }
def FnExactEndMemoryWrongFalsely : Prop := fnExactEndMemoryRow.holds Tryz.pinned (OpenSpec.ofChange fnExactEndMemoryWrong)

/-- 'laws.FnWarpParts': WHATEVER THE INPUT: true; the input reads as it did. -/
def fnWarpPartsSpec : ChangeSpec := { name := "fnWarpParts", fn := fun _ => fun
  | [d] => { results := [.lit (.bool true)], args := [d] }
  | _ => none }
def fnWarpPartsRow : OpenClaim := { program := "ytkacokecjojkoaagreat", sum := "cfe71357aadcb5d1029f3d542fb6233b28013377922d8a445031db44e466c881", func := "loop.example/g00985/laws.FnWarpParts", spec := "fnWarpParts", unfollowed := true, recurses := true, apart := false }
def FnWarpPartsSaid : Prop := fnWarpPartsRow.holds Tryz.pinned (OpenSpec.ofChange fnWarpPartsSpec)

/-- ITS FALSE NEIGHBOUR: 'it returns false'. Refute it at one input. -/
def fnWarpPartsWrong : ChangeSpec := { name := "fnWarpParts", fn := fun _ => fun
  | [d] => { results := [.lit (.bool false)], args := [d] }
  | _ => none }
def FnWarpPartsWrongFalsely : Prop := fnWarpPartsRow.holds Tryz.pinned (OpenSpec.ofChange fnWarpPartsWrong)

/- THE SECOND FORM. 'bulk': how many values and letters a reading holds, each counted each time it is reached (what is shared counts as often as it is met; a slice's spare places count too). A statement '..UptoSaid' is the law's where the arguments, and the package variables that the reading takes, are together of bulk at most 1048576: NARROWER than '..Said'. Prove '..Said' where nothing that the law and all that it calls make is longer than what came in: it says more and counts as full. Else prove '..UptoSaid'. A law counts once. -/
mutual
def uptoBulk {H : Type} : DataW H → Nat
  | .lit (.string bytes) => bytes.length + 1
  | .lit _ => 1
  | .nil => 1
  | .ptr d => uptoBulk d + 1
  | .slice elems spare => uptoBulkAll elems + uptoBulkAll spare + 1
  | .agg parts => uptoBulkAll parts + 1
  | .iface _ d => uptoBulk d + 1
  | .map entries => uptoBulkEntries entries + 1
  | .held _ => 1
def uptoBulkAll {H : Type} : List (DataW H) → Nat
  | [] => 0
  | d :: r => uptoBulk d + uptoBulkAll r
def uptoBulkEntries {H : Type} : List (Lit × DataW H) → Nat
  | [] => 0
  | x :: r => uptoBulkEntry x + uptoBulkEntries r
def uptoBulkEntry {H : Type} : Lit × DataW H → Nat
  | (.string bytes, d) => bytes.length + uptoBulk d + 1
  | (_, d) => uptoBulk d + 1
 end
def uptoSmall : (H : Type) → List (DataW H) → Bool := fun _ ds => decide (uptoBulkAll ds ≤ 1048576)
def OpenSpec.upto (s : _root_.Go.ChangeSpec) : _root_.Go.OpenSpec := { _root_.Go.OpenSpec.ofChange s with cond := some uptoSmall }

/-- 'laws.FnExactRunWarp', WHERE WHAT IT READS IS OF BULK AT MOST 1048576: true; the input reads as it did. -/
def fnExactRunWarpUptoRow : OpenClaim := { program := "ytkacokecjojkoaagreat", sum := "cfe71357aadcb5d1029f3d542fb6233b28013377922d8a445031db44e466c881", func := "loop.example/g00985/laws.FnExactRunWarp", spec := "fnExactRunWarp", unfollowed := true, recurses := true, apart := false, narrowed := true }
def FnExactRunWarpUptoSaid : Prop := fnExactRunWarpUptoRow.holds Tryz.pinned (OpenSpec.upto fnExactRunWarpSpec)

/-- 'laws.FnExactWarpResult', WHERE WHAT IT READS IS OF BULK AT MOST 1048576: true; the input reads as it did. -/
def fnExactWarpResultUptoRow : OpenClaim := { program := "ytkacokecjojkoaagreat", sum := "cfe71357aadcb5d1029f3d542fb6233b28013377922d8a445031db44e466c881", func := "loop.example/g00985/laws.FnExactWarpResult", spec := "fnExactWarpResult", unfollowed := true, recurses := true, apart := false, narrowed := true }
def FnExactWarpResultUptoSaid : Prop := fnExactWarpResultUptoRow.holds Tryz.pinned (OpenSpec.upto fnExactWarpResultSpec)

/-- 'laws.FnExactLongestStack', WHERE WHAT IT READS IS OF BULK AT MOST 1048576: true; the input reads as it did. -/
def fnExactLongestStackUptoRow : OpenClaim := { program := "ytkacokecjojkoaagreat", sum := "cfe71357aadcb5d1029f3d542fb6233b28013377922d8a445031db44e466c881", func := "loop.example/g00985/laws.FnExactLongestStack", spec := "fnExactLongestStack", unfollowed := true, recurses := true, apart := false, narrowed := true }
def FnExactLongestStackUptoSaid : Prop := fnExactLongestStackUptoRow.holds Tryz.pinned (OpenSpec.upto fnExactLongestStackSpec)

/-- 'laws.FnExactCostOf', WHERE WHAT IT READS IS OF BULK AT MOST 1048576: true; the input reads as it did. -/
def fnExactCostOfUptoRow : OpenClaim := { program := "ytkacokecjojkoaagreat", sum := "cfe71357aadcb5d1029f3d542fb6233b28013377922d8a445031db44e466c881", func := "loop.example/g00985/laws.FnExactCostOf", spec := "fnExactCostOf", unfollowed := true, recurses := true, apart := false, narrowed := true }
def FnExactCostOfUptoSaid : Prop := fnExactCostOfUptoRow.holds Tryz.pinned (OpenSpec.upto fnExactCostOfSpec)

/-- 'laws.FnExactLanesAgree', WHERE WHAT IT READS IS OF BULK AT MOST 1048576: true; the input reads as it did. -/
def fnExactLanesAgreeUptoRow : OpenClaim := { program := "ytkacokecjojkoaagreat", sum := "cfe71357aadcb5d1029f3d542fb6233b28013377922d8a445031db44e466c881", func := "loop.example/g00985/laws.FnExactLanesAgree", spec := "fnExactLanesAgree", unfollowed := true, recurses := true, apart := false, narrowed := true }
def FnExactLanesAgreeUptoSaid : Prop := fnExactLanesAgreeUptoRow.holds Tryz.pinned (OpenSpec.upto fnExactLanesAgreeSpec)

/-- 'laws.FnExactSavedSplits', WHERE WHAT IT READS IS OF BULK AT MOST 1048576: true; the input reads as it did. -/
def fnExactSavedSplitsUptoRow : OpenClaim := { program := "ytkacokecjojkoaagreat", sum := "cfe71357aadcb5d1029f3d542fb6233b28013377922d8a445031db44e466c881", func := "loop.example/g00985/laws.FnExactSavedSplits", spec := "fnExactSavedSplits", unfollowed := true, recurses := true, apart := false, narrowed := true }
def FnExactSavedSplitsUptoSaid : Prop := fnExactSavedSplitsUptoRow.holds Tryz.pinned (OpenSpec.upto fnExactSavedSplitsSpec)

/-- 'laws.FnExactAccessesOf', WHERE WHAT IT READS IS OF BULK AT MOST 1048576: true; the input reads as it did. -/
def fnExactAccessesOfUptoRow : OpenClaim := { program := "ytkacokecjojkoaagreat", sum := "cfe71357aadcb5d1029f3d542fb6233b28013377922d8a445031db44e466c881", func := "loop.example/g00985/laws.FnExactAccessesOf", spec := "fnExactAccessesOf", unfollowed := true, recurses := true, apart := false, narrowed := true }
def FnExactAccessesOfUptoSaid : Prop := fnExactAccessesOfUptoRow.holds Tryz.pinned (OpenSpec.upto fnExactAccessesOfSpec)

/-- 'laws.FnExactBlockStep', WHERE WHAT IT READS IS OF BULK AT MOST 1048576: true; the input reads as it did. -/
def fnExactBlockStepUptoRow : OpenClaim := { program := "ytkacokecjojkoaagreat", sum := "cfe71357aadcb5d1029f3d542fb6233b28013377922d8a445031db44e466c881", func := "loop.example/g00985/laws.FnExactBlockStep", spec := "fnExactBlockStep", unfollowed := true, recurses := true, apart := false, narrowed := true }
def FnExactBlockStepUptoSaid : Prop := fnExactBlockStepUptoRow.holds Tryz.pinned (OpenSpec.upto fnExactBlockStepSpec)

/-- 'laws.FnExactFinishBlock', WHERE WHAT IT READS IS OF BULK AT MOST 1048576: true; the input reads as it did. -/
def fnExactFinishBlockUptoRow : OpenClaim := { program := "ytkacokecjojkoaagreat", sum := "cfe71357aadcb5d1029f3d542fb6233b28013377922d8a445031db44e466c881", func := "loop.example/g00985/laws.FnExactFinishBlock", spec := "fnExactFinishBlock", unfollowed := true, recurses := true, apart := false, narrowed := true }
def FnExactFinishBlockUptoSaid : Prop := fnExactFinishBlockUptoRow.holds Tryz.pinned (OpenSpec.upto fnExactFinishBlockSpec)

/-- 'laws.FnExactRunPicks', WHERE WHAT IT READS IS OF BULK AT MOST 1048576: true; the input reads as it did. -/
def fnExactRunPicksUptoRow : OpenClaim := { program := "ytkacokecjojkoaagreat", sum := "cfe71357aadcb5d1029f3d542fb6233b28013377922d8a445031db44e466c881", func := "loop.example/g00985/laws.FnExactRunPicks", spec := "fnExactRunPicks", unfollowed := true, recurses := true, apart := false, narrowed := true }
def FnExactRunPicksUptoSaid : Prop := fnExactRunPicksUptoRow.holds Tryz.pinned (OpenSpec.upto fnExactRunPicksSpec)

/-- 'laws.FnExactEndMemory', WHERE WHAT IT READS IS OF BULK AT MOST 1048576: true; the input reads as it did. -/
def fnExactEndMemoryUptoRow : OpenClaim := { program := "ytkacokecjojkoaagreat", sum := "cfe71357aadcb5d1029f3d542fb6233b28013377922d8a445031db44e466c881", func := "loop.example/g00985/laws.FnExactEndMemory", spec := "fnExactEndMemory", unfollowed := true, recurses := true, apart := false, narrowed := true }
def FnExactEndMemoryUptoSaid : Prop := fnExactEndMemoryUptoRow.holds Tryz.pinned (OpenSpec.upto fnExactEndMemorySpec)

/-- 'laws.FnWarpParts', WHERE WHAT IT READS IS OF BULK AT MOST 1048576: true; the input reads as it did. -/
def fnWarpPartsUptoRow : OpenClaim := { program := "ytkacokecjojkoaagreat", sum := "cfe71357aadcb5d1029f3d542fb6233b28013377922d8a445031db44e466c881", func := "loop.example/g00985/laws.FnWarpParts", spec := "fnWarpParts", unfollowed := true, recurses := true, apart := false, narrowed := true }
def FnWarpPartsUptoSaid : Prop := fnWarpPartsUptoRow.holds Tryz.pinned (OpenSpec.upto fnWarpPartsSpec)

end Rows
end Go.Proofs.YtkacokecjojkoaaGreat
