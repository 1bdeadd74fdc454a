/-
  No cell of these rows narrows 'for every input' (looked for: loops, veiled, ifaces, maps, wideKeys, modest, calm, conditions, laid).
  DERIVED. THE GIVEN ROWS OF THIS SEAT. 10 by the template 'for every input the law returns true; each argument reads behind the call as it read before'; 0 by the template 'total and deterministic' (their statements: YtnafhlbbbgpmgabTotals.lean).
  GIVEN WITH THE SEED: the statements are not yours to turn. If you find one false, say at which input.
  Laid BY PROGRAM, IN A SANDBOX (cutbox-rows.mjs): the forced cells as the released guide's own fill.sh prints them over the translation 442ad8e7dd505bb5… (all of the seat's roots in one cut). By AI agents, Wed Nov 11 2026. No macro, syntax, notation, axiom, sorry.
-/
import Derived.Test.YtnafhlbbbgpmgabChecked
import GoSem.Claim
import GoSem.ClaimJoined
import GoSem.ClaimMapViews
import Derived.JoinedTies
import Derived.KernelRfl
namespace Go.Proofs.Ytnafhlbbbgpmgab
/- THE CELL 'sum', in the pinned program and in every row, IS THE sha256 OF THE DUMP (.gsa) THAT YtnafhlbbbgpmgabProg.lean LOADS. Nothing in Lean hashes anything: it is a label: what it is worth is what the hold of that sum in a sandbox is worth. -/
noncomputable def Try.pinned : Pinned := { name := "ytnafhlbbbgpmgab", sum := "442ad8e7dd505bb5e136169a51ddd5f040d5724d54f0ee33336796c30d8c9108", checked := Try.checked }
namespace Rows
def none {H : Type} : Left H := { results := [], args := [] }

/-- 'laws.FnExactBlockNew': WHATEVER THE INPUT: true; the input reads as it did. -/
def fnExactBlockNewSpec : ChangeSpec := { name := "fnExactBlockNew", fn := fun _ => fun
  | [d1, d2] => { results := [.lit (.bool true)], args := [d1, d2] }
  | _ => none }
def fnExactBlockNewRow : OpenClaim := { program := "ytnafhlbbbgpmgab", sum := "442ad8e7dd505bb5e136169a51ddd5f040d5724d54f0ee33336796c30d8c9108", func := "loop.example/g00985/laws.FnExactBlockNew", spec := "fnExactBlockNew", unfollowed := true, recurses := true, apart := false }
def FnExactBlockNewSaid : Prop := fnExactBlockNewRow.holds Try.pinned (OpenSpec.ofChange fnExactBlockNewSpec)

/-- ITS FALSE NEIGHBOUR: 'it returns false'. Refute it at one input. -/
def fnExactBlockNewWrong : ChangeSpec := { name := "fnExactBlockNew", fn := fun _ => fun
  | [d1, d2] => { results := [.lit (.bool false)], args := [d1, d2] }
  | _ => none }
def FnExactBlockNewWrongFalsely : Prop := fnExactBlockNewRow.holds Try.pinned (OpenSpec.ofChange fnExactBlockNewWrong)

/-- 'laws.FnExactBlockEnded': WHATEVER THE INPUT: true; the input reads as it did. -/
def fnExactBlockEndedSpec : ChangeSpec := { name := "fnExactBlockEnded", fn := fun _ => fun
  | [d] => { results := [.lit (.bool true)], args := [d] }
  | _ => none }
def fnExactBlockEndedRow : OpenClaim := { program := "ytnafhlbbbgpmgab", sum := "442ad8e7dd505bb5e136169a51ddd5f040d5724d54f0ee33336796c30d8c9108", func := "loop.example/g00985/laws.FnExactBlockEnded", spec := "fnExactBlockEnded", unfollowed := true, recurses := true, apart := false }
def FnExactBlockEndedSaid : Prop := fnExactBlockEndedRow.holds Try.pinned (OpenSpec.ofChange fnExactBlockEndedSpec)

/-- ITS FALSE NEIGHBOUR: 'it returns false'. Refute it at one input. -/
def fnExactBlockEndedWrong : ChangeSpec := { name := "fnExactBlockEnded", fn := fun _ => fun
  | [d] => { results := [.lit (.bool false)], args := [d] }
  | _ => none }
def FnExactBlockEndedWrongFalsely : Prop := fnExactBlockEndedRow.holds Try.pinned (OpenSpec.ofChange fnExactBlockEndedWrong)

/-- 'laws.FnExactNextOp': WHATEVER THE INPUT: true; the input reads as it did. -/
def fnExactNextOpSpec : ChangeSpec := { name := "fnExactNextOp", fn := fun _ => fun
  | [d1, d2] => { results := [.lit (.bool true)], args := [d1, d2] }
  | _ => none }
def fnExactNextOpRow : OpenClaim := { program := "ytnafhlbbbgpmgab", sum := "442ad8e7dd505bb5e136169a51ddd5f040d5724d54f0ee33336796c30d8c9108", func := "loop.example/g00985/laws.FnExactNextOp", spec := "fnExactNextOp", unfollowed := true, recurses := true, apart := false }
def FnExactNextOpSaid : Prop := fnExactNextOpRow.holds Try.pinned (OpenSpec.ofChange fnExactNextOpSpec)

/-- ITS FALSE NEIGHBOUR: 'it returns false'. Refute it at one input. -/
def fnExactNextOpWrong : ChangeSpec := { name := "fnExactNextOp", fn := fun _ => fun
  | [d1, d2] => { results := [.lit (.bool false)], args := [d1, d2] }
  | _ => none }
def FnExactNextOpWrongFalsely : Prop := fnExactNextOpRow.holds Try.pinned (OpenSpec.ofChange fnExactNextOpWrong)

/-- 'laws.FnExactAtBarrier': WHATEVER THE INPUT: true; the input reads as it did. -/
def fnExactAtBarrierSpec : ChangeSpec := { name := "fnExactAtBarrier", fn := fun _ => fun
  | [d1, d2] => { results := [.lit (.bool true)], args := [d1, d2] }
  | _ => none }
def fnExactAtBarrierRow : OpenClaim := { program := "ytnafhlbbbgpmgab", sum := "442ad8e7dd505bb5e136169a51ddd5f040d5724d54f0ee33336796c30d8c9108", func := "loop.example/g00985/laws.FnExactAtBarrier", spec := "fnExactAtBarrier", unfollowed := true, recurses := true, apart := false }
def FnExactAtBarrierSaid : Prop := fnExactAtBarrierRow.holds Try.pinned (OpenSpec.ofChange fnExactAtBarrierSpec)

/-- ITS FALSE NEIGHBOUR: 'it returns false'. Refute it at one input. -/
def fnExactAtBarrierWrong : ChangeSpec := { name := "fnExactAtBarrier", fn := fun _ => fun
  | [d1, d2] => { results := [.lit (.bool false)], args := [d1, d2] }
  | _ => none }
def FnExactAtBarrierWrongFalsely : Prop := fnExactAtBarrierRow.holds Try.pinned (OpenSpec.ofChange fnExactAtBarrierWrong)

/-- 'laws.FnExactIsSplitBarrier': WHATEVER THE INPUT: true; the input reads as it did. -/
def fnExactIsSplitBarrierSpec : ChangeSpec := { name := "fnExactIsSplitBarrier", fn := fun _ => fun
  | [d1, d2] => { results := [.lit (.bool true)], args := [d1, d2] }
  | _ => none }
def fnExactIsSplitBarrierRow : OpenClaim := { program := "ytnafhlbbbgpmgab", sum := "442ad8e7dd505bb5e136169a51ddd5f040d5724d54f0ee33336796c30d8c9108", func := "loop.example/g00985/laws.FnExactIsSplitBarrier", spec := "fnExactIsSplitBarrier", unfollowed := true, recurses := true, apart := false }
def FnExactIsSplitBarrierSaid : Prop := fnExactIsSplitBarrierRow.holds Try.pinned (OpenSpec.ofChange fnExactIsSplitBarrierSpec)

/-- ITS FALSE NEIGHBOUR: 'it returns false'. Refute it at one input. -/
def fnExactIsSplitBarrierWrong : ChangeSpec := { name := "fnExactIsSplitBarrier", fn := fun _ => fun
  | [d1, d2] => { results := [.lit (.bool false)], args := [d1, d2] }
  | _ => none }
def FnExactIsSplitBarrierWrongFalsely : Prop := fnExactIsSplitBarrierRow.holds Try.pinned (OpenSpec.ofChange fnExactIsSplitBarrierWrong)

/-- 'laws.FnExactRunLane': WHATEVER THE INPUT: true; the input reads as it did. -/
def fnExactRunLaneSpec : ChangeSpec := { name := "fnExactRunLane", fn := fun _ => fun
  | [d1, d2, d3] => { results := [.lit (.bool true)], args := [d1, d2, d3] }
  | _ => none }
def fnExactRunLaneRow : OpenClaim := { program := "ytnafhlbbbgpmgab", sum := "442ad8e7dd505bb5e136169a51ddd5f040d5724d54f0ee33336796c30d8c9108", func := "loop.example/g00985/laws.FnExactRunLane", spec := "fnExactRunLane", unfollowed := true, recurses := true, apart := false }
def FnExactRunLaneSaid : Prop := fnExactRunLaneRow.holds Try.pinned (OpenSpec.ofChange fnExactRunLaneSpec)

/-- ITS FALSE NEIGHBOUR: 'it returns false'. Refute it at one input. -/
def fnExactRunLaneWrong : ChangeSpec := { name := "fnExactRunLane", fn := fun _ => fun
  | [d1, d2, d3] => { results := [.lit (.bool false)], args := [d1, d2, d3] }
  | _ => none }
def FnExactRunLaneWrongFalsely : Prop := fnExactRunLaneRow.holds Try.pinned (OpenSpec.ofChange fnExactRunLaneWrong)

/-- 'laws.FnExactSumAlone': WHATEVER THE INPUT: true; the input reads as it did. -/
def fnExactSumAloneSpec : ChangeSpec := { name := "fnExactSumAlone", fn := fun _ => fun
  | [d1, d2] => { results := [.lit (.bool true)], args := [d1, d2] }
  | _ => none }
def fnExactSumAloneRow : OpenClaim := { program := "ytnafhlbbbgpmgab", sum := "442ad8e7dd505bb5e136169a51ddd5f040d5724d54f0ee33336796c30d8c9108", func := "loop.example/g00985/laws.FnExactSumAlone", spec := "fnExactSumAlone", unfollowed := true, recurses := true, apart := false }
def FnExactSumAloneSaid : Prop := fnExactSumAloneRow.holds Try.pinned (OpenSpec.ofChange fnExactSumAloneSpec)

/-- ITS FALSE NEIGHBOUR: 'it returns false'. Refute it at one input. -/
def fnExactSumAloneWrong : ChangeSpec := { name := "fnExactSumAlone", fn := fun _ => fun
  | [d1, d2] => { results := [.lit (.bool false)], args := [d1, d2] }
  | _ => none }
def FnExactSumAloneWrongFalsely : Prop := fnExactSumAloneRow.holds Try.pinned (OpenSpec.ofChange fnExactSumAloneWrong)

/-- 'laws.FnExactDifferingLanes': WHATEVER THE INPUT: true; the input reads as it did. -/
def fnExactDifferingLanesSpec : ChangeSpec := { name := "fnExactDifferingLanes", fn := fun _ => fun
  | [d1, d2, d3] => { results := [.lit (.bool true)], args := [d1, d2, d3] }
  | _ => none }
def fnExactDifferingLanesRow : OpenClaim := { program := "ytnafhlbbbgpmgab", sum := "442ad8e7dd505bb5e136169a51ddd5f040d5724d54f0ee33336796c30d8c9108", func := "loop.example/g00985/laws.FnExactDifferingLanes", spec := "fnExactDifferingLanes", unfollowed := true, recurses := true, apart := false }
def FnExactDifferingLanesSaid : Prop := fnExactDifferingLanesRow.holds Try.pinned (OpenSpec.ofChange fnExactDifferingLanesSpec)

/-- ITS FALSE NEIGHBOUR: 'it returns false'. Refute it at one input. -/
def fnExactDifferingLanesWrong : ChangeSpec := { name := "fnExactDifferingLanes", fn := fun _ => fun
  | [d1, d2, d3] => { results := [.lit (.bool false)], args := [d1, d2, d3] }
  | _ => none }
def FnExactDifferingLanesWrongFalsely : Prop := fnExactDifferingLanesRow.holds Try.pinned (OpenSpec.ofChange fnExactDifferingLanesWrong)

/-- 'laws.FnExactRunAlone': WHATEVER THE INPUT: true; the input reads as it did. -/
def fnExactRunAloneSpec : ChangeSpec := { name := "fnExactRunAlone", fn := fun _ => fun
  | [d1, d2] => { results := [.lit (.bool true)], args := [d1, d2] }
  | _ => none }
def fnExactRunAloneRow : OpenClaim := { program := "ytnafhlbbbgpmgab", sum := "442ad8e7dd505bb5e136169a51ddd5f040d5724d54f0ee33336796c30d8c9108", func := "loop.example/g00985/laws.FnExactRunAlone", spec := "fnExactRunAlone", unfollowed := true, recurses := true, apart := false }
def FnExactRunAloneSaid : Prop := fnExactRunAloneRow.holds Try.pinned (OpenSpec.ofChange fnExactRunAloneSpec)

/-- ITS FALSE NEIGHBOUR: 'it returns false'. Refute it at one input. -/
def fnExactRunAloneWrong : ChangeSpec := { name := "fnExactRunAlone", fn := fun _ => fun
  | [d1, d2] => { results := [.lit (.bool false)], args := [d1, d2] }
  | _ => none }
def FnExactRunAloneWrongFalsely : Prop := fnExactRunAloneRow.holds Try.pinned (OpenSpec.ofChange fnExactRunAloneWrong)

/-- 'laws.FnExactMostAlone': WHATEVER THE INPUT: true; the input reads as it did. -/
def fnExactMostAloneSpec : ChangeSpec := { name := "fnExactMostAlone", fn := fun _ => fun
  | [d1, d2] => { results := [.lit (.bool true)], args := [d1, d2] }
  | _ => none }
def fnExactMostAloneRow : OpenClaim := { program := "ytnafhlbbbgpmgab", sum := "442ad8e7dd505bb5e136169a51ddd5f040d5724d54f0ee33336796c30d8c9108", func := "loop.example/g00985/laws.FnExactMostAlone", spec := "fnExactMostAlone", unfollowed := true, recurses := true, apart := false }
def FnExactMostAloneSaid : Prop := fnExactMostAloneRow.holds Try.pinned (OpenSpec.ofChange fnExactMostAloneSpec)

/-- ITS FALSE NEIGHBOUR: 'it returns false'. Refute it at one input. -/
def fnExactMostAloneWrong : ChangeSpec := { name := "fnExactMostAlone", fn := fun _ => fun
  | [d1, d2] => { results := [.lit (.bool false)], args := [d1, d2] }
  | _ => none }
def FnExactMostAloneWrongFalsely : Prop := fnExactMostAloneRow.holds Try.pinned (OpenSpec.ofChange fnExactMostAloneWrong)

/- THE SECOND FORM. 'bulk': how many values and letters a reading holds, each counted each time it is reached (what is shared counts as often as it is met; a slice's spare places count too). A statement '..UptoSaid' is the law's where the arguments, and the package variables that the reading takes, are together of bulk at most 1048576: NARROWER than '..Said'. Prove '..Said' where nothing that the law and all that it calls make is longer than what came in: it says more and counts as full. Else prove '..UptoSaid'. A law counts once. -/
mutual
def uptoBulk {H : Type} : DataW H → Nat
  | .lit (.string bytes) => bytes.length + 1
  | .lit _ => 1
  | .nil => 1
  | .ptr d => uptoBulk d + 1
  | .slice elems spare => uptoBulkAll elems + uptoBulkAll spare + 1
  | .agg parts => uptoBulkAll parts + 1
  | .iface _ d => uptoBulk d + 1
  | .map entries => uptoBulkEntries entries + 1
  | .held _ => 1
def uptoBulkAll {H : Type} : List (DataW H) → Nat
  | [] => 0
  | d :: r => uptoBulk d + uptoBulkAll r
def uptoBulkEntries {H : Type} : List (Lit × DataW H) → Nat
  | [] => 0
  | x :: r => uptoBulkEntry x + uptoBulkEntries r
def uptoBulkEntry {H : Type} : Lit × DataW H → Nat
  | (.string bytes, d) => bytes.length + uptoBulk d + 1
  | (_, d) => uptoBulk d + 1
 end
def uptoSmall : (H : Type) → List (DataW H) → Bool := fun _ ds => decide (uptoBulkAll ds ≤ 1048576)
def OpenSpec.upto (s : _root_.Go.ChangeSpec) : _root_.Go.OpenSpec := { _root_.Go.OpenSpec.ofChange s with cond := some uptoSmall }

/-- 'laws.FnExactBlockNew', WHERE WHAT IT READS IS OF BULK AT MOST 1048576: true; the input reads as it did. -/
def fnExactBlockNewUptoRow : OpenClaim := { program := "ytnafhlbbbgpmgab", sum := "442ad8e7dd505bb5e136169a51ddd5f040d5724d54f0ee33336796c30d8c9108", func := "loop.example/g00985/laws.FnExactBlockNew", spec := "fnExactBlockNew", unfollowed := true, recurses := true, apart := false, narrowed := true }
def FnExactBlockNewUptoSaid : Prop := fnExactBlockNewUptoRow.holds Try.pinned (OpenSpec.upto fnExactBlockNewSpec)

/-- 'laws.FnExactBlockEnded', WHERE WHAT IT READS IS OF BULK AT MOST 1048576: true; the input reads as it did. -/
def fnExactBlockEndedUptoRow : OpenClaim := { program := "ytnafhlbbbgpmgab", sum := "442ad8e7dd505bb5e136169a51ddd5f040d5724d54f0ee33336796c30d8c9108", func := "loop.example/g00985/laws.FnExactBlockEnded", spec := "fnExactBlockEnded", unfollowed := true, recurses := true, apart := false, narrowed := true }
def FnExactBlockEndedUptoSaid : Prop := fnExactBlockEndedUptoRow.holds Try.pinned (OpenSpec.upto fnExactBlockEndedSpec)

/-- 'laws.FnExactNextOp', WHERE WHAT IT READS IS OF BULK AT MOST 1048576: true; the input reads as it did. -/
def fnExactNextOpUptoRow : OpenClaim := { program := "ytnafhlbbbgpmgab", sum := "442ad8e7dd505bb5e136169a51ddd5f040d5724d54f0ee33336796c30d8c9108", func := "loop.example/g00985/laws.FnExactNextOp", spec := "fnExactNextOp", unfollowed := true, recurses := true, apart := false, narrowed := true }
def FnExactNextOpUptoSaid : Prop := fnExactNextOpUptoRow.holds Try.pinned (OpenSpec.upto fnExactNextOpSpec)

/-- 'laws.FnExactAtBarrier', WHERE WHAT IT READS IS OF BULK AT MOST 1048576: true; the input reads as it did. -/
def fnExactAtBarrierUptoRow : OpenClaim := { program := "ytnafhlbbbgpmgab", sum := "442ad8e7dd505bb5e136169a51ddd5f040d5724d54f0ee33336796c30d8c9108", func := "loop.example/g00985/laws.FnExactAtBarrier", spec := "fnExactAtBarrier", unfollowed := true, recurses := true, apart := false, narrowed := true }
def FnExactAtBarrierUptoSaid : Prop := fnExactAtBarrierUptoRow.holds Try.pinned (OpenSpec.upto fnExactAtBarrierSpec)

/-- 'laws.FnExactIsSplitBarrier', WHERE WHAT IT READS IS OF BULK AT MOST 1048576: true; the input reads as it did. -/
def fnExactIsSplitBarrierUptoRow : OpenClaim := { program := "ytnafhlbbbgpmgab", sum := "442ad8e7dd505bb5e136169a51ddd5f040d5724d54f0ee33336796c30d8c9108", func := "loop.example/g00985/laws.FnExactIsSplitBarrier", spec := "fnExactIsSplitBarrier", unfollowed := true, recurses := true, apart := false, narrowed := true }
def FnExactIsSplitBarrierUptoSaid : Prop := fnExactIsSplitBarrierUptoRow.holds Try.pinned (OpenSpec.upto fnExactIsSplitBarrierSpec)

/-- 'laws.FnExactRunLane', WHERE WHAT IT READS IS OF BULK AT MOST 1048576: true; the input reads as it did. -/
def fnExactRunLaneUptoRow : OpenClaim := { program := "ytnafhlbbbgpmgab", sum := "442ad8e7dd505bb5e136169a51ddd5f040d5724d54f0ee33336796c30d8c9108", func := "loop.example/g00985/laws.FnExactRunLane", spec := "fnExactRunLane", unfollowed := true, recurses := true, apart := false, narrowed := true }
def FnExactRunLaneUptoSaid : Prop := fnExactRunLaneUptoRow.holds Try.pinned (OpenSpec.upto fnExactRunLaneSpec)

/-- 'laws.FnExactSumAlone', WHERE WHAT IT READS IS OF BULK AT MOST 1048576: true; the input reads as it did. -/
def fnExactSumAloneUptoRow : OpenClaim := { program := "ytnafhlbbbgpmgab", sum := "442ad8e7dd505bb5e136169a51ddd5f040d5724d54f0ee33336796c30d8c9108", func := "loop.example/g00985/laws.FnExactSumAlone", spec := "fnExactSumAlone", unfollowed := true, recurses := true, apart := false, narrowed := true }
def FnExactSumAloneUptoSaid : Prop := fnExactSumAloneUptoRow.holds Try.pinned (OpenSpec.upto fnExactSumAloneSpec)

/-- 'laws.FnExactDifferingLanes', WHERE WHAT IT READS IS OF BULK AT MOST 1048576: true; the input reads as it did. -/
def fnExactDifferingLanesUptoRow : OpenClaim := { program := "ytnafhlbbbgpmgab", sum := "442ad8e7dd505bb5e136169a51ddd5f040d5724d54f0ee33336796c30d8c9108", func := "loop.example/g00985/laws.FnExactDifferingLanes", spec := "fnExactDifferingLanes", unfollowed := true, recurses := true, apart := false, narrowed := true }
def FnExactDifferingLanesUptoSaid : Prop := fnExactDifferingLanesUptoRow.holds Try.pinned (OpenSpec.upto fnExactDifferingLanesSpec)

/-- 'laws.FnExactRunAlone', WHERE WHAT IT READS IS OF BULK AT MOST 1048576: true; the input reads as it did. -/
def fnExactRunAloneUptoRow : OpenClaim := { program := "ytnafhlbbbgpmgab", sum := "442ad8e7dd505bb5e136169a51ddd5f040d5724d54f0ee33336796c30d8c9108", func := "loop.example/g00985/laws.FnExactRunAlone", spec := "fnExactRunAlone", unfollowed := true, recurses := true, apart := false, narrowed := true }
def FnExactRunAloneUptoSaid : Prop := fnExactRunAloneUptoRow.holds Try.pinned (OpenSpec.upto fnExactRunAloneSpec)

/-- 'laws.FnExactMostAlone', WHERE WHAT IT READS IS OF BULK AT MOST 1048576: true; the input reads as it did. -/
def fnExactMostAloneUptoRow : OpenClaim := { program := "ytnafhlbbbgpmgab", sum := "442ad8e7dd505bb5e136169a51ddd5f040d5724d54f0ee33336796c30d8c9108", func := "loop.example/g00985/laws.FnExactMostAlone", spec := "fnExactMostAlone", unfollowed := true, recurses := true, apart := false, narrowed := true }
def FnExactMostAloneUptoSaid : Prop := fnExactMostAloneUptoRow.holds Try.pinned (OpenSpec.upto fnExactMostAloneSpec)

end Rows
end Go.Proofs.Ytnafhlbbbgpmgab
