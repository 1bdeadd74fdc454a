/-
  No cell of these rows narrows 'for every input' (looked for: loops, veiled, ifaces, maps, wideKeys, modest, calm, conditions, laid).
  DERIVED. THE GIVEN ROWS OF THIS SEAT. 12 by the template 'for every input the law returns true; each argument reads behind the call as it read before'; 0 by the template 'total and deterministic' (their statements: YtliafnobehfehaaTotals.lean).
  GIVEN WITH THE SEED: the statements are not yours to turn. If you find one false, say at which input.
  Laid BY PROGRAM, IN A SANDBOX (cutbox-rows.mjs): the forced cells as the released guide's own fill.sh prints them over the translation ec840cb114ab9b7a… (all of the seat's roots in one cut). By AI agents, Wed Nov 11 2026. No macro, syntax, notation, axiom, sorry.
-/
import Derived.Test.YtliafnobehfehaaChecked
import GoSem.Claim
import GoSem.ClaimJoined
import GoSem.ClaimMapViews
import Derived.JoinedTies
import Derived.KernelRfl
namespace Go.Proofs.Ytliafnobehfehaa
/- THE CELL 'sum', in the pinned program and in every row, IS THE sha256 OF THE DUMP (.gsa) THAT YtliafnobehfehaaProg.lean LOADS. Nothing in Lean hashes anything: it is a label: what it is worth is what the hold of that sum in a sandbox is worth. -/
noncomputable def Try.pinned : Pinned := { name := "ytliafnobehfehaa", sum := "ec840cb114ab9b7aae62b859bd3b2999381cdaf4f9442d8938e14a145a7d8c04", checked := Try.checked }
namespace Rows
def none {H : Type} : Left H := { results := [], args := [] }

/-- 'laws.FnLaneParts': WHATEVER THE INPUT: true; the input reads as it did. -/
def fnLanePartsSpec : ChangeSpec := { name := "fnLaneParts", fn := fun _ => fun
  | [d] => { results := [.lit (.bool true)], args := [d] }
  | _ => none }
def fnLanePartsRow : OpenClaim := { program := "ytliafnobehfehaa", sum := "ec840cb114ab9b7aae62b859bd3b2999381cdaf4f9442d8938e14a145a7d8c04", func := "loop.example/g00985/laws.FnLaneParts", spec := "fnLaneParts", unfollowed := true, recurses := true, plainKeys := false, apart := false }
def FnLanePartsSaid : Prop := fnLanePartsRow.holds Try.pinned (OpenSpec.ofChange fnLanePartsSpec)

/-- ITS FALSE NEIGHBOUR: 'it returns false'. Refute it at one input. -/
def fnLanePartsWrong : ChangeSpec := { name := "fnLaneParts", fn := fun _ => fun
  | [d] => { results := [.lit (.bool false)], args := [d] }
  | _ => none }
def FnLanePartsWrongFalsely : Prop := fnLanePartsRow.holds Try.pinned (OpenSpec.ofChange fnLanePartsWrong)

/-- 'laws.FnExactFirstRace': WHATEVER THE INPUT: true; the input reads as it did. -/
def fnExactFirstRaceSpec : ChangeSpec := { name := "fnExactFirstRace", fn := fun _ => fun
  | [d] => { results := [.lit (.bool true)], args := [d] }
  | _ => none }
def fnExactFirstRaceRow : OpenClaim := { program := "ytliafnobehfehaa", sum := "ec840cb114ab9b7aae62b859bd3b2999381cdaf4f9442d8938e14a145a7d8c04", func := "loop.example/g00985/laws.FnExactFirstRace", spec := "fnExactFirstRace", plainKeys := false, apart := false }
def FnExactFirstRaceSaid : Prop := fnExactFirstRaceRow.holds Try.pinned (OpenSpec.ofChange fnExactFirstRaceSpec)

/-- ITS FALSE NEIGHBOUR: 'it returns false'. Refute it at one input. -/
def fnExactFirstRaceWrong : ChangeSpec := { name := "fnExactFirstRace", fn := fun _ => fun
  | [d] => { results := [.lit (.bool false)], args := [d] }
  | _ => none }
def FnExactFirstRaceWrongFalsely : Prop := fnExactFirstRaceRow.holds Try.pinned (OpenSpec.ofChange fnExactFirstRaceWrong)

/-- 'laws.FnExactAddAccesses': WHATEVER THE INPUT: true; the input reads as it did. -/
def fnExactAddAccessesSpec : ChangeSpec := { name := "fnExactAddAccesses", fn := fun _ => fun
  | [d1, d2] => { results := [.lit (.bool true)], args := [d1, d2] }
  | _ => none }
def fnExactAddAccessesRow : OpenClaim := { program := "ytliafnobehfehaa", sum := "ec840cb114ab9b7aae62b859bd3b2999381cdaf4f9442d8938e14a145a7d8c04", func := "loop.example/g00985/laws.FnExactAddAccesses", spec := "fnExactAddAccesses", plainKeys := false, apart := false }
def FnExactAddAccessesSaid : Prop := fnExactAddAccessesRow.holds Try.pinned (OpenSpec.ofChange fnExactAddAccessesSpec)

/-- ITS FALSE NEIGHBOUR: 'it returns false'. Refute it at one input. -/
def fnExactAddAccessesWrong : ChangeSpec := { name := "fnExactAddAccesses", fn := fun _ => fun
  | [d1, d2] => { results := [.lit (.bool false)], args := [d1, d2] }
  | _ => none }
def FnExactAddAccessesWrongFalsely : Prop := fnExactAddAccessesRow.holds Try.pinned (OpenSpec.ofChange fnExactAddAccessesWrong)

/-- 'laws.FnNewBlocks': WHATEVER THE INPUT: true; the input reads as it did. -/
def fnNewBlocksSpec : ChangeSpec := { name := "fnNewBlocks", fn := fun _ => fun
  | [d] => { results := [.lit (.bool true)], args := [d] }
  | _ => none }
def fnNewBlocksRow : OpenClaim := { program := "ytliafnobehfehaa", sum := "ec840cb114ab9b7aae62b859bd3b2999381cdaf4f9442d8938e14a145a7d8c04", func := "loop.example/g00985/laws.FnNewBlocks", spec := "fnNewBlocks", unfollowed := true, recurses := true, plainKeys := false, apart := false }
def FnNewBlocksSaid : Prop := fnNewBlocksRow.holds Try.pinned (OpenSpec.ofChange fnNewBlocksSpec)

/-- ITS FALSE NEIGHBOUR: 'it returns false'. Refute it at one input. -/
def fnNewBlocksWrong : ChangeSpec := { name := "fnNewBlocks", fn := fun _ => fun
  | [d] => { results := [.lit (.bool false)], args := [d] }
  | _ => none }
def FnNewBlocksWrongFalsely : Prop := fnNewBlocksRow.holds Try.pinned (OpenSpec.ofChange fnNewBlocksWrong)

/-- 'laws.FnExactSameBlock': WHATEVER THE INPUT: true; the input reads as it did. -/
def fnExactSameBlockSpec : ChangeSpec := { name := "fnExactSameBlock", fn := fun _ => fun
  | [d1, d2] => { results := [.lit (.bool true)], args := [d1, d2] }
  | _ => none }
def fnExactSameBlockRow : OpenClaim := { program := "ytliafnobehfehaa", sum := "ec840cb114ab9b7aae62b859bd3b2999381cdaf4f9442d8938e14a145a7d8c04", func := "loop.example/g00985/laws.FnExactSameBlock", spec := "fnExactSameBlock", unfollowed := true, recurses := true, plainKeys := false, apart := false }
def FnExactSameBlockSaid : Prop := fnExactSameBlockRow.holds Try.pinned (OpenSpec.ofChange fnExactSameBlockSpec)

/-- ITS FALSE NEIGHBOUR: 'it returns false'. Refute it at one input. -/
def fnExactSameBlockWrong : ChangeSpec := { name := "fnExactSameBlock", fn := fun _ => fun
  | [d1, d2] => { results := [.lit (.bool false)], args := [d1, d2] }
  | _ => none }
def FnExactSameBlockWrongFalsely : Prop := fnExactSameBlockRow.holds Try.pinned (OpenSpec.ofChange fnExactSameBlockWrong)

/-- 'laws.FnExactBlockOk': WHATEVER THE INPUT: true; the input reads as it did. -/
def fnExactBlockOkSpec : ChangeSpec := { name := "fnExactBlockOk", fn := fun _ => fun
  | [d] => { results := [.lit (.bool true)], args := [d] }
  | _ => none }
def fnExactBlockOkRow : OpenClaim := { program := "ytliafnobehfehaa", sum := "ec840cb114ab9b7aae62b859bd3b2999381cdaf4f9442d8938e14a145a7d8c04", func := "loop.example/g00985/laws.FnExactBlockOk", spec := "fnExactBlockOk", unfollowed := true, recurses := true, plainKeys := false, apart := false }
def FnExactBlockOkSaid : Prop := fnExactBlockOkRow.holds Try.pinned (OpenSpec.ofChange fnExactBlockOkSpec)

/-- ITS FALSE NEIGHBOUR: 'it returns false'. Refute it at one input. -/
def fnExactBlockOkWrong : ChangeSpec := { name := "fnExactBlockOk", fn := fun _ => fun
  | [d] => { results := [.lit (.bool false)], args := [d] }
  | _ => none }
def FnExactBlockOkWrongFalsely : Prop := fnExactBlockOkRow.holds Try.pinned (OpenSpec.ofChange fnExactBlockOkWrong)

/-- 'laws.FnExactIsWaiting': WHATEVER THE INPUT: true; the input reads as it did. -/
def fnExactIsWaitingSpec : ChangeSpec := { name := "fnExactIsWaiting", fn := fun _ => fun
  | [d1, d2] => { results := [.lit (.bool true)], args := [d1, d2] }
  | _ => none }
def fnExactIsWaitingRow : OpenClaim := { program := "ytliafnobehfehaa", sum := "ec840cb114ab9b7aae62b859bd3b2999381cdaf4f9442d8938e14a145a7d8c04", func := "loop.example/g00985/laws.FnExactIsWaiting", spec := "fnExactIsWaiting", unfollowed := true, recurses := true, plainKeys := false, apart := false }
def FnExactIsWaitingSaid : Prop := fnExactIsWaitingRow.holds Try.pinned (OpenSpec.ofChange fnExactIsWaitingSpec)

/-- ITS FALSE NEIGHBOUR: 'it returns false'. Refute it at one input. -/
def fnExactIsWaitingWrong : ChangeSpec := { name := "fnExactIsWaiting", fn := fun _ => fun
  | [d1, d2] => { results := [.lit (.bool false)], args := [d1, d2] }
  | _ => none }
def FnExactIsWaitingWrongFalsely : Prop := fnExactIsWaitingRow.holds Try.pinned (OpenSpec.ofChange fnExactIsWaitingWrong)

/-- 'laws.FnExactBlockNew': WHATEVER THE INPUT: true; the input reads as it did. -/
def fnExactBlockNewSpec : ChangeSpec := { name := "fnExactBlockNew", fn := fun _ => fun
  | [d1, d2] => { results := [.lit (.bool true)], args := [d1, d2] }
  | _ => none }
def fnExactBlockNewRow : OpenClaim := { program := "ytliafnobehfehaa", sum := "ec840cb114ab9b7aae62b859bd3b2999381cdaf4f9442d8938e14a145a7d8c04", func := "loop.example/g00985/laws.FnExactBlockNew", spec := "fnExactBlockNew", unfollowed := true, recurses := true, plainKeys := false, apart := false }
def FnExactBlockNewSaid : Prop := fnExactBlockNewRow.holds Try.pinned (OpenSpec.ofChange fnExactBlockNewSpec)

/-- ITS FALSE NEIGHBOUR: 'it returns false'. Refute it at one input. -/
def fnExactBlockNewWrong : ChangeSpec := { name := "fnExactBlockNew", fn := fun _ => fun
  | [d1, d2] => { results := [.lit (.bool false)], args := [d1, d2] }
  | _ => none }
def FnExactBlockNewWrongFalsely : Prop := fnExactBlockNewRow.holds Try.pinned (OpenSpec.ofChange fnExactBlockNewWrong)

/-- 'laws.FnExactBlockEnded': WHATEVER THE INPUT: true; the input reads as it did. -/
def fnExactBlockEndedSpec : ChangeSpec := { name := "fnExactBlockEnded", fn := fun _ => fun
  | [d] => { results := [.lit (.bool true)], args := [d] }
  | _ => none }
def fnExactBlockEndedRow : OpenClaim := { program := "ytliafnobehfehaa", sum := "ec840cb114ab9b7aae62b859bd3b2999381cdaf4f9442d8938e14a145a7d8c04", func := "loop.example/g00985/laws.FnExactBlockEnded", spec := "fnExactBlockEnded", unfollowed := true, recurses := true, plainKeys := false, apart := false }
def FnExactBlockEndedSaid : Prop := fnExactBlockEndedRow.holds Try.pinned (OpenSpec.ofChange fnExactBlockEndedSpec)

/-- ITS FALSE NEIGHBOUR: 'it returns false'. Refute it at one input. -/
def fnExactBlockEndedWrong : ChangeSpec := { name := "fnExactBlockEnded", fn := fun _ => fun
  | [d] => { results := [.lit (.bool false)], args := [d] }
  | _ => none }
def FnExactBlockEndedWrongFalsely : Prop := fnExactBlockEndedRow.holds Try.pinned (OpenSpec.ofChange fnExactBlockEndedWrong)

/-- 'laws.FnExactNextOp': WHATEVER THE INPUT: true; the input reads as it did. -/
def fnExactNextOpSpec : ChangeSpec := { name := "fnExactNextOp", fn := fun _ => fun
  | [d1, d2] => { results := [.lit (.bool true)], args := [d1, d2] }
  | _ => none }
def fnExactNextOpRow : OpenClaim := { program := "ytliafnobehfehaa", sum := "ec840cb114ab9b7aae62b859bd3b2999381cdaf4f9442d8938e14a145a7d8c04", func := "loop.example/g00985/laws.FnExactNextOp", spec := "fnExactNextOp", unfollowed := true, recurses := true, plainKeys := false, apart := false }
def FnExactNextOpSaid : Prop := fnExactNextOpRow.holds Try.pinned (OpenSpec.ofChange fnExactNextOpSpec)

/-- ITS FALSE NEIGHBOUR: 'it returns false'. Refute it at one input. -/
def fnExactNextOpWrong : ChangeSpec := { name := "fnExactNextOp", fn := fun _ => fun
  | [d1, d2] => { results := [.lit (.bool false)], args := [d1, d2] }
  | _ => none }
def FnExactNextOpWrongFalsely : Prop := fnExactNextOpRow.holds Try.pinned (OpenSpec.ofChange fnExactNextOpWrong)

/-- 'laws.FnExactAtBarrier': WHATEVER THE INPUT: true; the input reads as it did. -/
def fnExactAtBarrierSpec : ChangeSpec := { name := "fnExactAtBarrier", fn := fun _ => fun
  | [d1, d2] => { results := [.lit (.bool true)], args := [d1, d2] }
  | _ => none }
def fnExactAtBarrierRow : OpenClaim := { program := "ytliafnobehfehaa", sum := "ec840cb114ab9b7aae62b859bd3b2999381cdaf4f9442d8938e14a145a7d8c04", func := "loop.example/g00985/laws.FnExactAtBarrier", spec := "fnExactAtBarrier", unfollowed := true, recurses := true, plainKeys := false, apart := false }
def FnExactAtBarrierSaid : Prop := fnExactAtBarrierRow.holds Try.pinned (OpenSpec.ofChange fnExactAtBarrierSpec)

/-- ITS FALSE NEIGHBOUR: 'it returns false'. Refute it at one input. -/
def fnExactAtBarrierWrong : ChangeSpec := { name := "fnExactAtBarrier", fn := fun _ => fun
  | [d1, d2] => { results := [.lit (.bool false)], args := [d1, d2] }
  | _ => none }
def FnExactAtBarrierWrongFalsely : Prop := fnExactAtBarrierRow.holds Try.pinned (OpenSpec.ofChange fnExactAtBarrierWrong)

/-- 'laws.FnExactIsSplitBarrier': WHATEVER THE INPUT: true; the input reads as it did. -/
def fnExactIsSplitBarrierSpec : ChangeSpec := { name := "fnExactIsSplitBarrier", fn := fun _ => fun
  | [d1, d2] => { results := [.lit (.bool true)], args := [d1, d2] }
  | _ => none }
def fnExactIsSplitBarrierRow : OpenClaim := { program := "ytliafnobehfehaa", sum := "ec840cb114ab9b7aae62b859bd3b2999381cdaf4f9442d8938e14a145a7d8c04", func := "loop.example/g00985/laws.FnExactIsSplitBarrier", spec := "fnExactIsSplitBarrier", unfollowed := true, recurses := true, plainKeys := false, apart := false }
def FnExactIsSplitBarrierSaid : Prop := fnExactIsSplitBarrierRow.holds Try.pinned (OpenSpec.ofChange fnExactIsSplitBarrierSpec)

/-- ITS FALSE NEIGHBOUR: 'it returns false'. Refute it at one input. -/
def fnExactIsSplitBarrierWrong : ChangeSpec := { name := "fnExactIsSplitBarrier", fn := fun _ => fun
  | [d1, d2] => { results := [.lit (.bool false)], args := [d1, d2] }
  | _ => none }
def FnExactIsSplitBarrierWrongFalsely : Prop := fnExactIsSplitBarrierRow.holds Try.pinned (OpenSpec.ofChange fnExactIsSplitBarrierWrong)

/- THE SECOND FORM. 'bulk': how many values and letters a reading holds, each counted each time it is reached (what is shared counts as often as it is met; a slice's spare places count too). A statement '..UptoSaid' is the law's where the arguments, and the package variables that the reading takes, are together of bulk at most 1048576: NARROWER than '..Said'. Prove '..Said' where nothing that the law and all that it calls make is longer than what came in: it says more and counts as full. Else prove '..UptoSaid'. A law counts once. -/
mutual
def uptoBulk {H : Type} : DataW H → Nat
  | .lit (.string bytes) => bytes.length + 1
  | .lit _ => 1
  | .nil => 1
  | .ptr d => uptoBulk d + 1
  | .slice elems spare => uptoBulkAll elems + uptoBulkAll spare + 1
  | .agg parts => uptoBulkAll parts + 1
  | .iface _ d => uptoBulk d + 1
  | .map entries => uptoBulkEntries entries + 1
  | .held _ => 1
def uptoBulkAll {H : Type} : List (DataW H) → Nat
  | [] => 0
  | d :: r => uptoBulk d + uptoBulkAll r
def uptoBulkEntries {H : Type} : List (Lit × DataW H) → Nat
  | [] => 0
  | x :: r => uptoBulkEntry x + uptoBulkEntries r
def uptoBulkEntry {H : Type} : Lit × DataW H → Nat
  | (.string bytes, d) => bytes.length + uptoBulk d + 1
  | (_, d) => uptoBulk d + 1
 end
def uptoSmall : (H : Type) → List (DataW H) → Bool := fun _ ds => decide (uptoBulkAll ds ≤ 1048576)
def OpenSpec.upto (s : _root_.Go.ChangeSpec) : _root_.Go.OpenSpec := { _root_.Go.OpenSpec.ofChange s with cond := some uptoSmall }

/-- 'laws.FnLaneParts', WHERE WHAT IT READS IS OF BULK AT MOST 1048576: true; the input reads as it did. -/
def fnLanePartsUptoRow : OpenClaim := { program := "ytliafnobehfehaa", sum := "ec840cb114ab9b7aae62b859bd3b2999381cdaf4f9442d8938e14a145a7d8c04", func := "loop.example/g00985/laws.FnLaneParts", spec := "fnLaneParts", unfollowed := true, recurses := true, plainKeys := false, apart := false, narrowed := true }
def FnLanePartsUptoSaid : Prop := fnLanePartsUptoRow.holds Try.pinned (OpenSpec.upto fnLanePartsSpec)

/-- 'laws.FnExactFirstRace', WHERE WHAT IT READS IS OF BULK AT MOST 1048576: true; the input reads as it did. -/
def fnExactFirstRaceUptoRow : OpenClaim := { program := "ytliafnobehfehaa", sum := "ec840cb114ab9b7aae62b859bd3b2999381cdaf4f9442d8938e14a145a7d8c04", func := "loop.example/g00985/laws.FnExactFirstRace", spec := "fnExactFirstRace", plainKeys := false, apart := false, narrowed := true }
def FnExactFirstRaceUptoSaid : Prop := fnExactFirstRaceUptoRow.holds Try.pinned (OpenSpec.upto fnExactFirstRaceSpec)

/-- 'laws.FnExactAddAccesses', WHERE WHAT IT READS IS OF BULK AT MOST 1048576: true; the input reads as it did. -/
def fnExactAddAccessesUptoRow : OpenClaim := { program := "ytliafnobehfehaa", sum := "ec840cb114ab9b7aae62b859bd3b2999381cdaf4f9442d8938e14a145a7d8c04", func := "loop.example/g00985/laws.FnExactAddAccesses", spec := "fnExactAddAccesses", plainKeys := false, apart := false, narrowed := true }
def FnExactAddAccessesUptoSaid : Prop := fnExactAddAccessesUptoRow.holds Try.pinned (OpenSpec.upto fnExactAddAccessesSpec)

/-- 'laws.FnNewBlocks', WHERE WHAT IT READS IS OF BULK AT MOST 1048576: true; the input reads as it did. -/
def fnNewBlocksUptoRow : OpenClaim := { program := "ytliafnobehfehaa", sum := "ec840cb114ab9b7aae62b859bd3b2999381cdaf4f9442d8938e14a145a7d8c04", func := "loop.example/g00985/laws.FnNewBlocks", spec := "fnNewBlocks", unfollowed := true, recurses := true, plainKeys := false, apart := false, narrowed := true }
def FnNewBlocksUptoSaid : Prop := fnNewBlocksUptoRow.holds Try.pinned (OpenSpec.upto fnNewBlocksSpec)

/-- 'laws.FnExactSameBlock', WHERE WHAT IT READS IS OF BULK AT MOST 1048576: true; the input reads as it did. -/
def fnExactSameBlockUptoRow : OpenClaim := { program := "ytliafnobehfehaa", sum := "ec840cb114ab9b7aae62b859bd3b2999381cdaf4f9442d8938e14a145a7d8c04", func := "loop.example/g00985/laws.FnExactSameBlock", spec := "fnExactSameBlock", unfollowed := true, recurses := true, plainKeys := false, apart := false, narrowed := true }
def FnExactSameBlockUptoSaid : Prop := fnExactSameBlockUptoRow.holds Try.pinned (OpenSpec.upto fnExactSameBlockSpec)

/-- 'laws.FnExactBlockOk', WHERE WHAT IT READS IS OF BULK AT MOST 1048576: true; the input reads as it did. -/
def fnExactBlockOkUptoRow : OpenClaim := { program := "ytliafnobehfehaa", sum := "ec840cb114ab9b7aae62b859bd3b2999381cdaf4f9442d8938e14a145a7d8c04", func := "loop.example/g00985/laws.FnExactBlockOk", spec := "fnExactBlockOk", unfollowed := true, recurses := true, plainKeys := false, apart := false, narrowed := true }
def FnExactBlockOkUptoSaid : Prop := fnExactBlockOkUptoRow.holds Try.pinned (OpenSpec.upto fnExactBlockOkSpec)

/-- 'laws.FnExactIsWaiting', WHERE WHAT IT READS IS OF BULK AT MOST 1048576: true; the input reads as it did. -/
def fnExactIsWaitingUptoRow : OpenClaim := { program := "ytliafnobehfehaa", sum := "ec840cb114ab9b7aae62b859bd3b2999381cdaf4f9442d8938e14a145a7d8c04", func := "loop.example/g00985/laws.FnExactIsWaiting", spec := "fnExactIsWaiting", unfollowed := true, recurses := true, plainKeys := false, apart := false, narrowed := true }
def FnExactIsWaitingUptoSaid : Prop := fnExactIsWaitingUptoRow.holds Try.pinned (OpenSpec.upto fnExactIsWaitingSpec)

/-- 'laws.FnExactBlockNew', WHERE WHAT IT READS IS OF BULK AT MOST 1048576: true; the input reads as it did. -/
def fnExactBlockNewUptoRow : OpenClaim := { program := "ytliafnobehfehaa", sum := "ec840cb114ab9b7aae62b859bd3b2999381cdaf4f9442d8938e14a145a7d8c04", func := "loop.example/g00985/laws.FnExactBlockNew", spec := "fnExactBlockNew", unfollowed := true, recurses := true, plainKeys := false, apart := false, narrowed := true }
def FnExactBlockNewUptoSaid : Prop := fnExactBlockNewUptoRow.holds Try.pinned (OpenSpec.upto fnExactBlockNewSpec)

/-- 'laws.FnExactBlockEnded', WHERE WHAT IT READS IS OF BULK AT MOST 1048576: true; the input reads as it did. -/
def fnExactBlockEndedUptoRow : OpenClaim := { program := "ytliafnobehfehaa", sum := "ec840cb114ab9b7aae62b859bd3b2999381cdaf4f9442d8938e14a145a7d8c04", func := "loop.example/g00985/laws.FnExactBlockEnded", spec := "fnExactBlockEnded", unfollowed := true, recurses := true, plainKeys := false, apart := false, narrowed := true }
def FnExactBlockEndedUptoSaid : Prop := fnExactBlockEndedUptoRow.holds Try.pinned (OpenSpec.upto fnExactBlockEndedSpec)

/-- 'laws.FnExactNextOp', WHERE WHAT IT READS IS OF BULK AT MOST 1048576: true; the input reads as it did. -/
def fnExactNextOpUptoRow : OpenClaim := { program := "ytliafnobehfehaa", sum := "ec840cb114ab9b7aae62b859bd3b2999381cdaf4f9442d8938e14a145a7d8c04", func := "loop.example/g00985/laws.FnExactNextOp", spec := "fnExactNextOp", unfollowed := true, recurses := true, plainKeys := false, apart := false, narrowed := true }
def FnExactNextOpUptoSaid : Prop := fnExactNextOpUptoRow.holds Try.pinned (OpenSpec.upto fnExactNextOpSpec)

/-- 'laws.FnExactAtBarrier', WHERE WHAT IT READS IS OF BULK AT MOST 1048576: true; the input reads as it did. -/
def fnExactAtBarrierUptoRow : OpenClaim := { program := "ytliafnobehfehaa", sum := "ec840cb114ab9b7aae62b859bd3b2999381cdaf4f9442d8938e14a145a7d8c04", func := "loop.example/g00985/laws.FnExactAtBarrier", spec := "fnExactAtBarrier", unfollowed := true, recurses := true, plainKeys := false, apart := false, narrowed := true }
def FnExactAtBarrierUptoSaid : Prop := fnExactAtBarrierUptoRow.holds Try.pinned (OpenSpec.upto fnExactAtBarrierSpec)

/-- 'laws.FnExactIsSplitBarrier', WHERE WHAT IT READS IS OF BULK AT MOST 1048576: true; the input reads as it did. -/
def fnExactIsSplitBarrierUptoRow : OpenClaim := { program := "ytliafnobehfehaa", sum := "ec840cb114ab9b7aae62b859bd3b2999381cdaf4f9442d8938e14a145a7d8c04", func := "loop.example/g00985/laws.FnExactIsSplitBarrier", spec := "fnExactIsSplitBarrier", unfollowed := true, recurses := true, plainKeys := false, apart := false, narrowed := true }
def FnExactIsSplitBarrierUptoSaid : Prop := fnExactIsSplitBarrierUptoRow.holds Try.pinned (OpenSpec.upto fnExactIsSplitBarrierSpec)

end Rows
end Go.Proofs.Ytliafnobehfehaa
