/-
  No cell of these rows narrows 'for every input' (looked for: loops, veiled, ifaces, maps, wideKeys, modest, calm, conditions, laid).
  DERIVED. THE GIVEN ROWS OF THIS SEAT. 8 by the template 'for every input the law returns true; each argument reads behind the call as it read before'; 0 by the template 'total and deterministic' (their statements: YtnbkmenlaogblaaTotals.lean).
  GIVEN WITH THE SEED: the statements are not yours to turn. If you find one false, say at which input.
  Laid BY PROGRAM, IN A SANDBOX (cutbox-rows.mjs): the forced cells as the released guide's own fill.sh prints them over the translation c30e87cf14ff6d27… (all of the seat's roots in one cut). By AI agents, Wed Nov 11 2026. No macro, syntax, notation, axiom, sorry.
-/
import Derived.Test.YtnbkmenlaogblaaChecked
import GoSem.Claim
import GoSem.ClaimJoined
import GoSem.ClaimMapViews
import Derived.JoinedTies
import Derived.KernelRfl
namespace Go.Proofs.Ytnbkmenlaogblaa
/- THE CELL 'sum', in the pinned program and in every row, IS THE sha256 OF THE DUMP (.gsa) THAT YtnbkmenlaogblaaProg.lean LOADS. Nothing in Lean hashes anything: it is a label: what it is worth is what the hold of that sum in a sandbox is worth. -/
noncomputable def Try.pinned : Pinned := { name := "ytnbkmenlaogblaa", sum := "c30e87cf14ff6d273a701ccf4c69155d7eb97f751fc20791fd09230a7735de65", checked := Try.checked }
namespace Rows
def none {H : Type} : Left H := { results := [], args := [] }

/-- 'laws.FnExactCanStep': WHATEVER THE INPUT: true; the input reads as it did. -/
def fnExactCanStepSpec : ChangeSpec := { name := "fnExactCanStep", fn := fun _ => fun
  | [d1, d2] => { results := [.lit (.bool true)], args := [d1, d2] }
  | _ => none }
def fnExactCanStepRow : OpenClaim := { program := "ytnbkmenlaogblaa", sum := "c30e87cf14ff6d273a701ccf4c69155d7eb97f751fc20791fd09230a7735de65", func := "loop.example/g00985/laws.FnExactCanStep", spec := "fnExactCanStep", unfollowed := true, recurses := true, apart := false }
def FnExactCanStepSaid : Prop := fnExactCanStepRow.holds Try.pinned (OpenSpec.ofChange fnExactCanStepSpec)

/-- ITS FALSE NEIGHBOUR: 'it returns false'. Refute it at one input. -/
def fnExactCanStepWrong : ChangeSpec := { name := "fnExactCanStep", fn := fun _ => fun
  | [d1, d2] => { results := [.lit (.bool false)], args := [d1, d2] }
  | _ => none }
def FnExactCanStepWrongFalsely : Prop := fnExactCanStepRow.holds Try.pinned (OpenSpec.ofChange fnExactCanStepWrong)

/-- 'laws.FnExactPickWarp': WHATEVER THE INPUT: true; the input reads as it did. -/
def fnExactPickWarpSpec : ChangeSpec := { name := "fnExactPickWarp", fn := fun _ => fun
  | [d1, d2] => { results := [.lit (.bool true)], args := [d1, d2] }
  | _ => none }
def fnExactPickWarpRow : OpenClaim := { program := "ytnbkmenlaogblaa", sum := "c30e87cf14ff6d273a701ccf4c69155d7eb97f751fc20791fd09230a7735de65", func := "loop.example/g00985/laws.FnExactPickWarp", spec := "fnExactPickWarp", unfollowed := true, recurses := true, apart := false }
def FnExactPickWarpSaid : Prop := fnExactPickWarpRow.holds Try.pinned (OpenSpec.ofChange fnExactPickWarpSpec)

/-- ITS FALSE NEIGHBOUR: 'it returns false'. Refute it at one input. -/
def fnExactPickWarpWrong : ChangeSpec := { name := "fnExactPickWarp", fn := fun _ => fun
  | [d1, d2] => { results := [.lit (.bool false)], args := [d1, d2] }
  | _ => none }
def FnExactPickWarpWrongFalsely : Prop := fnExactPickWarpRow.holds Try.pinned (OpenSpec.ofChange fnExactPickWarpWrong)

/-- 'laws.FnExactIsStuck': WHATEVER THE INPUT: true; the input reads as it did. -/
def fnExactIsStuckSpec : ChangeSpec := { name := "fnExactIsStuck", fn := fun _ => fun
  | [d] => { results := [.lit (.bool true)], args := [d] }
  | _ => none }
def fnExactIsStuckRow : OpenClaim := { program := "ytnbkmenlaogblaa", sum := "c30e87cf14ff6d273a701ccf4c69155d7eb97f751fc20791fd09230a7735de65", func := "loop.example/g00985/laws.FnExactIsStuck", spec := "fnExactIsStuck", unfollowed := true, recurses := true, apart := false }
def FnExactIsStuckSaid : Prop := fnExactIsStuckRow.holds Try.pinned (OpenSpec.ofChange fnExactIsStuckSpec)

/-- ITS FALSE NEIGHBOUR: 'it returns false'. Refute it at one input. -/
def fnExactIsStuckWrong : ChangeSpec := { name := "fnExactIsStuck", fn := fun _ => fun
  | [d] => { results := [.lit (.bool false)], args := [d] }
  | _ => none }
def FnExactIsStuckWrongFalsely : Prop := fnExactIsStuckRow.holds Try.pinned (OpenSpec.ofChange fnExactIsStuckWrong)

/-- 'laws.FnExactStuckReason': WHATEVER THE INPUT: true; the input reads as it did. -/
def fnExactStuckReasonSpec : ChangeSpec := { name := "fnExactStuckReason", fn := fun _ => fun
  | [d] => { results := [.lit (.bool true)], args := [d] }
  | _ => none }
def fnExactStuckReasonRow : OpenClaim := { program := "ytnbkmenlaogblaa", sum := "c30e87cf14ff6d273a701ccf4c69155d7eb97f751fc20791fd09230a7735de65", func := "loop.example/g00985/laws.FnExactStuckReason", spec := "fnExactStuckReason", unfollowed := true, recurses := true, apart := false }
def FnExactStuckReasonSaid : Prop := fnExactStuckReasonRow.holds Try.pinned (OpenSpec.ofChange fnExactStuckReasonSpec)

/-- ITS FALSE NEIGHBOUR: 'it returns false'. Refute it at one input. -/
def fnExactStuckReasonWrong : ChangeSpec := { name := "fnExactStuckReason", fn := fun _ => fun
  | [d] => { results := [.lit (.bool false)], args := [d] }
  | _ => none }
def FnExactStuckReasonWrongFalsely : Prop := fnExactStuckReasonRow.holds Try.pinned (OpenSpec.ofChange fnExactStuckReasonWrong)

/-- 'laws.FnExactWithMemory': WHATEVER THE INPUT: true; the input reads as it did. -/
def fnExactWithMemorySpec : ChangeSpec := { name := "fnExactWithMemory", fn := fun _ => fun
  | [d1, d2] => { results := [.lit (.bool true)], args := [d1, d2] }
  | _ => none }
def fnExactWithMemoryRow : OpenClaim := { program := "ytnbkmenlaogblaa", sum := "c30e87cf14ff6d273a701ccf4c69155d7eb97f751fc20791fd09230a7735de65", func := "loop.example/g00985/laws.FnExactWithMemory", spec := "fnExactWithMemory", unfollowed := true, recurses := true, apart := false }
def FnExactWithMemorySaid : Prop := fnExactWithMemoryRow.holds Try.pinned (OpenSpec.ofChange fnExactWithMemorySpec)

/-- ITS FALSE NEIGHBOUR: 'it returns false'. Refute it at one input. -/
def fnExactWithMemoryWrong : ChangeSpec := { name := "fnExactWithMemory", fn := fun _ => fun
  | [d1, d2] => { results := [.lit (.bool false)], args := [d1, d2] }
  | _ => none }
def FnExactWithMemoryWrongFalsely : Prop := fnExactWithMemoryRow.holds Try.pinned (OpenSpec.ofChange fnExactWithMemoryWrong)

/-- 'laws.FnExactBarriersSafe': WHATEVER THE INPUT: true; the input reads as it did. -/
def fnExactBarriersSafeSpec : ChangeSpec := { name := "fnExactBarriersSafe", fn := fun _ => fun
  | [d] => { results := [.lit (.bool true)], args := [d] }
  | _ => none }
def fnExactBarriersSafeRow : OpenClaim := { program := "ytnbkmenlaogblaa", sum := "c30e87cf14ff6d273a701ccf4c69155d7eb97f751fc20791fd09230a7735de65", func := "loop.example/g00985/laws.FnExactBarriersSafe", spec := "fnExactBarriersSafe", unfollowed := true, recurses := true, apart := false }
def FnExactBarriersSafeSaid : Prop := fnExactBarriersSafeRow.holds Try.pinned (OpenSpec.ofChange fnExactBarriersSafeSpec)

/-- ITS FALSE NEIGHBOUR: 'it returns false'. Refute it at one input. -/
def fnExactBarriersSafeWrong : ChangeSpec := { name := "fnExactBarriersSafe", fn := fun _ => fun
  | [d] => { results := [.lit (.bool false)], args := [d] }
  | _ => none }
def FnExactBarriersSafeWrongFalsely : Prop := fnExactBarriersSafeRow.holds Try.pinned (OpenSpec.ofChange fnExactBarriersSafeWrong)

/-- 'laws.FnEnds': WHATEVER THE INPUT: true; the input reads as it did. -/
def fnEndsSpec : ChangeSpec := { name := "fnEnds", fn := fun _ => fun
  | [d] => { results := [.lit (.bool true)], args := [d] }
  | _ => none }
def fnEndsRow : OpenClaim := { program := "ytnbkmenlaogblaa", sum := "c30e87cf14ff6d273a701ccf4c69155d7eb97f751fc20791fd09230a7735de65", func := "loop.example/g00985/laws.FnEnds", spec := "fnEnds", unfollowed := true, recurses := true, apart := false }
def FnEndsSaid : Prop := fnEndsRow.holds Try.pinned (OpenSpec.ofChange fnEndsSpec)

/-- ITS FALSE NEIGHBOUR: 'it returns false'. Refute it at one input. -/
def fnEndsWrong : ChangeSpec := { name := "fnEnds", fn := fun _ => fun
  | [d] => { results := [.lit (.bool false)], args := [d] }
  | _ => none }
def FnEndsWrongFalsely : Prop := fnEndsRow.holds Try.pinned (OpenSpec.ofChange fnEndsWrong)

/-- 'laws.FnNops': WHATEVER THE INPUT: true; the input reads as it did. -/
def fnNopsSpec : ChangeSpec := { name := "fnNops", fn := fun _ => fun
  | [d] => { results := [.lit (.bool true)], args := [d] }
  | _ => none }
def fnNopsRow : OpenClaim := { program := "ytnbkmenlaogblaa", sum := "c30e87cf14ff6d273a701ccf4c69155d7eb97f751fc20791fd09230a7735de65", func := "loop.example/g00985/laws.FnNops", spec := "fnNops", inPlace := ["slices.overlaps[loop.example/g00985/impl.Ins]"], unfollowed := true, recurses := true, apart := false }
def FnNopsSaid : Prop := fnNopsRow.holds Try.pinned (OpenSpec.ofChange fnNopsSpec)

/-- ITS FALSE NEIGHBOUR: 'it returns false'. Refute it at one input. -/
def fnNopsWrong : ChangeSpec := { name := "fnNops", fn := fun _ => fun
  | [d] => { results := [.lit (.bool false)], args := [d] }
  | _ => none }
def FnNopsWrongFalsely : Prop := fnNopsRow.holds Try.pinned (OpenSpec.ofChange fnNopsWrong)

/- THE SECOND FORM. 'bulk': how many values and letters a reading holds, each counted each time it is reached (what is shared counts as often as it is met; a slice's spare places count too). A statement '..UptoSaid' is the law's where the arguments, and the package variables that the reading takes, are together of bulk at most 1048576: NARROWER than '..Said'. Prove '..Said' where nothing that the law and all that it calls make is longer than what came in: it says more and counts as full. Else prove '..UptoSaid'. A law counts once. -/
mutual
def uptoBulk {H : Type} : DataW H → Nat
  | .lit (.string bytes) => bytes.length + 1
  | .lit _ => 1
  | .nil => 1
  | .ptr d => uptoBulk d + 1
  | .slice elems spare => uptoBulkAll elems + uptoBulkAll spare + 1
  | .agg parts => uptoBulkAll parts + 1
  | .iface _ d => uptoBulk d + 1
  | .map entries => uptoBulkEntries entries + 1
  | .held _ => 1
def uptoBulkAll {H : Type} : List (DataW H) → Nat
  | [] => 0
  | d :: r => uptoBulk d + uptoBulkAll r
def uptoBulkEntries {H : Type} : List (Lit × DataW H) → Nat
  | [] => 0
  | x :: r => uptoBulkEntry x + uptoBulkEntries r
def uptoBulkEntry {H : Type} : Lit × DataW H → Nat
  | (.string bytes, d) => bytes.length + uptoBulk d + 1
  | (_, d) => uptoBulk d + 1
 end
def uptoSmall : (H : Type) → List (DataW H) → Bool := fun _ ds => decide (uptoBulkAll ds ≤ 1048576)
def OpenSpec.upto (s : _root_.Go.ChangeSpec) : _root_.Go.OpenSpec := { _root_.Go.OpenSpec.ofChange s with cond := some uptoSmall }

/-- 'laws.FnExactCanStep', WHERE WHAT IT READS IS OF BULK AT MOST 1048576: true; the input reads as it did. -/
def fnExactCanStepUptoRow : OpenClaim := { program := "ytnbkmenlaogblaa", sum := "c30e87cf14ff6d273a701ccf4c69155d7eb97f751fc20791fd09230a7735de65", func := "loop.example/g00985/laws.FnExactCanStep", spec := "fnExactCanStep", unfollowed := true, recurses := true, apart := false, narrowed := true }
def FnExactCanStepUptoSaid : Prop := fnExactCanStepUptoRow.holds Try.pinned (OpenSpec.upto fnExactCanStepSpec)

/-- 'laws.FnExactPickWarp', WHERE WHAT IT READS IS OF BULK AT MOST 1048576: true; the input reads as it did. -/
def fnExactPickWarpUptoRow : OpenClaim := { program := "ytnbkmenlaogblaa", sum := "c30e87cf14ff6d273a701ccf4c69155d7eb97f751fc20791fd09230a7735de65", func := "loop.example/g00985/laws.FnExactPickWarp", spec := "fnExactPickWarp", unfollowed := true, recurses := true, apart := false, narrowed := true }
def FnExactPickWarpUptoSaid : Prop := fnExactPickWarpUptoRow.holds Try.pinned (OpenSpec.upto fnExactPickWarpSpec)

/-- 'laws.FnExactIsStuck', WHERE WHAT IT READS IS OF BULK AT MOST 1048576: true; the input reads as it did. -/
def fnExactIsStuckUptoRow : OpenClaim := { program := "ytnbkmenlaogblaa", sum := "c30e87cf14ff6d273a701ccf4c69155d7eb97f751fc20791fd09230a7735de65", func := "loop.example/g00985/laws.FnExactIsStuck", spec := "fnExactIsStuck", unfollowed := true, recurses := true, apart := false, narrowed := true }
def FnExactIsStuckUptoSaid : Prop := fnExactIsStuckUptoRow.holds Try.pinned (OpenSpec.upto fnExactIsStuckSpec)

/-- 'laws.FnExactStuckReason', WHERE WHAT IT READS IS OF BULK AT MOST 1048576: true; the input reads as it did. -/
def fnExactStuckReasonUptoRow : OpenClaim := { program := "ytnbkmenlaogblaa", sum := "c30e87cf14ff6d273a701ccf4c69155d7eb97f751fc20791fd09230a7735de65", func := "loop.example/g00985/laws.FnExactStuckReason", spec := "fnExactStuckReason", unfollowed := true, recurses := true, apart := false, narrowed := true }
def FnExactStuckReasonUptoSaid : Prop := fnExactStuckReasonUptoRow.holds Try.pinned (OpenSpec.upto fnExactStuckReasonSpec)

/-- 'laws.FnExactWithMemory', WHERE WHAT IT READS IS OF BULK AT MOST 1048576: true; the input reads as it did. -/
def fnExactWithMemoryUptoRow : OpenClaim := { program := "ytnbkmenlaogblaa", sum := "c30e87cf14ff6d273a701ccf4c69155d7eb97f751fc20791fd09230a7735de65", func := "loop.example/g00985/laws.FnExactWithMemory", spec := "fnExactWithMemory", unfollowed := true, recurses := true, apart := false, narrowed := true }
def FnExactWithMemoryUptoSaid : Prop := fnExactWithMemoryUptoRow.holds Try.pinned (OpenSpec.upto fnExactWithMemorySpec)

/-- 'laws.FnExactBarriersSafe', WHERE WHAT IT READS IS OF BULK AT MOST 1048576: true; the input reads as it did. -/
def fnExactBarriersSafeUptoRow : OpenClaim := { program := "ytnbkmenlaogblaa", sum := "c30e87cf14ff6d273a701ccf4c69155d7eb97f751fc20791fd09230a7735de65", func := "loop.example/g00985/laws.FnExactBarriersSafe", spec := "fnExactBarriersSafe", unfollowed := true, recurses := true, apart := false, narrowed := true }
def FnExactBarriersSafeUptoSaid : Prop := fnExactBarriersSafeUptoRow.holds Try.pinned (OpenSpec.upto fnExactBarriersSafeSpec)

/-- 'laws.FnEnds', WHERE WHAT IT READS IS OF BULK AT MOST 1048576: true; the input reads as it did. -/
def fnEndsUptoRow : OpenClaim := { program := "ytnbkmenlaogblaa", sum := "c30e87cf14ff6d273a701ccf4c69155d7eb97f751fc20791fd09230a7735de65", func := "loop.example/g00985/laws.FnEnds", spec := "fnEnds", unfollowed := true, recurses := true, apart := false, narrowed := true }
def FnEndsUptoSaid : Prop := fnEndsUptoRow.holds Try.pinned (OpenSpec.upto fnEndsSpec)

/-- 'laws.FnNops', WHERE WHAT IT READS IS OF BULK AT MOST 1048576: true; the input reads as it did. -/
def fnNopsUptoRow : OpenClaim := { program := "ytnbkmenlaogblaa", sum := "c30e87cf14ff6d273a701ccf4c69155d7eb97f751fc20791fd09230a7735de65", func := "loop.example/g00985/laws.FnNops", spec := "fnNops", inPlace := ["slices.overlaps[loop.example/g00985/impl.Ins]"], unfollowed := true, recurses := true, apart := false, narrowed := true }
def FnNopsUptoSaid : Prop := fnNopsUptoRow.holds Try.pinned (OpenSpec.upto fnNopsSpec)

end Rows
end Go.Proofs.Ytnbkmenlaogblaa
