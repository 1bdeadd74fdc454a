/-
  No cell of these rows narrows 'for every input' (looked for: loops, veiled, ifaces, maps, wideKeys, modest, calm, conditions, laid).
  DERIVED. THE GIVEN ROWS OF THIS SEAT. 6 by the template 'for every input the law returns true; each argument reads behind the call as it read before'; 0 by the template 'total and deterministic' (their statements: YtkpfabigipedcaaGreatTotals.lean).
  GIVEN WITH THE SEED: the statements are not yours to turn. If you find one false, say at which input.
  Laid BY PROGRAM, IN A SANDBOX (cutbox-rows.mjs): the forced cells as the released guide's own fill.sh prints them over the translation 2c5bd878e57d63d2… (all of the seat's roots in one cut). By AI agents, Wed Nov 11 2026. No macro, syntax, notation, axiom, sorry.
-/
import Derived.Test.YtkpfabigipedcaaGreatChecked
import GoSem.Claim
import GoSem.ClaimJoined
import GoSem.ClaimMapViews
import Derived.JoinedTies
import Derived.KernelRfl
namespace Go.Proofs.YtkpfabigipedcaaGreat
/- THE CELL 'sum', in the pinned program and in every row, IS THE sha256 OF THE DUMP (.gsa) THAT YtkpfabigipedcaaGreatProg.lean LOADS. Nothing in Lean hashes anything: it is a label: what it is worth is what the hold of that sum in a sandbox is worth. -/
noncomputable def Tryz.pinned : Pinned := { name := "ytkpfabigipedcaagreat", sum := "2c5bd878e57d63d274aaa98fcb52dfcd30fa254ca871645ef13de1e4d840913a", checked := Tryz.checked }
namespace Rows
def none {H : Type} : Left H := { results := [], args := [] }

/-- 'laws.FnExactAccessesOf': WHATEVER THE INPUT: true; the input reads as it did. -/
def fnExactAccessesOfSpec : ChangeSpec := { name := "fnExactAccessesOf", fn := fun _ => fun
  | [d1, d2] => { results := [.lit (.bool true)], args := [d1, d2] }
  | _ => none }
def fnExactAccessesOfRow : OpenClaim := { program := "ytkpfabigipedcaagreat", sum := "2c5bd878e57d63d274aaa98fcb52dfcd30fa254ca871645ef13de1e4d840913a", func := "loop.example/g00985/laws.FnExactAccessesOf", spec := "fnExactAccessesOf", unfollowed := true, recurses := true, plainKeys := false, apart := false }
def FnExactAccessesOfSaid : Prop := fnExactAccessesOfRow.holds Tryz.pinned (OpenSpec.ofChange fnExactAccessesOfSpec)

/-- ITS FALSE NEIGHBOUR: 'it returns false'. Refute it at one input. -/
def fnExactAccessesOfWrong : ChangeSpec := { name := "fnExactAccessesOf", fn := fun _ => fun
  | [d1, d2] => { results := [.lit (.bool false)], args := [d1, d2] }
  | _ => none }
def FnExactAccessesOfWrongFalsely : Prop := fnExactAccessesOfRow.holds Tryz.pinned (OpenSpec.ofChange fnExactAccessesOfWrong)

/-- 'laws.FnWaits': WHATEVER THE INPUT: true; the input reads as it did. -/
def fnWaitsSpec : ChangeSpec := { name := "fnWaits", fn := fun _ => fun
  | [d] => { results := [.lit (.bool true)], args := [d] }
  | _ => none }
def fnWaitsRow : OpenClaim := { program := "ytkpfabigipedcaagreat", sum := "2c5bd878e57d63d274aaa98fcb52dfcd30fa254ca871645ef13de1e4d840913a", func := "loop.example/g00985/laws.FnWaits", spec := "fnWaits", unfollowed := true, recurses := true, plainKeys := false, apart := false }
def FnWaitsSaid : Prop := fnWaitsRow.holds Tryz.pinned (OpenSpec.ofChange fnWaitsSpec)

/-- ITS FALSE NEIGHBOUR: 'it returns false'. Refute it at one input. -/
def fnWaitsWrong : ChangeSpec := { name := "fnWaits", fn := fun _ => fun
  | [d] => { results := [.lit (.bool false)], args := [d] }
  | _ => none }
def FnWaitsWrongFalsely : Prop := fnWaitsRow.holds Tryz.pinned (OpenSpec.ofChange fnWaitsWrong)

/-- 'laws.FnBlockSteps': WHATEVER THE INPUT: true; the input reads as it did. -/
def fnBlockStepsSpec : ChangeSpec := { name := "fnBlockSteps", fn := fun _ => fun
  | [d] => { results := [.lit (.bool true)], args := [d] }
  | _ => none }
def fnBlockStepsRow : OpenClaim := { program := "ytkpfabigipedcaagreat", sum := "2c5bd878e57d63d274aaa98fcb52dfcd30fa254ca871645ef13de1e4d840913a", func := "loop.example/g00985/laws.FnBlockSteps", spec := "fnBlockSteps", unfollowed := true, recurses := true, plainKeys := false, apart := false }
def FnBlockStepsSaid : Prop := fnBlockStepsRow.holds Tryz.pinned (OpenSpec.ofChange fnBlockStepsSpec)

/-- ITS FALSE NEIGHBOUR: 'it returns false'. Refute it at one input. -/
def fnBlockStepsWrong : ChangeSpec := { name := "fnBlockSteps", fn := fun _ => fun
  | [d] => { results := [.lit (.bool false)], args := [d] }
  | _ => none }
def FnBlockStepsWrongFalsely : Prop := fnBlockStepsRow.holds Tryz.pinned (OpenSpec.ofChange fnBlockStepsWrong)

/-- 'laws.FnPicks': WHATEVER THE INPUT: true; the input reads as it did. -/
def fnPicksSpec : ChangeSpec := { name := "fnPicks", fn := fun _ => fun
  | [d] => { results := [.lit (.bool true)], args := [d] }
  | _ => none }
def fnPicksRow : OpenClaim := { program := "ytkpfabigipedcaagreat", sum := "2c5bd878e57d63d274aaa98fcb52dfcd30fa254ca871645ef13de1e4d840913a", func := "loop.example/g00985/laws.FnPicks", spec := "fnPicks", unfollowed := true, recurses := true, plainKeys := false, apart := false }
def FnPicksSaid : Prop := fnPicksRow.holds Tryz.pinned (OpenSpec.ofChange fnPicksSpec)

/-- ITS FALSE NEIGHBOUR: 'it returns false'. Refute it at one input. -/
def fnPicksWrong : ChangeSpec := { name := "fnPicks", fn := fun _ => fun
  | [d] => { results := [.lit (.bool false)], args := [d] }
  | _ => none }
def FnPicksWrongFalsely : Prop := fnPicksRow.holds Tryz.pinned (OpenSpec.ofChange fnPicksWrong)

/-- 'laws.FnBarriers': WHATEVER THE INPUT: true; the input reads as it did. -/
def fnBarriersSpec : ChangeSpec := { name := "fnBarriers", fn := fun _ => fun
  | [d] => { results := [.lit (.bool true)], args := [d] }
  | _ => none }
def fnBarriersRow : OpenClaim := { program := "ytkpfabigipedcaagreat", sum := "2c5bd878e57d63d274aaa98fcb52dfcd30fa254ca871645ef13de1e4d840913a", func := "loop.example/g00985/laws.FnBarriers", spec := "fnBarriers", unfollowed := true, recurses := true, plainKeys := false, apart := false }
def FnBarriersSaid : Prop := fnBarriersRow.holds Tryz.pinned (OpenSpec.ofChange fnBarriersSpec)

/-- ITS FALSE NEIGHBOUR: 'it returns false'. Refute it at one input. -/
def fnBarriersWrong : ChangeSpec := { name := "fnBarriers", fn := fun _ => fun
  | [d] => { results := [.lit (.bool false)], args := [d] }
  | _ => none }
def FnBarriersWrongFalsely : Prop := fnBarriersRow.holds Tryz.pinned (OpenSpec.ofChange fnBarriersWrong)

/-- 'laws.FnLogs': WHATEVER THE INPUT: true; the input reads as it did. -/
def fnLogsSpec : ChangeSpec := { name := "fnLogs", fn := fun _ => fun
  | [d] => { results := [.lit (.bool true)], args := [d] }
  | _ => none }
def fnLogsRow : OpenClaim := { program := "ytkpfabigipedcaagreat", sum := "2c5bd878e57d63d274aaa98fcb52dfcd30fa254ca871645ef13de1e4d840913a", func := "loop.example/g00985/laws.FnLogs", spec := "fnLogs", unfollowed := true, recurses := true, plainKeys := false, apart := false }
def FnLogsSaid : Prop := fnLogsRow.holds Tryz.pinned (OpenSpec.ofChange fnLogsSpec)

/-- ITS FALSE NEIGHBOUR: 'it returns false'. Refute it at one input. -/
def fnLogsWrong : ChangeSpec := { name := "fnLogs", fn := fun _ => fun
  | [d] => { results := [.lit (.bool false)], args := [d] }
  | _ => none }
def FnLogsWrongFalsely : Prop := fnLogsRow.holds Tryz.pinned (OpenSpec.ofChange fnLogsWrong)

/- THE SECOND FORM. 'bulk': how many values and letters a reading holds, each counted each time it is reached (what is shared counts as often as it is met; a slice's spare places count too). A statement '..UptoSaid' is the law's where the arguments, and the package variables that the reading takes, are together of bulk at most 1048576: NARROWER than '..Said'. Prove '..Said' where nothing that the law and all that it calls make is longer than what came in: it says more and counts as full. Else prove '..UptoSaid'. A law counts once. -/
mutual
def uptoBulk {H : Type} : DataW H → Nat
  | .lit (.string bytes) => bytes.length + 1
  | .lit _ => 1
  | .nil => 1
  | .ptr d => uptoBulk d + 1
  | .slice elems spare => uptoBulkAll elems + uptoBulkAll spare + 1
  | .agg parts => uptoBulkAll parts + 1
  | .iface _ d => uptoBulk d + 1
  | .map entries => uptoBulkEntries entries + 1
  | .held _ => 1
def uptoBulkAll {H : Type} : List (DataW H) → Nat
  | [] => 0
  | d :: r => uptoBulk d + uptoBulkAll r
def uptoBulkEntries {H : Type} : List (Lit × DataW H) → Nat
  | [] => 0
  | x :: r => uptoBulkEntry x + uptoBulkEntries r
def uptoBulkEntry {H : Type} : Lit × DataW H → Nat
  | (.string bytes, d) => bytes.length + uptoBulk d + 1
  | (_, d) => uptoBulk d + 1
 end
def uptoSmall : (H : Type) → List (DataW H) → Bool := fun _ ds => decide (uptoBulkAll ds ≤ 1048576)
def OpenSpec.upto (s : _root_.Go.ChangeSpec) : _root_.Go.OpenSpec := { _root_.Go.OpenSpec.ofChange s with cond := some uptoSmall }

/-- 'laws.FnExactAccessesOf', WHERE WHAT IT READS IS OF BULK AT MOST 1048576: true; the input reads as it did. -/
def fnExactAccessesOfUptoRow : OpenClaim := { program := "ytkpfabigipedcaagreat", sum := "2c5bd878e57d63d274aaa98fcb52dfcd30fa254ca871645ef13de1e4d840913a", func := "loop.example/g00985/laws.FnExactAccessesOf", spec := "fnExactAccessesOf", unfollowed := true, recurses := true, plainKeys := false, apart := false, narrowed := true }
def FnExactAccessesOfUptoSaid : Prop := fnExactAccessesOfUptoRow.holds Tryz.pinned (OpenSpec.upto fnExactAccessesOfSpec)

/-- 'laws.FnWaits', WHERE WHAT IT READS IS OF BULK AT MOST 1048576: true; the input reads as it did. -/
def fnWaitsUptoRow : OpenClaim := { program := "ytkpfabigipedcaagreat", sum := "2c5bd878e57d63d274aaa98fcb52dfcd30fa254ca871645ef13de1e4d840913a", func := "loop.example/g00985/laws.FnWaits", spec := "fnWaits", unfollowed := true, recurses := true, plainKeys := false, apart := false, narrowed := true }
def FnWaitsUptoSaid : Prop := fnWaitsUptoRow.holds Tryz.pinned (OpenSpec.upto fnWaitsSpec)

/-- 'laws.FnBlockSteps', WHERE WHAT IT READS IS OF BULK AT MOST 1048576: true; the input reads as it did. -/
def fnBlockStepsUptoRow : OpenClaim := { program := "ytkpfabigipedcaagreat", sum := "2c5bd878e57d63d274aaa98fcb52dfcd30fa254ca871645ef13de1e4d840913a", func := "loop.example/g00985/laws.FnBlockSteps", spec := "fnBlockSteps", unfollowed := true, recurses := true, plainKeys := false, apart := false, narrowed := true }
def FnBlockStepsUptoSaid : Prop := fnBlockStepsUptoRow.holds Tryz.pinned (OpenSpec.upto fnBlockStepsSpec)

/-- 'laws.FnPicks', WHERE WHAT IT READS IS OF BULK AT MOST 1048576: true; the input reads as it did. -/
def fnPicksUptoRow : OpenClaim := { program := "ytkpfabigipedcaagreat", sum := "2c5bd878e57d63d274aaa98fcb52dfcd30fa254ca871645ef13de1e4d840913a", func := "loop.example/g00985/laws.FnPicks", spec := "fnPicks", unfollowed := true, recurses := true, plainKeys := false, apart := false, narrowed := true }
def FnPicksUptoSaid : Prop := fnPicksUptoRow.holds Tryz.pinned (OpenSpec.upto fnPicksSpec)

/-- 'laws.FnBarriers', WHERE WHAT IT READS IS OF BULK AT MOST 1048576: true; the input reads as it did. -/
def fnBarriersUptoRow : OpenClaim := { program := "ytkpfabigipedcaagreat", sum := "2c5bd878e57d63d274aaa98fcb52dfcd30fa254ca871645ef13de1e4d840913a", func := "loop.example/g00985/laws.FnBarriers", spec := "fnBarriers", unfollowed := true, recurses := true, plainKeys := false, apart := false, narrowed := true }
def FnBarriersUptoSaid : Prop := fnBarriersUptoRow.holds Tryz.pinned (OpenSpec.upto fnBarriersSpec)

/-- 'laws.FnLogs', WHERE WHAT IT READS IS OF BULK AT MOST 1048576: true; the input reads as it did. -/
def fnLogsUptoRow : OpenClaim := { program := "ytkpfabigipedcaagreat", sum := "2c5bd878e57d63d274aaa98fcb52dfcd30fa254ca871645ef13de1e4d840913a", func := "loop.example/g00985/laws.FnLogs", spec := "fnLogs", unfollowed := true, recurses := true, plainKeys := false, apart := false, narrowed := true }
def FnLogsUptoSaid : Prop := fnLogsUptoRow.holds Tryz.pinned (OpenSpec.upto fnLogsSpec)

end Rows
end Go.Proofs.YtkpfabigipedcaaGreat
