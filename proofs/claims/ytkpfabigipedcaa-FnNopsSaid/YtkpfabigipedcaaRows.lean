/-
  No cell of these rows narrows 'for every input' (looked for: loops, veiled, ifaces, maps, wideKeys, modest, calm, conditions, laid).
  DERIVED. THE GIVEN ROWS OF THIS SEAT. 3 by the template 'for every input the law returns true; each argument reads behind the call as it read before'; 0 by the template 'total and deterministic' (their statements: YtkpfabigipedcaaTotals.lean).
  GIVEN WITH THE SEED: the statements are not yours to turn. If you find one false, say at which input.
  Laid BY PROGRAM, IN A SANDBOX (cutbox-rows.mjs): the forced cells as the released guide's own fill.sh prints them over the translation 1d0c67a9e1a7e64f… (all of the seat's roots in one cut). By AI agents, Wed Nov 11 2026. No macro, syntax, notation, axiom, sorry.
-/
import Derived.Test.YtkpfabigipedcaaChecked
import GoSem.Claim
import GoSem.ClaimJoined
import GoSem.ClaimMapViews
import Derived.JoinedTies
import Derived.KernelRfl
namespace Go.Proofs.Ytkpfabigipedcaa
/- THE CELL 'sum', in the pinned program and in every row, IS THE sha256 OF THE DUMP (.gsa) THAT YtkpfabigipedcaaProg.lean LOADS. Nothing in Lean hashes anything: it is a label: what it is worth is what the hold of that sum in a sandbox is worth. -/
noncomputable def Try.pinned : Pinned := { name := "ytkpfabigipedcaa", sum := "1d0c67a9e1a7e64f79c0843e18846f5c115bf7cd32993d36723a0ef4d1c0a28e", checked := Try.checked }
namespace Rows
def none {H : Type} : Left H := { results := [], args := [] }

/-- 'laws.FnExactAddAccesses': WHATEVER THE INPUT: true; the input reads as it did. -/
def fnExactAddAccessesSpec : ChangeSpec := { name := "fnExactAddAccesses", fn := fun _ => fun
  | [d1, d2] => { results := [.lit (.bool true)], args := [d1, d2] }
  | _ => none }
def fnExactAddAccessesRow : OpenClaim := { program := "ytkpfabigipedcaa", sum := "1d0c67a9e1a7e64f79c0843e18846f5c115bf7cd32993d36723a0ef4d1c0a28e", func := "loop.example/g00985/laws.FnExactAddAccesses", spec := "fnExactAddAccesses", plainKeys := false, apart := false }
def FnExactAddAccessesSaid : Prop := fnExactAddAccessesRow.holds Try.pinned (OpenSpec.ofChange fnExactAddAccessesSpec)

/-- ITS FALSE NEIGHBOUR: 'it returns false'. Refute it at one input. -/
def fnExactAddAccessesWrong : ChangeSpec := { name := "fnExactAddAccesses", fn := fun _ => fun
  | [d1, d2] => { results := [.lit (.bool false)], args := [d1, d2] }
  | _ => none }
def FnExactAddAccessesWrongFalsely : Prop := fnExactAddAccessesRow.holds Try.pinned (OpenSpec.ofChange fnExactAddAccessesWrong)

/-- 'laws.FnExactFirstRace': WHATEVER THE INPUT: true; the input reads as it did. -/
def fnExactFirstRaceSpec : ChangeSpec := { name := "fnExactFirstRace", fn := fun _ => fun
  | [d] => { results := [.lit (.bool true)], args := [d] }
  | _ => none }
def fnExactFirstRaceRow : OpenClaim := { program := "ytkpfabigipedcaa", sum := "1d0c67a9e1a7e64f79c0843e18846f5c115bf7cd32993d36723a0ef4d1c0a28e", func := "loop.example/g00985/laws.FnExactFirstRace", spec := "fnExactFirstRace", plainKeys := false, apart := false }
def FnExactFirstRaceSaid : Prop := fnExactFirstRaceRow.holds Try.pinned (OpenSpec.ofChange fnExactFirstRaceSpec)

/-- ITS FALSE NEIGHBOUR: 'it returns false'. Refute it at one input. -/
def fnExactFirstRaceWrong : ChangeSpec := { name := "fnExactFirstRace", fn := fun _ => fun
  | [d] => { results := [.lit (.bool false)], args := [d] }
  | _ => none }
def FnExactFirstRaceWrongFalsely : Prop := fnExactFirstRaceRow.holds Try.pinned (OpenSpec.ofChange fnExactFirstRaceWrong)

/-- 'laws.FnNops': WHATEVER THE INPUT: true; the input reads as it did. -/
def fnNopsSpec : ChangeSpec := { name := "fnNops", fn := fun _ => fun
  | [d] => { results := [.lit (.bool true)], args := [d] }
  | _ => none }
def fnNopsRow : OpenClaim := { program := "ytkpfabigipedcaa", sum := "1d0c67a9e1a7e64f79c0843e18846f5c115bf7cd32993d36723a0ef4d1c0a28e", func := "loop.example/g00985/laws.FnNops", spec := "fnNops", inPlace := ["slices.overlaps[loop.example/g00985/impl.Ins]"], unfollowed := true, recurses := true, plainKeys := false, apart := false }
def FnNopsSaid : Prop := fnNopsRow.holds Try.pinned (OpenSpec.ofChange fnNopsSpec)

/-- ITS FALSE NEIGHBOUR: 'it returns false'. Refute it at one input. -/
def fnNopsWrong : ChangeSpec := { name := "fnNops", fn := fun _ => fun
  | [d] => { results := [.lit (.bool false)], args := [d] }
  | _ => none }
def FnNopsWrongFalsely : Prop := fnNopsRow.holds Try.pinned (OpenSpec.ofChange fnNopsWrong)

/- THE SECOND FORM. 'bulk': how many values and letters a reading holds, each counted each time it is reached (what is shared counts as often as it is met; a slice's spare places count too). A statement '..UptoSaid' is the law's where the arguments, and the package variables that the reading takes, are together of bulk at most 1048576: NARROWER than '..Said'. Prove '..Said' where nothing that the law and all that it calls make is longer than what came in: it says more and counts as full. Else prove '..UptoSaid'. A law counts once. -/
mutual
def uptoBulk {H : Type} : DataW H → Nat
  | .lit (.string bytes) => bytes.length + 1
  | .lit _ => 1
  | .nil => 1
  | .ptr d => uptoBulk d + 1
  | .slice elems spare => uptoBulkAll elems + uptoBulkAll spare + 1
  | .agg parts => uptoBulkAll parts + 1
  | .iface _ d => uptoBulk d + 1
  | .map entries => uptoBulkEntries entries + 1
  | .held _ => 1
def uptoBulkAll {H : Type} : List (DataW H) → Nat
  | [] => 0
  | d :: r => uptoBulk d + uptoBulkAll r
def uptoBulkEntries {H : Type} : List (Lit × DataW H) → Nat
  | [] => 0
  | x :: r => uptoBulkEntry x + uptoBulkEntries r
def uptoBulkEntry {H : Type} : Lit × DataW H → Nat
  | (.string bytes, d) => bytes.length + uptoBulk d + 1
  | (_, d) => uptoBulk d + 1
 end
def uptoSmall : (H : Type) → List (DataW H) → Bool := fun _ ds => decide (uptoBulkAll ds ≤ 1048576)
def OpenSpec.upto (s : _root_.Go.ChangeSpec) : _root_.Go.OpenSpec := { _root_.Go.OpenSpec.ofChange s with cond := some uptoSmall }

/-- 'laws.FnExactAddAccesses', WHERE WHAT IT READS IS OF BULK AT MOST 1048576: true; the input reads as it did. -/
def fnExactAddAccessesUptoRow : OpenClaim := { program := "ytkpfabigipedcaa", sum := "1d0c67a9e1a7e64f79c0843e18846f5c115bf7cd32993d36723a0ef4d1c0a28e", func := "loop.example/g00985/laws.FnExactAddAccesses", spec := "fnExactAddAccesses", plainKeys := false, apart := false, narrowed := true }
def FnExactAddAccessesUptoSaid : Prop := fnExactAddAccessesUptoRow.holds Try.pinned (OpenSpec.upto fnExactAddAccessesSpec)

/-- 'laws.FnExactFirstRace', WHERE WHAT IT READS IS OF BULK AT MOST 1048576: true; the input reads as it did. -/
def fnExactFirstRaceUptoRow : OpenClaim := { program := "ytkpfabigipedcaa", sum := "1d0c67a9e1a7e64f79c0843e18846f5c115bf7cd32993d36723a0ef4d1c0a28e", func := "loop.example/g00985/laws.FnExactFirstRace", spec := "fnExactFirstRace", plainKeys := false, apart := false, narrowed := true }
def FnExactFirstRaceUptoSaid : Prop := fnExactFirstRaceUptoRow.holds Try.pinned (OpenSpec.upto fnExactFirstRaceSpec)

/-- 'laws.FnNops', WHERE WHAT IT READS IS OF BULK AT MOST 1048576: true; the input reads as it did. -/
def fnNopsUptoRow : OpenClaim := { program := "ytkpfabigipedcaa", sum := "1d0c67a9e1a7e64f79c0843e18846f5c115bf7cd32993d36723a0ef4d1c0a28e", func := "loop.example/g00985/laws.FnNops", spec := "fnNops", inPlace := ["slices.overlaps[loop.example/g00985/impl.Ins]"], unfollowed := true, recurses := true, plainKeys := false, apart := false, narrowed := true }
def FnNopsUptoSaid : Prop := fnNopsUptoRow.holds Try.pinned (OpenSpec.upto fnNopsSpec)

end Rows
end Go.Proofs.Ytkpfabigipedcaa
