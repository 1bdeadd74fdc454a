import Derived.Test.YtliafnobehfehaaProg
import Derived.Test.YtliafnobehfehaaVEq
import Derived.Test.YtliafnobehfehaaVDeep
namespace Go.V
open Go.Proofs
set_option maxRecDepth 100000

theorem mixed : Try.prog.follows .mixedOrders = true := by kernel_rfl
def el3 : El Int := { sz := 1, tid := 3, enc := fun x => [(.int .i64 x)], len := fun _ => rfl, pos := by decide, one := fun _ => rfl }
def el5 : El Int := { sz := 1, tid := 5, enc := fun x => [(.int .u8 x)], len := fun _ => rfl, pos := by decide, one := fun _ => rfl }
def el9 : El ByteArray := { sz := 1, tid := 9, enc := fun x => [(.string x)], len := fun _ => rfl, pos := by decide, one := fun _ => rfl }
def el81 : El D.Access := { sz := 4, tid := 81, enc := fun x => [(.int .i64 x.Phase), (.int .i64 x.Warp), (.int .i64 x.Address), (.int .i64 x.Kind)], len := fun _ => rfl, pos := by decide, one := fun _ => rfl }
def el83 : El D.Access := { sz := 4, tid := 83, enc := fun x => [(.int .i64 x.Phase), (.int .i64 x.Warp), (.int .i64 x.Address), (.int .i64 x.Kind)], len := fun _ => rfl, pos := by decide, one := fun _ => rfl }
def el99 : El D.Ins := { sz := 4, tid := 99, enc := fun x => [(.int .i64 x.Op), (.int .i64 x.A), (.int .i64 x.B), (.int .i64 x.C)], len := fun _ => rfl, pos := by decide, one := fun _ => rfl }
def el109 : El D.Ins := { sz := 4, tid := 109, enc := fun x => [(.int .i64 x.Op), (.int .i64 x.A), (.int .i64 x.B), (.int .i64 x.C)], len := fun _ => rfl, pos := by decide, one := fun _ => rfl }
def el134 : El D.Frame := { sz := 3, tid := 134, enc := fun x => [(.int .i64 x.Pc), (.int .i64 x.Stop), (.int .i64 x.Mask)], len := fun _ => rfl, pos := by decide, one := fun _ => rfl }
def el158 : El D.Frame := { sz := 3, tid := 158, enc := fun x => [(.int .i64 x.Pc), (.int .i64 x.Stop), (.int .i64 x.Mask)], len := fun _ => rfl, pos := by decide, one := fun _ => rfl }
theorem slt24_u : Try.prog.underlying 24 = some (.slice 99) := by kernel_rfl
theorem slt24_i : (Try.prog.info? 99).map (fun i => (i.size, i.zero.map (·.cells), Nat.ble i.bytes 1024, Nat.beq i.bytes 0)) = some (el99.sz, some (el99.enc default).toArray, true, false) := by kernel_rfl
theorem slt24 : SlT Try.prog el99 24 := sltOf slt24_u slt24_i
theorem slt25_u : Try.prog.underlying 25 = some (.slice 3) := by kernel_rfl
theorem slt25_i : (Try.prog.info? 3).map (fun i => (i.size, i.zero.map (·.cells), Nat.ble i.bytes 1024, Nat.beq i.bytes 0)) = some (el3.sz, some (el3.enc default).toArray, true, false) := by kernel_rfl
theorem slt25 : SlT Try.prog el3 25 := sltOf slt25_u slt25_i
theorem slt38_u : Try.prog.underlying 38 = some (.slice 81) := by kernel_rfl
theorem slt38_i : (Try.prog.info? 81).map (fun i => (i.size, i.zero.map (·.cells), Nat.ble i.bytes 1024, Nat.beq i.bytes 0)) = some (el81.sz, some (el81.enc default).toArray, true, false) := by kernel_rfl
theorem slt38 : SlT Try.prog el81 38 := sltOf slt38_u slt38_i
theorem slt46_u : Try.prog.underlying 46 = some (.slice 96) := by kernel_rfl
theorem slt46_i : (Try.prog.info? 96).map (fun i => (i.size, i.zero.map (·.cells), Nat.ble i.bytes 1024, Nat.beq i.bytes 0)) = some ((elH 96).sz, some ((elH 96).enc default).toArray, true, false) := by kernel_rfl
theorem slt46 : SlT Try.prog (elH 96) 46 := sltOf slt46_u slt46_i
theorem slt94_u : Try.prog.underlying 94 = some (.slice 134) := by kernel_rfl
theorem slt94_i : (Try.prog.info? 134).map (fun i => (i.size, i.zero.map (·.cells), Nat.ble i.bytes 1024, Nat.beq i.bytes 0)) = some (el134.sz, some (el134.enc default).toArray, true, false) := by kernel_rfl
theorem slt94 : SlT Try.prog el134 94 := sltOf slt94_u slt94_i
theorem run_eql99 (a0 a1 a2 a3 b0 b1 b2 b3 : Int) : ∀ w, (eqGuard .eql 99 (.const undef) (.const undef) (.agg #[.int .i64 a0, .int .i64 a1, .int .i64 a2, .int .i64 a3]) (.agg #[.int .i64 b0, .int .i64 b1, .int .i64 b2, .int .i64 b3]) >>= fun _ => binOp .eql 99 (.agg #[.int .i64 a0, .int .i64 a1, .int .i64 a2, .int .i64 a3]) (.agg #[.int .i64 b0, .int .i64 b1, .int .i64 b2, .int .i64 b3])).run Try.prog w = .ok (.bool ((a0 == b0) && (a1 == b1) && (a2 == b2) && (a3 == b3))) w := by
  intro w
  have h := runEql (P := Try.prog) (t := 99) (xs := [a0, a1, a2, a3]) (ys := [b0, b1, b2, b3]) (by kernel_rfl) (by kernel_rfl) (by kernel_rfl) (by kernel_rfl) rfl (.const undef) (.const undef) w
  rw [show ((a0 == b0) && (a1 == b1) && (a2 == b2) && (a3 == b3)) = (List.all (List.zip [a0, a1, a2, a3] [b0, b1, b2, b3]) fun p => p.1 == p.2) from by simp [Bool.and_assoc]]
  exact h
theorem run_neq99 (a0 a1 a2 a3 b0 b1 b2 b3 : Int) : ∀ w, (eqGuard .neq 99 (.const undef) (.const undef) (.agg #[.int .i64 a0, .int .i64 a1, .int .i64 a2, .int .i64 a3]) (.agg #[.int .i64 b0, .int .i64 b1, .int .i64 b2, .int .i64 b3]) >>= fun _ => binOp .neq 99 (.agg #[.int .i64 a0, .int .i64 a1, .int .i64 a2, .int .i64 a3]) (.agg #[.int .i64 b0, .int .i64 b1, .int .i64 b2, .int .i64 b3])).run Try.prog w = .ok (.bool (!((a0 == b0) && (a1 == b1) && (a2 == b2) && (a3 == b3)))) w := by
  intro w
  have h := runNeq (P := Try.prog) (t := 99) (xs := [a0, a1, a2, a3]) (ys := [b0, b1, b2, b3]) (by kernel_rfl) (by kernel_rfl) (by kernel_rfl) (by kernel_rfl) rfl (.const undef) (.const undef) w
  rw [show ((a0 == b0) && (a1 == b1) && (a2 == b2) && (a3 == b3)) = (List.all (List.zip [a0, a1, a2, a3] [b0, b1, b2, b3]) fun p => p.1 == p.2) from by simp [Bool.and_assoc]]
  exact h
theorem run_eql134 (a0 a1 a2 b0 b1 b2 : Int) : ∀ w, (eqGuard .eql 134 (.const undef) (.const undef) (.agg #[.int .i64 a0, .int .i64 a1, .int .i64 a2]) (.agg #[.int .i64 b0, .int .i64 b1, .int .i64 b2]) >>= fun _ => binOp .eql 134 (.agg #[.int .i64 a0, .int .i64 a1, .int .i64 a2]) (.agg #[.int .i64 b0, .int .i64 b1, .int .i64 b2])).run Try.prog w = .ok (.bool ((a0 == b0) && (a1 == b1) && (a2 == b2))) w := by
  intro w
  have h := runEql (P := Try.prog) (t := 134) (xs := [a0, a1, a2]) (ys := [b0, b1, b2]) (by kernel_rfl) (by kernel_rfl) (by kernel_rfl) (by kernel_rfl) rfl (.const undef) (.const undef) w
  rw [show ((a0 == b0) && (a1 == b1) && (a2 == b2)) = (List.all (List.zip [a0, a1, a2] [b0, b1, b2]) fun p => p.1 == p.2) from by simp [Bool.and_assoc]]
  exact h
theorem run_neq134 (a0 a1 a2 b0 b1 b2 : Int) : ∀ w, (eqGuard .neq 134 (.const undef) (.const undef) (.agg #[.int .i64 a0, .int .i64 a1, .int .i64 a2]) (.agg #[.int .i64 b0, .int .i64 b1, .int .i64 b2]) >>= fun _ => binOp .neq 134 (.agg #[.int .i64 a0, .int .i64 a1, .int .i64 a2]) (.agg #[.int .i64 b0, .int .i64 b1, .int .i64 b2])).run Try.prog w = .ok (.bool (!((a0 == b0) && (a1 == b1) && (a2 == b2)))) w := by
  intro w
  have h := runNeq (P := Try.prog) (t := 134) (xs := [a0, a1, a2]) (ys := [b0, b1, b2]) (by kernel_rfl) (by kernel_rfl) (by kernel_rfl) (by kernel_rfl) rfl (.const undef) (.const undef) w
  rw [show ((a0 == b0) && (a1 == b1) && (a2 == b2)) = (List.all (List.zip [a0, a1, a2] [b0, b1, b2]) fun p => p.1 == p.2) from by simp [Bool.and_assoc]]
  exact h
end Go.V
