import Derived.Test.YtkpfabigipedcaaProg
import Derived.Test.YtkpfabigipedcaaVMap
import Derived.Test.YtkpfabigipedcaaPure
namespace Go.V
open Go.Proofs
set_option maxRecDepth 100000

theorem mixed : Try.prog.follows .mixedOrders = true := by kernel_rfl
def el3 : El Int := { sz := 1, tid := 3, enc := fun x => [(.int .i64 x)], len := fun _ => rfl, pos := by decide, one := fun _ => rfl }
def el5 : El Int := { sz := 1, tid := 5, enc := fun x => [(.int .u8 x)], len := fun _ => rfl, pos := by decide, one := fun _ => rfl }
def el9 : El ByteArray := { sz := 1, tid := 9, enc := fun x => [(.string x)], len := fun _ => rfl, pos := by decide, one := fun _ => rfl }
def el45 : El D.Access := { sz := 4, tid := 45, enc := fun x => [(.int .i64 x.Phase), (.int .i64 x.Warp), (.int .i64 x.Address), (.int .i64 x.Kind)], len := fun _ => rfl, pos := by decide, one := fun _ => rfl }
def el47 : El D.Access := { sz := 4, tid := 47, enc := fun x => [(.int .i64 x.Phase), (.int .i64 x.Warp), (.int .i64 x.Address), (.int .i64 x.Kind)], len := fun _ => rfl, pos := by decide, one := fun _ => rfl }
def el60 : El D.Ins := { sz := 4, tid := 60, enc := fun x => [(.int .i64 x.Op), (.int .i64 x.A), (.int .i64 x.B), (.int .i64 x.C)], len := fun _ => rfl, pos := by decide, one := fun _ => rfl }
theorem km48 : KeyI Try.prog 48 45 4 4 := ⟨by kernel_rfl, by kernel_rfl, by kernel_rfl, by kernel_rfl, by kernel_rfl⟩
theorem zv48 (w : World) : (zeroValue 4).run Try.prog w = .ok (Value.bool false) w := by kernel_rfl
theorem slt24_u : Try.prog.underlying 24 = some (.slice 45) := by kernel_rfl
theorem slt24_i : (Try.prog.info? 45).map (fun i => (i.size, i.zero.map (·.cells), Nat.ble i.bytes 1024, Nat.beq i.bytes 0)) = some (el45.sz, some (el45.enc default).toArray, true, false) := by kernel_rfl
theorem slt24 : SlT Try.prog el45 24 := sltOf slt24_u slt24_i
theorem slt35_u : Try.prog.underlying 35 = some (.slice 60) := by kernel_rfl
theorem slt35_i : (Try.prog.info? 60).map (fun i => (i.size, i.zero.map (·.cells), Nat.ble i.bytes 1024, Nat.beq i.bytes 0)) = some (el60.sz, some (el60.enc default).toArray, true, false) := by kernel_rfl
theorem slt35 : SlT Try.prog el60 35 := sltOf slt35_u slt35_i
theorem slt37_u : Try.prog.underlying 37 = some (.slice 3) := by kernel_rfl
theorem slt37_i : (Try.prog.info? 3).map (fun i => (i.size, i.zero.map (·.cells), Nat.ble i.bytes 1024, Nat.beq i.bytes 0)) = some (el3.sz, some (el3.enc default).toArray, true, false) := by kernel_rfl
theorem slt37 : SlT Try.prog el3 37 := sltOf slt37_u slt37_i
theorem run_eql45 (a0 a1 a2 a3 b0 b1 b2 b3 : Int) : ∀ w, (eqGuard .eql 45 (.const undef) (.const undef) (.agg #[.int .i64 a0, .int .i64 a1, .int .i64 a2, .int .i64 a3]) (.agg #[.int .i64 b0, .int .i64 b1, .int .i64 b2, .int .i64 b3]) >>= fun _ => binOp .eql 45 (.agg #[.int .i64 a0, .int .i64 a1, .int .i64 a2, .int .i64 a3]) (.agg #[.int .i64 b0, .int .i64 b1, .int .i64 b2, .int .i64 b3])).run Try.prog w = .ok (.bool ((a0 == b0) && (a1 == b1) && (a2 == b2) && (a3 == b3))) w := by
  intro w
  have h := runEql (P := Try.prog) (t := 45) (xs := [a0, a1, a2, a3]) (ys := [b0, b1, b2, b3]) (by kernel_rfl) (by kernel_rfl) (by kernel_rfl) (by kernel_rfl) rfl (.const undef) (.const undef) w
  rw [show ((a0 == b0) && (a1 == b1) && (a2 == b2) && (a3 == b3)) = (List.all (List.zip [a0, a1, a2, a3] [b0, b1, b2, b3]) fun p => p.1 == p.2) from by simp [Bool.and_assoc]]
  exact h
theorem run_neq45 (a0 a1 a2 a3 b0 b1 b2 b3 : Int) : ∀ w, (eqGuard .neq 45 (.const undef) (.const undef) (.agg #[.int .i64 a0, .int .i64 a1, .int .i64 a2, .int .i64 a3]) (.agg #[.int .i64 b0, .int .i64 b1, .int .i64 b2, .int .i64 b3]) >>= fun _ => binOp .neq 45 (.agg #[.int .i64 a0, .int .i64 a1, .int .i64 a2, .int .i64 a3]) (.agg #[.int .i64 b0, .int .i64 b1, .int .i64 b2, .int .i64 b3])).run Try.prog w = .ok (.bool (!((a0 == b0) && (a1 == b1) && (a2 == b2) && (a3 == b3)))) w := by
  intro w
  have h := runNeq (P := Try.prog) (t := 45) (xs := [a0, a1, a2, a3]) (ys := [b0, b1, b2, b3]) (by kernel_rfl) (by kernel_rfl) (by kernel_rfl) (by kernel_rfl) rfl (.const undef) (.const undef) w
  rw [show ((a0 == b0) && (a1 == b1) && (a2 == b2) && (a3 == b3)) = (List.all (List.zip [a0, a1, a2, a3] [b0, b1, b2, b3]) fun p => p.1 == p.2) from by simp [Bool.and_assoc]]
  exact h
end Go.V
