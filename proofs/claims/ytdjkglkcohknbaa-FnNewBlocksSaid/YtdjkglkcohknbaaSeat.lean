import Derived.Test.YtdjkglkcohknbaaProg
import Derived.Test.YtdjkglkcohknbaaVEq
import Derived.Test.YtdjkglkcohknbaaVDeep
namespace Go.V
open Go.Proofs
set_option maxRecDepth 100000

theorem mixed : Try.prog.follows .mixedOrders = true := by kernel_rfl
def el3 : El Int := { sz := 1, tid := 3, enc := fun x => [(.int .i64 x)], len := fun _ => rfl, pos := by decide, one := fun _ => rfl }
def el4 : El Bool := { sz := 1, tid := 4, enc := fun x => [(.bool x)], len := fun _ => rfl, pos := by decide, one := fun _ => rfl }
def el5 : El Int := { sz := 1, tid := 5, enc := fun x => [(.int .u8 x)], len := fun _ => rfl, pos := by decide, one := fun _ => rfl }
def el9 : El ByteArray := { sz := 1, tid := 9, enc := fun x => [(.string x)], len := fun _ => rfl, pos := by decide, one := fun _ => rfl }
def el60 : El D.Ins := { sz := 4, tid := 60, enc := fun x => [(.int .i64 x.Op), (.int .i64 x.A), (.int .i64 x.B), (.int .i64 x.C)], len := fun _ => rfl, pos := by decide, one := fun _ => rfl }
def el81 : El D.Frame := { sz := 3, tid := 81, enc := fun x => [(.int .i64 x.Pc), (.int .i64 x.Stop), (.int .i64 x.Mask)], len := fun _ => rfl, pos := by decide, one := fun _ => rfl }
theorem slt24_u : Try.prog.underlying 24 = some (.slice 60) := by kernel_rfl
theorem slt24_i : (Try.prog.info? 60).map (fun i => (i.size, i.zero.map (·.cells), Nat.ble i.bytes 1024, Nat.beq i.bytes 0)) = some (el60.sz, some (el60.enc default).toArray, true, false) := by kernel_rfl
theorem slt24 : SlT Try.prog el60 24 := sltOf slt24_u slt24_i
theorem slt26_u : Try.prog.underlying 26 = some (.slice 3) := by kernel_rfl
theorem slt26_i : (Try.prog.info? 3).map (fun i => (i.size, i.zero.map (·.cells), Nat.ble i.bytes 1024, Nat.beq i.bytes 0)) = some (el3.sz, some (el3.enc default).toArray, true, false) := by kernel_rfl
theorem slt26 : SlT Try.prog el3 26 := sltOf slt26_u slt26_i
theorem slt28_u : Try.prog.underlying 28 = some (.slice 81) := by kernel_rfl
theorem slt28_i : (Try.prog.info? 81).map (fun i => (i.size, i.zero.map (·.cells), Nat.ble i.bytes 1024, Nat.beq i.bytes 0)) = some (el81.sz, some (el81.enc default).toArray, true, false) := by kernel_rfl
theorem slt28 : SlT Try.prog el81 28 := sltOf slt28_u slt28_i
theorem slt39_u : Try.prog.underlying 39 = some (.slice 30) := by kernel_rfl
theorem slt39_i : (Try.prog.info? 30).map (fun i => (i.size, i.zero.map (·.cells), Nat.ble i.bytes 1024, Nat.beq i.bytes 0)) = some ((elH 30).sz, some ((elH 30).enc default).toArray, true, false) := by kernel_rfl
theorem slt39 : SlT Try.prog (elH 30) 39 := sltOf slt39_u slt39_i
theorem slt122_u : Try.prog.underlying 122 = some (.slice 4) := by kernel_rfl
theorem slt122_i : (Try.prog.info? 4).map (fun i => (i.size, i.zero.map (·.cells), Nat.ble i.bytes 1024, Nat.beq i.bytes 0)) = some (el4.sz, some (el4.enc default).toArray, true, false) := by kernel_rfl
theorem slt122 : SlT Try.prog el4 122 := sltOf slt122_u slt122_i
theorem run_eql60 (a0 a1 a2 a3 b0 b1 b2 b3 : Int) : ∀ w, (eqGuard .eql 60 (.const undef) (.const undef) (.agg #[.int .i64 a0, .int .i64 a1, .int .i64 a2, .int .i64 a3]) (.agg #[.int .i64 b0, .int .i64 b1, .int .i64 b2, .int .i64 b3]) >>= fun _ => binOp .eql 60 (.agg #[.int .i64 a0, .int .i64 a1, .int .i64 a2, .int .i64 a3]) (.agg #[.int .i64 b0, .int .i64 b1, .int .i64 b2, .int .i64 b3])).run Try.prog w = .ok (.bool ((a0 == b0) && (a1 == b1) && (a2 == b2) && (a3 == b3))) w := by
  intro w
  have h := runEql (P := Try.prog) (t := 60) (xs := [a0, a1, a2, a3]) (ys := [b0, b1, b2, b3]) (by kernel_rfl) (by kernel_rfl) (by kernel_rfl) (by kernel_rfl) rfl (.const undef) (.const undef) w
  rw [show ((a0 == b0) && (a1 == b1) && (a2 == b2) && (a3 == b3)) = (List.all (List.zip [a0, a1, a2, a3] [b0, b1, b2, b3]) fun p => p.1 == p.2) from by simp [Bool.and_assoc]]
  exact h
theorem run_neq60 (a0 a1 a2 a3 b0 b1 b2 b3 : Int) : ∀ w, (eqGuard .neq 60 (.const undef) (.const undef) (.agg #[.int .i64 a0, .int .i64 a1, .int .i64 a2, .int .i64 a3]) (.agg #[.int .i64 b0, .int .i64 b1, .int .i64 b2, .int .i64 b3]) >>= fun _ => binOp .neq 60 (.agg #[.int .i64 a0, .int .i64 a1, .int .i64 a2, .int .i64 a3]) (.agg #[.int .i64 b0, .int .i64 b1, .int .i64 b2, .int .i64 b3])).run Try.prog w = .ok (.bool (!((a0 == b0) && (a1 == b1) && (a2 == b2) && (a3 == b3)))) w := by
  intro w
  have h := runNeq (P := Try.prog) (t := 60) (xs := [a0, a1, a2, a3]) (ys := [b0, b1, b2, b3]) (by kernel_rfl) (by kernel_rfl) (by kernel_rfl) (by kernel_rfl) rfl (.const undef) (.const undef) w
  rw [show ((a0 == b0) && (a1 == b1) && (a2 == b2) && (a3 == b3)) = (List.all (List.zip [a0, a1, a2, a3] [b0, b1, b2, b3]) fun p => p.1 == p.2) from by simp [Bool.and_assoc]]
  exact h
theorem run_eql81 (a0 a1 a2 b0 b1 b2 : Int) : ∀ w, (eqGuard .eql 81 (.const undef) (.const undef) (.agg #[.int .i64 a0, .int .i64 a1, .int .i64 a2]) (.agg #[.int .i64 b0, .int .i64 b1, .int .i64 b2]) >>= fun _ => binOp .eql 81 (.agg #[.int .i64 a0, .int .i64 a1, .int .i64 a2]) (.agg #[.int .i64 b0, .int .i64 b1, .int .i64 b2])).run Try.prog w = .ok (.bool ((a0 == b0) && (a1 == b1) && (a2 == b2))) w := by
  intro w
  have h := runEql (P := Try.prog) (t := 81) (xs := [a0, a1, a2]) (ys := [b0, b1, b2]) (by kernel_rfl) (by kernel_rfl) (by kernel_rfl) (by kernel_rfl) rfl (.const undef) (.const undef) w
  rw [show ((a0 == b0) && (a1 == b1) && (a2 == b2)) = (List.all (List.zip [a0, a1, a2] [b0, b1, b2]) fun p => p.1 == p.2) from by simp [Bool.and_assoc]]
  exact h
theorem run_neq81 (a0 a1 a2 b0 b1 b2 : Int) : ∀ w, (eqGuard .neq 81 (.const undef) (.const undef) (.agg #[.int .i64 a0, .int .i64 a1, .int .i64 a2]) (.agg #[.int .i64 b0, .int .i64 b1, .int .i64 b2]) >>= fun _ => binOp .neq 81 (.agg #[.int .i64 a0, .int .i64 a1, .int .i64 a2]) (.agg #[.int .i64 b0, .int .i64 b1, .int .i64 b2])).run Try.prog w = .ok (.bool (!((a0 == b0) && (a1 == b1) && (a2 == b2)))) w := by
  intro w
  have h := runNeq (P := Try.prog) (t := 81) (xs := [a0, a1, a2]) (ys := [b0, b1, b2]) (by kernel_rfl) (by kernel_rfl) (by kernel_rfl) (by kernel_rfl) rfl (.const undef) (.const undef) w
  rw [show ((a0 == b0) && (a1 == b1) && (a2 == b2)) = (List.all (List.zip [a0, a1, a2] [b0, b1, b2]) fun p => p.1 == p.2) from by simp [Bool.and_assoc]]
  exact h
end Go.V
