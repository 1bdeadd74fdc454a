import Derived.Test.YtkacokecjojkoaaGreatProg
import Derived.Test.YtkacokecjojkoaaGreatKRVEq
import Derived.Test.YtkacokecjojkoaaGreatKRVDeep
namespace Go.V
open Go.Proofs
set_option maxRecDepth 100000

theorem mixed : Tryz.prog.follows .mixedOrders = true := by kernel_rfl
def el3 : El Int := { sz := 1, tid := 3, enc := fun x => [(.int .i64 x)], len := fun _ => rfl, pos := by decide, one := fun _ => rfl }
def el4 : El Bool := { sz := 1, tid := 4, enc := fun x => [(.bool x)], len := fun _ => rfl, pos := by decide, one := fun _ => rfl }
def el5 : El Int := { sz := 1, tid := 5, enc := fun x => [(.int .u8 x)], len := fun _ => rfl, pos := by decide, one := fun _ => rfl }
def el9 : El ByteArray := { sz := 1, tid := 9, enc := fun x => [(.string x)], len := fun _ => rfl, pos := by decide, one := fun _ => rfl }
def el89 : El D.Ins := { sz := 4, tid := 89, enc := fun x => [(.int .i64 x.Op), (.int .i64 x.A), (.int .i64 x.B), (.int .i64 x.C)], len := fun _ => rfl, pos := by decide, one := fun _ => rfl }
def el91 : El D.Ins := { sz := 4, tid := 91, enc := fun x => [(.int .i64 x.Op), (.int .i64 x.A), (.int .i64 x.B), (.int .i64 x.C)], len := fun _ => rfl, pos := by decide, one := fun _ => rfl }
def el113 : El D.Access := { sz := 4, tid := 113, enc := fun x => [(.int .i64 x.Phase), (.int .i64 x.Warp), (.int .i64 x.Address), (.int .i64 x.Kind)], len := fun _ => rfl, pos := by decide, one := fun _ => rfl }
def el130 : El D.Frame := { sz := 3, tid := 130, enc := fun x => [(.int .i64 x.Pc), (.int .i64 x.Stop), (.int .i64 x.Mask)], len := fun _ => rfl, pos := by decide, one := fun _ => rfl }
def el134 : El D.Frame := { sz := 3, tid := 134, enc := fun x => [(.int .i64 x.Pc), (.int .i64 x.Stop), (.int .i64 x.Mask)], len := fun _ => rfl, pos := by decide, one := fun _ => rfl }
theorem slt24_u : Tryz.prog.underlying 24 = some (.slice 3) := by kernel_rfl
theorem slt24_i : (Tryz.prog.info? 3).map (fun i => (i.size, i.zero.map (·.cells), Nat.ble i.bytes 1024, Nat.beq i.bytes 0)) = some (el3.sz, some (el3.enc default).toArray, true, false) := by kernel_rfl
theorem slt24 : SlT Tryz.prog el3 24 := sltOf slt24_u slt24_i
theorem slt29_u : Tryz.prog.underlying 29 = some (.slice 130) := by kernel_rfl
theorem slt29_i : (Tryz.prog.info? 130).map (fun i => (i.size, i.zero.map (·.cells), Nat.ble i.bytes 1024, Nat.beq i.bytes 0)) = some (el130.sz, some (el130.enc default).toArray, true, false) := by kernel_rfl
theorem slt29 : SlT Tryz.prog el130 29 := sltOf slt29_u slt29_i
theorem slt34_u : Tryz.prog.underlying 34 = some (.slice 89) := by kernel_rfl
theorem slt34_i : (Tryz.prog.info? 89).map (fun i => (i.size, i.zero.map (·.cells), Nat.ble i.bytes 1024, Nat.beq i.bytes 0)) = some (el89.sz, some (el89.enc default).toArray, true, false) := by kernel_rfl
theorem slt34 : SlT Tryz.prog el89 34 := sltOf slt34_u slt34_i
theorem slt57_u : Tryz.prog.underlying 57 = some (.slice 31) := by kernel_rfl
theorem slt57_i : (Tryz.prog.info? 31).map (fun i => (i.size, i.zero.map (·.cells), Nat.ble i.bytes 1024, Nat.beq i.bytes 0)) = some ((elH 31).sz, some ((elH 31).enc default).toArray, true, false) := by kernel_rfl
theorem slt57 : SlT Tryz.prog (elH 31) 57 := sltOf slt57_u slt57_i
theorem slt195_u : Tryz.prog.underlying 195 = some (.slice 4) := by kernel_rfl
theorem slt195_i : (Tryz.prog.info? 4).map (fun i => (i.size, i.zero.map (·.cells), Nat.ble i.bytes 1024, Nat.beq i.bytes 0)) = some (el4.sz, some (el4.enc default).toArray, true, false) := by kernel_rfl
theorem slt195 : SlT Tryz.prog el4 195 := sltOf slt195_u slt195_i
theorem run_eql130 (a0 a1 a2 b0 b1 b2 : Int) : ∀ w, (eqGuard .eql 130 (.const undef) (.const undef) (.agg #[.int .i64 a0, .int .i64 a1, .int .i64 a2]) (.agg #[.int .i64 b0, .int .i64 b1, .int .i64 b2]) >>= fun _ => binOp .eql 130 (.agg #[.int .i64 a0, .int .i64 a1, .int .i64 a2]) (.agg #[.int .i64 b0, .int .i64 b1, .int .i64 b2])).run Tryz.prog w = .ok (.bool ((a0 == b0) && (a1 == b1) && (a2 == b2))) w := by
  intro w
  have h := runEql (P := Tryz.prog) (t := 130) (xs := [a0, a1, a2]) (ys := [b0, b1, b2]) (by kernel_rfl) (by kernel_rfl) (by kernel_rfl) (by kernel_rfl) rfl (.const undef) (.const undef) w
  rw [show ((a0 == b0) && (a1 == b1) && (a2 == b2)) = (List.all (List.zip [a0, a1, a2] [b0, b1, b2]) fun p => p.1 == p.2) from by simp [Bool.and_assoc]]
  exact h
theorem run_neq130 (a0 a1 a2 b0 b1 b2 : Int) : ∀ w, (eqGuard .neq 130 (.const undef) (.const undef) (.agg #[.int .i64 a0, .int .i64 a1, .int .i64 a2]) (.agg #[.int .i64 b0, .int .i64 b1, .int .i64 b2]) >>= fun _ => binOp .neq 130 (.agg #[.int .i64 a0, .int .i64 a1, .int .i64 a2]) (.agg #[.int .i64 b0, .int .i64 b1, .int .i64 b2])).run Tryz.prog w = .ok (.bool (!((a0 == b0) && (a1 == b1) && (a2 == b2)))) w := by
  intro w
  have h := runNeq (P := Tryz.prog) (t := 130) (xs := [a0, a1, a2]) (ys := [b0, b1, b2]) (by kernel_rfl) (by kernel_rfl) (by kernel_rfl) (by kernel_rfl) rfl (.const undef) (.const undef) w
  rw [show ((a0 == b0) && (a1 == b1) && (a2 == b2)) = (List.all (List.zip [a0, a1, a2] [b0, b1, b2]) fun p => p.1 == p.2) from by simp [Bool.and_assoc]]
  exact h
abbrev Cl := Cll Tryz.prog
end Go.V
