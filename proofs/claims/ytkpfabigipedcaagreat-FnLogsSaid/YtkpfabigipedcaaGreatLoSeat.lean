import Derived.Test.YtkpfabigipedcaaGreatProg
import Derived.Test.YtkpfabigipedcaaGreatLoVMap
import Derived.Test.YtkpfabigipedcaaGreatLoVDeep
namespace Go.V
open Go.Proofs
set_option maxRecDepth 100000

theorem mixed : Tryz.prog.follows .mixedOrders = true := by kernel_rfl
def el3 : El Int := { sz := 1, tid := 3, enc := fun x => [(.int .i64 x)], len := fun _ => rfl, pos := by decide, one := fun _ => rfl }
def el4 : El Bool := { sz := 1, tid := 4, enc := fun x => [(.bool x)], len := fun _ => rfl, pos := by decide, one := fun _ => rfl }
def el5 : El Int := { sz := 1, tid := 5, enc := fun x => [(.int .u8 x)], len := fun _ => rfl, pos := by decide, one := fun _ => rfl }
def el9 : El ByteArray := { sz := 1, tid := 9, enc := fun x => [(.string x)], len := fun _ => rfl, pos := by decide, one := fun _ => rfl }
def el63 : El D.Access := { sz := 4, tid := 63, enc := fun x => [(.int .i64 x.Phase), (.int .i64 x.Warp), (.int .i64 x.Address), (.int .i64 x.Kind)], len := fun _ => rfl, pos := by decide, one := fun _ => rfl }
def el84 : El D.Ins := { sz := 4, tid := 84, enc := fun x => [(.int .i64 x.Op), (.int .i64 x.A), (.int .i64 x.B), (.int .i64 x.C)], len := fun _ => rfl, pos := by decide, one := fun _ => rfl }
def el91 : El D.Frame := { sz := 3, tid := 91, enc := fun x => [(.int .i64 x.Pc), (.int .i64 x.Stop), (.int .i64 x.Mask)], len := fun _ => rfl, pos := by decide, one := fun _ => rfl }
theorem qpz : KeyI Tryz.prog 106 63 4 4 := ⟨by kernel_rfl, by kernel_rfl, by kernel_rfl, by kernel_rfl, by kernel_rfl⟩
theorem qqd (w : World) : (zeroValue 4).run Tryz.prog w = .ok (Value.bool false) w := by kernel_rfl
theorem qpy : Tryz.prog.underlying 24 = some (.slice 3) := by kernel_rfl
theorem qpE : (Tryz.prog.info? 3).map (fun i => (i.size, i.zero.map (·.cells), Nat.ble i.bytes 1024, Nat.beq i.bytes 0)) = some (el3.sz, some (el3.enc default).toArray, true, false) := by kernel_rfl
theorem qgO : SlT Tryz.prog el3 24 := qms qpy qpE
theorem qpI : Tryz.prog.underlying 28 = some (.slice 63) := by kernel_rfl
theorem qpx : (Tryz.prog.info? 63).map (fun i => (i.size, i.zero.map (·.cells), Nat.ble i.bytes 1024, Nat.beq i.bytes 0)) = some (el63.sz, some (el63.enc default).toArray, true, false) := by kernel_rfl
theorem qng : SlT Tryz.prog el63 28 := qms qpI qpx
theorem qpL : Tryz.prog.underlying 30 = some (.slice 84) := by kernel_rfl
theorem qpr : (Tryz.prog.info? 84).map (fun i => (i.size, i.zero.map (·.cells), Nat.ble i.bytes 1024, Nat.beq i.bytes 0)) = some (el84.sz, some (el84.enc default).toArray, true, false) := by kernel_rfl
theorem qgL : SlT Tryz.prog el84 30 := qms qpL qpr
theorem qpB : Tryz.prog.underlying 31 = some (.slice 52) := by kernel_rfl
theorem qpM : (Tryz.prog.info? 52).map (fun i => (i.size, i.zero.map (·.cells), Nat.ble i.bytes 1024, Nat.beq i.bytes 0)) = some ((elH 52).sz, some ((elH 52).enc default).toArray, true, false) := by kernel_rfl
theorem qnx : SlT Tryz.prog (elH 52) 31 := qms qpB qpM
theorem qpD : Tryz.prog.underlying 50 = some (.slice 91) := by kernel_rfl
theorem qpQ : (Tryz.prog.info? 91).map (fun i => (i.size, i.zero.map (·.cells), Nat.ble i.bytes 1024, Nat.beq i.bytes 0)) = some (el91.sz, some (el91.enc default).toArray, true, false) := by kernel_rfl
theorem qla : SlT Tryz.prog el91 50 := qms qpD qpQ
theorem qoF : Tryz.prog.underlying 149 = some (.slice 4) := by kernel_rfl
theorem qoS : (Tryz.prog.info? 4).map (fun i => (i.size, i.zero.map (·.cells), Nat.ble i.bytes 1024, Nat.beq i.bytes 0)) = some (el4.sz, some (el4.enc default).toArray, true, false) := by kernel_rfl
theorem qo3 : SlT Tryz.prog el4 149 := qms qoF qoS
theorem qo4 (a0 a1 a2 a3 b0 b1 b2 b3 : Int) : ∀ w, (eqGuard .eql 63 (.const undef) (.const undef) (.agg #[.int .i64 a0, .int .i64 a1, .int .i64 a2, .int .i64 a3]) (.agg #[.int .i64 b0, .int .i64 b1, .int .i64 b2, .int .i64 b3]) >>= fun _ => binOp .eql 63 (.agg #[.int .i64 a0, .int .i64 a1, .int .i64 a2, .int .i64 a3]) (.agg #[.int .i64 b0, .int .i64 b1, .int .i64 b2, .int .i64 b3])).run Tryz.prog w = .ok (.bool ((a0 == b0) && (a1 == b1) && (a2 == b2) && (a3 == b3))) w := by
  intro w
  have h := qpa (P := Tryz.prog) (t := 63) (xs := [a0, a1, a2, a3]) (ys := [b0, b1, b2, b3]) (by kernel_rfl) (by kernel_rfl) (by kernel_rfl) (by kernel_rfl) rfl (.const undef) (.const undef) w
  rw [show ((a0 == b0) && (a1 == b1) && (a2 == b2) && (a3 == b3)) = (List.all (List.zip [a0, a1, a2, a3] [b0, b1, b2, b3]) fun p => p.1 == p.2) from by simp [Bool.and_assoc]]
  exact h
theorem qob (a0 a1 a2 a3 b0 b1 b2 b3 : Int) : ∀ w, (eqGuard .neq 84 (.const undef) (.const undef) (.agg #[.int .i64 a0, .int .i64 a1, .int .i64 a2, .int .i64 a3]) (.agg #[.int .i64 b0, .int .i64 b1, .int .i64 b2, .int .i64 b3]) >>= fun _ => binOp .neq 84 (.agg #[.int .i64 a0, .int .i64 a1, .int .i64 a2, .int .i64 a3]) (.agg #[.int .i64 b0, .int .i64 b1, .int .i64 b2, .int .i64 b3])).run Tryz.prog w = .ok (.bool (!((a0 == b0) && (a1 == b1) && (a2 == b2) && (a3 == b3)))) w := by
  intro w
  have h := qnz (P := Tryz.prog) (t := 84) (xs := [a0, a1, a2, a3]) (ys := [b0, b1, b2, b3]) (by kernel_rfl) (by kernel_rfl) (by kernel_rfl) (by kernel_rfl) rfl (.const undef) (.const undef) w
  rw [show ((a0 == b0) && (a1 == b1) && (a2 == b2) && (a3 == b3)) = (List.all (List.zip [a0, a1, a2, a3] [b0, b1, b2, b3]) fun p => p.1 == p.2) from by simp [Bool.and_assoc]]
  exact h
theorem qnF (a0 a1 a2 b0 b1 b2 : Int) : ∀ w, (eqGuard .neq 91 (.const undef) (.const undef) (.agg #[.int .i64 a0, .int .i64 a1, .int .i64 a2]) (.agg #[.int .i64 b0, .int .i64 b1, .int .i64 b2]) >>= fun _ => binOp .neq 91 (.agg #[.int .i64 a0, .int .i64 a1, .int .i64 a2]) (.agg #[.int .i64 b0, .int .i64 b1, .int .i64 b2])).run Tryz.prog w = .ok (.bool (!((a0 == b0) && (a1 == b1) && (a2 == b2)))) w := by
  intro w
  have h := qnz (P := Tryz.prog) (t := 91) (xs := [a0, a1, a2]) (ys := [b0, b1, b2]) (by kernel_rfl) (by kernel_rfl) (by kernel_rfl) (by kernel_rfl) rfl (.const undef) (.const undef) w
  rw [show ((a0 == b0) && (a1 == b1) && (a2 == b2)) = (List.all (List.zip [a0, a1, a2] [b0, b1, b2]) fun p => p.1 == p.2) from by simp [Bool.and_assoc]]
  exact h
abbrev Cl := Cll Tryz.prog
end Go.V
