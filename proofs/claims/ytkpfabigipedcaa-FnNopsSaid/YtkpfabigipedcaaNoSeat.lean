import Derived.Test.YtkpfabigipedcaaProg
import Derived.Test.YtkpfabigipedcaaNoVEq
import Derived.Test.YtkpfabigipedcaaNoPure
namespace Go.V
open Go.Proofs
set_option maxRecDepth 100000

theorem mixed : Try.prog.follows .mixedOrders = true := by kernel_rfl
def el3 : El Int := { sz := 1, tid := 3, enc := fun x => [(.int .i64 x)], len := fun _ => rfl, pos := by decide, one := fun _ => rfl }
def el5 : El Int := { sz := 1, tid := 5, enc := fun x => [(.int .u8 x)], len := fun _ => rfl, pos := by decide, one := fun _ => rfl }
def el9 : El ByteArray := { sz := 1, tid := 9, enc := fun x => [(.string x)], len := fun _ => rfl, pos := by decide, one := fun _ => rfl }
def el60 : El D.Ins := { sz := 4, tid := 60, enc := fun x => [(.int .i64 x.Op), (.int .i64 x.A), (.int .i64 x.B), (.int .i64 x.C)], len := fun _ => rfl, pos := by decide, one := fun _ => rfl }
theorem qgL : Try.prog.underlying 35 = some (.slice 60) := by kernel_rfl
theorem qgw : (Try.prog.info? 60).map (fun i => (i.size, i.zero.map (·.cells), Nat.ble i.bytes 1024, Nat.beq i.bytes 0)) = some (el60.sz, some (el60.enc default).toArray, true, false) := by kernel_rfl
theorem qda : SlT Try.prog el60 35 := qgF qgL qgw
theorem qgz : Try.prog.underlying 37 = some (.slice 3) := by kernel_rfl
theorem qgK : (Try.prog.info? 3).map (fun i => (i.size, i.zero.map (·.cells), Nat.ble i.bytes 1024, Nat.beq i.bytes 0)) = some (el3.sz, some (el3.enc default).toArray, true, false) := by kernel_rfl
theorem qgf : SlT Try.prog el3 37 := qgF qgz qgK
abbrev Cl := Cll Try.prog
end Go.V
