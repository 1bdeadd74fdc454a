import Derived.Test.YtnafhlbbbgpmgabProg
import Derived.Test.YtnafhlbbbgpmgabVWords
import Derived.Test.YtnafhlbbbgpmgabPure
namespace Go.V
open Go.Proofs
set_option maxRecDepth 100000

theorem mixed : Try.prog.follows .mixedOrders = true := by kernel_rfl
def el3 : El Int := { sz := 1, tid := 3, enc := fun x => [(.int .i64 x)], len := fun _ => rfl, pos := by decide, one := fun _ => rfl }
def el9 : El ByteArray := { sz := 1, tid := 9, enc := fun x => [(.string x)], len := fun _ => rfl, pos := by decide, one := fun _ => rfl }
def el68 : El D.Ins := { sz := 4, tid := 68, enc := fun x => [(.int .i64 x.Op), (.int .i64 x.A), (.int .i64 x.B), (.int .i64 x.C)], len := fun _ => rfl, pos := by decide, one := fun _ => rfl }
def el70 : El D.Ins := { sz := 4, tid := 70, enc := fun x => [(.int .i64 x.Op), (.int .i64 x.A), (.int .i64 x.B), (.int .i64 x.C)], len := fun _ => rfl, pos := by decide, one := fun _ => rfl }
theorem slt24_u : Try.prog.underlying 24 = some (.slice 68) := by kernel_rfl
theorem slt24_i : (Try.prog.info? 68).map (fun i => (i.size, i.zero.map (·.cells), Nat.ble i.bytes 1024, Nat.beq i.bytes 0)) = some (el68.sz, some (el68.enc default).toArray, true, false) := by kernel_rfl
theorem slt24 : SlT Try.prog el68 24 := sltOf slt24_u slt24_i
theorem slt26_u : Try.prog.underlying 26 = some (.slice 3) := by kernel_rfl
theorem slt26_i : (Try.prog.info? 3).map (fun i => (i.size, i.zero.map (·.cells), Nat.ble i.bytes 1024, Nat.beq i.bytes 0)) = some (el3.sz, some (el3.enc default).toArray, true, false) := by kernel_rfl
theorem slt26 : SlT Try.prog el3 26 := sltOf slt26_u slt26_i
end Go.V
