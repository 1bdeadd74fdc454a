import Derived.Test.YtliafnobehfehaaProg
import Derived.Test.YtliafnobehfehaaVWords
import Derived.Test.YtliafnobehfehaaPure
namespace Go.V
open Go.Proofs
set_option maxRecDepth 100000

theorem mixed : Try.prog.follows .mixedOrders = true := by kernel_rfl
def el3 : El Int := { sz := 1, tid := 3, enc := fun x => [(.int .i64 x)], len := fun _ => rfl, pos := by decide, one := fun _ => rfl }
def el5 : El Int := { sz := 1, tid := 5, enc := fun x => [(.int .u8 x)], len := fun _ => rfl, pos := by decide, one := fun _ => rfl }
def el9 : El ByteArray := { sz := 1, tid := 9, enc := fun x => [(.string x)], len := fun _ => rfl, pos := by decide, one := fun _ => rfl }
def el81 : El D.Access := { sz := 4, tid := 81, enc := fun x => [(.int .i64 x.Phase), (.int .i64 x.Warp), (.int .i64 x.Address), (.int .i64 x.Kind)], len := fun _ => rfl, pos := by decide, one := fun _ => rfl }
def el83 : El D.Access := { sz := 4, tid := 83, enc := fun x => [(.int .i64 x.Phase), (.int .i64 x.Warp), (.int .i64 x.Address), (.int .i64 x.Kind)], len := fun _ => rfl, pos := by decide, one := fun _ => rfl }
def el99 : El D.Ins := { sz := 4, tid := 99, enc := fun x => [(.int .i64 x.Op), (.int .i64 x.A), (.int .i64 x.B), (.int .i64 x.C)], len := fun _ => rfl, pos := by decide, one := fun _ => rfl }
def el109 : El D.Ins := { sz := 4, tid := 109, enc := fun x => [(.int .i64 x.Op), (.int .i64 x.A), (.int .i64 x.B), (.int .i64 x.C)], len := fun _ => rfl, pos := by decide, one := fun _ => rfl }
theorem slt24_u : Try.prog.underlying 24 = some (.slice 99) := by kernel_rfl
theorem slt24_i : (Try.prog.info? 99).map (fun i => (i.size, i.zero.map (·.cells), Nat.ble i.bytes 1024, Nat.beq i.bytes 0)) = some (el99.sz, some (el99.enc default).toArray, true, false) := by kernel_rfl
theorem slt24 : SlT Try.prog el99 24 := sltOf slt24_u slt24_i
theorem slt25_u : Try.prog.underlying 25 = some (.slice 3) := by kernel_rfl
theorem slt25_i : (Try.prog.info? 3).map (fun i => (i.size, i.zero.map (·.cells), Nat.ble i.bytes 1024, Nat.beq i.bytes 0)) = some (el3.sz, some (el3.enc default).toArray, true, false) := by kernel_rfl
theorem slt25 : SlT Try.prog el3 25 := sltOf slt25_u slt25_i
theorem slt38_u : Try.prog.underlying 38 = some (.slice 81) := by kernel_rfl
theorem slt38_i : (Try.prog.info? 81).map (fun i => (i.size, i.zero.map (·.cells), Nat.ble i.bytes 1024, Nat.beq i.bytes 0)) = some (el81.sz, some (el81.enc default).toArray, true, false) := by kernel_rfl
theorem slt38 : SlT Try.prog el81 38 := sltOf slt38_u slt38_i
end Go.V
