import Derived.Test.YtnafhlbbbgpmgaaProg
import Derived.Test.YtnafhlbbbgpmgaaVWords
import Derived.Test.YtnafhlbbbgpmgaaPure
namespace Go.V
open Go.Proofs
set_option maxRecDepth 100000

theorem mixed : Try.prog.follows .mixedOrders = true := by kernel_rfl
def el3 : El Int := { sz := 1, tid := 3, enc := fun x => [(.int .i64 x)], len := fun _ => rfl, pos := by decide, one := fun _ => rfl }
def el9 : El ByteArray := { sz := 1, tid := 9, enc := fun x => [(.string x)], len := fun _ => rfl, pos := by decide, one := fun _ => rfl }
def el23 : El D.Access := { sz := 4, tid := 23, enc := fun x => [(.int .i64 x.Phase), (.int .i64 x.Warp), (.int .i64 x.Address), (.int .i64 x.Kind)], len := fun _ => rfl, pos := by decide, one := fun _ => rfl }
def el25 : El D.Access := { sz := 4, tid := 25, enc := fun x => [(.int .i64 x.Phase), (.int .i64 x.Warp), (.int .i64 x.Address), (.int .i64 x.Kind)], len := fun _ => rfl, pos := by decide, one := fun _ => rfl }
def el117 : El D.Ins := { sz := 4, tid := 117, enc := fun x => [(.int .i64 x.Op), (.int .i64 x.A), (.int .i64 x.B), (.int .i64 x.C)], len := fun _ => rfl, pos := by decide, one := fun _ => rfl }
def el125 : El D.Ins := { sz := 4, tid := 125, enc := fun x => [(.int .i64 x.Op), (.int .i64 x.A), (.int .i64 x.B), (.int .i64 x.C)], len := fun _ => rfl, pos := by decide, one := fun _ => rfl }
theorem slt32_u : Try.prog.underlying 32 = some (.slice 25) := by kernel_rfl
theorem slt32_i : (Try.prog.info? 25).map (fun i => (i.size, i.zero.map (·.cells), Nat.ble i.bytes 1024, Nat.beq i.bytes 0)) = some (el25.sz, some (el25.enc default).toArray, true, false) := by kernel_rfl
theorem slt32 : SlT Try.prog el25 32 := sltOf slt32_u slt32_i
theorem slt39_u : Try.prog.underlying 39 = some (.slice 3) := by kernel_rfl
theorem slt39_i : (Try.prog.info? 3).map (fun i => (i.size, i.zero.map (·.cells), Nat.ble i.bytes 1024, Nat.beq i.bytes 0)) = some (el3.sz, some (el3.enc default).toArray, true, false) := by kernel_rfl
theorem slt39 : SlT Try.prog el3 39 := sltOf slt39_u slt39_i
theorem slt50_u : Try.prog.underlying 50 = some (.slice 117) := by kernel_rfl
theorem slt50_i : (Try.prog.info? 117).map (fun i => (i.size, i.zero.map (·.cells), Nat.ble i.bytes 1024, Nat.beq i.bytes 0)) = some (el117.sz, some (el117.enc default).toArray, true, false) := by kernel_rfl
theorem slt50 : SlT Try.prog el117 50 := sltOf slt50_u slt50_i
end Go.V
