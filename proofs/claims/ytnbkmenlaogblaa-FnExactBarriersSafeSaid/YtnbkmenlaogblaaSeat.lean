import Derived.Test.YtnbkmenlaogblaaProg
import Derived.Test.YtnbkmenlaogblaaVWords
import Derived.Test.YtnbkmenlaogblaaVDeep
namespace Go.V
open Go.Proofs
set_option maxRecDepth 100000

theorem mixed : Try.prog.follows .mixedOrders = true := by kernel_rfl
def el3 : El Int := { sz := 1, tid := 3, enc := fun x => [(.int .i64 x)], len := fun _ => rfl, pos := by decide, one := fun _ => rfl }
def el4 : El Bool := { sz := 1, tid := 4, enc := fun x => [(.bool x)], len := fun _ => rfl, pos := by decide, one := fun _ => rfl }
def el5 : El Int := { sz := 1, tid := 5, enc := fun x => [(.int .u8 x)], len := fun _ => rfl, pos := by decide, one := fun _ => rfl }
def el9 : El ByteArray := { sz := 1, tid := 9, enc := fun x => [(.string x)], len := fun _ => rfl, pos := by decide, one := fun _ => rfl }
def el76 : El D.Ins := { sz := 4, tid := 76, enc := fun x => [(.int .i64 x.Op), (.int .i64 x.A), (.int .i64 x.B), (.int .i64 x.C)], len := fun _ => rfl, pos := by decide, one := fun _ => rfl }
def el78 : El D.Ins := { sz := 4, tid := 78, enc := fun x => [(.int .i64 x.Op), (.int .i64 x.A), (.int .i64 x.B), (.int .i64 x.C)], len := fun _ => rfl, pos := by decide, one := fun _ => rfl }
def el132 : El D.Frame := { sz := 3, tid := 132, enc := fun x => [(.int .i64 x.Pc), (.int .i64 x.Stop), (.int .i64 x.Mask)], len := fun _ => rfl, pos := by decide, one := fun _ => rfl }
def el148 : El D.Frame := { sz := 3, tid := 148, enc := fun x => [(.int .i64 x.Pc), (.int .i64 x.Stop), (.int .i64 x.Mask)], len := fun _ => rfl, pos := by decide, one := fun _ => rfl }
theorem slt24_u : Try.prog.underlying 24 = some (.slice 3) := by kernel_rfl
theorem slt24_i : (Try.prog.info? 3).map (fun i => (i.size, i.zero.map (·.cells), Nat.ble i.bytes 1024, Nat.beq i.bytes 0)) = some (el3.sz, some (el3.enc default).toArray, true, false) := by kernel_rfl
theorem slt24 : SlT Try.prog el3 24 := sltOf slt24_u slt24_i
theorem slt29_u : Try.prog.underlying 29 = some (.slice 76) := by kernel_rfl
theorem slt29_i : (Try.prog.info? 76).map (fun i => (i.size, i.zero.map (·.cells), Nat.ble i.bytes 1024, Nat.beq i.bytes 0)) = some (el76.sz, some (el76.enc default).toArray, true, false) := by kernel_rfl
theorem slt29 : SlT Try.prog el76 29 := sltOf slt29_u slt29_i
theorem slt30_u : Try.prog.underlying 30 = some (.slice 102) := by kernel_rfl
theorem slt30_i : (Try.prog.info? 102).map (fun i => (i.size, i.zero.map (·.cells), Nat.ble i.bytes 1024, Nat.beq i.bytes 0)) = some ((elH 102).sz, some ((elH 102).enc default).toArray, true, false) := by kernel_rfl
theorem slt30 : SlT Try.prog (elH 102) 30 := sltOf slt30_u slt30_i
theorem slt87_u : Try.prog.underlying 87 = some (.slice 4) := by kernel_rfl
theorem slt87_i : (Try.prog.info? 4).map (fun i => (i.size, i.zero.map (·.cells), Nat.ble i.bytes 1024, Nat.beq i.bytes 0)) = some (el4.sz, some (el4.enc default).toArray, true, false) := by kernel_rfl
theorem slt87 : SlT Try.prog el4 87 := sltOf slt87_u slt87_i
theorem slt100_u : Try.prog.underlying 100 = some (.slice 132) := by kernel_rfl
theorem slt100_i : (Try.prog.info? 132).map (fun i => (i.size, i.zero.map (·.cells), Nat.ble i.bytes 1024, Nat.beq i.bytes 0)) = some (el132.sz, some (el132.enc default).toArray, true, false) := by kernel_rfl
theorem slt100 : SlT Try.prog el132 100 := sltOf slt100_u slt100_i
end Go.V
