import Derived.Test.YtkpfabigipedcaaGreatProg
import Derived.Test.YtkpfabigipedcaaGreatBaVEq
import Derived.Test.YtkpfabigipedcaaGreatBaVDeep
namespace Go.V
open Go.Proofs
set_option maxRecDepth 100000

theorem mixed : Tryz.prog.follows .mixedOrders = true := by kernel_rfl
def el3 : El Int := { sz := 1, tid := 3, enc := fun x => [(.int .i64 x)], len := fun _ => rfl, pos := by decide, one := fun _ => rfl }
def el4 : El Bool := { sz := 1, tid := 4, enc := fun x => [(.bool x)], len := fun _ => rfl, pos := by decide, one := fun _ => rfl }
def el5 : El Int := { sz := 1, tid := 5, enc := fun x => [(.int .u8 x)], len := fun _ => rfl, pos := by decide, one := fun _ => rfl }
def el9 : El ByteArray := { sz := 1, tid := 9, enc := fun x => [(.string x)], len := fun _ => rfl, pos := by decide, one := fun _ => rfl }
def el84 : El D.Ins := { sz := 4, tid := 84, enc := fun x => [(.int .i64 x.Op), (.int .i64 x.A), (.int .i64 x.B), (.int .i64 x.C)], len := fun _ => rfl, pos := by decide, one := fun _ => rfl }
def el91 : El D.Frame := { sz := 3, tid := 91, enc := fun x => [(.int .i64 x.Pc), (.int .i64 x.Stop), (.int .i64 x.Mask)], len := fun _ => rfl, pos := by decide, one := fun _ => rfl }
theorem qnI : Tryz.prog.underlying 24 = some (.slice 3) := by kernel_rfl
theorem qny : (Tryz.prog.info? 3).map (fun i => (i.size, i.zero.map (·.cells), Nat.ble i.bytes 1024, Nat.beq i.bytes 0)) = some (el3.sz, some (el3.enc default).toArray, true, false) := by kernel_rfl
theorem qgP : SlT Tryz.prog el3 24 := qm7 qnI qny
theorem qnC : Tryz.prog.underlying 30 = some (.slice 84) := by kernel_rfl
theorem qnx : (Tryz.prog.info? 84).map (fun i => (i.size, i.zero.map (·.cells), Nat.ble i.bytes 1024, Nat.beq i.bytes 0)) = some (el84.sz, some (el84.enc default).toArray, true, false) := by kernel_rfl
theorem qfI : SlT Tryz.prog el84 30 := qm7 qnC qnx
theorem qnH : Tryz.prog.underlying 31 = some (.slice 52) := by kernel_rfl
theorem qnt : (Tryz.prog.info? 52).map (fun i => (i.size, i.zero.map (·.cells), Nat.ble i.bytes 1024, Nat.beq i.bytes 0)) = some ((elH 52).sz, some ((elH 52).enc default).toArray, true, false) := by kernel_rfl
theorem qmY : SlT Tryz.prog (elH 52) 31 := qm7 qnH qnt
theorem qnD : Tryz.prog.underlying 50 = some (.slice 91) := by kernel_rfl
theorem qnz : (Tryz.prog.info? 91).map (fun i => (i.size, i.zero.map (·.cells), Nat.ble i.bytes 1024, Nat.beq i.bytes 0)) = some (el91.sz, some (el91.enc default).toArray, true, false) := by kernel_rfl
theorem qkw : SlT Tryz.prog el91 50 := qm7 qnD qnz
theorem qmG : Tryz.prog.underlying 149 = some (.slice 4) := by kernel_rfl
theorem qmA : (Tryz.prog.info? 4).map (fun i => (i.size, i.zero.map (·.cells), Nat.ble i.bytes 1024, Nat.beq i.bytes 0)) = some (el4.sz, some (el4.enc default).toArray, true, false) := by kernel_rfl
theorem qnW : SlT Tryz.prog el4 149 := qm7 qmG qmA
abbrev Cl := Cll Tryz.prog
end Go.V
