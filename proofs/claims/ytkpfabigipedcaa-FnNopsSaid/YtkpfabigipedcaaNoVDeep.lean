import Derived.Test.YtkpfabigipedcaaNoPure
set_option linter.unusedVariables false
set_option linter.unusedSimpArgs false
namespace Go.V
section
variable {T : Nat} {EF : El D.Frame} {EI : El Int} {w w' : World} {B c : Nat} {F : Nat → Prop} {A : Option Addr} {xs : List D.Warp}
theorem qeg.qgx {X X' : Option Addr} (e : qeg X X' w w') : Chg (InB X) w w' := ⟨e.os, e.tape, e.output, e.size, fun k hk hn => e.block k hk fun a ha hb => hn ⟨a, ha, hb⟩⟩
end
end Go.V
