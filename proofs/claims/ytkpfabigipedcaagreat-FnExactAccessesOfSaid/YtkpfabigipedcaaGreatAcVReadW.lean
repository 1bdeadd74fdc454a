import Derived.Test.YtkpfabigipedcaaGreatAcVRead
import Derived.Test.YtkpfabigipedcaaGreatAcVDeep
import Derived.Test.YtkpfabigipedcaaGreatAcPure2
set_option linter.unusedVariables false
namespace Go.V
open Go.Deep Go.WideShapes Go.ChangeShapes
section
variable {H : Type} {enc : TypeId × Value → H} {P : Program} {w : World} {base : Nat} {spare : Nat → Bool} {held : Bool}
theorem dec_rowW {T : Nat} {EF : El D.Frame} {EI : El Int} {t e : TypeId} (ht : P.underlying t = some (.slice e)) (hc : P.cellsOf e = 3)
    (hd : Dec H enc P w base spare held e (fun cs (a : D.Warp) => ∃ A1 c1 A2 c2, cs = [.int .i64 a.Number, .slice A1 a.Frames.length c1, .slice A2 a.Regs.length c2] ∧ (a.Frames.length ≤ c1 ∧ c1 ≤ maxLen ∧ Row EF w A1 a.Frames) ∧ (a.Regs.length ≤ c2 ∧ c2 ≤ maxLen ∧ Row EI w A2 a.Regs) ∧ True)) :
    Dec H enc P w base spare held t (fun cs (xs : List D.Warp) => ∃ A c, cs = [.slice A xs.length c] ∧ xs.length ≤ c ∧ c ≤ maxLen ∧ RowW T EF EI w A xs ∧ ∀ y ∈ xs, M.WLong y) := by
 have hd' : Dec H enc P w base spare held e (fun cs (h : HW) => cs = (elH T).enc h ∧ (Row EF w h.fa h.w.Frames ∧ h.w.Frames.length ≤ h.fc ∧ Row EI w h.ra h.w.Regs ∧ h.w.Regs.length ≤ h.rc) ∧ M.WLong h.w) := by
  intro n cs x h
  obtain ⟨a, A1, c1, A2, c2, e1, ⟨h1, h2, h3⟩, ⟨h4, h5, h6⟩, _⟩ := hd n cs x h
  exact ⟨⟨a, A1, c1, A2, c2⟩, e1, ⟨h3, h1, h6, h4⟩, Nat.le_trans h1 h2, Nat.le_trans h4 h5⟩
 have hr := dec_row (E := elH T) (Q := fun h => (Row EF w h.fa h.w.Frames ∧ h.w.Frames.length ≤ h.fc ∧ Row EI w h.ra h.w.Regs ∧ h.w.Regs.length ≤ h.rc) ∧ M.WLong h.w) ht hc hd'
 intro n cs x h
 obtain ⟨hs, A, c, e1, h1, h2, h3, h4⟩ := hr n cs x h
 refine ⟨hs.map HW.w, A, c, by rw [List.length_map]; exact e1, by rw [List.length_map]; exact h1, h2, ⟨hs, rfl, h3, fun y hy => (h4 y hy).1⟩, fun y hy => ?_⟩
 obtain ⟨z, hz, rfl⟩ := List.mem_map.1 hy
 exact (h4 z hz).2
end
end Go.V
