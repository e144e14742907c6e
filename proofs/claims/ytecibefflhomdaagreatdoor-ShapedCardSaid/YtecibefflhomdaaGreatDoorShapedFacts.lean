/-
  Part 52: THE CARD of Shaped the row's closed facts.
-/
import Derived.Conc.HoldsTime
import Derived.Test.YtecibefflhomdaaGreatDoorCards
import Derived.Test.YtecibefflhomdaaGreatDoorTie
set_option maxHeartbeats 8000000
set_option maxRecDepth 100000
set_option linter.all false
namespace Go.Proofs.YtecibefflhomdaaGreatDoor
open Go
theorem AJ:joinedFacts Tryz.pinned.checked.prog 10 Tryz.f10 Rows.shapedSpec Rows.shapedRow=true:=by kernel_rfl
theorem Dc:Tryz.f10.isInstance Tryz.pinned.checked.prog Rows.shapedRow.origin Rows.shapedRow.targs:=of_decide_eq_true (by kernel_rfl)
theorem Dd:Tryz.f10.isWrapper Tryz.pinned.checked.prog Rows.shapedRow.wrapper Rows.shapedRow.mainSum:=by
 unfold Func.isWrapper;first|(rw [if_pos (by decide +kernel)];kernel_rfl)|(rw [if_neg (by decide +kernel)];exact ⟨rfl,rfl⟩)
end Go.Proofs.YtecibefflhomdaaGreatDoor
