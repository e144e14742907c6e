/-
  Part 48: THE CARD of Flips the row's closed facts.
-/
import Derived.Conc.HoldsTime
import Derived.Test.YtecibefflhomdaaGreatDoorCards
import Derived.Test.YtecibefflhomdaaGreatDoorTie
set_option maxHeartbeats 8000000
set_option maxRecDepth 100000
set_option linter.all false
namespace Go.Proofs.YtecibefflhomdaaGreatDoor
open Go
theorem Be:joinedFacts Tryz.pinned.checked.prog 3 Tryz.f3 Rows.flipsSpec Rows.flipsRow=true:=by kernel_rfl
theorem C4:Tryz.f3.isInstance Tryz.pinned.checked.prog Rows.flipsRow.origin Rows.flipsRow.targs:=of_decide_eq_true (by kernel_rfl)
theorem C5:Tryz.f3.isWrapper Tryz.pinned.checked.prog Rows.flipsRow.wrapper Rows.flipsRow.mainSum:=by
 unfold Func.isWrapper;first|(rw [if_pos (by decide +kernel)];kernel_rfl)|(rw [if_neg (by decide +kernel)];exact ⟨rfl,rfl⟩)
end Go.Proofs.YtecibefflhomdaaGreatDoor
