/-
  Part 51: THE CARD of Fails the row's closed facts.
-/
import Derived.Conc.HoldsTime
import Derived.Test.YtecibefflhomdaaGreatDoorCards
import Derived.Test.YtecibefflhomdaaGreatDoorTie
set_option maxHeartbeats 8000000
set_option maxRecDepth 100000
set_option linter.all false
namespace Go.Proofs.YtecibefflhomdaaGreatDoor
open Go
theorem Br:joinedFacts Tryz.pinned.checked.prog 5 Tryz.f5 Rows.failsSpec Rows.failsRow=true:=by kernel_rfl
theorem Dv:Tryz.f5.isInstance Tryz.pinned.checked.prog Rows.failsRow.origin Rows.failsRow.targs:=of_decide_eq_true (by kernel_rfl)
theorem Dw:Tryz.f5.isWrapper Tryz.pinned.checked.prog Rows.failsRow.wrapper Rows.failsRow.mainSum:=by
 unfold Func.isWrapper;first|(rw [if_pos (by decide +kernel)];kernel_rfl)|(rw [if_neg (by decide +kernel)];exact ⟨rfl,rfl⟩)
end Go.Proofs.YtecibefflhomdaaGreatDoor
