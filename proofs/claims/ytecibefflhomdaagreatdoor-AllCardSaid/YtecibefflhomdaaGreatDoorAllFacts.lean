/-
  Part 57: THE CARD of All the row's closed facts.
-/
import Derived.Conc.HoldsTime
import Derived.Test.YtecibefflhomdaaGreatDoorCards
import Derived.Test.YtecibefflhomdaaGreatDoorTie
set_option maxHeartbeats 8000000
set_option maxRecDepth 100000
set_option linter.all false
namespace Go.Proofs.YtecibefflhomdaaGreatDoor
open Go
theorem all_facts:joinedFacts Tryz.pinned.checked.prog 8 Tryz.f8 Rows.allSpec Rows.allRow=true:=by kernel_rfl
theorem all_inst:Tryz.f8.isInstance Tryz.pinned.checked.prog Rows.allRow.origin Rows.allRow.targs:=of_decide_eq_true (by kernel_rfl)
theorem all_wrap:Tryz.f8.isWrapper Tryz.pinned.checked.prog Rows.allRow.wrapper Rows.allRow.mainSum:=by
 unfold Func.isWrapper;first|(rw [if_pos (by decide +kernel)];kernel_rfl)|(rw [if_neg (by decide +kernel)];exact ⟨rfl,rfl⟩)
end Go.Proofs.YtecibefflhomdaaGreatDoor
