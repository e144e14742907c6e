/-
  Part 55: THE CARD of Snaps the row's closed facts.
-/
import Derived.Conc.HoldsTime
import Derived.Test.YtecibefflhomdaaGreatDoorCards
import Derived.Test.YtecibefflhomdaaGreatDoorTie
set_option maxHeartbeats 8000000
set_option maxRecDepth 100000
set_option linter.all false
namespace Go.Proofs.YtecibefflhomdaaGreatDoor
open Go
theorem snaps_facts:joinedFacts Tryz.pinned.checked.prog 7 Tryz.f7 Rows.snapsSpec Rows.snapsRow=true:=by kernel_rfl
theorem snaps_inst:Tryz.f7.isInstance Tryz.pinned.checked.prog Rows.snapsRow.origin Rows.snapsRow.targs:=of_decide_eq_true (by kernel_rfl)
theorem snaps_wrap:Tryz.f7.isWrapper Tryz.pinned.checked.prog Rows.snapsRow.wrapper Rows.snapsRow.mainSum:=by
 unfold Func.isWrapper;first|(rw [if_pos (by decide +kernel)];kernel_rfl)|(rw [if_neg (by decide +kernel)];exact ⟨rfl,rfl⟩)
end Go.Proofs.YtecibefflhomdaaGreatDoor
