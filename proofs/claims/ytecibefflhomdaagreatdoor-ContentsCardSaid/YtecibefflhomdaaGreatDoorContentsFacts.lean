/-
  Part 53: THE CARD of Contents the row's closed facts.
-/
import Derived.Conc.HoldsTime
import Derived.Test.YtecibefflhomdaaGreatDoorCards
import Derived.Test.YtecibefflhomdaaGreatDoorTie
set_option maxHeartbeats 8000000
set_option maxRecDepth 100000
set_option linter.all false
namespace Go.Proofs.YtecibefflhomdaaGreatDoor
open Go
theorem contents_facts:joinedFacts Tryz.pinned.checked.prog 6 Tryz.f6 Rows.contentsSpec Rows.contentsRow=true:=by kernel_rfl
theorem contents_inst:Tryz.f6.isInstance Tryz.pinned.checked.prog Rows.contentsRow.origin Rows.contentsRow.targs:=of_decide_eq_true (by kernel_rfl)
theorem contents_wrap:Tryz.f6.isWrapper Tryz.pinned.checked.prog Rows.contentsRow.wrapper Rows.contentsRow.mainSum:=by
 unfold Func.isWrapper;first|(rw [if_pos (by decide +kernel)];kernel_rfl)|(rw [if_neg (by decide +kernel)];exact ⟨rfl,rfl⟩)
end Go.Proofs.YtecibefflhomdaaGreatDoor
