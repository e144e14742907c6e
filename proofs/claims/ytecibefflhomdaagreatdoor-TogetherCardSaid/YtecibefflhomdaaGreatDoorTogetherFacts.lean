/-
  The closed facts of Together's card.
-/
import Derived.Conc.HoldsTime
import Derived.Test.YtecibefflhomdaaGreatDoorCards
import Derived.Test.YtecibefflhomdaaGreatDoorTie
set_option maxHeartbeats 8000000
set_option maxRecDepth 100000
set_option linter.all false
namespace Go.Proofs.YtecibefflhomdaaGreatDoor
open Go Proofs.Tryz
theorem Ac:joinedFacts Tryz.pinned.checked.prog 9 f9 Rows.togetherSpec Rows.togetherRow=true:=by kernel_rfl
theorem AK:f9.isInstance Tryz.pinned.checked.prog Rows.togetherRow.origin Rows.togetherRow.targs:=of_decide_eq_true (by kernel_rfl)
theorem AL:f9.isWrapper Tryz.pinned.checked.prog Rows.togetherRow.wrapper Rows.togetherRow.mainSum:=by
 unfold Func.isWrapper;first|(rw[if_pos (by decide +kernel)];kernel_rfl)|(rw[if_neg (by decide +kernel)];exact⟨rfl,rfl⟩)
