/-
  All: whatever the input, the law returns true, and each argument reads behind the call as it read before; conditions: those of the tied card's row.
-/
import Derived.Test.YtecibefflhomdaaGreatDoorU52
import Derived.Test.YtecibefflhomdaaGreatDoorAllFacts
set_option maxHeartbeats 8000000
set_option maxRecDepth 100000
set_option linter.all false
namespace Go.Proofs.YtecibefflhomdaaGreatDoor
open Go
section
open Go Go.ChangeShapes Go.WideShapes Go.RowKit
section
variable {H:Type} {enc:TypeId×Value→H}
theorem all_w1 (os:Os):Input.okWideB Tryz.prog ((World.doorLaid Tryz.prog 400 os).forCall (fun _ _=>0) ⟨#[],#[.slice none 0 0,.int .i64 0,.int .i64 0],[]⟩) 8 ⟨#[],#[.slice none 0 0,.int .i64 0,.int .i64 0],[]⟩=true:=by kernel_rfl
theorem all_w2 (os:Os):Rows.allSpec.preB enc Tryz.prog Tryz.f8 [] false ((World.doorLaid Tryz.prog 400 os).forCall (fun _ _=>0) ⟨#[],#[.slice none 0 0,.int .i64 0,.int .i64 0],[]⟩).memory #[.slice none 0 0,.int .i64 0,.int .i64 0] 8=true:=by kernel_rfl
theorem all_w3 (os:Os):Rows.allSpec.sizedB enc Tryz.prog Tryz.f8 false ((World.doorLaid Tryz.prog 400 os).forCall (fun _ _=>0) ⟨#[],#[.slice none 0 0,.int .i64 0,.int .i64 0],[]⟩).memory #[.slice none 0 0,.int .i64 0,.int .i64 0] 8=true:=by kernel_rfl
theorem all_named:Tryz.prog.funcNamed Rows.allRow.func=some 8:=by kernel_rfl
theorem all_noInit:Tryz.prog.inits.idxOf? 8=none:=by kernel_rfl
theorem all_res:Tryz.f8.resultTypes=#[4]:=by kernel_rfl
theorem all_lifted (os:Os) (started:os.Started) (F:Stop.Interp) :
 ReturnsInLeavingWide { calm:=true } Tryz.checked os 8 .any (fun w args=>(Rows.allSpec.pre enc Tryz.prog Tryz.f8 [] false w args∧laidMetH Tryz.prog laid4 w)∧sizedMet enc Tryz.prog Tryz.f8 (OpenSpec.ofChange Rows.allSpec) false w args)
  ((OpenSpec.ofChange Rows.allSpec).postWith enc Tryz.prog Tryz.f8 F (outsideKept [.timePasses]) false true false):=
 leaving_laid (C:=Tryz.checked) (s:=Rows.allSpec) (conds:=[]) (apart:=false) (Xp:=laidMetH Tryz.prog laid4) (fun _ _ hh h=>h.of_heap hh) own_knob started all_noInit Tryz.func8 (witness3 (all_w1 os) (all_w2 os) (all_w3 os))
  (fun W base args ds gs before hval hW hwt hX=>law3 (s:=Rows.allSpec) Tryz.params8 all_res rfl (fun _ _ _=>rfl) (fun W v ops a b ho hp he=>all_law ho hp he (Sat.refl W)) W base args ds gs before hval hW hwt hX true)
end
theorem all_holds:Rows.AllSaid:=
 OpenClaim.holds_of_wide_leaving_time 8 Tryz.f8 rfl rfl rfl rfl rfl rfl rfl ⟨rfl,rfl,rfl,rfl,rfl⟩ rfl rfl rfl rfl rfl all_named Tryz.func8 all_facts all_inst all_wrap
  (fun os started H enc _ F=>all_lifted os started F)
end
theorem all_card:Rows.AllCardSaid:=
 card_goes all_holds (by kernel_rfl) all_row_tie rfl ⟨rfl,rfl⟩ (by kernel_rfl) all_named Tryz.func8 (by kernel_rfl) (by rw [Tryz.params8];kernel_rfl) (by kernel_rfl)
end Go.Proofs.YtecibefflhomdaaGreatDoor
