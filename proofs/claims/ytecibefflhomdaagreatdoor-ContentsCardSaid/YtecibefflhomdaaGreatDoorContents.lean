/-
  Contents: whatever the input, the law returns true, and each argument reads behind the call as it read before; conditions: those of the tied card's row.
-/
import Derived.Test.YtecibefflhomdaaGreatDoorU52
import Derived.Test.YtecibefflhomdaaGreatDoorContentsFacts
set_option maxHeartbeats 8000000
set_option maxRecDepth 100000
set_option linter.all false
namespace Go.Proofs.YtecibefflhomdaaGreatDoor
open Go
section
open Go Go.ChangeShapes Go.WideShapes Go.RowKit
section
variable {H:Type} {enc:TypeId×Value→H}
theorem contents_w1 (os:Os):Input.okWideB Tryz.prog ((World.doorLaid Tryz.prog 400 os).forCall (fun _ _=>0) ⟨#[],#[.slice none 0 0,.int .i64 0,.int .i64 0],[]⟩) 6 ⟨#[],#[.slice none 0 0,.int .i64 0,.int .i64 0],[]⟩=true:=by kernel_rfl
theorem contents_w2 (os:Os):Rows.contentsSpec.preB enc Tryz.prog Tryz.f6 [] false ((World.doorLaid Tryz.prog 400 os).forCall (fun _ _=>0) ⟨#[],#[.slice none 0 0,.int .i64 0,.int .i64 0],[]⟩).memory #[.slice none 0 0,.int .i64 0,.int .i64 0] 8=true:=by kernel_rfl
theorem contents_w3 (os:Os):Rows.contentsSpec.sizedB enc Tryz.prog Tryz.f6 false ((World.doorLaid Tryz.prog 400 os).forCall (fun _ _=>0) ⟨#[],#[.slice none 0 0,.int .i64 0,.int .i64 0],[]⟩).memory #[.slice none 0 0,.int .i64 0,.int .i64 0] 8=true:=by kernel_rfl
theorem contents_named:Tryz.prog.funcNamed Rows.contentsRow.func=some 6:=by kernel_rfl
theorem contents_noInit:Tryz.prog.inits.idxOf? 6=none:=by kernel_rfl
theorem contents_res:Tryz.f6.resultTypes=#[4]:=by kernel_rfl
theorem contents_lifted (os:Os) (started:os.Started) (F:Stop.Interp) :
 ReturnsInLeavingWide { calm:=true } Tryz.checked os 6 .any (fun w args=>(Rows.contentsSpec.pre enc Tryz.prog Tryz.f6 [] false w args∧laidMetH Tryz.prog laid4 w)∧sizedMet enc Tryz.prog Tryz.f6 (OpenSpec.ofChange Rows.contentsSpec) false w args)
  ((OpenSpec.ofChange Rows.contentsSpec).postWith enc Tryz.prog Tryz.f6 F (outsideKept [.timePasses]) false true false):=
 leaving_laid (C:=Tryz.checked) (s:=Rows.contentsSpec) (conds:=[]) (apart:=false) (Xp:=laidMetH Tryz.prog laid4) (fun _ _ hh h=>h.of_heap hh) own_knob started contents_noInit Tryz.func6 (witness3 (contents_w1 os) (contents_w2 os) (contents_w3 os))
  (fun W base args ds gs before hval hW hwt hX=>law3 (s:=Rows.contentsSpec) Tryz.params6 contents_res rfl (fun _ _ _=>rfl) (fun W v ops a b ho hp he=>contents_spec ho hp he (Sat.refl W)) W base args ds gs before hval hW hwt hX true)
end
theorem contents_holds:Rows.ContentsSaid:=
 OpenClaim.holds_of_wide_leaving_time 6 Tryz.f6 rfl rfl rfl rfl rfl rfl rfl ⟨rfl,rfl,rfl,rfl,rfl⟩ rfl rfl rfl rfl rfl contents_named Tryz.func6 contents_facts contents_inst contents_wrap
  (fun os started H enc _ F=>contents_lifted os started F)
end
theorem contents_card:Rows.ContentsCardSaid:=
 card_goes contents_holds (by kernel_rfl) contents_row_tie rfl ⟨rfl,rfl⟩ (by kernel_rfl) contents_named Tryz.func6 (by kernel_rfl) (by rw [Tryz.params6];kernel_rfl) (by kernel_rfl)
end Go.Proofs.YtecibefflhomdaaGreatDoor
