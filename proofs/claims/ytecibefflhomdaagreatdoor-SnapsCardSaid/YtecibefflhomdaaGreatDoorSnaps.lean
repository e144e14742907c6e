/-
  Snaps: whatever the input, the law returns true, and each argument reads behind the call as it read before; conditions: those of the tied card's row.
-/
import Derived.Test.YtecibefflhomdaaGreatDoorU52
import Derived.Test.YtecibefflhomdaaGreatDoorSnapsFacts
set_option maxHeartbeats 8000000
set_option maxRecDepth 100000
set_option linter.all false
namespace Go.Proofs.YtecibefflhomdaaGreatDoor
open Go
section
open Go Go.ChangeShapes Go.WideShapes Go.RowKit
section
variable {H:Type} {enc:TypeId×Value→H}
theorem snaps_w1 (os:Os):Input.okWideB Tryz.prog ((World.doorLaid Tryz.prog 400 os).forCall (fun _ _=>0) ⟨#[],#[.slice none 0 0,.int .i64 0,.int .i64 0],[]⟩) 7 ⟨#[],#[.slice none 0 0,.int .i64 0,.int .i64 0],[]⟩=true:=by kernel_rfl
theorem snaps_w2 (os:Os):Rows.snapsSpec.preB enc Tryz.prog Tryz.f7 [] false ((World.doorLaid Tryz.prog 400 os).forCall (fun _ _=>0) ⟨#[],#[.slice none 0 0,.int .i64 0,.int .i64 0],[]⟩).memory #[.slice none 0 0,.int .i64 0,.int .i64 0] 8=true:=by kernel_rfl
theorem snaps_w3 (os:Os):Rows.snapsSpec.sizedB enc Tryz.prog Tryz.f7 false ((World.doorLaid Tryz.prog 400 os).forCall (fun _ _=>0) ⟨#[],#[.slice none 0 0,.int .i64 0,.int .i64 0],[]⟩).memory #[.slice none 0 0,.int .i64 0,.int .i64 0] 8=true:=by kernel_rfl
theorem snaps_named:Tryz.prog.funcNamed Rows.snapsRow.func=some 7:=by kernel_rfl
theorem snaps_noInit:Tryz.prog.inits.idxOf? 7=none:=by kernel_rfl
theorem snaps_res:Tryz.f7.resultTypes=#[4]:=by kernel_rfl
theorem snaps_lifted (os:Os) (started:os.Started) (F:Stop.Interp) :
 ReturnsInLeavingWide { calm:=true } Tryz.checked os 7 .any (fun w args=>(Rows.snapsSpec.pre enc Tryz.prog Tryz.f7 [] false w args∧laidMetH Tryz.prog laid4 w)∧sizedMet enc Tryz.prog Tryz.f7 (OpenSpec.ofChange Rows.snapsSpec) false w args)
  ((OpenSpec.ofChange Rows.snapsSpec).postWith enc Tryz.prog Tryz.f7 F (outsideKept [.timePasses]) false true false):=
 leaving_laid (C:=Tryz.checked) (s:=Rows.snapsSpec) (conds:=[]) (apart:=false) (Xp:=laidMetH Tryz.prog laid4) (fun _ _ hh h=>h.of_heap hh) own_knob started snaps_noInit Tryz.func7 (witness3 (snaps_w1 os) (snaps_w2 os) (snaps_w3 os))
  (fun W base args ds gs before hval hW hwt hX=>law3 (s:=Rows.snapsSpec) Tryz.params7 snaps_res rfl (fun _ _ _=>rfl) (fun W v ops a b ho hp he=>snaps_spec ho hp he (Sat.refl W)) W base args ds gs before hval hW hwt hX true)
end
theorem snaps_holds:Rows.SnapsSaid:=
 OpenClaim.holds_of_wide_leaving_time 7 Tryz.f7 rfl rfl rfl rfl rfl rfl rfl ⟨rfl,rfl,rfl,rfl,rfl⟩ rfl rfl rfl rfl rfl snaps_named Tryz.func7 snaps_facts snaps_inst snaps_wrap
  (fun os started H enc _ F=>snaps_lifted os started F)
end
theorem snaps_card:Rows.SnapsCardSaid:=
 card_goes snaps_holds (by kernel_rfl) snaps_row_tie rfl ⟨rfl,rfl⟩ (by kernel_rfl) snaps_named Tryz.func7 (by kernel_rfl) (by rw [Tryz.params7];kernel_rfl) (by kernel_rfl)
end Go.Proofs.YtecibefflhomdaaGreatDoor
