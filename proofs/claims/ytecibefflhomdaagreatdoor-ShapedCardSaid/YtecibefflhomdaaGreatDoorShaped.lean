/-
  Shaped: whatever the input, the law returns true, and each argument reads behind the call as it read before; conditions: those of the tied card's row.
-/
import Derived.Test.YtecibefflhomdaaGreatDoorV51
import Derived.Test.YtecibefflhomdaaGreatDoorShapedFacts
set_option maxHeartbeats 8000000
set_option maxRecDepth 100000
set_option linter.all false
namespace Go.Proofs.YtecibefflhomdaaGreatDoor
open Go
section
open Go Go.ChangeShapes Go.WideShapes Go.RowKit
section
variable {H:Type} {enc:TypeId×Value→H}
theorem IX (os:Os):Input.okWideB Tryz.prog ((World.doorLaid Tryz.prog 400 os).forCall (fun _ _=>0) ⟨#[],#[.slice none 0 0,.int .i64 0,.int .i64 0],[]⟩) 10 ⟨#[],#[.slice none 0 0,.int .i64 0,.int .i64 0],[]⟩=true:=by kernel_rfl
theorem IY (os:Os):Rows.shapedSpec.preB enc Tryz.prog Tryz.f10 [] false ((World.doorLaid Tryz.prog 400 os).forCall (fun _ _=>0) ⟨#[],#[.slice none 0 0,.int .i64 0,.int .i64 0],[]⟩).memory #[.slice none 0 0,.int .i64 0,.int .i64 0] 8=true:=by kernel_rfl
theorem IZ (os:Os):Rows.shapedSpec.sizedB enc Tryz.prog Tryz.f10 false ((World.doorLaid Tryz.prog 400 os).forCall (fun _ _=>0) ⟨#[],#[.slice none 0 0,.int .i64 0,.int .i64 0],[]⟩).memory #[.slice none 0 0,.int .i64 0,.int .i64 0] 8=true:=by kernel_rfl
theorem rE:Tryz.prog.funcNamed Rows.shapedRow.func=some 10:=by kernel_rfl
theorem xu:Tryz.prog.inits.idxOf? 10=none:=by kernel_rfl
theorem FD:Tryz.f10.resultTypes=#[4]:=by kernel_rfl
theorem xv (os:Os) (started:os.Started) (F:Stop.Interp) :
 ReturnsInLeavingWide { calm:=true } Tryz.checked os 10 .any (fun w args=>(Rows.shapedSpec.pre enc Tryz.prog Tryz.f10 [] false w args∧laidMetH Tryz.prog pK w)∧sizedMet enc Tryz.prog Tryz.f10 (OpenSpec.ofChange Rows.shapedSpec) false w args)
  ((OpenSpec.ofChange Rows.shapedSpec).postWith enc Tryz.prog Tryz.f10 F (outsideKept [.timePasses]) false true false):=
 AH (C:=Tryz.checked) (s:=Rows.shapedSpec) (conds:=[]) (apart:=false) (Xp:=laidMetH Tryz.prog pK) (fun _ _ hh h=>h.of_heap hh) LL started xu Tryz.func10 (LP (IX os) (IY os) (IZ os))
  (fun W base args ds gs before hval hW hwt hX=>Q6 (s:=Rows.shapedSpec) Tryz.params10 FD rfl (fun _ _ _=>rfl) (fun W v ops a b ho hp he=>FC ho hp he (Sat.refl W)) W base args ds gs before hval hW hwt hX true)
end
theorem AK:Rows.ShapedSaid:=
 OpenClaim.holds_of_wide_leaving_time 10 Tryz.f10 rfl rfl rfl rfl rfl rfl rfl ⟨rfl,rfl,rfl,rfl,rfl⟩ rfl rfl rfl rfl rfl rE Tryz.func10 AJ Dc Dd
  (fun os started H enc _ F=>xv os started F)
end
theorem shaped_card:Rows.ShapedCardSaid:=
 I0 AK (by kernel_rfl) shaped_row_tie rfl ⟨rfl,rfl⟩ (by kernel_rfl) rE Tryz.func10 (by kernel_rfl) (by rw [Tryz.params10];kernel_rfl) (by kernel_rfl)
end Go.Proofs.YtecibefflhomdaaGreatDoor
