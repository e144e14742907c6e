/-
  Fails: whatever the input, the law returns true, and each argument reads behind the call as it read before; conditions: those of the tied card's row.
-/
import Derived.Test.YtecibefflhomdaaGreatDoorY50
import Derived.Test.YtecibefflhomdaaGreatDoorFailsFacts
set_option maxHeartbeats 8000000
set_option maxRecDepth 100000
set_option linter.all false
namespace Go.Proofs.YtecibefflhomdaaGreatDoor
open Go
section
open Go Go.ChangeShapes Go.WideShapes Go.RowKit
section
variable {H:Type} {enc:TypeId×Value→H}
theorem JJ (os:Os):Input.okWideB Tryz.prog ((World.doorLaid Tryz.prog 400 os).forCall (fun _ _=>0) ⟨#[],#[.slice none 0 0,.int .i64 0,.int .i64 0,.int .i64 0],[]⟩) 5 ⟨#[],#[.slice none 0 0,.int .i64 0,.int .i64 0,.int .i64 0],[]⟩=true:=by kernel_rfl
theorem JK (os:Os):Rows.failsSpec.preB enc Tryz.prog Tryz.f5 [] false ((World.doorLaid Tryz.prog 400 os).forCall (fun _ _=>0) ⟨#[],#[.slice none 0 0,.int .i64 0,.int .i64 0,.int .i64 0],[]⟩).memory #[.slice none 0 0,.int .i64 0,.int .i64 0,.int .i64 0] 8=true:=by kernel_rfl
theorem JL (os:Os):Rows.failsSpec.sizedB enc Tryz.prog Tryz.f5 false ((World.doorLaid Tryz.prog 400 os).forCall (fun _ _=>0) ⟨#[],#[.slice none 0 0,.int .i64 0,.int .i64 0,.int .i64 0],[]⟩).memory #[.slice none 0 0,.int .i64 0,.int .i64 0,.int .i64 0] 8=true:=by kernel_rfl
theorem sS:Tryz.prog.funcNamed Rows.failsRow.func=some 5:=by kernel_rfl
theorem y6:Tryz.prog.inits.idxOf? 5=none:=by kernel_rfl
theorem GO:Tryz.f5.resultTypes=#[4]:=by kernel_rfl
theorem y7 (os:Os) (started:os.Started) (F:Stop.Interp) :
 ReturnsInLeavingWide { calm:=true } Tryz.checked os 5 .any (fun w args=>(Rows.failsSpec.pre enc Tryz.prog Tryz.f5 [] false w args∧laidMetH Tryz.prog o5 w)∧sizedMet enc Tryz.prog Tryz.f5 (OpenSpec.ofChange Rows.failsSpec) false w args)
  ((OpenSpec.ofChange Rows.failsSpec).postWith enc Tryz.prog Tryz.f5 F (outsideKept [.timePasses]) false true false):=
 yT (C:=Tryz.checked) (s:=Rows.failsSpec) (conds:=[]) (apart:=false) (Xp:=laidMetH Tryz.prog o5) (fun _ _ hh h=>h.of_heap hh) Jo started y6 Tryz.func5 (JI (JJ os) (JK os) (JL os))
  (fun W base args ds gs before hval hW hwt hX=>OR (s:=Rows.failsSpec) Tryz.params5 GO rfl (fun _ _ _ _=>rfl) (fun W v ops a b c ho hp he=>GN ho hp he (Sat.refl W)) W base args ds gs before hval hW hwt hX true)
end
theorem Bt:Rows.FailsSaid:=
 OpenClaim.holds_of_wide_leaving_time 5 Tryz.f5 rfl rfl rfl rfl rfl rfl rfl ⟨rfl,rfl,rfl,rfl,rfl⟩ rfl rfl rfl rfl rfl sS Tryz.func5 Br Dv Dw
  (fun os started H enc _ F=>y7 os started F)
end
theorem fails_card:Rows.FailsCardSaid:=
 GP Bt (by kernel_rfl) fails_row_tie rfl ⟨rfl,rfl⟩ (by kernel_rfl) sS Tryz.func5 (by kernel_rfl) (by rw [Tryz.params5];kernel_rfl) (by kernel_rfl)
end Go.Proofs.YtecibefflhomdaaGreatDoor
