/-
  Flips: whatever the input, the law returns true, and each argument reads behind the call as it read before; conditions: those of the tied card's row.
-/
import Derived.Test.YtecibefflhomdaaGreatDoorW47
import Derived.Test.YtecibefflhomdaaGreatDoorFlipsFacts
set_option maxHeartbeats 8000000
set_option maxRecDepth 100000
set_option linter.all false
namespace Go.Proofs.YtecibefflhomdaaGreatDoor
open Go
section
open Go Go.ChangeShapes Go.WideShapes Go.RowKit
section
variable {H:Type} {enc:TypeId×Value→H}
theorem Jp (os:Os):Input.okWideB Tryz.prog ((World.doorLaid Tryz.prog 400 os).forCall (fun _ _=>0) ⟨#[],#[.slice none 0 0,.int .i64 0,.int .i64 0,.int .i64 0,.int .u64 0],[]⟩) 3 ⟨#[],#[.slice none 0 0,.int .i64 0,.int .i64 0,.int .i64 0,.int .u64 0],[]⟩=true:=by kernel_rfl
theorem Jq (os:Os):Rows.flipsSpec.preB enc Tryz.prog Tryz.f3 [] false ((World.doorLaid Tryz.prog 400 os).forCall (fun _ _=>0) ⟨#[],#[.slice none 0 0,.int .i64 0,.int .i64 0,.int .i64 0,.int .u64 0],[]⟩).memory #[.slice none 0 0,.int .i64 0,.int .i64 0,.int .i64 0,.int .u64 0] 8=true:=by kernel_rfl
theorem Jr (os:Os):Rows.flipsSpec.sizedB enc Tryz.prog Tryz.f3 false ((World.doorLaid Tryz.prog 400 os).forCall (fun _ _=>0) ⟨#[],#[.slice none 0 0,.int .i64 0,.int .i64 0,.int .i64 0,.int .u64 0],[]⟩).memory #[.slice none 0 0,.int .i64 0,.int .i64 0,.int .i64 0,.int .u64 0] 8=true:=by kernel_rfl
theorem sK:Tryz.prog.funcNamed Rows.flipsRow.func=some 3:=by kernel_rfl
theorem yU:Tryz.prog.inits.idxOf? 3=none:=by kernel_rfl
theorem Gn:Tryz.f3.resultTypes=#[4]:=by kernel_rfl
theorem yV (os:Os) (started:os.Started) (F:Stop.Interp) :
 ReturnsInLeavingWide { calm:=true } Tryz.checked os 3 .any (fun w args=>(Rows.flipsSpec.pre enc Tryz.prog Tryz.f3 [] false w args∧laidMetH Tryz.prog oT w)∧sizedMet enc Tryz.prog Tryz.f3 (OpenSpec.ofChange Rows.flipsSpec) false w args)
  ((OpenSpec.ofChange Rows.flipsSpec).postWith enc Tryz.prog Tryz.f3 F (outsideKept [.timePasses]) false true false):=
 yH (C:=Tryz.checked) (s:=Rows.flipsSpec) (conds:=[]) (apart:=false) (Xp:=laidMetH Tryz.prog oT) (fun _ _ hh h=>h.of_heap hh) I9 started yU Tryz.func3 (Jo (Jp os) (Jq os) (Jr os))
  (fun W base args ds gs before hval hW hwt hX=>Of (s:=Rows.flipsSpec) Tryz.params3 Gn rfl (fun _ _ _ _ _=>rfl) (fun W v ops a b c bit ho hp he=>Gm ho hp he (Sat.refl W)) W base args ds gs before hval hW hwt hX true)
end
theorem Bf:Rows.FlipsSaid:=
 OpenClaim.holds_of_wide_leaving_time 3 Tryz.f3 rfl rfl rfl rfl rfl rfl rfl ⟨rfl,rfl,rfl,rfl,rfl⟩ rfl rfl rfl rfl rfl sK Tryz.func3 Be C4 C5
  (fun os started H enc _ F=>yV os started F)
end
theorem flips_card:Rows.FlipsCardSaid:=
 Gp Bf (by kernel_rfl) flips_row_tie rfl ⟨rfl,rfl⟩ (by kernel_rfl) sK Tryz.func3 (by kernel_rfl) (by rw [Tryz.params3];kernel_rfl) (by kernel_rfl)
end Go.Proofs.YtecibefflhomdaaGreatDoor
