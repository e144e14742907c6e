/-
  Together: whatever the input, under every schedule the law returns true, and each argument reads behind the call as it read before; conditions: those of the tied card's row.
-/
import Derived.Test.YtecibefflhomdaaGreatDoorZ49
import Derived.Test.YtecibefflhomdaaGreatDoorTogetherFacts
set_option maxHeartbeats 8000000
set_option maxRecDepth 100000
set_option linter.all false
namespace Go.Proofs.YtecibefflhomdaaGreatDoor
open Go Proofs.Tryz
section
open Go Go.ChangeShapes Go.WideShapes Go.RowKit Go.Conc Go.ConcM
section
variable{H:Type}{enc:XO×Xp->H}
def Gq(o:Os):Input.okWideB prog ((World.doorLaid prog 400 o).forCall (λ_ _=>0) ⟨#[],#[.slice none 0 0,.int .i64 0,.int .i64 0],[]⟩) 9 ⟨#[],#[.slice none 0 0,.int .i64 0,.int .i64 0],[]⟩=true:=by kernel_rfl
def Gr(o:Os):Rows.togetherSpec.preB enc prog f9 [] false ((World.doorLaid prog 400 o).forCall (λ_ _=>0) ⟨#[],#[.slice none 0 0,.int .i64 0,.int .i64 0],[]⟩).memory #[.slice none 0 0,.int .i64 0,.int .i64 0] 8=true:=by kernel_rfl
def Gs(o:Os):Rows.togetherSpec.sizedB enc prog f9 false ((World.doorLaid prog 400 o).forCall (λ_ _=>0) ⟨#[],#[.slice none 0 0,.int .i64 0,.int .i64 0],[]⟩).memory #[.slice none 0 0,.int .i64 0,.int .i64 0] 8=true:=by kernel_rfl
def ri:prog.funcNamed Rows.togetherRow.func=some 9:=by kernel_rfl
def Dx:f9.resultTypes=#[4]:=by kernel_rfl
def xf(O:Os)(s:O.Started)(F:Stop.Interp) :
 ReturnsInLeavingWide { calm:=true } checked O 9 .any (λw a=>(Rows.togetherSpec.pre enc prog f9 [] false w a/\laidMetH prog uH w)/\sizedMet enc prog f9 (OpenSpec.ofChange Rows.togetherSpec) false w a)
  ((OpenSpec.ofChange Rows.togetherSpec).postWith enc prog f9 F (outsideKept [.timePasses]) false true false):=by
 refine returnsInLeavingWide_of_good P0 s (WV (Gq O) (Gr O) (Gs O)) ?_;intro w t i _ _ _ e b _;have⟨_,_,_,f,c,_,_,_,_,d⟩:=e;obtain rfl:f=f9:=Xt (c.symm.trans func9);have⟨⟨⟨D,G,before,k,z⟩,m⟩,p⟩:=b;have g:=DataW.Whole.of_heap (w':=w.forCall t i) (by rfl) k;have⟨n,l,o,w',T,q,r,u,v,x,⟨y,j⟩,h⟩:=Dw rfl (λ_ _ _=>rfl) params9 Dx _ w.heap.size i.args D G before d g (p.weights k) (laidMetH.of_heap (by rfl) m) true;exact⟨n,l,o,w',T,q,r,u,v,x,postWith_blind (postWith_of_post y j),h⟩
end
def Ad:Rows.TogetherSaid:=
 OpenClaim.holds_of_wide_leaving_time 9 f9 rfl rfl rfl rfl rfl rfl rfl ⟨rfl,rfl,rfl,rfl,rfl⟩ rfl rfl rfl rfl rfl ri func9 Ac AK AL
  (λo s H e _ F=>xf o s F)
theorem together_card:Rows.TogetherCardSaid:=
 L8 Ad (by kernel_rfl) together_row_tie rfl ⟨rfl,rfl⟩ (by kernel_rfl) ri func9 (by kernel_rfl) (by rw[params9];kernel_rfl) (by kernel_rfl)
