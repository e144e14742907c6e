/-
  Part 49: ; ; THE TIED CARD, its goroutines told no builder of the kit has.
-/
import Derived.Test.YtecibefflhomdaaGreatDoorZ48
import Derived.ChangeShapes
import Derived.ChangeArms
import Derived.SizedLaws
import Derived.Conc.HoldsTime
import Derived.Handed
import Derived.ReadAgain
import Derived.OpenShut
import Derived.LaidMore
import Derived.LaidLaws
import Derived.LaidHandle
import Derived.ChangeSame
import Derived.RowKit
import Derived.RowKitTokens
import Derived.Carry
import Derived.Test.YtecibefflhomdaaGreatDoorCards
import Derived.Test.YtecibefflhomdaaGreatDoorTie
import Derived.SevenTiedAt
set_option maxRecDepth 100000
set_option maxHeartbeats 8000000
set_option linter.all false
namespace Go.Proofs.YtecibefflhomdaaGreatDoor
open Go Proofs.Tryz
def abj:=@Input.okWide_of_okWideB
section
open Go Go.Conc
open Pure (ad cC aO sF bD)
def UA(W:Xo)(k:Nat):Prop:=k<W.heap.size
def RY{O:Nat->Prop}(W:Xo)(os:Os):pH O { W with os:=os } W:=
 @Vw.mk (bI O) _ _ rfl rfl rfl (λk c e f h=>⟨c,h,rfl,λi x H _=>H⟩) (λk h=>by
  exact⟨_,h.2,λc e f h=>by grind⟩) (λk o h _ _=>h)
def WR{t:Xv Xp}(h:t[6]?=some (.bool true))(r:Xo):(results f9 t).runT prog r #[]=(.ok (.bool true) r,#[]):=by
 rw[results,results9,Yo];simp_all
section
attribute [local semireducible] WL WC WQ
def AJ{gs:Xn (Xp×Xn cC)}{a b:Int}{v:Xp}{W:Xo}(hv:DG W 1 v (gs.map λg=>[g.1]))(C:∀g∈gs,DG W 3 g.1 (cZ g.2))(f:ou W)(E:LJ W) :
 ∃n L o w t',runNT prog (n+1) (solo (G (Frame.enter prog 9 #[v,.int .i64 a,.int .i64 b] .normal) []) W) #[]=(.ended o w,t')/\runN prog n (solo (G (Frame.enter prog 9 #[v,.int .i64 a,.int .i64 b] .normal) []) W)=.next L/\Go.step prog L=.ended o w /\
  Conc.Good prog (BM (λu=>u=.bool true) W (UA W)) L o w t':=by
 obtain⟨m,z⟩:∃m,m=eU (gs.map (·.2)):=⟨_,rfl⟩;have H:Own m:=by rw[z];exact @Ab uF V7 _
 have p:=@JL uF V7 a;have F:=@JM uF V7 b;have A:=H.few;have I:UA W 1:=by
  have q:=f 0 (by omega);unfold World.cell? at q;cases B:W.heap[1]? with
  | none=>rw[B]at q;cases q
  | some o=>exact(Xz.1 B).1
 have c:∀(i:Nat) (l:Xn cC) (j:Nat) (x:cC),m[i]?=some l->l[j]?=some x->∀st s D,st.count i=j->AF m ⟨nt a,ni b⟩ st s D->F8 [x]=none/\∃S D',mM ⟨nt a,ni b⟩ s D [x] false=some (.ok S,D')/\AF m ⟨nt a,ni b⟩ (st++[i]) S D':=λi l j x d J st s D R K=>by
  have⟨⟨U,X⟩,Y⟩:=H.ok l (Ya d) x (Ya J);refine⟨?_,Ih H (by grind) p.1 d (by grind) K⟩;simp[F8]
  grind
 let V:Xo:={ W with os:=ji W.os ⟨0,0,0,.pre⟩ }
 have t:dN V=⟨0,0,0,.pre⟩:=kH rfl;apply Q5 (RR (by omega)) (Ia f I (λl d=>by have:=H.len l d;omega) c) (RY W _) (λk M=>M) (by rw[t]) rfl;letI:Base:=fN (Gl m a b) (UA W)
 haveI:=@W9 (Gl m a b) (UA W)
 haveI:=@Xa (Gl m a b) (UA W)
 haveI:=@VQ (Gl m a b) (UA W)
 refine Gc (kd:=false) (Q':=PZ) func9 rfl (λh=>by cases h) ?_ ?_
 .exact WN (W0:=V) z hv C f E (rfl) (Sat.refl V λi=>⟨λh=>⟨_,XL h,Xr⟩,λ⟨_,h,_⟩=>(Xz.1 h).1⟩) rfl _ (CG rfl)
 .rintro e Z v' ⟨N,O,P,Q⟩;refine⟨N,λT=>.stop λv1 y=>⟨rfl,by rw[vt y];exact Q,.bool true,rfl,#[],λe h=>by grind,λr hr=>?_⟩⟩;simp only[G,stepG,unwind,Frame.atR,O,func9,WR P r,GStep.after,Cy];simp[doReturn,tJ]
end
end
section
open Go Go.ChangeShapes Go.WideShapes Go.RowKit Go.Conc Go.ConcM
open Pure (cC)
def P0:ownKnob prog.godebug=none:=by kernel_rfl
section
variable{H:Type}{enc:XO×Xp->H}{w:Xo}{base fuel:Nat}{sp:Nat->XN}{held:XN}
def Ug(t:XO)(d:DataW H):Prop:=∀x∈DataW.weights prog t d,x<=140737488355328
variable {α:Type}
def wW {P:Nat->α->Prop}:∀n:Nat,(∀i,i<n->∃a,P i a)->∃l:Xn α,l.length=n/\∀i a,l[i]?=some a->P i a
 | 0,_=>⟨[],rfl,λi a h=>by grind⟩
 | n+1,h=>by
  have⟨l,c,d⟩:=wW n λi e=>h i (by omega);have⟨a,f⟩:=h n (by omega);refine⟨l++[a],by grind,λi b g=>?_⟩
  grind
variable {k:Nat}
def Gm {u:Xp}:∀{rows:Xn (Xn Xp)} {j:Nat},(∀r∈rows,r.length=k)->rows.flatten[j]?=some u->∃i r row,rows[i]?=some row/\j=i*k+r/\row[r]?=some u
 | [],_,_,h=>by grind
 | r::rows,j,a,h=>by
  rw[Yd]at h;have b:=a r (by simp);by_cases c:j<r.length
  .rw[XH c]at h;exact⟨0,j,r,rfl,by simp,h⟩
  .rw[Yr (by omega)]at h;have⟨i,R,row,e,f,d⟩:=Gm (λr b=>a r (by grind)) h;exact⟨i+1,R,row,by grind,by grind,d⟩
def P1{e:XO}{y:DataW H}:∀{l:Xn (DataW H)},(∀x∈DataW.weightsAll prog e l,x<=140737488355328)->y∈l->Ug e y
 | d::r,h,a=>by
  rcases XW.1 a with rfl|a
  .exact λx b=>h x (Ye _ b)
  .exact P1 (λx b=>h x (Yl _ b)) a
variable {cs:Xn Xp}
def Cf {t e:Nat} {rowOf:α->Xn Xp} {R:α->Prop} {x:DataW H×Xn MemPlace} (L:prog.underlying t=some (.slice e)) (U:prog.cellsOf e=k) (V:0<k) (d:∀a,(rowOf a).length=k) (f:∀n cs y,DataW.trod enc prog w base sp held n e cs=some y->Ug e y.1->∃a,cs=rowOf a/\R a) (h:DataW.trod enc prog w base sp held fuel t cs=some x) (M:Ug t x.1):
 ∃(v:Xp) (l:Xn α),cs=[v]/\DG w k v (l.map rowOf)/\(∀a∈l,R a)/\∀a n c,v=.slice a n c->n<=c:=by
 rcases DataW.trod_slice L h with⟨rfl,rfl⟩|⟨a,len,C,E,N,n,rfl,rfl,rfl,_,W,_,O,A,_,_⟩
 .exact⟨_,[],rfl,⟨⟨none,0,rfl⟩,by simp,λg=>XG rfl g⟩,by simp,λa n c g=>by injection g with _ B D;omega⟩
 .have F:=λy X=>by
   rw[Ug,DataW.weights,L]at M;exact P1 (λz Y=>M z (XQ _ (Ye _ Y))) (XA.2 ⟨y,X,rfl⟩)
  have m:∀i,i<len->∃b:α,R b/\∀j u,(rowOf b)[j]?=some u->w.cell? ((a.add (i*k)).add j)=some u:=by
   intro i P;have Q:=A i P;have o:i<E.length:=by omega
   rw[Xq o,U]at Q;have⟨Z,B,D⟩:=Zr.1 Q;obtain⟨b,rfl,S⟩:=f n Z _ D (F _ (ZA o));have⟨_,h5,h6⟩:=World.cells?_some B
   grind
  have⟨l,G,p⟩:=wW len m;have q:(l.map rowOf).length=len:=by rw[XT,G]
  refine⟨_,l,rfl,⟨⟨some a,C,by rw[q]⟩,λr I=>?_,λJ=>?_⟩,λb S=>?_,λa' n' c' g=>by injection g with _ B D;omega⟩
  .obtain⟨b,_,rfl⟩:=XA.1 I;exact d b
  .have s:0<l.length:=by cases l with|nil=>exact XG rfl J|cons _ _=>simp
   have h0:=(p 0 _ (Xq s)).2 0 _ (Xq (by rw[d];exact V));have K:a.spot=none:=by
    have:=World.cell?_spot h0;simpa[Addr.add]using this
   have⟨b0,o0,s0⟩:=a;cases K;refine⟨b0,o0,C,by rw[q],λj u hu=>?_⟩;obtain⟨i,r,row,T,rfl,g3⟩:=Gm (λr I=>by obtain⟨b,_,rfl⟩:=XA.1 I;exact d b) hu;rw[Yy]at T;obtain⟨b,g4,rfl⟩:=Yw.1 T;have:=(p i b g4).2 r u g3;rw[@add_eq uF,@add_eq uF]at this
   grind
  .have⟨i,P⟩:=Zk.1 S
   grind
def P2 {x:DataW H×Xn MemPlace} (h:DataW.trod enc prog w base sp held fuel 100 cs=some x) (d:Ug 100 x.1):
 ∃c:cC,cs=iQ c/\c.key.length<=140737488355328/\c.val.length<=140737488355328:=by
 obtain⟨X,n,rfl,rfl,e,i,a⟩:=DataW.trod_struct underlying100 h;have C:prog.cellsOf 100=3:=by kernel_rfl
 have j:prog.cellsOf 9=1:=by kernel_rfl
 have l:prog.cellsOf 4=1:=by kernel_rfl
 rw[C]at e
 match cs,e with
 | [v,V,b],_=>
  match X,i with
  | [x0,x1,x2],_=>
   have f0:DataW.trod enc prog w base sp held n 9 (([v,V,b].drop 0).take (prog.cellsOf 9))=some x0:=a 0 _ rfl;have f1:DataW.trod enc prog w base sp held n 9 (([v,V,b].drop 1).take (prog.cellsOf 9))=some x1:=a 1 _ rfl;have f2:DataW.trod enc prog w base sp held n 4 (([v,V,b].drop 2).take (prog.cellsOf 4))=some x2:=a 2 _ rfl;rw[j]at f0 f1;rw[l]at f2;have⟨s,E,d0,_⟩:=DataW.trod_string underlying9 f0;have⟨S,f,d1,_⟩:=DataW.trod_string underlying9 f1;have⟨B,g,d2⟩:=DataW.trod_bool underlying4 f2;simp at E f g;subst E f g d0 d1 d2;have⟨⟨L⟩⟩:=s;have⟨⟨m⟩⟩:=S;exact⟨⟨L,m,B⟩,rfl,d _ (by simp[DataW.weightsEach,DataW.weights]),d _ (by simp[DataW.weightsEach,DataW.weights])⟩
def Im {x:DataW H×Xn MemPlace} (h:DataW.trod enc prog w base sp held fuel 68 cs=some x) (i:Ug 68 x.1):
 ∃(v:Xp) (gs:Xn (Xp×Xn cC)),cs=[v]/\DG w 1 v (gs.map λg=>[g.1])/\∀g∈gs,DG w 3 g.1 (cZ g.2):=by
 have C:prog.cellsOf 73=1:=by kernel_rfl
 have c:prog.cellsOf 100=3:=by kernel_rfl
 have⟨v,l,e,a,d,_⟩:=Cf (α:=Xp×Xn cC) (rowOf:=λg=>[g.1]) (R:=λg=>DG w 3 g.1 (cZ g.2)) underlying68 C (by simp) (λ_=>rfl)
  (λn cs y f b=>by
    have⟨v,l,e,a,_,_⟩:=Cf underlying73 c (by simp) (λ_=>rfl)
     (λn cs y f b=>P2 f b) f b
    exact⟨(v,l),e,a⟩) h i
 exact⟨v,l,e,a,d⟩
end
abbrev uH:Xn (YG×DataW Unit):=Rows.togetherRow.laid
def WS:prog.globalNamed "errors.errorType" = some 0:=by kernel_rfl
def Uh:((List.range prog.types.size).filter λt=>prog.rowNamed t [101,114,114,111,114])=[41]:=by kernel_rfl
variable{W W':Xo}
def Gn(h:laidMetH prog uH W):laidMet prog (uH.take 3) W/\handlesMet prog (uH.drop 3) W:=h
def RZ(h:laidMetH prog uH W):LJ W:=by
 have⟨n,u,T,E,a,d,b,e⟩:=(Gn h).2 _ (YV.2 rfl);cases(Xt E).symm;obtain rfl:297=u:=Xt (Eq.trans (by kernel_rfl) a);have H:T∈(List.range prog.types.size).filter λt=>prog.rowNamed t [101,114,114,111,114]:=YS.2 ⟨by grind,b⟩;rw[Uh]at H;cases YV.1 H;have c:typeHandle prog 41=.pointer (some ⟨4,41,none⟩):=by kernel_rfl
 rw[c]at e;unfold LJ;simpa using World.var?_cell WS e 0
def P3:(prog.globals[1]?).map (·.type)=some 372:=by kernel_rfl
def WU:prog.cellsOf 131=1:=by kernel_rfl
variable {H:Type}
def P4:(Rows.laid_internal_strconv_uint64pow10:DataW H)=.agg ((List.range 20).map λi=>.lit (.int .u64 ((10^i:Nat):Int))):=by rfl
def R0(h:laidMetH prog uH W):ou W:=by
 have⟨P,⟨G,t0,C,f0,D,Q,q,r,s,t,⟨F,t1,u,f1,I,J,v,w,y,z,⟨g2,t2,c,f2,K,L,a,d,e,f,_,_⟩,_⟩,_⟩,_,_⟩:=(Gn h).1;obtain rfl:1=g2:=Xt (Eq.trans (by kernel_rfl) a);cases Xt (P3.symm.trans d);obtain⟨x,m,rfl,g,o,M,j⟩:=DataW.trod_array underlying372 f;rw[P4]at g;simp at g;intro i p;rw[World.var?_cell a e i];have k:=j i p;rw[WU,YA]at k;have b:i<x.length:=by omega
 rw[Xq b]at k;have⟨n,E,A,_⟩:=DataW.trod_int underlying131 k;have B:(x.map (·.1))[i]?=some (.lit (.int .u64 n)):=by
  rw[Yy,Xq b,A];rfl
 rw[<- g.1,Yy,List.getElem?_range p]at B;have N:c.toList[i]?=some (.int .u64 n):=by
  have:=Zu (λl:Xn Xp=>l[0]?) E;simp at this
  grind
 grind
def R1(h:∀k,k<W.heap.size->W'.heap[k]?=W.heap[k]?){p:MemPlace}(a:p.block<W.heap.size):W.sameAt W' p:=by
 cases p with
 | cell b o=>
  show W'.cell? _=W.cell? _;unfold World.cell?;rw[show W'.heap[(⟨b,o,none⟩:YO).block]?=W.heap[b]? from h b a]
 | map b=>exact h b a
def R2(h:∀k,k<W.heap.size->W'.heap[k]?=W.heap[k]?)(b:W'.os=W.os)(a:W'.output=W.output)(may:MemPlace->Prop):W.keptBut W' may:=by
 refine⟨b,a,λi c=>?_⟩;rw[h i c];cases d:W.heap[i]? with
 | none=>rfl
 | some o=>cases o<;>simp
def sA {E:XO×Xp->H} {base:Nat} {s:Nat->XN} {a:XN}:∀{t:Xn XO} {vs:Xn Xp} {d:Xn (DataW H)} {ps:Xn MemPlace},DataW.TrodAll E prog W base s a t vs d ps->(∀p∈ps,W.sameAt W' p)->DataW.TrodAll E prog W' base s a t vs d ps
 | [],[],[],_,h,_=>h
 | _::_,_::_,_::_,_,⟨p,q,⟨n,c⟩,f,e⟩,b=>⟨p,q,⟨n,DataW.trod_carry n _ _ _ c λx g=>b x (by grind)⟩,sA f λx g=>b x (by grind),e⟩
def VS:Kids prog (· < prog.types.size):=kids_rows (by kernel_rfl) (by kernel_rfl)
def VT:∀t e,t<prog.types.size->prog.underlying t=some (.slice e)->0<prog.cellsOf e:=slices_full_of prog (by kernel_rfl)
def Io {e:XO×Xp->H} {T:Xn XO} {vs:Xn Xp} {d:Xn (DataW H)} {ps:Xn MemPlace} (f:∀t∈T,t<prog.types.size) (h:DataW.TrodAll e prog W 0 (λ_=>true) true T vs d ps) (g:∀k,k<W.heap.size->W'.heap[k]?=W.heap[k]?):
 DataW.TrodAll e prog W' 0 (λb=>decide (b<W.heap.size)) true T vs d ps:=by
 have a:=h.lt;exact sA (h.respare VS VT f λp c=>by grind) λp c=>R1 g (a p c)
def L6(o:Os)(args:Xv Xp):laidMetH prog uH ((World.doorLaid prog 400 o).forCall (λ_ _=>0) ⟨#[],args,[]⟩).memory:=
 laidMetH_of_parts3 (fuel:=8) (laidMet_of_run' 8 (by kernel_rfl) (by kernel_rfl)) (by kernel_rfl) (by kernel_rfl)
def Gp(o:Os)(args:Xv Xp):((World.doorLaid prog 400 o).forCall (λ_ _=>0) ⟨#[],args,[]⟩).Shaped prog:=World.shaped_of_RefB (by kernel_rfl) (by kernel_rfl)
def Ui:(68:Nat)<prog.types.size/\(3:Nat)<prog.types.size:=⟨by simp,by simp⟩
section
variable{H:Type}{enc:XO×Xp->H}
variable {s:ChangeSpec}
def WV {o:Os} {f:FuncId} {fn:Func} (h:Input.okWideB prog ((World.doorLaid prog 400 o).forCall (λ_ _=>0) ⟨#[],#[.slice none 0 0,.int .i64 0,.int .i64 0],[]⟩) f ⟨#[],#[.slice none 0 0,.int .i64 0,.int .i64 0],[]⟩=true) (a:s.preB enc prog fn [] false ((World.doorLaid prog 400 o).forCall (λ_ _=>0) ⟨#[],#[.slice none 0 0,.int .i64 0,.int .i64 0],[]⟩).memory #[.slice none 0 0,.int .i64 0,.int .i64 0] 8=true) (b:s.sizedB enc prog fn false ((World.doorLaid prog 400 o).forCall (λ_ _=>0) ⟨#[],#[.slice none 0 0,.int .i64 0,.int .i64 0],[]⟩).memory #[.slice none 0 0,.int .i64 0,.int .i64 0] 8=true):
 ∃(w:Xo) (t:Tape) (i:Input),w.os=o/\(w.forCall t i).Shaped prog/\i.vars=[]/\Input.okWide prog (w.forCall t i) .any w.heap.size f i /\
  ((s.pre enc prog fn [] false (w.forCall t i).memory i.args/\laidMetH prog uH (w.forCall t i).memory)/\sizedMet enc prog fn (OpenSpec.ofChange s) false (w.forCall t i).memory i.args)/\({ calm:=true }:Assume).holds prog (lone (Frame.enter prog f i.args .normal) [] (w.forCall t i)):=
 ⟨World.doorLaid prog 400 o,λ_ _=>0,⟨#[],#[.slice none 0 0,.int .i64 0,.int .i64 0],[]⟩,rfl,Gp o _,(abj (base:=0) h).1,(abj h).2,⟨⟨ChangeSpec.pre_of_preB a,L6 o _⟩,sizedMet_of_sizedB b⟩,by
   simpa using⟨by simp,λ_ _ _ _=>rfl,by simp,by simp,by simp⟩⟩
def Dw (hvars:s.vars=[]) (a:∀d1 d2 d3:DataW H,s.fn H [d1,d2,d3]={ results:=[.lit (.bool true)],args:=[d1,d2,d3] }) (hpar:f9.params=#[68,3,3]) (hres:f9.resultTypes=#[4]) (W:Xo) (base:Nat) (args:Xv Xp) (D gs:Xn (DataW H)) (before:Xn MemPlace) (hval:∀(j:Nat) t v,f9.params[j]?=some t->args[j]?=some v->Value.okWide prog W .any base t v) (i:DataW.Whole enc prog f9.params.toList s.vars false W args.toList D gs before) (hwt:(DataW.weightsEach prog (f9.params.toList++s.plain.varTypes prog) (D++gs)).all (· <= reachBytes)=true) (l:laidMetH prog uH W) (fresh:XN):
 ∃n last o w t',runNT prog (n+1) (solo (G (Frame.enter prog 9 args .normal) []) W) #[]=(.ended o w,t')/\runN prog n (solo (G (Frame.enter prog 9 args .normal) []) W)=.next last/\Go.step prog last=.ended o w /\
  Conc.Good prog (λv w=>s.post enc prog f9 false fresh false false W args v { w with os:=W.os }/\OsLater W.os w.os) last o w t':=by
 have b:=i;obtain⟨p,q,c,d,rfl,hfz,hnd⟩:=i;have e:=c;rw[hpar]at c hval hwt;rw[hvars]at d;obtain⟨V,y,z,d0,d1,d2,P,Q,S,rfl,rfl,rfl,A,B,C⟩:=trodAll_three c;obtain⟨rfl,rfl⟩:gs=[]/\q=[]:=by
  cases gs with
  | nil=>exact⟨rfl,d⟩
  | cons g r=>exact XG d (by intro h;cases h)
 obtain⟨T,rfl,rfl,rfl,_⟩:=open_int underlying3 (hval 1 3 y rfl rfl) B;obtain⟨U,rfl,rfl,rfl,_⟩:=open_int underlying3 (hval 2 3 z rfl rfl) C;obtain⟨F,len,cap,rfl⟩:=okWide_slice underlying68 (hval 0 68 V rfl rfl);have⟨fuel,I⟩:=A;have f:Ug 68 d0:=λx J=>by
  have X:=X4.1 hwt x (by
   exact Ye _ J)
  have K:x<=reachBytes:=by grind
  unfold reachBytes at K;omega
 have⟨v,Y,E,L,M⟩:=Im I f;have E:Value.slice F len cap=v:=by simpa[Value.cells]using E
 subst E;obtain⟨n,last,o,w,t',R,N,O,u,rfl,⟨rfl,hos,htp,hout,hheap⟩,hrest⟩:=AJ L M (R0 l) (RZ l);refine⟨n,last,_,w,t',R,N,O,_,rfl,⟨?_,hos⟩,hrest⟩;have hheap:∀k,k<W.heap.size->({ w with os:=W.os }:Xo).heap[k]?=W.heap[k]?:=hheap;refine⟨_,_,_,[],P++[]++[],[],b,?_,?_,?_,R2 hheap rfl hout _,?_⟩
 .rw[Yj,a,hres];exact trodAll_mk1 (shut_bool underlying4 true)
 .rw[Yj,a];exact Io (by
   intro t m;simp at m;rcases m with rfl|rfl
   .simp_all
   .exact Ui.2) e hheap
 .rwa[Yj,a,hvars]
 .grind
end
end
def L8{p:Pinned}{s:OpenSpec}{c:OpenClaim}{kinds:Xn LaidKind}{H:XN×YG}(k:c.holds p s)(l:c.wfByText s=true)(b:c.laidByTextAt .later p kinds true)
 (d:c.start=.entering) (e:c.noBlocks=false/\c.again=false) (hm:p.checked.prog.mainIs=some (H.1,H.2.toList))
 {f:FuncId} {fn:Func} (m:p.checked.prog.funcNamed c.func=some f) (g:p.checked.prog.funcs[f]?=some fn) (a:true=p.checked.prog.looks []) (i:(fn.params.toList.all λt=>!p.checked.prog.wantsStandIn t)=true)
 (n:true=c.goesBy p.checked.prog) :
 Claim7.holds p (.plain s) { stood:={ row:=c,standIns:=[],harness:=H,looks:=true },kinds:=[],alts:=[],goes:=true,laidByText:=true,laidKinds:=kinds,laidTests:=true,laidLooks:=.later }:=by
 have o:Claim7.isSixth { stood:={ row:=c,standIns:=[],harness:=H,looks:=true },kinds:=[] }=false:=by simp[Claim7.isSixth]
 have q:∀f' fn',p.checked.prog.funcNamed c.func=some f'->p.checked.prog.funcs[f']?=some fn'->true=p.checked.prog.looks []/\∀(j:Nat) t,fn'.params[j]?=some t->p.checked.prog.wantsStandIn t=false:=by
  intro f' fn' r u;obtain rfl:f=f':=Xt (m.symm.trans r);obtain rfl:fn=fn':=Xt (g.symm.trans u);refine⟨a,λj t v=>?_⟩;have:=X4.1 i t (Ya (by simpa using v));simpa using this
 exact⟨Claim7.tied_new_at .later kinds true (Claim7.new_of_sixth k H true d e hm o q) l,(λD w=>by cases w),b,(λh=>by cases h),n⟩
