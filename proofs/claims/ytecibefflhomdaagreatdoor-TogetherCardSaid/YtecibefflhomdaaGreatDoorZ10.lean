/-
  Part 10: ; .
-/
import Derived.Test.YtecibefflhomdaaGreatDoorZ09
import Derived.Conc.DeferLaws
import Derived.Conc.Own5
import Derived.AtR
import Derived.RangeFuncIn
import Derived.Test.YtecibefflhomdaaGreatDoorProg
set_option maxHeartbeats 8000000
set_option maxRecDepth 100000
set_option linter.all false
namespace Go.Proofs.YtecibefflhomdaaGreatDoor
open Go Proofs.Tryz
abbrev YL:=Exit
def aaO:=@Frame.eval_atR
def abf:=@Frame.finish_atR
section
open Go Go.Conc
variable[B:Base]
structure Vw(v r:Xo):Prop where
 size:r.heap.size=v.heap.size
 tape:r.tape=v.tape
 drawn:r.drawn=v.drawn
 cells:∀(k:Nat) (c:Xv Xp) (e:XO) (f:Nat×Nat),v.heap[k]?=some (Obj.cells c e f)->∃c':Xv Xp,r.heap[k]?=some (Obj.cells c' e f)/\c'.size=c.size/\∀(i:Nat) (x:Xp),c[i]?=some x->Seen k e i x->c'[i]?=some x
 blank:∀k:Nat,Blank v k->∃o,r.heap[k]?=some o/\∀c e f,o≠Obj.cells c e f
 other:∀(k:Nat) (o:Obj),v.heap[k]?=some o->(∀c e f,o≠Obj.cells c e f)->¬Blank v k->r.heap[k]?=some o
structure G0(h h':Xv Obj):Prop where
 cells:∀(k:Nat) (c:Xv Xp) (e:XO) (f:Nat×Nat),h[k]?=some (Obj.cells c e f)->∃c',h'[k]?=some (Obj.cells c' e f)
 obj:∀(k:Nat) (o:Obj),h[k]?=some o->(∀c e f,o≠Obj.cells c e f)->∃o',h'[k]?=some o'/\∀c e f,o'≠Obj.cells c e f
theorem G0.same{h h':Xv Obj}(k:∀i,i<h.size->h'[i]?=h[i]?):G0 h h':=
 ⟨λi c e f H=>⟨c,by grind⟩,λi o H a=>⟨o,by grind,a⟩⟩
theorem G0.trans{a b c:Xv Obj}(h:G0 a b)(k:G0 b c):G0 a c:=
 ⟨λi x e f H=>let ⟨y,d⟩:=h.cells i x e f H;k.cells i y e f d,λi o H g=>let ⟨y,d,j⟩:=h.obj i o H g;k.obj i y d j⟩
structure Cx(v v':Xo):Prop where
 old:∀k:Nat,B.old k->v'.heap[k]?=v.heap[k]?
 fz:G0 v.heap v'.heap
structure Kept(v r r':Xo):Prop where
 tape:r'.tape=r.tape
 os:r'.os=r.os
 out:r'.output=r.output
 size:r.heap.size<=r'.heap.size
 old:∀k:Nat,B.old k->r'.heap[k]?=r.heap[k]?
 cells:∀(k:Nat) (c:Xv Xp) (e:XO) (f:Nat×Nat),v.heap[k]?=some (Obj.cells c e f)->∃c1 c2:Xv Xp,r.heap[k]?=some (Obj.cells c1 e f)/\r'.heap[k]?=some (Obj.cells c2 e f)/\c1.size=c.size/\c2.size=c.size /\
  ∀(i:Nat) (x:Xp),c[i]?=some x->¬Seen k e i x->c2[i]?=c1[i]?
 blank:∀k:Nat,Blank v k->r'.heap[k]?=r.heap[k]?
 obj:∀(k:Nat) (o:Obj),v.heap[k]?=some o->(∀c e f,o≠Obj.cells c e f)->∃o',r'.heap[k]?=some o'/\∀c e f,o'≠Obj.cells c e f
section
variable{v r v' r':Xo}
def Vw.V8(h:Vw v r):kz v r v r:=by
 refine⟨h.size,by grind,h.tape,h.drawn,rfl,rfl,rfl,?_,?_,λk o H a b=>h.other k o H (λc e f d=>a c e f (d▸H)) b⟩
 .intro k c e f H;have⟨C,a,b,l⟩:=h.cells k c e f H;refine⟨c,C,f,C,f,H,a,a,rfl,b,b,λi x g j=>?_,λi x g j=>⟨rfl,rfl⟩⟩
  grind
 .intro k H;have⟨o,a,b⟩:=h.blank k H;exact⟨H.2,rfl,o,a,b⟩
def kz.vw(h:kz v r v' r')(hv:Vw v r):Vw v' r':=by
 refine⟨h.size,h.tape,h.drawn,?_,?_,?_⟩
 .intro k c e f a;rcases h.at a with⟨C,E,f0,H⟩|H|⟨_,_,H⟩
  .have⟨t,p,f2,u,f1,A,q,_,b⟩:=h.cells k C E f0 H;rw[a]at A;cases A;refine⟨p,q,b.size'.trans b.size.symm,λi x m w=>?_⟩;have l:i<C.size:=by rw[<- b.size];exact(Xz.1 m).1
   have d:=XL l;by_cases g:Seen k e i C[i]
   .rw[b.seen i _ d g,m]
   .exfalso;have:=(b.hid i _ d g).2
    grind
  .have:=(h.blank k H).1
   grind
  grind
 .intro k a;by_cases j:Blank v k
  .have⟨_,y,o,z,D⟩:=h.blank k j
   grind
  .refine⟨_,h.other k _ a.2 (λc e f s=>?_) j,λc e f n=>by cases n⟩;have⟨_,_,_,_,_,A,_⟩:=h.cells k c e f s;rw[a.2]at A;cases A
 .intro k o a n j;rcases h.at a with⟨C,E,f0,H⟩|H|⟨_,_,H⟩
  .have⟨_,_,_,_,_,A,_⟩:=h.cells k _ _ _ H
   grind
  .exact XG ⟨H.1,(h.blank k H).1⟩ j
  omega
def kz.done(h:kz v r v' r')(hv:Vw v r)(q:Cx v v'):Vw v' r'/\Kept v r r':=by
 have b:=h.vw hv;refine⟨b,⟨h.rtape,h.os,h.out,?_,?_,?_,λk a=>(h.blank k a).2.1,?_⟩⟩
 .have:=h.size;have:=h.le;have:=hv.size;omega
 .intro k a;have d:=q.old k a;cases H:v.heap[k]? with
  | none=>
   rw[H]at d;rw[h.gone d,hv.V8.gone H]
  | some o=>
   rw[H]at d;by_cases s:∃c e f,o=Obj.cells c e f
   .obtain⟨c,e,f,rfl⟩:=s;have⟨C,A,S,t1⟩:=hv.cells k c e f H;have⟨y,z,f2,J,f1,l,u,D,m⟩:=h.cells k c e f H;rw[d]at l;cases l;rw[A,u];congr 2;apply Y9;intro i;rcases X8 i c.size with t|n
    .have g:=XL t;rw[m.seen i _ g (.inl a),t1 i _ g (.inl a),g]
    .rw[Ze (by rw[m.size'];exact n),Ze (by rw[S];exact n)]
   .have j:¬Blank v k:=λj=>j.1 a;rw[hv.other k o H (λc e f p=>s ⟨c,e,f,p⟩) j];exact h.other k o d (λc e f p=>s ⟨c,e,f,by rw[H]at p;exact Xt p⟩) j
 .intro k c e f a;have⟨y,z,f2,C,f1,l,u,D,m⟩:=h.cells k c e f a;have⟨K,A,S,t1⟩:=hv.cells k c e f a;have⟨L,E⟩:=q.fz.cells k c e _ a;rw[E]at l;cases l;have M:=m.hid;have N:=m.size'
  grind
 .intro k o d F;have⟨O,G,w⟩:=q.fz.obj k o d F;by_cases j:Blank v' k
  .have⟨x,P,I⟩:=b.blank k j
   grind
  .exact⟨O,b.other k O G w j,w⟩
end
structure po(v v':Xo):Prop where
 cells:∀(k:Nat) (c:Xv Xp) (e:XO) (f:Nat×Nat),v.heap[k]?=some (Obj.cells c e f)->∃(c':Xv Xp) (f':Nat×Nat),v'.heap[k]?=some (Obj.cells c' e f')/\c'.size=c.size/\∀(i:Nat) (x:Xp),c[i]?=some x->¬Seen k e i x->c'[i]?=some x
 blank:∀k:Nat,Blank v k->v'.heap[k]?=some (Obj.coro none)
def po.refl(v:Xo):po v v:=⟨λk c e f h=>⟨c,f,h,rfl,λ_ _ h _=>h⟩,λk h=>h.2⟩
variable {v r v':Xo}
def kz.V9 {r':Xo} (h:kz v r v' r'):po v v':=⟨λk c e f H=>by
 have⟨C,g,f2,j,f1,A,l,m,a⟩:=h.cells k c e f H;exact⟨C,f2,A,a.size,λi x b d=>by rw[(a.hid i x b d).2,b]⟩,λk H=>(h.blank k H).1⟩
def WW(v v' r r':Xo):Prop:=Kept v r r'/\po v v'
structure Ry(v v1:Xo):Prop where
 size:v.heap.size<=v1.heap.size
 heap:∀k:Nat,k<v.heap.size->v1.heap[k]?=v.heap[k]?
 os:v1.os=v.os
 tape:v1.tape=v.tape
 out:v1.output=v.output
theorem Ry.refl(v:Xo):Ry v v:=⟨by grind,λ_ _=>rfl,rfl,rfl,rfl⟩
theorem Ry.trans{a b c:Xo}(h:Ry a b)(k:Ry b c):Ry a c:=
 ⟨Yh h.size k.size,λi H=>(k.heap i (YT H h.size)).trans (h.heap i H),k.os.trans h.os,k.tape.trans h.tape,k.out.trans h.out⟩
def Dy(w:Xo)(e:Ys):Prop:=match e.loc with
 | .cell a=>a.block<w.heap.size
 | .obj k=>k<w.heap.size
 | _=>True
variable {w w':Xo}
theorem Dy.mono {e:Ys} (h:w.heap.size<=w'.heap.size) (k:Dy w e):Dy w' e:=by
 unfold Dy at *
 grind
theorem oF{H:Xv Obj}{k:Nat}{o:Obj}(h:H[k]?=some o):k<H.size:=(Xz.1 h).1
theorem yn {p:YW} {at_:YO} {u:XO} {k:YO} {a:XN} {x:Xp} {l:Xn YO} (h:w.viewStore p at_ u k x a=.ok (w',l)):w'.heap.size=w.heap.size:=by
 unfold World.viewStore at h;cases q:w.seen p at_ u k a with
 | error m=>
  simp only[bind,Except.bind,throw,throwThe,MonadExcept.throw,MonadExceptOf.throw,pure,Except.pure]at h
  grind
 | ok z=>
  simp only[bind,Except.bind,throw,throwThe,MonadExcept.throw,MonadExceptOf.throw,pure,Except.pure]at h
  grind
variable {α:Type}
def Qq (P:YW) (s:Sem α):∀{v:Xo} {es es':Xv Ys} {x:α} {v':Xo},s.runT P v es=(.ok x v',es')->(∀e∈es',e.loc≠.output)->v.heap.size<=v'.heap.size/\∀e∈es',e∈es\/Dy v' e:=by
 have p:∀{v v':Xo} {es es':Xv Ys} {e0:Ys},Dy v e0->(v.heap.size<=v'.heap.size/\∀e∈es',e∈es.push e0\/Dy v' e)->v.heap.size<=v'.heap.size/\∀e∈es',e∈es\/Dy v' e:=λG h=>⟨h.1,λe J=>(h.2 e J).elim (λO=>(aaN.1 O).elim .inl λQ=>by rw[Q];exact .inr (G.mono h.1)) .inr⟩;have A:∀{v v':Xo} {es es':Xv Ys} {l:Xn YO} {F:YO->Ys},(∀a∈l,Dy v (F a))->(v.heap.size<=v'.heap.size/\∀e∈es',e∈es++l.toArray.map F\/Dy v' e)->v.heap.size<=v'.heap.size/\∀e∈es',e∈es\/Dy v' e:=λG h=>⟨h.1,λe J=>(h.2 e J).elim (λO=>(abe.1 O).elim .inl λQ=>by
  obtain⟨a,K,rfl⟩:=Array.mem_map.1 Q;exact .inr ((G a (by simpa using K)).mono h.1)) .inr⟩
 have le:∀{v V v':Xo} {es es':Xv Ys},v.heap.size<=V.heap.size->(V.heap.size<=v'.heap.size/\∀e∈es',e∈es\/Dy v' e)->v.heap.size<=v'.heap.size/\∀e∈es',e∈es\/Dy v' e:=λG h=>⟨Yh G h.1,h.2⟩
 induction s with
 | pure a=>
  intro v es es' x v' H d;simp only[Sem.runT,XI,abv]at H;obtain⟨⟨rfl,rfl⟩,rfl⟩:=H;exact⟨XD _,λe J=>.inl J⟩
 | load m a k i=>
  intro v es es' x v' H d;simp only[Sem.runT]at H;cases C:v.cell? a with
  | some y=>
   rw[C]at H;have⟨_,_,_,I,L⟩:=tG C;exact p (v:=v) (by exact oF I) (i _ H d)
  | none=>
   rw[C]at H;simp only at H;unfold World.farLoad at H;cases g:v.heap[a.block]? with
   | none=>rw[g]at H;simp at H
   | some o=>
    rw[g]at H;cases o with
    | view D u=>
     simp only at H;cases j:v.viewLoad P D u a (m==.atomic)with
     | error e=>rw[j]at H;simp at H
     | ok z=>
      have⟨y,l⟩:=z;rw[j]at H;have⟨_,_,_,I,L⟩:=wD j;exact A (λa K=>by show a.block<_;rw[(L a K).1];exact oF I) (i _ H d)
    | _=>simp at H
 | store m a y k i=>
  intro v es es' x v' H d;by_cases R:(∃u,y=.agg u)\/∃u,y=.tuple u
  .rcases R with⟨u,rfl⟩|⟨u,rfl⟩<;>simp[Sem.runT]at H
  .have W:∀w,(Sem.store m a y k).runT P w es=match w.cell? a with
    | some _=>if w.frozen? a then(.halt (.unsupported (.unsafePointer "a write to bytes that a string shares")) w,es)else k.runT P (w.setCell a y) (es.push ⟨.cell a,true,m==.atomic⟩)
    | none=>match w.farStore P a y (m==.atomic)with
     | .ok (w,t)=>k.runT P w (es++t.toArray.map (⟨.cell ·,true,m==.atomic⟩))
     | .error h=>(.halt h w,es):=by
    intro w;cases y<;>first|(exact XG (.inl ⟨_,rfl⟩) R)|(exact XG (.inr ⟨_,rfl⟩) R)|rfl
   rw[W]at H;cases C:v.cell? a with
   | some z=>
    rw[C]at H;simp only at H;split at H
    .simp at H
    .have⟨_,_,_,I,L⟩:=tG C;have M:(v.setCell a y).heap.size=v.heap.size:=by simp[World.setCell]
     exact le (aaI M.symm) (p (by show a.block<_;rw[M];exact oF I) (i H d))
   | none=>
    rw[C]at H;simp only at H;unfold World.farStore at H;cases g:v.heap[a.block]? with
    | none=>rw[g]at H;simp at H
    | some o=>
     rw[g]at H;cases o with
     | view D u=>
      simp only at H;cases j:v.viewStore P D u a y (m==.atomic)with
      | error e=>rw[j]at H;simp at H
      | ok z=>
       have⟨w',l⟩:=z;rw[j]at H;have⟨_,_,_,I,L⟩:=tF j;have M:=yn j;exact le (aaI M.symm) (A (λa K=>by show a.block<_;rw[M,(L a K).1];exact oF I) (i H d))
     | _=>simp at H
 | new o k i=>
  intro v es es' x v' H d;simp only[Sem.runT]at H;exact le (by simp) (i _ H d)
 | shape b k i=>intro v es es' x v' H d;simp only[Sem.runT]at H;exact i _ H d
 | freeze a n k i=>
  intro v es es' x v' H d;simp only[Sem.runT]at H;exact le (by unfold World.freeze;split<;>simp) (i H d)
 | frozen a k i=>intro v es es' x v' H d;simp only[Sem.runT]at H;exact i _ H d
 | getObj b k i=>
  intro v es es' x v' H d;cases g:v.heap[b]? with
  | none=>simp only[Sem.runT]at H;rw[g]at H;simp at H
  | some o=>
   by_cases N:∀c e f,o≠Obj.cells c e f
   .have S:∀w:Xo,w.heap[b]?=some o->(Sem.getObj b k).runT P w es=(k o).runT P w (es.push ⟨.obj b,false,o.isChan⟩):=λw T=>by
     cases o<;>first|(exact XG rfl (N _ _ _))|simp only[Sem.runT,T]
    rw[S v g]at H;exact p (v:=v) (by exact oF g) (i _ H d)
   .exfalso;apply N;intro c e f E;subst E;simp only[Sem.runT]at H;rw[g]at H;simp at H
 | setObj b o k i=>
  intro v es es' x v' H d;cases g:v.heap[b]? with
  | none=>simp only[Sem.runT]at H;rw[g]at H;simp at H
  | some U=>
   by_cases N:∀c e f,U≠Obj.cells c e f
   .have S:∀w:Xo,w.heap[b]?=some U->(Sem.setObj b o k).runT P w es=k.runT P { w with heap:=w.heap.setIfInBounds b o } (es.push ⟨.obj b,true,o.isChan⟩):=λw T=>by
     cases U<;>first|(exact XG rfl (N _ _ _))|simp only[Sem.runT,T]
    rw[S v g]at H;exact le (by simp) (p (v:={ v with heap:=v.heap.setIfInBounds b o }) (by show b<_;simp;exact oF g) (i H d))
   .exfalso;apply N;intro c e f E;subst E;simp only[Sem.runT]at H;rw[g]at H;simp at H
 | choose q k i=>
  intro v es es' x v' H d;simp only[Sem.runT]at H
  grind
 | sys c k i=>
  intro v es es' x v' H d;simp only[Sem.runT]at H;have:=kg P (k (v.sys c).1) (v.sys c).2 (es.push ⟨.output,true,false⟩) ⟨.output,true,false⟩ (by simp);rw[H]at this;exact XG rfl (d _ this)
 | program k i=>intro v es es' x v' H d;simp only[Sem.runT]at H;exact i _ H d
 | mark m k i=>
  intro v es es' x v' H d;simp only[Sem.runT]at H;exact p (v:=v) (e0:=⟨.mark m,false,true⟩) Xr (i H d)
 | halt X=>intro v es es' x v' H d;simp[Sem.runT]at H
def nG(main:XN)(g:XF)(v:Xo)(g':XF)(v':Xo):Prop:=
 ∃E:Xv Ys,(∀e∈E,iM v e/\GZ v e/\Dy v' e)/\v'.os=v.os/\∀r,Vw v r->∃R,stepG prog main g r=.go g' R E/\Vw v' R/\WW v v' r R
structure Does(main:XN)(op:Nat)(q:XN)(g:XF)(s:Sem Next)(fin:Xp->XF):Prop where
 run:g.status=.running
 quiet:q=true->(prog.funcs[g.frame.fn]?).any (·.norace)=true
 fins:∀u,(fin u).status=.running
 val:∀r r' es u,s.runT prog r #[]=(.ok (.value u) r',es)->stepG prog main g r=.go (fin u) r' (seen prog g.frame.fn es)
 skip:∀r r' es,s.runT prog r #[]=(.ok .skip r',es)->stepG prog main g r=.go (fin undef) r' (seen prog g.frame.fn es)
 blk:∀r r' es,s.runT prog r #[]=(.halt .blocked r',es)->stepG prog main g r=.go { g with status:=.blocked } r' #[]
 comm:op≠0->∀r r' es cases bl sh,s.runT prog r #[]=(.ok (.comm cases bl sh) r',es)->stepG prog main g r=.comm g cases bl sh r' (seen prog g.frame.fn es)
 fork:op≠0->∀r r' es d,d.target≠.nil->s.runT prog r #[]=(.ok (.spawn d) r',es)->stepG prog main g r=.spawn (fin undef) { frame:={ (default:Y5)with fn:=prog.funcs.size,defers:=[d],mode:=.panicking [goexitEntry] },callers:=[],status:=.running,dying:=none } r' (seen prog g.frame.fn es)
 nq:op=2->mayWake prog g=true
 offers:g.offers=none
 fin_eq:op≠0->∀u,fin u={ g with frame:=g.frame.finish u,status:=.running,offers:=none }
inductive jM(main:XN)(Stop:XF->Xo->Prop):XF->Xo->Prop
 | stop {g:XF} {v:Xo} (h:∀v1,Ry v v1->Stop g v1):jM main Stop g v
 | step {g:XF} {v:Xo} (hr:g.status=.running) (G':Xo->XF) (V':Xo->Xo) (hs:∀v1,Ry v v1->nG main g v1 (G' v1) (V' v1)) (hk:∀v1,Ry v v1->jM main Stop (G' v1) (V' v1)):jM main Stop g v
 | ask {g:XF} {v:Xo} (op:Nat) (q:XN) (s:Sem Next) (fin:Xp->XF) (hd:Does main op q g s fin) (K:Xp->Xo->Prop) (h:∀v1,Ry v v1->B.ask op q s v1 K) (hk:∀u v',K u v'->jM main Stop (fin u) v'):jM main Stop g v
section
variable{main:XN}{Stop:XF->Xo->Prop}{g g':XF}{v v1 v':Xo}
def jM.rely(h:jM main Stop g v)(a:Ry v v1):jM main Stop g v1:=by
 cases h with
 | stop h=>exact .stop λV H=>h V (a.trans H)
 | step c G d e b=>exact .step c G d (λV H=>e V (a.trans H)) λV H=>b V (a.trans H)
 | ask o q s f i K h b=>exact .ask o q s f i K (λV H=>h V (a.trans H)) b
def jM.Bh(a:g.status=.running)(h:∀v1,Ry v v1->∃g' v',nG main g v1 g' v'/\jM main Stop g' v'):jM main Stop g v:=by
 classical
 refine .step a (λv1=>if H:Ry v v1 then(h v1 H).choose else g) (λv1=>if H:Ry v v1 then(h v1 H).choose_spec.choose else v) (λv1 H=>?_) λv1 H=>?_
 .grind
 .grind
def Kept.refl{v r:Xo}(h:Vw v r):Kept v r r:=
 ⟨rfl,rfl,rfl,XD _,λ_ _=>rfl,λk c e f i=>by
   have⟨C,H,a,_⟩:=h.cells k c e f i;exact⟨C,C,H,H,a,a,λ_ _ _ _=>rfl⟩,λ_ _=>rfl,λk o j b=>by
   by_cases d:Blank v k
   .exact h.blank k d
   .exact⟨o,h.other k o j b d,b⟩⟩
def nG.idle(h:∀r,stepG prog main g r=.go g' r #[]):nG main g v g' v:=
 ⟨#[],λ_ h=>by grind,rfl,λr H=>⟨r,h r,H,Kept.refl H,.refl v⟩⟩
def jM.idle(H:g.status=.running)(h:∀r,stepG prog main g r=.go g' r #[])(k:jM main Stop g' v):jM main Stop g v:=
 .step H (λ_=>g') id (λv1 _=>.idle h) λv1 a=>k.rely a
end
section moves
variable{P:YW}{main:XN}{b:Y5}{a:Act}{k:Xn Item}{cs:Xn Y5}{w:Xo}
theorem MT:stepG P main (G (b.atR a (.code .skip::k)) cs) w=.go (G (b.atR a k) cs) w:=rfl
variable {id:Nat}
theorem Ey:stepG P main (G (b.atR a (.inBlock id::k)) cs) w=.go (G (b.atR a k) cs) w:=rfl
variable {x y:Code}
theorem Qr:stepG P main (G (b.atR a (.code (.seq x y)::k)) cs) w=.go (G (b.atR a (.code x::.code y::k)) cs) w:=rfl
theorem MU {c:XZ} {t:XN} (h:a.eval c=.bool t):stepG P main (G (b.atR a (.code (.cond c x y)::k)) cs) w=.go (G (b.atR a (.code (if t then x else y)::k)) cs) w:=by
 have:=congrFun (aaO b a (.code (.cond c x y)::k)) c;simp[Frame.atR]at this;simp[G,stepG,stepG.exec,Frame.atR,this,h]
variable {c:Code}
theorem Km:stepG P main (G (b.atR a (.code (.block id c)::k)) cs) w=.go (G (b.atR a (.code c::.inBlock id::k)) cs) w:=rfl
theorem MV:stepG P main (G (b.atR a (.code (.loop c)::k)) cs) w=.go (G (b.atR a (.code c::.inLoop c::k)) cs) w:=rfl
theorem G1:stepG P main (G (b.atR a (.inLoop c::k)) cs) w=.go (G (b.atR a (.code c::.inLoop c::k)) cs) w:=rfl
theorem MW {k':Xn Item} (h:exitTo id k=some k'):stepG P main (G (b.atR a (.code (.exit id)::k)) cs) w=.go (G (b.atR a k') cs) w:=by simp[G,stepG,stepG.exec,Frame.atR,h]
theorem IK(h:b.roundOf=none):stepG P main (G (b.atR a (.code .ret::k)) cs) w=.go (G { b.atR a (.code .ret::k)with mode:=.returning } cs) w:=by simp[G,stepG,stepG.exec,Frame.atR,h]
theorem IL(h:b.roundOf=none):stepG P main (G (b.atR a []) cs) w=.go (G { b.atR a []with mode:=.returning } cs) w:=by simp[G,stepG,stepG.exec,Frame.atR,h]
variable {ops:Xv Yf}
theorem G2:stepG P main (G (b.atR a (.code (.region id ops false)::k)) cs) w=.go (G (b.atR a (.inRegion ops (List.range ops.size)::k)) cs) w:=rfl
theorem MX:stepG P main (G (b.atR a (.code (.region id ops true)::k)) cs) w =
 .go (G (b.atR a (.inRegion ops (Region.schedule (P.follows .mixedOrders) ops (w.tape w.drawn (.order b.fn id)))::k)) cs) { w with drawn:=w.drawn+1 }:=by
 simp[G,stepG,stepG.exec,Frame.atR,Question.forced,Question.cut]
theorem yo:stepG P main (G (b.atR a (.inRegion ops []::k)) cs) w=.go (G (b.atR a k) cs) w:=rfl
variable {i:Nat} {rest:Xn Nat}
theorem Ez (h:((ops[i]?).map (Region.wanted · (yielded ops a.tmps))).getD false=false):
 stepG P main (G (b.atR a (.inRegion ops (i::rest)::k)) cs) w=.go (G (b.atR (a.put ((ops[i]?).bind (·.dst)) undef) (.inRegion ops rest::k)) cs) w:=by
 rw[<- abf];have H:=h;simp[Frame.atR]at *;simp[G,stepG,stepG.exec,H]
theorem vh {o:Yf} (H:ops[i]?=some o) (d:Region.wanted o (yielded ops a.tmps)=true):
 stepG P main (G (b.atR a (.inRegion ops (i::rest)::k)) cs) w=stepG.apply P true (b.atR a (.inRegion ops (i::rest)::k)) cs none (o.semAt b.roundOf a.eval) w:=by
 have h:=aaO b a (.inRegion ops (i::rest)::k);simp[Frame.atR]at h;simp[G,stepG,stepG.exec,stepG.oper,Frame.oper?,Frame.atR,H,d,h,Option.map_some,Z8,YB,Oper.semAt];cases b.roundOf<;>cases o.op<;>rfl
end moves
def WX(main:XN)(Stop:XF->Xo->Prop)(b:Y5)(cs:Xn Y5)(j:Code)(a:Act)(v:Xo):Prop:=
 ∀k,(∀id,j=.exit id->exitTo id k=none)->jM main Stop (G (b.atR a (.code j::k)) cs) v
def lZ(main:XN)(Stop:XF->Xo->Prop)(b:Y5)(k:Xn Item)(cs:Xn Y5):YL->Act->Xo->Prop
 | .normal,a,v=>jM main Stop (G (b.atR a k) cs) v
 | .exit id,a,v=>(∃K,exitTo id k=some K/\jM main Stop (G (b.atR a K) cs) v)\/(exitTo id k=none/\WX main Stop b cs (.exit id) a v)
 | .ret,a,v=>WX main Stop b cs .ret a v
 | _,_,_=>False
variable {main:XN} {b:Y5} {k:Xn Item} {cs:Xn Y5} {a:Act}
def lZ.push {Stop:XF->Xo->Prop} {x:Item} {e:YL} (c:x.plain=true) (H:e≠.normal) (h:lZ main Stop b k cs e a v):lZ main Stop b (x::k) cs e a v:=by
 cases e with
 | normal=>exact XG rfl H
 | exit id=>
  have E:exitTo id (x::k)=exitTo id k:=by cases x<;>simp_all [exitTo,Item.plain]
  simp[lZ,E]at h |-;omega
 | ret=>exact h
 | goto l=>exact h
 | panic C=>exact h
 | outgrown=>exact h
def WY(b:Y5):Prop:=b.kind≠.early/\(B.quiet=true->(prog.funcs[b.fn]?).any (·.norace)=true)
def uI(R:XB Nat)(c:Code)(Q:YL->Act->Xo->Prop)(a:Act)(v:Xo):Prop:=
 ∀(main:XN) (b:Y5) (k:Xn Item) (cs:Xn Y5) (Stop:XF->Xo->Prop),b.roundOf=R->WY b ->
  (∀e A v',Q e A v'->lZ main Stop b k cs e A v')->jM main Stop (G (b.atR a (.code c::k)) cs) v
section
variable{ro:XB Nat}{Q:YL->Act->Xo->Prop}{a:Act}{v:Xo}{x y c:Code}
def tI{Q':YL->Act->Xo->Prop}(h:uI ro c Q a v)(g:∀e a w,Q e a w->Q' e a w):uI ro c Q' a v:=λmain b k cs Stop H d f=>h main b k cs Stop H d λe A v' q=>f e A v' (by grind)
def MY(h:Q .normal a v):uI ro .skip Q a v:=λmain b k cs Stop _ _ H=>.idle rfl (λr=>MT) (H _ _ _ h)
def Qs(h:Q .ret a v):uI ro .ret Q a v:=λmain b k cs Stop _ _ H=>H _ _ _ h k λid h=>by grind
variable {id:Nat}
def EA (h:Q (.exit id) a v):uI ro (.exit id) Q a v:=λmain b k cs Stop _ _ e=>by
 rcases e _ _ _ h with⟨K,d,H⟩|⟨d,H⟩
 .exact .idle rfl (λr=>MW d) H
 .exact H k λi h=>by grind
def IM(h:uI ro x (Exit.then (λA v'=>uI ro y Q A v') Q) a v):uI ro (.seq x y) Q a v:=λmain b k cs Stop d f H=>
 .idle rfl (λr=>Qr) (h main b _ cs Stop d f λe A v' q=>by
  cases e with
  | normal=>exact q main b k cs Stop d f H
  | exit id=>exact(H _ _ _ q).push rfl (by simp)
  | ret=>exact H _ _ _ q
  | goto l=>exact H _ _ _ q
  | panic C=>exact H _ _ _ q
  | outgrown=>exact H _ _ _ q)
def MZ{o:XZ}{t:XN}(H:a.eval o=.bool t)(h:uI ro (if t then x else y) Q a v):uI ro (.cond o x y) Q a v:=λmain b k cs Stop d e f=>
 .idle rfl (λr=>MU H) (h main b k cs Stop d e f)
def Ko (h:uI ro c (Exit.inBlock id Q) a v):uI ro (.block id c) Q a v:=λmain b k cs Stop f g H=>
 .idle rfl (λr=>Km) (h main b _ cs Stop f g λe A v' q=>by
  cases e with
  | normal=>exact .idle rfl (λr=>Ey) (H _ _ _ q)
  | exit i=>
   by_cases d:i=id
   .subst d;simp[Exit.inBlock]at q;exact .inl ⟨k,by simp[exitTo],H _ _ _ q⟩
   .simp[Exit.inBlock,d]at q;have E:exitTo i (.inBlock id::k)=exitTo i k:=by simp[exitTo,YP d]
    have:=H _ _ _ q;simp[lZ,E]at this |-;omega
  | ret=>exact H _ _ _ q
  | goto l=>exact H _ _ _ q
  | panic C=>exact H _ _ _ q
  | outgrown=>exact H _ _ _ q)
def M0{α:Type}(I:α->Act->Xo->Prop)(μ:α->Nat)(z:α)(i:I z a v)
 (R:∀z a v,I z a v->uI ro c (Exit.then (λA v'=>∃y,I y A v'/\μ y<μ z) Q) a v):uI ro (.loop c) Q a v:=λmain b k cs Stop H d h=>by
 have K:∀m z a v,μ z=m->I z a v->jM main Stop (G (b.atR a (.code c::.inLoop c::k)) cs) v:=by
  intro m
  induction m using Nat.strongRecOn with
  | _ m j=>
   intro z a v n f;refine R z a v f main b _ cs Stop H d λe A v' q=>?_;cases e with
   | normal=>
    have⟨y,o,g⟩:=q;exact .idle rfl (λr=>G1) (by grind)
   | exit id=>exact(h _ _ _ q).push rfl (by simp)
   | ret=>exact h _ _ _ q
   | goto l=>exact h _ _ _ q
   | panic C=>exact h _ _ _ q
   | outgrown=>exact h _ _ _ q
 exact .idle rfl (λr=>MV) (by grind)
end
theorem tJ(P:YW)(fn:FuncId):seen P fn #[]=#[]:=rfl
theorem oG(P:YW)(fn:FuncId)(es:Xv Ys):∀e∈seen P fn es,e∈es:=by
 simp only[seen,];have K:∀(l:Xn Ys) (q:XN) (kept:Xv Ys),∀e∈(l.foldl (λx e=>match e.loc with
  | .mark (.extern f)=>((P.funcs[f]?).any (·.norace),x.2)
  | _=>(x.1,if x.1&&!e.sync then x.2 else x.2.push e)) (q,kept)).2,e∈l\/e∈kept:=by
  intro l
  induction l with
  | nil=>exact λq kept e h=>.inr h
  | cons a l i=>
   intro q kept e h;simp only[YI]at h;split at h
   .rcases i _ _ e h with h|h
    .exact .inl (by simp[h])
    .exact .inr h
   grind
 intro e h;rw[<- Array.foldl_toList]at h;rcases K es.toList _ _ e h with h|h
 .exact Z6.1 h
 grind
def dr (s:Sem α) (v:Xo) (x:α) (v':Xo):Prop:=∃E:Xv Ys,s.runT prog v #[]=(.ok x v',E)/\(∀e∈E,iM v e)/\Cx v v'
def Cx.refl(v:Xo):Cx v v:=⟨λ_ _=>rfl,.same λ_ _=>rfl⟩
def Cx.drawn {d:Nat}:Cx v { v with drawn:=d }:=⟨λ_ _=>rfl,.same λ_ _=>rfl⟩
def Vw.self(v:Xo):Vw v v:=⟨rfl,rfl,rfl,λk c e f h=>⟨c,h,rfl,λ_ _ H _=>H⟩,λk h=>⟨_,h.2,λ_ _ _ h=>by grind⟩,λk o h _ _=>h⟩
def dr.true {s:Sem α} {x:α} (h:dr s v x v'):∃E:Xv Ys,(∀e∈E,iM v e/\GZ v e/\Dy v' e)/\v'.os=v.os/\∀r,Vw v r->∃r',s.runT prog r #[]=(.ok x r',E)/\Vw v' r'/\WW v v' r r':=by
 have⟨E,d,H,j⟩:=h;have⟨R,l,f,o⟩:=kz.runs prog s (Vw.self v).V8 d H;have g:v'.os=v.os:=by
  have:=f.os
  grind
 refine⟨E,λe c=>⟨H e c,by grind,((Qq prog s d λe c m=>by have:=H e c;unfold iM at this;rw[m]at this;exact this).2 e c).resolve_left (by simp)⟩,g,λr i=>?_⟩;have⟨r',n,G,_⟩:=kz.runs prog s i.V8 d H;exact⟨r',n,(G.done i j).1,(G.done i j).2,G.V9⟩
def dr.run {s:Sem α} {x:α} (h:dr s v x v'):s.run prog v=.ok x v':=by
 have⟨e,H,_⟩:=h;simp_all
def Cy(kd:XN):CallKind:=if kd then .deferred else .normal
def bk(kd:XN)(c:Y5)(u:Xp)(cs:Xn Y5):XF:=if kd then G c cs else G (c.finish u) cs
def IP(c:Y5):Prop:=c.mode=.returning\/∃x l,c.mode=.panicking (x::l)/\x.recovered=false
theorem EB {kd:XN} {fr c:Y5} {u:Xp} (H:fr.kind=Cy kd) (e:kd=true->IP c):doReturn prog main fr (c::cs) none u r=.go (bk kd c u cs) r:=by
 cases kd with
 | false=>simp[doReturn,H,Cy,bk,G]
 | true=>
  rcases e rfl with h|⟨x,l,h,d⟩
  .simp[doReturn,H,Cy,bk,G,h]
  .have⟨v,R,g⟩:=x;simp only at d;subst d;simp[doReturn,H,Cy,bk,G,h]
def dJ(f:FuncId)(args:Xv Xp)(v:Xo)(R:Ending->Xo->Prop):Prop:=
 ∀(main K:XN) (c:Y5) (cs:Xn Y5) (Stop:XF->Xo->Prop),(K=true->IP c)->(∀u v',R (.returned u) v'->jM main Stop (bk K c u cs) v')->jM main Stop (G (Frame.enter prog f args (Cy K)) (c::cs)) v
variable {f:FuncId} {args:Xv Xp} {R R':Ending->Xo->Prop}
def dJ.mono (h:dJ f args v R) (k:∀e w',R e w'->R' e w'):dJ f args v R':=
 λmain K c cs Stop H d=>h main K c cs Stop H λu v' g=>d u v' (k _ _ g)
def dJ.rely {V:Xo} (h:dJ f args v R) (H:Ry v V):dJ f args V R:=
 λmain K c cs Stop d e=>(h main K c cs Stop d e).rely H
def iO(l:Nat)(f:FuncId)(t:Xv Xp)(A d:Code)(v:Xo)(R:Ending->Xo->Prop):Prop:=
 ∀(main:XN) (c:Y5) (cs:Xn Y5) (Stop:XF->Xo->Prop),(∀u v',R (.returned u) v'->jM main Stop (G (c.finish u) cs) v')->jM main Stop (G (Frame.round l f t A d .normal) (c::cs)) v
def iO.mono {l:Nat} {t:Xv Xp} {A d:Code} (h:iO l f t A d v R) (k:∀e w',R e w'->R' e w'):iO l f t A d v R':=
 λmain c cs Stop H=>h main c cs Stop λu v' g=>H u v' (k _ _ g)
def EC(e:XB Nat)(o:Yf)(a:Act)(next:Act->Xo->Prop):Next->Xo->Prop
 | .value x,v'=>next (a.put o.dst x) v'
 | .skip,v'=>next (a.put o.dst undef) v'
 | .defer d,v'=>next ({ a with defers:=d::a.defers }.put o.dst undef) v'
 | .enter f args,v'=>dJ f args v' λx w=>∃u,x=.returned u/\next (a.put o.dst u) w
 | .round l f t A c,v'=>iO l f t A c v' λx w=>∃u,x=.returned u/\next (a.put o.dst u) w
 | _,_=>False
noncomputable def Qt(o:Yf)(ev:XZ->Xp):Nat:=match o.op with
 | .call { callee:=.value f,.. }=>match ev f with
  | .func (.func f) .. => if(prog.funcs[f]?).any (·.body.isSome)then 1 else 2
  | _=>2
 | .call _=>2
 | _=>1
theorem M1 {ops:Xv Yf} {i:Nat} {l:Xn Nat} {o:Yf} (d:ops[i]?=some o) (h:Qt o a.eval=2):mayWake prog (G (b.atR a (.inRegion ops (i::l)::k)) cs)=true:=by
 have H:=aaO b a (.inRegion ops (i::l)::k);simp[Frame.atR]at H;have⟨D,O,t,pos,e,g⟩:=o;unfold Qt at h;simp[mayWake,G,Frame.atR,d,H];cases O with
 | call c=>
  have⟨C,args,A⟩:=c;cases C with
  | value f=>
   grind
  | _=>rfl
 | _=>cases h
def Qu(c:XB Nat)(o:Yf)(a:Act)(next:Act->Xo->Prop)(v:Xo):Prop:=
 (∀V,Ry v V->∃x v',dr (o.semAt c a.eval) V x v'/\EC c o a next x v')\/∃K,(∀V,Ry v V->B.ask (Qt o a.eval) B.quiet (o.semAt c a.eval) V K)/\∀u v',K u v'->next (a.put o.dst u) v'
def Cl(Q:Act->Xo->Prop)(a:Act)(v:Xo):Prop:=∃V,Ry V v/\Q a V
def rX(d:XB Nat)(ops:Xv Yf)(Q:YL->Act->Xo->Prop):Xn Yf->Act->Xo->Prop
 | [],a,v=>Cl (Q .normal) a v
 | o::c,a,v=>if Region.wanted o (yielded ops a.tmps)then Qu d o a (rX d ops Q c) v else rX d ops Q c (a.put o.dst undef) v
def Dz(d:XB Nat)(ops:Xv Yf)(Q:YL->Act->Xo->Prop):Xn Nat->Act->Xo->Prop
 | [],a,v=>Cl (Q .normal) a v
 | i::c,a,v=>match ops[i]? with
  | none=>Dz d ops Q c a v
  | some o=>if Region.wanted o (yielded ops a.tmps)then Qu d o a (Dz d ops Q c) v else Dz d ops Q c (a.put o.dst undef) v
def SF(c:XB Nat)(ops:Xv Yf)(Q:YL->Act->Xo->Prop)(l:Xn Yf):∀k,(∀j,j<l.length->l[j]?=ops[k+j]?)->Dz c ops Q (List.range' k l.length)=rX c ops Q l:=by
 induction l with
 | nil=>intro k _;rfl
 | cons o l i=>
  intro k h;have H:ops[k]?=some o:=by simpa using(h 0 (by simp)).symm
  simp[List.range'_succ,Dz,rX,H,(i (k+1) λj d=>by have:=h (j+1) (by grind);simpa[Y6,abn 1 j]using this)]
section
variable{ro:XB Nat}{ops:Xv Yf}{Q:YL->Act->Xo->Prop}{o:Yf}{a:Act}{v v1:Xo}
def Qu.rely{next:Act->Xo->Prop}(h:Qu ro o a next v)(c:Ry v v1):Qu ro o a next v1:=h.imp (λh V H=>h V (c.trans H)) λ⟨K,h,d⟩=>⟨K,λV H=>h V (c.trans H),d⟩
variable {K:Act->Xo->Prop}
def Cl.rely (h:Cl K a v) (H:Ry v v1):Cl K a v1:=let ⟨V,c,k⟩:=h;⟨V,c.trans H,k⟩
def Cl.of (h:K a v):Cl K a v:=⟨v,.refl v,h⟩
def yp:∀{l:Xn Yf} {a:Act},rX ro ops Q l a v->Ry v v1->rX ro ops Q l a v1
 | [],_,h,H=>Cl.rely h H
 | o::l,a,h,H=>by
  unfold rX at h |-;split at h
  .rename_i c;rw[XE c];exact h.rely H
  .rename_i c;rw[Xx c];exact yp h H
def yq:∀{l:Xn Nat} {a:Act},Dz ro ops Q l a v->Ry v v1->Dz ro ops Q l a v1
 | [],_,h,H=>Cl.rely h H
 | i::l,a,h,H=>by
  unfold Dz at h |-;cases d:ops[i]? with
  | none=>rw[d]at h;exact yq h H
  | some o=>
   rw[d]at h;simp only at h |-;split at h
   .rename_i c;rw[XE c];exact h.rely H
   .rename_i c;rw[Xx c];exact yq h H
def nX:∀(l:Xn Nat) (a:Act) (v:Xo),Dz ro ops Q l a v->∀(main:XN) (b:Y5) (k:Xn Item) (cs:Xn Y5) (Stop:XF->Xo->Prop),b.roundOf=ro->WY b ->
 (∀e W v',Q e W v'->lZ main Stop b k cs e W v')->jM main Stop (G (b.atR a (.inRegion ops l::k)) cs) v
 | [],a,v,h,main,b,k,cs,Stop,_,_,n=>by
  have⟨v0,X,q⟩:=h;exact .idle rfl (λr=>yo) (jM.rely (n _ _ _ q) X)
 | i::l,a,v,h,main,b,k,cs,Stop,p,s,n=>by
  unfold Dz at h;cases j:ops[i]? with
  | none=>
   simp only[j]at h;have:=nX l a v h main b k cs Stop p s n;refine .idle rfl (λr=>?_) this;simpa only[j,Option.bind_none,Act.put]using(Ez (ops:=ops) (i:=i) (by simp[j]))
  | some o=>
   simp only[j]at h;split at h
   .rename_i t;have c:(b.kind==CallKind.early)=false:=by simpa using s.1
    have H:∀u,(b.atR a (.inRegion ops (i::l)::k)).finish u=b.atR (a.put o.dst u) (.inRegion ops l::k):=λu=>by rw[abf,j];rfl
    have J:∀d u,({ b.atR a (.inRegion ops (i::l)::k)with defers:=d::a.defers }:Y5).finish u=b.atR ({ a with defers:=d::a.defers }.put o.dst u) (.inRegion ops l::k):=λd u=>by
     have:=abf b { a with defers:=d::a.defers } ops i l k u;rwa[j]at this
    rcases h with h|⟨K,A,Y⟩
    rotate_left
    .refine .ask (Qt o a.eval) B.quiet (o.semAt b.roundOf a.eval) (λu=>G (b.atR (a.put o.dst u) (.inRegion ops l::k)) cs) ⟨rfl,s.2,λ_=>rfl,λr m E u g=>by rw[vh j t,<- H];simp only[stepG.apply,YB,g,Frame.atR,c,GStep.after,G,XM,XV,Yu],λr m E g=>by rw[vh j t,<- H];simp only[stepG.apply,YB,g,Frame.atR,c,GStep.after,G,XM,XV,Yu],λr m E g=>by rw[vh j t];simp only[stepG.apply,YB,g,Frame.atR,c,GStep.after,G,XM,XV,tJ,Yu],λ_ r m E cases bl sh g=>by rw[vh j t];simp only[stepG.apply,YB,g,Frame.atR,c,GStep.after,G,XM,XV,Yu],λ_ r m E d hd g=>?_,λh=>M1 j h,rfl,λ_ u=>by rw[<- H];rfl⟩ K (λv1 L=>by rw[p];exact A v1 L) λu v' C=>nX l _ _ (Y u v' C) main b k cs Stop p s n;rw[vh j t,<- H];have M:(match d.target with | .nil=>true|_=>false)=false:=by cases ht:d.target<;>simp_all
     simp only[stepG.apply,YB,g,Frame.atR,c,GStep.after,G,XM,XV,M,aaP,Bool.false_and,Yu]
    refine .Bh rfl λv1 L=>?_;have⟨x,v',D,z⟩:=h v1 L;have⟨E,N,O,y⟩:=D.true;have F:∀(P:XF),(∀r m,(o.semAt b.roundOf a.eval).runT prog r #[]=(.ok x m,E)->stepG.apply prog true (b.atR a (.inRegion ops (i::l)::k)) cs none (o.semAt b.roundOf a.eval) r=.go P m (seen prog b.fn E)) ->
     nG main (G (b.atR a (.inRegion ops (i::l)::k)) cs) v1 P v':=λP Z=>⟨seen prog b.fn E,λe I=>N e (oG _ _ _ e I),O,λr g=>by
     have⟨m,t1,t2,t3⟩:=y r g;exact⟨m,by rw[vh j t];exact Z r m (by rw[p];exact t1),t2,t3⟩⟩
    cases x with
    | value u=>exact⟨_,_,F (G (b.atR (a.put o.dst u) (.inRegion ops l::k)) cs) λr m g=>by
     rw[<- H];simp only[stepG.apply,YB,g,Frame.atR,c,GStep.after,G,XM,XV];rfl,nX l _ _ z main b k cs Stop p s n⟩
    | skip=>exact⟨_,_,F (G (b.atR (a.put o.dst undef) (.inRegion ops l::k)) cs) λr m g=>by
     rw[<- H];simp only[stepG.apply,YB,g,Frame.atR,c,GStep.after,G,XM,XV];rfl,nX l _ _ z main b k cs Stop p s n⟩
    | defer d=>exact⟨_,_,F (G (b.atR ({ a with defers:=d::a.defers }.put o.dst undef) (.inRegion ops l::k)) cs) λr m g=>by
     rw[<- J];simp only[stepG.apply,YB,g,Frame.atR,c,GStep.after,G,XM,XV];rfl,nX l _ _ z main b k cs Stop p s n⟩
    | enter f args=>exact⟨_,_,F (G (Frame.enter prog f args .normal) (b.atR a (.inRegion ops (i::l)::k)::cs)) λr m g=>by
     simp only[stepG.apply,YB,g,Frame.atR,c,GStep.after,G,XM,XV];rfl,z main false _ cs Stop (λh=>by cases h) λu V C=>by
      have⟨_,I,S⟩:=C;cases I;show jM _ _ (G (Frame.finish _ _) _) _;rw[H];exact nX l _ _ S main b k cs Stop p s n⟩
    | round lp f T U bd=>exact⟨_,_,F (G (Frame.round lp f T U bd .normal) (b.atR a (.inRegion ops (i::l)::k)::cs)) λr m g=>by
     simp only[stepG.apply,YB,g,Frame.atR,c,GStep.after,G,XM,XV];rfl,z main _ cs Stop λu V C=>by
      have⟨_,I,S⟩:=C;cases I;rw[H];exact nX l _ _ S main b k cs Stop p s n⟩
    | _=>exact z.elim
   .rename_i t;have:=nX l _ v h main b k cs Stop p s n;refine .idle rfl (λr=>?_) this;simpa only[j,abb]using(Ez (ops:=ops) (i:=i) (by simp[j];simpa using t))
variable {id:Nat}
def yr (h:rX ro ops Q ops.toList a v):uI ro (.region id ops false) Q a v:=λmain b k cs Stop H c d=>by
 refine .idle rfl (λr=>G2) (nX _ a v ?_ main b k cs Stop H c d);rwa[List.range_eq_range',<- Array.length_toList,SF ro ops Q ops.toList 0 λj _=>by simp]
def yt (h:∀t,Dz ro ops Q (Region.schedule (prog.follows .mixedOrders) ops t) a v):uI ro (.region id ops true) Q a v:=λmain b k cs Stop c d g=>by
 refine .Bh rfl λv1 i=>⟨_,{ v1 with drawn:=v1.drawn+1 },⟨#[],λe j=>by grind,rfl,λr H=>⟨{ r with drawn:=r.drawn+1 },by rw[MX,H.tape,H.drawn],⟨H.size,H.tape,by simp[H.drawn],H.cells,H.blank,H.other⟩,?_⟩⟩,nX _ a { v1 with drawn:=v1.drawn+1 } (yq (by grind) (i.trans ⟨by grind,λ_ _=>rfl,rfl,rfl,rfl⟩)) main b k cs Stop c d g⟩;have:=Kept.refl H;exact⟨⟨rfl,rfl,rfl,by simp,this.old,this.cells,this.blank,this.obj⟩,by grind,(po.refl v1).2⟩
