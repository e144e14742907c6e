/-
  Part 24: ; ; .
-/
import Derived.Test.YtecibefflhomdaaGreatDoorZ23
set_option maxHeartbeats 8000000
set_option maxRecDepth 100000
set_option linter.all false
namespace Go.Proofs.YtecibefflhomdaaGreatDoor
open Go Proofs.Tryz
section
open Go Go.Conc Go.ConcN Go.ConcM
def KY(x:XB Obj):Prop:=(∃c e f,x=some (Obj.cells c e f)/\∀(i:Nat) (z:Xp),c[i]?=some z->z=hole)\/x=some (Obj.coro none)
structure Ax(p1 p2:Prop)(x1 x2:XB Obj):Prop where
 cells:¬p1->¬p2->∀(c1 c2:Xv Xp) (e1 e2:XO) (f1 f2:Nat×Nat),x1=some (Obj.cells c1 e1 f1)->x2=some (Obj.cells c2 e2 f2)->∀(i:Nat) (y1 y2:Xp),c1[i]?=some y1->c2[i]?=some y2->y1=hole\/y2=hole
 obj:¬p1->¬p2->∀y1 y2:Obj,x1=some y1->x2=some y2->(∀c e f,y1≠Obj.cells c e f)->(∀c e f,y2≠Obj.cells c e f)->y1=Obj.coro none\/y2=Obj.coro none
 left:p1->¬p2->KY x2
 right:p2->¬p1->KY x1
structure Mb(p:Prop)(x y:XB Obj):Prop where
 cells:∀(c:Xv Xp) (e:XO) (f:Nat×Nat),x=some (Obj.cells c e f)->∃c':Xv Xp,y=some (Obj.cells c' e f)/\c'.size=c.size/\∀(i:Nat) (z:Xp),c[i]?=some z->(p\/z≠hole)->c'[i]?=some z
 blank:¬p->x=some (Obj.coro none)->∃o,y=some o/\∀c e f,o≠Obj.cells c e f
 other:∀o:Obj,x=some o->(∀c e f,o≠Obj.cells c e f)->¬(¬p/\x=some (Obj.coro none))->y=some o
section
variable{o o1 o2:Nat->Prop}{v v1 v2 u w r:Xo}{p p1 p2 q1 q2:Prop}{x y x1 x2:XB Obj}{k:Nat}
def Sep.at(h:Sep o1 v1 o2 v2)(k:Nat):Ax (o1 k) (o2 k) v1.heap[k]? v2.heap[k]?:=⟨λa b C d e E f1 f2 H c=>h.cells k C d e E f1 f2 a b H c,λa b Y f H c=>h.obj k Y f a b H c,h.left k,h.right k⟩
def Sep.of(h:∀k,Ax (o1 k) (o2 k) v1.heap[k]? v2.heap[k]?):Sep o1 v1 o2 v2:=⟨λk c C e E f1 f2 a b=>(h k).cells a b c C e E f1 f2,λk Y d a b=>(h k).obj a b Y d,λk=>(h k).left,λk=>(h k).right⟩
def Sep.congr{W w2:Xo}(h:Sep o1 v1 o2 v2)(e:W.heap=v1.heap)(E:w2.heap=v2.heap):Sep o1 W o2 w2:=.of λk=>by rw[e,E];exact h.at k
def fP(h:pH o v r)(k:Nat):Mb (o k) v.heap[k]? r.heap[k]?:=by
 obtain⟨_,_,_,H,c,d⟩:=h;exact⟨H k,λa b=>c k ⟨a,b⟩,d k⟩
def yU(h1:r.heap.size=v.heap.size)(a:r.tape=v.tape)(b:r.drawn=v.drawn)(h:∀k,Mb (o k) v.heap[k]? r.heap[k]?):pH o v r:=
 @Vw.mk (bI o) _ _ h1 a b (λk=>(h k).cells) (λk H=>(h k).blank H.1 H.2) (λk=>(h k).other)
def jS(h:pH o v r):r.heap.size=v.heap.size/\r.tape=v.tape/\r.drawn=v.drawn:=by
 obtain⟨H,a,b,_⟩:=h
 grind
def Ax.symm(h:Ax p1 p2 x1 x2):Ax p2 p1 x2 x1:=⟨λa b C g E j f1 f2 H c i Y d e f=>(h.cells b a g C j E f2 f1 c H i d Y f e).symm,λa b Y d H c e f=>(h.obj b a d Y c H f e).symm,h.right,h.left⟩
def Ax.conv(h:Ax p1 p2 x1 x2)(e:p1↔q1)(E:p2↔q2):Ax q1 q2 x1 x2:=by grind
def Mb.conv(h:Mb p x y)(e:p↔q1):Mb q1 x y:=by grind
def Mb.self:Mb p x x:=⟨λc e f h=>⟨c,h,rfl,λ_ _ h _=>h⟩,λ_ h=>⟨_,h,λ_ _ _ h=>by grind⟩,λo h _ _=>h⟩
def rK:(jo o r).heap.size=r.heap.size:=by simp[jo]
def yV:Mb (o k) (jo o r).heap[k]? r.heap[k]?:=fP (xq o r) k
open Classical in
noncomputable def pick(S:Nat->Prop)(u v:Xo):Xo:={ v with heap:=v.heap.mapIdx λk x=>if S k then(u.heap[k]?).getD x else x }
variable {S:Nat->Prop}
def oS:(pick S u v).heap.size=v.heap.size:=by simp[pick]
def tW (H:u.heap.size=v.heap.size) (h:S k):(pick S u v).heap[k]?=u.heap[k]?:=by
 simp[pick]
 grind
def qN (h:¬S k):(pick S u v).heap[k]?=v.heap[k]?:=by
 simp[pick]
 grind
def yW(S:Nat->Prop)(H:u.heap.size=v.heap.size)(k:Nat):(S k/\(pick S u v).heap[k]?=u.heap[k]?)\/(¬S k/\(pick S u v).heap[k]?=v.heap[k]?):=by
 by_cases h:S k
 .exact .inl ⟨h,tW H h⟩
 .exact .inr ⟨h,qN h⟩
variable {a:YO}
def et (h:pI v a) (e:w.heap[a.block]?=v.heap[a.block]?):pI w a:=by
 have⟨c,f,g,b,H⟩:=h;exact⟨c,f,g,by grind,H⟩
def jF(h:tT v k)(e:w.heap[k]?=v.heap[k]?):tT w k:=by
 have⟨c,f,g,b,H⟩:=h;exact⟨c,f,g,by grind,H⟩
def kr (h:pI v a) (hv:pH o1 v r) (H:¬o a.block):pI (jo o r) a:=by
 have⟨c,e,f,b,d⟩:=h;have⟨C,g,G,_⟩:=(fP hv a.block).cells c e f b;refine⟨_,e,f,by rw[ib H,g];rfl,?_⟩
 grind
def rL(h:tT v k)(hv:pH o1 v r)(H:¬o k):tT (jo o r) k:=by
 have⟨c,e,f,b,j⟩:=h;have⟨C,g,G,_⟩:=(fP hv k).cells c e f b;exact⟨_,e,f,by rw[ib H,g];rfl,λi x d=>kp (o:=.cells C e f) rfl d⟩
def xr(h:v.heap[k]?=some (.coro none))(hv:pH o1 v r)(h1:¬o1 k)(H:¬o k):(jo o r).heap[k]?=some (.coro none):=by
 have⟨z,b,d⟩:=(fP hv k).blank h1 h;rw[ib H,b];cases z with
 | cells c e f=>exact XG rfl (d _ _ _)
 | _=>rfl
variable {z:Obj}
def C1 (h:Af z):z≠.coro none:=λe=>by subst e;exact h
def NU (h:KY (some z)) (b:Af z):(∃e f,z=.cells #[] e f)\/∃c f,z=.cells c 133 f:=by
 rcases h with⟨c,e,f,H,i⟩|H
 .cases H;rcases ZR c.size with d|d
  .grind
  .have g:=XL d;obtain⟨rfl,_⟩:=b 0 _ g (i 0 _ g)
   grind
 .cases H;exact b.elim
end
section
variable{old:Nat->Prop}{W0 v r:Xo}{l:Xn ae}{bl:Xn (Nat×Obj)}{os':Os}
def kP(bl:Xn (Nat×Obj))(k:Nat):Prop:=∃x∈bl,x.1=k
noncomputable def gG(old S:Nat->Prop)(v r:Xo)(os':Os):Xo:={ v with heap:=(pick S v (jo old r)).heap,os:=os' }
variable {S:Nat->Prop}
def lB:(gG old S v r os').heap.size=r.heap.size:=oS.trans rK
variable {k:Nat}
def dF (H:v.heap.size=r.heap.size) (h:S k):(gG old S v r os').heap[k]?=v.heap[k]?:=tW (by rw[rK,H]) h
def bj (h:¬S k):(gG old S v r os').heap[k]?=(jo old r).heap[k]?:=qN h
def fS (hv:pH old v r) (d:old k) (g:k<v.heap.size):v.heap[k]?=r.heap[k]?:=by
 have H:=XL g;have b:=fP hv k;by_cases a:∃c e f,v.heap[k]=Obj.cells c e f
 .have⟨c,e,f,a⟩:=a;rw[a]at H
  have⟨C,G,i,j⟩:=b.cells c e f H
  rw[H,G];congr 2;apply Y9
  grind
 .rw[b.other _ H (λc e f h=>a ⟨c,e,f,h⟩) λh=>h.1 d,H]
def qO (hv:pH old v r):pH old (gG old S v r os') r:=by
 have⟨H,a,b⟩:=jS hv;refine yU lB.symm a b λk=>?_;by_cases h:S k
 .rw[dF H.symm h];exact fP hv k
 .rw[bj h];exact yV
def yX (hv:pH old v r) (n:l6 old W0 (l++cy bl) v) (u:∀x∈bl,S x.1):l6 old { W0 with os:=os' } (cy bl) (gG old S v r os'):=by
 letI:Base:=bI old
 have⟨a,b,c,d,o,e,f,R⟩:=n;have⟨w,A,F,B,L,_,p⟩:=@dV _ _ _ _ R;have⟨V,C,D⟩:=jS hv;let P:Nat->Prop:=λi=>old i\/kP bl i
 have q:=rA (P:=P) (@oH _ _ _ _ L p) λx H=>.inr ⟨x,H,rfl⟩;refine @Sat.mk _ _ _ _ rfl b c ⟨d.1,by rw[lB,V];exact d.2⟩ ⟨o.trim P,λi x H=>?_,⟨λi z g s=>?_,λi x H g=>f.2 i x (Hp.nH _ _ i x H) g⟩,q⟩
 .have j:=e i x (Hp.nH _ _ i x H);by_cases m:S i
  .rw[dF V.symm m];exact j
  .have g:old i:=by
    unfold Hp.trim at H;split at H
    .rename_i t;rcases t with h|⟨y,E,rfl⟩
     .omega
     grind
    grind
   rw[bj m,oN g,<- fS hv g (kq j)];exact j
 .have:=f.1 i z g s;rw[Hp.trim,XE (.inl g)];exact this
end
def tX(g:XF):XN:=match g.status with
 | .running=>true
 | _=>false
def wJ:Xn XF->Nat
 | []=>0
 | g::l=>(if tX g then 1 else 0)+wJ l
def Q0(gs:Xv XF):Nat:=wJ gs.toList
variable {g g':XF}
def KZ (h1:tX g=true) (H:tX g'=false):∀(l:Xn XF) (a:Nat),l[a]?=some g->wJ (l.set a g')<wJ l:=by
 intro l
 induction l with
 | nil=>intro a h;simp at h
 | cons x l i=>
  intro a h;cases a with
  | zero=>
   obtain rfl:=by simpa using h
   show(if tX g'=true then 1 else 0)+wJ l<(if tX x=true then 1 else 0)+wJ l
   grind
  | succ a=>
   have:=i a (by grind);show(if tX x=true then 1 else 0)+wJ _<(if tX x=true then 1 else 0)+wJ l;omega
def BI {gs:Xv XF} {a:Nat} (h:gs[a]?=some g) (h1:g.status=.running) (H:g'.status=.blocked):Q0 (gs.setIfInBounds a g')<Q0 gs:=by
 rw[Q0,Array.toList_setIfInBounds];exact KZ (g:=g) (by simp[tX,h1]) (by simp[tX,H]) _ _ (by grind)
abbrev Mu:=Nat×Xn Tr×Nat
abbrev Hr:Mu->Mu->Prop:=Prod.Lex (· < ·) (Prod.Lex kZ (· < ·))
def Hr.wf:WellFounded Hr:=(Prod.lex Nat.lt_wfRel (Prod.lex ⟨_,kZ.wf⟩ Nat.lt_wfRel)).wf
def ja(p:cn)(D:gm)(T:Xn Tr)(gs:Xv XF):Mu:=(Wt p D,T,Q0 gs)
def r7(F:Xn Nat->cn)(p:cn)(O:Nat->Prop)(Q:Xp->Prop)(W0:Xo)(μ:Mu)(sl:XB (Nat×Nat))(gs:Xv XF)(r:Xo)(t:Trace)(a:Nat):Prop:=
 ∃G b o R d v T,runT prog (crowd gs r sl) a=(.next (crowd G b sl),o)/\MI F p O R Q W0 d v T G b (t++o)/\Hr (ja p d T G) μ
def Does.go {main:XN} {op:Nat} {q:XN} {s:Sem Next} {f:Xp->XF} {r r':Xo} {u:Xp} {es:Xv Ys} (H:Does main op q g s f) (b:Yields q s r u r' es):stepG prog main g r=.go (f u) r' es:=by
 have⟨e,h,c⟩:=b;have a:=c g.frame.fn H.quiet;rcases h with h|⟨rfl,h⟩
 .rw[H.val r r' e u h,a]
 .rw[H.skip r r' e h,a]
theorem gO{om Rk:Nat->Prop}:aK om Rk 1=om:=by
 funext k;simp[aK]
section
variable{F:Xn Nat->cn}{p:cn}{om Rk:Nat->Prop}{Q:Xp->Prop}{W0:Xo}{D D':gm}{vs vs':Nat->Xo}{T:Xn Tr}{gs:Xv XF}{r r':Xo}{t:Trace}
variable{a op:Nat}{g:XF}{qt:XN}{s:Sem Next}{fin:Xp->XF}{K:Xp->Xo->Prop}{q q':Ps}{u:Xp}{es:Xv Ys}{sl:XB (Nat×Nat)}
structure np(F:Xn Nat->cn)(p:cn)(om Rk:Nat->Prop)(Q:Xp->Prop)(D:gm)(a op:Nat)(g:XF)(qt:XN)(s:Sem Next)(fin:Xp->XF)(K:Xp->Xo->Prop):Prop where
 does:Does (a==0) op qt g s fin
 m:a=0->∀u v',K u v'->@jM (fN F om) true (Fs om Q) (fin u) v'
 w:a≠0->D.sg[a]?=some 7/\∀u v',K u v'->@jM (fN F (aK om Rk (a+1))) false (BG p (aK om Rk (a+1))) (fin u) v'
def np.VZ{v':Xo}(H:np F p om Rk Q D a op g qt s fin K)(d:K u v'):∃b,(a=0->pK F om Q D' v' b (fin u))/\(a≠0->gr F p (aK om Rk (a+1)) D' r' v' (dN v').th.deaf 7 b (fin u)):=by
 by_cases c:a=0
 .have⟨b,h⟩:=@jM.tree (fN F om) _ _ _ _ (H.m c u v' d);exact⟨b,λ_=>.go h (H.does.fins u),λh=>XG c h⟩
 .have⟨b,h⟩:=@jM.tree (fN F _) _ _ _ _ ((H.w c).2 u v' d);exact⟨b,λh=>XG h c,λ_=>.go h (H.does.fins u)⟩
def MI.deaf(h:MI F p om Rk Q W0 D vs T gs r t)(H:D.l[a]?=some q)(b:a≠0->D.sg[a]?=some 7):Deaf t a=q.th.deaf:=by
 cases a with
 | zero=>
  have⟨_,_,d,_,_,e,j,_⟩:=h.main
  grind
 | succ i=>
  have c:i<D.f:=by have:=(Xw.1 H).1;rw[h.ai.len]at this;omega
  have⟨_,_,k,_,_,w,W⟩:=h.wk i c;have:=b (by omega);rw[w]at this;rw[W.deaf (by grind),(h.wi.gh _ q H).1]
def r8(p:cn)(a:Nat)(e:Ys):Prop:=(∀b,e.loc≠.mark (.release b))/\∀x,(MemAct.ofEvent e).touch?=some x->qi p x.loc/\x.kind≠.plain/\(x.kind=.said->a=0)
variable {b:YO}
def xu (h:qi p (.cell b)):r8 p a (SM b):=⟨λ_ h=>(by grind),λx H=>by have:=(Xt H).symm;subst this;exact⟨h,by simp,by simp⟩⟩
def C2 (h:qi p (.cell b)):r8 p a (UQ b):=⟨λ_ h=>(by grind),λx H=>by have:=(Xt H).symm;subst this;exact⟨h,by simp,by simp⟩⟩
def xv{m:Mark}(h:∀b,m≠.release b)(H:(MemAct.ofEvent ⟨.mark m,false,true⟩).touch?=none):r8 p a ⟨.mark m,false,true⟩:=⟨λb e=>h b (by grind),λx c=>by grind⟩
def qP (h:qi p (.cell b)):∀e∈semEvents b,r8 p a e:=by
 intro e H;simp[semEvents]at H;rcases H with rfl|rfl|rfl|rfl
 .exact xv (by simp) rfl
 .exact xu h
 .exact C2 h
 .exact xv (by simp) rfl
def Mc:qi p (.cell p.word):=.inl rfl
def Ws:qi p (.cell p.sema):=.inr (.inl rfl)
def nM{fn:FuncId}{pos:YG}{n:Nat}{See:Nat->Loc->Prop}{Rd:Loc->Prop}(hl:∀l,qi p l->j7 l<n)(h:∀e∈es,r8 p a e):∀op∈MemOp.ofEvents a fn pos es,P8 n n See Rd (qi p) a op:=by
 intro op H;obtain⟨e,c,rfl⟩:=mn H;have⟨d,i⟩:=h e c;refine⟨rfl,λb f=>d b (od f),λx j=>?_⟩
 grind
def MI.Sn(h:MI F p om Rk Q W0 D vs T gs r t)(c:gs[a]?=some g)(d:np F p om Rk Q D a op g qt s fin K)(y:D.l[a]?=some q)(e:stepG prog (a==0) g r=.go (fin u) r' es)
 (hl:D'.l=D.l.set a q') (i:D'.sg=D.sg) (z:D'.f=D.f) (j:D'.s=D.s) (k:D'.jn=D.jn) (H:AI p D'/\Wt p D'<Wt p D)
 (A:Fp p r r') (h1:r'.cell? p.word=some (.int .i32 D'.x)) (B:r'.cell? p.sema=some (.int .u32 D'.bu)) (C:r'.heap[p.wg]?=some (.cells #[.int .u64 D'.st,.int .u32 D'.sm] 156 (0,0))) (E:∃S R G,r'.heap[p.ch]?=some (.chan 0 #[] D'.cl S R G))
 (I:a=0\/(bQ q'↔bQ q)) (m:∀op∈MemOp.ofEvents a g.frame.fn g.frame.place es,P8 r.heap.size r.heap.size (oR om Rk D vs) (oO (aK om Rk 0)) (qi p) a op) (n:deafBehind q.th.deaf es=q'.th.deaf) (o:nL g (fin u)=true\/((D.bu=0->D'.bu=0)/\(D.sm=0->D'.sm=0))) (v:D'.cl=D.cl\/(nL g (fin u)=true/\D'.cl=true))
 (J:∀v',Nb (vs (a+1)) v' q'->K u v'):r7 F p om Q W0 (ja p D T gs) sl gs r t a:=by
 let v':Xo:={ vs (a+1)with os:=ji (vs (a+1)).os q',drawn:=r'.drawn }
 have L:=J v' ⟨rfl,rfl,rfl,rfl⟩;have P:dN v'=q':=kH rfl;have⟨T',M,U⟩:=d.VZ (D':=D') (r':=r') L;have⟨vs',N⟩:=h.nb (q':=q') (v':=v') (T':=T') c (j8 (r':=r') (g':=fin u) c) y hl i z j k H.1 A h1 B C E rfl I m
  (by rw[Deaf_own,h.deaf y λh=>(d.w h).1];exact n) o v M (λO=>⟨(d.w O).1,by grind⟩)
 exact⟨_,_,_,Rk,D',vs',_,runT_crowd_go c e,N,.left _ _ H.2⟩
def MI.Wu(h:MI F p om Rk Q W0 D vs T gs r t)(o:gs[a]?=some g)(n:np F p om Rk Q D a op g qt s fin K)(w:D.l[a]?=some q)(y:Yields qt s r u r' es)
 (hl:D'.l=D.l.set a q') (H:D'.sg=D.sg) (z:D'.f=D.f) (c:D'.s=D.s) (d:D'.jn=D.jn) (e:AI p D'/\Wt p D'<Wt p D)
 (A:Fp p r r') (h1:r'.cell? p.word=some (.int .i32 D'.x)) (B:r'.cell? p.sema=some (.int .u32 D'.bu)) (C:r'.heap[p.wg]?=some (.cells #[.int .u64 D'.st,.int .u32 D'.sm] 156 (0,0))) (E:∃S R G,r'.heap[p.ch]?=some (.chan 0 #[] D'.cl S R G))
 (I:a=0\/(bQ q'↔bQ q)) (i:∀op∈MemOp.ofEvents a g.frame.fn g.frame.place es,P8 r.heap.size r.heap.size (oR om Rk D vs) (oO (aK om Rk 0)) (qi p) a op) (j:deafBehind q.th.deaf es=q'.th.deaf) (k:nL g (fin u)=true\/((D.bu=0->D'.bu=0)/\(D.sm=0->D'.sm=0))) (m:D'.cl=D.cl\/(nL g (fin u)=true/\D'.cl=true))
 (J:∀v,Nb (vs (a+1)) v q'->K u v):r7 F p om Q W0 (ja p D T gs) sl gs r t a:=h.Sn o n w (n.does.go y) hl H z c d e A h1 B C E I i j k m J
def MI.ask(h:MI F p om Rk Q W0 D vs T gs r t)(o:gs[a]?=some g)(w:np F p om Rk Q D a op g qt s fin K)(y:D.l[a]?=some q)(z:Yields qt s r u r' es)
 (hl:D'.l=D.l.set a q') (H:D'.sg=D.sg) (A:D'.f=D.f) (c:D'.s=D.s) (d:D'.jn=D.jn) (i:AI p D'/\Wt p D'<Wt p D)
 (B:Fp p r r') (h1:r'.cell? p.word=some (.int .i32 D'.x)) (C:r'.cell? p.sema=some (.int .u32 D'.bu)) (E:r'.heap[p.wg]?=some (.cells #[.int .u64 D'.st,.int .u32 D'.sm] 156 (0,0))) (G:∃S R I,r'.heap[p.ch]?=some (.chan 0 #[] D'.cl S R I))
 (J:a=0\/(bQ q'↔bQ q)) (j:∀e∈es,r8 p a e) (k:deafBehind q.th.deaf es=q'.th.deaf) (m:nL g (fin u)=true\/((D.bu=0->D'.bu=0)/\(D.sm=0->D'.sm=0))) (n:D'.cl=D.cl\/(nL g (fin u)=true/\D'.cl=true))
 (L:∀v,Nb (vs (a+1)) v q'->K u v):r7 F p om Q W0 (ja p D T gs) sl gs r t a:=
 h.Wu o w y z hl H A c d i B h1 C E G J (nM (h.wi.dj).ltH j) k m n L
def Fp.refl(r:Xo):Fp p r r:=⟨rfl,rfl,rfl,.refl _,λ_ _ _ _=>rfl,λc e f h=>⟨c,h,rfl,λ_ _=>rfl⟩,λc e f h=>⟨c,h,rfl⟩,λo h H=>⟨o,h,H⟩⟩
variable {y:Xp}
def di {k:Nat} (h:k≠b.block):(r.setCell b y).heap[k]?=r.heap[k]?:=by
 rw[World.setCell,CX,Xx h]
def ks {c:Xv Xp} {e:XO} {f:Nat×Nat} (h:r.heap[b.block]?=some (.cells c e f)) (H:b.spot=none):(r.setCell b y).heap[b.block]?=some (.cells (c.setIfInBounds b.off y) e f):=by
 rw[World.setCell,CX,XE rfl,h]
 grind
def NV (l:b.block=p.mu) (j:b.spot=none) (m:b.off<2):Fp p r (r.setCell b y):=by
 refine⟨by simp,rfl,rfl,.refl _,λk n _ _=>di (by omega),λc e f h=>⟨_,by rw[<- l]at h |-;exact ks h j,by simp,λi v=>by grind⟩,λc e f h=>?_,λo h d=>?_⟩
 .by_cases H:p.wg=b.block
  .rw[H]at h |-;exact⟨_,ks h j,by simp⟩
  .exact⟨c,by rw[di H];exact h,rfl⟩
 .by_cases H:p.ch=b.block
  .rw[H]at h |-;refine⟨o,?_,d⟩;rw[World.setCell,CX,XE rfl,h];cases o with
   | cells c e f=>exact XG rfl (d _ _ _)
   | _=>rfl
  .exact⟨o,by rw[di H];exact h,d⟩
def tY {c:YO} {z:Xp} (h:r.cell? b=some z) (i:b.spot=none) (j:c.spot=none):(r.setCell b y).cell? c=if c=b then some y else r.cell? c:=by
 unfold World.cell? at h |-;cases d:r.heap[b.block]? with
 | none=>rw[d]at h;cases h
 | some o=>
  rw[d]at h;cases o with
  | cells C e f=>
   by_cases H:c.block=b.block
   .rw[H,ks d i,d];by_cases k:c.off=b.off
    .have:c=b:=by cases c;cases b;simp_all
     grind
    grind
   .rw[di H,Xx λe=>H (by rw[e])]
  | _=>cases h
def MI.qQ(h:MI F p om Rk Q W0 D vs T gs r t)(f:gs[a]?=some g)(i:np F p om Rk Q D a op g qt s fin K)(j:D.l[a]?=some q)(k:Yields qt s r u r es)(H:AI p (D.upd a q' D.x D.bu)/\Wt p (D.upd a q' D.x D.bu)<Wt p D)
 (m:a=0\/(bQ q'↔bQ q)) (c:∀e∈es,r8 p a e) (d:deafBehind q.th.deaf es=q'.th.deaf) (n:∀v,Nb (vs (a+1)) v q'->K u v):r7 F p om Q W0 (ja p D T gs) sl gs r t a:=
 h.ask (D':=D.upd a q' D.x D.bu) f i j k rfl rfl rfl rfl rfl H (.refl r) h.wi.word h.wi.sema h.wi.wgb h.wi.chb m c d (.inr ⟨id,id⟩) (.inl rfl) n
def MI.Hs{x':Nat}(h:MI F p om Rk Q W0 D vs T gs r t)(f:gs[a]?=some g)(i:np F p om Rk Q D a op g qt s fin K)(j:D.l[a]?=some q)(k:Yields qt s r u (r.setCell p.word (.int .i32 x')) es)(H:AI p (D.upd a q' x' D.bu)/\Wt p (D.upd a q' x' D.bu)<Wt p D)
 (m:a=0\/(bQ q'↔bQ q)) (c:∀e∈es,r8 p a e) (d:deafBehind q.th.deaf es=q'.th.deaf) (n:∀v,Nb (vs (a+1)) v q'->K u v):r7 F p om Q W0 (ja p D T gs) sl gs r t a:=by
 refine h.ask (D':=D.upd a q' x' D.bu) f i j k rfl rfl rfl rfl rfl H (NV rfl rfl (by simp[cn.word])) ?_ ?_ ?_ ?_ m c d (.inr ⟨id,id⟩) (.inl rfl) n
 .rw[tY h.wi.word rfl rfl,XE rfl];rfl
 .rw[tY h.wi.word rfl rfl,Xx (by simp[cn.word,cn.sema])];exact h.wi.sema
 .rw[di (by simp;exact h.wi.ne.1.symm)];exact h.wi.wgb
 .rw[di (by simp;exact h.wi.ne.2.1.symm)];exact h.wi.chb
def MI.Tk{s':Nat}(h:MI F p om Rk Q W0 D vs T gs r t)(i:gs[a]?=some g)(j:np F p om Rk Q D a op g qt s fin K)(k:D.l[a]?=some q)(m:Yields qt s r u (r.setCell p.sema (.int .u32 s')) es)(H:AI p (D.upd a q' D.x s')/\Wt p (D.upd a q' D.x s')<Wt p D)
 (n:a=0\/(bQ q'↔bQ q)) (c:∀e∈es,r8 p a e) (d:deafBehind q.th.deaf es=q'.th.deaf) (f:nL g (fin u)=true\/(D.bu=0->s'=0)) (o:∀v,Nb (vs (a+1)) v q'->K u v):r7 F p om Q W0 (ja p D T gs) sl gs r t a:=by
 refine h.ask (D':=D.upd a q' D.x s') i j k m rfl rfl rfl rfl rfl H (NV rfl rfl (by simp[cn.sema])) ?_ ?_ ?_ ?_ n c d (f.imp id λh=>⟨h,id⟩) (.inl rfl) o
 .rw[tY h.wi.sema rfl rfl,Xx (by simp[cn.word,cn.sema])];exact h.wi.word
 .rw[tY h.wi.sema rfl rfl,XE rfl];rfl
 .rw[di (by simp;exact h.wi.ne.1.symm)];exact h.wi.wgb
 .rw[di (by simp;exact h.wi.ne.2.1.symm)];exact h.wi.chb
theorem MI.block(h:MI F p om Rk Q W0 D vs T gs r t)(H:gs[a]?=some g)(l:T[a]?=some .leaf)(e:g.status=.running)(hst:stepG Tryz.prog (a==0) g r=.go { g with status:=.blocked } r #[])
 (i:a=0->pK F om Q D (vs (a+1)) .leaf { g with status:=.blocked }) (j:a≠0->D.sg[a]?=some 7/\gr F p (aK om Rk (a+1)) D r (vs (a+1)) (dN (vs (a+1))).th.deaf 7 .leaf { g with status:=.blocked }):r7 F p om Q W0 (ja p D T gs) sl gs r t a:=by
 have haf:a<=D.f:=by have:=(Array.getElem?_eq_some_iff.1 H).1;rw[h.gsz] at this;omega
 have c:=h.wi.views.vw (a+1);have⟨vs',d⟩:=h.KX (v':=vs _) (T':=.leaf) (es:=#[]) H (j8 (r':=r) (g':={ g with status:=.blocked }) H) (by simp) rfl c (@Kept.refl (bI _) _ _ c) (@po.refl (bI _) _) i j;have hTT:T.set a .leaf=T:=by
  apply List.ext_getElem?
  grind
 rw[hTT] at d;refine⟨_,_,_,Rk,D,vs',T,runT_crowd_go H hst,d,.right _ (.right _ ?_)⟩;have k:gs.map (woken Tryz.prog g { g with status:=.blocked } r)=gs:=by
  have:woken Tryz.prog g { g with status:=.blocked } r=id:=by
   funext o;simp[woken]
  simp_all
 rw[k];exact BI H e rfl
end
section
variable{F:Xn Nat->cn}{p:cn}{om Rk:Nat->Prop}{Q:Xp->Prop}{W0:Xo}{D D':gm}{vs vs':Nat->Xo}{T:Xn Tr}{gs:Xv XF}{r r':Xo}{t:Trace}
variable{a op:Nat}{g:XF}{qt:XN}{s:Sem Next}{fin:Xp->XF}{K:Xp->Xo->Prop}{q q':Ps}{u:Xp}{es:Xv Ys}{sl:XB (Nat×Nat)}
def K0:Fp p r r.later:=
 ⟨rfl,rfl,rfl,⟨r.tick,rfl⟩,λ_ _ _ _=>rfl,λc e f h=>⟨c,h,rfl,λ_ _=>rfl⟩,λc e f h=>⟨c,h,rfl⟩,λo h H=>⟨o,h,H⟩⟩
def MI.Vd(h:MI F p om Rk Q W0 D vs T gs r t)(c:gs[a]?=some g)(d:np F p om Rk Q D a op g qt s fin K)(e:D.l[a]?=some q)(f:Yields qt s r u r.later #[])(H:AI p (D.upd a q' D.x D.bu)/\Wt p (D.upd a q' D.x D.bu)<Wt p D)
 (i:a=0\/(bQ q'↔bQ q)) (b:q.th.deaf=q'.th.deaf) (j:∀v,Nb (vs (a+1)) v q'->K u v):r7 F p om Q W0 (ja p D T gs) sl gs r t a:=
 h.ask (D':=D.upd a q' D.x D.bu) c d e f rfl rfl rfl rfl rfl H K0 h.wi.word h.wi.sema h.wi.wgb h.wi.chb i (by simp) b (.inr ⟨id,id⟩) (.inl rfl) j
variable {l:Xn Ps} {x bu:Nat}
def jX.Ve (h:jX l x bu):bu<=1:=by
 have⟨⟨W,S,n,H⟩,_⟩:=h;have⟨A,b,c,d,e,f,i⟩:=H;omega
variable {i:Nat}
def jX.Tl {q:Ps} {y:Nat} (h:jX l x bu) (H:l[i]?=some q) (b:q.th=.hand y):12<=x/\y<=x:=by
 refine⟨?_,h.2 i q y H b⟩;have⟨⟨W,S,n,c⟩,_⟩:=h;have d:=jW (f:=fH) H;simp[fH,b]at d;have⟨A,e,j,k,m,o,v⟩:=c;omega
def NW{d:Nat}:deafBehind d #[⟨.mark .disable,false,true⟩]=d+1:=rfl
def gP {c n:Nat} {d b:Th} {n':Nat} (h:∀s,d≠.hold s/\d≠.rel0 s) (h':∀s,b≠.hold s/\b≠.rel0 s):a=0\/(bQ ⟨i,c,n',b⟩↔bQ ⟨i,c,n,d⟩):=
 .inr ⟨λ⟨s,k⟩=>k.elim (λe=>XG e (h' s).1) λe=>XG e (h' s).2,λ⟨s,k⟩=>k.elim (λe=>XG e (h s).1) λe=>XG e (h s).2⟩
def np.nq(h:np F p om Rk Q D a op g qt s fin K)(H:op=2):nL g (fin u)=true:=by
 simp[nL,h.does.nq H,(h.does.fins u)]
variable {b:YO}
def oh (h:qi p (.cell b)):∀e∈(#[SM b,UQ b]:Xv Ys),r8 p a e:=by
 intro e H;simp at H;rcases H with rfl|rfl
 .exact xu h
 .exact C2 h
def tZ (h:qi p (.cell b)):∀e∈(#[SM b]:Xv Ys),r8 p a e:=by
 intro e H;simp at H;subst H;exact xu h
def lC{m:Mark}(h:∀b,m≠.release b)(c:(MemAct.ofEvent ⟨.mark m,false,true⟩).touch?=none):∀e∈(#[⟨.mark m,false,true⟩]:Xv Ys),r8 p a e:=by
 intro e H;simp at H;subst H;exact xv h c
def BJ:∀e∈(#[]:Xv Ys),r8 p a e:=by simp
def AI.NX(h:AI p D)(H:D.l[a]?=some q):(a=0/\q.i=p.n)\/(a≠0/\q.i=a-1/\q.i<p.n):=by
 have c:=h.ids a q H;by_cases d:a=0
 .grind
 .rw[Xx d]at c;have e:=(Xw.1 H).1;have f:=h.len;have j:=h.fn;omega
def MI.W3(h:MI F p om Rk Q W0 D vs T gs r t)(C:gs[a]?=some g)(hT:T[a]?=some .leaf)(A:np F p om Rk Q D a op g qt s fin K)(m:D.l[a]?=some q){rq:Rq}(G:rq.jj op qt s)(ho:jB p (aK om Rk (a+1)) rq (vs (a+1)) K)
 (hM:a=0->QZ F om Q .leaf g (vs (a+1))) (hW:a≠0->P9 F p (aK om Rk (a+1)) .leaf g (vs (a+1)))
 (hA:∀i c n,q=⟨i,c,n,.got1⟩->i<p.n->(∀v s hL,s.count i=c->p.LI s hL->rY (aK om Rk (a+1)) hL (vs (a+1)) v->v.os=ji (vs (a+1)).os ⟨i,c,n,.hold s⟩->K eI v)->Yields qt s r eI r #[⟨.mark (.acquire p.word),false,true⟩]->r7 F p om Q W0 (ja p D T gs) sl gs r t a)
 (hR:∀i c n s' Z bl,q=⟨i,c,n,.rel0 s'⟩->i<p.n->l6 (aK om Rk (a+1)) Z (p.LI (s'++[i])::cy bl) (vs (a+1))->iC bl->(∀v,(∃z,v.cell? p.word=some z)->v.os=ji (vs (a+1)).os ⟨i,c+1,n,.rel1⟩->l6 (aK om Rk (a+1)) { Z with os:=v.os } (cy bl) v->K eI v)->Yields qt s r eI r #[⟨.mark (.releaseMerge p.word),false,true⟩]->r7 F p om Q W0 (ja p D T gs) sl gs r t a) :
 r7 F p om Q W0 (ja p D T gs) sl gs r t a:=by
 have E:=(h.wi.gh a q m).1;have P:=h.ai.Xg;have M:=h.wi.word;have X:=h.wi.fz;have cS:=h.wi.sema;cases ho with
 | Kv o hc k=>
  cases E.symm.trans o;exact h.qQ C A m (G r) (h.ai.Kv m hc) (gP (by simp) (by simp)) (lC (by simp) rfl) NW λv hb=>k v (by
   have⟨c1,e1,f1,h1,h2⟩:=(h.wi.hidW (a+1)).1;exact⟨hole,by unfold World.cell?;rw[hb.heap,h1];simp[cn.word]at h2 |-;exact h2⟩) hb
 | EG o R S=>
  cases E.symm.trans o;have⟨Y,U⟩:=G r _ M X.1;by_cases O:D.x=0
  .have⟨N,B,H⟩:=h.ai.EG m O;exact h.Hs (x':=1) C A m (Y (by omega)) H (gP (by simp) (by simp)) (oh Mc) rfl λv=>R v N B
  .exact h.qQ C A m (U (by omega)) (h.ai.UZ m) (gP (by simp) (by simp)) (tZ Mc) rfl S
 | Qw o kk=>
  cases E.symm.trans o;have⟨N,B,H⟩:=h.ai.Qw m;refine h.qQ C A m (G r _ _ M) H (gP (by simp) (by simp)) BJ rfl λv=>kk v N D.x B P λV=>?_;subst V;exact h.ai.aw m (XD _)
 | Ul o kk=>
  cases E.symm.trans o;have⟨N,B,H⟩:=h.ai.Ul m;refine h.qQ C A m (G r _ _ M) H (gP (by simp) (by simp)) BJ rfl λv=>kk v N D.x B P λV=>?_;subst V;exact h.ai.aw m (XD _)
 | @tL _ _ i c n x st k y o O J R S=>
  cases E.symm.trans o;have⟨Y,U⟩:=G r _ M X.1;have hk:=h.ai.kle _ _ m;by_cases I:D.x=x
  .subst I;have⟨N,B,H⟩:=h.ai.tL m O.1;have e:y=((D.x+2:Nat):Int):=by omega
   rw[e]at Y;exact h.Hs (x':=D.x+2) C A m (Y rfl) H (gP (by simp) (by simp)) (oh Mc) rfl λv=>R v N B
  .have⟨N,B,H⟩:=h.ai.late m I k hk;exact h.qQ C A m (U (by omega)) H (gP (by simp) (by simp)) (tZ Mc) rfl λv=>S v N B
 | @EH _ _ i c n x aw st k y o O J R S=>
  cases E.symm.trans o;have⟨Y,U⟩:=G r _ M X.1;by_cases I:D.x=x
  .subst I;have V:aw=true->D.x / 2%2=1:=λe=>by subst e;exact h.ai.aw m (XD _)
   obtain⟨x',L⟩:∃x':Nat,(x':Int)=y:=by
    refine⟨y.toNat,?_⟩;cases aw
    .simp only[XM,XV]at J;omega
    .have:=V rfl;simp only[YB]at J;omega
   have⟨N,B,H⟩:=h.ai.EH (x':=x') m O (L.trans J);rw[<- L]at Y;exact h.Hs (x':=x') C A m (Y rfl) H (gP (by simp) (by simp)) (oh Mc) rfl λv=>R v N B
  .have⟨N,B,H⟩:=h.ai.late m I 5 (by omega);exact h.qQ C A m (U (by omega)) H (gP (by simp) (by simp)) (tZ Mc) rfl λv=>S v N B
 | @EI _ _ i c n x aw st k y o O af J R S=>
  cases E.symm.trans o;have⟨Y,U⟩:=G r _ M X.1;by_cases I:D.x=x
  .subst I;obtain⟨x',L⟩:∃x':Nat,(x':Int)=y:=by
    refine⟨y.toNat,?_⟩;split at J<;>split at J<;>omega
   have⟨N,B,H⟩:=h.ai.EI (x':=x') m O af (L.trans J);rw[<- L]at Y;exact h.Hs (x':=x') C A m (Y rfl) H (gP (by simp) (by simp)) (oh Mc) rfl λv=>R v N B
  .have⟨N,B,H⟩:=h.ai.late m I 5 (by omega);exact h.qQ C A m (U (by omega)) H (gP (by simp) (by simp)) (tZ Mc) rfl λv=>S v N B
 | Kw o k=>
  cases E.symm.trans o;have⟨y,J⟩:=G r;exact h.Vd C A m J (h.ai.Kw m) (gP (by simp) (by simp)) rfl λv=>k v y
 | @acq _ _ i c n j o k=>
  cases E.symm.trans o;have⟨U,Y⟩:=G r _ cS X.2;by_cases hz:D.bu=0
  .have⟨ag,he⟩:=U (by omega);refine h.block C hT A.does.run (A.does.blk r r ag he) (λaa=>.blk (hM aa) A.does.run A.does.offers (.inl ⟨j,by rw[E],hz⟩)) λaa=>⟨(A.w aa).1,?_⟩
   .have:(dN (vs (a+1))).th.deaf=1:=by rw[E];rfl
    rw[this];exact .blk (hW aa) A.does.run A.does.offers (by rw[E]) hz
  .have⟨N,B,H⟩:=h.ai.acq (sem':=D.bu-1) m (by omega);have e:((D.bu:Int)-1)=((D.bu-1:Nat):Int):=by omega
   have y2:=Y (by omega);rw[e]at y2;exact h.Tk (s':=D.bu-1) C A m y2 H (gP (by simp) (by simp)) (qP Ws) rfl (.inr λh=>by omega) λv=>k v N B
 | Kx o k=>
  cases E.symm.trans o;have⟨y,J⟩:=G r;exact h.Vd C A m J (h.ai.Kx m) (gP (by simp) (by simp)) rfl λv=>k v y
 | IS st o S R=>
  cases E.symm.trans o;by_cases O:D.x / 4%2=0
  .have⟨W,N,B,H⟩:=h.ai.IS st m O;exact h.qQ C A m (G r _ _ M) H (gP (by simp) (by simp)) BJ rfl λv=>S v N D.x B P O W
  .have⟨ac,W,H⟩:=h.ai.Wi m (by omega);exact h.qQ C A m (G r _ _ M) H (gP (by simp) (by simp)) BJ rfl λv=>R v D.x P ac W
 | @EJ _ _ i c n y d o hd k=>
  cases E.symm.trans o;have aq:=h.ai.mu.Tl m rfl;obtain⟨x',L⟩:∃x':Nat,(x':Int)=(D.x:Int)+d:=⟨((D.x:Int)+d).toNat,by omega⟩;have⟨N,B,H⟩:=h.ai.EJ m hd L;have e:IntKind.i32.wrap ((D.x:Int)+d)=(x':Int):=by rw[IntKind.wrap_i32];omega
  have Y:=G r _ M X.1;rw[e]at Y;exact h.Hs (x':=x') C A m Y H (gP (by simp) (by simp)) (oh Mc) rfl λv=>k v N x' B
 | en o k=>
  cases E.symm.trans o;exact h.qQ C A m (G r) (h.ai.en m) (gP (by simp) (by simp)) (lC (by simp) rfl) rfl k
 | Ma o hi k=>
  cases E.symm.trans o;exact hA _ _ _ rfl hi k (G r)
 | Ky o hi k=>
  cases E.symm.trans o;have ab:a=0:=by
   rcases h.ai.NX m with⟨h1,_⟩|⟨_,_,h1⟩
   .exact h1
   .simp only at h1;omega
  exact h.qQ C A m (G r) (h.ai.Ma m λh=>XG ab h) (.inl ab) (lC (by simp) rfl) rfl k
 | @Um _ _ i c n st o k=>
  cases E.symm.trans o;exact h.qQ C A m (G r _ _ M) (h.ai.Um m) (.inr ⟨λ_=>⟨st,.inl rfl⟩,λ_=>⟨st,.inr rfl⟩⟩) BJ rfl λv=>k v D.x
 | vu Z bl o hi al am k=>
  cases E.symm.trans o;exact hR _ _ _ _ Z bl rfl hi al am k (G r)
 | @Qx _ _ i c n st o hi k=>
  cases E.symm.trans o;have ab:a=0:=by
   rcases h.ai.NX m with⟨h1,_⟩|⟨_,_,h1⟩
   .exact h1
   .simp only at h1;omega
  subst ab;exact h.ask (D':=D.vu 0 ⟨i,c+1,n,.rel1⟩) C A m (G r) rfl rfl rfl rfl rfl (h.ai.vu m) (.refl r) M cS h.wi.wgb h.wi.chb (.inl rfl) (lC (by simp) rfl) rfl (.inr ⟨id,id⟩) (.inl rfl) k
 | Kz o k=>
  cases E.symm.trans o;exact h.qQ C A m (G r) (h.ai.Kz m) (gP (by simp) (by simp)) (lC (by simp) rfl) rfl k
 | EK o k=>
  cases E.symm.trans o;have⟨ac,W,N,B,H⟩:=h.ai.EK m;have e:IntKind.i32.wrap ((D.x:Int)+-1)=((D.x-1:Nat):Int):=by rw[IntKind.wrap_i32];omega
  have Y:=G r _ M X.1;rw[e]at Y;exact h.Hs (x':=D.x-1) C A m Y H (gP (by simp) (by simp)) (oh Mc) rfl λv=>k v N (D.x-1) B (by omega) W
 | @EL _ _ i c n x f y o O J R S=>
  cases E.symm.trans o;have⟨Y,U⟩:=G r _ M X.1;by_cases I:D.x=x
  .subst I;have⟨N,B,H⟩:=h.ai.EL m O;have e:y=((D.x-6:Nat):Int):=by omega
   rw[e]at Y;exact h.Hs (x':=D.x-6) C A m (Y rfl) H (gP (by simp) (by simp)) (oh Mc) rfl λv=>R v N B
  .have⟨N,B,H⟩:=h.ai.U0 m O I;exact h.qQ C A m (U (by omega)) H (gP (by simp) (by simp)) (tZ Mc) rfl λv=>S v N B
 | EM o k=>
  cases E.symm.trans o;have⟨N,B,H⟩:=h.ai.EM m;exact h.qQ C A m (G r _ _ M) H (gP (by simp) (by simp)) BJ rfl λv=>k v N D.x B P
 | EN o k=>
  cases E.symm.trans o;have⟨N,B,H⟩:=h.ai.EN m;have⟨h2,Y⟩:=G;have Y:=Y r _ cS X.2;have ao:=h.ai.mu.Ve;have e:IntKind.u32.wrap ((D.bu:Int)+1)=((D.bu+1:Nat):Int):=by rw[abh];omega
  rw[e]at Y;exact h.Tk (s':=D.bu+1) C A m Y H (gP (by simp) (by simp)) (qP Ws) rfl (.inl (A.nq h2)) λv=>k v N B
 | EO o J k=>
  cases E.symm.trans o;have⟨N,B,H⟩:=h.ai.EO m J;have⟨h2,Y⟩:=G;have Y:=Y r _ cS X.2;have ao:=h.ai.mu.Ve;have e:IntKind.u32.wrap ((D.bu:Int)+1)=((D.bu+1:Nat):Int):=by rw[abh];omega
  rw[e]at Y;exact h.Tk (s':=D.bu+1) C A m Y H (gP (by simp) (by simp)) (qP Ws) rfl (.inl (A.nq h2)) λv=>k v N B
 | Un o k=>
  cases E.symm.trans o;exact h.qQ C A m (G r) (h.ai.Un m) (gP (by simp) (by simp)) (lC (by simp) rfl) rfl k
 | SN o ap k=>
  cases E.symm.trans o;exact h.qQ C A m (G r) (h.ai.SN m ap) (gP (by simp) (by simp)) (lC (by simp) rfl) rfl k
