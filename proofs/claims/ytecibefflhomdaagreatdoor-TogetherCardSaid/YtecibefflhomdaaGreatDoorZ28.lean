/-
  Part 28: ; .
-/
import Derived.Test.YtecibefflhomdaaGreatDoorZ27
set_option maxHeartbeats 8000000
set_option maxRecDepth 100000
set_option linter.all false
namespace Go.Proofs.YtecibefflhomdaaGreatDoor
open Go Proofs.Tryz
section
open Go Go.Conc Go.ConcN Go.ConcM
open Go.ConcR (KK wgBlock WgAt stA smA rd wr Payload Aside2 DC0)
attribute [local instance] pay
structure Fx(p:cn):Prop where
 small:p.n<=10000
 lenM:p.n<p.len p.n
def W4(o:Nat->Prop)(v:Xo)(t:Trace)(n:Nat):Prop:=TI t 0 n (λk l=>k=0/\dY o v l) (λ_=>False) (oO o) (λ_=>False) ⟨0,0,none⟩
section
variable{F:Xn Nat->cn}{p:cn}{om Rk:Nat->Prop}{Q:Xp->Prop}{W0:Xo}{D D':gm}{vs vs':Nat->Xo}{T:Xn Tr}{gs gs':Xv XF}{r r' v:Xo}{t:Trace}
variable{g g':XF}{es:Xv Ys}{sl sl0:XB (Nat×Nat)}{op:Nat}{qt:XN}{s:Sem Next}{fin:Xp->XF}{K:Xp->Xo->Prop}{rq:Rq}
variable {v1:Xo}
def Q4 {v:Xo} (h:Ry v v1):dN v1=dN v:=vt h
def K4 {w v':Xo} {l:Xn ae} (h:l6 om w l v1) (H:v1.heap.size<=v'.heap.size) (m:∀k,k<v1.heap.size->v'.heap[k]?=v1.heap[k]?) (n:v'.tape=v1.tape) (o:v'.output=v1.output):l6 om { w with os:=v'.os } l v':=by
 obtain⟨a,b,c,d,j,e,f,S⟩:=h;exact @Sat.mk (bI om) _ _ _ rfl (by grind) (by grind) ⟨d.1,by grind⟩ ⟨j,λi x q=>by grind,f,S⟩
variable {O:Nat->Prop} {c:Xv Xp} {e:XO} {f:Nat×Nat}
def pN {b:YO} (h:r.heap[b.block]?=some (.cells c e f)) (a:b.off<c.size) (H:¬O b.block):pI (jo O r) b:=
 ⟨_,e,f,by rw[ib H,h];rfl,by grind⟩
def pO {k:Nat} (h:r.heap[k]?=some (.cells c e f)) (H:¬O k):tT (jo O r) k:=
 ⟨_,e,f,by rw[ib H,h];rfl,λi x a=>kp (o:=.cells c e f) rfl a⟩
def BN{P:Prop}{x y:XB Obj}{z:Obj}(h:Mb P x y)(a:x=some z)(b:Af z)(k:∀c f,z≠.cells c 133 f):y=some z:=by
 by_cases d:∃c e f,z=Obj.cells c e f
 .obtain⟨c,e,f,rfl⟩:=d;have⟨C,l,o,m⟩:=h.cells c e f a;rw[l];congr 2;apply Y9;intro i;rcases X8 i c.size with j|j
  .have H:=XL j;rw[m i _ H (.inr λn=>k c f (by rw[(b i _ H n).1])),H]
  grind
 .exact h.other z a (λc e f h=>d ⟨c,e,f,h⟩) λq=>C1 b (by grind)
def N6(p:cn)(n:Nat):gm:={ f:=0,l:=[⟨p.n,0,n,.ad0 0⟩],sg:=[9],s:=[],x:=0,bu:=0,st:=0,sm:=0,jn:=false,cl:=false }
variable {α:Type} {i:Nat}
def oq {a b:α} (h:[a][i]?=some b):i=0/\b=a:=by
 cases i with
 | zero=>simp at h;exact⟨rfl,h.symm⟩
 | succ i=>simp at h
def sS {a b:α} (h:[a][i+1]?=some b):False:=by grind
def Xj(a:Fx p):∃n,AI p (N6 p n):=by
 refine⟨l8 p (N6 p 0),⟨rfl,rfl,rfl,λi k h=>(sS h).elim,XR _,a.small,a.lenM,λi q h=>?_,λi q h=>?_,λi q h=>?_,?_,λi h=>(by cases h),λi q h=>(sS h).elim,λi q S h=>(sS h).elim,λi q h=>?_,λi q y h H=>?_,λq m h H=>?_,λq h=>?_,λi q h=>(sS h).elim,λq h=>?_,λi k h=>(sS h).elim⟩⟩
 .obtain⟨rfl,rfl⟩:=oq h;rfl
 .obtain⟨rfl,rfl⟩:=oq h;exact⟨by grind,λh=>(by cases h)⟩
 .obtain⟨rfl,rfl⟩:=oq h;exact XR _
 .refine⟨⟨0,0,0,⟨rfl,(by show(0:Nat)<=1;omega),by omega,by omega,λ_=>⟨rfl,rfl,rfl,rfl⟩,λh=>by omega,λ_ _ _ h=>by omega⟩⟩,λi s y h H=>?_⟩;obtain⟨rfl,rfl⟩:=oq h;cases H
 .obtain⟨rfl,rfl⟩:=oq h;exact aaI ((λn=>rfl) _)
 .obtain⟨rfl,rfl⟩:=oq h;cases H
 .obtain⟨_,rfl⟩:=oq h;cases H
 .obtain⟨_,rfl⟩:=oq h;exact⟨λ_=>⟨rfl,rfl,λh=>(by cases h),rfl,λh=>(by cases h)⟩,λh=>(by cases h)⟩
 .obtain⟨_,rfl⟩:=oq h;exact .opn rfl rfl rfl (by simp[N6,gm.na,jK,Th.Sg]) rfl rfl rfl λh=>rfl
def Vk(hP:∀x,Fx (F x))(hv:pH om v r)(hlt:∀k,om k->k<r.heap.size)(c6:g.status=.running)(hd:Does true op qt g s fin)(hr:rq.jj op qt s)(ho:M7 F om rq v K)(b7:∀u v',K u v'->@jM (fN F om) true (Fs om Q) (fin u) v')
 (eh:W4 om v t r.heap.size) (ei:Deaf t 0=0) (ek:OsLater W0.os r.os) (em:r.tape=W0.tape) (c7:r.output=W0.output) (b8:∀k,om k->r.heap[k]?=W0.heap[k]?) :
 ∃x Rk D vs T,MI F (F x) om Rk Q W0 D vs T #[g] r t:=by
 letI:Base:=bI om
 have⟨x,p,eq,bl,er,ts,tr,tm,u,th,a7,gd,eu,b9,bi,c8,ex,A⟩:=ho.ok;have ez:=a7▸hP x;refine⟨x,?_⟩;rw[a7];have ca:=bi
 have⟨_,_,_,d,hp,e,f,a1,b1,f1,e2,a8,ab,a2,b2,f2,e3,ac,af,a3,b3,f3,cb,a9,e4,a4,b4,f4,e5,ba,e6,Z⟩:=ca;have⟨c,c1,c2,c3,c4⟩:=c8 a3 e4;have⟨hR,r1,r2,r3⟩:=ex a4 e6;have ab:=ab;have af:=af;let Rk:Nat->Prop:=λk=>∃x,hR k=some x
 let O:Nat->Prop:=aK om Rk 0
 have hO:∀k,O k↔om k\/Rk k:=λk=>⟨λh=>h.imp id λh=>h.2,λh=>h.imp id λh=>⟨by omega,h⟩⟩;have⟨z1,z2,z3⟩:=jS hv;have c9:=Hp.le_trans cb (Hp.le_trans ac a8);have ag:=Hp.le_trans e5 (Hp.le_trans a9 (Hp.le_trans ac a8));have e7:=Hp.le_trans ba (Hp.le_trans a9 (Hp.le_trans ac a8));have e8:=Hp.le_trans e3 a8;have E:∀{k:Nat} {o:Obj},hp k=some (false,o)->¬om k:=λA ho=>by
  have⟨o,cc,_⟩:=(d.1 _).1 ho;have:=f.1 _ o ho cc;rw[A]at this;cases this
 have e9:∀{k:Nat} {o:Obj},hp k=some (false,o)->¬Rk k:=λA ⟨x,hx⟩=>by
  have m:=ag _ _ (r1 _ _ hx);rw[A]at m;have H:=(r2 _ _ hx).1;rw[<- Xt m]at H;cases H
 have nO:∀{k:Nat} {o:Obj},hp k=some (false,o)->¬O k:=λA ho=>((hO _).1 ho).elim (E A) (e9 A);have pw:=e2 _ _ ab;have pc:=e8 _ _ af;have pm:=c9 _ _ c1;have ai:=e _ _ pw;have P:=e _ _ pc;have U:=e _ _ pm;simp only at ai P U;have dc:=λy B=>e7 _ _ (@jV (bI om) _ _ Z y B);have aa:=(Xz.1 c3).1;have⟨cm,L,al,cd⟩:=(fP hv p.mu).cells _ _ _ U;have fb:=cd 0 _ c2 (.inr (by simp[hole]));have fd:=cd 1 _ c3 (.inr (by simp[hole]));have J:r.heap[p.wg]?=some (.cells #[.int .u64 0,.int .u32 0] 156 (0,0)):=by
  have⟨cw,q1,q2,q3⟩:=(fP hv p.wg).cells _ _ _ ai;rw[q1];congr 2;apply Y9;intro i;rcases(by omega:i=0\/i=1\/2<=i)with rfl|rfl|hi
  .exact q3 0 (.int .u64 0) rfl (.inr (by simp[hole]))
  .exact q3 1 (.int .u32 0) rfl (.inr (by simp[hole]))
  .rw[Ze (by rw[q2];simpa using hi),Ze (by simpa using hi)]
 have bm:=(fP hv p.ch).other _ P (by simp) (by rw[P];simp);have ff:p.mu≠p.wg:=λe=>by rw[e,pw]at pm;cases pm
 have fi:p.mu≠p.ch:=λe=>by rw[e,pc]at pm;cases pm
 have fk:p.wg≠p.ch:=λe=>by rw[e,pc]at pw;cases pw
 have⟨n,fm⟩:=Xj ez;let q0:Ps:=⟨p.n,0,n,.ad0 0⟩
 let am:Os:={ ji v.os q0 with sigPending:=x }
 let hm:Obj:=.cells ((c.setIfInBounds 0 hole).setIfInBounds 1 hole) 133 (0,0)
 let vm:Xo:={ v with heap:=v.heap.setIfInBounds p.mu hm }
 have V:vm.heap.size=r.heap.size:=by simp[vm,z1]
 have W:vm.heap[p.mu]?=some hm:=by simp[vm,kq U]
 have bq:∀k,k≠p.mu->vm.heap[k]?=v.heap[k]?:=λk A=>XJ (YP A);let S0:Nat->Prop:=λk=>(∃x,a3 k=some x)/\¬O k
 let v0:Xo:=gG O S0 vm r v.os
 let v1:Xo:=gG om (kP bl) v r am
 have X:S0 p.mu:=⟨⟨_,c1⟩,nO pm⟩;have ce:¬S0 p.wg:=λ⟨⟨y,B⟩,_⟩=>by
  have:=f1 _ _ _ ab (ac _ _ (cb _ _ B));rcases this.2 with h|⟨_,_,h⟩<;>simp at h
 have cf:¬S0 p.ch:=λ⟨⟨y,B⟩,_⟩=>by
  have:=f2 _ _ _ af (cb _ _ B);rcases this.2 with h|⟨_,_,h⟩<;>simp at h
 have bz:∀k,S0 k->kP bl k->False:=by
  rintro k ⟨⟨y,B⟩,_⟩ ⟨z,C,rfl⟩;have⟨H,h3⟩:=f3 _ _ _ B (ba _ _ (@jV (bI om) _ _ Z z C));rw[H]at h3;rcases h3 with h3|h3
  .cases h3
  .exact(eu z C).1 h3
 have fo:∀k,kP bl k->¬O k:=by
  rintro k ⟨z,C,rfl⟩;exact nO (dc z C)
 have ao:=bz _ X;have ap:¬kP bl p.wg:=λ⟨z,C,he⟩=>by
  have m:=ac _ _ (a9 _ _ (ba _ _ (@jV (bI om) _ _ Z z C)));rw[he]at m;have:=f1 _ _ _ ab m;rcases this.2 with h|⟨_,_,h⟩<;>simp at h
 have cg:¬kP bl p.ch:=λ⟨z,C,he⟩=>by
  have m:=a9 _ _ (ba _ _ (@jV (bI om) _ _ Z z C));rw[he]at m;have:=f2 _ _ _ af m;rcases this.2 with h|⟨_,_,h⟩<;>simp at h
 have fs:pH O v0 r:=by
  refine yU lB.symm z2 z3 λk=>?_;by_cases hS:S0 k
  .rw[(dF V hS)];by_cases dd:k=p.mu
   .subst dd;rw[W,L];refine⟨λc' e' f' h'=>?_,λ_ h'=>(by simp[hm]at h'),λo h' hn _=>XG (Xt h').symm (hn _ _ _)⟩;have h':=Xt h';simp only[hm,Obj.cells.injEq]at h';obtain⟨rfl,rfl,rfl⟩:=h';refine⟨cm,rfl,by simp[al],λi z C hs=>?_⟩;have hs:=hs.resolve_left hS.2;rcases(by omega:i=0\/i=1\/2<=i)with rfl|rfl|hi
    .rw[XJ (by omega),YE (by omega)]at C;cases C;exact XG rfl hs
    .rw[YE (by simp;omega)]at C;cases C;exact XG rfl hs
    .rw[XJ (by omega),XJ (by omega)]at C;exact cd i z C (.inr hs)
   .rw[bq k dd];exact(fP hv k).conv ⟨λh=>XG ((hO k).2 (.inl h)) hS.2,λh=>XG h hS.2⟩
  .rw[(bj hS)];exact yV
 have dl:pH om v1 r:=qO hv;have aq:=λk A=>((hO k).1 A).elim (hlt k) λ⟨y,B⟩=>by rw[z1];exact kq (e _ _ (ag _ _ (r1 _ _ B)))
 have b0:∀k,O k->¬om k->ml v1 k:=λk m H=>by
  exact kO (bj λh=>fo k h m) (jr H (aq k m))
 let vs:Nat->Xo:=λk=>if k=0 then v0 else if k=1 then v1 else jo O r
 have e0:vs 0=v0:=rfl;have e1:vs 1=v1:=rfl;have eo:∀k,k≠0->k≠1->vs k=jo O r:=λk m H=>by show(if _ then _ else _)=_;rw[Xx m,Xx H]
 have ar:Sep O v0 om v1:=.of λb=>by
  by_cases hb:S0 b
  .have hx:v1.heap[b]?=(jo om r).heap[b]?:=bj λh=>bz b hb h;rw[hx];exact((ic (o2:=O) (r:=r) (w:=v0) aq λk m H=>XG ((hO k).2 (.inl m)) H).at b).symm
  .have hx:v0.heap[b]?=(jo O r).heap[b]?:=bj hb;rw[hx];exact(ic (o1:=O) (r:=r) (w:=v1) hlt b0).at b
 have av:=ic (o1:=O) (o2:=O) (r:=r) (w:=v0) aq λk m H=>XG m H;have a0:=ic (o1:=O) (o2:=om) (r:=r) (w:=v1) hlt b0;have ci:=ic (o1:=O) (o2:=O) (r:=r) (w:=jo O r) aq λk m H=>XG m H;have M:∀j,j≠1->aK om Rk j=O:=λj hj=>ua hj;have bc:mZ (aK om Rk) vs r:=by
  refine⟨λj=>?_,λj k A=>?_,λj k ck=>?_⟩
  .by_cases q:j=1
   .subst q;rw[gO];exact dl
   .rw[M j q];by_cases N:j=0
    .subst N;exact fs
    .rw[eo j N q];exact xq O r
  .by_cases q:j=1
   .subst q;rw[gO]at A;exact hlt k A
   .rw[M j q]at A;exact aq k A
  .by_cases q:j=1
   .subst q;rw[gO,M k (YP ck),e1];by_cases G:k=0
    .subst G;exact ar.symm
    .rw[eo k G (YP ck)];exact a0.symm
   .rw[M j q];by_cases I:k=1
    .subst I;rw[gO,e1];by_cases N:j=0
     .subst N;exact ar
     .rw[eo j N q];exact a0
    .rw[M k I];by_cases N:j=0
     .subst N;rw[eo k (YP ck) I,e0];exact av.symm
     .rw[eo j N q];by_cases G:k=0
      .subst G;rw[e0];exact av
      .rw[eo k G I];exact ci
 have ds:∀(S:Nat->Prop) (cp:Os),¬S p.mu->pI (gG om S v r cp) p.word/\pI (gG om S v r cp) p.sema:=λS cp hS=>
  ⟨et (pN (O:=om) (b:=p.word) L (by rw[al];exact abP abu aa) (E pm)) (bj hS),et (pN (O:=om) (b:=p.sema) L (by rw[al];exact aa) (E pm)) (bj hS)⟩
 have b5:dN v1=q0:=by
  show dN { v with heap:=_,os:=am }=q0;simp[dN,am,ji,Ps.code,Th.tK,q0]
 have fv:WI F p om Rk (N6 p n) vs r:=by
  refine⟨bc,λj y B=>?_,λk A b hb fz=>?_,λk=>?_,λk=>?_,λj k A=>?_,⟨ff,fi,fk⟩,?_,?_,?_,J,⟨ts,tr,tm,bm⟩,λ_ _=>⟨CC p a3 c (0,0),c4,λb y B=>?_⟩,λhj=>?_,λ_=>⟨hR,r3,λb y B=>?_,λb=>Iff.rfl⟩,λhj=>by cases hj⟩
  .obtain⟨rfl,rfl⟩:=oq B;exact⟨b5,a7⟩
  .have A:=A;rw[M k (by omega)]at hb;rw[eo k (by omega) (by omega)];exact jr hb fz
  .by_cases G:k=0
   .subst G;have dy:v0.heap[p.mu]?=some hm:=(dF V X).trans W;exact⟨⟨_,_,_,dy,by rw[show p.word.off=0 from rfl,XJ (by omega),YE (by omega)]⟩,⟨_,_,_,dy,by rw[show p.sema.off=1 from rfl,YE (by simp;omega)]⟩⟩
   .by_cases I:k=1
    .subst I;exact ds _ _ ao
    .rw[eo k G I];exact⟨pN (O:=O) L (by rw[al];exact abP abu aa) (nO pm),pN (O:=O) (b:=p.sema) L (by rw[al];exact aa) (nO pm)⟩
  .have cq:∀(O':Nat->Prop),¬O' p.ch->(jo O' r).heap[p.ch]?=some (.coro none):=λO' h=>by rw[ib h,bm];rfl
   by_cases G:k=0
   .subst G;exact⟨jF (pO J (nO pw)) (bj ce),(bj cf).trans (cq O (nO pc))⟩
   .by_cases I:k=1
    .subst I;exact⟨jF (pO J (E pw)) (bj ap),(bj cg).trans (cq om (E pc))⟩
    .rw[eo k G I];exact⟨pO J (nO pw),cq O (nO pc)⟩
  .have cr:O k:=by
    by_cases q:j=1
    .subst q;rw[gO]at A;exact(hO k).2 (.inl A)
    .rw[M j q]at A;exact A
   exact⟨λe=>nO pm (e▸cr),λe=>nO pw (e▸cr),λe=>nO pc (e▸cr)⟩
  .rw[World.cell?,show p.word.block=p.mu from rfl,L];simp only[cn.word,aaV,XM,XV];exact fb
  .rw[World.cell?,show p.sema.block=p.mu from rfl,L];simp only[cn.sema,aaV,XM,XV];exact fd
  .unfold World.frozen?;rw[show p.word.block=p.mu from rfl,show p.sema.block=p.mu from rfl,L];exact⟨rfl,rfl⟩
  .rw[M 0 (by omega),e0];by_cases ct:b=p.mu
   .subst ct;have:y=(false,hm):=by
     have B:(if p.mu=p.mu then some (false,hm)else a3 p.mu)=some y:=B;rw[XE rfl]at B;exact(Xt B).symm
    subst this;refine⟨(dF V X).trans W,λh=>XG h (nO pm),λ_ i z C hh=>⟨rfl,YQ λhi=>?_⟩⟩;have C:=C;rw[XJ (by omega),XJ (by omega)]at C;exact hi (f.2 _ _ pm (E pm) i z C hh).2
   .have ea:a3 b=some y:=by
     have B:(if b=p.mu then some (false,hm)else a3 b)=some y:=B;rw[Xx ct]at B;exact B
    have a5:=c9 _ _ ea;have bd:=e _ _ a5;refine⟨?_,λho=>?_,λho=>f.2 _ _ a5 λh=>ho ((hO b).2 (.inl h))⟩
    .by_cases bf:O b
     .rw[(bj λh=>h.2 bf),oN bf];rcases(hO b).1 bf with H|⟨y2,H⟩
      .rw[<- fS hv H (kq bd)];exact bd
      .have h3:=ag _ _ (r1 _ _ H);rw[a5]at h3;cases h3;have⟨_,gb,ec⟩:=r2 _ _ H;exact BN (fP hv b) bd gb ec
     .rw[(dF V ⟨⟨_,ea⟩,bf⟩),bq b ct];exact bd
    .rcases(hO b).1 ho with H|⟨y2,H⟩
     .have⟨o,cc,_⟩:=(d.1 _).1 H;have:=f.1 _ o H cc;rw[a5]at this;cases this;rfl
     .have h3:=ag _ _ (r1 _ _ H);rw[a5]at h3;cases h3;exact(r2 _ _ H).1
  .rcases hj with hj|⟨i,y,B,_⟩
   .cases hj
   .exact(sS B).elim
  .have⟨q1,q2,q3⟩:=r2 b y B;exact⟨q1,BN (fP hv b) (e _ _ (ag _ _ (r1 _ _ B))) q2 q3,q2⟩
 have a6:p.Mem v1:=⟨oT (ds (kP bl) am ao).1 rfl,yY dl J (jF (pO J (E pw)) (bj ap))⟩;have cv:l6 om { eq with os:=am } (cy bl) v1:=yX (l:=[ob false p.wg (.cells #[.int .u64 0,.int .u32 0] 156 (0,0)),ob false p.ch (.chan 0 #[] false ts tr tm),er,p.R]) hv bi λy B=>⟨y,B,rfl⟩;have b6:∀Y v' c0,Ry v1 Y->Nb Y v' ⟨p.n,0,n,c0⟩->c0=th->K u v':=λY v' c0 m H h3=>by
  subst h3;refine A v' n ?_ (by rw[H.os,m.os];rfl) ?_
  .have mv:∀(b:YO),(∃z,v1.cell? b=some z)->∃z,v'.cell? b=some z:=λb ⟨z,C⟩=>by
    refine⟨z,?_⟩;unfold World.cell? at C |-;rw[H.heap];have hlt:b.block<v1.heap.size:=by
     cases hh:v1.heap[b.block]? with
     | none=>rw[hh]at C;cases C
     | some o=>exact kq hh
    rw[m.heap _ hlt];exact C
   exact⟨mv _ a6.1,mv _ a6.2.1,mv _ a6.2.2⟩
  .have:=K4 (v':=v') cv (by rw[H.heap];exact m.size) (λk A=>by rw[H.heap];exact m.heap k A) (H.tape.trans m.tape) (H.out.trans m.out);exact this
 have c5:QZ F om Q .leaf g v1:=by
  refine .inr ⟨op,qt,s,fin,K,hd,λY m=>⟨rq,hr,.inr (.inl ?_)⟩,b7⟩;have gc:F Y.os.sigPending=p:=by rw[m.os];exact a7
  have ed:=(Q4 m).trans b5;rw[gc];rcases b9 with⟨rfl,rfl,rfl,hn⟩|⟨hn,rfl,a,rfl,ha⟩
  .exact .Kv ed hn λv' _ H=>b6 Y v' _ m H rfl
  .exact .SO ed hn.symm ha λv' H=>b6 Y v' _ m H rfl
 refine⟨Rk,N6 p n,vs,[.leaf],fm,fv,?_,λi k h=>(sS h).elim,λh=>(by cases h),rfl,rfl,⟨g,.leaf,q0,rfl,rfl,rfl,ei,.go c5 c6⟩,λi hi=>XG hi (Zt _),ek,em,c7,b8⟩;exact TI.lone eh λk l hl=>Nat.le_zero.1 hl.1
end
section
variable{F:Xn Nat->cn}{p:cn}{om Rk:Nat->Prop}{Q:Xp->Prop}{W0:Xo}{D D':gm}{vs vs':Nat->Xo}{T:Xn Tr}{gs gs':Xv XF}{r r' v:Xo}{t:Trace}
variable{g g':XF}{es:Xv Ys}{sl sl0:XB (Nat×Nat)}{op:Nat}{qt:XN}{s:Sem Next}{fin:Xp->XF}{K:Xp->Xo->Prop}{rq:Rq}
def Ht{old:Nat->Prop}(h:jB p old rq v K\/gJ p old rq v K\/ER p rq v K):(dN v).th≠.pre:=λf=>by
 have k:∀{j c n:Nat} {d:Th},dN v=⟨j,c,n,d⟩->d=.pre:=λe=>by grind
 rcases h with a|a|a
 .cases a with
  | Kv H=>cases k H
  | EG H=>cases k H
  | Qw H=>cases k H
  | Ul H=>cases k H
  | tL H=>cases k H
  | EH H=>cases k H
  | EI H=>cases k H
  | Kw H=>cases k H
  | acq H=>cases k H
  | Kx H=>cases k H
  | IS _ H=>cases k H
  | EJ H=>cases k H
  | en H=>cases k H
  | Ma H=>cases k H
  | Ky H=>cases k H
  | Um H=>cases k H
  | vu _ _ H=>cases k H
  | Qx H=>cases k H
  | Kz H=>cases k H
  | EK H=>cases k H
  | EL H=>cases k H
  | EM H=>cases k H
  | EN H=>cases k H
  | EO H=>cases k H
  | Un H=>cases k H
  | SN H=>cases k H
 .cases a with
  | Kv H=>cases k H
  | add H=>cases k H
  | rd H=>cases k H
  | en H b=>have:=k H;subst this;rcases b with h|h<;>cases h
  | fork _ _ _ H=>cases k H
  | SO H=>cases k H
  | close H=>cases k H
  | M6 H=>cases k H
  | IS H=>cases k H
  | tL H=>cases k H
  | wr H=>cases k H
  | acq H=>cases k H
  | UR H=>cases k H
  | Uo H b=>have:=k H;subst this;rcases b with h|h<;>cases h
  | join H=>cases k H
 .cases a with
  | recv H=>cases k H
structure L0(F:Xn Nat->cn)(om:Nat->Prop)(Q:Xp->Prop)(W0:Xo)(T0:Tr)(g:XF)(r:Xo)(t:Trace):Prop where
 go:∃v,pH om v r/\QZ F om Q T0 g v/\(dN v).th=.pre/\W4 om v t r.heap.size
 run:g.status=.running
 lt:∀k,om k->k<r.heap.size
 deaf:Deaf t 0=0
 os:OsLater W0.os r.os
 tape:r.tape=W0.tape
 out:r.output=W0.output
 keep:∀k,om k->r.heap[k]?=W0.heap[k]?
def Xk(hv:pH om v r)(hlt:∀k,om k->k<r.heap.size):Dj r.heap.size (λk l=>k=0/\dY om v l) (λ_=>False) (oO om) (λ_=>False):=by
 have H:∀l,oO om l->om (j7 l):=λl a=>by cases l<;>first|exact a|exact a.elim
 exact⟨λk d l h b=>h.1.trans b.1.symm,λ_ _ _ h=>h,λk l h c=>h.2.1 (H l c),λ_ _ _ h=>h,λ_ h=>h.elim,λ_ h=>h.elim,λ_ _ h=>h,λk l h=>by rw[(jS hv).1];exact h.2.2.lt,λ_ h=>h.elim,λl h=>hlt _ (H l h),λ_ h=>h.elim⟩
def L0.step{f:Xo->Tr}(h:L0 F om Q W0 (.node f) g r t):∃g' r' S o R,stepT prog (crowd #[g] r sl)=(.next (crowd #[g'] r' S),o)/\Tr.Lt R (.node f)/\L0 F om Q W0 R g' r' (t++o):=by
 have⟨v,u,hg,b,z⟩:=h.go;have⟨i,x,d,S,U,V,H⟩:=crowd_pick (P:=prog) (gs:=#[g]) (w:=r) (sl:=sl) (λy W tm=>by simp at W;subst W;rw[h.run];simp) ⟨0,g,rfl,h.run⟩;have hi:i=0:=by
  grind
 subst hi;obtain rfl:=by simpa using U.symm
 have A:Ry v { v with drawn:=d }:=⟨by grind,λ_ _=>rfl,rfl,rfl,rfl⟩;have⟨_,hn⟩:=hg;have⟨g',v',C,c⟩:=hn _ A;have⟨es,X,e2,e3⟩:=nG.conv (B:=fN F om) (B':=bI om) rfl C;have⟨r',E,j,G,I⟩:=e3 _ (NP u);have m:=runT_crowd_go (sl:=S) U E;have J:(#[x].map (woken prog x g' r')).setIfInBounds 0 g'=#[g']:=by simp
 rw[J]at m;have L:∃(Y:r'.tape=r.tape) (Z:r'.os=r.os) (k3:r'.output=r.output) (M:r.heap.size<=r'.heap.size),∀k,om k->r'.heap[k]?=r.heap[k]?:=by
  obtain⟨q1,q2,q3,q4,q5,_⟩:=id G;exact⟨q1,q2,q3,q4,q5⟩
 have⟨Y,Z,k3,M,k5⟩:=L;refine⟨g',r',S,_,f { v with drawn:=d },H.trans m,⟨f,_,rfl,rfl⟩,⟨v',j,c,by rw[(C0 e2)];exact b,?_⟩,C4 (λ_ _ h=>h.run) c,λk q=>YT (h.lt k q) M,by rw[Deaf_own,vK λe he=>(X e he).1];exact h.deaf,by rw[Z];exact h.os,Y.trans h.tape,k3.trans h.out,λk q=>(k5 k q).trans (h.keep k q)⟩;have N:=(jS u).1.symm;have n:∀op∈MemOp.ofEvents 0 x.frame.fn x.frame.place es,P8 r.heap.size r'.heap.size (λk l=>k=0/\dY om v l) (oO om) (λ_=>False) 0 op:=by
  have:=yQ (fn:=x.frame.fn) (pos:=x.frame.place) (See:=λk l=>k=0/\dY om v l) (Sh:=λ_=>False) (v':=v') X (λl a=>⟨rfl,a⟩) λl a=>a;rw[N,(jS j).1.symm]at this;omega
 exact TI.app (Xk u h.lt) z (XD _) M n (See':=λk l=>k=0/\dY om v' l) (λk l O a=>XG a.1 O) (λl a=>by
  rcases BE I a.2 with h3|h3
  .exact .inl ⟨rfl,h3⟩
  .exact .inr (by grind))
def L0.set(f:∀x,Fx (F x))(h:L0 F om Q W0 .leaf g r t):∃x Rk D vs T,MI F (F x) om Rk Q W0 D vs T #[g] r t:=by
 have⟨v,i,j,H,e⟩:=h.go;rcases j with b|⟨op,qt,s,fin,K,k,d,c⟩
 .have:=(b _ (lI _)).at_
  grind
 .have⟨rq,l,a⟩:=d _ (lI _);rcases a with a|a|a|a
  .exact XG H (Ht (.inl a))
  .exact XG H (Ht (.inr (.inl a)))
  .exact XG H (Ht (old:=om) (.inr (.inr a)))
  .exact Vk f i h.lt h.run k l a c e h.deaf h.os h.tape h.out h.keep
abbrev Wv:=Nat×Mu
abbrev N7:Wv->Wv->Prop:=Prod.Lex (· < ·) Hr
def N7.wf:WellFounded N7:=(Prod.lex Nat.lt_wfRel ⟨_,Hr.wf⟩).wf
def Q5(u:∀x,Fx (F x))(hch:∀x,xz F om W0 (F x)){v:Xo}(hv:pH om v W0)(hlt:∀k,om k->k<W0.heap.size)(hpre:(dN v).th=.pre)(hrun:g.status=.running)(y:@jM (fN F om) true (Fs om Q) g v) :
 ∃n last o W t',runNT prog (n+1) (solo g W0) #[]=(.ended o W,t')/\runN prog n (solo g W0)=.next last/\Go.step prog last=.ended o W/\Conc.Good prog (BM Q W0 om) last o W t':=by
 have⟨a,e⟩:=@jM.tree (fN F om) _ _ _ _ y;let Inv:Wv->Machine->Trace->Prop:=λμ m t=>(∃g r sl a,m=crowd #[g] r sl/\μ=(1,0,[a],0)/\L0 F om Q W0 a g r t)\/∃x Rk D vs T gs r sl,m=crowd gs r sl/\μ=(0,ja (F x) D T gs)/\MI F (F x) om Rk Q W0 D vs T gs r t
 refine run_of_inv N7.wf Inv (Conc.Good prog (BM Q W0 om)) ?_ (1,0,[a],0) _ _ (.inl ⟨g,W0,none,a,solo_eq_crowd g W0,rfl,⟨v,hv,e,hpre,?_⟩,hrun,hlt,rfl,.refl _,rfl,rfl,λ_ _=>rfl⟩)
 .rintro μ m t (⟨g,r,sl,a,rfl,rfl,h⟩|⟨x,Rk,D,vs,T,gs,r,sl,rfl,rfl,h⟩)
  .cases a with
   | node f=>
    have⟨g',r',S,ops,j,c,d,q⟩:=h.step (sl:=sl);exact .inr ⟨_,ops,_,c,.right _ (.right _ (.left _ _ (.here d))),.inl ⟨g',r',S,j,rfl,rfl,q⟩⟩
   | leaf=>
    have⟨x,Rk,D,vs,T,z⟩:=h.set u;rcases z.step (hch x)with⟨o,w,ops,c,d⟩|⟨gs',r',S,ops,Rk',D',vs',j,c,d,q⟩
    .exact .inl ⟨o,w,ops,c,d⟩
    grind
  .rcases h.step (hch x)with⟨o,w,ops,c,d⟩|⟨gs',r',S,ops,Rk',D',vs',j,c,d,q⟩
   .exact .inl ⟨o,w,ops,c,d⟩
   grind
 .exact⟨λk l _ i x H=>by simp[touchAt,Trace.act?]at H,λl h=>h.elim,λi x H=>by simp[touchAt,Trace.act?]at H,λi op x H=>by simp,λi b h=>by simp[Trace.act?]at h,λsaid=>noRace_nil said,λi op H=>by simp at H,λi x H=>by simp[touchAt,Trace.act?]at H⟩
