/-
  Part 26: ; ; .
-/
import Derived.Test.YtecibefflhomdaaGreatDoorZ25
set_option maxHeartbeats 8000000
set_option maxRecDepth 100000
set_option linter.all false
namespace Go.Proofs.YtecibefflhomdaaGreatDoor
open Go Proofs.Tryz
section
open Go Go.Conc Go.ConcN Go.ConcM
noncomputable def pM(d:Deferred):XF:={ frame:={ (default:Y5)with fn:=prog.funcs.size,defers:=[d],mode:=.panicking [goexitEntry] },callers:=[],status:=.running,dying:=none }
section
variable{F:Xn Nat->cn}{p:cn}{om Rk:Nat->Prop}{Q:Xp->Prop}{W0:Xo}{D D':gm}{vs vs':Nat->Xo}{T:Xn Tr}{gs gs':Xv XF}{r r':Xo}{t u:Trace}
variable{op:Nat}{g g':XF}{qt:XN}{s:Sem Next}{fin:Xp->XF}{K:Xp->Xo->Prop}{q q':Ps}{es:Xv Ys}{sl:XB (Nat×Nat)}{wk:XN}{T':Tr}
variable {O:Nat->Prop} {W0':Xo} {bl:Xn (Nat×Obj)}
def NZ {v:Xo} {l:Xn ae} (h:l6 O W0' (l++cy bl) v):∀x∈bl,¬O x.1/\v.heap[x.1]?=some x.2/\Af x.2:=by
 letI:Base:=bI O
 have⟨_,_,_,d,j,e,f,r'⟩:=h;have⟨k,m,n,w,L,_,R⟩:=@dV _ _ _ _ r';intro x i;have a:=L _ _ (jV R x i);have b:¬O x.1:=λc=>by
  have⟨o,H,_⟩:=(d.1 x.1).1 c;have:=f.1 x.1 o c H
  grind
 exact⟨b,e _ _ a,f.2 _ _ a b⟩
def N0 (H:iC bl) {x:Nat×Obj} (b:x∈bl) (d:Af x.2):¬KY (some x.2):=λh=>by
 rcases NU h d with⟨e,f,a⟩|⟨c,f,a⟩
 .exact(H x b).1 ⟨e,f,a⟩
 .exact(H x b).2 c f a
def Q1(h:WI F p om Rk D vs r){k:Nat}(b:¬om k)(H:(vs 1).heap[k]?=none\/¬KY (vs 1).heap[k]?):¬Rk k:=λc=>by
 have a:aK om Rk 0 k:=.inr ⟨by omega,c⟩;rcases H with H|H
 .have:=h.views.lt 0 k a;rw[<- h.views.size 1]at this
  grind
 .exact H ((h.views.sep 1 0 (by omega)).right k a (by rw[gO];exact b))
variable {give:Xn (Nat×Obj)}
open Classical in
def K2 {hR:Hp} {PR:ae} {os':Os} (hO:∀k,O k↔om k\/Rk k) (hsat:l6 om W0' (cy give++cy bl) (vs 1)) (hv:pH om (vs 1) r) (hlt:∀k,O k->k<r.heap.size) (hS:∀k,kP give k->¬O k) (h1:PR hR) (h2:∀i x,hR i=some x->x.1=true/\r.heap[i]?=some x.2/\Af x.2) (h3:∀i,Rk i↔∃x,hR i=some x):
 ∃Wc:Xo,l6 O Wc (PR::cy give) (gG O (kP give) (vs 1) r os')/\∀k,O k->Wc.heap[k]?=r.heap[k]?:=by
 letI:Base:=bI om
 obtain⟨_,_,_,d,hp,e,f,r'⟩:=hsat
 obtain⟨g1,g2,ff,l1,l2,ra,_⟩:=@dV (bI om) _ _ _ r';obtain⟨v1,v2,v3⟩:=jS hv;let Wc:Xo:={ gG O (kP give) (vs 1) r os' with heap:=r.heap.mapIdx λk o=>if O k then o else .coro none }
 have wat:∀i,Wc.heap[i]?=(r.heap[i]?).map λo=>if O i then o else .coro none:=λi=>by simp[Wc]
 have oldc:∀i,O i->∃o,r.heap[i]?=some o/\True:=λi ho=>by
  rcases(hO i).1 ho with h|h
  .obtain⟨o,a1,a2⟩:=(d.1 i).1 h;have a3:=e i _ (f.1 i o h a1);rw[fS hv h (by rw[<- v1];exact hlt i ho)]at a3;exact⟨o,a3,a2⟩
  .obtain⟨x,hx⟩:=(h3 i).1 h;obtain⟨_,a2,a3⟩:=h2 i x hx;exact⟨x.2,a2,Xr⟩
 let hc:Hp:=λi=>if O i then(r.heap[i]?).map λo=>(true,o)else if kP give i then hp i else none
 have cO:∀{i},O i->hc i=(r.heap[i]?).map λo=>(true,o):=λho=>XE ho;have cG:∀{i},¬O i->kP give i->hc i=hp i:=λho hg=>by show(if _ then _ else _)=_;rw[Xx ho,XE hg]
 have r3:=rA (P:=kP give) ra λx hx=>⟨x,hx,rfl⟩;refine⟨Wc,?_,λk hk=>by rw[wat];cases r.heap[k]?<;>simp[hk]⟩;refine @Sat.mk (bI O) _ _ _ rfl rfl rfl ⟨λi=>⟨λho=>?_,λ⟨o,a1,a2⟩=>?_⟩,?_⟩ ⟨hc,λi x hx=>?_,⟨λi o ho hz=>?_,λi x hx ho=>?_⟩,hR,g1.trim (kP give),λi x y hx hy=>?_,λi x hx=>?_,λi x hx=>?_,h1,?_⟩
 .obtain⟨o,a1,a2⟩:=oldc i ho;have ho:O i:=ho;exact⟨o,by rw[wat,a1];simp[ho],a2⟩
 .rw[wat]at a1;obtain⟨z,_,rfl⟩:=Yw.1 a1;by_cases ho:O i
  .exact ho
  .rw[Xx ho]at a2;exact XG rfl a2
 .rw[lB];simp[Wc]
 .by_cases ho:O i
  .rw[cO ho]at hx;obtain⟨z,a1,rfl⟩:=Yw.1 hx;rw[bj λh=>hS i h ho,oN ho];exact a1
  .have hx':(if O i then(r.heap[i]?).map λo=>(true,o)else if kP give i then hp i else none)=some x:=hx;rw[Xx ho]at hx';split at hx'
   .rename_i hg;rw[dF v1.symm hg];exact e i x hx'
   .cases hx'
 .have ho:O i:=ho;rw[wat]at hz;rw[cO ho];obtain⟨z,a1,a2⟩:=Yw.1 hz;rw[XE ho]at a2;rw[a1,<- a2];rfl
 .have ho:¬O i:=ho;have hx':(if O i then(r.heap[i]?).map λo=>(true,o)else if kP give i then hp i else none)=some x:=hx;rw[Xx ho]at hx';split at hx'
  .exact f.2 i x hx' λh=>ho ((hO i).2 (.inl h))
  .cases hx'
 .exfalso;have hg:kP give i:=by
   unfold Hp.trim at hy;split at hy
   .assumption
   .cases hy
  exact hS i hg ((hO i).2 (.inr ((h3 i).2 ⟨x,hx⟩)))
 .have ho:O i:=(hO i).2 (.inr ((h3 i).2 ⟨x,hx⟩));obtain⟨a1,a2,_⟩:=h2 i x hx;rw[cO ho,a2];obtain⟨x1,x2⟩:=x;simp only at a1;subst a1;rfl
 .have hg:kP give i:=by
   unfold Hp.trim at hx;split at hx
   .assumption
   .cases hx
  rw[cG (hS i hg) hg];exact l1 i x (Hp.nH _ _ i x hx)
 .exact r3
def N3(om:Nat->Prop)(W:Xo)(p:cn)(w:Xo):Prop:=(∀k,om k->w.heap[k]?=W.heap[k]?)/\∃h,p.R h/\∀i x,h i=some x->x.1=true/\w.heap[i]?=some x.2
def MI.fork {c n:Nat} {d:Deferred} (h:MI F p om Rk Q W0 D vs T gs r t) (ha:gs[0]?=some g) (hs:np F p om Rk Q D 0 op g qt s fin K) (hq:D.l[0]?=some ⟨p.n,c,n,.ad4⟩) (hc:c<p.n) (hsat:l6 om W0' (cy give++cy bl) (vs 1)) (hbl:iC give/\iC bl) (hgo:p.go c give d) (hK:∀v',p.Mem v'->v'.os=ji (vs 1).os ⟨p.n,c+1,n,.ad0 0⟩->l6 om { W0' with os:=v'.os } (cy bl) v'->K undef v') (hr:(Rq.fork d).jj op qt s) (hgoI:∀(old:Nat->Prop) (W1 v:Xo) (n':Nat),N3 om W0 p W1->l6 old W1 (p.R::cy give) v->dN v=⟨c,0,n',.new⟩->F v.os.sigPending=p->(∃z,v.cell? p.word=some z)->@jM (fN F old) false (BG p old) (pM d) v):r7 F p om Q W0 (ja p D T gs) sl gs r t 0:=by
 have hjn:=h.ai.Gt hq rfl;obtain⟨hcf,n',hai⟩:=h.ai.fork hq;subst hcf;have sz:=h.wi.views.size;have L:pH om (vs 1) r:=by have:=h.wi.views.vw 1;rw[gO]at this;exact this
 have X:=h.wi.views.vw 0;have hOC:aK om Rk (D.f+2)=aK om Rk 0:=ua (by omega);have vsz:(vs 1).heap.size=r.heap.size:=sz 1;have o1:=NZ (l:=[]) (v:=vs 1) (bl:=give) (O:=om) (W0':=W0') (@Sat.imp (bI om) _ _ _ _ hsat λhp k=>by
  obtain⟨E,N,_,l1,_,ra,_⟩:=@dV (bI om) _ _ _ k;exact @oH (bI om) _ _ _ l1 ra)
 have o2:=NZ (l:=cy give) hsat
 have nR:∀k,kP give k->¬aK om Rk 0 k:=by
  rintro k ⟨x,H,rfl⟩ A;obtain⟨a1,a2,a3⟩:=o1 x H;refine Q1 h.wi a1 (.inr (by rw[a2];exact N0 hbl.1 H a3)) ?_;rcases A with A|⟨_,A⟩
  .exact XG A a1
  .exact A
 have hdis:∀k,kP give k->kP bl k->False:=by
  rintro k ⟨x,H,rfl⟩ ⟨y,hy,hyx⟩;letI:Base:=bI om
  obtain⟨_,_,_,d,hp,e,f,r'⟩:=hsat
  obtain⟨E,N,ff,l1,l2,ra,r2⟩:=@dV (bI om) _ _ _ r';have h3:=jV ra x H;have h4:=jV r2 y hy;rw[hyx]at h4;obtain⟨h5,h6⟩:=ff _ _ _ h3 h4;rcases h6 with h6|h6
  .cases h6
  .exact(hbl.1 x H).1 h6
 let q':Ps:=⟨p.n,D.f+1,n,.ad0 0⟩
 let qc:Ps:=⟨D.f,0,n',.new⟩
 let v1:Xo:=gG om (kP bl) (vs 1) r (ji (vs 1).os q')
 let vc:Xo:=gG (aK om Rk 0) (kP give) (vs 1) r (ji (vs 1).os qc)
 have am:pH om v1 r:=qO L;have vwc:pH (aK om Rk 0) vc r:=by
  obtain⟨z1,z2,z3⟩:=jS L;refine yU lB.symm z2 z3 λk=>?_;by_cases I:kP give k
  .rw[dF vsz I];refine(fP L k).conv ⟨λh=>XG (.inl h) (nR k I),λh=>XG h (nR k I)⟩
  .rw[bj I];exact yV
 obtain⟨ag,ao,al⟩:=h.wi.yR 0;obtain⟨Z,aa,ab⟩:=h.wi.yR 1;rw[gO]at Z aa ab;have hidC_on:∀(O S:Nat->Prop) (os':Os),¬O p.mu->pI (gG O S (vs 1) r os') p.word/\pI (gG O S (vs 1) r os') p.sema:=λO S os' ho=>by
  by_cases I:S p.mu
  .exact⟨et (h.wi.hidW _).1 (dF vsz I),et (h.wi.hidW _).2 (dF vsz I)⟩
  .exact⟨et (kr (h.wi.hidW 0).1 X ho) (bj I),et (kr (h.wi.hidW 0).2 X ho) (bj I)⟩
 have hidG_on:∀(O S:Nat->Prop) (os':Os),¬O p.wg->¬O p.ch->tT (gG O S (vs 1) r os') p.wg/\(gG O S (vs 1) r os').heap[p.ch]?=some (.coro none):=λO S os' ho ap=>by
  refine⟨?_,?_⟩
  .by_cases I:S p.wg
   .exact jF (h.wi.hidG _).1 (dF vsz I)
   .exact jF (rL (h.wi.hidG 0).1 X ho) (bj I)
  .by_cases I:S p.ch
   .rw[dF vsz I];exact(h.wi.hidG _).2
   .rw[bj I];exact xr (h.wi.hidG 0).2 X al ap
 have A:=hK v1 ⟨oT (hidC_on _ _ _ Z).1 rfl,yY (qO L) h.wi.wgb (hidG_on _ _ _ aa ab).1⟩ rfl (yX (l:=cy give) (os':=ji (vs 1).os q') L hsat λx H=>⟨x,H,rfl⟩);have aq:dN v1=q':=kH (o:=(vs 1).os) rfl;have hgc:dN vc=qc:=kH (o:=(vs 1).os) rfl;have ac:=(h.wi.gh 0 _ hq).2;obtain⟨hR,r1,r2,r3⟩:=h.wi.rd hjn;obtain⟨Wc,hsc,hWc⟩:=K2 (O:=aK om Rk 0) (Rk:=Rk) (os':=ji (vs 1).os qc) (λk=>⟨λh=>h.imp id λh=>h.2,λh=>h.imp id λh=>⟨by omega,h⟩⟩) hsat L (h.wi.views.lt 0) nR r1 r2 r3;have hgi:=hgoI (aK om Rk 0) Wc vc n' ⟨λk A=>(hWc k (.inl A)).trans (h.keep k A),hR,r1,λi x H=>⟨(r2 i x H).1,(hWc i (.inr ⟨by omega,(r3 i).2 ⟨x,H⟩⟩)).trans (r2 i x H).2.1⟩⟩ hsc hgc ac (oT (hidC_on _ _ _ ag).1 rfl);obtain⟨Tc,hTc⟩:=@jM.tree (fN F (aK om Rk 0)) _ _ _ _ hgi;obtain⟨T0,ar⟩:=@jM.tree (fN F om) _ _ _ _ (hs.m rfl undef v1 A);let vs':Nat->Xo:=λk=>if k=1 then v1 else if k=D.f+2 then vc else vs k
 have Y:vs' 1=v1:=rfl;have W:vs' (D.f+2)=vc:=by show(if _ then _ else _)=_;rw[Xx (by omega),XE rfl]
 have M:∀k,k≠1->k≠D.f+2->vs' k=vs k:=λk E N=>by show(if _ then _ else _)=_;rw[Xx E,Xx N]
 have hltQ:=(Xw.1 hq).1;have hll:=h.ai.len;have hviews:mZ (aK om Rk) vs' r:=by
  refine⟨λj=>?_,h.wi.views.lt,λj k hjk=>?_⟩
  .by_cases G:j=1
   .subst G;rw[Y,gO];exact am
   .by_cases J:j=D.f+2
    .subst J;rw[W,hOC];exact vwc
    .rw[M j G J];exact h.wi.views.vw j
  .have apart1:∀k,k≠1->k≠D.f+2->Sep (aK om Rk 1) v1 (aK om Rk k) (vs k):=λk E N=>by
    rw[gO];exact pL (o1:=aK om Rk 1) vsz (h.wi.views.lt k) (λb U hnb=>XG (.inl U) hnb) (h.wi.views.sep 1 k (YP E)) λb _=>by rw[gO]
   have apartC:∀k,k≠1->k≠D.f+2->Sep (aK om Rk (D.f+2)) vc (aK om Rk k) (vs k):=λk E N=>by
    rw[hOC];refine pL (o1:=aK om Rk 1) vsz (h.wi.views.lt k) (λb U hnb=>XG (by rw[ua E];exact U) hnb) (h.wi.views.sep 1 k (YP E)) λb U=>?_;rw[gO];exact⟨λh=>.inl h,λh=>XG h (nR b U)⟩
   have apart1C:Sep (aK om Rk 1) v1 (aK om Rk (D.f+2)) vc:=by
    rw[gO,hOC];refine .of λb=>?_;by_cases U:kP bl b
    .have hg:¬kP give b:=λh=>hdis b h U;have H:vc.heap[b]?=(jo (aK om Rk 0) r).heap[b]?:=bj hg;rw[H];refine((ic (o1:=aK om Rk 0) (o2:=om) (r:=r) (w:=v1) (λk A=>h.wi.views.lt 1 k (by rw[gO];exact A)) λk E N=>?_).at b).symm;by_cases hkb:kP bl k
     .have he:v1.heap[k]?=(vs 1).heap[k]?:=dF vsz hkb;exact kO he ((h.wi.views.sep 1 0 (by omega)).right k E (by rw[gO];exact N))
     .have he:v1.heap[k]?=(jo om r).heap[k]?:=bj hkb;exact kO he (jr N (h.wi.views.lt 0 k E))
    .have H:v1.heap[b]?=(jo om r).heap[b]?:=bj U;rw[H];exact(ic (o1:=om) (o2:=aK om Rk 0) (r:=r) (w:=vc) (h.wi.views.lt 0) λk E N=>XG (.inl E) N).at b
   by_cases G:j=1
   .subst G;by_cases B:k=D.f+2
    .subst B;rw[Y,W];exact apart1C
    .rw[Y,M k (YP hjk) B];exact apart1 k (YP hjk) B
   .by_cases J:j=D.f+2
    .subst J;by_cases C:k=1
     .subst C;rw[Y,W];exact apart1C.symm
     .rw[W,M k C (YP hjk)];exact apartC k C (YP hjk)
    .rw[M j G J];by_cases C:k=1
     .subst C;rw[Y];exact(apart1 j G J).symm
     .by_cases B:k=D.f+2
      .subst B;rw[W];exact(apartC j G J).symm
      .rw[M k C B];exact h.wi.views.sep j k hjk
 have lold:∀(i:Nat) (x:Ps),D.l[i+1]?=some x->(D.l.set 0 q'++[qc])[i+1]?=some x:=λi x H=>by
  have hlt:=(Xw.1 H).1;rw[XH (by simpa using hlt),Yv (by omega)];exact H
 have lnew:∀(i:Nat) (x:Ps),(D.l.set 0 q'++[qc])[i]?=some x->(i=0/\x=q')\/(i≠0/\D.l[i]?=some x)\/(i=D.f+1/\x=qc):=λi x H=>by
  rcases gw H with⟨_,E⟩|⟨E,N⟩
  .rcases aF E hq with h3|h3
   .exact .inl h3
   .exact .inr (.inl h3)
  .exact .inr (.inr ⟨by rw[E];simpa using hll,N⟩)
 have hwi:WI F p om Rk (D.fork q' qc) vs' r:=by
  refine⟨hviews,λj x H=>?_,λk A b U hbs=>?_,λk=>?_,λk=>?_,h.wi.now,h.wi.ne,h.wi.word,h.wi.sema,h.wi.fz,h.wi.wgb,h.wi.chb,λG hn=>?_,λG b U hbs=>?_,h.wi.rd,h.wi.jnR⟩
  .rcases lnew j x H with⟨rfl,rfl⟩|⟨hne,H⟩|⟨rfl,rfl⟩
   .exact⟨aq,ac⟩
   .have:=(Xw.1 H).1;rw[M (j+1) (by omega) (by omega)];exact h.wi.gh j x H
   .rw[W];exact⟨hgc,ac⟩
  .have A:D.f+1+1<k:=A;rw[M k (by omega) (by omega)];exact h.wi.unf k (by omega) b U hbs
  .by_cases C:k=1
   .subst C;rw[Y];exact hidC_on _ _ _ Z
   .by_cases B:k=D.f+2
    .subst B;rw[W];exact hidC_on _ _ _ ag
    .rw[M k C B];exact h.wi.hidW k
  .by_cases C:k=1
   .subst C;rw[Y];exact hidG_on _ _ _ aa ab
   .by_cases B:k=D.f+2
    .subst B;rw[W];exact hidG_on _ _ _ ao al
    .rw[M k C B];exact h.wi.hidG k
  .rw[M 0 (by omega) (by omega)];exact h.wi.lock G λi x H=>hn i x (lold i x H)
  .rw[M 0 (by omega) (by omega)];refine h.wi.held (G.imp id λ⟨i,x,H,hH⟩=>?_) b U hbs;rcases lnew (i+1) x H with⟨E,_⟩|⟨_,E⟩|⟨_,rfl⟩
   .omega
   .exact⟨i,x,E,hH⟩
   .obtain⟨s,h|h⟩:=hH<;>cases h
 obtain⟨hop,hnil,hrun⟩:=hr;have hst:stepG prog true g r=.spawn (fin undef) (pM d) r #[]:=hs.does.fork hop r r #[] d hnil (hrun r);have hrt:=runT_crowd_spawn (P:=prog) (sl:=sl) (i:=0) ha hst;have hgsz:=h.gsz;let x:MemOp:={ g:=0,fn:=g.frame.fn,pos:=g.frame.place,act:=.go (D.f+1) }
 let y:MemOp:={ g:=D.f+1,fn:=(pM d).frame.fn,pos:=g.frame.place,act:=.start }
 have hops:(((MemOp.ofEvents 0 g.frame.fn g.frame.place #[]).push { g:=0,fn:=g.frame.fn,pos:=g.frame.place,act:=.go gs.size }).push { g:=gs.size,fn:=(pM d).frame.fn,pos:=g.frame.place,act:=.start }:Xv MemOp)=#[x,y]:=by
  rw[hgsz];rfl
 rw[hops]at hrt;have h0:Deaf t 0=0:=h.deaf hq λh=>XG rfl h;have hdeaf:∀k,k≠D.f+1->Deaf (t++#[x,y]) k=Deaf t k:=λk _=>Deaf_still t k #[x,y] λop hop=>by
  rcases(by simpa using hop:op=x\/op=y)with rfl|rfl<;>exact⟨λh=>(by cases h),λh=>(by cases h)⟩
 have hdc:Deaf (t++#[x,y]) (D.f+1)=0:=by
  rw[Deaf_still t (D.f+1) #[x,y] λop hop=>by
   rcases(by simpa using hop:op=x\/op=y)with rfl|rfl<;>exact⟨λh=>(by cases h),λh=>(by cases h)⟩]
  exact Deaf_absent λi op hi e=>by have:=h.ti.gs i op hi;omega
 have hti:=h.ti.fork (See':=oR om Rk (D.fork q' qc) vs') (x:=x) (y:=y) ⟨rfl,rfl⟩ ⟨rfl,rfl⟩ h0 (λk l A hl=>by
  obtain⟨b1,V⟩:=hl;by_cases av:k=0
  .subst av;refine⟨XR _,?_⟩;have V:dY (aK om Rk 1) (vs' 1) l:=V;rw[Y,gO]at V;show dY (aK om Rk 1) (vs 1) l;rw[gO];exact(rM vsz V).2
  .have hkf:k<=D.f:=by have:k<=D.f+1:=b1;omega
   refine⟨hkf,?_⟩;rw[M (k+1) (by omega) (by omega)]at V;exact V) (λl hl=>by
  obtain⟨b1,V⟩:=hl;have V:dY (aK om Rk (D.f+2)) (vs' (D.f+2)) l:=V;rw[W,hOC]at V;obtain⟨b3,b4⟩:=rM vsz V;refine⟨XR _,?_⟩;show dY (aK om Rk 1) (vs 1) l;rw[gO];exact⟨λh=>b4.1 (.inl h),b4.2⟩)
 have hlt0:0<gs.size:=(Xz.1 ha).1;refine⟨_,_,_,Rk,D.fork q' qc,vs',T.set 0 T0++[Tc],hrt,⟨hai.1,hwi,hti,λi k A h5=>?_,λG=>?_,?_,?_,?_,λi hi=>?_,h.os,h.tape,h.out,h.keep⟩,.left _ _ hai.2⟩
 .have a0:D.sg[i+1]?=some k:=by
   have A:(D.sg++[7])[i+1]?=some k:=A;rw[List.getElem?_append]at A;split at A
   .exact A
   .have:=h.ai.lsg;cases hz:i+1-D.sg.length with
    | zero=>rw[hz]at A;simp at A;omega
    | succ z=>rw[hz]at A;simp at A
  obtain⟨z,hz⟩:=h.rl i k a0 h5;refine⟨z,hz.app (λop hop hg a af=>?_) λ⟨op,hop,hg,af⟩=>?_⟩
  .rcases(by simpa using hop:op=x\/op=y)with rfl|rfl<;>cases af
  .rcases(by simpa using hop:op=x\/op=y)with rfl|rfl<;>exact XG rfl af
 .have G:D.jn=true:=G;rw[hjn]at G;cases G
 .show((gs.setIfInBounds 0 (fin undef)).push (pM d)).size=D.f+1+1;simp[hgsz]
 .show(T.set 0 T0++[Tc]).length=D.f+1+1;simp[h.tsz]
 .refine⟨fin undef,T0,q',?_,?_,?_,?_,.go ar (hs.does.fins _)⟩
  .rw[aac];simp[hlt0];intro hz;simp[hgsz]at hz
  .rw[XH (by simp[h.tsz]),X2 (by rw[h.tsz];omega)]
  .show(D.l.set 0 q'++[qc])[0]?=some q';rw[XH (by simpa using hltQ),X2 hltQ]
  .rw[hdeaf 0 (by omega)];exact h0
 .have hi:i<D.f+1:=hi;by_cases hif:i=D.f
  .subst hif;refine⟨pM d,Tc,7,?_,?_,?_,?_⟩
   .rw[aac];simp[hgsz]
   .rw[Yr (by simp[h.tsz])];simp[h.tsz]
   .show(D.sg++[7])[D.f+1]?=some 7;rw[Yr (by rw[h.ai.lsg];omega)];simp[h.ai.lsg]
   .rw[hdc,W,hOC];have:(dN vc).th.deaf=0:=by rw[hgc];rfl
    rw[<- this];exact .go hTc rfl
  .obtain⟨gi,Ti,k,w1,w2,w3,w4⟩:=h.wk i (by omega);refine⟨gi,Ti,k,?_,?_,?_,?_⟩
   .rw[aac];have:¬(i+1=gs.size):=by rw[hgsz];omega
    rw[Array.size_setIfInBounds,Xx this,XJ (by omega)];exact w1
   .rw[XH (by simp[h.tsz];omega),Yv (by omega)];exact w2
   .show(D.sg++[7])[i+1]?=some k;rw[XH (by rw[h.ai.lsg];omega)];exact w3
   .rw[hdeaf (i+1) (by omega),M (i+2) (by omega) (by omega)];have:=w4.other (wk:=false) (D':=D.fork q' qc) (r':=r) (v':=vs (i+2)) ⟨XD _,λ_ _=>rfl,rfl,rfl,rfl⟩ (.inl ⟨λ_ _=>rfl,⟨_,_,h.wi.wgb⟩⟩) (.inr id) (.inl rfl) h.wi.chb;simpa using this
end
section
variable{F:Xn Nat->cn}{p:cn}{om Rk:Nat->Prop}{Q:Xp->Prop}{W0:Xo}{D D':gm}{vs vs':Nat->Xo}{T:Xn Tr}{gs gs':Xv XF}{r r':Xo}{t u:Trace}
variable{op:Nat}{g g':XF}{qt:XN}{s:Sem Next}{fin:Xp->XF}{K:Xp->Xo->Prop}{q q':Ps}{es:Xv Ys}{sl:XB (Nat×Nat)}{wk:XN}{T':Tr}
theorem iJ(j:Nat):aK om (fun _=>False) j=om:=by
 funext k;simp[aK]
def N4{P:Prop}{x y:XB Obj}{z:Obj}(h:Mb P x y)(d:¬P)(i:KY x)(a:y=some z):x=some (gZ z):=by
 rcases i with⟨c,e,f,H,j⟩|H
 .have⟨C,G,b,_⟩:=h.cells c e f H;rw[a]at G;cases G;rw[H];congr 2;apply Y9
  grind
 .have⟨o,G,b⟩:=h.blank d H;rw[a]at G;cases G;rw[H];cases z with
  | cells c e f=>exact XG rfl (b _ _ _)
  | _=>rfl
def gr.Vg{old o:Nat->Prop}{v v':Xo}{d:Nat}{a:Tr}{g1:XF}(h:gr F p old D r v d 0 a g1):gr F p o D' r' v' d 0 a g1:=by
 cases h with
 | quit h=>exact .quit h
def MI.join{c n:Nat}(h:MI F p om Rk Q W0 D vs T gs r t)(ha:gs[0]?=some g)(hs:np F p om Rk Q D 0 op g qt s fin K)(hq:D.l[0]?=some ⟨p.n,c,n,.wt7⟩)
 (hK:∀v' s I hR,p.Whole s->p.LI s I->p.R hR->Hp.fits I hR->rY om (Hp.un I hR) (vs 1) v'->v'.os=ji (vs 1).os ⟨p.n,c,n,.out⟩->K eI v') (hy:Yields qt s r eI r #[⟨.mark (.acquire p.st),false,true⟩]):r7 F p om Q W0 (ja p D T gs) sl gs r t 0:=by
 have ac:=h.ai.Gt hq rfl;have⟨ce,M,bq,ap⟩:=h.ai.Te hq;have V:=h.wi.views.size;have N:pH om (vs 1) r:=by have:=h.wi.views.vw 1;rw[gO]at this;exact this
 have v:=h.wi.views.vw 0;have bz:=V 1;have aq:(vs 0).heap.size=(vs 1).heap.size:=by rw[V,V]
 have b0:∀(i:Nat) (x:Ps),D.l[i+1]?=some x->¬bQ x:=λi x H hH=>by
  have hi:i<p.n:=by have:=(Xw.1 H).1;rw[h.ai.len]at this;omega
  have⟨y,ar,b3,_⟩:=h.ai.done i 0 (M i hi) (by omega);rw[H]at ar;cases ar;obtain⟨s,h|h⟩:=hH<;>rw[b3]at h<;>cases h
 have⟨I,b4,O⟩:=h.wi.lock ac b0;have⟨hR,r1,r2,r3⟩:=h.wi.rd ac;have J:∀i x,Hp.un I hR i=some x->(vs 0).heap[i]?=some x.2/\(aK om Rk 0 i->r.heap[i]?=some x.2):=λi x H=>by
  constructor
  .unfold Hp.un at H;cases o:I i with
   | some y=>rw[o]at H;cases H;exact(O i _ o).1
   | none=>
    rw[o]at H;have a:aK om Rk 0 i:=.inr ⟨by omega,(r3 i).2 ⟨x,H⟩⟩;rw[fS v a (by rw[V];exact h.wi.views.lt 0 i a)];exact(r2 i x H).2.1
  .intro A;unfold Hp.un at H;cases o:I i with
   | some y=>
    rw[o]at H;cases H;rw[<- fS v A (by rw[V];exact h.wi.views.lt 0 i A)];exact(O i _ o).1
   | none=>rw[o]at H;exact(r2 i x H).2.1
 have av:Hp.fits I hR:=λi x y H hy=>by
  have⟨a1,a2,_⟩:=r2 i y hy;have a:aK om Rk 0 i:=.inr ⟨by omega,(r3 i).2 ⟨y,hy⟩⟩;have⟨b1,b2,_⟩:=O i x H;rw[fS v a (by rw[V];exact h.wi.views.lt 0 i a),a2]at b1;exact⟨Prod.ext ((b2 a).trans a1.symm) (Xt b1).symm,.inl (b2 a)⟩
 have a0:∀i x,Hp.un I hR i=some x->¬om i->Af x.2:=λi x H A=>by
  by_cases a:Rk i
  .have⟨y,hy⟩:=(r3 i).1 a;have B:=(J i x H).2 (.inr ⟨by omega,a⟩);rw[(r2 i y hy).2.1]at B;rw[<- Xt B];exact(r2 i y hy).2.2
  .unfold Hp.un at H;cases o:I i with
   | some y=>rw[o]at H;cases H;exact(O i _ o).2.2 λh=>h.elim A λh=>a h.2
   | none=>rw[o]at H;exact XG ((r3 i).2 ⟨x,H⟩) a
 let q':Ps:=⟨p.n,c,n,.out⟩
 let S:Nat->Prop:=λk=>(∃x,Hp.un I hR k=some x)/\¬om k
 let v':Xo:={ pick S (vs 0) (vs 1)with os:=ji (vs 1).os q' }
 have b5:∀{k:Nat},S k->v'.heap[k]?=(vs 0).heap[k]?:=λd=>tW aq d;have Z:∀{k:Nat},¬S k->v'.heap[k]?=(vs 1).heap[k]?:=λd=>qN d;have vc:=λk=>yW S aq k;have P:=λk d=>h.wi.views.lt 1 k (by rw[gO];exact d);have W:∀k,om k->(vs 1).heap[k]?=(vs 0).heap[k]?:=λk d=>by
  rw[fS N d (by rw[bz];exact P k d),fS v (.inl d) (by rw[V];exact P k d)]
 have af:rY om (Hp.un I hR) (vs 1) v':=by
  refine⟨oS,rfl,rfl,λk x H=>?_,λk d=>Z λhS=>?_,λk x H A=>⟨a0 k x H A,?_⟩,λk x H A=>⟨?_,?_⟩⟩
  .by_cases A:om k
   .rw[Z λhS=>hS.2 A,W k A];exact(J k x H).1
   .rw[b5 ⟨⟨x,H⟩,A⟩];exact(J k x H).1
  .have⟨⟨x,H⟩,_⟩:=hS;rw[d]at H;cases H
  .have C:k<r.heap.size:=by rw[<- V 0];exact kq (J k x H).1
   by_cases hO:aK om Rk 0 k
   .exact .inl (N4 (fP N k) A ((h.wi.views.sep 1 0 (by omega)).right k hO (by rw[gO];exact A)) ((J k x H).2 hO))
   .have aa:=(h.wi.views.sep 0 1 (by omega)).at k;rw[gO]at aa;exact Fv (aa.conv (q2:=False) ⟨hO,False.elim⟩ ⟨A,False.elim⟩) ((fP v k).conv ⟨hO,False.elim⟩) ((fP N k).conv ⟨A,False.elim⟩) id (J k x H).1 (a0 k x H A) (h.wi.views.pos 1 C)
  .unfold Hp.un at H;cases o:I k with
   | some y=>rw[o]at H;cases H;exact(O k _ o).2.1 (.inl A)
   | none=>rw[o]at H;exact(r2 k x H).1
  grind
 have d:=hK v' D.s I hR bq b4 r1 av af rfl;have b6:dN v'=q':=kH rfl;have⟨T0,b7⟩:=@jM.tree (fN F om) _ _ _ _ (hs.m rfl eI v' d);let vs':Nat->Xo:=λk=>if k=1 then v' else{ jo om r with os:=(vs k).os }
 have e1:vs' 1=v':=rfl;have eo:∀k,k≠1->vs' k={ jo om r with os:=(vs k).os }:=λk B=>Xx B;have L:∀k,k≠1->(vs' k).heap=(jo om r).heap:=λk B=>by rw[eo k B]
 have a9:=(Xw.1 hq).1;have b8:pH om v' r:=by
  have⟨z1,z2,z3⟩:=jS N;refine yU (z1.trans oS.symm) z2 z3 λk=>?_;rcases vc k with⟨⟨H,A⟩,e⟩|⟨_,e⟩<;>rw[e]
  .by_cases hO:aK om Rk 0 k
   .rw[fS v hO (by rw[V];exact h.wi.views.lt 0 k hO)];exact .self
   .exact(fP v k).conv ⟨λh=>XG h hO,λh=>XG h A⟩
  .exact fP N k
 have X:mZ (aK om λ_=>False) vs' r:=by
  refine⟨λj=>?_,λj k d=>by rw[iJ]at d;exact P k d,λj k b9=>?_⟩
  .rw[iJ];by_cases Y:j=1
   .subst Y;rw[e1];exact b8
   .rw[eo j Y];exact Sf (xq om r)
  .rw[iJ,iJ];by_cases Y:j=1
   .subst Y;exact((ic (o1:=om) (o2:=om) (r:=r) (w:=vs' 1) P λb B U=>XG B U).congr (L k (YP b9)) rfl).symm
   .exact(ic (o1:=om) (o2:=om) (r:=r) P λb B U=>XG B U).congr (L j Y) rfl
 have⟨cf,cg,ca⟩:=h.wi.yR 0;have⟨ag,ba,bc⟩:=h.wi.yR 1;rw[gO]at ag ba bc;have bd:WI F p om (λ_=>False) (D.fI q' D.st D.sm true true) vs' r:=by
  refine⟨X,λj x H=>?_,λk d b hb al=>?_,λk=>?_,λk=>?_,λj k d=>?_,h.wi.ne,h.wi.word,h.wi.sema,h.wi.fz,h.wi.wgb,?_,λY=>?_,λ_ b hb al=>?_,λY=>?_,λ_ _ h=>h⟩
  .rcases aF (q':=q') H hq with⟨rfl,rfl⟩|⟨ci,H⟩
   .rw[e1];exact⟨b6,(h.wi.gh 0 _ hq).2⟩
   .rw[eo (j+1) (by omega)];exact h.wi.gh j x H
  .rw[iJ]at hb;exact kO (by rw[L k (by have d:D.f+1<k:=d;omega)]) (jr hb al)
  .by_cases E:k=1
   .subst E;rw[e1];rcases vc p.mu with⟨_,e⟩|⟨_,e⟩
    .exact⟨et (h.wi.hidW 0).1 e,et (h.wi.hidW 0).2 e⟩
    .exact⟨et (h.wi.hidW _).1 e,et (h.wi.hidW _).2 e⟩
   .have:=kr (h.wi.hidW 0).1 v ag;exact⟨et this (by rw[L k E]),et (kr (h.wi.hidW 0).2 v ag) (by rw[L k E])⟩
  .by_cases E:k=1
   .subst E;rw[e1];constructor
    .rcases vc p.wg with⟨_,e⟩|⟨_,e⟩
     .exact jF (h.wi.hidG 0).1 e
     .exact jF (h.wi.hidG _).1 e
    .rcases vc p.ch with⟨_,e⟩|⟨_,e⟩<;>rw[e]
     .exact(h.wi.hidG 0).2
     .exact(h.wi.hidG _).2
   .exact⟨jF (rL (h.wi.hidG 0).1 v ba) (by rw[L k E]),by rw[L k E];exact xr (h.wi.hidG 0).2 v ca bc⟩
  .rw[iJ]at d;exact h.wi.now 1 k (by rw[gO];exact d)
  .have:=h.wi.chb;rw[(((h.ai.pre _ hq).1 ac).2.2.2.1)]at this;exact this
  .cases Y
  .rw[iJ]at hb;exact kO (by rw[L 0 (by omega)]) (jr hb al)
  .cases Y
 have cb:=hs.does.go hy;have bf:=h.deaf hq λh=>XG rfl h;have ab:=h.ti.join (See':=oR om (λ_=>False) (D.fI q' D.st D.sm true true) vs') (SL':=dY (aK om (λ_=>False) 0) (vs' 0)) h.wi.dj (z:={ g:=0,fn:=g.frame.fn,pos:=g.frame.place,act:=.mark (.acquire p.st) }) (b:=p.st) rfl rfl bf
  (λi B U=>by
    obtain⟨m,rfl⟩:∃m,i=m+1:=⟨i-1,by omega⟩;exact h.rl m 0 (M m (by omega)) (by omega))
  (λl o=>by
    rw[iJ]at o;have⟨B,U⟩:=o;have C:=U.lt;rw[L 0 (by omega),rK]at C;exact lT (kO (by rw[L 0 (by omega)]) (jr B C)) U)
  (λk l o=>by
    refine⟨YQ λck=>?_,λbi=>bd.dj.sh k l o bi⟩;have⟨_,o⟩:=o;rw[iJ]at o;have⟨B,U⟩:=o;have C:=U.lt;rw[L (k+1) (by omega),rK]at C;exact lT (kO (by rw[L (k+1) (by omega)]) (jr B C)) U)
 have bm:MemOp.ofEvents 0 g.frame.fn g.frame.place #[⟨.mark (.acquire p.st),false,true⟩]=#[{ g:=0,fn:=g.frame.fn,pos:=g.frame.place,act:=.mark (.acquire p.st) }]:=by
  simp[MemOp.ofEvents,MemAct.ofEvent]
 rw[<- bm]at ab;have⟨cc,cd⟩:=ab;have hn:=j8 (r':=r) (g':=fin eI) ha;have am:∀op∈MemOp.ofEvents 0 g.frame.fn g.frame.place #[⟨.mark (.acquire p.st),false,true⟩],op.g=0:=λop G=>by obtain⟨e,_,rfl⟩:=mn G;rfl
 refine⟨_,_,_,λ_=>False,D.fI q' D.st D.sm true true,vs',T.set 0 T0,runT_crowd_go ha cb,⟨ap.1,bd,?_,λi k d h5=>?_,λ_=>cd,by rw[hn.size,h.gsz];rfl,by simp[h.tsz];rfl,?_,λi hi=>?_,h.os,h.tape,h.out,h.keep⟩,.left _ _ ap.2⟩
 .have⟨a1,a2,a3,a4,a5,a6,a7,a8⟩:=cc;refine⟨a1,a2,λi x H hr=>a3 i x H ?_,a4,a5,a6,a7,a8⟩;rw[iJ]at hr;cases ao:x.loc with
  | cell b=>rw[ao]at hr;exact .inl hr
  | obj b=>rw[ao]at hr;exact .inl hr
  | _=>rw[ao]at hr;exact hr.elim
 .have⟨x,H⟩:=h.rl i k d h5;exact⟨x,H.app (λop G hg=>XG ((am op G).symm.trans hg) (by omega)) λ⟨op,G,hg,_⟩=>XG ((am op G).symm.trans hg) (by omega)⟩
 .refine⟨fin eI,T0,q',hn.own,by rw[X2 (by rw[h.tsz];omega)],X2 a9,by rw[Deaf_own,bf];rfl,.go b7 (hs.does.fins _)⟩
 .have hi:i<D.f:=hi;have⟨gi,Ti,k,w1,w2,w3,w4⟩:=h.wk i hi;cases by have:=M i (by omega);rw[w3]at this;exact Xt this
  refine⟨_,Ti,0,hn.oth _ gi (by omega) w1,by rw[Fu (by omega)];exact w2,w3,?_⟩;rw[Deaf_other t (by omega:(0:Nat)≠i+1) _ λop G=>am op G];have:=w4.other (wk:=nL g (fin eI)) (D':=D) (r':=r) (v':=vs (i+2)) ⟨XD _,λ_ _=>rfl,rfl,rfl,rfl⟩ (.inr rfl) (.inr id) (.inl rfl) h.wi.chb;exact this.Vg
end
end
section
open Go Go.Conc Go.ConcN Go.ConcM
open Go.ConcR (KK wgBlock WgAt stA smA rd wr mk Payload Aside2 DC0)
attribute [local instance] pay
section
variable{F:Xn Nat->cn}{p:cn}{om Rk:Nat->Prop}{Q:Xp->Prop}{W0:Xo}{D D':gm}{vs vs':Nat->Xo}{T:Xn Tr}{gs gs':Xv XF}{r r':Xo}{t u:Trace}
variable{i k k' st' sm' m:Nat}{g g':XF}{es:Xv Ys}{sl:XB (Nat×Nat)}{wk:XN}{T':Tr}
def MI.gg(h:MI F p om Rk Q W0 D vs T gs r t)(L:gs[i+1]?=some g)(d:Ur gs gs' (i+1) g' wk r')(b:D.sg[i+1]?=some k)(n:AI p (D.fJ i k' st' sm'))
 (c:Fp p r r') (h1:r'.cell? p.word=some (.int .i32 D.x)) (M:r'.cell? p.sema=some (.int .u32 D.bu)) (G:r'.heap[p.wg]?=some (.cells #[.int .u64 st',.int .u32 sm'] 156 (0,0))) (I:∃S R N,r'.heap[p.ch]?=some (.chan 0 #[] D.cl S R N))
 (a:∀o∈u,P8 r.heap.size r.heap.size (oR om Rk D vs) (oO (aK om Rk 0)) (qi p) (i+1) o) (s:D.jn=true->∀o∈u,o.act.touch?=none) (O:k'<=5->∃x,Rl p.st (qi p) (t++u) (i+1) x) (w:wk=true\/(D.sm=0->sm'=0))
 (P:∀v,gr F p (aK om Rk (i+2)) (D.fJ i k' st' sm') r' v (Deaf (t++u) (i+1)) k' T' g'):∃vs',MI F p om Rk Q W0 (D.fJ i k' st' sm') vs' (T.set (i+1) T') gs' r' (t++u):=by
 have U:i<D.f:=by have:=(Xz.1 L).1;rw[h.gsz]at this;omega
 let vs':Nat->Xo:=λk=>{ vs k with drawn:=r'.drawn }
 have ry:∀k,Ry (vs k) (vs' k):=λk=>⟨XD _,λ_ _=>rfl,rfl,rfl,rfl⟩;have y:WI F p om Rk (D.fJ i k' st' sm') vs' r':=h.wi.KV c (λk=>⟨rfl,rfl,rfl⟩) rfl (λj q V=>h.wi.gh j q V) h1 M G I rfl rfl id id;have W:=λj=>MI.VY h.wi c ⟨_,_,G⟩ j;have X:=h.ti.app h.wi.dj (by omega) (XD _) a (See':=oR om Rk (D.fJ i k' st' sm') vs') (λk l _ b=>⟨b.1,lA rfl b.2⟩) λl J=>.inl ⟨J.1,lA rfl J.2⟩;have K:=h.ai.lsg;refine⟨vs',n,y,?_,λj x A B=>?_,λe=>?_,by rw[d.size];exact h.gsz,by simp[h.tsz];rfl,?_,λj e=>?_,OsLater.tr h.os c.os,c.tape.trans h.tape,c.out.trans h.out,λk b=>?_⟩
 .rwa[c.size]
 .rcases sR A b with⟨he,rfl⟩|⟨Y,A⟩
  .grind
  .have⟨z,Z⟩:=h.rl j x A B;exact⟨z,Z.app (λo H C=>XG ((a o H).1.symm.trans C) (by omega)) λ⟨o,H,C,_⟩=>XG ((a o H).1.symm.trans C) (by omega)⟩
 .exact m9 (h.ho e) λo H=>.inr (s e o H)
 .have⟨g0,T0,q0,m1,m2,m3,m4,m5⟩:=h.main;refine⟨_,T0,q0,d.oth 0 g0 (by omega) m1,by grind,m3,?_,m5.other (ry 1) (w.imp id λh=>⟨id,h⟩)⟩;rw[Deaf_other t (by omega:i+1≠0) _ λo H=>(a o H).1];exact m4
 .have⟨gi,Ti,x,w1,w2,w3,w4⟩:=h.wk j e;by_cases E:j=i
  .subst E;exact⟨g',T',k',d.own,by rw[X2 (by rw[h.tsz];omega)],by show(D.sg.set (j+1) k')[j+1]?=_;rw[X2 (by omega)],P _⟩
  .refine⟨_,Ti,x,d.oth _ gi (by omega) w1,by rw[Fu (by omega)];exact w2,by show(D.sg.set (i+1) k')[j+1]?=_;rw[Yv (by omega)];exact w3,?_⟩;rw[Deaf_other t (by omega:i+1≠j+1) _ λo H=>(a o H).1];exact w4.other (ry _) (.inl (W _)) (.inr id) (.inl rfl) I
 .have⟨n1,n2,n3⟩:=h.wi.now 1 k (.inl b);rw[c.oth k n1 n2 n3];exact h.keep k b
variable {b:YO} {j:Nat}
def Rl.new {Sh:Loc->Prop} {y:MemOp} (H:y.g=j) (a:y.act=.mark (.releaseMerge b)) (c:Deaf t j=0):Rl b Sh (t++#[y]) j t.size:=by
 have h:(t++#[y])[t.size]?=some y:=by simp
 refine⟨by rw[act?_of h,a],by rw[wH h,H],⟨j,by rw[wH h,H],by rw[deaf_old (by grind)];exact c⟩,λx o z e d _ _=>?_⟩
 grind
variable {fn:FuncId} {pos:YG}
def Q2 {e:Ys}:MemOp.ofEvents j fn pos #[e]=#[{ g:=j,fn:=fn,pos:=pos,act:=.ofEvent e }]:=by
 simp[MemOp.ofEvents]
def Rl.own {x:Nat} (h:Rl b (qi p) t j x) (d:∀e∈es,∀y,(MemAct.ofEvent e).touch?=some y->qi p y.loc/\y.kind=.atomic) (f:(∃e∈es,(MemAct.ofEvent e).touch?≠none)->∀n,t.size<=n->n<(t++MemOp.ofEvents j fn pos es).size->(t++MemOp.ofEvents j fn pos es).deaf j n≠0):Rl b (qi p) (t++MemOp.ofEvents j fn pos es) j x:=by
 refine h.app (λo H _ y a=>?_) λ⟨o,H,_,a⟩=>?_
 .obtain⟨e,c,rfl⟩:=mn H
  grind
 .obtain⟨e,c,rfl⟩:=mn H;exact f ⟨e,c,a⟩
variable {C:Nat}
def nN:Tj p C r r:=⟨λb h=>by omega,id,id,rfl⟩
def BK {n:Nat} {S:XF->Xo->Prop} (h:yS p C S n g r):S g r\/∃N,n=N+1/\∃g',stepG prog false g r=.go g' r #[]/\yS p C S N g' r:=by
 rcases Goes.cases h with K|⟨N,e,a⟩
 .exact .inl (K r nN)
 .obtain⟨g',w,es,H,⟨rfl,rfl⟩,c⟩:=a r nN
  grind
def MI.idle{n':Nat}(h:MI F p om Rk Q W0 D vs T gs r t)(H:gs[i+1]?=some g)(d:D.sg[i+1]?=some k)(l:k<=6)(n:T[i+1]?=some (Tr.nat (n'+1)))(a:stepG prog false g r=.go g' r #[])
 (o:∀v,gr F p (aK om Rk (i+2)) D r v (Deaf t (i+1)) k (Tr.nat n') g'):r7 F p om Q W0 (ja p D T gs) sl gs r t (i+1):=by
 have e:D.fJ i k D.st D.sm=D:=by
  have:D.sg.set (i+1) k=D.sg:=by
   apply aaq
   grind
  rw[gm.fJ,this]
 have⟨vs',f⟩:=h.gg (k':=k) (st':=D.st) (sm':=D.sm) (u:=#[]) (T':=Tr.nat n') H (j8 (r':=r) (g':=g') H) d (by rw[e];exact h.ai) (.refl r) h.wi.word h.wi.sema h.wi.wgb h.wi.chb (by simp) (by simp) (λc=>by
  rw[Yu];exact h.rl i k d c) (.inr id) (by grind)
 rw[e]at f;refine⟨_,_,_,Rk,D,vs',_,runT_crowd_go H a,?_,.right _ (.left _ _ (.set n (Tr.NS n')))⟩;exact f
