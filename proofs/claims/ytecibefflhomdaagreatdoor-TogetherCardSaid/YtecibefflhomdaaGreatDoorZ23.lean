/-
  Part 23: ; ; .
-/
import Derived.Test.YtecibefflhomdaaGreatDoorZ22
import Derived.Conc.MuSpec
import Derived.Conc.WgGenN2
import Derived.Conc.CrowdComm
import Derived.Conc.Pipeline
set_option maxHeartbeats 8000000
set_option maxRecDepth 100000
set_option linter.all false
namespace Go.Proofs.YtecibefflhomdaaGreatDoor
open Go Proofs.Tryz
section
open Go Go.Conc Go.ConcN Go.ConcM
def Wq(F:Xn Nat->cn)(old:Nat->Prop):Nat->XN->Sem Next->Xo->(Xp->Xo->Prop)->Prop:=λo q s v K=>
 ∃r:Rq,r.jj o q s/\(jB (F v.os.sigPending) old r v K\/gJ (F v.os.sigPending) old r v K\/ER (F v.os.sigPending) r v K\/M7 F old r v K)
abbrev fN(F:Xn Nat->cn)(old:Nat->Prop):Base:={ old:=old,ask:=Wq F old,quiet:=false }
def aK(o Rk:Nat->Prop)(j k:Nat):Prop:=o k\/(j≠1/\Rk k)
def qi(p:cn):Loc->Prop
 | .cell a=>a=p.word\/a=p.sema\/a.block=p.wg
 | .obj k=>k=p.ch
 | _=>False
def Sl(old:Nat->Prop)(v:Xo)(h:Hp):Prop:=∀i x,h i=some x->v.heap[i]?=some x.2/\(old i->x.1=true)/\(¬old i->Af x.2)
def tT(v:Xo)(k:Nat):Prop:=∃c e f,v.heap[k]?=some (Obj.cells c e f)/\∀(i:Nat) (x:Xp),c[i]?=some x->x=hole
def bQ(q:Ps):Prop:=∃s,q.th=.hold s\/q.th=.rel0 s
structure WI(F:Xn Nat->cn)(p:cn)(om Rk:Nat->Prop)(D:gm)(vs:Nat->Xo)(r:Xo):Prop where
 views:mZ (aK om Rk) vs r
 gh:∀(i:Nat) (q:Ps),D.l[i]?=some q->dN (vs (i+1))=q/\F (vs (i+1)).os.sigPending=p
 unf:∀k,D.f+1<k->∀b,¬aK om Rk k b->b<r.heap.size->ml (vs k) b
 hidW:∀k,pI (vs k) p.word/\pI (vs k) p.sema
 hidG:∀k,tT (vs k) p.wg/\(vs k).heap[p.ch]?=some (.coro none)
 now:∀j k,aK om Rk j k->k≠p.mu/\k≠p.wg/\k≠p.ch
 ne:p.mu≠p.wg/\p.mu≠p.ch/\p.wg≠p.ch
 word:r.cell? p.word=some (.int .i32 D.x)
 sema:r.cell? p.sema=some (.int .u32 D.bu)
 fz:r.frozen? p.word=false/\r.frozen? p.sema=false
 wgb:r.heap[p.wg]?=some (.cells #[.int .u64 D.st,.int .u32 D.sm] 156 (0,0))
 chb:∃s' rc tm,r.heap[p.ch]?=some (.chan 0 #[] D.cl s' rc tm)
 lock:D.jn=false->(∀(i:Nat) (q:Ps),D.l[i+1]?=some q->¬bQ q)->∃hL,p.LI D.s hL/\Sl (aK om Rk 0) (vs 0) hL
 held:(D.jn=true\/∃(i:Nat) (q:Ps),D.l[i+1]?=some q/\bQ q)->∀b,¬aK om Rk 0 b->b<r.heap.size->ml (vs 0) b
 rd:D.jn=false->∃hR,p.R hR/\(∀i x,hR i=some x->x.1=true/\r.heap[i]?=some x.2/\Af x.2)/\∀i,Rk i↔∃x,hR i=some x
 jnR:D.jn=true->∀k,¬Rk k
structure Fp(p:cn)(r r':Xo):Prop where
 size:r'.heap.size=r.heap.size
 tape:r'.tape=r.tape
 out:r'.output=r.output
 os:OsLater r.os r'.os
 oth:∀k,k≠p.mu->k≠p.wg->k≠p.ch->r'.heap[k]?=r.heap[k]?
 mu:∀c e f,r.heap[p.mu]?=some (.cells c e f)->∃c',r'.heap[p.mu]?=some (.cells c' e f)/\c'.size=c.size/\∀i:Nat,2<=i->c'[i]?=c[i]?
 wg:∀c e f,r.heap[p.wg]?=some (.cells c e f)->∃c',r'.heap[p.wg]?=some (.cells c' e f)/\c'.size=c.size
 ch:∀o,r.heap[p.ch]?=some o->(∀c e f,o≠.cells c e f)->∃o',r'.heap[p.ch]?=some o'/\∀c e f,o'≠.cells c e f
section
variable{F:Xn Nat->cn}{p:cn}{om Rk:Nat->Prop}{D D':gm}{vs vs':Nat->Xo}{r r':Xo}
variable {old:Nat->Prop} {v:Xo}
def Va (h:pH old v r) (b:Fp p r r') (L:pI v p.word/\pI v p.sema) (N:tT v p.wg/\v.heap[p.ch]?=some (.coro none)) (s:∀k,old k->k≠p.mu/\k≠p.wg/\k≠p.ch):pH old { v with drawn:=r'.drawn } r':=by
 obtain⟨Q,O,q3,P,R,S⟩:=h;obtain⟨⟨c0,e0,f0,m,M⟩,⟨T,U,V,W,B⟩⟩:=L;cases m.symm.trans W;have⟨G,t⟩:=N;have n:¬old p.mu/\¬old p.wg/\¬old p.ch:=⟨λh=>(s _ h).1 rfl,λh=>(s _ h).2.1 rfl,λh=>(s _ h).2.2 rfl⟩;refine @Vw.mk (bI old) _ _ (b.size.trans Q) (b.tape.trans O) rfl (λk c e f H=>?_) (λk H=>?_) (λk o H u E=>?_)
 .have⟨X,d,l,Y⟩:=P k c e f H;by_cases K:k=p.mu
  .subst K;have⟨C,w,y,h6⟩:=b.mu _ _ _ d;refine⟨C,w,y.trans l,λi x q a=>?_⟩;rw[show p.word.block=p.mu from rfl,H]at m;cases m;rcases X8 i 2 with Z|Z
   .exfalso;have hh:x=hole:=by
     rcases(by omega:i=0\/i=1)with rfl|rfl
     .rw[show p.word.off=0 from rfl,q]at M;exact Xt M
     .rw[show p.sema.off=1 from rfl,q]at B;exact Xt B
    rcases a with a|a
    .exact n.1 a
    grind
   grind
  .by_cases g:k=p.wg
   .subst g;have⟨C,w,y⟩:=b.wg _ _ _ d;refine⟨C,w,y.trans l,λi x q a=>?_⟩;exfalso;have⟨I,J,f9,A,z⟩:=G;rw[H]at A;cases A;rcases a with a|a
    .exact n.2.1 a
    .exact a (z i x q)
   .by_cases j:k=p.ch
    .subst j;rw[H]at t;cases t
    .rw[b.oth k K g j];exact⟨X,d,l,Y⟩
 .have⟨o,d,l⟩:=R k H;by_cases K:k=p.mu
  .subst K;have:=H.2;rw[show p.word.block=p.mu from rfl]at m;rw[m]at this;cases this
  .by_cases g:k=p.wg
   .subst g;have⟨I,J,f9,A,z⟩:=G;have:=H.2;rw[A]at this;cases this
   .by_cases j:k=p.ch
    .subst j;exact b.ch o d l
    .rw[b.oth k K g j];exact⟨o,d,l⟩
 .have d:=S k o H u E;by_cases K:k=p.mu
  .subst K;rw[show p.word.block=p.mu from rfl]at m;rw[m]at H;exact XG (Xt H).symm (u _ _ _)
  .by_cases g:k=p.wg
   .subst g;have⟨I,J,f9,A,z⟩:=G;rw[H]at A;exact XG (Xt A) (u _ _ _)
   .by_cases j:k=p.ch
    .subst j;exact XG ⟨n.2.2,t⟩ E
    .rw[b.oth k K g j];exact d
def WI.sh(h:WI F p om Rk D vs r)(m:Fp p r r')(hv:∀k,(vs' k).heap=(vs k).heap/\(vs' k).tape=(vs k).tape/\(vs' k).drawn=r'.drawn):mZ (aK om Rk) vs' r':=by
 refine⟨λj=>?_,λj k H=>by rw[m.size];exact h.views.lt j k H,λj k i=>?_⟩
 .obtain⟨y,z,B,q,Q,n⟩:=Va (h.views.vw j) m (h.hidW j) (h.hidG j) λk H=>h.now j k H;have⟨E,d,s⟩:=hv j;refine @Vw.mk (bI _) _ _ (by grind) (by grind) (by rw[s]) (λk c e f H=>q k c e f (by grind)) (λk H=>Q k ⟨H.1,by rw[<- E];exact H.2⟩) (λk o H t u=>n k o (by grind) t λa=>u ⟨a.1,by rw[E];exact a.2⟩)
 .have g:=h.views.sep j k i;have⟨E,_,_⟩:=hv j;have⟨d,_,_⟩:=hv k;exact⟨λb C w=>by rw[E,d];exact g.cells b C w,λb x X=>by rw[E,d];exact g.obj b x X,λb A l=>kO (by rw[d]) (g.left b A l),λb A l=>kO (by rw[E]) (g.right b A l)⟩
variable {k:Nat}
def tT.Vb (h:tT v k):ml v k:=.inl (by obtain⟨c,e,f,H,a⟩:=h;exact⟨c,e,f,H,a⟩)
def WI.dj(h:WI F p om Rk D vs r):Dj r.heap.size (λg l=>g<=D.f/\dY (aK om Rk (g+1)) (vs (g+1)) l) (dY (aK om Rk 0) (vs 0)) (oO (aK om Rk 0)) (qi p):=by
 have lt:∀j l,dY (aK om Rk j) (vs j) l->j7 l<r.heap.size:=λj l b=>by rw[<- h.views.size j];exact b.2.lt
 have c:∀l,oO (aK om Rk 0) l->aK om Rk 0 (j7 l):=λl b=>by cases l<;>first|exact b|exact b.elim
 have N:∀j l,dY (aK om Rk j) (vs j) l->¬qi p l:=λj l b d=>by
  have⟨⟨C,E,f0,m,M⟩,⟨x,y,f1,z,A⟩⟩:=h.hidW j;have⟨G,s⟩:=h.hidG j;cases l with
  | cell a=>
   rcases d with rfl|rfl|d
   .have⟨_,o,P,t,_⟩:=b
    grind
   .have⟨_,o,P,t,_⟩:=b
    grind
   .exact lT (by show ml _ a.block;rw[d];exact G.Vb) b.2
  | obj k=>
   obtain rfl:k=p.ch:=d;exact lT (.inr s) b.2
  | _=>exact d
 have n:∀j l,dY (aK om Rk j) (vs j) l->¬oO (aK om Rk 0) l:=λj l b u=>by
  have H:=c l u;by_cases q:j=1
  .subst q;have:=(h.views.sep 1 0 (by omega)).right (j7 l) H b.1;exact lT this b.2
  .apply b.1;rcases H with H|⟨_,H⟩
   .exact .inl H
   .exact .inr ⟨q,H⟩
 refine⟨λk K l H e=>?_,λk l H e=>(h.views.sep (k+1) 0 (by omega)).nn (h.views.vw _) (h.views.vw _) H.2 e,λk l H=>n _ l H.2,λk l H=>N _ l H.2,λl H=>n _ l H,λl H=>N _ l H,λl H e=>?_,λk l H=>lt _ l H.2,λl H=>lt _ l H,λl H=>h.views.lt 0 _ (c l H),λl d=>?_⟩
 .exact YQ λw=>(h.views.sep (k+1) (K+1) (by omega)).nn (h.views.vw _) (h.views.vw _) H.2 e.2
 .have i:=h.now 0 _ (c l H);cases l with
  | cell a=>
   rcases e with rfl|rfl|e
   .exact i.1 rfl
   .exact i.1 rfl
   .exact i.2.1 e
  | obj k=>exact i.2.2 e
  | _=>exact e
 .cases l with
  | cell a=>
   rcases d with rfl|rfl|d
   .have⟨_,_,_,m,_⟩:=(h.hidW 0).1;rw[<- h.views.size 0];exact kq m
   .have⟨_,_,_,m,_⟩:=(h.hidW 0).2;rw[<- h.views.size 0];exact kq m
   .show a.block<_;rw[d];exact kq h.wgb
  | obj k=>
   obtain rfl:k=p.ch:=d;have⟨_,_,_,H⟩:=h.chb;exact kq H
  | _=>exact d.elim
def C0 {w:Xo} (h:w.os=v.os):dN w=dN v:=by unfold dN;rw[h]
def tU (h:@Kept (bI old) v r r') (g:ml v k) (a:¬old k):r'.heap[k]?=r.heap[k]?:=by
 obtain⟨_,_,_,_,_,q,Q,_⟩:=h;rcases g with⟨c,e,f,H,j⟩|H
 .have⟨C,s,A,l,t,u,m⟩:=q k c e f H;rw[A,l];congr 2;apply Y9;intro i;rcases X8 i c.size with b|b
  .have d:=XL b;exact m i _ d λn=>n.elim a λo=>o (j i _ d)
  grind
 .exact Q k ⟨a,H⟩
variable {a:YO}
def rJ (h:@Kept (bI old) v r r') (H:pI v a) (b:¬old a.block):r'.cell? a=r.cell? a/\r'.frozen? a=r.frozen? a:=by
 obtain⟨_,_,_,_,_,q,_,_⟩:=h;have⟨c,e,f,d,g⟩:=H;have⟨C,n,A,i,o,s,j⟩:=q _ c e f d;unfold World.cell? World.frozen?;rw[A,i];simp only;rw[j _ _ g λl=>l.elim b λm=>m rfl]
 grind
variable {v':Xo}
def BF (h:@po (bI old) v v') (H:pI v a) (b:¬old a.block):pI v' a:=by
 obtain⟨d,_⟩:=h;have⟨c,e,f,g,G⟩:=H;have⟨C,i,A,n,j⟩:=d _ _ _ _ g;exact⟨C,e,i,A,j _ _ G λl=>l.elim b λm=>m rfl⟩
def KW (h:@po (bI old) v v') (b:tT v k) (d:¬old k):tT v' k:=by
 obtain⟨g,_⟩:=h;have⟨c,e,f,G,j⟩:=b;have⟨C,l,A,s,m⟩:=g _ _ _ _ G;refine⟨C,e,l,A,λi x t=>?_⟩;have n:i<c.size:=by grind
 have H:=XL n;have:=m i _ H λo=>o.elim d λq=>q (j i _ H)
 grind
def Fq (h:k<v.heap.size->ml v k) (c:k<r'.heap.size):ml (ext v r') k:=by
 rcases X8 k v.heap.size with H|b
 .exact(h H).ext
 .have:=lH (r':=r') b;rw[XL c]at this;exact vJ this
def WI.yR(h:WI F p om Rk D vs r)(j:Nat):¬aK om Rk j p.mu/\¬aK om Rk j p.wg/\¬aK om Rk j p.ch:=⟨λe=>(h.now j _ e).1 rfl,λe=>(h.now j _ e).2.1 rfl,λe=>(h.now j _ e).2.2 rfl⟩
def WI.KX (h:WI F p om Rk D vs r) {i:Nat} (Y:i<=D.f) (hv:pH (aK om Rk (i+1)) v' r') (c:@Kept (bI (aK om Rk (i+1))) (vs (i+1)) r r') (t:@po (bI (aK om Rk (i+1))) (vs (i+1)) v') (u:v'.os=(vs (i+1)).os):
 WI F p om Rk D (k9 vs (i+1) v' r') r':=by
 have P:r.heap.size<=r'.heap.size:=by obtain⟨_,_,_,Q,_⟩:=c;exact Q
 have⟨N,L,M⟩:=h.yR (i+1);have H:∀k,k≠i+1->k9 vs (i+1) v' r' k=ext (vs k) r':=λk c=>by unfold k9;rw[Xx c]
 have e:k9 vs (i+1) v' r' (i+1)=v':=by unfold k9;rw[XE rfl]
 refine⟨h.views.step hv c t,λj q m=>?_,λk E b w n=>?_,λk=>?_,λk=>?_,h.now,h.ne,?_,?_,?_,?_,?_,λm G=>?_,λm b w n=>?_,λm=>?_,h.jnR⟩
 .have⟨d,A⟩:=h.gh j q m;by_cases I:j=i
  .subst I;rw[e];exact⟨(C0 u).trans d,by rw[u];exact A⟩
  .rw[H _ (by omega)];exact⟨(C0 rfl).trans d,A⟩
 .rw[H _ (by omega)];exact Fq (λo=>h.unf k E b w (by rw[<- h.views.size k];exact o)) n
 .have⟨d,A⟩:=h.hidW k;by_cases g:k=i+1
  .subst g;rw[e];exact⟨BF t d N,BF t A N⟩
  .rw[H _ g];have⟨J,K,f1,B,l⟩:=d;have⟨R,S,f2,s,T⟩:=A;exact⟨⟨J,K,f1,by rw[fZ (kq B)];exact B,l⟩,⟨R,S,f2,by rw[fZ (kq s)];exact s,T⟩⟩
 .have⟨d,A⟩:=h.hidG k;by_cases g:k=i+1
  .subst g;rw[e];obtain⟨_,w⟩:=id t;exact⟨KW t d L,w _ ⟨M,A⟩⟩
  .rw[H _ g];have⟨J,K,f1,B,l⟩:=d;exact⟨⟨J,K,f1,by rw[fZ (kq B)];exact B,l⟩,by rw[fZ (kq A)];exact A⟩
 .rw[(rJ c (h.hidW (i+1)).1 N).1];exact h.word
 .rw[(rJ c (h.hidW (i+1)).2 N).1];exact h.sema
 .rw[(rJ c (h.hidW (i+1)).1 N).2,(rJ c (h.hidW (i+1)).2 N).2];exact h.fz
 .rw[tU c (h.hidG (i+1)).1.Vb L];exact h.wgb
 .rw[tU c (.inr (h.hidG (i+1)).2) M];exact h.chb
 .have⟨U,d,A⟩:=h.lock m G;refine⟨U,d,λb x z=>?_⟩;have⟨B,l,s⟩:=A b x z;rw[H 0 (by omega)];exact⟨by rw[fZ (kq B)];exact B,l,s⟩
 .exact Fq (λo=>h.held m b w (by rw[<- h.views.size 0];exact o)) n
 .have⟨V,d,A,O⟩:=h.rd m;refine⟨V,d,λb x z=>?_,O⟩;have⟨B,l,s⟩:=A b x z;refine⟨B,?_,s⟩;have y:=(O b).2 ⟨x,z⟩;by_cases C:aK om Rk (i+1) b
  .obtain⟨_,_,_,_,W,_⟩:=c;rw[W b C];exact l
  .cases YQ λX=>C (.inr ⟨by omega,y⟩);rw[tU c ((h.views.sep 1 0 (by omega)).right b (.inr ⟨by omega,y⟩) C) C];exact l
end
end
section
open Go Go.Conc Go.ConcN Go.ConcM
open Go.ConcR (KK wgBlock WgAt stA smA rd wr mk Payload Aside2 DC0)
abbrev pay:Payload:=⟨0⟩
attribute [local instance] pay
abbrev Up:Nat->Loc->Prop:=λ_ _=>False
abbrev Tj(p:cn)(C:Nat):Xo->Xo->Prop:=RW 156 p.wg C 1 0 0
abbrev yS(p:cn)(C:Nat)(S:XF->Xo->Prop):Nat->XF->Xo->Prop:=Goes prog false (Tj p C) DC0 S
abbrev Sm(p:cn)(C:Nat)(z:Xp):Nat->XF->Xo->Prop:=Goes prog false (Tj p C) DC0 (AtR0 prog 156 p.wg C 1 0 1 z)
structure BG(p:cn)(old:Nat->Prop)(g:XF)(v:Xo):Prop where
 run:g.status=.running
 at_:(dN v).th=.out/\(dN v).c=p.len (dN v).i
 go:∃C z m,old C/\v.cell? ⟨C,0,none⟩=some z/\∀w,WgLive 156 p.wg w/\Has C 0 z w->Sm p C z m g w
structure Xh(p:cn)(old:Nat->Prop)(m:Nat)(g:XF)(w:Xo):Prop where
 go:∃C z,old C/\Sm p C z m g w
structure Fs(old:Nat->Prop)(Q:Xp->Prop)(g:XF)(v:Xo):Prop where
 run:g.status=.running
 at_:(dN v).th=.out
 go:∃u,Q u/\∃es,(∀e∈es,@iM (bI old) v e/\@GZ (bI old) v e/\Dy v e)/\∀r,pH old v r->stepG prog true g r=.ended (.done u) r es
def Tr.nat:Nat->Tr
 | 0=>.leaf
 | n+1=>.node λ_=>Tr.nat n
def Tr.NS(n:Nat):Tr.Lt (Tr.nat n) (Tr.nat (n+1)):=⟨_,default,rfl,rfl⟩
abbrev P9(F:Xn Nat->cn)(p:cn)(old:Nat->Prop):Tr->XF->Xo->Prop:=@P7 (fN F old) false (BG p old)
abbrev QZ(F:Xn Nat->cn)(om:Nat->Prop)(Q:Xp->Prop):Tr->XF->Xo->Prop:=@P7 (fN F om) true (Fs om Q)
variable {F:Xn Nat->cn} {T:Tr} {g:XF} {v v1:Xo}
def nc {p:cn} {old:Nat->Prop} (h:P9 F p old T g v) (H:Ry v v1):P9 F p old T g v1:=@P7.rely (fN F old) false _ g v v1 T h H
def yT {o:Nat->Prop} {Q:Xp->Prop} (h:QZ F o Q T g v) (H:Ry v v1):QZ F o Q T g v1:=@P7.rely (fN F o) true _ g v v1 T h H
inductive gr(F:Xn Nat->cn)(p:cn)(old:Nat->Prop)(D:gm)(r v:Xo):Nat->Nat->Tr->XF->Prop
 | go {T g:_} (h:P9 F p old T g v) (hs:g.status=.running):gr F p old D r v (dN v).th.deaf 7 T g
 | blk {g j:_} (h:P9 F p old .leaf g v) (hs:g.status=.running) (ho:g.offers=none) (hq:(dN v).th=.queued j) (hz:D.bu=0):gr F p old D r v 1 7 .leaf { g with status:=.blocked }
 | tV {g z:_} (h:P9 F p old .leaf g v) (hs:g.status=.running) (hn:(dN v).th=.new) (hc:D.cl=false):gr F p old D r v 0 7 .leaf (parked g #[rcase p.ch z] (.recv false))
 | NT {g z:_} (h:P9 F p old .leaf g v) (hs:g.status=.running) (hn:(dN v).th=.new) (hc:D.cl=true):gr F p old D r v 0 7 .leaf { parked g #[rcase p.ch z] (.recv false)with status:=.running }
 | r0 {m g:_} (h:Xh p old m g r):gr F p old D r v 0 6 (.nat m) g
 | k1 {m g C:_} (hC:old C) (h:yS p C (AtK1 prog 156 p.wg C 1 0 1) m g r):gr F p old D r v 0 5 (.nat m) g
 | d1 {m g C:_} (hC:old C) (h:yS p C (AtD1 prog 156 p.wg C 1 0 1) m g r):gr F p old D r v 1 4 (.nat m) g
 | d2 {m g C:_} (hC:old C) (h:yS p C (AtD2 prog 156 p.wg C 1 0 1) m g r):gr F p old D r v 1 3 (.nat m) g
 | d3 {m g C:_} (hC:old C) (h:yS p C (AtD3 prog 156 p.wg C 1 0 1) m g r):gr F p old D r v 1 2 (.nat m) g
 | d4 {m g C:_} (hC:old C) (h:yS p C (AtD4 prog 156 p.wg) m g r):gr F p old D r v 1 1 (.nat m) g
 | quit {m d g:_} (h:QuitsD prog m d g):gr F p old D r v d 0 (.nat m) g
inductive pK(F:Xn Nat->cn)(om:Nat->Prop)(Q:Xp->Prop)(D:gm)(v:Xo):Tr->XF->Prop
 | go {T g:_} (h:QZ F om Q T g v) (hs:g.status=.running):pK F om Q D v T g
 | blk {g:_} (h:QZ F om Q .leaf g v) (hs:g.status=.running) (ho:g.offers=none) (hq:(∃j,(dN v).th=.queued j/\D.bu=0)\/((dN v).th=.wt4/\D.sm=0)):pK F om Q D v .leaf { g with status:=.blocked }
structure Uq(p:cn)(old:Nat->Prop)(r r':Xo):Prop where
 old:∀k,old k->r'.heap[k]?=r.heap[k]?
 wg:WgLive 156 p.wg r'
section
variable{F:Xn Nat->cn}{p:cn}{old om:Nat->Prop}{Q:Xp->Prop}{D D':gm}{r r' v v':Xo}{d k:Nat}{T:Tr}{g a a':XF}{wk:XN}
variable {C:Nat}
def Uq.rw (h:Uq p old r r') (H:old C):Tj p C r r':=by
 have e:=h.old C H;refine⟨λb j=>by omega,λ_=>h.wg,λc=>?_,by simp[World.cell?,e]⟩;have⟨f,l,i⟩:=c;exact⟨f,by grind,i⟩
def oQ:∀a b c,Tj p C a b->Tj p C b c->Tj p C a c:=λa b c h k=>
 ⟨λb H=>by omega,λx=>k.live (h.live x),λx=>k.pay (h.pay x),k.cell.trans h.cell⟩
noncomputable def nL(a a':XF):XN:=mayWake prog a&&a'.status != .blocked&&a'.status != .waiting
def BH{w:Xo}(h:g.status=.running\/g.status=.finished):g.again w=g:=again_running w h
def gr.status(h:gr F p old D r v d k T g):g.status=.running\/g.status=.finished\/(g.status=.blocked/\k=7):=by
 cases h with
 | go h e=>exact .inl e
 | blk=>exact .inr (by grind)
 | tV=>exact .inr (.inr ⟨rfl,rfl⟩)
 | NT=>exact .inl rfl
 | r0 h=>obtain⟨C,z,_,f⟩:=h.go;exact .inl (Goes.running (λ_ _ h=>h.1) r ⟨λb H=>by omega,id,id,rfl⟩ f)
 | k1 c h=>exact .inl (Goes.running (λ_ _ h=>h.1) r ⟨λb H=>by omega,id,id,rfl⟩ h)
 | d1 c h=>exact .inl (Goes.running (λ_ _ h=>h.1) r ⟨λb H=>by omega,id,id,rfl⟩ h)
 | d2 c h=>exact .inl (Goes.running (λ_ _ h=>h.1) r ⟨λb H=>by omega,id,id,rfl⟩ h)
 | d3 c h=>exact .inl (Goes.running (λ_ _ h=>h.1) r ⟨λb H=>by omega,id,id,rfl⟩ h)
 | d4 c h=>exact .inl (Goes.running (λ_ _ h=>h.1) r ⟨λb H=>by omega,id,id,rfl⟩ h)
 | quit h=>exact h.status.elim .inl λh=>.inr (.inl h)
def gr.other(h:gr F p old D r v d k T g)(l:Ry v v')(c:Uq p old r r'\/k=0)(n:wk=true\/(D.bu=0->D'.bu=0))(x:D'.cl=D.cl\/(wk=true/\D'.cl=true))(i:∃S R t,r'.heap[p.ch]?=some (.chan 0 #[] D'.cl S R t)) :
 gr F p old D' r' v' d k T (if wk=true then g.again r' else g):=by
 have m:=vt l;have run:(g.status=.running\/g.status=.finished)->(if wk=true then g.again r' else g)=g:=λb=>by
  split
  .exact BH b
  .rfl
 cases h with
 | go h b=>
  rw[run (.inl b),<- m];exact .go (nc h l) b
 | @blk g0 j h b q u y=>
  split
  .rename_i s;have e:({ g0 with status:=.blocked }:XF).again r'=g0:=by
    have⟨G,I,st,J,of⟩:=g0;simp only at b q;subst b q;rfl
   rw[e];have E:(dN v').th.deaf=1:=by rw[m,u];rfl
   rw[<- E];exact .go (nc h l) b
  .rename_i s;exact .blk (nc h l) b q (m▸u) ((n.resolve_left (by simpa using s)) y)
 | @tV g0 z h b o A=>
  have⟨S,R,t,i⟩:=i;split
  .cases f:D'.cl with
   | true=>
    rw[f]at i;rw[again_recv_closed i];exact .NT (nc h l) b (m▸o) f
   | false=>
    rw[f]at i;rw[again_recv_open i];exact .tV (nc h l) b (m▸o) f
  .rename_i s;refine .tV (nc h l) b (m▸o) ?_
   grind
 | @NT g0 z h b o A=>
  rw[run (.inl rfl)];refine .NT (nc h l) b (m▸o) ?_
  grind
 | r0 h=>
  rw[run ((gr.status (F:=F) (D:=D) (v:=v) (.r0 h)).elim .inl λh=>h.elim .inr λh=>by omega)];have⟨C,z,w,B⟩:=h.go;exact .r0 ⟨C,z,w,Goes.rely oQ B ((c.resolve_right (by omega)).rw w)⟩
 | k1 H h=>
  rw[run ((gr.status (F:=F) (D:=D) (v:=v) (.k1 H h)).elim .inl λh=>h.elim .inr λh=>by omega)];exact .k1 H (Goes.rely oQ h ((c.resolve_right (by omega)).rw H))
 | d1 H h=>
  have c:=c.resolve_right (by omega);rw[run ((gr.status (F:=F) (D:=D) (v:=v) (.d1 H h)).elim .inl λh=>h.elim .inr λh=>by omega)];exact .d1 H (Goes.rely oQ h (c.rw H))
 | d2 H h=>
  have c:=c.resolve_right (by omega);rw[run ((gr.status (F:=F) (D:=D) (v:=v) (.d2 H h)).elim .inl λh=>h.elim .inr λh=>by omega)];exact .d2 H (Goes.rely oQ h (c.rw H))
 | d3 H h=>
  have c:=c.resolve_right (by omega);rw[run ((gr.status (F:=F) (D:=D) (v:=v) (.d3 H h)).elim .inl λh=>h.elim .inr λh=>by omega)];exact .d3 H (Goes.rely oQ h (c.rw H))
 | d4 H h=>
  have c:=c.resolve_right (by omega);rw[run ((gr.status (F:=F) (D:=D) (v:=v) (.d4 H h)).elim .inl λh=>h.elim .inr λh=>by omega)];exact .d4 H (Goes.rely oQ h (c.rw H))
 | quit h=>
  rw[run (h.status)];exact .quit h
def pK.status(h:pK F om Q D v T g):g.status=.running\/g.status=.blocked:=by
 cases h with
 | go h H=>exact .inl H
 | blk=>exact .inr rfl
def pK.other(h:pK F om Q D v T g)(b:Ry v v')(c:wk=true\/((D.bu=0->D'.bu=0)/\(D.sm=0->D'.sm=0))):pK F om Q D' v' T (if wk=true then g.again r' else g):=by
 have i:=vt b;cases h with
 | go h H=>
  have:(if wk=true then g.again r' else g)=g:=by
   split
   .exact BH (.inl H)
   .rfl
  rw[this];exact .go (yT h b) H
 | @blk g0 h H f j=>
  split
  .have e:({ g0 with status:=.blocked }:XF).again r'=g0:=by
    have⟨l,m,st,n,of⟩:=g0;subst H f;rfl
   rw[e];exact .go (yT h b) H
  .refine .blk (yT h b) H f ?_
   grind
end
end
section
open Go Go.Conc Go.ConcN Go.ConcM
open Go.ConcR (KK wgBlock WgAt stA smA rd wr mk Payload Aside2 DC0)
def oR(o Rk:Nat->Prop)(D:gm)(vs:Nat->Xo)(g:Nat)(l:Loc):Prop:=g<=D.f/\dY (aK o Rk (g+1)) (vs (g+1)) l
structure MI(F:Xn Nat->cn)(p:cn)(om Rk:Nat->Prop)(Q:Xp->Prop)(W0:Xo)(D:gm)(vs:Nat->Xo)(T:Xn Tr)(gs:Xv XF)(r:Xo)(t:Trace):Prop where
 ai:AI p D
 wi:WI F p om Rk D vs r
 ti:TI t D.f r.heap.size (oR om Rk D vs) (dY (aK om Rk 0) (vs 0)) (oO (aK om Rk 0)) (qi p) p.word
 rl:∀i k,D.sg[i+1]?=some k->k<=5->∃q,Rl p.st (qi p) t (i+1) q
 ho:D.jn=true->t.HandedOver
 gsz:gs.size=D.f+1
 tsz:T.length=D.f+1
 main:∃g T0 q,gs[0]?=some g/\T[0]?=some T0/\D.l[0]?=some q/\Deaf t 0=q.th.deaf/\pK F om Q D (vs 1) T0 g
 wk:∀i,i<D.f->∃g Ti k,gs[i+1]?=some g/\T[i+1]?=some Ti/\D.sg[i+1]?=some k/\gr F p (aK om Rk (i+2)) D r (vs (i+2)) (Deaf t (i+1)) k Ti g
 os:OsLater W0.os r.os
 tape:r.tape=W0.tape
 out:r.output=W0.output
 keep:∀k,om k->r.heap[k]?=W0.heap[k]?
section
variable{F:Xn Nat->cn}{p:cn}{om Rk:Nat->Prop}{Q:Xp->Prop}{W0:Xo}{D D':gm}{vs vs':Nat->Xo}{T:Xn Tr}{gs:Xv XF}{r r':Xo}{t:Trace}
variable {old:Nat->Prop} {v:Xo}
def lA {w:Xo} {l:Loc} (h:w.heap=v.heap) (s:dY old w l):dY old v l:=⟨s.1,s.2.of_eq (by rw[h])⟩
def WI.KV(h:WI F p om Rk D vs r)(j:Fp p r r')(hv:∀k,(vs' k).heap=(vs k).heap/\(vs' k).tape=(vs k).tape/\(vs' k).drawn=r'.drawn)(hf:D'.f=D.f)(w:∀(i:Nat) (q:Ps),D'.l[i]?=some q->dN (vs' (i+1))=q/\F (vs' (i+1)).os.sigPending=p)
 (h1:r'.cell? p.word=some (.int .i32 D'.x)) (m:r'.cell? p.sema=some (.int .u32 D'.bu)) (L:r'.heap[p.wg]?=some (.cells #[.int .u64 D'.st,.int .u32 D'.sm] 156 (0,0))) (M:∃S R N,r'.heap[p.ch]?=some (.chan 0 #[] D'.cl S R N))
 (O:D'.s=D.s) (H:D'.jn=D.jn) (y:(∀(i:Nat) (q:Ps),D'.l[i+1]?=some q->¬bQ q)->∀(i:Nat) (q:Ps),D.l[i+1]?=some q->¬bQ q) (z:(∃(i:Nat) (q:Ps),D'.l[i+1]?=some q/\bQ q)->∃(i:Nat) (q:Ps),D.l[i+1]?=some q/\bQ q) :
 WI F p om Rk D' vs' r':=by
 have n:∀k b,ml (vs k) b->ml (vs' k) b:=λk b n=>kO (by grind) n;have E:r'.frozen? p.word=false/\r'.frozen? p.sema=false:=by
  have:=h.fz;have⟨c,e,f,A,o⟩:=(h.hidW 0).1;obtain⟨_,_,_,P,_,_⟩:=h.views.vw 0;obtain⟨C,B,_⟩:=P _ _ _ _ A;have⟨J,a,_⟩:=j.mu _ _ _ B;unfold World.frozen? at this |-;rw[show p.word.block=p.mu from rfl,show p.sema.block=p.mu from rfl]at this |-;rw[show p.word.block=p.mu from rfl]at B
  grind
 refine⟨h.sh j hv,w,λk hk b h1 m=>n k b (h.unf k (by omega) b h1 (by rw[<- j.size];exact m)),λk=>?_,λk=>?_,h.now,h.ne,h1,m,E,L,M,λd G=>?_,λd b h1 m=>n 0 b (h.held (d.imp (λe=>by grind) z) b h1 (by rw[<- j.size];exact m)),λd=>?_,λd=>h.jnR (by rw[<- H];exact d)⟩
 .have⟨⟨C,I,f1,B,a⟩,⟨J,U,f2,g,V⟩⟩:=h.hidW k;exact⟨⟨C,I,f1,by rw[(hv k).1];exact B,a⟩,⟨J,U,f2,by rw[(hv k).1];exact g,V⟩⟩
 .have⟨⟨C,I,f1,B,a⟩,g⟩:=h.hidG k;exact⟨⟨C,I,f1,by rw[(hv k).1];exact B,a⟩,by rw[(hv k).1];exact g⟩
 .have⟨W,A,o⟩:=h.lock (by rw[<- H];exact d) (y G);refine⟨W,by rw[O];exact A,λb x u=>?_⟩;have⟨B,a,g⟩:=o b x u
  grind
 .have⟨X,A,o,K⟩:=h.rd (by rw[<- H];exact d);refine⟨X,A,λb x u=>?_,K⟩;have⟨B,a,g⟩:=o b x u;have⟨Y,Z,n3⟩:=h.now 0 b (.inr ⟨by omega,(K b).2 ⟨x,u⟩⟩);exact⟨B,by rw[j.oth b Y Z n3];exact a,g⟩
variable {a:Nat} {q q':Ps}
def Ft {l:Xn Ps} (d:l[a]?=some q) (f:a=0\/(bQ q'↔bQ q)):
 ((∀(i:Nat) (x:Ps),(l.set a q')[i+1]?=some x->¬bQ x)->∀(i:Nat) (x:Ps),l[i+1]?=some x->¬bQ x)/\((∃(i:Nat) (x:Ps),(l.set a q')[i+1]?=some x/\bQ x)->∃(i:Nat) (x:Ps),l[i+1]?=some x/\bQ x):=by
 have b:=(Xw.1 d).1;refine⟨λh i x c H=>?_,λ⟨i,x,c,H⟩=>?_⟩
 .by_cases e:a=i+1
  .subst e;rw[d]at c;cases c;exact h i q' (X2 b) (by grind)
  .exact h i x (by grind) H
 .grind
def OsLater.tr{a b c:Os}(h:OsLater a b)(k:OsLater b c):OsLater a c:=by
 obtain⟨d,rfl⟩:=h;obtain⟨e,rfl⟩:=k;exact⟨d+e,by grind⟩
def MI.VY(h:WI F p om Rk D vs r)(b:Fp p r r')(H:∃st sm:Nat,r'.heap[p.wg]?=some (.cells #[.int .u64 st,.int .u32 sm] 156 (0,0)))(j:Nat):Uq p (aK om Rk j) r r':=by
 refine⟨λk c=>?_,?_⟩
 .have⟨n,N,d⟩:=h.now j k c;exact b.oth k n N d
 .have⟨st,sm,H⟩:=H;exact⟨st,sm,H⟩
variable {i:Nat} {T':Tr}
def Fu {T:Xn Tr} (h:a≠i):(T.set a T')[i]?=T[i]?:=Yv h
structure Ur(gs gs':Xv XF)(a:Nat)(g':XF)(wk:XN)(r':Xo):Prop where
 size:gs'.size=gs.size
 own:gs'[a]?=some g'
 oth:∀i g,a≠i->gs[i]?=some g->gs'[i]?=some (if wk=true then g.again r' else g)
variable {g g':XF}
def j8 {gs:Xv XF} {r':Xo} (h:gs[a]?=some g):Ur gs ((gs.map (woken prog g g' r')).setIfInBounds a g') a g' (nL g g') r':=by
 refine⟨by simp,by grind,λi x H b=>?_⟩;rw[XJ H,aaU,b];rfl
def Je {gs:Xv XF} {r':Xo} (h:gs[a]?=some g):Ur gs (gs.setIfInBounds a g') a g' false r':=by
 refine⟨by simp,by grind,λi x H b=>?_⟩
 grind
variable {gs':Xv XF} {wk:XN} {v':Xo}
def MI.nb {u:Trace} {T':Tr} (h:MI F p om Rk Q W0 D vs T gs r t) (ha:gs[a]?=some g) (J:Ur gs gs' a g' wk r') (U:D.l[a]?=some q) (hl:D'.l=D.l.set a q') (B:D'.sg=D.sg) (C:D'.f=D.f) (hs:D'.s=D.s) (K:D'.jn=D.jn) (X:AI p D') (E:Fp p r r') (h1:r'.cell? p.word=some (.int .i32 D'.x)) (h2:r'.cell? p.sema=some (.int .u32 D'.bu)) (h3:r'.heap[p.wg]?=some (.cells #[.int .u64 D'.st,.int .u32 D'.sm] 156 (0,0))) (h4:∃s' rc tm,r'.heap[p.ch]?=some (.chan 0 #[] D'.cl s' rc tm)) (G:v'={ vs (a+1)with os:=ji (vs (a+1)).os q',drawn:=r'.drawn }) (hH:a=0\/(bQ q'↔bQ q)) (w:∀O∈u,P8 r.heap.size r.heap.size (oR om Rk D vs) (oO (aK om Rk 0)) (qi p) a O) (hd:Deaf (t++u) a=q'.th.deaf) (L:wk=true\/((D.bu=0->D'.bu=0)/\(D.sm=0->D'.sm=0))) (Y:D'.cl=D.cl\/(wk=true/\D'.cl=true)) (h0:a=0->pK F om Q D' v' T' g') (Z:a≠0->D.sg[a]?=some 7/\gr F p (aK om Rk (a+1)) D' r' v' q'.th.deaf 7 T' g'):
 ∃vs',MI F p om Rk Q W0 D' vs' (T.set a T') gs' r' (t++u):=by
 have aa:a<=D.f:=by have:=(Xz.1 ha).1;rw[h.gsz]at this;omega
 have M:=(Xw.1 U).1;let vs':Nat->Xo:=λk=>if k=a+1 then v' else{ vs k with drawn:=r'.drawn }
 have ho:∀k,k≠a+1->vs' k={ vs k with drawn:=r'.drawn }:=λk d=>Xx d;have o:vs' (a+1)=v':=XE rfl;have V:∀k,(vs' k).heap=(vs k).heap/\(vs' k).tape=(vs k).tape/\(vs' k).drawn=r'.drawn:=λk=>by
  by_cases d:k=a+1
  .subst d;rw[o,G];exact⟨rfl,rfl,rfl⟩
  .rw[ho k d];exact⟨rfl,rfl,rfl⟩
 have ry:∀k,k≠a+1->Ry (vs k) (vs' k):=λk d=>by
  rw[ho k d];exact⟨XD _,λ_ _=>rfl,rfl,rfl,rfl⟩
 have ab:WI F p om Rk D' vs' r':=by
  refine h.wi.KV E V C (λi x I=>?_) h1 h2 h3 h4 hs K (λhh=>(Ft U hH).1 (by rw[<- hl];exact hh)) λhh=>(Ft U hH).2 (by rw[<- hl];exact hh);rw[hl]at I;by_cases N:i=a
  .subst N;rw[X2 M]at I;cases I;rw[o];refine⟨kH (by rw[G]),?_⟩;rw[G];exact(h.wi.gh i q U).2
  .rw[Yv λe=>N e.symm]at I;rw[ho _ (by omega)];exact h.wi.gh i x I
 have sg:=λj=>MI.VY h.wi E ⟨_,_,h3⟩ j;have b:=h.ti.app h.wi.dj aa (XD _) w (See':=oR om Rk D' vs') (λk l _ d=>⟨by rw[<- C];exact d.1,lA (V _).1 d.2⟩) λl hl=>.inl ⟨by rw[<- C];exact hl.1,lA (V _).1 hl.2⟩;refine⟨vs',X,ab,?_,λi k d ac=>?_,λW=>?_,by rw[J.size,h.gsz,C],by simp[h.tsz,C],?_,λi N=>?_,OsLater.tr h.os E.os,E.tape.trans h.tape,E.out.trans h.out,λk d=>?_⟩
 .rw[C,E.size];refine⟨b.own,λl hl=>b.free l (lA (V 0).1 hl),b.rd,b.sh,b.norel,b.nr,b.gs,b.fresh⟩
 .rw[B]at d;have⟨x,I⟩:=h.rl i k d ac;have P:a≠i+1:=λe=>by
   subst e;have:=(Z (by omega)).1;rw[d]at this;cases this;omega
  refine⟨x,I.app (λO H hg=>XG ((w O H).1.symm.trans hg) P) λ⟨O,H,hg,_⟩=>XG ((w O H).1.symm.trans hg) P⟩
 .rw[K]at W;refine m9 (h.ho W) λO H=>?_;by_cases c:a=0
  .exact .inl ((w O H).1.trans c)
  .exfalso;obtain⟨m,rfl⟩:∃m,a=m+1:=⟨a-1,by omega⟩;have hz:=(h.wi.gh 0);have R:=λz S=>by
    have A:=((h.ai.pre z S).2 W).1;cases(h.ai.wg z S)with
    | opn x=>rw[W]at x;cases x
    | fin _ x=>exact x
    | reg x=>cases n:z.th<;>rw[n]at x A<;>simp[Th.CY,Th.sQ]at x A
    | last x=>cases n:z.th<;>rw[n]at x A<;>simp[Th.CY,Th.sQ]at x A
    | four x=>cases n:z.th<;>rw[n]at x A<;>simp[Th.CY,Th.sQ]at x A
    | og x=>cases n:z.th<;>rw[n]at x A<;>simp[Th.CY,Th.sQ]at x A
   have af:0<D.l.length:=by rw[h.ai.len];omega
   have:=jE (R _ (Xq af)) ((Z c).1);exact XG this (by decide)
 .have⟨g0,T0,z,m1,m2,m3,m4,m5⟩:=h.main;by_cases c:a=0
  .subst c;refine⟨g',T',q',J.own,by rw[X2 (by rw[h.tsz];omega)],by rw[hl,X2 M],hd,?_⟩;show pK F om Q D' (vs' (0+1)) T' g';rw[o];exact h0 rfl
  .refine⟨_,T0,z,J.oth 0 g0 c m1,by rw[Fu c];exact m2,by rw[hl,Yv c];exact m3,?_,m5.other (ry 1 (by omega)) L⟩;rw[Deaf_other t c _ λO H=>(w O H).1];exact m4
 .rw[C]at N;have⟨gi,Ti,k,w1,w2,w3,w4⟩:=h.wk i N;by_cases y:a=i+1
  .subst y;have⟨e1,e2⟩:=Z (by omega);refine⟨g',T',7,J.own,by rw[X2 (by rw[h.tsz];omega)],by rw[B];exact e1,?_⟩;rw[hd];show gr F p _ D' r' (vs' (i+1+1)) _ 7 T' g';rw[o];exact e2
  .refine⟨_,Ti,k,J.oth _ gi y w1,by rw[Fu y];exact w2,by rw[B];exact w3,?_⟩;rw[Deaf_other t y _ λO H=>(w O H).1];exact w4.other (ry _ (by omega)) (.inl (sg _)) (L.imp id λh=>h.1) Y h4
 .have⟨n1,n2,n3⟩:=h.wi.now 1 k (.inl d);rw[E.oth k n1 n2 n3];exact h.keep k d
variable {d k:Nat} {T1:Tr}
def gr.ry (h:gr F p old D r v d k T1 g) (b:Ry v v') (c:Uq p old r r'\/k=0) (H:∃s R e,r'.heap[p.ch]?=some (.chan 0 #[] D.cl s R e)):gr F p old D r' v' d k T1 g:=by
 have:=h.other (wk:=false) (D':=D) b c (.inr id) (.inl rfl) H
 grind
def pK.ry (h:pK F om Q D v T1 g) (H:Ry v v'):pK F om Q D v' T1 g:=by
 have:=h.other (wk:=false) (D':=D) (r':=v) H (by grind)
 grind
def gr.deaf (h:gr F p old D r v d k T1 g) (c:k=7):d=(dN v).th.deaf:=by
 cases h with
 | go=>rfl
 | blk _ _ _ b=>rw[b];rfl
 | tV _ _ H=>rw[H];rfl
 | NT _ _ H=>rw[H];rfl
 | _=>omega
def MI.at(h:MI F p om Rk Q W0 D vs T gs r t)(d:Nat):∃vs',MI F p om Rk Q W0 D vs' T gs (r.at d) t:=by
 have b:Fp p r (r.at d):=⟨rfl,rfl,rfl,.refl _,λ_ _ _ _=>rfl,λc e f h=>⟨c,h,rfl,λ_ _=>rfl⟩,λc e f h=>⟨c,h,rfl⟩,λo h j=>⟨o,h,j⟩⟩;have ry:∀k,Ry (vs k) { vs k with drawn:=d }:=λk=>⟨by grind,λ_ _=>rfl,rfl,rfl,rfl⟩;refine⟨λk=>{ vs k with drawn:=d },h.ai,h.wi.KV b (λk=>⟨rfl,rfl,rfl⟩) rfl (λi q m=>h.wi.gh i q m) h.wi.word h.wi.sema h.wi.wgb h.wi.chb rfl rfl id id,?_,h.rl,h.ho,h.gsz,h.tsz,?_,λi n=>?_,h.os,h.tape,h.out,h.keep⟩
 .have⟨A,s,u,w,x,y,z,B⟩:=h.ti;exact⟨λg l H=>A g l ⟨H.1,lA rfl H.2⟩,λl H=>s l (lA rfl H),u,w,x,y,z,B⟩
 .have⟨G,C,E,M,I,J,K,L⟩:=h.main;exact⟨G,C,E,M,I,J,K,L.ry (ry 1)⟩
 .have⟨N,O,k,W,P,R,S⟩:=h.wk i n;exact⟨N,O,k,W,P,R,S.ry (ry _) (.inl (MI.VY h.wi b ⟨_,_,h.wi.wgb⟩ _)) h.wi.chb⟩
def AI.Us (h:AI p D) (j:D.jn=true) (e:D.sg[i+1]?=some k):k=0:=by
 have f:0<D.l.length:=by rw[h.len];omega
 have c:=Xq f;have b:=((h.pre _ c).2 j).1;have K:D.na=0/\D.nb=0/\D.nd=0:=by
  cases(h.wg _ c)with
  | opn x=>rw[j]at x;cases x
  | fin _ x _ _ y z=>exact⟨x,y,z⟩
  | reg x=>cases H:D.l[0].th<;>rw[H]at x b<;>simp[Th.CY,Th.sQ]at x b
  | last x=>cases H:D.l[0].th<;>rw[H]at x b<;>simp[Th.CY,Th.sQ]at x b
  | four x=>cases H:D.l[0].th<;>rw[H]at x b<;>simp[Th.CY,Th.sQ]at x b
  | og x=>cases H:D.l[0].th<;>rw[H]at x b<;>simp[Th.CY,Th.sQ]at x b
 have Z:=jE K.1 e;have m:=jE K.2.1 e;have n:=jE K.2.2 e;have o:=h.sg7 _ _ e;simp only[abC,Bool.or_eq_false_iff,beq_eq_false_iff_ne]at Z m n;have E:¬(Nat.blt 3 k=true)\/¬(Nat.blt k 9=true):=by rcases Z with z|z<;>simp[z]
 simp at E;omega
def MI.KX {es:Xv Ys} (h:MI F p om Rk Q W0 D vs T gs r t) (ha:gs[a]?=some g) (K:Ur gs gs' a g' wk r') (E:∀e∈es,@iM (bI (aK om Rk (a+1))) (vs (a+1)) e/\@GZ (bI (aK om Rk (a+1))) (vs (a+1)) e/\Dy v' e) (L:v'.os=(vs (a+1)).os) (hv:pH (aK om Rk (a+1)) v' r') (u:@Kept (bI (aK om Rk (a+1))) (vs (a+1)) r r') (hh:@po (bI (aK om Rk (a+1))) (vs (a+1)) v') (h0:a=0->pK F om Q D v' T' g') (h5:a≠0->D.sg[a]?=some 7/\gr F p (aK om Rk (a+1)) D r' v' (dN v').th.deaf 7 T' g'):
 ∃vs',MI F p om Rk Q W0 D vs' (T.set a T') gs' r' (t++MemOp.ofEvents a g.frame.fn g.frame.place es):=by
 have G:a<=D.f:=by have:=(Xz.1 ha).1;rw[h.gsz]at this;omega
 have y:r.heap.size<=r'.heap.size:=by obtain⟨_,_,_,h4,_⟩:=id u;exact h4
 have I:=h.wi.KX G hv u hh L;have S:(vs (a+1)).heap.size=r.heap.size:=h.wi.views.size _;have ab:v'.heap.size=r'.heap.size:=by obtain⟨U,_⟩:=id hv;exact U.symm
 have A:∀k,k≠a+1->k9 vs (a+1) v' r' k=ext (vs k) r':=λk u=>by unfold k9;rw[Xx u]
 have B:k9 vs (a+1) v' r' (a+1)=v':=by unfold k9;rw[XE rfl]
 have ry:∀k,k≠a+1->Ry (vs k) (k9 vs (a+1) v' r' k):=λk u=>NO h.wi.views y u;have c:∀op∈MemOp.ofEvents a g.frame.fn g.frame.place es,P8 r.heap.size r'.heap.size (oR om Rk D vs) (oO (aK om Rk 0)) (qi p) a op:=by
  have:=yQ (g:=a) (fn:=g.frame.fn) (pos:=g.frame.place) (See:=oR om Rk D vs) (Rd:=oO (aK om Rk 0)) (Sh:=qi p) E (λl w=>⟨G,w⟩) (λl w=>by
   cases l with
   | cell b=>exact w.imp id λh=>⟨by omega,h.2⟩
   | obj b=>exact w.imp id λh=>⟨by omega,h.2⟩
   | _=>exact w)
  grind
 have C:∀k,aK om Rk 0 k->r'.heap[k]?=r.heap[k]?:=λk H=>by
  by_cases R:aK om Rk (a+1) k
  .obtain⟨_,_,_,_,q5,_⟩:=id u;exact q5 k R
  .cases YQ λJ=>R (H.imp id λx=>⟨by omega,x.2⟩);exact tU u ((h.wi.views.sep 1 0 (by omega)).right k H R) R
 have M:∀j,Uq p (aK om Rk j) r r':=λj=>⟨λk H=>C k (H.imp id λx=>⟨by omega,x.2⟩),⟨_,_,I.wgb⟩⟩;have V:∀i k,D.sg[i+1]?=some k->k≠7->a≠i+1:=λi k ac h7 e=>by
  grind
 have W:∃(k1:r'.tape=r.tape) (k2:r'.os=r.os),r'.output=r.output:=by obtain⟨U,q2,q3,_⟩:=u;exact⟨U,q2,q3⟩
 have⟨kt,ko,N⟩:=W;have o:=h.ti.app h.wi.dj G y c (See':=oR om Rk D (k9 vs (a+1) v' r')) (λk l af u=>⟨u.1,by
  have O:=u.2;rw[A _ (by omega)]at O;exact Fh O (by rw[h.wi.views.size];exact y)⟩) (λl w=>by
  have O:=w.2;rw[B]at O;rcases BE hh O with X|X
  .exact .inl ⟨w.1,X⟩
  .exact .inr (by rw[<- S];exact X))
 refine⟨k9 vs (a+1) v' r',h.ai,I,?_,λi k H Y=>?_,λhj=>?_,by rw[K.size,h.gsz],by simp[h.tsz],?_,λi hi=>?_,by rw[ko];exact h.os,kt.trans h.tape,N.trans h.out,λk H=>(C k (.inl H)).trans (h.keep k H)⟩
 .exact⟨o.own,λl w=>o.free l (by rw[A 0 (by omega)]at w;exact Fh w (by rw[h.wi.views.size];exact y)),o.rd,o.sh,o.norel,o.nr,o.gs,o.fresh⟩
 .have⟨x,hx⟩:=h.rl i k H Y;have J:=V i k H (by omega);exact⟨x,hx.app (λop n P=>XG ((c op n).1.symm.trans P) J) λ⟨op,n,P,_⟩=>XG ((c op n).1.symm.trans P) J⟩
 .refine m9 (h.ho hj) λop n=>.inl ((c op n).1.trans (YQ λs=>?_));obtain⟨m,rfl⟩:∃m,a=m+1:=⟨a-1,by omega⟩;have:=h.ai.Us hj (h5 s).1;omega
 .have⟨g0,T0,q0,m1,m2,m3,m4,m5⟩:=h.main;by_cases s:a=0
  .subst s;refine⟨g',T',q0,K.own,by rw[X2 (by rw[h.tsz];omega)],m3,by rw[Deaf_own,vK λe Z=>(E e Z).1];exact m4,?_⟩
   grind
  .refine⟨_,T0,q0,K.oth 0 g0 s m1,by rw[Fu s];exact m2,m3,?_,m5.other (ry 1 (by omega)) (.inr ⟨id,id⟩)⟩;rw[Deaf_other t s _ λop n=>(c op n).1];exact m4
 .have⟨gi,Ti,k,w1,w2,w3,w4⟩:=h.wk i hi;by_cases z:a=i+1
  .subst z;have⟨e1,e2⟩:=h5 (by omega);refine⟨g',T',7,K.own,by rw[X2 (by rw[h.tsz];omega)],e1,?_⟩;rw[Deaf_own,vK λe Z=>(E e Z).1];show gr F p _ D r' (k9 vs (i+1+1) v' r' (i+1+1)) _ 7 T' g';rw[B];have aa:k=7:=by rw[w3]at e1;exact Xt e1
   have ag:Deaf t (i+1)=(dN v').th.deaf:=by
    have P:=C0 L;rw[P];exact w4.deaf aa
   grind
  .refine⟨_,Ti,k,K.oth _ gi z w1,by rw[Fu z];exact w2,w3,?_⟩;rw[Deaf_other t z _ λop n=>(c op n).1];exact w4.other (ry _ (by omega)) (.inl (M _)) (.inr id) (.inl rfl) I.chb
