/-
  Part 27: ; ; .
-/
import Derived.Test.YtecibefflhomdaaGreatDoorZ26
import Derived.Conc.Pipeline3
import Derived.Conc.CrowdStepC
set_option maxHeartbeats 8000000
set_option maxRecDepth 100000
set_option linter.all false
namespace Go.Proofs.YtecibefflhomdaaGreatDoor
open Go Proofs.Tryz
section
open Go Go.Conc Go.ConcN Go.ConcM
open Go.ConcR (KK wgBlock WgAt stA smA rd wr mk Payload Aside2 DC0)
attribute [local instance] pay
section
variable{F:Xn Nat->cn}{p:cn}{om Rk:Nat->Prop}{Q:Xp->Prop}{W0:Xo}{D D':gm}{vs vs':Nat->Xo}{T:Xn Tr}{gs gs':Xv XF}{r r':Xo}{t u:Trace}
variable{i k k' st' sm' m:Nat}{g g':XF}{es:Xv Ys}{sl:XB (Nat×Nat)}{wk:XN}{T':Tr}
variable {b:YO} {x j:Nat} {fn:FuncId} {pos:YG}
def Rl.Q3 (h:Rl b (qi p) t j x) (H:∀e∈es,∀y,(MemAct.ofEvent e).touch?=some y->qi p y.loc/\y.kind=.atomic) (d:∀n,n<es.size->deafBehind (Deaf t j) (es.extract 0 n)≠0):Rl b (qi p) (t++MemOp.ofEvents j fn pos es) j x:=by
 refine h.own H λ_ n f c=>?_;have a:(MemOp.ofEvents j fn pos es).size=es.size:=by rw[ofEvents_eq];simp
 rw[Array.size_append,a]at c;have:=deaf_inside t j fn pos es (n-t.size) (by omega)
 grind
def Rl.still (h:Rl b (qi p) t j x) (H:∀e∈es,(MemAct.ofEvent e).touch?=none):Rl b (qi p) (t++MemOp.ofEvents j fn pos es) j x:=
 h.own (λe a y d=>by grind) λ⟨e,a,c⟩=>XG (H e a) c
def xy{es:Xv Ys}(h:∀e∈es,(∃b w,e=⟨.cell b,w,true⟩/\b.block=p.wg)\/∃m,e=⟨.mark m,false,true⟩/\(MemAct.ofEvent e).touch?=none):∀e∈es,∀y,(MemAct.ofEvent e).touch?=some y->qi p y.loc/\y.kind=.atomic:=by
 intro e H y a;rcases h e H with⟨b,w,rfl,c⟩|⟨m,rfl,d⟩
 .cases w<;>(have:=(Xt a).symm;subst this;exact⟨.inr (.inr c),rfl⟩)
 grind
def Vh(a:Nat){es:Xv Ys}(h:∀e∈es,(∃b w,e=⟨.cell b,w,true⟩/\b.block=p.wg)\/∃m,e=⟨.mark m,false,true⟩/\(MemAct.ofEvent e).touch?=none/\∀b,m≠.release b):∀e∈es,r8 p a e:=by
 intro e c;rcases h e c with⟨b,w,rfl,H⟩|⟨m,rfl,d,f⟩
 .cases w
  .exact xu (.inr (.inr H))
  .exact C2 (.inr (.inr H))
 .exact xv f d
def K3 {a:Nat} (h:∀e∈es,(MemAct.ofEvent e).touch?=none):∀o∈MemOp.ofEvents a fn pos es,o.act.touch?=none:=by
 intro o H;obtain⟨e,c,rfl⟩:=mn H
 grind
def BL(h:MI F p om Rk Q W0 D vs T gs r t)(H:D.sg[i+1]?=some k)(a:k≠0):D.jn=true->False:=λc=>a (h.ai.Us c H)
variable {e:Ys}
def yZ (h:e.mute=true):(MemAct.ofEvent e).touch?=none/\∀b,e.loc≠.mark (.release b):=by
 have⟨l,w,s⟩:=e;cases l with
 | mark M=>cases M<;>first|(cases h;done)|exact⟨rfl,λb h=>by grind⟩
 | _=>cases h
def Tm (h:e∈(#[rd b,wr b]:Xv Ys)) (hb:b.block=p.wg):∃c w,e=⟨.cell c,w,true⟩/\c.block=p.wg:=by
 simp at h;rcases h with rfl|rfl
 .exact⟨b,false,rfl,hb⟩
 .exact⟨b,true,rfl,hb⟩
def MI.stage(h:MI F p om Rk Q W0 D vs T gs r t)(ha:gs[i+1]?=some g)(hk:D.sg[i+1]?=some k)(h6:k<=6)(hrun:g.status=.running):r7 F p om Q W0 (ja p D T gs) sl gs r t (i+1):=by
 have hif:i<D.f:=by have:=(Xz.1 ha).1;rw[h.gsz]at this;omega
 have⟨g0,Ti,k0,w1,w2,w3,w4⟩:=h.wk i hif;rw[ha]at w1;cases w1;rw[hk]at w3;cases w3;have hlt:=h.wi.dj.ltH;have⟨cT,cM,fT,fM⟩:=Jf h.wi.wgb;have nmu:=h.wi.ne.1;generalize hd:Deaf t (i+1)=d at w4;cases w4 with
 | go=>omega
 | blk=>omega
 | tV=>omega
 | NT=>omega
 | @r0 n _ h0=>
  have⟨C,z,hC,hg⟩:=h0.go;rcases BK hg with⟨_,_,g',hst,n',hg'⟩|⟨n',rfl,g',hst,hg'⟩
  .have hai:=h.ai.Tg (k':=5) hk (by omega) (by omega) λh=>by omega
   have⟨vs',hm⟩:=h.gg (k':=5) (st':=D.st) (sm':=D.sm) (u:=MemOp.ofEvents (i+1) g.frame.fn g.frame.place #[Go.ConcR.mk (.releaseMerge (stA p.wg))]) (T':=Tr.nat n') ha (j8 (r':=r) (g':=g') ha) hk hai.1 (.refl r) h.wi.word h.wi.sema h.wi.wgb h.wi.chb (nM hlt (lC (by simp) rfl)) (λhj=>(BL h hk (by omega) hj).elim) (λ_=>⟨t.size,by
    rw[Q2];exact Rl.new rfl rfl hd⟩) (.inr id) (λv=>by
    rw[Deaf_own,hd];exact .k1 hC hg')
   exact⟨_,_,_,Rk,_,vs',_,runT_crowd_go ha hst,hm,.left _ _ hai.2⟩
  .exact h.idle (n':=n') ha hk (by omega) w2 hst λv=>by rw[hd];exact .r0 ⟨C,z,hC,hg'⟩
 | @k1 n _ C hC hg=>
  rcases BK hg with⟨_,g',hst,n',hg'⟩|⟨n',rfl,g',hst,hg'⟩
  .have hai:=h.ai.Tg (k':=4) hk (by omega) (by omega) λh=>by omega
   have⟨x,hx⟩:=h.rl i 5 hk (by omega);have⟨vs',hm⟩:=h.gg (k':=4) (st':=D.st) (sm':=D.sm) (u:=MemOp.ofEvents (i+1) g.frame.fn g.frame.place #[Go.ConcR.mk .disable]) (T':=Tr.nat n') ha (j8 (r':=r) (g':=g') ha) hk hai.1 (.refl r) h.wi.word h.wi.sema h.wi.wgb h.wi.chb (nM hlt (lC (by simp) rfl)) (λhj=>(BL h hk (by omega) hj).elim) (λ_=>⟨x,hx.still (by intro e he;simp at he;subst he;rfl)⟩) (.inr id) (λv=>by
    rw[Deaf_own,hd];exact .d1 hC hg')
   exact⟨_,_,_,Rk,_,vs',_,runT_crowd_go ha hst,hm,.left _ _ hai.2⟩
  .exact h.idle (n':=n') ha hk (by omega) w2 hst λv=>by rw[hd];exact .k1 hC hg'
 | @d1 n _ C hC hg=>
  rcases BK hg with⟨_,hat⟩|⟨n',rfl,g',hst,hg'⟩
  .have⟨v,wt,e1,e2,e3,e4,e5,e6⟩:=h.ai.U9 hk;have hW:WgAt 156 p.wg r (((v:Int)+1)*KK+wt) 0:=by
    have:=h.wi.wgb;rw[e3,e4]at this;rw[WgAt,wgBlock,this];simp[KK]
   have⟨g',hst,q1,q2⟩:=hat v wt e1 (by omega) hW;have ev:(v:Int)*KK+wt=((v*4294967296+wt:Nat):Int):=by simp[KK]
   rw[ev]at hst q1;have⟨x,hx⟩:=h.rl i 4 hk (by omega);have hxx:=hx.Q3 (es:=#[rd (stA p.wg),wr (stA p.wg)]) (fn:=g.frame.fn) (pos:=g.frame.place) (xy λe he=>.inl (Tm he rfl)) (λn hn=>by
    rw[hd];have:n=0\/n=1:=by simp at hn;omega
    rcases this with rfl|rfl<;>simp[deafBehind,rd,wr])
   have hw:=Jg (y:=.int .u64 ((v*4294967296+wt:Nat):Int)) h.wi.wgb;rw[e4]at hw;have base:∀(k':Nat) (T':Tr),AI p (D.fJ i k' (v*4294967296+wt) 0)->(∀v',gr F p (aK om Rk (i+2)) (D.fJ i k' (v*4294967296+wt) 0) (r.setCell p.st (.int .u64 ((v*4294967296+wt:Nat):Int))) v' 1 k' T' g')->_:=λk' T' hai hsit=>
    h.gg (k':=k') (st':=v*4294967296+wt) (sm':=0) (u:=MemOp.ofEvents (i+1) g.frame.fn g.frame.place #[rd (stA p.wg),wr (stA p.wg)]) (T':=T') (r':=r.setCell p.st (.int .u64 ((v*4294967296+wt:Nat):Int))) ha (j8 (g':=g') ha) hk hai (C3 rfl rfl nmu) (lV h.wi.word nmu) (lV h.wi.sema nmu) hw (by
     rw[di (show p.ch≠p.st.block from h.wi.ne.2.2.symm)];exact h.wi.chb) (nM hlt (oh (Qa rfl))) (λhj=>(BL h hk (by omega) hj).elim) (λ_=>⟨x,hxx⟩) (.inr λ_=>rfl) (λv'=>by
     rw[Deaf_own,hd];exact hsit v')
   by_cases hlast:v=0/\wt=1
   .have⟨n',hg'⟩:=q1 hlast;have hai:=e5 hlast;have⟨vs',hm⟩:=base 3 (Tr.nat n') hai.1 λv'=>.d2 hC hg';exact⟨_,_,_,Rk,_,vs',_,runT_crowd_go ha hst,hm,.left _ _ hai.2⟩
   .have⟨n',hq⟩:=q2 hlast;have hai:=e6 hlast;have⟨vs',hm⟩:=base 0 (Tr.nat n') hai.1 λv'=>.quit hq;exact⟨_,_,_,Rk,_,vs',_,runT_crowd_go ha hst,hm,.left _ _ hai.2⟩
  .exact h.idle (n':=n') ha hk (by omega) w2 hst λv=>by rw[hd];exact .d1 hC hg'
 | @d2 n _ C hC hg=>
  rcases BK hg with⟨_,hat⟩|⟨n',rfl,g',hst,hg'⟩
  .have⟨e1,e2,hai⟩:=h.ai.d3 hk;have hw:=h.wi.wgb;rw[e1,e2]at hw;have⟨g',hst,n',hg'⟩:=hat hw;have⟨x,hx⟩:=h.rl i 3 hk (by omega);have hxx:=hx.Q3 (es:=#[rd (stA p.wg)]) (fn:=g.frame.fn) (pos:=g.frame.place) (xy λe he=>.inl ⟨stA p.wg,false,by simpa[rd]using he,rfl⟩) (λn hn=>by
    rw[hd];have:n=0:=by simp at hn;omega
    subst this;simp[deafBehind,rd,wr])
   have⟨vs',hm⟩:=h.gg (k':=2) (st':=1) (sm':=0) (T':=Tr.nat n') ha (j8 (r':=r) (g':=g') ha) hk hai.1 (.refl r) h.wi.word h.wi.sema hw h.wi.chb (nM hlt (tZ (Qa rfl))) (λhj=>(BL h hk (by omega) hj).elim) (λ_=>⟨x,hxx⟩) (.inr λ_=>rfl) (λv=>by
    rw[Deaf_own,hd];exact .d3 hC hg')
   exact⟨_,_,_,Rk,_,vs',_,runT_crowd_go ha hst,hm,.left _ _ hai.2⟩
  .exact h.idle (n':=n') ha hk (by omega) w2 hst λv=>by rw[hd];exact .d2 hC hg'
 | @d3 n _ C hC hg=>
  rcases BK hg with⟨_,hat⟩|⟨n',rfl,g',hst,hg'⟩
  .have⟨e1,e2,hai⟩:=h.ai.d2 hk;have hw:=h.wi.wgb;rw[e1,e2]at hw;have⟨g',hst,n',hg'⟩:=hat hw;have⟨x,hx⟩:=h.rl i 2 hk (by omega);have hxx:=hx.Q3 (es:=#[wr (stA p.wg)]) (fn:=g.frame.fn) (pos:=g.frame.place) (xy λe he=>.inl ⟨stA p.wg,true,by simpa[wr]using he,rfl⟩) (λn hn=>by
    rw[hd];have:n=0:=by simp at hn;omega
    subst this;simp[deafBehind,rd,wr])
   have⟨vs',hm⟩:=h.gg (k':=1) (st':=0) (sm':=0) (T':=Tr.nat n') (r':=r.setCell p.st (.int .u64 0)) ha (j8 (g':=g') ha) hk hai.1 (C3 rfl rfl nmu) (lV h.wi.word nmu) (lV h.wi.sema nmu) (Jg (p:=p) (y:=.int .u64 0) hw) (by
    rw[di h.wi.ne.2.2.symm];exact h.wi.chb) (nM hlt (Vh (i+1) λe he=>.inl ⟨stA p.wg,true,by simpa[wr]using he,rfl⟩)) (λhj=>(BL h hk (by omega) hj).elim) (λ_=>⟨x,hxx⟩) (.inr λ_=>rfl) (λv=>by
    rw[Deaf_own,hd];exact .d4 hC hg')
   exact⟨_,_,_,Rk,_,vs',_,runT_crowd_go ha hst,hm,.left _ _ hai.2⟩
  .exact h.idle (n':=n') ha hk (by omega) w2 hst λv=>by rw[hd];exact .d3 hC hg'
 | @d4 n _ C hC hg=>
  rcases BK hg with⟨_,hmw,hat⟩|⟨n',rfl,g',hst,hg'⟩
  .have⟨e1,e2,hai⟩:=h.ai.d1 hk;have hw:=h.wi.wgb;rw[e1,e2]at hw;have⟨g',hst,n',hq⟩:=hat hw;have⟨x,hx⟩:=h.rl i 1 hk (by omega);have hxx:=hx.Q3 (es:=semEvents (smA p.wg)) (fn:=g.frame.fn) (pos:=g.frame.place) (xy λe he=>by
    simp only[semEvents,List.mem_toArray,XW,ZO,abI]at he;rcases he with rfl|rfl|rfl|rfl
    .exact .inr ⟨_,rfl,rfl⟩
    .exact .inl ⟨_,_,rfl,rfl⟩
    .exact .inl ⟨_,_,rfl,rfl⟩
    .exact .inr ⟨_,rfl,rfl⟩) (λn hn=>by
    rw[hd];have:n=0\/n=1\/n=2\/n=3:=by simp[semEvents]at hn;omega
    rcases this with rfl|rfl|rfl|rfl<;>simp[deafBehind,semEvents])
   have hwake:nL g g'=true:=by
    have:=hq.status;rcases this with h|h<;>simp[nL,hmw,h]
   have⟨vs',hm⟩:=h.gg (k':=0) (st':=0) (sm':=1) (T':=Tr.nat n') (r':=r.setCell p.sm (.int .u32 1)) ha (j8 (g':=g') ha) hk hai.1 (C3 rfl rfl nmu) (lV h.wi.word nmu) (lV h.wi.sema nmu) (Sp (p:=p) (y:=.int .u32 1) hw) (by
    rw[di h.wi.ne.2.2.symm];exact h.wi.chb) (nM hlt (qP (Qa rfl))) (λhj=>(BL h hk (by omega) hj).elim) (λ_=>⟨x,hxx⟩) (.inl hwake) (λv=>by
    rw[Deaf_own,hd];exact .quit hq)
   exact⟨_,_,_,Rk,_,vs',_,runT_crowd_go ha hst,hm,.left _ _ hai.2⟩
  .exact h.idle (n':=n') ha hk (by omega) w2 hst λv=>by rw[hd];exact .d4 hC hg'
 | @quit n _ _ hq=>
  cases n with
  | zero=>rw[hq.1]at hrun;cases hrun
  | succ n=>
   rcases hq with⟨h1,_⟩|⟨_,g',es,hmu,hst,hq'⟩
   .rw[h1]at hrun;cases hrun
   .have⟨x,hx⟩:=h.rl i 0 hk (by omega);have hu:D.fJ i 0 D.st D.sm=D:=by
     have:D.sg.set (i+1) 0=D.sg:=by
      apply aaq;intro j;by_cases hj:i+1=j
      .subst hj;rw[X2 (Xw.1 hk).1,hk]
      .rw[Yv hj]
     rw[gm.fJ,this]
    have hno:=λe he=>(yZ (hmu e he)).1;have⟨vs',hm⟩:=h.gg (k':=0) (st':=D.st) (sm':=D.sm) (u:=MemOp.ofEvents (i+1) g.frame.fn g.frame.place es) (T':=Tr.nat n) ha (j8 (r':=r) (g':=g') ha) hk (by rw[hu];exact h.ai) (.refl r) h.wi.word h.wi.sema h.wi.wgb h.wi.chb
     (nM hlt λe he=>⟨(yZ (hmu e he)).2,λy hy=>by rw[hno e he]at hy;cases hy⟩) (λ_=>K3 hno) (λ_=>⟨x,hx.still hno⟩) (.inr id) (λv=>by
     rw[Deaf_own,hd];exact .quit hq')
    rw[hu]at hm;exact⟨_,_,_,Rk,D,vs',_,runT_crowd_go ha (hst r),hm,.right _ (.left _ _ (.set w2 (Tr.NS n)))⟩
end
open Go.ConcR (KK wgBlock WgAt stA smA rd wr Payload Aside2 DC0)
section
variable{F:Xn Nat->cn}{p:cn}{om Rk:Nat->Prop}{Q:Xp->Prop}{W0:Xo}{D D':gm}{vs vs':Nat->Xo}{T:Xn Tr}{gs gs':Xv XF}{r r':Xo}{t u:Trace}
variable{i k k' st' sm' m:Nat}{g g':XF}{es:Xv Ys}{sl:XB (Nat×Nat)}{wk:XN}{T':Tr}{op:Nat}{qt:XN}{s:Sem Next}{fin:Xp->XF}{K:Xp->Xo->Prop}
variable {v:Xo}
def gr.vL {old:Nat->Prop} {d:Nat} (h:gr F p old D r v d k T' g) (c:Nat):offersAt g c true=[]:=by
 have st:=h.status;have nb:g.status≠.blocked->offersAt g c true=[]:=λh=>offersAt_of_not_blocked h c true;cases h with
 | blk h H a b e=>simp[offersAt,a]
 | tV=>exact offersAt_parked_recv' _ _ _ _ _
 | go h H=>exact nb (by grind)
 | NT=>exact nb (by simp)
 | _=>
  grind
def pK.vL (h:pK F om Q D v T' g) (c:Nat):offersAt g c true=[]:=by
 cases h with
 | go h H=>exact offersAt_of_not_blocked (by grind) c true
 | blk h H a b=>simp[offersAt,a]
def MI.vL(h:MI F p om Rk Q W0 D vs T gs r t)(a c:Nat):partners (gs.setIfInBounds a ph) c true=[]:=by
 refine partners_nil λj x H=>?_;by_cases b:a=j
 .subst b;rw[YE (by grind)]at H;cases H;exact offersAt_ph c true
 .rw[XJ b]at H;cases j with
  | zero=>
   have⟨G,l,q,M,n,o,y,d⟩:=h.main;rw[H]at M;cases M;exact d.vL c
  | succ j=>
   have e:j<D.f:=by have:=(Xz.1 H).1;rw[h.gsz]at this;omega
   have⟨z,A,k,w,B,C,W⟩:=h.wk j e;rw[H]at w;cases w;exact W.vL c
def MI.recv{c n j op:Nat}{z:Xp}{G:XF}(h:MI F p om Rk Q W0 D vs T gs r t)(a:gs[i+1]?=some G)(H:np F p om Rk Q D (i+1) op g qt s fin K)(d:D.l[i+1]?=some ⟨j,c,n,.new⟩)(hop:op≠0)
 (hst:stepG prog false G r=.comm g #[rcase p.ch z] true (.recv false) r #[]) (hcl:D.cl=true) (f:∀u v',Nb (vs (i+1+1)) v' ⟨j,c,n,.out⟩->K u v'):r7 F p om Q W0 (ja p D T gs) sl gs r t (i+1):=by
 have⟨S,R,B,hch⟩:=h.wi.chb;rw[hcl]at hch;have hrt:=crowd_recv_closed (sl:=sl) a hst hch (h.vL _ p.ch);rw[finishComm_recv]at hrt;have hfin:Go.Conc.served g (Go.Conc.recvd false z false)=fin z:=(H.does.fin_eq hop z).symm;rw[hfin]at hrt;have hai:=h.ai.recv d;let q':Ps:=⟨j,c,n,.out⟩
 let v':Xo:={ vs (i+1+1)with os:=ji (vs (i+1+1)).os q',drawn:=r.drawn }
 have o:=f z v' ⟨rfl,rfl,rfl,rfl⟩;have C:dN v'=q':=kH rfl;have⟨T',_,q⟩:=H.VZ (D':=D.upd (i+1) q' D.x D.bu) (r':=r) o;have hdf:=h.deaf d λh=>(H.w h).1;have hops:MemOp.ofEvents (i+1) G.frame.fn G.frame.place #[]++#[({ g:=i+1,fn:=g.frame.fn,pos:=g.frame.place,act:=.recvClosed p.ch }:MemOp)]=#[{ g:=i+1,fn:=g.frame.fn,pos:=g.frame.place,act:=.recvClosed p.ch }]:=rfl;rw[hops]at hrt;have⟨vs',y⟩:=h.nb (u:=#[{ g:=i+1,fn:=g.frame.fn,pos:=g.frame.place,act:=.recvClosed p.ch }]) (q':=q') (v':=v') (T':=T') (D':=D.upd _ q' D.x D.bu) a (Je (r':=r) (g':=fin z) a) d rfl rfl rfl rfl rfl hai.1 (.refl r) h.wi.word h.wi.sema h.wi.wgb h.wi.chb rfl (gP (by simp) (by simp))
  (λop hop=>by simp at hop;subst hop;exact⟨rfl,λb E=>(by grind),λx A=>by cases A⟩)
  (by rw[Deaf_still t _ _ λop hop=>by grind];exact hdf) (.inr ⟨id,id⟩) (.inl rfl) (λh=>XG h (by omega)) (λe=>⟨(H.w e).1,by
   have:=q e;exact this⟩)
 exact⟨_,_,_,Rk,_,vs',_,hrt,y,.left _ _ hai.2⟩
def MI.tV{c n j op:Nat}{z:Xp}(h:MI F p om Rk Q W0 D vs T gs r t)(d:gs[i+1]?=some g)(I:T[i+1]?=some .leaf)(f:np F p om Rk Q D (i+1) op g qt s fin K)(C:D.l[i+1]?=some ⟨j,c,n,.new⟩)
 (o:stepG prog false g r=.comm g #[rcase p.ch z] true (.recv false) r #[]) (H:D.cl=false) (E:P9 F p (aK om Rk (i+1+1)) .leaf g (vs (i+1+1))):r7 F p om Q W0 (ja p D T gs) sl gs r t (i+1):=by
 have⟨S,R,J,a⟩:=h.wi.chb;rw[H]at a;have q:=crowd_waits (sl:=sl) d o (λL b=>by
  simp at b;subst b;exact ways_recv_none a (h.vL _ p.ch))
 have y:=(h.wi.gh _ _ C).1;have A:=h.wi.views.vw (i+1+1);have⟨vs',B⟩:=h.KX (v':=vs _) (T':=.leaf) (es:=#[]) d (Je (r':=r) (g':=parked g #[rcase p.ch z] (.recv false)) d) (by simp) rfl A (@Kept.refl (bI _) _ _ A) (@po.refl (bI _) _) (λh=>XG h (by omega)) (λG=>⟨(f.w G).1,by
  have e:(dN (vs (i+1+1))).th.deaf=0:=by rw[y];rfl
  rw[e];exact .tV E f.does.run (by rw[y]) H⟩)
 have x:T.set (i+1) .leaf=T:=by
  apply aaq
  grind
 rw[x]at B;refine⟨_,_,_,Rk,D,vs',T,q,B,.right _ (.right _ ?_)⟩;exact BI d f.does.run rfl
def C4 {B:Base} {main:XN} {Stop:XF->Xo->Prop} (H:∀g v,Stop g v->g.status=.running) {T:Tr} (h:@P7 B main Stop T g v):g.status=.running:=by
 cases T with
 | leaf=>
  rcases h with h|⟨op,q,s,fin,K,a,_⟩
  .exact H g v (h v ⟨by grind,λ_ _=>rfl,rfl,rfl,rfl⟩)
  .exact a.run
 | node f=>exact h.1
def lI(v:Xo):Ry v v:=⟨by grind,λ_ _=>rfl,rfl,rfl,rfl⟩
variable {f:Xo->Tr}
def MI.stepW (h:MI F p om Rk Q W0 D vs T gs r t) (a:gs[i+1]?=some g) (l:T[i+1]?=some (.node f)) (n:D.sg[i+1]?=some 7) (o:P9 F p (aK om Rk (i+1+1)) (.node f) g (vs (i+1+1))):r7 F p om Q W0 (ja p D T gs) sl gs r t (i+1):=by
 have⟨_,q⟩:=o;have⟨g',V,b,H⟩:=q _ (lI _);have⟨es,E,w,x⟩:=nG.conv (B:=fN F _) (B':=bI _) rfl b;have⟨r',c,d,e,j⟩:=x r (h.wi.views.vw _);have⟨vs',y⟩:=h.KX (T':=f _) a (j8 (r':=r') (g':=g') a) E w d e j (λh=>XG h (by omega)) λ_=>⟨n,.go H (C4 (λ_ _ h=>h.run) H)⟩;exact⟨_,_,_,Rk,D,vs',_,runT_crowd_go a c,y,.right _ (.left _ _ (.set l ⟨f,_,rfl,rfl⟩))⟩
def MI.Vi (h:MI F p om Rk Q W0 D vs T gs r t) (a:gs[0]?=some g) (l:T[0]?=some (.node f)) (n:QZ F om Q (.node f) g (vs 1)):r7 F p om Q W0 (ja p D T gs) sl gs r t 0:=by
 have⟨_,o⟩:=n;have⟨g',V,b,H⟩:=o _ (lI _);have⟨es,E,q,w⟩:=nG.conv (B':=bI (aK om Rk _)) gO.symm b;have⟨r',c,d,e,j⟩:=w r (h.wi.views.vw _);have⟨vs',x⟩:=h.KX (T':=f _) a (j8 (r':=r') (g':=g') a) E q d e j (λ_=>.go H (C4 (λ_ _ h=>h.run) H)) λh=>XG rfl h;exact⟨_,_,_,Rk,D,vs',_,runT_crowd_go a c,x,.right _ (.left _ _ (.set l ⟨f,_,rfl,rfl⟩))⟩
def r7.up{μ b:Mu}{a:Nat}(h:r7 F p om Q W0 μ sl gs r t a)(hl:μ.1<b.1):r7 F p om Q W0 b sl gs r t a:=by
 have⟨gs',r',o,R,D',vs',T',H,c,d⟩:=h;refine⟨gs',r',o,R,D',vs',T',H,c,?_⟩;have⟨M,e⟩:=μ;refine .left _ _ ?_;cases d with
 | left _ _ h=>exact abP h hl
 | right _ h=>exact hl
def MI.begin(h:MI F p om Rk Q W0 D vs T gs r t)(a:gs[i+1]?=some g)(c:D.sg[i+1]?=some 7)(d:BG p (aK om Rk (i+1+1)) g (vs (i+1+1))):r7 F p om Q W0 (ja p D T gs) sl gs r t (i+1):=by
 have G:i<D.f:=by have:=(Xz.1 a).1;rw[h.gsz]at this;omega
 have e:i+1<D.l.length:=by rw[h.ai.len];omega
 have b:=Xq e;have⟨n,o⟩:=d.at_;rw[((h.wi.gh _ _ b).1)]at n o;have q:D.l[i+1].i=i:=by
  have:=h.ai.ids _ _ b
  grind
 rw[q]at o;have⟨C,z,m,w,I,y⟩:=d.go;have A:r.cell? ⟨C,0,none⟩=some z:=by
  have:=fS (h.wi.views.vw (i+1+1)) w (by rw[h.wi.views.size];exact h.wi.views.lt _ _ w);unfold World.cell? at I |-
  grind
 have H:=h.ai.Tg (k':=6) c (by omega) (by omega) λ_=>⟨_,b,n,o⟩;have B:Deaf t (i+1)=0:=by
  rw[h.deaf b λ_=>c,n];rfl
 have⟨vs',J⟩:=h.gg (gs':=gs) (g':=g) (wk:=false) (r':=r) (k':=6) (st':=D.st) (sm':=D.sm) (u:=#[]) (T':=Tr.nat m) a ⟨rfl,a,λj x _ L=>by grind⟩ c H.1 (.refl r) h.wi.word h.wi.sema h.wi.wgb h.wi.chb (by simp) (by simp) (λh=>by omega) (.inr id) (λv=>by
  rw[Yu,B];exact .r0 ⟨C,z,w,y r ⟨⟨_,_,h.wi.wgb⟩,A⟩⟩)
 have E:(D.fJ i 6 D.st D.sm).sg[i+1]?=some 6:=by
  show(D.sg.set (i+1) 6)[i+1]?=_
  grind
 exact(J.stage a E (XD 6) d.run).up H.2
def xz(F:Xn Nat->cn)(om:Nat->Prop)(W:Xo)(p:cn):Prop:=∀(c:Nat) (G:Xn (Nat×Obj)) (d:Deferred) (old:Nat->Prop) (w v:Xo) (N:Nat),c<p.n->iC G->p.go c G d->N3 om W p w->l6 old w (p.R::cy G) v->dN v=⟨c,0,N,.new⟩->F v.os.sigPending=p->(∃z,v.cell? p.word=some z)->@jM (fN F old) false (BG p old) (pM d) v
def MI.Vj(h:MI F p om Rk Q W0 D vs T gs r t)(o:gs[i+1]?=some g)(R:T[i+1]?=some .leaf)(S:D.sg[i+1]?=some 7)(J:P9 F p (aK om Rk (i+1+1)) .leaf g (vs (i+1+1))):r7 F p om Q W0 (ja p D T gs) sl gs r t (i+1):=by
 have Y:i<D.f:=by have:=(Xz.1 o).1;rw[h.gsz]at this;omega
 have L:i+1<D.l.length:=by rw[h.ai.len];omega
 have d:=Xq L;have x:=h.wi.gh _ _ d;have U:=h.ai.wrk _ _ d;rcases id J with q|⟨op,qt,s,fin,K,V,y,w⟩
 .exact h.begin o S (q _ (lI _))
 .have⟨rq,W,b⟩:=y _ (lI _);rw[x.2]at b;have A:np F p om Rk Q D (i+1) op g qt s fin K:=⟨V,λh=>XG h (by omega),λ_=>⟨S,w⟩⟩;rcases b with b|b|b|b
  .exact h.W3 o R A d W b (λh=>XG h (by omega)) (λ_=>J) (λi c n e M N O=>h.Ma o A (e▸d) M N O) (λi c n s' Z bl e M B P N O=>h.vu o A (e▸d) M B P N O)
  .exfalso;have a:∀{c n th},dN (vs (i+1+1))=⟨p.n,c,n,th⟩->False:=λe=>by
    rcases h.ai.NX d with⟨X,_⟩|⟨_,_,X⟩
    .omega
    grind
   cases b with
   | Kv H=>exact a H
   | add H=>exact a H
   | rd H=>exact a H
   | en H=>exact a H
   | fork _ _ _ H=>exact a H
   | SO H=>exact a H
   | close H=>exact a H
   | M6 H=>exact a H
   | IS H=>exact a H
   | tL H=>exact a H
   | wr H=>exact a H
   | acq H=>exact a H
   | UR H=>exact a H
   | Uo H=>exact a H
   | join H=>exact a H
  .cases b with
   | @recv _ _ j c n H kk=>
    have⟨C,z,E⟩:=W;rw[x.1]at H;rw[H]at d;have G:=V.comm C r r #[] _ _ _ (E r);cases I:D.cl with
    | true=>exact h.recv o A d C G I kk
    | false=>exact h.tV o R A d G I J
  .have⟨_,_,_,_,_,_,_,_,_,_,_,X,_⟩:=b.ok
   grind
end
def BM(Q:Xp->Prop)(W0:Xo)(o:Nat->Prop)(u:Xp)(w:Xo):Prop:=Q u/\OsLater W0.os w.os/\w.tape=W0.tape/\w.output=W0.output/\∀k,o k->w.heap[k]?=W0.heap[k]?
section
variable{F:Xn Nat->cn}{p:cn}{om Rk:Nat->Prop}{Q:Xp->Prop}{W0:Xo}{D D':gm}{vs vs':Nat->Xo}{T:Xn Tr}{gs gs':Xv XF}{r r':Xo}{t u:Trace}
variable{i k k' st' sm' m:Nat}{g g':XF}{es:Xv Ys}{sl sl0:XB (Nat×Nat)}{wk:XN}{T':Tr}{op:Nat}{qt:XN}{s:Sem Next}{fin:Xp->XF}{K:Xp->Xo->Prop}
def N5(Q:Xp->Prop)(W0:Xo)(om:Nat->Prop)(M:Machine)(gs:Xv XF)(r:Xo)(sl:XB (Nat×Nat))(t:Trace):Prop:=
 ∃o w O,runT prog (crowd gs r sl) 0=(.ended o w,O)/\Conc.Good prog (BM Q W0 om) M o w (t++O)
def MI.ends(h:MI F p om Rk Q W0 D vs T gs r t)(y:gs[0]?=some g)(q:Fs om Q g (vs 1))(z:Xo):N5 Q W0 om (crowd gs z sl0) gs r sl t:=by
 have⟨u,A,es,hes,hst⟩:=q.go;have B:pH om (vs 1) r:=by have:=h.wi.views.vw 1;rw[gO]at this;exact this
 have h00:0<D.l.length:=by rw[h.ai.len];omega
 have c:=Xq h00;have hth:=q.at_;rw[((h.wi.gh 0 _ c).1)]at hth;have hjn:D.jn=true:=by
  cases e:D.jn with
  | true=>rfl
  | false=>have:=((h.ai.pre _ c).1 e).1;rw[hth]at this;cases this
 have hops:∀op∈MemOp.ofEvents 0 g.frame.fn g.frame.place es,P8 r.heap.size r.heap.size (oR om Rk D vs) (oO (aK om Rk 0)) (qi p) 0 op:=by
  have:=yQ (fn:=g.frame.fn) (pos:=g.frame.place) (See:=oR om Rk D vs) (Rd:=oO (aK om Rk 0)) (Sh:=qi p) (v':=vs 1) hes (λl a=>⟨XR _,by show dY _ _ l;rw[gO];exact a⟩) (λl a=>by
   cases l with
   | cell b=>exact .inl a
   | obj b=>exact .inl a
   | _=>exact a)
  rwa[h.wi.views.size]at this
 have hti:=h.ti.app h.wi.dj (XR _) (XD _) hops (See':=oR om Rk D vs) (λk l _ C=>C) λl a=>.inl a;have quits:∀i g,gs[i+1]?=some g->∃n,QuitsD prog n (Deaf t (i+1)) g:=λi x H=>by
  have hif:i<D.f:=by have:=(Xz.1 H).1;rw[h.gsz]at this;omega
  have⟨G,I,J,w,L,E,W⟩:=h.wk i hif;rw[H]at w;cases w;cases h.ai.Us hjn E;generalize Deaf t (i+1)=d at W |-;cases W with
  | quit c=>exact⟨_,c⟩
 refine⟨_,_,_,runT_crowd_ended y (hst r B),u,rfl,⟨A,h.os,h.tape,h.out,h.keep⟩,hti.nr,m9 (h.ho hjn) λop hop=>.inl (hops op hop).1,⟨λx H=>?_,rfl⟩,λi x H hne=>?_⟩
 .have H:x∈gs.toList.drop 1:=H;have⟨j,e⟩:=Zk.1 H;rw[aaf]at e;have⟨n,o⟩:=quits j x (by grind);exact⟨n,o.leaves⟩
 .obtain⟨j,rfl⟩:∃j,i=j+1:=⟨i-1,by omega⟩;have⟨n,o⟩:=quits j x H;have v:=Deaf_other t (by omega:(0:Nat)≠j+1) _ λop hop=>(hops op hop).1;refine⟨n,?_⟩;unfold Deaf at v;rw[v];exact o.hears _
def MI.main'(h:MI F p om Rk Q W0 D vs T gs r t)(J:xz F om W0 p)(b:gs[0]?=some g)(z:g.status=.running)(R:Xo):N5 Q W0 om (crowd gs R sl0) gs r sl t\/r7 F p om Q W0 (ja p D T gs) sl gs r t 0:=by
 have⟨g0,Z,q0,S,L,M,m4,m5⟩:=h.main;rw[b]at S;cases S;have l:=h.wi.gh 0 _ M;cases m5 with
 | blk=>cases z
 | go I aa=>
  cases Z with
  | node f=>exact .inr (h.Vi b L I)
  | leaf=>
   rcases id I with o|⟨op,qt,s,fin,K,hd,A,q⟩
   .exact .inl (h.ends b (o _ (lI _)) R)
   .refine .inr ?_;have⟨rq,U,a⟩:=A _ (lI _);rw[l.2]at a;have y:np F p om Rk Q D 0 op g qt s fin K:=⟨hd,λ_=>q,λh=>XG rfl h⟩;rcases a with a|a|a|a
    .have N:jB p (aK om Rk (0+1)) rq (vs (0+1)) K:=by
      rw[gO];exact a
     exact h.W3 b L y M U N (λ_=>I) (λh=>XG rfl h) (λi c n e O w B=>h.Ma b y (e▸M) O w B) (λi c n s' W bl e O H j w B=>h.vu b y (e▸M) O H j w B)
    .exact h.Vf b L y M U a I (λc n d W G bl e V H j C w P=>h.fork b y (e▸M) V H j C w P λold W1 v n'=>J c G d old W1 v n' V j.1 C) (λc n e w B=>h.join b y (e▸M) w B)
    .exfalso;cases a with
     | recv X=>
      rw[l.1]at X;have x:=h.ai.pre _ M;rw[X]at x;cases E:D.jn with
      | false=>have:=(x.1 E).1;cases this
      | true=>exact(x.2 E).2.1 rfl
    .exfalso;have⟨_,_,_,_,_,_,_,_,_,_,_,Y,_⟩:=a.ok;rw[l.1]at Y;have x:=h.ai.pre _ M;rw[Y]at x;cases E:D.jn with
     | false=>have:=(x.1 E).1;cases this
     | true=>exact(x.2 E).2.2.2.2 rfl
def MI.worker(h:MI F p om Rk Q W0 D vs T gs r t)(x:gs[i+1]?=some g)(b:g.status=.running):r7 F p om Q W0 (ja p D T gs) sl gs r t (i+1):=by
 have E:i<D.f:=by have:=(Xz.1 x).1;rw[h.gsz]at this;omega
 have⟨g0,Y,O,P,R,W,S⟩:=h.wk i E;rw[x]at P;cases P;have h7:=h.ai.sg7 _ _ W;by_cases G:O<=6
 .exact h.stage x W G b
 have G:O=7:=by omega
 subst G;have I:i+1<D.l.length:=by rw[h.ai.len];omega
 have J:=Xq I;have y:=h.wi.gh _ _ J;generalize Z:Deaf t (i+1)=d at S;cases S with
 | go C L=>
  cases Y with
  | leaf=>exact h.Vj x R W C
  | node f=>exact h.stepW x R W C
 | blk=>cases b
 | tV=>cases b
 | @NT g1 z C L U M=>
  rcases id C with q|⟨op,qt,s,fin,K,V,A,v⟩
  .have:=(q _ (lI _)).at_.1
   grind
  .have⟨rq,hr,o⟩:=A _ (lI _);rw[y.2]at o;have a:∀{j c n:Nat} {X:Th},dN (vs (i+2))=⟨j,c,n,X⟩->X=.new:=λe=>by rw[e]at U;exact U
   rcases o with o|o|o|o
   .cases o with
    | Kv H=>cases a H
    | EG H=>cases a H
    | Qw H=>cases a H
    | Ul H=>cases a H
    | tL H=>cases a H
    | EH H=>cases a H
    | EI H=>cases a H
    | Kw H=>cases a H
    | acq H=>cases a H
    | Kx H=>cases a H
    | IS _ H=>cases a H
    | EJ H=>cases a H
    | en H=>cases a H
    | Ma H=>cases a H
    | Ky H=>cases a H
    | Um H=>cases a H
    | vu _ _ H=>cases a H
    | Qx H=>cases a H
    | Kz H=>cases a H
    | EK H=>cases a H
    | EL H=>cases a H
    | EM H=>cases a H
    | EN H=>cases a H
    | EO H=>cases a H
    | Un H=>cases a H
    | SN H=>cases a H
   .cases o with
    | Kv H=>cases a H
    | add H=>cases a H
    | rd H=>cases a H
    | en H N=>have:=a H;subst this;rcases N with h|h<;>cases h
    | fork _ _ _ H=>cases a H
    | SO H=>cases a H
    | close H=>cases a H
    | M6 H=>cases a H
    | IS H=>cases a H
    | tL H=>cases a H
    | wr H=>cases a H
    | acq H=>cases a H
    | UR H=>cases a H
    | Uo H N=>have:=a H;subst this;rcases N with h|h<;>cases h
    | join H=>cases a H
   .cases o with
    | @recv _ _ j c n H kk=>
     have⟨B,z',w⟩:=hr;rw[y.1]at H;rw[H]at J;exact h.recv x ⟨V,λh=>XG h (by omega),λ_=>⟨W,v⟩⟩ J B ((stepG_same rfl rfl rfl r).trans (V.comm B r r #[] _ _ _ (w r))) M kk
   .have⟨_,_,_,_,_,_,_,_,_,_,_,h1,_⟩:=o.ok
    grind
def gr.running{old:Nat->Prop}{v:Xo}{d:Nat}(h:gr F p old D r v d k T' g)(h1:1<=k)(a:k<=6):g.status=.running:=by
 cases h with
 | go=>omega
 | blk=>omega
 | tV=>omega
 | NT=>omega
 | r0 h=>obtain⟨C,z,_,h1⟩:=h.go;exact Goes.running (λ_ _ h=>h.1) r nN h1
 | k1 H h=>exact Goes.running (λ_ _ h=>h.1) r nN h
 | d1 H h=>exact Goes.running (λ_ _ h=>h.1) r nN h
 | d2 H h=>exact Goes.running (λ_ _ h=>h.1) r nN h
 | d3 H h=>exact Goes.running (λ_ _ h=>h.1) r nN h
 | d4 H h=>exact Goes.running (λ_ _ h=>h.1) r nN h
 | quit=>omega
def MI.counted(h:MI F p om Rk Q W0 D vs T gs r t){a:Nat}{q:Ps}(o:D.l[a]?=some q)(x:0<fL q\/0<fA q\/0<fK q\/0<fU q\/0<fO q\/0<fH q\/0<fR q):∃g,gs[a]?=some g/\g.status=.running:=by
 have c:∀n,q.th=n->(n=.out\/n=.new\/(∃j,n=.queued j)\/n=.wt4)->False:=λn e A=>by
  simp[fL,fA,fK,fU,fO,fH,fR,e]at x;rcases A with rfl|rfl|⟨j,rfl⟩|rfl<;>simp at x
 cases a with
 | zero=>
  have⟨G,N,O,M,P,R,S,B⟩:=h.main;have H:=(h.wi.gh 0 _ o).1;cases B with
  | go _ v=>exact⟨_,M,v⟩
  | blk _ _ _ b=>
   grind
 | succ i=>
  have C:i<D.f:=by have:=(Xw.1 o).1;rw[h.ai.len]at this;omega
  have⟨G,U,z,E,V,I,W⟩:=h.wk i C;have H:=(h.wi.gh _ _ o).1;have X:¬z<7:=λw=>by
   have⟨y,J,L,_⟩:=h.ai.done i z I w
   grind
  generalize Deaf t _=d at W;cases W with
  | go _ v=>exact⟨_,E,v⟩
  | blk _ _ _ b=>exfalso;rw[H]at b;exact c _ b (by grind)
  | tV _ _ b=>exfalso;rw[H]at b;exact c _ b (by grind)
  | NT _ _ b=>exfalso;rw[H]at b;exact c _ b (by grind)
  | _=>omega
def MI.alive(h:MI F p om Rk Q W0 D vs T gs r t):∃(i:Nat) (g:XF),gs[i]?=some g/\g.status=.running:=by
 have b:∀{a:Nat} {q:Ps} {j:Nat},D.l[a]?=some q->q.th=.queued j->D.bu=0->∃(i:Nat) (g:XF),gs[i]?=some g/\g.status=.running:=λn w o=>by
  have c:=h.ai.mu;rw[o]at c;have⟨k,x,v,y⟩:=c.alive n w;have⟨g,P⟩:=h.counted v y
  grind
 have⟨Z,T0,q0,R,m2,M,m4,S⟩:=h.main;have z:=(h.wi.gh 0 _ M).1;cases S with
 | go _ A=>exact⟨0,_,R,A⟩
 | blk _ _ _ H=>
  rw[z]at H;rcases H with⟨j,H,o⟩|⟨H,o⟩
  .grind
  .have⟨i,k,v,y,P⟩:=h.ai.Wp M (by rw[H];rfl) o;have U:i<D.f:=by have:=(Xw.1 v).1;rw[h.ai.lsg]at this;omega
   have⟨V,Ti,k0,W,w2,J,B⟩:=h.wk i U;rw[v]at J;cases J;by_cases X:k<=6
   .exact⟨i+1,V,W,B.running y X⟩
   .have Y:k=7:=by omega
    subst Y;have C:i+1<D.l.length:=by rw[h.ai.len];omega
    have n:=Xq C;have E:=(h.wi.gh _ _ n).1;have G:D.cl=true:=by
     have L:=h.ai.pre _ M;cases N:D.jn with
     | false=>have:=(L.1 N).2.2.2.1;rw[H]at this;exact this
     | true=>exact(L.2 N).2.2.2.1
    generalize Deaf t _=d at B;cases B with
    | go _ A=>exact⟨i+1,_,W,A⟩
    | blk _ _ _ e I=>rw[E]at e;exact b n e I
    | tV _ _ _ O=>rw[G]at O;cases O
    | NT=>exact⟨i+1,_,W,rfl⟩
def MI.awake(h:MI F p om Rk Q W0 D vs T gs r t):∀g∈gs,awake g:=by
 intro g b d;have⟨i,H⟩:=Array.mem_iff_getElem?.1 b;cases i with
 | zero=>
  have⟨G,e,q,M,j,l,n,c⟩:=h.main;rw[H]at M;cases M;rcases c.status with h|h<;>rw[h]<;>simp
 | succ i=>
  have a:i<D.f:=by have:=(Xz.1 H).1;rw[h.gsz]at this;omega
  have⟨o,v,x,w,y,z,W⟩:=h.wk i a;rw[H]at w;cases w;rcases W.status with h|h|⟨h,_⟩<;>rw[h]<;>simp
def MI.step(h:MI F p om Rk Q W0 D vs T gs r t)(e:xz F om W0 p) :
 (∃o w O,stepT prog (crowd gs r sl)=(.ended o w,O)/\Conc.Good prog (BM Q W0 om) (crowd gs r sl) o w (t++O)) \/
 ∃gs' r' S O R D' vs' T',stepT prog (crowd gs r sl)=(.next (crowd gs' r' S),O)/\MI F p om R Q W0 D' vs' T' gs' r' (t++O)/\Hr (ja p D' T' gs') (ja p D T gs):=by
 have⟨i,g,d,S,f,H,b⟩:=crowd_pick (P:=prog) (w:=r) (sl:=sl) h.awake h.alive;have⟨v,j⟩:=h.at d;rw[b];have fin:∀{a},r7 F p om Q W0 (ja p D T gs) S gs (r.at d) t a->a=i->(∃o w O,runT prog (crowd gs (r.at d) S) i=(.ended o w,O)/\Conc.Good prog (BM Q W0 om) (crowd gs r sl) o w (t++O))\/∃gs' r' c O R D' vs' T',runT prog (crowd gs (r.at d) S) i=(.next (crowd gs' r' c),O)/\MI F p om R Q W0 D' vs' T' gs' r' (t++O)/\Hr (ja p D' T' gs') (ja p D T gs):=by
  rintro a ⟨gs',r',O,R,D',vs',T',E,l,n⟩ rfl
  grind
 cases i with
 | zero=>
  rcases j.main' e f H r with⟨o,w,O,E,l⟩|q
  .exact .inl ⟨o,w,O,E,l⟩
  grind
 | succ i=>exact fin (j.worker f H) rfl
