/-
  Part 21: THE PROTOCOL, PART 14 the automaton of all who share.
-/
import Derived.Test.YtecibefflhomdaaGreatDoorZ20
set_option maxHeartbeats 8000000
set_option maxRecDepth 100000
set_option linter.all false
namespace Go.Proofs.YtecibefflhomdaaGreatDoor
open Go
def Th.QW:Th->XN
 | .lk0 | .slow _ _ _ | .act _ _ _ _ | .queued _ | .woken _ | .hand _ | .nk | .got1 | .hold _ | .rel0 _=>true
 | _=>false
def Th.sQ:Th->XN
 | .ad0 _ | .ad1 | .ad2 | .ad3 | .ad4 | .wt0 | .wt1 | .wt2 _ | .wt3 | .wt4 | .wt5 | .wt6 | .wt7=>true
 | _=>false
def Th.shut:Th->XN
 | .wt0 | .wt1 | .wt2 _ | .wt3 | .wt4 | .wt5 | .wt6 | .wt7=>true
 | _=>false
def Th.late:Th->XN
 | .ad0 m=>m != 0
 | .ad1 | .ad2 | .ad3 | .ad4=>false
 | t=>t.shut
def Th.Wj:Th->XN
 | .ad1 | .ad2 | .ad3 | .ad4=>true
 | _=>false
def Th.Sg:Th->Nat
 | .ad2 | .ad3 | .ad4=>1
 | _=>0
def Th.CY:Th->XN
 | .wt3 | .wt4=>true
 | _=>false
def Th.NR:Th->XN
 | .wt5 | .wt6 | .wt7=>true
 | _=>false
def Th.nn:Th->XB Nat
 | .act x _ _ _ | .unl x _=>some x
 | _=>none
def Th.deaf:Th->Nat
 | .lk0 | .slow _ _ _ | .act _ _ _ _ | .queued _ | .woken _ | .hand _ | .nk | .rel2 | .unl _ _ | .unl0 | .nq | .fin | .ad1 | .ad2 | .ad3 | .wt1 | .wt2 _ | .wt3 | .wt4 | .wt5 | .wt6=>1
 | _=>0
def Th.kk:Th->Nat
 | .slow _ _ k | .act _ _ _ k | .queued k | .woken k=>k
 | _=>0
def Th.QX(t:Th)(h:t.kk<=5):t.eV<=99:=by
 cases t<;>simp only[Th.eV,Th.kk]at*<;> omega
def phi(p:cn)(q:Ps):Nat:=match q.th with
 | .slow false _ _ | .act _ false _ _=>8*(p.len q.i-q.c)-1
 | .slow true _ _ | .act _ true _ _ | .woken _ | .hand _=>8*(p.len q.i-q.c)-2
 | .queued _ | .nk | .got1 | .hold _ | .rel0 _=>8*(p.len q.i-q.c)-3
 | .rel1 | .rel2=>8*(p.len q.i-q.c)+5
 | .unl _ _ | .unl0=>8*(p.len q.i-q.c)+4
 | .nq=>8*(p.len q.i-q.c)+3
 | _=>8*(p.len q.i-q.c)
def mo(p:cn)(f:Nat):Nat->Nat
 | 0=>0
 | k+1=>(if f<=k then 8*p.len k else 0)+mo p f k
structure gm where
 f:Nat
 l:Xn Ps
 sg:Xn Nat
 s:Xn Nat
 x:Nat
 bu:Nat
 st:Nat
 sm:Nat
 jn:XN
 cl:XN
def jK(P:Nat->XN):Xn Nat->Nat
 | []=>0
 | k::l=>(if P k then 1 else 0)+jK P l
def gm.dn(D:gm):Nat:=jK (λk=>Nat.blt k 4) D.sg
def gm.na(D:gm):Nat:=jK (λk=>Nat.blt 3 k&&Nat.blt k 9) D.sg
def gm.nb(D:gm):Nat:=jK (λk=>k==3||k==2) D.sg
def gm.nd(D:gm):Nat:=jK (λk=>k==1) D.sg
def l8(p:cn)(D:gm):Nat:=iI (phi p) D.l+mo p D.f p.n+2*D.bu+(p.n-D.dn)
inductive Wk(th:Th)(jn:XN)(a b d st sm:Nat):Prop
 | opn (h1:jn=false) (h2:th.CY=false) (h3:th.NR=false) (h4:st=(a+th.Sg)*4294967296) (h5:sm=0) (h6:b=0) (h7:d=0) (h8:th=.wt2 0->a=0)
 | reg (h1:th.CY=true) (h2:1<=a) (h4:st=a*4294967296+1) (h5:sm=0) (h6:b=0) (h7:d=0)
 | last (h1:th.CY=true) (h2:a=0) (h4:st=1) (h5:sm=0) (h6:b=1) (h7:d=0)
 | four (h1:th.CY=true) (h2:a=0) (h4:st=0) (h5:sm=0) (h6:b=0) (h7:d=1)
 | og (h1:th.CY=true) (h2:a=0) (h4:st=0) (h5:sm=1) (h6:b=0) (h7:d=0)
 | fin (h1:jn=true\/th.NR=true) (h2:a=0) (h4:st=0) (h5:sm=0) (h6:b=0) (h7:d=0)
structure AI(p:cn)(D:gm):Prop where
 len:D.l.length=D.f+1
 lsg:D.sg.length=D.f+1
 sg0:D.sg[0]?=some 9
 sg7:∀(i k:Nat),D.sg[i+1]?=some k->k<=7
 fn:D.f<=p.n
 small:p.n<=10000
 lenM:p.n<p.len p.n
 ids:∀(i:Nat) (q:Ps),D.l[i]?=some q->q.i=if i=0 then p.n else i-1
 cle:∀(i:Nat) (q:Ps),D.l[i]?=some q->q.c<=p.len q.i/\(q.th.QW=true->q.c<p.len q.i)
 kle:∀(i:Nat) (q:Ps),D.l[i]?=some q->q.th.kk<=5
 mu:jX D.l D.x D.bu
 hist:∀i∈D.s,i<D.f
 cnt:∀(i:Nat) (q:Ps),D.l[i+1]?=some q->D.s.count i=q.c
 hold:∀(i:Nat) (q:Ps) (s':Xn Nat),D.l[i+1]?=some q->(q.th=.hold s'\/q.th=.rel0 s')->s'=D.s
 fuel:∀(i:Nat) (q:Ps),D.l[i]?=some q->l8 p D<=q.n
 act:∀(i:Nat) (q:Ps) (y:Nat),D.l[i]?=some q->q.th.nn=some y->D.x=y\/l8 p D<q.n
 actW:∀(q:Ps) (m:Nat),D.l[0]?=some q->q.th=.wt2 m->m=D.na\/l8 p D<q.n
 pre:∀(q:Ps),D.l[0]?=some q->(D.jn=false->q.th.sQ=true/\q.c=D.f/\(q.th.late=true->D.f=p.n)/\D.cl=q.th.shut/\(q.th.Wj=true->q.c<p.n))/\(D.jn=true->q.th.sQ=false/\q.th≠.new/\D.f=p.n/\D.cl=true/\q.th≠.pre)
 wrk:∀(i:Nat) (q:Ps),D.l[i+1]?=some q->q.th.sQ=false/\q.th≠.pre
 wg:∀(q:Ps),D.l[0]?=some q->Wk q.th D.jn D.na D.nb D.nd D.st D.sm
 done:∀(i k:Nat),D.sg[i+1]?=some k->k<7->∃q,D.l[i+1]?=some q/\q.th=.out/\q.c=p.len i
def CZ(p:cn)(q:Ps):Nat:=if q.i=p.n then(q.n*1000+2000)*(p.n-q.c)+q.n*1000+q.th.eV else q.n*1000+q.th.eV
def Aw:Xn Nat->Nat
 | []=>0
 | k::l=>k+Aw l
def Wt(p:cn)(D:gm):Nat:=iI (CZ p) D.l+Aw D.sg
def gm.upd(D:gm)(i:Nat)(q':Ps)(x' sem':Nat):gm:={ D with l:=D.l.set i q',x:=x',bu:=sem' }
section
variable{p:cn}{D:gm}{i:Nat}{q q':Ps}{x' sem':Nat}
def l8.upd(h:D.l[i]?=some q):l8 p (D.upd i q' x' sem')+phi p q+2*D.bu=l8 p D+phi p q'+2*sem':=by
 have:=gF (f:=phi p) q' h;simp only[l8,gm.upd,gm.dn];omega
def aF{l:Xn Ps}{j:Nat}{t:Ps}(h:(l.set i q')[j]?=some t)(b:l[i]?=some q):(j=i/\t=q')\/(j≠i/\l[j]?=some t):=by
 by_cases H:i=j
 .subst H;have a:=(Xw.1 b).1;rw[X2 a]at h;exact .inl ⟨rfl,(Xt h).symm⟩
 .rw[Yv H]at h;exact .inr ⟨λe=>H e.symm,h⟩
def AI.KV(h:AI p D)(b:D.l[i]?=some q)(r:q'.i=q.i)(F:q'.c=q.c)(A:q'.th.QW=true->q.c<p.len q.i)(z:q'.th.kk<=5)(B:jX (D.l.set i q') x' sem')
 (U:phi p q'+2*sem'<=phi p q+2*D.bu) (I:x'≠D.x->phi p q'+2*sem'<phi p q+2*D.bu) (J:l8 p (D.upd i q' x' sem')<=q'.n) (K:∀y,q'.th.nn=some y->x'=y\/l8 p (D.upd i q' x' sem')<q'.n)
 (L:∀S,(q'.th=.hold S\/q'.th=.rel0 S)->i≠0->S=D.s) (d:q.th.sQ=false/\q'.th.sQ=false/\q'.th≠.pre/\q'.th≠.new) (M:∀k,D.sg[i]?=some k->k<7->False):AI p (D.upd i q' x' sem'):=by
 have V:=l8.upd (p:=p) (q':=q') (x':=x') (sem':=sem') b;have o:l8 p (D.upd i q' x' sem')<=l8 p D:=by omega
 have u:i=0->D.jn=true:=λv=>by
  subst v;cases H:D.jn with
  | true=>rfl
  | false=>have:=((h.pre q b).1 H).1;rw[d.1]at this;cases this
 refine⟨by simp[gm.upd,h.len],h.lsg,h.sg0,h.sg7,h.fn,h.small,h.lenM,λj t H=>?_,λj t H=>?_,λj t H=>?_,B,h.hist,λj t H=>?_,λj t S H f=>?_,λj t H=>?_,λj t y H G=>?_,λt m H f=>?_,λt H=>?_,λj t H=>?_,λt H=>?_,λj k H z=>?_⟩
 .rcases aF H b with⟨rfl,rfl⟩|⟨_,H⟩
  .rw[r];exact h.ids _ _ b
  .exact h.ids _ _ H
 .rcases aF H b with⟨rfl,rfl⟩|⟨_,H⟩
  .have:=h.cle _ _ b;rw[r,F];exact⟨this.1,A⟩
  .exact h.cle _ _ H
 .rcases aF H b with⟨rfl,rfl⟩|⟨_,H⟩
  .exact z
  .exact h.kle _ _ H
 .rcases aF H b with⟨rfl,rfl⟩|⟨_,H⟩
  .rw[F];exact h.cnt _ _ b
  .exact h.cnt _ _ H
 .rcases aF H b with⟨e,rfl⟩|⟨_,H⟩
  .exact L S f (by omega)
  .exact h.hold _ _ _ H f
 .rcases aF H b with⟨rfl,rfl⟩|⟨_,H⟩
  .exact J
  .exact Yh o (h.fuel _ _ H)
 .rcases aF H b with⟨rfl,rfl⟩|⟨_,H⟩
  .exact K y G
  .by_cases w:x'=D.x
   .rcases h.act _ _ _ H G with g|g
    .exact .inl (by show x'=y;rw[w,g])
    .exact .inr (Za o g)
   .have:=I w;have:=h.fuel _ _ H;exact .inr (by omega)
 .rcases aF H b with⟨rfl,rfl⟩|⟨_,H⟩
  .have:=d.2.1;rw[f]at this;cases this
  .rcases h.actW _ _ H f with g|g
   .exact .inl g
   .exact .inr (Za o g)
 .rcases aF H b with⟨v,rfl⟩|⟨_,H⟩
  .subst v;have:=u rfl;refine⟨λC=>?_,λ_=>?_⟩
   .simp only[gm.upd]at C;rw[this]at C;cases C
   .exact⟨d.2.1,d.2.2.2,((h.pre q b).2 this).2.2.1,((h.pre q b).2 this).2.2.2.1,d.2.2.1⟩
  .exact h.pre _ H
 .rcases aF H b with⟨_,rfl⟩|⟨_,H⟩
  .exact⟨d.2.1,d.2.2.1⟩
  .exact h.wrk _ _ H
 .rcases aF H b with⟨v,rfl⟩|⟨_,H⟩
  .subst v;have g:=u rfl;have N:=h.wg q b;have f:q.th.CY=false:=by
    have:=d.1;cases O:q.th<;>first|rfl|(rw[O]at this;cases this)
   cases N with
   | opn a=>rw[g]at a;cases a
   | fin _ E P Q R T=>exact .fin (.inl g) E P Q R T
   | reg a=>rw[f]at a;cases a
   | last a=>rw[f]at a;cases a
   | four a=>rw[f]at a;cases a
   | og a=>rw[f]at a;cases a
  .exact h.wg _ H
 .obtain⟨t,f,g,E⟩:=h.done j k H z;refine⟨t,?_,g,E⟩;simp only[gm.upd];rw[Yv λe=>M k (by rw[e];exact H) z];exact f
def Wt.upd(H:D.l[i]?=some q)(h:CZ p q'<CZ p q):Wt p (D.upd i q' x' sem')<Wt p D:=by
 have:=gF (f:=CZ p) q' H;simp only[Wt,gm.upd];omega
def Si(H:q'.i=q.i)(b:q.c<=q'.c)(a:q'.th.kk<=5)(d:q'.n<q.n):CZ p q'<CZ p q:=by
 have e:=q'.th.QX a;unfold CZ;rw[H];by_cases h:q.i=p.n
 .rw[XE h,XE h];have f:(q'.n*1000+2000)*(p.n-q'.c)<=(q.n*1000+2000)*(p.n-q.c):=Nat.mul_le_mul (by omega) (by omega);omega
 .rw[Xx h,Xx h];omega
def Ja(H:q'.i=q.i)(a:q.c<=q'.c)(b:q'.n<=q.n)(d:q'.th.eV<q.th.eV):CZ p q'<CZ p q:=by
 unfold CZ;rw[H];by_cases h:q.i=p.n
 .rw[XE h,XE h];have e:(q'.n*1000+2000)*(p.n-q'.c)<=(q.n*1000+2000)*(p.n-q.c):=Nat.mul_le_mul (by omega) (by omega);omega
 .rw[Xx h,Xx h];omega
variable{p:cn}{D:gm}{i j c n x k:Nat}{q:Ps}{t':Th}{x' sem':Nat}
def AI.Xg(h:AI p D):D.x<1000000:=by
 obtain⟨⟨W,S,m,H⟩,_⟩:=h.mu;have B:=CW (f:=fQ) (b:=1) (λs=>by unfold fQ;split<;>omega) D.l;have e:=CW (f:=fO) (b:=1) (λs=>by unfold fO;split<;>omega) D.l;have g:=CW (f:=fH) (b:=1) (λs=>by unfold fH;split<;>omega) D.l;have:=h.len;have:=h.fn;have:=h.small;obtain⟨o,r,t,u,a,A,v⟩:=H;rcases X8 S 1 with d|d
 .have:=a (by omega);omega
 .have:=A (by omega);omega
def AI.aw(h:AI p D)(a:D.l[i]?=some q)(g:1<=fA q):D.x / 2%2=1:=by
 obtain⟨⟨W,S,m,H⟩,_⟩:=h.mu;have b:=jW (f:=fA) a;obtain⟨B,o,r,s,t⟩:=H.bits;obtain⟨u,v,w,y,A,d,z⟩:=H;rcases X8 S 1 with e|e
 .have:=A (by omega);omega
 .have:=d (by omega);omega
def AI.busy(h:AI p D)(b:D.l[i]?=some q)(H:q.th≠.out\/q.c<p.len q.i):∀k,D.sg[i]?=some k->k<7->False:=λk a f=>by
 cases i with
 | zero=>rw[h.sg0]at a;cases a;omega
 | succ i=>
  obtain⟨t,d,g,m⟩:=h.done i k a f;rw[b]at d;cases d;have e:=h.ids _ _ b;simp at e;rcases H with H|H
  .exact H g
  .rw[e]at H;omega
def AI.to(h:AI p D)(H:D.l[i]?=some q)(b:t'.QW=true->q.c<p.len q.i)(g:t'.kk<=5)(d:∀N,jX (D.l.set i ⟨q.i,q.c,N,t'⟩) x' sem')
 (r:phi p ⟨q.i,q.c,0,t'⟩+2*sem'<=phi p q+2*D.bu) (t:x'≠D.x->phi p ⟨q.i,q.c,0,t'⟩+2*sem'<phi p q+2*D.bu) (u:∀y,t'.nn=some y->x'=y)
 (v:∀S,(t'=.hold S\/t'=.rel0 S)->i≠0->S=D.s) (f:q.th.sQ=false/\t'.sQ=false/\t'≠.pre/\t'≠.new) (w:q.th≠.out\/q.c<p.len q.i) (a:(phi p ⟨q.i,q.c,0,t'⟩+2*sem'<phi p q+2*D.bu\/l8 p D<q.n)\/t'.eV<q.th.eV) :
 ∃N,N<=q.n/\((phi p ⟨q.i,q.c,0,t'⟩+2*sem'<phi p q+2*D.bu\/l8 p D<q.n)->N<q.n)/\AI p (D.upd i ⟨q.i,q.c,N,t'⟩ x' sem')/\Wt p (D.upd i ⟨q.i,q.c,N,t'⟩ x' sem')<Wt p D:=by
 have e:∀m,phi p ⟨q.i,q.c,m,t'⟩=phi p ⟨q.i,q.c,0,t'⟩:=λm=>rfl;have o:∀m,l8 p (D.upd i ⟨q.i,q.c,m,t'⟩ x' sem')+phi p q+2*D.bu=l8 p D+phi p ⟨q.i,q.c,0,t'⟩+2*sem':=λm=>by rw[<- e m];exact l8.upd H
 have B:=o 0;have C:=h.fuel _ _ H;refine⟨l8 p (D.upd i ⟨q.i,q.c,0,t'⟩ x' sem'),by omega,λz=>by omega,?_,?_⟩
 .refine h.KV H rfl rfl b g (d _) (by rw[e];exact r) (by rw[e];exact t) ?_ (λy A=>.inl (u y A)) v f (h.busy H w);have:=o (l8 p (D.upd i ⟨q.i,q.c,0,t'⟩ x' sem'));show _<=l8 p (D.upd i ⟨q.i,q.c,0,t'⟩ x' sem');omega
 .refine Wt.upd H ?_;rcases a with a|a
  .exact Si rfl (XD _) g (by show l8 p _<q.n;omega)
  .exact Ja rfl (XD _) (by show l8 p _<=q.n;omega) a
def AI.keep(h:AI p D)(H:D.l[i]?=some q)(a:t'.QW=true->q.c<p.len q.i)(e:t'.kk<=5)(b:jX (D.l.set i ⟨q.i,q.c,q.n,t'⟩) D.x D.bu)
 (u:phi p ⟨q.i,q.c,q.n,t'⟩<=phi p q) (f:∀y,t'.nn=some y->D.x=y) (g:∀S,(t'=.hold S\/t'=.rel0 S)->i≠0->S=D.s) (d:q.th.sQ=false/\t'.sQ=false/\t'≠.pre/\t'≠.new) (m:q.th≠.out\/q.c<p.len q.i) (o:t'.eV<q.th.eV) :
 AI p (D.upd i ⟨q.i,q.c,q.n,t'⟩ D.x D.bu)/\Wt p (D.upd i ⟨q.i,q.c,q.n,t'⟩ D.x D.bu)<Wt p D:=by
 have v:=l8.upd (p:=p) (q':=⟨q.i,q.c,q.n,t'⟩) (x':=D.x) (sem':=D.bu) H;have w:=h.fuel _ _ H;refine⟨h.KV H rfl rfl a e b (by omega) (λr=>XG rfl r) (by show l8 p _<=q.n;omega) (λy t=>.inl (f y t)) g d (h.busy H m),Wt.upd H (Ja rfl (XD _) (XD _) o)⟩
variable {P:Prop}
def au (h:P:=by first|rfl|(intros;simp_all [Th.QW,Th.kk,Th.sQ,Th.nn,Th.eV,phi,fL,fA,fK,fU,fO,fH,fQ,fR];done)|(simp only[Th.QW,Th.kk,Th.sQ,Th.nn,Th.eV,phi]at *;omega)):P:=h
def AI.Kv(h:AI p D)(H:D.l[i]?=some ⟨j,c,n,.out⟩)(a:c<p.len j):AI p (D.upd i ⟨j,c,n,.lk0⟩ D.x D.bu)/\Wt p (D.upd i ⟨j,c,n,.lk0⟩ D.x D.bu)<Wt p D:=
 h.keep H (λ_=>a) au (h.mu.same H rfl rfl rfl rfl rfl rfl rfl (XD _) au) au au au ⟨rfl,rfl,au,au⟩ (.inr a) au
def AI.EG(h:AI p D)(a:D.l[i]?=some ⟨j,c,n,.lk0⟩)(d:D.x=0):∃N,N<n/\AI p (D.upd i ⟨j,c,N,.nk⟩ 1 D.bu)/\Wt p (D.upd i ⟨j,c,N,.nk⟩ 1 D.bu)<Wt p D:=by
 have b:c<p.len j:=(h.cle _ _ a).2 rfl;have H:phi p ⟨j,c,0,.nk⟩+2*D.bu<phi p ⟨j,c,n,.lk0⟩+2*D.bu:=by simp only[phi];omega
 obtain⟨N,_,e,f⟩:=h.to (q:=⟨j,c,n,.lk0⟩) (t':=.nk) (x':=1) (sem':=D.bu) a (λ_=>b) au (λN=>jX.EG (d▸h.mu) a rfl rfl) (Zw H) (λ_=>H) au au ⟨rfl,rfl,au,au⟩ (.inr b) (.inl (.inl H));exact⟨N,e (.inl H),f⟩
def AI.UZ(h:AI p D)(H:D.l[i]?=some ⟨j,c,n,.lk0⟩):AI p (D.upd i ⟨j,c,n,.slow false false 5⟩ D.x D.bu)/\Wt p (D.upd i ⟨j,c,n,.slow false false 5⟩ D.x D.bu)<Wt p D:=by
 have a:c<p.len j:=(h.cle _ _ H).2 rfl;exact h.keep H (λ_=>a) au (h.mu.same H rfl rfl rfl rfl rfl rfl rfl (XD _) au) au au au ⟨rfl,rfl,au,au⟩ (.inr a) au
variable {t:Th}
def AI.look (h:AI p D) (d:D.l[i]?=some ⟨j,c,n,t⟩) (a:t'.QW=true->c<p.len j) (e:t'.kk<=5) (b:∀N,jX (D.l.set i ⟨j,c,N,t'⟩) D.x D.bu) (f:phi p ⟨j,c,0,t'⟩<=phi p ⟨j,c,0,t⟩) (g:∀y,t'.nn=some y->D.x=y) (H:t.sQ=false/\t'.sQ=false/\t'≠.pre/\t'≠.new/\(∀s,t'≠.hold s)/\∀s,t'≠.rel0 s) (m:t≠.out) (o:t'.eV<t.eV):
 ∃N,N<=n/\AI p (D.upd i ⟨j,c,N,t'⟩ D.x D.bu)/\Wt p (D.upd i ⟨j,c,N,t'⟩ D.x D.bu)<Wt p D:=by
 obtain⟨N,r,_,u⟩:=h.to (q:=⟨j,c,n,t⟩) (t':=t') (x':=D.x) (sem':=D.bu) d a e b (Nat.add_le_add_right f _) (λv=>XG rfl v) g (λS h=>h.elim (λh=>XG h (H.2.2.2.2.1 S)) λh=>XG h (H.2.2.2.2.2 S)) ⟨H.1,H.2.1,H.2.2.1,H.2.2.2.1⟩ (.inl m) (.inr o);exact⟨N,r,u⟩
def AI.Jb (h:AI p D) (f:D.l[i]?=some ⟨j,c,n,t⟩) (a:t'.QW=true->c<p.len j) (g:t'.kk<=5) (b:∀N,jX (D.l.set i ⟨j,c,N,t'⟩) x' sem') (m:phi p ⟨j,c,0,t'⟩+2*sem'<=phi p ⟨j,c,0,t⟩+2*D.bu) (d:phi p ⟨j,c,0,t'⟩+2*sem'<phi p ⟨j,c,0,t⟩+2*D.bu\/(x'=D.x/\l8 p D<n)) (o:∀y,t'.nn=some y->x'=y) (H:t.sQ=false/\t'.sQ=false/\t'≠.pre/\t'≠.new/\(∀s,t'≠.hold s)/\∀s,t'≠.rel0 s) (r:t≠.out):
 ∃N,N<n/\AI p (D.upd i ⟨j,c,N,t'⟩ x' sem')/\Wt p (D.upd i ⟨j,c,N,t'⟩ x' sem')<Wt p D:=by
 obtain⟨N,_,u,v⟩:=h.to (q:=⟨j,c,n,t⟩) (t':=t') (x':=x') (sem':=sem') f a g b m (λe=>d.resolve_right λh=>e h.1) o (λS h=>h.elim (λh=>XG h (H.2.2.2.2.1 S)) λh=>XG h (H.2.2.2.2.2 S)) ⟨H.1,H.2.1,H.2.2.1,H.2.2.2.1⟩ (.inl r) (.inl (d.imp id λh=>h.2));exact⟨N,u (d.imp id λh=>h.2),v⟩
def Hq (h:P:=by exact⟨rfl,rfl,by simp,by simp,by simp,by simp⟩):P:=h
variable {aw st:XN}
def AI.Qw (h:AI p D) (H:D.l[i]?=some ⟨j,c,n,.slow aw st k⟩):∃N,N<=n/\AI p (D.upd i ⟨j,c,N,.act D.x aw st k⟩ D.x D.bu)/\Wt p (D.upd i ⟨j,c,N,.act D.x aw st k⟩ D.x D.bu)<Wt p D:=by
 have a:c<p.len j:=(h.cle _ _ H).2 rfl;exact h.look H (λ_=>a) (h.kle _ _ H) (λN=>h.mu.same H rfl (by cases aw<;>rfl) rfl rfl rfl rfl rfl (XD _) au) (by cases aw<;>simp[phi]) (λy b=>Xt b) Hq (by simp) (by simp[Th.eV])
variable {x0:Nat}
def AI.Ul (h:AI p D) (H:D.l[i]?=some ⟨j,c,n,.act x0 aw st (k+1)⟩):∃N,N<=n/\AI p (D.upd i ⟨j,c,N,.act D.x aw st k⟩ D.x D.bu)/\Wt p (D.upd i ⟨j,c,N,.act D.x aw st k⟩ D.x D.bu)<Wt p D:=by
 have a:c<p.len j:=(h.cle _ _ H).2 rfl;have b:=h.kle _ _ H;exact h.look H (λ_=>a) (by simp only[Th.kk]at b |-;omega) (λN=>h.mu.same H rfl (by cases aw<;>rfl) rfl rfl rfl rfl rfl (XD _) au) (by cases aw<;>simp[phi]) (λy d=>Xt d) Hq (by simp) (by simp[Th.eV])
def AI.tL (h:AI p D) (H:D.l[i]?=some ⟨j,c,n,.act D.x false st k⟩) (b:D.x%8=1):∃N,N<n/\AI p (D.upd i ⟨j,c,N,.slow true st k⟩ (D.x+2) D.bu)/\Wt p (D.upd i ⟨j,c,N,.slow true st k⟩ (D.x+2) D.bu)<Wt p D:=by
 have d:c<p.len j:=(h.cle _ _ H).2 rfl;have a:phi p ⟨j,c,0,.slow true st k⟩+2*D.bu<phi p ⟨j,c,0,.act D.x false st k⟩+2*D.bu:=by simp only[phi];omega
 exact h.Jb H (λ_=>d) (h.kle _ _ H) (λN=>h.mu.tL H rfl rfl b) (Zw a) (.inl a) (by simp[Th.nn]) Hq (by simp)
def AI.late (h:AI p D) (H:D.l[i]?=some ⟨j,c,n,.act x0 aw st k⟩) (a:D.x≠x0) (k':Nat) (b:k'<=5):∃N,N<n/\AI p (D.upd i ⟨j,c,N,.slow aw st k'⟩ D.x D.bu)/\Wt p (D.upd i ⟨j,c,N,.slow aw st k'⟩ D.x D.bu)<Wt p D:=by
 have d:c<p.len j:=(h.cle _ _ H).2 rfl;have e:=(h.act _ _ x0 H rfl).resolve_left a;exact h.Jb H (λ_=>d) b (λN=>h.mu.same H rfl (by cases aw<;>rfl) rfl rfl rfl rfl rfl (XD _) au) (by cases aw<;>simp[phi]) (.inr ⟨rfl,e⟩) (by simp[Th.nn]) Hq (by simp)
def AI.EH (h:AI p D) (H:D.l[i]?=some ⟨j,c,n,.act D.x aw st k⟩) (d:D.x%2=0/\D.x / 4%2=0) (a:(x':Int)=(D.x:Int)+1-(if aw then 2 else 0)):∃N,N<n/\AI p (D.upd i ⟨j,c,N,.nk⟩ x' D.bu)/\Wt p (D.upd i ⟨j,c,N,.nk⟩ x' D.bu)<Wt p D:=by
 have e:c<p.len j:=(h.cle _ _ H).2 rfl;have b:phi p ⟨j,c,0,.nk⟩+2*D.bu<phi p ⟨j,c,0,.act D.x aw st k⟩+2*D.bu:=by cases aw<;>simp only[phi]<;>omega
 exact h.Jb H (λ_=>e) au (λN=>h.mu.EH H rfl rfl d a) (Zw b) (.inl b) (by simp[Th.nn]) Hq (by simp)
def AI.EI (h:AI p D) (H:D.l[i]?=some ⟨j,c,n,.act D.x aw st k⟩) (e:D.x%2=1\/D.x / 4%2=1) (a:st=true->aw=true) (b:(x':Int)=(D.x:Int)+8+(if st=true/\D.x%2=1/\D.x / 4%2=0 then 4 else 0)-(if aw then 2 else 0)):∃N,N<n/\AI p (D.upd i ⟨j,c,N,.queued 2⟩ x' D.bu)/\Wt p (D.upd i ⟨j,c,N,.queued 2⟩ x' D.bu)<Wt p D:=by
 have f:c<p.len j:=(h.cle _ _ H).2 rfl;have d:phi p ⟨j,c,0,.queued 2⟩+2*D.bu<phi p ⟨j,c,0,.act D.x aw st k⟩+2*D.bu:=by cases aw<;>simp only[phi]<;>omega
 exact h.Jb H (λ_=>f) au (λN=>h.mu.EI H rfl rfl e a b) (Zw d) (.inl d) (by simp[Th.nn]) Hq (by simp)
def AI.Kw(h:AI p D)(H:D.l[i]?=some ⟨j,c,n,.queued (k+1)⟩):AI p (D.upd i ⟨j,c,n,.queued k⟩ D.x D.bu)/\Wt p (D.upd i ⟨j,c,n,.queued k⟩ D.x D.bu)<Wt p D:=by
 have a:c<p.len j:=(h.cle _ _ H).2 rfl;have b:=h.kle _ _ H;exact h.keep H (λ_=>a) (by simp only[Th.kk]at b |-;omega) (h.mu.same H rfl rfl rfl rfl rfl rfl rfl (XD _) au) (by simp[phi]) au au ⟨rfl,rfl,au,au⟩ (.inr a) (by simp[Th.eV])
def AI.Kx(h:AI p D)(H:D.l[i]?=some ⟨j,c,n,.woken (k+1)⟩):AI p (D.upd i ⟨j,c,n,.woken k⟩ D.x D.bu)/\Wt p (D.upd i ⟨j,c,n,.woken k⟩ D.x D.bu)<Wt p D:=by
 have a:c<p.len j:=(h.cle _ _ H).2 rfl;have b:=h.kle _ _ H;exact h.keep H (λ_=>a) (by simp only[Th.kk]at b |-;omega) (h.mu.same H rfl rfl rfl rfl rfl rfl rfl (XD _) au) (by simp[phi]) au au ⟨rfl,rfl,au,au⟩ (.inr a) (by simp[Th.eV])
def AI.acq(h:AI p D)(H:D.l[i]?=some ⟨j,c,n,.queued k⟩)(a:D.bu=sem'+1):∃N,N<n/\AI p (D.upd i ⟨j,c,N,.woken 2⟩ D.x sem')/\Wt p (D.upd i ⟨j,c,N,.woken 2⟩ D.x sem')<Wt p D:=by
 have d:c<p.len j:=(h.cle _ _ H).2 rfl;have b:phi p ⟨j,c,0,.woken 2⟩+2*sem'<phi p ⟨j,c,0,.queued k⟩+2*D.bu:=by simp only[phi];omega
 exact h.Jb H (λ_=>d) au (λN=>jX.acq (a▸h.mu) H rfl rfl) (Zw b) (.inl b) (by simp[Th.nn]) Hq (by simp)
def AI.IS(st:XN)(h:AI p D)(H:D.l[i]?=some ⟨j,c,n,.woken k⟩)(b:D.x / 4%2=0):D.x / 2%2=1/\∃N,N<=n/\AI p (D.upd i ⟨j,c,N,.act D.x true st 5⟩ D.x D.bu)/\Wt p (D.upd i ⟨j,c,N,.act D.x true st 5⟩ D.x D.bu)<Wt p D:=by
 have d:c<p.len j:=(h.cle _ _ H).2 rfl;have a:=h.look (t':=.act D.x true st 5) H (λ_=>d) au (λN=>h.mu.IS H rfl rfl b) (by simp[phi]) (λy e=>Xt e) Hq (by simp) (by simp only[Th.eV];omega);refine⟨?_,a⟩;obtain⟨N,_,f,_⟩:=a;exact AI.aw (D:=D.upd i ⟨j,c,N,.act D.x true st 5⟩ D.x D.bu) (i:=i) (q:=⟨j,c,N,.act D.x true st 5⟩) f (by show(D.l.set i _)[i]?=_;rw[X2 (Xw.1 H).1]) (by simp[fA])
def AI.Wi(h:AI p D)(H:D.l[i]?=some ⟨j,c,n,.woken k⟩)(b:D.x / 4%2=1):D.x%8=4/\8<=D.x/\AI p (D.upd i ⟨j,c,n,.hand D.x⟩ D.x D.bu)/\Wt p (D.upd i ⟨j,c,n,.hand D.x⟩ D.x D.bu)<Wt p D:=by
 have a:c<p.len j:=(h.cle _ _ H).2 rfl;obtain⟨m,M,d⟩:=h.mu.Wi (s':=⟨j,c,n,.hand D.x⟩) H rfl rfl b;exact⟨M,d,h.keep H (λ_=>a) au m (by simp[phi]) au au ⟨rfl,rfl,au,au⟩ (.inr a) (by simp only[Th.eV];omega)⟩
variable {y:Nat}
def AI.EJ {d:Int} (h:AI p D) (H:D.l[i]?=some ⟨j,c,n,.hand y⟩) (e:(d=-7/\16<=y)\/d=-11) (a:(x':Int)=(D.x:Int)+d):∃N,N<n/\AI p (D.upd i ⟨j,c,N,.nk⟩ x' D.bu)/\Wt p (D.upd i ⟨j,c,N,.nk⟩ x' D.bu)<Wt p D:=by
 have f:c<p.len j:=(h.cle _ _ H).2 rfl;have b:phi p ⟨j,c,0,.nk⟩+2*D.bu<phi p ⟨j,c,0,.hand y⟩+2*D.bu:=by simp only[phi];omega
 exact h.Jb H (λ_=>f) au (λN=>(h.mu.EJ H rfl rfl e a).1) (Zw b) (.inl b) (by simp[Th.nn]) Hq (by simp)
def AI.en(h:AI p D)(H:D.l[i]?=some ⟨j,c,n,.nk⟩):AI p (D.upd i ⟨j,c,n,.got1⟩ D.x D.bu)/\Wt p (D.upd i ⟨j,c,n,.got1⟩ D.x D.bu)<Wt p D:=by
 have a:c<p.len j:=(h.cle _ _ H).2 rfl;exact h.keep H (λ_=>a) au (h.mu.same H rfl rfl rfl rfl rfl rfl rfl (XD _) au) (by simp[phi]) au au ⟨rfl,rfl,au,au⟩ (.inr a) (by simp[Th.eV])
variable {s:Xn Nat}
def AI.Ma (h:AI p D) (H:D.l[i]?=some ⟨j,c,n,.got1⟩) (b:i≠0->s=D.s):AI p (D.upd i ⟨j,c,n,.hold s⟩ D.x D.bu)/\Wt p (D.upd i ⟨j,c,n,.hold s⟩ D.x D.bu)<Wt p D:=by
 have a:c<p.len j:=(h.cle _ _ H).2 rfl;exact h.keep H (λ_=>a) au (h.mu.same H rfl rfl rfl rfl rfl rfl rfl (XD _) au) (by simp[phi]) au (λS h d=>by rcases h with h|h<;>cases h;exact b d) ⟨rfl,rfl,au,au⟩ (.inr a) (by simp[Th.eV])
def AI.Um (h:AI p D) (H:D.l[i]?=some ⟨j,c,n,.hold s⟩):AI p (D.upd i ⟨j,c,n,.rel0 s⟩ D.x D.bu)/\Wt p (D.upd i ⟨j,c,n,.rel0 s⟩ D.x D.bu)<Wt p D:=by
 have b:c<p.len j:=(h.cle _ _ H).2 rfl;refine h.keep H (λ_=>b) au (h.mu.same H rfl rfl rfl rfl rfl rfl rfl (XD _) au) (by simp[phi]) au (λS a d=>?_) ⟨rfl,rfl,au,au⟩ (.inr b) (by simp[Th.eV]);rcases a with a|a<;>cases a;obtain⟨m,rfl⟩:∃m,i=m+1:=⟨i-1,by omega⟩;exact h.hold m _ _ H (.inl rfl)
def AI.Kz(h:AI p D)(H:D.l[i]?=some ⟨j,c,n,.rel1⟩):AI p (D.upd i ⟨j,c,n,.rel2⟩ D.x D.bu)/\Wt p (D.upd i ⟨j,c,n,.rel2⟩ D.x D.bu)<Wt p D:=
 h.keep H au au (h.mu.same H rfl rfl rfl rfl rfl rfl rfl (XD _) au) (by simp[phi]) au au ⟨rfl,rfl,au,au⟩ (.inl (by simp)) (by simp[Th.eV])
def AI.EK(h:AI p D)(H:D.l[i]?=some ⟨j,c,n,.rel2⟩):1<=D.x/\(D.x-1)%2=0/\∃N,N<n/\AI p (D.upd i ⟨j,c,N,.unl (D.x-1) true⟩ (D.x-1) D.bu)/\Wt p (D.upd i ⟨j,c,N,.unl (D.x-1) true⟩ (D.x-1) D.bu)<Wt p D:=by
 have e:1<=D.x:=by
  obtain⟨⟨W,S,m,g⟩,_⟩:=h.mu;have b:=jW (f:=fL) H;simp only[fL]at b;have:=g.word;omega
 have a:∀N,jX (D.l.set i ⟨j,c,N,.unl (D.x-1) true⟩) (D.x-1) D.bu/\1<=D.x/\(D.x-1)%2=0:=λN=>h.mu.EK H rfl rfl (by omega);have d:phi p ⟨j,c,0,.unl (D.x-1) true⟩+2*D.bu<phi p ⟨j,c,0,.rel2⟩+2*D.bu:=by simp only[phi];omega
 exact⟨e,(a 0).2.2,h.Jb H au au (λN=>(a N).1) (Zw d) (.inl d) (λy o=>Xt o) Hq (by simp)⟩
variable {f:XN}
def AI.EL (h:AI p D) (H:D.l[i]?=some ⟨j,c,n,.unl D.x f⟩) (b:D.x%8=0/\8<=D.x):∃N,N<n/\AI p (D.upd i ⟨j,c,N,.nq⟩ (D.x-6) D.bu)/\Wt p (D.upd i ⟨j,c,N,.nq⟩ (D.x-6) D.bu)<Wt p D:=by
 have a:phi p ⟨j,c,0,.nq⟩+2*D.bu<phi p ⟨j,c,0,.unl D.x f⟩+2*D.bu:=by simp only[phi];omega
 exact h.Jb H au au (λN=>h.mu.EL H rfl rfl b (by omega)) (Zw a) (.inl a) (by simp[Th.nn]) Hq (by simp)
def AI.U0 (h:AI p D) (H:D.l[i]?=some ⟨j,c,n,.unl x0 f⟩) (a:x0%8=0/\8<=x0) (b:D.x≠x0):∃N,N<n/\AI p (D.upd i ⟨j,c,N,.unl0⟩ D.x D.bu)/\Wt p (D.upd i ⟨j,c,N,.unl0⟩ D.x D.bu)<Wt p D:=by
 have d:=(h.act _ _ x0 H rfl).resolve_left b;refine h.Jb H au au (λN=>h.mu.same H rfl rfl rfl ?_ rfl rfl rfl ?_ au) (by simp[phi]) (.inr ⟨rfl,d⟩) (by simp[Th.nn]) Hq (by simp)
 .cases f
  .rfl
  .simp only[fU];rw[Xx (by omega)]
 .simp only[fR];split<;>omega
def AI.EM(h:AI p D)(H:D.l[i]?=some ⟨j,c,n,.unl0⟩):∃N,N<=n/\AI p (D.upd i ⟨j,c,N,.unl D.x false⟩ D.x D.bu)/\Wt p (D.upd i ⟨j,c,N,.unl D.x false⟩ D.x D.bu)<Wt p D:=
 h.look H au au (λN=>h.mu.EM H rfl rfl) (by simp[phi]) (λy a=>Xt a) Hq (by simp) (by simp[Th.eV])
def AI.EN(h:AI p D)(H:D.l[i]?=some ⟨j,c,n,.nq⟩):∃N,N<n/\AI p (D.upd i ⟨j,c,N,.fin⟩ D.x (D.bu+1))/\Wt p (D.upd i ⟨j,c,N,.fin⟩ D.x (D.bu+1))<Wt p D:=by
 have a:phi p ⟨j,c,0,.fin⟩+2*(D.bu+1)<phi p ⟨j,c,0,.nq⟩+2*D.bu:=by simp only[phi];omega
 exact h.Jb H au au (λN=>h.mu.EN H rfl rfl) (Zw a) (.inl a) (by simp[Th.nn]) Hq (by simp)
def AI.EO (h:AI p D) (H:D.l[i]?=some ⟨j,c,n,.unl y true⟩) (b:y / 4%2=1):∃N,N<n/\AI p (D.upd i ⟨j,c,N,.fin⟩ D.x (D.bu+1))/\Wt p (D.upd i ⟨j,c,N,.fin⟩ D.x (D.bu+1))<Wt p D:=by
 have a:phi p ⟨j,c,0,.fin⟩+2*(D.bu+1)<phi p ⟨j,c,0,.unl y true⟩+2*D.bu:=by simp only[phi];omega
 exact h.Jb H au au (λN=>h.mu.EO H rfl b rfl) (Zw a) (.inl a) (by simp[Th.nn]) Hq (by simp)
def AI.Un(h:AI p D)(H:D.l[i]?=some ⟨j,c,n,.fin⟩):AI p (D.upd i ⟨j,c,n,.out⟩ D.x D.bu)/\Wt p (D.upd i ⟨j,c,n,.out⟩ D.x D.bu)<Wt p D:=
 h.keep H au au (h.mu.same H rfl rfl rfl rfl rfl rfl rfl (XD _) au) (by simp[phi]) au au ⟨rfl,rfl,au,au⟩ (.inl (by simp)) (by simp[Th.eV])
def AI.SN (h:AI p D) (H:D.l[i]?=some ⟨j,c,n,.unl y f⟩) (a:(y<8\/y%8≠0)/\(f=true->y / 4%2=0)):AI p (D.upd i ⟨j,c,n,.out⟩ D.x D.bu)/\Wt p (D.upd i ⟨j,c,n,.out⟩ D.x D.bu)<Wt p D:=by
 refine h.keep H au au (h.mu.same H rfl rfl rfl ?_ rfl rfl rfl ?_ au) (by simp only[phi];omega) au au ⟨rfl,rfl,au,au⟩ (.inl (by simp)) (by simp[Th.eV])
 .cases f
  .rfl
  .have:=a.2 rfl;simp only[fU];rw[Xx (by omega)]
 .simp only[fR];rw[Xx (by omega)];exact XR _
def AI.recv(h:AI p D)(H:D.l[i+1]?=some ⟨j,c,n,.new⟩):AI p (D.upd (i+1) ⟨j,c,n,.out⟩ D.x D.bu)/\Wt p (D.upd (i+1) ⟨j,c,n,.out⟩ D.x D.bu)<Wt p D:=
 h.keep H au au (h.mu.same H rfl rfl rfl rfl rfl rfl rfl (XD _) au) (by simp[phi]) au au ⟨rfl,rfl,au,au⟩ (.inl (by simp)) (by simp[Th.eV])
