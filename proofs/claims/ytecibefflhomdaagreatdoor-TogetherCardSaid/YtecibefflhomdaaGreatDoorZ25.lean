/-
  Part 25: ; ; .
-/
import Derived.Test.YtecibefflhomdaaGreatDoorZ24
set_option maxHeartbeats 8000000
set_option maxRecDepth 100000
set_option linter.all false
namespace Go.Proofs.YtecibefflhomdaaGreatDoor
open Go Proofs.Tryz
section
open Go Go.Conc Go.ConcN Go.ConcM
section
variable{F:Xn Nat->cn}{p:cn}{om Rk:Nat->Prop}{Q:Xp->Prop}{W0:Xo}{D D':gm}{vs vs':Nat->Xo}{T:Xn Tr}{gs gs':Xv XF}{r r':Xo}{t u:Trace}
variable{a op:Nat}{g g':XF}{qt:XN}{s:Sem Next}{fin:Xp->XF}{K:Xp->Xo->Prop}{q q':Ps}{es:Xv Ys}{sl:XB (Nat×Nat)}{wk:XN}{T':Tr}
theorem ua{j:Nat}(h:j≠1):aK om Rk j=aK om Rk 0:=by
 funext k;simp[aK,h]
def MI.gen(h:MI F p om Rk Q W0 D vs T gs r t)(S:gs[a]?=some g)(v:Ur gs gs' a g' wk r')(U:D.l[a]?=some q)(hl:D'.l=D.l.set a q')(n:D'.sg=D.sg)(C:D'.f=D.f)(E:D'.jn=D.jn)(G:AI p D')(w:Fp p r r')
 (o:WI F p om Rk D' vs' r') (I:TI (t++u) D'.f r'.heap.size (oR om Rk D' vs') (dY (aK om Rk 0) (vs' 0)) (oO (aK om Rk 0)) (qi p) p.word) (y:∀k,k≠0->k≠a+1->Ry (vs k) (vs' k))
 (c:∀op∈u,op.g=a) (V:Deaf (t++u) a=q'.th.deaf) (z:wk=true\/((D.bu=0->D'.bu=0)/\(D.sm=0->D'.sm=0))) (J:D'.cl=D.cl\/(wk=true/\D'.cl=true))
 (W:a=0->pK F om Q D' (vs' (a+1)) T' g') (P:a≠0->D.sg[a]?=some 7/\gr F p (aK om Rk (a+1)) D' r' (vs' (a+1)) q'.th.deaf 7 T' g') :
 MI F p om Rk Q W0 D' vs' (T.set a T') gs' r' (t++u):=by
 have X:a<=D.f:=by have:=(Xz.1 S).1;rw[h.gsz]at this;omega
 have L:=(Xw.1 U).1;have Y:=o.chb;have Z:=λj=>MI.VY h.wi w ⟨_,_,o.wgb⟩ j;refine⟨G,o,I,λi k A M=>?_,λN=>?_,by rw[v.size,h.gsz,C],by simp[h.tsz,C],?_,λi R=>?_,OsLater.tr h.os w.os,w.tape.trans h.tape,w.out.trans h.out,λk A=>?_⟩
 .rw[n]at A;have⟨x,hx⟩:=h.rl i k A M;have B:a≠i+1:=λe=>by
   grind
  refine⟨x,hx.app (λop H O=>XG ((c op H).symm.trans O) B) λ⟨op,H,O,_⟩=>XG ((c op H).symm.trans O) B⟩
 .rw[E]at N;refine m9 (h.ho N) λop H=>?_;by_cases b:a=0
  .exact .inl ((c op H).trans b)
  .exfalso;obtain⟨m,rfl⟩:∃m,a=m+1:=⟨a-1,by omega⟩;have:=h.ai.Us N (P b).1;omega
 .have⟨g0,T0,q0,m1,m2,m3,m4,m5⟩:=h.main;by_cases b:a=0
  .subst b;exact⟨g',T',q',v.own,by rw[X2 (by rw[h.tsz];omega)],by rw[hl,X2 L],V,W rfl⟩
  .refine⟨_,T0,q0,v.oth 0 g0 b m1,by rw[Fu b];exact m2,by rw[hl,Yv b];exact m3,?_,m5.other (y 1 (by omega) (by omega)) z⟩;rw[Deaf_other t b _ λop H=>c op H];exact m4
 .rw[C]at R;have⟨gi,Ti,k,w1,w2,w3,w4⟩:=h.wk i R;by_cases d:a=i+1
  .subst d;have⟨e1,e2⟩:=P (by omega);refine⟨g',T',7,v.own,by rw[X2 (by rw[h.tsz];omega)],by rw[n];exact e1,?_⟩
   grind
  .refine⟨_,Ti,k,v.oth _ gi d w1,by rw[Fu d];exact w2,by rw[n];exact w3,?_⟩;rw[Deaf_other t d _ λop H=>c op H];exact w4.other (y _ (by omega) (by omega)) (.inl (Z _)) (z.imp id λh=>h.1) J Y
 .have⟨n1,n2,n3⟩:=h.wi.now 1 k (.inl A);rw[w.oth k n1 n2 n3];exact h.keep k A
def Fv{P:Prop}{X x y:XB Obj}{z:Obj}(E:Ax P P X x)(h1:Mb P X y)(n:Mb P x y)(d:¬P)(j:X=some z)(w:Af z)(O:∃o,x=some o):x=some (gZ z)\/∃c C f,x=some (.cells c 133 f)/\z=.cells C 133 f/\C.size=c.size:=by
 have⟨o,H⟩:=O;by_cases k:∃c e f,z=Obj.cells c e f
 .obtain⟨c,e,f,rfl⟩:=k;have⟨C,G,U,_⟩:=h1.cells c e f j;by_cases l:∃c e f,o=Obj.cells c e f
  .obtain⟨v,R,f2,rfl⟩:=l;have⟨S,I,V,_⟩:=n.cells v R f2 H;rw[G]at I;cases I;by_cases b:e=133
   .subst b;exact .inr ⟨v,c,f,H,rfl,by omega⟩
   .refine .inl ?_;rw[H];simp only[gZ];congr 2;apply Y9;intro i;rcases X8 i v.size with J|J
    .have m:i<c.size:=by omega
     have L:=XL J;have M:=XL m;rw[aa9,XE m,L];rcases E.cells d d c v e e f f j H i _ _ M L with h|h
     .exact XG (w i _ M h).1 b
     grind
    grind
  .exfalso;by_cases N:o=.coro none
   .subst N;have⟨Y,W,Z⟩:=n.blank d H
    grind
   .have:=n.other o H (λc e f h=>l ⟨c,e,f,h⟩) λh=>N (by have:=h.2;rw[H]at this;exact Xt this)
    grind
 .have A:=λc e f h=>k ⟨c,e,f,h⟩;have hy:=h1.other z j A λh=>C1 w (by have:=h.2;rw[j]at this;exact Xt this);have B:∀c e f,o≠Obj.cells c e f:=λc e f h=>by
   subst h;have⟨C,G,_⟩:=n.cells c e f H
   grind
  have hh:gZ z=.coro none:=by
   cases z with
   | cells c e f=>exact XG rfl (A _ _ _)
   | _=>rfl
  rcases E.obj d d z o j H A B with h|h
  .exact XG h (C1 w)
  grind
def mZ.pos(h:mZ (aK om Rk) vs r)(j:Nat){k:Nat}(H:k<r.heap.size):∃o,(vs j).heap[k]?=some o:=⟨_,XL (by rw[h.size j];exact H)⟩
def MI.Xi(h:MI F p om Rk Q W0 D vs T gs r t)(H:D.l[a]?=some q)(h1:fL q=1)(e:¬bQ q):∀(i:Nat) (x:Ps),D.l[i+1]?=some x->¬bQ x:=λi x b c=>by
 have d:fL x=1:=by
  obtain⟨s,h|h⟩:=c<;>simp[fL,h]
 cases h.ai.one H h1 b d
 grind
def K1{old S:Nat->Prop}{v V:Xo}{os':Os}{l:Loc}(d:v.heap.size=V.heap.size)(h:dY old ({ pick S v V with os:=os' }:Xo) l):dY old V l\/(S (j7 l)/\dY old v l):=by
 have⟨b,c⟩:=h;by_cases H:S (j7 l)
 .exact .inr ⟨H,b,c.of_eq (tW d H).symm⟩
 .exact .inl ⟨b,c.of_eq (qN H).symm⟩
theorem MI.Ma{i c n:Nat}(h:MI F p om Rk Q W0 D vs T gs r t)(Z:gs[a]?=some g)(hs:np F p om Rk Q D a op g qt s fin K)(G:D.l[a]?=some ⟨i,c,n,.got1⟩)(hi:i<p.n)
 (hK:∀ v' s P,s.count i=c->p.LI s P->rY (aK om Rk (a+1)) P (vs (a+1)) v'->v'.os=ji (vs (a+1)).os ⟨i,c,n,.hold s⟩->K eI v') (hy:Yields qt s r eI r #[⟨.mark (.acquire p.word),false,true⟩]):r7 F p om Q W0 (ja p D T gs) sl gs r t a:=by
 obtain⟨h00,hia,_⟩:a≠0/\i=a-1/\i<p.n:=by
  rcases h.ai.NX G with⟨_,y⟩|⟨y,d,R⟩
  ·simp only at y;omega
  ·exact⟨y,d,R⟩
 obtain⟨m,rfl⟩:∃ m,a=m+1:=⟨a-1,by omega⟩;have hsg:=(hs.w h00).1;have hjn:D.jn=false:=by
  cases I:D.jn with
  | false=>rfl
  | true=>have:=h.ai.Us I hsg;omega
 have hno:=h.Xi G rfl (fun⟨s,k⟩=>by rcases k with k|k<;>cases k);have⟨P,hLI,hsh⟩:=h.wi.lock hjn hno;have L:aK om Rk (m+1+1)=aK om Rk 0:=ua (by omega);have hmf:m<D.f:=by have:=(List.getElem?_eq_some_iff.1 G).1;rw[h.ai.len] at this;omega
 have O:=h.wi.views.size;let q':Ps:=⟨i,c,n,.hold D.s⟩
 let S:Nat->Prop:=fun k=>(∃ x,P k=some x)/\¬ aK om Rk 0 k
 let v':World:={ pick S (vs 0) (vs (m+1+1)) with os:=ji (vs (m+1+1)).os q' }
 have hvs:(vs 0).heap.size=(vs (m+1+1)).heap.size:=by rw[O,O]
 have vin:∀ {k:Nat},S k->v'.heap[k]?=(vs 0).heap[k]?:=fun B=>tW hvs B;have vout:∀ {k:Nat},¬ S k->v'.heap[k]?=(vs (m+1+1)).heap[k]?:=fun B=>qN B;have V:=fun k=>yW S hvs k;have o:=h.wi.views.vw 0;have hvA:=h.wi.views.vw (m+1+1);have hgain:rY (aK om Rk (m+1+1)) P (vs (m+1+1)) v':=by
  refine⟨oS,rfl,rfl,fun k x C=>?_,fun k B=>vout fun hS=>?_,fun k x C v=>?_,fun k x C v=>?_⟩
  ·have⟨U,a2,Y⟩:=hsh k x C;by_cases v:aK om Rk 0 k
   ·rw[vout fun hS=>hS.2 v];have hlt:=h.wi.views.lt 0 k v;rwa[fS hvA (by rw[L];exact v) (by rw[O];exact hlt),<- fS o v (by rw[O];exact hlt)]
   ·rw[vin ⟨⟨x,C⟩,v⟩];exact U
  ·have⟨⟨x,C⟩,_⟩:=hS;rw[B] at C;cases C
  ·rw[L] at v;have⟨U,a2,Y⟩:=hsh k x C;have hlt:k<r.heap.size:=by rw[<- O 0];exact kq U
   refine⟨Y v,?_⟩;have hsep:=(h.wi.views.sep 0 (m+1+1) (by omega)).at k;have vA:=fP hvA k;rw[L] at hsep vA;exact Fv hsep (fP o k) vA v U (Y v) (h.wi.views.pos _ hlt)
  ·rw[L] at v;have⟨U,a2,Y⟩:=hsh k x C;refine⟨a2 v,?_⟩;have hlt:=h.wi.views.lt 0 k v;rw[fS hvA (by rw[L];exact v) (by rw[O];exact hlt),<- fS o v (by rw[O];exact hlt)];exact U
 have hcnt:D.s.count i=c:=by
  have:=h.ai.cnt m _ G;rw[hia];exact this
 have B:=hK v' D.s P hcnt hLI hgain rfl;have hgs:dN v'=q':=kH rfl;have hai:=h.ai.Ma G fun _=>rfl;have⟨T',_,k2⟩:=hs.VZ (D':=D.upd (m+1) q' D.x D.bu) (r':=r) B;let vs':Nat->World:=fun k=>if k=m+1+1 then v' else if k=0 then{ jo (aK om Rk 0) r with os:=(vs 0).os } else vs k
 have M:vs' 0={ jo (aK om Rk 0) r with os:=(vs 0).os }:=rfl;have J:vs' (m+1+1)=v':=if_pos rfl;have E:∀ k,k≠0->k≠m+1+1->vs' k=vs k:=fun k y d=>by show(if _ then _ else _)=_;rw[if_neg d,if_neg y]
 have hlt0:=(List.getElem?_eq_some_iff.1 G).1;have hviews:mZ (aK om Rk) vs' r:=by
  refine⟨fun j=>?_,h.wi.views.lt,fun j k hjk=>?_⟩
  ·by_cases I:j=m+1+1
   ·subst I;rw[J];have⟨z1,z2,z3⟩:=jS hvA;refine yU (z1.trans oS.symm) z2 z3 fun k=>?_;rcases V k with⟨_,e⟩|⟨_,e⟩<;>rw[e]
    ·rw[L];exact fP o k
    ·exact fP hvA k
   ·by_cases A:j=0
    ·subst A;rw[M];exact Sf (xq _ r)
    ·rw[E j A I];exact h.wi.views.vw j
  ·have apartA:∀ k,k≠0->k≠m+1+1->Sep (aK om Rk (m+1+1)) v' (aK om Rk k) (vs k):=fun k y d=>.of fun b=>by
    rcases V b with⟨_,e⟩|⟨_,e⟩<;>rw[e]
    ·rw[L];exact(h.wi.views.sep 0 k (Ne.symm y)).at b
    ·exact(h.wi.views.sep (m+1+1) k (Ne.symm d)).at b
   have apart0:∀ k,k≠0->k≠m+1+1->Sep (aK om Rk 0) { jo (aK om Rk 0) r with os:=(vs 0).os } (aK om Rk k) (vs k):=fun k y d=>
    (ic (r:=r) (h.wi.views.lt k) (h.wi.views.sep 0 k (Ne.symm y)).left).congr rfl rfl
   have apart0A:Sep (aK om Rk 0) { jo (aK om Rk 0) r with os:=(vs 0).os } (aK om Rk (m+1+1)) v':=
    (ic (r:=r) (w:=v') (h.wi.views.lt (m+1+1)) fun b y d=>absurd (by rw[L];exact y) d).congr rfl rfl
   by_cases I:j=m+1+1
   ·subst I;by_cases H:k=0
    ·subst H;rw[J,M];exact apart0A.symm
    ·rw[J,E k H (Ne.symm hjk)];exact apartA k H (Ne.symm hjk)
   ·by_cases A:j=0
    ·subst A;by_cases hkA:k=m+1+1
     ·subst hkA;rw[J,M];exact apart0A
     ·rw[M,E k (Ne.symm hjk) hkA];exact apart0 k (Ne.symm hjk) hkA
    ·rw[E j A I];by_cases hkA:k=m+1+1
     ·subst hkA;rw[J];exact(apartA j A I).symm
     ·by_cases H:k=0
      ·subst H;rw[M];exact(apart0 j A I).symm
      ·rw[E k H hkA];exact h.wi.views.sep j k hjk
 have⟨W,aa,X⟩:=h.wi.yR 0;have hwi:WI F p om Rk (D.upd (m+1) q' D.x D.bu) vs' r:=by
  refine⟨hviews,fun j x C=>?_,fun k B b hb hbs=>?_,fun k=>?_,fun k=>?_,h.wi.now,h.wi.ne,h.wi.word,h.wi.sema,h.wi.fz,h.wi.wgb,h.wi.chb,fun I hn=>?_,fun _ b hb hbs=>?_,h.wi.rd,h.wi.jnR⟩
  ·rcases aF (q':=q') C G with⟨rfl,rfl⟩|⟨hne,C⟩
   ·rw[J];exact⟨hgs,(h.wi.gh _ _ G).2⟩
   ·rw[E (j+1) (by omega) (by omega)];exact h.wi.gh j x C
  ·have B:D.f+1<k:=B;rw[E k (by omega) (by omega)];exact h.wi.unf k B b hb hbs
  ·by_cases hkA:k=m+1+1
   ·subst hkA;rw[J];rcases V p.mu with⟨_,e⟩|⟨_,e⟩
    ·exact⟨et (h.wi.hidW 0).1 e,et (h.wi.hidW 0).2 e⟩
    ·exact⟨et (h.wi.hidW _).1 e,et (h.wi.hidW _).2 e⟩
   ·by_cases H:k=0
    ·subst H;rw[M];exact⟨et (kr (h.wi.hidW 0).1 o W) rfl,et (kr (h.wi.hidW 0).2 o W) rfl⟩
    ·rw[E k H hkA];exact h.wi.hidW k
  ·by_cases hkA:k=m+1+1
   ·subst hkA;rw[J];constructor
    ·rcases V p.wg with⟨_,e⟩|⟨_,e⟩
     ·exact jF (h.wi.hidG 0).1 e
     ·exact jF (h.wi.hidG _).1 e
    ·rcases V p.ch with⟨_,e⟩|⟨_,e⟩<;>rw[e]
     ·exact(h.wi.hidG 0).2
     ·exact(h.wi.hidG _).2
   ·by_cases H:k=0
    ·subst H;rw[M];exact⟨jF (rL (h.wi.hidG 0).1 o aa) rfl,xr (h.wi.hidG 0).2 o X X⟩
    ·rw[E k H hkA];exact h.wi.hidG k
  ·exact absurd ⟨D.s,.inl rfl⟩ (hn m q' (List.getElem?_set_self hlt0))
  ·rw[M];exact jr hb hbs
 have hst:=hs.does.go hy;have hdf:=h.deaf G fun _=>hsg;have hti:TI (t++MemOp.ofEvents (m+1) g.frame.fn g.frame.place #[⟨.mark (.acquire p.word),false,true⟩]) D.f r.heap.size (oR om Rk (D.upd (m+1) q' D.x D.bu) vs') (dY (aK om Rk 0) (vs' 0)) (oO (aK om Rk 0)) (qi p) p.word:=by
  have:=h.ti.acquire (See':=oR om Rk (D.upd (m+1) q' D.x D.bu) vs') (SL':=dY (aK om Rk 0) (vs' 0)) h.wi.dj (z:={ g:=m+1,fn:=g.frame.fn,pos:=g.frame.place,act:=.mark (.acquire p.word) }) (by show m+1<=D.f;omega) rfl hdf
   (fun l N=>?_) (fun k l B N=>?_) (fun l N=>?_)
  ·simpa[MemOp.ofEvents,MemAct.ofEvent] using this
  ·rw[M] at N;have⟨y,d⟩:=N;refine lT (jr y ?_) d;have:=d.lt;simpa[jo] using this
  ·refine⟨N.1,?_⟩;have d:=N.2;rwa[E (k+1) (by omega) (by simpa using B)] at d
  ·have d:=N.2;change dY _ (vs' (m+1+1)) l at d;rw[J] at d;rcases K1 hvs d with R|⟨_,R⟩
   ·exact .inl ⟨N.1,R⟩
   ·rw[L] at R;exact .inr R
 have hm:=h.gen (q':=q') (D':=D.upd (m+1) q' D.x D.bu) (vs':=vs') Z (j8 (r':=r) (g':=fin eI) Z) G rfl rfl rfl rfl hai.1 (.refl r) hwi hti (fun k y d=>by rw[E k y d];exact⟨Nat.le_refl _,fun _ _=>rfl,rfl,rfl,rfl⟩)
  (fun op hop=>by obtain⟨e,_,rfl⟩:=mn hop;rfl) (by rw[Deaf_own,hdf];rfl) (.inr ⟨id,id⟩) (.inl rfl) (fun h=>absurd h h00) (fun _=>⟨hsg,by
   rw[J];have:=k2 h00;rw[hgs] at this;exact this⟩)
 exact⟨_,_,_,Rk,_,vs',_,runT_crowd_go Z hst,hm,.left _ _ hai.2⟩
end
section
variable{F:Xn Nat->cn}{p:cn}{om Rk:Nat->Prop}{Q:Xp->Prop}{W0:Xo}{D D':gm}{vs vs':Nat->Xo}{T:Xn Tr}{gs gs':Xv XF}{r r':Xo}{t u:Trace}
variable{a op:Nat}{g g':XF}{qt:XN}{s:Sem Next}{fin:Xp->XF}{K:Xp->Xo->Prop}{q q':Ps}{es:Xv Ys}{sl:XB (Nat×Nat)}{wk:XN}{T':Tr}
variable {v:Xo}
def oT {b:YO} (h:pI v b) (H:b.spot=none):∃z,v.cell? b=some z:=by
 have⟨c,e,f,d,i⟩:=h;exact⟨hole,by unfold World.cell?;rw[d];simp[H,i]⟩
variable {O S:Nat->Prop}
def rM {os':Os} {l:Loc} (e:v.heap.size=r.heap.size) (h:dY O (gG O S v r os') l):S (j7 l)/\dY O v l:=by
 have⟨d,b⟩:=h;by_cases c:S (j7 l)
 .exact⟨c,d,b.of_eq (dF e c).symm⟩
 .exfalso;refine lT ?_ b;have H:=b.lt;rw[lB]at H;exact kO (bj c) (jr d H)
variable {os1:Os}
def NY {c d o2:Nat->Prop} {w:Xo} {o:Os} (i:v.heap.size=r.heap.size) (hlt:∀k,O k->k<r.heap.size) (f:∀k,c k->d k->False):Sep O (gG O c v r os1) O (gG O d v r o):=.of λb=>by
 have e:∀(c d:Nat->Prop) (os1 o:Os),¬c b->Ax _ _ (gG O c v r os1).heap[b]? (gG O d v r o).heap[b]?:=λc d os1 o h=>by
  rw[bj h];exact(ic hlt λk h H=>XG h H).at b
 by_cases h:c b
 .exact(e d c o os1 λH=>f b h H).symm
 grind
variable {o2:Nat->Prop} {w:Xo}
def pL {o1:Nat->Prop} (c:v.heap.size=r.heap.size) (d:∀k,o2 k->k<r.heap.size) (hl:∀k,O k->¬o2 k->ml w k) (h:Sep o1 v o2 w) (e:∀k,S k->(o1 k↔O k)):Sep O (gG O S v r os1) o2 w:=.of λb=>by
 by_cases H:S b
 .rw[dF c H];exact(h.at b).conv (e b H) Iff.rfl
 .rw[bj H];exact(ic d hl).at b
def MI.vu{i c n:Nat}{s':Xn Nat}{W0':Xo}{bl:Xn (Nat×Obj)}(h:MI F p om Rk Q W0 D vs T gs r t)(ha:gs[a]?=some g)(hs:np F p om Rk Q D a op g qt s fin K)(G:D.l[a]?=some ⟨i,c,n,.rel0 s'⟩)(hi:i<p.n)
 (hsat:l6 (aK om Rk (a+1)) W0' (p.LI (s'++[i])::cy bl) (vs (a+1))) (hbl:iC bl)
 (hK:∀v',(∃z,v'.cell? p.word=some z)->v'.os=ji (vs (a+1)).os ⟨i,c+1,n,.rel1⟩->l6 (aK om Rk (a+1)) { W0' with os:=v'.os } (cy bl) v'->K eI v') (Z:Yields qt s r eI r #[⟨.mark (.releaseMerge p.word),false,true⟩]):r7 F p om Q W0 (ja p D T gs) sl gs r t a:=by
 obtain⟨h00,hia,_⟩:a≠0/\i=a-1/\i<p.n:=by
  rcases h.ai.NX G with⟨_,h1⟩|⟨h1,B,h3⟩
  .simp only at h1;omega
  .exact⟨h1,B,h3⟩
 obtain⟨m,rfl⟩:∃m,a=m+1:=⟨a-1,by omega⟩;have hsg:=(hs.w h00).1;have hjn:D.jn=false:=by
  cases A:D.jn with
  | false=>rfl
  | true=>have:=h.ai.Us A hsg;omega
 have N:aK om Rk (m+1+1)=aK om Rk 0:=ua (by omega);have hss:=h.ai.hold m _ s' G (.inr rfl);subst hss;have hmf:m<D.f:=by have:=(Xw.1 G).1;rw[h.ai.len]at this;omega
 have sz:=h.wi.views.size;have P:=h.wi.views.vw 0;have hvA:=h.wi.views.vw (m+1+1);rw[N]at hvA hsat hK;let q':Ps:=⟨i,c+1,n,.rel1⟩
 have hsat0:=hsat
 obtain⟨_,_,_,d,hp,e,f,h1,B,ff,l1,l2,hLI,r2⟩:=hsat0;let S1:Nat->Prop:=λk=>(∃x,h1 k=some x)/\¬aK om Rk 0 k
 let S2:Nat->Prop:=kP bl
 have hdis:∀k,S1 k->S2 k->False:=by
  rintro k ⟨⟨x,C⟩,_⟩ ⟨y,Z,rfl⟩;have⟨h4,V⟩:=ff _ _ _ C (@jV (bI (aK om Rk 0)) _ _ r2 y Z);rw[h4]at V;rcases V with V|V
  .cases V
  .exact(hbl y Z).1 V
 have vsz:(vs (m+1+1)).heap.size=r.heap.size:=sz _;let v0:Xo:=gG (aK om Rk 0) S1 (vs (m+1+1)) r (vs 0).os
 let v':Xo:=gG (aK om Rk 0) S2 (vs (m+1+1)) r (ji (vs (m+1+1)).os q')
 have aa:pH (aK om Rk 0) v0 r:=qO hvA;have vwA:pH (aK om Rk 0) v' r:=qO hvA;have⟨W,ab,X⟩:=h.wi.yR 0;have hidC_on:∀(S:Nat->Prop) (os':Os),pI (gG (aK om Rk 0) S (vs (m+1+1)) r os') p.word/\pI (gG (aK om Rk 0) S (vs (m+1+1)) r os') p.sema:=λS os'=>by
  by_cases J:S p.mu
  .exact⟨et (h.wi.hidW _).1 (dF vsz J),et (h.wi.hidW _).2 (dF vsz J)⟩
  .exact⟨et (kr (h.wi.hidW 0).1 P W) (bj J),et (kr (h.wi.hidW 0).2 P W) (bj J)⟩
 have hidG_on:∀(S:Nat->Prop) (os':Os),tT (gG (aK om Rk 0) S (vs (m+1+1)) r os') p.wg/\(gG (aK om Rk 0) S (vs (m+1+1)) r os').heap[p.ch]?=some (.coro none):=λS os'=>by
  constructor
  .by_cases J:S p.wg
   .exact jF (h.wi.hidG _).1 (dF vsz J)
   .exact jF (rL (h.wi.hidG 0).1 P ab) (bj J)
  .by_cases J:S p.ch
   .rw[dF vsz J];exact(h.wi.hidG _).2
   .rw[bj J];exact xr (h.wi.hidG 0).2 P X X
 have R:=hK v' (oT (hidC_on _ _).1 rfl) rfl (yX (l:=[p.LI (D.s++[i])]) (os':=ji (vs (m+1+1)).os q') hvA hsat λx C=>⟨x,C,rfl⟩);have hgs:dN v'=q':=kH rfl;have hai:=h.ai.vu G;have⟨T',_,k2⟩:=hs.VZ (D':=D.vu (m+1) q') (r':=r) R;let vs':Nat->Xo:=λk=>if k=m+1+1 then v' else if k=0 then v0 else vs k
 have U:vs' 0=v0:=rfl;have L:vs' (m+1+1)=v':=XE rfl;have I:∀k,k≠0->k≠m+1+1->vs' k=vs k:=λk h1 B=>by show(if _ then _ else _)=_;rw[Xx B,Xx h1]
 have hlt0:=(Xw.1 G).1;have hviews:mZ (aK om Rk) vs' r:=by
  refine⟨λj=>?_,h.wi.views.lt,λj k hjk=>?_⟩
  .by_cases A:j=m+1+1
   .subst A;rw[L,N];exact vwA
   .by_cases E:j=0
    .subst E;rw[U];exact aa
    .rw[I j E A];exact h.wi.views.vw j
  .have apartA:∀k,k≠0->k≠m+1+1->Sep (aK om Rk (m+1+1)) v' (aK om Rk k) (vs k):=λk h1 B=>by
    rw[N];exact pL vsz (h.wi.views.lt k) (h.wi.views.sep 0 k (YP h1)).left (h.wi.views.sep (m+1+1) k (YP B)) λb _=>by rw[N]
   have apart0:∀k,k≠0->k≠m+1+1->Sep (aK om Rk 0) v0 (aK om Rk k) (vs k):=λk h1 B=>
    pL vsz (h.wi.views.lt k) (h.wi.views.sep 0 k (YP h1)).left (h.wi.views.sep (m+1+1) k (YP B)) λb _=>by rw[N]
   have apart0A:Sep (aK om Rk 0) v0 (aK om Rk (m+1+1)) v':=by
    rw[N];exact NY (o2:=aK om Rk 0) (w:=r) vsz (h.wi.views.lt 0) hdis
   by_cases A:j=m+1+1
   .subst A;by_cases H:k=0
    .subst H;rw[L,U];exact apart0A.symm
    .rw[L,I k H (YP hjk)];exact apartA k H (YP hjk)
   .by_cases E:j=0
    .subst E;by_cases hkA:k=m+1+1
     .subst hkA;rw[L,U];exact apart0A
     .rw[U,I k (YP hjk) hkA];exact apart0 k (YP hjk) hkA
    .rw[I j E A];by_cases hkA:k=m+1+1
     .subst hkA;rw[L];exact(apartA j E A).symm
     .by_cases H:k=0
      .subst H;rw[U];exact(apart0 j E A).symm
      .rw[I k H hkA];exact h.wi.views.sep j k hjk
 have hno:∀(i':Nat) (x:Ps),(D.l.set (m+1) q')[i'+1]?=some x->¬bQ x:=λi' x C hH=>by
  rcases aF C G with⟨_,rfl⟩|⟨hne,C⟩
  .obtain⟨s,h|h⟩:=hH<;>cases h
  .have B:fL x=1:=by
    obtain⟨s,h|h⟩:=hH<;>simp[fL,h]
   exact hne (h.ai.one C B G rfl)
 have hsh:Sl (aK om Rk 0) v0 h1:=λb x C=>by
  have hpx:=l1 b x C;refine⟨?_,λM=>?_,λM=>f.2 b x hpx M⟩
  .by_cases M:aK om Rk 0 b
   .rw[(bj λh=>h.2 M),oN M,<- fS hvA M (by rw[vsz];exact h.wi.views.lt 0 b M)];exact e b x hpx
   .rw[(dF vsz ⟨⟨x,C⟩,M⟩)];exact e b x hpx
  .have⟨o,ac,_⟩:=(d.1 b).1 M;have:=f.1 b o M ac;rw[hpx]at this;cases this;rfl
 have hwi:WI F p om Rk (D.vu (m+1) q') vs' r:=by
  refine⟨hviews,λj x C=>?_,λk R b hb hbs=>?_,λk=>?_,λk=>?_,h.wi.now,h.wi.ne,h.wi.word,h.wi.sema,h.wi.fz,h.wi.wgb,h.wi.chb,λA hn=>⟨h1,?_,hsh⟩,λA=>?_,h.wi.rd,h.wi.jnR⟩
  .rcases aF (q':=q') C G with⟨rfl,rfl⟩|⟨hne,C⟩
   .rw[L];exact⟨hgs,(h.wi.gh _ _ G).2⟩
   .rw[I (j+1) (by omega) (by omega)];exact h.wi.gh j x C
  .have R:D.f+1<k:=R;rw[I k (by omega) (by omega)];exact h.wi.unf k R b hb hbs
  .by_cases hkA:k=m+1+1
   .subst hkA;rw[L];exact hidC_on _ _
   .by_cases H:k=0
    .subst H;rw[U];exact hidC_on _ _
    .rw[I k H hkA];exact h.wi.hidW k
  .by_cases hkA:k=m+1+1
   .subst hkA;rw[L];exact hidG_on _ _
   .by_cases H:k=0
    .subst H;rw[U];exact hidG_on _ _
    .rw[I k H hkA];exact h.wi.hidG k
  .have:(D.vu (m+1) q').s=D.s++[i]:=by
    show(if m+1=0 then D.s else D.s++[m+1-1])=_;rw[Xx (by omega),hia]
   rw[this];exact hLI
  .exfalso;rcases A with A|⟨i',x,C,hH⟩
   .have A:D.jn=true:=A;rw[hjn]at A;cases A
   .exact hno i' x C hH
 have hst:=hs.does.go Z;have hdf:=h.deaf G λ_=>hsg;have hti:TI (t++MemOp.ofEvents (m+1) g.frame.fn g.frame.place #[⟨.mark (.releaseMerge p.word),false,true⟩]) D.f r.heap.size (oR om Rk (D.vu (m+1) q') vs') (dY (aK om Rk 0) (vs' 0)) (oO (aK om Rk 0)) (qi p) p.word:=by
  have:=h.ti.release (See':=oR om Rk (D.vu (m+1) q') vs') (SL':=dY (aK om Rk 0) (vs' 0)) h.wi.dj (y:={ g:=m+1,fn:=g.frame.fn,pos:=g.frame.place,act:=.mark (.releaseMerge p.word) }) (by show m+1<=D.f;omega) rfl hdf
   (λl Y=>?_) (λk l Y=>?_)
  .simpa[MemOp.ofEvents,MemAct.ofEvent]using this
  .rw[U]at Y;refine⟨by show m+1<=D.f;omega,?_⟩;show dY (aK om Rk (m+1+1)) _ l;rw[N];exact(rM vsz Y).2
  .refine⟨Y.1,?_⟩;have B:=Y.2;by_cases R:k+1=m+1+1
   .rw[R,L,N]at B;rw[R,N];exact(rM vsz B).2
   .rwa[I (k+1) (by omega) R]at B
 have hm:=h.gen (q':=q') (D':=D.vu (m+1) q') (vs':=vs') ha (j8 (r':=r) (g':=fin eI) ha) G rfl rfl rfl rfl hai.1 (.refl r) hwi hti (λk h1 B=>by rw[I k h1 B];exact⟨XD _,λ_ _=>rfl,rfl,rfl,rfl⟩)
  (λop hop=>by obtain⟨e,_,rfl⟩:=mn hop;rfl) (by rw[Deaf_own,hdf];rfl) (.inr ⟨id,id⟩) (.inl rfl) (λh=>XG h h00) (λ_=>⟨hsg,by
   rw[L];have:=k2 h00;rw[hgs]at this;exact this⟩)
 exact⟨_,_,_,Rk,_,vs',_,runT_crowd_go ha hst,hm,.left _ _ hai.2⟩
end
section
variable{F:Xn Nat->cn}{p:cn}{om Rk:Nat->Prop}{Q:Xp->Prop}{W0:Xo}{D D':gm}{vs vs':Nat->Xo}{T:Xn Tr}{gs gs':Xv XF}{r r':Xo}{t:Trace}
variable{op:Nat}{g g':XF}{qt:XN}{s:Sem Next}{fin:Xp->XF}{K:Xp->Xo->Prop}{q q':Ps}{u:Xp}{es:Xv Ys}{sl:XB (Nat×Nat)}{wk:XN}{T':Tr}
variable {st sm:Nat}
def Jf (h:r.heap[p.wg]?=some (.cells #[.int .u64 st,.int .u32 sm] 156 (0,0))):r.cell? p.st=some (.int .u64 st)/\r.cell? p.sm=some (.int .u32 sm)/\r.frozen? p.st=false/\r.frozen? p.sm=false:=by
 unfold World.cell? World.frozen?;rw[show p.st.block=p.wg from rfl,show p.sm.block=p.wg from rfl,h];exact⟨rfl,rfl,rfl,rfl⟩
variable {y:Xp}
def Jg (h:r.heap[p.wg]?=some (.cells #[.int .u64 st,.int .u32 sm] 156 (0,0))):(r.setCell p.st y).heap[p.wg]?=some (.cells #[y,.int .u32 sm] 156 (0,0)):=ks (b:=p.st) h rfl
def Sp (h:r.heap[p.wg]?=some (.cells #[.int .u64 st,.int .u32 sm] 156 (0,0))):(r.setCell p.sm y).heap[p.wg]?=some (.cells #[.int .u64 st,y] 156 (0,0)):=ks (b:=p.sm) h rfl
variable {b:YO}
def C3 (d:b.block=p.wg) (i:b.spot=none) (j:p.mu≠p.wg):Fp p r (r.setCell b y):=by
 refine⟨by simp,rfl,rfl,.refl _,λk _ l _=>di (by omega),λc e f h=>⟨c,by rw[di (by omega)];exact h,rfl,λ_ _=>rfl⟩,λc e f h=>⟨_,by rw[<- d]at h |-;exact ks h i,by simp⟩,λo h H=>?_⟩;by_cases a:p.ch=b.block
 .rw[a]at h |-;refine⟨o,?_,H⟩;rw[World.setCell,CX,XE rfl,h];cases o with
  | cells c e f=>exact XG rfl (H _ _ _)
  | _=>rfl
 .exact⟨o,by rw[di a];exact h,H⟩
def lV {c:YO} {z:Xp} (h:r.cell? c=some z) (H:c.block≠b.block):(r.setCell b y).cell? c=some z:=by
 unfold World.cell? at h |-;rw[di H];exact h
def Qa (h:b.block=p.wg):qi p (.cell b):=.inr (.inr h)
def Fw {m:Mark} (hm:m=.read b\/m=.write b) (a:b.block=p.wg):∀e∈(#[⟨.mark m,false,true⟩]:Xv Ys),r8 p 0 e:=by
 intro e H;simp at H;subst H;refine⟨λc h=>(by rcases hm with rfl|rfl<;>cases h),λx d=>?_⟩;rcases hm with rfl|rfl<;>(have:=(Xt d).symm;subst this;exact⟨Qa a,by simp,λ_=>rfl⟩)
def yY{O:Nat->Prop}{v:Xo}{a b:Xp}{d:XO}{f0:Nat×Nat}(hv:pH O v r)(i:r.heap[p.wg]?=some (.cells #[a,b] d f0))(h:tT v p.wg):(∃z,v.cell? p.st=some z)/\∃z,v.cell? p.sm=some z:=by
 have⟨c,e,f,H,_⟩:=h;have⟨C,G,j,_⟩:=(fP hv p.wg).cells c e f H;rw[i]at G;cases G;have k:c.size=2:=by grind
 unfold World.cell?;rw[show p.st.block=p.wg from rfl,show p.sm.block=p.wg from rfl,H];exact⟨⟨c[0],by simp[cn.st]⟩,⟨c[1],by simp[cn.sm]⟩⟩
def MI.xa{st' sm':Nat}(h:MI F p om Rk Q W0 D vs T gs r t)(k:gs[0]?=some g)(m:np F p om Rk Q D 0 op g qt s fin K)(n:D.l[0]?=some q)(o:Yields qt s r u r' es)(c:AI p (D.fI q' st' sm' D.cl D.jn)/\Wt p (D.fI q' st' sm' D.cl D.jn)<Wt p D)
 (w:r'=r\/∃b y,r'=r.setCell b y/\b.block=p.wg/\b.spot=none) (z:r'.heap[p.wg]?=some (.cells #[.int .u64 st',.int .u32 sm'] 156 (0,0)))
 (d:∀e∈es,r8 p 0 e) (f:deafBehind q.th.deaf es=q'.th.deaf) (i:nL g (fin u)=true\/(D.sm=0->sm'=0)) (A:∀v,Nb (vs (0+1)) v q'->K u v):r7 F p om Q W0 (ja p D T gs) sl gs r t 0:=by
 have H:Fp p r r'/\r'.cell? p.word=some (.int .i32 D.x)/\r'.cell? p.sema=some (.int .u32 D.bu)/\∃S R B,r'.heap[p.ch]?=some (.chan 0 #[] D.cl S R B):=by
  rcases w with rfl|⟨b,y,rfl,a,j⟩
  .exact⟨.refl _,h.wi.word,h.wi.sema,h.wi.chb⟩
  .refine⟨C3 a j h.wi.ne.1,lV h.wi.word (by rw[a];exact h.wi.ne.1),lV h.wi.sema (by rw[a];exact h.wi.ne.1),?_⟩;rw[di (by rw[a];exact h.wi.ne.2.2.symm)];exact h.wi.chb
 exact h.ask (D':=D.fI q' st' sm' D.cl D.jn) k m n o rfl rfl rfl rfl rfl c H.1 H.2.1 H.2.2.1 z H.2.2.2 (.inl rfl) d f (i.imp id λh=>⟨id,h⟩) (.inl rfl) A
def MI.Vf(h:MI F p om Rk Q W0 D vs T gs r t)(z:gs[0]?=some g)(hT:T[0]?=some .leaf)(j:np F p om Rk Q D 0 op g qt s fin K)(H:D.l[0]?=some q){rq:Rq}(A:rq.jj op qt s)(ho:gJ p om rq (vs 1) K)
 (hM:QZ F om Q .leaf g (vs 1))
 (hF:∀c n d W G P,q=⟨p.n,c,n,.ad4⟩->c<p.n->l6 om W (cy G++cy P) (vs 1)->iC G/\iC P->p.go c G d->(∀V,p.Mem V->V.os=ji (vs 1).os ⟨p.n,c+1,n,.ad0 0⟩->l6 om { W with os:=V.os } (cy P) V->K undef V)->(Rq.fork d).jj op qt s->r7 F p om Q W0 (ja p D T gs) sl gs r t 0)
 (hJ:∀c n,q=⟨p.n,c,n,.wt7⟩->(∀V s hL S,p.Whole s->p.LI s hL->p.R S->Hp.fits hL S->rY om (Hp.un hL S) (vs 1) V->V.os=ji (vs 1).os ⟨p.n,c,n,.out⟩->K eI V)->Yields qt s r eI r #[⟨.mark (.acquire p.st),false,true⟩]->r7 F p om Q W0 (ja p D T gs) sl gs r t 0) :
 r7 F p om Q W0 (ja p D T gs) sl gs r t 0:=by
 have w:=(h.wi.gh 0 q H).1;have⟨cT,cM,fT,fM⟩:=Jf h.wi.wgb;have ao:=h.ai.small;cases ho with
 | Kv a N k=>
  cases w.symm.trans a;exact h.xa z j H (A r) (h.ai.U1 H N) (.inl rfl) h.wi.wgb (lC (by simp) rfl) rfl (.inr id) λV hb=>k V (by
   have h1:=oT (h.wi.hidW 1).1 rfl;have U:=yY (h.wi.views.vw 1) h.wi.wgb (h.wi.hidG 1).1;unfold cn.Mem World.cell?;unfold World.cell? at h1 U;rw[hb.heap];exact⟨h1,U⟩) hb
 | add a k=>
  cases w.symm.trans a;have⟨E,O,e3,i⟩:=h.ai.U2 H;have Y:=A r _ cT fT;have e:IntKind.u64.wrap ((D.st:Int)+4294967296)=(((D.na+1)*4294967296:Nat):Int):=by rw[IntKind.wrap_u64];omega
  rw[e]at Y;refine h.xa z j H Y i (.inr ⟨_,_,rfl,rfl,rfl⟩) ?_ (oh (Qa rfl)) rfl (.inr λ_=>rfl) λV=>k V (D.na+1) (by omega) e3;have:=Jg (y:=.int .u64 (((D.na+1)*4294967296:Nat):Int)) h.wi.wgb;rw[E]at this;exact this
 | rd a k=>
  cases w.symm.trans a;exact h.xa z j H (A r) (h.ai.Wl H) (.inl rfl) h.wi.wgb (Fw (.inl rfl) rfl) rfl (.inr id) k
 | en a X k=>
  cases w.symm.trans a;exact h.xa z j H (A r) (h.ai.Wn H X) (.inl rfl) h.wi.wgb (lC (by simp) rfl) (by rcases X with rfl|rfl<;>rfl) (.inr id) k
 | fork W G P a N aa ab ac k=>
  cases w.symm.trans a;exact hF _ _ _ W G P rfl N aa ab ac k A
 | @SO _ _ c n b u a N S k=>
  cases w.symm.trans a;have⟨hp,r1,r2,r3⟩:=h.wi.rd (h.ai.Gt H rfl);have⟨cs,T0,f,b1,b2,b3⟩:=S hp r1;have⟨_,b4,_⟩:=r2 _ _ b1;have L:r.cell? b=some u:=by
   rw[World.cell?,b4];simp[b3,b2]
  have Z:=j.does.val r r _ u (A r u L);have B:∀fn,seen prog fn #[⟨.cell b,false,false⟩]=#[]\/seen prog fn #[⟨.cell b,false,false⟩]=#[⟨.cell b,false,false⟩]:=λfn=>by
   unfold seen;by_cases H:(prog.funcs[fn]?).any (·.norace)=true
   .left;simp[H]
   .right;simp[H]
  have B:=B g.frame.fn;generalize seen prog g.frame.fn #[⟨.cell b,false,false⟩]=es at Z B;refine h.Sn (D':=D.fI ⟨p.n,c,n,.ad0 1⟩ D.st D.sm D.cl D.jn) z j H Z rfl rfl rfl rfl rfl (h.ai.U3 H N) (.refl r) h.wi.word h.wi.sema h.wi.wgb h.wi.chb (.inl rfl) (λop af=>?_) (by rcases B with rfl|rfl<;>rfl) (.inr ⟨id,id⟩) (.inl rfl) k;obtain⟨e,I,rfl⟩:=mn af;have I:e=⟨.cell b,false,false⟩:=by rcases B with rfl|rfl<;>simpa using I
  subst I;refine⟨rfl,λ_ h=>(by cases(od (e:=⟨.cell b,false,false⟩) h)),λx C=>?_⟩;cases(Xt C).symm;exact⟨kq b4,.inr (.inr (.inl ⟨.inr ⟨by omega,(r3 _).2 ⟨_,b1⟩⟩,rfl⟩))⟩
 | @close _ _ c n a N k=>
  cases w.symm.trans a;have⟨ag,i⟩:=h.ai.QY H;have⟨U,Y⟩:=A;have⟨s',rc,tm,M⟩:=h.wi.chb;rw[ag]at M;have v:∀k,k≠p.ch->({ r with heap:=r.heap.setIfInBounds p.ch (.chan 0 #[] true s' rc tm) }:Xo).heap[k]?=r.heap[k]?:=λk hk=>XJ (YP hk);have J:({ r with heap:=r.heap.setIfInBounds p.ch (.chan 0 #[] true s' rc tm) }:Xo).heap[p.ch]?=some (.chan 0 #[] true s' rc tm):=by simp[(kq M)]
  refine h.ask (D':=D.fI ⟨p.n,c,n,.wt0⟩ D.st D.sm true D.jn) z j H (Y r s' rc tm M) rfl rfl rfl rfl rfl i ⟨by simp,rfl,rfl,.refl _,λk _ _ h3=>v k h3,λc e f h'=>⟨c,by rw[v _ h.wi.ne.2.1];exact h',rfl,λ_ _=>rfl⟩,λc e f h'=>⟨c,by rw[v _ h.wi.ne.2.2];exact h',rfl⟩,λo _ _=>⟨_,J,by simp⟩⟩ ?_ ?_ ?_ ⟨s',rc,tm,J⟩ (.inl rfl) (λe I=>?_) rfl (.inl (j.nq U)) (.inr ⟨j.nq U,rfl⟩) k
  .unfold World.cell?;rw[show p.word.block=p.mu from rfl,v _ h.wi.ne.2.1];exact h.wi.word
  .unfold World.cell?;rw[show p.sema.block=p.mu from rfl,v _ h.wi.ne.2.1];exact h.wi.sema
  .rw[v _ h.wi.ne.2.2];exact h.wi.wgb
  .simp only[List.mem_toArray,XW,ZO,abI]at I;rcases I with rfl|rfl
   .refine⟨λb h=>(by cases h),λx C=>?_⟩
    first
     | (cases C;done)
     | (have:=(Xt C).symm;subst this;exact⟨rfl,by simp,by simp⟩)
   .refine⟨λb h=>(by cases h),λx C=>?_⟩
    first
     | (cases C;done)
     | (have:=(Xt C).symm;subst this;exact⟨rfl,by simp,by simp⟩)
 | M6 a k=>
  cases w.symm.trans a;exact h.xa z j H (A r) (h.ai.Td H) (.inl rfl) h.wi.wgb (lC (by simp) rfl) rfl (.inr id) k
 | IS a k=>
  cases w.symm.trans a;have⟨E,O,e3,i⟩:=h.ai.U4 H;have Y:=A r _ cT;rw[E]at Y;exact h.xa z j H Y i (.inl rfl) h.wi.wgb (tZ (Qa rfl)) rfl (.inr id) λV=>k V (l8 p D) D.na e3 O
 | @tL _ _ c n m a hm k1 k0=>
  cases w.symm.trans a;have⟨E,O,e3,e4,e5⟩:=h.ai.U5 H hm;have⟨Y,y0⟩:=A r _ cT fT;by_cases C:D.na=m
  .refine h.xa z j H (Y (by rw[O,C])) (e4 C) (.inr ⟨_,_,rfl,rfl,rfl⟩) ?_ (oh (Qa rfl)) rfl (.inr λ_=>rfl) k1;have:=Jg (y:=.int .u64 ((m*4294967296+1:Nat):Int)) h.wi.wgb;rw[E]at this;exact this
  .have⟨e6,i⟩:=e5 C;exact h.xa z j H (y0 (by rw[O];omega)) i (.inl rfl) h.wi.wgb (tZ (Qa rfl)) rfl (.inr id) λV=>k0 V (l8 p D) e6
 | wr a k=>
  cases w.symm.trans a;exact h.xa z j H (A r) (h.ai.Wo H) (.inl rfl) h.wi.wgb (Fw (.inr rfl) rfl) rfl (.inr id) k
 | acq a k=>
  cases w.symm.trans a;have⟨y0,Y⟩:=A r _ cM fM;by_cases hz:D.sm=0
  .have⟨al,I⟩:=y0 (by omega);exact h.block z hT j.does.run (j.does.blk r r al I) (λ_=>.blk hM j.does.run j.does.offers (.inr ⟨by rw[w],hz⟩)) λam=>XG rfl am
  .have⟨E,O,i⟩:=h.ai.U6 H hz;refine h.xa z j H (Y (by omega)) i (.inr ⟨_,_,rfl,rfl,rfl⟩) ?_ (qP (Qa rfl)) rfl (.inr λ_=>rfl) k;have e:((D.sm:Int)-1)=((0:Nat):Int):=by omega
   rw[e];exact Sp h.wi.wgb
 | UR a k=>
  cases w.symm.trans a;have⟨E,i⟩:=h.ai.U7 H;have Y:=A r _ cT;rw[E]at Y;exact h.xa z j H Y i (.inl rfl) h.wi.wgb (tZ (Qa rfl)) rfl (.inr id) k
 | Uo a X k=>
  cases w.symm.trans a;exact h.xa z j H (A r) (h.ai.U8 H X) (.inl rfl) h.wi.wgb (lC (by simp) rfl) (by rcases X with rfl|rfl<;>rfl) (.inr id) k
 | join a k=>
  cases w.symm.trans a;exact hJ _ _ rfl k (A r)
