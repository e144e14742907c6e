/-
  Part 7: ; ; ; ; ; ; .
-/
import Derived.Test.YtecibefflhomdaaGreatDoorZ06
set_option maxHeartbeats 8000000
set_option maxRecDepth 100000
set_option linter.all false
namespace Go.Proofs.YtecibefflhomdaaGreatDoor
open Go
section
open Pure
section
variable{C:Prop}{s:St}{D:ad}{q0:Nat}{Ls:jy}{bs:Xn (Xn cC)}{E:Nat}
def SC(C:Prop)(s:St)(D:ad)(q0:Nat)(Ls:jy)(bs:Xn (Xn cC))(E:Nat)(N:Nat)(shape:jy->Prop)(x:YH eX St)(D':ad):Prop:=
 dU D D' /\
  ((∃e,x=.error e/\A7 C D e/\∃c l b,(RecM C D' c l b E/\Left D' c (s.number+N) E)/\((c.seq=q0/\b=bs/\gN (aJ s) (gC Ls) (gC l))\/(c.seq=s.seq/\b=[]/\gN (aJ s) (s.mem::gC Ls) (gC l)))) \/
   ∃S l,x=.ok S/\nE C S D' s.seq l [] E/\gN (aJ s) (s.mem::gC Ls) (gC l)/\S.seq=s.seq/\S.snaps=s.snaps/\S.snap=s.snap/\S.number<=s.number+N/\file D' S.log=some []/\shape l)
def Kg{D':ad}{num:Nat}{g:Xn (dB×Xn ay)}{O:Bs->XB Bs}(h:nE C s D q0 Ls bs E)(v:Kc 5 s.number num (dC (aJ s) false s.mem) g O (file D'))(B:num+1<=4611686018427387904)(hd:D'.Ok)
 (P:file D' aM=some (aA (cz { s with number:=num+1,log:=cJ (num+1),levels:=dh (lO Ls g),mem:=[] })))
 (F:file D' (cJ (num+1))=some []) (W:∀m,m∈bR Ls->file D' m=file D m) :
 RecM C D' { s with number:=num+1,log:=cJ (num+1),levels:=dh (lO Ls g),mem:=[] } (lO Ls g) [] E:=by
 obtain⟨X,Y,t,G⟩:=rr Ls g h.core.lv.len;obtain⟨Q,aa⟩:=h.Be;have ab:=v.cnt;have I:∀p∈g,∀e∈p.2,∃x∈s.mem,e=bX x:=λp H e n=>by
  have u:e∈(g.map (·.2)).flatten:=YZ.2 ⟨p.2,XA.2 ⟨p,H,rfl⟩,n⟩;rw[v.ents]at u;obtain⟨x,d,rfl⟩:=XA.1 u;exact⟨x,(gW _ _ _).subset d,rfl⟩
 have Z:=h.seq;have N:q0+total bs<=4611686018427387904:=h.core.seq;refine⟨hd,rfl,P,B,by show s.seq+total []<=_;simp[total];omega,?_,⟨?_,?_,?_,?_⟩,?_,?_,?_,⟨num+1,XD _,rfl⟩,⟨[],by show file D' (cJ (num+1))=_;rw[F];rfl,AR⟩,by simp⟩
 .have u:=h.core.cntE;have h2:cnt (lO Ls g)=(X.map (·.2.length)).sum+(g.map (·.2.length)).sum+(Y.map (·.2.length)).sum:=by unfold cnt;rw[G];simp only[XK,ZU]
  have h3:cnt Ls=(X.map (·.2.length)).sum+(Y.map (·.2.length)).sum:=by unfold cnt;rw[t];simp only[XK,ZU]
  have h4:=lu g;rw[v.ents,XT]at h4;have h5:=tw (aJ s) false s.mem;show cnt (lO Ls g)+total []<=E;simp[total];omega
 .show(lO Ls g).length=4;obtain⟨L0,L1,L2,L3,rfl⟩:=eK h.core.lv.len;rfl
 .intro p H;rw[G]at H;simp only[Xy]at H;rcases H with(H|H)|H
  .obtain⟨k,K,o⟩:=h.core.lv.names p (by rw[t];exact Ye _ H);exact⟨k,by have K:k<=s.number:=K;show k<=num+1;omega,o⟩
  .obtain⟨k,K,o,R⟩:=v.names p H;exact⟨k,by show k<=num+1;omega,R⟩
  .obtain⟨k,K,o⟩:=h.core.lv.names p (by rw[t];exact Yl _ H);exact⟨k,by have K:k<=s.number:=K;show k<=num+1;omega,o⟩
 .have c:=h.core.lv.nodup;unfold bR at c |-;rw[t,XK]at c;rw[G,XK,XK];rw[Yc]at c;rw[Yc,Yc];have J:∀p∈g,∀q∈Ls.flatten,p.1.name≠q.1.name:=λp H q N n=>by
   obtain⟨k,K,o,R⟩:=v.names p H;obtain⟨j,j1,j2⟩:=h.core.lv.names q N;have j1:j<=s.number:=j1;have:=fC (R.symm.trans (n.trans j2)) (by omega) (by omega);omega
  refine⟨⟨c.1,v.nodup,λx d y A n=>?_⟩,c.2.1,λx d y A n=>?_⟩
  .obtain⟨p,H,rfl⟩:=XA.1 d
   grind
  .rcases Xy.1 d with d|d
   .exact c.2.2 x d y A n
   .obtain⟨p,H,rfl⟩:=XA.1 d;obtain⟨q,N,rfl⟩:=XA.1 A;exact J p H q (by rw[t];exact Yl _ N) n
 .intro i L hi hL;have S:=h.core.lv.sep;obtain⟨L0,L1,L2,L3,rfl⟩:=eK h.core.lv.len;cases i with
  | zero=>omega
  | succ i=>exact S (i+1) L hi (by simpa[lO]using hL)
 .intro p H;rw[G]at H;simp only[Xy]at H;rcases H with(H|H)|H
  .have r:p∈Ls.flatten:=by rw[t];exact Ye _ H
   obtain⟨f,M,K,o⟩:=h.core.on p r;exact⟨f,M,by rw[W _ (XA.2 ⟨p,r,rfl⟩)];exact K,o⟩
  .obtain⟨f,M,K,o⟩:=v.on p H;exact⟨f,M,K,o.mono λh=>h.elim⟩
  .have r:p∈Ls.flatten:=by rw[t];exact Yl _ H
   obtain⟨f,M,K,o⟩:=h.core.on p r;exact⟨f,M,by rw[W _ (XA.2 ⟨p,r,rfl⟩)];exact K,o⟩
 .intro p H e n;show e.seq<=s.seq;rw[G]at H;simp only[Xy]at H;rcases H with(H|H)|H
  .have u:=h.core.seqs p (by rw[t];exact Ye _ H) e n;have u:e.seq<=q0:=u;omega
  .obtain⟨x,d,rfl⟩:=I p H e n;rw[uL];exact(Q.seq x d).2
  .have u:=h.core.seqs p (by rw[t];exact Yl _ H) e n;have u:e.seq<=q0:=u;omega
 .rw[Ev Ls g h.core.lv.len];have T:=h.ord;obtain⟨o1,o2⟩:=X1.1 T;refine X7.2 ⟨?_,o2,λl hl w hw x d y A U=>?_⟩
  .refine ZI.2 (aby.2 (v.sep.imp λ{a b} V x d y A U=>?_));have:=V y A x d;rw[U,aP]at this;cases this
  .obtain⟨p,H,rfl⟩:=XA.1 hl;obtain⟨z,hz,rfl⟩:=I p (List.mem_reverse.1 H) x d;rw[mA]at U;rw[uL]
   grind
def Kh{o:pX}(ho:1<=o.tables)(h:nE C s D q0 Ls bs E)(hE:E<=1048576)(hB:bs.length<=16777216)(b1:s.number+4*E+1<=4611686018427387904) :
 ∃x D',sH o s D=some (x,D')/\SC C s D q0 Ls bs E (4*E+1) (nF o) x D':=by
 have a1:=h.used hE hB;have ab:=h.core.Qm hE;have b2:=h.core.cntE;obtain⟨G,b7⟩:=h.Be;have b3:=h.seq;have hq:q0+total bs<=4611686018427387904:=h.core.seq;have b4:bO=18446744073709551615:=rfl;have N:s.mem.length<=E:=by omega
 have am:=wC h.snaps;have a2:GK C (file D) s.mem (.one (jO s.mem [])) s.mem:=by
  have:=Eo (C:=C) (fl:=file D) G.srt (λe M=>by have:=(G.seq e M).2;omega) [];rw[Bb]at this;exact this
 obtain⟨x,D1,V,g,k3⟩:=A6 (s:=s) (nx:=.one (jO s.mem [])) (bt:=false) h.core.ok G.srt a2 (by omega) (by have:=h.snaps;omega);unfold sH;rw[Xx (by rw[bC];omega),V];rcases k3 with⟨e,rfl,k3⟩|rfl
 .exact⟨_,_,rfl,g.later,.inl ⟨e,rfl,.inl k3,_,Ls,bs,⟨h.core.files g.later.ok λm _=>g.file m,Zl _ _,by have:=h.grow g.later.ok (xs:=[]) λm H=>.inr (by rw[<- g.file];exact H);simp only[List.length_nil]at this;omega⟩,.inl ⟨rfl,rfl,gN.refl _ _⟩⟩⟩
 dsimp only[gk];have b8:=tw (aJ s) false s.mem;have a3:∀k,(pY k (dC (aJ s) false s.mem)).length<=5:=λk=>Yh (Eh G.srt k) am;have a4:iz (dC (aJ s) false s.mem):=ox G.srt;have a5:∀e∈dC (aJ s) false s.mem,qm e:=λe M=>(G.ents e ((gW _ _ _).subset M)).1;have a6:∀k,s.number<k->k<=s.number+(dC (aJ s) false s.mem).length->file D1 (dv k)=none:=λk hk a7=>by rw[g.file];exact h.R5 hk (by omega)
 have b5:=h.moves;obtain⟨x,U,p1,p2,p3,p4,p5,p6⟩:=u4 (K:=5) (by omega) (by omega) jJ s.number D1 _ [] g.later.ok a4 a5 a3 (by rw[bC];omega) (by omega) (by simp only[List.length_nil];omega) (by rw[g.moves];omega) (by rw[g.used];omega) a6;rw[p1];have n:∀m,(∀k,s.number<k->k<=s.number+(dC (aJ s) false s.mem).length->m≠dv k)->file U m=file D m:=λm H=>by rw[p5 m H,g.file]
 have O:∀m,m∈bR Ls->file U m=file D m:=λm H=>n m λk I a7 M=>by
  subst M;obtain⟨p,b,a8⟩:=XA.1 H;obtain⟨i,hi,a9⟩:=h.core.lv.names p b;have hi:i<=s.number:=hi;have:=fC (a9.symm.trans a8) (by omega) (by omega);omega
 have J:∀k,s.log≠dv k:=λk a=>by
  obtain⟨j,_,t⟩:=h.core.log;have t:s.log=cJ j:=t;exact lq k j (a.symm.trans t)
 have P:∀m,yf { s with seq:=q0 } Ls m->file U m=file D m:=λm H=>by
  rcases H with H|H|H
  .exact n m λk _ _ a=>j9 k (a.symm.trans H)
  .have H:m=s.log:=H;exact n m λk _ _ a=>J k (H.symm.trans a)
  .exact O m H
 have ac:∀m,file U m≠none->m∈Aj s.number (dC (aJ s) false s.mem).length\/file D m≠none:=λm H=>by
  by_cases a:∃k,s.number<k/\k<=s.number+(dC (aJ s) false s.mem).length/\m=dv k
  .obtain⟨k,v,t,rfl⟩:=a;exact .inl (Es v t)
  .rw[n m λk v t M=>a ⟨k,v,t,M⟩]at H;exact .inr H
 rcases p6 with⟨e,rfl,p6⟩|⟨num,d,rfl,z⟩
 .exact⟨_,_,rfl,g.later.trans p2,.inl ⟨e,rfl,(p6.mono λh=>h.elim).before g.later,_,Ls,bs,⟨h.core.files p2.ok P,Zl _ _,by have:=h.grow p2.ok ac;rw[mQ]at this;omega⟩,.inl ⟨rfl,rfl,gN.refl _ _⟩⟩⟩
 dsimp only;rw[List.nil_append];have b9:=z.cnt;have Q:∀p∈d,iz p.2/\p.2≠[]:=λp b=>by obtain⟨f,cs,_,k⟩:=z.on p b;exact⟨k.srt,k.some⟩
 have b6:d.length<=E:=by
  have v:=lu d;rw[z.ents,XT]at v;have af:∀l:Xn (dB×Xn ay),(∀p∈l,p.2≠[])->l.length<=(l.map (·.2.length)).sum:=by
   intro l
   induction l with
   | nil=>intro _;simp
   | cons p r ih=>
    intro a;have v:=ih λx R=>a x (XQ _ R);have t:0<p.2.length:=Yi.2 (a p XC);simp only[XP,aa4,X5];omega
  have:=af d λp b=>(Q p b).2;omega
 have ca:(s.levels.getD 0 []).length<=1048576:=by
  rw[GV h.levels];obtain⟨L0,L1,L2,L3,hL⟩:=eK h.core.lv.len;rw[hL]at ab |-;simp only[Yd,Xu]at ab;show L0.length<=_;omega
 rw[XE (by rw[XT,bC];omega)];have S:((s.levels.getD 0 []++d.map (·.1))::s.levels.drop 1:Xn (Xn dB))=dh (lO Ls d):=by
  rw[h.levels];obtain⟨L0,L1,L2,L3,rfl⟩:=eK h.core.lv.len;simp[dh,lO]
 rw[S];have w:gN (aJ s) (s.mem::gC Ls) (gC (lO Ls d)):=by
  rw[Ev Ls d h.core.lv.len];exact GX G.srt z.sep (λp b=>(Q p b).1) z.ents
 obtain⟨k0,ao,I⟩:=h.core.log;have I:s.log=cJ k0:=I;have ao:k0<=s.number:=ao;have ap:file U aQ=none:=by rw[n _ λk _ _ a=>nD k a.symm];exact h.R6
 have aq:file U (cJ (num+1))=none:=by rw[n _ λk _ _ a=>lq k _ a.symm];exact h.UF (by omega) (by omega)
 obtain⟨ar,ba,cb⟩:=h.logf;have W:file U s.log=some (dw q0 bs++ar):=by rw[n _ λk _ _ a=>J k a];exact ba
 have as:tz num (lO Ls d):=by
  obtain⟨X,Y,Z,e2⟩:=rr Ls d h.core.lv.len;refine⟨?_,?_,?_,?_⟩
  .obtain⟨L0,L1,L2,L3,rfl⟩:=eK h.core.lv.len;rfl
  .intro p b;rw[e2]at b;simp only[Xy]at b;rcases b with(b|b)|b
   .obtain⟨k,V,g⟩:=h.core.lv.names p (by rw[Z];exact Ye _ b);exact⟨k,by have V:k<=s.number:=V;omega,g⟩
   .obtain⟨k,V,g,k3⟩:=z.names p b;exact⟨k,g,k3⟩
   .obtain⟨k,V,g⟩:=h.core.lv.names p (by rw[Z];exact Yl _ b);exact⟨k,by have V:k<=s.number:=V;omega,g⟩
  .have u:=h.core.lv.nodup;unfold bR at u |-;rw[Z,XK]at u;rw[e2,XK,XK];rw[Yc]at u;rw[Yc,Yc];have A:∀p∈d,∀q∈Ls.flatten,p.1.name≠q.1.name:=λp b q hq M=>by
    obtain⟨k,V,g,k3⟩:=z.names p b;obtain⟨j,j1,j2⟩:=h.core.lv.names q hq;have j1:j<=s.number:=j1;have:=fC (k3.symm.trans (M.trans j2)) (by omega) (by omega);omega
   refine⟨⟨u.1,z.nodup,λx R y hy M=>?_⟩,u.2.1,λx R y hy M=>?_⟩
   .obtain⟨p,b,rfl⟩:=XA.1 R;obtain⟨q,hq,rfl⟩:=XA.1 hy;exact A q hq p (by rw[Z];exact Ye _ b) M.symm
   .rcases Xy.1 R with R|R
    .exact u.2.2 x R y hy M
    .obtain⟨p,b,rfl⟩:=XA.1 R;obtain⟨q,hq,rfl⟩:=XA.1 hy;exact A p b q (by rw[Z];exact Yl _ hq) M
  .intro i L hi hL;have bc:=h.core.lv.sep;obtain⟨L0,L1,L2,L3,rfl⟩:=eK h.core.lv.len;cases i with
   | zero=>omega
   | succ i=>exact bc (i+1) L hi (by simpa[lO]using hL)
 have ag:(lO Ls d).flatten.length<=1048576:=by
  obtain⟨X,Y,Z,e2⟩:=rr Ls d h.core.lv.len;have v:=yg h.core.on;have t:=lu d;rw[z.ents,XT]at t;have af:∀l:Xn (dB×Xn ay),(∀p∈l,p.2≠[])->l.length<=(l.map (·.2.length)).sum:=by
   intro l
   induction l with
   | nil=>intro _;simp
   | cons p r ih=>
    intro a;have v:=ih λx R=>a x (XQ _ R);have t:0<p.2.length:=Yi.2 (a p XC);simp only[XP,aa4,X5];omega
  have h3:=af d λp b=>(Q p b).2;rw[Z,Xu]at v;rw[e2,Xu,Xu];omega
 obtain⟨x,D3,c1,c2,c3⟩:=wy (C:=C) (s:={ s with number:=num,levels:=dh (lO Ls d),mem:=[] }) (Ls:=lO Ls d) rfl as ag (by show num+1<=_;omega) (by show s.seq<=_;omega) p2.ok ap aq (.inr ⟨k0,_,by show k0<=num;omega,I,W⟩) (by rw[g.moves]at p3;omega) (by rw[g.used]at p4;omega);have l2:=g.later.trans p2;rw[c1];have aa:s.log≠cJ (num+1):=λa=>by have:=ye (I.symm.trans a) (by omega) (by omega);omega
 have A:∀D':ad,D'.Ok->file D' aM=some (aA (cz { s with number:=num+1,log:=cJ (num+1),levels:=dh (lO Ls d),mem:=[] }))->file D' (cJ (num+1))=some [] ->
  (∀m,m≠aM->m≠cJ (num+1)->m≠s.log->file D' m=file U m)->RecM C D' { s with number:=num+1,log:=cJ (num+1),levels:=dh (lO Ls d),mem:=[] } (lO Ls d) [] E:=by
  intro D' bd bf bi av;have bm:Kc 5 s.number num (dC (aJ s) false s.mem) d (λ_=>some []) (file D'):=by
   refine⟨z.ents,z.cnt,z.names,z.nodup,λp b=>?_,z.sep,z.few,λm H=>.inl (by simp)⟩;obtain⟨f,cs,q1,q2⟩:=z.on p b;obtain⟨k,n1,n2,n3⟩:=z.names p b;exact⟨f,cs,by rw[av _ (by rw[n3];exact j9 k) (by rw[n3];exact lq k _) (by rw[n3];exact(J k).symm)];exact q1,q2⟩
  refine Kg h bm (by omega) bd bf bi λm H=>?_;rw[av m (λa=>kF h.core.lv (by rw[<- a];exact H)) (λa=>jz h.core.lv (num+1) (by rw[<- a];exact H)) λa=>jz h.core.lv k0 (by rw[<- I,<- a];exact H)];exact O m H
 rcases c3 with⟨rfl,c3,B⟩|⟨e,rfl,c3,B⟩
 .dsimp only;have a0:nE C { s with number:=num+1,log:=cJ (num+1),levels:=dh (lO Ls d),mem:=[] } D3 s.seq (lO Ls d) [] E:=by
   refine⟨?_,rfl,by simp[total],?_,?_,by omega,h.snaps⟩
   .exact A D3 c2.ok (by rw[B,XE rfl]) (by rw[B,Xx (gY _)];exact XE rfl) λm v t h3=>by
     rw[B,Xx v];exact(Xx t).trans (Xx h3)
   .refine⟨[],?_,by simp⟩;show file D3 (cJ (num+1))=_;rw[B,Xx (gY _)];exact XE rfl
   .intro m H;show m=aM\/m=cJ (num+1)\/_;rw[B]at H;by_cases v:m=aM
    .exact .inl v
    rw[Xx v]at H;by_cases t:m=cJ (num+1)
    .exact .inr (.inl t)
    have H:=(Xx t:(if m=cJ (num+1)then some []else if m=s.log then none else file U m)=_)▸H;by_cases h3:m=s.log
    .exact XG (XE h3) H
    rw[Xx h3]at H;refine .inr (.inr ?_);obtain⟨X,Y,Z,e2⟩:=rr Ls d h.core.lv.len;unfold bR;rw[e2,XK,XK,Xy,Xy];rcases z.known m H with F|F
    .rw[g.file]at F;rcases h.known m F with F|F|F
     .exact XG F v
     .exact XG F h3
     .unfold bR at F;rw[Z,XK,Xy]at F;rcases F with F|F
      .exact .inl (.inl F)
      .exact .inr F
    .exact .inl (.inr F)
  obtain⟨x,D4,s1,l3,s2⟩:=yj ho a0 (by simp[total]) hE (by simp) (by show num+1+3*E<=_;omega);rw[s1];refine⟨x,D4,rfl,(l2.trans c2).trans l3,?_⟩;have bq:aJ { s with number:=num+1,log:=cJ (num+1),levels:=dh (lO Ls d),mem:=[] }=aJ s:=rfl;rw[bq]at s2;rcases s2 with⟨e,rfl,s2,c,ai,bz,s3,s4⟩|⟨s',ai,rfl,s2,s3,s4,s5,s6,s7⟩
  .refine .inl ⟨e,rfl,s2.before (l2.trans c2),c,ai,bz,⟨s3.1,s3.2.more (by show num+1+3*E<=_;omega) (XD _)⟩,.inr ?_⟩;rcases s4 with⟨s4,s5,s6⟩|⟨s4,s5,s6⟩
   .exact⟨s4,s5,w.trans s6⟩
   .refine⟨s4,s5,w.trans (gN.trans (λm H k=>?_) s6)⟩;show ik (lY ([]::gC (lO Ls d)) k m)=_;rw[dD];rfl
  .exact .inr ⟨s',ai,rfl,s2,w.trans s3,s4.seq,s4.snaps,s4.snap,by have s6:s'.number<=num+1+3*E:=s6;omega,by
    rw[s5.1,s5.2];show file D3 (cJ (num+1))=_;rw[B,Xx (gY _)];exact XE rfl,s7⟩
 .refine⟨_,_,rfl,l2.trans c2,.inl ⟨e,rfl,c3.before l2,?_⟩⟩;rcases B with B|B
  .have al:=h.grow c2.ok (xs:=aQ::cJ (num+1)::Aj s.number (dC (aJ s) false s.mem).length) λm H=>by
    by_cases T:m=aQ
    .rw[T];exact .inl XC
    by_cases N:m=cJ (num+1)
    .rw[N];exact .inl (XQ _ XC)
    .rw[B m T N]at H;rcases ac m H with H|H
     .exact .inl (XQ _ (XQ _ H))
     .exact .inr H
   rw[X5,X5,mQ]at al;refine⟨_,Ls,bs,⟨h.core.files c2.ok λm H=>?_,Zl _ _,by omega⟩,.inl ⟨rfl,rfl,gN.refl _ _⟩⟩;have v:m≠aQ:=λa=>by
    rcases H with H|H|H
    .exact lN (a.symm.trans H)
    .have H:m=s.log:=H;exact mC k0 (I.symm.trans (H.symm.trans a))
    .exact kG h.core.lv (by rw[<- a];exact H)
   have t:m≠cJ (num+1):=λa=>by
    rcases H with H|H|H
    .exact gY _ (a.symm.trans H)
    .have H:m=s.log:=H;exact aa (H.symm.trans a)
    .exact jz h.core.lv (num+1) (by rw[<- a];exact H)
   rw[B m v t];exact P m H
  .have al:=h.grow c2.ok (xs:=cJ (num+1)::Aj s.number (dC (aJ s) false s.mem).length) λm H=>by
    by_cases T:m=aM
    .rw[T];exact .inr (by have b0:file D aM=some (aA (cz { s with seq:=q0 })):=h.core.state;rw[b0];simp)
    by_cases N:m=cJ (num+1)
    .rw[N];exact .inl XC
    .rw[B,Xx T]at H;have H:file U m≠none:=λa=>H ((Xx N).trans a);rcases ac m H with H|H
     .exact .inl (XQ _ H)
     .exact .inr H
   rw[X5,mQ]at al;exact⟨_,_,[],⟨A D3 c2.ok (by rw[B,XE rfl]) (by rw[B,Xx (gY _)];exact XE rfl) (λm v t _=>by
    rw[B,Xx v];exact Xx t),by show num+1<=_;omega,by omega⟩,.inr ⟨rfl,rfl,w⟩⟩
end
section
variable{C:Prop}{s:St}{D:ad}{q0:Nat}{Ls:jy}{bs:Xn (Xn cC)}{E:Nat}
def MM(h:s.levels=dh Ls)(H:Ls.length=4):∃P:Xn (dB×Xn ay),fy s=P.map (·.1)/\gC Ls=P.map (·.2)/\(∀p∈P,p∈Ls.flatten)/\P.length=Ls.flatten.length/\P=(Ls.getD 0 []).reverse++(Ls.drop 1).flatten:=by
 refine⟨(Ls.getD 0 []).reverse++(Ls.drop 1).flatten,?_,rfl,?_,?_,rfl⟩
 .obtain⟨L0,l,L,a,rfl⟩:=eK H;unfold fy;rw[h];simp[dh]
 .obtain⟨L0,l,L,a,rfl⟩:=eK H
  grind
 .obtain⟨L0,l,L,a,rfl⟩:=eK H;simp
def GY(h:Bs)(l:Int)(S:Nat)(s:Sc)(e:ay):(mJ h l S s e).1.out.length<=s.out.length+1:=by
 unfold mJ
 grind
def Ki(h:nE C s D q0 Ls bs E)(hE:E<=1048576)(c v:Bs)(L:Int)(seq:Nat){ps:Xn (Bs×Bs)}(F:mI ps)(hv:∀k,ik (lY (s.mem::gC Ls) k seq)=bD ps k) :
 ∃x G,AX s D c v L seq=some (x,G)/\eZ D G/\((∃e,x=.error e/\Ea C D e)\/x=.ok (gB ps c v L)):=by
 obtain⟨q,P,I,p3,p4,_⟩:=MM h.levels h.core.lv.len;have Z:=h.core.Qm hE;have aa:=h.core.cntE;obtain⟨H,af⟩:=h.Be;have hq:q0+total bs<=4611686018427387904:=h.core.seq;have ab:=h.seq;have ac:bO=18446744073709551615:=rfl;have w:∀p∈q,∃f cs,file D p.1.name=some f/\rW C f p.1 p.2 cs:=λp J=>h.core.on p (p3 p J);have K:∀l∈s.mem::q.map (·.2),iz l:=λl t=>by
  rcases XW.1 t with rfl|t
  .exact H.srt
  .obtain⟨p,J,rfl⟩:=XA.1 t;obtain⟨f,cs,_,k⟩:=w p J;exact k.srt
 have O:Pure.Ord (s.mem::q.map (·.2)):=by rw[<- I];exact h.ord
 have m:∀l∈(s.mem::q.map (·.2)).map (gX c),iz l:=λl t=>by
  obtain⟨l',Q,rfl⟩:=XA.1 t;exact(K l' Q).sublist Zg
 have n:Pure.Ord ((s.mem::q.map (·.2)).map (gX c)):=ZI.2 (O.imp λ{a b} S x hx y hy B=>S x (YS.1 hx).1 y (YS.1 hy).1 B);obtain⟨R,U,d⟩:=u7 _ (se m n);have u:∀i:Xn (Xn ay),(i.map (gX c)).flatten.length<=i.flatten.length:=by
  intro i
  induction i with
  | nil=>simp
  | cons l r ih=>
   have:(gX c l).length<=l.length:=List.length_filter_le _ _;simp only[XP,Yd,Xu];omega
 have ag:R.length<=2*E:=by
  have h1:=d.length_eq;have h2:=u (s.mem::q.map (·.2));rw[Yd,Xu,<- I]at h2;have h3:(gC Ls).flatten.length=cnt Ls:=by
   obtain⟨L0,L1,L2,L3,hL⟩:=eK h.core.lv.len;rw[hL];unfold gC cnt;rw[lu];simp
  grind
 have z:∀e∈R,tg c e.key=true:=λe V=>by
  obtain⟨l,t,W⟩:=YZ.1 (d.mem_iff.1 V);obtain⟨l',_,rfl⟩:=XA.1 t;exact(YS.1 W).2
 have A:∀k,tg c k=true->ik (jL R k seq)=bD ps k:=λk B=>by
  rw[yh U m n d,<- hv,<- I.symm];have ai:∀i:Xn (Xn ay),lY (i.map (gX c)) k seq=lY i k seq:=by
   intro i
   induction i with
   | nil=>rfl
   | cons l r ih=>
    rw[XP,dD,dD,ih];have:=GD l (λx=>!aO x c) k seq;have e1:jL (gX c l) k seq=jL l k seq:=by
     unfold gX;rw[this];exact XE B
    rw[e1]
  grind
 have X:GK C (file D) s.mem (.mg ⟨false,jO s.mem c::(fy s).map λT=>eF T c,[]⟩) R:=by
  show wX _ _ _ _ _;unfold wX;rw[Xx (by simp)];refine⟨rfl,?_,(s.mem::q.map (·.2)).map (gX c),?_,d⟩
  .rw[P];simp only[XT,X5];omega
  .rw[P];show qw _ _ _ (jO s.mem c::((q.map (·.1)).map λT=>eF T c)) _;rw[si,XP,Zv];exact .cons (Eo H.srt (λe V=>by have:=(H.seq e V).2;omega) c) (H.srt.sublist Zg) (Cu c q w)
 obtain⟨s',o,G,j,k1,k2,k3,k4,Y⟩:=uZ (M:=s.mem) (body:=D6 v L seq) (g:=mJ v L seq) (Sz:=λk (s:Sc)=>s.out.length<=k) (N:=1073741824)
  (λk s' e B hs=>⟨by unfold D6;rw[XE (by rw[bC];omega)],by have:=GY v L seq s' e;omega⟩) R jJ 0 _ D Ix h.core.ok U X (by rw[bC];omega) (by omega) (by simp[Ix])
 unfold AX;rw[XE (by rw[P,XT,bC];omega),k1];rcases Y with⟨e,rfl,Y⟩|⟨rfl,rfl⟩
 .exact⟨_,_,rfl,k2,.inl ⟨e,rfl,Y⟩⟩
 .exact⟨_,_,rfl,k2,.inr (by rw[Qj U z F A])⟩
end
def yl{D:ad}{n:Bs}(a:D.Ok)(b:file D n=none):∃e d,ll D n=(.error e,d)/\eZ D d/\(xS D e\/e=(some n,10)):=by
 unfold ll;cases H:aY D n with
 | some e=>
  refine⟨e,_,rfl,eZ.tick a,?_⟩;rcases sJ H with h|⟨h,_⟩
  .grind
  grind
 | none=>
  have⟨_,i,_,c⟩:=mO H
  grind
section
variable{C:Prop}{D:ad}{c s:St}{Ls:jy}{bs:Xn (Xn cC)}{E:Nat}
def qy(c:St)(Ls:jy)(bs:Xn (Xn cC))(k:Bs):XB Bs:=ik (lY (oD c.seq bs []::gC Ls) k bO)
def MN(c:St)(Ls:jy)(k:Bs):qy c Ls [] k=ik (lY (gC Ls) k bO):=by
 rw[qy,dD];rfl
end
def pk(s:St)(Ls:jy)(m:Nat)(k:Bs):XB Bs:=ik (lY (s.mem::gC Ls) k m)
def IH(C:Prop)(s:St)(D:ad)(Ls:jy)(d:Bs->XB Bs)(q':Nat)(a:Bs->XB Bs)(N E B:Nat)(shape:St->jy->Xn (Xn cC)->Prop)(x:YH eX St)(D':ad):Prop:=
 dU D D' /\
  ((∃e,x=.error e/\A7 C D e/\∃c l b,(RecM C D' c l b E/\Left D' c (s.number+N) E)/\((c.seq+total b=s.seq/\∀k,qy c l b k=d k)\/(c.seq+total b=q'/\∀k,qy c l b k=a k))) \/
   ∃S q l b,x=.ok S/\nE C S D' q l b E/\file D' S.log=some (dw q b)/\S.seq=q'/\S.snaps=s.snaps/\S.snap=s.snap/\S.number<=s.number+N /\
    (∀k,pk S l bO k=a k)/\(∀m∈s.snaps.map (·.2),∀k,pk S l m k=pk s Ls m k)/\b.length<=B/\shape S l b)
section
variable{C:Prop}{D:ad}{c s:St}{Ls:jy}{bs:Xn (Xn cC)}{E q0:Nat}
def RecM.more{E':Nat}(h:RecM C D c Ls bs E)(H:E<=E'):RecM C D c Ls bs E':=
 ⟨h.ok,h.levels,h.state,h.num,h.seq,Yh h.cntE H,h.lv,h.on,h.seqs,h.ord,h.log,h.logf,h.bsok⟩
def vg(a b:Xn (Xn cC)):total (a++b)=total a+total b:=by unfold total;simp
def tC:∀(a:Xn (Xn cC)) (q:Nat) (b:Xn cC),dw q (a++[b])=dw q a++aA (tu (q+total a) b)
 | [],q,b=>by simp[dw,total]
 | x::a,q,b=>by
  have h:total (x::a)=x.length+total a:=rfl;rw[List.cons_append,dw,dw,tC a,h,Y6,XS]
def Bf:∀(a:Xn (Xn cC)) (q:Nat) (b:Xn cC) (m:Xn ay),oD q (a++[b]) m=(bB (q+total a) b).foldl gq (oD q a m)
 | [],q,b,m=>rfl
 | x::a,q,b,m=>by
  have h:total (x::a)=x.length+total a:=rfl;rw[List.cons_append,oD,oD,Bf a,h,Y6]
variable {l:Xn cC}
def added (h:nE C s D q0 Ls bs E) {D':ad} (hl:SB l) (o:D'.Ok) (q:D'.moves=D.moves) (x:s.seq+l.length<=4611686018427387904) (y:∀m,file D' m=if m=s.log then some (dw q0 (bs++[l]))else file D m):nE C (eH s l) D' q0 Ls (bs++[l]) (E+l.length):=by
 have g:=h.seq;have r:=h.mem;have e:total [l]=l.length:=rfl;have⟨K,t,a⟩:=h.core.log;have a:=a;have H:∀m,m≠s.log->file D' m=file D m:=λm i=>by grind
 have d:file D' s.log=some (dw q0 (bs++[l])):=by grind
 have k:=h.moves;refine⟨⟨o,h.core.levels,?_,h.core.num,?_,?_,h.core.lv,λp n=>?_,h.core.seqs,h.core.ord,h.core.log,?_,?_⟩,?_,?_,?_,λm i=>?_,by grind,h.snaps⟩
 .rw[H _ (by rw[a];exact(gY _).symm)];exact h.core.state
 .show q0+total _<=_;rw[vg,e];omega
 .have:=h.core.cntE;rw[vg,e];omega
 .have⟨f,u,A,v⟩:=h.core.on p n;exact⟨f,u,by rw[H _ λi=>jz h.core.lv K (by rw[<- a,<- i];exact XA.2 ⟨p,n,rfl⟩)];exact A,v⟩
 .exact⟨[],by rw[Yj];exact d,rfl⟩
 .intro b j;rcases Xy.1 j with j|j
  .exact h.core.bsok b j
  grind
 .show(bB s.seq l).foldl gq s.mem=_;rw[Bf,<- r,g]
 .show s.seq+l.length=_;rw[vg,e];omega
 .exact⟨[],by rw[Yj];exact d,by simp⟩
 .show m=aM\/m=s.log\/_;by_cases w:m=s.log
  .grind
  .rw[H m w]at i;exact h.known m i
def nE.qy(h:nE C s D q0 Ls bs E)(k:Bs):YtecibefflhomdaaGreatDoor.qy { s with seq:=q0 } Ls bs k=pk s Ls bO k:=by
 rw[YtecibefflhomdaaGreatDoor.qy,pk,h.mem]
def Kj {o:pX} {sync:XN} {ps:Xn (Bs×Bs)} (ho:1<=o.tables) (af:1<=o.memory) (h:nE C s D q0 Ls bs E) (p:file D s.log=some (dw q0 bs)) (hl:SB l) (hE:E+l.length<=1048576) (hB:bs.length<16777216) (hq:s.seq+l.length<=4611686018427387904) (F:s.number+4*(E+l.length)+1<=4611686018427387904) (Y:s.mem.length<o.memory) (G:∀k,pk s Ls bO k=bD ps k) (I:∀m∈s.snaps.map (·.2),m<=s.seq):
 ∃x D',mM o s D l sync=some (x,D')/\IH C s D Ls (λk=>bD ps k) (s.seq+l.length) (λk=>bD (sF ps l) k) (4*(E+l.length)+1) (E+l.length) (bs.length+1) (λS L B=>S.mem.length<o.memory/\((L=Ls/\B=bs++[l])\/(nF o L/\B=[]))) x D':=by
 obtain⟨r,ag⟩:=h.Be;have aa:=h.core.cntE;have q:=h.seq;have T:s.seq<=4611686018427387904:=by omega
 have J:∀D':ad,D'.Ok->(∀m,file D' m=file D m)->∃g L B,(RecM C D' g L B (E+l.length)/\Left D' g (s.number+(4*(E+l.length)+1)) (E+l.length))/\((g.seq+total B=s.seq/\∀k,YtecibefflhomdaaGreatDoor.qy g L B k=bD ps k)\/(g.seq+total B=s.seq+l.length/\∀k,YtecibefflhomdaaGreatDoor.qy g L B k=bD (sF ps l) k)):=λD' hd hf=>
  ⟨_,Ls,bs,⟨(h.core.files hd λm _=>hf m).more (Zl _ _),Zl _ _,by have:=h.grow hd (xs:=[]) λm i=>.inr (by rw[<- hf];exact i);simp only[List.length_nil]at this;omega⟩,.inl ⟨q.symm,λk=>(h.qy k).trans (G k)⟩⟩
 unfold mM;rw[XE ⟨T,by omega⟩];unfold eJ;dsimp only;cases ha:dT D s.log (aA (tu s.seq l))with
 | some e=>
  obtain⟨t,A⟩:=sL h.core.ok ha p;have U:=eZ.tick h.core.ok;refine⟨_,_,rfl,by rw[t];exact U.later,.inl ⟨e,rfl,?_,J _ (by rw[t];exact U.later.ok) λm=>by rw[t];exact U.file m⟩⟩;rcases A with A|⟨A,K⟩
  .exact .of A
  .have V:=h.used (by omega) (by omega);have ai:(aA (tu s.seq l)).length<=292:=by
    have he:∀e∈bB s.seq l,qm e:=λe hh=>(yk l s.seq hl.key hl.val (by omega) e hh).1;have z:=oB he;have h2:=hl.len;rw[iG]at z;unfold iq at z;unfold tu;rw[dM,Xu,aI];omega
   exact .inr ⟨A,by omega⟩
 | none=>
  obtain⟨b,b1,b2,b3,M,b5,b6⟩:=uT h.core.ok ha;rw[p]at b1;obtain rfl:=Xt b1;dsimp only;generalize al:bG D s.log (aA (tu s.seq l))=j at b2 b3 M b5;have u:∀m,file j m=if m=s.log then some (dw q0 (bs++[l]))else file D m:=λm=>by
   rw[b2,tC,q]
  have N:∀x∈s.mem,x.seq<=s.seq:=λx hx=>(r.seq x hx).2;have ab:bO=18446744073709551615:=rfl;have a:∀k,pk (eH s l) Ls bO k=bD (sF ps l) k:=λk=>by
   unfold pk;rw[dD];show ik ((jL ((bB s.seq l).foldl gq s.mem) k bO).or _)=_;refine tp l k bO ps _ r.srt N (by omega) ?_;have:=G k;unfold pk at this;rw[dD]at this;exact this
  have d:∀m,m<=s.seq->∀k,pk (eH s l) Ls m k=pk s Ls m k:=λm i k=>by
   unfold pk;rw[dD,dD];show ik ((jL ((bB s.seq l).foldl gq s.mem) k m).or _)=_;rw[tn l k m r.srt N i]
  have v:∃(x:XB eX) (w:ad),(if sync=true then(some (aY j s.log,je j s.log):XB (XB eX×ad))else some (none,j))=some (x,w)/\(∀m,file w m=file j m)/\dU j w/\w.moves=j.moves/\(x=none\/∃e,x=some e/\xS j e):=by
   cases sync with
   | false=>exact⟨_,_,rfl,λ_=>rfl,dU.refl M.ok,rfl,.inl rfl⟩
   | true=>
    obtain⟨y1,y2,y3,y4⟩:=xU M.ok s.log;refine⟨_,_,rfl,y1,y3,y4,?_⟩;rcases ln (D:=j) (n:=s.log) (b:=dw q0 (bs++[l])) (by rw[u,XE rfl])with z|⟨e,z,ht⟩
    .exact .inl z
    .exact .inr ⟨e,z,ht⟩
  obtain⟨x,w,z1,z2,z3,z4,Z⟩:=v;have H:nE C (eH s l) w q0 Ls (bs++[l]) (E+l.length):=added h hl z3.ok (z4.trans b5) hq λm=>by rw[z2,u]
  have y:file w s.log=some (dw q0 (bs++[l])):=by rw[z2,u,XE rfl]
  have Q:=M.trans z3;rw[z1];rcases Z with rfl|⟨e,rfl,Z⟩
  .dsimp only;by_cases f:o.memory<=(eH s l).mem.length
   .rw[XE f];obtain⟨x,D',k1,k2,k3⟩:=Kh ho H hE (by simp;omega) F;refine⟨x,D',k1,Q.trans k2,?_⟩;have am:aJ (eH s l)=aJ s:=rfl;have ac:(eH s l).seq=s.seq+l.length:=rfl;rcases k3 with⟨e,t,A,g,L,B,K,W⟩|⟨S,L,t,A,K,W,a5,a6,a7,a8,a9⟩
    .refine .inl ⟨e,t,A.before Q,g,L,B,⟨K.1,K.2.more (by show s.number+_<=_;omega) (XD _)⟩,.inr ?_⟩;rcases W with⟨R,rfl,X⟩|⟨R,rfl,X⟩
     .refine⟨by rw[R,<- H.seq];rfl,λk=>?_⟩;show YtecibefflhomdaaGreatDoor.qy g L (bs++[l]) k=bD (sF ps l) k;rw[<- a k,<- H.qy k];unfold YtecibefflhomdaaGreatDoor.qy;rw[R,dD,dD];exact Cv (X bO XC k)
     .refine⟨by rw[R];simp[total];rfl,λk=>?_⟩;show YtecibefflhomdaaGreatDoor.qy g L [] k=bD (sF ps l) k;rw[MN,X bO XC k];exact a k
    .have O:S.mem=[]:=A.mem;have P:∀m,m∈aJ s->∀k,pk S L m k=pk (eH s l) Ls m k:=λm i k=>by
      have:=K m i k;unfold pk;rw[O,dD];exact this
     refine .inr ⟨S,_,L,[],t,A,by rw[a8];rfl,by rw[W];rfl,a5,a6,by rw[show(eH s l).number=s.number from rfl]at a7;omega,λk=>?_,λm i k=>?_,by simp,by rw[O];simp;omega,.inr ⟨a9,rfl⟩⟩
     .rw[P bO XC k];exact a k
     .rw[P m (XQ _ i) k];exact d m (I m i) k
   .rw[Xx f];refine⟨_,_,rfl,Q,.inr ⟨_,q0,Ls,bs++[l],rfl,H,y,rfl,rfl,rfl,by show s.number<=_;omega,a,λm i k=>d m (I m i) k,by simp,by omega,.inl ⟨rfl,rfl⟩⟩⟩
  .refine⟨_,_,rfl,Q,.inl ⟨e,rfl,.of (Z.before M),_,Ls,bs++[l],⟨H.core,by show s.number<=_;omega,by have:=H.now;omega⟩,.inr ⟨?_,λk=>(H.qy k).trans (a k)⟩⟩⟩;rw[show({ eH s l with seq:=q0 }:St).seq=q0 from rfl,<- H.seq];rfl
end
structure SD where
 pairs:Xn (Bs×Bs)
 snaps:Xn (XB (Xn (Bs×Bs)))
 closed:XN
def II(r:SD)(n:Int):XB (Xn (Bs×Bs)):=if 1<=n/\n<=(r.snaps.length:Int)then r.snaps.getD (n-1).toNat none else none
def live(r:SD):Nat:=(r.snaps.filter Option.isSome).length
structure Inv(C:Prop)(P:St->jy->Prop)(s:St)(D:ad)(r:SD)(E B:Nat):Prop where
 run:∃q0 Ls bs,nE C s D q0 Ls bs E/\file D s.log=some (dw q0 bs)/\bs.length<=B/\(∀k,pk s Ls bO k=bD r.pairs k) /\
  (∀p∈s.snaps,p.2<=s.seq/\∃ps,II r p.1=some ps/\mI ps/\∀k,pk s Ls p.2 k=bD ps k)/\P s Ls
 srt:mI r.pairs
 snap:s.snap=r.snaps.length
 keys:(s.snaps.map (·.1)).Nodup
 dead:∀n,aB s.snaps n=none->II r n=none
 live:s.snaps.length=live r
 seq:s.seq<=E
section
variable{C:Prop}{P:St->jy->Prop}{s:St}{D:ad}{r:SD}{E B q0:Nat}{Ls:jy}{bs:Xn (Xn cC)}
variable {D':ad}
def nE.same (h:nE C s D q0 Ls bs E) (k:eZ D D'):nE C s D' q0 Ls bs E:=
 ⟨h.core.files k.later.ok λm _=>k.file m,h.mem,h.seq,by rw[k.file];exact h.logf,λm H=>h.known m (by rw[<- k.file];exact H),by rw[k.moves];exact h.moves,h.snaps⟩
def Inv.same (h:Inv C P s D r E B) (k:eZ D D'):Inv C P s D' r E B:=by
 have⟨q0,Ls,bs,H,a,b⟩:=h.run;exact⟨⟨q0,Ls,bs,H.same k,by rw[k.file];exact a,b⟩,h.srt,h.snap,h.keys,h.dead,h.live,h.seq⟩
def Inv.SE(h:Inv C P s D r E B):s.mem.length<=E:=by
 have⟨q0,Ls,bs,H,_⟩:=h.run;have:=H.core.cntE;rw[H.Be.2];omega
def Inv.at(h:Inv C P s D r E B){n:Int}{q:Nat}(H:aB s.snaps n=some q):∃p,II r n=some p/\mI p/\q<=s.seq:=by
 have⟨q0,Ls,bs,_,_,_,_,d,_⟩:=h.run;have⟨a,p,b,c,_⟩:=d _ (eD H)
 grind
def MO(h:Inv C P s D r E B)(a:E<=1048576)(L H:Bs)(l:Int):∃x D',AX s D L H l bO=some (x,D')/\eZ D D'/\Inv C P s D' r E B/\((∃e,x=.error e/\Ea C D e)\/x=.ok (gB r.pairs L H l)):=by
 have⟨q0,Ls,bs,b,_,_,c,_⟩:=h.run;have⟨x,D',K,k,d⟩:=Ki b a L H l bO h.srt c;exact⟨x,D',K,k,h.same k,d⟩
end
def UG(o:pX)(s:St)(Ls:jy):Prop:=s.mem.length<o.memory/\nF o Ls
section
variable{C:Prop}{P:St->jy->Prop}{s:St}{D D':ad}{r:SD}{E B N q0:Nat}{Ls:jy}{bs:Xn (Xn cC)}{o:pX}{ps:Xn (Bs×Bs)}
def Kk(U:1<=o.tables)(V:1<=o.memory)(X:D.Ok)(f:∀m,file D m=none)(hb:D.bad=0)(hm:D.moves=[]) :
 ∃x D',AZ o D=some (x,D')/\dU D D'/\((∃e,x=.error e/\A7 False D e)\/∃s,x=.ok s/\Inv False (UG o) s D' ⟨[],[],false⟩ 0 0/\s.number<=1):=by
 obtain⟨e,d,Y,w,W⟩:=yl X (f aM);have Z:d.bad<=0:=by have:=w.later.bad;omega
 have W:e=(some aM,10):=by
  rcases W with W|W
  .have:=W.2;omega
  omega
 subst W;have hl:wu D=some (.ok uQ,d):=by unfold wu;rw[Y];rfl
 have h:d.now=[]:=by
  have:=MH w.later.ok (ns:=[]) λm hm=>by rw[w.file,f]at hm;exact XG rfl hm
  simp_all
 have I:pe uQ d=some (.ok uQ,d):=by unfold pe qp;rw[h,XE (by simp)];simp[AY,eY]
 have H:tz uQ.number [[],[],[],[]]:=⟨rfl,by simp,by simp[bR],λi L _ M=>by
  rcases i with _|_|_|_|i<;>simp at M<;>subst M<;>exact List.Pairwise.nil⟩
 have a:d.used=0:=by unfold ad.used;rw[h];rfl
 obtain⟨x,O,c1,y,z⟩:=wy (C:=False) (s:=uQ) (Ls:=[[],[],[],[]]) rfl H (by simp) (by show 0+1<=_;omega) (by show 0<=_;omega) w.later.ok (by rw[w.file,f]) (by rw[w.file,f]) (.inl ⟨rfl,by rw[w.file,f]⟩) (by rw[w.moves,hm];simp) (by rw[a];omega);have b:AZ o D=gk (iV uQ d true) λs D=>pd o s D:=by
  unfold AZ;rw[hl];show gk (pe uQ d) _=_;rw[I];show qu o uQ d=_;unfold qu;rw[Xx (by show¬ 0<0;omega)]
 rw[b,c1];rcases z with⟨rfl,z,A⟩|⟨e,rfl,z,A⟩
 .have g:file O (cJ 1)=some []:=by rw[A,Xx (gY _)];exact XE rfl
  have j:nE False { uQ with number:=uQ.number+1,log:=cJ (uQ.number+1) } O 0 [[],[],[],[]] [] 0:=by
   refine⟨⟨y.ok,rfl,by rw[A,XE rfl];rfl,by show 0+1<=_;omega,by simp[total,uQ],by simp[cnt,total],⟨rfl,by simp,by simp[bR],H.sep⟩,λp F=>by simp at F,by simp,by unfold gC;simp,⟨1,XD _,rfl⟩,⟨[],g,AR⟩,by simp⟩,rfl,rfl,⟨[],g,by simp⟩,λm hm=>?_,by omega,by show[].length<=4;simp⟩;show m=aM\/m=cJ 1\/_;rw[A]at hm;by_cases h1:m=aM
   .grind
   rw[Xx h1]at hm;by_cases Q:m=cJ (uQ.number+1)
   .exact .inr (.inl Q)
   rw[Xx Q]at hm;by_cases h3:m=uQ.log
   .grind
   .rw[Xx h3,w.file,f]at hm;exact XG rfl hm
  dsimp only[gk];obtain⟨x,R,s1,l3,s2⟩:=yj U j (by simp[total]) (by omega) (by simp) (by show 0+1+3*0<=_;omega);have l:=(w.later.trans y).trans l3;refine⟨x,R,s1,l,?_⟩;rcases s2 with⟨e,J,K,_⟩|⟨S,q,J,K,a3,G,a5,T,a7⟩
  .exact .inl ⟨e,J,K.before (w.later.trans y)⟩
  .have t:S.mem=[]:=G.mem;have c:S.snaps=[]:=G.snaps;have u:S.log=cJ 1:=a5.1;have v:file R (cJ 1)=some []:=by
    grind
   refine .inr ⟨S,J,⟨⟨0,q,[],K,by rw[u,v];rfl,by simp,λk=>?_,λp F=>(by rw[c]at F;cases F),by rw[t];simp;omega,a7⟩,List.Pairwise.nil,by rw[G.snap];rfl,by rw[c];simp,λn _=>?_,by rw[c];rfl,by rw[G.seq];exact XD 0⟩,by have T:S.number<=0+1+3*0:=T;omega⟩
   .unfold pk;rw[t,dD];show ik (lY (gC q) k bO)=none;rw[a3 bO XC k];rfl
   .unfold II;rw[Xx (by simp;omega)]
 .exact⟨_,_,rfl,w.later.trans y,.inl ⟨e,rfl,z.before w.later⟩⟩
structure Calm(D:ad):Prop where
 bad:D.bad=0
 room:D.room=1099511627776
def Calm.later(h:Calm D)(k:dU D D'):Calm D':=⟨by have:=k.bad;have:=k.ok.bad0;have:=h.bad;omega,by rw[k.room];exact h.room⟩
variable {e:eX}
def Calm.MP (h:Calm D) (k:A7 False D e):False:=by
 rcases k with(k|⟨k,_⟩)|⟨_,k⟩
 .have:=k.2;have:=h.bad;omega
 .omega
 .have:=h.room;omega
def Calm.UH (h:Calm D) (k:Ea False D e):False:=h.MP (.inl k)
theorem Kl{l:Xn cC}{sync:XN}(v:1<=o.tables)(H:1<=o.memory)(h:Inv C (UG o) s D r E B)(hl:SB l)(w:E+l.length<=1048576)(Y:B<16777216)(f:s.number+4*(E+l.length)+1<=4611686018427387904) :
 ∃x D',mM o s D l sync=some (x,D')/\dU D D' /\
  ((∃e,x=.error e/\A7 C D e/\∃c L a,RecM C D' c L a (E+l.length)/\c.seq+total a<=E+l.length/\((∀k,qy c L a k=bD r.pairs k)\/∀k,qy c L a k=bD (sF r.pairs l) k)) \/
   ∃S,x=.ok S/\Inv C (UG o) S D' { r with pairs:=sF r.pairs l } (E+l.length) (B+1)/\S.number<=s.number+(4*(E+l.length)+1)):=by
 have y:=h.seq;obtain⟨q0,Ls,bs,z,F,G,I,J,t⟩:=h.run;have M:∀q0 Ls bs,nE C s D q0 Ls bs E->file D s.log=some _->bs.length<=B->(∀k,pk s Ls bO k=bD r.pairs k)->UG o s Ls ->
  ∃x D',mM o s D l sync=some _/\IH C s D Ls (λk=>bD r.pairs k) _ (λk=>bD _ k) _ _ _ (λS L a=>S.mem.length<o.memory/\((L=Ls/\a=bs++[l])\/(nF o L/\a=[]))) x D':=λq0 Ls bs g i O A j=>
  Kj v H g i hl w (by omega) (by omega) f j.1 A λm Z=>by
   grind
 obtain⟨x,D',Q,K⟩:=M q0 Ls bs z F G I t;refine⟨x,D',Q,K.1,?_⟩;rcases K.2 with⟨e,rfl,b,c,L,a,c1,c2⟩|⟨S,_,_,_,rfl,_⟩
 .grind
 .refine .inr ⟨S,rfl,?_⟩;obtain⟨_,R⟩:=K;rcases R with⟨e,k,_⟩|⟨s2,T,L,a,k,g,i,O,A,j,U,V,a8,a9,d⟩
  .grind
  .cases k;refine⟨⟨⟨T,L,a,g,i,by omega,V,λp u=>?_,d.1,?_⟩,tl l h.srt,by rw[j];exact h.snap,by rw[A];exact h.keys,λn f=>h.dead n (by rw[<- A];exact f),by rw[A];exact h.live,by omega⟩,U⟩
   .rw[A]at u;obtain⟨b1,q,W,X,b4⟩:=J p u;refine⟨by omega,q,W,X,λk=>?_⟩
    grind
   .rcases d.2 with⟨rfl,-⟩|⟨h,-⟩
    .exact t.2
    omega
