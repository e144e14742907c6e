/-
  Part 6: ; .
-/
import Derived.Test.YtecibefflhomdaaGreatDoorZ05
set_option maxHeartbeats 8000000
set_option maxRecDepth 100000
set_option linter.all false
namespace Go.Proofs.YtecibefflhomdaaGreatDoor
open Go
section
open Pure
section
variable{C:Prop}{s:St}{D:ad}{q0:Nat}{Ls:jy}{bs:Xn (Xn cC)}{E:Nat}
def MH(a:D.Ok){ns:Xn Bs}(h:∀m,file D m≠none->m∈ns):D.now.length<=ns.length:=by
 have b:=a.names;have d:=yd b λm c=>h m λH=>by
  rw[rm]at H;exact XG c (fc.1 H)
 grind
structure Left(D':ad)(c:St)(N E:Nat):Prop where
 num:c.number<=N
 now:D'.now.length<=3*E+10
variable {D':ad}
def Left.more {c:St} {N n E E':Nat} (h:Left D' c N E) (H:N<=n) (a:E<=E'):Left D' c n E':=⟨Yh h.num H,by have:=h.now;omega⟩
def nE.grow (h:nE C s D q0 Ls bs E) (a:D'.Ok) {xs:Xn Bs} (b:∀m,file D' m≠none->m∈xs\/file D m≠none):D'.now.length<=E+2+xs.length:=by
 have c:=MH a (ns:=xs++aM::s.log::bR Ls) λm H=>by
  rcases b m H with H|H
  .grind
  .apply Yl _;rcases h.known m H with h|h|h
   .grind
   .grind
   grind
 have d:=yg h.core.on;have e:=h.core.cntE;rw[Xu,X5,X5,bR,XT]at c;omega
def nE.now(h:nE C s D q0 Ls bs E):D.now.length<=E+2:=h.grow h.core.ok (xs:=[]) λ_ H=>.inr H
def Aj(n k:Nat):Xn Bs:=(List.range k).map λi=>dv (n+1+i)
def mQ(n k:Nat):(Aj n k).length=k:=by simp[Aj]
def Es{n k j:Nat}(h1:n<j)(h:j<=n+k):dv j∈Aj n k:=XA.2 ⟨j-n-1,by grind,by grind⟩
structure Alike(s s':St):Prop where
 mem:s'.mem=s.mem
 seq:s'.seq=s.seq
 snaps:s'.snaps=s.snaps
 snap:s'.snap=s.snap
def After(C:Prop)(s:St)(D:ad)(q0:Nat)(Ls:jy)(bs:Xn (Xn cC))(E:Nat)(N:Nat)(shape:jy->Prop)(x:YH eX St)(D':ad):Prop:=
 dU D D' /\
  ((∃e,x=.error e/\A7 C D e/\∃c l b,(RecM C D' c l b E/\Left D' c (s.number+N) E)/\((c.seq=q0/\b=bs/\gN (aJ s) (gC Ls) (gC l))\/(c.seq=s.seq/\b=[]/\gN (aJ s) (s.mem::gC Ls) (gC l)))) \/
   ∃S l,x=.ok S/\nE C S D' q0 l bs E/\gN (aJ s) (gC Ls) (gC l)/\Alike s S/\(S.log=s.log/\file D' s.log=file D s.log)/\S.number<=s.number+N/\shape l)
def wC(h:s.snaps.length<=4):(aJ s).length<=5:=by unfold aJ;simp;omega
def si(ps:Xn (dB×Xn ay))(key:Bs):((ps.map (·.1)).map λT=>eF T key)=ps.map λp=>eF p.1 key:=by simp
def Xb(C:Prop)(s:St)(a b:Nat)(Ls l:jy):Prop:=∃R L,iz R/\R.Perm ((gR a b Ls).map (·.2)).flatten/\l=iY a b Ls L/\(L.map (·.2)).flatten=dC (aJ s) (wY b Ls) R/\∀p∈L,p.2.length<=99
def Bd(h:nE C s D q0 Ls bs E)(ht:total bs=0){a b:Nat}(aa:Ep a b)(hE:E<=1048576)(hB:bs.length<=16777216)(b4:s.number+E<=4611686018427387904) :
 ∃x D',pa s D a b=some (x,D')/\After C s D q0 Ls bs E E (Xb C s a b Ls) x D':=by
 have hq:s.seq=q0:=by rw[h.seq,ht,aak]
 have a3:=h.used hE hB;have b5:=h.core.Qm hE;have aq:=h.core.cntE;obtain⟨X,Y,e1,e2⟩:=u9 h.core.lv.len aa;obtain⟨U,M,W,s1,s2,s3,s4⟩:=yi h.core.lv.len aa;have y:∀p∈gR a b Ls,p∈Ls.flatten:=λp c=>by rw[e1];simp only[Xy];exact .inl (.inr c)
 have a4:(gR a b Ls).length<=1048576:=by
  have:(gR a b Ls).length<=Ls.flatten.length:=by rw[e1];simp only[Xu];omega
  omega
 have N:∀p∈gR a b Ls,∃f cs,file D p.1.name=some f/\rW C f p.1 p.2 cs:=λp c=>h.core.on p (y p c);have hM:∀l∈M,iz l:=λl hl=>by
  obtain⟨p,c,rfl⟩:=XA.1 (s2.mem_iff.1 hl);obtain⟨f,cs,_,k⟩:=N p c;exact k.srt
 have a5:Pure.Ord M:=by
  have:=h.core.ord;rw[s1]at this;exact(X7.1 (X7.1 this).1).2.1
 obtain⟨R,hR,ar⟩:=u7 M.flatten (se hM a5);have v:R.Perm ((gR a b Ls).map (·.2)).flatten:=ar.trans s2.flatten;have b8:R.length<=E:=by
  have g:=v.length_eq;rw[lu]at g;rw[vd e1]at aq;omega
 have ai:∀e∈R,qm e/\bX e=e:=λe J=>by
  obtain⟨l,hl,a6⟩:=YZ.1 (v.mem_iff.1 J);obtain⟨p,c,rfl⟩:=XA.1 hl;obtain⟨f,cs,_,k⟩:=N p c;exact k.ents e a6
 have a7:GK C (file D) s.mem (.mg ⟨false,(kT s a b).map λT=>eF T [],[]⟩) R:=by
  show wX _ _ _ _ _;unfold wX;rw[Xx (by simp)];refine⟨rfl,?_,(gR a b Ls).map λp=>gX [] p.2,?_,?_⟩
  .rw[tB h.levels];simp only[XT];omega
  .rw[tB h.levels];show qw _ _ _ (((gR a b Ls).map (·.1)).map λT=>eF T []) _;rw[si];exact Cu [] _ N
  .have:((gR a b Ls).map λp=>gX [] p.2)=(gR a b Ls).map (·.2):=Y2 λp _=>Bb p.2;rw[this];exact v
 have a8:=wC h.snaps;obtain⟨x,D1,k1,z,k3⟩:=A6 (s:=s) (nx:=.mg ⟨false,(kT s a b).map λT=>eF T [],[]⟩) (bt:=o9 s b) h.core.ok hR a7 (by omega) (by have:=h.snaps;omega);unfold pa;rw[XE ⟨by rw[tB h.levels,XT,bC];omega,by
  rw[h.mem,bC];have:oD q0 bs []=[]:=by
   have a9:∀(bs:Xn (Xn cC)) (q:Nat) (m:Xn ay),total bs=0->oD q bs m=m:=by
    intro bs
    induction bs with
    | nil=>intro q m _;rfl
    | cons b r ih=>
     intro q m u;have g:total (b::r)=b.length+total r:=by simp[total]
     have d:b=[]:=XY (by omega);subst d;exact ih _ _ (by simpa using g.symm.trans u)
   exact a9 bs q0 [] ht
  rw[this];simp⟩,k1]
 rcases k3 with⟨e,rfl,k3⟩|rfl
 .exact⟨_,_,rfl,z.later,.inl ⟨e,rfl,.inl k3,_,Ls,bs,⟨h.core.files z.later.ok λm _=>z.file m,Zl _ _,by have:=h.grow z.later.ok (xs:=[]) λm H=>.inr (by rw[<- z.file];exact H);simp only[List.length_nil]at this;omega⟩,.inl ⟨rfl,rfl,gN.refl _ _⟩⟩⟩
 rw[MG h.levels];dsimp only[gk];have ba:=tw (aJ s) (wY b Ls) R;generalize hl:dC (aJ s) (wY b Ls) R=l at ba;have bc:iz l:=by rw[<- hl];exact ox hR
 have bd:∀e∈l,qm e:=λe J=>by rw[<- hl]at J;exact(ai e ((gW _ _ _).subset J)).1
 have bf:∀k,(pY k l).length<=5:=λk=>by rw[<- hl];exact Yh (Eh hR k) a8
 have bi:∀k,s.number<k->k<=s.number+l.length->file D1 (dv k)=none:=λk hk bm=>by rw[z.file];exact h.R5 hk (by omega)
 have b6:=h.moves;obtain⟨x,D2,p1,p2,p3,p4,p5,p6⟩:=u4 (K:=5) (by omega) (by omega) jJ s.number D1 l [] z.later.ok bc bd bf (by rw[bC];omega) (by omega) (by simp only[List.length_nil];omega) (by rw[z.moves];omega) (by rw[z.used];omega) bi;rw[p1];have t:∀m,(m=aM\/m=aQ\/m=s.log\/m∈bR Ls)->file D2 m=file D m:=λm H=>by
  rw[p5 m λk b9 bm J=>?_,z.file];subst J;rcases H with H|H|H|H
  .exact j9 k H
  .exact nD k H
  .obtain⟨j,_,d⟩:=h.core.log;have d:s.log=cJ j:=d;exact lq k j (H.trans d)
  .obtain⟨p,c,O⟩:=XA.1 H;obtain⟨i,hi,B⟩:=h.core.lv.names p c;have hi:i<=s.number:=hi;have:=fC (B.symm.trans O) (by omega) (by omega);omega
 have ab:∀m,file D2 m≠none->m∈Aj s.number l.length\/file D m≠none:=λm H=>by
  by_cases u:∃k,s.number<k/\k<=s.number+l.length/\m=dv k
  .obtain⟨k,g,d,rfl⟩:=u;exact .inl (Es g d)
  .rw[p5 m λk g d J=>u ⟨k,g,d,J⟩,z.file]at H;exact .inr H
 rcases p6 with⟨e,rfl,p6⟩|⟨num,ls,rfl,A⟩
 .refine⟨_,_,rfl,z.later.trans p2,.inl ⟨e,rfl,(p6.mono λh=>h.elim).before z.later,_,Ls,bs,⟨h.core.files p2.ok λm H=>t m ?_,Zl _ _,by have:=h.grow p2.ok ab;rw[mQ]at this;omega⟩,.inl ⟨rfl,rfl,gN.refl _ _⟩⟩⟩;rcases H with H|H|H
  .exact .inl H
  .exact .inr (.inr (.inl H))
  .exact .inr (.inr (.inr H))
 dsimp only;have ca:=A.cnt;have as:({ s with number:=num,levels:=s.levels.take a++List.replicate (b-a) []++([]++ls.map (·.1))::s.levels.drop (b+1) }:St)=jA s a b num Ls ls:=by
  unfold jA;rw[Kd,h.levels,List.nil_append]
 rw[as];subst hl;have P:∀D':ad,D'.Ok->file D' aM=some (aA (cz { jA s a b num Ls ls with seq:=q0 }))->(∀m,m≠aM->m ∉ (gR a b Ls).map (·.1.name)->m≠aQ->file D' m=file D2 m) ->
  RecM C D' { jA s a b num Ls ls with seq:=q0 } (iY a b Ls ls) bs E:=by
  intro D' bq bz al;have av:∀p∈ls,p.1.name ∉ (gR a b Ls).map (·.1.name)/\p.1.name≠aM/\p.1.name≠aQ:=λp c=>by
   obtain⟨k,n1,n2,n3⟩:=A.names p c;refine⟨λH=>?_,by rw[n3];exact j9 k,by rw[n3];exact nD k⟩;obtain⟨q,hq,am⟩:=XA.1 H;obtain⟨i,hi,B⟩:=h.core.lv.names q (y q hq);have hi:i<=s.number:=hi;have:=fC (n3.symm.trans (am.symm.trans B)) (by omega) (by omega);omega
  have b0:Kc 5 s.number num (dC (aJ s) (wY b Ls) R) ls (λ_=>some []) (file D'):=by
   refine⟨A.ents,A.cnt,A.names,A.nodup,λp c=>?_,A.sep,A.few,λm H=>.inl (by simp)⟩;obtain⟨f,cs,q1,q2⟩:=A.on p c;obtain⟨n1,n2,n3⟩:=av p c;exact⟨f,cs,by rw[al _ n2 n1 n3];exact q1,q2⟩
  refine GU h.core aa hR v b0 (by omega) bq bz λm H=>?_;rcases H with H|⟨H,b1⟩
  .obtain⟨j,_,d⟩:=h.core.log;have d:s.log=cJ j:=d;rw[al m (by rw[H,d];exact gY j) (λu=>?_) (by rw[H,d];exact mC j)]
   .exact t m (.inr (.inr (.inl H)))
   .obtain⟨p,c,O⟩:=XA.1 u;obtain⟨i,_,B⟩:=h.core.lv.names p (y p c);exact lq i j (B.symm.trans (O.trans (H.trans d)))
  .have g:m≠aM:=λu=>kF h.core.lv (by rw[<- u];exact H);have d:m≠aQ:=λu=>kG h.core.lv (by rw[<- u];exact H);rw[al m g b1 d];exact t m (.inr (.inr (.inr H)))
 have F:gN (aJ s) (gC Ls) (gC (iY a b Ls ls)):=by
  rw[s3 ls,s1];have ac:=A.ents;rw[rp λe J=>(ai e J).2]at ac;exact Er (by rw[<- s1];exact h.core.ord) hM hR ar s4 ac
 have af:({ jA s a b num Ls ls with seq:=q0 }:St)=jA s a b num Ls ls:=by unfold jA;rw[<- hq]
 rw[af]at P;have ag:tz num (iY a b Ls ls)/\(iY a b Ls ls).flatten.length<=1048576:=by
  obtain⟨n1,n2⟩:=Bc h.core aa hR v A (by omega);refine⟨n2,?_⟩;have b2:∀p∈(iY a b Ls ls).flatten,p.2≠[]:=λp c=>by
   rw[e2 ls]at c;simp only[Xy]at c;rcases c with(c|c)|c
   .obtain⟨f,cs,_,k⟩:=h.core.on p (by rw[e1];simp only[Xy];exact .inl (.inl c));exact k.some
   .obtain⟨f,cs,_,k⟩:=A.on p c;exact k.some
   .obtain⟨f,cs,_,k⟩:=h.core.on p (by rw[e1];simp only[Xy];exact .inr c);exact k.some
  have:=IE b2;omega
 have a0:file D2 aQ=none:=by rw[t _ (.inr (.inl rfl))];exact h.R6
 obtain⟨x,D3,c1,c2,c3⟩:=En (C:=C) (s:=jA s a b num Ls ls) (Ls:=iY a b Ls ls) rfl ag.1 ag.2 (by show num<=_;omega) (by show s.seq<=_;have:=h.core.seq;have h7:q0+total bs<=4611686018427387904:=this;omega) p2.ok a0 h.core.MB (by rw[z.moves]at p3;omega) (by rw[z.used]at p4;omega);have l2:=z.later.trans p2;rw[c1];rcases c3 with⟨rfl,c3,G⟩|⟨e,rfl,c3,G⟩
 .dsimp only;have ao:=P D3 c2.ok (by rw[G,XE rfl]) λm H _ _=>by rw[G,Xx H]
  have a1:((gR a b Ls).map (·.1.name)).Nodup:=by
   have L:=h.core.lv.nodup;unfold bR at L;rw[e1,XK,XK,Yc,Yc]at L;exact L.1.2.1
  have w:∀m∈(gR a b Ls).map (·.1.name),m∈bR Ls:=λm H=>by
   obtain⟨p,c,rfl⟩:=XA.1 H;exact XA.2 ⟨p,y p c,rfl⟩
  have a2:((kT s a b).map λT=>P5.remove T.name)=((gR a b Ls).map (·.1.name)).map .remove:=by
   rw[tB h.levels,Zv,Zv];rfl
  rw[a2];obtain⟨x,D4,r1,r2,r3,r4,r5⟩:=wz (C:=C) ((gR a b Ls).map (·.1.name)) c2.ok a1 (λn L=>by
   have b3:n≠aM:=λu=>kF h.core.lv (by rw[<- u];exact w n L);rw[G,Xx b3,t n (.inr (.inr (.inr (w n L))))];obtain⟨p,c,rfl⟩:=XA.1 L;obtain⟨f,cs,q1,_⟩:=N p c;rw[q1];simp) (by rw[XT];omega)
  rw[r1];rw[XT]at r3;have Q:∀m,yf (jA s a b num Ls ls) (iY a b Ls ls) m->m ∉ (gR a b Ls).map (·.1.name):=λm H u=>by
   rcases H with H|H|H
   .exact kF h.core.lv (by rw[<- H];exact w m u)
   .obtain⟨j,_,d⟩:=h.core.log;have d:s.log=cJ j:=d;have H:m=s.log:=H;exact jz h.core.lv j (by rw[<- d,<- H];exact w m u)
   .unfold bR at H;rw[e2 ls,XK,XK,Xy,Xy]at H;have L:=h.core.lv.nodup;unfold bR at L;rw[e1,XK,XK,Yc,Yc]at L;rcases H with(H|H)|H
    .exact L.1.2.2 m H m u rfl
    .obtain⟨p,c,O⟩:=XA.1 H;obtain⟨q,hq,am⟩:=XA.1 u;obtain⟨k,n1,n2,n3⟩:=A.names p c;obtain⟨i,hi,B⟩:=h.core.lv.names q (y q hq);have hi:i<=s.number:=hi;have:=fC (n3.symm.trans (O.trans (am.symm.trans B))) (by omega) (by omega);omega
    .exact L.2.2 m (Yl _ u) m H rfl
  have S:=ao.files r2.ok λm H=>r4 m (Q m H);have V:file D4 s.log=file D s.log:=by
   have hk:yf (jA s a b num Ls ls) (iY a b Ls ls) s.log:=.inr (.inl rfl);obtain⟨j,_,d⟩:=h.core.log;have d:s.log=cJ j:=d;rw[r4 _ (Q _ hk),G,Xx (by rw[d];exact gY j),t _ (.inr (.inr (.inl rfl)))]
  rcases r5 with⟨rfl,r5⟩|⟨e,rfl,r5⟩
  .refine⟨_,_,rfl,(l2.trans c2).trans r2,.inr ⟨_,iY a b Ls ls,rfl,⟨by rw[af];exact S,h.mem,h.seq,?_,?_,?_,h.snaps⟩,F,⟨rfl,rfl,rfl,rfl⟩,⟨rfl,V⟩,by show num<=_;omega,R,ls,hR,v,rfl,?_,λp c=>A.few p c⟩⟩
   .have hk:yf (jA s a b num Ls ls) (iY a b Ls ls) s.log:=.inr (.inl rfl);obtain⟨j,_,d⟩:=h.core.log;have d:s.log=cJ j:=d;show∃ b7,file D4 s.log=_/\_;rw[V];exact h.logf
   .intro m H;show m=aM\/m=s.log\/_;by_cases I:m∈(gR a b Ls).map (·.1.name)
    .exact XG (r5 m I) H
    rw[r4 m I,G]at H;by_cases o:m=aM
    .exact .inl o
    rw[Xx o]at H;rcases A.known m H with g|g
    .rw[z.file]at g;rcases h.known m g with g|g|g
     .exact XG g o
     .exact .inr (.inl g)
     .refine .inr (.inr ?_);unfold bR at g |-;rw[e1,XK,XK,Xy,Xy]at g;rw[e2 ls,XK,XK,Xy,Xy];rcases g with(g|g)|g
      .exact .inl (.inl g)
      .exact XG g I
      .exact .inr g
    .refine .inr (.inr ?_);unfold bR;rw[e2 ls,XK,XK,Xy,Xy];exact .inl (.inr g)
   .omega
   .have ac:=A.ents;rwa[rp λe J=>(ai e J).2]at ac
  .have Z:=h.grow r2.ok (xs:=Aj s.number (dC (aJ s) (wY b Ls) R).length) λm H=>by
    by_cases o:m=aM
    .rw[o];exact .inr (by have ap:file D aM=some (aA (cz { s with seq:=q0 })):=h.core.state;rw[ap];simp)
    by_cases I:m∈(gR a b Ls).map (·.1.name)
    .obtain⟨p,c,rfl⟩:=XA.1 I;obtain⟨f,cs,q1,_⟩:=N p c;exact .inr (by rw[q1];simp)
    .rw[r4 m I,G,Xx o]at H;exact ab m H
   rw[mQ]at Z;exact⟨_,_,rfl,(l2.trans c2).trans r2,.inl ⟨e,rfl,r5.before (l2.trans c2),_,_,bs,⟨S,by show num<=_;omega,by omega⟩,.inl ⟨hq,rfl,F⟩⟩⟩
 .refine⟨_,_,rfl,l2.trans c2,.inl ⟨e,rfl,c3.before l2,?_⟩⟩;rcases G with G|G
  .have Z:=h.grow c2.ok (xs:=aQ::Aj s.number (dC (aJ s) (wY b Ls) R).length) λm H=>by
    by_cases o:m=aQ
    .rw[o];exact .inl XC
    .rw[G m o]at H;rcases ab m H with H|H
     .exact .inl (XQ _ H)
     .exact .inr H
   rw[X5,mQ]at Z;refine⟨_,Ls,bs,⟨h.core.files c2.ok λm H=>?_,Zl _ _,by omega⟩,.inl ⟨rfl,rfl,gN.refl _ _⟩⟩;have g:m≠aQ:=λu=>by
    rcases H with H|H|H
    .exact lN (u.symm.trans H)
    .obtain⟨j,_,d⟩:=h.core.log;have d:s.log=cJ j:=d;have H:m=s.log:=H;exact mC j (d.symm.trans (H.symm.trans u))
    .exact kG h.core.lv (by rw[<- u];exact H)
   rw[G m g];refine t m ?_;rcases H with H|H|H
   .exact .inl H
   .exact .inr (.inr (.inl H))
   .exact .inr (.inr (.inr H))
  .have Z:=h.grow c2.ok (xs:=Aj s.number (dC (aJ s) (wY b Ls) R).length) λm H=>by
    by_cases o:m=aM
    .rw[o];exact .inr (by have ap:file D aM=some (aA (cz { s with seq:=q0 })):=h.core.state;rw[ap];simp)
    .rw[G,Xx o]at H;exact ab m H
   rw[mQ]at Z;exact⟨_,_,bs,⟨P D3 c2.ok (by rw[G,XE rfl]) λm H _ _=>by rw[G,Xx H],by show num<=_;omega,by omega⟩,.inl ⟨hq,rfl,F⟩⟩
end
def Alike.refl(s:St):Alike s s:=⟨rfl,rfl,rfl,rfl⟩
variable {a b:St}
def Alike.trans {c:St} (h:Alike a b) (k:Alike b c):Alike a c:=⟨k.mem.trans h.mem,k.seq.trans h.seq,k.snaps.trans h.snaps,k.snap.trans h.snap⟩
def Alike.Qp (h:Alike a b):aJ b=aJ a:=by unfold aJ;rw[h.snaps]
def gN.cons{M:Xn Nat}{A B:Xn (Xn ay)}(h:gN M A B)(m:Xn ay):gN M (m::A) (m::B):=λk H x=>by
 rw[dD,dD];exact Cv (h k H x)
section
variable{C:Prop}{s:St}{D:ad}{q0:Nat}{Ls:jy}{bs:Xn (Xn cC)}{E:Nat}
def After.bind{N N2:Nat}{g:jy->Prop}{sh2:jy->Prop}{X:YH eX St}{i:ad}{f:St->ad->Out St}(h1:After C s D q0 Ls bs E N g X i)
 (k:∀S l,X=.ok S->nE C S i q0 l bs E->gN (aJ s) (gC Ls) (gC l)->Alike s S->S.number<=s.number+N->g l->∃x D',f S i=some (x,D')/\After C S i q0 l bs E N2 sh2 x D') :
 ∃x D',gk (some (X,i)) f=some (x,D')/\After C s D q0 Ls bs E (N+N2) sh2 x D':=by
 have⟨o,h1⟩:=h1;rcases h1 with⟨e,rfl,p,h⟩|⟨S,l,rfl,p,h,H,y,q,r⟩
 .have⟨c,L,B,h,H⟩:=h;exact⟨_,_,rfl,o,.inl ⟨e,rfl,p,c,L,B,⟨h.1,h.2.more (by omega) (by grind)⟩,H⟩⟩
 .have⟨x,D',t,u,d⟩:=k S l rfl p h H q r;refine⟨x,D',t,o.trans u,?_⟩;rw[H.Qp]at d;rcases d with⟨e,rfl,d,c,L,B,m,K⟩|⟨v,L,rfl,d,m,K,n,j,w⟩
  .refine .inl ⟨e,rfl,d.before o,c,L,B,⟨m.1,m.2.more (by omega) (by grind)⟩,?_⟩;rcases K with⟨K,n,j⟩|⟨K,n,j⟩
   .exact .inl ⟨K,n,h.trans j⟩
   .refine .inr ⟨by rw[K,H.seq],n,?_⟩;rw[H.mem]at j;exact(h.cons s.mem).trans j
  .exact .inr ⟨v,L,rfl,d,h.trans m,H.trans K,by grind,by omega,w⟩
variable {sh:jy->Prop}
def After.none (h:nE C s D q0 Ls bs E) (H:sh Ls):After C s D q0 Ls bs E 0 sh (.ok s) D:=
 ⟨dU.refl h.core.ok,.inr ⟨s,Ls,rfl,h,gN.refl _ _,Alike.refl s,by grind,by omega,H⟩⟩
def After.more {N n:Nat} {S:jy->Prop} {x:YH eX St} {D':ad} (h:After C s D q0 Ls bs E N sh x D') (j:N<=n) (k:∀L,sh L->S L):After C s D q0 Ls bs E n S x D':=by
 have⟨l,h⟩:=h;refine⟨l,?_⟩;rcases h with⟨e,f,g,c,d,B,H,i⟩|⟨m,d,f,g,H,i,o,p,q⟩
 .exact .inl ⟨e,f,g,c,d,B,⟨H.1,H.2.more (by omega) (by grind)⟩,i⟩
 grind
def GV(h:s.levels=dh Ls)(i:Nat):(s.levels.getD i []).length=(Ls.getD i []).length:=by
 rw[h];unfold dh
 grind
structure nF(o:pX)(Ls:jy):Prop where
 l0:(Ls.getD 0 []).length<o.tables
 l1:(Ls.getD 1 []).length<=o.tables
 l2:(Ls.getD 2 []).length<=o.tables
def yj{o:pX}(ho:1<=o.tables)(h:nE C s D q0 Ls bs E)(u:total bs=0)(v:E<=1048576)(w:bs.length<=16777216)(y:s.number+3*E<=4611686018427387904) :
 ∃x D',pd o s D=some (x,D')/\After C s D q0 Ls bs E (3*E) (nF o) x D':=by
 have uQ:∃x D',(if o.tables<=(s.levels.getD 0 []).length then pa s D 0 1 else some (.ok s,D))=some (x,D')/\After C s D q0 Ls bs E E (λL=>(L.getD 0 []).length<o.tables) x D':=by
  by_cases c:o.tables<=(s.levels.getD 0 []).length
  .rw[XE c];obtain⟨x,D',k,K⟩:=Bd h u (.inl ⟨rfl,.inl rfl⟩) v w (by omega);refine⟨x,D',k,K.more (XD _) λL g=>?_⟩;obtain⟨R,l,_,_,rfl,_⟩:=g;simp[iY];omega
  .rw[Xx c];exact⟨_,_,rfl,(After.none h (by rw[<- GV h.levels];omega)).more (XR _) λ_ h=>h⟩
 have S:∀(i:Nat) (s:St) (D:ad) (Ls:jy) (P:jy->Prop),Ep i (i+1)->i≠0->nE C s D q0 Ls bs E->s.number+E<=4611686018427387904->P Ls->(∀l,P Ls->P (iY i (i+1) Ls l)) ->
  ∃x D',IA o i s D=some (x,D')/\After C s D q0 Ls bs E E (λL=>P L/\(L.getD i []).length<=o.tables) x D':=by
  intro i s D Ls P z O h Q A j;unfold IA;by_cases c:o.tables<(s.levels.getD i []).length
  .rw[XE c];obtain⟨x,D',k,K⟩:=Bd h u z v w Q;refine⟨x,D',k,K.more (XD _) λL g=>?_⟩;obtain⟨R,l,_,_,rfl,_⟩:=g;refine⟨j l A,?_⟩;obtain⟨L0,B,F,G,rfl⟩:=eK h.core.lv.len;rcases z with⟨rfl,_⟩|⟨rfl,_⟩|⟨rfl,_⟩
   .omega
   .simp[iY]
   .simp[iY,List.replicate]
  .rw[Xx c];exact⟨_,_,rfl,(After.none h ⟨A,by rw[<- GV h.levels];omega⟩).more (XR _) λ_ h=>h⟩
 obtain⟨x1,I,T,U⟩:=uQ;unfold pd;rw[T];obtain⟨x,D',V,W⟩:=U.bind (N2:=2*E) (sh2:=nF o) λJ m _ d _ X Y n=>by
  obtain⟨x2,M,Z,c2⟩:=S 1 J I m (λL=>(L.getD 0 []).length<o.tables) (.inr (.inl ⟨rfl,rfl⟩)) (by omega) d (by omega) n (λl p=>by
   obtain⟨L0,B,F,G,rfl⟩:=eK d.core.lv.len;simpa[iY,List.replicate]using p)
  show∃ x D',kE o 2 1 J I=some (x,D')/\_;rw[kE,Z];obtain⟨x,D',d1,d2⟩:=c2.bind (N2:=E) (sh2:=nF o) λN q _ e _ aa ab r=>by
   obtain⟨x3,D3,e1,e2⟩:=S 2 N M q (λL=>(L.getD 0 []).length<o.tables/\(L.getD 1 []).length<=o.tables) (.inr (.inr ⟨rfl,rfl⟩)) (by omega) e (by omega) r (λl p=>by
    obtain⟨L0,B,F,G,rfl⟩:=eK e.core.lv.len;simpa[iY,List.replicate]using p)
   show∃ x D',kE o 1 2 N M=some (x,D')/\_;rw[kE,e1];obtain⟨x,D',f1,f2⟩:=e2.bind (f:=λs D=>kE o 0 3 s D) (sh2:=nF o) λs3 ac _ t _ _ _ H=>
    ⟨_,_,rfl,After.none t ⟨H.1.1,H.1.2,H.2⟩⟩
   grind
  grind
 exact⟨x,D',V,W.more (by omega) λ_ h=>h⟩
end
def yk:∀(b:Xn cC) (q:Nat),(∀c∈b,c.key.length<=8/\c.key≠[])->(∀c∈b,c.del=false->c.val.length<=16)->q+b.length<18446744073709551616->∀e∈bB q b,qm e/\e.key≠[]
 | [],_,_,_,_,e,h=>by cases h
 | c::r,q,H,d,f,e,h=>by
  simp at f;rcases XW.1 h with rfl|h
  .exact⟨⟨(H c XC).1,d c XC,by show q+1<_;omega,(H c XC).2⟩,(H c XC).2⟩
  .exact yk r _ (λx g=>H x (by grind)) (λx g=>d x (by grind)) (by omega) e h
def MJ(b:Xn ay):∀l:Xn ay,(b.foldl gq l).length=l.length+b.length:=by
 induction b with
 | nil=>intro l;simp
 | cons e r i=>intro l;rw[YI,i,ny];simp;omega
def GW:∀(b:Xn cC) (q:Nat),(bB q b).length=b.length
 | [],_=>rfl
 | c::r,q=>by simp
structure Et(q q':Nat)(m:Xn ay):Prop where
 srt:iz m
 seq:∀x∈m,q<x.seq/\x.seq<=q'
 ents:∀x∈m,qm x/\x.key≠[]
def Eu:∀(bs:Xn (Xn cC)) (Q q:Nat) (m:Xn ay),(∀b∈bs,SB b)->Q<=q->Et Q q m->q+total bs<=4611686018427387904->Et Q (q+total bs) (oD q bs m)/\(oD q bs m).length=m.length+total bs
 | [],Q,q,m,_,_,h,_=>⟨by simpa[total,oD]using h,rfl⟩
 | b::r,Q,q,m,d,g,h,i=>by
  have e:total (b::r)=b.length+total r:=rfl;have c:=d b XC;have f:Et Q (q+b.length) ((bB q b).foldl gq m):=by
   refine⟨DU b h.srt λx H=>(h.seq x H).2,λx H=>?_,λx H=>?_⟩
   .rcases(xO _).1 H with H|H
    .have:=xN b q x H;omega
    .have:=h.seq x H;omega
   .rcases(xO _).1 H with H|H
    .exact yk b q c.key c.val (by omega) x H
    .exact h.ents x H
  have⟨k,K⟩:=Eu r Q _ _ (λx H=>d x (by grind)) (by omega) f (by omega);rw[e,<- Y6];refine⟨k,?_⟩;show(oD _ r _).length=_;rw[K,MJ,GW];omega
def Ke(q:Nat):Et q q []:=⟨by simp,by simp,by simp⟩
section
variable{C:Prop}{s:St}{D:ad}{q0:Nat}{Ls:jy}{bs:Xn (Xn cC)}{E:Nat}
def nE.Be(h:nE C s D q0 Ls bs E):Et q0 s.seq s.mem/\s.mem.length=total bs:=by
 have⟨H,c⟩:=Eu bs q0 q0 [] h.core.bsok (by grind) (Ke q0) h.core.seq;rw[h.mem,h.seq];exact⟨H,by grind⟩
def MK{l:Xn ay}(h:l∈gC Ls)(H:Ls.length=4):∃p∈Ls.flatten,l=p.2:=by
 obtain⟨L0,L,c,d,rfl⟩:=eK H;obtain⟨p,e,rfl⟩:=XA.1 h
 grind
def nE.ord(h:nE C s D q0 Ls bs E):Pure.Ord (s.mem::gC Ls):=by
 refine X1.2 ⟨λl c x d y e _=>?_,h.core.ord⟩;obtain⟨p,f,rfl⟩:=MK c h.core.lv.len;have H:=h.core.seqs p f y e;have H:y.seq<=q0:=H;have g:=(h.Be.1.seq x d).1;omega
def lO(Ls:jy)(l:Xn (dB×Xn ay)):jy:=(Ls.getD 0 []++l)::Ls.drop 1
def Ev(Ls:jy)(l:Xn (dB×Xn ay))(h:Ls.length=4):gC (lO Ls l)=l.reverse.map (·.2)++gC Ls:=by
 obtain⟨L0,L,c,d,rfl⟩:=eK h;simp[gC,lO]
def rr(Ls:jy)(l:Xn (dB×Xn ay))(h:Ls.length=4):∃X Y,Ls.flatten=X++Y/\(lO Ls l).flatten=X++l++Y:=by
 obtain⟨L0,L,c,d,rfl⟩:=eK h;exact⟨L0,L++c++d,by simp,by simp[lO]⟩
theorem ML(l:List ay)(k:Bs)(m:Nat):jL (l.map bX) k m=(jL l k m).map bX:=by
 unfold jL;have:((fun e:ay=>decide (e.key=k)&&decide (e.seq<=m)) ∘ bX)=fun e=>decide (e.key=k)&&decide (e.seq<=m):=by funext e;simp
 grind
def Kf(x S:XB ay):ik ((x.map bX).or S)=ik (x.or S):=by
 cases x with
 | none=>rfl
 | some e=>
  show ik (some _)=ik (some e);unfold ik;dsimp only;rw[AP];cases h:e.del with
  | true=>rfl
  | false=>simp[bX,h]
def GX{M:Xn Nat}{m:Xn ay}{S:Xn (Xn ay)}{L:Xn (dB×Xn ay)}(hm:iz m)(h:L.Pairwise λa b=>Ah a.2 b.2)(hl:∀p∈L,iz p.2)(f:(L.map (·.2)).flatten=(dC M false m).map bX) :
 gN M (m::S) (L.reverse.map (·.2)++S):=by
 intro q g k;have i:iz ((dC M false m).map bX):=Ee (ox hm);have e:((dC M false m).map bX).Perm (L.reverse.map (·.2)).flatten:=by
  rw[<- f];exact((List.reverse_perm L).symm.map _).flatten
 have H:Pure.Ord (L.reverse.map (·.2)):=by
  refine ZI.2 (aby.2 (h.imp λ{a b} c x j y n o=>?_));have:=c y n x j;rw[o,aP]at this;cases this
 have:=yh i (λl d=>by
  obtain⟨p,e,rfl⟩:=XA.1 d;exact hl p (by grind)) H e k q
 rw[lM,<- this,dD,ML,Kf,DS hm g]
