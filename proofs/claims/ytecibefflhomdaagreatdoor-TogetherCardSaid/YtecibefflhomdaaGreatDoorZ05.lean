/-
  Part 5: ; ; .
-/
import Derived.Test.YtecibefflhomdaaGreatDoorZ04
set_option maxHeartbeats 8000000
set_option maxRecDepth 100000
set_option linter.all false
namespace Go.Proofs.YtecibefflhomdaaGreatDoor
open Go
section
open Pure
abbrev jy:=Xn (Xn (dB×Xn ay))
def dh(Ls:jy):Xn (Xn dB):=Ls.map (·.map (·.1))
def bR(Ls:jy):Xn Bs:=Ls.flatten.map (·.1.name)
def cnt(Ls:jy):Nat:=(Ls.flatten.map (·.2.length)).sum
def gC(Ls:jy):Xn (Xn ay):=((Ls.getD 0 []).reverse++(Ls.drop 1).flatten).map (·.2)
structure tz(num:Nat)(Ls:jy):Prop where
 len:Ls.length=4
 names:∀p∈Ls.flatten,∃k,k<=num/\p.1.name=dv k
 nodup:(bR Ls).Nodup
 sep:∀i L,1<=i->Ls[i]?=some L->L.Pairwise λa b=>Ah a.2 b.2
def VV(C:Prop)(fl:Bs->XB Bs)(Ls:jy):Prop:=∀p∈Ls.flatten,∃f c,fl p.1.name=some f/\rW C f p.1 p.2 c
def dw:Nat->Xn (Xn cC)->Bs
 | _,[]=>[]
 | q,b::r=>aA (tu q b)++dw (q+b.length) r
def total(bs:Xn (Xn cC)):Nat:=(bs.map List.length).sum
def oD:Nat->Xn (Xn cC)->Xn ay->Xn ay
 | _,[],m=>m
 | q,b::r,m=>oD (q+b.length) r ((bB q b).foldl gq m)
structure SB(b:Xn cC):Prop where
 len:b.length<=8
 key:∀c∈b,c.key.length<=8/\c.key≠[]
 val:∀c∈b,c.del=false->c.val.length<=16
structure RecM(C:Prop)(D:ad)(c:St)(Ls:jy)(bs:Xn (Xn cC))(E:Nat):Prop where
 ok:D.Ok
 levels:c.levels=dh Ls
 state:file D aM=some (aA (cz c))
 num:c.number<=4611686018427387904
 seq:c.seq+total bs<=4611686018427387904
 cntE:cnt Ls+total bs<=E
 lv:tz c.number Ls
 on:VV C (file D) Ls
 seqs:∀p∈Ls.flatten,∀e∈p.2,e.seq<=c.seq
 ord:Ord (gC Ls)
 log:∃k,k<=c.number/\c.log=cJ k
 logf:∃junk,file D c.log=some (dw c.seq bs++junk)/\bF junk=none
 bsok:∀b∈bs,SB b
def yf(c:St)(Ls:jy)(m:Bs):Prop:=m=aM\/m=c.log\/m∈bR Ls
variable {C:Prop} {D D':ad} {Ls:jy} {bs:Xn (Xn cC)} {E:Nat}
def RecM.files {c:St} (h:RecM C D c Ls bs E) (e:D'.Ok) (H:∀m,yf c Ls m->file D' m=file D m):RecM C D' c Ls bs E:=
 ⟨e,h.levels,by rw[H _ (.inl rfl)];exact h.state,h.num,h.seq,h.cntE,h.lv,λp d=>by
   have⟨f,g,a,b⟩:=h.on p d;exact⟨f,g,by rw[H _ (.inr (.inr (XA.2 ⟨p,d,rfl⟩)))];exact a,b⟩,h.seqs,h.ord,h.log,by
   have⟨j,a,b⟩:=h.logf;exact⟨j,by rw[H _ (.inr (.inl rfl))];exact a,b⟩,h.bsok⟩
def IE (h:∀p∈Ls.flatten,p.2≠[]):Ls.flatten.length<=cnt Ls:=by
 unfold cnt;have k:∀l:Xn (dB×Xn ay),(∀p∈l,p.2≠[])->l.length<=(l.map (·.2.length)).sum:=by
  intro l
  induction l with
  | nil=>intro _;simp
  | cons p r i=>
   intro H;have a:=Yi.2 (H p XC)
   grind
 grind
variable {fl:Bs->XB Bs}
def yg (h:VV C fl Ls):Ls.flatten.length<=cnt Ls:=
 IE λp H=>by obtain⟨_,_,_,a⟩:=h p H;exact a.some
def Ek:∀(f n:Nat),lX f n<=f+1
 | 0,_=>by simp[lX]
 | f+1,n=>by unfold lX;have:=Ek f (n / 10);split<;>omega
def IG(n:Nat):(dec n).length<=21:=by unfold dec;rw[Is];exact Ek 20 n
def GQ(n:Nat):(dv n).length<=26:=by unfold dv;have:=IG n;simp;omega
def El(n:Nat):(cJ n).length<=24:=by unfold cJ;have:=IG n;simp;omega
def A8:∀(L:Xn (Xn dB)) (i:Nat),(∀l∈L,∀T∈l,T.name.length<=26)->(fe i L).length<=28*L.flatten.length
 | [],_,_=>by simp[fe]
 | l::r,i,h=>by
  have H:=A8 r (i+1) λx b=>h x (by grind);have k:∀l:Xn dB,(∀T∈l,T.name.length<=26)->(l.map λT=>UInt8.ofNat i::aX T.name).flatten.length<=28*l.length:=by
   intro l
   induction l with
   | nil=>intro _;simp
   | cons T r I=>
    intro a;have H:=I λx b=>a x (by grind);have c:=a T XC;simp at H |-;omega
  have c:=k l (by grind);simp only[fe,Xu,Yd];omega
def u5(Ls:jy):(dh Ls).flatten=Ls.flatten.map (·.1):=by unfold dh;rw[abd]
variable {num:Nat}
def A9 (h:tz num Ls):∀l∈dh Ls,∀T∈l,T.name.length<=26:=by
 intro l H T a;have:T∈(dh Ls).flatten:=YZ.2 ⟨l,H,a⟩;rw[u5]at this;obtain⟨p,b,rfl⟩:=XA.1 this;have⟨k,_,c⟩:=h.names p b;rw[c];exact GQ k
variable {s:St}
def u6 (hl:s.levels=dh Ls) (h:tz num Ls) (H:s.log.length<=24):(cz s).length<=41+28*Ls.flatten.length:=by
 have a:=A8 _ 0 (A9 h);rw[u5,XT]at a;rw[cz,hl];simp only[Xu,aI,dP];omega
def Em (hl:s.levels=dh Ls) (h:tz num Ls) (b:s.log.length<=24) (d:s.number<=4611686018427387904) (f:s.seq<=4611686018427387904) (g:Ls.flatten.length<=1048576):wq s=true:=by
 simp[wq];refine⟨by grind,λl H=>?_⟩;rw[hl]at H;have a:l.length<=(dh Ls).flatten.length:=by
  have⟨A,B,e⟩:=List.append_of_mem H
  grind
 rw[u5,XT]at a;exact⟨by omega,λT c=>by have:=A9 h l H T c;omega⟩
def pj {n:Bs} (hm:D.moves.length<=1099511627776):eJ D (.create n)=some (iu D n,cI D n):=by
 unfold eJ;dsimp only;rw[XE (by rw[bC];exact hm)]
def tA {a b:Bs} (hm:D.moves.length<=1099511627776):eJ D (.rename a b)=some (aY D a,gU D a b):=by
 unfold eJ;dsimp only;rw[XE (by rw[bC];exact hm)]
def mh {a:Bs} (hm:D.moves.length<=1099511627776):eJ D (.remove a)=some (aY D a,fX D a):=by
 unfold eJ;dsimp only;rw[XE (by rw[bC];exact hm)]
variable {o:P5} {r:Xn P5}
def eQ {e:eX} (h:eJ D o=some (some e,D')):eY (o::r) D=some (some e,D'):=by rw[eY,h]
def fD (h:eJ D o=some (none,D')):eY (o::r) D=eY r D':=by rw[eY,h]
def wv {old:XB Bs} (I:D.Ok) (J:file D aQ=none) (hm:D.moves.length<=549755813888) (n:∀o,old=some o->o≠aM/\o≠aQ/\∃b,file D o=some b) (M:D.used+(aA (cz s)).length<=1099511627776):
 ∃x D',eY (sG s old) D=some (x,D')/\dU D D' /\
  ((x=none/\D'.moves.length<=1/\(∀m,file D' m=if m=aM then some (aA (cz s))else if old=some m then none else file D m)) \/
   ∃e,x=some e/\A7 C D e/\((∀m,m≠aQ->file D' m=file D m)\/∀m,file D' m=if m=aM then some (aA (cz s))else file D m)):=by
 unfold sG;simp only[List.cons_append,List.nil_append];cases z:iu D aQ with
 | some e=>
  obtain⟨K,k⟩:=sK I z;have S:=eZ.tick I;rw[eQ (by rw[pj (by omega),z])];refine⟨_,_,rfl,by rw[K];exact S.later,.inr ⟨e,rfl,?_,.inl λm _=>by rw[K];exact S.file m⟩⟩;rcases k with k|⟨_,k⟩
  .exact .of k
  grind
 | none=>
  obtain⟨_,A,c3,d,W⟩:=uS I z;rw[fD (by rw[pj (by omega),z])];have g:file (cI D aQ) aQ=some []:=by rw[A,XE rfl]
  generalize cI D aQ=p at A c3 d W g;cases B:dT p aQ (aA (cz s))with
  | some e=>
   obtain⟨K,k⟩:=sL d.ok B g;have S:=eZ.tick d.ok;rw[eQ (e:=e) (D':=bG p aQ (aA (cz s))) (by unfold eJ;dsimp only;rw[B])];refine⟨_,_,rfl,by rw[K];exact d.trans S.later,.inr ⟨e,rfl,?_,.inl λm hm=>by rw[K,S.file,A,Xx hm]⟩⟩;rcases k with k|⟨k,k3⟩
   .exact .of (k.before d)
   .refine .inr ⟨k,?_⟩;rw[<- d.room];omega
  | none=>
   obtain⟨b,X,F,a3,N,a5,a6⟩:=uT d.ok B;rw[g]at X;cases X;rw[List.nil_append]at F;rw[fD (D':=bG p aQ (aA (cz s))) (by unfold eJ;dsimp only;rw[B])];have i:file (bG p aQ (aA (cz s))) aQ=some (aA (cz s)):=by rw[F,XE rfl]
   have O:=d.trans N;generalize bG p aQ (aA (cz s))=j at F a3 N a5 i O;obtain⟨P,y2,Y,y4⟩:=xU N.ok aQ;have H:∀m,m≠aQ->file (je j aQ) m=file D m:=λm hm=>by rw[P,F,Xx hm,A,Xx hm]
   have L:=O.trans Y;rcases ln i with Q|⟨e,Q,c⟩
   .rw[fD (D':=je j aQ) (by unfold eJ;dsimp only;rw[Q])];have q:file (je j aQ) aQ=some (aA (cz s)):=by rw[P];exact i
    have t:(je j aQ).moves.length<=549755813889:=by rw[y4,a5,W];omega
    generalize je j aQ=G at P y2 Y y4 H L q t;rcases ln q with u|⟨e,u,c⟩
    .obtain⟨r1,r2,R,r4⟩:=J1 Y.ok lN u;rw[fD (D':=gU G aQ aM) (by rw[tA (by omega),u])];have f:∀m,file (gU G aQ aM) m=if m=aM then some (aA (cz s))else file D m:=by
      intro m;rw[r1];by_cases T:m=aQ
      .subst T;rw[XE rfl,Xx lN,J]
      grind
     have U:=L.trans R;generalize gU G aQ aM=v at r1 r2 R r4 f U;obtain⟨z1,z2,Z,z4,z5⟩:=D8 R.ok;have h:∀m,file (fw v) m=if m=aM then some (aA (cz s))else file D m:=λm=>by rw[z1];exact f m
     have l:=U.trans Z;cases c:v.eg with
     | true=>
      rw[eQ (e:=(some [],8)) (D':=fw v) (by unfold eJ;dsimp only;rw[c];rfl)];refine⟨_,_,rfl,l,.inr ⟨_,rfl,.of ⟨rfl,Int.lt_of_lt_of_le (uR c) U.bad⟩,.inr h⟩⟩
     | false=>
      rw[fD (D':=fw v) (by unfold eJ;dsimp only;rw[c];rfl)];have a:=z5 c;generalize fw v=w at z1 z2 Z z4 z5 h l a;cases old with
      | none=>
       refine⟨none,w,rfl,l,.inl ⟨rfl,by rw[a];simp,λm=>?_⟩⟩;rw[h];simp
      | some o=>
       obtain⟨o1,o2,b,o3⟩:=n o rfl;have V:file w o=some b:=by rw[h,Xx o1];exact o3
       dsimp only;rcases ln V with y|⟨e,y,c⟩
       .obtain⟨v1,v2,v3,v4⟩:=A1 Z.ok y;rw[fD (D':=fX w o) (by rw[mh (by rw[a];simp),y])];refine⟨none,fX w o,rfl,l.trans v3,.inl ⟨rfl,by rw[v4,a];simp,λm=>?_⟩⟩
        grind
       .rw[eQ (e:=e) (D':=fX w o) (by rw[mh (by rw[a];simp),y])];have S:=eZ.tick Z.ok;rw[xV y];exact⟨_,_,rfl,l.trans S.later,.inr ⟨e,rfl,.of (c.before l),.inr λm=>by rw[S.file];exact h m⟩⟩
    .rw[eQ (e:=e) (D':=gU G aQ aM) (by rw[tA (by omega),u])];have S:=eZ.tick Y.ok;rw[GF u];exact⟨_,_,rfl,L.trans S.later,.inr ⟨e,rfl,.of (c.before L),.inl λm hm=>by rw[S.file];exact H m hm⟩⟩
   .rw[eQ (e:=e) (D':=je j aQ) (by unfold eJ;dsimp only;rw[Q])];exact⟨_,_,rfl,L,.inr ⟨e,rfl,.of (c.before O),.inl H⟩⟩
def wx:∀(bs:Xn (Xn cC)) (q:Nat),(∀b∈bs,SB b)->q+total bs<=4611686018427387904->(dw q bs).length<=20*bs.length+34*total bs
 | [],_,_,_=>by simp[dw]
 | b::r,q,h,m=>by
  have f:total (b::r)=b.length+total r:=rfl;have n:=wx r (q+b.length) (λx H=>h x (by grind)) (by omega);have a:=h b XC;have k:∀(l:Xn cC) (q:Nat),(∀c∈l,c.key.length<=8/\c.key≠[])->(∀c∈l,c.del=false->c.val.length<=16)->q+l.length<=4611686018427387904->((bB q l).map dz).flatten.length<=34*l.length:=by
   intro l
   induction l with
   | nil=>intro q _ _ _;simp[bB]
   | cons c r i=>
    intro q K d g;simp at g;have j:=i (q+1) (λx H=>K x (by grind)) (λx H=>d x (by grind)) (by omega);have p:=Iw (e:=kD c _) ⟨(K c XC).1,d c XC,by show q+1<_;omega,(K c XC).2⟩;simp only[bB,XP,Yd,Xu,X5];omega
  have j:=k b q a.key a.val (by omega);simp only[dw,Xu,dM,tu,aI,X5];omega
def GR (h:D.Ok) {ns:Xn Bs} (f:∀m,file D m≠none->m∈ns):D.used<=(ns.map λn=>(fileOf D n).length).sum:=by
 have k:∀(l:Xn (Bs×Nat)) (ns:Xn Bs),(l.map (·.1)).Nodup->(∀p∈l,p.1∈ns)->(∀p∈l,aB D.now p.1=some p.2)->(l.map λp=>(D.aG p.2).length).sum<=(ns.map λn=>(fileOf D n).length).sum:=by
  intro l
  induction l with
  | nil=>intro ns _ _ _;simp
  | cons p r i=>
   intro ns b c d;rw[XP,ZF]at b;have⟨A,B,e⟩:=List.append_of_mem (c p XC);have j:=i (A++B) b.2 (λx g=>by
    have H:=c x (by grind);rw[e]at H;rcases Xy.1 H with H|H
    .grind
    .rcases XW.1 H with H|H
     .grind
     .exact Yl _ H) λx g=>d x (by grind)
   have H:(fileOf D p.1).length=(D.aG p.2).length:=by unfold fileOf;rw[d p XC]
   grind
 refine k D.now ns h.names (λp a=>f _ ?_) λp a=>gz h.names a;rw[file,gz h.names a];simp
structure nE(C:Prop)(s:St)(D:ad)(q0:Nat)(Ls:jy)(bs:Xn (Xn cC))(E:Nat):Prop where
 core:RecM C D { s with seq:=q0 } Ls bs E
 mem:s.mem=oD q0 bs []
 seq:s.seq=q0+total bs
 logf:∃junk,file D s.log=some (dw q0 bs++junk)/\junk.length<=1073741824
 known:∀m,file D m≠none->m=aM\/m=s.log\/m∈bR Ls
 moves:D.moves.length<=2097152
 snaps:s.snaps.length<=4
section
variable{C:Prop}{s:St}{D:ad}{q0:Nat}{Ls:jy}{bs:Xn (Xn cC)}{E:Nat}
def nE.levels(h:nE C s D q0 Ls bs E):s.levels=dh Ls:=h.core.levels
def VV.size{fl:Bs->XB Bs}(h:VV C fl Ls)(H:∀n,fileOf D n=(fl n).getD []):((bR Ls).map λn=>(fileOf D n).length).sum<=130*cnt Ls:=by
 rw[bR,cnt,Zv];have k:∀l:Xn (dB×Xn ay),(∀p∈l,∃f c,fl p.1.name=some f/\rW C f p.1 p.2 c)->(l.map λp=>(fileOf D p.1.name).length).sum<=130*(l.map (·.2.length)).sum:=by
  intro l
  induction l with
  | nil=>intro _;simp
  | cons p r i=>
   intro a;have⟨f,c,d,b⟩:=a p XC;have e:=b.small
   grind
 exact k _ h
variable {c:St}
def RecM.MB (h:RecM C D c Ls bs E):c.log.length<=24:=by obtain⟨k,_,H⟩:=h.log;rw[H];exact El k
def RecM.Qm (h:RecM C D c Ls bs E) (H:E<=1048576):Ls.flatten.length<=1048576:=by have:=yg h.on;have:=h.cntE;omega
def RecM.MC (h:RecM C D c Ls bs E) (H:E<=1048576):(aA (cz c)).length<=29360181:=by
 have a:=u6 h.levels h.lv h.MB;have b:=h.Qm H;rw[dM];omega
def nE.used(h:nE C s D q0 Ls bs E)(a:E<=1048576)(e:bs.length<=16777216):D.used<=2147483648:=by
 have⟨junk,H,b⟩:=h.logf;have f:=GR h.core.ok (ns:=aM::s.log::bR Ls) λm d=>by
  rcases h.known m d with h|h|h
  .grind
  .grind
  grind
 have g:=h.core.on.size (rn D);have i:=wx bs q0 h.core.bsok h.core.seq;have j:=h.core.MC a;have k:=h.core.cntE;have l:fileOf D aM=aA (cz { s with seq:=q0 }):=by rw[rn,h.core.state];rfl
 have n:fileOf D s.log=dw q0 bs++junk:=by rw[rn,H];rfl
 grind
def nE.free(h:nE C s D q0 Ls bs E){m:Bs}(h1:m≠aM)(H:m≠s.log)(a:m ∉ bR Ls):file D m=none:=by
 cases d:file D m with
 | none=>rfl
 | some b=>
  rcases h.known m (by grind)with h|h|h
  .grind
  .grind
  grind
variable {k:Nat}
def nE.R5 (h:nE C s D q0 Ls bs E) (l:s.number<k) (H:k<=9223372036854775808):file D (dv k)=none:=by
 have⟨j,m,e⟩:=h.core.log;refine h.free (j9 k) (by rw[e];exact lq k j) λf=>?_;have⟨p,g,a⟩:=XA.1 f;have⟨i,d,b⟩:=h.core.lv.names p g;have d:i<=s.number:=d;have:=fC (b.symm.trans a) (by omega) H;omega
def jz(h:tz q0 Ls)(k:Nat):cJ k ∉ bR Ls:=λH=>by
 have⟨p,a,b⟩:=XA.1 H;have⟨i,e,d⟩:=h.names p a;exact lq i k (by grind)
def kF(h:tz q0 Ls):aM ∉ bR Ls:=λH=>by
 have⟨p,a,b⟩:=XA.1 H;have⟨i,e,d⟩:=h.names p a;exact j9 i (by grind)
def kG(h:tz q0 Ls):aQ ∉ bR Ls:=λH=>by
 have⟨p,a,b⟩:=XA.1 H;have⟨i,e,d⟩:=h.names p a;exact nD i (by grind)
def nE.R6(h:nE C s D q0 Ls bs E):file D aQ=none:=by
 have⟨j,a,H⟩:=h.core.log;exact h.free lN (by rw[H];exact(mC j).symm) (kG h.core.lv)
def nE.UF (h:nE C s D q0 Ls bs E) (e:s.number<k) (H:k<=9223372036854775808):file D (cJ k)=none:=by
 have⟨j,a,b⟩:=h.core.log;have a:j<=s.number:=a;exact h.free (gY k) (λd=>by have:=ye (d.trans b) H (by omega);omega) (jz h.core.lv k)
end
def wy {C:Prop} (hl:s.levels=dh Ls) (H:tz s.number Ls) (f:Ls.flatten.length<=1048576) (F:s.number+1<=4611686018427387904) (G:s.seq<=4611686018427387904) (j:D.Ok) (l:file D aQ=none) (I:file D (cJ (s.number+1))=none) (a:(s.log=[]/\file D []=none)\/∃k b,k<=s.number/\s.log=cJ k/\file D s.log=some b) (hm:D.moves.length<=274877906944) (n:D.used+30000000<=1099511627776):
 ∃x D',iV s D true=some (x,D')/\dU D D' /\
  ((x=.ok { s with number:=s.number+1,log:=cJ (s.number+1) }/\D'.moves.length<=1 /\
     ∀m,file D' m=if m=aM then some (aA (cz { s with number:=s.number+1,log:=cJ (s.number+1) }))else if m=cJ (s.number+1)then some []else if m=s.log then none else file D m) \/
   ∃e,x=.error e/\A7 C D e/\((∀m,m≠aQ->m≠cJ (s.number+1)->file D' m=file D m) \/
    ∀m,file D' m=if m=aM then some (aA (cz { s with number:=s.number+1,log:=cJ (s.number+1) }))else if m=cJ (s.number+1)then some []else file D m)):=by
 have c:tz (s.number+1) Ls:=⟨H.len,λp J=>by obtain⟨k,q,t⟩:=H.names p J;exact⟨k,by omega,t⟩,H.nodup,H.sep⟩;have g:=El (s.number+1);unfold iV;rw[XE rfl,XE (by omega),pj (by omega)];cases q:iu D (cJ (s.number+1))with
 | some e=>
  obtain⟨w,K⟩:=sK j q;have S:=eZ.tick j;refine⟨_,_,rfl,by rw[w];exact S.later,.inr ⟨e,rfl,?_,.inl λm _ _=>by rw[w];exact S.file m⟩⟩;rcases K with K|⟨_,K⟩
  .exact .of K
  grind
 | none=>
  obtain⟨_,u,L,i,Q⟩:=uS j q;dsimp only;rw[XE (Em (s:={ s with number:=s.number+1,log:=cJ (s.number+1) }) hl c g F G f)];have M:=u6 (s:={ s with number:=s.number+1,log:=cJ (s.number+1) }) hl c g;obtain⟨x,D',N,y,R⟩:=wv (s:={ s with number:=s.number+1,log:=cJ (s.number+1) }) (old:=if s.log=[]then none else some s.log) i.ok (by rw[u,Xx (mC _).symm];exact l) (by omega)
   (λo z=>by
     rcases a with⟨h,_⟩|⟨k,b,t,d,A⟩
     .grind
     .rw[Xx (by rw[d];exact Mz k)]at z;cases z;refine⟨by rw[d];exact gY k,by rw[d];exact mC k,b,?_⟩;rw[u,Xx λO=>by have:=ye (d.symm.trans O) (by omega) (by omega);omega];exact A) (by rw[dM,L];omega)
  rw[N];rcases R with⟨rfl,R,B⟩|⟨e,rfl,R,B⟩
  .refine⟨_,_,rfl,i.trans y,.inl ⟨rfl,R,λm=>?_⟩⟩;rw[B,u];by_cases P:m=aM
   .grind
   .rcases a with⟨h,T⟩|⟨k,b,t,d,A⟩
    .grind
    .have v:(if s.log=[]then none else some s.log)=some s.log:=Xx (by rw[d];exact Mz k)
     grind
  .refine⟨_,_,rfl,i.trans y,.inr ⟨e,rfl,R.before i,?_⟩⟩
   grind
def En (hl:s.levels=dh Ls) (H:tz s.number Ls) (a:Ls.flatten.length<=1048576) (d:s.number<=4611686018427387904) (f:s.seq<=4611686018427387904) (g:D.Ok) (b:file D aQ=none) (h:s.log.length<=24) (hm:D.moves.length<=274877906944) (c:D.used+30000000<=1099511627776):
 ∃x D',iV s D false=some (x,D')/\dU D D' /\
  ((x=.ok s/\D'.moves.length<=1/\∀m,file D' m=if m=aM then some (aA (cz s))else file D m) \/
   ∃e,x=.error e/\A7 C D e/\((∀m,m≠aQ->file D' m=file D m)\/∀m,file D' m=if m=aM then some (aA (cz s))else file D m)):=by
 unfold iV;rw[Xx (by simp),XE (Em hl H h d f a)];have i:=u6 hl H h;have⟨x,D',j,l,R⟩:=wv (C:=C) (s:=s) (old:=none) g b (by omega) (λo n=>by grind) (by rw[dM];omega);rw[j];rcases R with⟨rfl,R,k⟩|⟨e,rfl,R,k⟩
 .grind
 .grind
def wz:∀(ns:Xn Bs) {D:ad},D.Ok->ns.Nodup->(∀n∈ns,file D n≠none)->D.moves.length+ns.length<=1099511627776 ->
 ∃x D',eY (ns.map .remove) D=some (x,D')/\dU D D'/\D'.moves.length<=D.moves.length+ns.length/\(∀m,m ∉ ns->file D' m=file D m)/\((x=none/\∀m∈ns,file D' m=none)\/∃e,x=some e/\A7 C D e)
 | [],D,H,_,_,_=>⟨none,D,rfl,dU.refl H,by simp,λ_ _=>rfl,by grind⟩
 | n::ns,D,H,f,g,d=>by
  have⟨a,c⟩:=ZF.1 f;rw[XP];obtain⟨b,i⟩:∃b,file D n=some b:=by
   cases j:file D n with
   | none=>exact XG j (by grind)
   | some b=>exact⟨b,rfl⟩
  simp at d;rcases ln i with h|⟨e,h,l⟩
  .have⟨V,t,v,u⟩:=A1 H h;rw[fD (D':=fX D n) (by rw[mh (by omega),h])];obtain⟨x,D',p,q,w,y,k⟩:=wz ns v.ok c (λx z=>by
    rw[V,Xx λA=>a (by grind)];exact g x (by grind)) (by omega)
   refine⟨x,D',p,v.trans q,by grind,λm d=>?_,?_⟩
   .grind
   .rcases k with⟨k,K⟩|⟨e,k,K⟩
    .grind
    .exact .inr ⟨e,k,K.before v⟩
  .rw[eQ (D':=fX D n) (by rw[mh (by omega),h]),xV h];have S:=eZ.tick H;exact⟨_,_,rfl,S.later,by simp,λm _=>S.file m,.inr ⟨e,rfl,.of l⟩⟩
def u7:∀(l:Xn ay),l.Pairwise (λa b=>¬(a.key=b.key/\a.seq=b.seq))->∃R,iz R/\R.Perm l
 | [],_=>⟨[],by simp,.refl _⟩
 | e::l,h=>by
  have⟨c,d⟩:=X1.1 h;have⟨R,k,K⟩:=u7 l d;refine⟨gq R e,qn k λx f H=>c x (by grind) ⟨H.1.symm,H.2.symm⟩,List.Perm.trans (List.perm_middle.trans (List.Perm.cons e ?_)) (K.cons e)⟩;simp_all
def se{L:Xn (Xn ay)}(d:∀l∈L,iz l)(e:Ord L):L.flatten.Pairwise λa b=>¬(a.key=b.key/\a.seq=b.seq):=by
 rw[List.pairwise_flatten];refine⟨λl f=>(d l f).imp λ{a b} H c=>?_,e.imp λ{a b} H x g y i c=>?_⟩
 .rcases bZ.1 H with h|h
  .rw[c.1,aP]at h;cases h
  omega
 grind
def Ba:∀(L:Xn (Xn ay)) (k:Bs) (m:Nat),lY L k m=jL L.flatten k m
 | [],_,_=>rfl
 | l::L,k,m=>by rw[dD,Yd,Cq,Ba L]
variable {R:Xn ay} {M:Xn (Xn ay)}
def yh (h:iz R) (H:∀l∈M,iz l) (a:Ord M) (b:R.Perm M.flatten) (k:Bs) (m:Nat):jL R k m=lY M k m:=
 GC H a h (λe=>by rw[b.mem_iff,YZ]) k m
def Bb(l:Xn ay):gX [] l=l:=YM.2 λe _=>by rw[DN];rfl
variable {f:Bs} {T:dB} {l:Xn ay} {cs:Xn (Xn ay)}
def rW.mono {a:Prop} (H:C->a) (h:rW C f T l cs):rW a f T l cs:=
 ⟨h.flat,h.ne,h.sep,h.some,h.srt,h.ents,h.JZ,h.lay.imp H id,h.head.imp id λh=>⟨H h.1,h.2⟩,h.small,h.count,h.size,λA c B e=>(h.blk A c B e).imp id λh=>⟨H h.1,h.2⟩⟩
def MD {M:Xn ay} (h1:fl T.name=some f) (h:rW C f T l cs) (key:Bs):Ec C fl M (eF T key) (gX key l):=by
 have⟨A,c,B,e,a,d,g⟩:=J5 h key;have i:A.length<=cs.length:=by grind
 refine⟨f,l,cs,h1,h,by omega,?_,?_⟩
 .have H:=h.count;rw[<- h.flat,<- X9 (nT T key) cs,YN,Xu]at H
  grind
 .rw[List.nil_append,<- a];have b:l=A.flatten++(cs.drop A.length).flatten:=by rw[<- h.flat,<- YN,e,List.drop_left]
  conv=>lhs;rw[b]
  unfold gX;rw[Y0,YJ.2 λx j=>by grind,List.nil_append]
def Eo {M:Xn ay} (hM:iz M) (d:∀e∈M,e.seq<=bO) (key:Bs):Ec C fl M (jO M key) (gX key M):=by
 obtain⟨a,b⟩:=td hM;show gX key M=M.drop _;generalize aU M ⟨key,[],false,bO⟩=i at a b
 conv=>lhs;rw[<- X9 i M]
 unfold gX;rw[Y0,YJ.2 λx H=>?_,List.nil_append,YM.2 λx H=>?_]
 .cases c:aO x.key key with
  | false=>rfl
  | true=>have:=b x H;rw[bZ.2 (.inl c)]at this;cases this
 .rcases bZ.1 (a x H)with h|h
  .grind
  grind
def Cu {M:Xn ay} (key:Bs):∀(ps:Xn (dB×Xn ay)),(∀p∈ps,∃f cs,fl p.1.name=some f/\rW C f p.1 p.2 cs)->qw C fl M (ps.map λp=>eF p.1 key) (ps.map λp=>gX key p.2)
 | [],_=>.nil
 | p::ps,h=>by
  have⟨f,cs,a,H⟩:=h p XC;exact .cons (MD a H key) (H.srt.sublist Zg) (Cu key ps λq b=>h q (by grind))
def gR(a b:Nat)(Ls:jy):Xn (dB×Xn ay):=((Ls.take (b+1)).drop a).flatten
def iY(a b:Nat)(Ls:jy)(L:Xn (dB×Xn ay)):jy:=Ls.take a++List.replicate (b-a) []++L::Ls.drop (b+1)
abbrev Ep(a b:Nat):Prop:=(a=0/\(b=1\/b=3))\/(a=1/\b=2)\/(a=2/\b=3)
def eK{α:Type}{l:Xn α}(h:l.length=4):∃a b c d,l=[a,b,c,d]:=by
 match l,h with
 | [a,b,c,d],_=>exact⟨a,b,c,d,rfl⟩
def wY(b:Nat)(Ls:jy):XN:=(Ls.drop (b+1)).all List.isEmpty
variable {a b:Nat}
def yi (g:Ls.length=4) (H:Ep a b):∃U M W,gC Ls=U++M++W/\M.Perm ((gR a b Ls).map (·.2))/\(∀L,gC (iY a b Ls L)=U++L.map (·.2)++W)/\(wY b Ls=true->W=[]):=by
 obtain⟨L0,c,d,e,rfl⟩:=eK g;rcases H with⟨rfl,rfl|rfl⟩|⟨rfl,rfl⟩|⟨rfl,rfl⟩
 .refine⟨[],(L0.reverse++c).map (·.2),(d++e).map (·.2),by simp[gC],?_,λL=>by simp[gC,iY],λh=>by simp[wY]at h;simp[h.1,h.2]⟩;simp only[gR];simp
  grind
 .refine⟨[],(L0.reverse++c++d++e).map (·.2),[],by simp[gC],?_,λL=>by simp[gC,iY],λh=>rfl⟩;simp[gR]
  grind
 .refine⟨L0.reverse.map (·.2),(c++d).map (·.2),e.map (·.2),by simp[gC],by simp[gR],λL=>by simp[gC,iY],λh=>?_⟩;simp[wY]at h;simp[h]
 .exact⟨(L0.reverse++c).map (·.2),(d++e).map (·.2),[],by simp[gC],by simp[gR],λL=>by simp[gC,iY],λh=>rfl⟩
def u9 (H:Ls.length=4) (h:Ep a b):∃X Y,Ls.flatten=X++gR a b Ls++Y/\∀L,(iY a b Ls L).flatten=X++L++Y:=by
 obtain⟨L0,d,e,c,rfl⟩:=eK H;rcases h with⟨rfl,rfl|rfl⟩|⟨rfl,rfl⟩|⟨rfl,rfl⟩
 .exact⟨[],e++c,by simp[gR],λL=>by simp[iY]⟩
 .exact⟨[],[],by simp[gR],λL=>rfl⟩
 .exact⟨L0,c,by simp[gR],λL=>by simp[iY]⟩
 .exact⟨L0++d,[],by simp[gR],λL=>by simp[iY]⟩
def ME (H:Ls.length=4) (h:Ep a b) (L:Xn (dB×Xn ay)):(iY a b Ls L).length=4:=by
 obtain⟨L0,c,d,e,rfl⟩:=eK H;rcases h with⟨rfl,rfl|rfl⟩|⟨rfl,rfl⟩|⟨rfl,rfl⟩<;>simp[iY]
variable {ls:Xn (dB×Xn ay)}
def MF (d:Ls.length=4) (c:Ep a b) {P:Xn (dB×Xn ay)->Prop} (m:P []) (h1:P ls) (h:∀i L,1<=i->Ls[i]?=some L->P L):∀i L,1<=i->(iY a b Ls ls)[i]?=some L->P L:=by
 obtain⟨L0,e,g,j,rfl⟩:=eK d;have K:=h 1 e (by omega) rfl;have n:=h 2 g (by omega) rfl;have p:=h 3 j (by omega) rfl;intro i L k H;rcases c with⟨rfl,rfl|rfl⟩|⟨rfl,rfl⟩|⟨rfl,rfl⟩<;>simp[iY]at H<;>(match i,k,H with
  | 1,_,H=>simp at H;subst H;assumption
  | 2,_,H=>simp at H;subst H;assumption
  | 3,_,H=>simp at H;subst H;assumption
  | i+4,_,H=>simp at H)
def Kd (ls:Xn (dB×Xn ay)):dh (iY a b Ls ls)=(dh Ls).take a++List.replicate (b-a) []++ls.map (·.1)::(dh Ls).drop (b+1):=by
 simp[dh,iY]
def tB (h:s.levels=dh Ls):kT s a b=(gR a b Ls).map (·.1):=by
 unfold kT gR;rw[h];unfold dh;rw[<- aa5,<- aay,abd]
theorem MG (h:s.levels=dh Ls):o9 s b=wY b Ls:=by
 unfold o9 wY;rw[h];unfold dh;rw[<- List.map_drop,List.all_map];congr 1;funext l;cases l<;>rfl
def gN(c:Xn Nat)(A B:Xn (Xn ay)):Prop:=∀m∈c,∀k,ik (lY B k m)=ik (lY A k m)
def gN.refl(m:Xn Nat)(A:Xn (Xn ay)):gN m A A:=λ_ _ _=>rfl
variable {ms:Xn Nat}
def gN.trans {A B D:Xn (Xn ay)} (h:gN ms A B) (k:gN ms B D):gN ms A D:=λm H x=>(k m H x).trans (h m H x)
def Cv{a b c:XB ay}(h:ik b=ik c):ik (a.or b)=ik (a.or c):=by cases a with|none=>exact h|some x=>rfl
variable {U W N:Xn (Xn ay)}
def Qn (h:Ord (U++M++W)) (H:Ord N) (c:∀l∈N,∀e∈l,∃L∈M,e∈L):Ord (U++N++W):=by
 unfold Pure.Ord at *;rw[X7,X7]at h |-
 grind
def Qo{ls:Xn (Xn ay)}(h:ls.Pairwise Ah):Ord ls:=h.imp λ{a b} H x c y d e=>by
 have:=H x c y d;rw[e,aP]at this;cases this
variable {bt:XN}
def Er (d:Ord (U++M++W)) (e:∀l∈M,iz l) (h:iz R) (g:R.Perm M.flatten) (i:bt=true->W=[]) (j:N.flatten=dC ms bt R):
 gN ms (U++M++W) (U++N++W):=by
 intro m c k;have H:=(X7.1 (X7.1 d).1).2.1;rw[lM,lM,lM,lM,<- yh h e H g,Ba N,j];rw[Option.or_assoc,Option.or_assoc];cases bt with
 | false=>rw[DS h c]
 | true=>
  rw[i rfl];apply Cv;show ik ((jL _ k m).or none)=ik ((jL R k m).or none);rw[Option.or_none,Option.or_none];exact Mp h c
def rp (h:∀e∈R,bX e=e):(dC ms bt R).map bX=dC ms bt R:=Eb λe H=>h e ((gW ms bt R).subset H)
def vd {X M Y:Xn (dB×Xn ay)} (h:Ls.flatten=X++M++Y):cnt Ls=(X.map (·.2.length)).sum+(M.map (·.2.length)).sum+(Y.map (·.2.length)).sum:=by
 unfold cnt;rw[h];simp only[XK,ZU]
def lu(l:Xn (dB×Xn ay)):(l.map (·.2)).flatten.length=(l.map (·.2.length)).sum:=by
 rw[List.length_flatten,Zv];rfl
def jA(s:St)(a b num:Nat)(Ls:jy)(ls:Xn (dB×Xn ay)):St:={ s with number:=num,levels:=dh (iY a b Ls ls) }
def Bc {Z:Nat} {Ls:jy} {bs:Xn (Xn cC)} {E a b:Nat} {R:Xn ay} {K num:Nat} {bt:XN} {ms:Xn Nat} {ls:Xn (dB×Xn ay)} {G fl:Bs->XB Bs} (h:RecM C D { s with seq:=Z } Ls bs E) (g:Ep a b) (hR:iz R) (c:R.Perm ((gR a b Ls).map (·.2)).flatten) (m:Kc K s.number num (dC ms bt R) ls G fl) (S:num<=4611686018427387904):
 cnt (iY a b Ls ls)+total bs<=E/\tz num (iY a b Ls ls):=by
 obtain⟨X,Y,u,I⟩:=u9 h.lv.len g;obtain⟨U,M,W,s1,s2,s3,s4⟩:=yi h.lv.len g;have J:∀e∈R,∃p∈gR a b Ls,e∈p.2:=λe d=>by
  grind
 have w:∀p∈gR a b Ls,p∈Ls.flatten:=λp c=>by rw[u];simp only[Xy];exact .inl (.inr c)
 have L:∀e∈R,qm e/\bX e=e:=λe d=>by
  obtain⟨p,c,O⟩:=J e d;obtain⟨f,cs,_,k⟩:=h.on p (w p c);exact k.ents e O
 have aa:∀p∈ls,∀e∈p.2,e∈R:=λp c e d=>by
  have A:e∈(ls.map (·.2)).flatten:=YZ.2 ⟨p.2,XA.2 ⟨p,c,rfl⟩,d⟩;rw[m.ents,rp λe d=>(L e d).2]at A;exact(gW _ _ _).subset A
 have ab:=m.cnt;have i:bR Ls=X.map (·.1.name)++(gR a b Ls).map (·.1.name)++Y.map (·.1.name):=by unfold bR;rw[u];simp
 have H:=h.lv.nodup;rw[i]at H;have hX:∀p∈X,p.1.name ∉ (gR a b Ls).map (·.1.name):=λp c P=>by
  rw[Yc,Yc]at H;exact H.1.2.2 _ (XA.2 ⟨p,c,rfl⟩) _ P rfl
 have hY:∀p∈Y,p.1.name ∉ (gR a b Ls).map (·.1.name):=λp c P=>by
  rw[Yc]at H;exact H.2.2 _ (Yl _ P) _ (XA.2 ⟨p,c,rfl⟩) rfl
 refine⟨?_,ME h.lv.len g ls,?_,?_,?_⟩
 .have A:=h.cntE;rw[vd u]at A;rw[vd (I ls)];have h2:=lu ls;rw[m.ents,XT]at h2;have h3:=tw ms bt R;have h4:=c.length_eq;rw[lu]at h4;omega
 .intro p c;rw[I ls]at c;simp only[Xy]at c;rcases c with(c|c)|c
  .obtain⟨k,n,v⟩:=h.lv.names p (by rw[u];simp only[Xy];exact .inl (.inl c));exact⟨k,by have n:k<=s.number:=n;show k<=num;omega,v⟩
  .obtain⟨k,n,v,Q⟩:=m.names p c;exact⟨k,v,Q⟩
  .obtain⟨k,n,v⟩:=h.lv.names p (by rw[u];simp only[Xy];exact .inr c);exact⟨k,by have n:k<=s.number:=n;show k<=num;omega,v⟩
 .unfold bR;rw[I ls];simp only[XK];rw[Yc,Yc]at H |-;have z:∀p∈ls,∀q∈Ls.flatten,p.1.name≠q.1.name:=λp c q B d=>by
   obtain⟨k,n,v,Q⟩:=m.names p c;obtain⟨j,V,j2⟩:=h.lv.names q B;have V:j<=s.number:=V;have:=fC (Q.symm.trans (d.trans j2)) (by omega) (by omega);omega
  refine⟨⟨H.1.1,m.nodup,λx t y F d=>?_⟩,H.2.1,λx t y F d=>?_⟩
  .obtain⟨p,c,rfl⟩:=XA.1 t;obtain⟨q,B,rfl⟩:=XA.1 F
   grind
  .rcases Xy.1 t with t|t
   .exact H.2.2 x (Ye _ t) y F d
   .obtain⟨p,c,rfl⟩:=XA.1 t;obtain⟨q,B,rfl⟩:=XA.1 F;exact z p c q (by rw[u];simp only[Xy];exact .inr B) d
 .exact MF h.lv.len g .nil m.sep h.lv.sep
def GU {D':ad} {Q:Nat} {Ls:jy} {bs:Xn (Xn cC)} {E a b:Nat} {R:Xn ay} {K num:Nat} {bt:XN} {ms:Xn Nat} {ls:Xn (dB×Xn ay)} {G:Bs->XB Bs} (h:RecM C D { s with seq:=Q } Ls bs E) (v:Ep a b) (hR:iz R) (H:R.Perm ((gR a b Ls).map (·.2)).flatten) (z:Kc K s.number num (dC ms bt R) ls G (file D')) (n:num<=4611686018427387904) (hd:D'.Ok) (I:file D' aM=some (aA (cz { jA s a b num Ls ls with seq:=Q }))) (J:∀m,(m=s.log\/(m∈bR Ls/\m ∉ (gR a b Ls).map (·.1.name)))->file D' m=file D m):
 RecM C D' { jA s a b num Ls ls with seq:=Q } (iY a b Ls ls) bs E:=by
 obtain⟨X,Y,y,V⟩:=u9 h.lv.len v;obtain⟨U,M,W,s1,s2,s3,s4⟩:=yi h.lv.len v;have w:∀e∈R,∃p∈gR a b Ls,e∈p.2:=λe d=>by
  obtain⟨l,L,aa⟩:=YZ.1 (H.mem_iff.1 d);obtain⟨p,g,rfl⟩:=XA.1 L
  grind
 have t:∀p∈gR a b Ls,p∈Ls.flatten:=λp H=>by rw[y];simp only[Xy];exact .inl (.inr H)
 have O:∀e∈R,qm e/\bX e=e:=λe d=>by
  obtain⟨p,H,P⟩:=w e d;obtain⟨f,cs,_,k⟩:=h.on p (t p H);exact k.ents e P
 have A:=λp H e d=>by
  have Z:e∈(ls.map (·.2)).flatten:=YZ.2 ⟨p.2,XA.2 ⟨p,H,rfl⟩,d⟩;rw[z.ents,rp λe d=>(O e d).2]at Z;exact(gW _ _ _).subset Z
 have ab:=z.cnt;have i:bR Ls=X.map (·.1.name)++(gR a b Ls).map (·.1.name)++Y.map (·.1.name):=by unfold bR;rw[y];simp
 have c:=h.lv.nodup;rw[i]at c;have hX:=λp H S=>by
  rw[Yc,Yc]at c;exact c.1.2.2 _ (XA.2 ⟨p,H,rfl⟩) _ S rfl
 have hY:=λp H S=>by
  rw[Yc]at c;exact c.2.2 _ (Yl _ S) _ (XA.2 ⟨p,H,rfl⟩) rfl
 obtain⟨hc,B⟩:=Bc h v hR H z n;refine⟨hd,rfl,I,n,h.seq,hc,B,?_,?_,?_,?_,?_,h.bsok⟩
 .intro p H;rw[V ls]at H;simp only[Xy]at H;rcases H with(H|H)|H
  .have g:p∈Ls.flatten:=by rw[y];simp only[Xy];exact .inl (.inl H)
   obtain⟨f,cs,u,x⟩:=h.on p g;exact⟨f,cs,by rw[J _ (.inr ⟨XA.2 ⟨p,g,rfl⟩,hX p H⟩)];exact u,x⟩
  .obtain⟨f,cs,u,x⟩:=z.on p H;exact⟨f,cs,u,x.mono λh=>h.elim⟩
  .have g:p∈Ls.flatten:=by rw[y];simp only[Xy];exact .inr H
   obtain⟨f,cs,u,x⟩:=h.on p g;exact⟨f,cs,by rw[J _ (.inr ⟨XA.2 ⟨p,g,rfl⟩,hY p H⟩)];exact u,x⟩
 .intro p H e d;rw[V ls]at H;simp only[Xy]at H;rcases H with(H|H)|H
  .exact h.seqs p (by rw[y];simp only[Xy];exact .inl (.inl H)) e d
  .obtain⟨q,hq,F⟩:=w e (A p H e d);exact h.seqs q (t q hq) e F
  .exact h.seqs p (by rw[y];simp only[Xy];exact .inr H) e d
 .rw[s3 ls];refine Qn (by rw[<- s1];exact h.ord) (Qo (ZI.2 z.sep)) λl L e d=>?_;obtain⟨p,H,rfl⟩:=XA.1 L;obtain⟨q,hq,F⟩:=w e (A p H e d)
  grind
 .obtain⟨k,u,x⟩:=h.log;exact⟨k,by have u:k<=s.number:=u;show k<=num;omega,x⟩
 .obtain⟨j,j1,j2⟩:=h.logf;exact⟨j,by show file D' s.log=_;rw[J s.log (.inl rfl)];exact j1,j2⟩
