/-
  Part 42: WALKS package rows; WALKS rows that one reads, owned or shown; WALKS package levels.
-/
import Derived.Test.YtecibefflhomdaaGreatDoorZ41
set_option maxHeartbeats 8000000
set_option maxRecDepth 100000
set_option linter.all false
namespace Go.Proofs.YtecibefflhomdaaGreatDoor
open Go Proofs.Tryz
section
variable[Bs0:Base][NQ]
open Pure (ay less aO aU dQ gq o4 jx ny)
attribute [local irreducible] IntKind.wrap
variable{W0 w:Xo}{F:Xn ae}{v:Xp}{m:Nat}{l:Xn ay}
def Ph{e:ay}(h:Sat W0 (aZ m l::F) w)(u:l.length<=1099511627776):Calls prog 147 #[ax m,.agg (aD e).toArray] w λx w'=>x=.returned (.tuple #[])/\Sat W0 (aZ m (gq l e)::F) w':=by
 refine enter func147 rfl ntmps147 results147 rfl ?_;refine go ?_;refine eB (z:=aD e) h λw B h=>?_;refine go ?_;refine ak (met (wL (e:=e) (h.take dt) u) ?_);rintro _ w ⟨rfl,h⟩;refine⟨_,rfl,go ?_⟩;have f:=o4 l e;unfold gq;generalize aU l e=i at *;obtain⟨v,h⟩:=h.xA;obtain⟨a,c,rfl,-⟩:=(h.take dt).zg;refine bU [blk m 120 [.slice a l.length c],blk B 256 (aD e)] [(0,false),(1,false),(2,false),(3,false),(4,false),(5,false),(6,true),(7,true),(8,false),(9,false),(10,true)] h.to (by kernel_rfl) λw h=>?_;refine go ?_;refine jT (aD e) h λw Y h=>?_;refine go ?_;refine dZ h λZ w h=>?_;obtain⟨a2,C,rfl,O⟩:=h.aC;refine go ?_;refine bJ h λw h=>?_;refine go ?_;obtain⟨b,P,rs,K,Q,R,S,h⟩:=h.iv (by omega);simp only[aao]at K;obtain⟨rfl,_,rfl⟩:=K;obtain⟨x,r,L,g⟩:∃x r,l++[e]=l.take i++x::r/\r.length=l.length-i:=by
  have t:((l++[e]).drop i).length=l.length+1-i:=by simp
  cases y:(l++[e]).drop i with
  | nil=>rw[y]at t;simp at t;omega
  | cons x r=>
   refine⟨x,r,?_,by rw[y]at t;simp at t;omega⟩;rw[<- y,<- aaC (l₂:=[e]) f,X9]
 have h:Sat W0 (blk b 256 (ef (l.take i)++(aD x++(ef r++rs)))::blk m 120 [.slice (some ⟨b,0,none⟩) (l.length+1) C]::blk B 256 (aD e)::F) w:=by
  have A:(aV l).flatten++aD e++rs=ef (l.take i)++(aD x++(ef r++rs)):=by
   rw[<- oV,L];show ef _++rs=_;rw[oW,xB];simp
  rw[A]at h;exact h.to
 have D:∀(X:Xn ay) w,X.length=l.length+1->Sat W0 (blk b 256 (ef X++rs)::blk m 120 [.slice (some ⟨b,0,none⟩) (l.length+1) C]::F) w->Sat W0 (aZ m X::F) w:=λX w M h=>by
  have:=Sat.gE (k:=4) (len:=l.length+1) h Q R S (by rw[ot,M]) (rQ X);rw[<- M]at this;exact Sat.nh this.to
 refine bU (l:=blk b 256 (ef (l.take i)++(aD x++(ef r++rs)))::blk m 120 [.slice (some ⟨b,0,none⟩) (l.length+1) C]::blk B 256 (aD e)::F) [blk m 120 [.slice (some ⟨b,0,none⟩) (l.length+1) C],blk B 256 (aD e)] [(0,false),(1,false),(2,false),(3,false),(4,false),(5,false),(6,false),(7,false),(8,false),(9,false),(10,false),(11,false),(12,false),(13,true)] h (by kernel_rfl) λw h=>?_;refine go ?_;refine De (i+1) (l.length+1) rfl rfl rfl rfl (by show some (Value.int .i64 ((i:Int)+1))=_;rfl) rfl (by omega) Q rfl ?_;refine go ?_;refine De i (l.length+1) rfl rfl rfl rfl rfl rfl (by omega) Q rfl ?_;refine go ?_;have n:iZ (ef (l.take i)++(aD x++(ef r++rs))) (i*4) (ef (l.drop i)):=by
  have A:ef (l.take i)++(aD x++(ef r++rs))=ef (l.take i)++(ef (l.drop i)++(aD e++rs)):=by
   have:ef (l++[e])=ef (l.take i)++(aD x++ef r):=by rw[L,oW,xB]
   have T:ef (l++[e])=ef (l.take i)++(ef (l.drop i)++aD e):=by
    conv=>lhs;rw[<- X9 i l]
    rw[oW,oW,xB];simp
   have U:=this.symm.trans T;have V:ef (l.take i)++(aD x++(ef r++rs))=(ef (l.take i)++(aD x++ef r))++rs:=by simp
   rw[V,U];simp
  have E:i*4=(ef (l.take i)).length+0:=by rw[ot,Yb,Zi f];rfl
  rw[A,E];exact iZ.pre _ (iZ.all _).app
 have d:dL (ef (l.take i)++(aD x++(ef r++rs))) ((i+1)*4) (ef (l.drop i))=ef (l.take i)++(aD x++(ef (l.drop i)++rs)):=by
  have E:(i+1)*4=(ef (l.take i)++aD x).length:=by rw[Xu,ot,Yb,Zi f];show _=i*4+4;omega
  have:=pE (ef (l.take i)++aD x) (ef r) (ef (l.drop i)) rs (by rw[ot,ot,g];simp);rw[E];simpa using this
 have p:dL (ef (l.take i)++(aD x++(ef (l.drop i)++rs))) (0+i*4) (aD e)=ef (l.take i++e::l.drop i)++rs:=by
  have E:0+i*4=(ef (l.take i)).length:=by rw[ot,Yb,Zi f];omega
  rw[E,pE _ (aD x) (aD e) _ rfl,oW,xB];simp
 have G:cutAt b 0 C i 4=⟨b,i*4,none⟩:=by unfold cutAt;rw[Xx (by omega)];simp
 rw[G];have H:((ef (l.take i)++(aD x++(ef r++rs)))).length=(l.length+1)*4+rs.length:=by
  simp only[Xu,ot,Yb,Zi f,g];show i*4+(4+((l.length-i)*4+rs.length))=_;omega
 obtain⟨o,W,I,q⟩:∃o,cutAt b 0 C (i+1) 4=⟨b,o,none⟩/\dL (ef (l.take i)++(aD x++(ef r++rs))) o (ef (l.drop i))=ef (l.take i)++(aD x++(ef (l.drop i)++rs))/\o+(ef (l.drop i)).length<=(ef (l.take i)++(aD x++(ef r++rs))).length:=by
  by_cases N:C=i+1
  .have s:i=l.length:=by omega
   have J:r=[]:=XY (by omega);subst J;refine⟨0,by unfold cutAt;rw[XE N],?_,by simp[s]⟩;rw[s];simp[dL]
  .refine⟨(i+1)*4,by unfold cutAt;rw[Xx N];simp,d,?_⟩;rw[H,ot];simp;omega
 rw[W];refine Rf (news:=ef (l.drop i)) h rfl rfl rfl rfl .here n (by rw[ot,Y1];congr 1;omega) (rQ _) .here q rfl λw h=>?_;rw[I]at h;refine go ?_;refine bU (l:=blk b 256 (ef (l.take i)++(aD x++(ef (l.drop i)++rs)))::blk m 120 [.slice (some ⟨b,0,none⟩) (l.length+1) C]::blk B 256 (aD e)::F) [blk m 120 [.slice (some ⟨b,0,none⟩) (l.length+1) C],blk B 256 (aD e)] [(0,false),(1,false),(2,false),(3,false),(4,false),(5,false),(6,false),(7,true)] h (by kernel_rfl) λw h=>?_;refine go ?_;refine sY (j:=i) rfl rfl rfl rfl rfl rfl (by omega) rfl ?_;refine go ?_;refine Hg (vs:=aD e) (cs:=ef (l.take i)++(aD x++(ef (l.drop i)++rs))) h rfl rfl rfl (zh e) .here ?_ λw h=>?_
 .simp only[Xu,ot,Yb,Zi f];show 0+i*4+4<=i*4+(4+_);omega
 rw[p]at h;refine go ?_;exact fE rfl ⟨rfl,D _ _ (by simp;omega) h.to⟩
end
section
variable[Bs0:Base][NQ]
open Pure (ad ay Rd bF less aO aU bA aX aA dz dec my gq cC kD bB aI)
attribute [local irreducible] IntKind.wrap
def V4(A:ae)(k:Nat)(v:Xp)(rows:Xn (Xn Xp)):Prop:=
 (∃a c,v=.slice a rows.length c)/\(∀r∈rows,r.length=k)/\(rows≠[]->∃b o c,v=.slice (some ⟨b,o,none⟩) rows.length c/\∀(W:Xo) (F:Xn ae) (w:Xo),Sat W (A::F) w->∀j u,rows.flatten[j]?=some u->w.cell? ⟨b,o+j,none⟩=some u)
section
variable{W0 w:Xo}{F:Xn ae}{v:Xp}{k E:Nat}{rows:Xn (Xn Xp)}
theorem V4.row{A:ae}(h:V4 A k v rows){i:Nat}{x:List Value}(H:rows[i]?=some x):∃ b o c,v=.slice (some ⟨b,o,none⟩) rows.length c/\∀ (W0:World) (F:List ae) (w:World),Sat W0 (A::F) w->∀ j u,x[j]?=some u->w.cell? ⟨b,o+i*k+j,none⟩=some u:=by
 obtain⟨b,o,c,a,d⟩:=h.2.2 (fun e=>by rw[e] at H;cases H);refine⟨b,o,c,a,fun W0 F w f j u g=>?_⟩;have l:=ng h.2.1 H;rw[Nat.add_assoc];exact d W0 F w f _ u (l.at j u g)
end
section
variable{ops:Xv Yf}{Q:YL->Act->Xo->Prop}{n:Nat}{ds:Md}{e:Env}{w w':Xo}{rest:Xn Yf}
variable{op:Op}{ty:XO}{pos:YG}{af:Xv Edge}{d:Nat}{v u:Xp}{W0:Xo}{l l' r r':Xn ae}
attribute [local semireducible] WL WC WQ
def zN{x:XZ}{T b o:Nat}(vs:Xn Xp)(h:ev e x=some (.pointer (some ⟨b,o,none⟩)))(H:lk kV T=some true)(c:lk cY T=some vs.length)
 (f:∀j u,vs[j]?=some u->w.cell? ⟨b,o+j,none⟩=some u) (g:Nat.blt d n=true) (k:WL ops Q n ds rest ((d,.agg vs.toArray)::e) w) (hv:vs.all dk=true:=by first|rfl|assumption) :
 WL ops Q n ds (⟨some d,.load T x,ty,pos,af,none⟩::rest) e w:=
 fY (λW i a m=>Lj m h H c (λj u p=>i.cell (f j u p)) hv) g k
end
def iQ(c:cC):Xn Xp:=[str c.key,str c.val,.bool c.del]
def cZ(l:Xn cC):Xn (Xn Xp):=l.map iQ
@[simp] theorem gI(l:Xn cC):(cZ l).length=l.length:=XT _
variable {l:Xn cC} {i:Nat} {c:cC}
theorem uB (h:l[i]?=some c):(cZ l)[i]?=some (iQ c):=by simp[cZ,h]
theorem rf:∀(l:Xn cC) (q i:Nat) (c:cC),l[i]?=some c->bB q (l.take (i+1))=bB q (l.take i)++[kD c (q+i+1)]
 | x::l,q,0,c,h=>by simp at h;subst h;simp[bB]
 | x::l,q,i+1,c,h=>by
  simp only[aaj]at h;simp only[aaH,bB,List.cons_append];rw[rf l (q+1) i c h,show q+1+i+1=q+(i+1)+1 by omega]
structure TV(l:Xn cC):Prop where
 len:l.length<=8
 key:∀c∈l,c.key.length<=1000
 val:∀c∈l,c.del=false->c.val.length<=1000
theorem wV (h:TV l):∀(q i:Nat),((bB q (l.take i)).map dz).flatten.length<=2100*(l.take i).length:=by
 intro q i;have k:∀(l:Xn cC) (q:Nat),(∀c∈l,c.key.length<=1000)->(∀c∈l,c.del=false->c.val.length<=1000)->((bB q l).map dz).flatten.length<=2100*l.length:=by
  intro l
  induction l with
  | nil=>intro q _ _;simp[bB]
  | cons c r I=>
   intro q K e;have g:=I (q+1) (λx H=>K x (XQ _ H)) λx H=>e x (XQ _ H);have j:(dz (kD c (q+1))).length<=2100:=by
    have a:=K c XC;have b:=e c XC;show(aX c.key++bA (q+1) 8++(if c.del then[255]else aX c.val)).length<=2100;cases f:c.del with
    | true=>simp;omega
    | false=>have:=b f;simp;omega
   simp only[bB,XP,Yd,Xu,X5];omega
 exact k _ q (λc d=>h.key c (Zp d)) λc d=>h.val c (Zp d)
variable{W0 w:Xo}{F:Xn ae}{v:Xp}{d m p:Nat}{T:dB}{D D':ad}{M:Xn ay}
variable {s:St}
def H3 (h:l[i]?=some c):(bB s.seq (l.take (i+1))).foldl gq s.mem=gq ((bB s.seq (l.take i)).foldl gq s.mem) (kD c (s.seq+i+1)):=by
 rw[rf l s.seq i c h,Zq];rfl
theorem nC(l:Xn ay):∀m:Xn ay,(l.foldl gq m).length=m.length+l.length:=by
 induction l with
 | nil=>intro m;rfl
 | cons e r I=>intro m;rw[YI,I];simp;omega
theorem iG:∀(l:Xn cC) (q:Nat),(bB q l).length=l.length
 | [],_=>rfl
 | c::r,q=>by simp[bB,iG r]
def F7 {b:Nat} {K:SK} {sync:XN} {A:ae} {x:YH eX St} (h:mM K.o s D l sync=some (x,D')) (hA:V4 A 3 v (cZ l)) (hl:TV l) (hW:ou W0) (H:Sat W0 (sw b K s::ah K.d D::A::F) w):
 Calls prog 83 #[ax b,v,.bool sync] w λy w'=>∃V,y=.returned V/\Sat W0 (Qf b K x::ah K.d D'::aW V (kv x)::A::F) w':=by
 unfold mM at h;by_cases j:s.seq<=4611686018427387904/\s.mem.length<=1048576
 case neg=>rw[Xx j]at h;cases h
 rw[XE j]at h;obtain⟨ag,ai⟩:=j;have al:=hl.len;obtain⟨G,z,H⟩:=H.mc;refine enter func83 rfl ntmps83 results83 rfl ?_;refine gx ?_;have H:=Sat.ep (k:=1) (E:=5) H;refine ak (met (dm (v:=.slice none 0 0) (bs:=[]) (N:=s.seq) (k:=8) H (by omega) (by simp)) ?_);clear H;rintro _ w ⟨bv,rfl,H⟩;refine⟨_,rfl,?_⟩;rw[List.nil_append]at H;obtain⟨⟨av,cv,rfl⟩,-,-⟩:=id hA;rw[gI];refine gx ?_;refine aL (α:=Nat×Xp) (λq=>[(7,q.2),(0,ax b),(1,.slice av l.length cv),(2,.bool sync),(19,.slice av l.length cv),(20,.int .i64 (l.length:Int)),(21,.int .i64 (q.1:Int))])
  (λq w=>q.1<=l.length/\Sat W0 (cP q.2 (Pure.bA s.seq 8++((bB s.seq (l.take q.1)).map dz).flatten)::blk b 133 (aj K z s)::jb K.d z s.levels::aZ z.m s.mem::bg cB z.sn (aN s.snaps)::ah K.d D::A::F) w) (λq=>l.length-q.1) (0,bv) ⟨rfl,rfl,rfl,rfl,rfl,rfl,rfl,Xr⟩ ⟨XR _,by simpa[bB]using H⟩ ?_
 clear H;rintro⟨i,bv⟩ w ⟨hi,H⟩;dsimp only at hi H |-;by_cases f:i<l.length
 .have j:l[i]?=some l[i]:=Xq f;have I:=ZA f;have r:=rf l s.seq i _ j;generalize l[i]=c at j I r;obtain⟨bb,o,cc,R,g⟩:=hA.row (uB j);rw[gI]at R;obtain⟨rfl,_,rfl⟩:=Yk R;have B:=g W0 _ w (H.take L9);refine gx ?_;refine de (i:=i) rfl rfl rfl rfl rfl f rfl ?_;refine zN (iQ c) rfl rfl rfl B rfl ?_;refine gx ?_;refine aS H ?_;clear H B;intro w b9 H;refine gx ?_;refine fG (vs:=iQ c) H ?_;clear H;intro w H;refine gx ?_;refine bU [blk b9 100 (iQ c),blk b 133 (aj K z s)] [(0,false),(1,false),(2,false),(3,false),(4,false),(5,false),(6,false),(7,false),(8,false),(9,false),(10,false),(11,false),(12,false),(13,false),(14,false),(15,false),(16,true),(17,false)] H (by kernel_rfl) ?_;clear H;intro w H;refine gx ?_;refine zF (aD (kD c (s.seq+i+1))) rfl ?_;refine gx ?_;have J:=wV hl s.seq i;rw[Yb,Zi hi]at J;have S:=hl.key c I;refine ak (met (B4 (x:=kD c (s.seq+i+1)) (H.take dt) (by simp only[Xu,aI];omega) S λhd=>hl.val c I hd) ?_);clear H;rintro _ w ⟨ac,rfl,H⟩;refine⟨_,rfl,?_⟩;refine gx ?_;refine az (i+1,ac) ⟨rfl,rfl,rfl,rfl,rfl,rfl,rfl,Xr⟩ ⟨f,?_⟩ (by dsimp only;omega);dsimp only;rw[r,XK,YN,<- XS];simpa using H.to
 .have L:i=l.length:=by omega
  subst L;rw[YD]at H;have U:¬((l.length:Int)<(l.length:Int)):=by omega
  refine gx ?_;have J:=wV hl s.seq l.length;rw[YD]at J;have am:(Pure.bA s.seq 8++((bB s.seq l).map dz).flatten).length<=20000:=by simp only[Xu,aI];omega
  refine bU [blk b 133 (aj K z s)] [(0,false),(1,false),(2,false),(3,false),(4,false),(5,false),(6,false),(7,false),(8,false),(9,true),(10,true),(11,false)] H (by kernel_rfl) ?_;clear H;intro w H;refine gx ?_;refine ak (met (nf (H.take .here) (by omega)) ?_);clear H;rintro _ w ⟨fv,rfl,H⟩;refine⟨_,rfl,gx ?_⟩;refine ak (met (zf (n:=s.log) (bs:=aA (tu s.seq l)) (F:=blk b 133 (aj K z s)::jb K.d z s.levels::aZ z.m s.mem::bg cB z.sn (aN s.snaps)::A::F) (H.to)) ?_);clear H;rintro _ w ⟨V,rfl,H⟩;refine⟨_,rfl,?_⟩;have W:eJ D (.append s.log (aA (tu s.seq l)))=some (dT D s.log (aA (tu s.seq l)),bG D s.log (aA (tu s.seq l))):=rfl;rw[W]at h;generalize bG D s.log (aA (tu s.seq l))=Q at h H;cases O:dT D s.log (aA (tu s.seq l))with
  | some e=>
   rw[O]at h H;simp only[Xs,XI]at h;obtain⟨rfl,rfl⟩:=h;obtain⟨t,u,rfl⟩:=(H.take iB).bp;refine gx ?_;exact an rfl ⟨_,rfl,Sat.qd (e:=e) (Sat.dq (z:=z) G H.to)⟩
  | none=>
   rw[O]at h H;dsimp only at h;have P:=(H.take iB).ee;subst P;refine jv ?_;refine bT rfl ?_;refine dW ?_;refine jv ?_;refine bT rfl ?_;refine jv ?_;refine bT rfl ?_;refine dx (α:=ad) (λ_=>[(0,ax b),(1,.slice av l.length cv)]) (λC w=>(if K.o.memory<=(eH s l).mem.length then sH K.o (eH s l) C else some (.ok (eH s l),C))=some (x,D')/\Sat W0 (blk b 133 (aj K z s)::jb K.d z s.levels::aZ z.m s.mem::bg cB z.sn (aN s.snaps)::ah K.d C::A::F) w) ?_ ?_
   .cases sync with
    | true=>
     refine gx ?_;refine bU [blk b 133 (aj K z s)] [(0,false),(1,false),(2,false),(3,false),(4,false),(5,false),(6,false),(7,false),(8,true),(9,false)] H (by kernel_rfl) ?_;clear H;intro w H;refine gx ?_;refine ak (met (Hw (n:=s.log) (F:=blk b 133 (aj K z s)::jb K.d z s.levels::aZ z.m s.mem::bg cB z.sn (aN s.snaps)::A::F) (H.to)) ?_);clear H;rintro _ w ⟨V,rfl,H⟩;refine⟨_,rfl,?_⟩;have X:eJ Q (.sync s.log)=some (aY Q s.log,je Q s.log):=rfl;rw[XE rfl,X]at h;generalize je Q s.log=C at h H;cases Y:aY Q s.log with
     | some e=>
      rw[Y]at h H;simp only[Xs,XI]at h;obtain⟨rfl,rfl⟩:=h;obtain⟨t,u,rfl⟩:=(H.take dt).bp;refine gx ?_;exact an rfl ⟨_,rfl,Sat.qd (e:=e) (Sat.dq (z:=z) G H.to)⟩
     | none=>
      rw[Y]at h H;have P:=(H.take dt).ee;subst P;refine gx ?_;exact aH C ⟨rfl,rfl,Xr⟩ ⟨h,H.to⟩
    | false=>
     refine gx ?_;exact aH Q ⟨rfl,rfl,Xr⟩ ⟨h,H.to⟩
   clear H h W O;rintro C w ⟨h,H⟩;refine gx ?_;refine aL (α:=Nat) (λi=>[(0,ax b),(71,.slice av l.length cv),(72,.int .i64 (l.length:Int)),(73,.int .i64 (i:Int))])
    (λi w=>i<=l.length/\Sat W0 (blk b 133 (aj K z { s with seq:=s.seq+i })::aZ z.m ((bB s.seq (l.take i)).foldl gq s.mem)::jb K.d z s.levels::bg cB z.sn (aN s.snaps)::ah K.d C::A::F) w) (λi=>l.length-i) 0 ⟨rfl,rfl,rfl,rfl,Xr⟩ ⟨XR _,by simpa[bB]using H.to⟩ ?_
   clear H;rintro i w ⟨hi,H⟩;by_cases f:i<l.length
   .have j:l[i]?=some l[i]:=Xq f;have r:=H3 (s:=s) j;generalize l[i]=c at j r;obtain⟨bb,o,cc,R,g⟩:=hA.row (uB j);rw[gI]at R;obtain⟨rfl,_,rfl⟩:=Yk R;have B:=g W0 _ w (H.take EF);refine gx ?_;refine de (i:=i) rfl rfl rfl rfl rfl f rfl ?_;refine zN (iQ c) rfl rfl rfl B rfl ?_;refine gx ?_;refine aS H ?_;clear H B;intro w b9 H;refine gx ?_;refine fG (vs:=iQ c) H ?_;clear H;intro w H;generalize Z:({ s with seq:=s.seq+i }:St)=s1 at H;have ao:s1.seq=s.seq+i:=by rw[<- Z]
    refine gx ?_;refine bJ H ?_;clear H;intro w H;subst Z;have H:Sat W0 (blk b9 100 (iQ c)::blk b 133 (aj K z { s with seq:=s.seq+(i+1) })::aZ z.m ((bB s.seq (l.take i)).foldl gq s.mem)::jb K.d z s.levels::bg cB z.sn (aN s.snaps)::ah K.d C::A::F) w:=H.to;refine gx ?_;refine bU [blk b9 100 (iQ c),blk b 133 (aj K z { s with seq:=s.seq+(i+1) })] [(0,false),(1,false),(2,false),(3,false),(4,false),(5,false),(6,false),(7,false),(8,false),(9,false),(10,false),(11,false),(12,false),(13,false),(14,false),(15,true)] H (by kernel_rfl) ?_;clear H;intro w H;refine gx ?_;refine zF (aD (kD c (s.seq+i+1))) rfl ?_;refine gx ?_;refine ak (met (Ph (e:=kD c (s.seq+i+1)) (H.take iB) (by rw[nC,iG,Yb];omega)) ?_);clear H;rintro _ w ⟨rfl,H⟩;refine⟨_,rfl,?_⟩;rw[<- r]at H;refine gx ?_;refine az (i+1) ⟨rfl,rfl,rfl,rfl,Xr⟩ ⟨f,?_⟩ (by omega);exact H.to
   .have L:i=l.length:=by omega
    subst L;rw[YD]at H;have U:¬((l.length:Int)<(l.length:Int)):=by omega
    have H:Sat W0 (blk b 133 (aj K z (eH s l))::jb K.d z (eH s l).levels::aZ z.m (eH s l).mem::bg cB z.sn (aN (eH s l).snaps)::ah K.d C::A::F) w:=H.to;have af:(eH s l).mem.length=s.mem.length+l.length:=by show((bB s.seq l).foldl gq s.mem).length=_;rw[nC,iG]
    refine gx ?_;refine bU [blk b 133 (aj K z (eH s l))] [(0,false),(1,false),(2,false),(3,false),(5,false),(6,false),(7,false),(8,false),(9,false),(4,true),(10,false)] H (by kernel_rfl) ?_;clear H;intro w H;refine gx ?_;refine ak (met (FO (H.take iB)) ?_);clear H;rintro _ w ⟨rfl,H⟩;refine⟨_,rfl,?_⟩;by_cases aa:K.o.memory<=(eH s l).mem.length
    .rw[XE aa]at h;have ab:((eH s l).mem.length:Int) >= (K.o.memory:Int):=by omega
     refine gx ?_;have H:=Sat.dq (s:=eH s l) (z:=z) G (H.to (a:=blk b 133 (aj K z (eH s l))::jb K.d z (eH s l).levels::aZ z.m (eH s l).mem::bg cB z.sn (aN (eH s l).snaps)::ah K.d C::A::F));refine ak (met (wU h hW H) ?_);clear H;rintro _ w ⟨V,rfl,H⟩;refine⟨_,rfl,gx ?_⟩;exact an rfl ⟨_,rfl,H⟩
    .rw[Xx aa]at h;simp only[Xs,XI]at h;obtain⟨rfl,rfl⟩:=h;have ab:¬((eH s l).mem.length:Int) >= (K.o.memory:Int):=by omega
     refine gx ?_;have H:=Sat.dq (s:=eH s l) (z:=z) G (H.to (a:=blk b 133 (aj K z (eH s l))::jb K.d z (eH s l).levels::aZ z.m (eH s l).mem::bg cB z.sn (aN (eH s l).snaps)::ah K.d C::A::F));exact an rfl ⟨_,rfl,(Sat.iy H).to⟩
end
section
variable[Bs0:Base][NQ]
open Pure (ad ay Rd bF less aO aU bA aX aA dz dec my gq cC kD bB aI)
attribute [local irreducible] IntKind.wrap
section
variable{ops:Xv Yf}{Q:YL->Act->Xo->Prop}{n:Nat}{ds:Md}{e:Env}{w w':Xo}{rest:Xn Yf}
variable{op:Op}{ty:XO}{pos:YG}{af:Xv Edge}{d:Nat}{v u:Xp}{W0:Xo}{l l' r r':Xn ae}
attribute [local semireducible] WL WC WQ
theorem Pj{x y:XZ}{t bb o k h':Nat}{p:Nat×Nat}{Y:Int}(b:ev e x=some (.pointer (some ⟨bb,o,none⟩)))(c:lk An t=some p)(h:lk cY p.2=some k)(f:ev e y=some (.int .i64 Y))(g:Y=(h':Int))(h1:h'<p.1)(i:Nat.blt d n=true)
 (kk:WL ops Q n ds rest ((d,.slice (some ⟨bb,o+h'*k,none⟩) (p.1-h') (p.1-h'))::e) w):WL ops Q n ds (⟨some d,.slice t x (some y) none none,ty,pos,af,none⟩::rest) e w:=by
 subst g;refine ey (λw a H E=>?_) i kk;have j:=oJ c;have m:h'<=p.1:=by omega
 have q:¬p.1=h':=by omega
 simp[execOp,H.ev b,H.ev f,Instr.sliceAt,Instr.sureAddr,bx j,db h,Instr.sliceBounds,Instr.sliceBound,asIntOf,m,q,add_eq]
end
variable{W0 w:Xo}{F:Xn ae}{v:Xp}{d m p:Nat}{T:dB}{D D':ad}{M:Xn ay}
variable {l:Xn ae}
def Pk (h:∀A∈l,Qc A):Qc (star l):=zk h
def uC(d:Nat):∀(ps:Xn Nat) (t:Xn dB),Qc (star (List.zipWith (du d) ps t)):=λps t=>Pk λA h=>by
 obtain⟨i,H,rfl⟩:=Zb.1 h;rw[List.getElem_zipWith];exact zq _ _ _
def H4(z:SZ)(P:Xn (Xn Nat)):ae:=star (List.zipWith (λv (a:Xn Nat)=>aE 1 v 193 a.length (a.map ax)) z.AD P)
abbrev il(d:Nat)(ps:Xn Nat)(Ts:Xn dB):ae:=star (List.zipWith (du d) ps Ts)
variable {z:SZ} {t0 t1 t2 t3:Xn dB}
def Sat.Rx (h:Sat W0 (jb d z [t0,t1,t2,t3]::F) w):∃P b c e:Xn Nat,(P.length=t0.length/\b.length=t1.length/\c.length=t2.length/\e.length=t3.length) /\
 Sat W0 (H4 z [P,b,c,e]::il d P t0::il d b t1::il d c t2::il d e t3::F) w:=by
 have h:=h.Pb;obtain⟨P,H,h⟩:=h.lD;obtain⟨b,f,h⟩:=(h.take iB).lD;obtain⟨c,g,h⟩:=(h.take yw).lD;obtain⟨e,i,h⟩:=(h.take L9).lD;refine⟨P,b,c,e,⟨H,f,g,i⟩,?_⟩;have j:Sat W0 (aE 1 z.l0 193 P.length (P.map ax)::aE 1 z.l1 193 b.length (b.map ax)::aE 1 z.l2 193 c.length (c.map ax)::aE 1 z.l3 193 e.length (e.map ax)::il d P t0::il d b t1::il d c t2::il d e t3::F) w:=h.to;exact j.imp λ_ k=>cu (a:=[aE 1 z.l0 193 P.length (P.map ax),aE 1 z.l1 193 b.length (b.map ax),aE 1 z.l2 193 c.length (c.map ax),aE 1 z.l3 193 e.length (e.map ax)]) k
def Sat.Lx {e c b P:Xn Nat} (hl:e.length=t0.length/\c.length=t1.length/\b.length=t2.length/\P.length=t3.length) (h:Sat W0 (H4 z [e,c,b,P]::il d e t0::il d c t1::il d b t2::il d P t3::F) w):Sat W0 (jb d z [t0,t1,t2,t3]::F) w:=by
 have H:Sat W0 (aE 1 z.l0 193 e.length (e.map ax)::aE 1 z.l1 193 c.length (c.map ax)::aE 1 z.l2 193 b.length (b.map ax)::aE 1 z.l3 193 P.length (P.map ax)::il d e t0::il d c t1::il d b t2::il d P t3::F) w:=
  h.imp λ_ k=>cD (a:=[aE 1 z.l0 193 e.length (e.map ax),aE 1 z.l1 193 c.length (c.map ax),aE 1 z.l2 193 b.length (b.map ax),aE 1 z.l3 193 P.length (P.map ax)]) k
 have f:=Sat.lJ (d:=d) hl.1 (H.to (a:=aE 1 z.l0 193 e.length (e.map ax)::il d e t0::aE 1 z.l1 193 c.length (c.map ax)::aE 1 z.l2 193 b.length (b.map ax)::aE 1 z.l3 193 P.length (P.map ax)::il d c t1::il d b t2::il d P t3::F));have g:=Sat.lJ (d:=d) hl.2.1 (f.to (a:=aE 1 z.l1 193 c.length (c.map ax)::il d c t1::eW d z.l0 t0::aE 1 z.l2 193 b.length (b.map ax)::aE 1 z.l3 193 P.length (P.map ax)::il d b t2::il d P t3::F));have i:=Sat.lJ (d:=d) hl.2.2.1 (g.to (a:=aE 1 z.l2 193 b.length (b.map ax)::il d b t2::eW d z.l0 t0::eW d z.l1 t1::aE 1 z.l3 193 P.length (P.map ax)::il d P t3::F));have j:=Sat.lJ (d:=d) hl.2.2.2 (i.to (a:=aE 1 z.l3 193 P.length (P.map ax)::il d P t3::eW d z.l0 t0::eW d z.l1 t1::eW d z.l2 t2::F));exact Sat.HY j.to
variable {pss:Xn (Xn Nat)} {i:Nat} {ps:Xn Nat}
def Sat.Pl (H:pss[i]?=some ps) (hv:z.AD[i]?=some v) (h:Sat W0 (H4 z pss::F) w):∃R,Sat W0 (aE 1 v 193 ps.length (ps.map ax)::R::F) w:=by
 have a:=fV (λv (ps:Xn Nat)=>aE 1 v 193 ps.length (ps.map ax)) hv H;refine⟨star ((List.zipWith (λv (ps:Xn Nat)=>aE 1 v 193 ps.length (ps.map ax)) z.AD pss).take i++(List.zipWith (λv (ps:Xn Nat)=>aE 1 v 193 ps.length (ps.map ax)) z.AD pss).drop (i+1)),?_⟩;unfold H4 at h;rw[eT a]at h;exact h.ie
def Sat.JB (H:pss[i]?=some ps) (hv:z.AD[i]?=some v) (h:Sat W0 (H4 z pss::F) w):∃a c,v=.slice a ps.length c:=by
 obtain⟨R,h⟩:=h.Pl H hv;obtain⟨a,c,rfl,-⟩:=h.aC;exact⟨a,c,rfl⟩
def Sat.VD {j p:Nat} (e:pss[i]?=some ps) (hv:z.AD[i]?=some v) (H:ps[j]?=some p) (h:Sat W0 (H4 z pss::F) w):∃bb c cs E f,v=.slice (some ⟨bb,0,none⟩) ps.length c/\cs[0+j*1]?=some (ax p)/\Sat W0 (blk bb E cs::f) w:=by
 obtain⟨R,h⟩:=h.Pl e hv;obtain⟨bb,C,r,rfl,q,Q,g,a⟩:=h.iv (by have:=(Xw.1 H).1;omega);refine⟨bb,C,_,_,_,rfl,?_,a⟩;have b:=(Xw.1 H).1;rw[X0,YA,XH (by simpa using b),Yy,H];rfl
abbrev DF(m:Nat):Xp:=.iface 117 (ax m)
abbrev Gw(p:Nat):Xp:=.iface 193 (ax p)
variable {a:Xn Nat} {A:Xn dB}
theorem Sat.Pm {b:Xn Nat} {B:Xn dB} (h1:a.length=A.length) (h:Sat W0 (il d a A::il d b B::F) w):Sat W0 (il d (a++b) (A++B)::F) w:=by
 show Sat W0 (star (List.zipWith (du d) (a++b) (A++B))::F) w;rw[Zh (by exact h1)];refine h.imp λ_ k=>?_;have K:=cD k;refine cu (a:=List.zipWith (du d) a A++List.zipWith (du d) b B) ?_;rw[XS];obtain⟨x,X,f,L,c,r,R⟩:=dV K;exact jh f L c r (cD R)
theorem Ly {l':Xn ae} (h:l.Perm l'):∀{hp:Hp},cj l hp->cj l' hp:=by
 induction h with
 | nil=>exact id
 | cons A _ c=>exact λk=>bH (λ_=>c) k
 | swap A B l=>exact ft
 | trans _ _ I b=>exact λk=>b (I k)
def Sat.VE (h1:a.length=A.length) (h:Sat W0 (il d a A::F) w):Sat W0 (il d a.reverse A.reverse::F) w:=by
 refine h.head λ_ k=>?_;show cj (List.zipWith (du d) a.reverse A.reverse) _;rw[<- List.reverse_zipWith h1];exact Ly (List.reverse_perm _).symm k
def Dr {b:Nat} {K:SK} {s:St} (hl:s.levels.length=4) (Q:(fy s).length<=1099511627776) (h:Sat W0 (blk b 133 (aj K z s)::jb K.d z s.levels::F) w):
 Calls prog 148 #[ax b] w λx w'=>∃(v:Xp) (ps:Xn Nat),x=.returned v/\ps.length=(fy s).length/\Sat W0 (aE 1 v 261 (1+ps.length) (DF z.m::ps.map Gw)::il K.d ps (fy s)::blk b 133 (aj K z s)::jb K.d z s.levels::F) w':=by
 obtain⟨t0,t1,t2,t3,y⟩:=four hl;have r:fy s=t0.reverse++(t1++(t2++t3)):=by unfold fy;rw[y];simp
 rw[y]at h;rw[r]at Q;simp only[Xu,List.length_reverse]at Q;obtain⟨P,e,f,g,I,h⟩:=(h.take dt).Rx;have h:=h.to (a:=blk b 133 (aj K z s)::H4 z [P,e,f,g]::il K.d P t0::il K.d e t1::il K.d f t2::il K.d g t3::F);suffices hw:Calls prog 148 #[ax b] w λx w'=>∃v,x=.returned v/\Sat W0 (aE 1 v 261 (1+(P.reverse++(e++(f++g))).length) (DF z.m::(P.reverse++(e++(f++g))).map Gw)::blk b 133 (aj K z s)::H4 z [P,e,f,g]::il K.d P t0::il K.d e t1::il K.d f t2::il K.d g t3::F) w' by
  refine met hw ?_;clear h hw;rintro _ w ⟨v,rfl,h⟩;refine⟨v,P.reverse++(e++(f++g)),rfl,by rw[r];simp[I],?_⟩;have h0:=Sat.zl (uC K.d P t0) (h.take IQ);have h1:=Sat.zl (uC K.d e t1) (h0.take EF);have h2:=Sat.zl (uC K.d f t2) (h1.take Uk);have h3:=Sat.zl (uC K.d g t3) (h2.take VW);have h4:=Sat.Pm I.2.2.1 (h3.to (a:=il K.d f t2::il K.d g t3::il K.d P t0::il K.d P t0::il K.d e t1::il K.d e t1::il K.d f t2::il K.d g t3::aE 1 v 261 (1+(P.reverse++(e++(f++g))).length) (DF z.m::(P.reverse++(e++(f++g))).map Gw)::blk b 133 (aj K z s)::H4 z [P,e,f,g]::F));have h5:=Sat.Pm I.2.1 (h4.take IQ);have h6:=Sat.VE I.1 (h5.take dt);have h7:=Sat.Pm (by simp[I.1]) (h6.to (a:=il K.d P.reverse t0.reverse::il K.d (e++(f++g)) (t1++(t2++t3))::H4 z [P,e,f,g]::il K.d P t0::il K.d e t1::il K.d f t2::il K.d g t3::aE 1 v 261 (1+(P.reverse++(e++(f++g))).length) (DF z.m::(P.reverse++(e++(f++g))).map Gw)::blk b 133 (aj K z s)::F));have h8:=Sat.Lx I (h7.to (a:=H4 z [P,e,f,g]::il K.d P t0::il K.d e t1::il K.d f t2::il K.d g t3::il K.d (P.reverse++(e++(f++g))) (t0.reverse++(t1++(t2++t3)))::aE 1 v 261 (1+(P.reverse++(e++(f++g))).length) (DF z.m::(P.reverse++(e++(f++g))).map Gw)::blk b 133 (aj K z s)::F));rw[r,y];exact h8.to
 have ab:P.length+(e.length+(f.length+g.length))<=1099511627776:=by omega
 clear Q r y hl;refine enter func148 rfl ntmps148 results148 rfl ?_;refine gx ?_;refine eS h ?_;clear h;intro w bl h;have h:=Sat.gE (k:=1) (len:=1) (cs:=[DF z.m]) (rest:=[]) (cap:=1) h (XD _) (by decide) rfl rfl (by simp[dk]);have h:=h.to (a:=aE 1 (.slice (some ⟨bl,0,none⟩) 1 1) 261 1 [DF z.m]::blk b 133 (aj K z s)::H4 z [P,e,f,g]::il K.d P t0::il K.d e t1::il K.d f t2::il K.d g t3::F);obtain⟨a0,c0,R⟩:=(h.take iB).JB (i:=0) (ps:=P) rfl (v:=z.l0) rfl;refine gx ?_;refine yJ (p:=(4,129)) rfl rfl rfl rfl (by omega) (by show(0:Int)<4;omega) rfl ?_;refine gx ?_;rw[R];refine gx ?_;refine aL (α:=Nat×Xp) (λq=>[(0,ax b),(3,q.2),(4,.int .i64 ((q.1:Int)-1))])
  (λq w=>q.1<=P.length/\Sat W0 (aE 1 q.2 261 (1+(P.drop q.1).reverse.length) (DF z.m::(P.drop q.1).reverse.map Gw)::blk b 133 (aj K z s)::H4 z [P,e,f,g]::il K.d P t0::il K.d e t1::il K.d f t2::il K.d g t3::F) w) (λq=>q.1) (P.length,_) ⟨rfl,rfl,rfl,Xr⟩ ⟨XD _,by simpa using h⟩ ?_
 clear h;rintro⟨k,v⟩ w ⟨hk,h⟩;dsimp only at hk h |-;cases k with
 | succ k=>
  have ac:((k+1:Nat):Int)-1 >= 0:=by omega
  have J:P[k]?=some P[k]:=Xq (by omega);have L:P.drop k=P[k]::P.drop (k+1):=XX (by omega);generalize P[k]=q at J L;refine gx ?_;refine yJ (p:=(4,129)) rfl rfl rfl rfl (by omega) (by show(0:Int)<4;omega) rfl ?_;refine gx ?_;obtain⟨bb,c,cs,E,F',S,o,u⟩:=(h.take iB).VD (i:=0) (ps:=P) rfl (v:=z.l0) rfl J;rw[S];refine de (i:=k) rfl rfl (by omega) rfl rfl (by omega) rfl ?_;refine fF u rfl rfl .here o rfl ?_;clear u;obtain⟨av,cv,rfl,-⟩:=h.aC;have U:(P.drop (k+1)).reverse.length<=P.length:=by simp
  refine gx ?_;refine eS h ?_;clear h;intro w b2 h;refine dZ h ?_;clear h;intro V w h;refine gx ?_;refine az (k,V) ⟨rfl,rfl,?_,Xr⟩ ⟨by omega,?_⟩ (by dsimp only;omega)
  .show some (Value.int .i64 (((k+1:Nat):Int)-1-1))=some (Value.int .i64 ((k:Int)-1));rw[show((k+1:Nat):Int)-1-1=(k:Int)-1 by omega]
  .have e1:(P.drop k).reverse=(P.drop (k+1)).reverse++[q]:=by rw[L,List.reverse_cons]
   dsimp only;rw[e1,Xu,XK];exact h.to
 | zero=>
  have af:¬(((0:Nat):Int)-1 >= 0):=by omega
  refine gx ?_;refine Pj (p:=(4,129)) (h':=1) rfl rfl rfl rfl rfl (by show 1<4;omega) rfl ?_;refine gx ?_;rw[ZE]at h;refine aL (α:=Nat×Xp) (λq=>[(0,ax b),(3,q.2),(41,.slice (some ⟨b,8,none⟩) 3 3),(42,.int .i64 3),(43,.int .i64 (q.1:Int))])
   (λq w=>q.1<=3/\Sat W0 (aE 1 q.2 261 (1+(P.reverse++(([e,f,g].take q.1).flatten)).length) (DF z.m::(P.reverse++(([e,f,g].take q.1).flatten)).map Gw)::blk b 133 (aj K z s)::H4 z [P,e,f,g]::il K.d P t0::il K.d e t1::il K.d f t2::il K.d g t3::F) w) (λq=>3-q.1) (0,v) ⟨rfl,rfl,rfl,rfl,rfl,Xr⟩ ⟨by omega,by simpa using h⟩ ?_
  clear h;rintro⟨i,v⟩ w ⟨hi,h⟩;dsimp only at hi h |-;by_cases t:i<3
  .have C:(i:Int)<3:=by omega
   obtain⟨ps,H⟩:∃ps,[P,e,f,g][i+1]?=some ps:=⟨_,Xq (by simp;omega)⟩;obtain⟨vi,n⟩:∃vi,z.AD[i+1]?=some vi:=⟨_,Xq (by simp[SZ.AD];omega)⟩;have W:(aj K z s)[8+i*1]?=some vi:=by
    match i,t,n with
    | 0,_,n=>exact n
    | 1,_,n=>exact n
    | 2,_,n=>exact n
   have X:([e,f,g].take (i+1)).flatten=([e,f,g].take i).flatten++ps:=by
    match i,t,H with
    | 0,_,H=>simp at H;simp[H]
    | 1,_,H=>simp at H;simp[H]
    | 2,_,H=>simp at H;simp[H]
   have Y:(P.reverse++(([e,f,g].take i).flatten)).length+ps.length<=1099511627776:=by
    match i,t,H with
    | 0,_,H=>simp at H;simp[<- H];omega
    | 1,_,H=>simp at H;simp[<- H];omega
    | 2,_,H=>simp at H;simp[<- H];omega
   obtain⟨ai,ci,rfl⟩:=(h.take iB).JB H n;generalize N:P.reverse++(([e,f,g].take i).flatten)=acc at h Y;refine gx ?_;refine de (i:=i) rfl rfl rfl rfl rfl t rfl ?_;refine fF h rfl rfl (.there .here) W rfl ?_;refine gx ?_;refine aL (α:=Nat×Xp) (λq=>[(0,ax b),(3,q.2),(41,.slice (some ⟨b,8,none⟩) 3 3),(42,.int .i64 3),(43,.int .i64 (i:Int)),(47,.slice ai ps.length ci),(48,.int .i64 (ps.length:Int)),(49,.int .i64 (q.1:Int))])
    (λq w=>q.1<=ps.length/\Sat W0 (aE 1 q.2 261 (1+(acc++ps.take q.1).length) (DF z.m::(acc++ps.take q.1).map Gw)::blk b 133 (aj K z s)::H4 z [P,e,f,g]::il K.d P t0::il K.d e t1::il K.d f t2::il K.d g t3::F) w) (λq=>ps.length-q.1) (0,v) ⟨rfl,rfl,rfl,rfl,rfl,rfl,rfl,rfl,Xr⟩ ⟨by omega,by simpa using h⟩ ?_
   clear h;rintro⟨j,v⟩ w ⟨hj,h⟩;dsimp only at hj h |-;by_cases B:j<ps.length
   .have G:(j:Int)<(ps.length:Int):=by omega
    have J:ps[j]?=some ps[j]:=Xq B;have O:ps.take (j+1)=ps.take j++[ps[j]]:=by rw[YC,J];rfl
    generalize ps[j]=q at J O;refine gx ?_;obtain⟨bb,c,cs,E,F',S,o,u⟩:=(h.take iB).VD H n J;obtain⟨rfl,_,rfl⟩:=Yk S;refine de (i:=j) rfl rfl rfl rfl rfl B rfl ?_;refine fF u rfl rfl .here o rfl ?_;clear u;obtain⟨av,cv,rfl,-⟩:=h.aC;have U:(acc++ps.take j).length<=1099511627776:=by rw[Xu,Yb];omega
    refine gx ?_;refine eS h ?_;clear h;intro w b2 h;refine dZ h ?_;clear h;intro V w h;refine gx ?_;refine az (j+1,V) ⟨rfl,rfl,rfl,rfl,rfl,rfl,rfl,rfl,Xr⟩ ⟨by omega,?_⟩ (by dsimp only;omega);dsimp only;rw[O,<- XS];generalize acc++ps.take j=ag at h;rw[Xu,XK];exact h.to
   .have Z:j=ps.length:=by omega
    subst Z;have G:¬((ps.length:Int)<(ps.length:Int)):=by omega
    rw[YD]at h;refine gx ?_;refine az (i+1,v) ⟨rfl,rfl,rfl,rfl,rfl,Xr⟩ ⟨by omega,?_⟩ (by dsimp only;omega);dsimp only;rw[X,<- XS,N];exact h.to
  .have aa:i=3:=by omega
   subst aa;have C:¬(((3:Nat):Int)<3):=by omega
   refine gx ?_;have e3:([e,f,g].take 3).flatten=e++(f++g):=by simp
   rw[e3]at h;exact an rfl ⟨v,rfl,h⟩
