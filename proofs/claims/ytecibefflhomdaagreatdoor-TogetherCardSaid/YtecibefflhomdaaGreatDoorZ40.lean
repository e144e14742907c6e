/-
  Part 40: WALKS package levels; WALKS package levels; WALKS package levels.
-/
import Derived.Test.YtecibefflhomdaaGreatDoorZ39
set_option maxHeartbeats 8000000
set_option maxRecDepth 100000
set_option linter.all false
namespace Go.Proofs.YtecibefflhomdaaGreatDoor
open Go Proofs.Tryz
section
variable[Bs0:Base][NQ]
open Pure (ad ay Rd bF less aO aU bA aX aA dz dec my)
attribute [local irreducible] IntKind.wrap
section
variable{ops:Xv Yf}{Q:YL->Act->Xo->Prop}{n:Nat}{ds:Md}{e:Env}{w w':Xo}{rest:Xn Yf}{ord:Xn (Nat×XN)}{S:Xo->Prop}
variable{op:Op}{ty:XO}{pos:YG}{af:Xv Edge}{d i j:Nat}{v u:Xp}{W0:Xo}{l l' r r':Xn ae}
theorem O3{x y:XZ}{t:Nat}{vs:Xn Xp}{Y:Int}{m:Nat}{p:Nat×Nat}(f:ev e x=some (.agg vs.toArray))(g:ev e y=some (.int .i64 Y))(k:Y=(m:Int))(o:lk An t=some p)(H:lk cY p.2=some 1)(b:lk kV p.2=some false)(hm:m<p.1)(q:vs[m]?=some v)(s:Nat.blt d n=true)
 (kk:WL ops Q n ds rest ((d,v)::e) w):WL ops Q n ds (⟨some d,.index t x y,ty,pos,af,none⟩::rest) e w:=by
 subst k;refine ey (λw a c E=>?_) s kk;have z:((m:Int)<(p.1:Int)):=by omega
 have A:=bx (w:=w) (oJ o);have B:=db (w:=w) H;have C:=vD (w:=w) b;simp[execOp,c.ev f,c.ev g,Instr.index,asIntOf,A,B,part,C,q,z];exact⟨λh=>by omega,λh=>by omega⟩
end
variable{W0 w:Xo}{F:Xn ae}{v:Xp}{d m p:Nat}{T:dB}{D D':ad}{M:Xn ay}
variable {b bS:Nat} {K:SK} {z:SZ} {s:St}
def HR (hm:D.moves.length<=1099511627776) (h:Sat W0 (blk bS 31 [ax b]::blk b 133 (aj K z s)::ah K.d D::F) w):
 Calls prog 173 #[ax bS] w λx w'=>∃V,x=.returned V/\Sat W0 (blk bS 31 [ax b]::blk b 133 (aj K z s)::ah K.d (cI D aQ)::aW V (iu D aQ)::F) w':=by
 refine enter func173 rfl ntmps173 results173 rfl ?_;refine gx ?_;refine ak (met (zd (n:=aQ) (h.take iB) hm) ?_);rintro _ w ⟨V,rfl,h⟩;refine⟨_,rfl,gx ?_⟩;exact an rfl ⟨_,rfl,h.to⟩
def HS {B:Nat} {V:Xp} {bs:Bs} (H:bs.length<=4294967295) (h:Sat W0 (blk bS 31 [ax b]::blk b 133 (aj K z s)::ah K.d D::blk B 93 [V]::cP V bs::F) w):
 Calls prog 174 #[ax bS,ax B] w λx w'=>∃a,x=.returned a/\Sat W0 (blk bS 31 [ax b]::blk b 133 (aj K z s)::ah K.d (bG D aQ (aA bs))::aW a (dT D aQ (aA bs))::blk B 93 [V]::cP V bs::F) w':=by
 refine enter func174 rfl ntmps174 results174 rfl ?_;refine gx ?_;refine bU [blk bS 31 [ax b],blk b 133 (aj K z s),blk B 93 [V]] [(0,false),(1,false),(2,false),(3,false),(4,false),(5,true),(6,true),(7,false)] h (by kernel_rfl) ?_;clear h;intro w h;refine gx ?_;refine ak (met (nf (h.take yw) H) ?_);clear h;rintro _ w ⟨c,rfl,h⟩;refine⟨_,rfl,gx ?_⟩;refine ak (met (zf (n:=aQ) (bs:=aA bs) (h.p7 yw .here)) ?_);clear h;rintro _ w ⟨a,rfl,h⟩;refine⟨_,rfl,gx ?_⟩;exact an rfl ⟨_,rfl,h.to⟩
def HT (h:Sat W0 (blk bS 31 [ax b]::blk b 133 (aj K z s)::ah K.d D::F) w):
 Calls prog 175 #[ax bS] w λx w'=>∃V,x=.returned V/\Sat W0 (blk bS 31 [ax b]::blk b 133 (aj K z s)::ah K.d (je D aQ)::aW V (aY D aQ)::F) w':=by
 refine enter func175 rfl ntmps175 results175 rfl ?_;refine gx ?_;refine ak (met (Hw (n:=aQ) (h.take iB)) ?_);rintro _ w ⟨V,rfl,h⟩;refine⟨_,rfl,gx ?_⟩;exact an rfl ⟨_,rfl,h.to⟩
def HU (hm:D.moves.length<=1099511627776) (h:Sat W0 (blk bS 31 [ax b]::blk b 133 (aj K z s)::ah K.d D::F) w):
 Calls prog 176 #[ax bS] w λx w'=>∃V,x=.returned V/\Sat W0 (blk bS 31 [ax b]::blk b 133 (aj K z s)::ah K.d (gU D aQ aM)::aW V (aY D aQ)::F) w':=by
 refine enter func176 rfl ntmps176 results176 rfl ?_;refine gx ?_;refine ak (met (Og (n:=aQ) (m:=aM) (h.take iB) hm) ?_);rintro _ w ⟨V,rfl,h⟩;refine⟨_,rfl,gx ?_⟩;exact an rfl ⟨_,rfl,h.to⟩
def HV {B:Nat} {old:Bs} (hm:D.moves.length<=1099511627776) (h:Sat W0 (blk bS 31 [ax b]::blk b 133 (aj K z s)::ah K.d D::blk B 9 [str old]::F) w):
 Calls prog 179 #[ax bS,ax B] w λx w'=>∃V,x=.returned V/\Sat W0 (blk bS 31 [ax b]::blk b 133 (aj K z s)::ah K.d (fX D old)::aW V (aY D old)::blk B 9 [str old]::F) w':=by
 refine enter func179 rfl ntmps179 results179 rfl ?_;refine gx ?_;refine bU [blk bS 31 [ax b],blk b 133 (aj K z s),blk B 9 [str old]] [(0,false),(1,false),(2,false),(3,false),(4,false),(5,true),(6,false)] h (by kernel_rfl) ?_;clear h;intro w h;refine gx ?_;refine ak (met (ze (n:=old) (h.take iB) hm) ?_);clear h;rintro _ w ⟨V,rfl,h⟩;refine⟨_,rfl,gx ?_⟩;exact an rfl ⟨_,rfl,h.to⟩
structure Vz where
 b:Nat
 bS:Nat
 b5:Nat
 b7:Nat
 K:SK
 z:SZ
 s:St
 vb:Xp
 old:Bs
abbrev O4(G:Vz)(D:ad):Xn ae:=[blk G.bS 31 [ax G.b],blk G.b 133 (aj G.K G.z G.s),ah G.K.d D,blk G.b7 93 [G.vb],cP G.vb (cz G.s),blk G.b5 9 [str G.old]]
def Qe(G:Vz):Xn Xp:=[.func (.func 173) #[] #[ax G.bS],.func (.func 174) #[] #[ax G.bS,ax G.b7],.func (.func 175) #[] #[ax G.bS],.func (.func 176) #[] #[ax G.bS],.func (.func 178) #[ax G.K.d] #[],.func (.func 179) #[] #[ax G.bS,ax G.b5]]
def O5(G:Vz):Xn P5:=[.create aQ,.append aQ (aA (cz G.s)),.sync aQ,.rename aQ aM,.Ct,.remove G.old]
variable {i:Nat}
def HW {G:Vz} {o:P5} {E:XB eX} {k:ad} (l:(cz G.s).length<=4294967295) (H:(O5 G)[i]?=some o) (h:eJ D o=some (E,k)) (j:Sat W0 (O4 G D++F) w):
 ∃f p q,(Qe G)[i]?=some (.func (.func f) p q)/\lk vC f=some ()/\Calls prog f (p.toList++[]++q.toList).toArray w λx w'=>∃V,x=.returned V/\Sat W0 (O4 G k++aW V E::F) w':=by
 dsimp only[O4,List.cons_append,List.nil_append]at j |-;unfold O5 at H
 match i,H with
 | 0,H=>
  obtain rfl:=Xt H;unfold eJ at h;dsimp only at h;split at h
  .rename_i g;rw[bC]at g;simp only[Xs,XI]at h;obtain⟨rfl,rfl⟩:=h;exact⟨173,#[],#[ax G.bS],rfl,rfl,(HR g j).mono λ_ _ ⟨V,c,e⟩=>⟨V,c,e.to⟩⟩
  .cases h
 | 1,H=>
  obtain rfl:=Xt H;unfold eJ at h;simp only[Xs,XI]at h;obtain⟨rfl,rfl⟩:=h;exact⟨174,#[],#[ax G.bS,ax G.b7],rfl,rfl,(HS l j).mono λ_ _ ⟨V,c,e⟩=>⟨V,c,e.to⟩⟩
 | 2,H=>
  obtain rfl:=Xt H;unfold eJ at h;simp only[Xs,XI]at h;obtain⟨rfl,rfl⟩:=h;exact⟨175,#[],#[ax G.bS],rfl,rfl,(HT j).mono λ_ _ ⟨V,c,e⟩=>⟨V,c,e.to⟩⟩
 | 3,H=>
  obtain rfl:=Xt H;unfold eJ at h;dsimp only at h;split at h
  .rename_i g;rw[bC]at g;simp only[Xs,XI]at h;obtain⟨rfl,rfl⟩:=h;exact⟨176,#[],#[ax G.bS],rfl,rfl,(HU g j).mono λ_ _ ⟨V,c,e⟩=>⟨V,c,e.to⟩⟩
  .cases h
 | 4,H=>
  obtain rfl:=Xt H;unfold eJ at h;simp only[Xs,XI]at h;obtain⟨rfl,rfl⟩:=h;exact⟨178,#[ax G.K.d],#[],rfl,rfl,(Ld (j.take iB)).mono λ_ _ ⟨V,c,e⟩=>⟨V,c,e.to⟩⟩
 | 5,H=>
  obtain rfl:=Xt H;unfold eJ at h;dsimp only at h;split at h
  .rename_i g;rw[bC]at g;simp only[Xs,XI]at h;obtain⟨rfl,rfl⟩:=h;exact⟨179,#[],#[ax G.bS,ax G.b5],rfl,rfl,(HV g (j.to (a:=blk G.bS 31 [ax G.b]::blk G.b 133 (aj G.K G.z G.s)::ah G.K.d D::blk G.b5 9 [str G.old]::blk G.b7 93 [G.vb]::cP G.vb (cz G.s)::F))).mono λ_ _ ⟨V,c,e⟩=>⟨V,c,e.to⟩⟩
  .cases h
 | i+6,H=>simp at H
theorem B7:∀(L:Xn (Xn dB)) (i:Nat),(∀l∈L,l.length<=1048576/\∀T∈l,T.name.length<=255)->(fe i L).length<=L.length*269484032
 | [],_,_=>by simp[fe]
 | l::r,i,h=>by
  have e:=B7 r (i+1) λx H=>h x (XQ _ H);obtain⟨f,c⟩:=h l XC;have k:∀(l:Xn dB),(∀T∈l,T.name.length<=255)->((l.map λT=>UInt8.ofNat i::aX T.name).flatten).length<=l.length*257:=by
   intro l
   induction l with
   | nil=>intro _;simp
   | cons T q I=>
    intro a;have g:=a T XC;have A:=I λx H=>a x (XQ _ H);simp only[XP,Yd,Xu,X5,Pure.dP]at A |-;omega
  have:=k l c;simp only[fe,Xu,X5];omega
theorem vX:∀(a:Xn (Xn dB)) (k:Nat) (l:Xn dB),fe k (a++[l])=fe k a++(l.map λT=>UInt8.ofNat (k+a.length)::aX T.name).flatten
 | [],k,l=>by simp[fe]
 | x::a,k,l=>by
  simp only[List.cons_append,fe,vX a (k+1) l,XS,X5];rw[show k+1+a.length=k+(a.length+1)by omega]
theorem zK:∀(L:Xn (Xn dB)) (i k:Nat),i<=L.length->fe k L=fe k (L.take i)++fe (k+i) (L.drop i)
 | _,0,k,_=>by simp[fe]
 | [],i+1,k,h=>by simp at h
 | l::r,i+1,k,h=>by
  simp only[aaH,List.drop_succ_cons,fe,XS];rw[zK r i (k+1) (by simpa using h),show k+1+i=k+(i+1)by omega]
theorem HX (h:wq s=true):s.number<=4611686018427387904/\s.seq<=4611686018427387904/\s.log.length<=255/\∀l∈s.levels,l.length<=1048576/\∀T∈l,T.name.length<=255:=by
 unfold wq at h;simp only[Yp,ZG,aae,X4]at h;exact⟨h.1.1.1,h.1.1.2,h.1.2,h.2⟩
def xe(s:St):Bs:=bA s.number 8++bA s.seq 8++aX s.log
theorem vY(s:St):cz s=xe s++fe 0 s.levels:=rfl
variable {t0 t1 t2 t3:Xn dB} {nl:XN} {x:YH eX St}
def F5 (h:iV s D nl=some (x,D')) (hlv:s.levels=[t0,t1,t2,t3]) (hW:ou W0) (H:Sat W0 (blk b 133 (aj K z s)::eW K.d z.l0 t0::eW K.d z.l1 t1::eW K.d z.l2 t2::eW K.d z.l3 t3::ah K.d D::F) w):
 Calls prog 100 #[ax b,.bool nl] w λy w'=>∃ve s',y=.returned ve/\(∀r,x=.ok r->s'=r)/\(∃X Y,s'={ s with number:=X,log:=Y }) /\
  Sat W0 (blk b 133 (aj K z s')::eW K.d z.l0 t0::eW K.d z.l1 t1::eW K.d z.l2 t2::eW K.d z.l3 t3::ah K.d D'::aW ve (kv x)::F) w':=by
 refine enter func100 rfl ntmps100 results100 rfl ?_;refine gx ?_;refine eB H ?_;clear H;intro w bS H;refine gx ?_;refine aS H ?_;clear H;intro w c H;refine gx ?_;refine bJ H ?_;clear H;intro w H;refine jv ?_;refine bT rfl ?_;refine dx (α:=St×ad) (λ_=>[(1,.bool nl),(2,ax bS),(5,ax c)])
  (λq w=>((∃X Y,q.1={ s with number:=X,log:=Y })/\wq q.1=true/\∃Z,eY (sG q.1 (if nl=true then(if s.log=[]then none else some s.log)else none)) q.2=some (Z,D')/\x=(match Z with|some e=>.error e|none=>.ok q.1)) /\
    Sat W0 (blk bS 31 [ax b]::blk b 133 (aj K z q.1)::blk c 9 [str s.log]::eW K.d z.l0 t0::eW K.d z.l1 t1::eW K.d z.l2 t2::eW K.d z.l3 t3::ah K.d q.2::F) w) ?_ ?_
 .unfold iV at h;cases nl with
  | false=>
   simp only[XM,XV]at h;split at h
   .rename_i hf;refine gx ?_;refine aH (s,D) ⟨rfl,rfl,rfl,Xr⟩ ⟨⟨⟨s.number,s.log,rfl⟩,hf,?_⟩,H.to⟩;split at h
    .cases h
    .rename_i e D2 A;simp only[Xs,XI]at h;obtain⟨rfl,rfl⟩:=h;exact⟨some e,A,rfl⟩
    .rename_i D2 A;simp only[Xs,XI]at h;obtain⟨rfl,rfl⟩:=h;exact⟨none,A,rfl⟩
   .cases h
  | true=>
   simp only[YB]at h;by_cases hn:s.number<=4611686018427387904
   case neg=>rw[Xx hn]at h;cases h
   rw[XE hn]at h;refine gx ?_;refine bU [blk bS 31 [ax b]] [(0,false),(1,false),(2,true),(3,false),(4,false),(5,true)] H (by kernel_rfl) ?_;clear H;intro w H;refine gx ?_;refine ak (met (ta (kind:=[108,111,103]) (H.take iB) (by decide) hn hW) ?_);clear H;rintro _ w ⟨rfl,H⟩;refine⟨_,rfl,gx ?_⟩;refine bJ H ?_;clear H;intro w H;have H:Sat W0 (blk b 133 (aj K z { s with number:=s.number+1,log:=cJ (s.number+1) })::blk c 9 [str s.log]::blk bS 31 [ax b]::eW K.d z.l0 t0::eW K.d z.l1 t1::eW K.d z.l2 t2::eW K.d z.l3 t3::ah K.d D::F) w:=H;refine gx ?_;refine bU [blk b 133 (aj K z { s with number:=s.number+1,log:=cJ (s.number+1) }),blk bS 31 [ax b]] [(0,false),(1,false),(2,false),(3,false),(4,false),(5,false),(6,false),(7,false),(8,true),(9,false)] H (by kernel_rfl) ?_;clear H;intro w H;refine gx ?_;cases O:eJ D (.create (cJ (s.number+1)))with
   | none=>rw[O]at h;cases h
   | some r=>
    obtain⟨Z,J⟩:=r;rw[O]at h;unfold eJ at O;dsimp only at O;split at O
    .rename_i hm;rw[bC]at hm;simp only[Xs,XI]at O;obtain⟨rfl,rfl⟩:=O;refine ak (met (zd (n:=cJ (s.number+1)) (H.take Uk) hm) ?_);clear H;rintro _ w ⟨ve,rfl,H⟩;refine⟨_,rfl,?_⟩;cases Q:iu D (cJ (s.number+1))with
     | some e=>
      rw[Q]at h H;simp only[Xs,XI]at h;obtain⟨rfl,rfl⟩:=h;obtain⟨t,u,rfl⟩:=(H.take dt).bp;refine gx ?_;refine an rfl ⟨_,{ s with number:=s.number+1,log:=cJ (s.number+1) },rfl,λr A=>(by cases A),⟨_,_,rfl⟩,?_⟩;exact H.to
     | none=>
      rw[Q]at h H;dsimp only at h;have hve:=(H.take dt).ee;subst hve;by_cases hf:wq { s with number:=s.number+1,log:=cJ (s.number+1) }=true
      case neg=>rw[Xx hf]at h;cases h
      rw[XE hf]at h;refine gx ?_;refine aH ({ s with number:=s.number+1,log:=cJ (s.number+1) },cI D (cJ (s.number+1))) ⟨rfl,rfl,rfl,Xr⟩ ⟨⟨⟨_,_,rfl⟩,hf,?_⟩,H.to⟩;simp only[YB];split at h
      .cases h
      .rename_i e D2 A;simp only[Xs,XI]at h;obtain⟨rfl,rfl⟩:=h;exact⟨some e,A,rfl⟩
      .rename_i D2 A;simp only[Xs,XI]at h;obtain⟨rfl,rfl⟩:=h;exact⟨none,A,rfl⟩
    .cases O
 clear H h;rintro⟨S,J⟩ w ⟨⟨⟨X,Y,L⟩,hfit,Z,hrun,hx⟩,H⟩;dsimp only at L hfit hrun hx H;have hlv1:S.levels=[t0,t1,t2,t3]:=by rw[L];exact hlv
 obtain⟨f1,f2,f3,f4⟩:=HX hfit;have hstl:(cz S).length<=1200000000:=by
  have:=B7 S.levels 0 f4;rw[hlv1]at this;rw[vY,hlv1];simp only[xe,Xu,Pure.aI,Pure.dP,X5,List.length_nil]at this |-;omega
 refine dx (α:=Nat×Xp) (λq=>[(1,.bool nl),(2,ax bS),(5,ax c),(7,ax q.1)])
  (λq w=>Sat W0 (blk q.1 93 [q.2]::cP q.2 (xe S)::blk bS 31 [ax b]::blk b 133 (aj K z S)::blk c 9 [str s.log]::eW K.d z.l0 t0::eW K.d z.l1 t1::eW K.d z.l2 t2::eW K.d z.l3 t3::ah K.d J::F) w) ?_ ?_
 .refine eM [blk bS 31 [ax b],blk b 133 (aj K z S)] [0,3,5,8,10,13] (.s 0 (.q 1 (.q 2 (.s 3 (.s 5 (.q 6 (.q 7 (.s 8 (.s 10 (.q 11 (.q 12 (.s 13 (.l2 4 (.l2 9 (.l2 14 (.l 15 (.l 16 .nil)) 15 (.l 14 (.l 16 .nil))) 15 (.l 9 (.l 14 (.l 16 .nil)))) 15 (.l 4 (.l 9 (.l 14 (.l 16 .nil))))))))))))))))) H (by kernel_rfl) ?_;clear H;intro w H;refine uz ?_;refine FR rfl rfl ?_ ?_
  .refine ak (met (dm (v:=.slice none 0 0) (bs:=[]) (N:=S.number) (k:=8) (H.ep (k:=1) (E:=5)) (by omega) (by simp)) ?_);clear H;rintro _ w ⟨v1,rfl,H⟩;refine⟨_,rfl,?_⟩;refine jv ?_;refine gH H.to ?_;refine FR rfl rfl ?_ ?_
   .refine ak (met (dm (N:=S.seq) (k:=8) (H.take .here) (by omega) (by simp)) ?_);clear H;rintro _ w ⟨v2,rfl,H⟩;refine⟨_,rfl,?_⟩;refine jv ?_;refine gH H.to ?_;refine FR rfl rfl ?_ ?_
    .refine ak (met (iK (s:=S.log) (H.take .here) (by simp) (by omega)) ?_);clear H;rintro _ w ⟨v3,rfl,H⟩;refine⟨_,rfl,?_⟩;refine jv ?_;refine gH H.to ?_;refine ju rfl ?_;refine aS H ?_;clear H;intro w B H;refine jv ?_;refine gH H.to ?_;refine ju rfl ?_;obtain⟨R,U,C,-⟩:=(H.take dt).aC;subst C;refine bJ H ?_;clear H;intro w H;refine jv ?_;refine fa rfl ?_;refine gL ?_;simp only[List.nil_append]at H;exact aH (B,.slice R _ U) ⟨rfl,rfl,rfl,rfl,Xr⟩ H.to
    .refine aS H ?_;clear H;intro w B H;refine jv ?_;refine gH H.to ?_;refine ju rfl ?_;refine ak (met (iK (s:=S.log) (H.take dt) (by simp) (by omega)) ?_);clear H;rintro _ w ⟨v3,rfl,H⟩;refine⟨_,rfl,?_⟩;refine jv ?_;refine gH H.to ?_;refine ju rfl ?_;obtain⟨R,U,C,-⟩:=(H.take .here).aC;subst C;refine bJ H ?_;clear H;intro w H;refine jv ?_;refine fa rfl ?_;refine gL ?_;simp only[List.nil_append]at H;exact aH (B,.slice R _ U) ⟨rfl,rfl,rfl,rfl,Xr⟩ H.to
   .refine aS H ?_;clear H;intro w B H;refine jv ?_;refine gH H.to ?_;refine ju rfl ?_;refine ak (met (dm (N:=S.seq) (k:=8) (H.take dt) (by omega) (by simp)) ?_);clear H;rintro _ w ⟨v2,rfl,H⟩;refine⟨_,rfl,?_⟩;refine jv ?_;refine gH H.to ?_;refine ju rfl ?_;refine ak (met (iK (s:=S.log) (H.take .here) (by simp) (by omega)) ?_);clear H;rintro _ w ⟨v3,rfl,H⟩;refine⟨_,rfl,?_⟩;refine jv ?_;refine gH H.to ?_;refine ju rfl ?_;obtain⟨R,U,C,-⟩:=(H.take .here).aC;subst C;refine bJ H ?_;clear H;intro w H;refine jv ?_;refine fa rfl ?_;refine gL ?_;simp only[List.nil_append]at H;exact aH (B,.slice R _ U) ⟨rfl,rfl,rfl,rfl,Xr⟩ H.to
  .refine aS H ?_;clear H;intro w B H;refine jv ?_;refine gH H.to ?_;refine ju rfl ?_;refine ak (met (dm (v:=.slice none 0 0) (bs:=[]) (N:=S.number) (k:=8) (H.ep (k:=1) (E:=5)) (by omega) (by simp)) ?_);clear H;rintro _ w ⟨v1,rfl,H⟩;refine⟨_,rfl,?_⟩;refine jv ?_;refine gH H.to ?_;refine ju rfl ?_;refine ak (met (dm (N:=S.seq) (k:=8) (H.take .here) (by omega) (by simp)) ?_);clear H;rintro _ w ⟨v2,rfl,H⟩;refine⟨_,rfl,?_⟩;refine jv ?_;refine gH H.to ?_;refine ju rfl ?_;refine ak (met (iK (s:=S.log) (H.take .here) (by simp) (by omega)) ?_);clear H;rintro _ w ⟨v3,rfl,H⟩;refine⟨_,rfl,?_⟩;refine jv ?_;refine gH H.to ?_;refine ju rfl ?_;obtain⟨R,U,C,-⟩:=(H.take .here).aC;subst C;refine bJ H ?_;clear H;intro w H;refine jv ?_;refine fa rfl ?_;refine gL ?_;simp only[List.nil_append]at H;exact aH (B,.slice R _ U) ⟨rfl,rfl,rfl,rfl,Xr⟩ H.to
 clear H;rintro⟨B,V⟩ w H;dsimp only at H;have H:=Sat.imp (H.to (a:=eW K.d z.l0 t0::eW K.d z.l1 t1::eW K.d z.l2 t2::eW K.d z.l3 t3::blk B 93 [V]::cP V (xe S)::blk bS 31 [ax b]::blk b 133 (aj K z S)::blk c 9 [str s.log]::ah K.d J::F)) λ_ k=>cu (a:=[eW K.d z.l0 t0,eW K.d z.l1 t1,eW K.d z.l2 t2,eW K.d z.l3 t3]) k;have hlz:[eW K.d z.l0 t0,eW K.d z.l1 t1,eW K.d z.l2 t2,eW K.d z.l3 t3]=List.zipWith (eW K.d) [z.l0,z.l1,z.l2,z.l3] S.levels:=by rw[hlv1];rfl
 rw[hlz]at H;refine dx (α:=Xp) (λ_=>[(1,.bool nl),(2,ax bS),(5,ax c),(7,ax B)])
  (λV w=>Sat W0 (star (List.zipWith (eW K.d) [z.l0,z.l1,z.l2,z.l3] S.levels)::blk B 93 [V]::cP V (cz S)::blk bS 31 [ax b]::blk b 133 (aj K z S)::blk c 9 [str s.log]::ah K.d J::F) w) ?_ ?_
 .refine gx ?_;refine aL (α:=Nat×Xp) (λq=>[(1,.bool nl),(2,ax bS),(5,ax c),(7,ax B),(56,.agg #[z.l0,z.l1,z.l2,z.l3]),(57,.int .i64 (q.1:Int))])
   (λq w=>q.1<=4/\Sat W0 (star (List.zipWith (eW K.d) [z.l0,z.l1,z.l2,z.l3] S.levels)::blk B 93 [q.2]::cP q.2 (xe S++fe 0 (S.levels.take q.1))::blk bS 31 [ax b]::blk b 133 (aj K z S)::blk c 9 [str s.log]::ah K.d J::F) w) (λq=>4-q.1) (0,V) ⟨rfl,rfl,rfl,rfl,rfl,rfl,Xr⟩ ⟨by simp,by simp only[abJ,fe,Yj];exact H⟩ ?_
  clear H;rintro⟨i,V⟩ w ⟨hi,H⟩;dsimp only at hi H;have ag:S.levels.length=4:=by rw[hlv1];rfl
  by_cases hlt:i<4
  .have hgl:S.levels[i]?=some S.levels[i]:=Xq (by omega);have hgv:[z.l0,z.l1,z.l2,z.l3][i]?=some [z.l0,z.l1,z.l2,z.l3][i]:=Xq (by simpa using hlt);have htk:S.levels.take (i+1)=S.levels.take i++[S.levels[i]]:=by rw[YC,hgl];rfl
   have hfi:=f4 _ (Ya hgl);have hzi:=fV (eW K.d) hgv hgl;generalize S.levels[i]=g at hgl htk hfi hzi;generalize [z.l0,z.l1,z.l2,z.l3][i]=lv at hgv hzi;have hsp:=eT hzi;rw[hsp]at H;have H:=H.ie;obtain⟨P,hps,H⟩:=H.lD;obtain⟨al,cl,rfl,-⟩:=H.aC;have htot:(xe S++fe 0 (S.levels.take i)++(g.map λT=>UInt8.ofNat i::aX T.name).flatten).length<=1200000000:=by
    refine Yh ?_ hstl;have W:fe 0 (S.levels.take (i+1))=fe 0 (S.levels.take i)++(g.map λT=>UInt8.ofNat i::aX T.name).flatten:=by
     rw[htk,vX];have:(S.levels.take i).length=i:=by simp;omega
     rw[this,X0]
    have e2:cz S=xe S++fe 0 (S.levels.take (i+1))++fe (i+1) (S.levels.drop (i+1)):=by
     have e3:=zK S.levels (i+1) 0 (by omega);rw[X0]at e3;rw[vY,e3,XS]
    rw[e2,W];simp only[Xu];omega
   have hint:((i:Int)<4):=by omega
   refine gx ?_;refine O3 (m:=i) (vs:=[z.l0,z.l1,z.l2,z.l3]) rfl rfl rfl rfl rfl rfl hlt hgv rfl ?_;refine gx ?_;refine aL (α:=Nat×Xp) (λq=>[(1,.bool nl),(2,ax bS),(5,ax c),(7,ax B),(56,.agg #[z.l0,z.l1,z.l2,z.l3]),(57,.int .i64 (i:Int)),(8,.int .i64 (i:Int)),(61,.slice al P.length cl),(62,.int .i64 (P.length:Int)),(63,.int .i64 (q.1:Int))])
    (λq w=>q.1<=P.length/\Sat W0 (aE 1 (.slice al P.length cl) 193 P.length (P.map ax)::star (List.zipWith (du K.d) P g)::star ((List.zipWith (eW K.d) [z.l0,z.l1,z.l2,z.l3] S.levels).take i++(List.zipWith (eW K.d) [z.l0,z.l1,z.l2,z.l3] S.levels).drop (i+1))::blk B 93 [q.2]::cP q.2 (xe S++fe 0 (S.levels.take i)++((g.take q.1).map λT=>UInt8.ofNat i::aX T.name).flatten)::blk bS 31 [ax b]::blk b 133 (aj K z S)::blk c 9 [str s.log]::ah K.d J::F) w) (λq=>P.length-q.1) (0,V) ⟨rfl,rfl,rfl,rfl,rfl,rfl,rfl,rfl,rfl,rfl,Xr⟩ ⟨XR _,by simp only[abJ,List.map_nil,aaw,Yj];exact H⟩ ?_
   clear H;rintro⟨j,V⟩ w ⟨hj,H⟩;dsimp only at hj H;by_cases hlj:j<P.length
   .have gp:P[j]?=some P[j]:=Xq hlj;have gT:g[j]?=some (g[j]'(by omega)):=Xq (by omega);have htj:g.take (j+1)=g.take j++[g[j]'(by omega)]:=by rw[YC,gT];rfl
    have hzj:=fV (du K.d) gp gT;have hnm:=hfi.2 _ (Ya gT);generalize g[j]'(by omega)=T at gT htj hzj hnm;generalize P[j]=p at gp hzj;have hspj:=eT hzj;obtain⟨bq,cap,rs,C,q1,q2,q3,I⟩:=H.iv (by omega);obtain⟨rfl,_,rfl⟩:=Yk C;have hcell:(P.map ax++rs)[0+j*1]?=some (ax p):=by
     rw[X0,YA,XH (by simpa using hlj),Yy,gp];rfl
    have hpre:(xe S++fe 0 (S.levels.take i)++((g.take j).map λT=>UInt8.ofNat i::aX T.name).flatten).length<=1200000000:=by
     refine Yh ?_ htot;have:g=g.take j++g.drop j:=(X9 j g).symm
     conv=>rhs;rw[this]
     rw[XK,YN];simp only[Xu];omega
    refine gx ?_;refine de (i:=j) rfl rfl rfl rfl rfl hlj rfl ?_;refine fF I rfl rfl .here hcell rfl ?_;clear I;have H:=H.take dt;rw[hspj]at H;obtain⟨bv,H⟩:=H.ie.rS;refine gx ?_;refine bU [blk B 93 [V],Ae p 200 [str T.name,str T.first,str T.last,.int .i64 (T.count:Int),ax K.d,bv]] [(0,false),(1,false),(2,false),(5,false),(6,false),(7,false),(8,false),(9,false),(3,true),(4,true),(10,true),(11,true)] H (by kernel_rfl) ?_;clear H;intro w H;refine gx ?_;rw[wrap_u8];refine eS H ?_;clear H;intro w b9 H;refine gx ?_;refine E3 (UInt8.ofNat i) H rfl rfl (by repeat constructor) (by repeat constructor) (by omega) rfl ?_;clear H;intro v8 w H;refine gx ?_;refine ak (met (iK (s:=T.name) H (by rw[Xu];simp only[X5,List.length_nil];omega) (by omega)) ?_);clear H;rintro _ w ⟨v9,rfl,H⟩;obtain⟨a9,c9,aa,-⟩:=H.aC;obtain⟨n9,ac⟩:∃n9,v9=.slice a9 n9 c9:=⟨_,aa⟩;clear aa;subst ac;refine⟨_,rfl,gx ?_⟩;refine bJ H ?_;clear H;intro w H;refine gx ?_;refine az (j+1,.slice a9 n9 c9) ⟨rfl,rfl,rfl,rfl,rfl,rfl,rfl,rfl,rfl,rfl,Xr⟩ ⟨hlj,?_⟩ (by show _-(j+1)<_-j;omega);dsimp only;rw[htj,XK,YN,XP,List.map_nil,Yd,aaw,Yj];have e5:xe S++fe 0 (S.levels.take i)++((g.take j).map λT=>UInt8.ofNat i::aX T.name).flatten++[UInt8.ofNat i]++aX T.name=xe S++fe 0 (S.levels.take i)++(((g.take j).map λT=>UInt8.ofNat i::aX T.name).flatten++UInt8.ofNat i::aX T.name):=by simp
    rw[e5]at H;rw[hspj];have H:=(H.to (a:=du K.d p T::star ((List.zipWith (du K.d) P g).take j++(List.zipWith (du K.d) P g).drop (j+1))::aE 1 (.slice (some ⟨bq,0,none⟩) P.length cl) 193 P.length (P.map ax)::star ((List.zipWith (eW K.d) [z.l0,z.l1,z.l2,z.l3] S.levels).take i++(List.zipWith (eW K.d) [z.l0,z.l1,z.l2,z.l3] S.levels).drop (i+1))::blk B 93 [.slice a9 n9 c9]::cP (.slice a9 n9 c9) (xe S++fe 0 (S.levels.take i)++(((g.take j).map λT=>UInt8.ofNat i::aX T.name).flatten++UInt8.ofNat i::aX T.name))::blk bS 31 [ax b]::blk b 133 (aj K z S)::blk c 9 [str s.log]::ah K.d J::F)).jG;exact H.to
   .have hje:j=P.length:=by omega
    subst hje;rw[hps,YD]at H;have W:fe 0 (S.levels.take (i+1))=fe 0 (S.levels.take i)++(g.map λT=>UInt8.ofNat i::aX T.name).flatten:=by
     rw[htk,vX];have:(S.levels.take i).length=i:=by simp;omega
     rw[this,X0]
    rw[<- hps]at H;have H:=(Sat.lJ hps H);rw[XS,<- W]at H;refine gx ?_;refine az (i+1,V) ⟨rfl,rfl,rfl,rfl,rfl,rfl,Xr⟩ ⟨hlt,?_⟩ (by show 4-(i+1)<4-i;omega);dsimp only;rw[hsp];have H:=H.jG;exact H.to
  .have af:i=4:=by omega
   subst af;have W:S.levels.take 4=S.levels:=Yt (by omega);rw[W,<- vY]at H;have hnlt:¬((4:Int)<4):=by omega
   refine gx ?_;exact aH V ⟨rfl,rfl,rfl,rfl,Xr⟩ H
 clear H;intro V w H;generalize hG:(⟨b,bS,c,B,K,z,S,V,s.log⟩:Vz)=G;obtain⟨kk,hk,hkk⟩:∃kk,kk<=6/\sG S (if nl=true then(if s.log=[]then none else some s.log)else none)=(O5 G).take kk/\5<=kk/\(kk=6↔nl=true/\s.log≠[]):=by
  subst hG;cases nl with
  | false=>exact⟨5,by omega,rfl,by omega,by simp⟩
  | true=>
   by_cases hl:s.log=[]
   .exact⟨5,by omega,by simp[hl];rfl,by omega,by simp[hl]⟩
   .exact⟨6,by omega,by simp[hl,sG,O5],by omega,by simp[hl]⟩
 obtain⟨hst,ai,ab⟩:=hkk;rw[hst]at hrun;have H:Sat W0 (O4 G J++star (List.zipWith (eW K.d) [z.l0,z.l1,z.l2,z.l3] S.levels)::F) w:=by subst hG;exact H.to
 have hGK:G.K=K:=by subst hG;rfl
 dsimp only[O4,List.cons_append,List.nil_append]at H;refine dW ?_;refine jv ?_;subst hG;dsimp only at H hGK;refine jv ?_;refine jT ((Qe ⟨b,bS,c,B,K,z,S,V,s.log⟩).take 5) H ?_;clear H;intro w bl H;refine jv ?_;refine bT rfl ?_;have H:=Sat.gE (k:=1) (cap:=5) (len:=5) (cs:=(Qe ⟨b,bS,c,B,K,z,S,V,s.log⟩).take 5) (rest:=[]) (E:=107) H (by omega) (by simp[maxLen]) rfl rfl (by
  intro u hu;simp[Qe]at hu;rcases hu with rfl|rfl|rfl|rfl|rfl<;>rfl)
 refine dx (α:=Xp) (λsv=>[(12,sv)])
  (λsv w=>Sat W0 (aE 1 sv 107 kk ((Qe ⟨b,bS,c,B,K,z,S,V,s.log⟩).take kk)::O4 ⟨b,bS,c,B,K,z,S,V,s.log⟩ J++star (List.zipWith (eW K.d) [z.l0,z.l1,z.l2,z.l3] S.levels)::F) w) ?_ ?_
 .dsimp only[O4,List.cons_append,List.nil_append];by_cases Q:nl=true/\s.log≠[]
  .have h6:=ab.2 Q;subst h6;obtain⟨rfl,hne⟩:=Q;refine gx ?_;refine eS H ?_;clear H;intro w b9 H;refine dZ H ?_;clear H;intro v9 w H;refine gx ?_;exact aH v9 ⟨rfl,Xr⟩ H.to
  .have h5:kk=5:=by
    have:¬kk=6:=λh=>Q (ab.1 h);omega
   subst h5;cases nl with
   | false=>
    refine gx ?_;exact aH (.slice (some ⟨bl,0,none⟩) 5 5) ⟨rfl,Xr⟩ H
   | true=>
    have hle:¬s.log≠[]:=λh=>Q ⟨rfl,h⟩;refine gx ?_;exact aH (.slice (some ⟨bl,0,none⟩) 5 5) ⟨rfl,Xr⟩ H
 clear H;intro sv w H;dsimp only[O4,List.cons_append,List.nil_append]at H;have hkl:((Qe ⟨b,bS,c,B,K,z,S,V,s.log⟩).take kk).length=kk:=by simp[Qe];omega
 obtain⟨asv,csv,rfl,-⟩:=H.aC;refine gx ?_;refine aL (α:=Nat×ad) (λq=>[(99,.slice asv kk csv),(100,.int .i64 (kk:Int)),(101,.int .i64 (q.1:Int))])
  (λq w=>(q.1<=kk/\eY (((O5 ⟨b,bS,c,B,K,z,S,V,s.log⟩).take kk).drop q.1) q.2=some (Z,D'))/\Sat W0 (aE 1 (.slice asv kk csv) 107 kk ((Qe ⟨b,bS,c,B,K,z,S,V,s.log⟩).take kk)::O4 ⟨b,bS,c,B,K,z,S,V,s.log⟩ q.2++star (List.zipWith (eW K.d) [z.l0,z.l1,z.l2,z.l3] S.levels)::F) w) (λq=>kk-q.1) (0,J) ⟨rfl,rfl,rfl,Xr⟩ ⟨⟨XR _,hrun⟩,H⟩ ?_
 clear H hrun;rintro⟨i,D3⟩ w ⟨⟨hi,hrun⟩,H⟩;dsimp only[O4,List.cons_append,List.nil_append]at hi hrun H;by_cases hlt:i<kk
 .have hol:i<((O5 ⟨b,bS,c,B,K,z,S,V,s.log⟩).take kk).length:=by simp[O5];omega
  have hgo:((O5 ⟨b,bS,c,B,K,z,S,V,s.log⟩).take kk)[i]?=some (((O5 ⟨b,bS,c,B,K,z,S,V,s.log⟩).take kk)[i]):=Xq hol;rw[XX hol]at hrun;generalize ((O5 ⟨b,bS,c,B,K,z,S,V,s.log⟩).take kk)[i]=o at hgo hrun;unfold eY at hrun;cases A:eJ D3 o with
  | none=>rw[A]at hrun;cases hrun
  | some r=>
   obtain⟨W,D4⟩:=r;rw[A]at hrun;have hgo':(O5 ⟨b,bS,c,B,K,z,S,V,s.log⟩)[i]?=some o:=by
    rw[ZC]at hgo;rw[XE hlt]at hgo;exact hgo
   obtain⟨bq,cap,rs,C,q1,q2,q3,I⟩:=H.iv (by omega);obtain⟨rfl,_,rfl⟩:=Yk C;obtain⟨f,pp,qq,hcf,hff,hcall⟩:=HW (G:=⟨b,bS,c,B,K,z,S,V,s.log⟩) (F:=star (List.zipWith (eW K.d) [z.l0,z.l1,z.l2,z.l3] S.levels)::aE 1 (.slice (some ⟨bq,0,none⟩) kk csv) 107 kk ((Qe ⟨b,bS,c,B,K,z,S,V,s.log⟩).take kk)::F) (by show(cz S).length<=_;omega) hgo' A H.to;have hcell:((Qe ⟨b,bS,c,B,K,z,S,V,s.log⟩).take kk++rs)[0+i*1]?=some (.func (.func f) pp qq):=by
    rw[X0,YA,XH (by omega),ZC,XE hlt];exact hcf
   refine gx ?_;refine de (i:=i) rfl rfl rfl rfl rfl hlt rfl ?_;refine fF I rfl rfl .here hcell rfl ?_;clear I;refine gx ?_;refine kL rfl hff rfl rfl (met hcall ?_);clear H hcall;rintro _ w ⟨ve,rfl,H⟩;dsimp only[O4,List.cons_append,List.nil_append]at H;refine⟨_,rfl,?_⟩;cases W with
   | some e=>
    simp only[Xs,XI]at hrun;obtain⟨rfl,rfl⟩:=hrun;obtain⟨t,u,rfl⟩:=(H.take L9).bp;refine gx ?_;refine an rfl ⟨_,S,rfl,λr A=>(by rw[hx]at A;cases A),⟨X,Y,L⟩,?_⟩;rw[hx];have H:=H.to (a:=star (List.zipWith (eW K.d) [z.l0,z.l1,z.l2,z.l3] S.levels)::blk b 133 (aj K z S)::ah K.d D4::aW (.iface t u) (some e)::F);rw[<- hlz]at H;have H:=H.imp λ_ k=>cD k;exact H.to
   | none=>
    dsimp only at hrun;have hve:=(H.take L9).ee;subst hve;refine gx ?_;exact az (i+1,D4) ⟨rfl,rfl,rfl,Xr⟩ ⟨⟨hlt,hrun⟩,H.to⟩ (by show kk-(i+1)<kk-i;omega)
 .have hik:i=kk:=by omega
  subst hik;rw[Ym (List.length_take_le _ _)]at hrun;simp only[eY,Xs,XI]at hrun;obtain⟨rfl,rfl⟩:=hrun;refine gx ?_;refine an rfl ⟨_,S,rfl,λr A=>(by rw[hx]at A;cases A;rfl),⟨X,Y,L⟩,?_⟩;have H:=Sat.iy H;rw[hx];have H:=H.to (a:=star (List.zipWith (eW K.d) [z.l0,z.l1,z.l2,z.l3] S.levels)::blk b 133 (aj K z S)::ah K.d D3::aW .nilIface none::F);rw[<- hlz]at H;have H:=H.imp λ_ k=>cD k;exact H.to
def SZ.AD(z:SZ):Xn Xp:=[z.l0,z.l1,z.l2,z.l3]
def SZ.put(z:SZ)(i:Nat)(v:Xp):SZ:=match i with
 | 0=>{ z with l0:=v }
 | 1=>{ z with l1:=v }
 | 2=>{ z with l2:=v }
 | _=>{ z with l3:=v }
theorem Jz (h:i<4) (hv:z.AD[i]?=some v):(aj K z s)[0+7+((i:Int)).toNat*1]?=some v:=by
 match i,h,hv with
 | 0,_,hv=>exact hv
 | 1,_,hv=>exact hv
 | 2,_,hv=>exact hv
 | 3,_,hv=>exact hv
theorem O6 (h:i<4) (v:Xp):(aj K z s).set (0+7+((i:Int)).toNat*1) v=aj K (z.put i v) s:=by
 match i,h with
 | 0,_=>rfl
 | 1,_=>rfl
 | 2,_=>rfl
 | 3,_=>rfl
theorem Rw (h:i<4) (v:Xp):(z.put i v).AD=z.AD.set i v:=by
 match i,h with
 | 0,_=>rfl
 | 1,_=>rfl
 | 2,_=>rfl
 | 3,_=>rfl
@[simp] theorem VA(z:SZ)(i:Nat)(v:Xp):(z.put i v).m=z.m:=by unfold SZ.put;split<;>rfl
@[simp] theorem TU(z:SZ)(i:Nat)(v:Xp):(z.put i v).sn=z.sn:=by unfold SZ.put;split<;>rfl
def jb(d:Nat)(z:SZ)(Ls:Xn (Xn dB)):ae:=star (List.zipWith (eW d) z.AD Ls)
def O7(d:Nat)(z:SZ)(Ls:Xn (Xn dB))(i:Nat):ae:=star ((List.zipWith (eW d) z.AD Ls).take i++(List.zipWith (eW d) z.AD Ls).drop (i+1))
variable {Ls:Xn (Xn dB)} {L:Xn dB}
def Sat.vZ (a:Ls[i]?=some L) (c:i<4) (h:Sat W0 (jb d z Ls::F) w):∃v,z.AD[i]?=some v/\Sat W0 (eW d v L::O7 d z Ls i::F) w:=by
 have H:z.AD[i]?=some (z.AD[i]'(by simpa[SZ.AD]using c)):=Xq _;refine⟨_,H,?_⟩;have e:=fV (eW d) H a;unfold jb at h;rw[eT e]at h;exact h.ie
def Sat.O8 (H:Ls[i]?=some L) (hv:z.AD[i]?=some v) (h:Sat W0 (eW d v L::O7 d z Ls i::F) w):Sat W0 (jb d z Ls::F) w:=by
 have a:=fV (eW d) hv H;unfold jb;rw[eT a];exact h.jG
variable {α:Type}
theorem uA {β γ:Type} (f:α->β->γ):∀{xs:Xn α} {Y:Xn β} {i:Nat} (x:α) (y:β),i<xs.length->i<Y.length->List.zipWith f (xs.set i x) (Y.set i y)=(List.zipWith f xs Y).take i++f x y::(List.zipWith f xs Y).drop (i+1)
 | a::xs,b::Y,0,x,y,_,_=>by simp
 | a::xs,b::Y,i+1,x,y,h,H=>by
  simp at h H;simp[uA f x y h H]
def Sat.O9 (H:i<4) (a:Ls.length=4) (h:Sat W0 (eW d v L::O7 d z Ls i::F) w):Sat W0 (jb d (z.put i v) (Ls.set i L)::F) w:=by
 unfold jb;rw[Rw H,uA _ _ _ (by simpa[SZ.AD]using H) (by omega)];exact h.jG
theorem Pa:jb d z [t0,t1,t2,t3]=star [eW d z.l0 t0,eW d z.l1 t1,eW d z.l2 t2,eW d z.l3 t3]:=rfl
def Sat.HY (h:Sat W0 (eW d z.l0 t0::eW d z.l1 t1::eW d z.l2 t2::eW d z.l3 t3::F) w):Sat W0 (jb d z [t0,t1,t2,t3]::F) w:=by
 rw[Pa];exact h.imp λ_ k=>cu (a:=[eW d z.l0 t0,eW d z.l1 t1,eW d z.l2 t2,eW d z.l3 t3]) k
def Sat.Pb (h:Sat W0 (jb d z [t0,t1,t2,t3]::F) w):Sat W0 (eW d z.l0 t0::eW d z.l1 t1::eW d z.l2 t2::eW d z.l3 t3::F) w:=by
 rw[Pa]at h;exact h.imp λ_ k=>cD k
theorem four {l:Xn α} (h:l.length=4):∃a b c d,l=[a,b,c,d]:=by
 match l,h with
 | [a,b,c,d],_=>exact⟨a,b,c,d,rfl⟩
def zL (h:iV s D nl=some (x,D')) (hl:s.levels.length=4) (e:ou W0) (c:Sat W0 (blk b 133 (aj K z s)::jb K.d z s.levels::ah K.d D::F) w):
 Calls prog 100 #[ax b,.bool nl] w λy w'=>∃V S,y=.returned V/\(∀r,x=.ok r->S=r)/\(∃n l,S={ s with number:=n,log:=l }) /\
  Sat W0 (blk b 133 (aj K z S)::jb K.d z s.levels::ah K.d D'::aW V (kv x)::F) w':=by
 obtain⟨t0,t1,t2,t3,H⟩:=four hl;rw[H]at c;have c:=(c.take dt).Pb;refine(F5 h H e c.to).mono ?_;rintro _ w' ⟨V,S,rfl,f,g,c⟩;refine⟨V,S,rfl,f,g,?_⟩;rw[H];exact((c.to (a:=eW K.d z.l0 t0::eW K.d z.l1 t1::eW K.d z.l2 t2::eW K.d z.l3 t3::blk b 133 (aj K z S)::ah K.d D'::aW V (kv x)::F)).HY).to
theorem Sat.Su(h:Sat W0 F w):Sat W0 (Dn d m (.slice none 0 0) []::F) w:=by
 refine Sat.close (B:=[aE 1 (.slice none 0 0) 288 0 [],star (List.zipWith (ov d m) [] [])]) (Sat.ep (k:=1) (E:=288) ((h.imp λH k=>(⟨λ_=>none,H,λ_ _ _ a=>(by cases a),λ_ _ a=>(by cases a),Hp.le_refl _,Xr,k⟩:cj (star (List.zipWith (ov d m) [] [])::F) H)))) λH k=>⟨[],rfl,k⟩
def Sat.HZ{I:Xn It}{it:It}{rv u:Xp}{vs:Xn Xp}(h1:vs.length=I.length)(h:Sat W0 (aE 1 rv 288 (vs.length+1) (vs++[u])::star (List.zipWith (ov d m) vs I)::ov d m u it::F) w):Sat W0 (Dn d m rv (I++[it])::F) w:=by
 refine Sat.close (B:=[aE 1 rv 288 (vs++[u]).length (vs++[u]),star (List.zipWith (ov d m) (vs++[u]) (I++[it]))]) ?_ λc k=>⟨vs++[u],by simp[h1],k⟩;rw[Zh (by exact h1),Xu];have H:Sat W0 (ov d m u it::star (List.zipWith (ov d m) vs I++[])::aE 1 rv 288 (vs.length+1) (vs++[u])::F) w:=by
  rw[Yj];exact h.to
 have a:=H.jG;exact a.to
