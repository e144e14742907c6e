/-
  Part 29: WALKS package codec, what writes; WALKS package codec; .
-/
import Derived.Test.YtecibefflhomdaaGreatDoorZ16
set_option maxHeartbeats 8000000
set_option maxRecDepth 100000
set_option linter.all false
namespace Go.Proofs.YtecibefflhomdaaGreatDoor
open Go Proofs.Tryz
section
variable[Bs0:Base][NQ]
open Pure (bA aX DH nS AM kA aA aI)
attribute [local irreducible] IntKind.wrap
variable{W0 w:Xo}{F:Xn ae}{v:Xp}{bs:Bs}
theorem BO(N:Nat):∀(k j:Nat),j+1<=k->(bA N k).take (k-j)=(bA N k).take (k-(j+1))++[UInt8.ofNat (N / 2^(8*j))]
 | 0,j,h=>by omega
 | k+1,j,h=>by
  by_cases H:j=k
  .subst H;simp[bA]
  .have e:k+1-j=(k-j)+1:=by omega
   have E:k+1-(j+1)=(k-(j+1))+1:=by omega
   rw[e,E];simp only[bA,aaH];rw[BO N k j (by omega)];rfl
def dm{N k:Nat}(H:Sat W0 (cP v bs::F) w)(d:k<=8)(e:bs.length<=70368744177664) :
 Calls prog 144 #[v,.int .u64 (N:Int),.int .i64 (k:Int)] w λx w'=>∃V,x=.returned V/\Sat W0 (cP V (bs++bA N k)::F) w':=by
 refine enter func144 rfl ntmps144 results144 rfl ?_;refine go ?_;refine aL (α:=Nat×Xp) (λz=>[(0,z.2),(1,.int .u64 (N:Int)),(7,.int .i64 ((z.1:Int)-1))])
  (λz w=>z.1<=k/\Sat W0 (cP z.2 (bs++(bA N k).take (k-z.1))::F) w) (λz=>z.1) (k,v) ⟨rfl,rfl,rfl,Xr⟩ ⟨XD _,by simpa using H⟩ ?_
 clear H;rintro⟨j,v⟩ w ⟨a,H⟩;dsimp only at a H |-;have c:(bs++(bA N k).take (k-j)).length<=bs.length+8:=by simp[aI];omega
 refine go ?_;refine Ns rfl (λh=>?_) (λh=>?_)
 .obtain⟨j,rfl⟩:∃i,j=i+1:=⟨j-1,by omega⟩;refine go ?_;refine l7 (m:=8*j) rfl rfl (by omega) (by simp only[IntKind.bits];omega) rfl ?_;refine go ?_;refine eS H λw b H=>?_;refine go ?_;refine CL H λv w H=>?_;refine go ?_;refine az (j,v) ⟨rfl,rfl,by simp[lk],Xr⟩ ⟨by omega,?_⟩ (by simp);rw[BO N k j a,<- XS];exact H
 .have:j=0:=by omega
  subst this;refine go ?_;refine an rfl ⟨v,rfl,by simpa[Yt (aaI (aI N k))]using H⟩
def iK{s:Bs}(h:Sat W0 (cP v bs::F) w)(H:bs.length<=70368744177664)(hl:s.length<=70368744177664-1) :
 Calls prog 172 #[v,str s] w λx w'=>∃V,x=.returned V/\Sat W0 (cP V (bs++aX s)::F) w':=by
 refine enter func172 rfl ntmps172 results172 rfl ?_;refine go ?_;refine eS h λw b h=>?_;refine CL h λv w h=>?_;refine go ?_;refine QM h λv w h=>?_;refine go ?_;exact an rfl ⟨v,rfl,by simpa[aX]using h⟩
def Ut(l:Xn ae)(v:Xp)(bs:Bs):Prop:=
 (bs=[]/\∃a c,v=.slice a 0 c)\/∃b o c sh all E r,v=.slice (some ⟨b,o,none⟩) bs.length c/\Take (ob sh b (.cells all (E) (0,0))) l r/\∀j u,(bs.map bV)[j]?=some u->all[o+j]?=some u
theorem Tn{ops:Xv Yf}{Q:YL->Act->Xo->Prop}{n d:Nat}{D:Md}{e:Env}{rest:Xn Yf}{op:Op}{ty:XO}{pos:YG}{a:Xv Edge}{x:Int}(M:Nat)
 (hv:yv e op=some (.int .u32 (IntKind.u32.wrap x))) (h:x=(M:Int)) (H:Nat.blt d n=true)
 (k:WL ops Q n D rest ((d,.int .u32 ((M%4294967296:Nat):Int))::e) w):WL ops Q n D (⟨some d,op,ty,pos,a,none⟩::rest) e w:=
 dE (by rw[hv,h,abh];exact Zu (λz=>some (Value.int .u32 z)) (by omega)) H k
variable {l:Xn ae}
def Fy (H:Sat W0 l w) (s:Ut l v bs) (D:bs.length<=140737488355328):
 Calls prog 165 #[v] w λx w'=>x=.returned (.int .u32 (DH bs:Nat))/\Sat W0 l w':=by
 refine enter func165 rfl ntmps165 results165 rfl ?_;obtain⟨a,c,p⟩:∃a c,v=.slice a bs.length c:=by
  rcases s with⟨rfl,a,c,rfl⟩|⟨b,o,c,_,_,_,_,rfl,_⟩<;>exact⟨_,_,rfl⟩
 subst p;refine go ?_;refine aL (α:=Nat×Nat) (λz=>[(3,.int .u32 (z.2:Int)),(6,.slice a bs.length c),(7,.int .i64 (bs.length:Int)),(8,.int .i64 (z.1:Int))])
  (λz w=>z.1<=bs.length/\z.2=kA 4294967295 (bs.take z.1)/\Sat W0 l w) (λz=>bs.length-z.1) (0,4294967295) ⟨rfl,rfl,rfl,rfl,Xr⟩ ⟨XR _,rfl,H⟩ ?_
 clear H;rintro⟨i,C⟩ w ⟨t,d,H⟩;dsimp only at t d H |-;have g:C<4294967296:=d▸Pure.xG _ (by decide);refine go ?_;refine Ns rfl (λh=>?_) (λh=>?_)
 .have e:i<bs.length:=by omega
  rcases s with⟨rfl,_⟩|⟨b,o,u,sh,all,E,r,p,T,j⟩
  .simp at e
  obtain⟨rfl,_,rfl⟩:=(by simpa using p:a=some ⟨b,o,none⟩/\True/\c=u);have q:=(bs[i]).toNat_lt;have y:bs[i]?=some bs[i]:=Xq e;have A:all.toList[o+i*1]?=some (bV bs[i]):=by rw[YA,aat];exact j i _ (by simp[y])
  refine go ?_;refine de (i:=i) rfl rfl rfl rfl rfl e rfl ?_;refine fF (cs:=all.toList) H rfl rfl (by simpa using T) A rfl ?_;refine go ?_;refine mj (R:=C ^^^ (bs[i]).toNat) rfl rfl rfl (by simpa[IntKind.bits]using g) (by have:=(bs[i]).toNat_lt;simp only[IntKind.bits];omega) rfl rfl ?_;refine go ?_;refine aL (α:=Nat×Nat) (λz=>[(3,.int .u32 (z.2:Int)),(16,.int .i64 (z.1:Int)),(6,.slice (some ⟨b,o,none⟩) bs.length c),(7,.int .i64 (bs.length:Int)),(8,.int .i64 (i:Int))])
   (λz w=>z.1<=8/\z.2=Pure.iter nS z.1 (C ^^^ (bs[i]).toNat)/\Sat W0 l w) (λz=>8-z.1) (0,C ^^^ (bs[i]).toNat) ⟨rfl,rfl,rfl,rfl,rfl,Xr⟩ ⟨by omega,rfl,H⟩ ?_
  clear H;rintro⟨k,x⟩ w ⟨B,f,H⟩;dsimp only at B f H |-;have n:x<4294967296:=f▸Pure.Cg _ _ (Pure.wc g _);refine go ?_;refine Ns rfl (λh=>?_) (λh=>?_)
  .refine go ?_;refine l7 (m:=1) rfl rfl rfl (by decide) rfl ?_;refine go ?_;refine mj (M:=1) (R:=x &&& 1) rfl rfl rfl (by simpa[IntKind.bits]using n) (by decide) rfl rfl ?_;refine Tn ((x &&& 1)*3988292384) rfl (by rw[Int.natCast_mul];rfl) rfl ?_;refine mj (R:=nS x) rfl rfl rfl (by simp only[IntKind.bits];omega) (by simp only[IntKind.bits];omega) rfl rfl ?_;refine go ?_;refine az (k+1,nS x) ⟨rfl,by simp[lk],rfl,rfl,rfl,Xr⟩ ⟨by omega,?_,H⟩ (by simp;omega);dsimp only;rw[f,Pure.AN]
  .have:k=8:=by omega
   subst this;refine go ?_;refine az (i+1,x) ⟨rfl,rfl,rfl,by simp[lk],Xr⟩ ⟨by omega,?_,H⟩ (by simp;omega);dsimp only;rw[f,Zf e,Pure.xH,<- d];rfl
 .have:i=bs.length:=by omega
  subst this;refine go ?_;refine yK rfl g rfl ?_;refine go ?_;exact an rfl ⟨by rw[d,YD];rfl,H⟩
theorem Sat.y5 (h:Sat W0 l w):Sat W0 (cP (.slice none 0 0) []::l) w:=h.ep
theorem Sat.Vl(h:Sat W0 (cP v bs::F) w):∃L,Ut L v bs/\Sat W0 L w/\∀w',Sat W0 L w'->Sat W0 (cP v bs::F) w':=by
 by_cases f:v=.slice none 0 0
 .subst f;obtain⟨a,c,e,_⟩:=h.aC;have i:bs=[]:=XY (by simp at e;omega);subst i;exact⟨_,.inl ⟨rfl,none,0,rfl⟩,h,λ_ h=>h⟩
 .have H:=h.CI;have d:=h.yF;obtain⟨b,c,r,rfl,k,m,n,o⟩:=h.nI f;refine⟨_,.inr ⟨b,0,c,false,_,_,_,rfl,.here,λj u g=>?_⟩,o,λw' p=>p.gE k m n H d⟩;have q:=(Xw.1 g).1;simp only[ZZ,X0];rw[XH q];exact g
def Q6(a:Sat W0 (cP v bs::F) w)(b:bs.length<=140737488355328) :
 Calls prog 165 #[v] w λx w'=>x=.returned (.int .u32 (DH bs:Nat))/\Sat W0 (cP v bs::F) w':=by
 obtain⟨L,c,H,d⟩:=a.Vl;exact(Fy H c b).mono λx w' h=>⟨h.1,d _ h.2⟩
open Pure (bA aX DH nS AM kA aA aI ay dz)
def nf(h:Sat W0 (cP v bs::F) w)(b:bs.length<=4294967295) :
 Calls prog 146 #[v] w λx w'=>∃V,x=.returned V/\Sat W0 (cP V (aA bs)::cP v bs::F) w':=by
 obtain⟨a,c,H,_⟩:=h.aC;subst H;have d:=Pure.Gx bs;refine enter func146 rfl ntmps146 results146 rfl ?_;refine go ?_;refine ak (met (dm (N:=bs.length) (k:=4) (Sat.y5 h) (by omega) (by simp)) ?_);rintro _ w ⟨v,rfl,h⟩;refine⟨v,rfl,go ?_⟩;refine yK (N:=bs.length) rfl (by omega) rfl ?_;refine go ?_;refine ak (met (dm (N:=4294967295-bs.length) (k:=4) h (by omega) (by simp[aI])) ?_);rintro _ w ⟨v,rfl,h⟩;refine⟨v,rfl,go ?_⟩;refine ak (met (Q6 (h.take dt) (by omega)) ?_);rintro _ w ⟨rfl,h⟩;refine⟨_,rfl,go ?_⟩;refine ak (met (dm (N:=DH bs) (k:=4) (h.take dt) (by omega) (by simp[aI])) ?_);rintro _ w ⟨v,rfl,h⟩;refine⟨v,rfl,go ?_⟩;refine IZ h λv w h=>?_;refine go ?_;exact an rfl ⟨v,rfl,by simpa[aA]using h⟩
def aD(e:ay):Xn Xp:=[str e.key,str e.val,.bool e.del,.int .u64 (e.seq:Int)]
end
section
variable[Bs0:Base][NQ]
attribute [local semireducible] WL WC WQ
def vw(v:Xp)(bs:Bs):ae:=λh=>
 (v=.slice none 0 0/\bs=[])\/∃b o c,v=.slice (some ⟨b,o,none⟩) bs.length c/\bs.length<=c /\
  (bs=[]\/∃all E,h b=some (true,.cells all E (0,0))/\∀j u,(bs.map bV)[j]?=some u->all[o+j]?=some u)
section
variable{ops:Xv Yf}{Q:YL->Act->Xo->Prop}{n:Nat}{ds:Md}{e:Env}{w w':Xo}{rest:Xn Yf}
variable{op:Op}{ty:XO}{pos:YG}{af:Xv Edge}{d:Nat}{v u:Xp}{W0:Xo}{l l' r r':Xn ae}{bs:Bs}
variable {h:Hp}
theorem N8 (k:vw v bs h):∃h1,Hp.le h1 h/\(∀i x,h1 i=some x->x.1=true)/\vw v bs h1:=by
 rcases k with⟨rfl,rfl⟩|⟨b,o,c,rfl,f,k⟩
 .exact⟨λ_=>none,λ_ _ H=>(by grind),λ_ _ H=>(by grind),.inl ⟨rfl,rfl⟩⟩
 .rcases k with rfl|⟨all,E,g,a⟩
  .exact⟨λ_=>none,λ_ _ H=>(by grind),λ_ _ H=>(by grind),.inr ⟨b,o,c,rfl,f,.inl rfl⟩⟩
  .refine⟨λi=>if i=b then some (true,.cells all E (0,0))else none,λi x H=>?_,λi x H=>?_,.inr ⟨b,o,c,rfl,f,by grind⟩⟩
   .grind
   grind
theorem Sat.Fz{A B:ae}(h:Sat W0 (A::l) w)(k:∀h,A h->∃H,Hp.le H h/\(∀i x,H i=some x->x.1=true)/\B H):Sat W0 (B::A::l) w:=by
 refine h.imp λc r=>?_;have⟨H,f,F,L,j,a,m⟩:=r;have⟨g,b,o,p⟩:=k H a;refine⟨g,c,λi x y q s=>?_,Hp.le_trans b L,Hp.le_refl _,p,H,f,F,L,j,a,m⟩;have:=L i x (b i x q)
 grind
theorem Sat.mq(h:Sat W0 (vw v bs::l) w):∃a c,v=.slice a bs.length c/\bs.length<=c:=h.jm λ_ k=>by
 rcases k with⟨rfl,rfl⟩|⟨b,o,c,rfl,H,_⟩
 .grind
 grind
structure Ay where
 b:Nat
 o:Nat
 c:Nat
 all:Xn Xp
 E:XO
def Sat.vM(h:Sat W0 (vw v bs::l) w)(H:bs≠[]):∃z:Ay,(v=.slice (some ⟨z.b,z.o,none⟩) bs.length z.c/\bs.length<=z.c/\∀j u,(bs.map bV)[j]?=some u->z.all[z.o+j]?=some u)/\Sat W0 (ob true z.b (.cells z.all.toArray z.E (0,0))::vw v bs::l) w:=
 (h.Fz λ_=>N8).gD (B:=λz:Ay=>[ob true z.b _]) λf k=>by
  rcases k with⟨_,rfl⟩|⟨b,o,c,rfl,i,rfl|⟨all,E,g,a⟩⟩
  .grind
  .exact(H rfl).elim
  .refine⟨⟨b,o,c,all.toList,E⟩,by grind,f,λ_=>none,λ_ _ _ _ m=>(by grind),Hp.le_refl _,λ_ _ p=>(by grind),?_,Xr⟩;simpa[ob]using g
theorem N9 {z:Ay} {L:Nat} {ns:Bs} (a:ns.length<=L) (H:∀j u,(ns.map bV)[j]?=some u->z.all[z.o+j]?=some u) (k:ob true z.b (.cells z.all.toArray z.E (0,0)) h):vw (.slice (some ⟨z.b,z.o,none⟩) ns.length L) ns h:=
 .inr ⟨z.b,z.o,L,rfl,a,.inr ⟨_,_,k,λj u c=>by grind⟩⟩
theorem Sat.qR{a:XB YO}(h:Sat W0 l w)(H:a=none\/∃b o,a=some ⟨b,o,none⟩){c:Nat}(f:a=none->c=0):Sat W0 (vw (.slice a 0 c) []::l) w:=
 h.imp λg r=>⟨λ_=>none,g,λ_ _ _ i=>(by grind),λ_ _ i=>(by grind),Hp.le_refl _,(by
  rcases H with rfl|⟨b,o,rfl⟩
  .rw[f rfl];exact .inl ⟨rfl,rfl⟩
  .exact .inr ⟨b,o,c,rfl,by grind,.inl rfl⟩),r⟩
theorem Sat.Oa(h:Sat W0 (vw v []::l) w):v=.slice none 0 0\/∃b o c,v=.slice (some ⟨b,o,none⟩) 0 c:=h.jm λ_ k=>by
 rcases k with⟨rfl,_⟩|⟨b,o,c,rfl,_,_⟩
 .grind
 grind
variable {x y:XZ} {m:Nat} {Y:Int}
def To (f:Sat W0 l w) (t:Take (vw v bs) l r) (g:ev e x=some v) (i:ev e y=some (.int .i64 Y)) (A:Y=(m:Int)) (hm:m<=bs.length) (p:Nat.blt d n=true) (kk:∀V,Sat W0 (vw V (bs.take m)::l) w->WL ops Q n ds rest ((d,V)::e) w):WL ops Q n ds (⟨some d,.slice 93 x none (some y) none,ty,pos,af,none⟩::rest) e w:=by
 subst A;have q:=f.take t;by_cases s:bs=[]
 .subst s;cases by simpa using hm
  rcases q.Oa with rfl|⟨b,o,c,rfl⟩
  .exact xm g rfl rfl Xr i p (kk _ (f.qR (.inl rfl) λ_=>rfl))
  .refine qJ 0 0 g rfl rfl rfl i (by grind) (by grind) p (kk _ ?_);have:cutAt b o c 0 1=⟨b,o,none⟩:=by unfold cutAt;split<;>simp
   rw[this];exact f.qR (by grind) (λh=>by grind)
 .obtain⟨z,⟨rfl,D,H⟩,B⟩:=q.vM s;apply qJ 0 m g rfl rfl rfl i (by grind) (by omega) p;have E:cutAt z.b z.o z.c 0 1=⟨z.b,z.o,none⟩:=by unfold cutAt;split<;>simp
  have F:m=(bs.take m).length:=by grind
  have C:Sat W0 (vw (.slice _ (bs.take m).length z.c) (bs.take m)::vw (.slice (some ⟨z.b,z.o,none⟩) bs.length z.c) bs::r) w:=B.head λG k=>N9 (by omega) (λj u a=>H j u (by
   rw[aa5,ZC]at a;split at a
   .exact a
   .cases a)) k
  have:=kk _ (C.imp λ_ k=>bH (λ_=>t.back) k)
  grind
def Tp (g:Sat W0 l w) (t:Take (vw v bs) l r) (i:ev e x=some v) (p:ev e y=some (.int .i64 Y)) (F:Y=(m:Int)) (hm:m<=bs.length) (q:Nat.blt d n=true) (kk:∀V,Sat W0 (vw V (bs.drop m)::l) w->WL ops Q n ds rest ((d,V)::e) w):WL ops Q n ds (⟨some d,.slice 93 x (some y) none none,ty,pos,af,none⟩::rest) e w:=by
 subst F;have A:=g.take t;by_cases B:bs=[]
 .subst B;cases by simpa using hm
  rcases A.Oa with rfl|⟨b,o,c,rfl⟩
  .exact xm i rfl rfl p Xr q (kk _ (g.qR (.inl rfl) λ_=>rfl))
  .refine qJ 0 0 i rfl rfl p rfl (by grind) (by grind) q (kk _ ?_);have:cutAt b o c 0 1=⟨b,o,none⟩:=by unfold cutAt;split<;>simp
   rw[this];exact g.qR (by grind) (λh=>by grind)
 .obtain⟨z,⟨rfl,G,f⟩,I⟩:=A.vM B;apply qJ m bs.length i rfl rfl p rfl hm G q;have C:bs.length-m=(bs.drop m).length:=by simp
  by_cases H:z.c=m
  .have a:bs.drop m=[]:=Ym (by omega);have s:cutAt z.b z.o z.c m 1=⟨z.b,z.o,none⟩:=by unfold cutAt;rw[XE H]
   rw[s,C,a];have:=kk (.slice (some ⟨z.b,z.o,none⟩) 0 (z.c-m)) (by rw[a];exact g.qR (by grind) λh=>by omega);omega
  .have s:cutAt z.b z.o z.c m 1=⟨z.b,z.o+m,none⟩:=by unfold cutAt;rw[Xx H,YA]
   rw[s,C];have J:Sat W0 (vw (.slice (some ⟨z.b,z.o+m,none⟩) (bs.drop m).length (z.c-m)) (bs.drop m)::vw (.slice (some ⟨z.b,z.o,none⟩) bs.length z.c) bs::r) w:=I.head λK k=>N9 (z:=⟨z.b,z.o+m,z.c,z.all,z.E⟩) (by omega) (λj u D=>by
    rw[aay,aaf]at D;have:=f (m+j) u D;rw[<- Y6]at this;exact this) k
   exact kk _ (J.imp λ_ k=>bH (λ_=>t.back) k)
def Q7 (p:Sat W0 l w) (t:Take (vw v bs) l r) (f:ev e x=some v) (g:Nat.blt d n=true) (kk:WL ops Q n ds rest ((d,str bs)::e) w):
 WL ops Q n ds (⟨some d,.convert 93 9 x,ty,pos,af,none⟩::rest) e w:=by
 have i:=p.take t;by_cases k:bs=[]
 .subst k;rcases i.Oa with rfl|⟨b,o,c,rfl⟩
  .exact QL f g kk
  .refine fY (λw _ a q=>?_) g kk;simp[execOp,q.ev f];exact aR.bind (pF (oM (λj u A=>by grind) rfl)) (aR.pure _)
 .obtain⟨z,⟨rfl,B,H⟩,s⟩:=i.vM k;exact vH bs s f .here H rfl g kk
def Sat.Ww(h:Sat W0 l w)(t:Take (vw v bs) l r):∃l',Ut l' v bs/\Sat W0 l' w/\∀w',Sat W0 l' w'->Sat W0 l w':=by
 have f:=h.take t;by_cases g:bs=[]
 .subst g;obtain⟨a,c,rfl,_⟩:=f.mq;exact⟨l,.inl ⟨rfl,a,c,rfl⟩,h,λ_ k=>k⟩
 .obtain⟨z,⟨rfl,p,H⟩,i⟩:=f.vM g;exact⟨_,.inr ⟨z.b,z.o,z.c,true,_,_,_,rfl,.here,λj u q=>by grind⟩,i,λw' k=>k.drop.jZ t⟩
def Sat.Ob(h:Sat W0 (cP v bs::l) w):Sat W0 (vw v bs::l) w:=by
 by_cases f:v=.slice none 0 0
 .subst f;have⟨a,c,e,_⟩:=h.aC;have H:bs=[]:=XY (by grind);subst H;exact h.drop.qR (.inl rfl) (λ_=>rfl)
 .obtain⟨b,c,rest,rfl,i,o,p,g⟩:=h.nI f;by_cases H:bs=[]
  .subst H;exact g.drop.qR (by grind) (λh=>by grind)
  refine(g.share λ⟨_,_,h⟩=>H (List.map_eq_nil_iff.1 (ZT.1 (Zu Array.toList (aa7 h).1)).1)).head λq k=>N9 (z:=⟨b,0,c,_,5⟩) i (λj u s=>?_) k
  grind
