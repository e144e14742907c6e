/-
  Part 35: ; WALKS slices; WALKS strconv; WALKS strconv.
-/
import Derived.Test.YtecibefflhomdaaGreatDoorZ34
set_option maxHeartbeats 8000000
set_option maxRecDepth 100000
set_option linter.all false
namespace Go.Proofs.YtecibefflhomdaaGreatDoor
open Go Proofs.Tryz
section
variable[Bs0:Base][NQ]
attribute [local semireducible] WL WC WQ
attribute [local semireducible] WT
section
variable{ops:Xv Yf}{Q:YL->Act->Xo->Prop}{S:Xo->Prop}{K:Xn Nat}{n:Nat}{ds:Md}{e:Env}{w w':Xo}{b:XN}{t t':OT}{rest:Xn Yf}
variable{op:Op}{ty:XO}{pos:YG}{af:Xv Edge}{d i j:Nat}{v u:Xp}
variable {x y:XZ} {tt m:Nat} {s:Bs} {k:IntKind} {Y:Int} {c:UInt8} {uu:Unit}
theorem Jr {a:Act} {W:Xo} {g:XB (Nat×XN)} (h:Fr n ds e a) (f:ev e x=some (str s)) (l:ev e y=some (.int k Y)) (o:Y=(m:Int)) (p:lk Ao tt=some uu) (H:s[m]?=some c):
 aR (execOp a.eval ⟨some d,.index tt x y,ty,pos,af,g⟩) W (.value (bV c)):=Still.look λE=>by
 subst o;have q:=(Xw.1 H).1;have r:(⟨s.toArray⟩:ByteArray)[m]?=some c:=by
  have z:=(Xw.1 H).2;rw[getElem?_pos _ m (by show m<s.toArray.size;simpa using q)];congr 1
 simp[execOp,h.ev f,h.ev l,Instr.index,asIntOf,bx (kI p),r]
def TD (h:ev e x=some (str s)) (H:ev e y=some (.int k Y)) (f:Y=(m:Int)) (g:lk Ao tt=some uu) (l:s[m]?=some c) (o:Nat.blt d n=true) (kk:WL ops Q n ds rest ((d,bV c)::e) w):WL ops Q n ds (⟨some d,.index tt x y,ty,pos,af,none⟩::rest) e w:=
 fY (λw _ a p=>Jr p h H f g l) o kk
def kR (h:ops[i]?=some ⟨some d,.index tt x y,ty,pos,af,none⟩) (H:ev e x=some (str s)) (a:ev e y=some (.int k Y)) (f:Y=(m:Int)) (g:lk Ao tt=some uu) (l:s[m]?=some c) (o:Nat.blt d n=true) (kk:WT ops Q S K n ds b t ((d,bV c)::e) w):WT ops Q S K n ds b (.q i t) e w:=
 Ll h (λ_ _ p=>Jr p H a f g l) o kk
variable {ty2 N M:Nat} {X:Int}
theorem s8 (f:ev e x=some (.int k X)) (g:ev e y=some (.int k Y)) (l:X=(N:Int)) (o:Y=(M:Int)) (hM:0<M) (p:k.wrap ((N / M:Nat):Int)=((N / M:Nat):Int)) (q:Nat.blt d n=true) (kk:WL ops Q n ds rest ((d,.int k ((N / M:Nat):Int))::e) w):WL ops Q n ds (⟨some d,.binOp .quo tt x y ty2,ty,pos,af,none⟩::rest) e w:=by
 subst l o;refine ey (λw a h E=>?_) q kk;have z:¬((M:Int)=0):=by omega
 have r:¬(M=0):=by omega
 have H:Int.tdiv (N:Int) (M:Int)=((N / M:Nat):Int):=rfl;simp[execOp,h.ev f,h.ev g,eqGuard,Go.binOp,Op.intDiv,r]
 exact_mod_cast p
theorem pU (f:ev e x=some (.int k X)) (g:ev e y=some (.int k Y)) (l:X=(N:Int)) (o:Y=(M:Int)) (hM:0<M) (p:Nat.blt d n=true) (kk:WL ops Q n ds rest ((d,.int k ((N%M:Nat):Int))::e) w):WL ops Q n ds (⟨some d,.binOp .rem tt x y ty2,ty,pos,af,none⟩::rest) e w:=by
 subst l o;refine ey (λw a H E=>?_) p kk;have q:¬(M=0):=by omega
 have h:Int.tmod (N:Int) (M:Int)=((N%M:Nat):Int):=rfl;simp[execOp,H.ev f,H.ev g,eqGuard,Go.binOp,Op.intDiv,q,h]
theorem uo {L o:XB XZ} (l' h':Nat) (p:ev e x=some (str s)) (C:lk Ao tt=some uu) (g:match L with|none=>l'=0|some y=>∃k Y,ev e y=some (.int k Y)/\Y=(l':Int)) (h:match o with|none=>h'=s.length|some y=>∃k Y,ev e y=some (.int k Y)/\Y=(h':Int)) (h1:l'<=h') (A:h'<=s.length) (D:Nat.blt d n=true) (kk:WL ops Q n ds rest ((d,str ((s.drop l').take (h'-l')))::e) w):WL ops Q n ds (⟨some d,.slice tt x L o none,ty,pos,af,none⟩::rest) e w:=by
 refine ey (λw a f E=>?_) D kk;have q:=kI C;have H:(⟨s.toArray⟩:ByteArray).size=s.length:=rfl;have l:(⟨s.toArray⟩:ByteArray).extract l' h'=⟨((s.drop l').take (h'-l')).toArray⟩:=by
  apply ByteArray.ext;simp
 have F:s.length<=h'↔h'=s.length:=by omega
 cases L with
 | none=>
  simp only at g;subst g;cases o with
  | none=>simp only at h;subst h;simp[execOp,f.ev p,Instr.sliceAt,Instr.slice,bx q,Instr.sliceBounds,H]
  | some y=>obtain⟨k,Y,r,rfl⟩:=h;simp[execOp,f.ev p,f.ev r,Instr.sliceAt,Instr.slice,bx q,Instr.sliceBounds,Instr.sliceBound,asIntOf,H,A];simpa using l
 | some z=>
  obtain⟨k,Y,B,rfl⟩:=g;cases o with
  | none=>simp only at h;subst h;simp[execOp,f.ev p,f.ev B,Instr.sliceAt,Instr.slice,bx q,Instr.sliceBounds,Instr.sliceBound,asIntOf,H,h1];simpa using l
  | some y=>obtain⟨k,Y,r,rfl⟩:=h;simp[execOp,f.ev p,f.ev B,f.ev r,Instr.sliceAt,Instr.slice,bx q,Instr.sliceBounds,Instr.sliceBound,asIntOf,H,h1,A];simpa using l
theorem Js {bb k h':Nat} {p:Nat×Nat} (f:ev e x=some (.pointer (some ⟨bb,0,none⟩))) (o:lk An tt=some p) (h:lk cY p.2=some k) (g:ev e y=some (.int .i64 Y)) (q:Y=(h':Int)) (h1:h'<=p.1) (r:Nat.blt d n=true) (kk:WL ops Q n ds rest ((d,.slice (some ⟨bb,0,none⟩) h' p.1)::e) w):WL ops Q n ds (⟨some d,.slice tt x none (some y) none,ty,pos,af,none⟩::rest) e w:=by
 subst q;refine ey (λw a H E=>?_) r kk;have l:=oJ o;by_cases z:p.1=0
 .obtain rfl:h'=0:=by omega
  simp[execOp,H.ev f,H.ev g,Instr.sliceAt,Instr.sureAddr,bx l,db h,Instr.sliceBounds,Instr.sliceBound,asIntOf,z]
 .simp[execOp,H.ev f,H.ev g,Instr.sliceAt,Instr.sureAddr,bx l,db h,Instr.sliceBounds,Instr.sliceBound,asIntOf,h1,add_eq]
end
end
section
variable[Bs0:Base][NQ]
attribute [local irreducible] IntKind.wrap
variable{W0 w:Xo}{F l:Xn ae}
variable {us:Xn Nat}
def OE {b c L:Nat} {rs:Xn Xp} (h:Sat W0 (blk b 131 (us.map uV++rs)::F) w) (H:us.length<=12):
 Calls prog 232 #[.slice (some ⟨b,0,none⟩) us.length c,.int .i64 0,.int .i64 (us.length:Int),.int .i64 (L:Int)] w λx w'=>∃v,∃u:Xn Nat,x=.returned v/\u.Perm us/\Sat W0 (blk b 131 (u.map uV++rs)::F) w':=by
 refine enter func232 rfl ntmps232 results232 rfl ?_;refine go ?_;refine aL (α:=Unit) (λz=>[(0,.slice (some ⟨b,0,none⟩) us.length c),(1,.int .i64 0),(2,.int .i64 (us.length:Int)),(3,.int .i64 (L:Int))])
  (λz w=>Sat W0 (blk b 131 (us.map uV++rs)::F) w) (λz=>0) () ⟨rfl,rfl,rfl,rfl,Xr⟩ h ?_
 clear h;rintro _ w h;refine go ?_;refine ak (met (FT h H) ?_);rintro _ w ⟨v,U,rfl,a,h⟩;refine⟨v,rfl,go ?_⟩;exact an rfl ⟨_,U,rfl,a,h⟩
def TE(n:Nat):Nat:=bif Nat.beq n 0 then 0 else Nat.log2 n+1
def HD:Bs:=(List.range 256).map λn=>UInt8.ofNat (TE n)
theorem Lm:(List.range 256).all (λn=>match HD[n]? with|some c=>Nat.blt n (2^c.toNat)&&Nat.ble c.toNat 8&&(Nat.beq n 0||Nat.ble (2^c.toNat) (2*n))|none=>false)=true:=by kernel_rfl
variable {n:Nat}
def FU (h:n<256):∃c,HD[n]?=some c/\n<2^c.toNat/\c.toNat<=8/\(0<n->2^c.toNat<=2*n):=by
 have H:=X4.1 Lm n (Z7.2 h);split at H
 .rename_i c a;simp only[Yp,ZW,YK,aae,abO]at H;exact⟨c,a,H.1.1,H.1.2,λb=>H.2.resolve_left (by omega)⟩
 .cases H
variable {m k:Nat}
theorem HE (h:n / 2^m<2^k):n<2^(m+k):=by
 rw[Zc];have:=Nat.lt_mul_of_div_lt h (Nat.two_pow_pos m);rwa[abl]at this
def zr (i:n<18446744073709551616) (H:Sat W0 l w):Calls prog 159 #[uV n] w λx w'=>∃k:Nat,x=.returned (.int .i64 (k:Int))/\(n<2^k/\k<=64/\(0<n->2^k<=2*n))/\Sat W0 l w':=by
 refine enter func159 rfl ntmps159 results159 rfl ?_;refine dW ?_;refine uk ?_;refine bT rfl ?_;refine dx (α:=Nat×Nat) (λz=>[(0,uV z.1),(2,.int .i64 (z.2:Int))]) (λz w=>(n / 2^z.2=z.1/\z.1<2^32/\z.2<=32/\(0<n->0<z.1))/\Sat W0 l w) ?_ ?_
 .by_cases h:4294967296<=n
  .refine go ?_;refine l7 (N:=n) (m:=32) rfl rfl rfl (by decide) rfl ?_;refine go ?_;exact aH (n / 2^32,32) ⟨rfl,rfl,Xr⟩ ⟨⟨rfl,by show n / 2^32<2^32;omega,by simp,λ_=>by show 0<n / 2^32;omega⟩,H⟩
  .refine go ?_;exact aH (n,0) ⟨rfl,rfl,Xr⟩ ⟨⟨by simp,by show n<2^32;omega,by simp,λh=>h⟩,H⟩
 clear H i;rintro⟨x,m⟩ w ⟨⟨a,d,e,b⟩,H⟩;simp only at a d e b;refine dx (α:=Nat×Nat) (λz=>[(0,uV z.1),(2,.int .i64 (z.2:Int))]) (λz w=>(n / 2^z.2=z.1/\z.1<2^16/\z.2<=48/\(0<n->0<z.1))/\Sat W0 l w) ?_ ?_
 .by_cases h:65536<=x
  .refine go ?_;refine l7 (N:=x) (m:=16) rfl rfl rfl (by decide) rfl ?_;refine go ?_;exact aH (x / 2^16,m+16) ⟨rfl,by show some (Value.int .i64 _)=some (Value.int .i64 _);simp,Xr⟩ ⟨⟨by show n / 2^(m+16)=x / 2^16;rw[Zc,<- YF,a],by show x / 2^16<2^16;omega,by show m+16<=48;omega,λ_=>by show 0<x / 2^16;omega⟩,H⟩
  .refine go ?_;exact aH (x,m) ⟨rfl,rfl,Xr⟩ ⟨⟨a,by show x<2^16;omega,by show m<=48;omega,b⟩,H⟩
 clear H a d e b x m;rintro⟨x,m⟩ w ⟨⟨a,d,e,b⟩,H⟩;simp only at a d e b;refine dx (α:=Nat×Nat) (λz=>[(0,uV z.1),(2,.int .i64 (z.2:Int))]) (λz w=>(n / 2^z.2=z.1/\z.1<2^8/\z.2<=56/\(0<n->0<z.1))/\Sat W0 l w) ?_ ?_
 .by_cases h:256<=x
  .refine go ?_;refine l7 (N:=x) (m:=8) rfl rfl rfl (by decide) rfl ?_;refine go ?_;exact aH (x / 2^8,m+8) ⟨rfl,by show some (Value.int .i64 _)=some (Value.int .i64 _);simp,Xr⟩ ⟨⟨by show n / 2^(m+8)=x / 2^8;rw[Zc,<- YF,a],by show x / 2^8<2^8;omega,by show m+8<=56;omega,λ_=>by show 0<x / 2^8;omega⟩,H⟩
  .refine go ?_;exact aH (x,m) ⟨rfl,rfl,Xr⟩ ⟨⟨a,by show x<2^8;omega,by show m<=56;omega,b⟩,H⟩
 clear H a d e b x m;rintro⟨x,m⟩ w ⟨⟨a,d,e,b⟩,H⟩;simp only at a d e b;obtain⟨c,j,f,o,g⟩:=FU d;refine go ?_;have q:(bV (UInt8.ofNat x):Xp)=.int .u8 (x:Int):=by simp[bV];omega
 refine TD (s:=HD) (m:=x) (by kernel_rfl) rfl (by simp;omega) rfl j rfl ?_;refine go ?_;refine an rfl ⟨m+c.toNat,?_,⟨HE (by rw[a];exact f),by omega,λp=>?_⟩,H⟩
 .simp[tN]
 .have E:=g (b p);have r:2^m*x<=n:=by rw[<- a];exact Nat.mul_div_le n (2^m)
  rw[Zc];have t:2^m*2^c.toNat<=2^m*(2*x):=Nat.mul_le_mul_left _ E;have u:2^m*(2*x)=2*(2^m*x):=by rw[Nat.mul_left_comm]
  omega
def BU (H:n<18446744073709551616) (h:Sat W0 l w):Calls prog 88 #[.int .u64 (n:Int)] w λx w'=>∃k:Nat,x=.returned (.int .i64 (k:Int))/\Sat W0 l w':=by
 refine enter func88 rfl ntmps88 results88 rfl ?_;refine go ?_;refine ak (met (zr H h) ?_);rintro _ w ⟨k,rfl,_,h⟩;refine⟨_,rfl,go ?_⟩;exact an rfl ⟨k,rfl,h⟩
variable {v:Xp}
def HF (h:Sat W0 (aE 1 v 131 us.length (us.map uV)::F) w) (d:0<us.length) (H:us.length<=12):
 Calls prog 226 #[v] w λx w'=>∃u,∃U:Xn Nat,x=.returned u/\U.Perm us/\Sat W0 (aE 1 v 131 U.length (U.map uV)::F) w':=by
 obtain⟨b,C,r,rfl,q,e,Q,h⟩:=h.iv d;refine enter func226 rfl ntmps226 results226 rfl ?_;refine go ?_;refine ak (met (BU (n:=us.length) (by omega) h) ?_);rintro _ w ⟨k,rfl,h⟩;refine⟨_,rfl,go ?_⟩;refine ak (met (OE h H) ?_);rintro _ w ⟨v,a,rfl,c,h⟩;refine⟨_,rfl,go ?_⟩;refine fE rfl ⟨_,a,rfl,c,?_⟩;have f:=c.length_eq;rw[<- f]at q Q |-;exact Sat.gE (k:=1) h q e Q (by simp) (λu g=>by obtain⟨x,_,rfl⟩:=XA.1 g;rfl)
open Pure (D lX dec)
section
variable{ops:Xv Yf}{Q:YL->Act->Xo->Prop}{S:Xo->Prop}{K:Xn Nat}{n:Nat}{ds:Md}{e:Env}{b:XN}{t:OT}
variable{op:Op}{ty:XO}{pos:YG}{af:Xv Edge}{d i:Nat}
def s9{x:Int}(h:ops[i]?=some ⟨some d,op,ty,pos,af,none⟩)(hv:yv e op=some (.int .u32 (IntKind.u32.wrap x)))(h1:0<=x)(H:x<=4294967295)(a:Nat.blt d n=true)
 (k:WT ops Q S K n ds b t ((d,.int .u32 x)::e) w):WT ops Q S K n ds b (.q i t) e w:=dH h (by rw[hv,aaQ _ ⟨h1,H⟩]) a k
end
def ig:Bs:=(List.range 100).flatMap λi=>[UInt8.ofNat (48+i / 10),UInt8.ofNat (48+i%10)]
def Vr(s:Bs)(i:Nat):XN:=(match s[2*i]? with|some c=>Nat.beq c.toNat (48+i / 10)|none=>false)&&(match s[2*i+1]? with|some c=>Nat.beq c.toNat (48+i%10)|none=>false)
theorem Ln:(List.range 100).all (Vr ig)=true:=by kernel_rfl
def dp{i:Nat}(h:i<100):ig[2*i]?=some (UInt8.ofNat (48+i / 10))/\ig[2*i+1]?=some (UInt8.ofNat (48+i%10)):=by
 have H:=X4.1 Ln i (Z7.2 h);simp only[Vr,Yp]at H;obtain⟨H,a⟩:=H;constructor
 .split at H
  .rename_i c b;rw[b];simp only[abO]at H;rw[<- H];simp
  .cases H
 .split at a
  .rename_i c b;rw[b];simp only[abO]at a;rw[<- a];simp
  .cases a
def Me(N k n:Nat)(Z:Xn Xp)(i:Nat)(cs:Xn Xp):Prop:=cs.length=N/\cs.drop i=(D (k-i) n).map bV++Z
variable {cs:Xn Xp} {j:Nat}
theorem Lo {u:Xp} (h:j+2<=cs.length):((cs.set (j+1) v).set j u).drop j=u::v::cs.drop (j+2):=by
 obtain⟨A,x,B,rfl,H,d⟩:=US (i:=j) (m:=2) h;subst H;obtain⟨X,c,rfl⟩:∃X c,x=[X,c]:=by
  match x,d with
  | [a,b],_=>exact⟨a,b,rfl⟩
 rw[Z0 _ _ (by omega),Z0 _ _ (by omega)];simp
variable {N x:Nat} {Z:Xn Xp}
def Me.pair (h:Me N k n Z (j+2) cs) (d:j+2<=k) (f:k<=N) {q:Nat} (hm:m=k-(j+2)) (H:q=n / 10^m) (a:x=q%100):
 Me N k n Z j ((cs.set (0+(j+1)*1) (bV (UInt8.ofNat (48+x%10)))).set (0+j*1) (bV (UInt8.ofNat (48+x / 10)))):=by
 obtain⟨b,c⟩:=h;subst H;refine⟨by simp[b],?_⟩;rw[X0,YA,X0,YA,Lo (by omega),c];have e:k-j=m+2:=by omega
 rw[e,Pure.UB _ _ x a,<- hm];rfl
theorem Me.one (h:Me N k n Z 1 cs) (d:1<=k) (e:k<=N) (H:x=n / 10^(k-1)%10):Me N k n Z 0 (cs.set 0 (bV (UInt8.ofNat (48+x)))):=by
 obtain⟨a,b⟩:=h;refine⟨by simp[a],?_⟩;obtain⟨c,r,rfl⟩:∃c r,cs=c::r:=by
  cases cs with
  | nil=>simp at a;omega
  | cons c r=>exact⟨c,r,rfl⟩
 simp only[List.drop_succ_cons,ZE,List.set_cons_zero]at b |-;obtain⟨m,rfl⟩:∃m,k=m+1:=⟨k-1,by omega⟩;rw[Zx,Pure.Co,b];simp at H;rw[H];simp
theorem OF (h:n<=18446744073709551615):IntKind.u64.wrap (n:Int)=(n:Int):=ZM _ ⟨by omega,by omega⟩
theorem oX (h:n<=4294967295):IntKind.u32.wrap (n:Int)=(n:Int):=aaQ _ ⟨by omega,by omega⟩
theorem FV{bb k n:Nat}{Z cs:List Value}(h:Sat W0 (blk bb 362 cs::F) w)(o:Me 24 k n Z k cs)(G:1<=k)(r:k<=20)(t:n<10^k)(hn64:n<18446744073709551616) :
 Calls Tryz.prog 235 #[.slice (some ⟨bb,0,none⟩) k 24,uV n] w fun x w'=>∃ u cs',x=.returned u/\Me 24 k n Z 0 cs'/\Sat W0 (blk bb 362 cs'::F) w':=by
 refine enter Tryz.func235 rfl Tryz.ntmps235 Tryz.results235 rfl ?_;refine dW ?_;refine uk ?_;refine bT rfl ?_;refine dx (α:=Nat×Nat×List Value) (fun z=>[(0,.slice (some ⟨bb,0,none⟩) k 24),(1,uV z.2.1),(4,.int .i64 (z.1:Int))]) (fun z w=>(z.1<8/\z.1<=k/\z.2.1=n / 10^(k-z.1)/\Me 24 k n Z z.1 z.2.2)/\Sat W0 (blk bb 362 z.2.2::F) w) ?_ ?_
 ·refine jR ?_;refine aL (α:=Nat×Nat×List Value) (fun z=>[(0,.slice (some ⟨bb,0,none⟩) k 24),(1,uV z.2.1),(4,.int .i64 (z.1:Int))]) (fun z w=>(z.1<=k/\z.2.1=n / 10^(k-z.1)/\z.2.1<18446744073709551616/\Me 24 k n Z z.1 z.2.2)/\Sat W0 (blk bb 362 z.2.2::F) w) (fun z=>z.1) (k,n,cs) ⟨rfl,rfl,rfl,trivial⟩ ⟨⟨by simp,by simp,hn64,o⟩,h⟩ ?_;clear h o hn64;rintro⟨i,q,cs⟩ w ⟨⟨b,a,y,H⟩,h⟩;simp only at b a y H;replace h:Sat W0 (blk bb 362 cs::F) w:=h;refine(show WC _ _ _ _ [(0,.slice (some ⟨bb,0,none⟩) k 24),(1,uV q),(4,.int .i64 (i:Int))] w from ?_);have d:=H.1;by_cases f:8<=i
  ·obtain⟨i,rfl⟩:∃ j,i=j+8:=⟨i-8,by omega⟩;refine go ?_;refine pU (N:=q) (M:=100000000) rfl rfl rfl rfl (by decide) rfl ?_;refine go ?_;refine s8 (N:=q) (M:=100000000) rfl rfl rfl rfl (by decide) (OF (by omega)) rfl ?_;refine go ?_;refine s8 (N:=q%100000000) (M:=10000) rfl rfl rfl rfl (by decide) (oX (by omega)) rfl ?_;refine go ?_;refine pU (N:=q%100000000) (M:=10000) rfl rfl rfl rfl (by decide) rfl ?_;refine go ?_;refine s8 (N:=q%100000000%10000) (M:=100) rfl rfl rfl rfl (by decide) (oX (by omega)) rfl ?_;refine go ?_;refine pU (N:=q%100000000%10000) (M:=100) rfl rfl rfl rfl (by decide) rfl ?_;refine go ?_;refine s8 (N:=q%100000000 / 10000) (M:=100) rfl rfl rfl rfl (by decide) (oX (by omega)) rfl ?_;refine go ?_;refine pU (N:=q%100000000 / 10000) (M:=100) rfl rfl rfl rfl (by decide) rfl ?_;refine go ?_;have P:n / 10^(k-(i+6))=q / 100:=by rw[a,Nat.div_div_eq_div_mul,show k-(i+6)=k-(i+8)+2 by omega,Nat.pow_add]
   have p:n / 10^(k-(i+4))=q / 10000:=by rw[a,Nat.div_div_eq_div_mul,show k-(i+4)=k-(i+8)+4 by omega,Nat.pow_add]
   have A:n / 10^(k-(i+2))=q / 1000000:=by rw[a,Nat.div_div_eq_div_mul,show k-(i+2)=k-(i+8)+6 by omega,Nat.pow_add]
   have B:n / 10^(k-i)=q / 100000000:=by rw[a,Nat.div_div_eq_div_mul,show k-i=k-(i+8)+8 by omega,Nat.pow_add]
   refine eM [] [] (.q 0 (.q 1 (.q 2 (.q 6 (.q 7 (.q 8 (.q 9 (.q 10 (.q 11 (.q 3 (.q 4 (.q 5 (.l 12 (.q 13 (.l 14 .nil))))))))))))))) h (by kernel_rfl) fun w h=>?_;refine dH rfl rfl rfl ?_;refine dH rfl rfl rfl ?_;refine q9 rfl rfl (by omega) (by omega) rfl ?_;refine dH rfl rfl rfl ?_;refine s9 rfl rfl (by omega) (by omega) rfl ?_;refine kR (s:=ig) (m:=2*(q%100000000%10000%100)+1) rfl (by kernel_rfl) rfl (by omega) rfl (dp (by omega)).2 rfl ?_;refine dH rfl rfl rfl ?_;refine kR (s:=ig) (m:=2*(q%100000000%10000%100)) rfl (by kernel_rfl) rfl (by omega) rfl (dp (by omega)).1 rfl ?_;refine gM (j:=i+6+1) rfl rfl rfl (by omega) rfl rfl (by omega) rfl ?_;refine dH rfl rfl rfl ?_;refine dH rfl rfl rfl ?_;refine q9 rfl rfl (by omega) (by omega) rfl ?_;refine ju rfl ?_;refine bJ h (fun w h=>?_) (hlt:=by rw[Nat.blt_eq];omega);refine uk ?_;refine fa rfl ?_;refine gM (j:=i+6) rfl rfl rfl (by omega) rfl rfl (by omega) rfl ?_;refine ju rfl ?_;refine bJ h (fun w h=>?_) (hlt:=by rw[Nat.blt_eq,List.length_set];omega);refine uk ?_;refine fa rfl ?_;refine gL ?_;have H:=H.pair (j:=i+6) (by omega) (by omega) (x:=q%100000000%10000%100) rfl a (by omega);revert H;generalize List.set (List.set _ _ _) _ _=c at h |-;intro H;have d:=H.1;refine go ?_;refine eM [] [] (.q 0 (.q 1 (.q 2 (.q 6 (.q 7 (.q 8 (.q 9 (.q 10 (.q 11 (.q 3 (.q 4 (.q 5 (.l 12 (.q 13 (.l 14 .nil))))))))))))))) h (by kernel_rfl) fun w h=>?_;refine dH rfl rfl rfl ?_;refine dH rfl rfl rfl ?_;refine q9 rfl rfl (by omega) (by omega) rfl ?_;refine dH rfl rfl rfl ?_;refine s9 rfl rfl (by omega) (by omega) rfl ?_;refine kR (s:=ig) (m:=2*(q%100000000%10000 / 100)+1) rfl (by kernel_rfl) rfl (by omega) rfl (dp (by omega)).2 rfl ?_;refine dH rfl rfl rfl ?_;refine kR (s:=ig) (m:=2*(q%100000000%10000 / 100)) rfl (by kernel_rfl) rfl (by omega) rfl (dp (by omega)).1 rfl ?_;refine gM (j:=i+4+1) rfl rfl rfl (by omega) rfl rfl (by omega) rfl ?_;refine dH rfl rfl rfl ?_;refine dH rfl rfl rfl ?_;refine q9 rfl rfl (by omega) (by omega) rfl ?_;refine ju rfl ?_;refine bJ h (fun w h=>?_) (hlt:=by rw[Nat.blt_eq];omega);refine uk ?_;refine fa rfl ?_;refine gM (j:=i+4) rfl rfl rfl (by omega) rfl rfl (by omega) rfl ?_;refine ju rfl ?_;refine bJ h (fun w h=>?_) (hlt:=by rw[Nat.blt_eq,List.length_set];omega);refine uk ?_;refine fa rfl ?_;refine gL ?_;have H:=H.pair (j:=i+4) (by omega) (by omega) (x:=q%100000000%10000 / 100) rfl P.symm (by omega);revert H;generalize List.set (List.set _ _ _) _ _=c at h |-;intro H;have d:=H.1;refine go ?_;refine eM [] [] (.q 0 (.q 1 (.q 2 (.q 6 (.q 7 (.q 8 (.q 9 (.q 10 (.q 11 (.q 3 (.q 4 (.q 5 (.l 12 (.q 13 (.l 14 .nil))))))))))))))) h (by kernel_rfl) fun w h=>?_;refine dH rfl rfl rfl ?_;refine dH rfl rfl rfl ?_;refine q9 rfl rfl (by omega) (by omega) rfl ?_;refine dH rfl rfl rfl ?_;refine s9 rfl rfl (by omega) (by omega) rfl ?_;refine kR (s:=ig) (m:=2*(q%100000000 / 10000%100)+1) rfl (by kernel_rfl) rfl (by omega) rfl (dp (by omega)).2 rfl ?_;refine dH rfl rfl rfl ?_;refine kR (s:=ig) (m:=2*(q%100000000 / 10000%100)) rfl (by kernel_rfl) rfl (by omega) rfl (dp (by omega)).1 rfl ?_;refine gM (j:=i+2+1) rfl rfl rfl (by omega) rfl rfl (by omega) rfl ?_;refine dH rfl rfl rfl ?_;refine dH rfl rfl rfl ?_;refine q9 rfl rfl (by omega) (by omega) rfl ?_;refine ju rfl ?_;refine bJ h (fun w h=>?_) (hlt:=by rw[Nat.blt_eq];omega);refine uk ?_;refine fa rfl ?_;refine gM (j:=i+2) rfl rfl rfl (by omega) rfl rfl (by omega) rfl ?_;refine ju rfl ?_;refine bJ h (fun w h=>?_) (hlt:=by rw[Nat.blt_eq,List.length_set];omega);refine uk ?_;refine fa rfl ?_;refine gL ?_;have H:=H.pair (j:=i+2) (by omega) (by omega) (x:=q%100000000 / 10000%100) rfl p.symm (by omega);revert H;generalize List.set (List.set _ _ _) _ _=c at h |-;intro H;have d:=H.1;refine go ?_;refine eM [] [] (.q 0 (.q 1 (.q 2 (.q 6 (.q 7 (.q 8 (.q 9 (.q 10 (.q 11 (.q 3 (.q 4 (.q 5 (.l 12 (.q 13 (.l 14 .nil))))))))))))))) h (by kernel_rfl) fun w h=>?_;refine dH rfl rfl rfl ?_;refine dH rfl rfl rfl ?_;refine q9 rfl rfl (by omega) (by omega) rfl ?_;refine dH rfl rfl rfl ?_;refine s9 rfl rfl (by omega) (by omega) rfl ?_;refine kR (s:=ig) (m:=2*(q%100000000 / 10000 / 100)+1) rfl (by kernel_rfl) rfl (by omega) rfl (dp (by omega)).2 rfl ?_;refine dH rfl rfl rfl ?_;refine kR (s:=ig) (m:=2*(q%100000000 / 10000 / 100)) rfl (by kernel_rfl) rfl (by omega) rfl (dp (by omega)).1 rfl ?_;refine gM (j:=i+1) rfl rfl rfl (by omega) rfl rfl (by omega) rfl ?_;refine dH rfl rfl rfl ?_;refine dH rfl rfl rfl ?_;refine q9 rfl rfl (by omega) (by omega) rfl ?_;refine ju rfl ?_;refine bJ h (fun w h=>?_) (hlt:=by rw[Nat.blt_eq];omega);refine uk ?_;refine fa rfl ?_;refine gM (j:=i) rfl rfl rfl (by omega) rfl rfl (by omega) rfl ?_;refine ju rfl ?_;refine bJ h (fun w h=>?_) (hlt:=by rw[Nat.blt_eq,List.length_set];omega);refine uk ?_;refine fa rfl ?_;refine gL ?_;have H:=H.pair (j:=i) (by omega) (by omega) (x:=q%100000000 / 10000 / 100) rfl A.symm (by omega);revert H;generalize List.set (List.set _ _ _) _ _=c at h |-;intro H;have d:=H.1;refine go ?_;exact az (i,q / 100000000,_) ⟨rfl,rfl,by show some (Value.int .i64 _)=some (Value.int .i64 _);congr 2;omega,trivial⟩ ⟨⟨by show i<=k;omega,B.symm,by show q / 100000000<_;omega,H⟩,h⟩ (by show i<i+8;omega)
  ·refine go ?_;exact aH (i,q,cs) ⟨rfl,rfl,rfl,trivial⟩ ⟨⟨by show i<8;omega,b,a,H⟩,h⟩
 clear h o hn64 cs;rintro⟨i,q,cs⟩ w ⟨⟨f,b,a,H⟩,h⟩;simp only at f b a H;replace h:Sat W0 (blk bb 362 cs::F) w:=h;refine(show WC _ _ _ _ [(0,.slice (some ⟨bb,0,none⟩) k 24),(1,uV q),(4,.int .i64 (i:Int))] w from ?_);have d:=H.1;have e:q<10^i:=by
  rw[a];apply Nat.div_lt_of_lt_mul;rw[<- Nat.pow_add,show k-i+i=k by omega];exact t
 have g:q<100000000:=Nat.lt_of_lt_of_le e (by
  have:10^i<=10^8:=Nat.pow_le_pow_right (by omega) (by omega);omega)
 refine dW ?_;refine uk ?_;refine bT rfl ?_;refine dx (α:=Nat×Nat×List Value) (fun z=>[(0,.slice (some ⟨bb,0,none⟩) k 24),(12,.int .u32 (z.2.1:Int)),(4,.int .i64 (z.1:Int))]) (fun z w=>(z.1<4/\z.1<=k/\z.2.1=n / 10^(k-z.1)/\z.2.1<10^z.1/\Me 24 k n Z z.1 z.2.2)/\Sat W0 (blk bb 362 z.2.2::F) w) ?_ ?_
 ·by_cases C:4<=i
  ·obtain⟨i,rfl⟩:∃ j,i=j+4:=⟨i-4,by omega⟩;refine go ?_;refine pU (N:=q) (M:=10000) rfl rfl rfl rfl (by decide) rfl ?_;refine go ?_;refine s8 (N:=q) (M:=10000) rfl rfl rfl rfl (by decide) (oX (by omega)) rfl ?_;refine go ?_;refine s8 (N:=q%10000) (M:=100) rfl rfl rfl rfl (by decide) (oX (by omega)) rfl ?_;refine go ?_;refine pU (N:=q%10000) (M:=100) rfl rfl rfl rfl (by decide) rfl ?_;refine go ?_;have P:n / 10^(k-(i+2))=q / 100:=by rw[a,Nat.div_div_eq_div_mul,show k-(i+2)=k-(i+4)+2 by omega,Nat.pow_add]
   have p:n / 10^(k-i)=q / 10000:=by rw[a,Nat.div_div_eq_div_mul,show k-i=k-(i+4)+4 by omega,Nat.pow_add]
   have E:10^(i+4)=10^i*10000:=Nat.pow_add ..;refine eM [] [] (.q 0 (.q 1 (.q 2 (.q 6 (.q 7 (.q 8 (.q 9 (.q 10 (.q 11 (.q 3 (.q 4 (.q 5 (.l 12 (.q 13 (.l 14 .nil))))))))))))))) h (by kernel_rfl) fun w h=>?_;refine dH rfl rfl rfl ?_;refine dH rfl rfl rfl ?_;refine q9 rfl rfl (by omega) (by omega) rfl ?_;refine dH rfl rfl rfl ?_;refine s9 rfl rfl (by omega) (by omega) rfl ?_;refine kR (s:=ig) (m:=2*(q%10000%100)+1) rfl (by kernel_rfl) rfl (by omega) rfl (dp (by omega)).2 rfl ?_;refine dH rfl rfl rfl ?_;refine kR (s:=ig) (m:=2*(q%10000%100)) rfl (by kernel_rfl) rfl (by omega) rfl (dp (by omega)).1 rfl ?_;refine gM (j:=i+2+1) rfl rfl rfl (by omega) rfl rfl (by omega) rfl ?_;refine dH rfl rfl rfl ?_;refine dH rfl rfl rfl ?_;refine q9 rfl rfl (by omega) (by omega) rfl ?_;refine ju rfl ?_;refine bJ h (fun w h=>?_) (hlt:=by rw[Nat.blt_eq];omega);refine uk ?_;refine fa rfl ?_;refine gM (j:=i+2) rfl rfl rfl (by omega) rfl rfl (by omega) rfl ?_;refine ju rfl ?_;refine bJ h (fun w h=>?_) (hlt:=by rw[Nat.blt_eq,List.length_set];omega);refine uk ?_;refine fa rfl ?_;refine gL ?_;have H:=H.pair (j:=i+2) (by omega) (by omega) (x:=q%10000%100) rfl a (by omega);revert H;generalize List.set (List.set _ _ _) _ _=c at h |-;intro H;have d:=H.1;refine go ?_;refine eM [] [] (.q 0 (.q 1 (.q 2 (.q 6 (.q 7 (.q 8 (.q 9 (.q 10 (.q 11 (.q 3 (.q 4 (.q 5 (.l 12 (.q 13 (.l 14 .nil))))))))))))))) h (by kernel_rfl) fun w h=>?_;refine dH rfl rfl rfl ?_;refine dH rfl rfl rfl ?_;refine q9 rfl rfl (by omega) (by omega) rfl ?_;refine dH rfl rfl rfl ?_;refine s9 rfl rfl (by omega) (by omega) rfl ?_;refine kR (s:=ig) (m:=2*(q%10000 / 100)+1) rfl (by kernel_rfl) rfl (by omega) rfl (dp (by omega)).2 rfl ?_;refine dH rfl rfl rfl ?_;refine kR (s:=ig) (m:=2*(q%10000 / 100)) rfl (by kernel_rfl) rfl (by omega) rfl (dp (by omega)).1 rfl ?_;refine gM (j:=i+1) rfl rfl rfl (by omega) rfl rfl (by omega) rfl ?_;refine dH rfl rfl rfl ?_;refine dH rfl rfl rfl ?_;refine q9 rfl rfl (by omega) (by omega) rfl ?_;refine ju rfl ?_;refine bJ h (fun w h=>?_) (hlt:=by rw[Nat.blt_eq];omega);refine uk ?_;refine fa rfl ?_;refine gM (j:=i) rfl rfl rfl (by omega) rfl rfl (by omega) rfl ?_;refine ju rfl ?_;refine bJ h (fun w h=>?_) (hlt:=by rw[Nat.blt_eq,List.length_set];omega);refine uk ?_;refine fa rfl ?_;refine gL ?_;have H:=H.pair (j:=i) (by omega) (by omega) (x:=q%10000 / 100) rfl P.symm (by omega);revert H;generalize List.set (List.set _ _ _) _ _=c at h |-;intro H;have d:=H.1;refine go ?_;exact aH (i,q / 10000,_) ⟨rfl,rfl,by show some (Value.int .i64 _)=some (Value.int .i64 _);congr 2;omega,trivial⟩ ⟨⟨by show i<4;omega,by show i<=k;omega,p.symm,by show q / 10000<10^i;omega,H⟩,h⟩
  ·refine go ?_;exact aH (i,q,cs) ⟨rfl,rfl,rfl,trivial⟩ ⟨⟨by show i<4;omega,b,a,e,H⟩,h⟩
 clear h H d e g f b a cs i q;rintro⟨i,q,cs⟩ w ⟨⟨f,b,a,e,H⟩,h⟩;simp only at f b a e H;replace h:Sat W0 (blk bb 362 cs::F) w:=h;refine(show WC _ _ _ _ [(0,.slice (some ⟨bb,0,none⟩) k 24),(12,.int .u32 (q:Int)),(4,.int .i64 (i:Int))] w from ?_);have d:=H.1;have g:q<10000:=Nat.lt_of_lt_of_le e (by
  have:10^i<=10^4:=Nat.pow_le_pow_right (by omega) (by omega);omega)
 refine dx (α:=Nat×Nat×List Value) (fun z=>[(0,.slice (some ⟨bb,0,none⟩) k 24),(12,.int .u32 (z.2.1:Int)),(4,.int .i64 (z.1:Int))]) (fun z w=>(z.1<2/\z.1<=k/\z.2.1=n / 10^(k-z.1)/\z.2.1<10^z.1/\Me 24 k n Z z.1 z.2.2)/\Sat W0 (blk bb 362 z.2.2::F) w) ?_ ?_
 ·by_cases C:2<=i
  ·obtain⟨i,rfl⟩:∃ j,i=j+2:=⟨i-2,by omega⟩;refine go ?_;refine pU (N:=q) (M:=100) rfl rfl rfl rfl (by decide) rfl ?_;refine go ?_;refine s8 (N:=q) (M:=100) rfl rfl rfl rfl (by decide) (oX (by omega)) rfl ?_;refine go ?_;have p:n / 10^(k-i)=q / 100:=by rw[a,Nat.div_div_eq_div_mul,show k-i=k-(i+2)+2 by omega,Nat.pow_add]
   have E:10^(i+2)=10^i*100:=Nat.pow_add ..;refine eM [] [] (.q 0 (.q 1 (.q 2 (.q 6 (.q 7 (.q 8 (.q 9 (.q 10 (.q 11 (.q 3 (.q 4 (.q 5 (.l 12 (.q 13 (.l 14 .nil))))))))))))))) h (by kernel_rfl) fun w h=>?_;refine dH rfl rfl rfl ?_;refine dH rfl rfl rfl ?_;refine q9 rfl rfl (by omega) (by omega) rfl ?_;refine dH rfl rfl rfl ?_;refine s9 rfl rfl (by omega) (by omega) rfl ?_;refine kR (s:=ig) (m:=2*(q%100)+1) rfl (by kernel_rfl) rfl (by omega) rfl (dp (by omega)).2 rfl ?_;refine dH rfl rfl rfl ?_;refine kR (s:=ig) (m:=2*(q%100)) rfl (by kernel_rfl) rfl (by omega) rfl (dp (by omega)).1 rfl ?_;refine gM (j:=i+1) rfl rfl rfl (by omega) rfl rfl (by omega) rfl ?_;refine dH rfl rfl rfl ?_;refine dH rfl rfl rfl ?_;refine q9 rfl rfl (by omega) (by omega) rfl ?_;refine ju rfl ?_;refine bJ h (fun w h=>?_) (hlt:=by rw[Nat.blt_eq];omega);refine uk ?_;refine fa rfl ?_;refine gM (j:=i) rfl rfl rfl (by omega) rfl rfl (by omega) rfl ?_;refine ju rfl ?_;refine bJ h (fun w h=>?_) (hlt:=by rw[Nat.blt_eq,List.length_set];omega);refine uk ?_;refine fa rfl ?_;refine gL ?_;have H:=H.pair (j:=i) (by omega) (by omega) (x:=q%100) rfl a (by omega);revert H;generalize List.set (List.set _ _ _) _ _=c at h |-;intro H;have d:=H.1;refine go ?_;exact aH (i,q / 100,_) ⟨rfl,rfl,by show some (Value.int .i64 _)=some (Value.int .i64 _);congr 2;omega,trivial⟩ ⟨⟨by show i<2;omega,by show i<=k;omega,p.symm,by show q / 100<10^i;omega,H⟩,h⟩
  ·refine go ?_;exact aH (i,q,cs) ⟨rfl,rfl,rfl,trivial⟩ ⟨⟨by show i<2;omega,b,a,e,H⟩,h⟩
 clear h H d e g f b a cs i q;rintro⟨i,q,cs⟩ w ⟨⟨f,b,a,e,H⟩,h⟩;simp only at f b a e H;replace h:Sat W0 (blk bb 362 cs::F) w:=h;refine(show WC _ _ _ _ [(0,.slice (some ⟨bb,0,none⟩) k 24),(12,.int .u32 (q:Int)),(4,.int .i64 (i:Int))] w from ?_);have d:=H.1;by_cases I:0<i
 ·obtain rfl:i=1:=by omega
  have D:q<10:=by simpa using e
  refine go ?_;refine de (i:=0) rfl rfl rfl rfl rfl (by omega) rfl ?_;refine bJ h (fun w h=>?_) (hlt:=by rw[Nat.blt_eq];omega);refine go ?_;exact fE rfl ⟨_,_,rfl,H.one (by omega) (by omega) (x:=q) (by omega),h⟩
 ·obtain rfl:i=0:=by omega
  refine go ?_;exact fE rfl ⟨_,_,rfl,H,h⟩
end
section
variable[Bs0:Base][NQ]
attribute [local irreducible] IntKind.wrap
open Pure (D lX dec)
variable{W0 w:Xo}{F l:Xn ae}
def ou(W0:Xo):Prop:=∀i,i<20->W0.cell? ⟨1,i,none⟩=some (uV (10^i))
theorem Sat.rT{a:YO}{v:Xp}(h:Sat W0 l w)(H:W0.cell? a=some v):w.cell? a=some v:=by
 obtain⟨_,_,_,d,i,f,⟨g,_⟩,_⟩:=h;unfold World.cell? at H |-;cases b:W0.heap[a.block]? with
 | none=>rw[b]at H;cases H
 | some o=>
  have c:=(d.1 _).2 ⟨o,b,λe=>by subst e;rw[b]at H;cases H⟩;have:=f _ _ (g _ _ c b);rw[this];rw[b]at H;exact H
section
variable{ops:Xv Yf}{Q:YL->Act->Xo->Prop}{n:Nat}{ds:Md}{e:Env}{rest:Xn Yf}{ty:XO}{pos:YG}{af:Xv Edge}{d:Nat}
attribute [local semireducible] WL WC WQ
def TF{x:XZ}{T bb o:Nat}{v:Xp}(h:ev e x=some (.pointer (some ⟨bb,o,none⟩)))(H:lk kV T=some false)(b:w.cell? ⟨bb,o,none⟩=some v)(c:Nat.blt d n=true)
 (k:WL ops Q n ds rest ((d,v)::e) w) (hv:v≠hole:=by exact cE rfl):WL ops Q n ds (⟨some d,.load T x,ty,pos,af,none⟩::rest) e w:=
 fY (λW f a g=>um g h H (f.cell b) hv) c k
end
theorem TG:prog.underlying 372=some (.array 20 131):=by
 have h:(match prog.underlying 372 with|some (.array a b)=>some (a,b)|_=>none)=some (20,131):=by kernel_rfl
 split at h
 .rename_i a b H;rw[H];simp only[Xs,XI]at h;rw[h.1,h.2]
 .cases h
section
variable{ops:Xv Yf}{Q:YL->Act->Xo->Prop}{n:Nat}{ds:Md}{e:Env}{rest:Xn Yf}{ty:XO}{pos:YG}{af:Xv Edge}{d:Nat}
attribute [local semireducible] WL WC WQ
def OG{x y:XZ}{b:Nat}{i:Nat}(H:ev e x=some (.pointer (some ⟨b,0,none⟩)))(c:ev e y=some (.int .i64 (i:Int)))(h1:i<20)(f:Nat.blt d n=true)
 (kk:WL ops Q n ds rest ((d,.pointer (some ⟨b,i,none⟩))::e) w) :
 WL ops Q n ds (⟨some d,.indexAddr 372 x y,ty,pos,af,none⟩::rest) e w:=
 ey (λw a h E=>by simp[execOp,h.ev H,h.ev c,Instr.indexAt,asIntOf,bx TG,db (t:=131) (k:=1) rfl,h1,add_eq,Instr.sureAddr]) f kk
end
def Gu(k:Nat):Nat:=k*78913 / 2^18
theorem TH:(List.range 65).all (λk=>Nat.ble (2^k) (10^(Gu k+1))&&Nat.blt (Gu k) 20&&(Nat.beq (Gu k) 0||Nat.ble (10^(Gu k-1)*2) (2^k)))=true:=by kernel_rfl
variable {k:Nat}
def OH (h:k<=64):2^k<=10^(Gu k+1)/\Gu k<20/\(Gu k=0\/10^(Gu k-1)*2<=2^k):=by
 have H:=X4.1 TH k (Z7.2 (by omega));simp only[Yp,ZW,YK,aae,abO]at H;exact⟨H.1.1,H.1.2,H.2⟩
def HG (H:k<=64) (h:Sat W0 l w):Calls prog 246 #[.int .i64 (k:Int)] w λx w'=>x=.returned (.int .i64 (Gu k:Int))/\Sat W0 l w':=by
 refine enter func246 rfl ntmps246 results246 rfl ?_;refine go ?_;refine l7 (N:=k*78913) (m:=18) (by show some (Value.int .i64 ((k:Int)*78913))=some (.int .i64 ((k*78913:Nat):Int));rw[Int.natCast_mul];rfl) rfl rfl (by decide) rfl ?_;refine go ?_;exact an rfl ⟨rfl,h⟩
def HI{c:XN}(h:Sat W0 l w):Calls prog 247 #[.bool c] w λx w'=>(∃m:Nat,x=.returned (.int .i64 (m:Int))/\m<=1/\(c=true↔m=1))/\Sat W0 l w':=by
 cases c with
 | true=>
  refine enter func247 rfl ntmps247 results247 rfl ?_;refine go ?_;exact an rfl ⟨⟨1,rfl,by simp,by simp⟩,h⟩
 | false=>
  refine enter func247 rfl ntmps247 results247 rfl ?_;refine go ?_;exact an rfl ⟨⟨0,rfl,by simp,by simp⟩,h⟩
variable {n:Nat}
def zs (f:0<n) (g:n<18446744073709551616) (i:ou W0) (H:Sat W0 l w):Calls prog 234 #[uV n] w λx w'=>x=.returned (.int .i64 (lX 20 n:Int))/\Sat W0 l w':=by
 refine enter func234 rfl ntmps234 results234 rfl ?_;refine go ?_;refine ak (met (zr g H) ?_);rintro _ w ⟨k,rfl,⟨j,K,d⟩,H⟩;refine⟨_,rfl,?_⟩;refine uk ?_;refine ak (met (HG K H) ?_);rintro _ w ⟨rfl,H⟩;refine⟨_,rfl,go ?_⟩;obtain⟨o,q,Q⟩:=OH K;refine OG rfl rfl q rfl ?_;refine TF rfl rfl (H.rT (i _ q)) rfl ?_;refine go ?_;refine ak (met (HI H) ?_);rintro _ w ⟨⟨m,rfl,p,a⟩,H⟩;refine⟨_,rfl,go ?_⟩;refine an rfl ⟨?_,H⟩;have d:=d f;rw[ZG]at a;show Ending.returned (.int .i64 ((Gu k:Int)+(m:Int)))=_;congr 2;by_cases b:10^Gu k<=n
 .have e:=Pure.Cm (Gu k) 20 n (by omega) (.inl b) (by omega);have c:m=1:=a.1 (by omega);rw[e];omega
 .have E:Gu k≠0:=λh=>by rw[h]at b;simp at b;omega
  have Q:=Q.resolve_left E;have e:=Pure.Cm (Gu k-1) 20 n (by omega) (.inl (by omega)) (by rw[show Gu k-1+1=Gu k by omega];omega);have c:m≠1:=λh=>by have:=a.2 h;omega
  rw[e];omega
def HJ:Bs:=((List.range 10).map λi=>UInt8.ofNat (48+i))++(List.range 26).map λi=>UInt8.ofNat (97+i)
theorem Ro:(List.range 10).all (λn=>((HJ.drop n).take 1).map UInt8.toNat==(dec n).map UInt8.toNat)=true:=by kernel_rfl
theorem OI:(List.range 100).all (λn=>Nat.blt n 10||((ig.drop (2*n)).take 2).map UInt8.toNat==(dec n).map UInt8.toNat)=true:=by kernel_rfl
theorem toNat_inj:∀{a b:Bs},a.map UInt8.toNat=b.map UInt8.toNat->a=b
 | [],[],_=>rfl
 | x::a,y::b,h=>by
  simp only[XP,abx]at h;rw[toNat_inj h.2,abr.1 h.1]
 | [],_::_,h=>by cases h
 | _::_,[],h=>by cases h
def FW (h:n<100) (H:Sat W0 l w):Calls prog 233 #[.int .i64 (n:Int)] w λx w'=>x=.returned (str (dec n))/\Sat W0 l w':=by
 refine enter func233 rfl ntmps233 results233 rfl ?_;refine dW ?_;refine uk ?_;refine bT rfl ?_;by_cases h10:n<10
 .have e:=X4.1 Ro n (Z7.2 h10);have E:(HJ.drop n).take (n+1-n)=dec n:=by rw[show n+1-n=1 by omega];exact toNat_inj (eq_of_beq e)
  refine go ?_;refine uo (s:=HJ) n (n+1) (by kernel_rfl) rfl ⟨_,_,rfl,rfl⟩ ⟨_,_,rfl,by omega⟩ (by omega) (by show n+1<=36;omega) rfl ?_;rw[E];refine go ?_;exact an rfl ⟨rfl,H⟩
 .have e:=X4.1 OI n (Z7.2 h);have a:Nat.blt n 10=false:=by cases b:Nat.blt n 10 with|false=>rfl|true=>rw[YK]at b;omega
  rw[a,abL]at e;have E:(ig.drop (2*n)).take (2*n+2-2*n)=dec n:=by rw[show 2*n+2-2*n=2 by omega];exact toNat_inj (eq_of_beq e)
  refine go ?_;refine uo (s:=ig) (2*n) (2*n+2) (by kernel_rfl) rfl ⟨_,_,rfl,by omega⟩ ⟨_,_,rfl,by omega⟩ (by omega) (by show 2*n+2<=200;omega) rfl ?_;rw[E];refine go ?_;exact an rfl ⟨rfl,H⟩
theorem OJ:∀f n,1<=lX f n
 | 0,_=>by simp[lX]
 | f+1,n=>by unfold lX;split<;>omega
theorem Jt:∀(k f n:Nat),1<=k->n<10^k->lX f n<=k
 | 0,_,_,h,_=>by omega
 | k+1,f,n,_,h=>by
  cases f with
  | zero=>simp[lX]
  | succ f=>
   unfold lX;split
   .omega
   .rename_i H;cases k with
    | zero=>omega
    | succ k=>
     have e:10^(k+1+1)=10^(k+1)*10:=abk ..;have:=Jt (k+1) f (n / 10) (by omega) (by omega);omega
def OK (f:n<18446744073709551616) (m:ou W0) (H:Sat W0 F w):Calls prog 228 #[uV n,.int .i64 10] w λx w'=>x=.returned (str (dec n))/\Sat W0 F w':=by
 refine enter func228 rfl ntmps228 results228 rfl ?_;refine dW ?_;refine uk ?_;refine bT rfl ?_;by_cases h:n<100
 .refine go ?_;refine ak (met (FW h H) ?_);rintro _ w ⟨rfl,H⟩;refine⟨_,rfl,go ?_⟩;exact an rfl ⟨rfl,H⟩
 .refine go ?_;refine aS H λw B H=>?_;refine go ?_;refine ak (met (zs (by omega) f m H) ?_);rintro _ w ⟨rfl,H⟩;refine⟨_,rfl,go ?_⟩;have b:lX 20 n<=20:=Jt 20 20 n (by omega) (by omega);have c:=OJ 20 n;have d:n<10^lX 20 n:=Pure.Cn 20 n (by omega);generalize g:lX 20 n=k at *;refine Js (p:=(24,5)) (h':=k) rfl rfl rfl rfl rfl (by show k<=24;omega) rfl ?_;refine go ?_;refine ak (met (FV (k:=k) (n:=n) H ⟨rfl,by rw[Nat.sub_self];rfl⟩ c b d f) ?_);rintro _ w ⟨u,C,rfl,o,H⟩;refine⟨_,rfl,go ?_⟩;refine Js (p:=(24,5)) (h':=k) rfl rfl rfl rfl rfl (by show k<=24;omega) rfl ?_;obtain⟨q,i⟩:=o;rw[ZE,Zx]at i;refine vH (dec n) H rfl .here ?_ ?_ rfl ?_
  .intro j u e;have a:dec n=D k n:=by unfold dec;rw[g]
   rw[a]at e;rw[i,X0,XH (Xw.1 e).1];exact e
  .unfold dec;rw[g];exact Pure.Is k n
  refine go ?_;exact an rfl ⟨rfl,H.drop⟩
def Lp (H:n<18446744073709551616) (a:ou W0) (h:Sat W0 F w):Calls prog 209 #[uV n,.int .i64 10] w λx w'=>x=.returned (str (dec n))/\Sat W0 F w':=by
 refine enter func209 rfl ntmps209 results209 rfl ?_;refine go ?_;refine ak (met (OK H a h) ?_);rintro _ w ⟨rfl,h⟩;refine⟨_,rfl,go ?_⟩;exact an rfl ⟨rfl,h⟩
