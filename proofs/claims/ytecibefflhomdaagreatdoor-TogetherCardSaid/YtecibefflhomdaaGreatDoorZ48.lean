/-
  Part 48: WALKS package levels; WALKS package levels; WALKS package levels; ; .
-/
import Derived.Test.YtecibefflhomdaaGreatDoorZ47
set_option maxHeartbeats 8000000
set_option maxRecDepth 100000
set_option linter.all false
namespace Go.Proofs.YtecibefflhomdaaGreatDoor
open Go Proofs.Tryz
section
variable[Bs0:Base][NQ]
open Pure (ad ay Rd bF gq)
attribute [local irreducible] IntKind.wrap
variable{W0 w:Xo}{F:Xn ae}{b d:Nat}{D D':ad}{K:SK}{z:SZ}{s:St}
theorem Cd{D:ad}(h:D.now=[])(n:Bs):∃e,ll D n=(.error e,D.tick):=by
 have:∃e,aY D n=some e:=by
  unfold aY;split
  .exact⟨_,rfl⟩
  .rw[h];exact⟨_,rfl⟩
 obtain⟨e,H⟩:=this;exact⟨e,by unfold ll;rw[H]⟩
theorem dg(D:ad):D.tick.now=D.now:=by
 unfold ad.tick;split
 .rfl
 .split<;>rfl
def PV{D a:ad}{y:YH eX St}(h:D.now=[])(hl:wu D=some (y,a)):a.now=[]:=by
 obtain⟨e,H⟩:=Cd h aM;unfold wu at hl;rw[H]at hl;dsimp only at hl;split at hl<;>(cases hl;rw[dg];exact h)
def L4{x:YH eX St}(h:wu D=some (x,D'))(f:D.now=[])(l:LJ W0)(H:Sat W0 (sw b K uQ::ah K.d D::F) w) :
 Calls prog 47 #[ax b] w λy w'=>∃V,y=.returned V/\Sat W0 (Qf b K x::ah K.d D'::aW V (kv x)::F) w':=by
 obtain⟨k,z,H⟩:=H.mc;refine enter func47 rfl ntmps47 results47 rfl ?_;refine gx ?_;have i:=(H.take yw).Wx;refine ak (met (Ii (n:=aM) (H.take yw)) ?_);clear H;rintro _ w ⟨v,V,rfl,H⟩;refine⟨_,rfl,?_⟩;unfold wu at h;have c:(okB (ll D aM).1).length<=4398046511104:=by
  unfold ll;split
  .simp[okB]
  .split
   .simp[okB]
   .exact PU i.tick _ _ _
 generalize g:ll D aM=W at h H c;obtain⟨X,o⟩:=W;dsimp only at h H c;cases X with
 | error e=>
  dsimp only at h;refine gx ?_;refine ak (met (RK (m:=10) (H.take iB)) ?_);clear H;rintro _ w ⟨rfl,H⟩;refine⟨_,rfl,?_⟩;by_cases a:e.2=10
  .rw[XE a]at h;rw[aar a];simp only[Xs,XI]at h;obtain⟨rfl,rfl⟩:=h;refine gx ?_;refine an rfl ⟨_,rfl,?_⟩;exact Sat.dq (s:=uQ) (z:=z) k (Sat.iy H).to
  .rw[Xx a]at h;rw[Zj a];simp only[Xs,XI]at h;obtain⟨rfl,rfl⟩:=h;obtain⟨t,u,rfl⟩:=H.bp;refine gx ?_;exact an rfl ⟨_,rfl,Sat.qd (e:=e) (Sat.dq (z:=z) k H.to)⟩
 | ok bytes=>
  obtain⟨E,j⟩:=Cd f aM;rw[j]at g;cases g
end
section
variable[Bs0:Base][NQ]
open Pure (ad aB da df)
attribute [local irreducible] IntKind.wrap
section
variable{κ:Type}[DecidableEq κ](K:K5 κ)
variable{ops:Xv Yf}{Q:YL->Act->Xo->Prop}{n:Nat}{ds:Md}{e:Env}{w w':Xo}{rest:Xn Yf}
variable{op:Op}{ty:XO}{pos:YG}{af:Xv Edge}{d b:Nat}{v u:Xp}{W0:Xo}{l l' r r':Xn ae}{kvs:Xn (κ×Xp)}{k:κ}
attribute [local semireducible] WL WC WQ
def rV{T s:XO}{x y z:XZ}(t:Sat W0 l w)(W:mR l (bg K b kvs) (bg K b (da kvs k v)) l')(J:ev e x=some (.map (some b)))(L:ev e y=some (K.val k))(o:ev e z=some v)(M:lk yx T=some (K.ty,s))
 (kk:∀w',Sat W0 l' w'->WL ops Q n ds rest e w'):WL ops Q n ds (⟨none,.insert T x y z,ty,pos,af,none⟩::rest) e w:=IW λw N=>by
 have t:=t.ry N;obtain⟨r,t1,t2⟩:=W.take;obtain⟨A,C,g,P,q,B,p⟩:=(t.take t1).rN;rcases ku K A kvs k 0 P with⟨R,G⟩|⟨j,v',R,G,g3,⟨e0,S,D⟩,X,_⟩
 .have F:=fp K (w:=w) G;have i:=p.vO K (es':=A++[⟨K.val k,v,C⟩]) (clock':=C+1) (sT K A kvs k v C P R) (λE m=>by
   rcases Xy.1 m with h|h
   .exact aa2 (q E h)
   .simp at h;subst h;exact Nat.lt_succ_self _) (by
   rw[XK,Yc];refine⟨B,by simp,?_⟩;intro a H c U O;simp at U;subst U;subst O;obtain⟨E,m,h'⟩:=XA.1 H;have:=q E m;omega)
  refine⟨_,λa H=>.of ?_ (λev f=>?_) (t.kU (i.jZ t2) (qF g λ_ _ _ h=>by cases h)),kk _ (i.jZ t2)⟩
  .simp only[execOp,H.ev J,H.ev L,H.ev o];simp[Instr.mapUpdate,X6 (ew M),X3 g,K.check,F,Yx _ g]
  .have I:=λevs=>fj K (w:=w) (evs:=evs) G;simp only[execOp,H.ev J,H.ev L,H.ev o]at f;simp[Instr.mapUpdate,X6 (ew M),X3 g,bL g,K.check,K.checkQ,F,I,Yx _ g,eL g]at f;rcases f with rfl|rfl<;>exact p.mf .here λ_=>rfl
 .have F:=fp K (w:=w) G;obtain⟨Y,V⟩:=X v _ rfl;have i:=p.vO K (es':=A.modify j λe=>{ e with key:=K.val k,val:=v }) (clock':=C) Y (λE m=>by
   have:E.born∈A.map (·.born):=by rw[<- V];exact XA.2 ⟨E,m,rfl⟩
   obtain⟨Z,h1,I⟩:=XA.1 this;rw[<- I];exact q Z h1) (by rw[V];exact B)
  refine⟨_,λa H=>.of ?_ (λev f=>?_) (t.kU (i.jZ t2) (qF g λ_ _ _ h=>by cases h)),kk _ (i.jZ t2)⟩
  .simp only[execOp,H.ev J,H.ev L,H.ev o];simp[Instr.mapUpdate,X6 (ew M),X3 g,K.check,F,Yx _ g,Instr.keyThatStays,K.bits,S,D]
  .have I:=λevs=>fj K (w:=w) (evs:=evs) G;simp only[execOp,H.ev J,H.ev L,H.ev o]at f;simp[Instr.mapUpdate,X6 (ew M),X3 g,bL g,K.check,K.checkQ,F,I,Yx _ g,eL g,Instr.keyThatStays,K.bits,S,D]at f;rcases f with rfl|rfl<;>exact p.mf .here λ_=>rfl
end
variable{W0 w:Xo}{F:Xn ae}{b d:Nat}{D D':ad}{K:SK}{z:SZ}{s:St}
def Kn(kvs:Xn (Bs×Xp))(l:Xn Bs):Prop:=∀n,aB kvs n=if n∈l then some (.int .i64 1)else none
theorem Kn.nil:Kn [] []:=λn=>by simp[aB]
theorem Kn.put{kvs:Xn (Bs×Xp)}{l l':Xn Bs}{n:Bs}(h:Kn kvs l)(hl:∀m,m∈l'↔m=n\/m∈l):Kn (da kvs n (.int .i64 1)) l':=λm=>by
 rw[df,h m];by_cases a:m=n
 .rw[XE a,XE ((hl m).2 (.inl a))]
 .rw[Xx a];by_cases H:m∈l
  .rw[XE H,XE ((hl m).2 (.inr H))]
  .rw[Xx H,Xx λh=>((hl m).1 h).elim a H]
def Ij{x:YH eX St}(h:pe s D=some (x,D'))(ab:D.now=[])(H:Sat W0 (sw b K s::ah K.d D::F) w) :
 Calls prog 48 #[ax b] w λy w'=>∃ve,y=.returned ve/\Sat W0 (Qf b K x::ah K.d D'::aW ve (kv x)::F) w':=by
 obtain⟨hl,z,H⟩:=H.mc;refine enter func48 rfl ntmps48 results48 rfl ?_;refine dW ?_;refine jv ?_;refine bT rfl ?_;refine dx (α:=Nat) (λm=>[(0,ax b),(3,.map (some m))]) (λm w=>∃f,Kn f [aM,s.log]/\Sat W0 (bg ga m f::blk b 133 (aj K z s)::jb K.d z s.levels::aZ z.m s.mem::bg cB z.sn (aN s.snaps)::ah K.d D::F) w) ?_ ?_
 .refine eM [blk b 133 (aj K z s)] [5] (.q 2 (.q 3 (.q 4 (.s 5 (.l 0 (.l2 1 (.l 6 (.q 7 (.q 8 .nil))) 6 (.l 1 (.q 7 (.q 8 .nil))))))))) H (by kernel_rfl) ?_;clear H;intro w H;refine uz ?_;refine pB H rfl ?_;clear H;intro w m H;have H:=H.C5 ga;refine jv ?_;refine gH H.to ?_;refine FR rfl rfl ?_ ?_
  .refine rV ga (k:=aM) (v:=.int .i64 1) H .here rfl rfl rfl rfl ?_;clear H;intro w H;refine jv ?_;refine gH H.to ?_;refine uz ?_;refine rV ga (k:=s.log) (v:=.int .i64 1) H .here rfl rfl rfl rfl ?_;clear H;intro w H;refine jv ?_;refine fa rfl ?_;refine uz ?_;exact aH m ⟨rfl,rfl,Xr⟩ ⟨_,(Kn.nil.put (l':=[aM]) (by simp)).put (by simp[or_comm]),H⟩
  .refine rV ga (k:=s.log) (v:=.int .i64 1) H .here rfl rfl rfl rfl ?_;clear H;intro w H;refine jv ?_;refine gH H.to ?_;refine uz ?_;refine rV ga (k:=aM) (v:=.int .i64 1) H .here rfl rfl rfl rfl ?_;clear H;intro w H;refine jv ?_;refine gH H.to ?_;refine uz ?_;exact aH m ⟨rfl,rfl,Xr⟩ ⟨_,(Kn.nil.put (l':=[s.log]) (by simp)).put (by simp),H⟩
 clear H;rintro m w ⟨f,c,H⟩;have ar:s.levels.length=4:=hl;refine gx ?_;refine aL (α:=Nat×Xn (Bs×Xp)) (λq=>[(0,ax b),(3,.map (some m)),(20,.agg #[z.l0,z.l1,z.l2,z.l3]),(21,.int .i64 (q.1:Int))])
  (λq w=>(q.1<=4/\Kn q.2 ([aM,s.log]++(s.levels.take q.1).flatten.map (·.name)))/\Sat W0 (bg ga m q.2::blk b 133 (aj K z s)::jb K.d z s.levels::aZ z.m s.mem::bg cB z.sn (aN s.snaps)::ah K.d D::F) w) (λq=>4-q.1) (0,f) ⟨rfl,rfl,rfl,rfl,Xr⟩ ⟨⟨XR _,by simpa using c⟩,H⟩ ?_
 clear H c;rintro⟨i,f⟩ w ⟨⟨hi,c⟩,H⟩;dsimp only at hi c H |-;by_cases g:i<4
 .have E:s.levels[i]?=some s.levels[i]:=Xq (by omega);have R:s.levels.take (i+1)=s.levels.take i++[s.levels[i]]:=by rw[YC,E];rfl
  generalize s.levels[i]=I at E R;obtain⟨lv,S,H⟩:=(H.take iB).vZ E g;obtain⟨P,U,H⟩:=H.lD;obtain⟨V,W,rfl,ac,L⟩:=H.aC;have af:P.length<=9223372036854775807:=by simp only[maxLen]at L;omega
  have aq:((i:Int)<4):=by omega
  refine gx ?_;refine O3 (m:=i) (vs:=[z.l0,z.l1,z.l2,z.l3]) rfl rfl rfl rfl rfl rfl g S rfl ?_;refine gx ?_;refine aL (α:=Nat×Xn (Bs×Xp)) (λq=>[(0,ax b),(3,.map (some m)),(20,.agg #[z.l0,z.l1,z.l2,z.l3]),(21,.int .i64 (i:Int)),(24,.slice V P.length W),(25,.int .i64 (P.length:Int)),(26,.int .i64 (q.1:Int))])
   (λq w=>(q.1<=P.length/\Kn q.2 ([aM,s.log]++(s.levels.take i).flatten.map (·.name)++(I.take q.1).map (·.name)))/\Sat W0 (aE 1 (.slice V P.length W) 193 P.length (P.map ax)::star (List.zipWith (du K.d) P I)::O7 K.d z s.levels i::bg ga m q.2::blk b 133 (aj K z s)::aZ z.m s.mem::bg cB z.sn (aN s.snaps)::ah K.d D::F) w) (λq=>P.length-q.1) (0,f) ⟨rfl,rfl,rfl,rfl,rfl,rfl,rfl,Xr⟩ ⟨⟨XR _,by simpa using c⟩,H.to⟩ ?_
  clear H c;rintro⟨j,f⟩ w ⟨⟨hj,c⟩,H⟩;dsimp only at hj c H |-;by_cases G:j<P.length
  .have gp:P[j]?=some P[j]:=Xq G;have gT:I[j]?=some (I[j]'(by omega)):=Xq (by omega);have X:I.take (j+1)=I.take j++[I[j]'(by omega)]:=by rw[YC,gT];rfl
   have M:=fV (du K.d) gp gT;generalize I[j]'(by omega)=T at gT X M;generalize P[j]=p at gp M;have J:=eT M;obtain⟨bq,ag,rs,hv,q1,q2,q3,B⟩:=H.iv (by omega);obtain⟨rfl,_,rfl⟩:=Yk hv;have A:(P.map ax++rs)[0+j*1]?=some (ax p):=by
    rw[X0,YA,XH (by simpa using G),Yy,gp];rfl
   refine gx ?_;refine de (i:=j) rfl rfl rfl rfl rfl G rfl ?_;refine fF B rfl rfl .here A rfl ?_;clear B;have H:=H.take dt;rw[J]at H;obtain⟨bv,H⟩:=H.ie.rS;refine gx ?_;refine uf ga (k:=T.name) (v:=.int .i64 1) H (by repeat (first|exact mR.here|apply mR.there)) rfl rfl rfl rfl ?_;clear H;intro w H;refine gx ?_;refine az (j+1,da f T.name (.int .i64 1)) ⟨rfl,rfl,rfl,rfl,rfl,rfl,rfl,Xr⟩ ⟨⟨G,?_⟩,?_⟩ (by show _-(j+1)<_-j;omega)
   .refine c.put λx=>?_;rw[X];simp only[XK,XP,List.map_nil,Xy,YV];constructor
    .rintro(h|h|h)
     .exact .inr (.inl h)
     .exact .inr (.inr h)
     .exact .inl h
    .rintro(h|h|h)
     .exact .inr (.inr h)
     .exact .inl h
     .exact .inr (.inl h)
   .have H:=(H.drop.drop).jG;rw[<- J]at H;exact H.to
  .have ai:j=P.length:=by omega
   subst ai;rw[U,YD]at c;have am:¬((P.length:Int)<(P.length:Int)):=by omega
   refine gx ?_;refine az (i+1,f) ⟨rfl,rfl,rfl,rfl,Xr⟩ ⟨⟨g,?_⟩,?_⟩ (by show 4-(i+1)<4-i;omega)
   .dsimp only;rw[R,YN,XK];simpa using c
   .have H:=Sat.O8 E S (Sat.lJ U H);exact H.to
 .have O:i=4:=by omega
  subst O;rw[Yt (by omega)]at c;by_cases C:D.now.length<=jJ
  case neg=>unfold pe at h;rw[Xx C]at h;cases h
  unfold pe at h;rw[XE C]at h;rw[bC]at C;refine gx ?_;refine ak (met (Uf (H.take EF) ab) ?_);clear H;rintro _ w ⟨lv,rfl,H⟩;refine⟨_,rfl,?_⟩;obtain⟨V,W,rfl,ac,L⟩:=(H.take dt).aC;have af:(qp D).length<=9223372036854775807:=by simp only[maxLen]at L;omega
  have Y:∀n,aB f n=if sI s n=true then some (.int .i64 1)else none:=λn=>by
   rw[c n];have:n∈([aM,s.log]++s.levels.flatten.map (·.name))↔sI s n=true:=by
    unfold sI;simp only[ZW,ZG,YR,Xy,XW,ZO,abI,XA]
   by_cases Q:sI s n=true
   .rw[XE Q,XE (this.2 Q)]
   .rw[Xx Q,Xx λhh=>Q (this.1 hh)]
  generalize ao:qp D=N at *;refine gx ?_;refine aL (α:=Nat×ad) (λq=>[(0,ax b),(3,.map (some m)),(42,.slice V N.length W),(43,.int .i64 (N.length:Int)),(44,.int .i64 (q.1:Int))])
   (λq w=>(q.1<=N.length/\(match eY (((N.drop q.1).filter λn=>!sI s n).map .remove) q.2 with|none=>none|some (some e,D')=>some (.error e,D')|some (none,D')=>some (.ok s,D'))=some (x,D')) /\
     Sat W0 (LX (.slice V N.length W) N::bg ga m f::blk b 133 (aj K z s)::jb K.d z s.levels::aZ z.m s.mem::bg cB z.sn (aN s.snaps)::ah K.d q.2::F) w) (λq=>N.length-q.1) (0,D) ⟨rfl,rfl,rfl,rfl,rfl,Xr⟩ ⟨⟨XR _,by rw[ZE];exact h⟩,H.to⟩ ?_
  clear H h ao;rintro⟨i,Z⟩ w ⟨⟨hi,h⟩,H⟩;dsimp only at hi h H |-;by_cases g:i<N.length
  .rw[XX g,Yg]at h;have hg:N[i]?=some N[i]:=Xq g;generalize N[i]=n at hg h;obtain⟨bq,ag,rs,hv,q1,q2,q3,B⟩:=H.iv (by omega);obtain⟨rfl,_,rfl⟩:=Yk hv;have A:(N.map str++rs)[0+i*1]?=some (str n):=by
    rw[X0,YA,XH (by simpa using g),Yy,hg];rfl
   refine gx ?_;refine de (i:=i) rfl rfl rfl rfl rfl g rfl ?_;refine fF B rfl rfl .here A rfl ?_;clear B;refine gx ?_;refine vN ga (k:=n) (z:=.int .i64 0) H (.there .here) rfl rfl rfl rfl rfl ?_;rw[Y n];cases Q:sI s n with
   | true=>
    rw[Q]at h;refine gx ?_;refine az (i+1,Z) ⟨rfl,rfl,rfl,rfl,rfl,Xr⟩ ⟨⟨g,by simpa using h⟩,H⟩ (by show _-(i+1)<_-i;omega)
   | false=>
    rw[Q,XE (by simp),XP,eY]at h;refine gx ?_;cases o:eJ Z (.remove n)with
    | none=>rw[o]at h;cases h
    | some r=>
     obtain⟨eo,D2⟩:=r;rw[o]at h;unfold eJ at o;dsimp only at o;split at o
     .rename_i aa;rw[bC]at aa;simp only[Xs,XI]at o;obtain⟨rfl,rfl⟩:=o;refine ak (met (ze (n:=n) (H.take L9) aa) ?_);clear H;rintro _ w ⟨ve,rfl,H⟩;refine⟨_,rfl,?_⟩;cases hc:aY Z n with
      | some e=>
       rw[hc]at h H;simp only[Xs,XI]at h;obtain⟨rfl,rfl⟩:=h;obtain⟨t,u,rfl⟩:=(H.take dt).bp;refine gx ?_;exact an rfl ⟨_,rfl,Sat.qd (Sat.dq (z:=z) hl H.to)⟩
      | none=>
       rw[hc]at h H;dsimp only at h;have ap:=(H.take dt).ee;subst ap;refine gx ?_;exact az (i+1,fX Z n) ⟨rfl,rfl,rfl,rfl,rfl,Xr⟩ ⟨⟨g,h⟩,H.to⟩ (by show _-(i+1)<_-i;omega)
     .cases o
  .have O:i=N.length:=by omega
   subst O;rw[ZP]at h;simp only[List.filter_nil,List.map_nil,eY,Xs,XI]at h;obtain⟨rfl,rfl⟩:=h;have am:¬((N.length:Int)<(N.length:Int)):=by omega
   refine gx ?_;refine an rfl ⟨_,rfl,?_⟩;have:=Sat.iy (Sat.dq (K:=K) (z:=z) (s:=s) hl (H.to (a:=blk b 133 (aj K z s)::jb K.d z s.levels::aZ z.m s.mem::bg cB z.sn (aN s.snaps)::ah K.d Z::F)));exact this.to
end
section
variable[Bs0:Base][NQ]
open Pure (ad aB da df)
attribute [local irreducible] IntKind.wrap
variable{W0 w:Xo}{F:Xn ae}{b d:Nat}{D D':ad}{K:SK}{z:SZ}{s:St}
variable {x:YH eX St}
def Ik (h:qu K.o s D=some (x,D')) (i:ou W0) (H:Sat W0 (sw b K s::ah K.d D::F) w):
 Calls prog 49 #[ax b] w λy w'=>∃v,y=.returned v/\Sat W0 (Qf b K x::ah K.d D'::aW v (kv x)::F) w':=by
 unfold qu at h;refine enter func49 rfl ntmps49 results49 rfl ?_;obtain⟨j,z,H⟩:=H.mc;refine gx ?_;refine ak (met (FO (H.take iB)) ?_);clear H;rintro _ w ⟨rfl,H⟩;refine⟨_,rfl,?_⟩;by_cases q:0<s.mem.length
 .rw[XE q]at h;have k:(s.mem.length:Int) > 0:=by omega
  have H:=Sat.dq (z:=z) j (H.to (a:=blk b 133 (aj K z s)::jb K.d z s.levels::aZ z.m s.mem::bg cB z.sn (aN s.snaps)::ah K.d D::F));refine gx ?_;refine ak (met (wU h i H) ?_);clear H;rintro _ w ⟨v,rfl,H⟩;refine⟨_,rfl,gx ?_⟩;exact an rfl ⟨_,rfl,H⟩
 .rw[Xx q]at h;have k:¬(s.mem.length:Int) > 0:=by omega
  refine gx ?_;cases f:iV s D true with
  | none=>rw[f]at h;cases h
  | some r=>
   obtain⟨X,A⟩:=r;rw[f]at h;refine ak (met (zL f j i (H.to (a:=blk b 133 (aj K z s)::jb K.d z s.levels::ah K.d D::aZ z.m s.mem::bg cB z.sn (aN s.snaps)::F))) ?_);clear H f;rintro _ w ⟨v,S,rfl,l,⟨N,L,g⟩,H⟩;refine⟨_,rfl,?_⟩;have n:S.levels.length=4:=by rw[g];exact j
   have c:Sat W0 (sw b K S::ah K.d A::aW v (kv X)::F) w:=by
    refine Sat.dq (z:=z) n ?_;have E:S.levels=s.levels:=by rw[g]
    have B:S.mem=s.mem:=by rw[g]
    have C:S.snaps=s.snaps:=by rw[g]
    rw[E,B,C];exact H.to
   clear H;cases X with
   | error e=>
    simp only[gk,Xs,XI]at h;obtain⟨rfl,rfl⟩:=h;obtain⟨t,u,rfl⟩:=(c.take iB).bp;refine gx ?_;refine an rfl ⟨_,rfl,?_⟩;exact Sat.qd (e:=e) c
   | ok G=>
    obtain rfl:=l G rfl;simp only[gk]at h;have p:=(c.take iB).ee;subst p;refine gx ?_;refine ak (met (wT h i c) ?_);clear c;rintro _ w ⟨v,rfl,H⟩;refine⟨_,rfl,gx ?_⟩;exact an rfl ⟨_,rfl,H.to⟩
def VR(o:pX):Nat->St->ad->Out St
 | 0,_,D=>AZ o D
 | 1,s,D=>gk (pe s D) λs D=>qu o s D
 | 2,s,D=>qu o s D
 | _,s,D=>some (.ok s,D)
variable {o:pX}
theorem PW {i:Nat} {s:St} {D D':ad} (h:VR o i s D=some (x,D')) (H:i<3):
 ∃y c,(match i with|0=>wu D|1=>pe s D|_=>qu o s D)=some (y,c)/\((∃e,y=.error e/\x=.error e/\D'=c)\/∃S,y=.ok S/\VR o (i+1) S c=some (x,D')):=by
 have f:∀(a:Out St) (k:St->ad->Out St),gk a k=some (x,D')->∃y c,a=some (y,c)/\((∃e,y=.error e/\x=.error e/\D'=c)\/∃S,y=.ok S/\k S c=some (x,D')):=by
  intro a k h;cases a with
  | none=>cases h
  | some r=>
   obtain⟨y,c⟩:=r;cases y with
   | error e=>simp only[gk,Xs,XI]at h;exact⟨_,_,rfl,.inl ⟨e,rfl,h.1.symm,h.2.symm⟩⟩
   | ok S=>exact⟨_,_,rfl,.inr ⟨S,rfl,h⟩⟩
 match i,H with
 | 0,_=>exact f _ _ h
 | 1,_=>exact f _ _ h
 | 2,_=>
  refine⟨x,D',h,?_⟩;cases x with
  | error e=>exact .inl ⟨e,rfl,rfl,rfl⟩
  | ok S=>exact .inr ⟨S,rfl,rfl⟩
def PX(d:Nat)(o:pX)(v:Xp):YH eX St->ae
 | .ok s=>λh=>∃b,v=ax b/\zP b d o false none s h
 | .error _=>λ_=>v=.pointer none
def Il (h1:1<=o.memory/\o.memory<=32) (I:2<=o.tables/\o.tables<=6) (h:AZ o D=some (x,D')) (W:D.now=[]) (Z:ou W0) (hE:LJ W0) (H:Sat W0 (ah d D::F) w):
 Calls prog 18 #[ax d,.agg #[.int .i64 (o.memory:Int),.int .i64 (o.tables:Int)]] w λy w'=>∃X V,y=.returned (.tuple #[X,V])/\Sat W0 (PX d o X x::ah d D'::aW V (kv x)::F) w':=by
 refine enter func18 rfl ntmps18 results18 rfl ?_;have g1:¬((o.memory:Int)<1):=by omega
 have g2:¬((o.memory:Int) > 32):=by omega
 have g3:¬((o.tables:Int)<2):=by omega
 have g4:¬((o.tables:Int) > 6):=by omega
 refine gx ?_;refine eB H ?_;clear H;intro w b3 H;refine gx ?_;refine cx [.slice none 0 0] ?_;refine eB H ?_;clear H;intro w m H;refine gx ?_;refine pB H rfl ?_;clear H;intro w S H;have H:=H.C5 cB;refine gx ?_;refine cx (aj (KS d o false .nilIface 0) ⟨m,.slice none 0 0,.slice none 0 0,.slice none 0 0,.slice none 0 0,S⟩ uQ) ?_;refine eB H ?_;clear H;intro w b H;refine gx ?_;refine jT [.func (.func 47) #[ax b] #[],.func (.func 48) #[ax b] #[],.func (.func 49) #[ax b] #[]] H ?_;clear H;intro w B H;have J:Sat W0 (aZ m []::jb d ⟨m,.slice none 0 0,.slice none 0 0,.slice none 0 0,.slice none 0 0,S⟩ [[],[],[],[]]::blk B 107 [.func (.func 47) #[ax b] #[],.func (.func 48) #[ax b] #[],.func (.func 49) #[ax b] #[]]::blk b 133 (aj (KS d o false .nilIface 0) ⟨m,.slice none 0 0,.slice none 0 0,.slice none 0 0,.slice none 0 0,S⟩ uQ)::bg cB S []::ah d D::F) w:=by
  have I:=Sat.B0 (d:=d) (Sat.B0 (d:=d) (Sat.B0 (d:=d) (Sat.B0 (d:=d) H)));have L:=I.HY (z:=⟨m,.slice none 0 0,.slice none 0 0,.slice none 0 0,.slice none 0 0,S⟩) (t0:=[]) (t1:=[]) (t2:=[]) (t3:=[]);have M:=Sat.ep (k:=4) (E:=256) L;have h5:=Sat.nh (m:=m) (v:=.slice none 0 0) (l:=[]) (M.to (a:=blk m 120 [.slice none 0 0]::kW (.slice none 0 0) []::jb d ⟨m,.slice none 0 0,.slice none 0 0,.slice none 0 0,.slice none 0 0,S⟩ [[],[],[],[]]::blk B 107 [.func (.func 47) #[ax b] #[],.func (.func 48) #[ax b] #[],.func (.func 49) #[ax b] #[]]::blk b 133 (aj (KS d o false .nilIface 0) ⟨m,.slice none 0 0,.slice none 0 0,.slice none 0 0,.slice none 0 0,S⟩ uQ)::bg cB S []::ah d D::F));exact h5
 clear H;have H:=Sat.dq (K:=KS d o false .nilIface 0) (z:=⟨m,.slice none 0 0,.slice none 0 0,.slice none 0 0,.slice none 0 0,S⟩) (s:=uQ) (b:=b) rfl (J.to (a:=blk b 133 (aj (KS d o false .nilIface 0) ⟨m,.slice none 0 0,.slice none 0 0,.slice none 0 0,.slice none 0 0,S⟩ uQ)::jb d ⟨m,.slice none 0 0,.slice none 0 0,.slice none 0 0,.slice none 0 0,S⟩ [[],[],[],[]]::aZ m []::bg cB S []::ah d D::blk B 107 [.func (.func 47) #[ax b] #[],.func (.func 48) #[ax b] #[],.func (.func 49) #[ax b] #[]]::F));clear J;refine gx ?_;refine aL (α:=Nat×St×ad) (λq=>[(6,ax b),(42,.slice (some ⟨B,0,none⟩) 3 3),(43,.int .i64 3),(44,.int .i64 (q.1:Int))])
  (λq w=>(q.1<=3/\((q.1=0->q.2.1=uQ/\q.2.2=D)/\(q.1=1->q.2.2.now=[]))/\VR o q.1 q.2.1 q.2.2=some (x,D'))/\Sat W0 (sw b (KS d o false .nilIface 0) q.2.1::ah d q.2.2::blk B 107 [.func (.func 47) #[ax b] #[],.func (.func 48) #[ax b] #[],.func (.func 49) #[ax b] #[]]::F) w) (λq=>3-q.1) (0,uQ,D) ⟨rfl,rfl,rfl,rfl,Xr⟩ ⟨⟨XR _,⟨λ_=>⟨rfl,rfl⟩,λh=>(by cases h)⟩,h⟩,H⟩ ?_
 clear H h;rintro⟨i,s,D1⟩ w ⟨⟨hi,⟨c,j⟩,h⟩,H⟩;dsimp only at hi c j h H |-;by_cases n:i<3
 .have Y:((i:Int)<3):=by omega
  obtain⟨y,G,p,N⟩:=PW h n;have A:∀(V:Xp) (w:Xo),Sat W0 (Qf b (KS d o false .nilIface 0) y::ah d G::aW V (kv y)::blk B 107 [.func (.func 47) #[ax b] #[],.func (.func 48) #[ax b] #[],.func (.func 49) #[ax b] #[]]::F) w ->
   (∃e,y=.error e/\Sat W0 (PX d o (.pointer none) x::ah d D'::aW V (kv x)::F) w)\/∃C,y=.ok C/\V=.nilIface/\VR o (i+1) C G=some (x,D')/\Sat W0 (sw b (KS d o false .nilIface 0) C::ah d G::blk B 107 [.func (.func 47) #[ax b] #[],.func (.func 48) #[ax b] #[],.func (.func 49) #[ax b] #[]]::F) w:=by
   intro V w H;rcases N with⟨e,rfl,rfl,rfl⟩|⟨C,rfl,N⟩
   .refine .inl ⟨e,rfl,?_⟩;have I:=H.to (a:=ah d D'::aW V (kv (.error e:YH eX St))::F);exact I.imp λhp r=>⟨λ_=>none,hp,λ_ _ _ O=>(by cases O),λ_ _ O=>(by cases O),Hp.le_refl _,rfl,r⟩
   .have P:=(H.take iB).ee;exact .inr ⟨C,rfl,P,N,H.to⟩
  obtain⟨f,Q,R,g⟩:∃f,([.func (.func 47) #[ax b] #[],.func (.func 48) #[ax b] #[],.func (.func 49) #[ax b] #[]]:Xn Xp)[0+i*1]?=some (.func (.func f) #[ax b] #[])/\lk vC f=some () /\
   Calls prog f #[ax b] w λz w'=>∃V,z=.returned V/\Sat W0 (Qf b (KS d o false .nilIface 0) y::ah d G::aW V (kv y)::blk B 107 [.func (.func 47) #[ax b] #[],.func (.func 48) #[ax b] #[],.func (.func 49) #[ax b] #[]]::F) w':=by
   match i,n,c,j,p with
   | 0,_,c,_,p=>
    have:=(c rfl).1;subst this;have T:=(c rfl).2;exact⟨47,rfl,rfl,L4 (K:=KS d o false .nilIface 0) p (by rw[T];exact W) hE H⟩
   | 1,_,_,j,p=>exact⟨48,rfl,rfl,Ij (K:=KS d o false .nilIface 0) p (j rfl) H⟩
   | 2,_,_,_,p=>exact⟨49,rfl,rfl,Ik (K:=KS d o false .nilIface 0) p Z H⟩
  refine gx ?_;refine de (i:=i) rfl rfl rfl rfl rfl n rfl ?_;refine fF H rfl rfl (.there (.there .here)) Q rfl ?_;refine gx ?_;refine kL rfl R rfl rfl (met g ?_);clear H g;rintro _ w ⟨V,rfl,H⟩;refine⟨_,rfl,?_⟩;cases y with
  | error e=>
   obtain⟨t,u,rfl⟩:=(H.take iB).bp;rcases A _ w H with⟨e',_,H⟩|⟨C,h1,_⟩
   .refine gx ?_;exact an rfl ⟨_,_,rfl,H⟩
   .cases h1
  | ok s2=>
   rcases A _ w H with⟨e',h1,_⟩|⟨C,h1,rfl,L,M⟩
   .cases h1
   .cases h1;clear H;refine gx ?_;exact az (i+1,s2,G) ⟨rfl,rfl,rfl,rfl,Xr⟩ ⟨⟨n,⟨λhh=>(by omega),λhh=>(by
     have J:i=0:=by omega
     subst J;have T:=(c rfl).2;rw[T]at p;exact PV W p)⟩,L⟩,M⟩ (by show 3-(i+1)<3-i;omega)
 .have U:i=3:=by omega
  subst U;simp only[VR,Xs,XI]at h;obtain⟨rfl,rfl⟩:=h;refine gx ?_;refine an rfl ⟨_,_,rfl,?_⟩;have H:=Sat.iy H;have H:=Sat.iy H;have H:=Sat.TW (o:=o) (cl:=false) (be:=none) (br:=.nilIface) (H.to (a:=sw b (KS d o false .nilIface 0) s::aW .nilIface none::ah d D1::aW .nilIface none::F));exact H.head λ_ k=>⟨b,rfl,k⟩
open Pure (ad cC aO sF bD)
variable{W0 w:Xo}{F:Xn ae}{v:Xp}
def Dv{l:Xn cC}(j:l.length<=1099511627776)(h:Sat W0 (iS v l::F) w) :
 Calls prog 31 #[v] w λx w'=>∃u,x=.returned u/\Sat W0 (RO u l::iS v l::F) w':=by
 obtain⟨a,c,rfl,-⟩:=h.JH;refine enter func31 rfl ntmps31 results31 rfl ?_;refine gy ?_;refine aL (α:=Nat×Xp) (λz=>[(0,.slice a l.length c),(3,z.2),(4,.int .i64 (z.1:Int))])
  (λz w=>z.1<=l.length/\Sat W0 (RO z.2 (l.take z.1)::iS (.slice a l.length c) l::F) w) (λz=>l.length-z.1) (0,.slice none 0 0) ⟨rfl,rfl,rfl,Xr⟩ ⟨XR _,Sat.ep (k:=3) (E:=137) h⟩ ?_
 clear h;rintro⟨i,t⟩ w ⟨p,h⟩;dsimp only at p h |-;obtain⟨A,co,rfl,-⟩:=h.aC;by_cases H:i<l.length
 .have e:(i:Int)<(l.length:Int):=by omega
  obtain⟨z,x,r,y,rfl,m,C,B,G,n⟩:=(h.take dt).Sx H;clear h;have f:(l.take i).length=i:=by rw[Yb];omega
  have h:Sat W0 (ob true z.b (.cells z.all.toArray z.E (0,0))::RO (.slice A (l.take i).length co) (l.take i)::iS (.slice (some ⟨z.b,z.o,none⟩) l.length c) l::F) w:=n.to;clear n;refine gy ?_;refine eM [ob true z.b (.cells z.all.toArray z.E (0,0))] [5,10,15] (.q 0 (.q 1 (.q 2 (.q 3 (.q 4 (.s 5 (.q 6 (.q 7 (.q 8 (.q 9 (.s 10 (.q 11 (.q 12 (.q 13 (.q 14 (.s 15 (.q 16 (.l 17 (.l 18 (.q 19 .nil)))))))))))))))))))) h (by kernel_rfl) ?_;clear h;intro w h;refine Mh ?_;refine zE (iQ x) rfl ?_;refine Mh ?_;refine jT (iQ x) h ?_;clear h;intro w I h;refine gy ?_;refine gH h.to ?_;refine Mh ?_;refine dZ h ?_;clear h;intro V w h;rw[uE]at h;refine gy ?_;refine gH h.to ?_;refine Mh ?_;refine gy ?_;have f:l.take (i+1)=l.take i++[x]:=by rw[YC,r];rfl
  refine az (i+1,V) ⟨rfl,rfl,rfl,Xr⟩ ⟨H,?_⟩ (by show l.length-(i+1)<l.length-i;omega);rw[f];exact h.to
 .have g:i=l.length:=by omega
  subst g;have e:¬(l.length:Int)<(l.length:Int):=by omega
  rw[YD]at h |-;refine gy ?_;exact an rfl ⟨_,rfl,h⟩
theorem JK(a:Int):IntKind.u64.wrap a=(((IntKind.u64.wrap a).toNat:Nat):Int):=by
 rw[IntKind.wrap_u64];omega
def Aa(a:Int)(k:Nat):Nat:=(IntKind.u64.wrap a).toNat%k
theorem xF(a:Int){k:Nat}(h:0<k):Aa a k<k:=abo _ h
def nt(a:Int):Nat:=1+Aa a 32
def ni(a:Int):Nat:=2+Aa a 5
def PY{a b:Int}(h:Sat W0 F w) :
 Calls prog 23 #[.int .i64 a,.int .i64 b] w λx w'=>x=.returned (.agg #[.int .i64 (nt a:Int),.int .i64 (ni b:Int)])/\Sat W0 F w':=by
 have H:=xF a (k:=32) (by simp);have c:=xF b (k:=5) (by simp);apply enter func23 rfl ntmps23 results23 rfl;refine gy ?_;refine aS h ?_;clear h;intro w B h;refine gy ?_;refine pU rfl rfl (JK a) rfl (by simp) rfl ?_;show WL _ _ _ _ _ ((_,.int .u64 (Aa a 32:Int))::_) _;refine gy ?_;refine pU rfl rfl (JK b) rfl (by simp) rfl ?_;show WL _ _ _ _ _ ((_,.int .u64 (Aa b 5:Int))::_) _;refine gy ?_;refine cx [.int .i64 (1+(Aa a 32:Int)),.int .i64 (2+(Aa b 5:Int))] ?_;refine fG h ?_;clear h;intro w h;refine gy ?_;refine iW ⟨_,_,B,0,rfl,rfl,kM [.int .i64 (1+(Aa a 32:Int)),.int .i64 (2+(Aa b 5:Int))] h .here rfl rfl (iZ.all _),rfl⟩ ⟨?_,h.drop⟩;rw[show((nt a:Nat):Int)=1+(Aa a 32:Int)by unfold nt;omega,show((ni b:Nat):Int)=2+(Aa b 5:Int)by unfold ni;omega];rfl
def JL(a:Int):1<=nt a/\nt a<=32:=by
 have:=xF a (k:=32) (by simp);unfold nt;omega
def JM(a:Int):2<=ni a/\ni a<=6:=by
 have:=xF a (k:=5) (by simp);unfold ni;omega
theorem Ab(gs:Xn (Xn cC)):Own (eU gs):=by
 have a:∀(i:Nat) (l:Xn cC),(eU gs)[i]?=some l->i<6/\∃g,l=dS i g:=λi l h=>by
  rw[eU,List.getElem?_mapIdx]at h
  grind
 have m:∀l∈eU gs,∃i g,l=dS i g:=λl H=>by
  have⟨i,f⟩:=List.getElem?_of_mem H
  grind
 refine⟨by simp[eU];omega,λl H=>?_,λi l f c e=>?_,λl H c e=>?_⟩
 .obtain⟨i,g,rfl⟩:=m l H;simp[dS];omega
 .obtain⟨_,g,rfl⟩:=a i l f;obtain⟨x,_,rfl⟩:=XA.1 e;rfl
 .obtain⟨i,g,rfl⟩:=m l H;obtain⟨x,_,rfl⟩:=XA.1 e;exact⟨⟨by simp[oZ];omega,by simp[oZ]⟩,λ_=>by simp[oZ];omega⟩
theorem JN:∀(m:Xn (Xn cC)) {ps:Xn (Bs×Bs)},Pure.mI ps->m.foldl Ak ps=m.foldl sF ps
 | [],_,_=>rfl
 | l::m,ps,h=>by
  rw[YI,YI,MQ l h];exact JN m (Pure.tl l h)
theorem Ce{m:Xn (Xn cC)}{K:Nat}(h:∀l∈m,l.length<=K):∀{ps:Xn (Bs×Bs)},(m.foldl Ak ps).length<=ps.length+m.length*K:=by
 induction m with
 | nil=>intro ps;simp
 | cons l m i=>
  intro ps;have H:=i (λl a=>h l (by grind)) (ps:=Ak ps l);have c:=IJ l ps;have e:=h l XC;rw[YI,X5,aa0,Nat.one_mul];omega
end
section
variable[Bs0:Base][NQ]
open Pure (ad cC aO sF bD)
attribute [local irreducible] IntKind.wrap
variable{W0 w:Xo}{F:Xn ae}{v:Xp}
def L5{d:Nat}{o:pX}{s:St}{v:Xp}(h:Sat W0 (PX d o v (.ok s)::F) w):∃b,v=ax b/\Sat W0 (zP b d o false none s::F) w:=by
 obtain⟨a,rfl,H⟩:=h.gD (B:=λa=>[zP a d o false none s]) λc ⟨a,e,f⟩=>⟨a,e,c,λ_=>none,λ_ _ _ _ g=>(by grind),Hp.le_refl _,λ_ _ i=>(by grind),f,Xr⟩
 grind
theorem AH(ps:Xn (Bs×Bs)):Pure.gB ps [] [] 0=ps:=by
 unfold Pure.gB Pure.JW;have:ps.filter (λp=>Pure.tg [] p.1&&Pure.tf [] p.1)=ps:=YM.2 λp _=>by
  simp[Pure.tg,Pure.tf,Pure.DN]
 grind
abbrev Gl(m:Xn (Xn cC))(a b:Int):Xn Nat->cn:=me m (AF m ⟨nt a,ni b⟩) ⟨nt a,ni b⟩
def PZ:YL->Act->Xo->Prop:=λe a v=>(e=.normal\/e=.ret)/\a.defers=[]/\a.tmps[6]?=some (.bool true)/\(dN v).th=.out
omit Bs0 in
instance:pr PZ:=⟨λ_ _ h=>by rcases h.1 with h|h<;>cases h⟩
omit Bs0 in
instance:rZ PZ:=⟨λ_ _ _ _ _ h=>by rcases h.1 with h|h<;>cases h⟩
section
attribute [local semireducible] WL WC WQ
theorem RX{n:Nat}{e:Env}{w:Xo}(h:lk e 6=some (.bool true))(b:(dN w).th=.out):WQ PZ .ret n P6 e w:=λa H=>.of ⟨.inr rfl,H.defers,H.get 6 _ h,b⟩
end
def WN{gs:Xn (Xp×Xn cC)}{m:Xn (Xn cC)}{a b:Int}[hM:zS (Gl m a b)][hU:I7 (Gl m a b)](hm:m=eU (gs.map (·.2)))(hv:DG W0 1 v (gs.map λg=>[g.1]))(hg:∀g∈gs,DG W0 3 g.1 (cZ g.2))
 (hW:ou W0) (hE:LJ W0) (D:(dN W0).th=.pre) (H:Sat W0 [] w) {body:Code} (hb:f9.body=some body) :
 WC body PZ 79 P6 (Ar 0 [v,.int .i64 a,.int .i64 b]) w:=by
 obtain rfl:f9.body.getD .skip=body:=by rw[hb];rfl
 have f:Own m:=by rw[hm];exact Ab _
 have E:=JL a;have ab:=JM b;refine gy ?_;refine ak (met (Le (room:=1099511627776) H (by decide) (by decide)) ?_);clear H;rintro _ w1 ⟨d,rfl,H⟩;refine⟨_,rfl,?_⟩;refine gy ?_;refine ak (met (PY H) ?_);clear H;rintro _ w2 ⟨rfl,H⟩;refine⟨_,rfl,?_⟩;refine gy ?_;refine aS H ?_;clear H;intro w3 b8 H;refine gy ?_;refine fG (vs:=[.int .i64 (nt a:Int),.int .i64 (ni b:Int)]) H ?_;clear H;intro w4 H;obtain⟨s,D',ac,hi⟩:=Ig (m:=m) (o:=⟨nt a,ni b⟩) (sW (by decide) (by decide)) (by show 1<=ni b;omega) E.1;refine gy ?_;refine ak (met (Il (o:=⟨nt a,ni b⟩) E ab ac rfl hW hE H.drop) ?_);clear H;rintro _ w5 ⟨pv,ve,rfl,H⟩;refine⟨_,rfl,?_⟩;obtain⟨B,rfl,af⟩:=L5 H;clear H;refine gy ?_;have H:Sat W0 (zP B d ⟨nt a,ni b⟩ false none s::ah d D'::aW ve none::[]) w5:=af;have ag:=Sat.ee (H.take iB);subst ag;refine ak (met (zV H) ?_);clear H;rintro _ w6 ⟨rfl,H⟩;refine⟨_,rfl,?_⟩;refine gy ?_;have H:Sat W0 (zP B d ⟨nt a,ni b⟩ false none s::ah d D'::[]) w6:=H.to;refine ak (met (Ib hv hg H) ?_);clear H;rintro _ w7 ⟨vl,U,rfl,G,H⟩;refine⟨_,rfl,?_⟩;rw[<- hm]at H G;refine gy ?_;have H:Sat W0 (zP B d ⟨nt a,ni b⟩ false none s::ah d D'::aE 1 vl 73 m.length U::star (List.zipWith kx U m)::[]) w7:=H.to;obtain⟨av,cv,rfl,-⟩:=(H.take iB).aC;have I:=f.few;refine ak (met (AE (Inv:=AF m ⟨nt a,ni b⟩) (hM:=hM) (by omega) hi D G H) ?_);clear H;rintro _ w8 ⟨x,wg,ch,t2,t5,t6,r,Z,ai,st,n8,rfl,rfl,J,ha,H,hX⟩;refine⟨_,rfl,?_⟩;refine gy ?_;refine aL (α:=Nat×Xp) (λz=>[(9,ax B),(11,.slice av m.length cv),(12,.slice (some ⟨Z,0,none⟩) m.length m.length),(13,z.2),(14,.int .i64 (z.1:Int))])
  (λz w=>z.1<=m.length/\Sat { W0 with os:=w8.os } (ij z.2 ((m.take z.1).foldl Ak [])::Qg (AF m ⟨nt a,ni b⟩) B d ⟨nt a,ni b⟩ st::star (List.zipWith iS U m)::cy ai) w) (λz=>m.length-z.1) (0,.slice none 0 0) ⟨rfl,rfl,rfl,rfl,rfl,Xr⟩ ⟨XR _,Sat.qZ H (.inl rfl) λ_=>rfl⟩ ?_
 clear H;rintro⟨i,vp⟩ w ⟨A,e⟩;dsimp only at A e |-;obtain⟨ap,cp,rfl,-⟩:=e.xE;by_cases j:i<m.length
 .have a1:(i:Int)<(m.length:Int):=by omega
  have L:m≠[]:=λh=>by subst h;simp at j
  obtain⟨oa,a2,R,he,rfl⟩:=hX L;cases he;obtain⟨u,hu⟩:∃u,U[i]?=some u:=⟨U[i]'(by omega),Xq _⟩;have t:m[i]?=some m[i]:=Xq j;have a3:(U++R)[0+i*1]?=some u:=by rw[X0,YA,XH (by omega)];exact hu
  have a4:(List.replicate m.length (Value.int .i64 0))[0+i*1]?=some (.int .i64 0):=by rw[X0,YA,List.getElem?_replicate_of_lt j]
  have aa:m[i].length<=60:=f.len _ (ZA j);have hZ:(List.zipWith iS U m)[i]?=some (iS u m[i]):=by rw[aav,hu,t]
  have M:List.zipWith iS U m=(List.zipWith iS U m).take i++iS u m[i]::(List.zipWith iS U m).drop (i+1):=by
   have N:(List.zipWith iS U m).drop i=iS u m[i]::(List.zipWith iS U m).drop (i+1):=by
    obtain⟨h,he⟩:=Xw.1 hZ;rw[XX h,he]
   rw[<- N,X9]
  have k:(m.take (i+1)).foldl Ak []=Ak ((m.take i).foldl Ak []) m[i]:=by rw[YC,t,Zq];rfl
  have C:((m.take i).foldl Ak []).length<=360:=by
   have N:=Ce (m:=m.take i) (K:=60) (λl t=>f.len l (Zp t)) (ps:=[]);have h2:(m.take i).length<=6:=by rw[Yb];omega
   have h3:(m.take i).length*60<=6*60:=ZL _ h2;simp only[List.length_nil]at N;omega
  obtain⟨ps,al⟩:∃ps,ps=(m.take i).foldl Ak []:=⟨_,rfl⟩;rw[<- al]at k C e |-;obtain⟨O,P⟩:∃O,O=Qg (AF m ⟨nt a,ni b⟩) B d ⟨nt a,ni b⟩ st:=⟨_,rfl⟩;rw[<- P]at e;refine gy ?_;have n:Sat { W0 with os:=w8.os } (star (List.zipWith iS U m)::ij (.slice ap ps.length cp) ps::O::blk Z 44 (List.replicate m.length (.int .i64 0))::blk oa 73 (U++R)::[]) w:=e.to;rw[M]at n;have n:=n.ie;refine ak (met (Dv (by omega) n) ?_);clear e n;rintro _ w9 ⟨u2,rfl,y⟩;refine⟨_,rfl,?_⟩;have y:=y.RP;refine gy ?_;refine ak (met (RU (y.to (a:=ij (.slice ap ps.length cp) ps::iS u2 m[i]::iS u m[i]::star ((List.zipWith iS U m).take i++(List.zipWith iS U m).drop (i+1))::O::blk Z 44 (List.replicate m.length (.int .i64 0))::blk oa 73 (U++R)::[])) (by omega)) ?_);clear y;rintro _ a5 ⟨u3,rfl,Q⟩;refine⟨_,rfl,?_⟩;have S:=(Q.to (a:=iS u m[i]::star ((List.zipWith iS U m).take i++(List.zipWith iS U m).drop (i+1))::ij u3 (Ak ps m[i])::O::blk Z 44 (List.replicate m.length (.int .i64 0))::blk oa 73 (U++R)::[])).jG;rw[<- M]at S;clear Q;have am:¬((i:Int) >= (m.length:Int)):=by omega
  refine gy ?_;refine az (i+1,u3) ⟨rfl,rfl,rfl,rfl,rfl,Xr⟩ ⟨j,?_⟩ (by show m.length-(i+1)<m.length-i;omega);rw[k,<- P];exact S.to
 .have ao:i=m.length:=by omega
  subst ao;have am:¬((m.length:Int)<(m.length:Int)):=by omega
  rw[YD]at e |-;obtain⟨⟨sE,DE⟩,hI,T⟩:=(e.take dt).Pp;obtain⟨D3,aq,V⟩:=PS f hI ⟨λi hi=>J.1 i hi,λi l t=>by
   have A:=(Xw.1 t).1;rw[J.2 i A];show(if i=m.length then _ else _)=_;rw[Xx (by omega),t];rfl⟩
  have W:B9 sE DE [] [] 0 bO=some (.ok (Pure.gB (m.foldl sF []) [] [] 0),D3):=by
   unfold B9;rw[XE V];exact aq
  have X:w.os=w8.os:=e.os;refine gy ?_;refine ak (met (zW (Fm:=Gl m a b) (p:=Gl m a b (B::d::wg::ch::t2::t5::t6::r)) (c:=m.length) rfl W (ha.UX.on X) (by show m.length<(if m.length=m.length then _ else _);rw[XE rfl];omega) (by rw[X];exact T)) ?_);clear e T;rintro _ wA ⟨pv,rfl,⟨nA,ar⟩,q⟩;refine⟨_,rfl,?_⟩;have q:=Sat.RL (ps:=Pure.gB (m.foldl sF []) [] [] 0) q;rw[AH,<- JN m List.Pairwise.nil]at q;have C:(m.foldl Ak []).length<=1099511627776:=by
   have N:=Ce (m:=m) (K:=60) (λl t=>f.len l t) (ps:=[]);have h3:m.length*60<=6*60:=ZL _ I;simp only[List.length_nil]at N;omega
  refine gy ?_;refine ak (met (LQ C q) ?_);clear q;rintro _ wB ⟨rfl,Gv⟩;refine⟨_,rfl,?_⟩;have Y:decide (m.foldl Ak []=m.foldl Ak [])=true:=by simp
  rw[Y];refine gy ?_;have a0:=ar.on Gv.os;refine RX rfl ?_;rw[a0.st]
