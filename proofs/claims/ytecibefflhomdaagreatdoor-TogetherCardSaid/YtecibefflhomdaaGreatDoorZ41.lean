/-
  Part 41: WALKS package levels; WALKS package levels; WALKS package levels.
-/
import Derived.Test.YtecibefflhomdaaGreatDoorZ40
set_option maxHeartbeats 8000000
set_option maxRecDepth 100000
set_option linter.all false
namespace Go.Proofs.YtecibefflhomdaaGreatDoor
open Go Proofs.Tryz
section
variable[Bs0:Base][NQ]
theorem Pd{T o:Nat}(h:2<=o):DD T o=true:=by
 unfold DD;rw[abA h];simp
open Pure (ad ay Rd bF less aO aU bA aX aA dz dec my)
attribute [local irreducible] IntKind.wrap
variable{W0 w:Xo}{F:Xn ae}{v:Xp}{d m p:Nat}{T:dB}{D D':ad}{M:Xn ay}
def sw(b:Nat)(K:SK)(s:St):ae:=λh=>s.levels.length=4/\∃z,cj [blk b 133 (aj K z s),jb K.d z s.levels,aZ z.m s.mem,bg cB z.sn (aN s.snaps)] h
variable {b:Nat} {K:SK} {s:St}
def Sat.mc (h:Sat W0 (sw b K s::F) w):s.levels.length=4/\∃z,Sat W0 (blk b 133 (aj K z s)::jb K.d z s.levels::aZ z.m s.mem::bg cB z.sn (aN s.snaps)::F) w:=by
 have H:=h.jm (φ:=s.levels.length=4) λ_ k=>k.1;obtain⟨z,_,a⟩:=h.gD (φ:=λ_:SZ=>True) (B:=λz=>[blk b 133 (aj K z s),jb K.d z s.levels,aZ z.m s.mem,bg cB z.sn (aN s.snaps)]) λc ⟨_,z,k⟩=>⟨z,Xr,k⟩;exact⟨H,z,a⟩
variable {z:SZ}
def Sat.dq (hl:s.levels.length=4) (h:Sat W0 (blk b 133 (aj K z s)::jb K.d z s.levels::aZ z.m s.mem::bg cB z.sn (aN s.snaps)::F) w):Sat W0 (sw b K s::F) w:=
 Sat.close (B:=[blk b 133 (aj K z s),jb K.d z s.levels,aZ z.m s.mem,bg cB z.sn (aN s.snaps)]) h λH k=>⟨hl,z,k⟩
def Qf(b:Nat)(K:SK):YH eX St->ae
 | .ok s=>sw b K s
 | .error _=>λh=>∃s,sw b K s h
def Sat.qd {e:eX} (h:Sat W0 (sw b K s::F) w):Sat W0 (Qf b K (.error e)::F) w:=h.head λ_ k=>⟨s,k⟩
def wa(a:Nat):Nat->Xn (Xn dB)->Xn (Xn dB)
 | 0,l=>l
 | n+1,l=>(wa a n l).set (a+n) []
@[simp] theorem wQ(a:Nat):∀(n:Nat) (l:Xn (Xn dB)),(wa a n l).length=l.length
 | 0,_=>rfl
 | n+1,l=>by simp[wa,wQ a n l]
variable {a c:Nat}
def Pe {l:Xn (Xn dB)} (hl:l.length=4) (h:a<c) (H:c<=3) (t:Xn dB):(wa a (c-a) l).set c t=l.take a++List.replicate (c-a) []++t::l.drop (c+1):=by
 obtain⟨t0,t1,t2,t3,rfl⟩:=four hl
 match a,c,h,H with
 | 0,1,_,_=>rfl
 | 0,2,_,_=>rfl
 | 0,3,_,_=>rfl
 | 1,2,_,_=>rfl
 | 1,3,_,_=>rfl
 | 2,3,_,_=>rfl
 | _+3,_,e,f=>exact XG e (by omega)
def wR(s:St)(c i:Nat):Xn dB:=((s.levels.take (c+1)).drop i).flatten
def sx(s:St)(c i:Nat):XN:=(s.levels.drop (max i (c+1))).all List.isEmpty
variable {i:Nat} {Ts:Xn dB}
theorem zM (f:i<=c) (e:s.levels[i]?=some Ts):wR s c i=Ts++wR s c (i+1):=by
 have H:(s.levels.take (c+1))[i]?=some Ts:=by rw[ZC,XE (by omega)];exact e
 have h:=(Xw.1 H).1;unfold wR;rw[XX h,(Xw.1 H).2];rfl
theorem B8 (h:c<i):wR s c i=[]:=by
 unfold wR;rw[Ym (by rw[Yb];omega)];rfl
theorem Lw (h:i<=c):sx s c i=sx s c (i+1):=by
 unfold sx;rw[show max i (c+1)=max (i+1) (c+1)by omega]
theorem H2 (H:c<i) (h:s.levels[i]?=some Ts):sx s c i=(Ts.isEmpty&&sx s c (i+1)):=by
 have hlt:=(Xw.1 h).1;unfold sx;rw[show max i (c+1)=i by omega,show max (i+1) (c+1)=i+1 by omega,XX hlt,(Xw.1 h).2];rfl
def Sat.F6{l:Xn ay}(h:Sat W0 (kW v l::F) w):Sat W0 (nj 4 v (aV l)::F) w:=Sat.rR (jY l) (E:=256) (by rw[mw];exact h)
def Sat.VB (h:Sat W0 (eW d v Ts::F) w):dk v=true:=by
 obtain⟨P,H,e⟩:=h.lD;obtain⟨a,c,rfl,-⟩:=e.aC;rfl
variable {x:YH eX St}
def wS (h:pa s D a c=some (x,D')) (hac:a<c) (hc:c<=3) (hW:ou W0) (H:Sat W0 (sw b K s::ah K.d D::F) w):
 Calls prog 180 #[ax b,.int .i64 (a:Int),.int .i64 (c:Int)] w λy w'=>∃I,y=.returned I/\Sat W0 (Qf b K x::ah K.d D'::aW I (kv x)::F) w':=by
 unfold pa at h;by_cases hmid:(kT s a c).length<=jJ/\s.mem.length<=jJ
 case neg=>rw[Xx hmid]at h;cases h
 rw[XE hmid]at h;rw[bC]at hmid;obtain⟨hmid,hmx⟩:=hmid;obtain⟨hl,z,H⟩:=H.mc;refine enter func180 rfl ntmps180 results180 rfl ?_;refine gx ?_;refine aL (α:=Nat×Xn dB×XN×Xp×Xp) (λq=>[(0,ax b),(1,.int .i64 (a:Int)),(2,.int .i64 (c:Int)),(7,q.2.2.2.1),(8,q.2.2.2.2),(9,.bool q.2.2.1),(10,.int .i64 (q.1:Int))])
  (λq w=>(a<=q.1/\q.1<=4/\q.2.1++wR s c q.1=kT s a c/\(q.2.2.1&&sx s c q.1)=o9 s c) /\
    Sat W0 (blk b 133 (aj K z s)::jb K.d z s.levels::aZ z.m s.mem::bg cB z.sn (aN s.snaps)::ah K.d D::Dn K.d z.m q.2.2.2.1 (q.2.1.map λT=>eF T [])::aE 1 q.2.2.2.2 9 q.2.1.length (q.2.1.map λT=>str T.name)::F) w) (λq=>4-q.1) (a,[],true,.slice none 0 0,.slice none 0 0) ⟨rfl,rfl,rfl,rfl,rfl,rfl,rfl,Xr⟩ ⟨⟨XD _,by dsimp only;omega,rfl,by simp only[Zy];unfold sx o9;rw[show max a (c+1)=c+1 by omega]⟩,?_⟩ ?_
 .exact Sat.to (Sat.Su (d:=K.d) (m:=z.m) (H.ep (k:=1) (E:=9)))
 clear H;rintro⟨i,A,bt,va,V⟩ w ⟨⟨hai,O,hal,hbt⟩,H⟩;dsimp only at hai O hal hbt H |-;have hall:A.length<=1099511627776:=by
  have:=Zu List.length hal;rw[Xu]at this;omega
 by_cases hlt:i<4
 .have hgl:s.levels[i]?=some (s.levels[i]'(by omega)):=Xq (by omega);generalize s.levels[i]'(by omega)=Ts at hgl;obtain⟨lv,hlv,H⟩:=(H.take dt).vZ hgl hlt;obtain⟨P,hps,H⟩:=H.lD;obtain⟨aa,cl,rfl,-⟩:=H.aC;have hcell:=Jz (K:=K) (s:=s) hlt hlv;refine gx ?_;refine yJ (p:=(4,129)) rfl rfl rfl rfl (by omega) (by show(i:Int)<4;omega) rfl ?_;refine fF H rfl rfl (by repeat constructor) hcell rfl ?_;refine gx ?_;refine aL (α:=Nat×Xn dB×XN×Xp×Xp) (λq=>[(0,ax b),(1,.int .i64 (a:Int)),(2,.int .i64 (c:Int)),(7,q.2.2.2.1),(8,q.2.2.2.2),(9,.bool q.2.2.1),(10,.int .i64 (i:Int)),(31,.slice aa P.length cl),(32,.int .i64 (P.length:Int)),(33,.int .i64 (q.1:Int))])
   (λq w=>(q.1<=P.length/\(if i<=c then q.2.1=A++Ts.take q.1/\q.2.2.1=bt else q.2.1=A/\q.2.2.1=(if q.1=0 then bt else false))) /\
     Sat W0 (aE 1 (.slice aa P.length cl) 193 P.length (P.map ax)::star (List.zipWith (du K.d) P Ts)::O7 K.d z s.levels i::blk b 133 (aj K z s)::aZ z.m s.mem::bg cB z.sn (aN s.snaps)::ah K.d D::Dn K.d z.m q.2.2.2.1 (q.2.1.map λT=>eF T [])::aE 1 q.2.2.2.2 9 q.2.1.length (q.2.1.map λT=>str T.name)::F) w) (λq=>P.length-q.1) (0,A,bt,va,V) ⟨rfl,rfl,rfl,rfl,rfl,rfl,rfl,rfl,rfl,rfl,Xr⟩ ⟨⟨XR _,by split<;>simp⟩,H⟩ ?_
  clear H;rintro⟨j,Q,U,va,V⟩ w ⟨⟨hj,hst⟩,H⟩;dsimp only at hj hst H |-;by_cases hlj:j<P.length
  .have gp:P[j]?=some P[j]:=Xq hlj;have gT:Ts[j]?=some (Ts[j]'(by omega)):=Xq (by omega);have htj:Ts.take (j+1)=Ts.take j++[Ts[j]'(by omega)]:=by rw[YC,gT];rfl
   have hzj:=fV (du K.d) gp gT;generalize Ts[j]'(by omega)=T at gT htj hzj;generalize P[j]=p at gp hzj;have hspj:=eT hzj;obtain⟨bq,cap,rs,hv,q1,q2,q3,o⟩:=H.iv (by omega);obtain⟨rfl,_,rfl⟩:=Yk hv;simp only[maxLen]at q2;have hcell2:(P.map ax++rs)[0+j*1]?=some (ax p):=by
    rw[X0,YA,XH (by simpa using hlj),Yy,gp];rfl
   refine gx ?_;refine de (i:=j) rfl rfl rfl rfl rfl hlj rfl ?_;refine fF o rfl rfl .here hcell2 rfl ?_;clear o;by_cases hic:i<=c
   .rw[XE hic]at hst;obtain⟨hal2,hbt2⟩:=hst;subst hal2;have hnic:¬((i:Int) > (c:Int)):=by omega
    have hlen2:(A++Ts.take j).length<=1099511627776:=by
     have h1:=Zu List.length hal;rw[zM hic hgl]at h1;simp only[Xu,Yb]at h1 |-;omega
    have H:=H.take dt;rw[hspj]at H;have H:=H.ie;refine gx ?_;refine ak (met (uv (key:=[]) H) ?_);clear H;rintro _ w ⟨vf,rfl,H⟩;refine⟨_,rfl,?_⟩;obtain⟨ff,qq,rfl⟩:=Sat.uy (d:=K.d) (m:=z.m) (it:=eF T []) H;refine gx ?_;refine eS H ?_;clear H;intro w b9 H;obtain⟨vs,hvs,H⟩:=(H.take UL).zw;have hvl:vs.length=(A++Ts.take j).length:=by rw[hvs,XT]
    refine dZ H ?_;clear H;intro C w H;have H:=Sat.HZ (it:=eF T []) hvs (H.to (a:=aE 1 C 288 (vs.length+1) (vs++[.func (.func ff) #[] qq])::star (List.zipWith (ov K.d z.m) vs ((A++Ts.take j).map λT=>eF T []))::ov K.d z.m (.func (.func ff) #[] qq) (eF T [])::du K.d p T::star ((List.zipWith (du K.d) P Ts).take j++(List.zipWith (du K.d) P Ts).drop (j+1))::aE 1 (.slice (some ⟨bq,0,none⟩) P.length cl) 193 P.length (P.map ax)::O7 K.d z s.levels i::blk b 133 (aj K z s)::aZ z.m s.mem::bg cB z.sn (aN s.snaps)::ah K.d D::aE 1 V 9 (A++Ts.take j).length ((A++Ts.take j).map λT=>str T.name)::F));obtain⟨bv,H⟩:=(H.take dt).rS;refine gx ?_;refine eS H ?_;clear H;intro w b10 H;refine dZ H ?_;clear H;intro W w H;refine gx ?_;refine az (j+1,A++Ts.take (j+1),U,C,W) ⟨rfl,rfl,rfl,rfl,rfl,rfl,rfl,rfl,rfl,rfl,Xr⟩ ⟨⟨hlj,by rw[XE hic];exact⟨rfl,hbt2⟩⟩,?_⟩ (by show _-(j+1)<_-j;omega);have J:A++Ts.take (j+1)=(A++Ts.take j)++[T]:=by rw[htj,XS]
    dsimp only;rw[J,XK (l₂:=[T]),XK (l₂:=[T]),Xu (bs:=[T])];have H:=(H.to (a:=du K.d p T::star ((List.zipWith (du K.d) P Ts).take j++(List.zipWith (du K.d) P Ts).drop (j+1))::aE 1 W 9 ((A++Ts.take j).length+1) ((A++Ts.take j).map (λT=>str T.name)++[str T.name])::Dn K.d z.m C ((A++Ts.take j).map (λT=>eF T [])++[eF T []])::aE 1 (.slice (some ⟨bq,0,none⟩) P.length cl) 193 P.length (P.map ax)::O7 K.d z s.levels i::blk b 133 (aj K z s)::aZ z.m s.mem::bg cB z.sn (aN s.snaps)::ah K.d D::F)).jG;rw[<- hspj]at H;exact H.to
   .rw[Xx hic]at hst;obtain⟨hal2,-⟩:=hst;have hic2:((i:Int) > (c:Int)):=by omega
    refine gx ?_;refine az (j+1,Q,false,va,V) ⟨rfl,rfl,rfl,rfl,rfl,rfl,rfl,rfl,rfl,rfl,Xr⟩ ⟨⟨hlj,by rw[Xx hic];exact⟨hal2,by simp⟩⟩,H⟩ (by show _-(j+1)<_-j;omega)
  .have hje:j=P.length:=by omega
   subst hje;rw[hps,YD]at hst;have H:=(Sat.lJ hps H).O8 hgl hlv;refine gx ?_;refine az (i+1,Q,U,va,V) ⟨rfl,rfl,rfl,rfl,rfl,rfl,rfl,Xr⟩ ⟨⟨by show a<=i+1;omega,by show i+1<=4;omega,?_,?_⟩,H.to⟩ (by show 4-(i+1)<4-i;omega)
   .dsimp only;by_cases hic:i<=c
    .rw[XE hic]at hst;rw[hst.1,XS,<- zM hic hgl];exact hal
    .rw[Xx hic]at hst;rw[hst.1,B8 (by omega)];rw[B8 (by omega)]at hal;exact hal
   .dsimp only;by_cases hic:i<=c
    .rw[XE hic]at hst;rw[hst.2,<- Lw hic];exact hbt
    .rw[Xx hic]at hst;rw[H2 (by omega) hgl]at hbt;rw[hst.2,<- hbt];cases Ts with
     | nil=>simp
     | cons t r=>simp
 .have hi:i=4:=by omega
  subst hi;have J:wR s c 4=[]:=by unfold wR;rw[Ym (by rw[Yb];omega)];rfl
  have e2:sx s c 4=true:=by unfold sx;rw[Ym (by omega)];rfl
  rw[J,Yj]at hal;rw[e2,Bool.and_true]at hbt;subst hal hbt;clear hai O hlt J e2 hall;refine gx ?_;refine ak (met (zx (H.take EF) ) ?_);clear H;rintro _ w ⟨vm,rfl,H⟩;refine⟨_,rfl,gx ?_⟩;cases hk:wm s D (.mg ⟨false,(kT s a c).map λT=>eF T [],[]⟩) (o9 s c)with
  | none=>rw[hk]at h;cases h
  | some r=>
   obtain⟨xk,D1⟩:=r;rw[hk]at h;have H:=H.to (a:=blk b 133 (aj K z s)::bg cB z.sn (aN s.snaps)::Ju K.d z.m vm (.mg ⟨false,(kT s a c).map λT=>eF T [],[]⟩)::aZ z.m s.mem::ah K.d D::jb K.d z s.levels::aE 1 V 9 (kT s a c).length ((kT s a c).map λT=>str T.name)::F);refine ak (met (B2 hk hmx H) ?_);clear H hk;rintro _ w ⟨lv,I,rfl,H⟩;refine⟨_,rfl,?_⟩;cases xk with
   | error e=>
    simp only[gk,Xs,XI]at h;obtain⟨rfl,rfl⟩:=h;obtain⟨t,u,rfl⟩:=(H.take yw).bp;refine gx ?_;refine an rfl ⟨_,rfl,?_⟩;have H:=Sat.qd (e:=e) (Sat.dq (z:=z) hl (H.to (a:=blk b 133 (aj K z s)::jb K.d z s.levels::aZ z.m s.mem::bg cB z.sn (aN s.snaps)::ah K.d D1::aW (.iface t u) (some e)::F)));exact H
   | ok l=>
    simp only[gk]at h;have hve:=(H.take yw).ee;subst hve;refine gx ?_;have H:=H.take EF;dsimp only[Uz]at H;have H:=Sat.F6 H;have H:=H.to (a:=blk b 133 (aj K z s)::nj 4 lv (aV l)::ah K.d D1::bg cB z.sn (aN s.snaps)::aZ z.m s.mem::jb K.d z s.levels::aE 1 V 9 (kT s a c).length ((kT s a c).map λT=>str T.name)::F);cases hsp:mL jJ s.number D1 l []with
    | none=>rw[hsp]at h;cases h
    | some r=>
     obtain⟨xs,G⟩:=r;rw[hsp]at h;refine ak (met (zJ hsp hW H) ?_);clear H hsp;rintro _ w ⟨B,I,num,rfl,hnum,H⟩;refine⟨_,rfl,?_⟩;cases xs with
     | error e=>
      simp only[Xs,XI]at h;obtain⟨rfl,rfl⟩:=h;obtain⟨t,u,rfl⟩:=(H.take iB).bp;refine gx ?_;refine an rfl ⟨_,rfl,?_⟩;have H:=Sat.qd (e:=e) (Sat.dq (s:={ s with number:=num }) (z:=z) hl (H.to (a:=blk b 133 (aj K z { s with number:=num })::jb K.d z s.levels::aZ z.m s.mem::bg cB z.sn (aN s.snaps)::ah K.d G::aW (.iface t u) (some e)::F)));exact H
     | ok g=>
      dsimp only at h;obtain rfl:=hnum g rfl;have hve:=(H.take iB).ee;subst hve;dsimp only[Uz]at H;have H:=H.to (a:=blk b 133 (aj K z { s with number:=g.2 })::jb K.d z s.levels::eW K.d B g.1::ah K.d G::bg cB z.sn (aN s.snaps)::aZ z.m s.mem::aE 1 V 9 (kT s a c).length ((kT s a c).map λT=>str T.name)::F);refine gx ?_;refine aL (α:=Nat×SZ) (λq=>[(0,ax b),(1,.int .i64 (a:Int)),(2,.int .i64 (c:Int)),(8,V),(15,B),(16,.int .i64 (q.1:Int))])
       (λq w=>(a<=q.1/\q.1<=c/\q.2.m=z.m/\q.2.sn=z.sn)/\Sat W0 (blk b 133 (aj K q.2 { s with number:=g.2 })::jb K.d q.2 (wa a (q.1-a) s.levels)::eW K.d B g.1::ah K.d G::bg cB z.sn (aN s.snaps)::aZ z.m s.mem::aE 1 V 9 (kT s a c).length ((kT s a c).map λT=>str T.name)::F) w) (λq=>c-q.1) (a,z) ⟨rfl,rfl,rfl,rfl,rfl,rfl,Xr⟩ ⟨⟨XD _,by dsimp only;omega,rfl,rfl⟩,by dsimp only;rw[Nat.sub_self];exact H⟩ ?_
      clear H;rintro⟨k,Z⟩ w ⟨⟨hak,hkc,hzm,hzs⟩,H⟩;dsimp only at hak hkc hzm hzs H |-;have hkl:(wa a (k-a) s.levels).length=4:=by rw[wQ];exact hl
      have hgk:(wa a (k-a) s.levels)[k]?=some ((wa a (k-a) s.levels)[k]'(by omega)):=Xq (by omega);by_cases hlt:k<c
      .obtain⟨ab,hlv0,H⟩:=(H.take dt).vZ hgk (by omega);have H:=Sat.B0 (d:=K.d) H.drop;have H:=Sat.O9 (L:=[]) (i:=k) (by omega) hkl (H.to (a:=eW K.d (.slice none 0 0) []::O7 K.d Z (wa a (k-a) s.levels) k::blk b 133 (aj K Z { s with number:=g.2 })::eW K.d B g.1::ah K.d G::bg cB z.sn (aN s.snaps)::aZ z.m s.mem::aE 1 V 9 (kT s a c).length ((kT s a c).map λT=>str T.name)::F));have hst:(wa a (k-a) s.levels).set k []=wa a (k+1-a) s.levels:=by
        rw[show k+1-a=(k-a)+1 by omega];show _=(wa a (k-a) s.levels).set (a+(k-a)) [];rw[show a+(k-a)=k by omega]
       rw[hst]at H;refine gx ?_;refine yJ (p:=(4,129)) rfl rfl rfl rfl (by omega) (by show(k:Int)<4;omega) rfl ?_;refine IX H rfl rfl rfl rfl (.there .here) (by simp[YK];omega) ?_ (Pd (by omega));clear H;intro w H;rw[O6 (by omega)]at H;refine gx ?_;exact az (k+1,Z.put k (.slice none 0 0)) ⟨rfl,rfl,rfl,rfl,rfl,rfl,Xr⟩ ⟨⟨by show a<=k+1;omega,hlt,by simpa using hzm,by simpa using hzs⟩,H.to⟩ (by show c-(k+1)<c-k;omega)
      .have hke:k=c:=by omega
       subst hke;obtain⟨ab,hlv0,H⟩:=(H.take dt).vZ hgk (by omega);have H:=H.drop;have htv:dk B=true:=(H.take iB).VB;have H:=Sat.O9 (L:=g.1) (v:=B) (i:=k) (by omega) hkl (H.to (a:=eW K.d B g.1::O7 K.d Z (wa a (k-a) s.levels) k::blk b 133 (aj K Z { s with number:=g.2 })::ah K.d G::bg cB z.sn (aN s.snaps)::aZ z.m s.mem::aE 1 V 9 (kT s a k).length ((kT s a k).map λT=>str T.name)::F));rw[Pe hl hac hc]at H;refine gx ?_;refine yJ (p:=(4,129)) rfl rfl rfl rfl (by omega) (by show(k:Int)<4;omega) rfl ?_;refine IX H rfl rfl rfl htv (.there .here) (by simp[YK];omega) ?_ (Pd (by omega));clear H;intro w H;rw[O6 (by omega)]at H;refine gx ?_;cases hcm:iV { s with number:=g.2,levels:=s.levels.take a++List.replicate (k-a) []++g.1::s.levels.drop (k+1) } G false with
       | none=>rw[hcm]at h;cases h
       | some r=>
        obtain⟨xc,D3⟩:=r;rw[hcm]at h;have X:(s.levels.take a++List.replicate (k-a) []++g.1::s.levels.drop (k+1)).length=4:=by
         simp;omega
        have H:=H.to (a:=blk b 133 (aj K (Z.put k B) { s with number:=g.2,levels:=s.levels.take a++List.replicate (k-a) []++g.1::s.levels.drop (k+1) })::jb K.d (Z.put k B) (s.levels.take a++List.replicate (k-a) []++g.1::s.levels.drop (k+1))::ah K.d G::bg cB z.sn (aN s.snaps)::aZ z.m s.mem::aE 1 V 9 (kT s a k).length ((kT s a k).map λT=>str T.name)::F);refine ak (met (zL hcm X hW H) ?_);clear H hcm;rintro _ w ⟨I,S,rfl,ac,⟨nu,lo,o⟩,H⟩;refine⟨_,rfl,?_⟩;have af:S.levels.length=4:=by rw[o];exact X
        have hcl:∀(R:Xn ae) (w:Xo),Sat W0 (blk b 133 (aj K (Z.put k B) S)::jb K.d (Z.put k B) (s.levels.take a++List.replicate (k-a) []++g.1::s.levels.drop (k+1))::aZ z.m s.mem::bg cB z.sn (aN s.snaps)::R) w->Sat W0 (sw b K S::R) w:=λR w H=>by
         refine Sat.dq (z:=Z.put k B) af ?_;rw[VA,TU,hzm,hzs];have J:S.levels=s.levels.take a++List.replicate (k-a) []++g.1::s.levels.drop (k+1):=by rw[o]
         have e2:S.mem=s.mem:=by rw[o]
         have e3:S.snaps=s.snaps:=by rw[o]
         rw[J,e2,e3];exact H
        cases xc with
        | error e=>
         simp only[Xs,XI]at h;obtain⟨rfl,rfl⟩:=h;obtain⟨t,u,rfl⟩:=(H.take IQ).bp;refine gx ?_;refine an rfl ⟨_,rfl,?_⟩;exact Sat.qd (e:=e) (hcl _ _ H.to)
        | ok s3=>
         obtain rfl:=ac s3 rfl;dsimp only at h;have hve:=(H.take IQ).ee;subst hve;obtain⟨av,cv,rfl,hcv⟩:=(H.take L9).aC;simp only[maxLen]at hcv;cases f:eY ((kT s a k).map λT=>.remove T.name) D3 with
         | none=>rw[f]at h;cases h
         | some r=>
          obtain⟨eo,D4⟩:=r;rw[f]at h;generalize hnm:kT s a k=N at *;refine gx ?_;refine aL (α:=Nat×ad) (λq=>[(0,ax b),(96,.slice av N.length cv),(97,.int .i64 (N.length:Int)),(98,.int .i64 (q.1:Int))])
           (λq w=>(q.1<=N.length/\eY ((N.drop q.1).map λT=>.remove T.name) q.2=some (eo,D4))/\Sat W0 (aE 1 (.slice av N.length cv) 9 N.length (N.map λT=>str T.name)::blk b 133 (aj K (Z.put k B) S)::jb K.d (Z.put k B) (s.levels.take a++List.replicate (k-a) []++g.1::s.levels.drop (k+1))::aZ z.m s.mem::bg cB z.sn (aN s.snaps)::ah K.d q.2::F) w) (λq=>N.length-q.1) (0,D3) ⟨rfl,rfl,rfl,rfl,Xr⟩ ⟨⟨XR _,f⟩,H.to⟩ ?_
          clear H f;rintro⟨i,D5⟩ w ⟨⟨hi,f⟩,H⟩;dsimp only at hi f H |-;by_cases hlt2:i<N.length
          .have hg:N[i]?=some N[i]:=Xq hlt2;rw[XX hlt2]at f;generalize N[i]=T at hg f;simp only[XP]at f;unfold eY eJ at f;dsimp only at f;by_cases hm:D5.moves.length<=jJ
           case neg=>rw[Xx hm]at f;cases f
           rw[XE hm]at f;rw[bC]at hm;obtain⟨bq,cap,rs,hv,q1,q2,q3,Y⟩:=H.iv (by omega);obtain⟨rfl,_,rfl⟩:=Yk hv;have hcell:((N.map λT=>str T.name)++rs)[0+i*1]?=some (str T.name):=by
            rw[X0,YA,XH (by simpa using hlt2),Yy,hg];rfl
           refine gx ?_;refine de (i:=i) rfl rfl rfl rfl rfl hlt2 rfl ?_;refine fF Y rfl rfl .here hcell rfl ?_;clear Y;refine gx ?_;refine ak (met (ze (n:=T.name) (H.take EF) hm) ?_);clear H;rintro _ w ⟨I,rfl,H⟩;refine⟨_,rfl,?_⟩;cases hf:aY D5 T.name with
           | some e=>
            rw[hf]at f H;simp only[Xs,XI]at f;obtain⟨rfl,rfl⟩:=f;simp only[Xs,XI]at h;obtain⟨rfl,rfl⟩:=h;obtain⟨t,u,rfl⟩:=(H.take dt).bp;refine gx ?_;refine an rfl ⟨_,rfl,?_⟩;exact Sat.qd (e:=e) (hcl _ _ H.to)
           | none=>
            rw[hf]at f H;dsimp only at f;have hve:=(H.take dt).ee;subst hve;refine gx ?_;exact az (i+1,_) ⟨rfl,rfl,rfl,rfl,Xr⟩ ⟨⟨hlt2,f⟩,H.to⟩ (by show N.length-(i+1)<N.length-i;omega)
          .have hie:i=N.length:=by omega
           subst hie;rw[ZP]at f;simp only[List.map_nil,eY,Xs,XI]at f;obtain⟨rfl,rfl⟩:=f;simp only[Xs,XI]at h;obtain⟨rfl,rfl⟩:=h;refine gx ?_;refine an rfl ⟨_,rfl,?_⟩;exact(hcl (ah K.d D5::aW .nilIface none::F) _ ((Sat.iy H).to))
section
variable{ops:Xv Yf}{Q:YL->Act->Xo->Prop}{n:Nat}{ds:Md}{e:Env}{w w':Xo}{rest:Xn Yf}{ord:Xn (Nat×XN)}{S:Xo->Prop}
variable{op:Op}{ty:XO}{pos:YG}{af:Xv Edge}{d i j:Nat}{v u:Xp}{W0:Xo}{l l' r r':Xn ae}
theorem Pf{x y:XZ}{t b o k:Nat}{p:Nat×Nat}{Y:Int}(f:ops[i]?=some ⟨some d,.indexAddr t x y,ty,pos,af,none⟩)(g:ev e x=some (.pointer (some ⟨b,o,none⟩)))(q:ev e y=some (.int .i64 Y))(A:lk An t=some p)(h:lk cY p.2=some k)
 (B:0<=Y) (h1:Y<(p.1:Int)) (C:Nat.blt d n=true) (kk:WO ops Q S n ds ord ((d,.pointer (some ⟨b,o+Y.toNat*k,none⟩))::e) w) :
 WO ops Q S n ds ((i,false)::ord) e w:=
 KP f (λa w' H _=>Still.look λE=>by simp[execOp,H.ev g,H.ev q,Instr.indexAt,asIntOf,bx (oJ A),db h,B,h1,add_eq,Instr.sureAddr]) C kk
end
variable{W0 w:Xo}{F:Xn ae}{v:Xp}{d m p:Nat}{T:dB}{D D':ad}{M:Xn ay}
def Sat.JA {Ls:Xn (Xn dB)} (k:Ls.length=4) (g:i<4) (h:Sat W0 (jb d z Ls::F) w):∃a c,z.AD[i]?=some (.slice a (Ls.getD i []).length c):=by
 have f:Ls[i]?=some (Ls[i]'(by omega)):=Xq (by omega);obtain⟨v,j,H⟩:=h.vZ f g;obtain⟨P,e,H⟩:=H.lD;obtain⟨a,c,rfl,-⟩:=H.aC;refine⟨a,c,?_⟩;rw[j,e];simp[List.getD,f]
def wT (h:pd K.o s D=some (x,D')) (J:ou W0) (H:Sat W0 (sw b K s::ah K.d D::F) w):
 Calls prog 101 #[ax b] w λy w'=>∃V,y=.returned V/\Sat W0 (Qf b K x::ah K.d D'::aW V (kv x)::F) w':=by
 obtain⟨B,z,H⟩:=H.mc;refine enter func101 rfl ntmps101 results101 rfl ?_;unfold pd at h;obtain⟨L,c0,C⟩:=(H.take dt).JA (i:=0) B (by omega);have k:z.l0=.slice L (s.levels.getD 0 []).length c0:=Xt C;refine dW ?_;refine jv ?_;refine bT rfl ?_;refine dx (α:=St×ad) (λ_=>[(0,ax b)]) (λq w=>kE K.o 2 1 q.1 q.2=some (x,D')/\Sat W0 (sw b K q.1::ah K.d q.2::F) w) ?_ ?_
 .refine gx ?_;refine bU [blk b 133 (aj K z s)] [(0,false),(1,false),(2,false),(3,false),(4,false),(5,false),(6,false),(7,false),(8,false),(9,false),(10,false),(11,false)] H (by kernel_rfl) ?_;clear H;intro w H;refine gx ?_;refine Pf (p:=(4,129)) rfl rfl rfl rfl rfl (by omega) (by show(0:Int)<4;omega) rfl ?_;refine gx ?_;rw[k];have H:=Sat.dq B H;by_cases g:K.o.tables<=(s.levels.getD 0 []).length
  .rw[XE g]at h;refine gx ?_;cases j:pa s D 0 1 with
   | none=>rw[j]at h;cases h
   | some r=>
    obtain⟨X,E⟩:=r;rw[j]at h;refine ak (met (wS j (by omega) (by omega) J H) ?_);clear H j;rintro _ w ⟨V,rfl,H⟩;refine⟨_,rfl,?_⟩;cases X with
    | error e=>
     simp only[gk,Xs,XI]at h;obtain⟨rfl,rfl⟩:=h;obtain⟨t,u,rfl⟩:=(H.take iB).bp;refine gx ?_;exact an rfl ⟨_,rfl,H⟩
    | ok S=>
     simp only[gk]at h;have n:=(H.take iB).ee;subst n;refine gx ?_;exact aH (S,E) ⟨rfl,Xr⟩ ⟨h,Sat.to (l:=sw b K S::ah K.d E::aW .nilIface none::F) H⟩
  .rw[Xx g]at h;refine gx ?_;exact aH (s,D) ⟨rfl,Xr⟩ ⟨h,H⟩
 .clear H h C k;rintro⟨s,D⟩ w ⟨h,H⟩;dsimp only at h H;refine gx ?_;refine aL (α:=Nat×Nat×St×ad) (λq=>[(0,ax b),(4,.int .i64 (q.2.1:Int))])
   (λq w=>(q.1+q.2.1=3/\kE K.o q.1 q.2.1 q.2.2.1 q.2.2.2=some (x,D'))/\Sat W0 (sw b K q.2.2.1::ah K.d q.2.2.2::F) w) (λq=>q.1) (2,1,s,D) ⟨rfl,rfl,Xr⟩ ⟨⟨rfl,h⟩,H⟩ ?_
  clear H h;rintro⟨f,i,s,D⟩ w ⟨⟨G,h⟩,H⟩;dsimp only at G h H |-;cases f with
  | zero=>
   unfold kE at h;simp only[Xs,XI]at h;obtain⟨rfl,rfl⟩:=h;have N:¬((i:Int)+1<4):=by omega
   refine gx ?_;exact an rfl ⟨_,rfl,(Sat.iy H).to⟩
  | succ f=>
   unfold kE IA at h;obtain⟨B,z,H⟩:=H.mc;obtain⟨O,P,I⟩:=(H.take dt).JA (i:=i) B (by omega);have A:=Jz (K:=K) (s:=s) (show i<4 by omega) I;refine gx ?_;refine bU [blk b 133 (aj K z s)] [(0,false),(1,false),(2,false),(3,false),(4,false),(5,false),(6,false),(7,false),(8,false),(9,false),(10,false),(11,false),(12,false)] H (by kernel_rfl) ?_;clear H;intro w H;refine gx ?_;refine Pf (p:=(4,129)) rfl rfl rfl rfl rfl (by omega) (by show(i:Int)<4;omega) rfl ?_;refine tR rfl rfl rfl .here A rfl ?_;by_cases g:K.o.tables<(s.levels.getD i []).length
   .rw[XE g]at h;refine gx ?_;have H:=Sat.dq B H;cases j:pa s D i (i+1)with
    | none=>rw[j]at h;cases h
    | some r=>
     obtain⟨X,E⟩:=r;rw[j]at h;refine ak (met (wS j (by omega) (by omega) J H) ?_);clear H j;rintro _ w ⟨V,rfl,H⟩;refine⟨_,rfl,?_⟩;cases X with
     | error e=>
      simp only[gk,Xs,XI]at h;obtain⟨rfl,rfl⟩:=h;obtain⟨t,u,rfl⟩:=(H.take iB).bp;refine gx ?_;exact an rfl ⟨_,rfl,H⟩
     | ok S=>
      simp only[gk]at h;have n:=(H.take iB).ee;subst n;refine gx ?_;exact az (f,i+1,S,E) ⟨rfl,rfl,Xr⟩ ⟨⟨by dsimp only;omega,h⟩,Sat.to (l:=sw b K S::ah K.d E::aW .nilIface none::F) H⟩ (by show f<f+1;omega)
   .rw[Xx g]at h;refine gx ?_;have H:=Sat.dq B H;exact az (f,i+1,s,D) ⟨rfl,rfl,Xr⟩ ⟨⟨by dsimp only;omega,h⟩,H⟩ (by show f<f+1;omega)
variable{W0 w:Xo}{F:Xn ae}{v:Xp}{d m p:Nat}{T:dB}{D D':ad}{M:Xn ay}
section
variable{ops:Xv Yf}{Q:YL->Act->Xo->Prop}{n:Nat}{ds:Md}{e:Env}{w w':Xo}{KK:Xn Nat}{S:Xo->Prop}{bb:XN}{t:OT}
variable{op:Op}{ty:XO}{pos:YG}{af:Xv Edge}{d i j:Nat}
def Pg{x y:XZ}{f b o k:Nat}{p:Nat×Nat}{Y:Int}(g:ops[i]?=some ⟨some d,.indexAddr f x y,ty,pos,af,none⟩)(l:ev e x=some (.pointer (some ⟨b,o,none⟩)))(r:ev e y=some (.int .i64 Y))(u:lk An f=some p)(h:lk cY p.2=some k)
 (A:0<=Y) (h1:Y<(p.1:Int)) (B:Nat.blt d n=true) (kk:WT ops Q S KK n ds bb t ((d,.pointer (some ⟨b,o+Y.toNat*k,none⟩))::e) w) :
 WT ops Q S KK n ds bb (.q i t) e w:=
 Ll g (λa w' H=>Still.look λE=>by simp[execOp,H.ev l,H.ev r,Instr.indexAt,asIntOf,bx (oJ u),db h,A,h1,add_eq,Instr.sureAddr]) B kk
end
def Sat.VC{A B:Xn dB}{ps q:Xn Nat}(h1:ps.length=A.length)(H:q.length=B.length)
 (h:Sat W0 (aE 1 v 193 (ps.length+q.length) (ps.map ax++q.map ax)::star (List.zipWith (du d) ps A)::star (List.zipWith (du d) q B)::F) w):Sat W0 (eW d v (A++B)::F) w:=by
 refine Sat.lJ (ps:=ps++q) (by simp[h1,H]) ?_;rw[Zh (by exact h1),Xu,XK];refine h.imp λ_ k=>bH (λ_ k=>?_) k;have e:=cD k;refine cu (a:=List.zipWith (du d) ps A++List.zipWith (du d) q B) ?_;rw[XS];obtain⟨X,g,f,l,L,r,R⟩:=dV e;exact jh f l L r (cD R)
def wU (h:sH K.o s D=some (x,D')) (hW:ou W0) (H:Sat W0 (sw b K s::ah K.d D::F) w):
 Calls prog 99 #[ax b] w λy w'=>∃V,y=.returned V/\Sat W0 (Qf b K x::ah K.d D'::aW V (kv x)::F) w':=by
 unfold sH at h;by_cases I:jJ<s.mem.length
 .rw[XE I]at h;cases h
 rw[Xx I]at h;rw[bC]at I;obtain⟨Z,z,H⟩:=H.mc;refine enter func99 rfl ntmps99 results99 rfl ?_;refine gx ?_;refine ak (met (uq (key:=[]) (H.take iB) (by omega)) ?_);clear H;rintro _ w ⟨vf,rfl,H⟩;refine⟨_,rfl,gx ?_⟩;cases hk:wm s D (.one (jO s.mem [])) false with
 | none=>rw[hk]at h;cases h
 | some r=>
  obtain⟨xk,D1⟩:=r;rw[hk]at h;have H:=H.to (a:=blk b 133 (aj K z s)::bg cB z.sn (aN s.snaps)::Ju K.d z.m vf (.one (jO s.mem []))::aZ z.m s.mem::ah K.d D::jb K.d z s.levels::F);refine ak (met (B2 hk (by omega) H) ?_);clear H hk;rintro _ w ⟨lv,V,rfl,H⟩;refine⟨_,rfl,?_⟩;cases xk with
  | error e=>
   simp only[gk,Xs,XI]at h;obtain⟨rfl,rfl⟩:=h;obtain⟨t,u,rfl⟩:=(H.take yw).bp;refine gx ?_;refine an rfl ⟨_,rfl,?_⟩;exact Sat.qd (e:=e) (Sat.dq (z:=z) Z H.to)
  | ok l=>
   simp only[gk]at h;have g:=(H.take yw).ee;subst g;refine gx ?_;have H:=H.take EF;dsimp only[Uz]at H;have H:=Sat.F6 H;have H:=H.to (a:=blk b 133 (aj K z s)::nj 4 lv (aV l)::ah K.d D1::bg cB z.sn (aN s.snaps)::aZ z.m s.mem::jb K.d z s.levels::F);cases A:mL jJ s.number D1 l []with
   | none=>rw[A]at h;cases h
   | some r=>
    obtain⟨xs,N⟩:=r;rw[A]at h;refine ak (met (zJ A hW H) ?_);clear H A;rintro _ w ⟨tv,V,num,rfl,O,H⟩;refine⟨_,rfl,?_⟩;cases xs with
    | error e=>
     simp only[Xs,XI]at h;obtain⟨rfl,rfl⟩:=h;obtain⟨t,u,rfl⟩:=(H.take iB).bp;refine gx ?_;refine an rfl ⟨_,rfl,?_⟩;exact Sat.qd (e:=e) (Sat.dq (s:={ s with number:=num }) (z:=z) Z H.to)
    | ok f=>
     dsimp only at h;obtain rfl:=O f rfl;have g:=(H.take iB).ee;subst g;dsimp only[Uz]at H;have H:=H.to (a:=blk b 133 (aj K z { s with number:=f.2 })::jb K.d z s.levels::eW K.d tv f.1::ah K.d N::bg cB z.sn (aN s.snaps)::aZ z.m s.mem::F);obtain⟨t0,t1,t2,t3,J⟩:=four Z;have aa:s.levels[0]?=some t0:=by rw[J];rfl
     have ab:s.levels.getD 0 []=t0:=by rw[J];rfl
     have R:s.levels.set 0 (t0++f.1)=(s.levels.getD 0 []++f.1)::s.levels.drop 1:=by rw[J];rfl
     obtain⟨lv0,S,H⟩:=(H.take dt).vZ aa (by omega);have ac:z.l0=lv0:=Xt S;obtain⟨P,U,H⟩:=H.lD;obtain⟨Q,W,H⟩:=(H.take yw).lD;have H:=H.to (a:=blk b 133 (aj K z { s with number:=f.2 })::aE 1 lv0 193 P.length (P.map ax)::star (List.zipWith (du K.d) P t0)::aE 1 tv 193 Q.length (Q.map ax)::star (List.zipWith (du K.d) Q f.1)::O7 K.d z s.levels 0::ah K.d N::bg cB z.sn (aN s.snaps)::aZ z.m s.mem::F);by_cases j:(s.levels.getD 0 []).length+f.1.length<=jJ
     case neg=>rw[Xx j]at h;cases h
     rw[XE j]at h;rw[bC,ab,<- U,<- W]at j;refine gx ?_;refine eM [blk b 133 (aj K z { s with number:=f.2 })] [5] (.q 0 (.q 1 (.q 2 (.q 3 (.q 4 (.s 5 (.q 6 (.q 8 (.q 9 (.l 7 (.q 10 (.l 11 .nil)))))))))))) H (by kernel_rfl) ?_;clear H;intro w H;refine uz ?_;refine Pg (p:=(4,129)) rfl rfl rfl rfl rfl (by omega) (by show(0:Int)<4;omega) rfl ?_;refine uz ?_;rw[ac];refine rD (k:=1) (m:=Q.length) (news:=Q.map ax) H rfl rfl (.there .here) (vG rfl (.there (.there (.there .here)))) rfl rfl rfl rfl rfl (by simp only[maxLen];omega) (by omega) rfl ?_;clear H;intro L w H;have H:=H.to (a:=aE 1 L 193 (P.length+Q.length) (P.map ax++Q.map ax)::star (List.zipWith (du K.d) P t0)::star (List.zipWith (du K.d) Q f.1)::O7 K.d z s.levels 0::blk b 133 (aj K z { s with number:=f.2 })::ah K.d N::bg cB z.sn (aN s.snaps)::aZ z.m s.mem::F);have af:dk L=true:=by obtain⟨a7,c7,rfl,-⟩:=H.aC;rfl
     have H:=Sat.O9 (i:=0) (by omega) Z (Sat.VC U W H);rw[R]at H;refine jv ?_;refine fa rfl ?_;refine uz ?_;refine Pg (p:=(4,129)) rfl rfl rfl rfl rfl (by omega) (by show(0:Int)<4;omega) rfl ?_;refine uz ?_;refine IX H rfl rfl rfl af (.there .here) rfl ?_;clear H;intro w H;refine jv ?_;refine fa rfl ?_;refine gL ?_;refine gx ?_;refine cx [.slice none 0 0] ?_;refine eB H ?_;clear H;intro w G H;refine gx ?_;refine bJ H ?_;clear H;intro w H;have H:=Sat.ep (k:=4) (E:=256) H;have H:=Sat.nh (m:=G) (v:=.slice none 0 0) (l:=[]) (H.to (a:=blk G 120 [.slice none 0 0]::kW (.slice none 0 0) []::blk b 133 (aj K { z.put 0 L with m:=G } { s with number:=f.2,levels:=(s.levels.getD 0 []++f.1)::s.levels.drop 1,mem:=[] })::jb K.d { z.put 0 L with m:=G } ((s.levels.getD 0 []++f.1)::s.levels.drop 1)::ah K.d N::bg cB z.sn (aN s.snaps)::F));refine gx ?_;cases B:iV { s with number:=f.2,levels:=(s.levels.getD 0 []++f.1)::s.levels.drop 1,mem:=[] } N true with
     | none=>rw[B]at h;cases h
     | some r=>
      obtain⟨xc,D3⟩:=r;rw[B]at h;have X:((s.levels.getD 0 []++f.1)::s.levels.drop 1).length=4:=by simp;omega
      refine ak (met (zL B X hW (H.to (a:=blk b 133 (aj K { z.put 0 L with m:=G } { s with number:=f.2,levels:=(s.levels.getD 0 []++f.1)::s.levels.drop 1,mem:=[] })::jb K.d { z.put 0 L with m:=G } ((s.levels.getD 0 []++f.1)::s.levels.drop 1)::ah K.d N::aZ G []::bg cB z.sn (aN s.snaps)::F))) ?_);clear H B;rintro _ w ⟨V,Y,rfl,ag,⟨nu,lo,C⟩,H⟩;refine⟨_,rfl,?_⟩;have ai:Y.levels.length=4:=by rw[C];exact X
      have n:Sat W0 (sw b K Y::ah K.d D3::aW V (kv xc)::F) w:=by
       refine Sat.dq (z:={ z.put 0 L with m:=G }) ai ?_;have e1:Y.levels=(s.levels.getD 0 []++f.1)::s.levels.drop 1:=by rw[C]
       have e2:Y.mem=[]:=by rw[C]
       have e3:Y.snaps=s.snaps:=by rw[C]
       rw[e1,e2,e3];exact H.to
      clear H;cases xc with
      | error e=>
       simp only[Xs,XI]at h;obtain⟨rfl,rfl⟩:=h;obtain⟨t,u,rfl⟩:=(n.take iB).bp;refine gx ?_;refine an rfl ⟨_,rfl,?_⟩;exact Sat.qd (e:=e) n
      | ok s3=>
       obtain rfl:=ag s3 rfl;dsimp only at h;have g:=(n.take iB).ee;subst g;refine gx ?_;refine ak (met (wT h hW n) ?_);clear n;rintro _ w ⟨V,rfl,H⟩;refine⟨_,rfl,gx ?_⟩;exact an rfl ⟨_,rfl,H.to⟩
