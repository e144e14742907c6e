/-
  Part 43: WALKS package levels; WALKS package levels; WALKS package levels; .
-/
import Derived.Test.YtecibefflhomdaaGreatDoorZ18
import Derived.Test.YtecibefflhomdaaGreatDoorZ42
set_option maxHeartbeats 8000000
set_option maxRecDepth 100000
set_option linter.all false
namespace Go.Proofs.YtecibefflhomdaaGreatDoor
open Go Proofs.Tryz
section
variable[Bs0:Base][NQ]
open Pure (ad ay Rd bF less aO aU bA aX aA dz dec my gq cC kD bB aI ik Sc Ix mJ)
attribute [local irreducible] IntKind.wrap
def B9(s:St)(D:ad)(L h:Bs)(l:Int)(S:Nat):Out (Xn (Bs×Bs)):=if s.mem.length<=1099511627776 then AX s D L h l S else none
def oY(p:Bs×Bs):Xn Xp:=[str p.1,str p.2]
def iR(l:Xn (Bs×Bs)):Xn (Xn Xp):=l.map oY
abbrev Ca(v:Xp)(l:Xn (Bs×Bs)):ae:=aE 2 v 147 l.length (iR l).flatten
def Pn(v:Xp):YH eX (Xn (Bs×Bs))->ae
 | .ok l=>Ca v l
 | .error _=>λ_=>v=.slice none 0 0
variable{W0 w:Xo}{F:Xn ae}{v:Xp}{d m p:Nat}{T:dB}{D D':ad}{M:Xn ay}
structure V5 where
 b15:Nat
 b17:Nat
 b18:Nat
 b7:Nat
 b8:Nat
 b9:Nat
 hi:Bs
 limit:Int
 seq:Nat
abbrev Mf(G:V5)(k:Sc)(v:Xp):Xn ae:=
 [blk G.b15 74 [v],Ca v k.out,blk G.b17 9 [str k.last],blk G.b18 4 [.bool k.any],blk G.b7 9 [str G.hi],blk G.b8 3 [.int .i64 G.limit],blk G.b9 131 [uV G.seq]]
def V6(G:V5)(k:Sc):ae:=λh=>∃v,cj (Mf G k v) h
variable {G:V5} {k:Sc}
theorem Sat.Po (h:Sat W0 (V6 G k::F) w):∃v,Sat W0 (Mf G k v++F) w:=by
 obtain⟨v,_,H⟩:=h.gD (φ:=λ_:Xp=>True) (B:=λv=>Mf G k v) λa ⟨v,k⟩=>⟨v,Xr,k⟩;exact⟨v,H⟩
theorem Sat.uD {v:Xp} (h:Sat W0 (Mf G k v++F) w):Sat W0 (V6 G k::F) w:=Sat.close h λH q=>⟨v,q⟩
theorem zO(l:Xn (Bs×Bs))(p:Bs×Bs):(iR (l++[p])).flatten=(iR l).flatten++oY p:=by simp[iR]
attribute [local irreducible] ob aE ah aZ bg V6 aW eW W6 nj vw du TK star l9 Dn jb sw
def H5{b:Nat}{K:SK}{s:St}{l e:Bs}{limit:Int}{seq:Nat}{x:YH eX (Xn (Bs×Bs))}(h:B9 s D l e limit seq=some (x,D'))(H:Sat W0 (sw b K s::ah K.d D::F) w) :
 Calls prog 106 #[ax b,str l,str e,.int .i64 limit,uV seq] w λy w'=>∃pv ve,y=.returned (.tuple #[pv,ve])/\Sat W0 (Pn pv x::sw b K s::ah K.d D'::aW ve (kv x)::F) w':=by
 unfold B9 at h;by_cases hmx:s.mem.length<=1099511627776
 case neg=>rw[Xx hmx]at h;cases h
 rw[XE hmx]at h;unfold AX at h;by_cases hT:(fy s).length+1<=jJ
 case neg=>rw[Xx hT]at h;cases h
 rw[XE hT]at h;rw[bC]at hT;obtain⟨N,z,H⟩:=H.mc;refine zj func106 rfl ntmps106 results106 rfl ?_;refine gx ?_;refine eB (z:=[str e]) H ?_;clear H;intro w B H;refine gx ?_;refine eB (z:=[.int .i64 limit]) H ?_;clear H;intro w j H;refine gx ?_;refine eB (z:=[uV seq]) H ?_;clear H;intro w n H;refine gx ?_;refine ak (met (Dr N (by omega) (H.p7 IQ (.there (.there (.there .here))))) ?_);clear H;rintro _ w ⟨sv,P,rfl,hps,H⟩;refine⟨_,rfl,?_⟩;obtain⟨ar,W,rfl,-⟩:=H.aC;refine gx ?_;have H:=Sat.Su (d:=K.d) (m:=z.m) H;refine aL (α:=Nat×Xp) (λq=>[(0,ax b),(1,str l),(7,ax B),(8,ax j),(9,ax n),(12,q.2),(21,.slice ar (1+P.length) W),(22,.int .i64 ((1+P.length:Nat):Int)),(23,.int .i64 (q.1:Int))])
  (λq w=>q.1<=1+P.length/\Sat W0 (Dn K.d z.m q.2 ((jO s.mem l::(fy s).map λT=>eF T l).take q.1)::aE 1 (.slice ar (1+P.length) W) 261 (1+P.length) (DF z.m::P.map Gw)::il K.d P (fy s)::blk b 133 (aj K z s)::jb K.d z s.levels::blk n 131 [uV seq]::blk j 3 [.int .i64 limit]::blk B 9 [str e]::aZ z.m s.mem::bg cB z.sn (aN s.snaps)::ah K.d D::F) w) (λq=>1+P.length-q.1) (0,.slice none 0 0) ⟨rfl,rfl,rfl,rfl,rfl,rfl,rfl,rfl,rfl,Xr⟩ ⟨by omega,H⟩ ?_
 clear H;rintro⟨i,rv⟩ w ⟨aa,H⟩;dsimp only at aa H |-;by_cases hlt:i<1+P.length
 .have hlt':(i:Int)<((1+P.length:Nat):Int):=by omega
  cases i with
  | zero=>
   refine gx ?_;obtain⟨bb,cap,rs,hv,q1,q2,q3,A⟩:=(H.take dt).iv (by omega);obtain⟨rfl,_,rfl⟩:=Yk hv;refine de (i:=0) rfl rfl rfl rfl rfl (by omega) rfl ?_;refine fF (v:=DF z.m) A rfl rfl .here rfl rfl ?_;clear A;refine gx ?_;refine vS (hmq:=λw es=>by kernel_rfl) rfl (Tz _) (λ_ _=>py rfl) rfl rfl (met (uq (key:=l) (H.take SH) hmx) ?_);clear H;rintro _ w ⟨vf,rfl,H⟩;refine⟨_,rfl,?_⟩;have H:Sat W0 (ov K.d z.m vf (jO s.mem l)::aZ z.m s.mem::Dn K.d z.m rv []::aE 1 (.slice (some ⟨bb,0,none⟩) (1+P.length) W) 261 (1+P.length) (DF z.m::P.map Gw)::il K.d P (fy s)::blk b 133 (aj K z s)::jb K.d z s.levels::blk n 131 [uV seq]::blk j 3 [.int .i64 limit]::blk B 9 [str e]::bg cB z.sn (aN s.snaps)::ah K.d D::F) w:=H;obtain⟨I,Q,rfl⟩:=Sat.uy H;refine gx ?_;refine eS H ?_;clear H;intro w ab H;obtain⟨vs,hvs,H⟩:=(H.take IQ).zw;have hvl:vs.length=0:=by simpa using hvs
   refine dZ H ?_;clear H;intro V w H;have H:=Sat.HZ (it:=jO s.mem l) hvs (H.to (a:=aE 1 V 288 (vs.length+1) (vs++[.func (.func I) #[] Q])::star (List.zipWith (ov K.d z.m) vs [])::ov K.d z.m (.func (.func I) #[] Q) (jO s.mem l)::aE 1 (.slice (some ⟨bb,0,none⟩) (1+P.length) W) 261 (1+P.length) (DF z.m::P.map Gw)::il K.d P (fy s)::blk b 133 (aj K z s)::jb K.d z s.levels::blk n 131 [uV seq]::blk j 3 [.int .i64 limit]::blk B 9 [str e]::aZ z.m s.mem::bg cB z.sn (aN s.snaps)::ah K.d D::F));refine gx ?_;exact az (1,V) ⟨rfl,rfl,rfl,rfl,rfl,rfl,rfl,rfl,rfl,Xr⟩ ⟨by dsimp only;omega,H⟩ (by dsimp only;omega)
  | succ i=>
   have hilt:i<P.length:=by omega
   have hg:P[i]?=some P[i]:=Xq hilt;have X:(fy s)[i]?=some ((fy s)[i]'(by omega)):=Xq (by omega);have htk:(jO s.mem l::(fy s).map λT=>eF T l).take (i+1+1)=(jO s.mem l::(fy s).map λT=>eF T l).take (i+1)++[eF ((fy s)[i]'(by omega)) l]:=by
    rw[YC,aaj,Yy,X];rfl
   generalize (fy s)[i]'(by omega)=T at X htk;generalize P[i]=p at hg;have hz:=fV (du K.d) hg X;refine gx ?_;obtain⟨bb,cap,rs,hv,q1,q2,q3,A⟩:=(H.take dt).iv (by omega);obtain⟨rfl,_,rfl⟩:=Yk hv;have hcell:((DF z.m::P.map Gw)++rs)[0+(i+1)*1]?=some (Gw p):=by
    rw[X0,YA,XH (by simp;omega),aaj,Yy,hg];rfl
   refine de (i:=i+1) rfl rfl rfl rfl rfl (by omega) rfl ?_;refine fF A rfl rfl .here hcell rfl ?_;clear A;have H:=H.take iB;unfold il at H;rw[eT hz]at H;have H:=H.ie;refine gx ?_;refine vS (hmq:=λw es=>by kernel_rfl) rfl (TA _) (λ_ _=>py rfl) rfl rfl (met (uv (key:=l) H) ?_);clear H;rintro _ w ⟨vf,rfl,H⟩;refine⟨_,rfl,?_⟩;have H:=(H.to (a:=du K.d p T::star (List.take i (List.zipWith (du K.d) P (fy s))++List.drop (i+1) (List.zipWith (du K.d) P (fy s)))::ov K.d z.m vf (eF T l)::Dn K.d z.m rv ((jO s.mem l::(fy s).map λT=>eF T l).take (i+1))::aE 1 (.slice (some ⟨bb,0,none⟩) (1+P.length) W) 261 (1+P.length) (DF z.m::P.map Gw)::blk b 133 (aj K z s)::jb K.d z s.levels::blk n 131 [uV seq]::blk j 3 [.int .i64 limit]::blk B 9 [str e]::aZ z.m s.mem::bg cB z.sn (aN s.snaps)::ah K.d D::F)).jG;rw[<- eT hz]at H;have H:Sat W0 (il K.d P (fy s)::ov K.d z.m vf (eF T l)::Dn K.d z.m rv ((jO s.mem l::(fy s).map λT=>eF T l).take (i+1))::aE 1 (.slice (some ⟨bb,0,none⟩) (1+P.length) W) 261 (1+P.length) (DF z.m::P.map Gw)::blk b 133 (aj K z s)::jb K.d z s.levels::blk n 131 [uV seq]::blk j 3 [.int .i64 limit]::blk B 9 [str e]::aZ z.m s.mem::bg cB z.sn (aN s.snaps)::ah K.d D::F) w:=H;obtain⟨I,Q,rfl⟩:=Sat.uy (H.take dt);refine gx ?_;refine eS H ?_;clear H;intro w ab H;obtain⟨vs,hvs,H⟩:=(H.take IQ).zw;have hvl:vs.length=i+1:=by rw[hvs];simp;omega
   refine dZ H ?_;clear H;intro V w H;have H:=Sat.HZ (it:=eF T l) hvs (H.to (a:=aE 1 V 288 (vs.length+1) (vs++[.func (.func I) #[] Q])::star (List.zipWith (ov K.d z.m) vs ((jO s.mem l::(fy s).map λT=>eF T l).take (i+1)))::ov K.d z.m (.func (.func I) #[] Q) (eF T l)::aE 1 (.slice (some ⟨bb,0,none⟩) (1+P.length) W) 261 (1+P.length) (DF z.m::P.map Gw)::il K.d P (fy s)::blk b 133 (aj K z s)::jb K.d z s.levels::blk n 131 [uV seq]::blk j 3 [.int .i64 limit]::blk B 9 [str e]::aZ z.m s.mem::bg cB z.sn (aN s.snaps)::ah K.d D::F));rw[<- htk]at H;refine gx ?_;exact az (i+1+1,V) ⟨rfl,rfl,rfl,rfl,rfl,rfl,rfl,rfl,rfl,Xr⟩ ⟨by dsimp only;omega,H⟩ (by dsimp only;omega)
 .have hie:i=1+P.length:=by omega
  subst hie;have hlt':¬(((1+P.length:Nat):Int)<((1+P.length:Nat):Int)):=by omega
  rw[Yt (by simp;omega)]at H;refine gx ?_;refine aS H ?_;clear H;intro w b15 H;refine gx ?_;refine aS H ?_;clear H;intro w b16 H;refine gx ?_;refine aS H ?_;clear H;intro w b17 H;refine gx ?_;refine aS H ?_;clear H;intro w b18 H;refine gx ?_;refine bJ H ?_;clear H;intro w H;refine gx ?_;refine bJ H ?_;clear H;intro w H;refine gx ?_;refine ak (met (zx (H.take yw) ) ?_);clear H;rintro _ w ⟨vm,rfl,H⟩;refine⟨_,rfl,?_⟩;obtain⟨J,oe,hEach,hx⟩:∃J oe,sd s.mem (D6 e limit seq) jJ (.mg ⟨false,jO s.mem l::(fy s).map λT=>eF T l,[]⟩) D Ix=some (J,oe,D')/\((∃er,oe=some er/\x=.error er)\/(oe=none/\x=.ok J.out)):=by
   split at h
   .cases h
   .rename_i J er D2 O;simp only[Xs,XI]at h;obtain⟨rfl,rfl⟩:=h;exact⟨J,_,O,.inl ⟨_,rfl,rfl⟩⟩
   .rename_i J D2 O;simp only[Xs,XI]at h;obtain⟨rfl,rfl⟩:=h;exact⟨J,_,O,.inr ⟨rfl,rfl⟩⟩
  clear h;obtain⟨I,Q,rfl⟩:∃f q,vm=.func (.func f) #[] q:=by
   obtain⟨_,zm,rfl,_⟩:=H.OO;exact⟨_,_,rfl⟩
  refine gx ?_;refine ak (met (BZ (f:=I) (q:=Q) (eb:=b16) H) ?_);clear H;rintro _ w ⟨bn,bee,rfl,H⟩;refine⟨_,rfl,?_⟩;refine gx ?_;refine WC.sub (e':=[(15,ax b15),(16,ax b16),(17,ax b17),(18,ax b18),(7,ax B),(8,ax j),(9,ax n),(36,.func (.func 211) #[] #[ax bn,ax bee])]) ⟨rfl,rfl,rfl,rfl,rfl,rfl,rfl,rfl,Xr⟩ ?_;have H:=Sat.uD (G:=⟨b15,b17,b18,B,j,n,e,limit,seq⟩) (k:=Ix) (v:=.slice none 0 0) (F:=blk bn 288 [.func (.func I) #[] Q]::blk bee 312 [ax b16]::blk b16 41 [.nilIface]::Ju K.d z.m (.func (.func I) #[] Q) (.mg ⟨false,jO s.mem l::(fy s).map λT=>eF T l,[]⟩)::aZ z.m s.mem::ah K.d D::blk b 133 (aj K z s)::jb K.d z s.levels::bg cB z.sn (aN s.snaps)::F)
   ((H.ep (k:=2) (E:=147)).to)
  refine Jv (v:=.func (.func I) #[] Q) (d:=K.d) (m:=z.m) (nx:=.mg ⟨false,jO s.mem l::(fy s).map λT=>eF T l,[]⟩) (C:=λk=>[V6 ⟨b15,b17,b18,B,j,n,e,limit,seq⟩ k]) (id:=2) (bn:=bn) (be:=bee) (eb:=b16) (oe:=oe) (s1:=J) (D':=D') (F:=blk b 133 (aj K z s)::jb K.d z s.levels::bg cB z.sn (aN s.snaps)::F) rfl rfl rfl hEach hmx H.to ?_ ?_
  .clear H hEach hx;intro k ent k' c L rc R w hbody hst H;dsimp only[List.cons_append,List.nil_append]at H;unfold D6 at hbody;by_cases hbig:k.out.length<=jJ
   case neg=>rw[Xx hbig]at hbody;cases hbody
   rw[XE hbig]at hbody;rw[bC]at hbig;have hbody:=Xt hbody;refine jv ?_;refine aS H ?_;clear H;intro w b19 H;refine fG (vs:=aD ent) H ?_;clear H;intro w H;refine jv ?_;refine FP (H.take dt) hst λw H=>?_;obtain⟨pv,H⟩:=Sat.Po (H.take iB);dsimp only[Mf,List.cons_append,List.nil_append]at H;generalize Y:([(19,ax b19),(37,.agg (aD ent).toArray),(15,ax b15),(16,ax b16),(17,ax b17),(18,ax b18),(7,ax B),(8,ax j),(9,ax n),(36,.func (.func 211) #[] #[ax bn,ax bee])]:Env)=E0;obtain⟨Z,cp,rfl,-⟩:=(H.take dt).aC;refine jR ?_;refine dW ?_;generalize g:decide ((e≠[]/\Pure.aO ent.key e=false)\/(0<limit/\(k.out.length:Int)=limit))=S;refine dx (α:=Unit) (λ_=>(55,.bool S)::E0) (λ_ w=>Sat W0 (Mf ⟨b15,b17,b18,B,j,n,e,limit,seq⟩ k (.slice Z k.out.length cp)++blk b19 256 (aD ent)::ob false L (.loop { rc with state:=.busy })::R) w) ?_ ?_
   .subst Y;dsimp only[Mf,List.cons_append,List.nil_append];by_cases hh:e=[]
    .subst hh;have af:¬(([]:Xn UInt8)≠[]):=by simp
     by_cases N:0<limit
     .by_cases O:(k.out.length:Int)=limit
      .have:S=true:=by rw[<- g];simp[N,O]
       subst this;refine jv ?_;exact aH () ⟨rfl,rfl,rfl,rfl,rfl,rfl,rfl,rfl,rfl,rfl,rfl,Xr⟩ H.to
      .have:S=false:=by rw[<- g];simp[O]
       subst this;refine jv ?_;exact aH () ⟨rfl,rfl,rfl,rfl,rfl,rfl,rfl,rfl,rfl,rfl,rfl,Xr⟩ H.to
     .have:S=false:=by rw[<- g];simp[N]
      subst this;refine jv ?_;exact aH () ⟨rfl,rfl,rfl,rfl,rfl,rfl,rfl,rfl,rfl,rfl,rfl,Xr⟩ H.to
    .cases hb:Pure.aO ent.key e with
     | false=>
      have:S=true:=by rw[<- g];simp[hh,hb]
      subst this;rw[mr]at hb;have hnb:(!wZ ent.key e)=true:=by rw[hb];rfl
      refine jv ?_;exact aH () ⟨rfl,rfl,rfl,rfl,rfl,rfl,rfl,rfl,rfl,rfl,rfl,Xr⟩ H.to
     | true=>
      have hbb:=hb;rw[mr]at hbb;have hnb:(!wZ ent.key e)=false:=by rw[hbb];rfl
      by_cases N:0<limit
      .by_cases O:(k.out.length:Int)=limit
       .have:S=true:=by rw[<- g];simp[N,O]
        subst this;refine jv ?_;exact aH () ⟨rfl,rfl,rfl,rfl,rfl,rfl,rfl,rfl,rfl,rfl,rfl,Xr⟩ H.to
       .have:S=false:=by rw[<- g];simp[O,hb]
        subst this;refine jv ?_;exact aH () ⟨rfl,rfl,rfl,rfl,rfl,rfl,rfl,rfl,rfl,rfl,rfl,Xr⟩ H.to
      .have:S=false:=by rw[<- g];simp[N,hb]
       subst this;refine jv ?_;exact aH () ⟨rfl,rfl,rfl,rfl,rfl,rfl,rfl,rfl,rfl,rfl,rfl,Xr⟩ H.to
   clear H;rintro-w H;dsimp only[Mf,List.cons_append,List.nil_append]at H;unfold mJ at hbody;cases S with
   | true=>
    rw[XE (aa3 g)]at hbody;obtain⟨rfl,rfl⟩:=Zz hbody;subst Y;refine gx ?_;refine Az (H.take SH) λw H=>.inr ⟨rfl,rfl,?_⟩;dsimp only[List.cons_append,List.nil_append];have H:=Sat.uD (G:=⟨b15,b17,b18,B,j,n,e,limit,seq⟩) (k:=k) (v:=.slice Z k.out.length cp) (F:=ob false L (.loop { rc with state:=.done,pending:=some (.exit 2) })::R) H.to;exact H.to
   | false=>
    rw[Xx (of_decide_eq_false g)]at hbody;subst Y;refine jv ?_;refine bT rfl ?_;refine WC.sub (e':=[(19,ax b19),(37,.agg (aD ent).toArray),(15,ax b15),(16,ax b16),(17,ax b17),(18,ax b18),(7,ax B),(8,ax j),(9,ax n),(36,.func (.func 211) #[] #[ax bn,ax bee])]) ⟨rfl,rfl,rfl,rfl,rfl,rfl,rfl,rfl,rfl,rfl,Xr⟩ ?_;generalize Y:([(19,ax b19),(37,.agg (aD ent).toArray),(15,ax b15),(16,ax b16),(17,ax b17),(18,ax b18),(7,ax B),(8,ax j),(9,ax n),(36,.func (.func 211) #[] #[ax bn,ax bee])]:Env)=E0;refine dW ?_;generalize o:decide (seq<ent.seq\/(k.any=true/\ent.key=k.last))=c2;refine dx (α:=Unit) (λ_=>(68,.bool c2)::E0) (λ_ w=>Sat W0 (Mf ⟨b15,b17,b18,B,j,n,e,limit,seq⟩ k (.slice Z k.out.length cp)++blk b19 256 (aD ent)::ob false L (.loop { rc with state:=.busy })::R) w) ?_ ?_
    .subst Y;clear hbody g;dsimp only[Mf,List.cons_append,List.nil_append];obtain⟨out,last,any⟩:=k;dsimp only at H o |-;by_cases hq:seq<ent.seq
     .have:c2=true:=by rw[<- o];simp[hq]
      subst this;have ac:(seq:Int)<(ent.seq:Int):=by omega
      refine jv ?_;exact aH () ⟨rfl,rfl,rfl,rfl,rfl,rfl,rfl,rfl,rfl,rfl,rfl,Xr⟩ H.to
     .have ac:¬((seq:Int)<(ent.seq:Int)):=by omega
      cases any with
      | false=>
       have:c2=false:=by rw[<- o];simp[hq]
       subst this;refine jv ?_;exact aH () ⟨rfl,rfl,rfl,rfl,rfl,rfl,rfl,rfl,rfl,rfl,rfl,Xr⟩ H.to
      | true=>
       by_cases hk:ent.key=last
       .have:c2=true:=by rw[<- o];simp[hk]
        subst this;refine jv ?_;exact aH () ⟨rfl,rfl,rfl,rfl,rfl,rfl,rfl,rfl,rfl,rfl,rfl,Xr⟩ H.to
       .have:c2=false:=by rw[<- o];simp[hq,hk]
        subst this;refine jv ?_;exact aH () ⟨rfl,rfl,rfl,rfl,rfl,rfl,rfl,rfl,rfl,rfl,rfl,Xr⟩ H.to
    clear H;rintro-w H;dsimp only[Mf,List.cons_append,List.nil_append]at H;cases c2 with
    | true=>
     rw[XE (aa3 o)]at hbody;obtain⟨rfl,rfl⟩:=Zz hbody;subst Y;refine gx ?_;refine mx (H.take SH) λw H=>.inl ⟨rfl,rfl,?_⟩;dsimp only[List.cons_append,List.nil_append];have H:=Sat.uD (G:=⟨b15,b17,b18,B,j,n,e,limit,seq⟩) (k:=k) (v:=.slice Z k.out.length cp) (F:=ob false L (.loop { rc with state:=.ready,pending:=none })::R) H.to;exact H.to
    | false=>
     rw[Xx (of_decide_eq_false o)]at hbody;obtain⟨rfl,rfl⟩:=Zz hbody;subst Y;refine gx ?_;refine bJ H ?_;clear H;intro w H;refine gx ?_;refine bJ H ?_;clear H;intro w H;obtain⟨U,evl,ed,es⟩:=ent;cases ed with
     | true=>
      refine gx ?_;refine mx (H.take SH) λw H=>.inl ⟨rfl,rfl,?_⟩;dsimp only[List.cons_append,List.nil_append];have H:=Sat.uD (G:=⟨b15,b17,b18,B,j,n,e,limit,seq⟩) (k:=⟨k.out,U,true⟩) (v:=.slice Z k.out.length cp) (F:=ob false L (.loop { rc with state:=.ready,pending:=none })::R) H.to;exact H.to
     | false=>
      refine gx ?_;refine cx (oY (U,evl)) ?_;refine gx ?_;refine jT (oY (U,evl)) H λw b2 H=>?_;refine dZ H ?_;clear H;intro v2 w H;obtain⟨a7,c7,rfl,-⟩:=H.aC;refine gx ?_;refine bJ H ?_;clear H;intro w H;refine gx ?_;have e1:aE 2 (.slice a7 (k.out.length+1) c7) 147 (k.out.length+1) ((iR k.out).flatten++oY (U,evl))=Ca (.slice a7 (k.out.length+1) c7) (k.out++[(U,evl)]):=by
       rw[<- zO];show _=aE 2 _ 147 (k.out++[(U,evl)]).length _;rw[Xu];rfl
      rw[e1]at H;refine mx (H.take SH) λw H=>.inl ⟨rfl,rfl,?_⟩;dsimp only[List.cons_append,List.nil_append];have H:=Sat.uD (G:=⟨b15,b17,b18,B,j,n,e,limit,seq⟩) (k:=⟨k.out++[(U,evl)],U,true⟩) (v:=.slice a7 (k.out.length+1) c7) (F:=ob false L (.loop { rc with state:=.ready,pending:=none })::R) H.to;exact H.to
  .clear H hEach;intro xx Dk ve w hxx H;dsimp only[List.cons_append,List.nil_append]at H;obtain⟨pv,H⟩:=Sat.Po (H.take EF);dsimp only[Mf,List.cons_append,List.nil_append]at H;obtain⟨Z,cp,rfl,-⟩:=(H.take dt).aC;rcases hx with⟨er,rfl,rfl⟩|⟨rfl,rfl⟩
   .obtain⟨t,u,rfl⟩:=(H.take VW).bp;rcases hxx with rfl|rfl<;>(
     refine gx ?_;refine bU [blk b16 41 [.iface t u]] [(0,false),(1,false),(2,false)] H (by kernel_rfl) ?_;clear H;intro w H;refine gx ?_;refine Dg (H.take Uk) rfl ?_;clear H;intro w H;refine⟨_,_,rfl,?_⟩;have H:=Sat.dq (s:=s) (z:=z) N (H.to (a:=blk b 133 (aj K z s)::jb K.d z s.levels::aZ z.m s.mem::bg cB z.sn (aN s.snaps)::ah K.d D'::aW (.iface t u) (some er)::F));exact H.imp λhp r=>⟨λ_=>none,hp,λ_ _ _ hx=>(by cases hx),λ_ _ hx=>(by cases hx),Hp.le_refl _,rfl,r⟩)
   .have hve:=(H.take VW).ee;subst hve;rcases hxx with rfl|rfl<;>(
     refine gx ?_;refine Dg (H.take Uk) rfl ?_;clear H;intro w H;refine⟨_,_,rfl,?_⟩;have H:=Sat.dq (s:=s) (z:=z) N (H.to (a:=blk b 133 (aj K z s)::jb K.d z s.levels::aZ z.m s.mem::bg cB z.sn (aN s.snaps)::Ca (.slice Z J.out.length cp) J.out::ah K.d D'::aW .nilIface none::F));exact H.to)
end
section
variable[Bs0:Base][NQ]
open Pure (ad ay Rd bF less aO aU bA aX aA dz dec my gq cC kD bB aI ik Sc Ix mJ)
attribute [local irreducible] IntKind.wrap
abbrev KS(d:Nat)(o:pX)(cl:XN)(br:Xp)(mu:Int):SK:=⟨d,o,cl,br,.int .i32 mu⟩
def zP(b d:Nat)(o:pX)(cl:XN)(be:XB eX)(s:St):ae:=λh=>∃B,cj [sw b (KS d o cl B 0) s,aW B be] h
variable{W0 w:Xo}{F:Xn ae}{v:Xp}{b d m p:Nat}{o:pX}{cl:XN}{be:XB eX}{s:St}{D D':ad}
def Sat.TW{br:Xp}(h:Sat W0 (sw b (KS d o cl br 0) s::aW br be::F) w):Sat W0 (zP b d o cl be s::F) w:=
 Sat.close (B:=[sw b (KS d o cl br 0) s,aW br be]) h λH k=>⟨br,k⟩
open Pure (ad ay Rd bF less aO aU bA aX aA dz dec my gq cC kD bB aI ik Sc Ix mJ aB da eO)
def F8:Xn cC->XB eX
 | []=>none
 | c::r=>if c.key.length=0\/8<c.key.length then some (none,3)else if c.del=false/\16<c.val.length then some (none,4)else F8 r
theorem JC:∀{l:Xn cC},F8 l=none->∀c∈l,(c.key.length≠0/\c.key.length<=8)/\(c.del=false->c.val.length<=16)
 | [],_,c,H=>by cases H
 | x::r,h,c,H=>by
  unfold F8 at h;split at h
  .cases h
  .rename_i g;split at h
   .cases h
   .rename_i e;rcases XW.1 H with rfl|H
    .exact⟨by omega,λf=>by
      cases X8 16 c.val.length with
      | inl a=>exact XG ⟨f,a⟩ e
      | inr a=>exact a⟩
    .exact JC h c H
end
section
open Pure (ad ay Rd bF less aO aU bA aX aA dz dec my gq cC kD bB aI ik Sc Ix mJ)
variable[Bs0:Base][NQ]
section
variable{ops:Xv Yf}{Q:YL->Act->Xo->Prop}{n:Nat}{ds:Md}{e:Env}{w:Xo}{rest:Xn Yf}{ty:XO}{pos:YG}{af:Xv Edge}{v:Xp}
attribute [local semireducible] WL WC WQ
theorem zQ{x:XZ}{at_:Xv XO}{f:Nat}(b:ev e x=some v)(k:WL ops Q n ⟨none,{ target:=.fn (.func f) #[],args:=#[v] }::ds.ds⟩ rest e w)(H:ds.round=none:=by rfl) :
 WL ops Q n ds (⟨none,.defer { callee:=.value (.func f),args:=#[x],argTypes:=at_ },ty,pos,af,none⟩::rest) e w:=λa h=>by
 refine pA rfl λW c=>⟨.defer { target:=.fn (.func f) #[],args:=#[v] },W,?_,?_⟩
 .refine Still.oL λE=>?_;have q:a.eval (.func f)=.func _ #[] #[]:=rfl;rw[H,Oper.semAt_none];simp[execOp,resolve,h.ev b,q,Deferred.ofValue]
 .have:=(k.rely c) { a with defers:={ target:=.fn (.func f) #[],args:=#[v] }::a.defers } ⟨h.size,by simp[h.defers],h.get⟩;rw[H];exact this
variable {f:Nat}
theorem JD {x:YL} (c:x=.ret\/x=.normal) {rs:Xn ResultVar} {R:Ending->Xo->Prop} {vs:Xn Xp} {u:Unit} {args:Xv Xp} (H:lk vC f=some u) (d:Calls prog f args w λy W=>∃u,y=.returned u/\R (.returned (tN vs)) W) (h:yC e rs=some vs:=by rfl):
 WQ (Li rs R) x n ⟨none,[{ target:=.fn (.func f) #[],args:=args }]⟩ e w:=λa b=>by
 have k:∃F:Func,F.results=rs.toArray/\DC F a.tmps R a.defers w:=by
  refine⟨{ (default:Func)with results:=rs.toArray },rfl,?_⟩;rw[b.defers];refine .inr ⟨by grind,.inl ⟨f,args,λr=>?_,?_⟩⟩
  .show(callFunc f _).runT prog r #[]=_;rw[Yu,Yo,py H,ly H]
  .apply dJ.mono d;rintro y i ⟨u,rfl,g⟩;exact⟨by grind,tN vs,λV _=>qE b rfl h V,g⟩
 rcases c with rfl|rfl<;>exact .of k
end
def Rz(b d:Nat)(o:pX)(s:St):ae:=λh=>∃B,cj [sw b ⟨d,o,false,B,hole⟩ s,aW B none] h
def Qg(Inv:Xn Nat->St->ad->Prop)(b d:Nat)(o:pX)(st:Xn Nat):ae:=λh=>∃s D,Inv st s D/\cj [Rz b d o s,ah d D] h
variable{W0 w:Xo}{F:Xn ae}{v:Xp}{b d:Nat}{o:pX}
variable {st:Xn Nat}
def Sat.Pp {Inv:Xn Nat->St->ad->Prop} (h:Sat W0 (Qg Inv b d o st::F) w):∃x:St×ad,Inv st x.1 x.2/\Sat W0 (Rz b d o x.1::ah d x.2::F) w:=by
 have⟨x,a,c⟩:=h.gD (φ:=λx:St×ad=>Inv st x.1 x.2) (B:=λx=>[Rz b d o x.1,ah d x.2]) λe ⟨s,D,H,k⟩=>⟨(s,D),H,k⟩
 grind
variable {s:St}
def Sat.TX {Inv:Xn Nat->St->ad->Prop} {D:ad} (H:Inv st s D) (h:Sat W0 (Rz b d o s::ah d D::F) w):Sat W0 (Qg Inv b d o st::F) w:=
 Sat.close h λa k=>⟨s,D,H,k⟩
def Sat.Pq (h:Sat W0 (Rz b d o s::F) w):s.levels.length=4/\∃B z,Sat W0 (blk b 133 (aj ⟨d,o,false,B,hole⟩ z s)::aW B none::jb d z s.levels::aZ z.m s.mem::bg cB z.sn (aN s.snaps)::F) w:=by
 have⟨B,_,H⟩:=h.gD λc ⟨B,k⟩=>⟨B,Xr,k⟩;have⟨a,z,H⟩:=H.mc;exact⟨a,B,z,H.to⟩
def Sat.Pr {br:Xp} (h:Sat W0 (sw b ⟨d,o,false,br,hole⟩ s::aW br none::F) w):Sat W0 (Rz b d o s::F) w:=
 Sat.close h λH k=>⟨br,k⟩
variable {Fm:Xn Nat->cn} {p:cn}
theorem At.sat {x:Ps} {w w2:Xo} {l:Xn ae} (h:At Fm p x w) (H:Sat { W0 with os:=w.os } l w2) (hm:∃z,w2.cell? ⟨p.mu,0,none⟩=some z):At Fm p x w2:=by
 have a:=H.os;refine⟨by rw[a];exact h.par,?_,hm⟩;have:=h.st;unfold dN at this |-
 grind
def F9 [hM:I7 Fm] {i c n:Nat} {bl:Xn (Nat×Obj)} {B:Nat} {f0:Nat×Nat} {l:cC} {A:Nat} {Inv:Xn Nat->St->ad->Prop} (N:p.mu=b) (G:p.LI=Qg Inv b d o) (M:yN Fm p ⟨i,c,n,.out⟩ w) (t:c<p.len i) (hi:i<p.n) (h:Sat W0 (cy ((B,.cells (cZ [l]).flatten.toArray 100 (0,0))::bl)) w) (I:iC ((B,.cells (cZ [l]).flatten.toArray 100 (0,0))::bl)) (ai:1<=A) (J:∀st s D,st.count i=c->Inv st s D->F8 [l]=none/\∃S E,mM o s D [l] false=some (.ok S,E)/\Inv (st++[i]) S E) (hW:ou W0):
 Calls prog 41 #[ax b,.slice (some ⟨B,0,none⟩) 1 A,.bool false] w λy w'=>y=.returned .nilIface/\∃n',n'<=n/\At Fm p ⟨i,c+1,n',.out⟩ w'/\Sat { W0 with os:=w'.os } (cy ((B,.cells (cZ [l]).flatten.toArray 100 (0,0))::bl)) w':=by
 subst N;refine zj func41 rfl ntmps41 results41 rfl ?_;refine gx ?_;refine ak (met (KU (p:=p) M t hi h I) ?_);clear h M;rintro _ w1 ⟨u,rfl,n1,st,al,L,M,h⟩;refine⟨_,rfl,?_⟩;rw[G]at h;obtain⟨⟨s,D⟩,hI,h⟩:=h.Pp;obtain⟨O,S,E,hw,P⟩:=J st s D L hI;obtain⟨hl,k,z,h⟩:=h.Pq;have h:Sat { W0 with os:=w1.os } (blk p.mu 133 (aj ⟨d,o,false,k,hole⟩ z s)::aW k none::jb d z s.levels::aZ z.m s.mem::bg cB z.sn (aN s.snaps)::ah d D::blk B 100 (cZ [l]).flatten::cy bl) w1:=h;refine gx ?_;refine zQ rfl ?_;refine gx ?_;refine ak (met (zC (K:=⟨d,o,false,k,hole⟩) (be:=none) h) ?_);clear h;rintro _ w ⟨V,rfl,h⟩;refine⟨_,rfl,?_⟩;have x:=h.ee;subst x;have h:=h.drop;obtain⟨e,C,f⟩:=l;have H:=JC O ⟨e,C,f⟩ (by simp);have hA:V4 (blk B 100 (cZ [⟨e,C,f⟩]).flatten) 3 (.slice (some ⟨B,0,none⟩) 1 A) (cZ [⟨e,C,f⟩]):=
  ⟨⟨_,_,rfl⟩,λr hr=>by simp[cZ]at hr;subst hr;rfl,λ_=>⟨B,0,A,rfl,λW1 F1 w1 h1 j u Q=>by rw[h1.cell .here,X0];exact Q⟩⟩
 refine gx ?_;refine aL (α:=Nat) (λi=>[(0,ax p.mu),(1,.slice (some ⟨B,0,none⟩) 1 A),(2,.bool false),(26,.slice (some ⟨B,0,none⟩) 1 A),(27,.int .i64 1),(28,.int .i64 (i:Int))])
  (λi w=>i<=1/\Sat { W0 with os:=w1.os } (blk p.mu 133 (aj ⟨d,o,false,k,hole⟩ z s)::aW k none::jb d z s.levels::aZ z.m s.mem::bg cB z.sn (aN s.snaps)::ah d D::blk B 100 (cZ [⟨e,C,f⟩]).flatten::cy bl) w) (λi=>1-i) 0 ⟨rfl,rfl,rfl,rfl,rfl,rfl,Xr⟩ ⟨by omega,h⟩ ?_
 clear h;rintro j w ⟨hj,h⟩;rcases X8 j 1 with am|ao
 .have R:j=0:=by omega
  subst R;have g:∀q u,(iQ ⟨e,C,f⟩)[q]?=some u->w.cell? ⟨B,0+q,none⟩=some u:=λq u Q=>by
   rw[h.cell L9,X0];simpa[cZ]using Q
  have ap:e.length≠0:=H.1.1;have aq:e.length<=8:=H.1.2;have ac:¬((e.length:Int)=0):=by omega
  have af:¬((e.length:Int) > 8):=by omega
  refine gx ?_;refine de (i:=0) rfl rfl rfl rfl rfl (by omega) rfl ?_;refine zN (iQ ⟨e,C,f⟩) rfl rfl rfl g rfl ?_;refine gx ?_;refine aS h ?_;clear h g;intro w b9 h;refine gx ?_;refine fG (vs:=iQ ⟨e,C,f⟩) h ?_;clear h;intro w h;cases f with
  | true=>
   refine gx ?_;exact az 1 ⟨rfl,rfl,rfl,rfl,rfl,rfl,Xr⟩ ⟨by omega,h.drop⟩ (by omega)
  | false=>
   have ag:C.length<=16:=H.2 rfl;have T:¬((C.length:Int) > 16):=by omega
   refine gx ?_;exact az 1 ⟨rfl,rfl,rfl,rfl,rfl,rfl,Xr⟩ ⟨by omega,h.drop⟩ (by omega)
 .have U:j=1:=by omega
  subst U;have W:TV [(⟨e,C,f⟩:cC)]:=⟨by simp,λc t=>by simp at t;subst t;have:=H.1;omega,λc t hd=>by simp at t;subst t;have:=H.2 hd;omega⟩;refine gx ?_;have h:=Sat.dq (K:=⟨d,o,false,k,hole⟩) (z:=z) hl (h.to (a:=blk p.mu 133 (aj ⟨d,o,false,k,hole⟩ z s)::jb d z s.levels::aZ z.m s.mem::bg cB z.sn (aN s.snaps)::ah d D::blk B 100 (cZ [⟨e,C,f⟩]).flatten::cy bl));refine ak (met (F7 (K:=⟨d,o,false,k,hole⟩) hw hA W (show ou { W0 with os:=w1.os }from hW) h) ?_);clear h;rintro _ w ⟨V,rfl,h⟩;refine⟨_,rfl,?_⟩;have h:Sat { W0 with os:=w1.os } (sw p.mu ⟨d,o,false,k,hole⟩ S::ah d E::aW V none::blk B 100 (cZ [⟨e,C,f⟩]).flatten::cy bl) w:=h;obtain⟨X,Z,h⟩:=h.mc;have x:V=.nilIface:=Sat.ee (h.take EF);subst x;refine gx ?_;refine bJ h ?_;clear h;intro w h;have h:Sat { W0 with os:=w1.os } (blk p.mu 133 (aj ⟨d,o,false,.nilIface,hole⟩ Z S)::jb d Z S.levels::aZ Z.m S.mem::bg cB Z.sn (aN S.snaps)::ah d E::aW .nilIface none::blk B 100 (cZ [⟨e,C,f⟩]).flatten::cy bl) w:=h;refine gx ?_;have Y:=At.sat M h (cell_of (w:=w) h.dA (by simp));have h:=Sat.dq (K:=⟨d,o,false,.nilIface,hole⟩) (s:=S) (z:=Z) X (h.to (a:=blk p.mu 133 (aj ⟨d,o,false,.nilIface,hole⟩ Z S)::jb d Z S.levels::aZ Z.m S.mem::bg cB Z.sn (aN S.snaps)::aW .nilIface none::ah d E::blk B 100 (cZ [⟨e,C,f⟩]).flatten::cy bl));have h:=Sat.TX P h.Pr;rw[<- G]at h;refine JD (.inl rfl) rfl ?_;refine(Ff (p:=p) Y hi (bl:=(B,.cells (cZ [⟨e,C,f⟩]).flatten.toArray 100 (0,0))::bl) h I).mono ?_;rintro _ w3 ⟨u,rfl,n3,ar,aa,ab⟩;exact⟨_,rfl,rfl,n3,by omega,aa,ab⟩
