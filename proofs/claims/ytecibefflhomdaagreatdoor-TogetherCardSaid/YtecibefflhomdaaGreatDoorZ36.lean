/-
  Part 36: WALKS package table; WALKS rows gone through; WALKS rows gone through; WALKS any row gone through; WALKS package rows; WALKS package rows.
-/
import Derived.Test.YtecibefflhomdaaGreatDoorZ34
set_option maxHeartbeats 8000000
set_option maxRecDepth 100000
set_option linter.all false
namespace Go.Proofs.YtecibefflhomdaaGreatDoor
open Go Proofs.Tryz
section
variable[Bs0:Base][NQ]
open Pure (ad ay Rd bF less aO aU)
attribute [local irreducible] IntKind.wrap
variable {α:Type}
def kv:YH eX α->XB eX
 | .ok _=>none
 | .error e=>some e
def Xl:YH eX (Xn α)->Xn α
 | .ok l=>l
 | .error _=>[]
variable {r:Rd}
theorem OL (H:r.bad=false) (a:r.rest≠[]):r.entry.2.rest.length<r.rest.length:=by
 have b:(r.num 1).2.rest.length<r.rest.length:=by
  have h:0<r.rest.length:=Yi.2 a;unfold Pure.Rd.num Pure.Rd.bytes;rw[Xx (by simp[H];omega)];simp;omega
 have d:r.text.2.rest.length<r.rest.length:=Za (Pure.Rd.mG _ _) b;have e:=r.text.2.jN 8;have c:r.entry=if(r.text.2.num 8).2.rest.head?=some 255 then(⟨r.text.1,[],true,(r.text.2.num 8).1⟩,((r.text.2.num 8).2.bytes 1).2)
  else(⟨r.text.1,(r.text.2.num 8).2.text.1,false,(r.text.2.num 8).1⟩,(r.text.2.num 8).2.text.2):=rfl
 rw[c];split
 .have:=Pure.Rd.mG (r.text.2.num 8).2 1;dsimp only;omega
 .have:=Pure.Rd.AO (r.text.2.num 8).2;dsimp only;omega
theorem Lq{bs:Bs}{z:Bs×Bs}(h:bF bs=some z):z.1.length<=bs.length:=by
 have H:bF bs=(let n:=Rd.num ⟨bs,false⟩ 4
  let t:=n.2.num 4
  let s:=t.2.num 4
  if n.1≠4294967295-t.1 then none else
  let i:=s.2.bytes (n.1:Int)
  if i.2.bad=true\/Pure.DH i.1≠s.1 then none else some (i.1,i.2.rest)):=rfl
 rw[h]at H;dsimp only at H;split at H
 .cases H
 .split at H
  .cases H
  .simp only[Xs]at H;subst H;have b:(Rd.num ⟨bs,false⟩ 4).2.rest.length<=bs.length:=Pure.Rd.jN ⟨bs,false⟩ 4;have B:=(Rd.num ⟨bs,false⟩ 4).2.jN 4;have a:=((Rd.num ⟨bs,false⟩ 4).2.num 4).2.jN 4;have k:∀(r:Rd) (n:Int),(r.bytes n).1.length<=r.rest.length:=λr n=>by
    unfold Pure.Rd.bytes;split
    .simp
    .simp;omega
   exact Yh (k _ _) (Yh a (Yh B b))
theorem FX (h:¬(r.rest≠[]/\r.bad=false)) (f:Nat):fx f r=([],r.bad):=by
 cases f with
 | zero=>rfl
 | succ f=>unfold fx;rw[Xx h]
theorem FY (h:r.rest≠[]/\r.bad=false) (f:Nat):fx (f+1) r=(r.entry.1::(fx f r.entry.2).1,(fx f r.entry.2).2):=by
 conv=>lhs;unfold fx
 rw[XE h]
variable{W0 w:Xo}{F:Xn ae}{v:Xp}{d p:Nat}{T:dB}{D:ad}
variable {i:Nat}
def Lr {x:YH eX (Xn ay)} {D':ad} (h:AW D T i=some (x,D')) (H:Sat W0 (du d p T::ah d D::F) w):
 Calls prog 231 #[ax p,.int .i64 (i:Int)] w λy w'=>∃M V,y=.returned (.tuple #[M,V])/\Sat W0 (du d p T::ah d D'::Oi M (Xl x)::aW V (kv x)::F) w':=by
 have S:=H.Jp;unfold AW at h;cases C:T.blocks[i]? with
 | none=>rw[C]at h;cases h
 | some b=>
  rw[C]at h;dsimp only at h;have N:i<T.blocks.length:=(Xw.1 C).1;have U:b∈T.blocks:=Ya C;obtain⟨ag,ai⟩:=S.nums b U;have W:T.blocks≠[]:=λh=>by rw[h]at N;simp at N
  obtain⟨bv,H⟩:=H.rS;obtain⟨a,c,rfl,X⟩:=(H.take dt).kQ;have G:(cV T.blocks).length=T.blocks.length:=by simp[cV]
  obtain⟨Z,⟨hv,al,I⟩,H⟩:=(H.take dt).qY (by simpa[cV]using W);rw[G]at hv H;obtain⟨rfl,_,rfl⟩:=Yk hv;have A:=I.row (i:=i) (x:=AB b) (xC _) (by simp[cV,C]);have q:=A.2.1;have l:=A.2.2.1;rw[Y6]at l;refine enter func231 rfl ntmps231 results231 rfl ?_;refine go ?_;refine bU [ob true Z.b (.cells Z.all.toArray Z.E (0,0)),Ae p 200 [str T.name,str T.first,str T.last,.int .i64 (T.count:Int),ax d,.slice (some ⟨Z.b,Z.o,none⟩) T.blocks.length Z.c]] [(0,false),(1,false),(2,false),(3,false),(4,false),(5,false),(6,false),(7,false),(8,false),(9,false),(10,false),(11,false),(12,false),(13,false),(14,false),(15,false),(16,false),(17,false),(18,false),(19,false),(20,false),(21,false),(22,false),(23,false),(24,false),(25,true),(26,false),(27,false),(28,false),(29,false),(30,false)] H.to (by kernel_rfl) λw H=>?_;refine go ?_;refine sY (j:=i) rfl rfl rfl rfl rfl rfl N rfl ?_;refine go ?_;refine tR rfl rfl rfl .here q rfl ?_;refine go ?_;refine sY (j:=i) rfl rfl rfl rfl rfl rfl N rfl ?_;refine go ?_;refine tR rfl rfl rfl .here l rfl ?_;refine go ?_;refine ak (met (FN (nm:=T.name) (at_:=(b.2.1:Int)) (n:=(b.2.2:Int)) (H.take yw) (by omega) (by omega) (by omega) (by omega)) ?_);rintro _ w ⟨rv,V,rfl,H⟩;refine⟨_,rfl,?_⟩;cases hf:aY D T.name with
  | some e=>
   rw[hf]at h H;simp only[Xs,XI]at h;obtain⟨rfl,rfl⟩:=h;obtain⟨t,u,rfl⟩:=(H.take iB).bp;refine go ?_;exact an rfl ⟨_,_,rfl,Sat.to (H.qZ (k:=4) (.inl rfl) λ_=>rfl)⟩
  | none=>
   rw[hf]at h H;dsimp only at h;have aa:=(H.take iB).ee;subst aa;have H:=(H.take dt).Ob;have ab:=(H.take dt).Wx;have ac:(kX D T.name b.2.1 b.2.2).length<=140737488355328:=by
    have h1:(kX D T.name b.2.1 b.2.2).length<=(fileOf D T.name).length:=by
     unfold kX;rw[hf];simp only[iL,Yb,Y1];omega
    have h2:(fileOf D T.name).length<=D.used:=by
     unfold fileOf;cases hg:Pure.aB D.now T.name with
     | none=>simp
     | some j=>exact Pure.ad.size_le hg
    have h3:=ab.used;have h4:((counted D b.2.2).tick).used=D.used:=by rw[Pure.ad.ow];rfl
    rw[h4]at h3;omega
   generalize kX D T.name b.2.1 b.2.2=bs at *;refine go ?_;refine ak (met (Lg H ac) ?_);rintro _ w ⟨v1,J,rfl,H⟩;refine⟨_,rfl,?_⟩;unfold xQ at h;cases ho:bF bs with
   | none=>
    rw[ho]at h H;simp only[Option.map_some,Xs,XI]at h;obtain⟨rfl,rfl⟩:=h;refine go ?_;refine ak (met (pT (nm:=T.name) H) ?_);rintro _ w ⟨V,rfl,H⟩;refine⟨_,rfl,go ?_⟩;exact an rfl ⟨_,_,rfl,Sat.to (H.qZ (k:=4) (.inl rfl) λ_=>rfl)⟩
   | some y=>
    rw[ho]at h H;dsimp only at h H;by_cases m:bs.length<=jJ
    .rw[XE m]at h;rw[bC]at m;have am:=Lq ho;have hh:x=(if(fx y.1.length ⟨y.1,false⟩).2=true then .error (some T.name,7)else .ok (fx y.1.length ⟨y.1,false⟩).1)/\(counted D b.2.2).tick=D':=by
      split at h<;>simp only[Option.map_some,Xs,XI]at h<;>rename_i X
      .rw[XE X];exact⟨h.1.symm,h.2⟩
      .rw[Xx X];exact⟨h.1.symm,h.2⟩
     clear h;obtain⟨rfl,rfl⟩:=hh;generalize y.1=Y at *;obtain⟨a1,c1,rfl,ao⟩:=H.mq;refine go ?_;refine cx [.slice a1 Y.length c1,.bool false] ?_;refine eB H λw r H=>?_;have H:=Sat.nQ (rd:=⟨Y,false⟩) H;refine go ?_;refine aL (α:=Nat×Rd×Xn ay×Xp) (λz=>[(0,ax p),(11,ax r),(12,z.2.2.2)])
      (λz w=>(z.2.2.1++(fx z.1 z.2.1).1=(fx Y.length ⟨Y,false⟩).1/\(fx z.1 z.2.1).2=(fx Y.length ⟨Y,false⟩).2/\z.2.1.rest.length<=z.1/\z.2.2.1.length+z.1<=Y.length) /\
        Sat W0 (Lf r z.2.1::kW z.2.2.2 z.2.2.1::Ae p 200 [str T.name,str T.first,str T.last,.int .i64 (T.count:Int),ax d,.slice (some ⟨Z.b,Z.o,none⟩) T.blocks.length Z.c]::du d p T::ah d (counted D b.2.2).tick::F) w) (λz=>z.1) (Y.length,⟨Y,false⟩,[],.slice none 0 0) ⟨rfl,rfl,rfl,Xr⟩ ⟨⟨rfl,rfl,XD _,by simp⟩,Sat.to (Sat.ep (k:=4) (E:=256) H)⟩ ?_
     clear H;rintro⟨f,rd,acc,M⟩ w ⟨⟨O,Q,q3,q4⟩,H⟩;dsimp only at O Q q3 q4 H |-;obtain⟨vr,-,H⟩:=H.Dd;dsimp only[List.cons_append,List.nil_append]at H;obtain⟨a2,c2,rfl,ap⟩:=(H.take dt).mq;by_cases B:rd.rest≠[]/\rd.bad=false
     .obtain⟨P,R⟩:=B;have K:(rd.rest.length:Int) > 0:=by have:=Yi.2 P;omega
      have aq:=OL R P;obtain⟨f,rfl⟩:∃f',f=f'+1:=⟨f-1,by have:=Yi.2 P;omega⟩;rw[FY ⟨P,R⟩]at O Q;rw[R]at H;refine go ?_;have H:=Sat.nQ (rd:=rd) (by rw[R];exact H);refine ak (met (Hx H (by omega)) ?_);rintro _ w ⟨rfl,H⟩;refine⟨_,rfl,go ?_⟩;refine jT (aD rd.entry.1) H λw b2 H=>?_;refine dZ H λJ w H=>?_;refine go ?_;refine az (f,rd.entry.2,acc++[rd.entry.1],J) ⟨rfl,rfl,rfl,Xr⟩ ⟨⟨by show(acc++[rd.entry.1])++(fx f rd.entry.2).1=_;rw[XS];exact O,Q,by show rd.entry.2.rest.length<=f;omega,by show(acc++[rd.entry.1]).length+f<=Y.length;rw[Xu];show acc.length+1+f<=_;omega⟩,?_⟩ (by show f<f+1;omega);have e1:aE 4 J 256 (acc.length+1) ((aV acc).flatten++aD rd.entry.1)=kW J (acc++[rd.entry.1]):=by rw[<- oV];show _=aE 4 J 256 (acc++[rd.entry.1]).length _;rw[Xu];rfl
      rw[e1]at H;exact H.to
     .have s:=FX B f;by_cases hr:rd.rest=[]
      .have ar:¬(rd.rest.length:Int) > 0:=by rw[hr];simp
       cases g:rd.bad with
       | true=>
        rw[g]at H;refine go ?_;have L:(fx Y.length ⟨Y,false⟩).2=true:=by rw[<- Q,s];exact g
        rw[L];rw[XE rfl];refine ak (met (pT (nm:=T.name) H) ?_);rintro _ w ⟨V,rfl,H⟩;refine⟨_,rfl,go ?_⟩;exact an rfl ⟨_,_,rfl,Sat.to (H.qZ (k:=4) (.inl rfl) λ_=>rfl)⟩
       | false=>
        rw[g]at H;refine go ?_;have L:(fx Y.length ⟨Y,false⟩).2=false:=by rw[<- Q,s];exact g
        rw[L];rw[Xx (by simp)];have H:=Sat.rR (jY acc) (rows:=aV acc) (E:=256) (k:=4) (v:=M) (by rw[mw];exact H.take iB);refine an rfl ⟨_,_,rfl,?_⟩;rw[show(fx Y.length ⟨Y,false⟩).1=acc from by rw[<- O,s];simp];exact(H.iy).to
      .have K:(rd.rest.length:Int) > 0:=by have:=Yi.2 hr;omega
       have g:rd.bad=true:=by
        cases af:rd.bad with
        | true=>rfl
        | false=>exact(B ⟨hr,af⟩).elim
       rw[g]at H;refine go ?_;have L:(fx Y.length ⟨Y,false⟩).2=true:=by rw[<- Q,s];exact g
       rw[L];rw[XE rfl];refine ak (met (pT (nm:=T.name) H) ?_);rintro _ w ⟨V,rfl,H⟩;refine⟨_,rfl,go ?_⟩;exact an rfl ⟨_,_,rfl,Sat.to (H.qZ (k:=4) (.inl rfl) λ_=>rfl)⟩
    .rw[Xx m]at h;cases h
variable{W0 w:Xo}{F:Xn ae}{v:Xp}{m:Nat}{l:Xn ay}
def Uu(v:Xp)(m i:Nat):ae:=λh=>i<=4611686018427387904/\∃b B,v=.func (.func 207) #[] #[ax b,ax B]/\cj [blk b 3 [.int .i64 (i:Int)],blk B 117 [ax m]] h
theorem Sat.Rp (h:Sat W0 (Uu v m i::F) w):i<=4611686018427387904/\∃b a,v=.func (.func 207) #[] #[ax b,ax a]/\Sat W0 (blk b 3 [.int .i64 (i:Int)]::blk a 117 [ax m]::F) w:=by
 have c:=h.jm (φ:=i<=4611686018427387904) λ_ k=>k.1;obtain⟨⟨b,a⟩,H,e⟩:=h.gD (φ:=λz:Nat×Nat=>v=.func (.func 207) #[] #[ax z.1,ax z.2]) (B:=λz=>[blk z.1 3 [.int .i64 (i:Int)],blk z.2 117 [ax m]]) λf ⟨_,b,a,H,k⟩=>⟨⟨b,a⟩,H,k⟩;exact⟨c,b,a,H,e⟩
variable {bi bm:Nat}
theorem Sat.zt (H:i<=4611686018427387904) (h:Sat W0 (blk bi 3 [.int .i64 (i:Int)]::blk bm 117 [ax m]::F) w):Sat W0 (Uu (.func (.func 207) #[] #[ax bi,ax bm]) m i::F) w:=
 Sat.close (B:=[blk bi 3 [.int .i64 (i:Int)],blk bm 117 [ax m]]) h λa k=>⟨H,bi,bm,rfl,k⟩
variable {key:Bs}
def uq (h:Sat W0 (aZ m l::F) w) (H:l.length<=1099511627776):
 Calls prog 169 #[ax m,str key] w λx w'=>∃v,x=.returned v/\Sat W0 (Uu v m (aU l ⟨key,[],false,bO⟩)::aZ m l::F) w':=by
 have a:=Pure.o4 l ⟨key,[],false,bO⟩;refine enter func169 rfl ntmps169 results169 rfl ?_;refine go ?_;refine eB h λw b h=>?_;refine go ?_;refine cx (aD ⟨key,[],false,bO⟩) ?_;refine ak (met (wL (e:=⟨key,[],false,bO⟩) (h.take dt) H) ?_);rintro _ w ⟨rfl,h⟩;refine⟨_,rfl,?_⟩;refine aS h λw B h=>?_;refine bJ h λw h=>?_;refine go ?_;exact an rfl ⟨_,rfl,Sat.zt (by omega) h.to⟩
def Dl (y:i<=4611686018427387904) (h:Sat W0 (blk bi 3 [.int .i64 (i:Int)]::blk bm 117 [ax m]::aZ m l::F) w) (o:l.length<=1099511627776):
 Calls prog 207 #[ax bi,ax bm] w λx w'=>x=.returned (.tuple #[.agg (aD (match l[i]? with|some e=>e|none=>⟨[],[],false,0⟩)).toArray,.bool (l[i]?).isSome,.nilIface]) /\
  Sat W0 (blk bi 3 [.int .i64 ((if(l[i]?).isSome=true then i+1 else i:Nat):Int)]::blk bm 117 [ax m]::aZ m l::F) w':=by
 obtain⟨v,h⟩:=(h.take iB).xA;obtain⟨a,c,rfl,-⟩:=(h.take dt).zg;refine enter func207 rfl ntmps207 results207 rfl ?_;refine go ?_;refine aS h λw B h=>?_;refine go ?_;refine bU [blk bi 3 [.int .i64 (i:Int)],blk bm 117 [ax m],blk m 120 [.slice a l.length c]] [(0,false),(1,false),(2,false),(3,false),(4,false),(5,false),(6,false)] h.to (by kernel_rfl) λw h=>?_;by_cases H:i<l.length
 .have g:l[i]?=some l[i]:=Xq H;have n:¬(i:Int) >= (l.length:Int):=by omega
  rw[g];refine go ?_;refine bJ h λw h=>?_;refine go ?_;obtain⟨b,C,R,q,Q,s,t,h⟩:=(h.take iB).iv (by omega);obtain⟨rfl,_,rfl⟩:=Yk q;have f:iZ ((aV l).flatten++R) (0+i*4) (aD l[i]):=by rw[X0];exact(ng (jY l) (by simp[aV,g])).app
  refine bU (l:=blk b 256 ((aV l).flatten++R)::blk bi 3 [.int .i64 ((i:Int)+1)]::blk bm 117 [ax m]::blk m 120 [.slice (some ⟨b,0,none⟩) l.length c]::blk B 256 (aD ⟨[],[],false,0⟩)::F) [blk b 256 ((aV l).flatten++R),blk bi 3 [.int .i64 ((i:Int)+1)],blk bm 117 [ax m],blk m 120 [.slice (some ⟨b,0,none⟩) l.length c]] [(0,false),(1,false),(2,false),(3,false),(4,false),(5,false),(6,false),(7,false),(8,true),(9,false),(10,false)] h.to (by kernel_rfl) λw h=>?_;refine go ?_;refine sY (j:=i) rfl rfl rfl (by omega) rfl rfl H rfl ?_;refine ia (aD l[i]) rfl rfl rfl rfl .here f rfl ?_;refine go ?_;refine fG (vs:=aD l[i]) h λw h=>?_;refine go ?_;refine iW ⟨_,_,B,0,rfl,rfl,kM (aD l[i]) h (.there (.there (.there (.there .here)))) rfl rfl (iZ.all _),_,_,rfl,rfl,_,_,rfl,rfl,rfl⟩ ⟨rfl,?_⟩;have h:=Sat.gE (k:=4) (len:=l.length) h Q s t (sZ l) (rQ l);exact(Sat.nh (v:=.slice (some ⟨b,0,none⟩) l.length c) h.to).to
 .have g:l[i]?=none:=List.getElem?_eq_none (by omega);have u:(i:Int) >= (l.length:Int):=by omega
  rw[g];refine go ?_;refine cx (aD ⟨[],[],false,0⟩) ?_;refine fG (vs:=aD ⟨[],[],false,0⟩) h λw h=>?_;refine go ?_;refine iW ⟨_,_,B,0,rfl,rfl,kM (aD ⟨[],[],false,0⟩) h .here rfl rfl (iZ.all _),_,_,rfl,rfl,_,_,rfl,rfl,rfl⟩ ⟨rfl,?_⟩;exact(Sat.nh (v:=.slice a l.length c) h.to).to
variable{W0 w:Xo}{F:Xn ae}{v:Xp}{d m p:Nat}{T:dB}{D:ad}
def gQ:ay:=⟨[],[],false,0⟩
structure Uv where
 bl:Nat
 bi:Nat
 bt:Nat
 bk:Nat
 p:Nat
 lv:Xp
abbrev HL(d:Nat)(z:Uv)(T:dB)(key:Bs)(i:Nat)(l:Xn ay):Xn ae:=
 [blk z.bl 118 [z.lv],blk z.bi 3 [.int .i64 (i:Int)],blk z.bt 193 [ax z.p],blk z.bk 9 [str key],Oi z.lv l,du d z.p T]
def Vs(d:Nat)(v:Xp)(T:dB)(key:Bs)(i:Nat)(l:Xn ay):ae:=λh=>i<=T.blocks.length/\∃z:Uv,v=.func (.func 230) #[] #[ax z.bl,ax z.bi,ax z.bt,ax z.bk]/\cj (HL d z T key i l) h
theorem Sat.Rt {l:Xn ay} (h:Sat W0 (Vs d v T key i l::F) w):i<=T.blocks.length/\∃z:Uv,v=.func (.func 230) #[] #[ax z.bl,ax z.bi,ax z.bt,ax z.bk]/\Sat W0 (HL d z T key i l++F) w:=by
 have a:=h.jm (φ:=i<=T.blocks.length) λ_ k=>k.1;obtain⟨z,H,b⟩:=h.gD (φ:=λz:Uv=>v=.func (.func 230) #[] #[ax z.bl,ax z.bi,ax z.bt,ax z.bk]) (B:=λz=>HL d z T key i l) λc ⟨_,z,H,k⟩=>⟨z,H,k⟩;exact⟨a,z,H,b⟩
variable {z:Uv}
theorem Sat.zu {l:Xn ay} (H:i<=T.blocks.length) (h:Sat W0 (HL d z T key i l++F) w):Sat W0 (Vs d (.func (.func 230) #[] #[ax z.bl,ax z.bi,ax z.bt,ax z.bk]) T key i l::F) w:=
 Sat.close h λa k=>⟨H,z,rfl,k⟩
def Lu(T:dB)(key:Bs):nT T key<=T.blocks.length:=by
 have:=Jq key (T.blocks.drop 1);rw[Y1]at this;unfold nT;omega
def uv (h:Sat W0 (du d p T::F) w):
 Calls prog 210 #[ax p,str key] w λx w'=>∃v,x=.returned v/\Sat W0 (Vs d v T key (nT T key) []::du d p T::F) w':=by
 have H:=Lu T key;have a:=h.Jp.len;refine enter func210 rfl ntmps210 results210 rfl ?_;refine go ?_;refine eB (h.zl (zq d p T)) λw b h=>?_;refine eB h λw bk h=>?_;refine go ?_;refine ak (met (HC (key:=key) (h.take iB)) ?_);rintro _ w ⟨rfl,h⟩;refine⟨_,rfl,?_⟩;refine aS h λw bi h=>?_;refine bJ h λw h=>?_;refine go ?_;refine aS h λw B h=>?_;refine go ?_;refine an rfl ⟨_,rfl,Sat.zu (z:=⟨B,bi,b,bk,p,.slice none 0 0⟩) H ?_⟩;exact(Sat.qZ (k:=4) h (.inl rfl) λ_=>rfl).to
def BV:YH eX (XB ay×α)->ay
 | .ok (some e,_)=>e
 | _=>gQ
def TJ:YH eX (XB ay×α)->XN
 | .ok (some _,_)=>true
 | _=>false
def WA (C:α->ae):YH eX (XB ay×α)->ae
 | .ok (_,a)=>C a
 | .error _=>λ_=>True
theorem Sat.emp(h:Sat W0 F w):Sat W0 ((λ_=>True)::F) w:=h.imp λa r=>⟨λ_=>none,a,λ_ _ _ H=>(by cases H),λ_ _ H=>(by cases H),Hp.le_refl _,Xr,r⟩
def Dm {f:Nat} {l:Xn ay} {x:YH eX (XB ay×Nat×Xn ay)} {D':ad} (h:oz T key f D i l=some (x,D')) (g:i<=T.blocks.length) (H:Sat W0 (HL d z T key i l++ah d D::F) w):
 Calls prog 230 #[ax z.bl,ax z.bi,ax z.bt,ax z.bk] w λy w'=>∃V,y=.returned (.tuple #[.agg (aD (BV x)).toArray,.bool (TJ x),V]) /\
  Sat W0 (WA (λq=>Vs d (.func (.func 230) #[] #[ax z.bl,ax z.bi,ax z.bt,ax z.bk]) T key q.1 q.2) x::aW V (kv x)::ah d D'::F) w':=by
 obtain⟨n,bi,B,bk,p,Y⟩:=z;dsimp only[HL,List.cons_append,List.nil_append]at H |-;have N:=(H.take EF).Jp;have W:=N.len;refine enter func230 rfl ntmps230 results230 rfl ?_;refine go ?_;refine aS H λw k H=>?_;refine go ?_;refine aL (α:=Nat×ad×Nat×Xn ay×Xp) (λz=>[(0,ax n),(1,ax bi),(2,ax B),(3,ax bk),(4,ax k)])
  (λz w=>(oz T key z.1 z.2.1 z.2.2.1 z.2.2.2.1=some (x,D')/\z.2.2.1<=T.blocks.length) /\
    Sat W0 (blk n 118 [z.2.2.2.2]::blk bi 3 [.int .i64 (z.2.2.1:Int)]::blk B 193 [ax p]::blk bk 9 [str key]::blk k 256 (aD gQ)::Oi z.2.2.2.2 z.2.2.2.1::du d p T::ah d z.2.1::F) w) (λz=>z.1) (f,D,i,l,Y) ⟨rfl,rfl,rfl,rfl,rfl,Xr⟩ ⟨⟨h,g⟩,H.to⟩ ?_
 clear H h g;rintro⟨f0,D0,i0,l0,O⟩ w ⟨⟨h,g⟩,H⟩;dsimp only at h g H |-;refine go ?_;refine aL (α:=Nat×ad×Nat×Xn ay×Xp) (λz=>[(0,ax n),(1,ax bi),(2,ax B),(3,ax bk),(4,ax k)])
  (λz w=>(oz T key z.1 z.2.1 z.2.2.1 z.2.2.2.1=some (x,D')/\z.2.2.1<=T.blocks.length/\z.1<=f0) /\
    Sat W0 (blk n 118 [z.2.2.2.2]::blk bi 3 [.int .i64 (z.2.2.1:Int)]::blk B 193 [ax p]::blk bk 9 [str key]::blk k 256 (aD gQ)::Oi z.2.2.2.2 z.2.2.2.1::du d p T::ah d z.2.1::F) w) (λz=>z.1) (f0,D0,i0,l0,O) ⟨rfl,rfl,rfl,rfl,rfl,Xr⟩ ⟨⟨h,g,XD _⟩,H⟩ ?_
 clear H h g;rintro⟨f1,E,I,L,aa⟩ w ⟨⟨h,g,hf⟩,H⟩;dsimp only at h g hf H |-;obtain⟨f1,rfl⟩:∃P,f1=P+1:=by cases f1 with
  | zero=>simp[oz]at h
  | succ P=>exact⟨P,rfl⟩
 cases L with
 | nil=>
  obtain⟨a,c,rfl,X⟩:=(H.take EF).kQ;dsimp only[aV,List.map_nil,List.length_nil]at H X;unfold oz at h;obtain⟨bv,H⟩:=(H.take L9).rS;obtain⟨a2,c2,rfl,ab⟩:=(H.take dt).kQ;have Q:(cV T.blocks).length=T.blocks.length:=by simp[cV]
  rw[Q]at H;refine go ?_;refine bU [blk bi 3 [.int .i64 (I:Int)],blk B 193 [ax p],Ae p 200 [str T.name,str T.first,str T.last,.int .i64 (T.count:Int),ax d,.slice a2 T.blocks.length c2]] [(0,false),(1,false),(2,false),(3,false),(4,false),(5,false),(6,false)] H.to (by kernel_rfl) λw H=>?_;by_cases s:I=T.blocks.length
  .rw[XE s]at h;simp only[Xs,XI]at h;obtain⟨rfl,rfl⟩:=h;have C:(I:Int)=(T.blocks.length:Int):=by omega
   refine go ?_;refine cx (aD gQ) ?_;refine fG (vs:=aD gQ) H λw H=>?_;refine go ?_;refine iW ⟨_,_,k,0,rfl,rfl,kM (aD gQ) H (.there (.there (.there (.there (.there (.there (.there .here))))))) rfl rfl (iZ.all _),_,_,rfl,rfl,_,_,rfl,rfl,rfl⟩ ⟨_,rfl,?_⟩;exact Sat.zu (z:=⟨n,bi,B,bk,p,.slice a 0 c⟩) (key:=key) (T:=T) (d:=d) (i:=I) (l:=[]) (F:=aW .nilIface none::ah d E::F) g (H.iy.to)
  .rw[Xx s]at h;have C:¬(I:Int)=(T.blocks.length:Int):=by omega
   cases R:AW E T I with
   | none=>rw[R]at h;cases h
   | some y=>
    obtain⟨y,D2⟩:=y;rw[R]at h;refine go ?_;refine ak (met (Lr (F:=blk n 118 [.slice a 0 c]::blk bi 3 [.int .i64 (I:Int)]::blk B 193 [ax p]::blk bk 9 [str key]::blk k 256 (aD gQ)::F) R H.to) ?_);rintro _ w ⟨ac,V,rfl,H⟩;refine⟨_,rfl,?_⟩;cases y with
    | error e=>
     simp only[Xs,XI]at h;obtain⟨rfl,rfl⟩:=h;obtain⟨t,u,rfl⟩:=(H.take IQ).bp;refine go ?_;refine cx (aD gQ) ?_;refine go ?_;refine fG (vs:=aD gQ) H λw H=>?_;refine go ?_;refine iW ⟨_,_,k,0,rfl,rfl,kM (aD gQ) H (.there (.there (.there (.there (.there (.there (.there (.there .here)))))))) rfl rfl (iZ.all _),_,_,rfl,rfl,_,_,rfl,rfl,rfl⟩ ⟨_,rfl,?_⟩;exact Sat.emp H.to
    | ok b=>
     have S:=(H.take IQ).ee;subst S;dsimp only at h;obtain⟨a3,c3,rfl,af⟩:=(H.take iB).kQ;refine go ?_;refine bJ H λw H=>?_;refine go ?_;refine bJ H λw H=>?_;refine go ?_;exact az (f1,D2,I+1,b,_) ⟨rfl,rfl,rfl,rfl,rfl,Xr⟩ ⟨⟨h,by show I+1<=_;omega,by show f1<=f0;omega⟩,H.to⟩ (by show f1<f1+1;omega)
 | cons e L=>
  obtain⟨a,c,rfl,X⟩:=(H.take EF).kQ;obtain⟨Z,⟨hv,ag,G⟩,J⟩:=(H.take EF).qY (by simp[aV]);obtain⟨rfl,_,rfl⟩:=Yk hv;have K:=G.row (i:=0) (x:=aD e) (jY _) rfl;have ai:¬(((aV (e::L)).length:Nat):Int)=0:=by simp[aV];omega
  have A:0<(aV (e::L)).length:=by simp[aV]
  unfold oz at h;refine go ?_;refine de (i:=0) rfl rfl rfl rfl rfl A rfl ?_;refine dX (aD e) J rfl rfl rfl .here K rfl ?_;clear H;refine aS J λw b5 H=>?_;refine fG (vs:=aD e) H λw H=>?_;refine go ?_;refine Hy (m:=1) (H.take iB) rfl rfl rfl rfl rfl A rfl λv5 H=>?_;obtain⟨a5,c5,rfl,al⟩:=H.kQ;have H:=H.to (a:=blk n 118 [.slice (some ⟨Z.b,Z.o,none⟩) (aV (e::L)).length Z.c]::blk b5 256 (aD e)::blk bi 3 [.int .i64 (I:Int)]::blk B 193 [ax p]::blk bk 9 [str key]::blk k 256 (aD gQ)::Oi (.slice a5 ((aV (e::L)).drop 1).length c5) L::du d p T::ah d E::F);refine bJ H λw H=>?_;cases M:aO e.key key with
  | true=>
   rw[XE M]at h;have j:=M;rw[mr]at j;have U:(!wZ e.key key)=false:=by rw[j];rfl
   refine go ?_;exact az (f1,E,I,L,_) ⟨rfl,rfl,rfl,rfl,rfl,Xr⟩ ⟨⟨h,g⟩,H.to⟩ (by show f1<f0;omega)
  | false=>
   rw[Xx (by simp[M])]at h;simp only[Xs,XI]at h;obtain⟨rfl,rfl⟩:=h;have j:=M;rw[mr]at j;have U:(!wZ e.key key)=true:=by rw[j];rfl
   refine go ?_;refine fG (vs:=aD e) H λw H=>?_;refine go ?_;refine iW ⟨_,_,k,0,rfl,rfl,kM (aD e) H (.there (.there (.there (.there (.there .here))))) rfl rfl (iZ.all _),_,_,rfl,rfl,_,_,rfl,rfl,rfl⟩ ⟨_,rfl,?_⟩;exact Sat.zu (z:=⟨n,bi,B,bk,p,_⟩) (key:=key) (T:=T) (d:=d) (i:=I) (l:=L) (F:=aW .nilIface none::ah d E::F) g (H.iy.to)
variable{W0 w:Xo}{F:Xn ae}{v:Xp}{d m p:Nat}{T:dB}{D D':ad}{M:Xn ay}{it:It}
def ov(d m:Nat)(v:Xp):It->ae
 | .mem i=>Uu v m i
 | .JZ T key i l=>Vs d v T key i l
def OM (W0:Xo) (C:α->ae) (m d:Nat) (M:Xn ay) (x:YH eX (XB ay×α)) (D':ad) (F:Xn ae) (y:Ending) (w':Xo):Prop:=
 ∃V,y=.returned (.tuple #[.agg (aD (BV x)).toArray,.bool (TJ x),V])/\Sat W0 (WA C x::aW V (kv x)::aZ m M::ah d D'::F) w'
variable {x:YH eX (XB ay×It)}
def wM (h:pW M D it=some (x,D')) (H:Sat W0 (ov d m v it::aZ m M::ah d D::F) w) (g:M.length<=1099511627776):
 ∃f q,v=.func (.func f) #[] q/\lk vC f=some ()/\Calls prog f (#[].toList++[]++q.toList).toArray w (OM W0 (ov d m v) m d M x D' F):=by
 cases it with
 | mem i=>
  obtain⟨c,bi,bm,rfl,b⟩:=Sat.Rp H;refine⟨207,_,rfl,rfl,(Dl c b g).mono ?_⟩;rintro _ W ⟨rfl,H⟩;unfold pW at h;dsimp only at h;cases j:M[i]? with
  | none=>
   rw[j]at h H;simp only[Xs,XI]at h;obtain⟨rfl,rfl⟩:=h;refine⟨_,rfl,?_⟩;have H:=Sat.zt (m:=m) (i:=i) c (H.to (a:=blk bi 3 [.int .i64 (i:Int)]::blk bm 117 [ax m]::aZ m M::ah d D::F));exact(H.iy).to (a:=Uu _ m i::aW .nilIface none::aZ m M::ah d D::F)
  | some e=>
   rw[j]at h H;simp only[Xs,XI]at h;obtain⟨rfl,rfl⟩:=h;have n:i<M.length:=(Xw.1 j).1;refine⟨_,rfl,?_⟩;have H:=Sat.zt (m:=m) (i:=i+1) (by omega) (H.to (a:=blk bi 3 [.int .i64 ((i+1:Nat):Int)]::blk bm 117 [ax m]::aZ m M::ah d D::F));exact(H.iy).to (a:=Uu _ m (i+1)::aW .nilIface none::aZ m M::ah d D::F)
 | JZ T key i l=>
  obtain⟨c,z,rfl,b⟩:=Sat.Rt H;unfold pW at h;dsimp only at h;cases k:oz T key jJ D i l with
  | none=>rw[k]at h;cases h
  | some y=>
   obtain⟨y,s⟩:=y;rw[k]at h;have H:=b.to (a:=HL d z T key i l++(ah d D::aZ m M::F));refine⟨230,_,rfl,rfl,(Dm k c H).mono ?_⟩;rintro _ W ⟨V,rfl,H⟩;cases y with
   | error e=>
    simp only[Xs,XI]at h;obtain⟨rfl,rfl⟩:=h;exact⟨_,rfl,H.to⟩
   | ok q=>
    obtain⟨o,I,L⟩:=q;simp only[Xs,XI]at h;obtain⟨rfl,rfl⟩:=h;cases o<;>exact⟨_,rfl,H.to⟩
def fq(d m:Nat)(H:Nat)(x:ay×It):ae:=λh=>∃v,cj [blk H 349 (aD x.1++[v]),ov d m v x.2] h
variable {hp:Nat}
theorem Sat.FZ {x:ay×It} (h:Sat W0 (fq d m hp x::F) w):∃v,Sat W0 (blk hp 349 (aD x.1++[v])::ov d m v x.2::F) w:=by
 obtain⟨v,_,H⟩:=h.gD (φ:=λ_:Xp=>True) (B:=λv=>[blk hp 349 (aD x.1++[v]),ov d m v x.2]) λhp ⟨v,k⟩=>⟨v,Xr,k⟩;exact⟨v,H⟩
theorem Sat.BW {x:ay×It} (h:Sat W0 (blk hp 349 (aD x.1++[v])::ov d m v x.2::F) w):Sat W0 (fq d m hp x::F) w:=
 Sat.close (B:=[blk hp 349 (aD x.1++[v]),ov d m v x.2]) h λhp k=>⟨v,k⟩
def BX {e0:ay} (h:pW M D it=some (x,D')) (H:Sat W0 (blk hp 349 (aD e0++[v])::ov d m v it::aZ m M::ah d D::F) w) (b:M.length<=1099511627776):
 Calls prog 213 #[ax hp] w λy w'=>∃V,y=.returned (.tuple #[.bool (TJ x),V])/\Sat W0 (blk hp 349 (aD (BV x)++[v])::WA (ov d m v) x::aW V (kv x)::aZ m M::ah d D'::F) w':=by
 have H:=H.to (a:=ov d m v it::aZ m M::ah d D::blk hp 349 (aD e0++[v])::F);obtain⟨f,q,rfl,c,e⟩:=wM h H b;refine enter func213 rfl ntmps213 results213 rfl ?_;refine go ?_;refine kL rfl c rfl rfl (e.mono ?_);rintro _ w ⟨V,rfl,H⟩;refine⟨_,rfl,go ?_⟩;refine aS H λw B H=>?_;refine fG (vs:=aD (BV x)) H λw H=>?_;refine go ?_;refine Hg (vs:=aD (BV x)) (cs:=aD e0++[.func (.func f) #[] q]) H rfl rfl rfl (zh _) (by repeat (first|exact mR.here|apply mR.there)) (by simp[aD]) λw H=>?_;refine go ?_;exact an rfl ⟨_,rfl,H.to⟩
def Gv(d m bh:Nat)(H:Xn (ay×It)):ae:=λh=>∃z:Xp×Xn Nat,z.2.length=H.length/\cj [blk bh 346 [z.1],aE 1 z.1 347 z.2.length (z.2.map ax),star (List.zipWith (fq d m) z.2 H)] h
variable {bh:Nat} {hl:Xn (ay×It)}
theorem Sat.ON (h:Sat W0 (Gv d m bh hl::F) w):∃hv P,P.length=hl.length/\Sat W0 (blk bh 346 [hv]::aE 1 hv 347 P.length (P.map ax)::star (List.zipWith (fq d m) P hl)::F) w:=by
 obtain⟨z,H,a⟩:=h.gD (φ:=λz:Xp×Xn Nat=>z.2.length=hl.length) (B:=λz=>[blk bh 346 [z.1],aE 1 z.1 347 z.2.length (z.2.map ax),star (List.zipWith (fq d m) z.2 hl)]) λhp ⟨z,H,k⟩=>⟨z,H,k⟩;exact⟨z.1,z.2,H,a⟩
theorem Sat.uw {hv:Xp} {ps:Xn Nat} (hp:ps.length=hl.length) (h:Sat W0 (blk bh 346 [hv]::aE 1 hv 347 ps.length (ps.map ax)::star (List.zipWith (fq d m) ps hl)::F) w):Sat W0 (Gv d m bh hl::F) w:=
 Sat.close (B:=[blk bh 346 [hv],aE 1 hv 347 ps.length (ps.map ax),star (List.zipWith (fq d m) ps hl)]) h λ_ k=>⟨(hv,ps),hp,k⟩
def Dn(d m:Nat)(rv:Xp)(I:Xn It):ae:=λh=>∃V:Xn Xp,V.length=I.length/\cj [aE 1 rv 288 V.length V,star (List.zipWith (ov d m) V I)] h
variable {its:Xn It}
theorem Sat.zw {rv:Xp} (h:Sat W0 (Dn d m rv its::F) w):∃vs,vs.length=its.length/\Sat W0 (aE 1 rv 288 vs.length vs::star (List.zipWith (ov d m) vs its)::F) w:=by
 obtain⟨vs,H,a⟩:=h.gD (φ:=λvs:Xn Xp=>vs.length=its.length) (B:=λvs=>[aE 1 rv 288 vs.length vs,star (List.zipWith (ov d m) vs its)]) λhp ⟨z,H,k⟩=>⟨z,H,k⟩;exact⟨vs,H,a⟩
def WB(d m bh:Nat):YH eX (Xn (ay×It))->ae
 | .ok hl=>Gv d m bh hl
 | .error _=>λ_=>True
theorem Sat.uy(h:Sat W0 (ov d m v it::F) w):∃f q,v=.func (.func f) #[] q:=h.jm λhp k=>by
 cases it with
 | mem i=>obtain⟨_,bi,bm,rfl,_⟩:=k;exact⟨_,_,rfl⟩
 | JZ T key i l=>obtain⟨_,z,rfl,_⟩:=k;exact⟨_,_,rfl⟩
def HM {br:Nat} {rv:Xp} {x:YH eX (Xn (ay×It))} (h:nU M its [] D=some (x,D')) (W:its.length<=1099511627776) (K:M.length<=1099511627776) (H:Sat W0 (blk br 308 [rv]::Dn d m rv its::Gv d m bh []::aZ m M::ah d D::F) w):
 Calls prog 212 #[ax br,ax bh] w λy w'=>∃L,y=.returned L/\Sat W0 (WB d m bh x::aW L (kv x)::aZ m M::ah d D'::F) w':=by
 obtain⟨V,Y,H⟩:=(H.take dt).zw;obtain⟨a,c,rfl,hc⟩:=H.aC;have Z:V.length<=1099511627776:=by omega
 refine enter func212 rfl ntmps212 results212 rfl ?_;refine go ?_;refine aL (α:=Nat×ad×Xn (ay×It)) (λz=>[(0,ax br),(1,ax bh),(8,.slice a V.length c),(9,.int .i64 (V.length:Int)),(10,.int .i64 (z.1:Int))])
  (λz w=>(z.1<=V.length/\nU M (its.drop z.1) z.2.2 z.2.1=some (x,D')/\z.2.2.length<=z.1)/\Sat W0 (aE 1 (.slice a V.length c) 288 V.length V::star (List.zipWith (ov d m) (V.drop z.1) (its.drop z.1))::Gv d m bh z.2.2::aZ m M::ah d z.2.1::F) w) (λz=>V.length-z.1) (0,D,[]) ⟨rfl,rfl,rfl,rfl,rfl,Xr⟩ ⟨⟨XR _,h,XD _⟩,H.to⟩ ?_
 clear H h;rintro⟨i,X,acc⟩ w ⟨⟨hi,h,k⟩,H⟩;dsimp only at hi h k H |-;by_cases f:i<V.length
 .have n:i<its.length:=by omega
  have N:V[i]?=some V[i]:=Xq f;have O:V.drop i=V[i]::V.drop (i+1):=XX f;have s:its.drop i=its[i]::its.drop (i+1):=XX n;rw[s]at h;rw[O,s]at H;generalize V[i]=v1 at *;generalize its[i]=A at *;unfold nU at h;cases P:pW M X A with
  | none=>rw[P]at h;cases h
  | some y=>
   obtain⟨y,E⟩:=y;rw[P]at h;have H:=Sat.ie (B:=[]) (H.take dt);obtain⟨C,g,rfl⟩:=H.uy;obtain⟨b,aa,rs,hv,q1,q2,q3,G⟩:=(H.take iB).iv (by omega);obtain⟨rfl,_,rfl⟩:=Yk hv;have j:(V++rs)[0+i*1]?=some (.func (.func C) #[] g):=by rw[X0,YA,XH (by omega)];exact N
   refine go ?_;refine de (i:=i) rfl rfl rfl rfl rfl f rfl ?_;refine fF G rfl rfl .here j rfl ?_;clear G;refine go ?_;refine cx (aD gQ++[.func (.func C) #[] g]) ?_;refine eB (z:=aD gQ++[.func (.func C) #[] g]) H λw hp H=>?_;refine go ?_;have H:=H.to (a:=blk hp 349 (aD gQ++[.func (.func C) #[] g])::ov d m (.func (.func C) #[] g) A::aZ m M::ah d X::star (List.zipWith (ov d m) (V.drop (i+1)) (its.drop (i+1)))::aE 1 (.slice (some ⟨b,0,none⟩) V.length c) 288 V.length V::Gv d m bh acc::F);refine ak (met (BX P H K) ?_);rintro _ w ⟨L,rfl,H⟩;refine⟨_,rfl,?_⟩;cases y with
   | error e=>
    simp only[Xs,XI]at h;obtain⟨rfl,rfl⟩:=h;obtain⟨t,u,rfl⟩:=(H.take iB).bp;refine go ?_;exact an rfl ⟨_,rfl,Sat.emp H.to⟩
   | ok q=>
    obtain⟨o,I⟩:=q;have Q:=(H.take iB).ee;subst Q;cases o with
    | none=>
     dsimp only at h;refine go ?_;exact az (i+1,E,acc) ⟨rfl,rfl,rfl,rfl,rfl,Xr⟩ ⟨⟨f,h,by dsimp only;omega⟩,H.to⟩ (by dsimp only;omega)
    | some e=>
     dsimp only at h;have H:=Sat.BW (x:=(e,I)) (H.to (a:=blk hp 349 (aD e++[.func (.func C) #[] g])::ov d m (.func (.func C) #[] g) I::Gv d m bh acc::aZ m M::ah d E::star (List.zipWith (ov d m) (V.drop (i+1)) (its.drop (i+1)))::aE 1 (.slice (some ⟨b,0,none⟩) V.length c) 288 V.length V::F));obtain⟨hv,ps,J,H⟩:=(H.take dt).ON;refine go ?_;refine eS H λw b2 H=>?_;refine dZ H λv' w H=>?_;obtain⟨R,S,rfl,ab⟩:=H.aC;refine bJ H λw H=>?_;refine go ?_;have H:=H.to (a:=star (List.zipWith (fq d m) ps acc)::fq d m hp (e,I)::blk bh 346 [.slice R (ps.length+1) S]::aE 1 (.slice R (ps.length+1) S) 347 (ps.length+1) (ps.map ax++[ax hp])::aZ m M::ah d E::star (List.zipWith (ov d m) (V.drop (i+1)) (its.drop (i+1)))::aE 1 (.slice (some ⟨b,0,none⟩) V.length c) 288 V.length V::F);have H:=H.ug;have ez:List.zipWith (fq d m) ps acc++[fq d m hp (e,I)]=List.zipWith (fq d m) (ps++[hp]) (acc++[(e,I)]):=by rw[Zh J];rfl
     rw[ez]at H;have H:=Sat.uw (ps:=ps++[hp]) (hl:=acc++[(e,I)]) (bh:=bh) (hv:=.slice R (ps.length+1) S) (by simp[J]) (F:=aZ m M::ah d E::star (List.zipWith (ov d m) (V.drop (i+1)) (its.drop (i+1)))::aE 1 (.slice (some ⟨b,0,none⟩) V.length c) 288 V.length V::F) (by
      rw[Xu,XK];exact H.to)
     exact az (i+1,E,acc++[(e,I)]) ⟨rfl,rfl,rfl,rfl,rfl,Xr⟩ ⟨⟨f,h,by simp;omega⟩,H.to⟩ (by dsimp only;omega)
 .have U:its.drop i=[]:=Ym (by omega);rw[U]at h;unfold nU at h;simp only[Xs,XI]at h;obtain⟨rfl,rfl⟩:=h;refine go ?_;exact an rfl ⟨_,rfl,(H.iy).to⟩
variable{W0 w:Xo}{F:Xn ae}{v:Xp}{d m p:Nat}{T:dB}{D D':ad}{M:Xn ay}{it:It}{g:Mg}
structure Uw where
 bs:Nat
 bst:Nat
 bh:Nat
 br:Nat
 rv:Xp
def Vt(d m:Nat)(z:Uw)(g:Mg):ae:=if g.started=true then(λ_=>True)else star [blk z.br 308 [z.rv],Dn d m z.rv g.rows]
abbrev Ux(d m:Nat)(z:Uw)(g:Mg):Xn ae:=[blk z.bs 4 [.bool g.started],blk z.bst 107 [.func (.func 212) #[] #[ax z.br,ax z.bh]],Gv d m z.bh g.heads,Vt d m z g]
abbrev Vu(z:Uw):Xp:=.func (.func 214) #[] #[ax z.bs,ax z.bst,ax z.bh]
def TK(d m:Nat)(v:Xp)(g:Mg):ae:=λh=>(g.started=false->g.heads=[])/\∃z,v=Vu z/\cj (Ux d m z g) h
theorem Sat.OO(h:Sat W0 (TK d m v g::F) w):(g.started=false->g.heads=[])/\∃z,v=Vu z/\Sat W0 (Ux d m z g++F) w:=by
 have a:=h.jm (φ:=g.started=false->g.heads=[]) λ_ k=>k.1;obtain⟨z,H,b⟩:=h.gD (φ:=λz:Uw=>v=Vu z) (B:=λz=>Ux d m z g) λhp ⟨_,z,H,k⟩=>⟨z,H,k⟩;exact⟨a,z,H,b⟩
theorem Sat.xD{z:Uw}(H:g.started=false->g.heads=[])(h:Sat W0 (Ux d m z g++F) w):Sat W0 (TK d m (Vu z) g::F) w:=Sat.close h λhp k=>⟨H,z,rfl,k⟩
def zx {rv:Xp} (h:Sat W0 (Dn d m rv its::F) w):
 Calls prog 184 #[rv] w λy w'=>∃v,y=.returned v/\Sat W0 (TK d m v ⟨false,its,[]⟩::F) w':=by
 obtain⟨V,H,h⟩:=h.zw;obtain⟨a,c,rfl,q⟩:=h.aC;refine enter func184 rfl ntmps184 results184 rfl ?_;refine go ?_;refine eB h λw e h=>?_;refine go ?_;refine aS h λw bh h=>?_;refine go ?_;refine aS h λw f h=>?_;refine bJ h λw h=>?_;refine go ?_;refine aS h λw b h=>?_;refine bJ h λw h=>?_;refine go ?_;refine an rfl ⟨_,rfl,Sat.xD (z:=⟨f,b,bh,e,.slice a V.length c⟩) (λ_=>rfl) ?_⟩;have j:Sat W0 (Dn d m (.slice a V.length c) its::blk e 308 [.slice a V.length c]::blk bh 346 [.slice none 0 0]::blk f 4 [.bool false]::blk b 107 [.func (.func 212) #[] #[ax e,ax bh]]::F) w:=
  Sat.close (B:=[aE 1 (.slice a V.length c) 288 V.length V,star (List.zipWith (ov d m) V its)]) h.to λ_ k=>⟨V,H,k⟩
 have n:=Sat.za (Sat.to (a:=blk e 308 [.slice a V.length c]::star [Dn d m (.slice a V.length c) its]::blk bh 346 [.slice none 0 0]::blk f 4 [.bool false]::blk b 107 [.func (.func 212) #[] #[ax e,ax bh]]::F) (Sat.za (Sat.to (a:=Dn d m (.slice a V.length c) its::star []::blk e 308 [.slice a V.length c]::blk bh 346 [.slice none 0 0]::blk f 4 [.bool false]::blk b 107 [.func (.func 212) #[] #[ax e,ax bh]]::F) j.nP)));have o:=Sat.uw (d:=d) (m:=m) (bh:=bh) (hl:=[]) (hv:=.slice none 0 0) (ps:=[]) rfl (F:=star [blk e 308 [.slice a V.length c],Dn d m (.slice a V.length c) its]::blk f 4 [.bool false]::blk b 107 [.func (.func 212) #[] #[ax e,ax bh]]::F) (Sat.to (Sat.ep (k:=1) (E:=347) (Sat.nP n)));exact o.to
