/-
  Part 39: WALKS table; The engine 27 order trees over any fact that the loud steps ; WALKS package levels.
-/
import Derived.Test.YtecibefflhomdaaGreatDoorZ38
set_option maxHeartbeats 8000000
set_option maxRecDepth 100000
set_option linter.all false
namespace Go.Proofs.YtecibefflhomdaaGreatDoor
open Go Proofs.Tryz
section
variable[Bs0:Base][NQ]
open Pure (ad ay Rd bF less aO aU bA aX aA dz dec)
attribute [local irreducible] IntKind.wrap
variable{W0 w:Xo}{F:Xn ae}{v:Xp}{d:Nat}
def HP(l:Xn ay)(i:Nat)(e:ay)(s:Wr):XB Wr:=if 300<=s.inb.length then match l[i-1]? with
 | none=>none
 | some p=>if e.key=p.key then some s else(mK s).map λs=>{ s with first:=e.key }
 else some s
variable {l:Xn ay} {i:Nat} {e:ay} {s:Wr}
theorem HQ {s1:Wr} (h:stepW l i e s=some s1):∃S,HP l i e s=some S/\s1={ S with inb:=S.inb++dz e }/\s.inb.length<=1048576/\DY e=true:=by
 unfold stepW at h;split at h
 .rename_i H;change(HP l i e s).map _=_ at h;cases a:HP l i e s with
  | none=>rw[a]at h;cases h
  | some S=>
   rw[a]at h;simp only[Option.map_some,Xs]at h;exact⟨S,rfl,h.symm,H.1,H.2⟩
 .cases h
theorem Rv {S:Wr} (h:HP l i e s=some S):S.inb.length<=s.inb.length:=by
 unfold HP at h;split at h
 .split at h
  .cases h
  .split at h
   .cases h;exact XD _
   .unfold mK at h;split at h
    .cases h;simp
    .cases h
 .cases h;exact XD _
theorem Lv {z:Bs×Xn (Bs×Nat×Nat)} (h:J0 l=some z):∃e E a S,l.head?=some e/\l.getLast?=some E/\nV l 0 l ⟨[],[],e.key,[]⟩=some a/\mK a=some S /\
 (S.file.length<=jJ/\S.blocks.length<=1048576/\l.length<=1048576/\(S.blocks.all λb=>Nat.ble b.1.length 255&&Nat.ble b.2.1 jJ&&Nat.ble b.2.2 jJ)=true/\e.key.length<=255/\E.key.length<=255) /\
 z=(S.file++aA (jP e.key E.key l.length S.blocks)++aA (bA S.file.length 8),S.blocks):=by
 unfold J0 at h;split at h
 .rename_i e r E c;cases H:nV (e::r) 0 (e::r) ⟨[],[],e.key,[]⟩with
  | none=>rw[H]at h;cases h
  | some a=>
   rw[H]at h;simp only[abb]at h;cases f:mK a with
   | none=>rw[f]at h;cases h
   | some S=>
    rw[f]at h;dsimp only at h;split at h
    .rename_i g;exact⟨e,E,a,S,rfl,c,H,f,g,(Xt h).symm⟩
    .cases h
 .cases h
theorem B5{bs:Xn (Bs×Nat×Nat)}(h:(bs.all λb=>Nat.ble b.1.length 255&&Nat.ble b.2.1 jJ&&Nat.ble b.2.2 jJ)=true){j:Nat}(m:j<=1048576) :
 ((bs.take j).map λb=>aX b.1++bA b.2.1 4++bA b.2.2 4).flatten.length<=276824064:=by
 have k:∀(l:Xn (Bs×Nat×Nat)),(∀b∈l,b.1.length<=255)->(l.map λb=>aX b.1++bA b.2.1 4++bA b.2.2 4).flatten.length<=l.length*264:=by
  intro l
  induction l with
  | nil=>intro _;simp
  | cons b r I=>
   intro H;have c:=H b XC;have a:=I λx f=>H x (XQ _ f);simp only[XP,Yd,Xu,X5,Pure.dP,Pure.aI]at a |-;omega
 have c:=k (bs.take j) λb g=>by
  have:=X4.1 h b (Zp g);simp only[Yp,aae]at this;exact this.1.1
 have a:(bs.take j).length<=j:=List.length_take_le _ _;omega
def TS(d:Nat)(t:Xp):YH eX dB->ae
 | .ok T=>λh=>∃p,t=ax p/\du d p T h
 | .error _=>λ_=>True
theorem Sat.TT{p:Nat}{T:dB}{bv:Xp}(h:Jo T)(H:Sat W0 (Ae p 200 [str T.name,str T.first,str T.last,.int .i64 (T.count:Int),ax d,bv]::nj 3 bv (cV T.blocks)::F) w):Sat W0 (TS d (ax p) (.ok T)::F) w:=
 Sat.close (B:=[Ae p 200 [str T.name,str T.first,str T.last,.int .i64 (T.count:Int),ax d,bv],nj 3 bv (cV T.blocks)]) H λa k=>⟨p,rfl,h,bv,k⟩
def zH {D:ad} {name:Bs} (H:Sat W0 (nj 4 v (aV l)::ah d D::F) w) {r:YH eX dB×ad} (h:qo D name l=some r):
 Calls prog 208 #[ax d,str name,v] w λx w'=>∃tv R,x=.returned (.tuple #[tv,R])/\Sat W0 (ah d r.2::aW R (kv r.1)::TS d tv r.1::F) w':=by
 unfold qo at h;cases Z:J0 l with
 | none=>rw[Z]at h;cases h
 | some z=>
  rw[Z]at h;dsimp only at h;obtain⟨e,ez,sfin,send,U,hez,hst0,hfl,⟨g1,g2,hlb,g4,g5,g6⟩,hz⟩:=Lv Z;clear Z;have hlp:0<l.length:=by cases l with|nil=>cases U|cons a b=>simp
  have aa:l[0]?=some e:=by rw[<- abq];exact U
  have hzi:l[l.length-1]?=some ez:=by rw[<- aaY];exact hez
  obtain⟨z0,⟨hv,hzc,hseg⟩,o⟩:=H.qY (by intro hn;simp[aV]at hn;rw[hn]at hlp;simp at hlp);have hlen:(aV l).length=l.length:=by simp[aV]
  rw[hlen]at hv hzc;subst hv;obtain⟨c,O,J,all,I⟩:=z0;dsimp only at hzc hseg o;clear H;have hrow:∀i x,l[i]?=some x->iZ all (O+i*4) (aD x):=λi x hi=>hseg.row (i:=i) (x:=aD x) (jY _) (by simp[aV,hi]);have hrow0:=hrow _ _ aa;have hrowl:=hrow _ _ hzi;generalize hL:l.length=L at *;refine enter func208 rfl ntmps208 results208 rfl ?_;refine dW ?_;refine jv ?_;refine bT rfl ?_;refine dx (α:=Nat×Nat) (λz=>[(0,ax d),(1,str name),(2,.slice (some ⟨c,O,none⟩) L J),(8,ax z.1)]) (λz w=>Sat W0 (blk z.1 193 [ax z.2]::blk z.2 200 [str name,str e.key,str ez.key,.int .i64 (L:Int),ax d,.slice none 0 0]::ob true c (.cells all.toArray I (0,0))::ah d D::F) w) ?_ ?_
  .refine eM [ob true c (.cells all.toArray I (0,0))] [4,11] (.q 0 (.q 1 (.q 2 (.q 3 (.s 4 (.q 5 (.q 6 (.q 7 (.q 8 (.q 9 (.q 10 (.s 11 (.q 12 (.q 13 (.q 14 (.q 15 (.q 16 (.l2 17 (.l 18 (.l 19 .nil)) 18 (.l 17 (.l 19 .nil)))))))))))))))))))) o (by kernel_rfl) λw H=>?_;refine nk ?_;refine gM (j:=0) rfl rfl rfl rfl rfl rfl hlp rfl ?_;refine nk ?_;refine zo rfl rfl rfl .here hrow0.1 rfl ?_;refine nk ?_;refine gM (j:=L-1) rfl rfl rfl (by omega) rfl rfl (by omega) rfl ?_;refine nk ?_;refine zo rfl rfl rfl .here hrowl.1 rfl ?_;refine nk ?_;refine zE [str name,str e.key,str ez.key,.int .i64 (L:Int)] rfl ?_;refine nk ?_;refine zE [str name,str e.key,str ez.key,.int .i64 (L:Int),ax d,.slice none 0 0] rfl ?_;refine FR rfl rfl ?_ ?_
   .refine eB H λw p H=>?_;refine jv ?_;refine gH H.to ?_;refine ju rfl ?_;refine aS H ?_;clear H;intro w B H;refine jv ?_;refine gH H.to ?_;refine ju rfl ?_;refine bJ H ?_;clear H;intro w H;refine jv ?_;refine gH H.to ?_;refine gL ?_;exact aH (B,p) ⟨rfl,rfl,rfl,rfl,Xr⟩ H.to
   .refine aS H λw B H=>?_;refine jv ?_;refine gH H.to ?_;refine ju rfl ?_;refine eB H ?_;clear H;intro w p H;refine jv ?_;refine gH H.to ?_;refine ju rfl ?_;refine bJ H ?_;clear H;intro w H;refine jv ?_;refine gH H.to ?_;refine gL ?_;exact aH (B,p) ⟨rfl,rfl,rfl,rfl,Xr⟩ H.to
  clear o;rintro⟨B,p⟩ w H;dsimp only at H;refine gx ?_;refine aS H ?_;clear H;intro w f H;refine gx ?_;refine aS H ?_;clear H;intro w g H;refine gx ?_;refine de (i:=0) rfl rfl rfl rfl rfl hlp rfl ?_;refine gx ?_;refine fF H rfl rfl (by repeat constructor) hrow0.1 rfl ?_;refine aS H ?_;clear H;intro w y H;refine bJ H ?_;clear H;intro w H;refine gx ?_;refine aL (α:=Nat×Wr×V3) (λz=>[(0,ax d),(1,str name),(2,.slice (some ⟨c,O,none⟩) L J),(8,ax B),(9,ax f),(10,ax g),(11,ax y),(12,.func (.func 227) #[] #[ax g,ax B,ax y,ax f]),(44,.slice (some ⟨c,O,none⟩) L J),(45,.int .i64 (L:Int)),(46,.int .i64 (z.1:Int))])
   (λz w=>(z.1<=L/\nV l z.1 (l.drop z.1) z.2.1=some sfin/\(0<z.1\/z.2.1.inb=[]))/\Sat W0 (Qd ⟨g,B,y,f,p,d,name,e.key,ez.key,L⟩ z.2.2 z.2.1++ob true c (.cells all.toArray I (0,0))::ah d D::F) w) (λz=>L-z.1) (0,⟨[],[],e.key,[]⟩,⟨.slice none 0 0,.slice none 0 0,.slice none 0 0⟩) ⟨rfl,rfl,rfl,rfl,rfl,rfl,rfl,rfl,rfl,rfl,rfl,Xr⟩ ⟨⟨XR _,hst0,.inr rfl⟩,?_⟩ ?_
  .have H:=((H.ep (k:=1) (E:=5)).ep (k:=1) (E:=5)).ep (k:=3) (E:=282);exact H.to
  clear H;rintro⟨i,s,V⟩ w ⟨⟨hi,hst,hin⟩,H⟩;dsimp only at hi hst hin;obtain⟨vi,K,bv⟩:=V;dsimp only[Qd,List.cons_append,List.nil_append]at H;by_cases hlt:i<L
  .have hlt':i<l.length:=by omega
   have hx:l[i]?=some l[i]:=Xq hlt';generalize l[i]=x at hx;have hdrop:l.drop i=x::l.drop (i+1):=by rw[XX hlt'];congr 1;exact(Xw.1 hx).2
   rw[hdrop]at hst;simp only[nV]at hst;cases hsw:stepW l i x s with
   | none=>rw[hsw]at hst;cases hst
   | some s1=>
    rw[hsw]at hst;dsimp only at hst;obtain⟨W,hpre,rfl,q1,q2⟩:=HQ hsw;have hin2:=Rv hpre;simp only[DY,Yp,aae]at q2;have hrowi:=hrow _ _ hx;refine(show WC _ _ _ _ [(0,ax d),(1,str name),(2,.slice (some ⟨c,O,none⟩) L J),(8,ax B),(9,ax f),(10,ax g),(11,ax y),(12,.func (.func 227) #[] #[ax g,ax B,ax y,ax f]),(44,.slice (some ⟨c,O,none⟩) L J),(45,.int .i64 (L:Int)),(46,.int .i64 (i:Int))] w from ?_);refine gx ?_;refine de (i:=i) rfl rfl rfl rfl rfl hlt rfl ?_;refine dX (aD x) H rfl rfl rfl (by repeat constructor) hrowi rfl ?_;refine jv ?_;refine aS H ?_;clear H;intro w b14 H;refine jv ?_;refine fG (vs:=aD x) H ?_;clear H;intro w H;refine jv ?_;refine bT rfl ?_;refine dx (α:=Wr×V3) (λz=>[(0,ax d),(1,str name),(2,.slice (some ⟨c,O,none⟩) L J),(8,ax B),(9,ax f),(10,ax g),(11,ax y),(12,.func (.func 227) #[] #[ax g,ax B,ax y,ax f]),(44,.slice (some ⟨c,O,none⟩) L J),(45,.int .i64 (L:Int)),(46,.int .i64 (i:Int)),(14,ax b14)])
     (λz w=>HP l i x s=some z.1/\Sat W0 (Qd ⟨g,B,y,f,p,d,name,e.key,ez.key,L⟩ z.2 z.1++blk b14 256 (aD x)::ob true c (.cells all.toArray I (0,0))::ah d D::F) w) ?_ ?_
    .clear hst hsw;obtain⟨M,Q,e1,-⟩:=(H.take iB).aC;subst e1;unfold HP at hpre |-;by_cases h300:300<=s.inb.length
     .rw[XE h300]at hpre;obtain⟨i,rfl⟩:∃j,i=j+1:=⟨i-1,by rcases hin with h|h;omega;rw[h]at h300;simp at h300⟩;have hpv:∃pv,l[i]?=some pv:=⟨_,Xq (show i<l.length by omega)⟩;obtain⟨pv,hpv⟩:=hpv;rw[aaX,hpv]at hpre;dsimp only at hpre;have hrowp:=hrow _ _ hpv;refine dW ?_;refine eM [blk b14 256 (aD x),blk g 93 [.slice M s.inb.length Q],ob true c (.cells all.toArray I (0,0))] [0,5,11] (.s 0 (.q 1 (.q 2 (.q 3 (.q 4 (.s 5 (.q 6 (.q 7 (.q 8 (.q 9 (.q 10 (.s 11 (.q 12 (.q 13 .nil)))))))))))))) H (by kernel_rfl) λw H=>?_;have h300':(s.inb.length:Int) >= 300:=by omega
      refine nk ?_;refine vU (j:=i) rfl rfl rfl rfl (by omega) rfl rfl (by omega) rfl ?_;refine nk ?_;refine re rfl rfl rfl rfl (by repeat constructor) hrowp.1 rfl ?_;by_cases S:x.key=pv.key
      .rw[XE S]at hpre;refine qb (v:=.bool false) rfl rfl (by show some (Value.bool (decide (x.key≠pv.key)))=some (.bool false);rw[Zj (by simpa using S)]) rfl ?_;refine nk ?_;refine gL ?_;refine gx ?_;exact aH (s,⟨.slice M s.inb.length Q,K,bv⟩) ⟨rfl,rfl,rfl,rfl,rfl,rfl,rfl,rfl,rfl,rfl,rfl,rfl,Xr⟩ ⟨by rw[XE h300,aaX,hpv];simp only[XE S],H.to⟩
      .rw[Xx S]at hpre;refine qb (v:=.bool true) rfl rfl (by show some (Value.bool (decide (x.key≠pv.key)))=some (.bool true);rw[aar (by simpa using S)]) rfl ?_;refine nk ?_;refine gL ?_;refine gx ?_;cases hfs:mK s with
       | none=>rw[hfs]at hpre;cases hpre
       | some sf=>
        rw[hfs]at hpre;simp only[Option.map_some,Xs]at hpre;subst hpre;have G:Sat W0 (blk g 93 [.slice M s.inb.length Q]::cP (.slice M s.inb.length Q) s.inb::blk B 193 [ax p]::blk p 200 [str name,str e.key,str ez.key,.int .i64 (L:Int),ax d,bv]::aE 3 bv 282 s.blocks.length (cV s.blocks).flatten::blk y 9 [str s.first]::blk f 93 [K]::cP K s.file::blk b14 256 (aD x)::ob true c (.cells all.toArray I (0,0))::ah d D::F) w:=H.to;clear H;refine kL rfl rfl rfl rfl (met (zG (P:=⟨g,B,y,f,p,d,name,e.key,ez.key,L⟩) (V:=⟨.slice M s.inb.length Q,K,bv⟩) (F:=blk b14 256 (aD x)::ob true c (.cells all.toArray I (0,0))::ah d D::F) G hfs) ?_);rintro _ w ⟨u,V',rfl,H⟩;dsimp only[Qd,List.cons_append,List.nil_append]at H;clear G;refine⟨_,rfl,?_⟩;refine gx ?_;refine bJ H ?_;clear H;intro w H;refine jv ?_;exact aH ({ sf with first:=x.key },V') ⟨rfl,rfl,rfl,rfl,rfl,rfl,rfl,rfl,rfl,rfl,rfl,rfl,Xr⟩ ⟨by rw[XE h300,aaX,hpv];simp only[Xx S,hfs];rfl,H.to⟩
     .rw[Xx h300]at hpre;refine dW ?_;refine eM [blk b14 256 (aD x),blk g 93 [.slice M s.inb.length Q],ob true c (.cells all.toArray I (0,0))] [0,5,11] (.s 0 (.q 1 (.q 2 (.q 3 (.q 4 (.s 5 (.q 6 (.q 7 (.q 8 (.q 9 (.q 10 (.s 11 (.q 12 (.q 13 .nil)))))))))))))) H (by kernel_rfl) λw H=>?_;have h300':¬(s.inb.length:Int) >= 300:=by omega
      refine nk ?_;refine gL ?_;refine gx ?_;rw[Xx h300];exact aH (s,⟨.slice M s.inb.length Q,K,bv⟩) ⟨rfl,rfl,rfl,rfl,rfl,rfl,rfl,rfl,rfl,rfl,rfl,rfl,Xr⟩ ⟨rfl,H.to⟩
    .clear H;rintro⟨s3,ai,ab,ac⟩ w ⟨X,H⟩;rw[hpre]at X;obtain rfl:=Xt X;dsimp only[Qd,List.cons_append,List.nil_append]at H;refine gx ?_;refine ak (met (B4 (x:=x) (H.take dt) (by omega) q2.1 λhd=>by simpa[hd]using q2.2) ?_);clear H;rintro _ w ⟨v',rfl,H⟩;refine⟨_,rfl,?_⟩;obtain⟨a5,c5,rfl,-⟩:=H.aC;refine jv ?_;refine bJ H ?_;clear H;intro w H;refine gx ?_;refine az (i+1,⟨W.file,W.inb++dz x,W.first,W.blocks⟩,⟨.slice a5 (W.inb++dz x).length c5,ab,ac⟩) ⟨rfl,rfl,rfl,rfl,rfl,rfl,rfl,rfl,rfl,rfl,rfl,Xr⟩ ⟨⟨by show i+1<=L;omega,hst,.inl (by show 0<i+1;omega)⟩,?_⟩ (by show L-(i+1)<L-i;omega);exact H.to
  .have hiL:L=i:=by omega
   subst hiL;have af:l.drop L=[]:=by rw[List.drop_eq_nil_iff];omega
   rw[af]at hst;simp only[nV,Xs]at hst;subst hst;refine(show WC _ _ _ _ [(0,ax d),(1,str name),(2,.slice (some ⟨c,O,none⟩) L J),(8,ax B),(9,ax f),(10,ax g),(11,ax y),(12,.func (.func 227) #[] #[ax g,ax B,ax y,ax f]),(44,.slice (some ⟨c,O,none⟩) L J),(45,.int .i64 (L:Int)),(46,.int .i64 (L:Int))] w from ?_);refine gx ?_;have G:Sat W0 (blk g 93 [vi]::cP vi s.inb::blk B 193 [ax p]::blk p 200 [str name,str e.key,str ez.key,.int .i64 (L:Int),ax d,bv]::aE 3 bv 282 s.blocks.length (cV s.blocks).flatten::blk y 9 [str s.first]::blk f 93 [K]::cP K s.file::ob true c (.cells all.toArray I (0,0))::ah d D::F) w:=H.to;clear H;refine kL rfl rfl rfl rfl (met (zG (P:=⟨g,B,y,f,p,d,name,e.key,ez.key,L⟩) (V:=⟨vi,K,bv⟩) (F:=ob true c (.cells all.toArray I (0,0))::ah d D::F) G hfl) ?_);rintro _ w ⟨u,⟨al,Y,am⟩,rfl,H⟩;dsimp only[Qd,List.cons_append,List.nil_append]at H;clear G;refine⟨_,rfl,?_⟩;refine gx ?_;have H:=(H.take yw);have hbl:send.blocks.length=(cV send.blocks).length:=by simp[cV]
   rw[hbl]at H;have H:=(Sat.rR (xC _) H).take yw;have H:=H.share;obtain⟨A,C,rfl,ao⟩:=(H.take dt).kQ;have hTok:Jo ⟨name,e.key,ez.key,L,send.blocks⟩:=⟨by show send.blocks.length<=_;omega,by show L<=_;omega,λb hb=>by
    have:=X4.1 g4 b hb;simp only[Yp,aae,bC]at this;omega⟩
   refine bU [blk B 193 [ax p],Ae p 200 [str name,str e.key,str ez.key,.int .i64 (L:Int),ax d,.slice A (cV send.blocks).length C]] [(0,false),(1,false),(2,false),(3,false),(4,false),(6,false),(7,false),(8,false),(9,false),(10,false),(5,true),(11,true),(12,false)] H.to (by kernel_rfl) λw H=>?_;refine gx ?_;refine ak (met (iK (v:=.slice none 0 0) (bs:=[]) (s:=e.key) (H.ep (k:=1) (E:=5)) (by simp) (by omega)) ?_);clear H;rintro _ w ⟨v1,rfl,H⟩;refine⟨_,rfl,gx ?_⟩;refine ak (met (iK (s:=ez.key) H (by simp only[Xu,Pure.dP,Pure.aI,List.length_nil];omega) (by omega)) ?_);clear H;rintro _ w ⟨v2,rfl,H⟩;refine⟨_,rfl,gx ?_⟩;refine ak (met (dm (N:=L) (k:=4) H (by omega) (by simp only[Xu,Pure.dP,Pure.aI,List.length_nil];omega)) ?_);clear H;rintro _ w ⟨v3,rfl,H⟩;refine⟨_,rfl,gx ?_⟩;have hn:(cV send.blocks).length<=1048576:=by omega
   refine aL (α:=Nat×Xp) (λz=>[(0,ax d),(1,str name),(8,ax B),(9,ax f),(15,z.2),(98,.slice A (cV send.blocks).length C),(99,.int .i64 ((cV send.blocks).length:Int)),(100,.int .i64 (z.1:Int))])
    (λz w=>z.1<=send.blocks.length/\Sat W0 (cP z.2 (aX e.key++aX ez.key++bA L 4++((send.blocks.take z.1).map λb=>aX b.1++bA b.2.1 4++bA b.2.2 4).flatten)::Ae p 200 [str name,str e.key,str ez.key,.int .i64 (L:Int),ax d,.slice A (cV send.blocks).length C]::nj 3 (.slice A (cV send.blocks).length C) (cV send.blocks)::blk B 193 [ax p]::blk f 93 [Y]::cP Y send.file::ah d D::F) w) (λz=>send.blocks.length-z.1) (0,v3) ⟨rfl,rfl,rfl,rfl,rfl,rfl,rfl,rfl,Xr⟩ ⟨XR _,?_⟩ ?_
   .dsimp only;rw[abJ,List.map_nil,aaw,Yj];exact H.to
   clear H;rintro⟨j,v4⟩ w ⟨hj,H⟩;dsimp only at hj H;by_cases hlt:j<send.blocks.length
   .have hg:send.blocks[j]?=some send.blocks[j]:=Xq hlt;generalize send.blocks[j]=bk at hg;have htk:send.blocks.take (j+1)=send.blocks.take j++[bk]:=by
     rw[YC,hg];rfl
    obtain⟨z0,⟨hv,hzc,hseg⟩,o⟩:=(H.take iB).qY (by intro ag;rw[ag]at hbl;simp at hbl;rw[hbl]at hlt;simp at hlt);obtain⟨rfl,_,rfl⟩:=Yk hv;have hrowj:=hseg.row (i:=j) (x:=AB bk) (xC _) (by simp[cV,hg]);have hbk:=X4.1 g4 bk (Ya hg);simp only[Yp,aae,bC]at hbk;obtain⟨⟨k1,k2⟩,k3⟩:=hbk;have hfb:((send.blocks.take j).map λb=>aX b.1++bA b.2.1 4++bA b.2.2 4).flatten.length<=276824064:=B5 g4 (by omega);have hlt':j<(cV send.blocks).length:=by omega
    refine gx ?_;refine de (i:=j) rfl rfl rfl rfl rfl hlt' rfl ?_;refine dX (AB bk) o rfl rfl rfl (by repeat constructor) hrowj rfl ?_;refine aS o λw b17 H=>?_;refine fG (vs:=AB bk) H ?_;clear H;intro w H;clear o;refine gx ?_;refine ak (met (iK (s:=bk.1) (H.take IQ) (by simp only[Xu,Pure.dP,Pure.aI,List.length_nil];omega) (by omega)) ?_);clear H;rintro _ w ⟨v5,rfl,H⟩;refine⟨_,rfl,gx ?_⟩;refine bU [blk b17 282 (AB bk)] [(0,false),(1,false),(2,false),(3,false),(5,false),(6,false),(7,false),(4,true),(8,true),(9,false)] H (by kernel_rfl) λw H=>?_;have w1:IntKind.u64.wrap (bk.2.1:Int)=(bk.2.1:Int):=ZM _ (by omega);have w2:IntKind.u64.wrap (bk.2.2:Int)=(bk.2.2:Int):=ZM _ (by omega);refine gx ?_
    try rw[w1,w2]
    refine ak (met (dm (N:=bk.2.1) (k:=4) H (by omega) (by simp only[Xu,Pure.dP,Pure.aI,List.length_nil];omega)) ?_);clear H;rintro _ w ⟨v6,rfl,H⟩;refine⟨_,rfl,gx ?_⟩;refine ak (met (dm (N:=bk.2.2) (k:=4) H (by omega) (by simp only[Xu,Pure.dP,Pure.aI,List.length_nil];omega)) ?_);clear H;rintro _ w ⟨v7,rfl,H⟩;refine⟨_,rfl,gx ?_⟩;refine az (j+1,v7) ⟨rfl,rfl,rfl,rfl,rfl,rfl,rfl,rfl,Xr⟩ ⟨by show j+1<=_;omega,?_⟩ (by show _-(j+1)<_-j;omega);dsimp only;rw[htk,XK,YN,XP,List.map_nil,Yd,aaw,Yj];simp only[XS]at H |-;exact H.to
   .have hjn:j=send.blocks.length:=by omega
    subst hjn;rw[YD]at H;have hfb:((send.blocks).map λb=>aX b.1++bA b.2.1 4++bA b.2.2 4).flatten.length<=276824064:=by
     have:=B5 (j:=send.blocks.length) g4 (by omega);rwa[YD]at this
    have hlB:aX e.key++aX ez.key++bA L 4++((send.blocks).map λb=>aX b.1++bA b.2.1 4++bA b.2.2 4).flatten=jP e.key ez.key L send.blocks:=rfl;have hlen2:(jP e.key ez.key L send.blocks).length<=300000000:=by rw[<- hlB];simp only[Xu,Pure.dP,Pure.aI];omega
    rw[hlB]at H;have hnlt:¬send.blocks.length<(cV send.blocks).length:=by omega
    obtain⟨a7,c7,rfl,-⟩:=(H.take EF).aC;have hfl2:send.file.length<=1099511627776:=by rw[<- bC];exact g1
    refine gx ?_;refine ak (met (dm (v:=.slice none 0 0) (bs:=[]) (N:=send.file.length) (k:=8) (H.ep (k:=1) (E:=5)) (by omega) (by simp)) ?_);clear H;rintro _ w ⟨v8,rfl,H⟩;refine⟨_,rfl,gx ?_⟩;refine ak (met (nf H (by simp)) ?_);clear H;rintro _ w ⟨v9,rfl,H⟩;refine⟨_,rfl,?_⟩;simp only[List.nil_append]at H;refine gx ?_;have H:=H.to (a:=blk f 93 [.slice a7 send.file.length c7]::cP v4 (jP e.key ez.key L send.blocks)::cP v9 (aA (bA send.file.length 8))::cP (.slice a7 send.file.length c7) send.file::Ae p 200 [str name,str e.key,str ez.key,.int .i64 (L:Int),ax d,.slice A (cV send.blocks).length C]::nj 3 (.slice A (cV send.blocks).length C) (cV send.blocks)::blk B 193 [ax p]::ah d D::F);refine bU [blk f 93 [.slice a7 send.file.length c7]] [(0,false),(1,false),(4,false),(2,true),(3,true),(5,true),(6,true)] H (by kernel_rfl) λw H=>?_;refine gx ?_;have hfr1:=vW (jP e.key ez.key L send.blocks);have hfr2:=vW (bA send.file.length 8);rw[Pure.aI]at hfr2;refine ak (met (nf (H.take dt) (by omega)) ?_);clear H;rintro _ w ⟨v10,rfl,H⟩;refine⟨_,rfl,gx ?_⟩;refine pD (m:=(aA (jP e.key ez.key L send.blocks)).length) (bs:=send.file) (ns:=aA (jP e.key ez.key L send.blocks)) H rfl rfl (by repeat constructor) (vG rfl (by repeat constructor)) (by omega) rfl ?_;clear H;intro v11 w H;refine gx ?_;refine pD (m:=(aA (bA send.file.length 8)).length) (bs:=send.file++aA (jP e.key ez.key L send.blocks)) (ns:=aA (bA send.file.length 8)) H rfl rfl (by repeat constructor) (vG rfl (by repeat constructor)) (by rw[Xu];omega) rfl ?_;clear H;intro v12 w H;obtain⟨a8,c8,rfl,-⟩:=H.aC;refine gx ?_;refine bJ H ?_;clear H;intro w H;subst hz;dsimp only at h;generalize send.file++aA (jP e.key ez.key L send.blocks)++aA (bA send.file.length 8)=file at *;by_cases hm:D.moves.length<=jJ
    .rw[XE hm]at h;rw[bC]at hm;refine gx ?_;have H:=H.to (a:=ah d D::cP (.slice a8 file.length c8) file::blk f 93 [.slice a8 file.length c8]::Ae p 200 [str name,str e.key,str ez.key,.int .i64 (L:Int),ax d,.slice A (cV send.blocks).length C]::nj 3 (.slice A (cV send.blocks).length C) (cV send.blocks)::blk B 193 [ax p]::F);refine ak (met (zd (n:=name) H hm) ?_);clear H;rintro _ w ⟨R,rfl,H⟩;refine⟨_,rfl,?_⟩;cases hc:iu D name with
     | some er=>
      rw[hc]at h H;obtain rfl:=Xt h;obtain⟨t,u,rfl⟩:=(H.take dt).bp;refine gx ?_;exact an rfl ⟨_,_,rfl,Sat.to (Sat.emp H)⟩
     | none=>
      rw[hc]at h H;dsimp only at h;have hve:=(H.take dt).ee;subst hve;refine gx ?_;refine ak (met (zf (n:=name) (bs:=file) (H.p7 .here (.there .here))) ?_);clear H;rintro _ w ⟨R,rfl,H⟩;refine⟨_,rfl,?_⟩;generalize cI D name=D1 at *;cases ha:dT D1 name file with
      | some er=>
       rw[ha]at h H;obtain rfl:=Xt h;obtain⟨t,u,rfl⟩:=(H.take iB).bp;refine gx ?_;exact an rfl ⟨_,_,rfl,Sat.to (Sat.emp H)⟩
      | none=>
       rw[ha]at h H;dsimp only at h;have hve:=(H.take iB).ee;subst hve;generalize bG D1 name file=D2 at *;refine gx ?_;have H:=H.to (a:=blk B 193 [ax p]::ah d D2::Ae p 200 [str name,str e.key,str ez.key,.int .i64 (L:Int),ax d,.slice A (cV send.blocks).length C]::nj 3 (.slice A (cV send.blocks).length C) (cV send.blocks)::F);refine bU [blk B 193 [ax p]] [(0,false),(1,false),(2,false),(3,true),(4,false),(5,false)] H (by kernel_rfl) λw H=>?_;refine gx ?_;refine ak (met (Hw (n:=name) (H.take dt)) ?_);clear H;rintro _ w ⟨R,rfl,H⟩;refine⟨_,rfl,?_⟩;cases hf:aY D2 name with
       | some er=>
        rw[hf]at h H;obtain rfl:=Xt h;refine gx ?_;exact an rfl ⟨_,_,rfl,Sat.to (Sat.emp H)⟩
       | none=>
        rw[hf]at h H;obtain rfl:=Xt h;refine gx ?_;have e1:eG l=e.key:=by cases l with|nil=>cases U|cons a b=>simp at U;rw[<- U];rfl
        have e2:jQ l=ez.key:=by unfold jQ;rw[hez]
        refine an rfl ⟨_,_,rfl,?_⟩;dsimp only[kv];rw[e1,e2];have H:=H.to (a:=Ae p 200 [str name,str e.key,str ez.key,.int .i64 (L:Int),ax d,.slice A (cV send.blocks).length C]::nj 3 (.slice A (cV send.blocks).length C) (cV send.blocks)::ah d (je D2 name)::aW R none::F);have H:=Sat.TT (T:=⟨name,e.key,ez.key,L,send.blocks⟩) hTok H;exact H.to
    .rw[Xx hm]at h;cases h
end
section
variable[Bs0:Base][NQ]
section
variable{ops:Xv Yf}{Q:YL->Act->Xo->Prop}{S:Xo->Prop}{K:Xn Nat}{n:Nat}{ds:Md}{e:Env}{w w':Xo}{b:XN}{t t':OT}
variable{op:Op}{ty:XO}{pos:YG}{af:Xv Edge}{d i j:Nat}{v u:Xp}{W0:Xo}{l l' r r':Xn ae}
def F4{id:Nat}{O:Xn Yf}[A:rZ Q][pr Q](S:Xo->Prop)(K:Xn Nat)(t:OT)(c:Sat W0 l w)
 (H:(vT O.toArray K t O.length (Array.replicate O.length false)&&Region.noSelect O.toArray&&(ds.round.isNone||IU O))=true)
 (m:∀w,Sat W0 l w->S w) (k:∀w,Sat W0 l w->WT O.toArray Q S K n ds true t e w) (f:∀w w1,S w->Ry w w1->S w1:=by first|exact λ_ _ h g=>Sat.ry h g|exact λ_ _ h g=>Ry.cell g h):WC (.region id O.toArray true) Q n ds e w:=by
 unfold WC;intro a p;simp only[Yp]at H;obtain⟨⟨q,s⟩,B⟩:=H;refine yt λT=>?_;simp only[Region.schedule,mixed,abm,YB];refine qK O.toArray.size T _ _ _ (Dh (S:=S) (K:=K) _ (true=true) _ _ _ ?_);have E:O.toArray.size=O.length:=by simp
 rw[E];exact Ov f s t O.length _ _ a _ (λj o x y=>by
  exfalso;have z:j<O.length:=by have:=(Xz.1 x).1;simpa using this
  simp[z]at y) q (λ_=>m _ c) (by have:=k _ c;unfold WT at this;exact this a p λ_=>m _ c)
theorem Vy(k:WT ops Q S K n ds b t e w):WT ops Q S K n ds b t e w:=k
def O0{x:XZ}{T bb o:Nat}(h:ops[i]?=some ⟨some d,.load T x,ty,pos,af,none⟩)(H:ev e x=some (.pointer (some ⟨bb,o,none⟩)))(c:lk kV T=some false)
 (f:∀w,S w->w.cell? ⟨bb,o,none⟩=some v) (g:Nat.blt d n=true) (k:WT ops Q S K n ds true t ((d,v)::e) w) (hv:v≠hole:=by exact cE rfl):WT ops Q S K n ds true (.s i t) e w:=
 OA h (λa w' m p=>um m H c (f _ p) hv) g k
def O1{x:Int}(h:ops[i]?=some ⟨some d,op,ty,pos,af,none⟩)(hv:yv e op=some (.int .u64 (IntKind.u64.wrap x)))(h1:0<=x)(H:x<=18446744073709551615)(a:Nat.blt d n=true)
 (k:WT ops Q S K n ds b t ((d,.int .u64 x)::e) w):WT ops Q S K n ds b (.q i t) e w:=dH h (by rw[hv,ZM _ ⟨h1,H⟩]) a k
end
theorem uz{G g:Prop}(k:g)(h:CS g->G:=by
 (intro k
  repeat (refine Vy ?_
          first
   | refine dH (op:=.fieldAddr _ _ _) rfl rfl rfl ?_
   | refine dH (op:=.nilCheck _) rfl rfl rfl ?_
   | refine dH (op:=.move _) rfl rfl rfl ?_
   | refine dH (op:=.assign _) rfl rfl rfl ?_
   | refine dH (op:=.extract _ _) rfl rfl rfl ?_
   | refine zo rfl rfl rfl (by repeat constructor) (by rfl) rfl ?_
   | refine ju rfl ?_
   | refine ju rfl ?_ (λ_ _ h H=>Ry.cell H h)
   | refine gL ?_
   | refine q9 rfl rfl (by omega) (by omega) rfl ?_
   | refine O1 rfl rfl (by omega) (by omega) rfl ?_
   | refine Ow rfl rfl (by first|assumption|omega) rfl ?_
   | refine Ox rfl rfl (by first|assumption|omega) rfl ?_
   | refine dH rfl rfl rfl ?_
   | refine Oy rfl rfl rfl (by omega) (by omega) rfl ?_
   | refine qb rfl rfl rfl rfl ?_
   | refine Oz rfl rfl rfl rfl ?_
   | refine HB rfl rfl rfl rfl ?_
   | refine re rfl rfl rfl rfl (by repeat constructor) (by rfl) rfl ?_)
  exact k.out)):G:=h ⟨k⟩
end
section
variable[Bs0:Base][NQ]
open Pure (ad ay Rd bF less aO aU bA aX aA dz dec my)
attribute [local irreducible] IntKind.wrap
variable{W0 w:Xo}{F:Xn ae}{v:Xp}{d m p:Nat}{T:dB}{D D':ad}{M:Xn ay}
theorem B6(a b:Xn ay):aV (a++b)=aV a++aV b:=by simp[aV]
theorem Sat.Jx{t:Xp}(h:Sat W0 (TS d t (.ok T)::F) w):∃p,t=ax p/\Sat W0 (du d p T::F) w:=by
 obtain⟨p,H,a⟩:=h.gD (φ:=λp:Nat=>t=ax p) (B:=λp=>[du d p T]) λH ⟨p,b,k⟩=>⟨p,b,H,λ_=>none,λ_ _ _ _ c=>(by cases c),Hp.le_refl _,λ_ _ e=>(by cases e),k,Xr⟩;exact⟨p,H,a⟩
theorem zI(l:Xn ay)(n:Nat):aV (l.drop n)=(aV l).drop n:=by simp[aV]
theorem Jy(l:Xn ay):∀(f n:Nat),n<=l.length->qe l f n<=l.length/\n<=qe l f n
 | 0,n,h=>⟨h,XD _⟩
 | f+1,n,h=>by
  unfold qe;split
  .have:=Jy l f (n+1) (by omega);omega
  .exact⟨h,XD _⟩
def Sat.O2{t:Xn dB}{T:dB}{ps:Xn Nat}{p:Nat}(h1:ps.length=t.length)(h:Sat W0 (aE 1 v 193 (ps.length+1) (ps.map ax++[ax p])::star (List.zipWith (du d) ps t)::du d p T::F) w):Sat W0 (eW d v (t++[T])::F) w:=by
 refine Sat.lJ (ps:=ps++[p]) (by simp[h1]) ?_;rw[Zh (by exact h1),Xu,XK];have H:Sat W0 (du d p T::star (List.zipWith (du d) ps t++[])::aE 1 v 193 (ps.length+1) (ps.map ax++[ax p])::F) w:=by
  rw[Yj];exact h.to
 have a:=H.jG;exact a.to
def zJ{b:Nat}{K:SK}{z:SZ}{s:St}{l:Xn ay}{x:YH eX (Xn dB×Nat)}(h:mL jJ s.number D l []=some (x,D'))(hW:ou W0)
 (H:Sat W0 (blk b 133 (aj K z s)::nj 4 v (aV l)::ah K.d D::F) w) :
 Calls prog 170 #[ax b,v] w λy w'=>∃(B J:Xp) (num:Nat),y=.returned (.tuple #[B,J])/\(∀r,x=.ok r->num=r.2) /\
  Sat W0 (blk b 133 (aj K z { s with number:=num })::ah K.d D'::aW J (kv x)::Uz (λr=>eW K.d B r.1) x::F) w':=by
 refine enter func170 rfl ntmps170 results170 rfl ?_;refine gx ?_;refine aL (α:=Nat×Nat×ad×Xn ay×Xn dB×Xp×Xp) (λk=>[(0,ax b),(1,k.2.2.2.2.2.1),(6,k.2.2.2.2.2.2)])
  (λk w=>mL k.1 k.2.1 k.2.2.1 k.2.2.2.1 k.2.2.2.2.1=some (x,D')/\Sat W0 (blk b 133 (aj K z { s with number:=k.2.1 })::nj 4 k.2.2.2.2.2.1 (aV k.2.2.2.1)::eW K.d k.2.2.2.2.2.2 k.2.2.2.2.1::ah K.d k.2.2.1::F) w) (λk=>k.1) (jJ,s.number,D,l,[],v,.slice none 0 0) ⟨rfl,rfl,rfl,Xr⟩ ⟨h,Sat.to (Sat.B0 (d:=K.d) H)⟩ ?_
 clear H h;rintro⟨f,num,D,l,acc,lv,B⟩ w ⟨h,H⟩;dsimp only at h H |-;obtain⟨a,c,hlv,hc⟩:=(H.take dt).kQ;have hlen:(aV l).length=l.length:=by simp[aV]
 rw[hlen]at hlv hc;subst hlv;cases l with
 | nil=>
  unfold mL at h;simp only[Xs,XI]at h;obtain⟨rfl,rfl⟩:=h;have h0:¬((([]:Xn ay).length:Nat):Int) > 0:=by simp
  refine gx ?_;refine an rfl ⟨_,_,num,rfl,λr C=>by cases C;rfl,?_⟩;exact Sat.to (Sat.iy H)
 | cons G l0=>
  generalize L:G::l0=l at *;have hpos:0<l.length:=by rw[<- L];simp
  cases f with
  | zero=>subst L;cases h
  | succ f=>
   have A:(if num<=4611686018427387904/\l.length<=jJ/\acc.length<=jJ then match qo D (dv (num+1)) (l.take (nW l))with
    | none=>none
    | some (.error x,D')=>some (.error x,D')
    | some (.ok T,D')=>mL f (num+1) D' (l.drop (nW l)) (acc++[T])else none)=some (x,D'):=by subst L;exact h
   clear h L;by_cases hnum:num<=4611686018427387904/\l.length<=jJ/\acc.length<=jJ
   case neg=>rw[Xx hnum]at A;cases A
   rw[XE hnum]at A;rw[bC]at hnum;obtain⟨hnum,hlb,hab⟩:=hnum;have hp:(l.length:Int) > 0:=by omega
   have hcl:=Jy l l.length (min l.length 95) (Nat.min_le_left _ _);obtain⟨Z,⟨hv,hzc,hseg⟩,H⟩:=(H.take dt).qY (by intro hn;simp[aV]at hn;rw[hn]at hpos;simp at hpos);rw[hlen]at hv hzc;obtain⟨rfl,_,rfl⟩:=Yk hv;have hrow:∀i y,l[i]?=some y->iZ Z.all (Z.o+i*4) (aD y):=λi y hi=>hseg.row (i:=i) (x:=aD y) (jY _) (by simp[aV,hi]);have hmin:(min (l.length:Int) 95)=((min l.length 95:Nat):Int):=by omega
   refine gx ?_;refine aL (α:=Nat×Nat) (λk=>[(0,ax b),(1,.slice (some ⟨Z.b,Z.o,none⟩) l.length Z.c),(6,B),(7,.int .i64 (k.2:Int))])
    (λk w=>(qe l k.1 k.2=nW l/\k.2<=l.length/\1<=k.2/\l.length<=k.1+k.2)/\Sat W0 (ob true Z.b (.cells Z.all.toArray Z.E (0,0))::nj 4 (.slice (some ⟨Z.b,Z.o,none⟩) l.length Z.c) (aV l)::blk b 133 (aj K z { s with number:=num })::eW K.d B acc::ah K.d D::F) w) (λk=>k.1) (l.length,min l.length 95) ⟨rfl,rfl,rfl,by show some (Value.int .i64 (min (l.length:Int) 95))=_;rw[hmin],Xr⟩ ⟨⟨rfl,by dsimp only;omega,by dsimp only;omega,by dsimp only;omega⟩,H⟩ ?_
   clear H;rintro⟨g,n⟩ w ⟨⟨hcut,O,Q,S⟩,H⟩;dsimp only at hcut O Q S H |-;refine gx ?_;refine eM [ob true Z.b (.cells Z.all.toArray Z.E (0,0))] [9,15] (.q 0 (.q 1 (.q 2 (.q 3 (.q 4 (.q 5 (.q 6 (.q 7 (.q 8 (.s 9 (.q 10 (.q 11 (.q 12 (.q 13 (.q 14 (.s 15 (.q 16 (.q 17 .nil)))))))))))))))))) H (by kernel_rfl) ?_;clear H;intro w H;by_cases hlt:n<l.length
   .have U:l[n]?=some l[n]:=Xq hlt;have W:l[n-1]?=some (l[n-1]'(by omega)):=Xq (by omega);have d1:l.getD n default=l[n]:=by simp[List.getD,U]
    have d2:l.getD (n-1) default=l[n-1]'(by omega):=by simp[List.getD,W]
    generalize l[n]=X at U d1;generalize l[n-1]'(by omega)=Y at W d2;have R:=(hrow _ _ U).1;have r2:=(hrow _ _ W).1;obtain⟨g,rfl⟩:∃g',g=g'+1:=⟨g-1,by omega⟩;unfold qe at hcut;rw[d1,d2]at hcut;refine uz ?_;refine vU (j:=n) rfl rfl rfl rfl rfl rfl rfl hlt rfl ?_;refine uz ?_;refine re rfl rfl rfl rfl .here R rfl ?_;refine uz ?_;refine vU (j:=n-1) rfl rfl rfl rfl (by omega) rfl rfl (by omega) rfl ?_;refine uz ?_;refine re rfl rfl rfl rfl .here r2 rfl ?_;by_cases N:X.key=Y.key
    .rw[XE ⟨hlt,N⟩]at hcut;refine qb (v:=.bool true) rfl rfl (by show some (Value.bool (decide (X.key=Y.key)))=some (.bool true);rw[aar N]) rfl ?_;refine uz ?_;refine gx ?_;exact az (g,n+1) ⟨rfl,rfl,rfl,rfl,Xr⟩ ⟨⟨hcut,by dsimp only;omega,by dsimp only;omega,by dsimp only;omega⟩,H⟩ (by show g<g+1;omega)
    .rw[Xx λh=>N h.2]at hcut;refine qb (v:=.bool false) rfl rfl (by show some (Value.bool (decide (X.key=Y.key)))=some (.bool false);rw[Zj N]) rfl ?_;refine uz ?_;refine gx ?_;refine F4 (λw=>w.cell? ⟨b,2,none⟩=some (ax K.d)) [3] (.q 0 (.q 1 (.q 2 (.s 3 (.q 4 (.q 6 (.q 7 (.q 8 (.l 5 (.l 9 (.q 10 (.q 11 (.q 12 (.q 13 (.q 14 .nil))))))))))))))) H (by kernel_rfl) (λw H=>(H.cell iB 2).trans rfl) ?_;clear H;intro w H;refine uz ?_;refine O0 rfl rfl rfl (λ_ h=>h) rfl ?_;refine uz ?_;refine OB 0 n rfl rfl rfl rfl rfl rfl (XR _) (by omega) rfl ?_;have G:cutAt Z.b Z.o Z.c 0 4=⟨Z.b,Z.o,none⟩:=by unfold cutAt;split<;>simp
     rw[G,Zx,Zx];refine uz ?_;refine ak (met (ta (kind:=[116,97,98,108,101]) (H.take iB) (by decide) hnum hW) ?_);clear H;rintro _ w ⟨rfl,H⟩;refine⟨_,rfl,?_⟩;refine jv ?_;refine gH ((H.cell .here 2).trans rfl) ?_;refine uz ?_;have htn:(aV (l.take n)).length=n:=by simp[aV];omega
     have e:=Sat.head (A':=nj 4 (.slice (some ⟨Z.b,Z.o,none⟩) (aV (l.take n)).length Z.c) (aV (l.take n))) ((H.take dt).dup) λhh q=>Df (z:=Z) (jY _) (by rw[htn];omega) (by
      have e3:(aV l).flatten=(aV (l.take n)).flatten++(aV (l.drop n)).flatten:=by rw[<- YN,<- B6,X9]
      rw[e3]at hseg;exact hseg.sub.1) q
     clear H;rw[htn]at e;rw[hcut]at e;cases hwt:qo D (dv (num+1)) (l.take (nW l))with
     | none=>rw[hwt]at A;cases A
     | some r=>
      rw[hwt]at A;rw[hcut];refine ak (met (zH (l:=l.take (nW l)) (name:=dv (num+1)) (r:=r) (e.p7 .here (.there (.there (.there (.there .here))))) hwt) ?_);clear e;rintro _ w ⟨tvv,J,rfl,H⟩;refine⟨_,rfl,?_⟩;refine jv ?_;refine gH ((H.cell yw 2).trans rfl) ?_;obtain⟨R,I⟩:=r;cases R with
      | error er=>
       simp only[Xs,XI]at A;obtain⟨rfl,rfl⟩:=A;obtain⟨t,u,rfl⟩:=(H.take dt).bp;refine uz ?_;refine gx ?_;refine an rfl ⟨_,_,num+1,rfl,λr C=>(by cases C),?_⟩;exact Sat.to (Sat.emp H)
      | ok T=>
       dsimp only at A;have hve:=(H.take dt).ee;subst hve;obtain⟨p,hpv,e⟩:=(H.take iB).Jx;clear H;subst hpv;have H:=e;clear e;refine uz ?_;refine gx ?_;obtain⟨P,hps,H⟩:=(H.take L9).lD;refine eS H ?_;clear H;intro w b2 H;refine dZ H ?_;clear H;intro V w H;have H:=Sat.O2 (T:=T) (p:=p) hps (H.to (a:=aE 1 V 193 (P.length+1) (P.map ax++[ax p])::star (List.zipWith (du K.d) P acc)::du K.d p T::nj 4 (.slice (some ⟨Z.b,Z.o,none⟩) l.length Z.c) (aV l)::ah K.d I::blk b 133 (aj K z { s with number:=num+1 })::F));refine gx ?_;refine Hy (m:=nW l) (H.take dt) rfl rfl rfl rfl rfl (by omega) rfl ?_;clear H;intro v5 H;refine gx ?_;refine az (f,num+1,I,l.drop (nW l),acc++[T],v5,V) ⟨rfl,rfl,rfl,Xr⟩ ⟨A,?_⟩ (by show f<f+1;omega);dsimp only;rw[zI];exact H.to
   .have hcut:n=nW l:=by
     rw[<- hcut];cases g with
     | zero=>rfl
     | succ g=>unfold qe;rw[Xx λh=>hlt h.1]
    refine uz ?_;refine gx ?_;refine F4 (λw=>w.cell? ⟨b,2,none⟩=some (ax K.d)) [3] (.q 0 (.q 1 (.q 2 (.s 3 (.q 4 (.q 6 (.q 7 (.q 8 (.l 5 (.l 9 (.q 10 (.q 11 (.q 12 (.q 13 (.q 14 .nil))))))))))))))) H (by kernel_rfl) (λw H=>(H.cell iB 2).trans rfl) ?_;clear H;intro w H;refine uz ?_;refine O0 rfl rfl rfl (λ_ h=>h) rfl ?_;refine uz ?_;refine OB 0 n rfl rfl rfl rfl rfl rfl (XR _) (by omega) rfl ?_;have G:cutAt Z.b Z.o Z.c 0 4=⟨Z.b,Z.o,none⟩:=by unfold cutAt;split<;>simp
    rw[G,Zx,Zx];refine uz ?_;refine ak (met (ta (kind:=[116,97,98,108,101]) (H.take iB) (by decide) hnum hW) ?_);clear H;rintro _ w ⟨rfl,H⟩;refine⟨_,rfl,?_⟩;refine jv ?_;refine gH ((H.cell .here 2).trans rfl) ?_;refine uz ?_;have htn:(aV (l.take n)).length=n:=by simp[aV];omega
    have e:=Sat.head (A':=nj 4 (.slice (some ⟨Z.b,Z.o,none⟩) (aV (l.take n)).length Z.c) (aV (l.take n))) ((H.take dt).dup) λhh q=>Df (z:=Z) (jY _) (by rw[htn];omega) (by
     have e3:(aV l).flatten=(aV (l.take n)).flatten++(aV (l.drop n)).flatten:=by rw[<- YN,<- B6,X9]
     rw[e3]at hseg;exact hseg.sub.1) q
    clear H;rw[htn]at e;rw[hcut]at e;cases hwt:qo D (dv (num+1)) (l.take (nW l))with
    | none=>rw[hwt]at A;cases A
    | some r=>
     rw[hwt]at A;rw[hcut];refine ak (met (zH (l:=l.take (nW l)) (name:=dv (num+1)) (r:=r) (e.p7 .here (.there (.there (.there (.there .here))))) hwt) ?_);clear e;rintro _ w ⟨tvv,J,rfl,H⟩;refine⟨_,rfl,?_⟩;refine jv ?_;refine gH ((H.cell yw 2).trans rfl) ?_;obtain⟨R,I⟩:=r;cases R with
     | error er=>
      simp only[Xs,XI]at A;obtain⟨rfl,rfl⟩:=A;obtain⟨t,u,rfl⟩:=(H.take dt).bp;refine uz ?_;refine gx ?_;refine an rfl ⟨_,_,num+1,rfl,λr C=>(by cases C),?_⟩;exact Sat.to (Sat.emp H)
     | ok T=>
      dsimp only at A;have hve:=(H.take dt).ee;subst hve;obtain⟨p,hpv,e⟩:=(H.take iB).Jx;clear H;subst hpv;have H:=e;clear e;refine uz ?_;refine gx ?_;obtain⟨P,hps,H⟩:=(H.take L9).lD;refine eS H ?_;clear H;intro w b2 H;refine dZ H ?_;clear H;intro V w H;have H:=Sat.O2 (T:=T) (p:=p) hps (H.to (a:=aE 1 V 193 (P.length+1) (P.map ax++[ax p])::star (List.zipWith (du K.d) P acc)::du K.d p T::nj 4 (.slice (some ⟨Z.b,Z.o,none⟩) l.length Z.c) (aV l)::ah K.d I::blk b 133 (aj K z { s with number:=num+1 })::F));refine gx ?_;refine Hy (m:=nW l) (H.take dt) rfl rfl rfl rfl rfl (by omega) rfl ?_;clear H;intro v5 H;refine gx ?_;refine az (f,num+1,I,l.drop (nW l),acc++[T],v5,V) ⟨rfl,rfl,rfl,Xr⟩ ⟨A,?_⟩ (by show f<f+1;omega);dsimp only;rw[zI];exact H.to
