/-
  Part 24: WALKS package levels; WALKS package levels.
-/
import Derived.Test.YtecibefflhomdaaGreatDoorY23
set_option maxHeartbeats 8000000
set_option maxRecDepth 100000
set_option linter.all false
namespace Go.Proofs.YtecibefflhomdaaGreatDoor
open Go
section
open Go.Proofs.YtecibefflhomdaaGreatDoor.Pure (ad az Rd bI less aQ aZ bM bE aD cY dec j3)
attribute [local irreducible] IntKind.wrap
variable {W0 w:World} {F:List ah} {v:Value} {d m p:Nat} {T:cD} {D D':ad} {M:List az}
def ni (b:Nat) (K:SK) (s:St):ah:=fun h=>s.levels.length=4∧∃ z,cV [blk b 133 (aj K z s),dQ K.d z s.levels,aR z.m s.mem,aO bB z.sn (aC s.snaps)] h
theorem Sat.gQ {b:Nat} {K:SK} {s:St} (h:Sat W0 (ni b K s::F) w):s.levels.length=4∧∃ z,Sat W0 (blk b 133 (aj K z s)::dQ K.d z s.levels::aR z.m s.mem::aO bB z.sn (aC s.snaps)::F) w:=by
 have h1:=h.fQ (φ:=s.levels.length=4) fun _ k=>k.1
 obtain ⟨z,_,hs⟩:=h.eI (φ:=fun _:SZ=>True) (B:=fun z=>[blk b 133 (aj K z s),dQ K.d z s.levels,aR z.m s.mem,aO bB z.sn (aC s.snaps)]) fun hp ⟨_,z,k⟩=>⟨z,trivial,k⟩
 exact ⟨h1,z,hs⟩
theorem Sat.bP {b:Nat} {K:SK} {s:St} {z:SZ} (hl:s.levels.length=4) (h:Sat W0 (blk b 133 (aj K z s)::dQ K.d z s.levels::aR z.m s.mem::aO bB z.sn (aC s.snaps)::F) w):Sat W0 (ni b K s::F) w:=
 Sat.close (B:=[blk b 133 (aj K z s),dQ K.d z s.levels,aR z.m s.mem,aO bB z.sn (aC s.snaps)]) h fun hp k=>⟨hl,z,k⟩
def Bv (b:Nat) (K:SK):Except cy St→ah
 | .ok s=>ni b K s
 | .error _=>fun h=>∃ s,ni b K s h
theorem Sat.jW {b:Nat} {K:SK} {s:St} {e:cy} (h:Sat W0 (ni b K s::F) w):Sat W0 (Bv b K (.error e)::F) w:=h.head fun _ k=>⟨s,k⟩
def rA (a:Nat):Nat→List (List cD)→List (List cD)
 | 0,l=>l
 | n+1,l=>(rA a n l).set (a+n) []
@[simp] theorem sA (a:Nat):∀ (n:Nat) (l:List (List cD)),(rA a n l).length=l.length
 | 0,_=>rfl
 | n+1,l=>by simp [rA,sA a n l]
theorem Ix {a c:Nat} {l:List (List cD)} (hl:l.length=4) (hac:a<c) (hc:c≤3) (ts:List cD):(rA a (c-a) l).set c ts=l.take a++List.replicate (c-a) []++ts::l.drop (c+1):=by
 obtain ⟨t0,t1,t2,t3,rfl⟩:=four hl
 match a,c,hac,hc with
 | 0,1,_,_=>rfl
 | 0,2,_,_=>rfl
 | 0,3,_,_=>rfl
 | 1,2,_,_=>rfl
 | 1,3,_,_=>rfl
 | 2,3,_,_=>rfl
 | _+3,_,h1,h2=>exact absurd h1 (by omega)
def sB (s:St) (c i:Nat):List cD:=((s.levels.take (c+1)).drop i).flatten
def oT (s:St) (c i:Nat):Bool:=(s.levels.drop (max i (c+1))).all List.isEmpty
theorem uL {s:St} {c i:Nat} {Ts:List cD} (hi:i≤c) (hg:s.levels[i]?=some Ts):sB s c i=Ts++sB s c (i+1):=by
 have h1:(s.levels.take (c+1))[i]?=some Ts:=by rw [List.getElem?_take,if_pos (by omega)];exact hg
 have hlt:=(List.getElem?_eq_some_iff.1 h1).1
 unfold sB
 rw [List.drop_eq_getElem_cons hlt,(List.getElem?_eq_some_iff.1 h1).2]
 rfl
theorem wX {s:St} {c i:Nat} (hi:c<i):sB s c i=[]:=by
 unfold sB
 rw [List.drop_of_length_le (by rw [List.length_take];omega)];rfl
theorem FO {s:St} {c i:Nat} (hi:i≤c):oT s c i=oT s c (i+1):=by
 unfold oT
 rw [show max i (c+1)=max (i+1) (c+1) by omega]
theorem Cw {s:St} {c i:Nat} {Ts:List cD} (hi:c<i) (hg:s.levels[i]?=some Ts):oT s c i=(Ts.isEmpty&&oT s c (i+1)):=by
 have hlt:=(List.getElem?_eq_some_iff.1 hg).1
 unfold oT
 rw [show max i (c+1)=i by omega,show max (i+1) (c+1)=i+1 by omega,List.drop_eq_getElem_cons hlt,(List.getElem?_eq_some_iff.1 hg).2]
 rfl
theorem Sat.Ak {l:List az} (h:Sat W0 (jc v l::F) w):Sat W0 (jm 4 v (bu l)::F) w:=Sat.jK (gE l) (E:=256) (by rw [jb];exact h)
theorem Sat.NG {Ts:List cD} (h:Sat W0 (eT d v Ts::F) w):dD v=true:=by
 obtain ⟨ps,hps,hs⟩:=h.ix
 obtain ⟨a,c,rfl,-⟩:=hs.ay
 rfl
theorem lu {b:Nat} {K:SK} {s:St} {x:Except cy St} {a c:Nat} (h:kP s D a c=some (x,D')) (hac:a<c) (hc:c≤3) (hW:jB W0)
 (hs:Sat W0 (ni b K s::ag K.d D::F) w) :
 Calls Tryz.prog 180 #[au b,.int .i64 (a:Int),.int .i64 (c:Int)] w fun y w'=>∃ ve,y=.returned ve∧Sat W0 (Bv b K x::ag K.d D'::ax ve (dk x)::F) w':=by
 unfold kP at h
 by_cases hmid:(jq s a c).length≤gW∧s.mem.length≤gW
 case neg=>rw [if_neg hmid] at h;cases h
 rw [if_pos hmid] at h
 rw [bJ] at hmid
 obtain ⟨hmid,hmx⟩:=hmid
 obtain ⟨hl,z,hs⟩:=hs.gQ
 refine enter Tryz.func180 rfl Tryz.ntmps180 Tryz.results180 rfl ?_
 refine gx ?_
 refine aL (α:=Nat×List cD×Bool×Value×Value) (fun q=>[(0,au b),(1,.int .i64 (a:Int)),(2,.int .i64 (c:Int)),(7,q.2.2.2.1),(8,q.2.2.2.2),(9,.bool q.2.2.1),(10,.int .i64 (q.1:Int))])
  (fun q w=>(a≤q.1∧q.1≤4∧q.2.1++sB s c q.1=jq s a c∧(q.2.2.1&&oT s c q.1)=mN s c) ∧
    Sat W0 (blk b 133 (aj K z s)::dQ K.d z s.levels::aR z.m s.mem::aO bB z.sn (aC s.snaps)::ag K.d D::yq K.d z.m q.2.2.2.1 (q.2.1.map fun T=>eF T [])::aE 1 q.2.2.2.2 9 q.2.1.length (q.2.1.map fun T=>str T.name)::F) w) (fun q=>4-q.1) (a,[],true,.slice none 0 0,.slice none 0 0) ⟨rfl,rfl,rfl,rfl,rfl,rfl,rfl,trivial⟩ ⟨⟨Nat.le_refl _,by dsimp only;omega,rfl,by simp only [Bool.true_and];unfold oT mN;rw [show max a (c+1)=c+1 by omega]⟩,?_⟩ ?_
 ·exact Sat.to (Sat.Lr (d:=K.d) (m:=z.m) (hs.cP (k:=1) (E:=9)))
 clear hs
 rintro ⟨i,al,bt,va,vo⟩ w ⟨⟨hai,hi4,hal,hbt⟩,hs⟩
 dsimp only at hai hi4 hal hbt hs ⊢
 have hall:al.length≤1099511627776:=by
  have:=congrArg List.length hal
  rw [List.length_append] at this;omega
 by_cases hlt:i<4
 ·have hgl:s.levels[i]?=some (s.levels[i]'(by omega)):=List.getElem?_eq_getElem (by omega)
  generalize s.levels[i]'(by omega)=Ts at hgl
  obtain ⟨lv,hlv,hs⟩:=(hs.take (.there .here)).nP hgl hlt
  obtain ⟨ps,hps,hs⟩:=hs.ix
  obtain ⟨aa,cl,rfl,-⟩:=hs.ay
  have hcell:=yu (K:=K) (s:=s) hlt hlv
  refine gx ?_
  refine tF (p:=(4,129)) rfl rfl rfl rfl (by omega) (by show (i:Int)<4;omega) rfl ?_
  refine eC hs rfl rfl (by repeat (first|exact Take.here|apply Take.there)) hcell rfl ?_
  refine gx ?_
  refine aL (α:=Nat×List cD×Bool×Value×Value) (fun q=>[(0,au b),(1,.int .i64 (a:Int)),(2,.int .i64 (c:Int)),(7,q.2.2.2.1),(8,q.2.2.2.2),(9,.bool q.2.2.1),(10,.int .i64 (i:Int)),(31,.slice aa ps.length cl),(32,.int .i64 (ps.length:Int)),(33,.int .i64 (q.1:Int))])
   (fun q w=>(q.1≤ps.length∧(if i≤c then q.2.1=al++Ts.take q.1∧q.2.2.1=bt else q.2.1=al∧q.2.2.1=(if q.1=0 then bt else false))) ∧
     Sat W0 (aE 1 (.slice aa ps.length cl) 193 ps.length (ps.map au)::star (List.zipWith (cG K.d) ps Ts)::Cs K.d z s.levels i::blk b 133 (aj K z s)::aR z.m s.mem::aO bB z.sn (aC s.snaps)::ag K.d D::yq K.d z.m q.2.2.2.1 (q.2.1.map fun T=>eF T [])::aE 1 q.2.2.2.2 9 q.2.1.length (q.2.1.map fun T=>str T.name)::F) w) (fun q=>ps.length-q.1) (0,al,bt,va,vo) ⟨rfl,rfl,rfl,rfl,rfl,rfl,rfl,rfl,rfl,rfl,trivial⟩ ⟨⟨Nat.zero_le _,by split<;>simp⟩,hs⟩ ?_
  clear hs
  rintro ⟨j,al2,bt2,va,vo⟩ w ⟨⟨hj,hst⟩,hs⟩
  dsimp only at hj hst hs ⊢
  by_cases hlj:j<ps.length
  ·have gp:ps[j]?=some ps[j]:=List.getElem?_eq_getElem hlj
   have gT:Ts[j]?=some (Ts[j]'(by omega)):=List.getElem?_eq_getElem (by omega)
   have htj:Ts.take (j+1)=Ts.take j++[Ts[j]'(by omega)]:=by rw [List.take_add_one,gT];rfl
   have hzj:=dm (cG K.d) gp gT
   generalize Ts[j]'(by omega)=T at gT htj hzj
   generalize ps[j]=p at gp hzj
   have hspj:=dG hzj
   obtain ⟨bq,cap,rs,hv,q1,q2,q3,hs2⟩:=hs.dV (by omega)
   obtain ⟨rfl,_,rfl⟩:=Value.slice.inj hv
   simp only [maxLen] at q2
   have hcell2:(ps.map au++rs)[0+j*1]?=some (au p):=by
    rw [Nat.zero_add,Nat.mul_one,List.getElem?_append_left (by simpa using hlj),List.getElem?_map,gp];rfl
   refine gx ?_
   refine cL (i:=j) rfl rfl rfl rfl rfl hlj rfl ?_
   refine eC hs2 rfl rfl .here hcell2 rfl ?_
   clear hs2
   by_cases hic:i≤c
   ·rw [if_pos hic] at hst
    obtain ⟨hal2,hbt2⟩:=hst
    subst hal2
    have hnic:¬ ((i:Int) > (c:Int)):=by omega
    have hlen2:(al++Ts.take j).length≤1099511627776:=by
     have h1:=congrArg List.length hal
     rw [uL hic hgl] at h1
     simp only [List.length_append,List.length_take] at h1 ⊢
     omega
    have hs:=hs.take (.there .here)
    rw [hspj] at hs
    have hs:=hs.eS
    refine gx ?_
    refine ae (met (qv (key:=[]) hs) ?_)
    clear hs
    rintro _ w ⟨vf,rfl,hs⟩
    refine ⟨_,rfl,?_⟩
    obtain ⟨ff,qq,rfl⟩:=Sat.qx (d:=K.d) (m:=z.m) (it:=eF T []) hs
    refine gx ?_
    refine fw hs ?_
    clear hs
    intro w b9 hs
    obtain ⟨vs,hvs,hs⟩:=(hs.take (.there (.there (.there (.there (.there (.there (.there (.there (.there (.there .here))))))))))).uA
    have hvl:vs.length=(al++Ts.take j).length:=by rw [hvs,List.length_map]
    refine dF hs ?_
    clear hs
    intro va2 w hs
    have hs:=Sat.Cv (it:=eF T []) hvs (hs.to (a:=aE 1 va2 288 (vs.length+1) (vs++[.func (.func ff) #[] qq])::star (List.zipWith (lL K.d z.m) vs ((al++Ts.take j).map fun T=>eF T []))::lL K.d z.m (.func (.func ff) #[] qq) (eF T [])::cG K.d p T::star ((List.zipWith (cG K.d) ps Ts).take j++(List.zipWith (cG K.d) ps Ts).drop (j+1))::aE 1 (.slice (some ⟨bq,0,none⟩) ps.length cl) 193 ps.length (ps.map au)::Cs K.d z s.levels i::blk b 133 (aj K z s)::aR z.m s.mem::aO bB z.sn (aC s.snaps)::ag K.d D::aE 1 vo 9 (al++Ts.take j).length ((al++Ts.take j).map fun T=>str T.name)::F))
    obtain ⟨bv,hs⟩:=(hs.take (.there .here)).lr
    refine gx ?_
    refine fw hs ?_
    clear hs
    intro w b10 hs
    refine dF hs ?_
    clear hs
    intro vo2 w hs
    refine gx ?_
    refine aB (j+1,al++Ts.take (j+1),bt2,va2,vo2) ⟨rfl,rfl,rfl,rfl,rfl,rfl,rfl,rfl,rfl,rfl,trivial⟩ ⟨⟨hlj,by rw [if_pos hic];exact ⟨rfl,hbt2⟩⟩,?_⟩ (by show _-(j+1)<_-j;omega)
    have e1:al++Ts.take (j+1)=(al++Ts.take j)++[T]:=by rw [htj,List.append_assoc]
    dsimp only
    rw [e1,List.map_append (l₂:=[T]),List.map_append (l₂:=[T]),List.length_append (bs:=[T])]
    have hs:=(hs.to (a:=cG K.d p T::star ((List.zipWith (cG K.d) ps Ts).take j++(List.zipWith (cG K.d) ps Ts).drop (j+1))::aE 1 vo2 9 ((al++Ts.take j).length+1) ((al++Ts.take j).map (fun T=>str T.name)++[str T.name])::yq K.d z.m va2 ((al++Ts.take j).map (fun T=>eF T [])++[eF T []])::aE 1 (.slice (some ⟨bq,0,none⟩) ps.length cl) 193 ps.length (ps.map au)::Cs K.d z s.levels i::blk b 133 (aj K z s)::aR z.m s.mem::aO bB z.sn (aC s.snaps)::ag K.d D::F)).eK
    rw [← hspj] at hs
    exact hs.to
   ·rw [if_neg hic] at hst
    obtain ⟨hal2,-⟩:=hst
    have hic2:((i:Int) > (c:Int)):=by omega
    refine gx ?_
    refine aB (j+1,al2,false,va,vo) ⟨rfl,rfl,rfl,rfl,rfl,rfl,rfl,rfl,rfl,rfl,trivial⟩ ⟨⟨hlj,by rw [if_neg hic];exact ⟨hal2,by simp⟩⟩,hs⟩ (by show _-(j+1)<_-j;omega)
  ·have hje:j=ps.length:=by omega
   subst hje
   rw [hps,List.take_length] at hst
   have hs:=(Sat.jj hps hs).Ct hgl hlv
   refine gx ?_
   refine aB (i+1,al2,bt2,va,vo) ⟨rfl,rfl,rfl,rfl,rfl,rfl,rfl,trivial⟩ ⟨⟨by show a≤i+1;omega,by show i+1≤4;omega,?_,?_⟩,hs.to⟩ (by show 4-(i+1)<4-i;omega)
   ·dsimp only
    by_cases hic:i≤c
    ·rw [if_pos hic] at hst
     rw [hst.1,List.append_assoc,← uL hic hgl];exact hal
    ·rw [if_neg hic] at hst
     rw [hst.1,wX (by omega)]
     rw [wX (by omega)] at hal
     exact hal
   ·dsimp only
    by_cases hic:i≤c
    ·rw [if_pos hic] at hst
     rw [hst.2,← FO hic];exact hbt
    ·rw [if_neg hic] at hst
     rw [Cw (by omega) hgl] at hbt
     rw [hst.2,← hbt]
     cases Ts with
     | nil=>simp
     | cons t r=>simp
 ·have hi:i=4:=by omega
  subst hi
  have e1:sB s c 4=[]:=by unfold sB;rw [List.drop_of_length_le (by rw [List.length_take];omega)];rfl
  have e2:oT s c 4=true:=by unfold oT;rw [List.drop_of_length_le (by omega)];rfl
  rw [e1,List.append_nil] at hal
  rw [e2,Bool.and_true] at hbt
  subst hal hbt
  clear hai hi4 hlt e1 e2 hall
  refine gx ?_
  refine ae (met (uB (hs.take (.there (.there (.there (.there (.there .here)))))) ) ?_)
  clear hs
  rintro _ w ⟨vm,rfl,hs⟩
  refine ⟨_,rfl,gx ?_⟩
  cases hk:sx s D (.mg ⟨false,(jq s a c).map fun T=>eF T [],[]⟩) (mN s c) with
  | none=>rw [hk] at h;cases h
  | some r=>
   obtain ⟨xk,D1⟩:=r
   rw [hk] at h
   have hs:=hs.to (a:=blk b 133 (aj K z s)::aO bB z.sn (aC s.snaps)::Ej K.d z.m vm (.mg ⟨false,(jq s a c).map fun T=>eF T [],[]⟩)::aR z.m s.mem::ag K.d D::dQ K.d z s.levels::aE 1 vo 9 (jq s a c).length ((jq s a c).map fun T=>str T.name)::F)
   refine ae (met (wR hk hmx hs) ?_)
   clear hs hk
   rintro _ w ⟨lv,ve,rfl,hs⟩
   refine ⟨_,rfl,?_⟩
   cases xk with
   | error e=>
    simp only [dS,Option.some.injEq,Prod.mk.injEq] at h
    obtain ⟨rfl,rfl⟩:=h
    obtain ⟨t,u,rfl⟩:=(hs.take (.there (.there (.there (.there .here))))).aW
    refine gx ?_
    refine ak rfl ⟨_,rfl,?_⟩
    have hs:=Sat.jW (e:=e) (Sat.bP (z:=z) hl (hs.to (a:=blk b 133 (aj K z s)::dQ K.d z s.levels::aR z.m s.mem::aO bB z.sn (aC s.snaps)::ag K.d D1::ax (.iface t u) (some e)::F)))
    exact hs
   | ok l=>
    simp only [dS] at h
    have hve:=(hs.take (.there (.there (.there (.there .here))))).cF
    subst hve
    refine gx ?_
    have hs:=hs.take (.there (.there (.there (.there (.there .here)))))
    dsimp only [Nd] at hs
    have hs:=Sat.Ak hs
    have hs:=hs.to (a:=blk b 133 (aj K z s)::jm 4 lv (bu l)::ag K.d D1::aO bB z.sn (aC s.snaps)::aR z.m s.mem::dQ K.d z s.levels::aE 1 vo 9 (jq s a c).length ((jq s a c).map fun T=>str T.name)::F)
    cases hsp:kO gW s.number D1 l [] with
    | none=>rw [hsp] at h;cases h
    | some r=>
     obtain ⟨xs,D2⟩:=r
     rw [hsp] at h
     refine ae (met (uI hsp hW hs) ?_)
     clear hs hsp
     rintro _ w ⟨tv,ve,num,rfl,hnum,hs⟩
     refine ⟨_,rfl,?_⟩
     cases xs with
     | error e=>
      simp only [Option.some.injEq,Prod.mk.injEq] at h
      obtain ⟨rfl,rfl⟩:=h
      obtain ⟨t,u,rfl⟩:=(hs.take (.there (.there .here))).aW
      refine gx ?_
      refine ak rfl ⟨_,rfl,?_⟩
      have hs:=Sat.jW (e:=e) (Sat.bP (s:={ s with number:=num }) (z:=z) hl (hs.to (a:=blk b 133 (aj K z { s with number:=num })::dQ K.d z s.levels::aR z.m s.mem::aO bB z.sn (aC s.snaps)::ag K.d D2::ax (.iface t u) (some e)::F)))
      exact hs
     | ok ts=>
      dsimp only at h
      obtain rfl:=hnum ts rfl
      have hve:=(hs.take (.there (.there .here))).cF
      subst hve
      dsimp only [Nd] at hs
      have hs:=hs.to (a:=blk b 133 (aj K z { s with number:=ts.2 })::dQ K.d z s.levels::eT K.d tv ts.1::ag K.d D2::aO bB z.sn (aC s.snaps)::aR z.m s.mem::aE 1 vo 9 (jq s a c).length ((jq s a c).map fun T=>str T.name)::F)
      refine gx ?_
      refine aL (α:=Nat×SZ) (fun q=>[(0,au b),(1,.int .i64 (a:Int)),(2,.int .i64 (c:Int)),(8,vo),(15,tv),(16,.int .i64 (q.1:Int))])
       (fun q w=>(a≤q.1∧q.1≤c∧q.2.m=z.m∧q.2.sn=z.sn)∧Sat W0 (blk b 133 (aj K q.2 { s with number:=ts.2 })::dQ K.d q.2 (rA a (q.1-a) s.levels)::eT K.d tv ts.1::ag K.d D2::aO bB z.sn (aC s.snaps)::aR z.m s.mem::aE 1 vo 9 (jq s a c).length ((jq s a c).map fun T=>str T.name)::F) w) (fun q=>c-q.1) (a,z) ⟨rfl,rfl,rfl,rfl,rfl,rfl,trivial⟩ ⟨⟨Nat.le_refl _,by dsimp only;omega,rfl,rfl⟩,by dsimp only;rw [Nat.sub_self];exact hs⟩ ?_
      clear hs
      rintro ⟨k,z2⟩ w ⟨⟨hak,hkc,hzm,hzs⟩,hs⟩
      dsimp only at hak hkc hzm hzs hs ⊢
      have hkl:(rA a (k-a) s.levels).length=4:=by rw [sA];exact hl
      have hgk:(rA a (k-a) s.levels)[k]?=some ((rA a (k-a) s.levels)[k]'(by omega)):=List.getElem?_eq_getElem (by omega)
      by_cases hlt:k<c
      ·obtain ⟨lv0,hlv0,hs⟩:=(hs.take (.there .here)).nP hgk (by omega)
       have hs:=Sat.wP (d:=K.d) hs.drop
       have hs:=Sat.Ep (L:=[]) (i:=k) (by omega) hkl (hs.to (a:=eT K.d (.slice none 0 0) []::Cs K.d z2 (rA a (k-a) s.levels) k::blk b 133 (aj K z2 { s with number:=ts.2 })::eT K.d tv ts.1::ag K.d D2::aO bB z.sn (aC s.snaps)::aR z.m s.mem::aE 1 vo 9 (jq s a c).length ((jq s a c).map fun T=>str T.name)::F))
       have hst:(rA a (k-a) s.levels).set k []=rA a (k+1-a) s.levels:=by
        rw [show k+1-a=(k-a)+1 by omega]
        show _=(rA a (k-a) s.levels).set (a+(k-a)) []
        rw [show a+(k-a)=k by omega]
       rw [hst] at hs
       refine gx ?_
       refine tF (p:=(4,129)) rfl rfl rfl rfl (by omega) (by show (k:Int)<4;omega) rfl ?_
       refine zj hs rfl rfl rfl rfl (.there .here) (by simp [Nat.blt_eq];omega) ?_
       clear hs
       intro w hs
       rw [Cr (by omega)] at hs
       refine gx ?_
       exact aB (k+1,z2.put k (.slice none 0 0)) ⟨rfl,rfl,rfl,rfl,rfl,rfl,trivial⟩ ⟨⟨by show a≤k+1;omega,hlt,by simpa using hzm,by simpa using hzs⟩,hs.to⟩ (by show c-(k+1)<c-k;omega)
      ·have hke:k=c:=by omega
       subst hke
       obtain ⟨lv0,hlv0,hs⟩:=(hs.take (.there .here)).nP hgk (by omega)
       have hs:=hs.drop
       have htv:dD tv=true:=(hs.take (.there (.there .here))).NG
       have hs:=Sat.Ep (L:=ts.1) (v:=tv) (i:=k) (by omega) hkl (hs.to (a:=eT K.d tv ts.1::Cs K.d z2 (rA a (k-a) s.levels) k::blk b 133 (aj K z2 { s with number:=ts.2 })::ag K.d D2::aO bB z.sn (aC s.snaps)::aR z.m s.mem::aE 1 vo 9 (jq s a k).length ((jq s a k).map fun T=>str T.name)::F))
       rw [Ix hl hac hc] at hs
       refine gx ?_
       refine tF (p:=(4,129)) rfl rfl rfl rfl (by omega) (by show (k:Int)<4;omega) rfl ?_
       refine zj hs rfl rfl rfl htv (.there .here) (by simp [Nat.blt_eq];omega) ?_
       clear hs
       intro w hs
       rw [Cr (by omega)] at hs
       refine gx ?_
       cases hcm:gG { s with number:=ts.2,levels:=s.levels.take a++List.replicate (k-a) []++ts.1::s.levels.drop (k+1) } D2 false with
       | none=>rw [hcm] at h;cases h
       | some r=>
        obtain ⟨xc,D3⟩:=r
        rw [hcm] at h
        have hl2:(s.levels.take a++List.replicate (k-a) []++ts.1::s.levels.drop (k+1)).length=4:=by
         simp;omega
        have hs:=hs.to (a:=blk b 133 (aj K (z2.put k tv) { s with number:=ts.2,levels:=s.levels.take a++List.replicate (k-a) []++ts.1::s.levels.drop (k+1) })::dQ K.d (z2.put k tv) (s.levels.take a++List.replicate (k-a) []++ts.1::s.levels.drop (k+1))::ag K.d D2::aO bB z.sn (aC s.snaps)::aR z.m s.mem::aE 1 vo 9 (jq s a k).length ((jq s a k).map fun T=>str T.name)::F)
        refine ae (met (uK hcm hl2 hW hs) ?_)
        clear hs hcm
        rintro _ w ⟨ve,s',rfl,hs',⟨nu,lo,hs2⟩,hs⟩
        refine ⟨_,rfl,?_⟩
        have hl3:s'.levels.length=4:=by rw [hs2];exact hl2
        have hcl:∀ (R:List ah) (w:World),Sat W0 (blk b 133 (aj K (z2.put k tv) s')::dQ K.d (z2.put k tv) (s.levels.take a++List.replicate (k-a) []++ts.1::s.levels.drop (k+1))::aR z.m s.mem::aO bB z.sn (aC s.snaps)::R) w→Sat W0 (ni b K s'::R) w:=fun R w hs=>by
         refine Sat.bP (z:=z2.put k tv) hl3 ?_
         rw [NF,Mu,hzm,hzs]
         have e1:s'.levels=s.levels.take a++List.replicate (k-a) []++ts.1::s.levels.drop (k+1):=by rw [hs2]
         have e2:s'.mem=s.mem:=by rw [hs2]
         have e3:s'.snaps=s.snaps:=by rw [hs2]
         rw [e1,e2,e3]
         exact hs
        cases xc with
        | error e=>
         simp only [Option.some.injEq,Prod.mk.injEq] at h
         obtain ⟨rfl,rfl⟩:=h
         obtain ⟨t,u,rfl⟩:=(hs.take (.there (.there (.there .here)))).aW
         refine gx ?_
         refine ak rfl ⟨_,rfl,?_⟩
         exact Sat.jW (e:=e) (hcl _ _ hs.to)
        | ok s3=>
         obtain rfl:=hs' s3 rfl
         dsimp only at h
         have hve:=(hs.take (.there (.there (.there .here)))).cF
         subst hve
         obtain ⟨av,cv,rfl,hcv⟩:=(hs.take (.there (.there (.there (.there (.there (.there .here))))))).ay
         simp only [maxLen] at hcv
         cases hr:eW ((jq s a k).map fun T=>.remove T.name) D3 with
         | none=>rw [hr] at h;cases h
         | some r=>
          obtain ⟨eo,D4⟩:=r
          rw [hr] at h
          generalize hnm:jq s a k=N at *
          refine gx ?_
          refine aL (α:=Nat×ad) (fun q=>[(0,au b),(96,.slice av N.length cv),(97,.int .i64 (N.length:Int)),(98,.int .i64 (q.1:Int))])
           (fun q w=>(q.1≤N.length∧eW ((N.drop q.1).map fun T=>.remove T.name) q.2=some (eo,D4))∧Sat W0 (aE 1 (.slice av N.length cv) 9 N.length (N.map fun T=>str T.name)::blk b 133 (aj K (z2.put k tv) s')::dQ K.d (z2.put k tv) (s.levels.take a++List.replicate (k-a) []++ts.1::s.levels.drop (k+1))::aR z.m s.mem::aO bB z.sn (aC s.snaps)::ag K.d q.2::F) w) (fun q=>N.length-q.1) (0,D3) ⟨rfl,rfl,rfl,rfl,trivial⟩ ⟨⟨Nat.zero_le _,hr⟩,hs.to⟩ ?_
          clear hs hr
          rintro ⟨i,D5⟩ w ⟨⟨hi,hr⟩,hs⟩
          dsimp only at hi hr hs ⊢
          by_cases hlt2:i<N.length
          ·have hg:N[i]?=some N[i]:=List.getElem?_eq_getElem hlt2
           rw [List.drop_eq_getElem_cons hlt2] at hr
           generalize N[i]=T at hg hr
           simp only [List.map_cons] at hr
           unfold eW eL at hr
           dsimp only at hr
           by_cases hm:D5.moves.length≤gW
           case neg=>rw [if_neg hm] at hr;cases hr
           rw [if_pos hm] at hr
           rw [bJ] at hm
           obtain ⟨bq,cap,rs,hv,q1,q2,q3,hs3⟩:=hs.dV (by omega)
           obtain ⟨rfl,_,rfl⟩:=Value.slice.inj hv
           have hcell:((N.map fun T=>str T.name)++rs)[0+i*1]?=some (str T.name):=by
            rw [Nat.zero_add,Nat.mul_one,List.getElem?_append_left (by simpa using hlt2),List.getElem?_map,hg];rfl
           refine gx ?_
           refine cL (i:=i) rfl rfl rfl rfl rfl hlt2 rfl ?_
           refine eC hs3 rfl rfl .here hcell rfl ?_
           clear hs3
           refine gx ?_
           refine ae (met (tZ (n:=T.name) (hs.take (.there (.there (.there (.there (.there .here)))))) hm) ?_)
           clear hs
           rintro _ w ⟨ve,rfl,hs⟩
           refine ⟨_,rfl,?_⟩
           cases hf:bz D5 T.name with
           | some e=>
            rw [hf] at hr hs
            simp only [Option.some.injEq,Prod.mk.injEq] at hr
            obtain ⟨rfl,rfl⟩:=hr
            simp only [Option.some.injEq,Prod.mk.injEq] at h
            obtain ⟨rfl,rfl⟩:=h
            obtain ⟨t,u,rfl⟩:=(hs.take (.there .here)).aW
            refine gx ?_
            refine ak rfl ⟨_,rfl,?_⟩
            exact Sat.jW (e:=e) (hcl _ _ hs.to)
           | none=>
            rw [hf] at hr hs
            dsimp only at hr
            have hve:=(hs.take (.there .here)).cF
            subst hve
            refine gx ?_
            exact aB (i+1,_) ⟨rfl,rfl,rfl,rfl,trivial⟩ ⟨⟨hlt2,hr⟩,hs.to⟩ (by show N.length-(i+1)<N.length-i;omega)
          ·have hie:i=N.length:=by omega
           subst hie
           rw [List.drop_length] at hr
           simp only [List.map_nil,eW,Option.some.injEq,Prod.mk.injEq] at hr
           obtain ⟨rfl,rfl⟩:=hr
           simp only [Option.some.injEq,Prod.mk.injEq] at h
           obtain ⟨rfl,rfl⟩:=h
           refine gx ?_
           refine ak rfl ⟨_,rfl,?_⟩
           exact (hcl (ag K.d D5::ax .nilIface none::F) _ ((Sat.ei hs).to))
end
section
open Go.Proofs.YtecibefflhomdaaGreatDoor.Pure (ad az Rd bI less aQ aZ bM bE aD cY dec j3)
attribute [local irreducible] IntKind.wrap
section
variable {ops:Array Oper} {Q:Exit→Act→World→Prop} {n:Nat} {ds:Md} {e:Env} {w w':World} {rest:List Oper} {ord:List (Nat×Bool)} {S:World→Prop}
variable {op:Op} {ty:TypeId} {pos:String} {af:Array Edge} {d i j:Nat} {v u:Value} {W0:World} {l l' r r':List ah}
theorem Iy {x y:Operand} {t b o k:Nat} {p:Nat×Nat} {Y:Int} (ho:ops[i]?=some ⟨some d,.indexAddr t x y,ty,pos,af,none⟩) (hx:ev e x=some (.pointer (some ⟨b,o,none⟩))) (hy:ev e y=some (.int .i64 Y)) (ht:lk vC t=some p) (hsz:lk df p.2=some k)
 (h0:0≤Y) (h1:Y<(p.1:Int)) (hd:Nat.blt d n=true) (kk:WO ops Q S n ds ord ((d,.pointer (some ⟨b,o+Y.toNat*k,none⟩))::e) w) :
 WO ops Q S n ds ((i,false)::ord) e w:=
 Fg ho (fun a w' ha _=>by simp [execOp,ha.ev hx,ha.ev hy,Instr.indexAt,asIntOf,cB (lM ht),dq hsz,h0,h1,add_eq,Instr.sureAddr]) hd kk
end
variable {W0 w:World} {F:List ah} {v:Value} {d m p:Nat} {T:cD} {D D':ad} {M:List az}
theorem Sat.Er {z:SZ} {Ls:List (List cD)} {i:Nat} (hL:Ls.length=4) (hi:i<4) (h:Sat W0 (dQ d z Ls::F) w):∃ a c,z.vN[i]?=some (.slice a (Ls.getD i []).length c):=by
 have hg:Ls[i]?=some (Ls[i]'(by omega)):=List.getElem?_eq_getElem (by omega)
 obtain ⟨v,hv,hs⟩:=h.nP hg hi
 obtain ⟨ps,hps,hs⟩:=hs.ix
 obtain ⟨a,c,rfl,-⟩:=hs.ay
 refine ⟨a,c,?_⟩
 rw [hv,hps]
 simp [List.getD,hg]
theorem sC {b:Nat} {K:SK} {s:St} {x:Except cy St} (h:mO K.o s D=some (x,D')) (hW:jB W0) (hs:Sat W0 (ni b K s::ag K.d D::F) w) :
 Calls Tryz.prog 101 #[au b] w fun y w'=>∃ ve,y=.returned ve∧Sat W0 (Bv b K x::ag K.d D'::ax ve (dk x)::F) w':=by
 obtain ⟨hl,z,hs⟩:=hs.gQ
 refine enter Tryz.func101 rfl Tryz.ntmps101 Tryz.results101 rfl ?_
 unfold mO at h
 obtain ⟨a0,c0,hz0⟩:=(hs.take (.there .here)).Er (i:=0) hl (by omega)
 have hz0':z.l0=.slice a0 (s.levels.getD 0 []).length c0:=Option.some.inj hz0
 refine dU ?_
 refine gz ?_
 refine db rfl ?_
 refine eB (α:=St×ad) (fun _=>[(0,au b)]) (fun q w=>hO K.o 2 1 q.1 q.2=some (x,D')∧Sat W0 (ni b K q.1::ag K.d q.2::F) w) ?_ ?_
 ·refine gx ?_
  refine bU [blk b 133 (aj K z s)] [(0,false),(1,false),(2,false),(3,false),(4,false),(5,false),(6,false),(7,false),(8,false),(9,false),(10,false),(11,false)] hs (by kernel_rfl) ?_
  clear hs
  intro w hs
  refine gx ?_
  refine Iy (p:=(4,129)) rfl rfl rfl rfl rfl (by omega) (by show (0:Int)<4;omega) rfl ?_
  refine gx ?_
  rw [hz0']
  have hs:=Sat.bP hl hs
  by_cases hc0:K.o.tables≤(s.levels.getD 0 []).length
  ·rw [if_pos hc0] at h
   refine gx ?_
   cases hm:kP s D 0 1 with
   | none=>rw [hm] at h;cases h
   | some r=>
    obtain ⟨x1,D1⟩:=r
    rw [hm] at h
    refine ae (met (lu hm (by omega) (by omega) hW hs) ?_)
    clear hs hm
    rintro _ w ⟨ve,rfl,hs⟩
    refine ⟨_,rfl,?_⟩
    cases x1 with
    | error e=>
     simp only [dS,Option.some.injEq,Prod.mk.injEq] at h
     obtain ⟨rfl,rfl⟩:=h
     obtain ⟨t,u,rfl⟩:=(hs.take (.there (.there .here))).aW
     refine gx ?_
     exact ak rfl ⟨_,rfl,hs⟩
    | ok s1=>
     simp only [dS] at h
     have hve:=(hs.take (.there (.there .here))).cF
     subst hve
     refine gx ?_
     exact bg (s1,D1) ⟨rfl,trivial⟩ ⟨h,Sat.to (l:=ni b K s1::ag K.d D1::ax .nilIface none::F) hs⟩
  ·rw [if_neg hc0] at h
   refine gx ?_
   exact bg (s,D) ⟨rfl,trivial⟩ ⟨h,hs⟩
 ·clear hs h hz0 hz0'
  rintro ⟨s,D⟩ w ⟨h,hs⟩
  dsimp only at h hs
  refine gx ?_
  refine aL (α:=Nat×Nat×St×ad) (fun q=>[(0,au b),(4,.int .i64 (q.2.1:Int))])
   (fun q w=>(q.1+q.2.1=3∧hO K.o q.1 q.2.1 q.2.2.1 q.2.2.2=some (x,D'))∧Sat W0 (ni b K q.2.2.1::ag K.d q.2.2.2::F) w) (fun q=>q.1) (2,1,s,D) ⟨rfl,rfl,trivial⟩ ⟨⟨rfl,h⟩,hs⟩ ?_
  clear hs h
  rintro ⟨f,i,s,D⟩ w ⟨⟨hfi,h⟩,hs⟩
  dsimp only at hfi h hs ⊢
  cases f with
  | zero=>
   unfold hO at h
   simp only [Option.some.injEq,Prod.mk.injEq] at h
   obtain ⟨rfl,rfl⟩:=h
   have hi:¬ ((i:Int)+1<4):=by omega
   refine gx ?_
   exact ak rfl ⟨_,rfl,(Sat.ei hs).to⟩
  | succ f=>
   unfold hO El at h
   obtain ⟨hl,z,hs⟩:=hs.gQ
   obtain ⟨a1,c1,hz1⟩:=(hs.take (.there .here)).Er (i:=i) hl (by omega)
   have hcell:=yu (K:=K) (s:=s) (show i<4 by omega) hz1
   refine gx ?_
   refine bU [blk b 133 (aj K z s)] [(0,false),(1,false),(2,false),(3,false),(4,false),(5,false),(6,false),(7,false),(8,false),(9,false),(10,false),(11,false),(12,false)] hs (by kernel_rfl) ?_
   clear hs
   intro w hs
   refine gx ?_
   refine Iy (p:=(4,129)) rfl rfl rfl rfl rfl (by omega) (by show (i:Int)<4;omega) rfl ?_
   refine pW rfl rfl rfl .here hcell rfl ?_
   by_cases hc0:K.o.tables<(s.levels.getD i []).length
   ·rw [if_pos hc0] at h
    refine gx ?_
    have hs:=Sat.bP hl hs
    cases hm:kP s D i (i+1) with
    | none=>rw [hm] at h;cases h
    | some r=>
     obtain ⟨x1,D1⟩:=r
     rw [hm] at h
     refine ae (met (lu hm (by omega) (by omega) hW hs) ?_)
     clear hs hm
     rintro _ w ⟨ve,rfl,hs⟩
     refine ⟨_,rfl,?_⟩
     cases x1 with
     | error e=>
      simp only [dS,Option.some.injEq,Prod.mk.injEq] at h
      obtain ⟨rfl,rfl⟩:=h
      obtain ⟨t,u,rfl⟩:=(hs.take (.there (.there .here))).aW
      refine gx ?_
      exact ak rfl ⟨_,rfl,hs⟩
     | ok s1=>
      simp only [dS] at h
      have hve:=(hs.take (.there (.there .here))).cF
      subst hve
      refine gx ?_
      exact aB (f,i+1,s1,D1) ⟨rfl,rfl,trivial⟩ ⟨⟨by dsimp only;omega,h⟩,Sat.to (l:=ni b K s1::ag K.d D1::ax .nilIface none::F) hs⟩ (by show f<f+1;omega)
   ·rw [if_neg hc0] at h
    refine gx ?_
    have hs:=Sat.bP hl hs
    exact aB (f,i+1,s,D) ⟨rfl,rfl,trivial⟩ ⟨⟨by dsimp only;omega,h⟩,hs⟩ (by show f<f+1;omega)
end
end Go.Proofs.YtecibefflhomdaaGreatDoor
