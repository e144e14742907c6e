/-
  Part 40: WALKS package levels; WALKS package levels.
-/
import Derived.Test.YtecibefflhomdaaGreatDoorY39
set_option maxHeartbeats 8000000
set_option maxRecDepth 100000
set_option linter.all false
namespace Go.Proofs.YtecibefflhomdaaGreatDoor
open Go
section
open Go.Proofs.YtecibefflhomdaaGreatDoor.Pure (ad az Rd bI dT)
attribute [local irreducible] IntKind.wrap
variable {W0 w:World} {F:List ah} {b d:Nat} {D D':ad} {K:SK} {z:SZ} {s:St}
structure O4 where
 rd:Rd
 f:Nat
 ls:List (List cD)
 z:SZ
 D:ad
def sO (s1:St):Out (List (List cD)×Rd)→Out St
 | none=>none
 | some (.error e,D2)=>some (.error e,D2)
 | some (.ok x,D2)=>if x.2.bad=true then some (.error (some aP,7),D2) else qz { s1 with levels:=x.1 } D2
theorem Da (r:Rd):(r.num 1).2.text.2.rest.length≤r.rest.length:=Nat.le_trans (Pure.Rd.iA _) (Pure.Rd.di r 1)
theorem A7:sE (some aP,7)=(some aP,7):=rfl
theorem GC {x:Except cy St} (h:oV D=some (x,D')) (hE:kY W0) (hs:Sat W0 (ni b K oU::ag K.d D::F) w) :
 Calls Tryz.prog 47 #[au b] w fun y w'=>∃ ve,y=.returned ve∧Sat W0 (Bv b K x::ag K.d D'::ax ve (dk x)::F) w':=by
 obtain ⟨hl,z,hs⟩:=hs.gQ
 refine enter Tryz.func47 rfl Tryz.ntmps47 Tryz.results47 rfl ?_
 refine gx ?_
 have hok:=(hs.take (.there (.there (.there (.there .here))))).M7
 refine ae (met (vj (n:=aP) (hs.take (.there (.there (.there (.there .here)))))) ?_)
 clear hs
 rintro _ w ⟨v,ve,rfl,hs⟩
 refine ⟨_,rfl,?_⟩
 unfold oV at h
 have hlen:(okB (ij D aP).1).length≤4398046511104:=by
  unfold ij
  split
  ·simp [okB]
  ·split
   ·simp [okB]
   ·exact qS hok.tick _ _ _
 generalize hwd:ij D aP=wd at h hs hlen
 obtain ⟨xw,D1⟩:=wd
 dsimp only at h hs hlen
 cases xw with
 | error e=>
  dsimp only at h
  refine gx ?_
  refine ae (met (KN (m:=10) (hs.take (.there (.there .here)))) ?_)
  clear hs
  rintro _ w ⟨rfl,hs⟩
  refine ⟨_,rfl,?_⟩
  by_cases h10:e.2=10
  ·rw [if_pos h10] at h
   rw [decide_eq_true h10]
   simp only [Option.some.injEq,Prod.mk.injEq] at h
   obtain ⟨rfl,rfl⟩:=h
   refine gx ?_
   refine ak rfl ⟨_,rfl,?_⟩
   exact Sat.bP (s:=oU) (z:=z) hl (Sat.ei hs).to
  ·rw [if_neg h10] at h
   rw [decide_eq_false h10]
   simp only [Option.some.injEq,Prod.mk.injEq] at h
   obtain ⟨rfl,rfl⟩:=h
   obtain ⟨t,u,rfl⟩:=hs.aW
   refine gx ?_
   exact ak rfl ⟨_,rfl,Sat.jW (e:=e) (Sat.bP (z:=z) hl hs.to)⟩
 | ok bytes=>
  have hve:=(hs.take (.there (.there .here))).cF
  subst hve
  dsimp only at h
  refine gx ?_
  refine ae (met (KU (m:=10) hs) ?_)
  clear hs
  rintro _ w ⟨rfl,hs⟩
  refine ⟨_,rfl,?_⟩
  have hs:=(hs.take (.there .here)).nt
  refine gx ?_
  have hlen:bytes.length≤4398046511104:=hlen
  refine ae (met (lW hs (by show bytes.length≤_;omega)) ?_)
  clear hs
  rintro _ w ⟨v1,v2,rfl,hs⟩
  refine ⟨_,rfl,?_⟩
  have hbad:∀ (ve:Value) (s1:St) (z1:SZ) (D1:ad) (w:World),s1.levels.length=4→Sat W0 (ax ve (some (some aP,7))::blk b 133 (aj K z1 s1)::dQ K.d z1 s1.levels::aR z1.m s1.mem::aO bB z1.sn (aC s1.snaps)::ag K.d D1::F) w→∃ ve',Ending.returned ve=Ending.returned ve'∧Sat W0 (Bv b K (.error (some aP,7))::ag K.d D1::ax ve' (some (some aP,7))::F) w:=by
   intro ve s1 z1 D1 w hl hs
   exact ⟨_,rfl,Sat.jW (Sat.bP (z:=z1) (s:=s1) hl hs.to)⟩
  cases ho:bI bytes with
  | none=>
   have ho':bI (okB (Except.ok bytes))=none:=ho
   rw [ho] at h
   rw [ho'] at hs ⊢
   simp only [Option.some.injEq,Prod.mk.injEq] at h
   obtain ⟨rfl,rfl⟩:=h
   refine gx ?_
   refine ae (met (gA (s:=aP) hs) ?_)
   clear hs
   rintro _ w ⟨ve,rfl,hs⟩
   refine ⟨_,rfl,?_⟩
   refine gx ?_
   exact ak rfl (hbad ve oU z D1 w hl hs.to)
  | some zz=>
   obtain ⟨i,rest⟩:=zz
   have ho':bI (okB (Except.ok bytes))=some (i,rest):=ho
   have hl1:=l9 ho
   rw [ho] at h
   rw [ho'] at hs ⊢
   dsimp only at h hs hl1
   obtain ⟨a2,c2,rfl,-⟩:=(hs.take (.there .here)).fD
   obtain ⟨a1,c1,rfl,-⟩:=hs.fD
   by_cases hre:rest=[]
   case neg=>
    rw [if_pos hre] at h
    simp only [Option.some.injEq,Prod.mk.injEq] at h
    obtain ⟨rfl,rfl⟩:=h
    have hl0:((rest.length:Int) > 0):=by have:=List.length_pos_iff.2 hre;omega
    refine gx ?_
    refine ae (met (gA (s:=aP) hs) ?_)
    clear hs
    rintro _ w ⟨ve,rfl,hs⟩
    refine ⟨_,rfl,?_⟩
    refine gx ?_
    exact ak rfl (hbad ve oU z D1 w hl hs.to)
   have hl0:¬ ((rest.length:Int) > 0):=by rw [hre];simp
   rw [if_neg (by simp [hre])] at h
   refine gx ?_
   refine bA [.slice a1 i.length c1,.bool false] ?_
   refine cE hs ?_
   clear hs
   intro w r hs
   have hs:=Sat.fN (rd:=⟨i,false⟩) hs
   refine gx ?_
   refine ae (met (fc (K:=8) hs (by dsimp only;omega) (by omega)) ?_)
   clear hs
   rintro _ w ⟨rfl,hs⟩
   refine ⟨_,rfl,?_⟩
   have hn1:=Pure.Rd.di ⟨i,false⟩ 8
   generalize hnu:Rd.num ⟨i,false⟩ 8=nu at hs h hn1 ⊢
   obtain ⟨nn,rd1⟩:=nu
   dsimp only at hs h hn1 ⊢
   refine gx ?_
   refine ae (met (fc (K:=8) hs (by omega) (by omega)) ?_)
   clear hs
   rintro _ w ⟨rfl,hs⟩
   refine ⟨_,rfl,?_⟩
   have hn2:=Pure.Rd.di rd1 8
   generalize hnu2:Rd.num rd1 8=nu2 at hs h hn2 ⊢
   obtain ⟨qq,rd2⟩:=nu2
   dsimp only at hs h hn2 ⊢
   refine gx ?_
   refine bD hs ?_
   clear hs
   intro w hs
   refine gx ?_
   refine bD hs ?_
   clear hs
   intro w hs
   refine gx ?_
   refine ae (met (gO hs (by omega)) ?_)
   clear hs
   rintro _ w ⟨rfl,hs⟩
   refine ⟨_,rfl,?_⟩
   have hn3:=Pure.Rd.iA rd2
   generalize hnu3:Rd.text rd2=nu3 at hs h hn3 ⊢
   obtain ⟨lg,rd3⟩:=nu3
   dsimp only at hs h hn3 ⊢
   refine gx ?_
   refine bD hs ?_
   clear hs
   intro w hs
   generalize hs1:({ oU with number:=nn,seq:=qq,log:=lg }:St)=s1
   have hs:Sat W0 (vJ r rd3::blk b 133 (aj K z s1)::dQ K.d z [[],[],[],[]]::aR z.m []::aO bB z.sn (aC [])::ag K.d D1::F) w:=by subst hs1;exact hs.to
   have hsm:s1.mem=[]∧s1.snaps=[]:=by subst hs1;exact ⟨rfl,rfl⟩
   have h:sO s1 (lI (i.length+1) D1 rd3 [[],[],[],[]])=some (x,D'):=by
    subst hs1
    rw [← h]
    unfold sO
    cases lI (i.length+1) D1 rd3 [[],[],[],[]] with
    | none=>rfl
    | some y=>obtain ⟨y,D2⟩:=y;cases y<;>rfl
   clear hnu hnu2 hnu3 hs1
   refine gx ?_
   refine aL (α:=O4) (fun y=>[(0,au b),(8,au r)])
    (fun y w=>(sO s1 (lI y.f y.D y.rd y.ls)=some (x,D')∧y.ls.length=4∧y.rd.rest.length≤4398046511104∧y.z.m=z.m∧y.z.sn=z.sn) ∧
      Sat W0 (vJ r y.rd::blk b 133 (aj K y.z s1)::dQ K.d y.z y.ls::aR z.m []::aO bB z.sn (aC [])::ag K.d y.D::F) w) (fun y=>y.f)
    ⟨rd3,i.length+1,[[],[],[],[]],z,D1⟩ ⟨rfl,rfl,trivial⟩ ⟨⟨h,rfl,by dsimp only;omega,rfl,rfl⟩,hs⟩ ?_
   clear hs h hn1 hn2 hn3
   rintro ⟨rd,f,ls,z2,D2⟩ w ⟨⟨h,h4,hlr,hzm,hzs⟩,hs⟩
   dsimp only at h h4 hlr hzm hzs hs
   cases f with
   | zero=>cases h
   | succ f=>
   unfold lI at h
   obtain ⟨vr,-,hs⟩:=hs.nH
   dsimp only [List.cons_append,List.nil_append] at hs
   obtain ⟨ar,cr,rfl,-⟩:=(hs.take (.there .here)).fD
   have hcl:∀ (R:List ah) (w:World),Sat W0 (blk b 133 (aj K z2 s1)::dQ K.d z2 ls::aR z.m []::aO bB z.sn (aC [])::R) w→Sat W0 (ni b K { s1 with levels:=ls }::R) w:=by
    intro R w hs
    refine Sat.bP (z:=z2) (s:={ s1 with levels:=ls }) h4 ?_
    show Sat W0 (blk b 133 (aj K z2 s1)::dQ K.d z2 ls::aR z2.m s1.mem::aO bB z2.sn (aC s1.snaps)::R) w
    rw [hsm.1,hsm.2,hzm,hzs]
    exact hs
   have hend:rd.rest=[]∨rd.bad=true→sO s1 (some (.ok (ls,rd),D2))=some (x,D'):=by
    intro hh
    rw [if_neg (by rintro ⟨h1,h2⟩;rcases hh with hh|hh;exact h1 hh;rw [h2] at hh;cases hh)] at h
    exact h
   cases hb:rd.bad with
   | true=>
    have h:=hend (.inr hb)
    have hs:Sat W0 (blk r 190 [.slice ar rd.rest.length cr,.bool true]::vw (.slice ar rd.rest.length cr) rd.rest::blk b 133 (aj K z2 s1)::dQ K.d z2 ls::aR z.m []::aO bB z.sn (aC [])::ag K.d D2::F) w:=by rw [← hb];exact hs
    unfold sO at h
    dsimp only at h
    rw [if_pos hb] at h
    simp only [Option.some.injEq,Prod.mk.injEq] at h
    obtain ⟨rfl,rfl⟩:=h
    by_cases hre:rd.rest=[]
    ·have hl0:¬ ((rd.rest.length:Int) > 0):=by rw [hre];simp
     refine gx ?_
     refine ae (met (gA (s:=aP) hs) ?_)
     clear hs
     rintro _ w ⟨ve,rfl,hs⟩
     refine ⟨_,rfl,?_⟩
     refine gx ?_
     exact ak rfl ⟨_,rfl,Sat.jW (hcl _ _ hs.to)⟩
    ·have hl0:((rd.rest.length:Int) > 0):=by have:=List.length_pos_iff.2 hre;omega
     refine gx ?_
     refine ae (met (gA (s:=aP) hs) ?_)
     clear hs
     rintro _ w ⟨ve,rfl,hs⟩
     refine ⟨_,rfl,?_⟩
     refine gx ?_
     exact ak rfl ⟨_,rfl,Sat.jW (hcl _ _ hs.to)⟩
   | false=>
    have hs:Sat W0 (blk r 190 [.slice ar rd.rest.length cr,.bool false]::vw (.slice ar rd.rest.length cr) rd.rest::blk b 133 (aj K z2 s1)::dQ K.d z2 ls::aR z.m []::aO bB z.sn (aC [])::ag K.d D2::F) w:=by rw [← hb];exact hs
    by_cases hre:rd.rest=[]
    ·have h:=hend (.inl hre)
     unfold sO at h
     dsimp only at h
     rw [if_neg (by rw [hb];simp)] at h
     have hl0:¬ ((rd.rest.length:Int) > 0):=by rw [hre];simp
     refine gx ?_
     refine ae (met (A6 h hE (hcl _ _ hs.to)) ?_)
     clear hs
     rintro _ w ⟨ve,rfl,hs⟩
     refine ⟨_,rfl,?_⟩
     refine gx ?_
     exact ak rfl ⟨_,rfl,hs⟩
    ·have hl0:((rd.rest.length:Int) > 0):=by have:=List.length_pos_iff.2 hre;omega
     rw [if_pos ⟨hre,hb⟩] at h
     refine gx ?_
     have hs:=Sat.fN (rd:=⟨rd.rest,false⟩) hs
     have hrd:(⟨rd.rest,false⟩:Rd)=rd:=by rw [← hb]
     rw [hrd] at hs
     refine ae (met (fc (K:=1) hs (by omega) (by omega)) ?_)
     clear hs
     rintro _ w ⟨rfl,hs⟩
     refine ⟨_,rfl,?_⟩
     have hlt:=rd.kE 1
     have htr:=Da rd
     generalize hnu:rd.num 1=nu at hs h hlt htr ⊢
     obtain ⟨n1,rd1⟩:=nu
     dsimp only at hs h hlt htr ⊢
     have hlt2:n1<256:=by simpa using hlt
     have hr1:rd1.rest.length≤rd.rest.length:=by have:=Pure.Rd.di rd 1;rw [hnu] at this;exact this
     refine gx ?_
     refine bU [blk b 133 (aj K z2 s1)] [(0,false),(1,false),(2,false),(3,false),(4,false),(5,true),(6,true),(7,false),(8,false),(9,false),(10,false),(11,false)] hs (by kernel_rfl) ?_
     clear hs
     intro w hs
     refine gx ?_
     refine ae (met (gO hs (by omega)) ?_)
     clear hs
     rintro _ w ⟨rfl,hs⟩
     refine ⟨_,rfl,?_⟩
     generalize hnu2:rd1.text=nu2 at hs h htr ⊢
     obtain ⟨nm,rd2⟩:=nu2
     dsimp only at hs h htr ⊢
     refine gx ?_
     cases hop:wO D2 nm with
     | none=>rw [hop] at h;cases h
     | some yy=>
      obtain ⟨xt,D3⟩:=yy
      rw [hop] at h
      refine ae (met (C7 hop (F:=vJ r rd2::blk b 133 (aj K z2 s1)::dQ K.d z2 ls::aR z.m []::aO bB z.sn (aC [])::F) hs.to) ?_)
      clear hs hop
      rintro _ w ⟨tv,ve,rfl,hs⟩
      refine ⟨_,rfl,?_⟩
      have hend3:∀ (ve:Value) (e:cy) (w:World),Sat W0 (ax ve (some e)::blk b 133 (aj K z2 s1)::dQ K.d z2 ls::aR z.m []::aO bB z.sn (aC [])::ag K.d D3::F) w→∃ ve',Ending.returned ve=Ending.returned ve'∧Sat W0 (Bv b K (.error e)::ag K.d D3::ax ve' (some e)::F) w:=by
       intro ve e w hs
       exact ⟨_,rfl,Sat.jW (hcl _ _ hs.to)⟩
      cases xt with
      | error e=>
       unfold sO at h
       simp only [Option.some.injEq,Prod.mk.injEq] at h
       obtain ⟨rfl,rfl⟩:=h
       obtain ⟨t,u,rfl⟩:=(hs.take (.there .here)).aW
       refine gx ?_
       refine ae (met (rX hE (hs.take (.there .here))) ?_)
       clear hs
       rintro _ w ⟨ve,rfl,hs⟩
       refine ⟨_,rfl,?_⟩
       refine gx ?_
       exact ak rfl (hend3 _ _ w hs.to)
      | ok T=>
       have hve:=(hs.take (.there .here)).cF
       subst hve
       dsimp only at h
       by_cases h4n:4≤n1
       ·rw [if_pos h4n] at h
        unfold sO at h
        simp only [Option.some.injEq,Prod.mk.injEq] at h
        obtain ⟨rfl,rfl⟩:=h
        have h4':((n1:Nat):Int) ≥ 4:=by omega
        refine gx ?_
        refine ae (met (gA (s:=aP) hs) ?_)
        clear hs
        rintro _ w ⟨ve,rfl,hs⟩
        refine ⟨_,rfl,?_⟩
        obtain ⟨t,u,rfl⟩:=hs.aW
        refine gx ?_
        refine ae (met (rX hE hs) ?_)
        clear hs
        rintro _ w ⟨ve,rfl,hs⟩
        refine ⟨_,rfl,?_⟩
        rw [A7] at hs
        refine gx ?_
        exact ak rfl (hend3 _ _ w hs.to)
       ·rw [if_neg h4n] at h
        have h4':¬ ((n1:Nat):Int) ≥ 4:=by omega
        by_cases hbig:(ls.getD n1 []).length≤gW
        case neg=>rw [if_neg hbig] at h;cases h
        rw [if_pos hbig] at h
        obtain ⟨p,rfl,h3⟩:∃ p,tv=au p∧Sat W0 (cG K.d p T::ag K.d D3::ax .nilIface (dk (Except.ok T))::vJ r rd2::blk b 133 (aj K z2 s1)::dQ K.d z2 ls::aR z.m []::aO bB z.sn (aC [])::F) w:=by
         obtain ⟨p,hp,hs⟩:=(hs.take (.there (.there .here))).eI (φ:=fun p=>tv=au p) (B:=fun p=>[cG K.d p T]) fun hp ⟨p,e,k⟩=>⟨p,e,hp,fun _=>none,fun _ _ _ _ hy=>(by cases hy),Hp.le_refl _,fun _ _ hx=>(by cases hx),k,trivial⟩
         exact ⟨p,hp,hs.to⟩
        clear hs
        have hs:=h3
        clear h3
        have hgl:ls[n1]?=some (ls.getD n1 []):=by
         rw [List.getD_eq_getElem?_getD,List.getElem?_eq_getElem (by omega)];rfl
        generalize ls.getD n1 []=L at hgl hbig h
        obtain ⟨lv,hlv,hs⟩:=(hs.take (.there (.there (.there (.there (.there .here)))))).nP hgl (by omega)
        obtain ⟨ps,hps,hs⟩:=hs.ix
        have hcell:=yu (K:=K) (s:=s1) (by omega) hlv
        rw [bJ,← hps] at hbig
        refine gx ?_
        refine bH [blk b 133 (aj K z2 s1)] [7] (.q 0 (.q 1 (.q 2 (.q 3 (.q 4 (.q 5 (.q 6 (.s 7 (.q 8 (.q 11 (.q 12 (.l 9 (.l 10 (.q 13 (.l 14 .nil))))))))))))))) hs (by kernel_rfl) ?_
        clear hs
        intro w hs
        refine oA ?_
        refine yw (p:=(4,129)) rfl rfl rfl rfl rfl (by omega) (by show (n1:Int)<4;omega) rfl ?_
        refine sk rfl rfl rfl .here hcell rfl ?_
        refine oA ?_
        refine fw hs ?_
        clear hs
        intro w b2 hs
        refine gz ?_
        refine cX (hs.to) ?_
        refine oA ?_
        refine dF hs ?_
        clear hs
        intro v2 w hs
        have hs:=hs.to (a:=aE 1 v2 193 (ps.length+1) (ps.map au++[au p])::star (List.zipWith (cG K.d) ps L)::cG K.d p T::Cs K.d z2 ls n1::blk b 133 (aj K z2 s1)::vJ r rd2::ag K.d D3::aR z.m []::aO bB z.sn (aC [])::F)
        have hv2:dD v2=true:=by obtain ⟨a7,c7,rfl,-⟩:=hs.ay;rfl
        have hs:=Sat.Ep (i:=n1) (by omega) h4 (Sat.Ch hps hs)
        refine gz ?_
        refine cA rfl ?_
        refine oA ?_
        refine yw (p:=(4,129)) rfl rfl rfl rfl rfl (by omega) (by show (n1:Int)<4;omega) rfl ?_
        refine oA ?_
        refine zj hs rfl rfl rfl hv2 (.there .here) (by simp [Nat.blt_eq];omega) ?_
        clear hs
        intro w hs
        rw [Cr (by omega)] at hs
        refine gz ?_
        refine cA rfl ?_
        refine fA ?_
        refine gx ?_
        refine aB ⟨rd2,f,ls.set n1 (L++[T]),z2.put n1 v2,D3⟩ ⟨rfl,rfl,trivial⟩ ⟨⟨h,by simp [h4],by dsimp only;omega,by simp [hzm],by simp [hzs]⟩,?_⟩ (by dsimp only;omega)
        exact hs.to
end
section
open Go.Proofs.YtecibefflhomdaaGreatDoor.Pure (ad aA cx cQ)
attribute [local irreducible] IntKind.wrap
section
variable {κ:Type} [DecidableEq κ] (K:Fj κ)
variable {ops:Array Oper} {Q:Exit→Act→World→Prop} {n:Nat} {ds:Md} {e:Env} {w w':World} {rest:List Oper}
variable {op:Op} {ty:TypeId} {pos:String} {af:Array Edge} {d b:Nat} {v u:Value} {W0:World} {l l' r r':List ah} {kvs:List (κ×Value)} {k:κ}
attribute [local semireducible] WL WC WQ
theorem oJ {T elem:TypeId} {x y z:Operand} (hs:Sat W0 l w) (tk:ic l (aO K b kvs) (aO K b (cx kvs k v)) l') (hx:ev e x=some (.map (some b))) (hy:ev e y=some (K.val k)) (hzv:ev e z=some v) (hT:lk vD T=some (K.ty,elem))
 (kk:∀ w',Sat W0 l' w'→WL ops Q n ds rest e w'):WL ops Q n ds (⟨none,.insert T x y z,ty,pos,af,none⟩::rest) e w:=by
 obtain ⟨r,t1,t2⟩:=tk.take
 obtain ⟨es,clock,hb,he,hlt,hnd,hs1⟩:=(hs.take t1).pY
 rcases jQ K es kvs k 0 he with ⟨g1,g2⟩|⟨j,v',g1,g2,g3,⟨e0,g4,g4'⟩,g5,_⟩
 ·have hf:=gj K (w:=w) g2
  have hs2:=hs1.re K (es':=es++[⟨K.val k,v,clock⟩]) (clock':=clock+1) (pe K es kvs k v clock he g1) (fun e' he'=>by
   rcases List.mem_append.1 he' with h|h
   ·exact Nat.lt_succ_of_lt (hlt e' h)
   ·simp at h;subst h;exact Nat.lt_succ_self _) (by
   rw [List.map_append,List.nodup_append]
   refine ⟨hnd,by simp,?_⟩
   intro a ha c hc hac
   simp at hc;subst hc;subst hac
   obtain ⟨e',he',h'⟩:=List.mem_map.1 ha
   have:=hlt e' he'
   omega)
  refine wb (fun a ha=>?_) (kk _ (hs2.mr t2))
  simp only [execOp,ha.ev hx,ha.ev hy,ha.ev hzv]
  simp [Instr.mapUpdate,run_underlying (iM hT),MapKept.run_getObj_map hb,K.check,hf,MapKept.run_setObj_map _ hb]
 ·have hf:=gj K (w:=w) g2
  obtain ⟨q1,q2⟩:=g5 v _ rfl
  have hs2:=hs1.re K (es':=es.modify j (fun e=>{ e with key:=K.val k,val:=v })) (clock':=clock) q1 (fun e' he'=>by
   have:e'.born∈es.map (·.born):=by rw [← q2];exact List.mem_map.2 ⟨e',he',rfl⟩
   obtain ⟨e1,h1,h2⟩:=List.mem_map.1 this
   rw [← h2];exact hlt e1 h1) (by rw [q2];exact hnd)
  refine wb (fun a ha=>?_) (kk _ (hs2.mr t2))
  simp only [execOp,ha.ev hx,ha.ev hy,ha.ev hzv]
  simp [Instr.mapUpdate,run_underlying (iM hT),MapKept.run_getObj_map hb,K.check,hf,MapKept.run_setObj_map _ hb,Instr.keyThatStays,K.bits,g4,g4']
end
variable {W0 w:World} {F:List ah} {b d:Nat} {D D':ad} {K:SK} {z:SZ} {s:St}
def Kn (kvs:List (Bs×Value)) (l:List Bs):Prop:=∀ n,aA kvs n=if n∈l then some (.int .i64 1) else none
theorem Kn.nil:Kn [] []:=fun n=>by simp [aA]
theorem Kn.put {kvs:List (Bs×Value)} {l l':List Bs} {n:Bs} (h:Kn kvs l) (hl:∀ m,m∈l'↔m=n∨m∈l):Kn (cx kvs n (.int .i64 1)) l':=fun m=>by
 rw [cQ,h m]
 by_cases hm:m=n
 ·rw [if_pos hm,if_pos ((hl m).2 (.inl hm))]
 ·rw [if_neg hm]
  by_cases hm2:m∈l
  ·rw [if_pos hm2,if_pos ((hl m).2 (.inr hm2))]
  ·rw [if_neg hm2,if_neg fun h=>((hl m).1 h).elim hm hm2]
theorem Db {x:Except cy St} (h:jk s D=some (x,D')) (hs:Sat W0 (ni b K s::ag K.d D::F) w) :
 Calls Tryz.prog 48 #[au b] w fun y w'=>∃ ve,y=.returned ve∧Sat W0 (Bv b K x::ag K.d D'::ax ve (dk x)::F) w':=by
 obtain ⟨hl,z,hs⟩:=hs.gQ
 refine enter Tryz.func48 rfl Tryz.ntmps48 Tryz.results48 rfl ?_
 refine dU ?_
 refine gz ?_
 refine db rfl ?_
 refine eB (α:=Nat) (fun m=>[(0,au b),(3,.map (some m))]) (fun m w=>∃ kvs,Kn kvs [aP,s.log]∧Sat W0 (aO cu m kvs::blk b 133 (aj K z s)::dQ K.d z s.levels::aR z.m s.mem::aO bB z.sn (aC s.snaps)::ag K.d D::F) w) ?_ ?_
 ·refine bH [blk b 133 (aj K z s)] [5] (.q 2 (.q 3 (.q 4 (.s 5 (.l 0 (.l2 1 (.l 6 (.q 7 (.q 8 .nil))) 6 (.l 1 (.q 7 (.q 8 .nil))))))))) hs (by kernel_rfl) ?_
  clear hs
  intro w hs
  refine oA ?_
  refine kC hs rfl ?_
  clear hs
  intro w m hs
  have hs:=hs.tK cu
  refine gz ?_
  refine cX hs.to ?_
  refine zQ rfl rfl ?_ ?_
  ·refine oJ cu (k:=aP) (v:=.int .i64 1) hs .here rfl rfl rfl rfl ?_
   clear hs
   intro w hs
   refine gz ?_
   refine cX hs.to ?_
   refine oA ?_
   refine oJ cu (k:=s.log) (v:=.int .i64 1) hs .here rfl rfl rfl rfl ?_
   clear hs
   intro w hs
   refine gz ?_
   refine cA rfl ?_
   refine oA ?_
   exact bg m ⟨rfl,rfl,trivial⟩ ⟨_,(Kn.nil.put (l':=[aP]) (by simp)).put (by simp [or_comm]),hs⟩
  ·refine oJ cu (k:=s.log) (v:=.int .i64 1) hs .here rfl rfl rfl rfl ?_
   clear hs
   intro w hs
   refine gz ?_
   refine cX hs.to ?_
   refine oA ?_
   refine oJ cu (k:=aP) (v:=.int .i64 1) hs .here rfl rfl rfl rfl ?_
   clear hs
   intro w hs
   refine gz ?_
   refine cX hs.to ?_
   refine oA ?_
   exact bg m ⟨rfl,rfl,trivial⟩ ⟨_,(Kn.nil.put (l':=[s.log]) (by simp)).put (by simp),hs⟩
 clear hs
 rintro m w ⟨kvs,hkn,hs⟩
 have hl4:s.levels.length=4:=hl
 refine gx ?_
 refine aL (α:=Nat×List (Bs×Value)) (fun q=>[(0,au b),(3,.map (some m)),(20,.agg #[z.l0,z.l1,z.l2,z.l3]),(21,.int .i64 (q.1:Int))])
  (fun q w=>(q.1≤4∧Kn q.2 ([aP,s.log]++(s.levels.take q.1).flatten.map (·.name)))∧Sat W0 (aO cu m q.2::blk b 133 (aj K z s)::dQ K.d z s.levels::aR z.m s.mem::aO bB z.sn (aC s.snaps)::ag K.d D::F) w) (fun q=>4-q.1) (0,kvs) ⟨rfl,rfl,rfl,rfl,trivial⟩ ⟨⟨Nat.zero_le _,by simpa using hkn⟩,hs⟩ ?_
 clear hs hkn
 rintro ⟨i,kvs⟩ w ⟨⟨hi,hkn⟩,hs⟩
 dsimp only at hi hkn hs ⊢
 by_cases hlt:i<4
 ·have hgl:s.levels[i]?=some s.levels[i]:=List.getElem?_eq_getElem (by omega)
  have htk:s.levels.take (i+1)=s.levels.take i++[s.levels[i]]:=by rw [List.take_add_one,hgl];rfl
  generalize s.levels[i]=Ts at hgl htk
  obtain ⟨lv,hlv,hs⟩:=(hs.take (.there (.there .here))).nP hgl hlt
  obtain ⟨ps,hps,hs⟩:=hs.ix
  obtain ⟨al,cl,rfl,hc1,hc2⟩:=hs.ay
  have hpl:ps.length≤9223372036854775807:=by simp only [maxLen] at hc2;omega
  have hint:((i:Int)<4):=by omega
  refine gx ?_
  refine Ci (m:=i) (vs:=[z.l0,z.l1,z.l2,z.l3]) rfl rfl rfl rfl rfl rfl hlt hlv rfl ?_
  refine gx ?_
  refine aL (α:=Nat×List (Bs×Value)) (fun q=>[(0,au b),(3,.map (some m)),(20,.agg #[z.l0,z.l1,z.l2,z.l3]),(21,.int .i64 (i:Int)),(24,.slice al ps.length cl),(25,.int .i64 (ps.length:Int)),(26,.int .i64 (q.1:Int))])
   (fun q w=>(q.1≤ps.length∧Kn q.2 ([aP,s.log]++(s.levels.take i).flatten.map (·.name)++(Ts.take q.1).map (·.name)))∧Sat W0 (aE 1 (.slice al ps.length cl) 193 ps.length (ps.map au)::star (List.zipWith (cG K.d) ps Ts)::Cs K.d z s.levels i::aO cu m q.2::blk b 133 (aj K z s)::aR z.m s.mem::aO bB z.sn (aC s.snaps)::ag K.d D::F) w) (fun q=>ps.length-q.1) (0,kvs) ⟨rfl,rfl,rfl,rfl,rfl,rfl,rfl,trivial⟩ ⟨⟨Nat.zero_le _,by simpa using hkn⟩,hs.to⟩ ?_
  clear hs hkn
  rintro ⟨j,kvs⟩ w ⟨⟨hj,hkn⟩,hs⟩
  dsimp only at hj hkn hs ⊢
  by_cases hlj:j<ps.length
  ·have gp:ps[j]?=some ps[j]:=List.getElem?_eq_getElem hlj
   have gT:Ts[j]?=some (Ts[j]'(by omega)):=List.getElem?_eq_getElem (by omega)
   have htj:Ts.take (j+1)=Ts.take j++[Ts[j]'(by omega)]:=by rw [List.take_add_one,gT];rfl
   have hzj:=dm (cG K.d) gp gT
   generalize Ts[j]'(by omega)=T at gT htj hzj
   generalize ps[j]=p at gp hzj
   have hspj:=dG hzj
   obtain ⟨bq,cap,rs,hv,q1,q2,q3,hs2⟩:=hs.dV (by omega)
   obtain ⟨rfl,_,rfl⟩:=Value.slice.inj hv
   have hcell:(ps.map au++rs)[0+j*1]?=some (au p):=by
    rw [Nat.zero_add,Nat.mul_one,List.getElem?_append_left (by simpa using hlj),List.getElem?_map,gp];rfl
   refine gx ?_
   refine cL (i:=j) rfl rfl rfl rfl rfl hlj rfl ?_
   refine eC hs2 rfl rfl .here hcell rfl ?_
   clear hs2
   have hs:=hs.take (.there .here)
   rw [hspj] at hs
   obtain ⟨bv,hs⟩:=hs.eS.lr
   refine gx ?_
   refine iV cu (k:=T.name) (v:=.int .i64 1) hs (by repeat (first|exact ic.here|apply ic.there)) rfl rfl rfl rfl ?_
   clear hs
   intro w hs
   refine gx ?_
   refine aB (j+1,cx kvs T.name (.int .i64 1)) ⟨rfl,rfl,rfl,rfl,rfl,rfl,rfl,trivial⟩ ⟨⟨hlj,?_⟩,?_⟩ (by show _-(j+1)<_-j;omega)
   ·refine hkn.put fun x=>?_
    rw [htj]
    simp only [List.map_append,List.map_cons,List.map_nil,List.mem_append,List.mem_singleton]
    constructor
    ·rintro (h|h|h)
     ·exact .inr (.inl h)
     ·exact .inr (.inr h)
     ·exact .inl h
    ·rintro (h|h|h)
     ·exact .inr (.inr h)
     ·exact .inl h
     ·exact .inr (.inl h)
   ·have hs:=(hs.drop.drop).eK
    rw [← hspj] at hs
    exact hs.to
  ·have hje:j=ps.length:=by omega
   subst hje
   rw [hps,List.take_length] at hkn
   have hnl:¬ ((ps.length:Int)<(ps.length:Int)):=by omega
   refine gx ?_
   refine aB (i+1,kvs) ⟨rfl,rfl,rfl,rfl,trivial⟩ ⟨⟨hlt,?_⟩,?_⟩ (by show 4-(i+1)<4-i;omega)
   ·dsimp only
    rw [htk,List.flatten_append,List.map_append]
    simpa using hkn
   ·have hs:=Sat.Ct hgl hlv (Sat.jj hps hs)
    exact hs.to
 ·have hie:i=4:=by omega
  subst hie
  rw [List.take_of_length_le (by omega)] at hkn
  by_cases hnow:D.now.length≤gW
  case neg=>unfold jk at h;rw [if_neg hnow] at h;cases h
  unfold jk at h
  rw [if_pos hnow] at h
  rw [bJ] at hnow
  refine gx ?_
  refine ae (met (MV (hs.take (.there (.there (.there (.there (.there .here)))))) hnow) ?_)
  clear hs
  rintro _ w ⟨lv,rfl,hs⟩
  refine ⟨_,rfl,?_⟩
  obtain ⟨al,cl,rfl,hc1,hc2⟩:=(hs.take (.there .here)).ay
  have hpl:(fu D).length≤9223372036854775807:=by simp only [maxLen] at hc2;omega
  have hkn2:∀ n,aA kvs n=if fJ s n=true then some (.int .i64 1) else none:=fun n=>by
   rw [hkn n]
   have:n∈([aP,s.log]++s.levels.flatten.map (·.name))↔fJ s n=true:=by
    unfold fJ
    simp only [Bool.or_eq_true,decide_eq_true_eq,List.any_eq_true,List.mem_append,List.mem_cons,List.not_mem_nil,or_false,List.mem_map]
   by_cases hk:fJ s n=true
   ·rw [if_pos hk,if_pos (this.2 hk)]
   ·rw [if_neg hk,if_neg fun hh=>hk (this.1 hh)]
  generalize hld:fu D=ns at *
  refine gx ?_
  refine aL (α:=Nat×ad) (fun q=>[(0,au b),(3,.map (some m)),(42,.slice al ns.length cl),(43,.int .i64 (ns.length:Int)),(44,.int .i64 (q.1:Int))])
   (fun q w=>(q.1≤ns.length∧(match eW (((ns.drop q.1).filter fun n=>!fJ s n).map .remove) q.2 with|none=>none|some (some e,D')=>some (.error e,D')|some (none,D')=>some (.ok s,D'))=some (x,D')) ∧
     Sat W0 (Gz (.slice al ns.length cl) ns::aO cu m kvs::blk b 133 (aj K z s)::dQ K.d z s.levels::aR z.m s.mem::aO bB z.sn (aC s.snaps)::ag K.d q.2::F) w) (fun q=>ns.length-q.1) (0,D) ⟨rfl,rfl,rfl,rfl,rfl,trivial⟩ ⟨⟨Nat.zero_le _,by rw [List.drop_zero];exact h⟩,hs.to⟩ ?_
  clear hs h hld
  rintro ⟨i,D1⟩ w ⟨⟨hi,h⟩,hs⟩
  dsimp only at hi h hs ⊢
  by_cases hlt:i<ns.length
  ·rw [List.drop_eq_getElem_cons hlt,List.filter_cons] at h
   have hg:ns[i]?=some ns[i]:=List.getElem?_eq_getElem hlt
   generalize ns[i]=n at hg h
   obtain ⟨bq,cap,rs,hv,q1,q2,q3,hs2⟩:=hs.dV (by omega)
   obtain ⟨rfl,_,rfl⟩:=Value.slice.inj hv
   have hcell:(ns.map str++rs)[0+i*1]?=some (str n):=by
    rw [Nat.zero_add,Nat.mul_one,List.getElem?_append_left (by simpa using hlt),List.getElem?_map,hg];rfl
   refine gx ?_
   refine cL (i:=i) rfl rfl rfl rfl rfl hlt rfl ?_
   refine eC hs2 rfl rfl .here hcell rfl ?_
   clear hs2
   refine gx ?_
   refine oo cu (k:=n) (z:=.int .i64 0) hs (.there .here) rfl rfl rfl rfl rfl ?_
   rw [hkn2 n]
   cases hk:fJ s n with
   | true=>
    rw [hk] at h
    refine gx ?_
    refine aB (i+1,D1) ⟨rfl,rfl,rfl,rfl,rfl,trivial⟩ ⟨⟨hlt,by simpa using h⟩,hs⟩ (by show _-(i+1)<_-i;omega)
   | false=>
    rw [hk,if_pos (by simp),List.map_cons,eW] at h
    refine gx ?_
    cases hro:eL D1 (.remove n) with
    | none=>rw [hro] at h;cases h
    | some r=>
     obtain ⟨eo,D2⟩:=r
     rw [hro] at h
     unfold eL at hro
     dsimp only at hro
     split at hro
     ·rename_i hmv
      rw [bJ] at hmv
      simp only [Option.some.injEq,Prod.mk.injEq] at hro
      obtain ⟨rfl,rfl⟩:=hro
      refine ae (met (tZ (n:=n) (hs.take (.there (.there (.there (.there (.there (.there .here))))))) hmv) ?_)
      clear hs
      rintro _ w ⟨ve,rfl,hs⟩
      refine ⟨_,rfl,?_⟩
      cases hc:bz D1 n with
      | some e=>
       rw [hc] at h hs
       simp only [Option.some.injEq,Prod.mk.injEq] at h
       obtain ⟨rfl,rfl⟩:=h
       obtain ⟨t,u,rfl⟩:=(hs.take (.there .here)).aW
       refine gx ?_
       exact ak rfl ⟨_,rfl,Sat.jW (Sat.bP (z:=z) hl hs.to)⟩
      | none=>
       rw [hc] at h hs
       dsimp only at h
       have hve:=(hs.take (.there .here)).cF
       subst hve
       refine gx ?_
       exact aB (i+1,fq D1 n) ⟨rfl,rfl,rfl,rfl,rfl,trivial⟩ ⟨⟨hlt,h⟩,hs.to⟩ (by show _-(i+1)<_-i;omega)
     ·cases hro
  ·have hie:i=ns.length:=by omega
   subst hie
   rw [List.drop_length] at h
   simp only [List.filter_nil,List.map_nil,eW,Option.some.injEq,Prod.mk.injEq] at h
   obtain ⟨rfl,rfl⟩:=h
   have hnl:¬ ((ns.length:Int)<(ns.length:Int)):=by omega
   refine gx ?_
   refine ak rfl ⟨_,rfl,?_⟩
   have:=Sat.ei (Sat.bP (K:=K) (z:=z) (s:=s) hl (hs.to (a:=blk b 133 (aj K z s)::dQ K.d z s.levels::aR z.m s.mem::aO bB z.sn (aC s.snaps)::ag K.d D1::F)))
   exact this.to
end
end Go.Proofs.YtecibefflhomdaaGreatDoor
