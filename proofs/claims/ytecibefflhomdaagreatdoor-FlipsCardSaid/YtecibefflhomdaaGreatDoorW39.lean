/-
  Part 39: WALKS package levels; WALKS package levels.
-/
import Derived.Test.YtecibefflhomdaaGreatDoorW38
set_option maxHeartbeats 8000000
set_option maxRecDepth 100000
set_option linter.all false
namespace Go.Proofs.YtecibefflhomdaaGreatDoor
open Go
section
open Go.Proofs.YtecibefflhomdaaGreatDoor.Pure (ad ay Rd bu dG)
attribute [local irreducible] IntKind.wrap
variable {W0 w:World} {F:List ah} {b d:Nat} {D D':ad} {K:SK} {z:SZ} {s:St}
theorem CO {bs:Bs} {z:Bs×Bs} (h:bu bs=some z):z.2.length≤bs.length:=by
 have ho:bu bs=(let n:=Rd.num ⟨bs,false⟩ 4
  let t:=n.2.num 4
  let s:=t.2.num 4
  if n.1≠4294967295-t.1 then none else
  let i:=s.2.bytes (n.1:Int)
  if i.2.bad=true∨Pure.qT i.1≠s.1 then none else some (i.1,i.2.rest)):=rfl
 rw [h] at ho
 dsimp only at ho
 split at ho
 ·cases ho
 ·split at ho
  ·cases ho
  ·simp only [Option.some.injEq] at ho
   subst ho
   have b1:(Rd.num ⟨bs,false⟩ 4).2.rest.length≤bs.length:=Pure.Rd.cX ⟨bs,false⟩ 4
   have b2:=(Rd.num ⟨bs,false⟩ 4).2.cX 4
   have b3:=((Rd.num ⟨bs,false⟩ 4).2.num 4).2.cX 4
   have b4:=Pure.Rd.gG (((Rd.num ⟨bs,false⟩ 4).2.num 4).2.num 4).2 ((Rd.num ⟨bs,false⟩ 4).1:Int)
   exact Nat.le_trans b4 (Nat.le_trans b3 (Nat.le_trans b2 b1))
theorem CP (r:Rd):r.entry.2.rest.length≤r.rest.length:=by
 have h2:r.text.2.rest.length≤r.rest.length:=Pure.Rd.iv r
 have h3:=r.text.2.cX 8
 have he:r.entry=if (r.text.2.num 8).2.rest.head?=some 255 then (⟨r.text.1,[],true,(r.text.2.num 8).1⟩,((r.text.2.num 8).2.bytes 1).2)
  else (⟨r.text.1,(r.text.2.num 8).2.text.1,false,(r.text.2.num 8).1⟩,(r.text.2.num 8).2.text.2):=rfl
 rw [he]
 split
 ·have:=Pure.Rd.gG (r.text.2.num 8).2 1;dsimp only;omega
 ·have:=Pure.Rd.iv (r.text.2.num 8).2;dsimp only;omega
abbrev Ei (s:St) (q:Nat) (m:List ay):St:={ s with seq:=q,mem:=m }
structure On where
 v:Value
 bs:Bs
 f:Nat
 q:Nat
 m:List ay
structure Oo where
 rd:Rd
 f:Nat
 q:Nat
 m:List ay
theorem AV {x:Except cy St} (h:qx s D=some (x,D')) (hE:kP W0) (hs:Sat W0 (nd b K s::ag K.d D::F) w) :
 Calls Tryz.prog 97 #[au b] w fun y w'=>∃ ve,y=.returned ve∧Sat W0 (Bh b K x::ag K.d D'::aL ve (dC x)::F) w':=by
 obtain ⟨hl,z,hs⟩:=hs.gM
 refine enter Tryz.func97 rfl Tryz.ntmps97 Tryz.results97 rfl ?_
 refine gx ?_
 refine bM [blk b 133 (aj K z s)] [(0,false),(1,false),(2,false),(3,false),(4,false),(5,false),(6,false),(7,false),(8,true),(9,false),(10,false),(11,false),(12,false),(13,false)] hs (by kernel_rfl) ?_
 clear hs
 intro w hs
 refine gx ?_
 have hok:=(hs.take (.there (.there (.there (.there .here))))).MA
 refine ae (met (vg (n:=s.log) (hs.take (.there (.there (.there (.there .here)))))) ?_)
 clear hs
 rintro _ w ⟨v,ve,rfl,hs⟩
 refine ⟨_,rfl,?_⟩
 unfold qx at h
 have hlen:(okB (ie D s.log).1).length≤4398046511104:=by
  unfold ie
  split
  ·simp [okB]
  ·split
   ·simp [okB]
   ·exact qP hok.tick _ _ _
 generalize hwd:ie D s.log=wd at h hs hlen
 obtain ⟨xw,D1⟩:=wd
 dsimp only at h hs hlen
 cases xw with
 | error e=>
  simp only [Option.some.injEq,Prod.mk.injEq] at h
  obtain ⟨rfl,rfl⟩:=h
  obtain ⟨t,u,rfl⟩:=(hs.take (.there (.there .here))).aV
  refine gx ?_
  refine ae (met (rT hE (hs.take (.there (.there .here)))) ?_)
  clear hs
  rintro _ w ⟨ve,rfl,hs⟩
  refine ⟨_,rfl,?_⟩
  refine gx ?_
  exact ak rfl ⟨_,rfl,Sat.jQ (Sat.bJ (z:=z) hl hs.to)⟩
 | ok bytes=>
  have hve:=(hs.take (.there (.there .here))).cD
  subst hve
  simp only [Option.map_eq_some_iff,Prod.mk.injEq] at h
  obtain ⟨s',hrp,rfl,rfl⟩:=h
  have hs:=(hs.take (.there .here)).nk
  refine gx ?_
  refine aK (α:=On) (fun y=>[(0,au b),(3,y.v)])
   (fun y w=>(lh y.f y.bs (Ei s y.q y.m)=some s'∧y.bs.length≤4398046511104)∧Sat W0 (vw y.v y.bs::blk b 133 (aj K z (Ei s y.q y.m))::ea K.d z s.levels::aS z.m y.m::aO bF z.sn (aC s.snaps)::ag K.d D1::F) w) (fun y=>y.f)
   ⟨v,bytes,bytes.length+1,s.seq,s.mem⟩ ⟨rfl,rfl,trivial⟩ ⟨⟨hrp,hlen⟩,hs.to⟩ ?_
  clear hs hrp hlen
  rintro ⟨v,bs,f,q,m⟩ w ⟨⟨hrp,hlen⟩,hs⟩
  dsimp only at hrp hlen hs
  cases f with
  | zero=>cases hrp
  | succ f=>
  have hfin:∀ (q:Nat) (m:List ay) (w:World),Sat W0 (blk b 133 (aj K z (Ei s q m))::ea K.d z s.levels::aS z.m m::aO bF z.sn (aC s.snaps)::ag K.d D1::F) w→Ei s q m=s'→∃ ve,Ending.returned .nilIface=Ending.returned ve∧Sat W0 (Bh b K (.ok s')::ag K.d D1::aL ve none::F) w:=by
   intro q m w hs he
   subst he
   refine ⟨_,rfl,?_⟩
   have:=Sat.dW (Sat.bJ (K:=K) (z:=z) (s:=Ei s q m) hl hs)
   exact this.to
  unfold lh at hrp
  refine gx ?_
  refine ae (met (lQ hs (by omega)) ?_)
  clear hs
  rintro _ w ⟨v1,v2,rfl,hs⟩
  refine ⟨_,rfl,?_⟩
  cases ho:bu bs with
  | none=>
   rw [ho] at hrp hs
   simp only [Option.some.injEq] at hrp
   refine gx ?_
   exact ak rfl (hfin q m w hs.drop.drop hrp)
  | some zz=>
   obtain ⟨i,rest⟩:=zz
   have hl1:=lY ho
   have hl2:=CO ho
   rw [ho] at hrp hs
   dsimp only at hrp hs hl1 hl2
   obtain ⟨a1,c1,rfl,-⟩:=hs.ft
   refine gx ?_
   refine bw [.slice a1 i.length c1,.bool false] ?_
   refine cC hs ?_
   clear hs
   intro w r hs
   have hs:=Sat.fE (rd:=⟨i,false⟩) hs
   refine gx ?_
   refine bM [blk b 133 (aj K z (Ei s q m))] [(0,false),(2,false),(3,false),(4,false),(5,false),(1,true),(6,false)] hs (by kernel_rfl) ?_
   clear hs
   intro w hs
   refine gx ?_
   refine ae (met (eS (K:=8) hs (by dsimp only;omega) (by omega)) ?_)
   clear hs
   rintro _ w ⟨rfl,hs⟩
   refine ⟨_,rfl,?_⟩
   have hn:=Pure.Rd.cX ⟨i,false⟩ 8
   generalize hnu:Rd.num ⟨i,false⟩ 8=nu at hs hrp hn
   obtain ⟨q8,rd⟩:=nu
   dsimp only at hs hrp hn
   by_cases hq:q8=q
   ·rw [if_neg (by omega)] at hrp
    have hq':¬ ((q8:Nat):Int)≠(q:Int):=by omega
    refine gx ?_
    refine aK (α:=Oo) (fun y=>[(0,au b),(6,v2),(8,au r)])
     (fun y w=>((match kL y.f y.rd (Ei s y.q y.m) with|none=>none|some (s',true)=>some s'|some (s',false)=>lh f rest s')=some s'∧y.rd.rest.length≤4398046511104) ∧
       Sat W0 (vH r y.rd::vw v2 rest::blk b 133 (aj K z (Ei s y.q y.m))::ea K.d z s.levels::aS z.m y.m::aO bF z.sn (aC s.snaps)::ag K.d D1::F) w) (fun y=>y.f)
     ⟨rd,i.length+1,q,m⟩ ⟨rfl,rfl,rfl,trivial⟩ ⟨⟨hrp,by dsimp only;omega⟩,hs⟩ ?_
    clear hs hrp hnu hn hq hq'
    rintro ⟨rd,g,q,m⟩ w ⟨⟨hrp,hlr⟩,hs⟩
    dsimp only at hrp hlr hs
    cases g with
    | zero=>cases hrp
    | succ g=>
    unfold kL at hrp
    obtain ⟨vr,-,hs⟩:=hs.nD
    dsimp only [List.cons_append,List.nil_append] at hs
    obtain ⟨ar,cr,rfl,-⟩:=(hs.take (.there .here)).ft
    by_cases hre:rd.rest=[]
    ·rw [if_pos hre] at hrp
     dsimp only at hrp
     have hl0:¬ ((rd.rest.length:Int) > 0):=by rw [hre];simp
     refine gx ?_
     refine aA ⟨v2,rest,f,q,m⟩ ⟨rfl,rfl,trivial⟩ ⟨⟨hrp,by dsimp only;omega⟩,?_⟩ (by dsimp only;omega)
     exact hs.to
    ·rw [if_neg hre] at hrp
     have hl0:((rd.rest.length:Int) > 0):=by have:=List.length_pos_iff.2 hre;omega
     refine gx ?_
     have hs:=Sat.fE hs
     refine ae (met (tY hs (by omega)) ?_)
     clear hs
     rintro _ w ⟨rfl,hs⟩
     refine ⟨_,rfl,?_⟩
     have her:=CP rd
     generalize hen:rd.entry=en at hs hrp her
     obtain ⟨e,rd2⟩:=en
     dsimp only at hs hrp her
     refine gx ?_
     refine aW hs ?_
     clear hs
     intro w b9 hs
     refine gx ?_
     refine cV (vs:=aF e) hs ?_
     clear hs
     intro w hs
     obtain ⟨vr2,-,hs⟩:=(hs.take (.there .here)).nD
     dsimp only [List.cons_append,List.nil_append] at hs
     cases hb:rd2.bad with
     | true=>
      rw [hb] at hrp hs
      refine gx ?_
      simp only [if_true,Option.some.injEq] at hrp
      exact ak rfl (hfin q m w hs.to hrp)
     | false=>
      have hs:=hs
      rw [hb] at hrp hs
      rw [if_neg (by simp)] at hrp
      have hm:m.length≤1048576:=by
       by_cases hm:m.length≤1048576
       ·exact hm
       ·exfalso
        have hm':¬ (Ei s q m).mem.length≤1048576:=hm
        rw [if_neg hm'] at hrp;cases hrp
      have hm':(Ei s q m).mem.length≤1048576:=hm
      rw [if_pos hm'] at hrp
      refine gx ?_
      refine bI hs ?_
      clear hs
      intro w hs
      have hs:Sat W0 (blk b9 256 (aF e)::blk b 133 (aj K z (Ei s e.seq m))::blk r 190 [vr2,.bool false]::vw vr2 rd2.rest::aS z.m m::vw v2 rest::ea K.d z s.levels::aO bF z.sn (aC s.snaps)::ag K.d D1::F) w:=hs.to
      refine gx ?_
      refine bM [blk b9 256 (aF e),blk b 133 (aj K z (Ei s e.seq m))] [(0,false),(1,false),(2,false),(3,false),(4,false),(5,true)] hs (by kernel_rfl) ?_
      clear hs
      intro w hs
      refine gx ?_
      refine ae (met (Aa (e:=e) (hs.take (.there (.there (.there (.there .here))))) (by omega)) ?_)
      clear hs
      rintro _ w ⟨rfl,hs⟩
      refine ⟨_,rfl,?_⟩
      refine gx ?_
      refine aA ⟨rd2,g,e.seq,dG m e⟩ ⟨rfl,rfl,rfl,trivial⟩ ⟨⟨hrp,by dsimp only;omega⟩,?_⟩ (by dsimp only;omega)
      have hs:Sat W0 (vH r rd2::vw v2 rest::blk b 133 (aj K z (Ei s e.seq (dG m e)))::ea K.d z s.levels::aS z.m (dG m e)::aO bF z.sn (aC s.snaps)::ag K.d D1::F) w:=Sat.fE (rd:=rd2) (r:=r) (vr:=vr2) (by rw [hb];exact hs.to (a:=blk r 190 [vr2,.bool false]::vw vr2 rd2.rest::vw v2 rest::blk b 133 (aj K z (Ei s e.seq (dG m e)))::ea K.d z s.levels::aS z.m (dG m e)::aO bF z.sn (aC s.snaps)::ag K.d D1::F))
      exact hs
   ·rw [if_pos hq] at hrp
    simp only [Option.some.injEq] at hrp
    have hq':((q8:Nat):Int)≠(q:Int):=by omega
    refine gx ?_
    exact ak rfl (hfin q m w hs.drop.drop hrp)
end
section
open Go.Proofs.YtecibefflhomdaaGreatDoor.Pure (ad ay Rd bu dG)
attribute [local irreducible] IntKind.wrap
variable {W0 w:World} {F:List ah} {b d:Nat} {D D':ad} {K:SK} {z:SZ} {s:St}
structure Oq where
 rd:Rd
 f:Nat
 ls:List (List cO)
 z:SZ
 D:ad
def sG (s1:St):Out (List (List cO)×Rd)→Out St
 | none=>none
 | some (.error e,D2)=>some (.error e,D2)
 | some (.ok x,D2)=>if x.2.bad=true then some (.error (some aN,7),D2) else qx { s1 with levels:=x.1 } D2
theorem CQ (r:Rd):(r.num 1).2.text.2.rest.length≤r.rest.length:=Nat.le_trans (Pure.Rd.iv _) (Pure.Rd.cX r 1)
theorem AW:sx (some aN,7)=(some aN,7):=rfl
theorem F7 {x:Except cy St} (h:nP D=some (x,D')) (hE:kP W0) (hs:Sat W0 (nd b K oO::ag K.d D::F) w) :
 Calls Tryz.prog 47 #[au b] w fun y w'=>∃ ve,y=.returned ve∧Sat W0 (Bh b K x::ag K.d D'::aL ve (dC x)::F) w':=by
 obtain ⟨hl,z,hs⟩:=hs.gM
 refine enter Tryz.func47 rfl Tryz.ntmps47 Tryz.results47 rfl ?_
 refine gx ?_
 have hok:=(hs.take (.there (.there (.there (.there .here))))).MA
 refine ae (met (vg (n:=aN) (hs.take (.there (.there (.there (.there .here)))))) ?_)
 clear hs
 rintro _ w ⟨v,ve,rfl,hs⟩
 refine ⟨_,rfl,?_⟩
 unfold nP at h
 have hlen:(okB (ie D aN).1).length≤4398046511104:=by
  unfold ie
  split
  ·simp [okB]
  ·split
   ·simp [okB]
   ·exact qP hok.tick _ _ _
 generalize hwd:ie D aN=wd at h hs hlen
 obtain ⟨xw,D1⟩:=wd
 dsimp only at h hs hlen
 cases xw with
 | error e=>
  dsimp only at h
  refine gx ?_
  refine ae (met (Kq (m:=10) (hs.take (.there (.there .here)))) ?_)
  clear hs
  rintro _ w ⟨rfl,hs⟩
  refine ⟨_,rfl,?_⟩
  by_cases h10:e.2=10
  ·rw [if_pos h10] at h
   rw [decide_eq_true h10]
   simp only [Option.some.injEq,Prod.mk.injEq] at h
   obtain ⟨rfl,rfl⟩:=h
   refine gx ?_
   refine ak rfl ⟨_,rfl,?_⟩
   exact Sat.bJ (s:=oO) (z:=z) hl (Sat.dW hs).to
  ·rw [if_neg h10] at h
   rw [decide_eq_false h10]
   simp only [Option.some.injEq,Prod.mk.injEq] at h
   obtain ⟨rfl,rfl⟩:=h
   obtain ⟨t,u,rfl⟩:=hs.aV
   refine gx ?_
   exact ak rfl ⟨_,rfl,Sat.jQ (e:=e) (Sat.bJ (z:=z) hl hs.to)⟩
 | ok bytes=>
  have hve:=(hs.take (.there (.there .here))).cD
  subst hve
  dsimp only at h
  refine gx ?_
  refine ae (met (Ky (m:=10) hs) ?_)
  clear hs
  rintro _ w ⟨rfl,hs⟩
  refine ⟨_,rfl,?_⟩
  have hs:=(hs.take (.there .here)).nk
  refine gx ?_
  have hlen:bytes.length≤4398046511104:=hlen
  refine ae (met (lQ hs (by show bytes.length≤_;omega)) ?_)
  clear hs
  rintro _ w ⟨v1,v2,rfl,hs⟩
  refine ⟨_,rfl,?_⟩
  have hbad:∀ (ve:Value) (s1:St) (z1:SZ) (D1:ad) (w:World),s1.levels.length=4→Sat W0 (aL ve (some (some aN,7))::blk b 133 (aj K z1 s1)::ea K.d z1 s1.levels::aS z1.m s1.mem::aO bF z1.sn (aC s1.snaps)::ag K.d D1::F) w→∃ ve',Ending.returned ve=Ending.returned ve'∧Sat W0 (Bh b K (.error (some aN,7))::ag K.d D1::aL ve' (some (some aN,7))::F) w:=by
   intro ve s1 z1 D1 w hl hs
   exact ⟨_,rfl,Sat.jQ (Sat.bJ (z:=z1) (s:=s1) hl hs.to)⟩
  cases ho:bu bytes with
  | none=>
   have ho':bu (okB (Except.ok bytes))=none:=ho
   rw [ho] at h
   rw [ho'] at hs ⊢
   simp only [Option.some.injEq,Prod.mk.injEq] at h
   obtain ⟨rfl,rfl⟩:=h
   refine gx ?_
   refine ae (met (gl (s:=aN) hs) ?_)
   clear hs
   rintro _ w ⟨ve,rfl,hs⟩
   refine ⟨_,rfl,?_⟩
   refine gx ?_
   exact ak rfl (hbad ve oO z D1 w hl hs.to)
  | some zz=>
   obtain ⟨i,rest⟩:=zz
   have ho':bu (okB (Except.ok bytes))=some (i,rest):=ho
   have hl1:=lY ho
   rw [ho] at h
   rw [ho'] at hs ⊢
   dsimp only at h hs hl1
   obtain ⟨a2,c2,rfl,-⟩:=(hs.take (.there .here)).ft
   obtain ⟨a1,c1,rfl,-⟩:=hs.ft
   by_cases hre:rest=[]
   case neg=>
    rw [if_pos hre] at h
    simp only [Option.some.injEq,Prod.mk.injEq] at h
    obtain ⟨rfl,rfl⟩:=h
    have hl0:((rest.length:Int) > 0):=by have:=List.length_pos_iff.2 hre;omega
    refine gx ?_
    refine ae (met (gl (s:=aN) hs) ?_)
    clear hs
    rintro _ w ⟨ve,rfl,hs⟩
    refine ⟨_,rfl,?_⟩
    refine gx ?_
    exact ak rfl (hbad ve oO z D1 w hl hs.to)
   have hl0:¬ ((rest.length:Int) > 0):=by rw [hre];simp
   rw [if_neg (by simp [hre])] at h
   refine gx ?_
   refine bw [.slice a1 i.length c1,.bool false] ?_
   refine cC hs ?_
   clear hs
   intro w r hs
   have hs:=Sat.fE (rd:=⟨i,false⟩) hs
   refine gx ?_
   refine ae (met (eS (K:=8) hs (by dsimp only;omega) (by omega)) ?_)
   clear hs
   rintro _ w ⟨rfl,hs⟩
   refine ⟨_,rfl,?_⟩
   have hn1:=Pure.Rd.cX ⟨i,false⟩ 8
   generalize hnu:Rd.num ⟨i,false⟩ 8=nu at hs h hn1 ⊢
   obtain ⟨nn,rd1⟩:=nu
   dsimp only at hs h hn1 ⊢
   refine gx ?_
   refine ae (met (eS (K:=8) hs (by omega) (by omega)) ?_)
   clear hs
   rintro _ w ⟨rfl,hs⟩
   refine ⟨_,rfl,?_⟩
   have hn2:=Pure.Rd.cX rd1 8
   generalize hnu2:Rd.num rd1 8=nu2 at hs h hn2 ⊢
   obtain ⟨qq,rd2⟩:=nu2
   dsimp only at hs h hn2 ⊢
   refine gx ?_
   refine bI hs ?_
   clear hs
   intro w hs
   refine gx ?_
   refine bI hs ?_
   clear hs
   intro w hs
   refine gx ?_
   refine ae (met (gK hs (by omega)) ?_)
   clear hs
   rintro _ w ⟨rfl,hs⟩
   refine ⟨_,rfl,?_⟩
   have hn3:=Pure.Rd.iv rd2
   generalize hnu3:Rd.text rd2=nu3 at hs h hn3 ⊢
   obtain ⟨lg,rd3⟩:=nu3
   dsimp only at hs h hn3 ⊢
   refine gx ?_
   refine bI hs ?_
   clear hs
   intro w hs
   generalize hs1:({ oO with number:=nn,seq:=qq,log:=lg }:St)=s1
   have hs:Sat W0 (vH r rd3::blk b 133 (aj K z s1)::ea K.d z [[],[],[],[]]::aS z.m []::aO bF z.sn (aC [])::ag K.d D1::F) w:=by subst hs1;exact hs.to
   have hsm:s1.mem=[]∧s1.snaps=[]:=by subst hs1;exact ⟨rfl,rfl⟩
   have h:sG s1 (lD (i.length+1) D1 rd3 [[],[],[],[]])=some (x,D'):=by
    subst hs1
    rw [← h]
    unfold sG
    cases lD (i.length+1) D1 rd3 [[],[],[],[]] with
    | none=>rfl
    | some y=>obtain ⟨y,D2⟩:=y;cases y<;>rfl
   clear hnu hnu2 hnu3 hs1
   refine gx ?_
   refine aK (α:=Oq) (fun y=>[(0,au b),(8,au r)])
    (fun y w=>(sG s1 (lD y.f y.D y.rd y.ls)=some (x,D')∧y.ls.length=4∧y.rd.rest.length≤4398046511104∧y.z.m=z.m∧y.z.sn=z.sn) ∧
      Sat W0 (vH r y.rd::blk b 133 (aj K y.z s1)::ea K.d y.z y.ls::aS z.m []::aO bF z.sn (aC [])::ag K.d y.D::F) w) (fun y=>y.f)
    ⟨rd3,i.length+1,[[],[],[],[]],z,D1⟩ ⟨rfl,rfl,trivial⟩ ⟨⟨h,rfl,by dsimp only;omega,rfl,rfl⟩,hs⟩ ?_
   clear hs h hn1 hn2 hn3
   rintro ⟨rd,f,ls,z2,D2⟩ w ⟨⟨h,h4,hlr,hzm,hzs⟩,hs⟩
   dsimp only at h h4 hlr hzm hzs hs
   cases f with
   | zero=>cases h
   | succ f=>
   unfold lD at h
   obtain ⟨vr,-,hs⟩:=hs.nD
   dsimp only [List.cons_append,List.nil_append] at hs
   obtain ⟨ar,cr,rfl,-⟩:=(hs.take (.there .here)).ft
   have hcl:∀ (R:List ah) (w:World),Sat W0 (blk b 133 (aj K z2 s1)::ea K.d z2 ls::aS z.m []::aO bF z.sn (aC [])::R) w→Sat W0 (nd b K { s1 with levels:=ls }::R) w:=by
    intro R w hs
    refine Sat.bJ (z:=z2) (s:={ s1 with levels:=ls }) h4 ?_
    show Sat W0 (blk b 133 (aj K z2 s1)::ea K.d z2 ls::aS z2.m s1.mem::aO bF z2.sn (aC s1.snaps)::R) w
    rw [hsm.1,hsm.2,hzm,hzs]
    exact hs
   have hend:rd.rest=[]∨rd.bad=true→sG s1 (some (.ok (ls,rd),D2))=some (x,D'):=by
    intro hh
    rw [if_neg (by rintro ⟨h1,h2⟩;rcases hh with hh|hh;exact h1 hh;rw [h2] at hh;cases hh)] at h
    exact h
   cases hb:rd.bad with
   | true=>
    have h:=hend (.inr hb)
    have hs:Sat W0 (blk r 190 [.slice ar rd.rest.length cr,.bool true]::vw (.slice ar rd.rest.length cr) rd.rest::blk b 133 (aj K z2 s1)::ea K.d z2 ls::aS z.m []::aO bF z.sn (aC [])::ag K.d D2::F) w:=by rw [← hb];exact hs
    unfold sG at h
    dsimp only at h
    rw [if_pos hb] at h
    simp only [Option.some.injEq,Prod.mk.injEq] at h
    obtain ⟨rfl,rfl⟩:=h
    by_cases hre:rd.rest=[]
    ·have hl0:¬ ((rd.rest.length:Int) > 0):=by rw [hre];simp
     refine gx ?_
     refine ae (met (gl (s:=aN) hs) ?_)
     clear hs
     rintro _ w ⟨ve,rfl,hs⟩
     refine ⟨_,rfl,?_⟩
     refine gx ?_
     exact ak rfl ⟨_,rfl,Sat.jQ (hcl _ _ hs.to)⟩
    ·have hl0:((rd.rest.length:Int) > 0):=by have:=List.length_pos_iff.2 hre;omega
     refine gx ?_
     refine ae (met (gl (s:=aN) hs) ?_)
     clear hs
     rintro _ w ⟨ve,rfl,hs⟩
     refine ⟨_,rfl,?_⟩
     refine gx ?_
     exact ak rfl ⟨_,rfl,Sat.jQ (hcl _ _ hs.to)⟩
   | false=>
    have hs:Sat W0 (blk r 190 [.slice ar rd.rest.length cr,.bool false]::vw (.slice ar rd.rest.length cr) rd.rest::blk b 133 (aj K z2 s1)::ea K.d z2 ls::aS z.m []::aO bF z.sn (aC [])::ag K.d D2::F) w:=by rw [← hb];exact hs
    by_cases hre:rd.rest=[]
    ·have h:=hend (.inl hre)
     unfold sG at h
     dsimp only at h
     rw [if_neg (by rw [hb];simp)] at h
     have hl0:¬ ((rd.rest.length:Int) > 0):=by rw [hre];simp
     refine gx ?_
     refine ae (met (AV h hE (hcl _ _ hs.to)) ?_)
     clear hs
     rintro _ w ⟨ve,rfl,hs⟩
     refine ⟨_,rfl,?_⟩
     refine gx ?_
     exact ak rfl ⟨_,rfl,hs⟩
    ·have hl0:((rd.rest.length:Int) > 0):=by have:=List.length_pos_iff.2 hre;omega
     rw [if_pos ⟨hre,hb⟩] at h
     refine gx ?_
     have hs:=Sat.fE (rd:=⟨rd.rest,false⟩) hs
     have hrd:(⟨rd.rest,false⟩:Rd)=rd:=by rw [← hb]
     rw [hrd] at hs
     refine ae (met (eS (K:=1) hs (by omega) (by omega)) ?_)
     clear hs
     rintro _ w ⟨rfl,hs⟩
     refine ⟨_,rfl,?_⟩
     have hlt:=rd.ku 1
     have htr:=CQ rd
     generalize hnu:rd.num 1=nu at hs h hlt htr ⊢
     obtain ⟨n1,rd1⟩:=nu
     dsimp only at hs h hlt htr ⊢
     have hlt2:n1<256:=by simpa using hlt
     have hr1:rd1.rest.length≤rd.rest.length:=by have:=Pure.Rd.cX rd 1;rw [hnu] at this;exact this
     refine gx ?_
     refine bM [blk b 133 (aj K z2 s1)] [(0,false),(1,false),(2,false),(3,false),(4,false),(5,true),(6,true),(7,false),(8,false),(9,false),(10,false),(11,false)] hs (by kernel_rfl) ?_
     clear hs
     intro w hs
     refine gx ?_
     refine ae (met (gK hs (by omega)) ?_)
     clear hs
     rintro _ w ⟨rfl,hs⟩
     refine ⟨_,rfl,?_⟩
     generalize hnu2:rd1.text=nu2 at hs h htr ⊢
     obtain ⟨nm,rd2⟩:=nu2
     dsimp only at hs h htr ⊢
     refine gx ?_
     cases hop:wF D2 nm with
     | none=>rw [hop] at h;cases h
     | some yy=>
      obtain ⟨xt,D3⟩:=yy
      rw [hop] at h
      refine ae (met (CN hop (F:=vH r rd2::blk b 133 (aj K z2 s1)::ea K.d z2 ls::aS z.m []::aO bF z.sn (aC [])::F) hs.to) ?_)
      clear hs hop
      rintro _ w ⟨tv,ve,rfl,hs⟩
      refine ⟨_,rfl,?_⟩
      have hend3:∀ (ve:Value) (e:cy) (w:World),Sat W0 (aL ve (some e)::blk b 133 (aj K z2 s1)::ea K.d z2 ls::aS z.m []::aO bF z.sn (aC [])::ag K.d D3::F) w→∃ ve',Ending.returned ve=Ending.returned ve'∧Sat W0 (Bh b K (.error e)::ag K.d D3::aL ve' (some e)::F) w:=by
       intro ve e w hs
       exact ⟨_,rfl,Sat.jQ (hcl _ _ hs.to)⟩
      cases xt with
      | error e=>
       unfold sG at h
       simp only [Option.some.injEq,Prod.mk.injEq] at h
       obtain ⟨rfl,rfl⟩:=h
       obtain ⟨t,u,rfl⟩:=(hs.take (.there .here)).aV
       refine gx ?_
       refine ae (met (rT hE (hs.take (.there .here))) ?_)
       clear hs
       rintro _ w ⟨ve,rfl,hs⟩
       refine ⟨_,rfl,?_⟩
       refine gx ?_
       exact ak rfl (hend3 _ _ w hs.to)
      | ok T=>
       have hve:=(hs.take (.there .here)).cD
       subst hve
       dsimp only at h
       by_cases h4n:4≤n1
       ·rw [if_pos h4n] at h
        unfold sG at h
        simp only [Option.some.injEq,Prod.mk.injEq] at h
        obtain ⟨rfl,rfl⟩:=h
        have h4':((n1:Nat):Int) ≥ 4:=by omega
        refine gx ?_
        refine ae (met (gl (s:=aN) hs) ?_)
        clear hs
        rintro _ w ⟨ve,rfl,hs⟩
        refine ⟨_,rfl,?_⟩
        obtain ⟨t,u,rfl⟩:=hs.aV
        refine gx ?_
        refine ae (met (rT hE hs) ?_)
        clear hs
        rintro _ w ⟨ve,rfl,hs⟩
        refine ⟨_,rfl,?_⟩
        rw [AW] at hs
        refine gx ?_
        exact ak rfl (hend3 _ _ w hs.to)
       ·rw [if_neg h4n] at h
        have h4':¬ ((n1:Nat):Int) ≥ 4:=by omega
        by_cases hbig:(ls.getD n1 []).length≤gL
        case neg=>rw [if_neg hbig] at h;cases h
        rw [if_pos hbig] at h
        obtain ⟨p,rfl,h3⟩:∃ p,tv=au p∧Sat W0 (cE K.d p T::ag K.d D3::aL .nilIface (dC (Except.ok T))::vH r rd2::blk b 133 (aj K z2 s1)::ea K.d z2 ls::aS z.m []::aO bF z.sn (aC [])::F) w:=by
         obtain ⟨p,hp,hs⟩:=(hs.take (.there (.there .here))).fg (φ:=fun p=>tv=au p) (B:=fun p=>[cE K.d p T]) fun hp ⟨p,e,k⟩=>⟨p,e,hp,fun _=>none,fun _ _ _ _ hy=>(by cases hy),Hp.le_refl _,fun _ _ hx=>(by cases hx),k,trivial⟩
         exact ⟨p,hp,hs.to⟩
        clear hs
        have hs:=h3
        clear h3
        have hgl:ls[n1]?=some (ls.getD n1 []):=by
         rw [List.getD_eq_getElem?_getD,List.getElem?_eq_getElem (by omega)];rfl
        generalize ls.getD n1 []=L at hgl hbig h
        obtain ⟨lv,hlv,hs⟩:=(hs.take (.there (.there (.there (.there (.there .here)))))).ph hgl (by omega)
        obtain ⟨ps,hps,hs⟩:=hs.iZ
        have hcell:=yk (K:=K) (s:=s1) (by omega) hlv
        rw [bG,← hps] at hbig
        refine gx ?_
        refine cx [blk b 133 (aj K z2 s1)] [7] (.q 0 (.q 1 (.q 2 (.q 3 (.q 4 (.q 5 (.q 6 (.s 7 (.q 8 (.q 11 (.q 12 (.l 9 (.l 10 (.q 13 (.l 14 .nil))))))))))))))) hs (by kernel_rfl) ?_
        clear hs
        intro w hs
        refine ov ?_
        refine yl (p:=(4,129)) rfl rfl rfl rfl rfl (by omega) (by show (n1:Int)<4;omega) rfl ?_
        refine sa rfl rfl rfl .here hcell rfl ?_
        refine ov ?_
        refine fy hs ?_
        clear hs
        intro w b2 hs
        refine gB ?_
        refine dN (hs.to) ?_
        refine ov ?_
        refine eA hs ?_
        clear hs
        intro v2 w hs
        have hs:=hs.to (a:=aI 1 v2 193 (ps.length+1) (ps.map au++[au p])::star (List.zipWith (cE K.d) ps L)::cE K.d p T::Gu K.d z2 ls n1::blk b 133 (aj K z2 s1)::vH r rd2::ag K.d D3::aS z.m []::aO bF z.sn (aC [])::F)
        have hv2:ej v2=true:=by obtain ⟨a7,c7,rfl,-⟩:=hs.aB;rfl
        have hs:=Sat.DS (i:=n1) (by omega) h4 (Sat.B5 hps hs)
        refine gB ?_
        refine cZ rfl ?_
        refine ov ?_
        refine yl (p:=(4,129)) rfl rfl rfl rfl rfl (by omega) (by show (n1:Int)<4;omega) rfl ?_
        refine ov ?_
        refine y8 hs rfl rfl rfl hv2 (.there .here) (by simp [Nat.blt_eq];omega) ?_
        clear hs
        intro w hs
        rw [Cd (by omega)] at hs
        refine gB ?_
        refine cZ rfl ?_
        refine fj ?_
        refine gx ?_
        refine aA ⟨rd2,f,ls.set n1 (L++[T]),z2.put n1 v2,D3⟩ ⟨rfl,rfl,trivial⟩ ⟨⟨h,by simp [h4],by dsimp only;omega,by simp [hzm],by simp [hzs]⟩,?_⟩ (by dsimp only;omega)
        exact hs.to
end
end Go.Proofs.YtecibefflhomdaaGreatDoor
