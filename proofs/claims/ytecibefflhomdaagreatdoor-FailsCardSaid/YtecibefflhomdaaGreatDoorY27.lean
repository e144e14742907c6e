/-
  Part 27: WALKS package levels; WALKS package levels.
-/
import Derived.Test.YtecibefflhomdaaGreatDoorY26
set_option maxHeartbeats 8000000
set_option maxRecDepth 100000
set_option linter.all false
namespace Go.Proofs.YtecibefflhomdaaGreatDoor
open Go
section
open Go.Proofs.YtecibefflhomdaaGreatDoor.Pure (ad az Rd bI less aQ aZ bM bE aD cY dec j3 dT bO gH bj aU dP)
attribute [local irreducible] IntKind.wrap
def Cz (s:St) (D:ad) (key:Bs) (seq:Nat):Out (Option Bs):=if (cI s).length≤1099511627776∧s.mem.length≤1099511627776 then vL s D key seq else none
def CA (s:St) (key:Bs) (seq:Nat):Nat→ad→Out (Option az)
 | 0,D=>match qo s.mem key seq with
  | some e=>some (.ok (some e),D)
  | none=>nd key seq (cI s) D
 | i+1,D=>nd key seq ((cI s).drop i) D
def NM:Except cy (Option az)→Except cy (Option Bs)
 | .ok x=>.ok (dP x)
 | .error e=>.error e
theorem IC {s:St} {D:ad} {key:Bs} {seq:Nat} (h:¬ (key.length=0∨8<key.length)):vL s D key seq=(CA s key seq 0 D).map fun x=>(NM x.1,x.2):=by
 unfold vL CA
 rw [if_neg h]
 cases qo s.mem key seq with
 | some e=>rfl
 | none=>
  dsimp only
  cases nd key seq (cI s) D with
  | none=>rfl
  | some r=>obtain ⟨x,D'⟩:=r;cases x<;>rfl
def NN:Except cy (Option Bs)→Bs
 | .ok (some v)=>v
 | _=>[]
def NO:Except cy (Option Bs)→Bool
 | .ok (some _)=>true
 | _=>false
theorem CB (key:Bs) (seq:Nat) (T:cD) (r:List cD) (D:ad):nd key seq (T::r) D=match um D T key seq with
 | none=>none
 | some (.error e,D')=>some (.error e,D')
 | some (.ok (some x),D')=>some (.ok (some x),D')
 | some (.ok none,D')=>nd key seq r D':=rfl
variable {W0 w:World} {F:List ah} {v:Value} {d m p:Nat} {T:cD} {D D':ad} {M:List az}
theorem FT {b:Nat} {K:SK} {s:St} {key:Bs} {seq:Nat} {x:Except cy (Option Bs)} (h:Cz s D key seq=some (x,D')) (hs:Sat W0 (ni b K s::ag K.d D::F) w) :
 Calls Tryz.prog 84 #[au b,str key,uV seq] w fun y w'=>∃ ve,y=.returned (.tuple #[str (NN x),.bool (NO x),ve])∧Sat W0 (ni b K s::ag K.d D'::ax ve (dk x)::F) w':=by
 unfold Cz at h
 by_cases hg:(cI s).length≤1099511627776∧s.mem.length≤1099511627776
 case neg=>rw [if_neg hg] at h;cases h
 rw [if_pos hg] at h
 obtain ⟨hT,hmx⟩:=hg
 refine enter Tryz.func84 rfl Tryz.ntmps84 Tryz.results84 rfl ?_
 by_cases h0:key.length=0
 ·have h0':((key.length:Nat):Int)=0:=by omega
  unfold vL at h
  rw [if_pos (.inl h0)] at h
  simp only [Option.some.injEq,Prod.mk.injEq] at h
  obtain ⟨rfl,rfl⟩:=h
  refine gx ?_
  exact ak rfl ⟨_,rfl,(Sat.pA (k:=3) hs).to⟩
 ·have h0':¬ ((key.length:Nat):Int)=0:=by omega
  by_cases h8:8<key.length
  ·have h8':((key.length:Nat):Int) > 8:=by omega
   unfold vL at h
   rw [if_pos (.inr h8)] at h
   simp only [Option.some.injEq,Prod.mk.injEq] at h
   obtain ⟨rfl,rfl⟩:=h
   refine gx ?_
   exact ak rfl ⟨_,rfl,(Sat.pA (k:=3) hs).to⟩
  ·have h8':¬ ((key.length:Nat):Int) > 8:=by omega
   rw [IC (by omega)] at h
   obtain ⟨hl,z,hs⟩:=hs.gQ
   refine gx ?_
   refine ae (met (qB hl hT hs) ?_)
   clear hs
   rintro _ w ⟨rv,ps,rfl,hps,hs⟩
   refine ⟨_,rfl,?_⟩
   obtain ⟨ar,cr,rfl,-⟩:=hs.ay
   refine gx ?_
   obtain ⟨r,hr,hx⟩:∃ r,CA s key seq 0 D=some r∧(NM r.1,r.2)=(x,D'):=by
    cases hr:CA s key seq 0 D with
    | none=>rw [hr] at h;cases h
    | some r=>rw [hr] at h;exact ⟨r,rfl,Option.some.inj h⟩
   clear h
   obtain ⟨rx,rD⟩:=r
   simp only [Prod.mk.injEq] at hx
   obtain ⟨hx,rfl⟩:=hx
   refine aL (α:=Nat×ad) (fun q=>[(0,au b),(1,str key),(2,uV seq),(24,.slice ar (1+ps.length) cr),(25,.int .i64 ((1+ps.length:Nat):Int)),(26,.int .i64 (q.1:Int))])
    (fun q w=>(q.1≤1+ps.length∧CA s key seq q.1 q.2=some (rx,rD))∧Sat W0 (aE 1 (.slice ar (1+ps.length) cr) 261 (1+ps.length) (tg z.m::ps.map vz)::fO K.d ps (cI s)::blk b 133 (aj K z s)::dQ K.d z s.levels::aR z.m s.mem::aO bB z.sn (aC s.snaps)::ag K.d q.2::F) w) (fun q=>1+ps.length-q.1) (0,D) ⟨rfl,rfl,rfl,rfl,rfl,rfl,trivial⟩ ⟨⟨by omega,hr⟩,hs.to⟩ ?_
   clear hs hr
   rintro ⟨i,D1⟩ w ⟨⟨hi,hr⟩,hs⟩
   dsimp only at hi hr hs ⊢
   by_cases hlt:i<1+ps.length
   ·have hlt':(i:Int)<((1+ps.length:Nat):Int):=by omega
    have hpl:ps.length<9223372036854775807:=by omega
    cases i with
    | zero=>
     unfold CA at hr
     refine gx ?_
     obtain ⟨bb,cap,rs,hv,q1,q2,q3,hs2⟩:=hs.dV (by omega)
     obtain ⟨rfl,_,rfl⟩:=Value.slice.inj hv
     refine cL (i:=0) rfl rfl rfl rfl rfl (by omega) rfl ?_
     refine eC (v:=tg z.m) hs2 rfl rfl .here rfl rfl ?_
     clear hs2
     refine gx ?_
     refine kq rfl (Ma _) (fun _ _=>qn rfl) rfl rfl (met (yA (key:=key) (seq:=seq) (hs.take (.there (.there (.there (.there .here))))) hmx) ?_)
     clear hs
     rintro _ w ⟨rfl,hs⟩
     refine ⟨_,rfl,?_⟩
     cases hf:qo s.mem key seq with
     | none=>
      rw [hf] at hr
      dsimp only at hr
      refine gx ?_
      refine aS hs ?_
      clear hs
      intro w b11 hs
      refine gx ?_
      refine cZ (vs:=aF (MD none)) hs ?_
      clear hs
      intro w hs
      refine gx ?_
      refine aB (1,D1) ⟨rfl,rfl,rfl,rfl,rfl,rfl,trivial⟩ ⟨⟨by dsimp only;omega,by dsimp only [CA];rw [List.drop_zero];exact hr⟩,hs.to⟩ (by dsimp only;omega)
     | some e=>
      rw [hf] at hr
      simp only [Option.some.injEq,Prod.mk.injEq] at hr
      obtain ⟨rfl,rfl⟩:=hr
      obtain ⟨ek,evl,ed,es⟩:=e
      refine gx ?_
      refine aS hs ?_
      clear hs
      intro w b11 hs
      refine gx ?_
      refine cZ (vs:=aF ⟨ek,evl,ed,es⟩) hs ?_
      clear hs
      intro w hs
      cases ed with
      | false=>
       have hx':x=.ok (some evl):=by rw [← hx];rfl
       subst hx'
       refine gx ?_
       exact ak rfl ⟨_,rfl,(Sat.ei (Sat.bP (s:=s) (z:=z) hl (hs.to (a:=blk b 133 (aj K z s)::dQ K.d z s.levels::aR z.m s.mem::aO bB z.sn (aC s.snaps)::ag K.d D1::F)))).to⟩
      | true=>
       have hx':x=.ok none:=by rw [← hx];rfl
       subst hx'
       refine gx ?_
       exact ak rfl ⟨_,rfl,(Sat.ei (Sat.bP (s:=s) (z:=z) hl (hs.to (a:=blk b 133 (aj K z s)::dQ K.d z s.levels::aR z.m s.mem::aO bB z.sn (aC s.snaps)::ag K.d D1::F)))).to⟩
    | succ i=>
     have hilt:i<ps.length:=by omega
     have hg:ps[i]?=some ps[i]:=List.getElem?_eq_getElem hilt
     have hT1:(cI s)[i]?=some ((cI s)[i]'(by omega)):=List.getElem?_eq_getElem (by omega)
     have hdr:(cI s).drop i=(cI s)[i]'(by omega)::(cI s).drop (i+1):=List.drop_eq_getElem_cons (by omega)
     have hr:nd key seq ((cI s).drop i) D1=some (rx,rD):=hr
     rw [hdr,CB] at hr
     generalize (cI s)[i]'(by omega)=T at hT1 hdr hr
     generalize ps[i]=p at hg
     refine gx ?_
     obtain ⟨bb,cap,rs,hv,q1,q2,q3,hs2⟩:=hs.dV (by omega)
     obtain ⟨rfl,_,rfl⟩:=Value.slice.inj hv
     have hcell:((tg z.m::ps.map vz)++rs)[0+(i+1)*1]?=some (vz p):=by
      rw [Nat.zero_add,Nat.mul_one,List.getElem?_append_left (by simp;omega),List.getElem?_cons_succ,List.getElem?_map,hg];rfl
     refine cL (i:=i+1) rfl rfl rfl rfl rfl (by omega) rfl ?_
     refine eC hs2 rfl rfl .here hcell rfl ?_
     clear hs2
     have hz:=dm (cG K.d) hg hT1
     have hs:=hs.take (.there .here)
     unfold fO at hs
     rw [dG hz] at hs
     have hs:=hs.eS
     refine gx ?_
     cases hf:um D1 T key seq with
     | none=>rw [hf] at hr;cases hr
     | some r=>
      obtain ⟨x1,D2⟩:=r
      rw [hf] at hr
      refine kq rfl (Mb _) (fun _ _=>qn rfl) rfl rfl (met (yB hf (hs.to (a:=cG K.d p T::ag K.d D1::star (List.take i (List.zipWith (cG K.d) ps (cI s))++List.drop (i+1) (List.zipWith (cG K.d) ps (cI s)))::aE 1 (.slice (some ⟨bb,0,none⟩) (1+ps.length) cr) 261 (1+ps.length) (tg z.m::ps.map vz)::blk b 133 (aj K z s)::dQ K.d z s.levels::aR z.m s.mem::aO bB z.sn (aC s.snaps)::F))) ?_)
      clear hs
      rintro _ w ⟨ve,rfl,hs⟩
      refine ⟨_,rfl,?_⟩
      have hs:=(hs.to (a:=cG K.d p T::star (List.take i (List.zipWith (cG K.d) ps (cI s))++List.drop (i+1) (List.zipWith (cG K.d) ps (cI s)))::ax ve (dk x1)::aE 1 (.slice (some ⟨bb,0,none⟩) (1+ps.length) cr) 261 (1+ps.length) (tg z.m::ps.map vz)::blk b 133 (aj K z s)::dQ K.d z s.levels::aR z.m s.mem::aO bB z.sn (aC s.snaps)::ag K.d D2::F)).eK
      rw [← dG hz] at hs
      have hs:Sat W0 (fO K.d ps (cI s)::ax ve (dk x1)::aE 1 (.slice (some ⟨bb,0,none⟩) (1+ps.length) cr) 261 (1+ps.length) (tg z.m::ps.map vz)::blk b 133 (aj K z s)::dQ K.d z s.levels::aR z.m s.mem::aO bB z.sn (aC s.snaps)::ag K.d D2::F) w:=hs
      cases x1 with
      | error e=>
       simp only [Option.some.injEq,Prod.mk.injEq] at hr
       obtain ⟨rfl,rfl⟩:=hr
       have hx':x=.error e:=hx.symm
       subst hx'
       obtain ⟨t,u,rfl⟩:=(hs.take (.there .here)).aW
       refine gx ?_
       refine aS hs ?_
       clear hs
       intro w b11 hs
       refine gx ?_
       refine cZ (vs:=aF cN) hs ?_
       clear hs
       intro w hs
       refine gx ?_
       exact ak rfl ⟨_,rfl,(Sat.bP (s:=s) (z:=z) hl (hs.to (a:=blk b 133 (aj K z s)::dQ K.d z s.levels::aR z.m s.mem::aO bB z.sn (aC s.snaps)::ag K.d D2::ax (.iface t u) (some e)::F))).to⟩
      | ok o=>
       have hve:=(hs.take (.there .here)).cF
       subst hve
       cases o with
       | none=>
        dsimp only at hr
        refine gx ?_
        refine aS hs ?_
        clear hs
        intro w b11 hs
        refine gx ?_
        refine cZ (vs:=aF cN) hs ?_
        clear hs
        intro w hs
        refine gx ?_
        refine aB (i+1+1,D2) ⟨rfl,rfl,rfl,rfl,rfl,rfl,trivial⟩ ⟨⟨by dsimp only;omega,hr⟩,hs.to⟩ (by dsimp only;omega)
       | some e=>
        simp only [Option.some.injEq,Prod.mk.injEq] at hr
        obtain ⟨rfl,rfl⟩:=hr
        obtain ⟨ek,evl,ed,es⟩:=e
        refine gx ?_
        refine aS hs ?_
        clear hs
        intro w b11 hs
        refine gx ?_
        refine cZ (vs:=aF ⟨ek,evl,ed,es⟩) hs ?_
        clear hs
        intro w hs
        cases ed with
        | false=>
         have hx':x=.ok (some evl):=by rw [← hx];rfl
         subst hx'
         refine gx ?_
         exact ak rfl ⟨_,rfl,(Sat.ei (Sat.bP (s:=s) (z:=z) hl (hs.to (a:=blk b 133 (aj K z s)::dQ K.d z s.levels::aR z.m s.mem::aO bB z.sn (aC s.snaps)::ag K.d D2::F)))).to⟩
        | true=>
         have hx':x=.ok none:=by rw [← hx];rfl
         subst hx'
         refine gx ?_
         exact ak rfl ⟨_,rfl,(Sat.ei (Sat.bP (s:=s) (z:=z) hl (hs.to (a:=blk b 133 (aj K z s)::dQ K.d z s.levels::aR z.m s.mem::aO bB z.sn (aC s.snaps)::ag K.d D2::F)))).to⟩
   ·have hie:i=1+ps.length:=by omega
    subst hie
    have hr2:nd key seq ((cI s).drop ps.length) D1=some (rx,rD):=by rw [Nat.add_comm] at hr;exact hr
    rw [hps,List.drop_length] at hr2
    simp only [nd,Option.some.injEq,Prod.mk.injEq] at hr2
    obtain ⟨rfl,rfl⟩:=hr2
    have hx':x=.ok none:=hx.symm
    subst hx'
    have hlt':¬ (((1+ps.length:Nat):Int)<((1+ps.length:Nat):Int)):=by omega
    refine gx ?_
    exact ak rfl ⟨_,rfl,(Sat.ei (Sat.bP (s:=s) (z:=z) hl (hs.to (a:=blk b 133 (aj K z s)::dQ K.d z s.levels::aR z.m s.mem::aO bB z.sn (aC s.snaps)::ag K.d D1::F)))).to⟩
end
section
open Go.Proofs.YtecibefflhomdaaGreatDoor.Pure (ad az Rd bI less aQ aZ bM bE aD cY dec j3 dT bO gH bj aU dP Sc GR lV)
attribute [local irreducible] IntKind.wrap
def Ao (s:St) (D:ad) (lo hi:Bs) (limit:Int) (seq:Nat):Out (List (Bs×Bs)):=if s.mem.length≤1099511627776 then Ae s D lo hi limit seq else none
def gR (p:Bs×Bs):List Value:=[str p.1,str p.2]
def eX (l:List (Bs×Bs)):List (List Value):=l.map gR
abbrev iD (v:Value) (l:List (Bs×Bs)):ah:=aE 2 v 147 l.length (eX l).flatten
def qC (v:Value):Except cy (List (Bs×Bs))→ah
 | .ok l=>iD v l
 | .error _=>fun _=>v=.slice none 0 0
variable {W0 w:World} {F:List ah} {v:Value} {d m p:Nat} {T:cD} {D D':ad} {M:List az}
structure On where
 b15:Nat
 b17:Nat
 b18:Nat
 b7:Nat
 b8:Nat
 b9:Nat
 hi:Bs
 limit:Int
 seq:Nat
abbrev GW (G:On) (k:Sc) (v:Value):List ah:=
 [blk G.b15 74 [v],iD v k.out,blk G.b17 9 [str k.last],blk G.b18 4 [.bool k.any],blk G.b7 9 [str G.hi],blk G.b8 3 [.int .i64 G.limit],blk G.b9 131 [uV G.seq]]
def Oo (G:On) (k:Sc):ah:=fun h=>∃ v,cV (GW G k v) h
theorem Sat.ID {G:On} {k:Sc} (h:Sat W0 (Oo G k::F) w):∃ v,Sat W0 (GW G k v++F) w:=by
 obtain ⟨v,_,hs⟩:=h.eI (φ:=fun _:Value=>True) (B:=fun v=>GW G k v) fun hp ⟨v,k⟩=>⟨v,trivial,k⟩
 exact ⟨v,hs⟩
theorem Sat.qD {G:On} {k:Sc} {v:Value} (h:Sat W0 (GW G k v++F) w):Sat W0 (Oo G k::F) w:=Sat.close h fun hp q=>⟨v,q⟩
theorem pB (l:List (Bs×Bs)) (p:Bs×Bs):(eX (l++[p])).flatten=(eX l).flatten++gR p:=by simp [eX]
attribute [local irreducible] ob aE ag aR aO Oo ax eT OU jm vw cG Mm star fy yq dQ ni
theorem CC {b:Nat} {K:SK} {s:St} {lo hi:Bs} {limit:Int} {seq:Nat} {x:Except cy (List (Bs×Bs))} (h:Ao s D lo hi limit seq=some (x,D')) (hs:Sat W0 (ni b K s::ag K.d D::F) w) :
 Calls Tryz.prog 106 #[au b,str lo,str hi,.int .i64 limit,uV seq] w fun y w'=>∃ pv ve,y=.returned (.tuple #[pv,ve])∧Sat W0 (qC pv x::ni b K s::ag K.d D'::ax ve (dk x)::F) w':=by
 unfold Ao at h
 by_cases hmx:s.mem.length≤1099511627776
 case neg=>rw [if_neg hmx] at h;cases h
 rw [if_pos hmx] at h
 unfold Ae at h
 by_cases hT:(cI s).length+1≤gW
 case neg=>rw [if_neg hT] at h;cases h
 rw [if_pos hT] at h
 rw [bJ] at hT
 obtain ⟨hl,z,hs⟩:=hs.gQ
 refine B0 Tryz.func106 rfl Tryz.ntmps106 Tryz.results106 rfl ?_
 refine gx ?_
 refine cE (z:=[str hi]) hs ?_
 clear hs
 intro w b7 hs
 refine gx ?_
 refine cE (z:=[.int .i64 limit]) hs ?_
 clear hs
 intro w b8 hs
 refine gx ?_
 refine cE (z:=[uV seq]) hs ?_
 clear hs
 intro w b9 hs
 refine gx ?_
 refine ae (met (qB hl (by omega) (hs.eA (.there (.there (.there .here))) (.there (.there (.there .here))))) ?_)
 clear hs
 rintro _ w ⟨sv,ps,rfl,hps,hs⟩
 refine ⟨_,rfl,?_⟩
 obtain ⟨ar,cr,rfl,-⟩:=hs.ay
 refine gx ?_
 have hs:=Sat.Lr (d:=K.d) (m:=z.m) hs
 refine aL (α:=Nat×Value) (fun q=>[(0,au b),(1,str lo),(7,au b7),(8,au b8),(9,au b9),(12,q.2),(21,.slice ar (1+ps.length) cr),(22,.int .i64 ((1+ps.length:Nat):Int)),(23,.int .i64 (q.1:Int))])
  (fun q w=>q.1≤1+ps.length∧Sat W0 (yq K.d z.m q.2 ((iq s.mem lo::(cI s).map fun T=>eF T lo).take q.1)::aE 1 (.slice ar (1+ps.length) cr) 261 (1+ps.length) (tg z.m::ps.map vz)::fO K.d ps (cI s)::blk b 133 (aj K z s)::dQ K.d z s.levels::blk b9 131 [uV seq]::blk b8 3 [.int .i64 limit]::blk b7 9 [str hi]::aR z.m s.mem::aO bB z.sn (aC s.snaps)::ag K.d D::F) w) (fun q=>1+ps.length-q.1) (0,.slice none 0 0) ⟨rfl,rfl,rfl,rfl,rfl,rfl,rfl,rfl,rfl,trivial⟩ ⟨by omega,hs⟩ ?_
 clear hs
 rintro ⟨i,rv⟩ w ⟨hi',hs⟩
 dsimp only at hi' hs ⊢
 by_cases hlt:i<1+ps.length
 ·have hlt':(i:Int)<((1+ps.length:Nat):Int):=by omega
  cases i with
  | zero=>
   refine gx ?_
   obtain ⟨bb,cap,rs,hv,q1,q2,q3,hs2⟩:=(hs.take (.there .here)).dV (by omega)
   obtain ⟨rfl,_,rfl⟩:=Value.slice.inj hv
   refine cL (i:=0) rfl rfl rfl rfl rfl (by omega) rfl ?_
   refine eC (v:=tg z.m) hs2 rfl rfl .here rfl rfl ?_
   clear hs2
   refine gx ?_
   refine kq rfl (Mc _) (fun _ _=>og rfl) rfl rfl (met (qu (key:=lo) (hs.take (.there (.there (.there (.there (.there (.there (.there (.there .here))))))))) hmx) ?_)
   clear hs
   rintro _ w ⟨vf,rfl,hs⟩
   refine ⟨_,rfl,?_⟩
   have hs:Sat W0 (lL K.d z.m vf (iq s.mem lo)::aR z.m s.mem::yq K.d z.m rv []::aE 1 (.slice (some ⟨bb,0,none⟩) (1+ps.length) cr) 261 (1+ps.length) (tg z.m::ps.map vz)::fO K.d ps (cI s)::blk b 133 (aj K z s)::dQ K.d z s.levels::blk b9 131 [uV seq]::blk b8 3 [.int .i64 limit]::blk b7 9 [str hi]::aO bB z.sn (aC s.snaps)::ag K.d D::F) w:=hs
   obtain ⟨ff,qq,rfl⟩:=Sat.qx hs
   refine gx ?_
   refine fw hs ?_
   clear hs
   intro w b9' hs
   obtain ⟨vs,hvs,hs⟩:=(hs.take (.there (.there (.there .here)))).uA
   have hvl:vs.length=0:=by simpa using hvs
   refine dF hs ?_
   clear hs
   intro va2 w hs
   have hs:=Sat.Cv (it:=iq s.mem lo) hvs (hs.to (a:=aE 1 va2 288 (vs.length+1) (vs++[.func (.func ff) #[] qq])::star (List.zipWith (lL K.d z.m) vs [])::lL K.d z.m (.func (.func ff) #[] qq) (iq s.mem lo)::aE 1 (.slice (some ⟨bb,0,none⟩) (1+ps.length) cr) 261 (1+ps.length) (tg z.m::ps.map vz)::fO K.d ps (cI s)::blk b 133 (aj K z s)::dQ K.d z s.levels::blk b9 131 [uV seq]::blk b8 3 [.int .i64 limit]::blk b7 9 [str hi]::aR z.m s.mem::aO bB z.sn (aC s.snaps)::ag K.d D::F))
   refine gx ?_
   exact aB (1,va2) ⟨rfl,rfl,rfl,rfl,rfl,rfl,rfl,rfl,rfl,trivial⟩ ⟨by dsimp only;omega,hs⟩ (by dsimp only;omega)
  | succ i=>
   have hilt:i<ps.length:=by omega
   have hg:ps[i]?=some ps[i]:=List.getElem?_eq_getElem hilt
   have hT1:(cI s)[i]?=some ((cI s)[i]'(by omega)):=List.getElem?_eq_getElem (by omega)
   have htk:(iq s.mem lo::(cI s).map fun T=>eF T lo).take (i+1+1)=(iq s.mem lo::(cI s).map fun T=>eF T lo).take (i+1)++[eF ((cI s)[i]'(by omega)) lo]:=by
    rw [List.take_add_one,List.getElem?_cons_succ,List.getElem?_map,hT1];rfl
   generalize (cI s)[i]'(by omega)=T at hT1 htk
   generalize ps[i]=p at hg
   have hz:=dm (cG K.d) hg hT1
   refine gx ?_
   obtain ⟨bb,cap,rs,hv,q1,q2,q3,hs2⟩:=(hs.take (.there .here)).dV (by omega)
   obtain ⟨rfl,_,rfl⟩:=Value.slice.inj hv
   have hcell:((tg z.m::ps.map vz)++rs)[0+(i+1)*1]?=some (vz p):=by
    rw [Nat.zero_add,Nat.mul_one,List.getElem?_append_left (by simp;omega),List.getElem?_cons_succ,List.getElem?_map,hg];rfl
   refine cL (i:=i+1) rfl rfl rfl rfl rfl (by omega) rfl ?_
   refine eC hs2 rfl rfl .here hcell rfl ?_
   clear hs2
   have hs:=hs.take (.there (.there .here))
   unfold fO at hs
   rw [dG hz] at hs
   have hs:=hs.eS
   refine gx ?_
   refine kq rfl (Me _) (fun _ _=>og rfl) rfl rfl (met (qv (key:=lo) hs) ?_)
   clear hs
   rintro _ w ⟨vf,rfl,hs⟩
   refine ⟨_,rfl,?_⟩
   have hs:=(hs.to (a:=cG K.d p T::star (List.take i (List.zipWith (cG K.d) ps (cI s))++List.drop (i+1) (List.zipWith (cG K.d) ps (cI s)))::lL K.d z.m vf (eF T lo)::yq K.d z.m rv ((iq s.mem lo::(cI s).map fun T=>eF T lo).take (i+1))::aE 1 (.slice (some ⟨bb,0,none⟩) (1+ps.length) cr) 261 (1+ps.length) (tg z.m::ps.map vz)::blk b 133 (aj K z s)::dQ K.d z s.levels::blk b9 131 [uV seq]::blk b8 3 [.int .i64 limit]::blk b7 9 [str hi]::aR z.m s.mem::aO bB z.sn (aC s.snaps)::ag K.d D::F)).eK
   rw [← dG hz] at hs
   have hs:Sat W0 (fO K.d ps (cI s)::lL K.d z.m vf (eF T lo)::yq K.d z.m rv ((iq s.mem lo::(cI s).map fun T=>eF T lo).take (i+1))::aE 1 (.slice (some ⟨bb,0,none⟩) (1+ps.length) cr) 261 (1+ps.length) (tg z.m::ps.map vz)::blk b 133 (aj K z s)::dQ K.d z s.levels::blk b9 131 [uV seq]::blk b8 3 [.int .i64 limit]::blk b7 9 [str hi]::aR z.m s.mem::aO bB z.sn (aC s.snaps)::ag K.d D::F) w:=hs
   obtain ⟨ff,qq,rfl⟩:=Sat.qx (hs.take (.there .here))
   refine gx ?_
   refine fw hs ?_
   clear hs
   intro w b9' hs
   obtain ⟨vs,hvs,hs⟩:=(hs.take (.there (.there (.there .here)))).uA
   have hvl:vs.length=i+1:=by rw [hvs];simp;omega
   refine dF hs ?_
   clear hs
   intro va2 w hs
   have hs:=Sat.Cv (it:=eF T lo) hvs (hs.to (a:=aE 1 va2 288 (vs.length+1) (vs++[.func (.func ff) #[] qq])::star (List.zipWith (lL K.d z.m) vs ((iq s.mem lo::(cI s).map fun T=>eF T lo).take (i+1)))::lL K.d z.m (.func (.func ff) #[] qq) (eF T lo)::aE 1 (.slice (some ⟨bb,0,none⟩) (1+ps.length) cr) 261 (1+ps.length) (tg z.m::ps.map vz)::fO K.d ps (cI s)::blk b 133 (aj K z s)::dQ K.d z s.levels::blk b9 131 [uV seq]::blk b8 3 [.int .i64 limit]::blk b7 9 [str hi]::aR z.m s.mem::aO bB z.sn (aC s.snaps)::ag K.d D::F))
   rw [← htk] at hs
   refine gx ?_
   exact aB (i+1+1,va2) ⟨rfl,rfl,rfl,rfl,rfl,rfl,rfl,rfl,rfl,trivial⟩ ⟨by dsimp only;omega,hs⟩ (by dsimp only;omega)
 ·have hie:i=1+ps.length:=by omega
  subst hie
  have hlt':¬ (((1+ps.length:Nat):Int)<((1+ps.length:Nat):Int)):=by omega
  rw [List.take_of_length_le (by simp;omega)] at hs
  refine gx ?_
  refine aS hs ?_
  clear hs
  intro w b15 hs
  refine gx ?_
  refine aS hs ?_
  clear hs
  intro w b16 hs
  refine gx ?_
  refine aS hs ?_
  clear hs
  intro w b17 hs
  refine gx ?_
  refine aS hs ?_
  clear hs
  intro w b18 hs
  refine gx ?_
  refine bD hs ?_
  clear hs
  intro w hs
  refine gx ?_
  refine bD hs ?_
  clear hs
  intro w hs
  refine gx ?_
  refine ae (met (uB (hs.take (.there (.there (.there (.there .here))))) ) ?_)
  clear hs
  rintro _ w ⟨vm,rfl,hs⟩
  refine ⟨_,rfl,?_⟩
  obtain ⟨k1,oe,hEach,hx⟩:∃ k1 oe,oR s.mem (Ad hi limit seq) gW (.mg ⟨false,iq s.mem lo::(cI s).map fun T=>eF T lo,[]⟩) D GR=some (k1,oe,D')∧((∃ er,oe=some er∧x=.error er)∨(oe=none∧x=.ok k1.out)):=by
   split at h
   ·cases h
   ·rename_i k1 er D2 he
    simp only [Option.some.injEq,Prod.mk.injEq] at h
    obtain ⟨rfl,rfl⟩:=h
    exact ⟨k1,_,he,.inl ⟨_,rfl,rfl⟩⟩
   ·rename_i k1 D2 he
    simp only [Option.some.injEq,Prod.mk.injEq] at h
    obtain ⟨rfl,rfl⟩:=h
    exact ⟨k1,_,he,.inr ⟨rfl,rfl⟩⟩
  clear h
  obtain ⟨ff,qq,rfl⟩:∃ f q,vm=.func (.func f) #[] q:=by
   obtain ⟨_,zm,rfl,_⟩:=hs.Ic
   exact ⟨_,_,rfl⟩
  refine gx ?_
  refine ae (met (wN (f:=ff) (q:=qq) (eb:=b16) hs) ?_)
  clear hs
  rintro _ w ⟨bn,bee,rfl,hs⟩
  refine ⟨_,rfl,?_⟩
  refine gx ?_
  refine WC.sub (e':=[(15,au b15),(16,au b16),(17,au b17),(18,au b18),(7,au b7),(8,au b8),(9,au b9),(36,.func (.func 211) #[] #[au bn,au bee])]) ⟨rfl,rfl,rfl,rfl,rfl,rfl,rfl,rfl,trivial⟩ ?_
  have hs:=Sat.qD (G:=⟨b15,b17,b18,b7,b8,b9,hi,limit,seq⟩) (k:=GR) (v:=.slice none 0 0) (F:=blk bn 288 [.func (.func ff) #[] qq]::blk bee 312 [au b16]::blk b16 41 [.nilIface]::Ej K.d z.m (.func (.func ff) #[] qq) (.mg ⟨false,iq s.mem lo::(cI s).map fun T=>eF T lo,[]⟩)::aR z.m s.mem::ag K.d D::blk b 133 (aj K z s)::dQ K.d z s.levels::aO bB z.sn (aC s.snaps)::F)
   ((hs.cP (k:=2) (E:=147)).to)
  refine Ek (v:=.func (.func ff) #[] qq) (d:=K.d) (m:=z.m) (nx:=.mg ⟨false,iq s.mem lo::(cI s).map fun T=>eF T lo,[]⟩) (C:=fun k=>[Oo ⟨b15,b17,b18,b7,b8,b9,hi,limit,seq⟩ k]) (id:=2) (bn:=bn) (be:=bee) (eb:=b16) (oe:=oe) (s1:=k1) (D':=D') (F:=blk b 133 (aj K z s)::dQ K.d z s.levels::aO bB z.sn (aC s.snaps)::F) rfl rfl rfl hEach hmx hs.to ?_ ?_
  ·clear hs hEach hx
   intro k ent k' c L rc R w hbody hst hs
   dsimp only [List.cons_append,List.nil_append] at hs
   unfold Ad at hbody
   by_cases hbig:k.out.length≤gW
   case neg=>rw [if_neg hbig] at hbody;cases hbody
   rw [if_pos hbig] at hbody
   rw [bJ] at hbig
   have hbody:=Option.some.inj hbody
   refine gz ?_
   refine aS hs ?_
   clear hs
   intro w b19 hs
   refine cZ (vs:=aF ent) hs ?_
   clear hs
   intro w hs
   refine gz ?_
   refine uj (hs.take (.there .here)) hst fun w hs=>?_
   obtain ⟨pv,hs⟩:=Sat.ID (hs.take (.there (.there .here)))
   dsimp only [GW,List.cons_append,List.nil_append] at hs
   generalize hE:([(19,au b19),(37,.agg (aF ent).toArray),(15,au b15),(16,au b16),(17,au b17),(18,au b18),(7,au b7),(8,au b8),(9,au b9),(36,.func (.func 211) #[] #[au bn,au bee])]:Env)=E0
   obtain ⟨ap,cp,rfl,-⟩:=(hs.take (.there .here)).ay
   refine ik ?_
   refine dU ?_
   generalize hc1:decide ((hi≠[]∧Pure.aQ ent.key hi=false)∨(0<limit∧(k.out.length:Int)=limit))=c1
   refine eB (α:=Unit) (fun _=>(55,.bool c1)::E0) (fun _ w=>Sat W0 (GW ⟨b15,b17,b18,b7,b8,b9,hi,limit,seq⟩ k (.slice ap k.out.length cp)++blk b19 256 (aF ent)::ob false L (.loop { rc with state:=.busy })::R) w) ?_ ?_
   ·subst hE
    dsimp only [GW,List.cons_append,List.nil_append]
    by_cases hh:hi=[]
    ·subst hh
     have hh':¬ (([]:List UInt8)≠[]):=by simp
     by_cases hl:0<limit
     ·by_cases he:(k.out.length:Int)=limit
      ·have:c1=true:=by rw [← hc1];simp [hl,he]
       subst this
       refine gz ?_
       exact bg () ⟨rfl,rfl,rfl,rfl,rfl,rfl,rfl,rfl,rfl,rfl,rfl,trivial⟩ hs.to
      ·have:c1=false:=by rw [← hc1];simp [he]
       subst this
       refine gz ?_
       exact bg () ⟨rfl,rfl,rfl,rfl,rfl,rfl,rfl,rfl,rfl,rfl,rfl,trivial⟩ hs.to
     ·have:c1=false:=by rw [← hc1];simp [hl]
      subst this
      refine gz ?_
      exact bg () ⟨rfl,rfl,rfl,rfl,rfl,rfl,rfl,rfl,rfl,rfl,rfl,trivial⟩ hs.to
    ·cases hb:Pure.aQ ent.key hi with
     | false=>
      have:c1=true:=by rw [← hc1];simp [hh,hb]
      subst this
      rw [gZ] at hb
      have hnb:(!o8 ent.key hi)=true:=by rw [hb];rfl
      refine gz ?_
      exact bg () ⟨rfl,rfl,rfl,rfl,rfl,rfl,rfl,rfl,rfl,rfl,rfl,trivial⟩ hs.to
     | true=>
      have hbb:=hb
      rw [gZ] at hbb
      have hnb:(!o8 ent.key hi)=false:=by rw [hbb];rfl
      by_cases hl:0<limit
      ·by_cases he:(k.out.length:Int)=limit
       ·have:c1=true:=by rw [← hc1];simp [hl,he]
        subst this
        refine gz ?_
        exact bg () ⟨rfl,rfl,rfl,rfl,rfl,rfl,rfl,rfl,rfl,rfl,rfl,trivial⟩ hs.to
       ·have:c1=false:=by rw [← hc1];simp [he,hb]
        subst this
        refine gz ?_
        exact bg () ⟨rfl,rfl,rfl,rfl,rfl,rfl,rfl,rfl,rfl,rfl,rfl,trivial⟩ hs.to
      ·have:c1=false:=by rw [← hc1];simp [hl,hb]
       subst this
       refine gz ?_
       exact bg () ⟨rfl,rfl,rfl,rfl,rfl,rfl,rfl,rfl,rfl,rfl,rfl,trivial⟩ hs.to
   clear hs
   rintro-w hs
   dsimp only [GW,List.cons_append,List.nil_append] at hs
   unfold lV at hbody
   cases c1 with
   | true=>
    rw [if_pos (of_decide_eq_true hc1)] at hbody
    obtain ⟨rfl,rfl⟩:=Prod.mk.inj hbody
    subst hE
    refine gx ?_
    refine oO (hs.take (.there (.there (.there (.there (.there (.there (.there (.there .here))))))))) fun w hs=>.inr ⟨rfl,rfl,?_⟩
    dsimp only [List.cons_append,List.nil_append]
    have hs:=Sat.qD (G:=⟨b15,b17,b18,b7,b8,b9,hi,limit,seq⟩) (k:=k) (v:=.slice ap k.out.length cp) (F:=ob false L (.loop { rc with state:=.done,pending:=some (.exit 2) })::R) hs.to
    exact hs.to
   | false=>
    rw [if_neg (of_decide_eq_false hc1)] at hbody
    subst hE
    refine gz ?_
    refine db rfl ?_
    refine WC.sub (e':=[(19,au b19),(37,.agg (aF ent).toArray),(15,au b15),(16,au b16),(17,au b17),(18,au b18),(7,au b7),(8,au b8),(9,au b9),(36,.func (.func 211) #[] #[au bn,au bee])]) ⟨rfl,rfl,rfl,rfl,rfl,rfl,rfl,rfl,rfl,rfl,trivial⟩ ?_
    generalize hE:([(19,au b19),(37,.agg (aF ent).toArray),(15,au b15),(16,au b16),(17,au b17),(18,au b18),(7,au b7),(8,au b8),(9,au b9),(36,.func (.func 211) #[] #[au bn,au bee])]:Env)=E0
    refine dU ?_
    generalize hc2:decide (seq<ent.seq∨(k.any=true∧ent.key=k.last))=c2
    refine eB (α:=Unit) (fun _=>(68,.bool c2)::E0) (fun _ w=>Sat W0 (GW ⟨b15,b17,b18,b7,b8,b9,hi,limit,seq⟩ k (.slice ap k.out.length cp)++blk b19 256 (aF ent)::ob false L (.loop { rc with state:=.busy })::R) w) ?_ ?_
    ·subst hE
     clear hbody hc1
     dsimp only [GW,List.cons_append,List.nil_append]
     obtain ⟨out,last,any⟩:=k
     dsimp only at hs hc2 ⊢
     by_cases hq:seq<ent.seq
     ·have:c2=true:=by rw [← hc2];simp [hq]
      subst this
      have hq':(seq:Int)<(ent.seq:Int):=by omega
      refine gz ?_
      exact bg () ⟨rfl,rfl,rfl,rfl,rfl,rfl,rfl,rfl,rfl,rfl,rfl,trivial⟩ hs.to
     ·have hq':¬ ((seq:Int)<(ent.seq:Int)):=by omega
      cases any with
      | false=>
       have:c2=false:=by rw [← hc2];simp [hq]
       subst this
       refine gz ?_
       exact bg () ⟨rfl,rfl,rfl,rfl,rfl,rfl,rfl,rfl,rfl,rfl,rfl,trivial⟩ hs.to
      | true=>
       by_cases hk:ent.key=last
       ·have:c2=true:=by rw [← hc2];simp [hk]
        subst this
        refine gz ?_
        exact bg () ⟨rfl,rfl,rfl,rfl,rfl,rfl,rfl,rfl,rfl,rfl,rfl,trivial⟩ hs.to
       ·have:c2=false:=by rw [← hc2];simp [hq,hk]
        subst this
        refine gz ?_
        exact bg () ⟨rfl,rfl,rfl,rfl,rfl,rfl,rfl,rfl,rfl,rfl,rfl,trivial⟩ hs.to
    clear hs
    rintro-w hs
    dsimp only [GW,List.cons_append,List.nil_append] at hs
    cases c2 with
    | true=>
     rw [if_pos (of_decide_eq_true hc2)] at hbody
     obtain ⟨rfl,rfl⟩:=Prod.mk.inj hbody
     subst hE
     refine gx ?_
     refine je (hs.take (.there (.there (.there (.there (.there (.there (.there (.there .here))))))))) fun w hs=>.inl ⟨rfl,rfl,?_⟩
     dsimp only [List.cons_append,List.nil_append]
     have hs:=Sat.qD (G:=⟨b15,b17,b18,b7,b8,b9,hi,limit,seq⟩) (k:=k) (v:=.slice ap k.out.length cp) (F:=ob false L (.loop { rc with state:=.ready,pending:=none })::R) hs.to
     exact hs.to
    | false=>
     rw [if_neg (of_decide_eq_false hc2)] at hbody
     obtain ⟨rfl,rfl⟩:=Prod.mk.inj hbody
     subst hE
     refine gx ?_
     refine bD hs ?_
     clear hs
     intro w hs
     refine gx ?_
     refine bD hs ?_
     clear hs
     intro w hs
     obtain ⟨ek,evl,ed,es⟩:=ent
     cases ed with
     | true=>
      refine gx ?_
      refine je (hs.take (.there (.there (.there (.there (.there (.there (.there (.there .here))))))))) fun w hs=>.inl ⟨rfl,rfl,?_⟩
      dsimp only [List.cons_append,List.nil_append]
      have hs:=Sat.qD (G:=⟨b15,b17,b18,b7,b8,b9,hi,limit,seq⟩) (k:=⟨k.out,ek,true⟩) (v:=.slice ap k.out.length cp) (F:=ob false L (.loop { rc with state:=.ready,pending:=none })::R) hs.to
      exact hs.to
     | false=>
      refine gx ?_
      refine bA (gR (ek,evl)) ?_
      refine gx ?_
      refine gN (gR (ek,evl)) hs (fun w b2 hs=>?_)
      refine dF hs ?_
      clear hs
      intro v2 w hs
      obtain ⟨a7,c7,rfl,-⟩:=hs.ay
      refine gx ?_
      refine bD hs ?_
      clear hs
      intro w hs
      refine gx ?_
      have e1:aE 2 (.slice a7 (k.out.length+1) c7) 147 (k.out.length+1) ((eX k.out).flatten++gR (ek,evl))=iD (.slice a7 (k.out.length+1) c7) (k.out++[(ek,evl)]):=by
       rw [← pB];show _=aE 2 _ 147 (k.out++[(ek,evl)]).length _;rw [List.length_append];rfl
      rw [e1] at hs
      refine je (hs.take (.there (.there (.there (.there (.there (.there (.there (.there .here))))))))) fun w hs=>.inl ⟨rfl,rfl,?_⟩
      dsimp only [List.cons_append,List.nil_append]
      have hs:=Sat.qD (G:=⟨b15,b17,b18,b7,b8,b9,hi,limit,seq⟩) (k:=⟨k.out++[(ek,evl)],ek,true⟩) (v:=.slice a7 (k.out.length+1) c7) (F:=ob false L (.loop { rc with state:=.ready,pending:=none })::R) hs.to
      exact hs.to
  ·clear hs hEach
   intro xx Dk ve w hxx hs
   dsimp only [List.cons_append,List.nil_append] at hs
   obtain ⟨pv,hs⟩:=Sat.ID (hs.take (.there (.there (.there (.there (.there .here))))))
   dsimp only [GW,List.cons_append,List.nil_append] at hs
   obtain ⟨ap,cp,rfl,-⟩:=(hs.take (.there .here)).ay
   rcases hx with ⟨er,rfl,rfl⟩|⟨rfl,rfl⟩
   ·obtain ⟨t,u,rfl⟩:=(hs.take (.there (.there (.there (.there (.there (.there (.there (.there (.there .here)))))))))).aW
    rcases hxx with rfl|rfl<;>(
     refine gx ?_
     refine bU [blk b16 41 [.iface t u]] [(0,false),(1,false),(2,false)] hs (by kernel_rfl) ?_
     clear hs
     intro w hs
     refine gx ?_
     refine ql (hs.take (.there (.there (.there (.there (.there (.there (.there .here)))))))) rfl ?_
     clear hs
     intro w hs
     refine ⟨_,_,rfl,?_⟩
     have hs:=Sat.bP (s:=s) (z:=z) hl (hs.to (a:=blk b 133 (aj K z s)::dQ K.d z s.levels::aR z.m s.mem::aO bB z.sn (aC s.snaps)::ag K.d D'::ax (.iface t u) (some er)::F))
     exact hs.imp fun hp r=>⟨fun _=>none,hp,fun _ _ _ hx=>(by cases hx),fun _ _ hx=>(by cases hx),Hp.le_refl _,rfl,r⟩)
   ·have hve:=(hs.take (.there (.there (.there (.there (.there (.there (.there (.there (.there .here)))))))))).cF
    subst hve
    rcases hxx with rfl|rfl<;>(
     refine gx ?_
     refine ql (hs.take (.there (.there (.there (.there (.there (.there (.there .here)))))))) rfl ?_
     clear hs
     intro w hs
     refine ⟨_,_,rfl,?_⟩
     have hs:=Sat.bP (s:=s) (z:=z) hl (hs.to (a:=blk b 133 (aj K z s)::dQ K.d z s.levels::aR z.m s.mem::aO bB z.sn (aC s.snaps)::iD (.slice ap k1.out.length cp) k1.out::ag K.d D'::ax .nilIface none::F))
     exact hs.to)
end
end Go.Proofs.YtecibefflhomdaaGreatDoor
