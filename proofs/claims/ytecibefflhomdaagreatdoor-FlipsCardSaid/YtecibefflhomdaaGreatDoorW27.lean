/-
  Part 27: WALKS package levels; WALKS package levels.
-/
import Derived.Test.YtecibefflhomdaaGreatDoorW26
set_option maxHeartbeats 8000000
set_option maxRecDepth 100000
set_option linter.all false
namespace Go.Proofs.YtecibefflhomdaaGreatDoor
open Go
section
open Go.Proofs.YtecibefflhomdaaGreatDoor.Pure (ad ay Rd bu less aQ aY bz bB az cU dec iL dG bX gC aZ aD dB)
attribute [local irreducible] IntKind.wrap
def Cj (s:St) (D:ad) (key:Bs) (seq:Nat):Out (Option Bs):=if (cB s).length≤1099511627776∧s.mem.length≤1099511627776 then vK s D key seq else none
def Ck (s:St) (key:Bs) (seq:Nat):Nat→ad→Out (Option ay)
 | 0,D=>match qk s.mem key seq with
  | some e=>some (.ok (some e),D)
  | none=>mZ key seq (cB s) D
 | i+1,D=>mZ key seq ((cB s).drop i) D
def Nf:Except cy (Option ay)→Except cy (Option Bs)
 | .ok x=>.ok (dB x)
 | .error e=>.error e
theorem Ie {s:St} {D:ad} {key:Bs} {seq:Nat} (h:¬ (key.length=0∨8<key.length)):vK s D key seq=(Ck s key seq 0 D).map fun x=>(Nf x.1,x.2):=by
 unfold vK Ck
 rw [if_neg h]
 cases qk s.mem key seq with
 | some e=>rfl
 | none=>
  dsimp only
  cases mZ key seq (cB s) D with
  | none=>rfl
  | some r=>obtain ⟨x,D'⟩:=r;cases x<;>rfl
def MH:Except cy (Option Bs)→Bs
 | .ok (some v)=>v
 | _=>[]
def MI:Except cy (Option Bs)→Bool
 | .ok (some _)=>true
 | _=>false
theorem Cl (key:Bs) (seq:Nat) (T:cO) (r:List cO) (D:ad):mZ key seq (T::r) D=match uh D T key seq with
 | none=>none
 | some (.error e,D')=>some (.error e,D')
 | some (.ok (some x),D')=>some (.ok (some x),D')
 | some (.ok none,D')=>mZ key seq r D':=rfl
variable {W0 w:World} {F:List ah} {v:Value} {d m p:Nat} {T:cO} {D D':ad} {M:List ay}
theorem Fo {b:Nat} {K:SK} {s:St} {key:Bs} {seq:Nat} {x:Except cy (Option Bs)} (h:Cj s D key seq=some (x,D')) (hs:Sat W0 (nd b K s::ag K.d D::F) w) :
 Calls Tryz.prog 84 #[au b,str key,uV seq] w fun y w'=>∃ ve,y=.returned (.tuple #[str (MH x),.bool (MI x),ve])∧Sat W0 (nd b K s::ag K.d D'::aL ve (dC x)::F) w':=by
 unfold Cj at h
 by_cases hg:(cB s).length≤1099511627776∧s.mem.length≤1099511627776
 case neg=>rw [if_neg hg] at h;cases h
 rw [if_pos hg] at h
 obtain ⟨hT,hmx⟩:=hg
 refine enter Tryz.func84 rfl Tryz.ntmps84 Tryz.results84 rfl ?_
 by_cases h0:key.length=0
 ·have h0':((key.length:Nat):Int)=0:=by omega
  unfold vK at h
  rw [if_pos (.inl h0)] at h
  simp only [Option.some.injEq,Prod.mk.injEq] at h
  obtain ⟨rfl,rfl⟩:=h
  refine gx ?_
  exact ak rfl ⟨_,rfl,(Sat.pg (k:=3) hs).to⟩
 ·have h0':¬ ((key.length:Nat):Int)=0:=by omega
  by_cases h8:8<key.length
  ·have h8':((key.length:Nat):Int) > 8:=by omega
   unfold vK at h
   rw [if_pos (.inr h8)] at h
   simp only [Option.some.injEq,Prod.mk.injEq] at h
   obtain ⟨rfl,rfl⟩:=h
   refine gx ?_
   exact ak rfl ⟨_,rfl,(Sat.pg (k:=3) hs).to⟩
  ·have h8':¬ ((key.length:Nat):Int) > 8:=by omega
   rw [Ie (by omega)] at h
   obtain ⟨hl,z,hs⟩:=hs.gM
   refine gx ?_
   refine ae (met (qz hl hT hs) ?_)
   clear hs
   rintro _ w ⟨rv,ps,rfl,hps,hs⟩
   refine ⟨_,rfl,?_⟩
   obtain ⟨ar,cr,rfl,-⟩:=hs.aB
   refine gx ?_
   obtain ⟨r,hr,hx⟩:∃ r,Ck s key seq 0 D=some r∧(Nf r.1,r.2)=(x,D'):=by
    cases hr:Ck s key seq 0 D with
    | none=>rw [hr] at h;cases h
    | some r=>rw [hr] at h;exact ⟨r,rfl,Option.some.inj h⟩
   clear h
   obtain ⟨rx,rD⟩:=r
   simp only [Prod.mk.injEq] at hx
   obtain ⟨hx,rfl⟩:=hx
   refine aK (α:=Nat×ad) (fun q=>[(0,au b),(1,str key),(2,uV seq),(24,.slice ar (1+ps.length) cr),(25,.int .i64 ((1+ps.length:Nat):Int)),(26,.int .i64 (q.1:Int))])
    (fun q w=>(q.1≤1+ps.length∧Ck s key seq q.1 q.2=some (rx,rD))∧Sat W0 (aI 1 (.slice ar (1+ps.length) cr) 261 (1+ps.length) (sZ z.m::ps.map vz)::fF K.d ps (cB s)::blk b 133 (aj K z s)::ea K.d z s.levels::aS z.m s.mem::aO bF z.sn (aC s.snaps)::ag K.d q.2::F) w) (fun q=>1+ps.length-q.1) (0,D) ⟨rfl,rfl,rfl,rfl,rfl,rfl,trivial⟩ ⟨⟨by omega,hr⟩,hs.to⟩ ?_
   clear hs hr
   rintro ⟨i,D1⟩ w ⟨⟨hi,hr⟩,hs⟩
   dsimp only at hi hr hs ⊢
   by_cases hlt:i<1+ps.length
   ·have hlt':(i:Int)<((1+ps.length:Nat):Int):=by omega
    have hpl:ps.length<9223372036854775807:=by omega
    cases i with
    | zero=>
     unfold Ck at hr
     refine gx ?_
     obtain ⟨bb,cap,rs,hv,q1,q2,q3,hs2⟩:=hs.dr (by omega)
     obtain ⟨rfl,_,rfl⟩:=Value.slice.inj hv
     refine cK (i:=0) rfl rfl rfl rfl rfl (by omega) rfl ?_
     refine eE (v:=sZ z.m) hs2 rfl rfl .here rfl rfl ?_
     clear hs2
     refine gx ?_
     refine kg rfl (Lz _) (fun _ _=>qi rfl) rfl rfl (met (yo (key:=key) (seq:=seq) (hs.take (.there (.there (.there (.there .here))))) hmx) ?_)
     clear hs
     rintro _ w ⟨rfl,hs⟩
     refine ⟨_,rfl,?_⟩
     cases hf:qk s.mem key seq with
     | none=>
      rw [hf] at hr
      dsimp only at hr
      refine gx ?_
      refine aW hs ?_
      clear hs
      intro w b11 hs
      refine gx ?_
      refine cV (vs:=aF (L6 none)) hs ?_
      clear hs
      intro w hs
      refine gx ?_
      refine aA (1,D1) ⟨rfl,rfl,rfl,rfl,rfl,rfl,trivial⟩ ⟨⟨by dsimp only;omega,by dsimp only [Ck];rw [List.drop_zero];exact hr⟩,hs.to⟩ (by dsimp only;omega)
     | some e=>
      rw [hf] at hr
      simp only [Option.some.injEq,Prod.mk.injEq] at hr
      obtain ⟨rfl,rfl⟩:=hr
      obtain ⟨ek,evl,ed,es⟩:=e
      refine gx ?_
      refine aW hs ?_
      clear hs
      intro w b11 hs
      refine gx ?_
      refine cV (vs:=aF ⟨ek,evl,ed,es⟩) hs ?_
      clear hs
      intro w hs
      cases ed with
      | false=>
       have hx':x=.ok (some evl):=by rw [← hx];rfl
       subst hx'
       refine gx ?_
       exact ak rfl ⟨_,rfl,(Sat.dW (Sat.bJ (s:=s) (z:=z) hl (hs.to (a:=blk b 133 (aj K z s)::ea K.d z s.levels::aS z.m s.mem::aO bF z.sn (aC s.snaps)::ag K.d D1::F)))).to⟩
      | true=>
       have hx':x=.ok none:=by rw [← hx];rfl
       subst hx'
       refine gx ?_
       exact ak rfl ⟨_,rfl,(Sat.dW (Sat.bJ (s:=s) (z:=z) hl (hs.to (a:=blk b 133 (aj K z s)::ea K.d z s.levels::aS z.m s.mem::aO bF z.sn (aC s.snaps)::ag K.d D1::F)))).to⟩
    | succ i=>
     have hilt:i<ps.length:=by omega
     have hg:ps[i]?=some ps[i]:=List.getElem?_eq_getElem hilt
     have hT1:(cB s)[i]?=some ((cB s)[i]'(by omega)):=List.getElem?_eq_getElem (by omega)
     have hdr:(cB s).drop i=(cB s)[i]'(by omega)::(cB s).drop (i+1):=List.drop_eq_getElem_cons (by omega)
     have hr:mZ key seq ((cB s).drop i) D1=some (rx,rD):=hr
     rw [hdr,Cl] at hr
     generalize (cB s)[i]'(by omega)=T at hT1 hdr hr
     generalize ps[i]=p at hg
     refine gx ?_
     obtain ⟨bb,cap,rs,hv,q1,q2,q3,hs2⟩:=hs.dr (by omega)
     obtain ⟨rfl,_,rfl⟩:=Value.slice.inj hv
     have hcell:((sZ z.m::ps.map vz)++rs)[0+(i+1)*1]?=some (vz p):=by
      rw [Nat.zero_add,Nat.mul_one,List.getElem?_append_left (by simp;omega),List.getElem?_cons_succ,List.getElem?_map,hg];rfl
     refine cK (i:=i+1) rfl rfl rfl rfl rfl (by omega) rfl ?_
     refine eE hs2 rfl rfl .here hcell rfl ?_
     clear hs2
     have hz:=db (cE K.d) hg hT1
     have hs:=hs.take (.there .here)
     unfold fF at hs
     rw [dM hz] at hs
     have hs:=hs.fL
     refine gx ?_
     cases hf:uh D1 T key seq with
     | none=>rw [hf] at hr;cases hr
     | some r=>
      obtain ⟨x1,D2⟩:=r
      rw [hf] at hr
      refine kg rfl (LA _) (fun _ _=>qi rfl) rfl rfl (met (yp hf (hs.to (a:=cE K.d p T::ag K.d D1::star (List.take i (List.zipWith (cE K.d) ps (cB s))++List.drop (i+1) (List.zipWith (cE K.d) ps (cB s)))::aI 1 (.slice (some ⟨bb,0,none⟩) (1+ps.length) cr) 261 (1+ps.length) (sZ z.m::ps.map vz)::blk b 133 (aj K z s)::ea K.d z s.levels::aS z.m s.mem::aO bF z.sn (aC s.snaps)::F))) ?_)
      clear hs
      rintro _ w ⟨ve,rfl,hs⟩
      refine ⟨_,rfl,?_⟩
      have hs:=(hs.to (a:=cE K.d p T::star (List.take i (List.zipWith (cE K.d) ps (cB s))++List.drop (i+1) (List.zipWith (cE K.d) ps (cB s)))::aL ve (dC x1)::aI 1 (.slice (some ⟨bb,0,none⟩) (1+ps.length) cr) 261 (1+ps.length) (sZ z.m::ps.map vz)::blk b 133 (aj K z s)::ea K.d z s.levels::aS z.m s.mem::aO bF z.sn (aC s.snaps)::ag K.d D2::F)).gu
      rw [← dM hz] at hs
      have hs:Sat W0 (fF K.d ps (cB s)::aL ve (dC x1)::aI 1 (.slice (some ⟨bb,0,none⟩) (1+ps.length) cr) 261 (1+ps.length) (sZ z.m::ps.map vz)::blk b 133 (aj K z s)::ea K.d z s.levels::aS z.m s.mem::aO bF z.sn (aC s.snaps)::ag K.d D2::F) w:=hs
      cases x1 with
      | error e=>
       simp only [Option.some.injEq,Prod.mk.injEq] at hr
       obtain ⟨rfl,rfl⟩:=hr
       have hx':x=.error e:=hx.symm
       subst hx'
       obtain ⟨t,u,rfl⟩:=(hs.take (.there .here)).aV
       refine gx ?_
       refine aW hs ?_
       clear hs
       intro w b11 hs
       refine gx ?_
       refine cV (vs:=aF cJ) hs ?_
       clear hs
       intro w hs
       refine gx ?_
       exact ak rfl ⟨_,rfl,(Sat.bJ (s:=s) (z:=z) hl (hs.to (a:=blk b 133 (aj K z s)::ea K.d z s.levels::aS z.m s.mem::aO bF z.sn (aC s.snaps)::ag K.d D2::aL (.iface t u) (some e)::F))).to⟩
      | ok o=>
       have hve:=(hs.take (.there .here)).cD
       subst hve
       cases o with
       | none=>
        dsimp only at hr
        refine gx ?_
        refine aW hs ?_
        clear hs
        intro w b11 hs
        refine gx ?_
        refine cV (vs:=aF cJ) hs ?_
        clear hs
        intro w hs
        refine gx ?_
        refine aA (i+1+1,D2) ⟨rfl,rfl,rfl,rfl,rfl,rfl,trivial⟩ ⟨⟨by dsimp only;omega,hr⟩,hs.to⟩ (by dsimp only;omega)
       | some e=>
        simp only [Option.some.injEq,Prod.mk.injEq] at hr
        obtain ⟨rfl,rfl⟩:=hr
        obtain ⟨ek,evl,ed,es⟩:=e
        refine gx ?_
        refine aW hs ?_
        clear hs
        intro w b11 hs
        refine gx ?_
        refine cV (vs:=aF ⟨ek,evl,ed,es⟩) hs ?_
        clear hs
        intro w hs
        cases ed with
        | false=>
         have hx':x=.ok (some evl):=by rw [← hx];rfl
         subst hx'
         refine gx ?_
         exact ak rfl ⟨_,rfl,(Sat.dW (Sat.bJ (s:=s) (z:=z) hl (hs.to (a:=blk b 133 (aj K z s)::ea K.d z s.levels::aS z.m s.mem::aO bF z.sn (aC s.snaps)::ag K.d D2::F)))).to⟩
        | true=>
         have hx':x=.ok none:=by rw [← hx];rfl
         subst hx'
         refine gx ?_
         exact ak rfl ⟨_,rfl,(Sat.dW (Sat.bJ (s:=s) (z:=z) hl (hs.to (a:=blk b 133 (aj K z s)::ea K.d z s.levels::aS z.m s.mem::aO bF z.sn (aC s.snaps)::ag K.d D2::F)))).to⟩
   ·have hie:i=1+ps.length:=by omega
    subst hie
    have hr2:mZ key seq ((cB s).drop ps.length) D1=some (rx,rD):=by rw [Nat.add_comm] at hr;exact hr
    rw [hps,List.drop_length] at hr2
    simp only [mZ,Option.some.injEq,Prod.mk.injEq] at hr2
    obtain ⟨rfl,rfl⟩:=hr2
    have hx':x=.ok none:=hx.symm
    subst hx'
    have hlt':¬ (((1+ps.length:Nat):Int)<((1+ps.length:Nat):Int)):=by omega
    refine gx ?_
    exact ak rfl ⟨_,rfl,(Sat.dW (Sat.bJ (s:=s) (z:=z) hl (hs.to (a:=blk b 133 (aj K z s)::ea K.d z s.levels::aS z.m s.mem::aO bF z.sn (aC s.snaps)::ag K.d D1::F)))).to⟩
end
section
open Go.Proofs.YtecibefflhomdaaGreatDoor.Pure (ad ay Rd bu less aQ aY bz bB az cU dec iL dG bX gC aZ aD dB Sc Gr lP)
attribute [local irreducible] IntKind.wrap
def Ad (s:St) (D:ad) (lo hi:Bs) (limit:Int) (seq:Nat):Out (List (Bs×Bs)):=if s.mem.length≤1099511627776 then zW s D lo hi limit seq else none
def l6 (p:Bs×Bs):List Value:=[str p.1,str p.2]
def gn (l:List (Bs×Bs)):List (List Value):=l.map l6
abbrev Ae (v:Value) (l:List (Bs×Bs)):ah:=aI 2 v 147 l.length (gn l).flatten
def wP (v:Value):Except cy (List (Bs×Bs))→ah
 | .ok l=>Ae v l
 | .error _=>fun _=>v=.slice none 0 0
variable {W0 w:World} {F:List ah} {v:Value} {d m p:Nat} {T:cO} {D D':ad} {M:List ay}
structure NN where
 b15:Nat
 b17:Nat
 b18:Nat
 b7:Nat
 b8:Nat
 b9:Nat
 hi:Bs
 limit:Int
 seq:Nat
abbrev Gv (G:NN) (k:Sc) (v:Value):List ah:=
 [blk G.b15 74 [v],Ae v k.out,blk G.b17 9 [str k.last],blk G.b18 4 [.bool k.any],blk G.b7 9 [str G.hi],blk G.b8 3 [.int .i64 G.limit],blk G.b9 131 [uV G.seq]]
def NO (G:NN) (k:Sc):ah:=fun h=>∃ v,cR (Gv G k v) h
theorem Sat.Ig {G:NN} {k:Sc} (h:Sat W0 (NO G k::F) w):∃ v,Sat W0 (Gv G k v++F) w:=by
 obtain ⟨v,_,hs⟩:=h.fg (φ:=fun _:Value=>True) (B:=fun v=>Gv G k v) fun hp ⟨v,k⟩=>⟨v,trivial,k⟩
 exact ⟨v,hs⟩
theorem Sat.qA {G:NN} {k:Sc} {v:Value} (h:Sat W0 (Gv G k v++F) w):Sat W0 (NO G k::F) w:=Sat.close h fun hp q=>⟨v,q⟩
theorem uJ (l:List (Bs×Bs)) (p:Bs×Bs):(gn (l++[p])).flatten=(gn l).flatten++l6 p:=by simp [gn]
attribute [local irreducible] ob aI ag aS aO NO aL eM Oh kD vw cE LK star fi yg ea nd
theorem Cm {b:Nat} {K:SK} {s:St} {lo hi:Bs} {limit:Int} {seq:Nat} {x:Except cy (List (Bs×Bs))} (h:Ad s D lo hi limit seq=some (x,D')) (hs:Sat W0 (nd b K s::ag K.d D::F) w) :
 Calls Tryz.prog 106 #[au b,str lo,str hi,.int .i64 limit,uV seq] w fun y w'=>∃ pv ve,y=.returned (.tuple #[pv,ve])∧Sat W0 (wP pv x::nd b K s::ag K.d D'::aL ve (dC x)::F) w':=by
 unfold Ad at h
 by_cases hmx:s.mem.length≤1099511627776
 case neg=>rw [if_neg hmx] at h;cases h
 rw [if_pos hmx] at h
 unfold zW at h
 by_cases hT:(cB s).length+1≤gL
 case neg=>rw [if_neg hT] at h;cases h
 rw [if_pos hT] at h
 rw [bG] at hT
 obtain ⟨hl,z,hs⟩:=hs.gM
 refine Ho Tryz.func106 rfl Tryz.ntmps106 Tryz.results106 rfl ?_
 refine gx ?_
 refine cC (z:=[str hi]) hs ?_
 clear hs
 intro w b7 hs
 refine gx ?_
 refine cC (z:=[.int .i64 limit]) hs ?_
 clear hs
 intro w b8 hs
 refine gx ?_
 refine cC (z:=[uV seq]) hs ?_
 clear hs
 intro w b9 hs
 refine gx ?_
 refine ae (met (qz hl (by omega) (hs.fG (.there (.there (.there .here))) (.there (.there (.there .here))))) ?_)
 clear hs
 rintro _ w ⟨sv,ps,rfl,hps,hs⟩
 refine ⟨_,rfl,?_⟩
 obtain ⟨ar,cr,rfl,-⟩:=hs.aB
 refine gx ?_
 have hs:=Sat.KU (d:=K.d) (m:=z.m) hs
 refine aK (α:=Nat×Value) (fun q=>[(0,au b),(1,str lo),(7,au b7),(8,au b8),(9,au b9),(12,q.2),(21,.slice ar (1+ps.length) cr),(22,.int .i64 ((1+ps.length:Nat):Int)),(23,.int .i64 (q.1:Int))])
  (fun q w=>q.1≤1+ps.length∧Sat W0 (yg K.d z.m q.2 ((ij s.mem lo::(cB s).map fun T=>eC T lo).take q.1)::aI 1 (.slice ar (1+ps.length) cr) 261 (1+ps.length) (sZ z.m::ps.map vz)::fF K.d ps (cB s)::blk b 133 (aj K z s)::ea K.d z s.levels::blk b9 131 [uV seq]::blk b8 3 [.int .i64 limit]::blk b7 9 [str hi]::aS z.m s.mem::aO bF z.sn (aC s.snaps)::ag K.d D::F) w) (fun q=>1+ps.length-q.1) (0,.slice none 0 0) ⟨rfl,rfl,rfl,rfl,rfl,rfl,rfl,rfl,rfl,trivial⟩ ⟨by omega,hs⟩ ?_
 clear hs
 rintro ⟨i,rv⟩ w ⟨hi',hs⟩
 dsimp only at hi' hs ⊢
 by_cases hlt:i<1+ps.length
 ·have hlt':(i:Int)<((1+ps.length:Nat):Int):=by omega
  cases i with
  | zero=>
   refine gx ?_
   obtain ⟨bb,cap,rs,hv,q1,q2,q3,hs2⟩:=(hs.take (.there .here)).dr (by omega)
   obtain ⟨rfl,_,rfl⟩:=Value.slice.inj hv
   refine cK (i:=0) rfl rfl rfl rfl rfl (by omega) rfl ?_
   refine eE (v:=sZ z.m) hs2 rfl rfl .here rfl rfl ?_
   clear hs2
   refine gx ?_
   refine kg rfl (LB _) (fun _ _=>oc rfl) rfl rfl (met (qm (key:=lo) (hs.take (.there (.there (.there (.there (.there (.there (.there (.there .here))))))))) hmx) ?_)
   clear hs
   rintro _ w ⟨vf,rfl,hs⟩
   refine ⟨_,rfl,?_⟩
   have hs:Sat W0 (lH K.d z.m vf (ij s.mem lo)::aS z.m s.mem::yg K.d z.m rv []::aI 1 (.slice (some ⟨bb,0,none⟩) (1+ps.length) cr) 261 (1+ps.length) (sZ z.m::ps.map vz)::fF K.d ps (cB s)::blk b 133 (aj K z s)::ea K.d z s.levels::blk b9 131 [uV seq]::blk b8 3 [.int .i64 limit]::blk b7 9 [str hi]::aO bF z.sn (aC s.snaps)::ag K.d D::F) w:=hs
   obtain ⟨ff,qq,rfl⟩:=Sat.qp hs
   refine gx ?_
   refine fy hs ?_
   clear hs
   intro w b9' hs
   obtain ⟨vs,hvs,hs⟩:=(hs.take (.there (.there (.there .here)))).uw
   have hvl:vs.length=0:=by simpa using hvs
   refine eA hs ?_
   clear hs
   intro va2 w hs
   have hs:=Sat.Cf (it:=ij s.mem lo) hvs (hs.to (a:=aI 1 va2 288 (vs.length+1) (vs++[.func (.func ff) #[] qq])::star (List.zipWith (lH K.d z.m) vs [])::lH K.d z.m (.func (.func ff) #[] qq) (ij s.mem lo)::aI 1 (.slice (some ⟨bb,0,none⟩) (1+ps.length) cr) 261 (1+ps.length) (sZ z.m::ps.map vz)::fF K.d ps (cB s)::blk b 133 (aj K z s)::ea K.d z s.levels::blk b9 131 [uV seq]::blk b8 3 [.int .i64 limit]::blk b7 9 [str hi]::aS z.m s.mem::aO bF z.sn (aC s.snaps)::ag K.d D::F))
   refine gx ?_
   exact aA (1,va2) ⟨rfl,rfl,rfl,rfl,rfl,rfl,rfl,rfl,rfl,trivial⟩ ⟨by dsimp only;omega,hs⟩ (by dsimp only;omega)
  | succ i=>
   have hilt:i<ps.length:=by omega
   have hg:ps[i]?=some ps[i]:=List.getElem?_eq_getElem hilt
   have hT1:(cB s)[i]?=some ((cB s)[i]'(by omega)):=List.getElem?_eq_getElem (by omega)
   have htk:(ij s.mem lo::(cB s).map fun T=>eC T lo).take (i+1+1)=(ij s.mem lo::(cB s).map fun T=>eC T lo).take (i+1)++[eC ((cB s)[i]'(by omega)) lo]:=by
    rw [List.take_add_one,List.getElem?_cons_succ,List.getElem?_map,hT1];rfl
   generalize (cB s)[i]'(by omega)=T at hT1 htk
   generalize ps[i]=p at hg
   have hz:=db (cE K.d) hg hT1
   refine gx ?_
   obtain ⟨bb,cap,rs,hv,q1,q2,q3,hs2⟩:=(hs.take (.there .here)).dr (by omega)
   obtain ⟨rfl,_,rfl⟩:=Value.slice.inj hv
   have hcell:((sZ z.m::ps.map vz)++rs)[0+(i+1)*1]?=some (vz p):=by
    rw [Nat.zero_add,Nat.mul_one,List.getElem?_append_left (by simp;omega),List.getElem?_cons_succ,List.getElem?_map,hg];rfl
   refine cK (i:=i+1) rfl rfl rfl rfl rfl (by omega) rfl ?_
   refine eE hs2 rfl rfl .here hcell rfl ?_
   clear hs2
   have hs:=hs.take (.there (.there .here))
   unfold fF at hs
   rw [dM hz] at hs
   have hs:=hs.fL
   refine gx ?_
   refine kg rfl (LC _) (fun _ _=>oc rfl) rfl rfl (met (qn (key:=lo) hs) ?_)
   clear hs
   rintro _ w ⟨vf,rfl,hs⟩
   refine ⟨_,rfl,?_⟩
   have hs:=(hs.to (a:=cE K.d p T::star (List.take i (List.zipWith (cE K.d) ps (cB s))++List.drop (i+1) (List.zipWith (cE K.d) ps (cB s)))::lH K.d z.m vf (eC T lo)::yg K.d z.m rv ((ij s.mem lo::(cB s).map fun T=>eC T lo).take (i+1))::aI 1 (.slice (some ⟨bb,0,none⟩) (1+ps.length) cr) 261 (1+ps.length) (sZ z.m::ps.map vz)::blk b 133 (aj K z s)::ea K.d z s.levels::blk b9 131 [uV seq]::blk b8 3 [.int .i64 limit]::blk b7 9 [str hi]::aS z.m s.mem::aO bF z.sn (aC s.snaps)::ag K.d D::F)).gu
   rw [← dM hz] at hs
   have hs:Sat W0 (fF K.d ps (cB s)::lH K.d z.m vf (eC T lo)::yg K.d z.m rv ((ij s.mem lo::(cB s).map fun T=>eC T lo).take (i+1))::aI 1 (.slice (some ⟨bb,0,none⟩) (1+ps.length) cr) 261 (1+ps.length) (sZ z.m::ps.map vz)::blk b 133 (aj K z s)::ea K.d z s.levels::blk b9 131 [uV seq]::blk b8 3 [.int .i64 limit]::blk b7 9 [str hi]::aS z.m s.mem::aO bF z.sn (aC s.snaps)::ag K.d D::F) w:=hs
   obtain ⟨ff,qq,rfl⟩:=Sat.qp (hs.take (.there .here))
   refine gx ?_
   refine fy hs ?_
   clear hs
   intro w b9' hs
   obtain ⟨vs,hvs,hs⟩:=(hs.take (.there (.there (.there .here)))).uw
   have hvl:vs.length=i+1:=by rw [hvs];simp;omega
   refine eA hs ?_
   clear hs
   intro va2 w hs
   have hs:=Sat.Cf (it:=eC T lo) hvs (hs.to (a:=aI 1 va2 288 (vs.length+1) (vs++[.func (.func ff) #[] qq])::star (List.zipWith (lH K.d z.m) vs ((ij s.mem lo::(cB s).map fun T=>eC T lo).take (i+1)))::lH K.d z.m (.func (.func ff) #[] qq) (eC T lo)::aI 1 (.slice (some ⟨bb,0,none⟩) (1+ps.length) cr) 261 (1+ps.length) (sZ z.m::ps.map vz)::fF K.d ps (cB s)::blk b 133 (aj K z s)::ea K.d z s.levels::blk b9 131 [uV seq]::blk b8 3 [.int .i64 limit]::blk b7 9 [str hi]::aS z.m s.mem::aO bF z.sn (aC s.snaps)::ag K.d D::F))
   rw [← htk] at hs
   refine gx ?_
   exact aA (i+1+1,va2) ⟨rfl,rfl,rfl,rfl,rfl,rfl,rfl,rfl,rfl,trivial⟩ ⟨by dsimp only;omega,hs⟩ (by dsimp only;omega)
 ·have hie:i=1+ps.length:=by omega
  subst hie
  have hlt':¬ (((1+ps.length:Nat):Int)<((1+ps.length:Nat):Int)):=by omega
  rw [List.take_of_length_le (by simp;omega)] at hs
  refine gx ?_
  refine aW hs ?_
  clear hs
  intro w b15 hs
  refine gx ?_
  refine aW hs ?_
  clear hs
  intro w b16 hs
  refine gx ?_
  refine aW hs ?_
  clear hs
  intro w b17 hs
  refine gx ?_
  refine aW hs ?_
  clear hs
  intro w b18 hs
  refine gx ?_
  refine bI hs ?_
  clear hs
  intro w hs
  refine gx ?_
  refine bI hs ?_
  clear hs
  intro w hs
  refine gx ?_
  refine ae (met (uy (hs.take (.there (.there (.there (.there .here))))) ) ?_)
  clear hs
  rintro _ w ⟨vm,rfl,hs⟩
  refine ⟨_,rfl,?_⟩
  obtain ⟨k1,oe,hEach,hx⟩:∃ k1 oe,oL s.mem (zV hi limit seq) gL (.mg ⟨false,ij s.mem lo::(cB s).map fun T=>eC T lo,[]⟩) D Gr=some (k1,oe,D')∧((∃ er,oe=some er∧x=.error er)∨(oe=none∧x=.ok k1.out)):=by
   split at h
   ·cases h
   ·rename_i k1 er D2 he
    simp only [Option.some.injEq,Prod.mk.injEq] at h
    obtain ⟨rfl,rfl⟩:=h
    exact ⟨k1,_,he,.inl ⟨_,rfl,rfl⟩⟩
   ·rename_i k1 D2 he
    simp only [Option.some.injEq,Prod.mk.injEq] at h
    obtain ⟨rfl,rfl⟩:=h
    exact ⟨k1,_,he,.inr ⟨rfl,rfl⟩⟩
  clear h
  obtain ⟨ff,qq,rfl⟩:∃ f q,vm=.func (.func f) #[] q:=by
   obtain ⟨_,zm,rfl,_⟩:=hs.HP
   exact ⟨_,_,rfl⟩
  refine gx ?_
  refine ae (met (wD (f:=ff) (q:=qq) (eb:=b16) hs) ?_)
  clear hs
  rintro _ w ⟨bn,bee,rfl,hs⟩
  refine ⟨_,rfl,?_⟩
  refine gx ?_
  refine WC.sub (e':=[(15,au b15),(16,au b16),(17,au b17),(18,au b18),(7,au b7),(8,au b8),(9,au b9),(36,.func (.func 211) #[] #[au bn,au bee])]) ⟨rfl,rfl,rfl,rfl,rfl,rfl,rfl,rfl,trivial⟩ ?_
  have hs:=Sat.qA (G:=⟨b15,b17,b18,b7,b8,b9,hi,limit,seq⟩) (k:=Gr) (v:=.slice none 0 0) (F:=blk bn 288 [.func (.func ff) #[] qq]::blk bee 312 [au b16]::blk b16 41 [.nilIface]::DJ K.d z.m (.func (.func ff) #[] qq) (.mg ⟨false,ij s.mem lo::(cB s).map fun T=>eC T lo,[]⟩)::aS z.m s.mem::ag K.d D::blk b 133 (aj K z s)::ea K.d z s.levels::aO bF z.sn (aC s.snaps)::F)
   ((hs.dA (k:=2) (E:=147)).to)
  refine DK (v:=.func (.func ff) #[] qq) (d:=K.d) (m:=z.m) (nx:=.mg ⟨false,ij s.mem lo::(cB s).map fun T=>eC T lo,[]⟩) (C:=fun k=>[NO ⟨b15,b17,b18,b7,b8,b9,hi,limit,seq⟩ k]) (id:=2) (bn:=bn) (be:=bee) (eb:=b16) (oe:=oe) (s1:=k1) (D':=D') (F:=blk b 133 (aj K z s)::ea K.d z s.levels::aO bF z.sn (aC s.snaps)::F) rfl rfl rfl hEach hmx hs.to ?_ ?_
  ·clear hs hEach hx
   intro k ent k' c L rc R w hbody hst hs
   dsimp only [List.cons_append,List.nil_append] at hs
   unfold zV at hbody
   by_cases hbig:k.out.length≤gL
   case neg=>rw [if_neg hbig] at hbody;cases hbody
   rw [if_pos hbig] at hbody
   rw [bG] at hbig
   have hbody:=Option.some.inj hbody
   refine gB ?_
   refine aW hs ?_
   clear hs
   intro w b19 hs
   refine cV (vs:=aF ent) hs ?_
   clear hs
   intro w hs
   refine gB ?_
   refine zE (hs.take (.there .here)) hst fun w hs=>?_
   obtain ⟨pv,hs⟩:=Sat.Ig (hs.take (.there (.there .here)))
   dsimp only [Gv,List.cons_append,List.nil_append] at hs
   generalize hE:([(19,au b19),(37,.agg (aF ent).toArray),(15,au b15),(16,au b16),(17,au b17),(18,au b18),(7,au b7),(8,au b8),(9,au b9),(36,.func (.func 211) #[] #[au bn,au bee])]:Env)=E0
   obtain ⟨ap,cp,rfl,-⟩:=(hs.take (.there .here)).aB
   refine iG ?_
   refine et ?_
   generalize hc1:decide ((hi≠[]∧Pure.aQ ent.key hi=false)∨(0<limit∧(k.out.length:Int)=limit))=c1
   refine eU (α:=Unit) (fun _=>(55,.bool c1)::E0) (fun _ w=>Sat W0 (Gv ⟨b15,b17,b18,b7,b8,b9,hi,limit,seq⟩ k (.slice ap k.out.length cp)++blk b19 256 (aF ent)::ob false L (.loop { rc with state:=.busy })::R) w) ?_ ?_
   ·subst hE
    dsimp only [Gv,List.cons_append,List.nil_append]
    by_cases hh:hi=[]
    ·subst hh
     have hh':¬ (([]:List UInt8)≠[]):=by simp
     by_cases hl:0<limit
     ·by_cases he:(k.out.length:Int)=limit
      ·have:c1=true:=by rw [← hc1];simp [hl,he]
       subst this
       refine gB ?_
       exact bE () ⟨rfl,rfl,rfl,rfl,rfl,rfl,rfl,rfl,rfl,rfl,rfl,trivial⟩ hs.to
      ·have:c1=false:=by rw [← hc1];simp [he]
       subst this
       refine gB ?_
       exact bE () ⟨rfl,rfl,rfl,rfl,rfl,rfl,rfl,rfl,rfl,rfl,rfl,trivial⟩ hs.to
     ·have:c1=false:=by rw [← hc1];simp [hl]
      subst this
      refine gB ?_
      exact bE () ⟨rfl,rfl,rfl,rfl,rfl,rfl,rfl,rfl,rfl,rfl,rfl,trivial⟩ hs.to
    ·cases hb:Pure.aQ ent.key hi with
     | false=>
      have:c1=true:=by rw [← hc1];simp [hh,hb]
      subst this
      rw [gV] at hb
      have hnb:(!oV ent.key hi)=true:=by rw [hb];rfl
      refine gB ?_
      exact bE () ⟨rfl,rfl,rfl,rfl,rfl,rfl,rfl,rfl,rfl,rfl,rfl,trivial⟩ hs.to
     | true=>
      have hbb:=hb
      rw [gV] at hbb
      have hnb:(!oV ent.key hi)=false:=by rw [hbb];rfl
      by_cases hl:0<limit
      ·by_cases he:(k.out.length:Int)=limit
       ·have:c1=true:=by rw [← hc1];simp [hl,he]
        subst this
        refine gB ?_
        exact bE () ⟨rfl,rfl,rfl,rfl,rfl,rfl,rfl,rfl,rfl,rfl,rfl,trivial⟩ hs.to
       ·have:c1=false:=by rw [← hc1];simp [he,hb]
        subst this
        refine gB ?_
        exact bE () ⟨rfl,rfl,rfl,rfl,rfl,rfl,rfl,rfl,rfl,rfl,rfl,trivial⟩ hs.to
      ·have:c1=false:=by rw [← hc1];simp [hl,hb]
       subst this
       refine gB ?_
       exact bE () ⟨rfl,rfl,rfl,rfl,rfl,rfl,rfl,rfl,rfl,rfl,rfl,trivial⟩ hs.to
   clear hs
   rintro-w hs
   dsimp only [Gv,List.cons_append,List.nil_append] at hs
   unfold lP at hbody
   cases c1 with
   | true=>
    rw [if_pos (of_decide_eq_true hc1)] at hbody
    obtain ⟨rfl,rfl⟩:=Prod.mk.inj hbody
    subst hE
    refine gx ?_
    refine vI (hs.take (.there (.there (.there (.there (.there (.there (.there (.there .here))))))))) fun w hs=>.inr ⟨rfl,rfl,?_⟩
    dsimp only [List.cons_append,List.nil_append]
    have hs:=Sat.qA (G:=⟨b15,b17,b18,b7,b8,b9,hi,limit,seq⟩) (k:=k) (v:=.slice ap k.out.length cp) (F:=ob false L (.loop { rc with state:=.done,pending:=some (.exit 2) })::R) hs.to
    exact hs.to
   | false=>
    rw [if_neg (of_decide_eq_false hc1)] at hbody
    subst hE
    refine gB ?_
    refine dk rfl ?_
    refine WC.sub (e':=[(19,au b19),(37,.agg (aF ent).toArray),(15,au b15),(16,au b16),(17,au b17),(18,au b18),(7,au b7),(8,au b8),(9,au b9),(36,.func (.func 211) #[] #[au bn,au bee])]) ⟨rfl,rfl,rfl,rfl,rfl,rfl,rfl,rfl,rfl,rfl,trivial⟩ ?_
    generalize hE:([(19,au b19),(37,.agg (aF ent).toArray),(15,au b15),(16,au b16),(17,au b17),(18,au b18),(7,au b7),(8,au b8),(9,au b9),(36,.func (.func 211) #[] #[au bn,au bee])]:Env)=E0
    refine et ?_
    generalize hc2:decide (seq<ent.seq∨(k.any=true∧ent.key=k.last))=c2
    refine eU (α:=Unit) (fun _=>(68,.bool c2)::E0) (fun _ w=>Sat W0 (Gv ⟨b15,b17,b18,b7,b8,b9,hi,limit,seq⟩ k (.slice ap k.out.length cp)++blk b19 256 (aF ent)::ob false L (.loop { rc with state:=.busy })::R) w) ?_ ?_
    ·subst hE
     clear hbody hc1
     dsimp only [Gv,List.cons_append,List.nil_append]
     obtain ⟨out,last,any⟩:=k
     dsimp only at hs hc2 ⊢
     by_cases hq:seq<ent.seq
     ·have:c2=true:=by rw [← hc2];simp [hq]
      subst this
      have hq':(seq:Int)<(ent.seq:Int):=by omega
      refine gB ?_
      exact bE () ⟨rfl,rfl,rfl,rfl,rfl,rfl,rfl,rfl,rfl,rfl,rfl,trivial⟩ hs.to
     ·have hq':¬ ((seq:Int)<(ent.seq:Int)):=by omega
      cases any with
      | false=>
       have:c2=false:=by rw [← hc2];simp [hq]
       subst this
       refine gB ?_
       exact bE () ⟨rfl,rfl,rfl,rfl,rfl,rfl,rfl,rfl,rfl,rfl,rfl,trivial⟩ hs.to
      | true=>
       by_cases hk:ent.key=last
       ·have:c2=true:=by rw [← hc2];simp [hk]
        subst this
        refine gB ?_
        exact bE () ⟨rfl,rfl,rfl,rfl,rfl,rfl,rfl,rfl,rfl,rfl,rfl,trivial⟩ hs.to
       ·have:c2=false:=by rw [← hc2];simp [hq,hk]
        subst this
        refine gB ?_
        exact bE () ⟨rfl,rfl,rfl,rfl,rfl,rfl,rfl,rfl,rfl,rfl,rfl,trivial⟩ hs.to
    clear hs
    rintro-w hs
    dsimp only [Gv,List.cons_append,List.nil_append] at hs
    cases c2 with
    | true=>
     rw [if_pos (of_decide_eq_true hc2)] at hbody
     obtain ⟨rfl,rfl⟩:=Prod.mk.inj hbody
     subst hE
     refine gx ?_
     refine jZ (hs.take (.there (.there (.there (.there (.there (.there (.there (.there .here))))))))) fun w hs=>.inl ⟨rfl,rfl,?_⟩
     dsimp only [List.cons_append,List.nil_append]
     have hs:=Sat.qA (G:=⟨b15,b17,b18,b7,b8,b9,hi,limit,seq⟩) (k:=k) (v:=.slice ap k.out.length cp) (F:=ob false L (.loop { rc with state:=.ready,pending:=none })::R) hs.to
     exact hs.to
    | false=>
     rw [if_neg (of_decide_eq_false hc2)] at hbody
     obtain ⟨rfl,rfl⟩:=Prod.mk.inj hbody
     subst hE
     refine gx ?_
     refine bI hs ?_
     clear hs
     intro w hs
     refine gx ?_
     refine bI hs ?_
     clear hs
     intro w hs
     obtain ⟨ek,evl,ed,es⟩:=ent
     cases ed with
     | true=>
      refine gx ?_
      refine jZ (hs.take (.there (.there (.there (.there (.there (.there (.there (.there .here))))))))) fun w hs=>.inl ⟨rfl,rfl,?_⟩
      dsimp only [List.cons_append,List.nil_append]
      have hs:=Sat.qA (G:=⟨b15,b17,b18,b7,b8,b9,hi,limit,seq⟩) (k:=⟨k.out,ek,true⟩) (v:=.slice ap k.out.length cp) (F:=ob false L (.loop { rc with state:=.ready,pending:=none })::R) hs.to
      exact hs.to
     | false=>
      refine gx ?_
      refine bw (l6 (ek,evl)) ?_
      refine gx ?_
      refine iT (l6 (ek,evl)) hs (fun w b2 hs=>?_)
      refine eA hs ?_
      clear hs
      intro v2 w hs
      obtain ⟨a7,c7,rfl,-⟩:=hs.aB
      refine gx ?_
      refine bI hs ?_
      clear hs
      intro w hs
      refine gx ?_
      have e1:aI 2 (.slice a7 (k.out.length+1) c7) 147 (k.out.length+1) ((gn k.out).flatten++l6 (ek,evl))=Ae (.slice a7 (k.out.length+1) c7) (k.out++[(ek,evl)]):=by
       rw [← uJ];show _=aI 2 _ 147 (k.out++[(ek,evl)]).length _;rw [List.length_append];rfl
      rw [e1] at hs
      refine jZ (hs.take (.there (.there (.there (.there (.there (.there (.there (.there .here))))))))) fun w hs=>.inl ⟨rfl,rfl,?_⟩
      dsimp only [List.cons_append,List.nil_append]
      have hs:=Sat.qA (G:=⟨b15,b17,b18,b7,b8,b9,hi,limit,seq⟩) (k:=⟨k.out++[(ek,evl)],ek,true⟩) (v:=.slice a7 (k.out.length+1) c7) (F:=ob false L (.loop { rc with state:=.ready,pending:=none })::R) hs.to
      exact hs.to
  ·clear hs hEach
   intro xx Dk ve w hxx hs
   dsimp only [List.cons_append,List.nil_append] at hs
   obtain ⟨pv,hs⟩:=Sat.Ig (hs.take (.there (.there (.there (.there (.there .here))))))
   dsimp only [Gv,List.cons_append,List.nil_append] at hs
   obtain ⟨ap,cp,rfl,-⟩:=(hs.take (.there .here)).aB
   rcases hx with ⟨er,rfl,rfl⟩|⟨rfl,rfl⟩
   ·obtain ⟨t,u,rfl⟩:=(hs.take (.there (.there (.there (.there (.there (.there (.there (.there (.there .here)))))))))).aV
    rcases hxx with rfl|rfl<;>(
     refine gx ?_
     refine bM [blk b16 41 [.iface t u]] [(0,false),(1,false),(2,false)] hs (by kernel_rfl) ?_
     clear hs
     intro w hs
     refine gx ?_
     refine x9 (hs.take (.there (.there (.there (.there (.there (.there (.there .here)))))))) rfl ?_
     clear hs
     intro w hs
     refine ⟨_,_,rfl,?_⟩
     have hs:=Sat.bJ (s:=s) (z:=z) hl (hs.to (a:=blk b 133 (aj K z s)::ea K.d z s.levels::aS z.m s.mem::aO bF z.sn (aC s.snaps)::ag K.d D'::aL (.iface t u) (some er)::F))
     exact hs.imp fun hp r=>⟨fun _=>none,hp,fun _ _ _ hx=>(by cases hx),fun _ _ hx=>(by cases hx),Hp.le_refl _,rfl,r⟩)
   ·have hve:=(hs.take (.there (.there (.there (.there (.there (.there (.there (.there (.there .here)))))))))).cD
    subst hve
    rcases hxx with rfl|rfl<;>(
     refine gx ?_
     refine x9 (hs.take (.there (.there (.there (.there (.there (.there (.there .here)))))))) rfl ?_
     clear hs
     intro w hs
     refine ⟨_,_,rfl,?_⟩
     have hs:=Sat.bJ (s:=s) (z:=z) hl (hs.to (a:=blk b 133 (aj K z s)::ea K.d z s.levels::aS z.m s.mem::aO bF z.sn (aC s.snaps)::Ae (.slice ap k1.out.length cp) k1.out::ag K.d D'::aL .nilIface none::F))
     exact hs.to)
end
end Go.Proofs.YtecibefflhomdaaGreatDoor
