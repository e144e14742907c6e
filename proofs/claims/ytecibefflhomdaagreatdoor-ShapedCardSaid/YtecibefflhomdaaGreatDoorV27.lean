/-
  Part 27: WALKS package levels; WALKS package levels.
-/
import Derived.Test.YtecibefflhomdaaGreatDoorV26
set_option maxHeartbeats 8000000
set_option maxRecDepth 100000
set_option linter.all false
namespace Go.Proofs.YtecibefflhomdaaGreatDoor
open Go
section
open Go.Proofs.YtecibefflhomdaaGreatDoor.Pure (ae aB Rd bH less aR aZ bL bC aF dj dec kj dU cG gR bc aV eg)
attribute [local irreducible] IntKind.wrap
def xl (s:St) (D:ae) (key:Bs) (seq:Nat):Out (Option Bs):=if (cJ s).length≤1099511627776∧s.mem.length≤1099511627776 then vM s D key seq else none
def Eu (s:St) (key:Bs) (seq:Nat):Nat→ae→Out (Option aB)
 | 0,D=>match py s.mem key seq with
  | some e=>some (.ok (some e),D)
  | none=>kq key seq (cJ s) D
 | i+1,D=>kq key seq ((cJ s).drop i) D
def P6:Except cx (Option aB)→Except cx (Option Bs)
 | .ok x=>.ok (eg x)
 | .error e=>.error e
theorem KJ {s:St} {D:ae} {key:Bs} {seq:Nat} (h:¬ (key.length=0∨8<key.length)):vM s D key seq=(Eu s key seq 0 D).map fun x=>(P6 x.1,x.2):=by
 unfold vM Eu
 rw [if_neg h]
 cases py s.mem key seq with
 | some e=>rfl
 | none=>
  dsimp only
  cases kq key seq (cJ s) D with
  | none=>rfl
  | some r=>obtain ⟨x,D'⟩:=r;cases x<;>rfl
def MR:Except cx (Option Bs)→Bs
 | .ok (some v)=>v
 | _=>[]
def P7:Except cx (Option Bs)→Bool
 | .ok (some _)=>true
 | _=>false
theorem Ev (key:Bs) (seq:Nat) (T:bN) (r:List bN) (D:ae):kq key seq (T::r) D=match sU D T key seq with
 | none=>none
 | some (.error e,D')=>some (.error e,D')
 | some (.ok (some x),D')=>some (.ok (some x),D')
 | some (.ok none,D')=>kq key seq r D':=rfl
variable {W0 w:World} {F:List ax} {v:Value} {d m p:Nat} {T:bN} {D D':ae} {M:List aB}
theorem yn {b:Nat} {K:SK} {s:St} {key:Bs} {seq:Nat} {x:Except cx (Option Bs)} (h:xl s D key seq=some (x,D')) (hs:Sat W0 (nM b K s::aj K.d D::F) w) :
 Calls Tryz.prog 84 #[ay b,str key,uV seq] w fun y w'=>∃ ve,y=.returned (.tuple #[str (MR x),.bool (P7 x),ve])∧Sat W0 (nM b K s::aj K.d D'::aH ve (cU x)::F) w':=by
 unfold xl at h
 by_cases hg:(cJ s).length≤1099511627776∧s.mem.length≤1099511627776
 case neg=>rw [if_neg hg] at h;cases h
 rw [if_pos hg] at h
 obtain ⟨hT,hmx⟩:=hg
 refine enter Tryz.func84 rfl Tryz.ntmps84 Tryz.results84 rfl ?_
 by_cases h0:key.length=0
 ·have h0':((key.length:Nat):Int)=0:=by omega
  unfold vM at h
  rw [if_pos (.inl h0)] at h
  simp only [Option.some.injEq,Prod.mk.injEq] at h
  obtain ⟨rfl,rfl⟩:=h
  refine gx ?_
  exact ah rfl ⟨_,rfl,(Sat.jN (k:=3) hs).to⟩
 ·have h0':¬ ((key.length:Nat):Int)=0:=by omega
  by_cases h8:8<key.length
  ·have h8':((key.length:Nat):Int) > 8:=by omega
   unfold vM at h
   rw [if_pos (.inr h8)] at h
   simp only [Option.some.injEq,Prod.mk.injEq] at h
   obtain ⟨rfl,rfl⟩:=h
   refine gx ?_
   exact ah rfl ⟨_,rfl,(Sat.jN (k:=3) hs).to⟩
  ·have h8':¬ ((key.length:Nat):Int) > 8:=by omega
   rw [KJ (by omega)] at h
   obtain ⟨hl,z,hs⟩:=hs.gB
   refine gx ?_
   refine ag (met (qV hl hT hs) ?_)
   clear hs
   rintro _ w ⟨rv,ps,rfl,hps,hs⟩
   refine ⟨_,rfl,?_⟩
   obtain ⟨ar,cr,rfl,-⟩:=hs.aC
   refine gx ?_
   obtain ⟨r,hr,hx⟩:∃ r,Eu s key seq 0 D=some r∧(P6 r.1,r.2)=(x,D'):=by
    cases hr:Eu s key seq 0 D with
    | none=>rw [hr] at h;cases h
    | some r=>rw [hr] at h;exact ⟨r,rfl,Option.some.inj h⟩
   clear h
   obtain ⟨rx,rD⟩:=r
   simp only [Prod.mk.injEq] at hx
   obtain ⟨hx,rfl⟩:=hx
   refine aJ (α:=Nat×ae) (fun q=>[(0,ay b),(1,str key),(2,uV seq),(24,.slice ar (1+ps.length) cr),(25,.int .i64 ((1+ps.length:Nat):Int)),(26,.int .i64 (q.1:Int))])
    (fun q w=>(q.1≤1+ps.length∧Eu s key seq q.1 q.2=some (rx,rD))∧Sat W0 (aL 1 (.slice ar (1+ps.length) cr) 261 (1+ps.length) (uk z.m::ps.map wX)::fY K.d ps (cJ s)::blk b 133 (ak K z s)::dE K.d z s.levels::aO z.m s.mem::aM aY z.sn (aA s.snaps)::aj K.d q.2::F) w) (fun q=>1+ps.length-q.1) (0,D) ⟨rfl,rfl,rfl,rfl,rfl,rfl,trivial⟩ ⟨⟨by omega,hr⟩,hs.to⟩ ?_
   clear hs hr
   rintro ⟨i,D1⟩ w ⟨⟨hi,hr⟩,hs⟩
   dsimp only at hi hr hs ⊢
   by_cases hlt:i<1+ps.length
   ·have hlt':(i:Int)<((1+ps.length:Nat):Int):=by omega
    have hpl:ps.length<9223372036854775807:=by omega
    cases i with
    | zero=>
     unfold Eu at hr
     refine gx ?_
     obtain ⟨bb,cap,rs,hv,q1,q2,q3,hs2⟩:=hs.dw (by omega)
     obtain ⟨rfl,_,rfl⟩:=Value.slice.inj hv
     refine cN (i:=0) rfl rfl rfl rfl rfl (by omega) rfl ?_
     refine eF (v:=uk z.m) hs2 rfl rfl .here rfl rfl ?_
     clear hs2
     refine gx ?_
     refine kG rfl (Ox _) (fun _ _=>qK rfl) rfl rfl (met (z6 (key:=key) (seq:=seq) (hs.take (.there (.there (.there (.there .here))))) hmx) ?_)
     clear hs
     rintro _ w ⟨rfl,hs⟩
     refine ⟨_,rfl,?_⟩
     cases hf:py s.mem key seq with
     | none=>
      rw [hf] at hr
      dsimp only at hr
      refine gx ?_
      refine aS hs ?_
      clear hs
      intro w b11 hs
      refine gx ?_
      refine da (vs:=aI (OY none)) hs ?_
      clear hs
      intro w hs
      refine gx ?_
      refine az (1,D1) ⟨rfl,rfl,rfl,rfl,rfl,rfl,trivial⟩ ⟨⟨by dsimp only;omega,by dsimp only [Eu];rw [List.drop_zero];exact hr⟩,hs.to⟩ (by dsimp only;omega)
     | some e=>
      rw [hf] at hr
      simp only [Option.some.injEq,Prod.mk.injEq] at hr
      obtain ⟨rfl,rfl⟩:=hr
      obtain ⟨ek,evl,ed,es⟩:=e
      refine gx ?_
      refine aS hs ?_
      clear hs
      intro w b11 hs
      refine gx ?_
      refine da (vs:=aI ⟨ek,evl,ed,es⟩) hs ?_
      clear hs
      intro w hs
      cases ed with
      | false=>
       have hx':x=.ok (some evl):=by rw [← hx];rfl
       subst hx'
       refine gx ?_
       exact ah rfl ⟨_,rfl,(Sat.ej (Sat.bM (s:=s) (z:=z) hl (hs.to (a:=blk b 133 (ak K z s)::dE K.d z s.levels::aO z.m s.mem::aM aY z.sn (aA s.snaps)::aj K.d D1::F)))).to⟩
      | true=>
       have hx':x=.ok none:=by rw [← hx];rfl
       subst hx'
       refine gx ?_
       exact ah rfl ⟨_,rfl,(Sat.ej (Sat.bM (s:=s) (z:=z) hl (hs.to (a:=blk b 133 (ak K z s)::dE K.d z s.levels::aO z.m s.mem::aM aY z.sn (aA s.snaps)::aj K.d D1::F)))).to⟩
    | succ i=>
     have hilt:i<ps.length:=by omega
     have hg:ps[i]?=some ps[i]:=List.getElem?_eq_getElem hilt
     have hT1:(cJ s)[i]?=some ((cJ s)[i]'(by omega)):=List.getElem?_eq_getElem (by omega)
     have hdr:(cJ s).drop i=(cJ s)[i]'(by omega)::(cJ s).drop (i+1):=List.drop_eq_getElem_cons (by omega)
     have hr:kq key seq ((cJ s).drop i) D1=some (rx,rD):=hr
     rw [hdr,Ev] at hr
     generalize (cJ s)[i]'(by omega)=T at hT1 hdr hr
     generalize ps[i]=p at hg
     refine gx ?_
     obtain ⟨bb,cap,rs,hv,q1,q2,q3,hs2⟩:=hs.dw (by omega)
     obtain ⟨rfl,_,rfl⟩:=Value.slice.inj hv
     have hcell:((uk z.m::ps.map wX)++rs)[0+(i+1)*1]?=some (wX p):=by
      rw [Nat.zero_add,Nat.mul_one,List.getElem?_append_left (by simp;omega),List.getElem?_cons_succ,List.getElem?_map,hg];rfl
     refine cN (i:=i+1) rfl rfl rfl rfl rfl (by omega) rfl ?_
     refine eF hs2 rfl rfl .here hcell rfl ?_
     clear hs2
     have hz:=dN (cF K.d) hg hT1
     have hs:=hs.take (.there .here)
     unfold fY at hs
     rw [dx hz] at hs
     have hs:=hs.eU
     refine gx ?_
     cases hf:sU D1 T key seq with
     | none=>rw [hf] at hr;cases hr
     | some r=>
      obtain ⟨x1,D2⟩:=r
      rw [hf] at hr
      refine kG rfl (Oy _) (fun _ _=>qK rfl) rfl rfl (met (z7 hf (hs.to (a:=cF K.d p T::aj K.d D1::star (List.take i (List.zipWith (cF K.d) ps (cJ s))++List.drop (i+1) (List.zipWith (cF K.d) ps (cJ s)))::aL 1 (.slice (some ⟨bb,0,none⟩) (1+ps.length) cr) 261 (1+ps.length) (uk z.m::ps.map wX)::blk b 133 (ak K z s)::dE K.d z s.levels::aO z.m s.mem::aM aY z.sn (aA s.snaps)::F))) ?_)
      clear hs
      rintro _ w ⟨ve,rfl,hs⟩
      refine ⟨_,rfl,?_⟩
      have hs:=(hs.to (a:=cF K.d p T::star (List.take i (List.zipWith (cF K.d) ps (cJ s))++List.drop (i+1) (List.zipWith (cF K.d) ps (cJ s)))::aH ve (cU x1)::aL 1 (.slice (some ⟨bb,0,none⟩) (1+ps.length) cr) 261 (1+ps.length) (uk z.m::ps.map wX)::blk b 133 (ak K z s)::dE K.d z s.levels::aO z.m s.mem::aM aY z.sn (aA s.snaps)::aj K.d D2::F)).eY
      rw [← dx hz] at hs
      have hs:Sat W0 (fY K.d ps (cJ s)::aH ve (cU x1)::aL 1 (.slice (some ⟨bb,0,none⟩) (1+ps.length) cr) 261 (1+ps.length) (uk z.m::ps.map wX)::blk b 133 (ak K z s)::dE K.d z s.levels::aO z.m s.mem::aM aY z.sn (aA s.snaps)::aj K.d D2::F) w:=hs
      cases x1 with
      | error e=>
       simp only [Option.some.injEq,Prod.mk.injEq] at hr
       obtain ⟨rfl,rfl⟩:=hr
       have hx':x=.error e:=hx.symm
       subst hx'
       obtain ⟨t,u,rfl⟩:=(hs.take (.there .here)).aQ
       refine gx ?_
       refine aS hs ?_
       clear hs
       intro w b11 hs
       refine gx ?_
       refine da (vs:=aI cP) hs ?_
       clear hs
       intro w hs
       refine gx ?_
       exact ah rfl ⟨_,rfl,(Sat.bM (s:=s) (z:=z) hl (hs.to (a:=blk b 133 (ak K z s)::dE K.d z s.levels::aO z.m s.mem::aM aY z.sn (aA s.snaps)::aj K.d D2::aH (.iface t u) (some e)::F))).to⟩
      | ok o=>
       have hve:=(hs.take (.there .here)).cA
       subst hve
       cases o with
       | none=>
        dsimp only at hr
        refine gx ?_
        refine aS hs ?_
        clear hs
        intro w b11 hs
        refine gx ?_
        refine da (vs:=aI cP) hs ?_
        clear hs
        intro w hs
        refine gx ?_
        refine az (i+1+1,D2) ⟨rfl,rfl,rfl,rfl,rfl,rfl,trivial⟩ ⟨⟨by dsimp only;omega,hr⟩,hs.to⟩ (by dsimp only;omega)
       | some e=>
        simp only [Option.some.injEq,Prod.mk.injEq] at hr
        obtain ⟨rfl,rfl⟩:=hr
        obtain ⟨ek,evl,ed,es⟩:=e
        refine gx ?_
        refine aS hs ?_
        clear hs
        intro w b11 hs
        refine gx ?_
        refine da (vs:=aI ⟨ek,evl,ed,es⟩) hs ?_
        clear hs
        intro w hs
        cases ed with
        | false=>
         have hx':x=.ok (some evl):=by rw [← hx];rfl
         subst hx'
         refine gx ?_
         exact ah rfl ⟨_,rfl,(Sat.ej (Sat.bM (s:=s) (z:=z) hl (hs.to (a:=blk b 133 (ak K z s)::dE K.d z s.levels::aO z.m s.mem::aM aY z.sn (aA s.snaps)::aj K.d D2::F)))).to⟩
        | true=>
         have hx':x=.ok none:=by rw [← hx];rfl
         subst hx'
         refine gx ?_
         exact ah rfl ⟨_,rfl,(Sat.ej (Sat.bM (s:=s) (z:=z) hl (hs.to (a:=blk b 133 (ak K z s)::dE K.d z s.levels::aO z.m s.mem::aM aY z.sn (aA s.snaps)::aj K.d D2::F)))).to⟩
   ·have hie:i=1+ps.length:=by omega
    subst hie
    have hr2:kq key seq ((cJ s).drop ps.length) D1=some (rx,rD):=by rw [Nat.add_comm] at hr;exact hr
    rw [hps,List.drop_length] at hr2
    simp only [kq,Option.some.injEq,Prod.mk.injEq] at hr2
    obtain ⟨rfl,rfl⟩:=hr2
    have hx':x=.ok none:=hx.symm
    subst hx'
    have hlt':¬ (((1+ps.length:Nat):Int)<((1+ps.length:Nat):Int)):=by omega
    refine gx ?_
    exact ah rfl ⟨_,rfl,(Sat.ej (Sat.bM (s:=s) (z:=z) hl (hs.to (a:=blk b 133 (ak K z s)::dE K.d z s.levels::aO z.m s.mem::aM aY z.sn (aA s.snaps)::aj K.d D1::F)))).to⟩
end
section
open Go.Proofs.YtecibefflhomdaaGreatDoor.Pure (ae aB Rd bH less aR aZ bL bC aF dj dec kj dU cG gR bc aV eg Sc I2 mo)
attribute [local irreducible] IntKind.wrap
def th (s:St) (D:ae) (lo hi:Bs) (limit:Int) (seq:Nat):Out (List (Bs×Bs)):=if s.mem.length≤1099511627776 then yd s D lo hi limit seq else none
def gk (p:Bs×Bs):List Value:=[str p.1,str p.2]
def eQ (l:List (Bs×Bs)):List (List Value):=l.map gk
abbrev gI (v:Value) (l:List (Bs×Bs)):ax:=aL 2 v 147 l.length (eQ l).flatten
def pD (v:Value):Except cx (List (Bs×Bs))→ax
 | .ok l=>gI v l
 | .error _=>fun _=>v=.slice none 0 0
variable {W0 w:World} {F:List ax} {v:Value} {d m p:Nat} {T:bN} {D D':ae} {M:List aB}
structure QH where
 b15:Nat
 b17:Nat
 b18:Nat
 b7:Nat
 b8:Nat
 b9:Nat
 hi:Bs
 limit:Int
 seq:Nat
abbrev I4 (G:QH) (k:Sc) (v:Value):List ax:=
 [blk G.b15 74 [v],gI v k.out,blk G.b17 9 [str k.last],blk G.b18 4 [.bool k.any],blk G.b7 9 [str G.hi],blk G.b8 3 [.int .i64 G.limit],blk G.b9 131 [uV G.seq]]
def QI (G:QH) (k:Sc):ax:=fun h=>∃ v,cL (I4 G k v) h
theorem Sat.KL {G:QH} {k:Sc} (h:Sat W0 (QI G k::F) w):∃ v,Sat W0 (I4 G k v++F) w:=by
 obtain ⟨v,_,hs⟩:=h.e9 (φ:=fun _:Value=>True) (B:=fun v=>I4 G k v) fun hp ⟨v,k⟩=>⟨v,trivial,k⟩
 exact ⟨v,hs⟩
theorem Sat.qW {G:QH} {k:Sc} {v:Value} (h:Sat W0 (I4 G k v++F) w):Sat W0 (QI G k::F) w:=Sat.close h fun hp q=>⟨v,q⟩
theorem ng (l:List (Bs×Bs)) (p:Bs×Bs):(eQ (l++[p])).flatten=(eQ l).flatten++gk p:=by simp [eQ]
attribute [local irreducible] ob aL aj aO aM QI aH eV Q8 gr vw cF OH star gL zT dE nM
theorem vW {b:Nat} {K:SK} {s:St} {lo hi:Bs} {limit:Int} {seq:Nat} {x:Except cx (List (Bs×Bs))} (h:th s D lo hi limit seq=some (x,D')) (hs:Sat W0 (nM b K s::aj K.d D::F) w) :
 Calls Tryz.prog 106 #[ay b,str lo,str hi,.int .i64 limit,uV seq] w fun y w'=>∃ pv ve,y=.returned (.tuple #[pv,ve])∧Sat W0 (pD pv x::nM b K s::aj K.d D'::aH ve (cU x)::F) w':=by
 unfold th at h
 by_cases hmx:s.mem.length≤1099511627776
 case neg=>rw [if_neg hmx] at h;cases h
 rw [if_pos hmx] at h
 unfold yd at h
 by_cases hT:(cJ s).length+1≤iq
 case neg=>rw [if_neg hT] at h;cases h
 rw [if_pos hT] at h
 rw [bI] at hT
 obtain ⟨hl,z,hs⟩:=hs.gB
 refine vB Tryz.func106 rfl Tryz.ntmps106 Tryz.results106 rfl ?_
 refine gx ?_
 refine bR (z:=[str hi]) hs ?_
 clear hs
 intro w b7 hs
 refine gx ?_
 refine bR (z:=[.int .i64 limit]) hs ?_
 clear hs
 intro w b8 hs
 refine gx ?_
 refine bR (z:=[uV seq]) hs ?_
 clear hs
 intro w b9 hs
 refine gx ?_
 refine ag (met (qV hl (by omega) (hs.fg (.there (.there (.there .here))) (.there (.there (.there .here))))) ?_)
 clear hs
 rintro _ w ⟨sv,ps,rfl,hps,hs⟩
 refine ⟨_,rfl,?_⟩
 obtain ⟨ar,cr,rfl,-⟩:=hs.aC
 refine gx ?_
 have hs:=Sat.NJ (d:=K.d) (m:=z.m) hs
 refine aJ (α:=Nat×Value) (fun q=>[(0,ay b),(1,str lo),(7,ay b7),(8,ay b8),(9,ay b9),(12,q.2),(21,.slice ar (1+ps.length) cr),(22,.int .i64 ((1+ps.length:Nat):Int)),(23,.int .i64 (q.1:Int))])
  (fun q w=>q.1≤1+ps.length∧Sat W0 (zT K.d z.m q.2 ((iO s.mem lo::(cJ s).map fun T=>eH T lo).take q.1)::aL 1 (.slice ar (1+ps.length) cr) 261 (1+ps.length) (uk z.m::ps.map wX)::fY K.d ps (cJ s)::blk b 133 (ak K z s)::dE K.d z s.levels::blk b9 131 [uV seq]::blk b8 3 [.int .i64 limit]::blk b7 9 [str hi]::aO z.m s.mem::aM aY z.sn (aA s.snaps)::aj K.d D::F) w) (fun q=>1+ps.length-q.1) (0,.slice none 0 0) ⟨rfl,rfl,rfl,rfl,rfl,rfl,rfl,rfl,rfl,trivial⟩ ⟨by omega,hs⟩ ?_
 clear hs
 rintro ⟨i,rv⟩ w ⟨hi',hs⟩
 dsimp only at hi' hs ⊢
 by_cases hlt:i<1+ps.length
 ·have hlt':(i:Int)<((1+ps.length:Nat):Int):=by omega
  cases i with
  | zero=>
   refine gx ?_
   obtain ⟨bb,cap,rs,hv,q1,q2,q3,hs2⟩:=(hs.take (.there .here)).dw (by omega)
   obtain ⟨rfl,_,rfl⟩:=Value.slice.inj hv
   refine cN (i:=0) rfl rfl rfl rfl rfl (by omega) rfl ?_
   refine eF (v:=uk z.m) hs2 rfl rfl .here rfl rfl ?_
   clear hs2
   refine gx ?_
   refine kG rfl (Oz _) (fun _ _=>oN rfl) rfl rfl (met (qO (key:=lo) (hs.take (.there (.there (.there (.there (.there (.there (.there (.there .here))))))))) hmx) ?_)
   clear hs
   rintro _ w ⟨vf,rfl,hs⟩
   refine ⟨_,rfl,?_⟩
   have hs:Sat W0 (mb K.d z.m vf (iO s.mem lo)::aO z.m s.mem::zT K.d z.m rv []::aL 1 (.slice (some ⟨bb,0,none⟩) (1+ps.length) cr) 261 (1+ps.length) (uk z.m::ps.map wX)::fY K.d ps (cJ s)::blk b 133 (ak K z s)::dE K.d z s.levels::blk b9 131 [uV seq]::blk b8 3 [.int .i64 limit]::blk b7 9 [str hi]::aM aY z.sn (aA s.snaps)::aj K.d D::F) w:=hs
   obtain ⟨ff,qq,rfl⟩:=Sat.qR hs
   refine gx ?_
   refine fL hs ?_
   clear hs
   intro w b9' hs
   obtain ⟨vs,hvs,hs⟩:=(hs.take (.there (.there (.there .here)))).vI
   have hvl:vs.length=0:=by simpa using hvs
   refine dM hs ?_
   clear hs
   intro va2 w hs
   have hs:=Sat.Ep (it:=iO s.mem lo) hvs (hs.to (a:=aL 1 va2 288 (vs.length+1) (vs++[.func (.func ff) #[] qq])::star (List.zipWith (mb K.d z.m) vs [])::mb K.d z.m (.func (.func ff) #[] qq) (iO s.mem lo)::aL 1 (.slice (some ⟨bb,0,none⟩) (1+ps.length) cr) 261 (1+ps.length) (uk z.m::ps.map wX)::fY K.d ps (cJ s)::blk b 133 (ak K z s)::dE K.d z s.levels::blk b9 131 [uV seq]::blk b8 3 [.int .i64 limit]::blk b7 9 [str hi]::aO z.m s.mem::aM aY z.sn (aA s.snaps)::aj K.d D::F))
   refine gx ?_
   exact az (1,va2) ⟨rfl,rfl,rfl,rfl,rfl,rfl,rfl,rfl,rfl,trivial⟩ ⟨by dsimp only;omega,hs⟩ (by dsimp only;omega)
  | succ i=>
   have hilt:i<ps.length:=by omega
   have hg:ps[i]?=some ps[i]:=List.getElem?_eq_getElem hilt
   have hT1:(cJ s)[i]?=some ((cJ s)[i]'(by omega)):=List.getElem?_eq_getElem (by omega)
   have htk:(iO s.mem lo::(cJ s).map fun T=>eH T lo).take (i+1+1)=(iO s.mem lo::(cJ s).map fun T=>eH T lo).take (i+1)++[eH ((cJ s)[i]'(by omega)) lo]:=by
    rw [List.take_add_one,List.getElem?_cons_succ,List.getElem?_map,hT1];rfl
   generalize (cJ s)[i]'(by omega)=T at hT1 htk
   generalize ps[i]=p at hg
   have hz:=dN (cF K.d) hg hT1
   refine gx ?_
   obtain ⟨bb,cap,rs,hv,q1,q2,q3,hs2⟩:=(hs.take (.there .here)).dw (by omega)
   obtain ⟨rfl,_,rfl⟩:=Value.slice.inj hv
   have hcell:((uk z.m::ps.map wX)++rs)[0+(i+1)*1]?=some (wX p):=by
    rw [Nat.zero_add,Nat.mul_one,List.getElem?_append_left (by simp;omega),List.getElem?_cons_succ,List.getElem?_map,hg];rfl
   refine cN (i:=i+1) rfl rfl rfl rfl rfl (by omega) rfl ?_
   refine eF hs2 rfl rfl .here hcell rfl ?_
   clear hs2
   have hs:=hs.take (.there (.there .here))
   unfold fY at hs
   rw [dx hz] at hs
   have hs:=hs.eU
   refine gx ?_
   refine kG rfl (OA _) (fun _ _=>oN rfl) rfl rfl (met (qP (key:=lo) hs) ?_)
   clear hs
   rintro _ w ⟨vf,rfl,hs⟩
   refine ⟨_,rfl,?_⟩
   have hs:=(hs.to (a:=cF K.d p T::star (List.take i (List.zipWith (cF K.d) ps (cJ s))++List.drop (i+1) (List.zipWith (cF K.d) ps (cJ s)))::mb K.d z.m vf (eH T lo)::zT K.d z.m rv ((iO s.mem lo::(cJ s).map fun T=>eH T lo).take (i+1))::aL 1 (.slice (some ⟨bb,0,none⟩) (1+ps.length) cr) 261 (1+ps.length) (uk z.m::ps.map wX)::blk b 133 (ak K z s)::dE K.d z s.levels::blk b9 131 [uV seq]::blk b8 3 [.int .i64 limit]::blk b7 9 [str hi]::aO z.m s.mem::aM aY z.sn (aA s.snaps)::aj K.d D::F)).eY
   rw [← dx hz] at hs
   have hs:Sat W0 (fY K.d ps (cJ s)::mb K.d z.m vf (eH T lo)::zT K.d z.m rv ((iO s.mem lo::(cJ s).map fun T=>eH T lo).take (i+1))::aL 1 (.slice (some ⟨bb,0,none⟩) (1+ps.length) cr) 261 (1+ps.length) (uk z.m::ps.map wX)::blk b 133 (ak K z s)::dE K.d z s.levels::blk b9 131 [uV seq]::blk b8 3 [.int .i64 limit]::blk b7 9 [str hi]::aO z.m s.mem::aM aY z.sn (aA s.snaps)::aj K.d D::F) w:=hs
   obtain ⟨ff,qq,rfl⟩:=Sat.qR (hs.take (.there .here))
   refine gx ?_
   refine fL hs ?_
   clear hs
   intro w b9' hs
   obtain ⟨vs,hvs,hs⟩:=(hs.take (.there (.there (.there .here)))).vI
   have hvl:vs.length=i+1:=by rw [hvs];simp;omega
   refine dM hs ?_
   clear hs
   intro va2 w hs
   have hs:=Sat.Ep (it:=eH T lo) hvs (hs.to (a:=aL 1 va2 288 (vs.length+1) (vs++[.func (.func ff) #[] qq])::star (List.zipWith (mb K.d z.m) vs ((iO s.mem lo::(cJ s).map fun T=>eH T lo).take (i+1)))::mb K.d z.m (.func (.func ff) #[] qq) (eH T lo)::aL 1 (.slice (some ⟨bb,0,none⟩) (1+ps.length) cr) 261 (1+ps.length) (uk z.m::ps.map wX)::fY K.d ps (cJ s)::blk b 133 (ak K z s)::dE K.d z s.levels::blk b9 131 [uV seq]::blk b8 3 [.int .i64 limit]::blk b7 9 [str hi]::aO z.m s.mem::aM aY z.sn (aA s.snaps)::aj K.d D::F))
   rw [← htk] at hs
   refine gx ?_
   exact az (i+1+1,va2) ⟨rfl,rfl,rfl,rfl,rfl,rfl,rfl,rfl,rfl,trivial⟩ ⟨by dsimp only;omega,hs⟩ (by dsimp only;omega)
 ·have hie:i=1+ps.length:=by omega
  subst hie
  have hlt':¬ (((1+ps.length:Nat):Int)<((1+ps.length:Nat):Int)):=by omega
  rw [List.take_of_length_le (by simp;omega)] at hs
  refine gx ?_
  refine aS hs ?_
  clear hs
  intro w b15 hs
  refine gx ?_
  refine aS hs ?_
  clear hs
  intro w b16 hs
  refine gx ?_
  refine aS hs ?_
  clear hs
  intro w b17 hs
  refine gx ?_
  refine aS hs ?_
  clear hs
  intro w b18 hs
  refine gx ?_
  refine bK hs ?_
  clear hs
  intro w hs
  refine gx ?_
  refine bK hs ?_
  clear hs
  intro w hs
  refine gx ?_
  refine ag (met (vJ (hs.take (.there (.there (.there (.there .here))))) ) ?_)
  clear hs
  rintro _ w ⟨vm,rfl,hs⟩
  refine ⟨_,rfl,?_⟩
  obtain ⟨k1,oe,hEach,hx⟩:∃ k1 oe,pz s.mem (BI hi limit seq) iq (.mg ⟨false,iO s.mem lo::(cJ s).map fun T=>eH T lo,[]⟩) D I2=some (k1,oe,D')∧((∃ er,oe=some er∧x=.error er)∨(oe=none∧x=.ok k1.out)):=by
   split at h
   ·cases h
   ·rename_i k1 er D2 he
    simp only [Option.some.injEq,Prod.mk.injEq] at h
    obtain ⟨rfl,rfl⟩:=h
    exact ⟨k1,_,he,.inl ⟨_,rfl,rfl⟩⟩
   ·rename_i k1 D2 he
    simp only [Option.some.injEq,Prod.mk.injEq] at h
    obtain ⟨rfl,rfl⟩:=h
    exact ⟨k1,_,he,.inr ⟨rfl,rfl⟩⟩
  clear h
  obtain ⟨ff,qq,rfl⟩:∃ f q,vm=.func (.func f) #[] q:=by
   obtain ⟨_,zm,rfl,_⟩:=hs.Kl
   exact ⟨_,_,rfl⟩
  refine gx ?_
  refine ag (met (yb (f:=ff) (q:=qq) (eb:=b16) hs) ?_)
  clear hs
  rintro _ w ⟨bn,bee,rfl,hs⟩
  refine ⟨_,rfl,?_⟩
  refine gx ?_
  refine WC.sub (e':=[(15,ay b15),(16,ay b16),(17,ay b17),(18,ay b18),(7,ay b7),(8,ay b8),(9,ay b9),(36,.func (.func 211) #[] #[ay bn,ay bee])]) ⟨rfl,rfl,rfl,rfl,rfl,rfl,rfl,rfl,trivial⟩ ?_
  have hs:=Sat.qW (G:=⟨b15,b17,b18,b7,b8,b9,hi,limit,seq⟩) (k:=I2) (v:=.slice none 0 0) (F:=blk bn 288 [.func (.func ff) #[] qq]::blk bee 312 [ay b16]::blk b16 41 [.nilIface]::Ge K.d z.m (.func (.func ff) #[] qq) (.mg ⟨false,iO s.mem lo::(cJ s).map fun T=>eH T lo,[]⟩)::aO z.m s.mem::aj K.d D::blk b 133 (ak K z s)::dE K.d z s.levels::aM aY z.sn (aA s.snaps)::F)
   ((hs.cH (k:=2) (E:=147)).to)
  refine Gf (v:=.func (.func ff) #[] qq) (d:=K.d) (m:=z.m) (nx:=.mg ⟨false,iO s.mem lo::(cJ s).map fun T=>eH T lo,[]⟩) (C:=fun k=>[QI ⟨b15,b17,b18,b7,b8,b9,hi,limit,seq⟩ k]) (id:=2) (bn:=bn) (be:=bee) (eb:=b16) (oe:=oe) (s1:=k1) (D':=D') (F:=blk b 133 (ak K z s)::dE K.d z s.levels::aM aY z.sn (aA s.snaps)::F) rfl rfl rfl hEach hmx hs.to ?_ ?_
  ·clear hs hEach hx
   intro k ent k' c L rc R w hbody hst hs
   dsimp only [List.cons_append,List.nil_append] at hs
   unfold BI at hbody
   by_cases hbig:k.out.length≤iq
   case neg=>rw [if_neg hbig] at hbody;cases hbody
   rw [if_pos hbig] at hbody
   rw [bI] at hbig
   have hbody:=Option.some.inj hbody
   refine gE ?_
   refine aS hs ?_
   clear hs
   intro w b19 hs
   refine da (vs:=aI ent) hs ?_
   clear hs
   intro w hs
   refine gE ?_
   refine qH (hs.take (.there .here)) hst fun w hs=>?_
   obtain ⟨pv,hs⟩:=Sat.KL (hs.take (.there (.there .here)))
   dsimp only [I4,List.cons_append,List.nil_append] at hs
   generalize hE:([(19,ay b19),(37,.agg (aI ent).toArray),(15,ay b15),(16,ay b16),(17,ay b17),(18,ay b18),(7,ay b7),(8,ay b8),(9,ay b9),(36,.func (.func 211) #[] #[ay bn,ay bee])]:Env)=E0
   obtain ⟨ap,cp,rfl,-⟩:=(hs.take (.there .here)).aC
   refine gW ?_
   refine dV ?_
   generalize hc1:decide ((hi≠[]∧Pure.aR ent.key hi=false)∨(0<limit∧(k.out.length:Int)=limit))=c1
   refine fh (α:=Unit) (fun _=>(55,.bool c1)::E0) (fun _ w=>Sat W0 (I4 ⟨b15,b17,b18,b7,b8,b9,hi,limit,seq⟩ k (.slice ap k.out.length cp)++blk b19 256 (aI ent)::ob false L (.loop { rc with state:=.busy })::R) w) ?_ ?_
   ·subst hE
    dsimp only [I4,List.cons_append,List.nil_append]
    by_cases hh:hi=[]
    ·subst hh
     have hh':¬ (([]:List UInt8)≠[]):=by simp
     by_cases hl:0<limit
     ·by_cases he:(k.out.length:Int)=limit
      ·have:c1=true:=by rw [← hc1];simp [hl,he]
       subst this
       refine gE ?_
       exact bG () ⟨rfl,rfl,rfl,rfl,rfl,rfl,rfl,rfl,rfl,rfl,rfl,trivial⟩ hs.to
      ·have:c1=false:=by rw [← hc1];simp [he]
       subst this
       refine gE ?_
       exact bG () ⟨rfl,rfl,rfl,rfl,rfl,rfl,rfl,rfl,rfl,rfl,rfl,trivial⟩ hs.to
     ·have:c1=false:=by rw [← hc1];simp [hl]
      subst this
      refine gE ?_
      exact bG () ⟨rfl,rfl,rfl,rfl,rfl,rfl,rfl,rfl,rfl,rfl,rfl,trivial⟩ hs.to
    ·cases hb:Pure.aR ent.key hi with
     | false=>
      have:c1=true:=by rw [← hc1];simp [hh,hb]
      subst this
      rw [fI] at hb
      have hnb:(!ma ent.key hi)=true:=by rw [hb];rfl
      refine gE ?_
      exact bG () ⟨rfl,rfl,rfl,rfl,rfl,rfl,rfl,rfl,rfl,rfl,rfl,trivial⟩ hs.to
     | true=>
      have hbb:=hb
      rw [fI] at hbb
      have hnb:(!ma ent.key hi)=false:=by rw [hbb];rfl
      by_cases hl:0<limit
      ·by_cases he:(k.out.length:Int)=limit
       ·have:c1=true:=by rw [← hc1];simp [hl,he]
        subst this
        refine gE ?_
        exact bG () ⟨rfl,rfl,rfl,rfl,rfl,rfl,rfl,rfl,rfl,rfl,rfl,trivial⟩ hs.to
       ·have:c1=false:=by rw [← hc1];simp [he,hb]
        subst this
        refine gE ?_
        exact bG () ⟨rfl,rfl,rfl,rfl,rfl,rfl,rfl,rfl,rfl,rfl,rfl,trivial⟩ hs.to
      ·have:c1=false:=by rw [← hc1];simp [hl,hb]
       subst this
       refine gE ?_
       exact bG () ⟨rfl,rfl,rfl,rfl,rfl,rfl,rfl,rfl,rfl,rfl,rfl,trivial⟩ hs.to
   clear hs
   rintro-w hs
   dsimp only [I4,List.cons_append,List.nil_append] at hs
   unfold mo at hbody
   cases c1 with
   | true=>
    rw [if_pos (of_decide_eq_true hc1)] at hbody
    obtain ⟨rfl,rfl⟩:=Prod.mk.inj hbody
    subst hE
    refine gx ?_
    refine pr (hs.take (.there (.there (.there (.there (.there (.there (.there (.there .here))))))))) fun w hs=>.inr ⟨rfl,rfl,?_⟩
    dsimp only [List.cons_append,List.nil_append]
    have hs:=Sat.qW (G:=⟨b15,b17,b18,b7,b8,b9,hi,limit,seq⟩) (k:=k) (v:=.slice ap k.out.length cp) (F:=ob false L (.loop { rc with state:=.done,pending:=some (.exit 2) })::R) hs.to
    exact hs.to
   | false=>
    rw [if_neg (of_decide_eq_false hc1)] at hbody
    subst hE
    refine gE ?_
    refine cV rfl ?_
    refine WC.sub (e':=[(19,ay b19),(37,.agg (aI ent).toArray),(15,ay b15),(16,ay b16),(17,ay b17),(18,ay b18),(7,ay b7),(8,ay b8),(9,ay b9),(36,.func (.func 211) #[] #[ay bn,ay bee])]) ⟨rfl,rfl,rfl,rfl,rfl,rfl,rfl,rfl,rfl,rfl,trivial⟩ ?_
    generalize hE:([(19,ay b19),(37,.agg (aI ent).toArray),(15,ay b15),(16,ay b16),(17,ay b17),(18,ay b18),(7,ay b7),(8,ay b8),(9,ay b9),(36,.func (.func 211) #[] #[ay bn,ay bee])]:Env)=E0
    refine dV ?_
    generalize hc2:decide (seq<ent.seq∨(k.any=true∧ent.key=k.last))=c2
    refine fh (α:=Unit) (fun _=>(68,.bool c2)::E0) (fun _ w=>Sat W0 (I4 ⟨b15,b17,b18,b7,b8,b9,hi,limit,seq⟩ k (.slice ap k.out.length cp)++blk b19 256 (aI ent)::ob false L (.loop { rc with state:=.busy })::R) w) ?_ ?_
    ·subst hE
     clear hbody hc1
     dsimp only [I4,List.cons_append,List.nil_append]
     obtain ⟨out,last,any⟩:=k
     dsimp only at hs hc2 ⊢
     by_cases hq:seq<ent.seq
     ·have:c2=true:=by rw [← hc2];simp [hq]
      subst this
      have hq':(seq:Int)<(ent.seq:Int):=by omega
      refine gE ?_
      exact bG () ⟨rfl,rfl,rfl,rfl,rfl,rfl,rfl,rfl,rfl,rfl,rfl,trivial⟩ hs.to
     ·have hq':¬ ((seq:Int)<(ent.seq:Int)):=by omega
      cases any with
      | false=>
       have:c2=false:=by rw [← hc2];simp [hq]
       subst this
       refine gE ?_
       exact bG () ⟨rfl,rfl,rfl,rfl,rfl,rfl,rfl,rfl,rfl,rfl,rfl,trivial⟩ hs.to
      | true=>
       by_cases hk:ent.key=last
       ·have:c2=true:=by rw [← hc2];simp [hk]
        subst this
        refine gE ?_
        exact bG () ⟨rfl,rfl,rfl,rfl,rfl,rfl,rfl,rfl,rfl,rfl,rfl,trivial⟩ hs.to
       ·have:c2=false:=by rw [← hc2];simp [hq,hk]
        subst this
        refine gE ?_
        exact bG () ⟨rfl,rfl,rfl,rfl,rfl,rfl,rfl,rfl,rfl,rfl,rfl,trivial⟩ hs.to
    clear hs
    rintro-w hs
    dsimp only [I4,List.cons_append,List.nil_append] at hs
    cases c2 with
    | true=>
     rw [if_pos (of_decide_eq_true hc2)] at hbody
     obtain ⟨rfl,rfl⟩:=Prod.mk.inj hbody
     subst hE
     refine gx ?_
     refine iy (hs.take (.there (.there (.there (.there (.there (.there (.there (.there .here))))))))) fun w hs=>.inl ⟨rfl,rfl,?_⟩
     dsimp only [List.cons_append,List.nil_append]
     have hs:=Sat.qW (G:=⟨b15,b17,b18,b7,b8,b9,hi,limit,seq⟩) (k:=k) (v:=.slice ap k.out.length cp) (F:=ob false L (.loop { rc with state:=.ready,pending:=none })::R) hs.to
     exact hs.to
    | false=>
     rw [if_neg (of_decide_eq_false hc2)] at hbody
     obtain ⟨rfl,rfl⟩:=Prod.mk.inj hbody
     subst hE
     refine gx ?_
     refine bK hs ?_
     clear hs
     intro w hs
     refine gx ?_
     refine bK hs ?_
     clear hs
     intro w hs
     obtain ⟨ek,evl,ed,es⟩:=ent
     cases ed with
     | true=>
      refine gx ?_
      refine iy (hs.take (.there (.there (.there (.there (.there (.there (.there (.there .here))))))))) fun w hs=>.inl ⟨rfl,rfl,?_⟩
      dsimp only [List.cons_append,List.nil_append]
      have hs:=Sat.qW (G:=⟨b15,b17,b18,b7,b8,b9,hi,limit,seq⟩) (k:=⟨k.out,ek,true⟩) (v:=.slice ap k.out.length cp) (F:=ob false L (.loop { rc with state:=.ready,pending:=none })::R) hs.to
      exact hs.to
     | false=>
      refine gx ?_
      refine bz (gk (ek,evl)) ?_
      refine gx ?_
      refine ia (gk (ek,evl)) hs (fun w b2 hs=>?_)
      refine dM hs ?_
      clear hs
      intro v2 w hs
      obtain ⟨a7,c7,rfl,-⟩:=hs.aC
      refine gx ?_
      refine bK hs ?_
      clear hs
      intro w hs
      refine gx ?_
      have e1:aL 2 (.slice a7 (k.out.length+1) c7) 147 (k.out.length+1) ((eQ k.out).flatten++gk (ek,evl))=gI (.slice a7 (k.out.length+1) c7) (k.out++[(ek,evl)]):=by
       rw [← ng];show _=aL 2 _ 147 (k.out++[(ek,evl)]).length _;rw [List.length_append];rfl
      rw [e1] at hs
      refine iy (hs.take (.there (.there (.there (.there (.there (.there (.there (.there .here))))))))) fun w hs=>.inl ⟨rfl,rfl,?_⟩
      dsimp only [List.cons_append,List.nil_append]
      have hs:=Sat.qW (G:=⟨b15,b17,b18,b7,b8,b9,hi,limit,seq⟩) (k:=⟨k.out++[(ek,evl)],ek,true⟩) (v:=.slice a7 (k.out.length+1) c7) (F:=ob false L (.loop { rc with state:=.ready,pending:=none })::R) hs.to
      exact hs.to
  ·clear hs hEach
   intro xx Dk ve w hxx hs
   dsimp only [List.cons_append,List.nil_append] at hs
   obtain ⟨pv,hs⟩:=Sat.KL (hs.take (.there (.there (.there (.there (.there .here))))))
   dsimp only [I4,List.cons_append,List.nil_append] at hs
   obtain ⟨ap,cp,rfl,-⟩:=(hs.take (.there .here)).aC
   rcases hx with ⟨er,rfl,rfl⟩|⟨rfl,rfl⟩
   ·obtain ⟨t,u,rfl⟩:=(hs.take (.there (.there (.there (.there (.there (.there (.there (.there (.there .here)))))))))).aQ
    rcases hxx with rfl|rfl<;>(
     refine gx ?_
     refine bO [blk b16 41 [.iface t u]] [(0,false),(1,false),(2,false)] hs (by kernel_rfl) ?_
     clear hs
     intro w hs
     refine gx ?_
     refine oZ (hs.take (.there (.there (.there (.there (.there (.there (.there .here)))))))) rfl ?_
     clear hs
     intro w hs
     refine ⟨_,_,rfl,?_⟩
     have hs:=Sat.bM (s:=s) (z:=z) hl (hs.to (a:=blk b 133 (ak K z s)::dE K.d z s.levels::aO z.m s.mem::aM aY z.sn (aA s.snaps)::aj K.d D'::aH (.iface t u) (some er)::F))
     exact hs.imp fun hp r=>⟨fun _=>none,hp,fun _ _ _ hx=>(by cases hx),fun _ _ hx=>(by cases hx),Hp.le_refl _,rfl,r⟩)
   ·have hve:=(hs.take (.there (.there (.there (.there (.there (.there (.there (.there (.there .here)))))))))).cA
    subst hve
    rcases hxx with rfl|rfl<;>(
     refine gx ?_
     refine oZ (hs.take (.there (.there (.there (.there (.there (.there (.there .here)))))))) rfl ?_
     clear hs
     intro w hs
     refine ⟨_,_,rfl,?_⟩
     have hs:=Sat.bM (s:=s) (z:=z) hl (hs.to (a:=blk b 133 (ak K z s)::dE K.d z s.levels::aO z.m s.mem::aM aY z.sn (aA s.snaps)::gI (.slice ap k1.out.length cp) k1.out::aj K.d D'::aH .nilIface none::F))
     exact hs.to)
end
end Go.Proofs.YtecibefflhomdaaGreatDoor
