/-
  Part 47: WALKS deeds on a store over a disk that may fail; WALKS deeds on a store over a disk that may fail.
-/
import Derived.Test.YtecibefflhomdaaGreatDoorY46
set_option maxHeartbeats 8000000
set_option maxRecDepth 100000
set_option linter.all false
namespace Go.Proofs.YtecibefflhomdaaGreatDoor
open Go
section
open Go.Proofs.YtecibefflhomdaaGreatDoor.Pure (ad bO aQ mZ aV)
attribute [local irreducible] IntKind.wrap
variable {W0 w:World} {F:List ah} {v:Value} {X:SS} {N S L:Nat}
theorem Of {o:ji} {s:St} {D:ad} {H:List (List bO)} {B:Nat} (h:eH o s D H B S) (key:Bs):∃ x D',FU false none s D key=some (x,D')∧cO D D'∧eH o s D' H B S∧((∃ e,x=.error e∧qX False D e)∨x=j7 (aI H) key):=by
 obtain ⟨x,D',e,h1,h2,h3⟩:=h.get key
 refine ⟨x,D',?_,h1,h2,h3⟩
 show Cz s D key aG=_
 unfold Cz
 rw [if_pos ⟨by have:=h.La;omega,by have:=h.Jx;omega⟩]
 exact e
theorem Jz {o:ji} {s:St} {D:ad} {H:List (List bO)} {B:Nat} (h:eH o s D H B S):∃ x D',nU false none s D [] [] 0=some (x,D')∧cO D D'∧eH o s D' H B S∧((∃ e,x=.error e∧qX False D e)∨x=.ok (aI H)):=by
 obtain ⟨x,D',e,h1,h2,h3⟩:=h.scan [] [] 0
 rw [yW] at h3
 refine ⟨x,D',?_,h1,h2,h3⟩
 show Ao s D [] [] 0 aG=_
 unfold Ao
 rw [if_pos (by have:=h.Jx;omega)]
 exact e
theorem GL {o:vB} (hk:o.kind=4) (hd:vA W0 3 o.lv (dw o.l)) (hE:kY W0) (h:sY X N S L) (hL:L≤4194304) (hs:Sat W0 (sL X F) w) :
 Calls Tryz.prog 43 #[au X.x,.agg (GG o).toArray] w (o7 W0 true X.x X.o F N S L):=by
 obtain ⟨kk,lv,l⟩:=o
 dsimp only at hk hd
 subst hk
 obtain ⟨la,lc,rfl⟩:=hd.yN
 have hkey:∀ key:Bs,∃ r D',FU false none X.s X.D key=some (r,D')∧sY { X with D:=D' } N S L∧((∃ e,r=.error e∧e.2=8)∨r=j7 (aI X.H) key):=fun key=>by
  obtain ⟨r,D',e1,e2,e3,e4⟩:=Of h.inv key
  refine ⟨r,D',e1,⟨h.opt,e3,h.num,h.hlen,h.tot,h.sfb⟩,?_⟩
  rcases e4 with ⟨e,e5,hb⟩|e4
  ·refine .inl ⟨e,e5,?_⟩
   rcases hb with hb|hb
   ·exact hb.1
   ·exact hb.1.elim
  ·exact .inr e4
 have hpl:=iL X.H
 have htot:=h.tot
 refine enter Tryz.func43 rfl Tryz.ntmps43 Tryz.results43 rfl ?_
 refine gy ?_
 refine cE (z:=[.int .i64 4,.slice la l.length lc]) hs ?_
 clear hs
 intro w b3 hs
 have hs:Sat W0 (blk b3 104 [.int .i64 4,.slice la l.length lc]::aJ X.x X.d (au X.b) X.o X.hp::dh X.b X.d X.o false none X.s::ag X.d X.D::cJ X.hp X.H X.sf false::F) w:=hs
 by_cases hl0:0<l.length
 ·have hl0':(l.length:Int) > 0:=by omega
  obtain ⟨b2,q2,c,hgc,hdc,rfl,-,d0,d1,d2⟩:=hd.OI hl0
  obtain ⟨r,D',e1,hok,hr⟩:=hkey c.key
  refine gy ?_
  refine ae (met (oB e1 (hs.eA (.there (.there .here)) (.there (.there .here)))) ?_)
  clear hs
  rintro _ w ⟨ve,rfl,hs⟩
  refine ⟨_,rfl,?_⟩
  refine gy ?_
  refine ae (met (bK hE (hs.take (.there (.there .here)))) ?_)
  clear hs
  rintro _ w ⟨rfl,hs⟩
  refine ⟨_,rfl,?_⟩
  rcases hr with ⟨e,rfl,he⟩|rfl
  case inl=>
   have hn0:¬ ((gn (dk (.error e:Except cy (Option Bs))):Nat):Int)=0:=by show ¬ ((e.2:Nat):Int)=0;omega
   have hn3:¬ ((gn (dk (.error e:Except cy (Option Bs))):Nat):Int)=3:=by show ¬ ((e.2:Nat):Int)=3;omega
   obtain ⟨vb,vp,us,hu,hs2⟩:=(hs.take (.there (.there (.there (.there (.there .here)))))).gD
   have hs:Sat W0 (aJ X.x X.d (au X.b) X.o X.hp::blk X.hp 49 [vb,.int .i64 (X.sf:Int),.bool false,vp]::bw vp (aI X.H)::aE 1 vb 52 X.H.length us::j8 us X.H::dh X.b X.d X.o false none X.s::ag X.d D'::F) w:=hs2.to
   clear hs2
   obtain ⟨pa,pc,rfl,-⟩:=(hs.take (.there (.there .here))).fH
   refine gy ?_
   refine ae (met (oH (hs.take (.there (.there .here))) (by omega)) ?_)
   clear hs
   rintro _ w ⟨rfl,hs⟩
   refine ⟨_,rfl,?_⟩
   refine gy ?_
   refine ak rfl ⟨e.2,rfl,.inl ⟨.inr ⟨rfl,.inl he⟩,{ X with D:=D' },rfl,rfl,hok,?_⟩⟩
   have h2:=Sat.eY (sf:=X.sf) (mb:=false) (hp:=X.hp) hu (hs.to (a:=blk X.hp 49 [vb,.int .i64 (X.sf:Int),.bool false,.slice pa (aI X.H).length pc]::aE 1 vb 52 X.H.length us::j8 us X.H::bw (.slice pa (aI X.H).length pc) (aI X.H)::aJ X.x X.d (au X.b) X.o X.hp::dh X.b X.d X.o false none X.s::ag X.d D'::F))
   exact h2.to
  by_cases hbad:((c.key).length=0∨8<(c.key).length)
  ·have er:j7 (aI X.H) (c.key)=.error (none,3):=by unfold j7;exact if_pos hbad
   rw [er] at hs ⊢
   have hn3:((gn (dk (.error (none,3):Except cy (Option Bs))):Nat):Int)=3:=rfl
   refine gy ?_
   exact ak rfl ⟨0,rfl,.inl ⟨.inl rfl,{ X with D:=D' },rfl,rfl,hok,hs.to⟩⟩
  ·have er:j7 (aI X.H) (c.key)=.ok (aV (aI X.H) (c.key)):=by unfold j7;exact if_neg hbad
   rw [er] at hs ⊢
   have hn0:((gn (dk (.ok (aV (aI X.H) (c.key)):Except cy (Option Bs))):Nat):Int)=0:=rfl
   obtain ⟨vb,vp,us,hu,hs2⟩:=(hs.take (.there (.there (.there (.there (.there .here)))))).gD
   have hs:Sat W0 (aJ X.x X.d (au X.b) X.o X.hp::blk X.hp 49 [vb,.int .i64 (X.sf:Int),.bool false,vp]::bw vp (aI X.H)::aE 1 vb 52 X.H.length us::j8 us X.H::dh X.b X.d X.o false none X.s::ag X.d D'::F) w:=hs2.to
   clear hs2
   obtain ⟨pa,pc,rfl,-⟩:=(hs.take (.there (.there .here))).fH
   refine gy ?_
   refine ae (met (oH (hs.take (.there (.there .here))) (by omega)) ?_)
   clear hs
   rintro _ w ⟨rfl,hs⟩
   refine ⟨_,rfl,?_⟩
   have hb1:NN (.ok (aV (aI X.H) (c.key)):Except cy (Option Bs))=CZ (aV (aI X.H) (c.key)):=by cases aV (aI X.H) (c.key)<;>rfl
   have hb2:NO (.ok (aV (aI X.H) (c.key)):Except cy (Option Bs))=(aV (aI X.H) (c.key)).isSome:=by cases aV (aI X.H) (c.key)<;>rfl
   rw [hb1,hb2]
   have hne:¬ (CZ (aV (aI X.H) (c.key))≠CZ (aV (aI X.H) (c.key))):=fun h=>h rfl
   refine gy ?_
   refine yS false rfl rfl (by simp) rfl ?_
   refine gy ?_
   refine ak rfl ⟨0,rfl,.inl ⟨.inl rfl,{ X with D:=D' },rfl,rfl,hok,?_⟩⟩
   have h2:=Sat.eY (sf:=X.sf) (mb:=false) (hp:=X.hp) hu (hs.to (a:=blk X.hp 49 [vb,.int .i64 (X.sf:Int),.bool false,.slice pa (aI X.H).length pc]::aE 1 vb 52 X.H.length us::j8 us X.H::bw (.slice pa (aI X.H).length pc) (aI X.H)::aJ X.x X.d (au X.b) X.o X.hp::dh X.b X.d X.o false none X.s::ag X.d D'::F))
   exact h2.to
 ·have hl0':¬ (l.length:Int) > 0:=by omega
  obtain ⟨r,D',e1,hok,hr⟩:=hkey [97]
  refine gy ?_
  refine ae (met (oB e1 (hs.eA (.there (.there .here)) (.there (.there .here)))) ?_)
  clear hs
  rintro _ w ⟨ve,rfl,hs⟩
  refine ⟨_,rfl,?_⟩
  refine gy ?_
  refine ae (met (bK hE (hs.take (.there (.there .here)))) ?_)
  clear hs
  rintro _ w ⟨rfl,hs⟩
  refine ⟨_,rfl,?_⟩
  rcases hr with ⟨e,rfl,he⟩|rfl
  case inl=>
   have hn0:¬ ((gn (dk (.error e:Except cy (Option Bs))):Nat):Int)=0:=by show ¬ ((e.2:Nat):Int)=0;omega
   have hn3:¬ ((gn (dk (.error e:Except cy (Option Bs))):Nat):Int)=3:=by show ¬ ((e.2:Nat):Int)=3;omega
   obtain ⟨vb,vp,us,hu,hs2⟩:=(hs.take (.there (.there (.there (.there (.there .here)))))).gD
   have hs:Sat W0 (aJ X.x X.d (au X.b) X.o X.hp::blk X.hp 49 [vb,.int .i64 (X.sf:Int),.bool false,vp]::bw vp (aI X.H)::aE 1 vb 52 X.H.length us::j8 us X.H::dh X.b X.d X.o false none X.s::ag X.d D'::F) w:=hs2.to
   clear hs2
   obtain ⟨pa,pc,rfl,-⟩:=(hs.take (.there (.there .here))).fH
   refine gy ?_
   refine ae (met (oH (hs.take (.there (.there .here))) (by omega)) ?_)
   clear hs
   rintro _ w ⟨rfl,hs⟩
   refine ⟨_,rfl,?_⟩
   refine gy ?_
   refine ak rfl ⟨e.2,rfl,.inl ⟨.inr ⟨rfl,.inl he⟩,{ X with D:=D' },rfl,rfl,hok,?_⟩⟩
   have h2:=Sat.eY (sf:=X.sf) (mb:=false) (hp:=X.hp) hu (hs.to (a:=blk X.hp 49 [vb,.int .i64 (X.sf:Int),.bool false,.slice pa (aI X.H).length pc]::aE 1 vb 52 X.H.length us::j8 us X.H::bw (.slice pa (aI X.H).length pc) (aI X.H)::aJ X.x X.d (au X.b) X.o X.hp::dh X.b X.d X.o false none X.s::ag X.d D'::F))
   exact h2.to
  by_cases hbad:(([97]).length=0∨8<([97]).length)
  ·have er:j7 (aI X.H) ([97])=.error (none,3):=by unfold j7;exact if_pos hbad
   rw [er] at hs ⊢
   have hn3:((gn (dk (.error (none,3):Except cy (Option Bs))):Nat):Int)=3:=rfl
   refine gy ?_
   exact ak rfl ⟨0,rfl,.inl ⟨.inl rfl,{ X with D:=D' },rfl,rfl,hok,hs.to⟩⟩
  ·have er:j7 (aI X.H) ([97])=.ok (aV (aI X.H) ([97])):=by unfold j7;exact if_neg hbad
   rw [er] at hs ⊢
   have hn0:((gn (dk (.ok (aV (aI X.H) ([97])):Except cy (Option Bs))):Nat):Int)=0:=rfl
   obtain ⟨vb,vp,us,hu,hs2⟩:=(hs.take (.there (.there (.there (.there (.there .here)))))).gD
   have hs:Sat W0 (aJ X.x X.d (au X.b) X.o X.hp::blk X.hp 49 [vb,.int .i64 (X.sf:Int),.bool false,vp]::bw vp (aI X.H)::aE 1 vb 52 X.H.length us::j8 us X.H::dh X.b X.d X.o false none X.s::ag X.d D'::F) w:=hs2.to
   clear hs2
   obtain ⟨pa,pc,rfl,-⟩:=(hs.take (.there (.there .here))).fH
   refine gy ?_
   refine ae (met (oH (hs.take (.there (.there .here))) (by omega)) ?_)
   clear hs
   rintro _ w ⟨rfl,hs⟩
   refine ⟨_,rfl,?_⟩
   have hb1:NN (.ok (aV (aI X.H) ([97])):Except cy (Option Bs))=CZ (aV (aI X.H) ([97])):=by cases aV (aI X.H) ([97])<;>rfl
   have hb2:NO (.ok (aV (aI X.H) ([97])):Except cy (Option Bs))=(aV (aI X.H) ([97])).isSome:=by cases aV (aI X.H) ([97])<;>rfl
   rw [hb1,hb2]
   have hne:¬ (CZ (aV (aI X.H) ([97]))≠CZ (aV (aI X.H) ([97]))):=fun h=>h rfl
   refine gy ?_
   refine yS false rfl rfl (by simp) rfl ?_
   refine gy ?_
   refine ak rfl ⟨0,rfl,.inl ⟨.inl rfl,{ X with D:=D' },rfl,rfl,hok,?_⟩⟩
   have h2:=Sat.eY (sf:=X.sf) (mb:=false) (hp:=X.hp) hu (hs.to (a:=blk X.hp 49 [vb,.int .i64 (X.sf:Int),.bool false,.slice pa (aI X.H).length pc]::aE 1 vb 52 X.H.length us::j8 us X.H::bw (.slice pa (aI X.H).length pc) (aI X.H)::aJ X.x X.d (au X.b) X.o X.hp::dh X.b X.d X.o false none X.s::ag X.d D'::F))
   exact h2.to
theorem Dn {o:vB} (hk:o.kind=5) (hE:kY W0) (h:sY X N S L) (hL:L≤4194304) (hs:Sat W0 (sL X F) w) :
 Calls Tryz.prog 43 #[au X.x,.agg (GG o).toArray] w (o7 W0 true X.x X.o F N S L):=by
 obtain ⟨kk,lv,l⟩:=o
 dsimp only at hk
 subst hk
 obtain ⟨r,D',e1,e2,e3,e4⟩:=Jz h.inv
 have hok:sY { X with D:=D' } N S L:=⟨h.opt,e3,h.num,h.hlen,h.tot,h.sfb⟩
 have hpl:=iL X.H
 have htot:=h.tot
 refine enter Tryz.func43 rfl Tryz.ntmps43 Tryz.results43 rfl ?_
 refine gy ?_
 refine cE (z:=[.int .i64 5,lv]) hs ?_
 clear hs
 intro w b3 hs
 have hs:Sat W0 (blk b3 104 [.int .i64 5,lv]::aJ X.x X.d (au X.b) X.o X.hp::dh X.b X.d X.o false none X.s::ag X.d X.D::cJ X.hp X.H X.sf false::F) w:=hs
 refine gy ?_
 refine ae (met (ly e1 (hs.eA (.there (.there .here)) (.there (.there .here)))) ?_)
 clear hs
 rintro _ w ⟨pv,ve,rfl,hs⟩
 refine ⟨_,rfl,?_⟩
 rcases e4 with ⟨e,rfl,hb⟩|rfl
 case inl=>
  have he:e.2=8:=by
   rcases hb with hb|hb
   ·exact hb.1
   ·exact hb.1.elim
  have hpv:pv=.slice none 0 0:=hs.fQ (φ:=pv=.slice none 0 0) fun _ k=>k
  subst hpv
  have hs:=hs.Di
  refine gy ?_
  refine ae (met (bK hE (hs.take (.there (.there (.there .here))))) ?_)
  clear hs
  rintro _ w ⟨rfl,hs⟩
  refine ⟨_,rfl,?_⟩
  have hn0:¬ ((gn (dk (.error e:Except cy (List (Bs×Bs)))):Nat):Int)=0:=by show ¬ ((e.2:Nat):Int)=0;omega
  have hn1:((gn (dk (.error e:Except cy (List (Bs×Bs)))):Nat):Int)≠0:=hn0
  have e0:(JM (.error e:Except cy (List (Bs×Bs))))=[]:=rfl
  rw [e0] at hs
  obtain ⟨vb,vp,us,hu,hs2⟩:=(hs.take (.there (.there (.there (.there (.there (.there .here))))))).gD
  have hs:Sat W0 (aJ X.x X.d (au X.b) X.o X.hp::blk X.hp 49 [vb,.int .i64 (X.sf:Int),.bool false,vp]::bw (.slice none 0 0) []::bw vp (aI X.H)::aE 1 vb 52 X.H.length us::j8 us X.H::dh X.b X.d X.o false none X.s::ag X.d D'::F) w:=hs2.to
  clear hs2
  obtain ⟨pa,pc,rfl,-⟩:=(hs.take (.there (.there (.there .here)))).fH
  refine gy ?_
  refine ae (met (rW (by simp) (hs.eA (.there (.there .here)) (.there (.there .here)))) ?_)
  clear hs
  rintro _ w ⟨rfl,hs⟩
  refine ⟨_,rfl,?_⟩
  refine gy ?_
  refine ak rfl ⟨e.2,rfl,.inl ⟨.inr ⟨rfl,.inl he⟩,{ X with D:=D' },rfl,rfl,hok,?_⟩⟩
  have h2:=Sat.eY (sf:=X.sf) (mb:=false) (hp:=X.hp) hu (hs.to (a:=blk X.hp 49 [vb,.int .i64 (X.sf:Int),.bool false,.slice pa (aI X.H).length pc]::aE 1 vb 52 X.H.length us::j8 us X.H::bw (.slice pa (aI X.H).length pc) (aI X.H)::aJ X.x X.d (au X.b) X.o X.hp::dh X.b X.d X.o false none X.s::ag X.d D'::F))
  exact h2.to
 have hs:=hs.Di
 refine gy ?_
 refine ae (met (bK hE (hs.take (.there (.there (.there .here))))) ?_)
 clear hs
 rintro _ w ⟨rfl,hs⟩
 refine ⟨_,rfl,?_⟩
 have hn0:((gn (dk (.ok (aI X.H):Except cy (List (Bs×Bs)))):Nat):Int)=0:=rfl
 obtain ⟨vb,vp,us,hu,hs2⟩:=(hs.take (.there (.there (.there (.there (.there (.there .here))))))).gD
 have hs:Sat W0 (aJ X.x X.d (au X.b) X.o X.hp::blk X.hp 49 [vb,.int .i64 (X.sf:Int),.bool false,vp]::bw pv (aI X.H)::bw vp (aI X.H)::aE 1 vb 52 X.H.length us::j8 us X.H::dh X.b X.d X.o false none X.s::ag X.d D'::F) w:=hs2.to
 clear hs2
 obtain ⟨pa,pc,rfl,-⟩:=(hs.take (.there (.there (.there .here)))).fH
 obtain ⟨qa,qc,rfl,-⟩:=(hs.take (.there (.there .here))).fH
 refine gy ?_
 refine ae (met (rW (by omega) (hs.eA (.there (.there .here)) (.there (.there .here)))) ?_)
 clear hs
 rintro _ w ⟨rfl,hs⟩
 refine ⟨_,rfl,?_⟩
 rw [decide_eq_true rfl]
 refine gy ?_
 refine ak rfl ⟨0,rfl,.inl ⟨.inl rfl,{ X with D:=D' },rfl,rfl,hok,?_⟩⟩
 have h2:=Sat.eY (sf:=X.sf) (mb:=false) (hp:=X.hp) hu (hs.to (a:=blk X.hp 49 [vb,.int .i64 (X.sf:Int),.bool false,.slice pa (aI X.H).length pc]::aE 1 vb 52 X.H.length us::j8 us X.H::bw (.slice pa (aI X.H).length pc) (aI X.H)::aJ X.x X.d (au X.b) X.o X.hp::dh X.b X.d X.o false none X.s::ag X.d D'::F))
 exact h2.to
end
section
open Go.Proofs.YtecibefflhomdaaGreatDoor.Pure (ad bO aQ mZ aV)
attribute [local irreducible] IntKind.wrap
variable {W0 w:World} {F:List ah} {v:Value} {X:SS} {N S L:Nat}
theorem Bo {o:vB} (hk:¬ o.kind=2∧¬ o.kind=3∧¬ o.kind=4∧¬ o.kind=5) (hd:vA W0 3 o.lv (dw o.l)) (hlen:o.l.length≤1048576) (hW:jB W0) (hE:kY W0) (h:sY X N S L) (hL:L≤4194304) (hS:S+8≤4611686018427387904) (hN:N+1000000≤4611686018427387904) (hs:Sat W0 (sL X F) w) :
 Calls Tryz.prog 43 #[au X.x,.agg (GG o).toArray] w (o7 W0 false X.x X.o F (N+1000000) (S+8) (L+o.l.length+1)):=by
 obtain ⟨kk,lv,l⟩:=o
 dsimp only at hk hd hlen ⊢
 obtain ⟨k2,k3,k4,k5⟩:=hk
 obtain ⟨la,lc,rfl⟩:=hd.yN
 have ho:=h.ho
 have hpl:=iL X.H
 have htot:=h.tot
 obtain ⟨hn,hnone⟩:=K0 false ⟨[],[],false⟩ rfl l
 have hn:gn (mn false none l)=fY l:=hn
 obtain ⟨A,hA,hAi⟩:=hd.toA
 have main:∀ (sync:Bool),(kk=1∧sync=true)∨(¬ kk=1∧sync=false)→Calls Tryz.prog 43 #[au X.x,.agg (GG ⟨kk,.slice la l.length lc,l⟩).toArray] w (o7 W0 false X.x X.o F (N+1000000) (S+8) (L+l.length+1)):=by
  intro sync hsy
  have hll:(X.H++[l]).length≤L+l.length+1:=by have:=h.hlen;rw [List.length_append,List.length_singleton];omega
  have htt:total (X.H++[l])≤L+l.length+1:=by
   rw [ku]
   have:total [l]=l.length:=by simp [total]
   omega
  have hex:∃ r D',(mn false none l=none→kR X.o X.s X.D l sync=some (r,D')∧((∃ e,r=.error e∧(e.2=8∨e.2=9)∧Le ⟨X.x,X.d,X.hp,X.o,D',X.H++[l],X.sf,true⟩ (N+1000000) (S+8) (L+l.length+1))∨∃ s',r=.ok s'∧sY { X with s:=s',D:=D',H:=X.H++[l],sf:=if sync=true then X.H.length+1 else X.sf } (N+1000000) (S+8) (L+l.length+1))):=by
   cases hr:mn false none l with
   | some e=>exact ⟨.error e,X.D,fun hh=>(by cases hh)⟩
   | none=>
    have h0:=(hnone.1 hr).2
    obtain ⟨r,D',e1,e2,e3⟩:=h.inv.write (sync:=sync) (by omega) ho.1 (MH h0) hS (by have:=h.num;omega)
    have hsf:=h.sfb
    rcases e3 with ⟨e,rfl,hf,hi⟩|⟨s',rfl,hi,hnn⟩
    ·refine ⟨_,D',fun _=>⟨e1,.inl ⟨e,rfl,hf.num,h.opt,?_,hll,htt,by show X.sf+1≤(X.H++[l]).length;rw [List.length_append,List.length_singleton];omega⟩⟩⟩
     have hnm:=h.num
     rcases hi with hi|hi
     ·refine ⟨X.H.length,by show (X.H++[l]).length≤X.H.length+1;simp,by show X.H.length≤(X.H++[l]).length;simp,?_⟩
      show lK D' ((X.H++[l]).take X.H.length) _ _
      rw [List.take_left']
      ·exact hi.more (by omega) (Nat.le_refl _)
      ·rfl
     ·refine ⟨(X.H++[l]).length,by show (X.H++[l]).length≤(X.H++[l]).length+1;omega,Nat.le_refl _,?_⟩
      show lK D' ((X.H++[l]).take (X.H++[l]).length) _ _
      rw [List.take_length]
      exact hi.more (by omega) (Nat.le_refl _)
    ·refine ⟨_,D',fun _=>⟨e1,.inr ⟨s',rfl,h.opt,hi,(by show s'.number≤_;have:=h.num;omega),hll,htt,?_⟩⟩⟩
     show (if sync=true then _ else _)≤(X.H++[l]).length
     rw [List.length_append,List.length_singleton]
     split<;>omega
  obtain ⟨r,D',hex⟩:=hex
  refine enter Tryz.func43 rfl Tryz.ntmps43 Tryz.results43 rfl ?_
  refine gy ?_
  refine cE (z:=[.int .i64 kk,.slice la l.length lc]) hs ?_
  clear hs
  intro w b3 hs
  have hs:Sat W0 (blk b3 104 [.int .i64 kk,.slice la l.length lc]::aJ X.x X.d (au X.b) X.o X.hp::dh X.b X.d X.o false none X.s::ag X.d X.D::cJ X.hp X.H X.sf false::F) w:=hs
  refine gy ?_
  refine ae (met (sM hd (by omega) hs) ?_)
  clear hs
  rintro _ w ⟨u,rfl,hs⟩
  refine ⟨_,rfl,?_⟩
  have hs:=hs.yP
  obtain ⟨ua,uc,rfl,-⟩:=hs.oI
  refine gy ?_
  refine ae (met (C2 (by omega) hs) ?_)
  clear hs
  rintro _ w ⟨rfl,hs⟩
  refine ⟨_,rfl,?_⟩
  have hs:=hs.drop
  refine gy ?_
  refine bH [aJ X.x X.d (au X.b) X.o X.hp,blk b3 104 [.int .i64 kk,.slice la l.length lc]] [3,5,7] (.q 0 (.q 1 (.q 2 (.s 3 (.q 4 (.s 5 (.q 6 (.s 7 (.q 8 (.l 9 (.q 10 .nil))))))))))) hs (by kernel_rfl) ?_
  clear hs
  intro w hs
  rcases hsy with ⟨k1,rfl⟩|⟨k1,rfl⟩
  ·refine gg ?_
   have hs:=hAi hs
   have hs:=hs.to (a:=dh X.b X.d X.o false none X.s::ag X.d X.D::A::blk b3 104 [.int .i64 kk,.slice la l.length lc]::aJ X.x X.d (au X.b) X.o X.hp::cJ X.hp X.H X.sf false::F)
   refine ae (met (jZ (l:=l) (sync:=true) (x:=r) (D':=D') (fun hh=>(hex hh).1) hA (by omega) hW hs) ?_)
   clear hs
   rintro _ w ⟨ve,rfl,hs⟩
   refine ⟨_,rfl,?_⟩
   cases hr:mn false none l with
   | some e=>
    rw [hr] at hs hn
    have hck:fY l≠0:=fun h0=>by
     have:=hnone.2 ⟨rfl,h0⟩
     rw [hr] at this;cases this
    have hs:Sat W0 (ax ve (some e)::dh X.b X.d X.o false none X.s::ag X.d X.D::A::blk b3 104 [.int .i64 kk,.slice la l.length lc]::aJ X.x X.d (au X.b) X.o X.hp::cJ X.hp X.H X.sf false::F) w:=hs.take (.there (.there .here))
    refine gy ?_
    refine cX hs.to ?_
    refine gg ?_
    refine gy ?_
    refine ae (met (bK hE hs) ?_)
    clear hs
    rintro _ w ⟨rfl,hs⟩
    refine ⟨_,rfl,?_⟩
    have hc0:((fY l:Nat):Int)≠0:=by omega
    refine gy ?_
    refine ae (met (A2 hs) ?_)
    clear hs
    rintro _ w ⟨rfl,hs⟩
    refine ⟨_,rfl,?_⟩
    have hq:¬ (((gn (some e):Nat):Int)≠((fY l:Nat):Int)):=by omega
    refine gy ?_
    exact ak rfl ⟨0,rfl,.inl ⟨.inl rfl,X,rfl,rfl,h.more (by omega) (by omega) (by omega),hs.to⟩⟩
   | none=>
    rw [hr] at hs hn
    have hck:fY l=0:=(hnone.1 hr).2
    obtain ⟨e1,⟨e,rfl,hnum,hbk⟩|⟨s',rfl,hok⟩⟩:=hex hr
    ·obtain ⟨s',hs⟩:=y0 hs
     obtain ⟨vb,vp,us,hu,hs2⟩:=(hs.take (.there (.there (.there (.there (.there (.there .here))))))).gD
     have hs:Sat W0 (aJ X.x X.d (au X.b) X.o X.hp::blk X.hp 49 [vb,.int .i64 (X.sf:Int),.bool false,vp]::blk b3 104 [.int .i64 kk,.slice la l.length lc]::ax ve (some e)::dh X.b X.d X.o false (some e) s'::ag X.d D'::bw vp (aI X.H)::aE 1 vb 52 X.H.length us::j8 us X.H::F) w:=hs2.to
     clear hs2
     refine gy ?_
     refine cX hs.to ?_
     refine gg ?_
     refine gy ?_
     refine ae (met (bK hE (hs.take (.there (.there (.there .here))))) ?_)
     clear hs
     rintro _ w ⟨rfl,hs⟩
     refine ⟨_,rfl,?_⟩
     have hn0:¬ ((gn (some e):Nat):Int)=0:=by show ¬ ((e.2:Nat):Int)=0;omega
     have hc0:¬ (((fY l:Nat):Int)≠0):=by omega
     have hs:=hs.to (a:=aJ X.x X.d (au X.b) X.o X.hp::blk X.hp 49 [vb,.int .i64 (X.sf:Int),.bool false,vp]::blk b3 104 [.int .i64 kk,.slice la l.length lc]::dh X.b X.d X.o false (some e) s'::ag X.d D'::bw vp (aI X.H)::aE 1 vb 52 X.H.length us::j8 us X.H::F)
     refine gy ?_
     refine bD hs ?_
     clear hs
     intro w hs
     have h2:=Sat.eY (sf:=X.sf) (mb:=true) (hp:=X.hp) hu (hs.to (a:=blk X.hp 49 [vb,.int .i64 (X.sf:Int),.bool true,vp]::aE 1 vb 52 X.H.length us::j8 us X.H::bw vp (aI X.H)::aJ X.x X.d (au X.b) X.o X.hp::blk b3 104 [.int .i64 kk,.slice la l.length lc]::dh X.b X.d X.o false (some e) s'::ag X.d D'::F))
     clear hs
     have hs:Sat W0 (aJ X.x X.d (au X.b) X.o X.hp::blk b3 104 [.int .i64 kk,.slice la l.length lc]::dh X.b X.d X.o false (some e) s'::ag X.d D'::cJ X.hp X.H X.sf true::F) w:=h2.to
     clear h2
     refine gy ?_
     refine bH [aJ X.x X.d (au X.b) X.o X.hp,blk b3 104 [.int .i64 kk,.slice la l.length lc]] [3,5] (.q 0 (.q 1 (.q 2 (.s 3 (.q 4 (.s 5 (.l 6 .nil))))))) hs (by kernel_rfl) ?_
     clear hs
     intro w hs
     refine gg ?_
     refine ae (met (mW (l:=l) (safe:=false) hd hlen (by have:=h.hlen;omega) (by omega) (hs.take (.there (.there (.there (.there .here)))))) ?_)
     clear hs
     rintro _ w ⟨rfl,hs⟩
     refine ⟨_,rfl,?_⟩
     refine gy ?_
     refine cA rfl ?_
     refine gg ?_
     refine gy ?_
     exact ak rfl ⟨e.2,rfl,.inr ⟨rfl,hnum,⟨X.x,X.d,X.hp,X.o,D',X.H++[l],X.sf,true⟩,rfl,rfl,hbk,.inl ⟨X.b,e,s',rfl,hs.to⟩⟩⟩
    have hs:Sat W0 (dh X.b X.d X.o false none s'::ag X.d D'::ax ve none::A::blk b3 104 [.int .i64 kk,.slice la l.length lc]::aJ X.x X.d (au X.b) X.o X.hp::cJ X.hp X.H X.sf false::F) w:=hs
    have hs:=hs.to (a:=aJ X.x X.d (au X.b) X.o X.hp::blk b3 104 [.int .i64 kk,.slice la l.length lc]::dh X.b X.d X.o false none s'::ag X.d D'::ax ve none::cJ X.hp X.H X.sf false::F)
    refine gy ?_
    refine cX hs.to ?_
    refine gg ?_
    refine gy ?_
    refine ae (met (bK hE (hs.take (.there (.there (.there (.there .here)))))) ?_)
    clear hs
    rintro _ w ⟨rfl,hs⟩
    refine ⟨_,rfl,?_⟩
    have hn0:((gn none:Nat):Int)=0:=rfl
    have hc0:¬ (((fY l:Nat):Int)≠0):=by omega
    have hs:=hs.to (a:=aJ X.x X.d (au X.b) X.o X.hp::blk b3 104 [.int .i64 kk,.slice la l.length lc]::dh X.b X.d X.o false none s'::ag X.d D'::cJ X.hp X.H X.sf false::F)
    refine gy ?_
    refine bH [aJ X.x X.d (au X.b) X.o X.hp,blk b3 104 [.int .i64 kk,.slice la l.length lc]] [3,5,7] (.q 0 (.q 1 (.q 2 (.s 3 (.q 4 (.s 5 (.q 6 (.s 7 (.q 8 (.l 9 .nil)))))))))) hs (by kernel_rfl) ?_
    clear hs
    intro w hs
    refine gg ?_
    refine ae (met (mW (l:=l) (safe:=true) hd hlen (by have:=h.hlen;omega) (by omega) (hs.take (.there (.there (.there (.there .here)))))) ?_)
    clear hs
    rintro _ w ⟨rfl,hs⟩
    refine ⟨_,rfl,?_⟩
    refine gy ?_
    refine cA rfl ?_
    refine gg ?_
    refine gy ?_
    exact ak rfl ⟨0,rfl,.inl ⟨.inl rfl,{ X with s:=s',D:=D',H:=X.H++[l],sf:=if true=true then X.H.length+1 else X.sf },rfl,rfl,hok,hs.to⟩⟩
  ·refine gg ?_
   have hs:=hAi hs
   have hs:=hs.to (a:=dh X.b X.d X.o false none X.s::ag X.d X.D::A::blk b3 104 [.int .i64 kk,.slice la l.length lc]::aJ X.x X.d (au X.b) X.o X.hp::cJ X.hp X.H X.sf false::F)
   refine ae (met (jZ (l:=l) (sync:=false) (x:=r) (D':=D') (fun hh=>(hex hh).1) hA (by omega) hW hs) ?_)
   clear hs
   rintro _ w ⟨ve,rfl,hs⟩
   refine ⟨_,rfl,?_⟩
   cases hr:mn false none l with
   | some e=>
    rw [hr] at hs hn
    have hck:fY l≠0:=fun h0=>by
     have:=hnone.2 ⟨rfl,h0⟩
     rw [hr] at this;cases this
    have hs:Sat W0 (ax ve (some e)::dh X.b X.d X.o false none X.s::ag X.d X.D::A::blk b3 104 [.int .i64 kk,.slice la l.length lc]::aJ X.x X.d (au X.b) X.o X.hp::cJ X.hp X.H X.sf false::F) w:=hs.take (.there (.there .here))
    refine gy ?_
    refine cX hs.to ?_
    refine gg ?_
    refine gy ?_
    refine ae (met (bK hE hs) ?_)
    clear hs
    rintro _ w ⟨rfl,hs⟩
    refine ⟨_,rfl,?_⟩
    have hc0:((fY l:Nat):Int)≠0:=by omega
    refine gy ?_
    refine ae (met (A2 hs) ?_)
    clear hs
    rintro _ w ⟨rfl,hs⟩
    refine ⟨_,rfl,?_⟩
    have hq:¬ (((gn (some e):Nat):Int)≠((fY l:Nat):Int)):=by omega
    refine gy ?_
    exact ak rfl ⟨0,rfl,.inl ⟨.inl rfl,X,rfl,rfl,h.more (by omega) (by omega) (by omega),hs.to⟩⟩
   | none=>
    rw [hr] at hs hn
    have hck:fY l=0:=(hnone.1 hr).2
    obtain ⟨e1,⟨e,rfl,hnum,hbk⟩|⟨s',rfl,hok⟩⟩:=hex hr
    ·obtain ⟨s',hs⟩:=y0 hs
     obtain ⟨vb,vp,us,hu,hs2⟩:=(hs.take (.there (.there (.there (.there (.there (.there .here))))))).gD
     have hs:Sat W0 (aJ X.x X.d (au X.b) X.o X.hp::blk X.hp 49 [vb,.int .i64 (X.sf:Int),.bool false,vp]::blk b3 104 [.int .i64 kk,.slice la l.length lc]::ax ve (some e)::dh X.b X.d X.o false (some e) s'::ag X.d D'::bw vp (aI X.H)::aE 1 vb 52 X.H.length us::j8 us X.H::F) w:=hs2.to
     clear hs2
     refine gy ?_
     refine cX hs.to ?_
     refine gg ?_
     refine gy ?_
     refine ae (met (bK hE (hs.take (.there (.there (.there .here))))) ?_)
     clear hs
     rintro _ w ⟨rfl,hs⟩
     refine ⟨_,rfl,?_⟩
     have hn0:¬ ((gn (some e):Nat):Int)=0:=by show ¬ ((e.2:Nat):Int)=0;omega
     have hc0:¬ (((fY l:Nat):Int)≠0):=by omega
     have hs:=hs.to (a:=aJ X.x X.d (au X.b) X.o X.hp::blk X.hp 49 [vb,.int .i64 (X.sf:Int),.bool false,vp]::blk b3 104 [.int .i64 kk,.slice la l.length lc]::dh X.b X.d X.o false (some e) s'::ag X.d D'::bw vp (aI X.H)::aE 1 vb 52 X.H.length us::j8 us X.H::F)
     refine gy ?_
     refine bD hs ?_
     clear hs
     intro w hs
     have h2:=Sat.eY (sf:=X.sf) (mb:=true) (hp:=X.hp) hu (hs.to (a:=blk X.hp 49 [vb,.int .i64 (X.sf:Int),.bool true,vp]::aE 1 vb 52 X.H.length us::j8 us X.H::bw vp (aI X.H)::aJ X.x X.d (au X.b) X.o X.hp::blk b3 104 [.int .i64 kk,.slice la l.length lc]::dh X.b X.d X.o false (some e) s'::ag X.d D'::F))
     clear hs
     have hs:Sat W0 (aJ X.x X.d (au X.b) X.o X.hp::blk b3 104 [.int .i64 kk,.slice la l.length lc]::dh X.b X.d X.o false (some e) s'::ag X.d D'::cJ X.hp X.H X.sf true::F) w:=h2.to
     clear h2
     refine gy ?_
     refine bH [aJ X.x X.d (au X.b) X.o X.hp,blk b3 104 [.int .i64 kk,.slice la l.length lc]] [3,5] (.q 0 (.q 1 (.q 2 (.s 3 (.q 4 (.s 5 (.l 6 .nil))))))) hs (by kernel_rfl) ?_
     clear hs
     intro w hs
     refine gg ?_
     refine ae (met (mW (l:=l) (safe:=false) hd hlen (by have:=h.hlen;omega) (by omega) (hs.take (.there (.there (.there (.there .here)))))) ?_)
     clear hs
     rintro _ w ⟨rfl,hs⟩
     refine ⟨_,rfl,?_⟩
     refine gy ?_
     refine cA rfl ?_
     refine gg ?_
     refine gy ?_
     exact ak rfl ⟨e.2,rfl,.inr ⟨rfl,hnum,⟨X.x,X.d,X.hp,X.o,D',X.H++[l],X.sf,true⟩,rfl,rfl,hbk,.inl ⟨X.b,e,s',rfl,hs.to⟩⟩⟩
    have hs:Sat W0 (dh X.b X.d X.o false none s'::ag X.d D'::ax ve none::A::blk b3 104 [.int .i64 kk,.slice la l.length lc]::aJ X.x X.d (au X.b) X.o X.hp::cJ X.hp X.H X.sf false::F) w:=hs
    have hs:=hs.to (a:=aJ X.x X.d (au X.b) X.o X.hp::blk b3 104 [.int .i64 kk,.slice la l.length lc]::dh X.b X.d X.o false none s'::ag X.d D'::ax ve none::cJ X.hp X.H X.sf false::F)
    refine gy ?_
    refine cX hs.to ?_
    refine gg ?_
    refine gy ?_
    refine ae (met (bK hE (hs.take (.there (.there (.there (.there .here)))))) ?_)
    clear hs
    rintro _ w ⟨rfl,hs⟩
    refine ⟨_,rfl,?_⟩
    have hn0:((gn none:Nat):Int)=0:=rfl
    have hc0:¬ (((fY l:Nat):Int)≠0):=by omega
    have hs:=hs.to (a:=aJ X.x X.d (au X.b) X.o X.hp::blk b3 104 [.int .i64 kk,.slice la l.length lc]::dh X.b X.d X.o false none s'::ag X.d D'::cJ X.hp X.H X.sf false::F)
    refine gy ?_
    refine bH [aJ X.x X.d (au X.b) X.o X.hp,blk b3 104 [.int .i64 kk,.slice la l.length lc]] [3,5,7] (.q 0 (.q 1 (.q 2 (.s 3 (.q 4 (.s 5 (.q 6 (.s 7 (.q 8 (.l 9 .nil)))))))))) hs (by kernel_rfl) ?_
    clear hs
    intro w hs
    refine gg ?_
    refine ae (met (mW (l:=l) (safe:=false) hd hlen (by have:=h.hlen;omega) (by omega) (hs.take (.there (.there (.there (.there .here)))))) ?_)
    clear hs
    rintro _ w ⟨rfl,hs⟩
    refine ⟨_,rfl,?_⟩
    refine gy ?_
    refine cA rfl ?_
    refine gg ?_
    refine gy ?_
    exact ak rfl ⟨0,rfl,.inl ⟨.inl rfl,{ X with s:=s',D:=D',H:=X.H++[l],sf:=if false=true then X.H.length+1 else X.sf },rfl,rfl,hok,hs.to⟩⟩
 by_cases k1:kk=1
 ·exact main true (.inl ⟨k1,rfl⟩)
 ·exact main false (.inr ⟨k1,rfl⟩)
theorem Dp {o:vB} (hd:vA W0 3 o.lv (dw o.l)) (hlen:o.l.length≤1048576) (hW:jB W0) (hE:kY W0) (h:sY X N S L) (hL:L≤4194304) (hS:S+8≤4611686018427387904) (hN:N+1000000≤4611686018427387904) (hs:Sat W0 (sL X F) w) :
 Calls Tryz.prog 43 #[au X.x,.agg (GG o).toArray] w (o7 W0 (decide (o.kind=4∨o.kind=5)) X.x X.o F (N+1000000) (S+8) (L+o.l.length+1)):=by
 by_cases k2:o.kind=2
 ·rw [decide_eq_false (by omega)]
  exact (vT k2 hW hE h (by omega) hN hs).mono fun _ _ k=>k.more (by omega) (by omega) (by omega)
 by_cases k3:o.kind=3
 ·rw [decide_eq_false (by omega)]
  exact (Bn k3 hW hE h (by omega) hN hs).mono fun _ _ k=>k.more (by omega) (by omega) (by omega)
 by_cases k4:o.kind=4
 ·rw [decide_eq_true (by omega)]
  exact (GL k4 hd hE h hL hs).mono fun _ _ k=>k.more (by omega) (by omega) (by omega)
 by_cases k5:o.kind=5
 ·rw [decide_eq_true (by omega)]
  exact (Dn k5 hE h hL hs).mono fun _ _ k=>k.more (by omega) (by omega) (by omega)
 rw [decide_eq_false (by omega)]
 exact Bo ⟨k2,k3,k4,k5⟩ hd hlen hW hE h hL hS hN hs
end
end Go.Proofs.YtecibefflhomdaaGreatDoor
