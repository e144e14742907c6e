/-
  Part 44: WALKS deeds on a store where nothing fails; WALKS deeds on a store where nothing fails; WALKS deeds on a store where nothing fails; WALKS a disk that is filled.
-/
import Derived.Test.YtecibefflhomdaaGreatDoorW43
set_option maxHeartbeats 8000000
set_option maxRecDepth 100000
set_option linter.all false
namespace Go.Proofs.YtecibefflhomdaaGreatDoor
open Go
section
open Go.Proofs.YtecibefflhomdaaGreatDoor.Pure (ad bX aQ pY aR)
attribute [local irreducible] IntKind.wrap
structure SS where
 x:Nat
 d:Nat
 b:Nat
 hp:Nat
 o:jX
 s:St
 D:ad
 H:List (List bX)
 sf:Nat
def sL (X:SS) (F:List ah):List ah:=bT X.x X.d (au X.b) X.o X.hp::fx X.b X.d X.o false none X.s::ag X.d X.D::ep X.hp X.H X.sf false::F
structure yN (X:SS) (E B N:Nat):Prop where
 opt:K7 X.o.memory X.o.tables=true
 inv:fa False X.o X.s X.D X.H E B
 calm:Calm X.D
 num:X.s.number≤N
 hlen:X.H.length≤B+1
 tot:total X.H≤E
 sfb:X.sf≤X.H.length
 bok:∀ b∈X.H,FC b
theorem yN.ho {X:SS} {E B N:Nat} (h:yN X E B N):1≤X.o.memory∧X.o.memory≤32∧2≤X.o.tables∧X.o.tables≤6:=by simpa [K7] using h.opt
theorem yN.more {X:SS} {E B N E' B' N':Nat} (h:yN X E B N) (hE:E≤E') (hB:B≤B') (hN:N≤N'):yN X E' B' N':=
 ⟨h.opt,h.inv.more hE hB,h.calm,Nat.le_trans h.num hN,Nat.le_trans h.hlen (by omega),Nat.le_trans h.tot hE,h.sfb,h.bok⟩
def qS (W0:World) (x:Nat) (o:jX) (F:List ah) (E B N:Nat):Ending→World→Prop:=fun y w'=>∃ X',X'.x=x∧X'.o=o∧yN X' E B N∧y=.returned (.tuple #[.int .i64 0,.bool false])∧Sat W0 (sL X' F) w'
variable {W0 w:World} {F:List ah} {v:Value} {X:SS} {E B N:Nat}
theorem yO {o:tc} (hk:o.kind=2) (hW:jP W0) (hE:kP W0) (h:yN X E B N) (hEE:E≤1048576) (hB:B≤16777215) (hN:N+8388608≤4611686018427387904) (hs:Sat W0 (sL X F) w) :
 Calls Tryz.prog 43 #[au X.x,.agg (F9 o).toArray] w (qS W0 X.x X.o F E B (N+8388608)):=by
 obtain ⟨kk,lv,l⟩:=o
 dsimp only at hk
 subst hk
 have ho:=h.ho
 obtain ⟨r,D',e1,e2,e3⟩:=h.inv.KG (by omega) ho.2.2.1 ho.1 hEE (by omega) (by have:=h.num;omega)
 rcases e3 with ⟨e,rfl,hf⟩|⟨s',rfl,hi,hn⟩
 ·exact (h.calm.u5 hf).elim
 refine enter Tryz.func43 rfl Tryz.ntmps43 Tryz.results43 rfl ?_
 refine gy ?_
 refine cC (z:=[.int .i64 2,lv]) hs ?_
 clear hs
 intro w b3 hs
 have hs:Sat W0 (blk b3 104 [.int .i64 2,lv]::bT X.x X.d (au X.b) X.o X.hp::fx X.b X.d X.o false none X.s::ag X.d X.D::ep X.hp X.H X.sf false::F) w:=hs
 refine gy ?_
 refine ae (met (CM rfl e1 hW (hs.fG (.there (.there .here)) (.there (.there .here)))) ?_)
 clear hs
 rintro _ w ⟨ve,rfl,hs⟩
 refine ⟨_,rfl,?_⟩
 have hs:Sat W0 (fx X.b X.d X.o false none s'::ag X.d D'::aL ve none::blk b3 104 [.int .i64 2,lv]::bT X.x X.d (au X.b) X.o X.hp::ep X.hp X.H X.sf false::F) w:=hs
 refine gy ?_
 refine ae (met (cF hE (hs.take (.there (.there .here)))) ?_)
 clear hs
 rintro _ w ⟨rfl,hs⟩
 refine ⟨_,rfl,?_⟩
 have hn0:((ir none:Nat):Int)=0:=rfl
 obtain ⟨vb,vp,us,hu,hs2⟩:=(hs.take (.there (.there (.there (.there (.there .here)))))).lG
 obtain ⟨ba,bc,rfl,-⟩:=(hs2.take (.there .here)).aB
 have hs:Sat W0 (bT X.x X.d (au X.b) X.o X.hp::blk X.hp 49 [.slice ba X.H.length bc,.int .i64 (X.sf:Int),.bool false,vp]::aI 1 (.slice ba X.H.length bc) 52 X.H.length us::mj us X.H::aX vp (aG X.H)::fx X.b X.d X.o false none s'::ag X.d D'::F) w:=hs2.to
 clear hs2
 refine gy ?_
 refine cx [bT X.x X.d (au X.b) X.o X.hp,blk X.hp 49 [.slice ba X.H.length bc,.int .i64 (X.sf:Int),.bool false,vp]] [3,7,10] (.q 0 (.q 1 (.q 2 (.s 3 (.q 4 (.q 5 (.q 6 (.s 7 (.q 8 (.q 9 (.s 10 (.q 11 (.q 12 (.q 13 (.l 14 .nil))))))))))))))) hs (by kernel_rfl) ?_
 clear hs
 intro w hs
 refine kR ?_
 refine bI hs ?_
 clear hs
 intro w hs
 refine gy ?_
 refine cZ rfl ?_
 refine kR ?_
 refine gy ?_
 refine ak rfl ⟨⟨X.x,X.d,X.b,X.hp,X.o,s',D',X.H,X.H.length⟩,rfl,rfl,⟨h.opt,hi,h.calm.later e2,by show s'.number≤_;have:=h.num;omega,h.hlen,h.tot,Nat.le_refl _,h.bok⟩,rfl,?_⟩
 have h2:=Sat.iq (sf:=X.H.length) (mb:=false) (hp:=X.hp) hu (hs.to (a:=blk X.hp 49 [.slice ba X.H.length bc,.int .i64 (X.H.length:Int),.bool false,vp]::aI 1 (.slice ba X.H.length bc) 52 X.H.length us::mj us X.H::aX vp (aG X.H)::bT X.x X.d (au X.b) X.o X.hp::fx X.b X.d X.o false none s'::ag X.d D'::F))
 exact h2.to
theorem CZ {o:tc} (hk:o.kind=3) (hW:jP W0) (hE:kP W0) (h:yN X E B N) (hEE:E≤1048576) (hB:B≤16777215) (hN:N+8388608≤4611686018427387904) (hs:Sat W0 (sL X F) w) :
 Calls Tryz.prog 43 #[au X.x,.agg (F9 o).toArray] w (qS W0 X.x X.o F E B (N+8388608)):=by
 obtain ⟨kk,lv,l⟩:=o
 dsimp only at hk
 subst hk
 have ho:=h.ho
 obtain ⟨c1,c2,c3⟩:=h.inv.sync
 have hcl:bg X.D X.s.log=none:=by
  rcases c3 with c3|⟨e,c3,ht⟩
  ·exact c3
  ·exact (h.calm.u5 (.inl (.inl ht))).elim
 have hcm:=h.calm.later c1
 obtain ⟨r,D',e1,e2,e3⟩:=c2.again (by omega) ho.1 hEE (by omega) (by have:=h.num;omega)
 rcases e3 with ⟨e,rfl,hf⟩|⟨s',rfl,hi,hn⟩
 ·exact (hcm.u5 hf).elim
 refine enter Tryz.func43 rfl Tryz.ntmps43 Tryz.results43 rfl ?_
 refine gy ?_
 refine cC (z:=[.int .i64 3,lv]) hs ?_
 clear hs
 intro w b3 hs
 have hs:Sat W0 (blk b3 104 [.int .i64 3,lv]::bT X.x X.d (au X.b) X.o X.hp::fx X.b X.d X.o false none X.s::ag X.d X.D::ep X.hp X.H X.sf false::F) w:=hs
 refine gy ?_
 refine ae (met (sE (hs.fG (.there (.there .here)) (.there (.there .here)))) ?_)
 clear hs
 rintro _ w ⟨ve,rfl,hs⟩
 refine ⟨_,rfl,?_⟩
 have ecl:vd false none X.s X.D=(none,dU X.D X.s.log):=by
  show (bg X.D X.s.log,dU X.D X.s.log)=_
  rw [hcl]
 rw [ecl] at hs
 have hs:Sat W0 (bT X.x X.d (au X.b) X.o X.hp::ag X.d (dU X.D X.s.log)::aL ve none::ep X.hp X.H X.sf false::F) w:=hs.to
 refine gy ?_
 refine ae (met (cF hE (hs.take (.there (.there .here)))) ?_)
 clear hs
 rintro _ w ⟨rfl,hs⟩
 refine ⟨_,rfl,?_⟩
 have hn0:((ir none:Nat):Int)=0:=rfl
 have hs:=hs.to (a:=bT X.x X.d (au X.b) X.o X.hp::ag X.d (dU X.D X.s.log)::ep X.hp X.H X.sf false::F)
 refine gy ?_
 refine bI hs ?_
 clear hs
 intro w hs
 obtain ⟨vb,vp,us,hu,hs2⟩:=(hs.take (.there (.there .here))).lG
 obtain ⟨ba,bc,rfl,-⟩:=(hs2.take (.there .here)).aB
 have hs:Sat W0 (bT X.x X.d (.pointer none) X.o X.hp::blk X.hp 49 [.slice ba X.H.length bc,.int .i64 (X.sf:Int),.bool false,vp]::aI 1 (.slice ba X.H.length bc) 52 X.H.length us::mj us X.H::aX vp (aG X.H)::ag X.d (dU X.D X.s.log)::F) w:=hs2.to
 clear hs2
 refine gy ?_
 refine cx [bT X.x X.d (.pointer none) X.o X.hp,blk X.hp 49 [.slice ba X.H.length bc,.int .i64 (X.sf:Int),.bool false,vp]] [3,7,10] (.q 0 (.q 1 (.q 2 (.s 3 (.q 4 (.q 5 (.q 6 (.s 7 (.q 8 (.q 9 (.s 10 (.q 11 (.q 12 (.q 13 (.l 14 .nil))))))))))))))) hs (by kernel_rfl) ?_
 clear hs
 intro w hs
 refine kR ?_
 refine bI hs ?_
 clear hs
 intro w hs
 refine gy ?_
 refine cZ rfl ?_
 refine kR ?_
 have h2:=Sat.iq (sf:=X.H.length) (mb:=false) (hp:=X.hp) hu (hs.to (a:=blk X.hp 49 [.slice ba X.H.length bc,.int .i64 (X.H.length:Int),.bool false,vp]::aI 1 (.slice ba X.H.length bc) 52 X.H.length us::mj us X.H::aX vp (aG X.H)::bT X.x X.d (.pointer none) X.o X.hp::ag X.d (dU X.D X.s.log)::F))
 have hs:Sat W0 (bT X.x X.d (.pointer none) X.o X.hp::ag X.d (dU X.D X.s.log)::ep X.hp X.H X.H.length false::F) w:=h2.to
 clear h2
 refine gy ?_
 refine cx [bT X.x X.d (.pointer none) X.o X.hp] [3,7] (.q 0 (.q 1 (.q 2 (.s 3 (.q 4 (.q 5 (.q 6 (.s 7 (.l 8 (.q 9 (.q 10 (.q 11 (.q 12 (.q 13 .nil)))))))))))))) hs (by kernel_rfl) ?_
 clear hs
 intro w hs
 refine kR ?_
 refine HA [.int .i64 (X.o.memory:Int),.int .i64 (X.o.tables:Int)] rfl rfl rfl rfl .here ⟨rfl,rfl,trivial⟩ rfl ?_
 refine kR ?_
 refine ae (met (kQ (o:=X.o) ⟨ho.1,ho.2.1⟩ ⟨ho.2.2.1,ho.2.2.2⟩ e1 hW hE (hs.take (.there .here))) ?_)
 clear hs
 rintro _ w ⟨sv,ve,rfl,hs⟩
 refine ⟨_,rfl,?_⟩
 obtain ⟨b,rfl,hs2⟩:=n7 hs
 have hs:Sat W0 (bT X.x X.d (.pointer none) X.o X.hp::fx b X.d X.o false none s'::ag X.d D'::aL ve none::ep X.hp X.H X.H.length false::F) w:=hs2.to
 clear hs2
 refine gy ?_
 refine dN hs.to ?_
 refine kR ?_
 refine gy ?_
 refine ae (met (cF hE (hs.take (.there (.there (.there .here))))) ?_)
 clear hs
 rintro _ w ⟨rfl,hs⟩
 refine ⟨_,rfl,?_⟩
 have hn0:((ir none:Nat):Int)=0:=rfl
 have hs:=hs.to (a:=bT X.x X.d (.pointer none) X.o X.hp::fx b X.d X.o false none s'::ag X.d D'::ep X.hp X.H X.H.length false::F)
 refine gy ?_
 refine bI hs ?_
 clear hs
 intro w hs
 refine gy ?_
 refine vj false rfl rfl (by simp [ir]) rfl ?_
 refine gy ?_
 exact ak rfl ⟨⟨X.x,X.d,b,X.hp,X.o,s',D',X.H,X.H.length⟩,rfl,rfl,⟨h.opt,hi.more (Nat.le_refl _) (Nat.zero_le _),hcm.later e2,by show s'.number≤_;have:=h.num;omega,h.hlen,h.tot,Nat.le_refl _,h.bok⟩,rfl,hs.to⟩
end
section
open Go.Proofs.YtecibefflhomdaaGreatDoor.Pure (ad bX aQ pY aR)
attribute [local irreducible] IntKind.wrap
variable {W0 w:World} {F:List ah} {v:Value} {X:SS} {E B N:Nat}
theorem yP (ps:List (Bs×Bs)):Pure.dJ ps [] [] 0=ps:=by
 unfold Pure.dJ Pure.xV
 have:ps.filter (fun p=>Pure.kW [] p.1&&Pure.kV [] p.1)=ps:=List.filter_eq_self.2 fun p _=>by
  simp [Pure.kW,Pure.kV,Pure.zo]
 rw [this];simp
theorem La {C:Prop} {o:jX} {s:St} {D:ad} {H:List (List bX)} (h:fa C o s D H E B) (hE:E≤1048576) (key:Bs):∃ x D',Ih false none s D key=some (x,D')∧cH D D'∧fa C o s D' H E B∧((∃ e,x=.error e∧qC C D e)∨x=jc (aG H) key):=by
 obtain ⟨x,D',e,h1,h2,h3⟩:=h.get key
 refine ⟨x,D',?_,h1,h2,h3⟩
 show Cj s D key aH=_
 unfold Cj
 rw [if_pos ⟨by have:=h.KF hE;omega,by have:=h.Je;omega⟩]
 exact e
theorem yQ {C:Prop} {o:jX} {s:St} {D:ad} {H:List (List bX)} (h:fa C o s D H E B) (hE:E≤1048576):∃ x D',ru false none s D [] [] 0=some (x,D')∧cH D D'∧fa C o s D' H E B∧((∃ e,x=.error e∧qC C D e)∨x=.ok (aG H)):=by
 obtain ⟨x,D',e,h1,h2,h3⟩:=h.scan hE [] [] 0
 rw [yP] at h3
 refine ⟨x,D',?_,h1,h2,h3⟩
 show Ad s D [] [] 0 aH=_
 unfold Ad
 rw [if_pos (by have:=h.Je;omega)]
 exact e
theorem Ji {o:tc} (hk:o.kind=4) (hd:xn W0 3 o.lv (dF o.l)) (hE:kP W0) (h:yN X E B N) (hEE:E≤1048576) (hs:Sat W0 (sL X F) w) :
 Calls Tryz.prog 43 #[au X.x,.agg (F9 o).toArray] w (qS W0 X.x X.o F E B N):=by
 obtain ⟨kk,lv,l⟩:=o
 dsimp only at hk hd
 subst hk
 obtain ⟨la,lc,rfl⟩:=hd.yF
 have hkey:∀ key:Bs,∃ D',Ih false none X.s X.D key=some (jc (aG X.H) key,D')∧yN { X with D:=D' } E B N:=fun key=>by
  obtain ⟨r,D',e1,e2,e3,e4⟩:=La h.inv hEE key
  rcases e4 with ⟨e,rfl,hb⟩|rfl
  ·exact (h.calm.IE hb).elim
  ·exact ⟨D',e1,⟨h.opt,e3,h.calm.later e2.later,h.num,h.hlen,h.tot,h.sfb,h.bok⟩⟩
 have hpl:=gm X.H
 have htot:=h.tot
 refine enter Tryz.func43 rfl Tryz.ntmps43 Tryz.results43 rfl ?_
 refine gy ?_
 refine cC (z:=[.int .i64 4,.slice la l.length lc]) hs ?_
 clear hs
 intro w b3 hs
 have hs:Sat W0 (blk b3 104 [.int .i64 4,.slice la l.length lc]::bT X.x X.d (au X.b) X.o X.hp::fx X.b X.d X.o false none X.s::ag X.d X.D::ep X.hp X.H X.sf false::F) w:=hs
 by_cases hl0:0<l.length
 ·have hl0':(l.length:Int) > 0:=by omega
  obtain ⟨b2,q2,c,hgc,hdc,rfl,-,d0,d1,d2⟩:=hd.N6 hl0
  obtain ⟨D',e1,hok⟩:=hkey c.key
  refine gy ?_
  refine ae (met (ow e1 (hs.fG (.there (.there .here)) (.there (.there .here)))) ?_)
  clear hs
  rintro _ w ⟨ve,rfl,hs⟩
  refine ⟨_,rfl,?_⟩
  refine gy ?_
  refine ae (met (cF hE (hs.take (.there (.there .here)))) ?_)
  clear hs
  rintro _ w ⟨rfl,hs⟩
  refine ⟨_,rfl,?_⟩
  by_cases hbad:((c.key).length=0∨8<(c.key).length)
  ·have er:jc (aG X.H) (c.key)=.error (none,3):=by unfold jc;exact if_pos hbad
   rw [er] at hs ⊢
   have hn3:((ir (dC (.error (none,3):Except cy (Option Bs))):Nat):Int)=3:=rfl
   refine gy ?_
   exact ak rfl ⟨{ X with D:=D' },rfl,rfl,hok,rfl,hs.to⟩
  ·have er:jc (aG X.H) (c.key)=.ok (aR (aG X.H) (c.key)):=by unfold jc;exact if_neg hbad
   rw [er] at hs ⊢
   have hn0:((ir (dC (.ok (aR (aG X.H) (c.key)):Except cy (Option Bs))):Nat):Int)=0:=rfl
   obtain ⟨vb,vp,us,hu,hs2⟩:=(hs.take (.there (.there (.there (.there (.there .here)))))).lG
   have hs:Sat W0 (bT X.x X.d (au X.b) X.o X.hp::blk X.hp 49 [vb,.int .i64 (X.sf:Int),.bool false,vp]::aX vp (aG X.H)::aI 1 vb 52 X.H.length us::mj us X.H::fx X.b X.d X.o false none X.s::ag X.d D'::F) w:=hs2.to
   clear hs2
   obtain ⟨pa,pc,rfl,-⟩:=(hs.take (.there (.there .here))).fZ
   refine gy ?_
   refine ae (met (rS (hs.take (.there (.there .here))) (by omega)) ?_)
   clear hs
   rintro _ w ⟨rfl,hs⟩
   refine ⟨_,rfl,?_⟩
   have hb1:MH (.ok (aR (aG X.H) (c.key)):Except cy (Option Bs))=sQ (aR (aG X.H) (c.key)):=by cases aR (aG X.H) (c.key)<;>rfl
   have hb2:MI (.ok (aR (aG X.H) (c.key)):Except cy (Option Bs))=(aR (aG X.H) (c.key)).isSome:=by cases aR (aG X.H) (c.key)<;>rfl
   rw [hb1,hb2]
   have hne:¬ (sQ (aR (aG X.H) (c.key))≠sQ (aR (aG X.H) (c.key))):=fun h=>h rfl
   refine gy ?_
   refine vj false rfl rfl (by simp) rfl ?_
   refine gy ?_
   refine ak rfl ⟨{ X with D:=D' },rfl,rfl,hok,rfl,?_⟩
   have h2:=Sat.iq (sf:=X.sf) (mb:=false) (hp:=X.hp) hu (hs.to (a:=blk X.hp 49 [vb,.int .i64 (X.sf:Int),.bool false,.slice pa (aG X.H).length pc]::aI 1 vb 52 X.H.length us::mj us X.H::aX (.slice pa (aG X.H).length pc) (aG X.H)::bT X.x X.d (au X.b) X.o X.hp::fx X.b X.d X.o false none X.s::ag X.d D'::F))
   exact h2.to
 ·have hl0':¬ (l.length:Int) > 0:=by omega
  obtain ⟨D',e1,hok⟩:=hkey [97]
  refine gy ?_
  refine ae (met (ow e1 (hs.fG (.there (.there .here)) (.there (.there .here)))) ?_)
  clear hs
  rintro _ w ⟨ve,rfl,hs⟩
  refine ⟨_,rfl,?_⟩
  refine gy ?_
  refine ae (met (cF hE (hs.take (.there (.there .here)))) ?_)
  clear hs
  rintro _ w ⟨rfl,hs⟩
  refine ⟨_,rfl,?_⟩
  by_cases hbad:(([97]).length=0∨8<([97]).length)
  ·have er:jc (aG X.H) ([97])=.error (none,3):=by unfold jc;exact if_pos hbad
   rw [er] at hs ⊢
   have hn3:((ir (dC (.error (none,3):Except cy (Option Bs))):Nat):Int)=3:=rfl
   refine gy ?_
   exact ak rfl ⟨{ X with D:=D' },rfl,rfl,hok,rfl,hs.to⟩
  ·have er:jc (aG X.H) ([97])=.ok (aR (aG X.H) ([97])):=by unfold jc;exact if_neg hbad
   rw [er] at hs ⊢
   have hn0:((ir (dC (.ok (aR (aG X.H) ([97])):Except cy (Option Bs))):Nat):Int)=0:=rfl
   obtain ⟨vb,vp,us,hu,hs2⟩:=(hs.take (.there (.there (.there (.there (.there .here)))))).lG
   have hs:Sat W0 (bT X.x X.d (au X.b) X.o X.hp::blk X.hp 49 [vb,.int .i64 (X.sf:Int),.bool false,vp]::aX vp (aG X.H)::aI 1 vb 52 X.H.length us::mj us X.H::fx X.b X.d X.o false none X.s::ag X.d D'::F) w:=hs2.to
   clear hs2
   obtain ⟨pa,pc,rfl,-⟩:=(hs.take (.there (.there .here))).fZ
   refine gy ?_
   refine ae (met (rS (hs.take (.there (.there .here))) (by omega)) ?_)
   clear hs
   rintro _ w ⟨rfl,hs⟩
   refine ⟨_,rfl,?_⟩
   have hb1:MH (.ok (aR (aG X.H) ([97])):Except cy (Option Bs))=sQ (aR (aG X.H) ([97])):=by cases aR (aG X.H) ([97])<;>rfl
   have hb2:MI (.ok (aR (aG X.H) ([97])):Except cy (Option Bs))=(aR (aG X.H) ([97])).isSome:=by cases aR (aG X.H) ([97])<;>rfl
   rw [hb1,hb2]
   have hne:¬ (sQ (aR (aG X.H) ([97]))≠sQ (aR (aG X.H) ([97]))):=fun h=>h rfl
   refine gy ?_
   refine vj false rfl rfl (by simp) rfl ?_
   refine gy ?_
   refine ak rfl ⟨{ X with D:=D' },rfl,rfl,hok,rfl,?_⟩
   have h2:=Sat.iq (sf:=X.sf) (mb:=false) (hp:=X.hp) hu (hs.to (a:=blk X.hp 49 [vb,.int .i64 (X.sf:Int),.bool false,.slice pa (aG X.H).length pc]::aI 1 vb 52 X.H.length us::mj us X.H::aX (.slice pa (aG X.H).length pc) (aG X.H)::bT X.x X.d (au X.b) X.o X.hp::fx X.b X.d X.o false none X.s::ag X.d D'::F))
   exact h2.to
theorem Gd {o:tc} (hk:o.kind=5) (hE:kP W0) (h:yN X E B N) (hEE:E≤1048576) (hs:Sat W0 (sL X F) w) :
 Calls Tryz.prog 43 #[au X.x,.agg (F9 o).toArray] w (qS W0 X.x X.o F E B N):=by
 obtain ⟨kk,lv,l⟩:=o
 dsimp only at hk
 subst hk
 obtain ⟨r,D',e1,e2,e3,e4⟩:=yQ h.inv hEE
 rcases e4 with ⟨e,rfl,hb⟩|rfl
 ·exact (h.calm.IE hb).elim
 have hok:yN { X with D:=D' } E B N:=⟨h.opt,e3,h.calm.later e2.later,h.num,h.hlen,h.tot,h.sfb,h.bok⟩
 have hpl:=gm X.H
 have htot:=h.tot
 refine enter Tryz.func43 rfl Tryz.ntmps43 Tryz.results43 rfl ?_
 refine gy ?_
 refine cC (z:=[.int .i64 5,lv]) hs ?_
 clear hs
 intro w b3 hs
 have hs:Sat W0 (blk b3 104 [.int .i64 5,lv]::bT X.x X.d (au X.b) X.o X.hp::fx X.b X.d X.o false none X.s::ag X.d X.D::ep X.hp X.H X.sf false::F) w:=hs
 refine gy ?_
 refine ae (met (nQ e1 (hs.fG (.there (.there .here)) (.there (.there .here)))) ?_)
 clear hs
 rintro _ w ⟨pv,ve,rfl,hs⟩
 refine ⟨_,rfl,?_⟩
 have hs:=hs.yL
 refine gy ?_
 refine ae (met (cF hE (hs.take (.there (.there (.there .here))))) ?_)
 clear hs
 rintro _ w ⟨rfl,hs⟩
 refine ⟨_,rfl,?_⟩
 have hn0:((ir (dC (.ok (aG X.H):Except cy (List (Bs×Bs)))):Nat):Int)=0:=rfl
 obtain ⟨vb,vp,us,hu,hs2⟩:=(hs.take (.there (.there (.there (.there (.there (.there .here))))))).lG
 have hs:Sat W0 (bT X.x X.d (au X.b) X.o X.hp::blk X.hp 49 [vb,.int .i64 (X.sf:Int),.bool false,vp]::aX pv (aG X.H)::aX vp (aG X.H)::aI 1 vb 52 X.H.length us::mj us X.H::fx X.b X.d X.o false none X.s::ag X.d D'::F) w:=hs2.to
 clear hs2
 obtain ⟨pa,pc,rfl,-⟩:=(hs.take (.there (.there (.there .here)))).fZ
 obtain ⟨qa,qc,rfl,-⟩:=(hs.take (.there (.there .here))).fZ
 refine gy ?_
 refine ae (met (oD (by omega) (hs.fG (.there (.there .here)) (.there (.there .here)))) ?_)
 clear hs
 rintro _ w ⟨rfl,hs⟩
 refine ⟨_,rfl,?_⟩
 rw [decide_eq_true rfl]
 refine gy ?_
 refine ak rfl ⟨{ X with D:=D' },rfl,rfl,hok,rfl,?_⟩
 have h2:=Sat.iq (sf:=X.sf) (mb:=false) (hp:=X.hp) hu (hs.to (a:=blk X.hp 49 [vb,.int .i64 (X.sf:Int),.bool false,.slice pa (aG X.H).length pc]::aI 1 vb 52 X.H.length us::mj us X.H::aX (.slice pa (aG X.H).length pc) (aG X.H)::bT X.x X.d (au X.b) X.o X.hp::fx X.b X.d X.o false none X.s::ag X.d D'::F))
 exact h2.to
end
section
open Go.Proofs.YtecibefflhomdaaGreatDoor.Pure (ad bX aQ pY aR)
attribute [local irreducible] IntKind.wrap
variable {W0 w:World} {F:List ah} {v:Value} {X:SS} {E B N:Nat}
theorem xn.toA {l:List bX} (h:xn W0 3 v (dF l)):∃ A:ah,LU A 3 v (dF l)∧∀ {F:List ah} {w:World},Sat W0 F w→Sat W0 (A::F) w:=by
 by_cases hne:dF l=[]
 ·exact ⟨fun _=>True,⟨h.1,h.2.1,fun hh=>absurd hne hh⟩,fun hs=>hs.NB⟩
 ·obtain ⟨b,o,c,rfl,h2⟩:=h.chunk hne (by decide)
  exact ⟨N8 b o (dF l).flatten,⟨h.1,h.2.1,fun _=>⟨b,o,c,rfl,fun W0 F w hs j u hu=>hs.Mq hu⟩⟩,h2⟩
theorem C0 {o:tc} (hk:¬ o.kind=2∧¬ o.kind=3∧¬ o.kind=4∧¬ o.kind=5) (hd:xn W0 3 o.lv (dF o.l)) (hlen:o.l.length≤1048576) (hW:jP W0) (hE:kP W0) (h:yN X E B N) (hEE:E+o.l.length≤1048576) (hB:B<16777215) (hN:N+8388608≤4611686018427387904) (hs:Sat W0 (sL X F) w) :
 Calls Tryz.prog 43 #[au X.x,.agg (F9 o).toArray] w (qS W0 X.x X.o F (E+o.l.length) (B+1) (N+8388608)):=by
 obtain ⟨kk,lv,l⟩:=o
 dsimp only at hk hd hEE hlen ⊢
 obtain ⟨k2,k3,k4,k5⟩:=hk
 obtain ⟨la,lc,rfl⟩:=hd.yF
 have ho:=h.ho
 have hpl:=gm X.H
 have htot:=h.tot
 obtain ⟨hn,hnone⟩:=KB false ⟨[],[],false⟩ rfl l
 have hn:ir (mh false none l)=gr l:=hn
 obtain ⟨A,hA,hAi⟩:=hd.toA
 have main:∀ (sync:Bool),(kk=1∧sync=true)∨(¬ kk=1∧sync=false)→Calls Tryz.prog 43 #[au X.x,.agg (F9 ⟨kk,.slice la l.length lc,l⟩).toArray] w (qS W0 X.x X.o F (E+l.length) (B+1) (N+8388608)):=by
  intro sync hsy
  have hex:∃ r D',(mh false none l=none→kJ X.o X.s X.D l sync=some (r,D')∧∃ s',r=.ok s'∧yN { X with s:=s',D:=D',H:=X.H++[l],sf:=if sync=true then X.H.length+1 else X.sf } (E+l.length) (B+1) (N+8388608)):=by
   cases hr:mh false none l with
   | some e=>exact ⟨.error e,X.D,fun hh=>(by cases hh)⟩
   | none=>
    have h0:=(hnone.1 hr).2
    obtain ⟨r,D',e1,e2,e3⟩:=h.inv.write (sync:=sync) (by omega) ho.1 (IG h0) hEE (by omega) (by have:=h.num;omega)
    rcases e3 with ⟨e,rfl,hf⟩|⟨s',rfl,hi,hnn⟩
    ·exact (h.calm.u5 hf).elim
    ·refine ⟨_,D',fun _=>⟨e1,s',rfl,h.opt,hi,h.calm.later e2,(by show s'.number≤_;have:=h.num;omega),?_,?_,?_,fun b hb=>by
      rcases List.mem_append.1 hb with hb|hb
      ·exact h.bok b hb
      ·rw [List.mem_singleton.1 hb];exact IG h0⟩⟩
     ·have:=h.hlen;show (X.H++[l]).length≤_;rw [List.length_append,List.length_singleton];omega
     ·show total (X.H++[l])≤_
      rw [jy]
      have:total [l]=l.length:=by simp [total]
      omega
     ·have:=h.sfb
      show (if sync=true then _ else _)≤(X.H++[l]).length
      rw [List.length_append,List.length_singleton]
      split<;>omega
  obtain ⟨r,D',hex⟩:=hex
  refine enter Tryz.func43 rfl Tryz.ntmps43 Tryz.results43 rfl ?_
  refine gy ?_
  refine cC (z:=[.int .i64 kk,.slice la l.length lc]) hs ?_
  clear hs
  intro w b3 hs
  have hs:Sat W0 (blk b3 104 [.int .i64 kk,.slice la l.length lc]::bT X.x X.d (au X.b) X.o X.hp::fx X.b X.d X.o false none X.s::ag X.d X.D::ep X.hp X.H X.sf false::F) w:=hs
  refine gy ?_
  refine ae (met (sD hd (by omega) hs) ?_)
  clear hs
  rintro _ w ⟨u,rfl,hs⟩
  refine ⟨_,rfl,?_⟩
  have hs:=hs.Ec
  obtain ⟨ua,uc,rfl,-⟩:=hs.qN
  refine gy ?_
  refine ae (met (CI (by omega) hs) ?_)
  clear hs
  rintro _ w ⟨rfl,hs⟩
  refine ⟨_,rfl,?_⟩
  have hs:=hs.drop
  refine gy ?_
  refine cx [bT X.x X.d (au X.b) X.o X.hp,blk b3 104 [.int .i64 kk,.slice la l.length lc]] [3,5,7] (.q 0 (.q 1 (.q 2 (.s 3 (.q 4 (.s 5 (.q 6 (.s 7 (.q 8 (.l 9 (.q 10 .nil))))))))))) hs (by kernel_rfl) ?_
  clear hs
  intro w hs
  rcases hsy with ⟨k1,rfl⟩|⟨k1,rfl⟩
  ·refine kR ?_
   have hs:=hAi hs
   have hs:=hs.to (a:=fx X.b X.d X.o false none X.s::ag X.d X.D::A::blk b3 104 [.int .i64 kk,.slice la l.length lc]::bT X.x X.d (au X.b) X.o X.hp::ep X.hp X.H X.sf false::F)
   refine ae (met (lq (l:=l) (sync:=true) (x:=r) (D':=D') (fun hh=>(hex hh).1) hA (by omega) hW hs) ?_)
   clear hs
   rintro _ w ⟨ve,rfl,hs⟩
   refine ⟨_,rfl,?_⟩
   cases hr:mh false none l with
   | some e=>
    rw [hr] at hs hn
    have hck:gr l≠0:=fun h0=>by
     have:=hnone.2 ⟨rfl,h0⟩
     rw [hr] at this;cases this
    have hs:Sat W0 (aL ve (some e)::fx X.b X.d X.o false none X.s::ag X.d X.D::A::blk b3 104 [.int .i64 kk,.slice la l.length lc]::bT X.x X.d (au X.b) X.o X.hp::ep X.hp X.H X.sf false::F) w:=hs.take (.there (.there .here))
    refine gy ?_
    refine dN hs.to ?_
    refine kR ?_
    refine gy ?_
    refine ae (met (cF hE hs) ?_)
    clear hs
    rintro _ w ⟨rfl,hs⟩
    refine ⟨_,rfl,?_⟩
    have hc0:((gr l:Nat):Int)≠0:=by omega
    refine gy ?_
    refine ae (met (AQ hs) ?_)
    clear hs
    rintro _ w ⟨rfl,hs⟩
    refine ⟨_,rfl,?_⟩
    have hq:¬ (((ir (some e):Nat):Int)≠((gr l:Nat):Int)):=by omega
    refine gy ?_
    exact ak rfl ⟨X,rfl,rfl,h.more (by omega) (by omega) (by omega),rfl,hs.to⟩
   | none=>
    rw [hr] at hs hn
    obtain ⟨e1,s',rfl,hok⟩:=hex hr
    have hck:gr l=0:=(hnone.1 hr).2
    have hs:Sat W0 (fx X.b X.d X.o false none s'::ag X.d D'::aL ve none::A::blk b3 104 [.int .i64 kk,.slice la l.length lc]::bT X.x X.d (au X.b) X.o X.hp::ep X.hp X.H X.sf false::F) w:=hs
    have hs:=hs.to (a:=bT X.x X.d (au X.b) X.o X.hp::blk b3 104 [.int .i64 kk,.slice la l.length lc]::fx X.b X.d X.o false none s'::ag X.d D'::aL ve none::ep X.hp X.H X.sf false::F)
    refine gy ?_
    refine dN hs.to ?_
    refine kR ?_
    refine gy ?_
    refine ae (met (cF hE (hs.take (.there (.there (.there (.there .here)))))) ?_)
    clear hs
    rintro _ w ⟨rfl,hs⟩
    refine ⟨_,rfl,?_⟩
    have hn0:((ir none:Nat):Int)=0:=rfl
    have hc0:¬ (((gr l:Nat):Int)≠0):=by omega
    have hs:=hs.to (a:=bT X.x X.d (au X.b) X.o X.hp::blk b3 104 [.int .i64 kk,.slice la l.length lc]::fx X.b X.d X.o false none s'::ag X.d D'::ep X.hp X.H X.sf false::F)
    refine gy ?_
    refine cx [bT X.x X.d (au X.b) X.o X.hp,blk b3 104 [.int .i64 kk,.slice la l.length lc]] [3,5,7] (.q 0 (.q 1 (.q 2 (.s 3 (.q 4 (.s 5 (.q 6 (.s 7 (.q 8 (.l 9 .nil)))))))))) hs (by kernel_rfl) ?_
    clear hs
    intro w hs
    refine kR ?_
    refine ae (met (pF (l:=l) (safe:=true) hd hlen (by have:=h.hlen;omega) (by omega) (hs.take (.there (.there (.there (.there .here)))))) ?_)
    clear hs
    rintro _ w ⟨rfl,hs⟩
    refine ⟨_,rfl,?_⟩
    refine gy ?_
    refine cZ rfl ?_
    refine kR ?_
    refine gy ?_
    exact ak rfl ⟨{ X with s:=s',D:=D',H:=X.H++[l],sf:=if true=true then X.H.length+1 else X.sf },rfl,rfl,hok,rfl,hs.to⟩
  ·refine kR ?_
   have hs:=hAi hs
   have hs:=hs.to (a:=fx X.b X.d X.o false none X.s::ag X.d X.D::A::blk b3 104 [.int .i64 kk,.slice la l.length lc]::bT X.x X.d (au X.b) X.o X.hp::ep X.hp X.H X.sf false::F)
   refine ae (met (lq (l:=l) (sync:=false) (x:=r) (D':=D') (fun hh=>(hex hh).1) hA (by omega) hW hs) ?_)
   clear hs
   rintro _ w ⟨ve,rfl,hs⟩
   refine ⟨_,rfl,?_⟩
   cases hr:mh false none l with
   | some e=>
    rw [hr] at hs hn
    have hck:gr l≠0:=fun h0=>by
     have:=hnone.2 ⟨rfl,h0⟩
     rw [hr] at this;cases this
    have hs:Sat W0 (aL ve (some e)::fx X.b X.d X.o false none X.s::ag X.d X.D::A::blk b3 104 [.int .i64 kk,.slice la l.length lc]::bT X.x X.d (au X.b) X.o X.hp::ep X.hp X.H X.sf false::F) w:=hs.take (.there (.there .here))
    refine gy ?_
    refine dN hs.to ?_
    refine kR ?_
    refine gy ?_
    refine ae (met (cF hE hs) ?_)
    clear hs
    rintro _ w ⟨rfl,hs⟩
    refine ⟨_,rfl,?_⟩
    have hc0:((gr l:Nat):Int)≠0:=by omega
    refine gy ?_
    refine ae (met (AQ hs) ?_)
    clear hs
    rintro _ w ⟨rfl,hs⟩
    refine ⟨_,rfl,?_⟩
    have hq:¬ (((ir (some e):Nat):Int)≠((gr l:Nat):Int)):=by omega
    refine gy ?_
    exact ak rfl ⟨X,rfl,rfl,h.more (by omega) (by omega) (by omega),rfl,hs.to⟩
   | none=>
    rw [hr] at hs hn
    obtain ⟨e1,s',rfl,hok⟩:=hex hr
    have hck:gr l=0:=(hnone.1 hr).2
    have hs:Sat W0 (fx X.b X.d X.o false none s'::ag X.d D'::aL ve none::A::blk b3 104 [.int .i64 kk,.slice la l.length lc]::bT X.x X.d (au X.b) X.o X.hp::ep X.hp X.H X.sf false::F) w:=hs
    have hs:=hs.to (a:=bT X.x X.d (au X.b) X.o X.hp::blk b3 104 [.int .i64 kk,.slice la l.length lc]::fx X.b X.d X.o false none s'::ag X.d D'::aL ve none::ep X.hp X.H X.sf false::F)
    refine gy ?_
    refine dN hs.to ?_
    refine kR ?_
    refine gy ?_
    refine ae (met (cF hE (hs.take (.there (.there (.there (.there .here)))))) ?_)
    clear hs
    rintro _ w ⟨rfl,hs⟩
    refine ⟨_,rfl,?_⟩
    have hn0:((ir none:Nat):Int)=0:=rfl
    have hc0:¬ (((gr l:Nat):Int)≠0):=by omega
    have hs:=hs.to (a:=bT X.x X.d (au X.b) X.o X.hp::blk b3 104 [.int .i64 kk,.slice la l.length lc]::fx X.b X.d X.o false none s'::ag X.d D'::ep X.hp X.H X.sf false::F)
    refine gy ?_
    refine cx [bT X.x X.d (au X.b) X.o X.hp,blk b3 104 [.int .i64 kk,.slice la l.length lc]] [3,5,7] (.q 0 (.q 1 (.q 2 (.s 3 (.q 4 (.s 5 (.q 6 (.s 7 (.q 8 (.l 9 .nil)))))))))) hs (by kernel_rfl) ?_
    clear hs
    intro w hs
    refine kR ?_
    refine ae (met (pF (l:=l) (safe:=false) hd hlen (by have:=h.hlen;omega) (by omega) (hs.take (.there (.there (.there (.there .here)))))) ?_)
    clear hs
    rintro _ w ⟨rfl,hs⟩
    refine ⟨_,rfl,?_⟩
    refine gy ?_
    refine cZ rfl ?_
    refine kR ?_
    refine gy ?_
    exact ak rfl ⟨{ X with s:=s',D:=D',H:=X.H++[l],sf:=if false=true then X.H.length+1 else X.sf },rfl,rfl,hok,rfl,hs.to⟩
 by_cases k1:kk=1
 ·exact main true (.inl ⟨k1,rfl⟩)
 ·exact main false (.inr ⟨k1,rfl⟩)
theorem Ge {o:tc} (hd:xn W0 3 o.lv (dF o.l)) (hlen:o.l.length≤1048576) (hW:jP W0) (hE:kP W0) (h:yN X E B N) (hEE:E+o.l.length≤1048576) (hB:B<16777215) (hN:N+8388608≤4611686018427387904) (hs:Sat W0 (sL X F) w) :
 Calls Tryz.prog 43 #[au X.x,.agg (F9 o).toArray] w (qS W0 X.x X.o F (E+o.l.length) (B+1) (N+8388608)):=by
 have hmore:∀ {E' B' N':Nat},E'≤E+o.l.length→B'≤B+1→N'≤N+8388608→∀ x w',qS W0 X.x X.o F E' B' N' x w'→qS W0 X.x X.o F (E+o.l.length) (B+1) (N+8388608) x w':=
  fun h1 h2 h3 x w' ⟨X',a,b,hx,e,k⟩=>⟨X',a,b,hx.more h1 h2 h3,e,k⟩
 by_cases k2:o.kind=2
 ·exact (yO k2 hW hE h (by omega) (by omega) hN hs).mono (hmore (by omega) (by omega) (by omega))
 by_cases k3:o.kind=3
 ·exact (CZ k3 hW hE h (by omega) (by omega) hN hs).mono (hmore (by omega) (by omega) (by omega))
 by_cases k4:o.kind=4
 ·exact (Ji k4 hd hE h (by omega) hs).mono (hmore (by omega) (by omega) (by omega))
 by_cases k5:o.kind=5
 ·exact (Gd k5 hE h (by omega) hs).mono (hmore (by omega) (by omega) (by omega))
 exact C0 ⟨k2,k3,k4,k5⟩ hd hlen hW hE h hEE hB hN hs
end
section
open Go.Proofs.YtecibefflhomdaaGreatDoor.Pure (ad bX aQ pY aR)
attribute [local irreducible] IntKind.wrap
variable {W0 w:World} {F:List ah} {v:Value} {X:SS} {E B N:Nat} {o:jX}
def Gx (ds:List tc):Nat:=(ds.map fun o=>o.l.length).sum
theorem Jj {ds:List tc} {i:Nat} {x:tc} (h:ds[i]?=some x):Gx (ds.take (i+1))=Gx (ds.take i)+x.l.length:=yI (fun o:tc=>o.l.length) h
theorem A7 (ds:List tc) (i:Nat):Gx (ds.take i)≤Gx ds:=by
 have h:Gx ds=Gx (ds.take i)+Gx (ds.drop i):=by
  unfold Gx
  rw [← List.sum_append,← List.map_append,List.take_append_drop]
 omega
theorem Jk:∀ ds:List tc,Gx ds≤(ds.map Jw).sum
 | []=>Nat.le_refl _
 | o::r=>by
  have h1:=Jk r
  have h2:o.l.length≤Jw o:=yJ qQ (fun x=>by unfold qQ;omega) o.l
  unfold Gx at h1 ⊢
  simp only [List.map_cons,List.sum_cons]
  omega
theorem A8 (hok:K7 o.memory o.tables=true) {D2:ad} (h:nZ (dp 1099511627776) D2):∃ s D',iy o D2=some (.ok s,D')∧fa False o s D' [[]] 0 0∧Calm D'∧s.number≤1:=by
 have hok':1≤o.memory∧o.memory≤32∧2≤o.tables∧o.tables≤6:=by simpa [K7] using hok
 have hc:Calm D2:=⟨h.bad,by rw [h.room];rfl⟩
 obtain ⟨x,D',e1,e2,e3⟩:=FR (o:=o) (by omega) hok'.1 h.ok (fun m=>by rw [h.file];rfl) h.bad h.moves
 rcases e3 with ⟨e,rfl,hf⟩|⟨s,rfl,hi,hn⟩
 ·exact (hc.u5 hf).elim
 ·exact ⟨s,D',e1,KH hi,hc.later e2,hn⟩
def NF (W0:World) (o:jX) (F:List ah) (E B N:Nat):Ending→World→Prop:=fun y w'=>∃ X:SS,X.o=o∧yN X E B N∧y=.returned (.tuple #[au X.x,.bool true]) ∧
 Sat W0 (bT X.x X.d (au X.b) X.o X.hp::ag X.d X.D::ep X.hp X.H X.sf false::F) w'
theorem A9 {ds:List tc} {mm tt:Int} (hm:ds.length+(ds.map Jw).sum≤1048576) (ho:yK W0 v ds) (hW:jP W0) (hE:kP W0) (hs:Sat W0 F w) :
 Calls Tryz.prog 14 #[v,.int .i64 mm,.int .i64 tt] w (NF W0 ⟨pC mm,pD tt⟩ F 1048576 1048576 8796093022209):=by
 obtain ⟨al,cl,rfl⟩:=ho.len
 have hok:=A5 mm tt
 refine enter Tryz.func14 rfl Tryz.ntmps14 Tryz.results14 rfl ?_
 refine gy ?_
 refine ae (met (wm (room:=1099511627776) hs (by omega) (by omega)) ?_)
 clear hs
 rintro _ w ⟨d,rfl,hs⟩
 refine ⟨_,rfl,?_⟩
 refine gy ?_
 refine ae (met (CX hs) ?_)
 clear hs
 rintro _ w ⟨rfl,hs⟩
 refine ⟨_,rfl,?_⟩
 generalize hmo:pC mm=m at hok ⊢
 generalize hto:pD tt=t at hok ⊢
 refine gy ?_
 refine bw [.slice none 0 0,.int .i64 0,.bool false,.slice none 0 0] ?_
 refine cC hs fun w hp hs=>?_
 have hs:=Sat.K9 hs
 refine gy ?_
 refine bw [au d,.pointer none,.int .i64 (m:Int),.int .i64 (t:Int),au hp] ?_
 refine cC hs fun w x hs=>?_
 have hs:Sat W0 (bT x d (.pointer none) ⟨m,t⟩ hp::ag d (dp 1099511627776)::ep hp [] 0 false::F) w:=hs.to
 refine gy ?_
 refine ae (met (yM (o:=⟨m,t⟩) hok (fun D2 hc=>?_) hW hE hs) ?_)
 ·obtain ⟨s,D',e1,hi,hc2,hn⟩:=A8 (o:=⟨m,t⟩) hok hc
  obtain ⟨r,D3,f1,f2,f3,f4⟩:=yQ hi (by omega)
  rcases f4 with ⟨e,rfl,hb⟩|rfl
  ·exact (hc2.IE hb).elim
  ·exact ⟨s,D',D3,e1,f1⟩
 clear hs
 rintro _ w ⟨rfl,d2,D2,s,D',D3,b,hp2,hc,h1,h2,hs⟩
 refine ⟨_,rfl,?_⟩
 have hX:yN ⟨x,d2,b,hp2,⟨m,t⟩,s,D3,[[]],1⟩ 0 0 1:=by
  obtain ⟨s',D'',e1,hi,hc2,hn⟩:=A8 (o:=⟨m,t⟩) hok hc
  rw [h1] at e1
  cases e1
  obtain ⟨r,D4,f1,f2,f3,f4⟩:=yQ hi (by omega)
  rw [h2] at f1
  cases f1
  exact ⟨hok,f3,hc2.later f2.later,hn,by simp,by simp [total],by simp,fun b hb=>by rw [List.mem_singleton.1 hb];exact ⟨by simp,by simp,by simp⟩⟩
 have hs:Sat W0 (sL ⟨x,d2,b,hp2,⟨m,t⟩,s,D3,[[]],1⟩ F) w:=hs
 generalize hXe:(⟨x,d2,b,hp2,⟨m,t⟩,s,D3,[[]],1⟩:SS)=X at hX hs
 have hXx:X.x=x:=by rw [← hXe]
 have hXo:X.o=⟨m,t⟩:=by rw [← hXe]
 clear hXe h1 h2 hc
 have htot:=Jk ds
 refine gy ?_
 refine aK (α:=Nat) (fun i=>[(0,.slice al ds.length cl),(8,au x),(10,.bool true),(11,.int .i64 (i:Int))])
  (fun i w=>i≤ds.length∧∃ X:SS,X.x=x∧X.o=⟨m,t⟩∧yN X (Gx (ds.take i)) i (1+i*8388608)∧Sat W0 (sL X F) w) (fun i=>ds.length-i) 0 ⟨rfl,rfl,rfl,rfl,trivial⟩ ⟨Nat.zero_le _,X,hXx,hXo,hX,hs⟩ ?_
 clear hs hX hXx hXo
 rintro i w ⟨hi,X,rfl,hXo,hok,hs⟩
 by_cases hlt:i<ds.length
 ·have hlt':(i:Int)<(ds.length:Int):=by omega
  obtain ⟨bq,q,o,hg,hmem,rfl,hrow,-⟩:=ho.row hlt
  obtain ⟨hrd,-⟩:=ho.ok o hmem
  have hls:=Jj hg
  have hpart:=A7 ds (i+1)
  refine gy ?_
  refine Kd (F9 o) hs rfl rfl rfl hrow rfl ?_
  refine gy ?_
  refine ae (met (Ge (o:=o) hrd (by omega) hW hE hok (by omega) (by omega) (by omega) hs) ?_)
  clear hs
  rintro _ w ⟨Y,hx,hYo,hokY,rfl,hs⟩
  refine ⟨_,rfl,?_⟩
  refine gy ?_
  exact aA (i+1) ⟨rfl,rfl,rfl,rfl,trivial⟩ ⟨hlt,Y,hx,hYo.trans hXo,hokY.more (by omega) (Nat.le_refl _) (by omega),hs⟩ (by show ds.length-(i+1)<ds.length-i;omega)
 ·have hie:i=ds.length:=by omega
  subst hie
  have hlt':¬ (ds.length:Int)<(ds.length:Int):=by omega
  obtain ⟨c1,c2,c3⟩:=hok.inv.sync
  have hcl:bg X.D X.s.log=none:=by
   rcases c3 with c3|⟨e,c3,ht⟩
   ·exact c3
   ·exact (hok.calm.u5 (.inl (.inl ht))).elim
  have hs:Sat W0 (bT X.x X.d (au X.b) X.o X.hp::fx X.b X.d X.o false none X.s::ag X.d X.D::ep X.hp X.H X.sf false::F) w:=hs
  refine gy ?_
  refine ae (met (sE (hs.fG (.there .here) (.there .here))) ?_)
  clear hs
  rintro _ w ⟨ve,rfl,hs⟩
  refine ⟨_,rfl,?_⟩
  have ecl:vd false none X.s X.D=(none,dU X.D X.s.log):=by
   show (bg X.D X.s.log,dU X.D X.s.log)=_
   rw [hcl]
  rw [ecl] at hs
  have hs:Sat W0 (bT X.x X.d (au X.b) X.o X.hp::ag X.d (dU X.D X.s.log)::aL ve none::ep X.hp X.H X.sf false::F) w:=hs.to
  refine gy ?_
  refine ae (met (cF hE (hs.take (.there (.there .here)))) ?_)
  clear hs
  rintro _ w ⟨rfl,hs⟩
  refine ⟨_,rfl,?_⟩
  have hn0:((ir none:Nat):Int)=0:=rfl
  have htk:=A7 ds ds.length
  have hY:yN { X with D:=dU X.D X.s.log } (Gx (ds.take ds.length)) ds.length (1+ds.length*8388608):=⟨hok.opt,c2,hok.calm.later c1,hok.num,hok.hlen,hok.tot,hok.sfb,hok.bok⟩
  refine gy ?_
  exact ak rfl ⟨{ X with D:=dU X.D X.s.log },hXo,hY.more (by omega) (by omega) (by omega),rfl,hs.to⟩
end
end Go.Proofs.YtecibefflhomdaaGreatDoor
