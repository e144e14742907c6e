/-
  Part 49: WALKS reopen; WALKS a round of deeds on a disk that may fail, up to the ne.
-/
import Derived.Test.YtecibefflhomdaaGreatDoorY48
set_option maxHeartbeats 8000000
set_option maxRecDepth 100000
set_option linter.all false
namespace Go.Proofs.YtecibefflhomdaaGreatDoor
open Go
section
open Go.Proofs.YtecibefflhomdaaGreatDoor.Pure (ad bO aQ mZ aV)
attribute [local irreducible] IntKind.wrap
variable {W0 w:World} {F:List ah} {v:Value} {x d hp sf N S:Nat} {mb:Bool} {H:List (List bO)} {o:ji} {D:ad}
def Oh (W0:World) (x:Nat) (o:ji) (F:List ah) (N S L:Nat):Ending→World→Prop:=fun y w'=>
 (y=.returned (.int .i64 2)∧Sat W0 F w')∨(y=.returned (.int .i64 0)∧∃ X',X'.x=x∧X'.o=o∧sY X' N S L∧Sat W0 (sL X' F) w')
abbrev M6 (v:Value) (l:List bO):ah:=aE 3 v 100 l.length (dw l).flatten
theorem Sat.Lk {l:List bO} (h:Sat W0 (M6 v l::F) w):Sat W0 (gI v l::F) w:=by
 have h1:Sat W0 (aE 3 v 100 (dw l).length (dw l).flatten::F) w:=by rw [dC];exact h
 exact h1.jK fun r hr=>by obtain ⟨x,_,rfl⟩:=List.mem_map.1 hr;rfl
theorem sR {j:Nat} {sv:Value} (hok:JS o.memory o.tables=true) (hj:sf≤j) (hjl:j≤H.length) (hH:H.length≤4194304) (ht:total H≤4194304)
 (hop:∀ D2,rS D D2→∃ r D',j9 o D2=some (r,D')∧cS D2 D'∧((∃ e,r=.error e∧e.2=9)∨∃ s',r=.ok s'∧eH o s' D' (H.take j) 0 S∧s'.number≤N)) (hW:jB W0) (hE:kY W0)
 (hs:Sat W0 (aJ x d sv o hp::ag d D::cJ hp H sf mb::F) w) :
 Calls Tryz.prog 26 #[au x] w (Oh W0 x o F N S 102999):=by
 have hok':1≤o.memory∧o.memory≤32∧2≤o.tables∧o.tables≤6:=by simpa [JS] using hok
 refine enter Tryz.func26 rfl Tryz.ntmps26 Tryz.results26 rfl ?_
 refine gy ?_
 refine ae (met (MU (hs.take (.there .here))) ?_)
 clear hs
 rintro _ w ⟨d2,D2,rfl,hc,hs⟩
 refine ⟨_,rfl,?_⟩
 obtain ⟨r,D',h1,hl,hr⟩:=hop D2 hc
 have hs:=hs.to (a:=aJ x d sv o hp::ag d2 D2::cJ hp H sf mb::F)
 refine gy ?_
 refine bD hs ?_
 clear hs
 intro w hs
 refine gy ?_
 refine bH [aJ x d2 sv o hp] [3,7] (.q 0 (.q 1 (.q 2 (.s 3 (.q 4 (.q 5 (.q 6 (.s 7 (.l 8 (.q 9 (.q 10 (.q 11 (.q 12 (.q 13 .nil)))))))))))))) hs (by kernel_rfl) ?_
 clear hs
 intro w hs
 refine gg ?_
 refine B2 [.int .i64 (o.memory:Int),.int .i64 (o.tables:Int)] rfl rfl rfl rfl .here ⟨rfl,rfl,trivial⟩ rfl ?_
 refine gg ?_
 refine ae (met (mV (o:=o) ⟨hok'.1,hok'.2.1⟩ ⟨hok'.2.2.1,hok'.2.2.2⟩ h1 hW hE (hs.take (.there .here))) ?_)
 clear hs
 rintro _ w ⟨nv,ve,rfl,hs⟩
 refine ⟨_,rfl,?_⟩
 rcases hr with ⟨e,rfl,he⟩|⟨s,rfl,hi,hn⟩
 ·obtain ⟨rfl,hs2⟩:=xG hs
  have hs:Sat W0 (ag d2 D'::ax ve (some e)::aJ x d2 sv o hp::cJ hp H sf mb::F) w:=hs2.to
  clear hs2
  refine gy ?_
  refine cX hs.to ?_
  refine gg ?_
  refine gy ?_
  refine ae (met (bK hE (hs.take (.there .here))) ?_)
  clear hs
  rintro _ w ⟨rfl,hs⟩
  refine ⟨_,rfl,?_⟩
  have hn9:((gn (some e):Nat):Int)=9:=by show ((e.2:Nat):Int)=9;omega
  refine gy ?_
  exact ak rfl (.inl ⟨rfl,hs.drop.drop.drop.drop⟩)
 obtain ⟨b,rfl,hs2⟩:=qW hs
 have hs:Sat W0 (dh b d2 o false none s::ag d2 D'::ax ve none::aJ x d2 sv o hp::cJ hp H sf mb::F) w:=hs2.to
 clear hs2
 refine gy ?_
 refine cX hs.to ?_
 refine gg ?_
 refine gy ?_
 refine ae (met (bK hE (hs.take (.there (.there .here)))) ?_)
 clear hs
 rintro _ w ⟨rfl,hs⟩
 refine ⟨_,rfl,?_⟩
 have hn0:((gn none:Nat):Int)=0:=rfl
 have hs:=hs.to (a:=dh b d2 o false none s::ag d2 D'::aJ x d2 sv o hp::cJ hp H sf mb::F)
 obtain ⟨rr,D3,q1,q2,q3,q4⟩:=Jz hi
 have hfew:=hi.Lb
 rcases q4 with ⟨e,rfl,hb⟩|rfl
 ·exfalso
  have hb0:=hc.bad
  have hb1:=hl.bad
  rcases hb with hb|hb
  ·have:=hb.2;omega
  ·exact hb.1
 generalize hL:aI (H.take j)=l at q1 hfew
 have hsrt:Pure.jS l:=by rw [← hL];exact jH _
 refine gy ?_
 refine ae (met (vq hE q1 hs) ?_)
 clear hs
 rintro _ w ⟨pv,rfl,hs⟩
 refine ⟨_,rfl,?_⟩
 have hs:=hs.Di
 have e0:(JM (.ok l:Except cy (List (Bs×Bs))))=l:=rfl
 have hn1:((gn (dk (.ok l:Except cy (List (Bs×Bs)))):Nat):Int)=0:=rfl
 rw [e0] at hs
 obtain ⟨pa,pc,rfl,-⟩:=hs.fH
 have hs:=hs.to (a:=aJ x d2 sv o hp::bw (.slice pa l.length pc) l::dh b d2 o false none s::ag d2 D3::cJ hp H sf mb::F)
 refine gy ?_
 refine ae (met (prefix_at (n:=j) hL.symm hj hjl (by omega) (by omega) (hs.eA (.there (.there (.there (.there .here)))) (.there .here))) ?_)
 clear hs
 rintro _ w ⟨rfl,hs⟩
 refine ⟨_,rfl,?_⟩
 have hs:=hs.to (a:=aJ x d2 sv o hp::dh b d2 o false none s::ag d2 D3::bw (.slice pa l.length pc) l::F)
 refine gy ?_
 refine bD hs ?_
 clear hs
 intro w hs
 refine gy ?_
 refine bA [.slice none 0 0,.int .i64 0,.bool false,.slice none 0 0] ?_
 refine cE hs fun w hp2 hs=>?_
 have hs:=Sat.LG hs
 have hs:=hs.to (a:=aJ x d2 (au b) o hp::dh b d2 o false none s::ag d2 D3::cJ hp2 [] 0 false::bw (.slice pa l.length pc) l::F)
 refine gy ?_
 refine bD hs ?_
 clear hs
 intro w hs
 refine gy ?_
 refine aL (α:=Nat×Value) (fun q=>[(0,au x),(6,.slice pa l.length pc),(9,q.2),(10,.int .i64 (q.1:Int))])
  (fun q w=>q.1≤l.length∧Sat W0 (M6 q.2 (iz (l.take q.1))::bw (.slice pa l.length pc) l::aJ x d2 (au b) o hp2::dh b d2 o false none s::ag d2 D3::cJ hp2 [] 0 false::F) w) (fun q=>l.length-q.1) (0,.slice none 0 0) ⟨rfl,rfl,rfl,rfl,trivial⟩
  ⟨Nat.zero_le _,(Sat.cP (k:=3) (E:=100) hs).to⟩ ?_
 clear hs
 rintro ⟨i,vo⟩ w ⟨hi2,hs⟩
 dsimp only at hi2 hs ⊢
 obtain ⟨ao,co,rfl,-⟩:=hs.ay
 by_cases hlt:i<l.length
 ·have hlt':(i:Int)<(l.length:Int):=by omega
  obtain ⟨z,p,hg,hd,rfl,hseg,c0,c1,h2⟩:=(hs.take (.there .here)).A0 hlt
  clear hs
  have htk:(iz (l.take i)).length=i:=by rw [vu,List.length_take];omega
  have hs:Sat W0 (ob true z.b (.cells z.all.toArray z.E (0,0))::M6 (.slice ao (iz (l.take i)).length co) (iz (l.take i))::bw (.slice (some ⟨z.b,z.o,none⟩) l.length pc) l::aJ x d2 (au b) o hp2::dh b d2 o false none s::ag d2 D3::cJ hp2 [] 0 false::F) w:=h2.to
  clear h2
  refine gy ?_
  refine bH [ob true z.b (.cells z.all.toArray z.E (0,0))] [5,10] (.q 0 (.q 1 (.q 2 (.q 3 (.q 4 (.s 5 (.q 6 (.q 7 (.q 8 (.q 9 (.s 10 (.q 11 (.l 12 (.l 13 (.q 14 .nil))))))))))))))) hs (by kernel_rfl) ?_
  clear hs
  intro w hs
  refine gg ?_
  refine mf (j5 ⟨p.1,p.2,false⟩) rfl ?_
  refine gg ?_
  refine gN (j5 ⟨p.1,p.2,false⟩) hs ?_
  clear hs
  intro w b8 hs
  refine gy ?_
  refine cX hs.to ?_
  refine gg ?_
  refine dF hs ?_
  clear hs
  intro v2 w hs
  rw [yO] at hs
  refine gy ?_
  refine cX hs.to ?_
  refine gg ?_
  refine gy ?_
  have htk:iz (l.take (i+1))=iz (l.take i)++[⟨p.1,p.2,false⟩]:=by rw [List.take_add_one,hg];unfold iz;rw [List.map_append];rfl
  refine aB (i+1,v2) ⟨rfl,rfl,rfl,rfl,trivial⟩ ⟨hlt,?_⟩ (by show l.length-(i+1)<l.length-i;omega)
  rw [htk]
  exact hs.to
 ·have hie:i=l.length:=by omega
  subst hie
  have hlt':¬ (l.length:Int)<(l.length:Int):=by omega
  rw [List.take_length] at hs ⊢
  have hs:=hs.Lk
  have hs:=hs.to (a:=aJ x d2 (au b) o hp2::dh b d2 o false none s::ag d2 D3::gI (.slice ao (iz l).length co) (iz l)::cJ hp2 [] 0 false::F)
  refine gy ?_
  refine ae (met (Bq (l:=iz l) (safe:=true) (by rw [vu];omega) (by simp) (by simp [aI]) (hs.eA (.there (.there (.there .here))) (.there (.there (.there .here))))) ?_)
  clear hs
  rintro _ w ⟨rfl,hs⟩
  refine ⟨_,rfl,?_⟩
  refine gy ?_
  refine ak rfl (.inr ⟨rfl,⟨x,d2,b,hp2,o,s,D3,[iz l],1⟩,rfl,rfl,⟨hok,((q3.swap ((JF hsrt).trans hL.symm)).more (Nat.zero_le _) (Nat.le_refl _)),hn,by simp,by simp [total];omega,by simp⟩,hs.to⟩)
end
section
open Go.Proofs.YtecibefflhomdaaGreatDoor.Pure (ad bO aQ mZ aV)
attribute [local irreducible] IntKind.wrap
structure vU where
 dv:Value
 ds:List vB
 after:Int
 dir:Int
 tail:Int
 crash:Bool
 times:Int
def Nh (r:vU):List Value:=[r.dv,.int .i64 r.after,.int .u64 r.dir,.int .u64 r.tail,.bool r.crash,.int .i64 r.times]
variable {W0 w:World} {F:List ah} {v:Value} {X:SS} {N S L x:Nat} {o:ji}
theorem sY.bx {a t:Int} (h:sY X N S L) (ha:a≤9223372036854775807) (ht:t≤9223372036854775807):sY { X with D:=bx X.D a t } N S L:=
 ⟨h.opt,h.inv.K9 (mG h.inv.ok ha ht) (fun _=>rfl) rfl ⟨h.inv.small.room,h.inv.small.fits⟩,h.num,h.hlen,h.tot,h.sfb⟩
theorem lK.ok {D:ad} {H:List (List bO)} (h:lK D H N S):D.Ok:=by obtain ⟨c,Ls,bs,h1,_⟩:=h.rec_;exact h1.ok
theorem Le.bx {Y:FB} {a t:Int} (h:Le Y N S L) (ha:a≤9223372036854775807) (ht:t≤9223372036854775807):Le { Y with D:=bx Y.D a t } N S L:=by
 obtain ⟨j,h1,h2,h3⟩:=h.rec_
 exact ⟨h.opt,⟨j,h1,h2,h3.K9 (mG h3.ok ha ht) (fun _=>rfl) ⟨h3.small.room,h3.small.fits⟩⟩,h.hlen,h.tot,h.sfb⟩
def OQ (W0:World) (x:Nat) (o:ji) (F:List ah) (N S L:Nat) (w:World):Prop:=
 (∃ X:SS,X.x=x∧X.o=o∧sY X N S L∧Sat W0 (sL X F) w) ∨
 (∃ Y:FB,Y.x=x∧Y.o=o∧Le Y N S L∧((∃ b e s,Sat W0 (OW Y b true e s F) w)∨Sat W0 (OX Y F) w))
theorem Dt {r:vU} (hc:r.crash=false) (hdw:vS W0 r.dv r.ds) (hm:r.ds.length+(r.ds.map JU).sum≤1048576) (ha:r.after≤9223372036854775807) (htm:r.times≤9223372036854775807) (hW:jB W0) (hE:kY W0)
 (h:sY X N S L) (hL:L≤1048576) (hS:S+16777216≤4611686018427387904) (hN:N+2097152000000≤4611686018427387904) (hs:Sat W0 (sL X F) w) :
 Calls Tryz.prog 27 #[au X.x,.agg (Nh r).toArray,.bool true] w (Oh W0 X.x X.o F (N+2097152000000) (S+16777216) 102999):=by
 obtain ⟨al,cl,hdv⟩:=hdw.len
 have hdl:=Jv r.ds
 obtain ⟨dv,ds,after,dir,tail,crash,times⟩:=r
 dsimp only at hc hdw hm ha htm hdv hdl ⊢
 subst hc hdv
 refine enter Tryz.func27 rfl Tryz.ntmps27 Tryz.results27 rfl ?_
 refine dU ?_
 refine pr ?_
 refine cE (z:=[.slice al ds.length cl,.int .i64 after,.int .u64 dir,.int .u64 tail,.bool false,.int .i64 times]) hs ?_
 clear hs
 intro w b4 hs
 have hs:Sat W0 (aJ X.x X.d (au X.b) X.o X.hp::blk b4 61 [.slice al ds.length cl,.int .i64 after,.int .u64 dir,.int .u64 tail,.bool false,.int .i64 times]::dh X.b X.d X.o false none X.s::ag X.d X.D::cJ X.hp X.H X.sf false::F) w:=hs.to
 refine pr ?_
 refine db rfl ?_
 refine eB (α:=SS) (fun _=>[(0,au X.x),(2,.bool true),(4,au b4)]) (fun Z w=>(Z.x=X.x∧Z.o=X.o∧sY Z N S L)∧Sat W0 (sL Z (blk b4 61 [.slice al ds.length cl,.int .i64 after,.int .u64 dir,.int .u64 tail,.bool false,.int .i64 times]::F)) w) ?_ ?_
 ·by_cases hA:after ≥ 0
  ·by_cases hT:times≤0
   ·refine gy ?_
    refine bH [aJ X.x X.d (au X.b) X.o X.hp,blk b4 61 [.slice al ds.length cl,.int .i64 after,.int .u64 dir,.int .u64 tail,.bool false,.int .i64 times]] [3,5] (.q 0 (.q 1 (.q 2 (.s 3 (.q 4 (.s 5 (.q 6 (.l 7 .nil)))))))) hs (by kernel_rfl) ?_
    clear hs
    intro w hs
    refine gg ?_
    refine ae (met (mH (a:=after) (t:=1099511627776) (hs.take (.there (.there (.there .here)))) (by omega) (by omega)) ?_)
    clear hs
    rintro _ w ⟨rfl,hs⟩
    refine ⟨_,rfl,?_⟩
    refine gy ?_
    refine cA rfl ?_
    refine gg ?_
    refine gy ?_
    exact bg { X with D:=bx X.D after (1099511627776) } ⟨rfl,rfl,rfl,trivial⟩ ⟨⟨rfl,rfl,h.bx (by omega) (by omega)⟩,hs.to⟩
   ·refine gy ?_
    refine bH [aJ X.x X.d (au X.b) X.o X.hp,blk b4 61 [.slice al ds.length cl,.int .i64 after,.int .u64 dir,.int .u64 tail,.bool false,.int .i64 times]] [3,5] (.q 0 (.q 1 (.q 2 (.s 3 (.q 4 (.s 5 (.q 6 (.l 7 .nil)))))))) hs (by kernel_rfl) ?_
    clear hs
    intro w hs
    refine gg ?_
    refine ae (met (mH (a:=after) (t:=times) (hs.take (.there (.there (.there .here)))) (by omega) (by omega)) ?_)
    clear hs
    rintro _ w ⟨rfl,hs⟩
    refine ⟨_,rfl,?_⟩
    refine gy ?_
    refine cA rfl ?_
    refine gg ?_
    refine gy ?_
    exact bg { X with D:=bx X.D after (times) } ⟨rfl,rfl,rfl,trivial⟩ ⟨⟨rfl,rfl,h.bx (by omega) (by omega)⟩,hs.to⟩
  ·refine gy ?_
   exact bg X ⟨rfl,rfl,rfl,trivial⟩ ⟨⟨rfl,rfl,h⟩,hs.to⟩
 ·rintro Z w ⟨⟨hx,ho,hok⟩,hs⟩
  clear h
  generalize X.x=x at hx ⊢
  generalize X.o=o0 at ho ⊢
  refine eB (α:=Unit) (fun _=>[(0,au x),(4,au b4)]) (fun _ w=>OQ W0 x o0 (blk b4 61 [.slice al ds.length cl,.int .i64 after,.int .u64 dir,.int .u64 tail,.bool false,.int .i64 times]::F) (N+2096152000000) (S+16777216) 3145728 w) ?_ ?_
  ·refine gy ?_
   refine aL (α:=Nat) (fun i=>[(0,au x),(2,.bool true),(4,au b4),(8,.int .i64 (i:Int))])
    (fun i w=>i≤ds.length∧∃ Z:SS,Z.x=x∧Z.o=o0∧sY Z (N+i*1000000) (S+i*8) (L+Jt (ds.take i)+i)∧Sat W0 (sL Z (blk b4 61 [.slice al ds.length cl,.int .i64 after,.int .u64 dir,.int .u64 tail,.bool false,.int .i64 times]::F)) w) (fun i=>ds.length-i) 0 ⟨rfl,rfl,rfl,rfl,trivial⟩ ⟨Nat.zero_le _,Z,hx,ho,hok.more (by omega) (by omega) (by omega),hs⟩ ?_
   clear hs hx ho hok
   clear Z
   rintro i w ⟨hi,Z,rfl,rfl,hok,hs⟩
   have hs:Sat W0 (aJ Z.x Z.d (au Z.b) Z.o Z.hp::dh Z.b Z.d Z.o false none Z.s::ag Z.d Z.D::cJ Z.hp Z.H Z.sf false::blk b4 61 [.slice al ds.length cl,.int .i64 after,.int .u64 dir,.int .u64 tail,.bool false,.int .i64 times]::F) w:=hs
   by_cases hlt:i<ds.length
   ·have hlt':(i:Int)<(ds.length:Int):=by omega
    obtain ⟨bq,q,o,hg,hmem,rfl,hrow,-⟩:=hdw.row hlt
    obtain ⟨hrd,-⟩:=hdw.ok o hmem
    have c0:W0.cell? ⟨bq,q+i*2,none⟩=some (.int .i64 o.kind):=hrow 0 _ rfl
    have hls:=Ju hg
    have hpart:=Bh ds (i+1)
    refine gy ?_
    refine Eu (GG o) hs rfl rfl rfl hrow rfl ?_
    refine gy ?_
    refine ae (met (Dp (o:=o) hrd (by omega) hW hE hok (by omega) (by omega) (by omega) hs) ?_)
    clear hs
    rintro _ w ⟨n,rfl,hres⟩
    refine ⟨_,rfl,?_⟩
    rcases hres with ⟨hn,Y,hYx,hYo,hokY,hs⟩|⟨hr,hn,Y,hYx,hYo,hbk,hs⟩
    ·have hs:Sat W0 (aJ Y.x Y.d (au Y.b) Y.o Y.hp::dh Y.b Y.d Y.o false none Y.s::ag Y.d Y.D::cJ Y.hp Y.H Y.sf false::blk b4 61 [.slice (some ⟨bq,q,none⟩) ds.length cl,.int .i64 after,.int .u64 dir,.int .u64 tail,.bool false,.int .i64 times]::F) w:=hs
     refine gy ?_
     refine ae (met (oc hs) ?_)
     clear hs
     rintro _ w ⟨rfl,hs⟩
     refine ⟨_,rfl,?_⟩
     rcases hn with hn|⟨hr,hn⟩
     ·have hn0:¬ ((n:Int)≠0):=by omega
      rw [decide_eq_false (by omega)]
      refine gy ?_
      exact aB (i+1) ⟨rfl,rfl,rfl,rfl,trivial⟩ ⟨hlt,Y,hYx,hYo,hokY.more (by omega) (by omega) (by omega),hs⟩ (by show ds.length-(i+1)<ds.length-i;omega)
     ·have hn0:(n:Int)≠0:=by omega
      rw [decide_eq_true (by omega)]
      have hk:=of_decide_eq_true hr
      by_cases k4:o.kind=4
      ·refine gy ?_
       exact aB (i+1) ⟨rfl,rfl,rfl,rfl,trivial⟩ ⟨hlt,Y,hYx,hYo,hokY.more (by omega) (by omega) (by omega),hs⟩ (by show ds.length-(i+1)<ds.length-i;omega)
      ·have k5:o.kind=5:=by omega
       refine gy ?_
       exact aB (i+1) ⟨rfl,rfl,rfl,rfl,trivial⟩ ⟨hlt,Y,hYx,hYo,hokY.more (by omega) (by omega) (by omega),hs⟩ (by show ds.length-(i+1)<ds.length-i;omega)
    ·have hn0:(n:Int)≠0:=by omega
     have hk:=of_decide_eq_false hr
     have k4:¬ o.kind=4:=by omega
     have k5:¬ o.kind=5:=by omega
     rw [← hYx]
     have hbk2:=(hbk.bx (a:=0) (t:=0) (by omega) (by omega)).more (N':=(N+2096152000000)) (S':=(S+16777216)) (L':=3145728) (by omega) (by omega) (by omega)
     rcases hs with ⟨b,e,s,he,hs⟩|hs
     ·have hs:Sat W0 (aJ Y.x Y.d (au b) Y.o Y.hp::dh b Y.d Y.o false (some e) s::ag Y.d Y.D::cJ Y.hp Y.H Y.sf Y.mb::blk b4 61 [.slice (some ⟨bq,q,none⟩) ds.length cl,.int .i64 after,.int .u64 dir,.int .u64 tail,.bool false,.int .i64 times]::F) w:=hs
      refine gy ?_
      refine ae (met (oc hs) ?_)
      clear hs
      rintro _ w ⟨rfl,hs⟩
      refine ⟨_,rfl,?_⟩
      rw [decide_eq_true (by omega)]
      refine gy ?_
      refine ae (met (mH (a:=0) (t:=0) (hs.take (.there (.there .here))) (by omega) (by omega)) ?_)
      clear hs
      rintro _ w ⟨rfl,hs⟩
      refine ⟨_,rfl,?_⟩
      have hs:=hs.to (a:=aJ Y.x Y.d (au b) Y.o Y.hp::dh b Y.d Y.o false (some e) s::ag Y.d (bx Y.D 0 0)::cJ Y.hp Y.H Y.sf Y.mb::blk b4 61 [.slice (some ⟨bq,q,none⟩) ds.length cl,.int .i64 after,.int .u64 dir,.int .u64 tail,.bool false,.int .i64 times]::F)
      refine gy ?_
      refine ae (met (Ds he hW hE hs) ?_)
      clear hs
      rintro _ w ⟨rfl,hs⟩
      refine ⟨_,rfl,?_⟩
      refine gy ?_
      exact bg () ⟨rfl,rfl,trivial⟩ (.inr ⟨{ Y with D:=bx Y.D 0 0 },rfl,hYo,hbk2,.inl ⟨b,e,s,hs⟩⟩)
     ·have hs:Sat W0 (aJ Y.x Y.d (.pointer none) Y.o Y.hp::ag Y.d Y.D::cJ Y.hp Y.H Y.sf Y.mb::blk b4 61 [.slice (some ⟨bq,q,none⟩) ds.length cl,.int .i64 after,.int .u64 dir,.int .u64 tail,.bool false,.int .i64 times]::F) w:=hs
      refine gy ?_
      refine ae (met (oc hs) ?_)
      clear hs
      rintro _ w ⟨rfl,hs⟩
      refine ⟨_,rfl,?_⟩
      rw [decide_eq_true (by omega)]
      refine gy ?_
      refine ae (met (mH (a:=0) (t:=0) (hs.take (.there .here)) (by omega) (by omega)) ?_)
      clear hs
      rintro _ w ⟨rfl,hs⟩
      refine ⟨_,rfl,?_⟩
      have hs:=hs.to (a:=aJ Y.x Y.d (.pointer none) Y.o Y.hp::ag Y.d (bx Y.D 0 0)::cJ Y.hp Y.H Y.sf Y.mb::blk b4 61 [.slice (some ⟨bq,q,none⟩) ds.length cl,.int .i64 after,.int .u64 dir,.int .u64 tail,.bool false,.int .i64 times]::F)
      refine gy ?_
      exact bg () ⟨rfl,rfl,trivial⟩ (.inr ⟨{ Y with D:=bx Y.D 0 0 },rfl,hYo,hbk2,.inr hs⟩)
   ·have hie:i=ds.length:=by omega
    subst hie
    have hlt':¬ (ds.length:Int)<(ds.length:Int):=by omega
    have hpart:=Bh ds ds.length
    refine gy ?_
    exact bg () ⟨rfl,rfl,trivial⟩ (.inl ⟨Z,rfl,rfl,hok.more (by omega) (by omega) (by omega),hs⟩)
  ·rintro _ w hR
   refine eB (α:=FB×Value) (fun _=>[(0,au x)]) (fun z w=>z.1.x=x∧z.1.o=o0∧JS z.1.o.memory z.1.o.tables=true∧(∃ j,z.1.sf≤j∧j≤z.1.H.length∧lK z.1.D (z.1.H.take j) (N+2096152000000) (S+16777216))∧z.1.H.length≤3145728∧total z.1.H≤3145728∧Sat W0 (aJ z.1.x z.1.d z.2 z.1.o z.1.hp::ag z.1.d z.1.D::cJ z.1.hp z.1.H z.1.sf z.1.mb::blk b4 61 [.slice al ds.length cl,.int .i64 after,.int .u64 dir,.int .u64 tail,.bool false,.int .i64 times]::F) w) ?_ ?_
   ·refine dU ?_
    rcases hR with ⟨X,rfl,rfl,hok,hs⟩|⟨Y,rfl,rfl,hbk,hs⟩
    ·have hs:Sat W0 (aJ X.x X.d (au X.b) X.o X.hp::dh X.b X.d X.o false none X.s::ag X.d X.D::cJ X.hp X.H X.sf false::blk b4 61 [.slice al ds.length cl,.int .i64 after,.int .u64 dir,.int .u64 tail,.bool false,.int .i64 times]::F) w:=hs
     have hok2:=hok.bx (a:=0) (t:=0) (by omega) (by omega)
     obtain ⟨c1,c2,c3⟩:=hok2.inv.sync
     refine gy ?_
     refine ae (met (mH (a:=0) (t:=0) (hs.take (.there (.there .here))) (by omega) (by omega)) ?_)
     clear hs
     rintro _ w ⟨rfl,hs⟩
     refine ⟨_,rfl,?_⟩
     have hs:=hs.to (a:=aJ X.x X.d (au X.b) X.o X.hp::dh X.b X.d X.o false none X.s::ag X.d (bx X.D 0 0)::cJ X.hp X.H X.sf false::blk b4 61 [.slice al ds.length cl,.int .i64 after,.int .u64 dir,.int .u64 tail,.bool false,.int .i64 times]::F)
     refine gy ?_
     refine ae (met (iK (hs.eA (.there .here) (.there .here))) ?_)
     clear hs
     rintro _ w ⟨ve,rfl,hs⟩
     refine ⟨_,rfl,?_⟩
     have ecl:pL false none X.s (bx X.D 0 0)=(bz (bx X.D 0 0) X.s.log,dR (bx X.D 0 0) X.s.log):=rfl
     rw [ecl] at hs
     have hs:Sat W0 (aJ X.x X.d (au X.b) X.o X.hp::ag X.d (dR (bx X.D 0 0) X.s.log)::cJ X.hp X.H X.sf false::blk b4 61 [.slice al ds.length cl,.int .i64 after,.int .u64 dir,.int .u64 tail,.bool false,.int .i64 times]::F) w:=hs.to
     obtain ⟨vb,vp,us,hu,hs2⟩:=(hs.take (.there (.there .here))).gD
     obtain ⟨ba,bc,rfl,-⟩:=(hs2.take (.there .here)).ay
     have hs:Sat W0 (aJ X.x X.d (au X.b) X.o X.hp::blk X.hp 49 [.slice ba X.H.length bc,.int .i64 (X.sf:Int),.bool false,vp]::aE 1 (.slice ba X.H.length bc) 52 X.H.length us::j8 us X.H::bw vp (aI X.H)::ag X.d (dR (bx X.D 0 0) X.s.log)::blk b4 61 [.slice al ds.length cl,.int .i64 after,.int .u64 dir,.int .u64 tail,.bool false,.int .i64 times]::F) w:=hs2.to
     clear hs2
     refine gy ?_
     refine bH [aJ X.x X.d (au X.b) X.o X.hp,blk X.hp 49 [.slice ba X.H.length bc,.int .i64 (X.sf:Int),.bool false,vp]] [3,7,10] (.q 0 (.q 1 (.q 2 (.s 3 (.q 4 (.q 5 (.q 6 (.s 7 (.q 8 (.q 9 (.s 10 (.q 11 (.q 12 (.q 13 (.l 14 .nil))))))))))))))) hs (by kernel_rfl) ?_
     clear hs
     intro w hs
     refine gg ?_
     refine bD hs ?_
     clear hs
     intro w hs
     refine gy ?_
     refine cA rfl ?_
     refine gg ?_
     refine gy ?_
     have h2:=Sat.eY (sf:=X.H.length) (mb:=false) (hp:=X.hp) hu (hs.to (a:=blk X.hp 49 [.slice ba X.H.length bc,.int .i64 (X.H.length:Int),.bool false,vp]::aE 1 (.slice ba X.H.length bc) 52 X.H.length us::j8 us X.H::bw vp (aI X.H)::aJ X.x X.d (au X.b) X.o X.hp::ag X.d (dR (bx X.D 0 0) X.s.log)::blk b4 61 [.slice al ds.length cl,.int .i64 after,.int .u64 dir,.int .u64 tail,.bool false,.int .i64 times]::F))
     exact bg (⟨X.x,X.d,X.hp,X.o,dR (bx X.D 0 0) X.s.log,X.H,X.H.length,false⟩,au X.b) ⟨rfl,trivial⟩ ⟨rfl,rfl,hok.opt,⟨X.H.length,Nat.le_refl _,Nat.le_refl _,by rw [List.take_length];exact c2.rest.more hok.num (Nat.le_refl _)⟩,hok.hlen,hok.tot,h2.to⟩
    ·by_cases hmb:Y.mb=true
     ·obtain ⟨j,h1,h2j,h3⟩:=(hbk.bx (a:=0) (t:=0) (by omega) (by omega)).rec_
      have hsb:=hbk.sfb
      dsimp only at h1 h2j h3
      rw [hmb] at h1 hsb
      have htt:Bool.toNat true=1:=rfl
      have hff:Bool.toNat false=0:=rfl
      have hlen:=hbk.hlen
      rcases hs with ⟨b,e,s,hs⟩|hs
      ·have hs:Sat W0 (aJ Y.x Y.d (au b) Y.o Y.hp::dh b Y.d Y.o true (some e) s::ag Y.d Y.D::cJ Y.hp Y.H Y.sf Y.mb::blk b4 61 [.slice al ds.length cl,.int .i64 after,.int .u64 dir,.int .u64 tail,.bool false,.int .i64 times]::F) w:=hs
       rw [hmb] at hs
       refine gy ?_
       refine ae (met (mH (a:=0) (t:=0) (hs.take (.there (.there .here))) (by omega) (by omega)) ?_)
       clear hs
       rintro _ w ⟨rfl,hs⟩
       refine ⟨_,rfl,?_⟩
       have hs:=hs.to (a:=aJ Y.x Y.d (au b) Y.o Y.hp::dh b Y.d Y.o true (some e) s::ag Y.d (bx Y.D 0 0)::cJ Y.hp Y.H Y.sf true::blk b4 61 [.slice al ds.length cl,.int .i64 after,.int .u64 dir,.int .u64 tail,.bool false,.int .i64 times]::F)
       refine gy ?_
       refine ae (met (iK (hs.eA (.there .here) (.there .here))) ?_)
       clear hs
       rintro _ w ⟨ve,rfl,hs⟩
       refine ⟨_,rfl,?_⟩
       have ecl:pL true (some e) s (bx Y.D 0 0)=(some (none,6),bx Y.D 0 0):=rfl
       rw [ecl] at hs
       have hs:Sat W0 (aJ Y.x Y.d (au b) Y.o Y.hp::ag Y.d (bx Y.D 0 0)::cJ Y.hp Y.H Y.sf true::blk b4 61 [.slice al ds.length cl,.int .i64 after,.int .u64 dir,.int .u64 tail,.bool false,.int .i64 times]::F) w:=hs.to
       obtain ⟨vb,vp,us,hu,hs2⟩:=(hs.take (.there (.there .here))).gD
       obtain ⟨ba,bc,rfl,-⟩:=(hs2.take (.there .here)).ay
       have hs:Sat W0 (aJ Y.x Y.d (au b) Y.o Y.hp::blk Y.hp 49 [.slice ba Y.H.length bc,.int .i64 (Y.sf:Int),.bool true,vp]::aE 1 (.slice ba Y.H.length bc) 52 Y.H.length us::j8 us Y.H::bw vp (aI Y.H)::ag Y.d (bx Y.D 0 0)::blk b4 61 [.slice al ds.length cl,.int .i64 after,.int .u64 dir,.int .u64 tail,.bool false,.int .i64 times]::F) w:=hs2.to
       clear hs2
       refine gy ?_
       refine bH [aJ Y.x Y.d (au b) Y.o Y.hp,blk Y.hp 49 [.slice ba Y.H.length bc,.int .i64 (Y.sf:Int),.bool true,vp]] [3,7,10] (.q 0 (.q 1 (.q 2 (.s 3 (.q 4 (.q 5 (.q 6 (.s 7 (.q 8 (.q 9 (.s 10 (.q 11 (.q 12 (.q 13 (.l 14 .nil))))))))))))))) hs (by kernel_rfl) ?_
       clear hs
       intro w hs
       refine gg ?_
       refine bD hs ?_
       clear hs
       intro w hs
       refine gy ?_
       refine cA rfl ?_
       refine gg ?_
       obtain ⟨m,hmm⟩:∃ m,Y.H.length=m+1:=⟨Y.H.length-1,by omega⟩
       refine gy ?_
       refine bD hs ?_
       clear hs
       intro w hs
       have em:(Y.H.length:Int)-1=(m:Int):=by omega
       rw [em] at hs
       refine gy ?_
       have h2:=Sat.eY (sf:=m) (mb:=true) (hp:=Y.hp) hu (hs.to (a:=blk Y.hp 49 [.slice ba Y.H.length bc,.int .i64 (m:Int),.bool true,vp]::aE 1 (.slice ba Y.H.length bc) 52 Y.H.length us::j8 us Y.H::bw vp (aI Y.H)::aJ Y.x Y.d (au b) Y.o Y.hp::ag Y.d (bx Y.D 0 0)::blk b4 61 [.slice al ds.length cl,.int .i64 after,.int .u64 dir,.int .u64 tail,.bool false,.int .i64 times]::F))
       exact bg (⟨Y.x,Y.d,Y.hp,Y.o,bx Y.D 0 0,Y.H,m,true⟩,au b) ⟨rfl,trivial⟩ ⟨rfl,rfl,hbk.opt,⟨j,by show m≤j;have:=h1;have hb:Bool.toNat true=1:=rfl;omega,h2j,h3⟩,hbk.hlen,hbk.tot,h2.to⟩
      ·have hs:Sat W0 (aJ Y.x Y.d (.pointer none) Y.o Y.hp::ag Y.d Y.D::cJ Y.hp Y.H Y.sf Y.mb::blk b4 61 [.slice al ds.length cl,.int .i64 after,.int .u64 dir,.int .u64 tail,.bool false,.int .i64 times]::F) w:=hs
       rw [hmb] at hs
       refine gy ?_
       refine ae (met (mH (a:=0) (t:=0) (hs.take (.there .here)) (by omega) (by omega)) ?_)
       clear hs
       rintro _ w ⟨rfl,hs⟩
       refine ⟨_,rfl,?_⟩
       have hs:=hs.to (a:=aJ Y.x Y.d (.pointer none) Y.o Y.hp::ag Y.d (bx Y.D 0 0)::cJ Y.hp Y.H Y.sf true::blk b4 61 [.slice al ds.length cl,.int .i64 after,.int .u64 dir,.int .u64 tail,.bool false,.int .i64 times]::F)
       refine gy ?_
       obtain ⟨vb,vp,us,hu,hs2⟩:=(hs.take (.there (.there .here))).gD
       obtain ⟨ba,bc,rfl,-⟩:=(hs2.take (.there .here)).ay
       have hs:Sat W0 (aJ Y.x Y.d (.pointer none) Y.o Y.hp::blk Y.hp 49 [.slice ba Y.H.length bc,.int .i64 (Y.sf:Int),.bool true,vp]::aE 1 (.slice ba Y.H.length bc) 52 Y.H.length us::j8 us Y.H::bw vp (aI Y.H)::ag Y.d (bx Y.D 0 0)::blk b4 61 [.slice al ds.length cl,.int .i64 after,.int .u64 dir,.int .u64 tail,.bool false,.int .i64 times]::F) w:=hs2.to
       clear hs2
       refine bH [aJ Y.x Y.d (.pointer none) Y.o Y.hp,blk Y.hp 49 [.slice ba Y.H.length bc,.int .i64 (Y.sf:Int),.bool true,vp]] [3,7,10] (.q 0 (.q 1 (.q 2 (.s 3 (.q 4 (.q 5 (.q 6 (.s 7 (.q 8 (.q 9 (.s 10 (.q 11 (.q 12 (.q 13 (.l 14 .nil))))))))))))))) hs (by kernel_rfl) ?_
       clear hs
       intro w hs
       refine gg ?_
       refine bD hs ?_
       clear hs
       intro w hs
       refine gy ?_
       refine cA rfl ?_
       refine gg ?_
       obtain ⟨m,hmm⟩:∃ m,Y.H.length=m+1:=⟨Y.H.length-1,by omega⟩
       refine gy ?_
       refine bD hs ?_
       clear hs
       intro w hs
       have em:(Y.H.length:Int)-1=(m:Int):=by omega
       rw [em] at hs
       refine gy ?_
       have h2:=Sat.eY (sf:=m) (mb:=true) (hp:=Y.hp) hu (hs.to (a:=blk Y.hp 49 [.slice ba Y.H.length bc,.int .i64 (m:Int),.bool true,vp]::aE 1 (.slice ba Y.H.length bc) 52 Y.H.length us::j8 us Y.H::bw vp (aI Y.H)::aJ Y.x Y.d (.pointer none) Y.o Y.hp::ag Y.d (bx Y.D 0 0)::blk b4 61 [.slice al ds.length cl,.int .i64 after,.int .u64 dir,.int .u64 tail,.bool false,.int .i64 times]::F))
       exact bg (⟨Y.x,Y.d,Y.hp,Y.o,bx Y.D 0 0,Y.H,m,true⟩,.pointer none) ⟨rfl,trivial⟩ ⟨rfl,rfl,hbk.opt,⟨j,by show m≤j;have:=h1;have hb:Bool.toNat true=1:=rfl;omega,h2j,h3⟩,hbk.hlen,hbk.tot,h2.to⟩
     ·have hmb:Y.mb=false:=by simpa using hmb
      obtain ⟨j,h1,h2j,h3⟩:=(hbk.bx (a:=0) (t:=0) (by omega) (by omega)).rec_
      have hsb:=hbk.sfb
      dsimp only at h1 h2j h3
      rw [hmb] at h1 hsb
      have htt:Bool.toNat true=1:=rfl
      have hff:Bool.toNat false=0:=rfl
      have hlen:=hbk.hlen
      rcases hs with ⟨b,e,s,hs⟩|hs
      ·have hs:Sat W0 (aJ Y.x Y.d (au b) Y.o Y.hp::dh b Y.d Y.o true (some e) s::ag Y.d Y.D::cJ Y.hp Y.H Y.sf Y.mb::blk b4 61 [.slice al ds.length cl,.int .i64 after,.int .u64 dir,.int .u64 tail,.bool false,.int .i64 times]::F) w:=hs
       rw [hmb] at hs
       refine gy ?_
       refine ae (met (mH (a:=0) (t:=0) (hs.take (.there (.there .here))) (by omega) (by omega)) ?_)
       clear hs
       rintro _ w ⟨rfl,hs⟩
       refine ⟨_,rfl,?_⟩
       have hs:=hs.to (a:=aJ Y.x Y.d (au b) Y.o Y.hp::dh b Y.d Y.o true (some e) s::ag Y.d (bx Y.D 0 0)::cJ Y.hp Y.H Y.sf false::blk b4 61 [.slice al ds.length cl,.int .i64 after,.int .u64 dir,.int .u64 tail,.bool false,.int .i64 times]::F)
       refine gy ?_
       refine ae (met (iK (hs.eA (.there .here) (.there .here))) ?_)
       clear hs
       rintro _ w ⟨ve,rfl,hs⟩
       refine ⟨_,rfl,?_⟩
       have ecl:pL true (some e) s (bx Y.D 0 0)=(some (none,6),bx Y.D 0 0):=rfl
       rw [ecl] at hs
       have hs:Sat W0 (aJ Y.x Y.d (au b) Y.o Y.hp::ag Y.d (bx Y.D 0 0)::cJ Y.hp Y.H Y.sf false::blk b4 61 [.slice al ds.length cl,.int .i64 after,.int .u64 dir,.int .u64 tail,.bool false,.int .i64 times]::F) w:=hs.to
       obtain ⟨vb,vp,us,hu,hs2⟩:=(hs.take (.there (.there .here))).gD
       obtain ⟨ba,bc,rfl,-⟩:=(hs2.take (.there .here)).ay
       have hs:Sat W0 (aJ Y.x Y.d (au b) Y.o Y.hp::blk Y.hp 49 [.slice ba Y.H.length bc,.int .i64 (Y.sf:Int),.bool false,vp]::aE 1 (.slice ba Y.H.length bc) 52 Y.H.length us::j8 us Y.H::bw vp (aI Y.H)::ag Y.d (bx Y.D 0 0)::blk b4 61 [.slice al ds.length cl,.int .i64 after,.int .u64 dir,.int .u64 tail,.bool false,.int .i64 times]::F) w:=hs2.to
       clear hs2
       refine gy ?_
       refine bH [aJ Y.x Y.d (au b) Y.o Y.hp,blk Y.hp 49 [.slice ba Y.H.length bc,.int .i64 (Y.sf:Int),.bool false,vp]] [3,7,10] (.q 0 (.q 1 (.q 2 (.s 3 (.q 4 (.q 5 (.q 6 (.s 7 (.q 8 (.q 9 (.s 10 (.q 11 (.q 12 (.q 13 (.l 14 .nil))))))))))))))) hs (by kernel_rfl) ?_
       clear hs
       intro w hs
       refine gg ?_
       refine bD hs ?_
       clear hs
       intro w hs
       refine gy ?_
       refine cA rfl ?_
       refine gg ?_
       refine gy ?_
       have h2:=Sat.eY (sf:=Y.H.length) (mb:=false) (hp:=Y.hp) hu (hs.to (a:=blk Y.hp 49 [.slice ba Y.H.length bc,.int .i64 (Y.H.length:Int),.bool false,vp]::aE 1 (.slice ba Y.H.length bc) 52 Y.H.length us::j8 us Y.H::bw vp (aI Y.H)::aJ Y.x Y.d (au b) Y.o Y.hp::ag Y.d (bx Y.D 0 0)::blk b4 61 [.slice al ds.length cl,.int .i64 after,.int .u64 dir,.int .u64 tail,.bool false,.int .i64 times]::F))
       exact bg (⟨Y.x,Y.d,Y.hp,Y.o,bx Y.D 0 0,Y.H,Y.H.length,false⟩,au b) ⟨rfl,trivial⟩ ⟨rfl,rfl,hbk.opt,⟨j,by show Y.H.length≤j;have:=h1;have hb:Bool.toNat false=0:=rfl;omega,h2j,h3⟩,hbk.hlen,hbk.tot,h2.to⟩
      ·have hs:Sat W0 (aJ Y.x Y.d (.pointer none) Y.o Y.hp::ag Y.d Y.D::cJ Y.hp Y.H Y.sf Y.mb::blk b4 61 [.slice al ds.length cl,.int .i64 after,.int .u64 dir,.int .u64 tail,.bool false,.int .i64 times]::F) w:=hs
       rw [hmb] at hs
       refine gy ?_
       refine ae (met (mH (a:=0) (t:=0) (hs.take (.there .here)) (by omega) (by omega)) ?_)
       clear hs
       rintro _ w ⟨rfl,hs⟩
       refine ⟨_,rfl,?_⟩
       have hs:=hs.to (a:=aJ Y.x Y.d (.pointer none) Y.o Y.hp::ag Y.d (bx Y.D 0 0)::cJ Y.hp Y.H Y.sf false::blk b4 61 [.slice al ds.length cl,.int .i64 after,.int .u64 dir,.int .u64 tail,.bool false,.int .i64 times]::F)
       refine gy ?_
       obtain ⟨vb,vp,us,hu,hs2⟩:=(hs.take (.there (.there .here))).gD
       obtain ⟨ba,bc,rfl,-⟩:=(hs2.take (.there .here)).ay
       have hs:Sat W0 (aJ Y.x Y.d (.pointer none) Y.o Y.hp::blk Y.hp 49 [.slice ba Y.H.length bc,.int .i64 (Y.sf:Int),.bool false,vp]::aE 1 (.slice ba Y.H.length bc) 52 Y.H.length us::j8 us Y.H::bw vp (aI Y.H)::ag Y.d (bx Y.D 0 0)::blk b4 61 [.slice al ds.length cl,.int .i64 after,.int .u64 dir,.int .u64 tail,.bool false,.int .i64 times]::F) w:=hs2.to
       clear hs2
       refine bH [aJ Y.x Y.d (.pointer none) Y.o Y.hp,blk Y.hp 49 [.slice ba Y.H.length bc,.int .i64 (Y.sf:Int),.bool false,vp]] [3,7,10] (.q 0 (.q 1 (.q 2 (.s 3 (.q 4 (.q 5 (.q 6 (.s 7 (.q 8 (.q 9 (.s 10 (.q 11 (.q 12 (.q 13 (.l 14 .nil))))))))))))))) hs (by kernel_rfl) ?_
       clear hs
       intro w hs
       refine gg ?_
       refine bD hs ?_
       clear hs
       intro w hs
       refine gy ?_
       refine cA rfl ?_
       refine gg ?_
       refine gy ?_
       have h2:=Sat.eY (sf:=Y.H.length) (mb:=false) (hp:=Y.hp) hu (hs.to (a:=blk Y.hp 49 [.slice ba Y.H.length bc,.int .i64 (Y.H.length:Int),.bool false,vp]::aE 1 (.slice ba Y.H.length bc) 52 Y.H.length us::j8 us Y.H::bw vp (aI Y.H)::aJ Y.x Y.d (.pointer none) Y.o Y.hp::ag Y.d (bx Y.D 0 0)::blk b4 61 [.slice al ds.length cl,.int .i64 after,.int .u64 dir,.int .u64 tail,.bool false,.int .i64 times]::F))
       exact bg (⟨Y.x,Y.d,Y.hp,Y.o,bx Y.D 0 0,Y.H,Y.H.length,false⟩,.pointer none) ⟨rfl,trivial⟩ ⟨rfl,rfl,hbk.opt,⟨j,by show Y.H.length≤j;have:=h1;have hb:Bool.toNat false=0:=rfl;omega,h2j,h3⟩,hbk.hlen,hbk.tot,h2.to⟩
   ·rintro ⟨Y,sv⟩ w ⟨h1,h2,h3,⟨j,h4,h5,h6⟩,h7,h8,hs⟩
    dsimp only at h1 h2 h3 h4 h5 h6 h7 h8 hs
    subst h1 h2
    have hok':1≤Y.o.memory∧Y.o.memory≤32∧2≤Y.o.tables∧Y.o.tables≤6:=by simpa [JS] using h3
    refine gy ?_
    refine ae (met (sR (j:=j) (N:=N+2097152000000) (S:=S+16777216) h3 h4 h5 (by omega) (by omega) (fun D2 hc=>?_) hW hE hs) ?_)
    ·obtain ⟨r,D3,k1,k2,k3⟩:=h6.open (o:=Y.o) (by omega) hok'.1 hc (by omega)
     refine ⟨r,D3,k1,k2,?_⟩
     rcases k3 with k3|⟨s',k3,k4,k5⟩
     ·exact .inl k3
     ·exact .inr ⟨s',k3,k4,by omega⟩
    clear hs
    rintro _ w (⟨rfl,hs⟩|⟨rfl,X',hXx,hXo,hok,hs⟩)
    ·refine ⟨_,rfl,?_⟩
     refine gy ?_
     exact ak rfl (.inl ⟨rfl,hs.drop⟩)
    ·refine ⟨_,rfl,?_⟩
     refine gy ?_
     refine ak rfl (.inr ⟨rfl,X',hXx,hXo,hok,?_⟩)
     have hs:Sat W0 (aJ X'.x X'.d (au X'.b) X'.o X'.hp::dh X'.b X'.d X'.o false none X'.s::ag X'.d X'.D::cJ X'.hp X'.H X'.sf false::blk b4 61 [.slice al ds.length cl,.int .i64 after,.int .u64 dir,.int .u64 tail,.bool false,.int .i64 times]::F) w:=hs
     exact hs.to
end
end Go.Proofs.YtecibefflhomdaaGreatDoor
