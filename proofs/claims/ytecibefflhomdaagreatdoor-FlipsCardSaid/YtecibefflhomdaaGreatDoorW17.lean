/-
  Part 17: WALKS package table; WALKS rows gone through; WALKS rows gone through; WALKS any row gone through.
-/
import Derived.Test.YtecibefflhomdaaGreatDoorW14
set_option maxHeartbeats 8000000
set_option maxRecDepth 100000
set_option linter.all false
namespace Go.Proofs.YtecibefflhomdaaGreatDoor
open Go
section
open Go.Proofs.YtecibefflhomdaaGreatDoor.Pure (ad ay Rd bu less aQ aY)
attribute [local irreducible] IntKind.wrap
def dC {α:Type}:Except cy α→Option cy
 | .ok _=>none
 | .error e=>some e
def MZ {α:Type}:Except cy (List α)→List α
 | .ok l=>l
 | .error _=>[]
theorem HM {r:Rd} (hb:r.bad=false) (hr:r.rest≠[]):r.entry.2.rest.length<r.rest.length:=by
 have h1:(r.num 1).2.rest.length<r.rest.length:=by
  have hpos:0<r.rest.length:=List.length_pos_iff.2 hr
  unfold Pure.Rd.num Pure.Rd.bytes
  rw [if_neg (by simp [hb];omega)]
  simp;omega
 have h2:r.text.2.rest.length<r.rest.length:=Nat.lt_of_le_of_lt (Pure.Rd.gG _ _) h1
 have h3:=r.text.2.cX 8
 have he:r.entry=if (r.text.2.num 8).2.rest.head?=some 255 then (⟨r.text.1,[],true,(r.text.2.num 8).1⟩,((r.text.2.num 8).2.bytes 1).2)
  else (⟨r.text.1,(r.text.2.num 8).2.text.1,false,(r.text.2.num 8).1⟩,(r.text.2.num 8).2.text.2):=rfl
 rw [he]
 split
 ·have:=Pure.Rd.gG (r.text.2.num 8).2 1;dsimp only;omega
 ·have:=Pure.Rd.iv (r.text.2.num 8).2;dsimp only;omega
theorem lY {bs:Bs} {z:Bs×Bs} (h:bu bs=some z):z.1.length≤bs.length:=by
 have ho:bu bs=(let n:=Rd.num ⟨bs,false⟩ 4
  let t:=n.2.num 4
  let s:=t.2.num 4
  if n.1≠4294967295-t.1 then none else
  let i:=s.2.bytes (n.1:Int)
  if i.2.bad=true∨Pure.qT i.1≠s.1 then none else some (i.1,i.2.rest)):=rfl
 rw [h] at ho
 dsimp only at ho
 split at ho
 ·cases ho
 ·split at ho
  ·cases ho
  ·simp only [Option.some.injEq] at ho
   subst ho
   have b1:(Rd.num ⟨bs,false⟩ 4).2.rest.length≤bs.length:=Pure.Rd.cX ⟨bs,false⟩ 4
   have b2:=(Rd.num ⟨bs,false⟩ 4).2.cX 4
   have b3:=((Rd.num ⟨bs,false⟩ 4).2.num 4).2.cX 4
   have key:∀ (r:Rd) (n:Int),(r.bytes n).1.length≤r.rest.length:=fun r n=>by
    unfold Pure.Rd.bytes;split
    ·simp
    ·simp;omega
   exact Nat.le_trans (key _ _) (Nat.le_trans b3 (Nat.le_trans b2 b1))
theorem zO {r:Rd} (h:¬ (r.rest≠[]∧r.bad=false)) (f:Nat):eB f r=([],r.bad):=by
 cases f with
 | zero=>rfl
 | succ f=>unfold eB;rw [if_neg h]
theorem zP {r:Rd} (h:r.rest≠[]∧r.bad=false) (f:Nat):eB (f+1) r=(r.entry.1::(eB f r.entry.2).1,(eB f r.entry.2).2):=by
 conv=>lhs;unfold eB
 rw [if_pos h]
variable {W0 w:World} {F:List ah} {v:Value} {d p:Nat} {T:cO} {D:ad}
theorem wz {i:Nat} {x:Except cy (List ay)} {D':ad} (h:oK D T i=some (x,D')) (hs:Sat W0 (cE d p T::ag d D::F) w) :
 Calls Tryz.prog 231 #[au p,.int .i64 (i:Int)] w fun y w'=>∃ lv ve,y=.returned (.tuple #[lv,ve])∧Sat W0 (cE d p T::ag d D'::E5 lv (MZ x)::aL ve (dC x)::F) w':=by
 have hok:=hs.DC
 unfold oK at h
 cases hb:T.blocks[i]? with
 | none=>rw [hb] at h;cases h
 | some b=>
  rw [hb] at h
  dsimp only at h
  have hi:i<T.blocks.length:=(List.getElem?_eq_some_iff.1 hb).1
  have hbm:b∈T.blocks:=List.mem_of_getElem? hb
  obtain ⟨hn1,hn2⟩:=hok.nums b hbm
  have hne:T.blocks≠[]:=fun h=>by rw [h] at hi;simp at hi
  obtain ⟨bv,hs⟩:=hs.mK
  obtain ⟨a,c,rfl,hc⟩:=(hs.take (.there .here)).im
  have hlen:(cI T.blocks).length=T.blocks.length:=by simp [cI]
  obtain ⟨zz,⟨hv,hzc,hseg⟩,hs⟩:=(hs.take (.there .here)).mH (by simpa [cI] using hne)
  rw [hlen] at hv hs
  obtain ⟨rfl,_,rfl⟩:=Value.slice.inj hv
  have hrow:=hseg.row (i:=i) (x:=sN b) (ql _) (by simp [cI,hb])
  have hcell1:=hrow.2.1
  have hcell2:=hrow.2.2.1
  rw [Nat.add_assoc] at hcell2
  refine enter Tryz.func231 rfl Tryz.ntmps231 Tryz.results231 rfl ?_
  refine go ?_
  refine bM [ob true zz.b (.cells zz.all.toArray zz.E (0,0)),tf p 200 [str T.name,str T.first,str T.last,.int .i64 (T.count:Int),au d,.slice (some ⟨zz.b,zz.o,none⟩) T.blocks.length zz.c]] [(0,false),(1,false),(2,false),(3,false),(4,false),(5,false),(6,false),(7,false),(8,false),(9,false),(10,false),(11,false),(12,false),(13,false),(14,false),(15,false),(16,false),(17,false),(18,false),(19,false),(20,false),(21,false),(22,false),(23,false),(24,false),(25,true),(26,false),(27,false),(28,false),(29,false),(30,false)] hs.to (by kernel_rfl) fun w hs=>?_
  refine go ?_
  refine o9 (j:=i) rfl rfl rfl rfl rfl rfl hi rfl ?_
  refine go ?_
  refine pP rfl rfl rfl .here hcell1 rfl ?_
  refine go ?_
  refine o9 (j:=i) rfl rfl rfl rfl rfl rfl hi rfl ?_
  refine go ?_
  refine pP rfl rfl rfl .here hcell2 rfl ?_
  refine go ?_
  refine ae (met (qd (nm:=T.name) (at_:=(b.2.1:Int)) (n:=(b.2.2:Int)) (hs.take (.there (.there (.there (.there .here))))) (by omega) (by omega) (by omega) (by omega)) ?_)
  rintro _ w ⟨rv,ve,rfl,hs⟩
  refine ⟨_,rfl,?_⟩
  cases hf:bg D T.name with
  | some e=>
   rw [hf] at h hs
   simp only [Option.some.injEq,Prod.mk.injEq] at h
   obtain ⟨rfl,rfl⟩:=h
   obtain ⟨t,u,rfl⟩:=(hs.take (.there (.there .here))).aV
   refine go ?_
   exact ak rfl ⟨_,_,rfl,Sat.to (hs.lU (k:=4) (.inl rfl) (fun _=>rfl))⟩
  | none=>
   rw [hf] at h hs
   dsimp only at h
   have hve:=(hs.take (.there (.there .here))).cD
   subst hve
   have hs:=(hs.take (.there .here)).nk
   have hdk:=(hs.take (.there .here)).MA
   have hbl:(ix D T.name b.2.1 b.2.2).length≤140737488355328:=by
    have h1:(ix D T.name b.2.1 b.2.2).length≤(fileOf D T.name).length:=by
     unfold ix;rw [hf];simp only [dV,List.length_take,List.length_drop];omega
    have h2:(fileOf D T.name).length≤D.used:=by
     unfold fileOf
     cases hg:Pure.ax D.now T.name with
     | none=>simp
     | some j=>exact Pure.ad.size_le hg
    have h3:=hdk.used
    have h4:((counted D b.2.2).tick).used=D.used:=by rw [Pure.ad.lK];rfl
    rw [h4] at h3;omega
   generalize ix D T.name b.2.1 b.2.2=bs at *
   refine go ?_
   refine ae (met (lQ hs hbl) ?_)
   rintro _ w ⟨v1,v2,rfl,hs⟩
   refine ⟨_,rfl,?_⟩
   unfold rl at h
   cases ho:bu bs with
   | none=>
    rw [ho] at h hs
    simp only [Option.map_some,Option.some.injEq,Prod.mk.injEq] at h
    obtain ⟨rfl,rfl⟩:=h
    refine go ?_
    refine ae (met (dP (nm:=T.name) hs) ?_)
    rintro _ w ⟨ve,rfl,hs⟩
    refine ⟨_,rfl,go ?_⟩
    exact ak rfl ⟨_,_,rfl,Sat.to (hs.lU (k:=4) (.inl rfl) (fun _=>rfl))⟩
   | some y=>
    rw [ho] at h hs
    dsimp only at h hs
    by_cases hbig:bs.length≤gL
    ·rw [if_pos hbig] at h
     rw [bG] at hbig
     have hyl:=lY ho
     have hh:x=(if (eB y.1.length ⟨y.1,false⟩).2=true then .error (some T.name,7) else .ok (eB y.1.length ⟨y.1,false⟩).1)∧(counted D b.2.2).tick=D':=by
      split at h<;>simp only [Option.map_some,Option.some.injEq,Prod.mk.injEq] at h<;>rename_i hc
      ·rw [if_pos hc];exact ⟨h.1.symm,h.2⟩
      ·rw [if_neg hc];exact ⟨h.1.symm,h.2⟩
     clear h
     obtain ⟨rfl,rfl⟩:=hh
     generalize y.1=ys at *
     obtain ⟨a1,c1,rfl,hc1⟩:=hs.ft
     refine go ?_
     refine bw [.slice a1 ys.length c1,.bool false] ?_
     refine cC hs fun w r hs=>?_
     have hs:=Sat.fE (rd:=⟨ys,false⟩) hs
     refine go ?_
     refine aK (α:=Nat×Rd×List ay×Value) (fun z=>[(0,au p),(11,au r),(12,z.2.2.2)])
      (fun z w=>(z.2.2.1++(eB z.1 z.2.1).1=(eB ys.length ⟨ys,false⟩).1∧(eB z.1 z.2.1).2=(eB ys.length ⟨ys,false⟩).2∧z.2.1.rest.length≤z.1∧z.2.2.1.length+z.1≤ys.length) ∧
        Sat W0 (vH r z.2.1::iW z.2.2.2 z.2.2.1::tf p 200 [str T.name,str T.first,str T.last,.int .i64 (T.count:Int),au d,.slice (some ⟨zz.b,zz.o,none⟩) T.blocks.length zz.c]::cE d p T::ag d (counted D b.2.2).tick::F) w) (fun z=>z.1) (ys.length,⟨ys,false⟩,[],.slice none 0 0) ⟨rfl,rfl,rfl,trivial⟩ ⟨⟨rfl,rfl,Nat.le_refl _,by simp⟩,Sat.to (Sat.dA (k:=4) (E:=256) hs)⟩ ?_
     clear hs
     rintro ⟨f,rd,acc,lv⟩ w ⟨⟨q1,q2,q3,q4⟩,hs⟩
     dsimp only at q1 q2 q3 q4 hs ⊢
     obtain ⟨vr,-,hs⟩:=hs.nD
     dsimp only [List.cons_append,List.nil_append] at hs
     obtain ⟨a2,c2,rfl,hc2⟩:=(hs.take (.there .here)).ft
     by_cases hgo:rd.rest≠[]∧rd.bad=false
     ·obtain ⟨g1,g2⟩:=hgo
      have hpos:(rd.rest.length:Int) > 0:=by have:=List.length_pos_iff.2 g1;omega
      have hlt:=HM g2 g1
      obtain ⟨f,rfl⟩:∃ f',f=f'+1:=⟨f-1,by have:=List.length_pos_iff.2 g1;omega⟩
      rw [zP ⟨g1,g2⟩] at q1 q2
      rw [g2] at hs
      refine go ?_
      have hs:=Sat.fE (rd:=rd) (by rw [g2];exact hs)
      refine ae (met (tY hs (by omega)) ?_)
      rintro _ w ⟨rfl,hs⟩
      refine ⟨_,rfl,go ?_⟩
      refine iT (aF rd.entry.1) hs (fun w b2 hs=>?_)
      refine eA hs fun v2 w hs=>?_
      refine go ?_
      refine aA (f,rd.entry.2,acc++[rd.entry.1],v2) ⟨rfl,rfl,rfl,trivial⟩ ⟨⟨by show (acc++[rd.entry.1])++(eB f rd.entry.2).1=_;rw [List.append_assoc];exact q1,q2,by show rd.entry.2.rest.length≤f;omega,by show (acc++[rd.entry.1]).length+f≤ys.length;rw [List.length_append];show acc.length+1+f≤_;omega⟩,?_⟩ (by show f<f+1;omega)
      have e1:aI 4 v2 256 (acc.length+1) ((bj acc).flatten++aF rd.entry.1)=iW v2 (acc++[rd.entry.1]):=by rw [← lS];show _=aI 4 v2 256 (acc++[rd.entry.1]).length _;rw [List.length_append];rfl
      rw [e1] at hs
      exact hs.to
     ·have hst:=zO hgo f
      by_cases hr:rd.rest=[]
      ·have hnp:¬ (rd.rest.length:Int) > 0:=by rw [hr];simp
       cases hbad:rd.bad with
       | true=>
        rw [hbad] at hs
        refine go ?_
        have hq:(eB ys.length ⟨ys,false⟩).2=true:=by rw [← q2,hst];exact hbad
        rw [hq]
        rw [if_pos rfl]
        refine ae (met (dP (nm:=T.name) hs) ?_)
        rintro _ w ⟨ve,rfl,hs⟩
        refine ⟨_,rfl,go ?_⟩
        exact ak rfl ⟨_,_,rfl,Sat.to (hs.lU (k:=4) (.inl rfl) (fun _=>rfl))⟩
       | false=>
        rw [hbad] at hs
        refine go ?_
        have hq:(eB ys.length ⟨ys,false⟩).2=false:=by rw [← q2,hst];exact hbad
        rw [hq]
        rw [if_neg (by simp)]
        have hs:=Sat.mI (gw acc) (rows:=bj acc) (E:=256) (k:=4) (v:=lv) (by rw [iV];exact hs.take (.there (.there .here)))
        refine ak rfl ⟨_,_,rfl,?_⟩
        rw [show (eB ys.length ⟨ys,false⟩).1=acc from by rw [← q1,hst];simp]
        exact (hs.dW).to
      ·have hpos:(rd.rest.length:Int) > 0:=by have:=List.length_pos_iff.2 hr;omega
       have hbad:rd.bad=true:=by
        cases hb2:rd.bad with
        | true=>rfl
        | false=>exact (hgo ⟨hr,hb2⟩).elim
       rw [hbad] at hs
       refine go ?_
       have hq:(eB ys.length ⟨ys,false⟩).2=true:=by rw [← q2,hst];exact hbad
       rw [hq]
       rw [if_pos rfl]
       refine ae (met (dP (nm:=T.name) hs) ?_)
       rintro _ w ⟨ve,rfl,hs⟩
       refine ⟨_,rfl,go ?_⟩
       exact ak rfl ⟨_,_,rfl,Sat.to (hs.lU (k:=4) (.inl rfl) (fun _=>rfl))⟩
    ·rw [if_neg hbig] at h;cases h
end
section
open Go.Proofs.YtecibefflhomdaaGreatDoor.Pure (ad ay Rd bu less aQ aY)
attribute [local irreducible] IntKind.wrap
variable {W0 w:World} {F:List ah} {v:Value} {m:Nat} {l:List ay}
def MB (v:Value) (m i:Nat):ah:=fun h=>i≤4611686018427387904∧∃ bi bm,v=.func (.func 207) #[] #[au bi,au bm]∧cR [blk bi 3 [.int .i64 (i:Int)],blk bm 117 [au m]] h
theorem Sat.J6 {i:Nat} (h:Sat W0 (MB v m i::F) w):i≤4611686018427387904∧∃ bi bm,v=.func (.func 207) #[] #[au bi,au bm]∧Sat W0 (blk bi 3 [.int .i64 (i:Int)]::blk bm 117 [au m]::F) w:=by
 have h1:=h.fT (φ:=i≤4611686018427387904) fun _ k=>k.1
 obtain ⟨⟨bi,bm⟩,hv,hs⟩:=h.fg (φ:=fun z:Nat×Nat=>v=.func (.func 207) #[] #[au z.1,au z.2]) (B:=fun z=>[blk z.1 3 [.int .i64 (i:Int)],blk z.2 117 [au m]]) fun hp ⟨_,bi,bm,hv,k⟩=>⟨⟨bi,bm⟩,hv,k⟩
 exact ⟨h1,bi,bm,hv,hs⟩
theorem Sat.uq {i bi bm:Nat} (hi:i≤4611686018427387904) (h:Sat W0 (blk bi 3 [.int .i64 (i:Int)]::blk bm 117 [au m]::F) w):Sat W0 (MB (.func (.func 207) #[] #[au bi,au bm]) m i::F) w:=
 Sat.close (B:=[blk bi 3 [.int .i64 (i:Int)],blk bm 117 [au m]]) h fun hp k=>⟨hi,bi,bm,rfl,k⟩
theorem qm {key:Bs} (hs:Sat W0 (aS m l::F) w) (hmx:l.length≤1099511627776) :
 Calls Tryz.prog 169 #[au m,str key] w fun x w'=>∃ v,x=.returned v∧Sat W0 (MB v m (aY l ⟨key,[],false,aH⟩)::aS m l::F) w':=by
 have hle:=Pure.jm l ⟨key,[],false,aH⟩
 refine enter Tryz.func169 rfl Tryz.ntmps169 Tryz.results169 rfl ?_
 refine go ?_
 refine cC hs fun w b1 hs=>?_
 refine go ?_
 refine bw (aF ⟨key,[],false,aH⟩) ?_
 refine ae (met (nF (e:=⟨key,[],false,aH⟩) (hs.take (.there .here)) hmx) ?_)
 rintro _ w ⟨rfl,hs⟩
 refine ⟨_,rfl,?_⟩
 refine aW hs fun w b2 hs=>?_
 refine bI hs fun w hs=>?_
 refine go ?_
 exact ak rfl ⟨_,rfl,Sat.uq (by omega) hs.to⟩
theorem ye {i bi bm:Nat} (hi:i≤4611686018427387904) (hs:Sat W0 (blk bi 3 [.int .i64 (i:Int)]::blk bm 117 [au m]::aS m l::F) w) (hmx:l.length≤1099511627776) :
 Calls Tryz.prog 207 #[au bi,au bm] w fun x w'=>x=.returned (.tuple #[.agg (aF (match l[i]? with|some e=>e|none=>⟨[],[],false,0⟩)).toArray,.bool (l[i]?).isSome,.nilIface]) ∧
  Sat W0 (blk bi 3 [.int .i64 ((if (l[i]?).isSome=true then i+1 else i:Nat):Int)]::blk bm 117 [au m]::aS m l::F) w':=by
 obtain ⟨v,hs⟩:=(hs.take (.there (.there .here))).qe
 obtain ⟨a,c,rfl,-⟩:=(hs.take (.there .here)).ri
 refine enter Tryz.func207 rfl Tryz.ntmps207 Tryz.results207 rfl ?_
 refine go ?_
 refine aW hs fun w b3 hs=>?_
 refine go ?_
 refine bM [blk bi 3 [.int .i64 (i:Int)],blk bm 117 [au m],blk m 120 [.slice a l.length c]] [(0,false),(1,false),(2,false),(3,false),(4,false),(5,false),(6,false)] hs.to (by kernel_rfl) fun w hs=>?_
 by_cases hlt:i<l.length
 ·have hg:l[i]?=some l[i]:=List.getElem?_eq_getElem hlt
  have hnot:¬ (i:Int) ≥ (l.length:Int):=by omega
  rw [hg]
  refine go ?_
  refine bI hs fun w hs=>?_
  refine go ?_
  obtain ⟨b,cap,rs,hv,q1,q2,q3,hs⟩:=(hs.take (.there (.there .here))).dr (by omega)
  obtain ⟨rfl,_,rfl⟩:=Value.slice.inj hv
  have hseg:fX ((bj l).flatten++rs) (0+i*4) (aF l[i]):=by rw [Nat.zero_add];exact (jO (gw l) (by simp [bj,hg])).app
  refine bM (l:=blk b 256 ((bj l).flatten++rs)::blk bi 3 [.int .i64 ((i:Int)+1)]::blk bm 117 [au m]::blk m 120 [.slice (some ⟨b,0,none⟩) l.length c]::blk b3 256 (aF ⟨[],[],false,0⟩)::F) [blk b 256 ((bj l).flatten++rs),blk bi 3 [.int .i64 ((i:Int)+1)],blk bm 117 [au m],blk m 120 [.slice (some ⟨b,0,none⟩) l.length c]] [(0,false),(1,false),(2,false),(3,false),(4,false),(5,false),(6,false),(7,false),(8,true),(9,false),(10,false)] hs.to (by kernel_rfl) fun w hs=>?_
  refine go ?_
  refine o9 (j:=i) rfl rfl rfl (by omega) rfl rfl hlt rfl ?_
  refine fI (aF l[i]) rfl rfl rfl rfl .here hseg rfl ?_
  refine go ?_
  refine cV (vs:=aF l[i]) hs fun w hs=>?_
  refine go ?_
  refine dX ⟨_,_,b3,0,rfl,rfl,fh (aF l[i]) hs (.there (.there (.there (.there .here)))) rfl rfl (fX.all _),_,_,rfl,rfl,_,_,rfl,rfl,rfl⟩ ⟨rfl,?_⟩
  have hs:=Sat.cT (k:=4) (len:=l.length) hs q1 q2 q3 (mG l) (lR l)
  exact (Sat.iX (v:=.slice (some ⟨b,0,none⟩) l.length c) hs.to).to
 ·have hg:l[i]?=none:=List.getElem?_eq_none (by omega)
  have hge:(i:Int) ≥ (l.length:Int):=by omega
  rw [hg]
  refine go ?_
  refine bw (aF ⟨[],[],false,0⟩) ?_
  refine cV (vs:=aF ⟨[],[],false,0⟩) hs fun w hs=>?_
  refine go ?_
  refine dX ⟨_,_,b3,0,rfl,rfl,fh (aF ⟨[],[],false,0⟩) hs .here rfl rfl (fX.all _),_,_,rfl,rfl,_,_,rfl,rfl,rfl⟩ ⟨rfl,?_⟩
  exact (Sat.iX (v:=.slice a l.length c) hs.to).to
end
section
open Go.Proofs.YtecibefflhomdaaGreatDoor.Pure (ad ay Rd bu less aQ aY)
attribute [local irreducible] IntKind.wrap
variable {W0 w:World} {F:List ah} {v:Value} {d m p:Nat} {T:cO} {D:ad}
def cJ:ay:=⟨[],[],false,0⟩
structure MC where
 bl:Nat
 bi:Nat
 bt:Nat
 bk:Nat
 p:Nat
 lv:Value
abbrev BV (d:Nat) (z:MC) (T:cO) (key:Bs) (i:Nat) (l:List ay):List ah:=
 [blk z.bl 118 [z.lv],blk z.bi 3 [.int .i64 (i:Int)],blk z.bt 193 [au z.p],blk z.bk 9 [str key],E5 z.lv l,cE d z.p T]
def M0 (d:Nat) (v:Value) (T:cO) (key:Bs) (i:Nat) (l:List ay):ah:=fun h=>i≤T.blocks.length∧∃ z:MC,v=.func (.func 230) #[] #[au z.bl,au z.bi,au z.bt,au z.bk]∧cR (BV d z T key i l) h
theorem Sat.J7 {key:Bs} {i:Nat} {l:List ay} (h:Sat W0 (M0 d v T key i l::F) w):i≤T.blocks.length∧∃ z:MC,v=.func (.func 230) #[] #[au z.bl,au z.bi,au z.bt,au z.bk]∧Sat W0 (BV d z T key i l++F) w:=by
 have h1:=h.fT (φ:=i≤T.blocks.length) fun _ k=>k.1
 obtain ⟨z,hv,hs⟩:=h.fg (φ:=fun z:MC=>v=.func (.func 230) #[] #[au z.bl,au z.bi,au z.bt,au z.bk]) (B:=fun z=>BV d z T key i l) fun hp ⟨_,z,hv,k⟩=>⟨z,hv,k⟩
 exact ⟨h1,z,hv,hs⟩
theorem Sat.uv {z:MC} {key:Bs} {i:Nat} {l:List ay} (hi:i≤T.blocks.length) (h:Sat W0 (BV d z T key i l++F) w):Sat W0 (M0 d (.func (.func 230) #[] #[au z.bl,au z.bi,au z.bt,au z.bk]) T key i l::F) w:=
 Sat.close h fun hp k=>⟨hi,z,rfl,k⟩
theorem Fe (T:cO) (key:Bs):jV T key≤T.blocks.length:=by
 have:=DD key (T.blocks.drop 1)
 rw [List.length_drop] at this
 unfold jV;omega
theorem qn {key:Bs} (hs:Sat W0 (cE d p T::F) w) :
 Calls Tryz.prog 210 #[au p,str key] w fun x w'=>∃ v,x=.returned v∧Sat W0 (M0 d v T key (jV T key) []::cE d p T::F) w':=by
 have hle:=Fe T key
 have hok:=hs.DC.len
 refine enter Tryz.func210 rfl Tryz.ntmps210 Tryz.results210 rfl ?_
 refine go ?_
 refine cC (hs.qh (ui d p T)) fun w bt hs=>?_
 refine cC hs fun w bk hs=>?_
 refine go ?_
 refine ae (met (uj (key:=key) (hs.take (.there (.there .here)))) ?_)
 rintro _ w ⟨rfl,hs⟩
 refine ⟨_,rfl,?_⟩
 refine aW hs fun w bi hs=>?_
 refine bI hs fun w hs=>?_
 refine go ?_
 refine aW hs fun w bl hs=>?_
 refine go ?_
 refine ak rfl ⟨_,rfl,Sat.uv (z:=⟨bl,bi,bt,bk,p,.slice none 0 0⟩) hle ?_⟩
 exact (Sat.lU (k:=4) hs (.inl rfl) (fun _=>rfl)).to
def wA {α:Type}:Except cy (Option ay×α)→ay
 | .ok (some e,_)=>e
 | _=>cJ
def LJ {α:Type}:Except cy (Option ay×α)→Bool
 | .ok (some _,_)=>true
 | _=>false
def NW {α:Type} (C:α→ah):Except cy (Option ay×α)→ah
 | .ok (_,a)=>C a
 | .error _=>fun _=>True
theorem Sat.emp (h:Sat W0 F w):Sat W0 ((fun _=>True)::F) w:=h.imp fun hp r=>⟨fun _=>none,hp,fun _ _ _ hx=>(by cases hx),fun _ _ hx=>(by cases hx),Hp.le_refl _,trivial,r⟩
theorem yf {z:MC} {key:Bs} {f i:Nat} {l:List ay} {x:Except cy (Option ay×Nat×List ay)} {D':ad} (h:lV T key f D i l=some (x,D')) (hi:i≤T.blocks.length) (hs:Sat W0 (BV d z T key i l++ag d D::F) w) :
 Calls Tryz.prog 230 #[au z.bl,au z.bi,au z.bt,au z.bk] w fun y w'=>∃ ve,y=.returned (.tuple #[.agg (aF (wA x)).toArray,.bool (LJ x),ve]) ∧
  Sat W0 (NW (fun q=>M0 d (.func (.func 230) #[] #[au z.bl,au z.bi,au z.bt,au z.bk]) T key q.1 q.2) x::aL ve (dC x)::ag d D'::F) w':=by
 obtain ⟨bl,bi,bt,bk,p,lv⟩:=z
 dsimp only [BV,List.cons_append,List.nil_append] at hs ⊢
 have hok:=(hs.take (.there (.there (.there (.there (.there .here)))))).DC
 have hlen:=hok.len
 refine enter Tryz.func230 rfl Tryz.ntmps230 Tryz.results230 rfl ?_
 refine go ?_
 refine aW hs fun w b4 hs=>?_
 refine go ?_
 refine aK (α:=Nat×ad×Nat×List ay×Value) (fun z=>[(0,au bl),(1,au bi),(2,au bt),(3,au bk),(4,au b4)])
  (fun z w=>(lV T key z.1 z.2.1 z.2.2.1 z.2.2.2.1=some (x,D')∧z.2.2.1≤T.blocks.length) ∧
    Sat W0 (blk bl 118 [z.2.2.2.2]::blk bi 3 [.int .i64 (z.2.2.1:Int)]::blk bt 193 [au p]::blk bk 9 [str key]::blk b4 256 (aF cJ)::E5 z.2.2.2.2 z.2.2.2.1::cE d p T::ag d z.2.1::F) w) (fun z=>z.1) (f,D,i,l,lv) ⟨rfl,rfl,rfl,rfl,rfl,trivial⟩ ⟨⟨h,hi⟩,hs.to⟩ ?_
 clear hs h hi
 rintro ⟨f0,D0,i0,l0,lv0⟩ w ⟨⟨h,hi⟩,hs⟩
 dsimp only at h hi hs ⊢
 refine go ?_
 refine aK (α:=Nat×ad×Nat×List ay×Value) (fun z=>[(0,au bl),(1,au bi),(2,au bt),(3,au bk),(4,au b4)])
  (fun z w=>(lV T key z.1 z.2.1 z.2.2.1 z.2.2.2.1=some (x,D')∧z.2.2.1≤T.blocks.length∧z.1≤f0) ∧
    Sat W0 (blk bl 118 [z.2.2.2.2]::blk bi 3 [.int .i64 (z.2.2.1:Int)]::blk bt 193 [au p]::blk bk 9 [str key]::blk b4 256 (aF cJ)::E5 z.2.2.2.2 z.2.2.2.1::cE d p T::ag d z.2.1::F) w) (fun z=>z.1) (f0,D0,i0,l0,lv0) ⟨rfl,rfl,rfl,rfl,rfl,trivial⟩ ⟨⟨h,hi,Nat.le_refl _⟩,hs⟩ ?_
 clear hs h hi
 rintro ⟨f1,D1,i1,l1,lv1⟩ w ⟨⟨h,hi,hf⟩,hs⟩
 dsimp only at h hi hf hs ⊢
 obtain ⟨f1,rfl⟩:∃ f',f1=f'+1:=by cases f1 with
  | zero=>simp [lV] at h
  | succ f'=>exact ⟨f',rfl⟩
 cases l1 with
 | nil=>
  obtain ⟨a,c,rfl,hc⟩:=(hs.take (.there (.there (.there (.there (.there .here)))))).im
  dsimp only [bj,List.map_nil,List.length_nil] at hs hc
  unfold lV at h
  obtain ⟨bv,hs⟩:=(hs.take (.there (.there (.there (.there (.there (.there .here))))))).mK
  obtain ⟨a2,c2,rfl,hc2⟩:=(hs.take (.there .here)).im
  have hbl:(cI T.blocks).length=T.blocks.length:=by simp [cI]
  rw [hbl] at hs
  refine go ?_
  refine bM [blk bi 3 [.int .i64 (i1:Int)],blk bt 193 [au p],tf p 200 [str T.name,str T.first,str T.last,.int .i64 (T.count:Int),au d,.slice a2 T.blocks.length c2]] [(0,false),(1,false),(2,false),(3,false),(4,false),(5,false),(6,false)] hs.to (by kernel_rfl) fun w hs=>?_
  by_cases hend:i1=T.blocks.length
  ·rw [if_pos hend] at h
   simp only [Option.some.injEq,Prod.mk.injEq] at h
   obtain ⟨rfl,rfl⟩:=h
   have hend':(i1:Int)=(T.blocks.length:Int):=by omega
   refine go ?_
   refine bw (aF cJ) ?_
   refine cV (vs:=aF cJ) hs fun w hs=>?_
   refine go ?_
   refine dX ⟨_,_,b4,0,rfl,rfl,fh (aF cJ) hs (.there (.there (.there (.there (.there (.there (.there .here))))))) rfl rfl (fX.all _),_,_,rfl,rfl,_,_,rfl,rfl,rfl⟩ ⟨_,rfl,?_⟩
   exact Sat.uv (z:=⟨bl,bi,bt,bk,p,.slice a 0 c⟩) (key:=key) (T:=T) (d:=d) (i:=i1) (l:=[]) (F:=aL .nilIface none::ag d D1::F) hi (hs.dW.to)
  ·rw [if_neg hend] at h
   have hend':¬ (i1:Int)=(T.blocks.length:Int):=by omega
   cases hr:oK D1 T i1 with
   | none=>rw [hr] at h;cases h
   | some y=>
    obtain ⟨y,D2⟩:=y
    rw [hr] at h
    refine go ?_
    refine ae (met (wz (F:=blk bl 118 [.slice a 0 c]::blk bi 3 [.int .i64 (i1:Int)]::blk bt 193 [au p]::blk bk 9 [str key]::blk b4 256 (aF cJ)::F) hr hs.to) ?_)
    rintro _ w ⟨lv2,ve,rfl,hs⟩
    refine ⟨_,rfl,?_⟩
    cases y with
    | error e=>
     simp only [Option.some.injEq,Prod.mk.injEq] at h
     obtain ⟨rfl,rfl⟩:=h
     obtain ⟨t,u,rfl⟩:=(hs.take (.there (.there (.there .here)))).aV
     refine go ?_
     refine bw (aF cJ) ?_
     refine go ?_
     refine cV (vs:=aF cJ) hs fun w hs=>?_
     refine go ?_
     refine dX ⟨_,_,b4,0,rfl,rfl,fh (aF cJ) hs (.there (.there (.there (.there (.there (.there (.there (.there .here)))))))) rfl rfl (fX.all _),_,_,rfl,rfl,_,_,rfl,rfl,rfl⟩ ⟨_,rfl,?_⟩
     exact Sat.emp hs.to
    | ok b=>
     have hve:=(hs.take (.there (.there (.there .here)))).cD
     subst hve
     dsimp only at h
     obtain ⟨a3,c3,rfl,hc3⟩:=(hs.take (.there (.there .here))).im
     refine go ?_
     refine bI hs fun w hs=>?_
     refine go ?_
     refine bI hs fun w hs=>?_
     refine go ?_
     exact aA (f1,D2,i1+1,b,_) ⟨rfl,rfl,rfl,rfl,rfl,trivial⟩ ⟨⟨h,by show i1+1≤_;omega,by show f1≤f0;omega⟩,hs.to⟩ (by show f1<f1+1;omega)
 | cons e l1=>
  obtain ⟨a,c,rfl,hc⟩:=(hs.take (.there (.there (.there (.there (.there .here)))))).im
  obtain ⟨zz,⟨hv,hzc,hseg⟩,hs2⟩:=(hs.take (.there (.there (.there (.there (.there .here)))))).mH (by simp [bj])
  obtain ⟨rfl,_,rfl⟩:=Value.slice.inj hv
  have hrow:=hseg.row (i:=0) (x:=aF e) (gw _) rfl
  have hne:¬ (((bj (e::l1)).length:Nat):Int)=0:=by simp [bj];omega
  have hpos:0<(bj (e::l1)).length:=by simp [bj]
  unfold lV at h
  refine go ?_
  refine cK (i:=0) rfl rfl rfl rfl rfl hpos rfl ?_
  refine dq (aF e) hs2 rfl rfl rfl .here hrow rfl ?_
  clear hs
  refine aW hs2 fun w b5 hs=>?_
  refine cV (vs:=aF e) hs fun w hs=>?_
  refine go ?_
  refine BK (m:=1) (hs.take (.there (.there .here))) rfl rfl rfl rfl rfl hpos rfl fun v5 hs=>?_
  obtain ⟨a5,c5,rfl,hc5⟩:=hs.im
  have hs:=hs.to (a:=blk bl 118 [.slice (some ⟨zz.b,zz.o,none⟩) (bj (e::l1)).length zz.c]::blk b5 256 (aF e)::blk bi 3 [.int .i64 (i1:Int)]::blk bt 193 [au p]::blk bk 9 [str key]::blk b4 256 (aF cJ)::E5 (.slice a5 ((bj (e::l1)).drop 1).length c5) l1::cE d p T::ag d D1::F)
  refine bI hs fun w hs=>?_
  cases hb:aQ e.key key with
  | true=>
   rw [if_pos hb] at h
   have hbb:=hb
   rw [gV] at hbb
   have hnb:(!oV e.key key)=false:=by rw [hbb];rfl
   refine go ?_
   exact aA (f1,D1,i1,l1,_) ⟨rfl,rfl,rfl,rfl,rfl,trivial⟩ ⟨⟨h,hi⟩,hs.to⟩ (by show f1<f0;omega)
  | false=>
   rw [if_neg (by simp [hb])] at h
   simp only [Option.some.injEq,Prod.mk.injEq] at h
   obtain ⟨rfl,rfl⟩:=h
   have hbb:=hb
   rw [gV] at hbb
   have hnb:(!oV e.key key)=true:=by rw [hbb];rfl
   refine go ?_
   refine cV (vs:=aF e) hs fun w hs=>?_
   refine go ?_
   refine dX ⟨_,_,b4,0,rfl,rfl,fh (aF e) hs (.there (.there (.there (.there (.there .here))))) rfl rfl (fX.all _),_,_,rfl,rfl,_,_,rfl,rfl,rfl⟩ ⟨_,rfl,?_⟩
   exact Sat.uv (z:=⟨bl,bi,bt,bk,p,_⟩) (key:=key) (T:=T) (d:=d) (i:=i1) (l:=l1) (F:=aL .nilIface none::ag d D1::F) hi (hs.dW.to)
end
section
open Go.Proofs.YtecibefflhomdaaGreatDoor.Pure (ad ay Rd bu less aQ aY)
attribute [local irreducible] IntKind.wrap
variable {W0 w:World} {F:List ah} {v:Value} {d m p:Nat} {T:cO} {D D':ad} {M:List ay} {it:It}
def lH (d m:Nat) (v:Value):It→ah
 | .mem i=>MB v m i
 | .BO T key i l=>M0 d v T key i l
def HN {α:Type} (W0:World) (C:α→ah) (m d:Nat) (M:List ay) (x:Except cy (Option ay×α)) (D':ad) (F:List ah) (y:Ending) (w':World):Prop:=
 ∃ ve,y=.returned (.tuple #[.agg (aF (wA x)).toArray,.bool (LJ x),ve])∧Sat W0 (NW C x::aL ve (dC x)::aS m M::ag d D'::F) w'
theorem sd {x:Except cy (Option ay×It)} (h:mY M D it=some (x,D')) (hs:Sat W0 (lH d m v it::aS m M::ag d D::F) w) (hmx:M.length≤1099511627776) :
 ∃ f q,v=.func (.func f) #[] q∧lk tp f=some ()∧Calls Tryz.prog f (#[].toList++[]++q.toList).toArray w (HN W0 (lH d m v) m d M x D' F):=by
 cases it with
 | mem i=>
  obtain ⟨hi,bi,bm,rfl,hs2⟩:=Sat.J6 hs
  refine ⟨207,_,rfl,rfl,(ye hi hs2 hmx).mono ?_⟩
  rintro _ w' ⟨rfl,hs⟩
  unfold mY at h
  dsimp only at h
  cases hg:M[i]? with
  | none=>
   rw [hg] at h hs
   simp only [Option.some.injEq,Prod.mk.injEq] at h
   obtain ⟨rfl,rfl⟩:=h
   refine ⟨_,rfl,?_⟩
   have hs:=Sat.uq (m:=m) (i:=i) hi (hs.to (a:=blk bi 3 [.int .i64 (i:Int)]::blk bm 117 [au m]::aS m M::ag d D::F))
   exact (hs.dW).to (a:=MB _ m i::aL .nilIface none::aS m M::ag d D::F)
  | some e=>
   rw [hg] at h hs
   simp only [Option.some.injEq,Prod.mk.injEq] at h
   obtain ⟨rfl,rfl⟩:=h
   have hlt:i<M.length:=(List.getElem?_eq_some_iff.1 hg).1
   refine ⟨_,rfl,?_⟩
   have hs:=Sat.uq (m:=m) (i:=i+1) (by omega) (hs.to (a:=blk bi 3 [.int .i64 ((i+1:Nat):Int)]::blk bm 117 [au m]::aS m M::ag d D::F))
   exact (hs.dW).to (a:=MB _ m (i+1)::aL .nilIface none::aS m M::ag d D::F)
 | BO T key i l=>
  obtain ⟨hi,z,rfl,hs2⟩:=Sat.J7 hs
  unfold mY at h
  dsimp only at h
  cases hn:lV T key gL D i l with
  | none=>rw [hn] at h;cases h
  | some y=>
   obtain ⟨y,D2⟩:=y
   rw [hn] at h
   have hs:=hs2.to (a:=BV d z T key i l++(ag d D::aS m M::F))
   refine ⟨230,_,rfl,rfl,(yf hn hi hs).mono ?_⟩
   rintro _ w' ⟨ve,rfl,hs⟩
   cases y with
   | error e=>
    simp only [Option.some.injEq,Prod.mk.injEq] at h
    obtain ⟨rfl,rfl⟩:=h
    exact ⟨_,rfl,hs.to⟩
   | ok q=>
    obtain ⟨o,i',l'⟩:=q
    simp only [Option.some.injEq,Prod.mk.injEq] at h
    obtain ⟨rfl,rfl⟩:=h
    cases o<;>exact ⟨_,rfl,hs.to⟩
def eP (d m:Nat) (hp:Nat) (x:ay×It):ah:=fun h=>∃ v,cR [blk hp 349 (aF x.1++[v]),lH d m v x.2] h
theorem Sat.zQ {hp:Nat} {x:ay×It} (h:Sat W0 (eP d m hp x::F) w):∃ v,Sat W0 (blk hp 349 (aF x.1++[v])::lH d m v x.2::F) w:=by
 obtain ⟨v,_,hs⟩:=h.fg (φ:=fun _:Value=>True) (B:=fun v=>[blk hp 349 (aF x.1++[v]),lH d m v x.2]) fun hp ⟨v,k⟩=>⟨v,trivial,k⟩
 exact ⟨v,hs⟩
theorem Sat.wB {hp:Nat} {x:ay×It} (h:Sat W0 (blk hp 349 (aF x.1++[v])::lH d m v x.2::F) w):Sat W0 (eP d m hp x::F) w:=
 Sat.close (B:=[blk hp 349 (aF x.1++[v]),lH d m v x.2]) h fun hp k=>⟨v,k⟩
theorem wC {hp:Nat} {e0:ay} {x:Except cy (Option ay×It)} (h:mY M D it=some (x,D')) (hs:Sat W0 (blk hp 349 (aF e0++[v])::lH d m v it::aS m M::ag d D::F) w) (hmx:M.length≤1099511627776) :
 Calls Tryz.prog 213 #[au hp] w fun y w'=>∃ ve,y=.returned (.tuple #[.bool (LJ x),ve])∧Sat W0 (blk hp 349 (aF (wA x)++[v])::NW (lH d m v) x::aL ve (dC x)::aS m M::ag d D'::F) w':=by
 have hs:=hs.to (a:=lH d m v it::aS m M::ag d D::blk hp 349 (aF e0++[v])::F)
 obtain ⟨f,q,rfl,hf,hc⟩:=sd h hs hmx
 refine enter Tryz.func213 rfl Tryz.ntmps213 Tryz.results213 rfl ?_
 refine go ?_
 refine iK rfl hf rfl rfl (hc.mono ?_)
 rintro _ w ⟨ve,rfl,hs⟩
 refine ⟨_,rfl,go ?_⟩
 refine aW hs fun w b4 hs=>?_
 refine cV (vs:=aF (wA x)) hs fun w hs=>?_
 refine go ?_
 refine Bx (vs:=aF (wA x)) (cs:=aF e0++[.func (.func f) #[] q]) hs rfl rfl rfl (ub _) (by repeat (first|exact ib.here|apply ib.there)) (by simp [aF]) fun w hs=>?_
 refine go ?_
 exact ak rfl ⟨_,rfl,hs.to⟩
end
end Go.Proofs.YtecibefflhomdaaGreatDoor
