/-
  Part 17: WALKS package table; WALKS rows gone through; WALKS rows gone through; WALKS any row gone through.
-/
import Derived.Test.YtecibefflhomdaaGreatDoorV14
set_option maxHeartbeats 8000000
set_option maxRecDepth 100000
set_option linter.all false
namespace Go.Proofs.YtecibefflhomdaaGreatDoor
open Go
section
open Go.Proofs.YtecibefflhomdaaGreatDoor.Pure (ae aB Rd bH less aR aZ)
attribute [local irreducible] IntKind.wrap
def cU {α:Type}:Except cx α→Option cx
 | .ok _=>none
 | .error e=>some e
def xh {α:Type}:Except cx (List α)→List α
 | .ok l=>l
 | .error _=>[]
theorem Ki {r:Rd} (hb:r.bad=false) (hr:r.rest≠[]):r.entry.2.rest.length<r.rest.length:=by
 have h1:(r.num 1).2.rest.length<r.rest.length:=by
  have hpos:0<r.rest.length:=List.length_pos_iff.2 hr
  unfold Pure.Rd.num Pure.Rd.bytes
  rw [if_neg (by simp [hb];omega)]
  simp;omega
 have h2:r.text.2.rest.length<r.rest.length:=Nat.lt_of_le_of_lt (Pure.Rd.gY _ _) h1
 have h3:=r.text.2.dr 8
 have he:r.entry=if (r.text.2.num 8).2.rest.head?=some 255 then (⟨r.text.1,[],true,(r.text.2.num 8).1⟩,((r.text.2.num 8).2.bytes 1).2)
  else (⟨r.text.1,(r.text.2.num 8).2.text.1,false,(r.text.2.num 8).1⟩,(r.text.2.num 8).2.text.2):=rfl
 rw [he]
 split
 ·have:=Pure.Rd.gY (r.text.2.num 8).2 1;dsimp only;omega
 ·have:=Pure.Rd.iX (r.text.2.num 8).2;dsimp only;omega
theorem mC {bs:Bs} {z:Bs×Bs} (h:bH bs=some z):z.1.length≤bs.length:=by
 have ho:bH bs=(let n:=Rd.num ⟨bs,false⟩ 4
  let t:=n.2.num 4
  let s:=t.2.num 4
  if n.1≠4294967295-t.1 then none else
  let i:=s.2.bytes (n.1:Int)
  if i.2.bad=true∨Pure.xF i.1≠s.1 then none else some (i.1,i.2.rest)):=rfl
 rw [h] at ho
 dsimp only at ho
 split at ho
 ·cases ho
 ·split at ho
  ·cases ho
  ·simp only [Option.some.injEq] at ho
   subst ho
   have b1:(Rd.num ⟨bs,false⟩ 4).2.rest.length≤bs.length:=Pure.Rd.dr ⟨bs,false⟩ 4
   have b2:=(Rd.num ⟨bs,false⟩ 4).2.dr 4
   have b3:=((Rd.num ⟨bs,false⟩ 4).2.num 4).2.dr 4
   have key:∀ (r:Rd) (n:Int),(r.bytes n).1.length≤r.rest.length:=fun r n=>by
    unfold Pure.Rd.bytes;split
    ·simp
    ·simp;omega
   exact Nat.le_trans (key _ _) (Nat.le_trans b3 (Nat.le_trans b2 b1))
theorem BA {r:Rd} (h:¬ (r.rest≠[]∧r.bad=false)) (f:Nat):eG f r=([],r.bad):=by
 cases f with
 | zero=>rfl
 | succ f=>unfold eG;rw [if_neg h]
theorem BB {r:Rd} (h:r.rest≠[]∧r.bad=false) (f:Nat):eG (f+1) r=(r.entry.1::(eG f r.entry.2).1,(eG f r.entry.2).2):=by
 conv=>lhs;unfold eG
 rw [if_pos h]
variable {W0 w:World} {F:List ax} {v:Value} {d p:Nat} {T:bN} {D:ae}
theorem x7 {i:Nat} {x:Except cx (List aB)} {D':ae} (h:px D T i=some (x,D')) (hs:Sat W0 (cF d p T::aj d D::F) w) :
 Calls Tryz.prog 231 #[ay p,.int .i64 (i:Int)] w fun y w'=>∃ lv ve,y=.returned (.tuple #[lv,ve])∧Sat W0 (cF d p T::aj d D'::Hr lv (xh x)::aH ve (cU x)::F) w':=by
 have hok:=hs.F8
 unfold px at h
 cases hb:T.blocks[i]? with
 | none=>rw [hb] at h;cases h
 | some b=>
  rw [hb] at h
  dsimp only at h
  have hi:i<T.blocks.length:=(List.getElem?_eq_some_iff.1 hb).1
  have hbm:b∈T.blocks:=List.mem_of_getElem? hb
  obtain ⟨hn1,hn2⟩:=hok.nums b hbm
  have hne:T.blocks≠[]:=fun h=>by rw [h] at hi;simp at hi
  obtain ⟨bv,hs⟩:=hs.lG
  obtain ⟨a,c,rfl,hc⟩:=(hs.take (.there .here)).ix
  have hlen:(cO T.blocks).length=T.blocks.length:=by simp [cO]
  obtain ⟨zz,⟨hv,hzc,hseg⟩,hs⟩:=(hs.take (.there .here)).kX (by simpa [cO] using hne)
  rw [hlen] at hv hs
  obtain ⟨rfl,_,rfl⟩:=Value.slice.inj hv
  have hrow:=hseg.row (i:=i) (x:=tN b) (qM _) (by simp [cO,hb])
  have hcell1:=hrow.2.1
  have hcell2:=hrow.2.2.1
  rw [Nat.add_assoc] at hcell2
  refine enter Tryz.func231 rfl Tryz.ntmps231 Tryz.results231 rfl ?_
  refine go ?_
  refine bO [ob true zz.b (.cells zz.all.toArray zz.E (0,0)),tI p 200 [str T.name,str T.first,str T.last,.int .i64 (T.count:Int),ay d,.slice (some ⟨zz.b,zz.o,none⟩) T.blocks.length zz.c]] [(0,false),(1,false),(2,false),(3,false),(4,false),(5,false),(6,false),(7,false),(8,false),(9,false),(10,false),(11,false),(12,false),(13,false),(14,false),(15,false),(16,false),(17,false),(18,false),(19,false),(20,false),(21,false),(22,false),(23,false),(24,false),(25,true),(26,false),(27,false),(28,false),(29,false),(30,false)] hs.to (by kernel_rfl) fun w hs=>?_
  refine go ?_
  refine pX (j:=i) rfl rfl rfl rfl rfl rfl hi rfl ?_
  refine go ?_
  refine qp rfl rfl rfl .here hcell1 rfl ?_
  refine go ?_
  refine pX (j:=i) rfl rfl rfl rfl rfl rfl hi rfl ?_
  refine go ?_
  refine qp rfl rfl rfl .here hcell2 rfl ?_
  refine go ?_
  refine ag (met (qF (nm:=T.name) (at_:=(b.2.1:Int)) (n:=(b.2.2:Int)) (hs.take (.there (.there (.there (.there .here))))) (by omega) (by omega) (by omega) (by omega)) ?_)
  rintro _ w ⟨rv,ve,rfl,hs⟩
  refine ⟨_,rfl,?_⟩
  cases hf:bx D T.name with
  | some e=>
   rw [hf] at h hs
   simp only [Option.some.injEq,Prod.mk.injEq] at h
   obtain ⟨rfl,rfl⟩:=h
   obtain ⟨t,u,rfl⟩:=(hs.take (.there (.there .here))).aQ
   refine go ?_
   exact ah rfl ⟨_,_,rfl,Sat.to (hs.j7 (k:=4) (.inl rfl) (fun _=>rfl))⟩
  | none=>
   rw [hf] at h hs
   dsimp only at h
   have hve:=(hs.take (.there (.there .here))).cA
   subst hve
   have hs:=(hs.take (.there .here)).nW
   have hdk:=(hs.take (.there .here)).Pr
   have hbl:(iZ D T.name b.2.1 b.2.2).length≤140737488355328:=by
    have h1:(iZ D T.name b.2.1 b.2.2).length≤(fileOf D T.name).length:=by
     unfold iZ;rw [hf];simp only [fB,List.length_take,List.length_drop];omega
    have h2:(fileOf D T.name).length≤D.used:=by
     unfold fileOf
     cases hg:Pure.aD D.now T.name with
     | none=>simp
     | some j=>exact Pure.ae.size_le hg
    have h3:=hdk.used
    have h4:((counted D b.2.2).tick).used=D.used:=by rw [Pure.ae.mi];rfl
    rw [h4] at h3;omega
   generalize iZ D T.name b.2.1 b.2.2=bs at *
   refine go ?_
   refine ag (met (mr hs hbl) ?_)
   rintro _ w ⟨v1,v2,rfl,hs⟩
   refine ⟨_,rfl,?_⟩
   unfold rZ at h
   cases ho:bH bs with
   | none=>
    rw [ho] at h hs
    simp only [Option.map_some,Option.some.injEq,Prod.mk.injEq] at h
    obtain ⟨rfl,rfl⟩:=h
    refine go ?_
    refine ag (met (dY (nm:=T.name) hs) ?_)
    rintro _ w ⟨ve,rfl,hs⟩
    refine ⟨_,rfl,go ?_⟩
    exact ah rfl ⟨_,_,rfl,Sat.to (hs.j7 (k:=4) (.inl rfl) (fun _=>rfl))⟩
   | some y=>
    rw [ho] at h hs
    dsimp only at h hs
    by_cases hbig:bs.length≤iq
    ·rw [if_pos hbig] at h
     rw [bI] at hbig
     have hyl:=mC ho
     have hh:x=(if (eG y.1.length ⟨y.1,false⟩).2=true then .error (some T.name,7) else .ok (eG y.1.length ⟨y.1,false⟩).1)∧(counted D b.2.2).tick=D':=by
      split at h<;>simp only [Option.map_some,Option.some.injEq,Prod.mk.injEq] at h<;>rename_i hc
      ·rw [if_pos hc];exact ⟨h.1.symm,h.2⟩
      ·rw [if_neg hc];exact ⟨h.1.symm,h.2⟩
     clear h
     obtain ⟨rfl,rfl⟩:=hh
     generalize y.1=ys at *
     obtain ⟨a1,c1,rfl,hc1⟩:=hs.fF
     refine go ?_
     refine bz [.slice a1 ys.length c1,.bool false] ?_
     refine bR hs fun w r hs=>?_
     have hs:=Sat.fX (rd:=⟨ys,false⟩) hs
     refine go ?_
     refine aJ (α:=Nat×Rd×List aB×Value) (fun z=>[(0,ay p),(11,ay r),(12,z.2.2.2)])
      (fun z w=>(z.2.2.1++(eG z.1 z.2.1).1=(eG ys.length ⟨ys,false⟩).1∧(eG z.1 z.2.1).2=(eG ys.length ⟨ys,false⟩).2∧z.2.1.rest.length≤z.1∧z.2.2.1.length+z.1≤ys.length) ∧
        Sat W0 (xe r z.2.1::jw z.2.2.2 z.2.2.1::tI p 200 [str T.name,str T.first,str T.last,.int .i64 (T.count:Int),ay d,.slice (some ⟨zz.b,zz.o,none⟩) T.blocks.length zz.c]::cF d p T::aj d (counted D b.2.2).tick::F) w) (fun z=>z.1) (ys.length,⟨ys,false⟩,[],.slice none 0 0) ⟨rfl,rfl,rfl,trivial⟩ ⟨⟨rfl,rfl,Nat.le_refl _,by simp⟩,Sat.to (Sat.cH (k:=4) (E:=256) hs)⟩ ?_
     clear hs
     rintro ⟨f,rd,acc,lv⟩ w ⟨⟨q1,q2,q3,q4⟩,hs⟩
     dsimp only at q1 q2 q3 q4 hs ⊢
     obtain ⟨vr,-,hs⟩:=hs.n8
     dsimp only [List.cons_append,List.nil_append] at hs
     obtain ⟨a2,c2,rfl,hc2⟩:=(hs.take (.there .here)).fF
     by_cases hgo:rd.rest≠[]∧rd.bad=false
     ·obtain ⟨g1,g2⟩:=hgo
      have hpos:(rd.rest.length:Int) > 0:=by have:=List.length_pos_iff.2 g1;omega
      have hlt:=Ki g2 g1
      obtain ⟨f,rfl⟩:∃ f',f=f'+1:=⟨f-1,by have:=List.length_pos_iff.2 g1;omega⟩
      rw [BB ⟨g1,g2⟩] at q1 q2
      rw [g2] at hs
      refine go ?_
      have hs:=Sat.fX (rd:=rd) (by rw [g2];exact hs)
      refine ag (met (vt hs (by omega)) ?_)
      rintro _ w ⟨rfl,hs⟩
      refine ⟨_,rfl,go ?_⟩
      refine ia (aI rd.entry.1) hs (fun w b2 hs=>?_)
      refine dM hs fun v2 w hs=>?_
      refine go ?_
      refine az (f,rd.entry.2,acc++[rd.entry.1],v2) ⟨rfl,rfl,rfl,trivial⟩ ⟨⟨by show (acc++[rd.entry.1])++(eG f rd.entry.2).1=_;rw [List.append_assoc];exact q1,q2,by show rd.entry.2.rest.length≤f;omega,by show (acc++[rd.entry.1]).length+f≤ys.length;rw [List.length_append];show acc.length+1+f≤_;omega⟩,?_⟩ (by show f<f+1;omega)
      have e1:aL 4 v2 256 (acc.length+1) ((bg acc).flatten++aI rd.entry.1)=jw v2 (acc++[rd.entry.1]):=by rw [← mx];show _=aL 4 v2 256 (acc++[rd.entry.1]).length _;rw [List.length_append];rfl
      rw [e1] at hs
      exact hs.to
     ·have hst:=BA hgo f
      by_cases hr:rd.rest=[]
      ·have hnp:¬ (rd.rest.length:Int) > 0:=by rw [hr];simp
       cases hbad:rd.bad with
       | true=>
        rw [hbad] at hs
        refine go ?_
        have hq:(eG ys.length ⟨ys,false⟩).2=true:=by rw [← q2,hst];exact hbad
        rw [hq]
        rw [if_pos rfl]
        refine ag (met (dY (nm:=T.name) hs) ?_)
        rintro _ w ⟨ve,rfl,hs⟩
        refine ⟨_,rfl,go ?_⟩
        exact ah rfl ⟨_,_,rfl,Sat.to (hs.j7 (k:=4) (.inl rfl) (fun _=>rfl))⟩
       | false=>
        rw [hbad] at hs
        refine go ?_
        have hq:(eG ys.length ⟨ys,false⟩).2=false:=by rw [← q2,hst];exact hbad
        rw [hq]
        rw [if_neg (by simp)]
        have hs:=Sat.ku (gN acc) (rows:=bg acc) (E:=256) (k:=4) (v:=lv) (by rw [jv];exact hs.take (.there (.there .here)))
        refine ah rfl ⟨_,_,rfl,?_⟩
        rw [show (eG ys.length ⟨ys,false⟩).1=acc from by rw [← q1,hst];simp]
        exact (hs.ej).to
      ·have hpos:(rd.rest.length:Int) > 0:=by have:=List.length_pos_iff.2 hr;omega
       have hbad:rd.bad=true:=by
        cases hb2:rd.bad with
        | true=>rfl
        | false=>exact (hgo ⟨hr,hb2⟩).elim
       rw [hbad] at hs
       refine go ?_
       have hq:(eG ys.length ⟨ys,false⟩).2=true:=by rw [← q2,hst];exact hbad
       rw [hq]
       rw [if_pos rfl]
       refine ag (met (dY (nm:=T.name) hs) ?_)
       rintro _ w ⟨ve,rfl,hs⟩
       refine ⟨_,rfl,go ?_⟩
       exact ah rfl ⟨_,_,rfl,Sat.to (hs.j7 (k:=4) (.inl rfl) (fun _=>rfl))⟩
    ·rw [if_neg hbig] at h;cases h
end
section
open Go.Proofs.YtecibefflhomdaaGreatDoor.Pure (ae aB Rd bH less aR aZ)
attribute [local irreducible] IntKind.wrap
variable {W0 w:World} {F:List ax} {v:Value} {m:Nat} {l:List aB}
def Ps (v:Value) (m i:Nat):ax:=fun h=>i≤4611686018427387904∧∃ bi bm,v=.func (.func 207) #[] #[ay bi,ay bm]∧cL [blk bi 3 [.int .i64 (i:Int)],blk bm 117 [ay m]] h
theorem Sat.MJ {i:Nat} (h:Sat W0 (Ps v m i::F) w):i≤4611686018427387904∧∃ bi bm,v=.func (.func 207) #[] #[ay bi,ay bm]∧Sat W0 (blk bi 3 [.int .i64 (i:Int)]::blk bm 117 [ay m]::F) w:=by
 have h1:=h.fT (φ:=i≤4611686018427387904) fun _ k=>k.1
 obtain ⟨⟨bi,bm⟩,hv,hs⟩:=h.e9 (φ:=fun z:Nat×Nat=>v=.func (.func 207) #[] #[ay z.1,ay z.2]) (B:=fun z=>[blk z.1 3 [.int .i64 (i:Int)],blk z.2 117 [ay m]]) fun hp ⟨_,bi,bm,hv,k⟩=>⟨⟨bi,bm⟩,hv,k⟩
 exact ⟨h1,bi,bm,hv,hs⟩
theorem Sat.vG {i bi bm:Nat} (hi:i≤4611686018427387904) (h:Sat W0 (blk bi 3 [.int .i64 (i:Int)]::blk bm 117 [ay m]::F) w):Sat W0 (Ps (.func (.func 207) #[] #[ay bi,ay bm]) m i::F) w:=
 Sat.close (B:=[blk bi 3 [.int .i64 (i:Int)],blk bm 117 [ay m]]) h fun hp k=>⟨hi,bi,bm,rfl,k⟩
theorem qO {key:Bs} (hs:Sat W0 (aO m l::F) w) (hmx:l.length≤1099511627776) :
 Calls Tryz.prog 169 #[ay m,str key] w fun x w'=>∃ v,x=.returned v∧Sat W0 (Ps v m (aZ l ⟨key,[],false,aE⟩)::aO m l::F) w':=by
 have hle:=Pure.jL l ⟨key,[],false,aE⟩
 refine enter Tryz.func169 rfl Tryz.ntmps169 Tryz.results169 rfl ?_
 refine go ?_
 refine bR hs fun w b1 hs=>?_
 refine go ?_
 refine bz (aI ⟨key,[],false,aE⟩) ?_
 refine ag (met (oa (e:=⟨key,[],false,aE⟩) (hs.take (.there .here)) hmx) ?_)
 rintro _ w ⟨rfl,hs⟩
 refine ⟨_,rfl,?_⟩
 refine aS hs fun w b2 hs=>?_
 refine bK hs fun w hs=>?_
 refine go ?_
 exact ah rfl ⟨_,rfl,Sat.vG (by omega) hs.to⟩
theorem zR {i bi bm:Nat} (hi:i≤4611686018427387904) (hs:Sat W0 (blk bi 3 [.int .i64 (i:Int)]::blk bm 117 [ay m]::aO m l::F) w) (hmx:l.length≤1099511627776) :
 Calls Tryz.prog 207 #[ay bi,ay bm] w fun x w'=>x=.returned (.tuple #[.agg (aI (match l[i]? with|some e=>e|none=>⟨[],[],false,0⟩)).toArray,.bool (l[i]?).isSome,.nilIface]) ∧
  Sat W0 (blk bi 3 [.int .i64 ((if (l[i]?).isSome=true then i+1 else i:Nat):Int)]::blk bm 117 [ay m]::aO m l::F) w':=by
 obtain ⟨v,hs⟩:=(hs.take (.there (.there .here))).qG
 obtain ⟨a,c,rfl,-⟩:=(hs.take (.there .here)).rX
 refine enter Tryz.func207 rfl Tryz.ntmps207 Tryz.results207 rfl ?_
 refine go ?_
 refine aS hs fun w b3 hs=>?_
 refine go ?_
 refine bO [blk bi 3 [.int .i64 (i:Int)],blk bm 117 [ay m],blk m 120 [.slice a l.length c]] [(0,false),(1,false),(2,false),(3,false),(4,false),(5,false),(6,false)] hs.to (by kernel_rfl) fun w hs=>?_
 by_cases hlt:i<l.length
 ·have hg:l[i]?=some l[i]:=List.getElem?_eq_getElem hlt
  have hnot:¬ (i:Int) ≥ (l.length:Int):=by omega
  rw [hg]
  refine go ?_
  refine bK hs fun w hs=>?_
  refine go ?_
  obtain ⟨b,cap,rs,hv,q1,q2,q3,hs⟩:=(hs.take (.there (.there .here))).dw (by omega)
  obtain ⟨rfl,_,rfl⟩:=Value.slice.inj hv
  have hseg:fS ((bg l).flatten++rs) (0+i*4) (aI l[i]):=by rw [Nat.zero_add];exact (ie (gN l) (by simp [bg,hg])).app
  refine bO (l:=blk b 256 ((bg l).flatten++rs)::blk bi 3 [.int .i64 ((i:Int)+1)]::blk bm 117 [ay m]::blk m 120 [.slice (some ⟨b,0,none⟩) l.length c]::blk b3 256 (aI ⟨[],[],false,0⟩)::F) [blk b 256 ((bg l).flatten++rs),blk bi 3 [.int .i64 ((i:Int)+1)],blk bm 117 [ay m],blk m 120 [.slice (some ⟨b,0,none⟩) l.length c]] [(0,false),(1,false),(2,false),(3,false),(4,false),(5,false),(6,false),(7,false),(8,true),(9,false),(10,false)] hs.to (by kernel_rfl) fun w hs=>?_
  refine go ?_
  refine pX (j:=i) rfl rfl rfl (by omega) rfl rfl hlt rfl ?_
  refine fZ (aI l[i]) rfl rfl rfl rfl .here hseg rfl ?_
  refine go ?_
  refine da (vs:=aI l[i]) hs fun w hs=>?_
  refine go ?_
  refine eC ⟨_,_,b3,0,rfl,rfl,fM (aI l[i]) hs (.there (.there (.there (.there .here)))) rfl rfl (fS.all _),_,_,rfl,rfl,_,_,rfl,rfl,rfl⟩ ⟨rfl,?_⟩
  have hs:=Sat.dg (k:=4) (len:=l.length) hs q1 q2 q3 (m7 l) (mw l)
  exact (Sat.jx (v:=.slice (some ⟨b,0,none⟩) l.length c) hs.to).to
 ·have hg:l[i]?=none:=List.getElem?_eq_none (by omega)
  have hge:(i:Int) ≥ (l.length:Int):=by omega
  rw [hg]
  refine go ?_
  refine bz (aI ⟨[],[],false,0⟩) ?_
  refine da (vs:=aI ⟨[],[],false,0⟩) hs fun w hs=>?_
  refine go ?_
  refine eC ⟨_,_,b3,0,rfl,rfl,fM (aI ⟨[],[],false,0⟩) hs .here rfl rfl (fS.all _),_,_,rfl,rfl,_,_,rfl,rfl,rfl⟩ ⟨rfl,?_⟩
  exact (Sat.jx (v:=.slice a l.length c) hs.to).to
end
section
open Go.Proofs.YtecibefflhomdaaGreatDoor.Pure (ae aB Rd bH less aR aZ)
attribute [local irreducible] IntKind.wrap
variable {W0 w:World} {F:List ax} {v:Value} {d m p:Nat} {T:bN} {D:ae}
def cP:aB:=⟨[],[],false,0⟩
structure Pt where
 bl:Nat
 bi:Nat
 bt:Nat
 bk:Nat
 p:Nat
 lv:Value
abbrev DZ (d:Nat) (z:Pt) (T:bN) (key:Bs) (i:Nat) (l:List aB):List ax:=
 [blk z.bl 118 [z.lv],blk z.bi 3 [.int .i64 (i:Int)],blk z.bt 193 [ay z.p],blk z.bk 9 [str key],Hr z.lv l,cF d z.p T]
def PT (d:Nat) (v:Value) (T:bN) (key:Bs) (i:Nat) (l:List aB):ax:=fun h=>i≤T.blocks.length∧∃ z:Pt,v=.func (.func 230) #[] #[ay z.bl,ay z.bi,ay z.bt,ay z.bk]∧cL (DZ d z T key i l) h
theorem Sat.MK {key:Bs} {i:Nat} {l:List aB} (h:Sat W0 (PT d v T key i l::F) w):i≤T.blocks.length∧∃ z:Pt,v=.func (.func 230) #[] #[ay z.bl,ay z.bi,ay z.bt,ay z.bk]∧Sat W0 (DZ d z T key i l++F) w:=by
 have h1:=h.fT (φ:=i≤T.blocks.length) fun _ k=>k.1
 obtain ⟨z,hv,hs⟩:=h.e9 (φ:=fun z:Pt=>v=.func (.func 230) #[] #[ay z.bl,ay z.bi,ay z.bt,ay z.bk]) (B:=fun z=>DZ d z T key i l) fun hp ⟨_,z,hv,k⟩=>⟨z,hv,k⟩
 exact ⟨h1,z,hv,hs⟩
theorem Sat.vH {z:Pt} {key:Bs} {i:Nat} {l:List aB} (hi:i≤T.blocks.length) (h:Sat W0 (DZ d z T key i l++F) w):Sat W0 (PT d (.func (.func 230) #[] #[ay z.bl,ay z.bi,ay z.bt,ay z.bk]) T key i l::F) w:=
 Sat.close h fun hp k=>⟨hi,z,rfl,k⟩
theorem Hz (T:bN) (key:Bs):ko T key≤T.blocks.length:=by
 have:=F9 key (T.blocks.drop 1)
 rw [List.length_drop] at this
 unfold ko;omega
theorem qP {key:Bs} (hs:Sat W0 (cF d p T::F) w) :
 Calls Tryz.prog 210 #[ay p,str key] w fun x w'=>∃ v,x=.returned v∧Sat W0 (PT d v T key (ko T key) []::cF d p T::F) w':=by
 have hle:=Hz T key
 have hok:=hs.F8.len
 refine enter Tryz.func210 rfl Tryz.ntmps210 Tryz.results210 rfl ?_
 refine go ?_
 refine bR (hs.od (qN d p T)) fun w bt hs=>?_
 refine bR hs fun w bk hs=>?_
 refine go ?_
 refine ag (met (vC (key:=key) (hs.take (.there (.there .here)))) ?_)
 rintro _ w ⟨rfl,hs⟩
 refine ⟨_,rfl,?_⟩
 refine aS hs fun w bi hs=>?_
 refine bK hs fun w hs=>?_
 refine go ?_
 refine aS hs fun w bl hs=>?_
 refine go ?_
 refine ah rfl ⟨_,rfl,Sat.vH (z:=⟨bl,bi,bt,bk,p,.slice none 0 0⟩) hle ?_⟩
 exact (Sat.j7 (k:=4) hs (.inl rfl) (fun _=>rfl)).to
def x8 {α:Type}:Except cx (Option aB×α)→aB
 | .ok (some e,_)=>e
 | _=>cP
def OG {α:Type}:Except cx (Option aB×α)→Bool
 | .ok (some _,_)=>true
 | _=>false
def QQ {α:Type} (C:α→ax):Except cx (Option aB×α)→ax
 | .ok (_,a)=>C a
 | .error _=>fun _=>True
theorem Sat.emp (h:Sat W0 F w):Sat W0 ((fun _=>True)::F) w:=h.imp fun hp r=>⟨fun _=>none,hp,fun _ _ _ hx=>(by cases hx),fun _ _ hx=>(by cases hx),Hp.le_refl _,trivial,r⟩
theorem zS {z:Pt} {key:Bs} {f i:Nat} {l:List aB} {x:Except cx (Option aB×Nat×List aB)} {D':ae} (h:mz T key f D i l=some (x,D')) (hi:i≤T.blocks.length) (hs:Sat W0 (DZ d z T key i l++aj d D::F) w) :
 Calls Tryz.prog 230 #[ay z.bl,ay z.bi,ay z.bt,ay z.bk] w fun y w'=>∃ ve,y=.returned (.tuple #[.agg (aI (x8 x)).toArray,.bool (OG x),ve]) ∧
  Sat W0 (QQ (fun q=>PT d (.func (.func 230) #[] #[ay z.bl,ay z.bi,ay z.bt,ay z.bk]) T key q.1 q.2) x::aH ve (cU x)::aj d D'::F) w':=by
 obtain ⟨bl,bi,bt,bk,p,lv⟩:=z
 dsimp only [DZ,List.cons_append,List.nil_append] at hs ⊢
 have hok:=(hs.take (.there (.there (.there (.there (.there .here)))))).F8
 have hlen:=hok.len
 refine enter Tryz.func230 rfl Tryz.ntmps230 Tryz.results230 rfl ?_
 refine go ?_
 refine aS hs fun w b4 hs=>?_
 refine go ?_
 refine aJ (α:=Nat×ae×Nat×List aB×Value) (fun z=>[(0,ay bl),(1,ay bi),(2,ay bt),(3,ay bk),(4,ay b4)])
  (fun z w=>(mz T key z.1 z.2.1 z.2.2.1 z.2.2.2.1=some (x,D')∧z.2.2.1≤T.blocks.length) ∧
    Sat W0 (blk bl 118 [z.2.2.2.2]::blk bi 3 [.int .i64 (z.2.2.1:Int)]::blk bt 193 [ay p]::blk bk 9 [str key]::blk b4 256 (aI cP)::Hr z.2.2.2.2 z.2.2.2.1::cF d p T::aj d z.2.1::F) w) (fun z=>z.1) (f,D,i,l,lv) ⟨rfl,rfl,rfl,rfl,rfl,trivial⟩ ⟨⟨h,hi⟩,hs.to⟩ ?_
 clear hs h hi
 rintro ⟨f0,D0,i0,l0,lv0⟩ w ⟨⟨h,hi⟩,hs⟩
 dsimp only at h hi hs ⊢
 refine go ?_
 refine aJ (α:=Nat×ae×Nat×List aB×Value) (fun z=>[(0,ay bl),(1,ay bi),(2,ay bt),(3,ay bk),(4,ay b4)])
  (fun z w=>(mz T key z.1 z.2.1 z.2.2.1 z.2.2.2.1=some (x,D')∧z.2.2.1≤T.blocks.length∧z.1≤f0) ∧
    Sat W0 (blk bl 118 [z.2.2.2.2]::blk bi 3 [.int .i64 (z.2.2.1:Int)]::blk bt 193 [ay p]::blk bk 9 [str key]::blk b4 256 (aI cP)::Hr z.2.2.2.2 z.2.2.2.1::cF d p T::aj d z.2.1::F) w) (fun z=>z.1) (f0,D0,i0,l0,lv0) ⟨rfl,rfl,rfl,rfl,rfl,trivial⟩ ⟨⟨h,hi,Nat.le_refl _⟩,hs⟩ ?_
 clear hs h hi
 rintro ⟨f1,D1,i1,l1,lv1⟩ w ⟨⟨h,hi,hf⟩,hs⟩
 dsimp only at h hi hf hs ⊢
 obtain ⟨f1,rfl⟩:∃ f',f1=f'+1:=by cases f1 with
  | zero=>simp [mz] at h
  | succ f'=>exact ⟨f',rfl⟩
 cases l1 with
 | nil=>
  obtain ⟨a,c,rfl,hc⟩:=(hs.take (.there (.there (.there (.there (.there .here)))))).ix
  dsimp only [bg,List.map_nil,List.length_nil] at hs hc
  unfold mz at h
  obtain ⟨bv,hs⟩:=(hs.take (.there (.there (.there (.there (.there (.there .here))))))).lG
  obtain ⟨a2,c2,rfl,hc2⟩:=(hs.take (.there .here)).ix
  have hbl:(cO T.blocks).length=T.blocks.length:=by simp [cO]
  rw [hbl] at hs
  refine go ?_
  refine bO [blk bi 3 [.int .i64 (i1:Int)],blk bt 193 [ay p],tI p 200 [str T.name,str T.first,str T.last,.int .i64 (T.count:Int),ay d,.slice a2 T.blocks.length c2]] [(0,false),(1,false),(2,false),(3,false),(4,false),(5,false),(6,false)] hs.to (by kernel_rfl) fun w hs=>?_
  by_cases hend:i1=T.blocks.length
  ·rw [if_pos hend] at h
   simp only [Option.some.injEq,Prod.mk.injEq] at h
   obtain ⟨rfl,rfl⟩:=h
   have hend':(i1:Int)=(T.blocks.length:Int):=by omega
   refine go ?_
   refine bz (aI cP) ?_
   refine da (vs:=aI cP) hs fun w hs=>?_
   refine go ?_
   refine eC ⟨_,_,b4,0,rfl,rfl,fM (aI cP) hs (.there (.there (.there (.there (.there (.there (.there .here))))))) rfl rfl (fS.all _),_,_,rfl,rfl,_,_,rfl,rfl,rfl⟩ ⟨_,rfl,?_⟩
   exact Sat.vH (z:=⟨bl,bi,bt,bk,p,.slice a 0 c⟩) (key:=key) (T:=T) (d:=d) (i:=i1) (l:=[]) (F:=aH .nilIface none::aj d D1::F) hi (hs.ej.to)
  ·rw [if_neg hend] at h
   have hend':¬ (i1:Int)=(T.blocks.length:Int):=by omega
   cases hr:px D1 T i1 with
   | none=>rw [hr] at h;cases h
   | some y=>
    obtain ⟨y,D2⟩:=y
    rw [hr] at h
    refine go ?_
    refine ag (met (x7 (F:=blk bl 118 [.slice a 0 c]::blk bi 3 [.int .i64 (i1:Int)]::blk bt 193 [ay p]::blk bk 9 [str key]::blk b4 256 (aI cP)::F) hr hs.to) ?_)
    rintro _ w ⟨lv2,ve,rfl,hs⟩
    refine ⟨_,rfl,?_⟩
    cases y with
    | error e=>
     simp only [Option.some.injEq,Prod.mk.injEq] at h
     obtain ⟨rfl,rfl⟩:=h
     obtain ⟨t,u,rfl⟩:=(hs.take (.there (.there (.there .here)))).aQ
     refine go ?_
     refine bz (aI cP) ?_
     refine go ?_
     refine da (vs:=aI cP) hs fun w hs=>?_
     refine go ?_
     refine eC ⟨_,_,b4,0,rfl,rfl,fM (aI cP) hs (.there (.there (.there (.there (.there (.there (.there (.there .here)))))))) rfl rfl (fS.all _),_,_,rfl,rfl,_,_,rfl,rfl,rfl⟩ ⟨_,rfl,?_⟩
     exact Sat.emp hs.to
    | ok b=>
     have hve:=(hs.take (.there (.there (.there .here)))).cA
     subst hve
     dsimp only at h
     obtain ⟨a3,c3,rfl,hc3⟩:=(hs.take (.there (.there .here))).ix
     refine go ?_
     refine bK hs fun w hs=>?_
     refine go ?_
     refine bK hs fun w hs=>?_
     refine go ?_
     exact az (f1,D2,i1+1,b,_) ⟨rfl,rfl,rfl,rfl,rfl,trivial⟩ ⟨⟨h,by show i1+1≤_;omega,by show f1≤f0;omega⟩,hs.to⟩ (by show f1<f1+1;omega)
 | cons e l1=>
  obtain ⟨a,c,rfl,hc⟩:=(hs.take (.there (.there (.there (.there (.there .here)))))).ix
  obtain ⟨zz,⟨hv,hzc,hseg⟩,hs2⟩:=(hs.take (.there (.there (.there (.there (.there .here)))))).kX (by simp [bg])
  obtain ⟨rfl,_,rfl⟩:=Value.slice.inj hv
  have hrow:=hseg.row (i:=0) (x:=aI e) (gN _) rfl
  have hne:¬ (((bg (e::l1)).length:Nat):Int)=0:=by simp [bg];omega
  have hpos:0<(bg (e::l1)).length:=by simp [bg]
  unfold mz at h
  refine go ?_
  refine cN (i:=0) rfl rfl rfl rfl rfl hpos rfl ?_
  refine dF (aI e) hs2 rfl rfl rfl .here hrow rfl ?_
  clear hs
  refine aS hs2 fun w b5 hs=>?_
  refine da (vs:=aI e) hs fun w hs=>?_
  refine go ?_
  refine DN (m:=1) (hs.take (.there (.there .here))) rfl rfl rfl rfl rfl hpos rfl fun v5 hs=>?_
  obtain ⟨a5,c5,rfl,hc5⟩:=hs.ix
  have hs:=hs.to (a:=blk bl 118 [.slice (some ⟨zz.b,zz.o,none⟩) (bg (e::l1)).length zz.c]::blk b5 256 (aI e)::blk bi 3 [.int .i64 (i1:Int)]::blk bt 193 [ay p]::blk bk 9 [str key]::blk b4 256 (aI cP)::Hr (.slice a5 ((bg (e::l1)).drop 1).length c5) l1::cF d p T::aj d D1::F)
  refine bK hs fun w hs=>?_
  cases hb:aR e.key key with
  | true=>
   rw [if_pos hb] at h
   have hbb:=hb
   rw [fI] at hbb
   have hnb:(!ma e.key key)=false:=by rw [hbb];rfl
   refine go ?_
   exact az (f1,D1,i1,l1,_) ⟨rfl,rfl,rfl,rfl,rfl,trivial⟩ ⟨⟨h,hi⟩,hs.to⟩ (by show f1<f0;omega)
  | false=>
   rw [if_neg (by simp [hb])] at h
   simp only [Option.some.injEq,Prod.mk.injEq] at h
   obtain ⟨rfl,rfl⟩:=h
   have hbb:=hb
   rw [fI] at hbb
   have hnb:(!ma e.key key)=true:=by rw [hbb];rfl
   refine go ?_
   refine da (vs:=aI e) hs fun w hs=>?_
   refine go ?_
   refine eC ⟨_,_,b4,0,rfl,rfl,fM (aI e) hs (.there (.there (.there (.there (.there .here))))) rfl rfl (fS.all _),_,_,rfl,rfl,_,_,rfl,rfl,rfl⟩ ⟨_,rfl,?_⟩
   exact Sat.vH (z:=⟨bl,bi,bt,bk,p,_⟩) (key:=key) (T:=T) (d:=d) (i:=i1) (l:=l1) (F:=aH .nilIface none::aj d D1::F) hi (hs.ej.to)
end
section
open Go.Proofs.YtecibefflhomdaaGreatDoor.Pure (ae aB Rd bH less aR aZ)
attribute [local irreducible] IntKind.wrap
variable {W0 w:World} {F:List ax} {v:Value} {d m p:Nat} {T:bN} {D D':ae} {M:List aB} {it:It}
def mb (d m:Nat) (v:Value):It→ax
 | .mem i=>Ps v m i
 | .xg T key i l=>PT d v T key i l
def Kj {α:Type} (W0:World) (C:α→ax) (m d:Nat) (M:List aB) (x:Except cx (Option aB×α)) (D':ae) (F:List ax) (y:Ending) (w':World):Prop:=
 ∃ ve,y=.returned (.tuple #[.agg (aI (x8 x)).toArray,.bool (OG x),ve])∧Sat W0 (QQ C x::aH ve (cU x)::aO m M::aj d D'::F) w'
theorem sW {x:Except cx (Option aB×It)} (h:nG M D it=some (x,D')) (hs:Sat W0 (mb d m v it::aO m M::aj d D::F) w) (hmx:M.length≤1099511627776) :
 ∃ f q,v=.func (.func f) #[] q∧lk uG f=some ()∧Calls Tryz.prog f (#[].toList++[]++q.toList).toArray w (Kj W0 (mb d m v) m d M x D' F):=by
 cases it with
 | mem i=>
  obtain ⟨hi,bi,bm,rfl,hs2⟩:=Sat.MJ hs
  refine ⟨207,_,rfl,rfl,(zR hi hs2 hmx).mono ?_⟩
  rintro _ w' ⟨rfl,hs⟩
  unfold nG at h
  dsimp only at h
  cases hg:M[i]? with
  | none=>
   rw [hg] at h hs
   simp only [Option.some.injEq,Prod.mk.injEq] at h
   obtain ⟨rfl,rfl⟩:=h
   refine ⟨_,rfl,?_⟩
   have hs:=Sat.vG (m:=m) (i:=i) hi (hs.to (a:=blk bi 3 [.int .i64 (i:Int)]::blk bm 117 [ay m]::aO m M::aj d D::F))
   exact (hs.ej).to (a:=Ps _ m i::aH .nilIface none::aO m M::aj d D::F)
  | some e=>
   rw [hg] at h hs
   simp only [Option.some.injEq,Prod.mk.injEq] at h
   obtain ⟨rfl,rfl⟩:=h
   have hlt:i<M.length:=(List.getElem?_eq_some_iff.1 hg).1
   refine ⟨_,rfl,?_⟩
   have hs:=Sat.vG (m:=m) (i:=i+1) (by omega) (hs.to (a:=blk bi 3 [.int .i64 ((i+1:Nat):Int)]::blk bm 117 [ay m]::aO m M::aj d D::F))
   exact (hs.ej).to (a:=Ps _ m (i+1)::aH .nilIface none::aO m M::aj d D::F)
 | xg T key i l=>
  obtain ⟨hi,z,rfl,hs2⟩:=Sat.MK hs
  unfold nG at h
  dsimp only at h
  cases hn:mz T key iq D i l with
  | none=>rw [hn] at h;cases h
  | some y=>
   obtain ⟨y,D2⟩:=y
   rw [hn] at h
   have hs:=hs2.to (a:=DZ d z T key i l++(aj d D::aO m M::F))
   refine ⟨230,_,rfl,rfl,(zS hn hi hs).mono ?_⟩
   rintro _ w' ⟨ve,rfl,hs⟩
   cases y with
   | error e=>
    simp only [Option.some.injEq,Prod.mk.injEq] at h
    obtain ⟨rfl,rfl⟩:=h
    exact ⟨_,rfl,hs.to⟩
   | ok q=>
    obtain ⟨o,i',l'⟩:=q
    simp only [Option.some.injEq,Prod.mk.injEq] at h
    obtain ⟨rfl,rfl⟩:=h
    cases o<;>exact ⟨_,rfl,hs.to⟩
def fa (d m:Nat) (hp:Nat) (x:aB×It):ax:=fun h=>∃ v,cL [blk hp 349 (aI x.1++[v]),mb d m v x.2] h
theorem Sat.BC {hp:Nat} {x:aB×It} (h:Sat W0 (fa d m hp x::F) w):∃ v,Sat W0 (blk hp 349 (aI x.1++[v])::mb d m v x.2::F) w:=by
 obtain ⟨v,_,hs⟩:=h.e9 (φ:=fun _:Value=>True) (B:=fun v=>[blk hp 349 (aI x.1++[v]),mb d m v x.2]) fun hp ⟨v,k⟩=>⟨v,trivial,k⟩
 exact ⟨v,hs⟩
theorem Sat.x9 {hp:Nat} {x:aB×It} (h:Sat W0 (blk hp 349 (aI x.1++[v])::mb d m v x.2::F) w):Sat W0 (fa d m hp x::F) w:=
 Sat.close (B:=[blk hp 349 (aI x.1++[v]),mb d m v x.2]) h fun hp k=>⟨v,k⟩
theorem ya {hp:Nat} {e0:aB} {x:Except cx (Option aB×It)} (h:nG M D it=some (x,D')) (hs:Sat W0 (blk hp 349 (aI e0++[v])::mb d m v it::aO m M::aj d D::F) w) (hmx:M.length≤1099511627776) :
 Calls Tryz.prog 213 #[ay hp] w fun y w'=>∃ ve,y=.returned (.tuple #[.bool (OG x),ve])∧Sat W0 (blk hp 349 (aI (x8 x)++[v])::QQ (mb d m v) x::aH ve (cU x)::aO m M::aj d D'::F) w':=by
 have hs:=hs.to (a:=mb d m v it::aO m M::aj d D::blk hp 349 (aI e0++[v])::F)
 obtain ⟨f,q,rfl,hf,hc⟩:=sW h hs hmx
 refine enter Tryz.func213 rfl Tryz.ntmps213 Tryz.results213 rfl ?_
 refine go ?_
 refine iM rfl hf rfl rfl (hc.mono ?_)
 rintro _ w ⟨ve,rfl,hs⟩
 refine ⟨_,rfl,go ?_⟩
 refine aS hs fun w b4 hs=>?_
 refine da (vs:=aI (x8 x)) hs fun w hs=>?_
 refine go ?_
 refine uI (vs:=aI (x8 x)) (cs:=aI e0++[.func (.func f) #[] q]) hs rfl rfl rfl (vz _) (by repeat (first|exact gV.here|apply gV.there)) (by simp [aI]) fun w hs=>?_
 refine go ?_
 exact ah rfl ⟨_,rfl,hs.to⟩
end
end Go.Proofs.YtecibefflhomdaaGreatDoor
