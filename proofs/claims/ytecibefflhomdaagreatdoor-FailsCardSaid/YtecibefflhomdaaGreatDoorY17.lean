/-
  Part 17: WALKS package table; WALKS rows gone through; WALKS rows gone through; WALKS any row gone through.
-/
import Derived.Test.YtecibefflhomdaaGreatDoorY14
set_option maxHeartbeats 8000000
set_option maxRecDepth 100000
set_option linter.all false
namespace Go.Proofs.YtecibefflhomdaaGreatDoor
open Go
section
open Go.Proofs.YtecibefflhomdaaGreatDoor.Pure (ad az Rd bI less aQ aZ)
attribute [local irreducible] IntKind.wrap
def dk {α:Type}:Except cy α→Option cy
 | .ok _=>none
 | .error e=>some e
def JM {α:Type}:Except cy (List α)→List α
 | .ok l=>l
 | .error _=>[]
theorem H9 {r:Rd} (hb:r.bad=false) (hr:r.rest≠[]):r.entry.2.rest.length<r.rest.length:=by
 have h1:(r.num 1).2.rest.length<r.rest.length:=by
  have hpos:0<r.rest.length:=List.length_pos_iff.2 hr
  unfold Pure.Rd.num Pure.Rd.bytes
  rw [if_neg (by simp [hb];omega)]
  simp;omega
 have h2:r.text.2.rest.length<r.rest.length:=Nat.lt_of_le_of_lt (Pure.Rd.gK _ _) h1
 have h3:=r.text.2.di 8
 have he:r.entry=if (r.text.2.num 8).2.rest.head?=some 255 then (⟨r.text.1,[],true,(r.text.2.num 8).1⟩,((r.text.2.num 8).2.bytes 1).2)
  else (⟨r.text.1,(r.text.2.num 8).2.text.1,false,(r.text.2.num 8).1⟩,(r.text.2.num 8).2.text.2):=rfl
 rw [he]
 split
 ·have:=Pure.Rd.gK (r.text.2.num 8).2 1;dsimp only;omega
 ·have:=Pure.Rd.iA (r.text.2.num 8).2;dsimp only;omega
theorem l9 {bs:Bs} {z:Bs×Bs} (h:bI bs=some z):z.1.length≤bs.length:=by
 have ho:bI bs=(let n:=Rd.num ⟨bs,false⟩ 4
  let t:=n.2.num 4
  let s:=t.2.num 4
  if n.1≠4294967295-t.1 then none else
  let i:=s.2.bytes (n.1:Int)
  if i.2.bad=true∨Pure.we i.1≠s.1 then none else some (i.1,i.2.rest)):=rfl
 rw [h] at ho
 dsimp only at ho
 split at ho
 ·cases ho
 ·split at ho
  ·cases ho
  ·simp only [Option.some.injEq] at ho
   subst ho
   have b1:(Rd.num ⟨bs,false⟩ 4).2.rest.length≤bs.length:=Pure.Rd.di ⟨bs,false⟩ 4
   have b2:=(Rd.num ⟨bs,false⟩ 4).2.di 4
   have b3:=((Rd.num ⟨bs,false⟩ 4).2.num 4).2.di 4
   have key:∀ (r:Rd) (n:Int),(r.bytes n).1.length≤r.rest.length:=fun r n=>by
    unfold Pure.Rd.bytes;split
    ·simp
    ·simp;omega
   exact Nat.le_trans (key _ _) (Nat.le_trans b3 (Nat.le_trans b2 b1))
theorem zY {r:Rd} (h:¬ (r.rest≠[]∧r.bad=false)) (f:Nat):eE f r=([],r.bad):=by
 cases f with
 | zero=>rfl
 | succ f=>unfold eE;rw [if_neg h]
theorem zZ {r:Rd} (h:r.rest≠[]∧r.bad=false) (f:Nat):eE (f+1) r=(r.entry.1::(eE f r.entry.2).1,(eE f r.entry.2).2):=by
 conv=>lhs;unfold eE
 rw [if_pos h]
variable {W0 w:World} {F:List ah} {v:Value} {d p:Nat} {T:cD} {D:ad}
theorem wJ {i:Nat} {x:Except cy (List az)} {D':ad} (h:oQ D T i=some (x,D')) (hs:Sat W0 (cG d p T::ag d D::F) w) :
 Calls Tryz.prog 231 #[au p,.int .i64 (i:Int)] w fun y w'=>∃ lv ve,y=.returned (.tuple #[lv,ve])∧Sat W0 (cG d p T::ag d D'::FD lv (JM x)::ax ve (dk x)::F) w':=by
 have hok:=hs.Ed
 unfold oQ at h
 cases hb:T.blocks[i]? with
 | none=>rw [hb] at h;cases h
 | some b=>
  rw [hb] at h
  dsimp only at h
  have hi:i<T.blocks.length:=(List.getElem?_eq_some_iff.1 hb).1
  have hbm:b∈T.blocks:=List.mem_of_getElem? hb
  obtain ⟨hn1,hn2⟩:=hok.nums b hbm
  have hne:T.blocks≠[]:=fun h=>by rw [h] at hi;simp at hi
  obtain ⟨bv,hs⟩:=hs.lr
  obtain ⟨a,c,rfl,hc⟩:=(hs.take (.there .here)).iw
  have hlen:(cM T.blocks).length=T.blocks.length:=by simp [cM]
  obtain ⟨zz,⟨hv,hzc,hseg⟩,hs⟩:=(hs.take (.there .here)).mK (by simpa [cM] using hne)
  rw [hlen] at hv hs
  obtain ⟨rfl,_,rfl⟩:=Value.slice.inj hv
  have hrow:=hseg.row (i:=i) (x:=sU b) (qp _) (by simp [cM,hb])
  have hcell1:=hrow.2.1
  have hcell2:=hrow.2.2.1
  rw [Nat.add_assoc] at hcell2
  refine enter Tryz.func231 rfl Tryz.ntmps231 Tryz.results231 rfl ?_
  refine go ?_
  refine bU [ob true zz.b (.cells zz.all.toArray zz.E (0,0)),sT p 200 [str T.name,str T.first,str T.last,.int .i64 (T.count:Int),au d,.slice (some ⟨zz.b,zz.o,none⟩) T.blocks.length zz.c]] [(0,false),(1,false),(2,false),(3,false),(4,false),(5,false),(6,false),(7,false),(8,false),(9,false),(10,false),(11,false),(12,false),(13,false),(14,false),(15,false),(16,false),(17,false),(18,false),(19,false),(20,false),(21,false),(22,false),(23,false),(24,false),(25,true),(26,false),(27,false),(28,false),(29,false),(30,false)] hs.to (by kernel_rfl) fun w hs=>?_
  refine go ?_
  refine pq (j:=i) rfl rfl rfl rfl rfl rfl hi rfl ?_
  refine go ?_
  refine pW rfl rfl rfl .here hcell1 rfl ?_
  refine go ?_
  refine pq (j:=i) rfl rfl rfl rfl rfl rfl hi rfl ?_
  refine go ?_
  refine pW rfl rfl rfl .here hcell2 rfl ?_
  refine go ?_
  refine ae (met (qi (nm:=T.name) (at_:=(b.2.1:Int)) (n:=(b.2.2:Int)) (hs.take (.there (.there (.there (.there .here))))) (by omega) (by omega) (by omega) (by omega)) ?_)
  rintro _ w ⟨rv,ve,rfl,hs⟩
  refine ⟨_,rfl,?_⟩
  cases hf:bz D T.name with
  | some e=>
   rw [hf] at h hs
   simp only [Option.some.injEq,Prod.mk.injEq] at h
   obtain ⟨rfl,rfl⟩:=h
   obtain ⟨t,u,rfl⟩:=(hs.take (.there (.there .here))).aW
   refine go ?_
   exact ak rfl ⟨_,_,rfl,Sat.to (hs.m8 (k:=4) (.inl rfl) (fun _=>rfl))⟩
  | none=>
   rw [hf] at h hs
   dsimp only at h
   have hve:=(hs.take (.there (.there .here))).cF
   subst hve
   have hs:=(hs.take (.there .here)).nt
   have hdk:=(hs.take (.there .here)).M7
   have hbl:(iC D T.name b.2.1 b.2.2).length≤140737488355328:=by
    have h1:(iC D T.name b.2.1 b.2.2).length≤(fileOf D T.name).length:=by
     unfold iC;rw [hf];simp only [fz,List.length_take,List.length_drop];omega
    have h2:(fileOf D T.name).length≤D.used:=by
     unfold fileOf
     cases hg:Pure.aA D.now T.name with
     | none=>simp
     | some j=>exact Pure.ad.size_le hg
    have h3:=hdk.used
    have h4:((counted D b.2.2).tick).used=D.used:=by rw [Pure.ad.lO];rfl
    rw [h4] at h3;omega
   generalize iC D T.name b.2.1 b.2.2=bs at *
   refine go ?_
   refine ae (met (lW hs hbl) ?_)
   rintro _ w ⟨v1,v2,rfl,hs⟩
   refine ⟨_,rfl,?_⟩
   unfold rp at h
   cases ho:bI bs with
   | none=>
    rw [ho] at h hs
    simp only [Option.map_some,Option.some.injEq,Prod.mk.injEq] at h
    obtain ⟨rfl,rfl⟩:=h
    refine go ?_
    refine ae (met (dY (nm:=T.name) hs) ?_)
    rintro _ w ⟨ve,rfl,hs⟩
    refine ⟨_,rfl,go ?_⟩
    exact ak rfl ⟨_,_,rfl,Sat.to (hs.m8 (k:=4) (.inl rfl) (fun _=>rfl))⟩
   | some y=>
    rw [ho] at h hs
    dsimp only at h hs
    by_cases hbig:bs.length≤gW
    ·rw [if_pos hbig] at h
     rw [bJ] at hbig
     have hyl:=l9 ho
     have hh:x=(if (eE y.1.length ⟨y.1,false⟩).2=true then .error (some T.name,7) else .ok (eE y.1.length ⟨y.1,false⟩).1)∧(counted D b.2.2).tick=D':=by
      split at h<;>simp only [Option.map_some,Option.some.injEq,Prod.mk.injEq] at h<;>rename_i hc
      ·rw [if_pos hc];exact ⟨h.1.symm,h.2⟩
      ·rw [if_neg hc];exact ⟨h.1.symm,h.2⟩
     clear h
     obtain ⟨rfl,rfl⟩:=hh
     generalize y.1=ys at *
     obtain ⟨a1,c1,rfl,hc1⟩:=hs.fD
     refine go ?_
     refine bA [.slice a1 ys.length c1,.bool false] ?_
     refine cE hs fun w r hs=>?_
     have hs:=Sat.fN (rd:=⟨ys,false⟩) hs
     refine go ?_
     refine aL (α:=Nat×Rd×List az×Value) (fun z=>[(0,au p),(11,au r),(12,z.2.2.2)])
      (fun z w=>(z.2.2.1++(eE z.1 z.2.1).1=(eE ys.length ⟨ys,false⟩).1∧(eE z.1 z.2.1).2=(eE ys.length ⟨ys,false⟩).2∧z.2.1.rest.length≤z.1∧z.2.2.1.length+z.1≤ys.length) ∧
        Sat W0 (vJ r z.2.1::jc z.2.2.2 z.2.2.1::sT p 200 [str T.name,str T.first,str T.last,.int .i64 (T.count:Int),au d,.slice (some ⟨zz.b,zz.o,none⟩) T.blocks.length zz.c]::cG d p T::ag d (counted D b.2.2).tick::F) w) (fun z=>z.1) (ys.length,⟨ys,false⟩,[],.slice none 0 0) ⟨rfl,rfl,rfl,trivial⟩ ⟨⟨rfl,rfl,Nat.le_refl _,by simp⟩,Sat.to (Sat.cP (k:=4) (E:=256) hs)⟩ ?_
     clear hs
     rintro ⟨f,rd,acc,lv⟩ w ⟨⟨q1,q2,q3,q4⟩,hs⟩
     dsimp only at q1 q2 q3 q4 hs ⊢
     obtain ⟨vr,-,hs⟩:=hs.nH
     dsimp only [List.cons_append,List.nil_append] at hs
     obtain ⟨a2,c2,rfl,hc2⟩:=(hs.take (.there .here)).fD
     by_cases hgo:rd.rest≠[]∧rd.bad=false
     ·obtain ⟨g1,g2⟩:=hgo
      have hpos:(rd.rest.length:Int) > 0:=by have:=List.length_pos_iff.2 g1;omega
      have hlt:=H9 g2 g1
      obtain ⟨f,rfl⟩:∃ f',f=f'+1:=⟨f-1,by have:=List.length_pos_iff.2 g1;omega⟩
      rw [zZ ⟨g1,g2⟩] at q1 q2
      rw [g2] at hs
      refine go ?_
      have hs:=Sat.fN (rd:=rd) (by rw [g2];exact hs)
      refine ae (met (uf hs (by omega)) ?_)
      rintro _ w ⟨rfl,hs⟩
      refine ⟨_,rfl,go ?_⟩
      refine gN (aF rd.entry.1) hs (fun w b2 hs=>?_)
      refine dF hs fun v2 w hs=>?_
      refine go ?_
      refine aB (f,rd.entry.2,acc++[rd.entry.1],v2) ⟨rfl,rfl,rfl,trivial⟩ ⟨⟨by show (acc++[rd.entry.1])++(eE f rd.entry.2).1=_;rw [List.append_assoc];exact q1,q2,by show rd.entry.2.rest.length≤f;omega,by show (acc++[rd.entry.1]).length+f≤ys.length;rw [List.length_append];show acc.length+1+f≤_;omega⟩,?_⟩ (by show f<f+1;omega)
      have e1:aE 4 v2 256 (acc.length+1) ((bu acc).flatten++aF rd.entry.1)=jc v2 (acc++[rd.entry.1]):=by rw [← lY];show _=aE 4 v2 256 (acc++[rd.entry.1]).length _;rw [List.length_append];rfl
      rw [e1] at hs
      exact hs.to
     ·have hst:=zY hgo f
      by_cases hr:rd.rest=[]
      ·have hnp:¬ (rd.rest.length:Int) > 0:=by rw [hr];simp
       cases hbad:rd.bad with
       | true=>
        rw [hbad] at hs
        refine go ?_
        have hq:(eE ys.length ⟨ys,false⟩).2=true:=by rw [← q2,hst];exact hbad
        rw [hq]
        rw [if_pos rfl]
        refine ae (met (dY (nm:=T.name) hs) ?_)
        rintro _ w ⟨ve,rfl,hs⟩
        refine ⟨_,rfl,go ?_⟩
        exact ak rfl ⟨_,_,rfl,Sat.to (hs.m8 (k:=4) (.inl rfl) (fun _=>rfl))⟩
       | false=>
        rw [hbad] at hs
        refine go ?_
        have hq:(eE ys.length ⟨ys,false⟩).2=false:=by rw [← q2,hst];exact hbad
        rw [hq]
        rw [if_neg (by simp)]
        have hs:=Sat.jK (gE acc) (rows:=bu acc) (E:=256) (k:=4) (v:=lv) (by rw [jb];exact hs.take (.there (.there .here)))
        refine ak rfl ⟨_,_,rfl,?_⟩
        rw [show (eE ys.length ⟨ys,false⟩).1=acc from by rw [← q1,hst];simp]
        exact (hs.ei).to
      ·have hpos:(rd.rest.length:Int) > 0:=by have:=List.length_pos_iff.2 hr;omega
       have hbad:rd.bad=true:=by
        cases hb2:rd.bad with
        | true=>rfl
        | false=>exact (hgo ⟨hr,hb2⟩).elim
       rw [hbad] at hs
       refine go ?_
       have hq:(eE ys.length ⟨ys,false⟩).2=true:=by rw [← q2,hst];exact hbad
       rw [hq]
       rw [if_pos rfl]
       refine ae (met (dY (nm:=T.name) hs) ?_)
       rintro _ w ⟨ve,rfl,hs⟩
       refine ⟨_,rfl,go ?_⟩
       exact ak rfl ⟨_,_,rfl,Sat.to (hs.m8 (k:=4) (.inl rfl) (fun _=>rfl))⟩
    ·rw [if_neg hbig] at h;cases h
end
section
open Go.Proofs.YtecibefflhomdaaGreatDoor.Pure (ad az Rd bI less aQ aZ)
attribute [local irreducible] IntKind.wrap
variable {W0 w:World} {F:List ah} {v:Value} {m:Nat} {l:List az}
def M8 (v:Value) (m i:Nat):ah:=fun h=>i≤4611686018427387904∧∃ bi bm,v=.func (.func 207) #[] #[au bi,au bm]∧cV [blk bi 3 [.int .i64 (i:Int)],blk bm 117 [au m]] h
theorem Sat.Kv {i:Nat} (h:Sat W0 (M8 v m i::F) w):i≤4611686018427387904∧∃ bi bm,v=.func (.func 207) #[] #[au bi,au bm]∧Sat W0 (blk bi 3 [.int .i64 (i:Int)]::blk bm 117 [au m]::F) w:=by
 have h1:=h.fQ (φ:=i≤4611686018427387904) fun _ k=>k.1
 obtain ⟨⟨bi,bm⟩,hv,hs⟩:=h.eI (φ:=fun z:Nat×Nat=>v=.func (.func 207) #[] #[au z.1,au z.2]) (B:=fun z=>[blk z.1 3 [.int .i64 (i:Int)],blk z.2 117 [au m]]) fun hp ⟨_,bi,bm,hv,k⟩=>⟨⟨bi,bm⟩,hv,k⟩
 exact ⟨h1,bi,bm,hv,hs⟩
theorem Sat.uy {i bi bm:Nat} (hi:i≤4611686018427387904) (h:Sat W0 (blk bi 3 [.int .i64 (i:Int)]::blk bm 117 [au m]::F) w):Sat W0 (M8 (.func (.func 207) #[] #[au bi,au bm]) m i::F) w:=
 Sat.close (B:=[blk bi 3 [.int .i64 (i:Int)],blk bm 117 [au m]]) h fun hp k=>⟨hi,bi,bm,rfl,k⟩
theorem qu {key:Bs} (hs:Sat W0 (aR m l::F) w) (hmx:l.length≤1099511627776) :
 Calls Tryz.prog 169 #[au m,str key] w fun x w'=>∃ v,x=.returned v∧Sat W0 (M8 v m (aZ l ⟨key,[],false,aG⟩)::aR m l::F) w':=by
 have hle:=Pure.jy l ⟨key,[],false,aG⟩
 refine enter Tryz.func169 rfl Tryz.ntmps169 Tryz.results169 rfl ?_
 refine go ?_
 refine cE hs fun w b1 hs=>?_
 refine go ?_
 refine bA (aF ⟨key,[],false,aG⟩) ?_
 refine ae (met (nJ (e:=⟨key,[],false,aG⟩) (hs.take (.there .here)) hmx) ?_)
 rintro _ w ⟨rfl,hs⟩
 refine ⟨_,rfl,?_⟩
 refine aS hs fun w b2 hs=>?_
 refine bD hs fun w hs=>?_
 refine go ?_
 exact ak rfl ⟨_,rfl,Sat.uy (by omega) hs.to⟩
theorem yo {i bi bm:Nat} (hi:i≤4611686018427387904) (hs:Sat W0 (blk bi 3 [.int .i64 (i:Int)]::blk bm 117 [au m]::aR m l::F) w) (hmx:l.length≤1099511627776) :
 Calls Tryz.prog 207 #[au bi,au bm] w fun x w'=>x=.returned (.tuple #[.agg (aF (match l[i]? with|some e=>e|none=>⟨[],[],false,0⟩)).toArray,.bool (l[i]?).isSome,.nilIface]) ∧
  Sat W0 (blk bi 3 [.int .i64 ((if (l[i]?).isSome=true then i+1 else i:Nat):Int)]::blk bm 117 [au m]::aR m l::F) w':=by
 obtain ⟨v,hs⟩:=(hs.take (.there (.there .here))).qj
 obtain ⟨a,c,rfl,-⟩:=(hs.take (.there .here)).rl
 refine enter Tryz.func207 rfl Tryz.ntmps207 Tryz.results207 rfl ?_
 refine go ?_
 refine aS hs fun w b3 hs=>?_
 refine go ?_
 refine bU [blk bi 3 [.int .i64 (i:Int)],blk bm 117 [au m],blk m 120 [.slice a l.length c]] [(0,false),(1,false),(2,false),(3,false),(4,false),(5,false),(6,false)] hs.to (by kernel_rfl) fun w hs=>?_
 by_cases hlt:i<l.length
 ·have hg:l[i]?=some l[i]:=List.getElem?_eq_getElem hlt
  have hnot:¬ (i:Int) ≥ (l.length:Int):=by omega
  rw [hg]
  refine go ?_
  refine bD hs fun w hs=>?_
  refine go ?_
  obtain ⟨b,cap,rs,hv,q1,q2,q3,hs⟩:=(hs.take (.there (.there .here))).dV (by omega)
  obtain ⟨rfl,_,rfl⟩:=Value.slice.inj hv
  have hseg:gh ((bu l).flatten++rs) (0+i*4) (aF l[i]):=by rw [Nat.zero_add];exact (ja (gE l) (by simp [bu,hg])).app
  refine bU (l:=blk b 256 ((bu l).flatten++rs)::blk bi 3 [.int .i64 ((i:Int)+1)]::blk bm 117 [au m]::blk m 120 [.slice (some ⟨b,0,none⟩) l.length c]::blk b3 256 (aF ⟨[],[],false,0⟩)::F) [blk b 256 ((bu l).flatten++rs),blk bi 3 [.int .i64 ((i:Int)+1)],blk bm 117 [au m],blk m 120 [.slice (some ⟨b,0,none⟩) l.length c]] [(0,false),(1,false),(2,false),(3,false),(4,false),(5,false),(6,false),(7,false),(8,true),(9,false),(10,false)] hs.to (by kernel_rfl) fun w hs=>?_
  refine go ?_
  refine pq (j:=i) rfl rfl rfl (by omega) rfl rfl hlt rfl ?_
  refine fR (aF l[i]) rfl rfl rfl rfl .here hseg rfl ?_
  refine go ?_
  refine cZ (vs:=aF l[i]) hs fun w hs=>?_
  refine go ?_
  refine ej ⟨_,_,b3,0,rfl,rfl,fx (aF l[i]) hs (.there (.there (.there (.there .here)))) rfl rfl (gh.all _),_,_,rfl,rfl,_,_,rfl,rfl,rfl⟩ ⟨rfl,?_⟩
  have hs:=Sat.dK (k:=4) (len:=l.length) hs q1 q2 q3 (mJ l) (lX l)
  exact (Sat.jd (v:=.slice (some ⟨b,0,none⟩) l.length c) hs.to).to
 ·have hg:l[i]?=none:=List.getElem?_eq_none (by omega)
  have hge:(i:Int) ≥ (l.length:Int):=by omega
  rw [hg]
  refine go ?_
  refine bA (aF ⟨[],[],false,0⟩) ?_
  refine cZ (vs:=aF ⟨[],[],false,0⟩) hs fun w hs=>?_
  refine go ?_
  refine ej ⟨_,_,b3,0,rfl,rfl,fx (aF ⟨[],[],false,0⟩) hs .here rfl rfl (gh.all _),_,_,rfl,rfl,_,_,rfl,rfl,rfl⟩ ⟨rfl,?_⟩
  exact (Sat.jd (v:=.slice a l.length c) hs.to).to
end
section
open Go.Proofs.YtecibefflhomdaaGreatDoor.Pure (ad az Rd bI less aQ aZ)
attribute [local irreducible] IntKind.wrap
variable {W0 w:World} {F:List ah} {v:Value} {d m p:Nat} {T:cD} {D:ad}
def cN:az:=⟨[],[],false,0⟩
structure M9 where
 bl:Nat
 bi:Nat
 bt:Nat
 bk:Nat
 p:Nat
 lv:Value
abbrev Ca (d:Nat) (z:M9) (T:cD) (key:Bs) (i:Nat) (l:List az):List ah:=
 [blk z.bl 118 [z.lv],blk z.bi 3 [.int .i64 (i:Int)],blk z.bt 193 [au z.p],blk z.bk 9 [str key],FD z.lv l,cG d z.p T]
def Ny (d:Nat) (v:Value) (T:cD) (key:Bs) (i:Nat) (l:List az):ah:=fun h=>i≤T.blocks.length∧∃ z:M9,v=.func (.func 230) #[] #[au z.bl,au z.bi,au z.bt,au z.bk]∧cV (Ca d z T key i l) h
theorem Sat.Kw {key:Bs} {i:Nat} {l:List az} (h:Sat W0 (Ny d v T key i l::F) w):i≤T.blocks.length∧∃ z:M9,v=.func (.func 230) #[] #[au z.bl,au z.bi,au z.bt,au z.bk]∧Sat W0 (Ca d z T key i l++F) w:=by
 have h1:=h.fQ (φ:=i≤T.blocks.length) fun _ k=>k.1
 obtain ⟨z,hv,hs⟩:=h.eI (φ:=fun z:M9=>v=.func (.func 230) #[] #[au z.bl,au z.bi,au z.bt,au z.bk]) (B:=fun z=>Ca d z T key i l) fun hp ⟨_,z,hv,k⟩=>⟨z,hv,k⟩
 exact ⟨h1,z,hv,hs⟩
theorem Sat.uz {z:M9} {key:Bs} {i:Nat} {l:List az} (hi:i≤T.blocks.length) (h:Sat W0 (Ca d z T key i l++F) w):Sat W0 (Ny d (.func (.func 230) #[] #[au z.bl,au z.bi,au z.bt,au z.bk]) T key i l::F) w:=
 Sat.close h fun hp k=>⟨hi,z,rfl,k⟩
theorem FL (T:cD) (key:Bs):j4 T key≤T.blocks.length:=by
 have:=Ee key (T.blocks.drop 1)
 rw [List.length_drop] at this
 unfold j4;omega
theorem qv {key:Bs} (hs:Sat W0 (cG d p T::F) w) :
 Calls Tryz.prog 210 #[au p,str key] w fun x w'=>∃ v,x=.returned v∧Sat W0 (Ny d v T key (j4 T key) []::cG d p T::F) w':=by
 have hle:=FL T key
 have hok:=hs.Ed.len
 refine enter Tryz.func210 rfl Tryz.ntmps210 Tryz.results210 rfl ?_
 refine go ?_
 refine cE (hs.qm (qt d p T)) fun w bt hs=>?_
 refine cE hs fun w bk hs=>?_
 refine go ?_
 refine ae (met (uo (key:=key) (hs.take (.there (.there .here)))) ?_)
 rintro _ w ⟨rfl,hs⟩
 refine ⟨_,rfl,?_⟩
 refine aS hs fun w bi hs=>?_
 refine bD hs fun w hs=>?_
 refine go ?_
 refine aS hs fun w bl hs=>?_
 refine go ?_
 refine ak rfl ⟨_,rfl,Sat.uz (z:=⟨bl,bi,bt,bk,p,.slice none 0 0⟩) hle ?_⟩
 exact (Sat.m8 (k:=4) hs (.inl rfl) (fun _=>rfl)).to
def wK {α:Type}:Except cy (Option az×α)→az
 | .ok (some e,_)=>e
 | _=>cN
def Ml {α:Type}:Except cy (Option az×α)→Bool
 | .ok (some _,_)=>true
 | _=>false
def Oz {α:Type} (C:α→ah):Except cy (Option az×α)→ah
 | .ok (_,a)=>C a
 | .error _=>fun _=>True
theorem Sat.emp (h:Sat W0 F w):Sat W0 ((fun _=>True)::F) w:=h.imp fun hp r=>⟨fun _=>none,hp,fun _ _ _ hx=>(by cases hx),fun _ _ hx=>(by cases hx),Hp.le_refl _,trivial,r⟩
theorem yp {z:M9} {key:Bs} {f i:Nat} {l:List az} {x:Except cy (Option az×Nat×List az)} {D':ad} (h:l6 T key f D i l=some (x,D')) (hi:i≤T.blocks.length) (hs:Sat W0 (Ca d z T key i l++ag d D::F) w) :
 Calls Tryz.prog 230 #[au z.bl,au z.bi,au z.bt,au z.bk] w fun y w'=>∃ ve,y=.returned (.tuple #[.agg (aF (wK x)).toArray,.bool (Ml x),ve]) ∧
  Sat W0 (Oz (fun q=>Ny d (.func (.func 230) #[] #[au z.bl,au z.bi,au z.bt,au z.bk]) T key q.1 q.2) x::ax ve (dk x)::ag d D'::F) w':=by
 obtain ⟨bl,bi,bt,bk,p,lv⟩:=z
 dsimp only [Ca,List.cons_append,List.nil_append] at hs ⊢
 have hok:=(hs.take (.there (.there (.there (.there (.there .here)))))).Ed
 have hlen:=hok.len
 refine enter Tryz.func230 rfl Tryz.ntmps230 Tryz.results230 rfl ?_
 refine go ?_
 refine aS hs fun w b4 hs=>?_
 refine go ?_
 refine aL (α:=Nat×ad×Nat×List az×Value) (fun z=>[(0,au bl),(1,au bi),(2,au bt),(3,au bk),(4,au b4)])
  (fun z w=>(l6 T key z.1 z.2.1 z.2.2.1 z.2.2.2.1=some (x,D')∧z.2.2.1≤T.blocks.length) ∧
    Sat W0 (blk bl 118 [z.2.2.2.2]::blk bi 3 [.int .i64 (z.2.2.1:Int)]::blk bt 193 [au p]::blk bk 9 [str key]::blk b4 256 (aF cN)::FD z.2.2.2.2 z.2.2.2.1::cG d p T::ag d z.2.1::F) w) (fun z=>z.1) (f,D,i,l,lv) ⟨rfl,rfl,rfl,rfl,rfl,trivial⟩ ⟨⟨h,hi⟩,hs.to⟩ ?_
 clear hs h hi
 rintro ⟨f0,D0,i0,l0,lv0⟩ w ⟨⟨h,hi⟩,hs⟩
 dsimp only at h hi hs ⊢
 refine go ?_
 refine aL (α:=Nat×ad×Nat×List az×Value) (fun z=>[(0,au bl),(1,au bi),(2,au bt),(3,au bk),(4,au b4)])
  (fun z w=>(l6 T key z.1 z.2.1 z.2.2.1 z.2.2.2.1=some (x,D')∧z.2.2.1≤T.blocks.length∧z.1≤f0) ∧
    Sat W0 (blk bl 118 [z.2.2.2.2]::blk bi 3 [.int .i64 (z.2.2.1:Int)]::blk bt 193 [au p]::blk bk 9 [str key]::blk b4 256 (aF cN)::FD z.2.2.2.2 z.2.2.2.1::cG d p T::ag d z.2.1::F) w) (fun z=>z.1) (f0,D0,i0,l0,lv0) ⟨rfl,rfl,rfl,rfl,rfl,trivial⟩ ⟨⟨h,hi,Nat.le_refl _⟩,hs⟩ ?_
 clear hs h hi
 rintro ⟨f1,D1,i1,l1,lv1⟩ w ⟨⟨h,hi,hf⟩,hs⟩
 dsimp only at h hi hf hs ⊢
 obtain ⟨f1,rfl⟩:∃ f',f1=f'+1:=by cases f1 with
  | zero=>simp [l6] at h
  | succ f'=>exact ⟨f',rfl⟩
 cases l1 with
 | nil=>
  obtain ⟨a,c,rfl,hc⟩:=(hs.take (.there (.there (.there (.there (.there .here)))))).iw
  dsimp only [bu,List.map_nil,List.length_nil] at hs hc
  unfold l6 at h
  obtain ⟨bv,hs⟩:=(hs.take (.there (.there (.there (.there (.there (.there .here))))))).lr
  obtain ⟨a2,c2,rfl,hc2⟩:=(hs.take (.there .here)).iw
  have hbl:(cM T.blocks).length=T.blocks.length:=by simp [cM]
  rw [hbl] at hs
  refine go ?_
  refine bU [blk bi 3 [.int .i64 (i1:Int)],blk bt 193 [au p],sT p 200 [str T.name,str T.first,str T.last,.int .i64 (T.count:Int),au d,.slice a2 T.blocks.length c2]] [(0,false),(1,false),(2,false),(3,false),(4,false),(5,false),(6,false)] hs.to (by kernel_rfl) fun w hs=>?_
  by_cases hend:i1=T.blocks.length
  ·rw [if_pos hend] at h
   simp only [Option.some.injEq,Prod.mk.injEq] at h
   obtain ⟨rfl,rfl⟩:=h
   have hend':(i1:Int)=(T.blocks.length:Int):=by omega
   refine go ?_
   refine bA (aF cN) ?_
   refine cZ (vs:=aF cN) hs fun w hs=>?_
   refine go ?_
   refine ej ⟨_,_,b4,0,rfl,rfl,fx (aF cN) hs (.there (.there (.there (.there (.there (.there (.there .here))))))) rfl rfl (gh.all _),_,_,rfl,rfl,_,_,rfl,rfl,rfl⟩ ⟨_,rfl,?_⟩
   exact Sat.uz (z:=⟨bl,bi,bt,bk,p,.slice a 0 c⟩) (key:=key) (T:=T) (d:=d) (i:=i1) (l:=[]) (F:=ax .nilIface none::ag d D1::F) hi (hs.ei.to)
  ·rw [if_neg hend] at h
   have hend':¬ (i1:Int)=(T.blocks.length:Int):=by omega
   cases hr:oQ D1 T i1 with
   | none=>rw [hr] at h;cases h
   | some y=>
    obtain ⟨y,D2⟩:=y
    rw [hr] at h
    refine go ?_
    refine ae (met (wJ (F:=blk bl 118 [.slice a 0 c]::blk bi 3 [.int .i64 (i1:Int)]::blk bt 193 [au p]::blk bk 9 [str key]::blk b4 256 (aF cN)::F) hr hs.to) ?_)
    rintro _ w ⟨lv2,ve,rfl,hs⟩
    refine ⟨_,rfl,?_⟩
    cases y with
    | error e=>
     simp only [Option.some.injEq,Prod.mk.injEq] at h
     obtain ⟨rfl,rfl⟩:=h
     obtain ⟨t,u,rfl⟩:=(hs.take (.there (.there (.there .here)))).aW
     refine go ?_
     refine bA (aF cN) ?_
     refine go ?_
     refine cZ (vs:=aF cN) hs fun w hs=>?_
     refine go ?_
     refine ej ⟨_,_,b4,0,rfl,rfl,fx (aF cN) hs (.there (.there (.there (.there (.there (.there (.there (.there .here)))))))) rfl rfl (gh.all _),_,_,rfl,rfl,_,_,rfl,rfl,rfl⟩ ⟨_,rfl,?_⟩
     exact Sat.emp hs.to
    | ok b=>
     have hve:=(hs.take (.there (.there (.there .here)))).cF
     subst hve
     dsimp only at h
     obtain ⟨a3,c3,rfl,hc3⟩:=(hs.take (.there (.there .here))).iw
     refine go ?_
     refine bD hs fun w hs=>?_
     refine go ?_
     refine bD hs fun w hs=>?_
     refine go ?_
     exact aB (f1,D2,i1+1,b,_) ⟨rfl,rfl,rfl,rfl,rfl,trivial⟩ ⟨⟨h,by show i1+1≤_;omega,by show f1≤f0;omega⟩,hs.to⟩ (by show f1<f1+1;omega)
 | cons e l1=>
  obtain ⟨a,c,rfl,hc⟩:=(hs.take (.there (.there (.there (.there (.there .here)))))).iw
  obtain ⟨zz,⟨hv,hzc,hseg⟩,hs2⟩:=(hs.take (.there (.there (.there (.there (.there .here)))))).mK (by simp [bu])
  obtain ⟨rfl,_,rfl⟩:=Value.slice.inj hv
  have hrow:=hseg.row (i:=0) (x:=aF e) (gE _) rfl
  have hne:¬ (((bu (e::l1)).length:Nat):Int)=0:=by simp [bu];omega
  have hpos:0<(bu (e::l1)).length:=by simp [bu]
  unfold l6 at h
  refine go ?_
  refine cL (i:=0) rfl rfl rfl rfl rfl hpos rfl ?_
  refine dz (aF e) hs2 rfl rfl rfl .here hrow rfl ?_
  clear hs
  refine aS hs2 fun w b5 hs=>?_
  refine cZ (vs:=aF e) hs fun w hs=>?_
  refine go ?_
  refine BZ (m:=1) (hs.take (.there (.there .here))) rfl rfl rfl rfl rfl hpos rfl fun v5 hs=>?_
  obtain ⟨a5,c5,rfl,hc5⟩:=hs.iw
  have hs:=hs.to (a:=blk bl 118 [.slice (some ⟨zz.b,zz.o,none⟩) (bu (e::l1)).length zz.c]::blk b5 256 (aF e)::blk bi 3 [.int .i64 (i1:Int)]::blk bt 193 [au p]::blk bk 9 [str key]::blk b4 256 (aF cN)::FD (.slice a5 ((bu (e::l1)).drop 1).length c5) l1::cG d p T::ag d D1::F)
  refine bD hs fun w hs=>?_
  cases hb:aQ e.key key with
  | true=>
   rw [if_pos hb] at h
   have hbb:=hb
   rw [gZ] at hbb
   have hnb:(!o8 e.key key)=false:=by rw [hbb];rfl
   refine go ?_
   exact aB (f1,D1,i1,l1,_) ⟨rfl,rfl,rfl,rfl,rfl,trivial⟩ ⟨⟨h,hi⟩,hs.to⟩ (by show f1<f0;omega)
  | false=>
   rw [if_neg (by simp [hb])] at h
   simp only [Option.some.injEq,Prod.mk.injEq] at h
   obtain ⟨rfl,rfl⟩:=h
   have hbb:=hb
   rw [gZ] at hbb
   have hnb:(!o8 e.key key)=true:=by rw [hbb];rfl
   refine go ?_
   refine cZ (vs:=aF e) hs fun w hs=>?_
   refine go ?_
   refine ej ⟨_,_,b4,0,rfl,rfl,fx (aF e) hs (.there (.there (.there (.there (.there .here))))) rfl rfl (gh.all _),_,_,rfl,rfl,_,_,rfl,rfl,rfl⟩ ⟨_,rfl,?_⟩
   exact Sat.uz (z:=⟨bl,bi,bt,bk,p,_⟩) (key:=key) (T:=T) (d:=d) (i:=i1) (l:=l1) (F:=ax .nilIface none::ag d D1::F) hi (hs.ei.to)
end
section
open Go.Proofs.YtecibefflhomdaaGreatDoor.Pure (ad az Rd bI less aQ aZ)
attribute [local irreducible] IntKind.wrap
variable {W0 w:World} {F:List ah} {v:Value} {d m p:Nat} {T:cD} {D D':ad} {M:List az} {it:It}
def lL (d m:Nat) (v:Value):It→ah
 | .mem i=>M8 v m i
 | .Ec T key i l=>Ny d v T key i l
def Ia {α:Type} (W0:World) (C:α→ah) (m d:Nat) (M:List az) (x:Except cy (Option az×α)) (D':ad) (F:List ah) (y:Ending) (w':World):Prop:=
 ∃ ve,y=.returned (.tuple #[.agg (aF (wK x)).toArray,.bool (Ml x),ve])∧Sat W0 (Oz C x::ax ve (dk x)::aR m M::ag d D'::F) w'
theorem sr {x:Except cy (Option az×It)} (h:nc M D it=some (x,D')) (hs:Sat W0 (lL d m v it::aR m M::ag d D::F) w) (hmx:M.length≤1099511627776) :
 ∃ f q,v=.func (.func f) #[] q∧lk tu f=some ()∧Calls Tryz.prog f (#[].toList++[]++q.toList).toArray w (Ia W0 (lL d m v) m d M x D' F):=by
 cases it with
 | mem i=>
  obtain ⟨hi,bi,bm,rfl,hs2⟩:=Sat.Kv hs
  refine ⟨207,_,rfl,rfl,(yo hi hs2 hmx).mono ?_⟩
  rintro _ w' ⟨rfl,hs⟩
  unfold nc at h
  dsimp only at h
  cases hg:M[i]? with
  | none=>
   rw [hg] at h hs
   simp only [Option.some.injEq,Prod.mk.injEq] at h
   obtain ⟨rfl,rfl⟩:=h
   refine ⟨_,rfl,?_⟩
   have hs:=Sat.uy (m:=m) (i:=i) hi (hs.to (a:=blk bi 3 [.int .i64 (i:Int)]::blk bm 117 [au m]::aR m M::ag d D::F))
   exact (hs.ei).to (a:=M8 _ m i::ax .nilIface none::aR m M::ag d D::F)
  | some e=>
   rw [hg] at h hs
   simp only [Option.some.injEq,Prod.mk.injEq] at h
   obtain ⟨rfl,rfl⟩:=h
   have hlt:i<M.length:=(List.getElem?_eq_some_iff.1 hg).1
   refine ⟨_,rfl,?_⟩
   have hs:=Sat.uy (m:=m) (i:=i+1) (by omega) (hs.to (a:=blk bi 3 [.int .i64 ((i+1:Nat):Int)]::blk bm 117 [au m]::aR m M::ag d D::F))
   exact (hs.ei).to (a:=M8 _ m (i+1)::ax .nilIface none::aR m M::ag d D::F)
 | Ec T key i l=>
  obtain ⟨hi,z,rfl,hs2⟩:=Sat.Kw hs
  unfold nc at h
  dsimp only at h
  cases hn:l6 T key gW D i l with
  | none=>rw [hn] at h;cases h
  | some y=>
   obtain ⟨y,D2⟩:=y
   rw [hn] at h
   have hs:=hs2.to (a:=Ca d z T key i l++(ag d D::aR m M::F))
   refine ⟨230,_,rfl,rfl,(yp hn hi hs).mono ?_⟩
   rintro _ w' ⟨ve,rfl,hs⟩
   cases y with
   | error e=>
    simp only [Option.some.injEq,Prod.mk.injEq] at h
    obtain ⟨rfl,rfl⟩:=h
    exact ⟨_,rfl,hs.to⟩
   | ok q=>
    obtain ⟨o,i',l'⟩:=q
    simp only [Option.some.injEq,Prod.mk.injEq] at h
    obtain ⟨rfl,rfl⟩:=h
    cases o<;>exact ⟨_,rfl,hs.to⟩
def eZ (d m:Nat) (hp:Nat) (x:az×It):ah:=fun h=>∃ v,cV [blk hp 349 (aF x.1++[v]),lL d m v x.2] h
theorem Sat.z6 {hp:Nat} {x:az×It} (h:Sat W0 (eZ d m hp x::F) w):∃ v,Sat W0 (blk hp 349 (aF x.1++[v])::lL d m v x.2::F) w:=by
 obtain ⟨v,_,hs⟩:=h.eI (φ:=fun _:Value=>True) (B:=fun v=>[blk hp 349 (aF x.1++[v]),lL d m v x.2]) fun hp ⟨v,k⟩=>⟨v,trivial,k⟩
 exact ⟨v,hs⟩
theorem Sat.wL {hp:Nat} {x:az×It} (h:Sat W0 (blk hp 349 (aF x.1++[v])::lL d m v x.2::F) w):Sat W0 (eZ d m hp x::F) w:=
 Sat.close (B:=[blk hp 349 (aF x.1++[v]),lL d m v x.2]) h fun hp k=>⟨v,k⟩
theorem wM {hp:Nat} {e0:az} {x:Except cy (Option az×It)} (h:nc M D it=some (x,D')) (hs:Sat W0 (blk hp 349 (aF e0++[v])::lL d m v it::aR m M::ag d D::F) w) (hmx:M.length≤1099511627776) :
 Calls Tryz.prog 213 #[au hp] w fun y w'=>∃ ve,y=.returned (.tuple #[.bool (Ml x),ve])∧Sat W0 (blk hp 349 (aF (wK x)++[v])::Oz (lL d m v) x::ax ve (dk x)::aR m M::ag d D'::F) w':=by
 have hs:=hs.to (a:=lL d m v it::aR m M::ag d D::blk hp 349 (aF e0++[v])::F)
 obtain ⟨f,q,rfl,hf,hc⟩:=sr h hs hmx
 refine enter Tryz.func213 rfl Tryz.ntmps213 Tryz.results213 rfl ?_
 refine go ?_
 refine il rfl hf rfl rfl (hc.mono ?_)
 rintro _ w ⟨ve,rfl,hs⟩
 refine ⟨_,rfl,go ?_⟩
 refine aS hs fun w b4 hs=>?_
 refine cZ (vs:=aF (wK x)) hs fun w hs=>?_
 refine go ?_
 refine BK (vs:=aF (wK x)) (cs:=aF e0++[.func (.func f) #[] q]) hs rfl rfl rfl (uh _) (by repeat (first|exact ic.here|apply ic.there)) (by simp [aF]) fun w hs=>?_
 refine go ?_
 exact ak rfl ⟨_,rfl,hs.to⟩
end
end Go.Proofs.YtecibefflhomdaaGreatDoor
