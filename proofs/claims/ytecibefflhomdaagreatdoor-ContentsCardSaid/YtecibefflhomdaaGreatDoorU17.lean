/-
  Part 17: WALKS package table; WALKS rows gone through; WALKS rows gone through; WALKS any row gone through.
-/
import Derived.Test.YtecibefflhomdaaGreatDoorU14
set_option maxHeartbeats 8000000
set_option maxRecDepth 100000
set_option linter.all false
namespace Go.Proofs.YtecibefflhomdaaGreatDoor
open Go
section
open Go.Proofs.YtecibefflhomdaaGreatDoor.Pure (PDisk Ent Rd openB less bltB searchL)
attribute [local irreducible] IntKind.wrap
def errX {α:Type}:Except Err α→Option Err
 | .ok _=>none
 | .error e=>some e
def okL {α:Type}:Except Err (List α)→List α
 | .ok l=>l
 | .error _=>[]
theorem entry_lt {r:Rd} (hb:r.bad=false) (hr:r.rest≠[]):r.entry.2.rest.length<r.rest.length:=by
 have h1:(r.num 1).2.rest.length<r.rest.length:=by
  have hpos:0<r.rest.length:=List.length_pos_iff.2 hr
  unfold Pure.Rd.num Pure.Rd.bytes
  rw [if_neg (by simp [hb];omega)]
  simp;omega
 have h2:r.text.2.rest.length<r.rest.length:=Nat.lt_of_le_of_lt (Pure.Rd.bytes_rest _ _) h1
 have h3:=r.text.2.num_rest 8
 have he:r.entry=if (r.text.2.num 8).2.rest.head?=some 255 then (⟨r.text.1,[],true,(r.text.2.num 8).1⟩,((r.text.2.num 8).2.bytes 1).2)
  else (⟨r.text.1,(r.text.2.num 8).2.text.1,false,(r.text.2.num 8).1⟩,(r.text.2.num 8).2.text.2):=rfl
 rw [he]
 split
 ·have:=Pure.Rd.bytes_rest (r.text.2.num 8).2 1;dsimp only;omega
 ·have:=Pure.Rd.text_rest (r.text.2.num 8).2;dsimp only;omega
theorem openB_len {bs:Bs} {z:Bs×Bs} (h:openB bs=some z):z.1.length≤bs.length:=by
 have ho:openB bs=(let n:=Rd.num ⟨bs,false⟩ 4
  let t:=n.2.num 4
  let s:=t.2.num 4
  if n.1≠4294967295-t.1 then none else
  let i:=s.2.bytes (n.1:Int)
  if i.2.bad=true∨Pure.crc i.1≠s.1 then none else some (i.1,i.2.rest)):=rfl
 rw [h] at ho
 dsimp only at ho
 split at ho
 ·cases ho
 ·split at ho
  ·cases ho
  ·simp only [Option.some.injEq] at ho
   subst ho
   have b1:(Rd.num ⟨bs,false⟩ 4).2.rest.length≤bs.length:=Pure.Rd.num_rest ⟨bs,false⟩ 4
   have b2:=(Rd.num ⟨bs,false⟩ 4).2.num_rest 4
   have b3:=((Rd.num ⟨bs,false⟩ 4).2.num 4).2.num_rest 4
   have key:∀ (r:Rd) (n:Int),(r.bytes n).1.length≤r.rest.length:=fun r n=>by
    unfold Pure.Rd.bytes;split
    ·simp
    ·simp;omega
   exact Nat.le_trans (key _ _) (Nat.le_trans b3 (Nat.le_trans b2 b1))
theorem parseE_stop {r:Rd} (h:¬ (r.rest≠[]∧r.bad=false)) (f:Nat):parseE f r=([],r.bad):=by
 cases f with
 | zero=>rfl
 | succ f=>unfold parseE;rw [if_neg h]
theorem parseE_step {r:Rd} (h:r.rest≠[]∧r.bad=false) (f:Nat):parseE (f+1) r=(r.entry.1::(parseE f r.entry.2).1,(parseE f r.entry.2).2):=by
 conv=>lhs;unfold parseE
 rw [if_pos h]
variable {W0 w:World} {F:List HProp} {v:Value} {d p:Nat} {T:Tab} {D:PDisk}
theorem read_spec {i:Nat} {x:Except Err (List Ent)} {D':PDisk} (h:readT D T i=some (x,D')) (hs:Sat W0 (tabC d p T::DiskA d D::F) w) :
 Calls Tryz.prog 231 #[idV p,.int .i64 (i:Int)] w fun y w'=>∃ lv ve,y=.returned (.tuple #[lv,ve])∧Sat W0 (tabC d p T::DiskA d D'::entV lv (okL x)::errC ve (errX x)::F) w':=by
 have hok:=hs.tabOk
 unfold readT at h
 cases hb:T.blocks[i]? with
 | none=>rw [hb] at h;cases h
 | some b=>
  rw [hb] at h
  dsimp only at h
  have hi:i<T.blocks.length:=(List.getElem?_eq_some_iff.1 hb).1
  have hbm:b∈T.blocks:=List.mem_of_getElem? hb
  obtain ⟨hn1,hn2⟩:=hok.nums b hbm
  have hne:T.blocks≠[]:=fun h=>by rw [h] at hi;simp at hi
  obtain ⟨bv,hs⟩:=hs.tabOpen
  obtain ⟨a,c,rfl,hc⟩:=(hs.take (.there .here)).rvShape
  have hlen:(blksC T.blocks).length=T.blocks.length:=by simp [blksC]
  obtain ⟨zz,⟨hv,hzc,hseg⟩,hs⟩:=(hs.take (.there .here)).rvOpen (by simpa [blksC] using hne)
  rw [hlen] at hv hs
  obtain ⟨rfl,_,rfl⟩:=Value.slice.inj hv
  have hrow:=hseg.row (i:=i) (x:=blkC b) (blksC_k _) (by simp [blksC,hb])
  have hcell1:=hrow.2.1
  have hcell2:=hrow.2.2.1
  rw [Nat.add_assoc] at hcell2
  refine enter Tryz.func231 rfl Tryz.ntmps231 Tryz.results231 rfl ?_
  refine go ?_
  refine wc_draw [ob true zz.b (.cells zz.all.toArray zz.E (0,0)),imm p 200 [str T.name,str T.first,str T.last,.int .i64 (T.count:Int),idV d,.slice (some ⟨zz.b,zz.o,none⟩) T.blocks.length zz.c]] [(0,false),(1,false),(2,false),(3,false),(4,false),(5,false),(6,false),(7,false),(8,false),(9,false),(10,false),(11,false),(12,false),(13,false),(14,false),(15,false),(16,false),(17,false),(18,false),(19,false),(20,false),(21,false),(22,false),(23,false),(24,false),(25,true),(26,false),(27,false),(28,false),(29,false),(30,false)] hs.to (by kernel_rfl) fun w hs=>?_
  refine go ?_
  refine wo_ixn (j:=i) rfl rfl rfl rfl rfl rfl hi rfl ?_
  refine go ?_
  refine wo_ld rfl rfl rfl .here hcell1 rfl ?_
  refine go ?_
  refine wo_ixn (j:=i) rfl rfl rfl rfl rfl rfl hi rfl ?_
  refine go ?_
  refine wo_ld rfl rfl rfl .here hcell2 rfl ?_
  refine go ?_
  refine w_call (met (readAt_a (nm:=T.name) (at_:=(b.2.1:Int)) (n:=(b.2.2:Int)) (hs.take (.there (.there (.there (.there .here))))) (by omega) (by omega) (by omega) (by omega)) ?_)
  rintro _ w ⟨rv,ve,rfl,hs⟩
  refine ⟨_,rfl,?_⟩
  cases hf:findE D T.name with
  | some e=>
   rw [hf] at h hs
   simp only [Option.some.injEq,Prod.mk.injEq] at h
   obtain ⟨rfl,rfl⟩:=h
   obtain ⟨t,u,rfl⟩:=(hs.take (.there (.there .here))).errIface
   refine go ?_
   exact wq_ret rfl ⟨_,_,rfl,Sat.to (hs.rvEmp (k:=4) (.inl rfl) (fun _=>rfl))⟩
  | none=>
   rw [hf] at h hs
   dsimp only at h
   have hve:=(hs.take (.there (.there .here))).errIs
   subst hve
   have hs:=(hs.take (.there .here)).bytShare
   have hdk:=(hs.take (.there .here)).dOk
   have hbl:(readD D T.name b.2.1 b.2.2).length≤140737488355328:=by
    have h1:(readD D T.name b.2.1 b.2.2).length≤(fileOf D T.name).length:=by
     unfold readD;rw [hf];simp only [pieceB,List.length_take,List.length_drop];omega
    have h2:(fileOf D T.name).length≤D.used:=by
     unfold fileOf
     cases hg:Pure.aget D.now T.name with
     | none=>simp
     | some j=>exact Pure.PDisk.size_le hg
    have h3:=hdk.used
    have h4:((counted D b.2.2).tick).used=D.used:=by rw [Pure.PDisk.tick_used];rfl
    rw [h4] at h3;omega
   generalize readD D T.name b.2.1 b.2.2=bs at *
   refine go ?_
   refine w_call (met (open_spec hs hbl) ?_)
   rintro _ w ⟨v1,v2,rfl,hs⟩
   refine ⟨_,rfl,?_⟩
   unfold blockE at h
   cases ho:openB bs with
   | none=>
    rw [ho] at h hs
    simp only [Option.map_some,Option.some.injEq,Prod.mk.injEq] at h
    obtain ⟨rfl,rfl⟩:=h
    refine go ?_
    refine w_call (met (corrupt_spec (nm:=T.name) hs) ?_)
    rintro _ w ⟨ve,rfl,hs⟩
    refine ⟨_,rfl,go ?_⟩
    exact wq_ret rfl ⟨_,_,rfl,Sat.to (hs.rvEmp (k:=4) (.inl rfl) (fun _=>rfl))⟩
   | some y=>
    rw [ho] at h hs
    dsimp only at h hs
    by_cases hbig:bs.length≤big
    ·rw [if_pos hbig] at h
     rw [big_eq] at hbig
     have hyl:=openB_len ho
     have hh:x=(if (parseE y.1.length ⟨y.1,false⟩).2=true then .error (some T.name,7) else .ok (parseE y.1.length ⟨y.1,false⟩).1)∧(counted D b.2.2).tick=D':=by
      split at h<;>simp only [Option.map_some,Option.some.injEq,Prod.mk.injEq] at h<;>rename_i hc
      ·rw [if_pos hc];exact ⟨h.1.symm,h.2⟩
      ·rw [if_neg hc];exact ⟨h.1.symm,h.2⟩
     clear h
     obtain ⟨rfl,rfl⟩:=hh
     generalize y.1=ys at *
     obtain ⟨a1,c1,rfl,hc1⟩:=hs.vwShape
     refine go ?_
     refine w_build [.slice a1 ys.length c1,.bool false] ?_
     refine w_box hs fun w r hs=>?_
     have hs:=Sat.rdClose (rd:=⟨ys,false⟩) hs
     refine go ?_
     refine wc_loop (α:=Nat×Rd×List Ent×Value) (fun z=>[(0,idV p),(11,idV r),(12,z.2.2.2)])
      (fun z w=>(z.2.2.1++(parseE z.1 z.2.1).1=(parseE ys.length ⟨ys,false⟩).1∧(parseE z.1 z.2.1).2=(parseE ys.length ⟨ys,false⟩).2∧z.2.1.rest.length≤z.1∧z.2.2.1.length+z.1≤ys.length) ∧
        Sat W0 (rdR r z.2.1::entS z.2.2.2 z.2.2.1::imm p 200 [str T.name,str T.first,str T.last,.int .i64 (T.count:Int),idV d,.slice (some ⟨zz.b,zz.o,none⟩) T.blocks.length zz.c]::tabC d p T::DiskA d (counted D b.2.2).tick::F) w) (fun z=>z.1) (ys.length,⟨ys,false⟩,[],.slice none 0 0) ⟨rfl,rfl,rfl,trivial⟩ ⟨⟨rfl,rfl,Nat.le_refl _,by simp⟩,Sat.to (Sat.ownNil (k:=4) (E:=256) hs)⟩ ?_
     clear hs
     rintro ⟨f,rd,acc,lv⟩ w ⟨⟨q1,q2,q3,q4⟩,hs⟩
     dsimp only at q1 q2 q3 q4 hs ⊢
     obtain ⟨vr,-,hs⟩:=hs.rdOpen
     dsimp only [List.cons_append,List.nil_append] at hs
     obtain ⟨a2,c2,rfl,hc2⟩:=(hs.take (.there .here)).vwShape
     by_cases hgo:rd.rest≠[]∧rd.bad=false
     ·obtain ⟨g1,g2⟩:=hgo
      have hpos:(rd.rest.length:Int) > 0:=by have:=List.length_pos_iff.2 g1;omega
      have hlt:=entry_lt g2 g1
      obtain ⟨f,rfl⟩:∃ f',f=f'+1:=⟨f-1,by have:=List.length_pos_iff.2 g1;omega⟩
      rw [parseE_step ⟨g1,g2⟩] at q1 q2
      rw [g2] at hs
      refine go ?_
      have hs:=Sat.rdClose (rd:=rd) (by rw [g2];exact hs)
      refine w_call (met (entry_spec hs (by omega)) ?_)
      rintro _ w ⟨rfl,hs⟩
      refine ⟨_,rfl,go ?_⟩
      refine w_lit (entC rd.entry.1) hs (fun w b2 hs=>?_)
      refine w_app1 hs fun v2 w hs=>?_
      refine go ?_
      refine wq_round (f,rd.entry.2,acc++[rd.entry.1],v2) ⟨rfl,rfl,rfl,trivial⟩ ⟨⟨by show (acc++[rd.entry.1])++(parseE f rd.entry.2).1=_;rw [List.append_assoc];exact q1,q2,by show rd.entry.2.rest.length≤f;omega,by show (acc++[rd.entry.1]).length+f≤ys.length;rw [List.length_append];show acc.length+1+f≤_;omega⟩,?_⟩ (by show f<f+1;omega)
      have e1:ownS 4 v2 256 (acc.length+1) ((entsC acc).flatten++entC rd.entry.1)=entS v2 (acc++[rd.entry.1]):=by rw [← ents_cons];show _=ownS 4 v2 256 (acc++[rd.entry.1]).length _;rw [List.length_append];rfl
      rw [e1] at hs
      exact hs.to
     ·have hst:=parseE_stop hgo f
      by_cases hr:rd.rest=[]
      ·have hnp:¬ (rd.rest.length:Int) > 0:=by rw [hr];simp
       cases hbad:rd.bad with
       | true=>
        rw [hbad] at hs
        refine go ?_
        have hq:(parseE ys.length ⟨ys,false⟩).2=true:=by rw [← q2,hst];exact hbad
        rw [hq]
        rw [if_pos rfl]
        refine w_call (met (corrupt_spec (nm:=T.name) hs) ?_)
        rintro _ w ⟨ve,rfl,hs⟩
        refine ⟨_,rfl,go ?_⟩
        exact wq_ret rfl ⟨_,_,rfl,Sat.to (hs.rvEmp (k:=4) (.inl rfl) (fun _=>rfl))⟩
       | false=>
        rw [hbad] at hs
        refine go ?_
        have hq:(parseE ys.length ⟨ys,false⟩).2=false:=by rw [← q2,hst];exact hbad
        rw [hq]
        rw [if_neg (by simp)]
        have hs:=Sat.rvShare (entsC_k acc) (rows:=entsC acc) (E:=256) (k:=4) (v:=lv) (by rw [entsC_length];exact hs.take (.there (.there .here)))
        refine wq_ret rfl ⟨_,_,rfl,?_⟩
        rw [show (parseE ys.length ⟨ys,false⟩).1=acc from by rw [← q1,hst];simp]
        exact (hs.errNil).to
      ·have hpos:(rd.rest.length:Int) > 0:=by have:=List.length_pos_iff.2 hr;omega
       have hbad:rd.bad=true:=by
        cases hb2:rd.bad with
        | true=>rfl
        | false=>exact (hgo ⟨hr,hb2⟩).elim
       rw [hbad] at hs
       refine go ?_
       have hq:(parseE ys.length ⟨ys,false⟩).2=true:=by rw [← q2,hst];exact hbad
       rw [hq]
       rw [if_pos rfl]
       refine w_call (met (corrupt_spec (nm:=T.name) hs) ?_)
       rintro _ w ⟨ve,rfl,hs⟩
       refine ⟨_,rfl,go ?_⟩
       exact wq_ret rfl ⟨_,_,rfl,Sat.to (hs.rvEmp (k:=4) (.inl rfl) (fun _=>rfl))⟩
    ·rw [if_neg hbig] at h;cases h
end
section
open Go.Proofs.YtecibefflhomdaaGreatDoor.Pure (PDisk Ent Rd openB less bltB searchL)
attribute [local irreducible] IntKind.wrap
variable {W0 w:World} {F:List HProp} {v:Value} {m:Nat} {l:List Ent}
def itM (v:Value) (m i:Nat):HProp:=fun h=>i≤4611686018427387904∧∃ bi bm,v=.func (.func 207) #[] #[idV bi,idV bm]∧sepL [blk bi 3 [.int .i64 (i:Int)],blk bm 117 [idV m]] h
theorem Sat.itMOpen {i:Nat} (h:Sat W0 (itM v m i::F) w):i≤4611686018427387904∧∃ bi bm,v=.func (.func 207) #[] #[idV bi,idV bm]∧Sat W0 (blk bi 3 [.int .i64 (i:Int)]::blk bm 117 [idV m]::F) w:=by
 have h1:=h.pure1 (φ:=i≤4611686018427387904) fun _ k=>k.1
 obtain ⟨⟨bi,bm⟩,hv,hs⟩:=h.open1 (φ:=fun z:Nat×Nat=>v=.func (.func 207) #[] #[idV z.1,idV z.2]) (B:=fun z=>[blk z.1 3 [.int .i64 (i:Int)],blk z.2 117 [idV m]]) fun hp ⟨_,bi,bm,hv,k⟩=>⟨⟨bi,bm⟩,hv,k⟩
 exact ⟨h1,bi,bm,hv,hs⟩
theorem Sat.itMClose {i bi bm:Nat} (hi:i≤4611686018427387904) (h:Sat W0 (blk bi 3 [.int .i64 (i:Int)]::blk bm 117 [idV m]::F) w):Sat W0 (itM (.func (.func 207) #[] #[idV bi,idV bm]) m i::F) w:=
 Sat.close (B:=[blk bi 3 [.int .i64 (i:Int)],blk bm 117 [idV m]]) h fun hp k=>⟨hi,bi,bm,rfl,k⟩
theorem memFrom_spec {key:Bs} (hs:Sat W0 (memC m l::F) w) (hmx:l.length≤1099511627776) :
 Calls Tryz.prog 169 #[idV m,str key] w fun x w'=>∃ v,x=.returned v∧Sat W0 (itM v m (searchL l ⟨key,[],false,latestN⟩)::memC m l::F) w':=by
 have hle:=Pure.searchL_le l ⟨key,[],false,latestN⟩
 refine enter Tryz.func169 rfl Tryz.ntmps169 Tryz.results169 rfl ?_
 refine go ?_
 refine w_box hs fun w b1 hs=>?_
 refine go ?_
 refine w_build (entC ⟨key,[],false,latestN⟩) ?_
 refine w_call (met (search_spec (e:=⟨key,[],false,latestN⟩) (hs.take (.there .here)) hmx) ?_)
 rintro _ w ⟨rfl,hs⟩
 refine ⟨_,rfl,?_⟩
 refine w_alloc hs fun w b2 hs=>?_
 refine w_st hs fun w hs=>?_
 refine go ?_
 exact wq_ret rfl ⟨_,rfl,Sat.itMClose (by omega) hs.to⟩
theorem memNext_spec {i bi bm:Nat} (hi:i≤4611686018427387904) (hs:Sat W0 (blk bi 3 [.int .i64 (i:Int)]::blk bm 117 [idV m]::memC m l::F) w) (hmx:l.length≤1099511627776) :
 Calls Tryz.prog 207 #[idV bi,idV bm] w fun x w'=>x=.returned (.tuple #[.agg (entC (match l[i]? with|some e=>e|none=>⟨[],[],false,0⟩)).toArray,.bool (l[i]?).isSome,.nilIface]) ∧
  Sat W0 (blk bi 3 [.int .i64 ((if (l[i]?).isSome=true then i+1 else i:Nat):Int)]::blk bm 117 [idV m]::memC m l::F) w':=by
 obtain ⟨v,hs⟩:=(hs.take (.there (.there .here))).memOpen
 obtain ⟨a,c,rfl,-⟩:=(hs.take (.there .here)).entLen
 refine enter Tryz.func207 rfl Tryz.ntmps207 Tryz.results207 rfl ?_
 refine go ?_
 refine w_alloc hs fun w b3 hs=>?_
 refine go ?_
 refine wc_draw [blk bi 3 [.int .i64 (i:Int)],blk bm 117 [idV m],blk m 120 [.slice a l.length c]] [(0,false),(1,false),(2,false),(3,false),(4,false),(5,false),(6,false)] hs.to (by kernel_rfl) fun w hs=>?_
 by_cases hlt:i<l.length
 ·have hg:l[i]?=some l[i]:=List.getElem?_eq_getElem hlt
  have hnot:¬ (i:Int) ≥ (l.length:Int):=by omega
  rw [hg]
  refine go ?_
  refine w_st hs fun w hs=>?_
  refine go ?_
  obtain ⟨b,cap,rs,hv,q1,q2,q3,hs⟩:=(hs.take (.there (.there .here))).ownPos (by omega)
  obtain ⟨rfl,_,rfl⟩:=Value.slice.inj hv
  have hseg:Seg ((entsC l).flatten++rs) (0+i*4) (entC l[i]):=by rw [Nat.zero_add];exact (rows_seg (entsC_k l) (by simp [entsC,hg])).app
  refine wc_draw (l:=blk b 256 ((entsC l).flatten++rs)::blk bi 3 [.int .i64 ((i:Int)+1)]::blk bm 117 [idV m]::blk m 120 [.slice (some ⟨b,0,none⟩) l.length c]::blk b3 256 (entC ⟨[],[],false,0⟩)::F) [blk b 256 ((entsC l).flatten++rs),blk bi 3 [.int .i64 ((i:Int)+1)],blk bm 117 [idV m],blk m 120 [.slice (some ⟨b,0,none⟩) l.length c]] [(0,false),(1,false),(2,false),(3,false),(4,false),(5,false),(6,false),(7,false),(8,true),(9,false),(10,false)] hs.to (by kernel_rfl) fun w hs=>?_
  refine go ?_
  refine wo_ixn (j:=i) rfl rfl rfl (by omega) rfl rfl hlt rfl ?_
  refine wo_ldN (entC l[i]) rfl rfl rfl rfl .here hseg rfl ?_
  refine go ?_
  refine w_stN (vs:=entC l[i]) hs fun w hs=>?_
  refine go ?_
  refine wq_retw ⟨_,_,b3,0,rfl,rfl,ld_res (entC l[i]) hs (.there (.there (.there (.there .here)))) rfl rfl (Seg.all _),_,_,rfl,rfl,_,_,rfl,rfl,rfl⟩ ⟨rfl,?_⟩
  have hs:=Sat.ownClose (k:=4) (len:=l.length) hs q1 q2 q3 (entsC_flat l) (entsC_one l)
  exact (Sat.memClose (v:=.slice (some ⟨b,0,none⟩) l.length c) hs.to).to
 ·have hg:l[i]?=none:=List.getElem?_eq_none (by omega)
  have hge:(i:Int) ≥ (l.length:Int):=by omega
  rw [hg]
  refine go ?_
  refine w_build (entC ⟨[],[],false,0⟩) ?_
  refine w_stN (vs:=entC ⟨[],[],false,0⟩) hs fun w hs=>?_
  refine go ?_
  refine wq_retw ⟨_,_,b3,0,rfl,rfl,ld_res (entC ⟨[],[],false,0⟩) hs .here rfl rfl (Seg.all _),_,_,rfl,rfl,_,_,rfl,rfl,rfl⟩ ⟨rfl,?_⟩
  exact (Sat.memClose (v:=.slice a l.length c) hs.to).to
end
section
open Go.Proofs.YtecibefflhomdaaGreatDoor.Pure (PDisk Ent Rd openB less bltB searchL)
attribute [local irreducible] IntKind.wrap
variable {W0 w:World} {F:List HProp} {v:Value} {d m p:Nat} {T:Tab} {D:PDisk}
def zeroE:Ent:=⟨[],[],false,0⟩
structure ItZ where
 bl:Nat
 bi:Nat
 bt:Nat
 bk:Nat
 p:Nat
 lv:Value
abbrev itTL (d:Nat) (z:ItZ) (T:Tab) (key:Bs) (i:Nat) (l:List Ent):List HProp:=
 [blk z.bl 118 [z.lv],blk z.bi 3 [.int .i64 (i:Int)],blk z.bt 193 [idV z.p],blk z.bk 9 [str key],entV z.lv l,tabC d z.p T]
def itT (d:Nat) (v:Value) (T:Tab) (key:Bs) (i:Nat) (l:List Ent):HProp:=fun h=>i≤T.blocks.length∧∃ z:ItZ,v=.func (.func 230) #[] #[idV z.bl,idV z.bi,idV z.bt,idV z.bk]∧sepL (itTL d z T key i l) h
theorem Sat.itTOpen {key:Bs} {i:Nat} {l:List Ent} (h:Sat W0 (itT d v T key i l::F) w):i≤T.blocks.length∧∃ z:ItZ,v=.func (.func 230) #[] #[idV z.bl,idV z.bi,idV z.bt,idV z.bk]∧Sat W0 (itTL d z T key i l++F) w:=by
 have h1:=h.pure1 (φ:=i≤T.blocks.length) fun _ k=>k.1
 obtain ⟨z,hv,hs⟩:=h.open1 (φ:=fun z:ItZ=>v=.func (.func 230) #[] #[idV z.bl,idV z.bi,idV z.bt,idV z.bk]) (B:=fun z=>itTL d z T key i l) fun hp ⟨_,z,hv,k⟩=>⟨z,hv,k⟩
 exact ⟨h1,z,hv,hs⟩
theorem Sat.itTClose {z:ItZ} {key:Bs} {i:Nat} {l:List Ent} (hi:i≤T.blocks.length) (h:Sat W0 (itTL d z T key i l++F) w):Sat W0 (itT d (.func (.func 230) #[] #[idV z.bl,idV z.bi,idV z.bt,idV z.bk]) T key i l::F) w:=
 Sat.close h fun hp k=>⟨hi,z,rfl,k⟩
theorem placeT_le (T:Tab) (key:Bs):placeT T key≤T.blocks.length:=by
 have:=runL_le key (T.blocks.drop 1)
 rw [List.length_drop] at this
 unfold placeT;omega
theorem tabFrom_spec {key:Bs} (hs:Sat W0 (tabC d p T::F) w) :
 Calls Tryz.prog 210 #[idV p,str key] w fun x w'=>∃ v,x=.returned v∧Sat W0 (itT d v T key (placeT T key) []::tabC d p T::F) w':=by
 have hle:=placeT_le T key
 have hok:=hs.tabOk.len
 refine enter Tryz.func210 rfl Tryz.ntmps210 Tryz.results210 rfl ?_
 refine go ?_
 refine w_box (hs.shDup (shd_tabC d p T)) fun w bt hs=>?_
 refine w_box hs fun w bk hs=>?_
 refine go ?_
 refine w_call (met (place_spec (key:=key) (hs.take (.there (.there .here)))) ?_)
 rintro _ w ⟨rfl,hs⟩
 refine ⟨_,rfl,?_⟩
 refine w_alloc hs fun w bi hs=>?_
 refine w_st hs fun w hs=>?_
 refine go ?_
 refine w_alloc hs fun w bl hs=>?_
 refine go ?_
 refine wq_ret rfl ⟨_,rfl,Sat.itTClose (z:=⟨bl,bi,bt,bk,p,.slice none 0 0⟩) hle ?_⟩
 exact (Sat.rvEmp (k:=4) hs (.inl rfl) (fun _=>rfl)).to
def entOf {α:Type}:Except Err (Option Ent×α)→Ent
 | .ok (some e,_)=>e
 | _=>zeroE
def okOf {α:Type}:Except Err (Option Ent×α)→Bool
 | .ok (some _,_)=>true
 | _=>false
def aft {α:Type} (C:α→HProp):Except Err (Option Ent×α)→HProp
 | .ok (_,a)=>C a
 | .error _=>fun _=>True
theorem Sat.emp (h:Sat W0 F w):Sat W0 ((fun _=>True)::F) w:=h.imp fun hp r=>⟨fun _=>none,hp,fun _ _ _ hx=>(by cases hx),fun _ _ hx=>(by cases hx),Hp.le_refl _,trivial,r⟩
theorem tabNext_spec {z:ItZ} {key:Bs} {f i:Nat} {l:List Ent} {x:Except Err (Option Ent×Nat×List Ent)} {D':PDisk} (h:nextT T key f D i l=some (x,D')) (hi:i≤T.blocks.length) (hs:Sat W0 (itTL d z T key i l++DiskA d D::F) w) :
 Calls Tryz.prog 230 #[idV z.bl,idV z.bi,idV z.bt,idV z.bk] w fun y w'=>∃ ve,y=.returned (.tuple #[.agg (entC (entOf x)).toArray,.bool (okOf x),ve]) ∧
  Sat W0 (aft (fun q=>itT d (.func (.func 230) #[] #[idV z.bl,idV z.bi,idV z.bt,idV z.bk]) T key q.1 q.2) x::errC ve (errX x)::DiskA d D'::F) w':=by
 obtain ⟨bl,bi,bt,bk,p,lv⟩:=z
 dsimp only [itTL,List.cons_append,List.nil_append] at hs ⊢
 have hok:=(hs.take (.there (.there (.there (.there (.there .here)))))).tabOk
 have hlen:=hok.len
 refine enter Tryz.func230 rfl Tryz.ntmps230 Tryz.results230 rfl ?_
 refine go ?_
 refine w_alloc hs fun w b4 hs=>?_
 refine go ?_
 refine wc_loop (α:=Nat×PDisk×Nat×List Ent×Value) (fun z=>[(0,idV bl),(1,idV bi),(2,idV bt),(3,idV bk),(4,idV b4)])
  (fun z w=>(nextT T key z.1 z.2.1 z.2.2.1 z.2.2.2.1=some (x,D')∧z.2.2.1≤T.blocks.length) ∧
    Sat W0 (blk bl 118 [z.2.2.2.2]::blk bi 3 [.int .i64 (z.2.2.1:Int)]::blk bt 193 [idV p]::blk bk 9 [str key]::blk b4 256 (entC zeroE)::entV z.2.2.2.2 z.2.2.2.1::tabC d p T::DiskA d z.2.1::F) w) (fun z=>z.1) (f,D,i,l,lv) ⟨rfl,rfl,rfl,rfl,rfl,trivial⟩ ⟨⟨h,hi⟩,hs.to⟩ ?_
 clear hs h hi
 rintro ⟨f0,D0,i0,l0,lv0⟩ w ⟨⟨h,hi⟩,hs⟩
 dsimp only at h hi hs ⊢
 refine go ?_
 refine wc_loop (α:=Nat×PDisk×Nat×List Ent×Value) (fun z=>[(0,idV bl),(1,idV bi),(2,idV bt),(3,idV bk),(4,idV b4)])
  (fun z w=>(nextT T key z.1 z.2.1 z.2.2.1 z.2.2.2.1=some (x,D')∧z.2.2.1≤T.blocks.length∧z.1≤f0) ∧
    Sat W0 (blk bl 118 [z.2.2.2.2]::blk bi 3 [.int .i64 (z.2.2.1:Int)]::blk bt 193 [idV p]::blk bk 9 [str key]::blk b4 256 (entC zeroE)::entV z.2.2.2.2 z.2.2.2.1::tabC d p T::DiskA d z.2.1::F) w) (fun z=>z.1) (f0,D0,i0,l0,lv0) ⟨rfl,rfl,rfl,rfl,rfl,trivial⟩ ⟨⟨h,hi,Nat.le_refl _⟩,hs⟩ ?_
 clear hs h hi
 rintro ⟨f1,D1,i1,l1,lv1⟩ w ⟨⟨h,hi,hf⟩,hs⟩
 dsimp only at h hi hf hs ⊢
 obtain ⟨f1,rfl⟩:∃ f',f1=f'+1:=by cases f1 with
  | zero=>simp [nextT] at h
  | succ f'=>exact ⟨f',rfl⟩
 cases l1 with
 | nil=>
  obtain ⟨a,c,rfl,hc⟩:=(hs.take (.there (.there (.there (.there (.there .here)))))).rvShape
  dsimp only [entsC,List.map_nil,List.length_nil] at hs hc
  unfold nextT at h
  obtain ⟨bv,hs⟩:=(hs.take (.there (.there (.there (.there (.there (.there .here))))))).tabOpen
  obtain ⟨a2,c2,rfl,hc2⟩:=(hs.take (.there .here)).rvShape
  have hbl:(blksC T.blocks).length=T.blocks.length:=by simp [blksC]
  rw [hbl] at hs
  refine go ?_
  refine wc_draw [blk bi 3 [.int .i64 (i1:Int)],blk bt 193 [idV p],imm p 200 [str T.name,str T.first,str T.last,.int .i64 (T.count:Int),idV d,.slice a2 T.blocks.length c2]] [(0,false),(1,false),(2,false),(3,false),(4,false),(5,false),(6,false)] hs.to (by kernel_rfl) fun w hs=>?_
  by_cases hend:i1=T.blocks.length
  ·rw [if_pos hend] at h
   simp only [Option.some.injEq,Prod.mk.injEq] at h
   obtain ⟨rfl,rfl⟩:=h
   have hend':(i1:Int)=(T.blocks.length:Int):=by omega
   refine go ?_
   refine w_build (entC zeroE) ?_
   refine w_stN (vs:=entC zeroE) hs fun w hs=>?_
   refine go ?_
   refine wq_retw ⟨_,_,b4,0,rfl,rfl,ld_res (entC zeroE) hs (.there (.there (.there (.there (.there (.there (.there .here))))))) rfl rfl (Seg.all _),_,_,rfl,rfl,_,_,rfl,rfl,rfl⟩ ⟨_,rfl,?_⟩
   exact Sat.itTClose (z:=⟨bl,bi,bt,bk,p,.slice a 0 c⟩) (key:=key) (T:=T) (d:=d) (i:=i1) (l:=[]) (F:=errC .nilIface none::DiskA d D1::F) hi (hs.errNil.to)
  ·rw [if_neg hend] at h
   have hend':¬ (i1:Int)=(T.blocks.length:Int):=by omega
   cases hr:readT D1 T i1 with
   | none=>rw [hr] at h;cases h
   | some y=>
    obtain ⟨y,D2⟩:=y
    rw [hr] at h
    refine go ?_
    refine w_call (met (read_spec (F:=blk bl 118 [.slice a 0 c]::blk bi 3 [.int .i64 (i1:Int)]::blk bt 193 [idV p]::blk bk 9 [str key]::blk b4 256 (entC zeroE)::F) hr hs.to) ?_)
    rintro _ w ⟨lv2,ve,rfl,hs⟩
    refine ⟨_,rfl,?_⟩
    cases y with
    | error e=>
     simp only [Option.some.injEq,Prod.mk.injEq] at h
     obtain ⟨rfl,rfl⟩:=h
     obtain ⟨t,u,rfl⟩:=(hs.take (.there (.there (.there .here)))).errIface
     refine go ?_
     refine w_build (entC zeroE) ?_
     refine go ?_
     refine w_stN (vs:=entC zeroE) hs fun w hs=>?_
     refine go ?_
     refine wq_retw ⟨_,_,b4,0,rfl,rfl,ld_res (entC zeroE) hs (.there (.there (.there (.there (.there (.there (.there (.there .here)))))))) rfl rfl (Seg.all _),_,_,rfl,rfl,_,_,rfl,rfl,rfl⟩ ⟨_,rfl,?_⟩
     exact Sat.emp hs.to
    | ok b=>
     have hve:=(hs.take (.there (.there (.there .here)))).errIs
     subst hve
     dsimp only at h
     obtain ⟨a3,c3,rfl,hc3⟩:=(hs.take (.there (.there .here))).rvShape
     refine go ?_
     refine w_st hs fun w hs=>?_
     refine go ?_
     refine w_st hs fun w hs=>?_
     refine go ?_
     exact wq_round (f1,D2,i1+1,b,_) ⟨rfl,rfl,rfl,rfl,rfl,trivial⟩ ⟨⟨h,by show i1+1≤_;omega,by show f1≤f0;omega⟩,hs.to⟩ (by show f1<f1+1;omega)
 | cons e l1=>
  obtain ⟨a,c,rfl,hc⟩:=(hs.take (.there (.there (.there (.there (.there .here)))))).rvShape
  obtain ⟨zz,⟨hv,hzc,hseg⟩,hs2⟩:=(hs.take (.there (.there (.there (.there (.there .here)))))).rvOpen (by simp [entsC])
  obtain ⟨rfl,_,rfl⟩:=Value.slice.inj hv
  have hrow:=hseg.row (i:=0) (x:=entC e) (entsC_k _) rfl
  have hne:¬ (((entsC (e::l1)).length:Nat):Int)=0:=by simp [entsC];omega
  have hpos:0<(entsC (e::l1)).length:=by simp [entsC]
  unfold nextT at h
  refine go ?_
  refine wl_ixn (i:=0) rfl rfl rfl rfl rfl hpos rfl ?_
  refine wl_ldN (entC e) hs2 rfl rfl rfl .here hrow rfl ?_
  clear hs
  refine w_alloc hs2 fun w b5 hs=>?_
  refine w_stN (vs:=entC e) hs fun w hs=>?_
  refine go ?_
  refine wl_rlo (m:=1) (hs.take (.there (.there .here))) rfl rfl rfl rfl rfl hpos rfl fun v5 hs=>?_
  obtain ⟨a5,c5,rfl,hc5⟩:=hs.rvShape
  have hs:=hs.to (a:=blk bl 118 [.slice (some ⟨zz.b,zz.o,none⟩) (entsC (e::l1)).length zz.c]::blk b5 256 (entC e)::blk bi 3 [.int .i64 (i1:Int)]::blk bt 193 [idV p]::blk bk 9 [str key]::blk b4 256 (entC zeroE)::entV (.slice a5 ((entsC (e::l1)).drop 1).length c5) l1::tabC d p T::DiskA d D1::F)
  refine w_st hs fun w hs=>?_
  cases hb:bltB e.key key with
  | true=>
   rw [if_pos hb] at h
   have hbb:=hb
   rw [bltB_eq] at hbb
   have hnb:(!ltb e.key key)=false:=by rw [hbb];rfl
   refine go ?_
   exact wq_round (f1,D1,i1,l1,_) ⟨rfl,rfl,rfl,rfl,rfl,trivial⟩ ⟨⟨h,hi⟩,hs.to⟩ (by show f1<f0;omega)
  | false=>
   rw [if_neg (by simp [hb])] at h
   simp only [Option.some.injEq,Prod.mk.injEq] at h
   obtain ⟨rfl,rfl⟩:=h
   have hbb:=hb
   rw [bltB_eq] at hbb
   have hnb:(!ltb e.key key)=true:=by rw [hbb];rfl
   refine go ?_
   refine w_stN (vs:=entC e) hs fun w hs=>?_
   refine go ?_
   refine wq_retw ⟨_,_,b4,0,rfl,rfl,ld_res (entC e) hs (.there (.there (.there (.there (.there .here))))) rfl rfl (Seg.all _),_,_,rfl,rfl,_,_,rfl,rfl,rfl⟩ ⟨_,rfl,?_⟩
   exact Sat.itTClose (z:=⟨bl,bi,bt,bk,p,_⟩) (key:=key) (T:=T) (d:=d) (i:=i1) (l:=l1) (F:=errC .nilIface none::DiskA d D1::F) hi (hs.errNil.to)
end
section
open Go.Proofs.YtecibefflhomdaaGreatDoor.Pure (PDisk Ent Rd openB less bltB searchL)
attribute [local irreducible] IntKind.wrap
variable {W0 w:World} {F:List HProp} {v:Value} {d m p:Nat} {T:Tab} {D D':PDisk} {M:List Ent} {it:It}
def itC (d m:Nat) (v:Value):It→HProp
 | .mem i=>itM v m i
 | .tab T key i l=>itT d v T key i l
def nextR {α:Type} (W0:World) (C:α→HProp) (m d:Nat) (M:List Ent) (x:Except Err (Option Ent×α)) (D':PDisk) (F:List HProp) (y:Ending) (w':World):Prop:=
 ∃ ve,y=.returned (.tuple #[.agg (entC (entOf x)).toArray,.bool (okOf x),ve])∧Sat W0 (aft C x::errC ve (errX x)::memC m M::DiskA d D'::F) w'
theorem itNext_spec {x:Except Err (Option Ent×It)} (h:nextI M D it=some (x,D')) (hs:Sat W0 (itC d m v it::memC m M::DiskA d D::F) w) (hmx:M.length≤1099511627776) :
 ∃ f q,v=.func (.func f) #[] q∧lk tFun f=some ()∧Calls Tryz.prog f (#[].toList++[]++q.toList).toArray w (nextR W0 (itC d m v) m d M x D' F):=by
 cases it with
 | mem i=>
  obtain ⟨hi,bi,bm,rfl,hs2⟩:=Sat.itMOpen hs
  refine ⟨207,_,rfl,rfl,(memNext_spec hi hs2 hmx).mono ?_⟩
  rintro _ w' ⟨rfl,hs⟩
  unfold nextI at h
  dsimp only at h
  cases hg:M[i]? with
  | none=>
   rw [hg] at h hs
   simp only [Option.some.injEq,Prod.mk.injEq] at h
   obtain ⟨rfl,rfl⟩:=h
   refine ⟨_,rfl,?_⟩
   have hs:=Sat.itMClose (m:=m) (i:=i) hi (hs.to (a:=blk bi 3 [.int .i64 (i:Int)]::blk bm 117 [idV m]::memC m M::DiskA d D::F))
   exact (hs.errNil).to (a:=itM _ m i::errC .nilIface none::memC m M::DiskA d D::F)
  | some e=>
   rw [hg] at h hs
   simp only [Option.some.injEq,Prod.mk.injEq] at h
   obtain ⟨rfl,rfl⟩:=h
   have hlt:i<M.length:=(List.getElem?_eq_some_iff.1 hg).1
   refine ⟨_,rfl,?_⟩
   have hs:=Sat.itMClose (m:=m) (i:=i+1) (by omega) (hs.to (a:=blk bi 3 [.int .i64 ((i+1:Nat):Int)]::blk bm 117 [idV m]::memC m M::DiskA d D::F))
   exact (hs.errNil).to (a:=itM _ m (i+1)::errC .nilIface none::memC m M::DiskA d D::F)
 | tab T key i l=>
  obtain ⟨hi,z,rfl,hs2⟩:=Sat.itTOpen hs
  unfold nextI at h
  dsimp only at h
  cases hn:nextT T key big D i l with
  | none=>rw [hn] at h;cases h
  | some y=>
   obtain ⟨y,D2⟩:=y
   rw [hn] at h
   have hs:=hs2.to (a:=itTL d z T key i l++(DiskA d D::memC m M::F))
   refine ⟨230,_,rfl,rfl,(tabNext_spec hn hi hs).mono ?_⟩
   rintro _ w' ⟨ve,rfl,hs⟩
   cases y with
   | error e=>
    simp only [Option.some.injEq,Prod.mk.injEq] at h
    obtain ⟨rfl,rfl⟩:=h
    exact ⟨_,rfl,hs.to⟩
   | ok q=>
    obtain ⟨o,i',l'⟩:=q
    simp only [Option.some.injEq,Prod.mk.injEq] at h
    obtain ⟨rfl,rfl⟩:=h
    cases o<;>exact ⟨_,rfl,hs.to⟩
def headC (d m:Nat) (hp:Nat) (x:Ent×It):HProp:=fun h=>∃ v,sepL [blk hp 349 (entC x.1++[v]),itC d m v x.2] h
theorem Sat.headOpen {hp:Nat} {x:Ent×It} (h:Sat W0 (headC d m hp x::F) w):∃ v,Sat W0 (blk hp 349 (entC x.1++[v])::itC d m v x.2::F) w:=by
 obtain ⟨v,_,hs⟩:=h.open1 (φ:=fun _:Value=>True) (B:=fun v=>[blk hp 349 (entC x.1++[v]),itC d m v x.2]) fun hp ⟨v,k⟩=>⟨v,trivial,k⟩
 exact ⟨v,hs⟩
theorem Sat.headClose {hp:Nat} {x:Ent×It} (h:Sat W0 (blk hp 349 (entC x.1++[v])::itC d m v x.2::F) w):Sat W0 (headC d m hp x::F) w:=
 Sat.close (B:=[blk hp 349 (entC x.1++[v]),itC d m v x.2]) h fun hp k=>⟨v,k⟩
theorem step_spec {hp:Nat} {e0:Ent} {x:Except Err (Option Ent×It)} (h:nextI M D it=some (x,D')) (hs:Sat W0 (blk hp 349 (entC e0++[v])::itC d m v it::memC m M::DiskA d D::F) w) (hmx:M.length≤1099511627776) :
 Calls Tryz.prog 213 #[idV hp] w fun y w'=>∃ ve,y=.returned (.tuple #[.bool (okOf x),ve])∧Sat W0 (blk hp 349 (entC (entOf x)++[v])::aft (itC d m v) x::errC ve (errX x)::memC m M::DiskA d D'::F) w':=by
 have hs:=hs.to (a:=itC d m v it::memC m M::DiskA d D::blk hp 349 (entC e0++[v])::F)
 obtain ⟨f,q,rfl,hf,hc⟩:=itNext_spec h hs hmx
 refine enter Tryz.func213 rfl Tryz.ntmps213 Tryz.results213 rfl ?_
 refine go ?_
 refine wl_callv rfl hf rfl rfl (hc.mono ?_)
 rintro _ w ⟨ve,rfl,hs⟩
 refine ⟨_,rfl,go ?_⟩
 refine w_alloc hs fun w b4 hs=>?_
 refine w_stN (vs:=entC (entOf x)) hs fun w hs=>?_
 refine go ?_
 refine wl_stN (vs:=entC (entOf x)) (cs:=entC e0++[.func (.func f) #[] q]) hs rfl rfl rfl (entC_one _) (by repeat (first|exact Repl.here|apply Repl.there)) (by simp [entC]) fun w hs=>?_
 refine go ?_
 exact wq_ret rfl ⟨_,rfl,hs.to⟩
end
end Go.Proofs.YtecibefflhomdaaGreatDoor
