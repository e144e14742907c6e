/-
  Part 28: WALKS Find in memory and in a table; WALKS package levels.
-/
import Derived.Test.YtecibefflhomdaaGreatDoorU27
set_option maxHeartbeats 8000000
set_option maxRecDepth 100000
set_option linter.all false
namespace Go.Proofs.YtecibefflhomdaaGreatDoor
open Go
section
open Go.Proofs.YtecibefflhomdaaGreatDoor.Pure (PDisk Ent Rd openB less bltB searchL)
attribute [local irreducible] IntKind.wrap
variable {W0 w:World} {F:List HProp} {v:Value} {d m p:Nat} {T:Tab} {D D':PDisk} {M:List Ent}
def entO:Option Ent→Ent
 | some e=>e
 | none=>zeroE
def joinO:Except Err (Option Ent)→Option Ent
 | .ok x=>x
 | .error _=>none
theorem readT_len {i:Nat} {l:List Ent} (h:readT D T i=some (.ok l,D')):l.length≤1099511627776:=by
 unfold readT at h
 split at h
 ·cases h
 ·split at h
  ·simp at h
  ·rename_i b _ _ _
   simp only [Option.map_eq_some_iff,Prod.mk.injEq] at h
   obtain ⟨x,hx,rfl,-⟩:=h
   unfold blockE at hx
   split at hx
   ·simp at hx
   ·rename_i z hz
    split at hx
    ·rename_i hb
     rw [big_eq] at hb
     split at hx
     ·simp at hx
     ·simp only [Option.some.injEq,Except.ok.injEq] at hx
      subst hx
      exact Nat.le_trans (parseE_len _ _) (Nat.le_trans (openB_len hz) hb)
    ·cases hx
theorem memFind_spec {key:Bs} {seq:Nat} (hs:Sat W0 (memC m M::F) w) (hmx:M.length≤1099511627776) :
 Calls Tryz.prog 275 #[idV m,str key,.int .u64 (seq:Int)] w fun y w'=>y=.returned (.tuple #[.agg (entC (entO (findM M key seq))).toArray,.bool (findM M key seq).isSome,.nilIface])∧Sat W0 (memC m M::F) w':=by
 refine enter Tryz.func275 rfl Tryz.ntmps275 Tryz.results275 rfl ?_
 refine go ?_
 refine w_alloc hs fun w b3 hs=>?_
 refine go ?_
 refine w_build (entC ⟨key,[],false,seq⟩) ?_
 refine w_call (met (search_spec (e:=⟨key,[],false,seq⟩) (hs.take (.there .here)) hmx) ?_)
 rintro _ w ⟨rfl,hs⟩
 refine ⟨_,rfl,?_⟩
 have hle:=Pure.searchL_le M ⟨key,[],false,seq⟩
 unfold findM
 generalize searchL M ⟨key,[],false,seq⟩=i at *
 obtain ⟨lv,hs⟩:=hs.memOpen
 obtain ⟨a,c,rfl,-⟩:=(hs.take (.there .here)).entLen
 have fin0:∀ w,Sat W0 (blk m 120 [.slice a M.length c]::entS (.slice a M.length c) M::blk b3 256 (entC zeroE)::F) w→Sat W0 (memC m M::F) w:=fun w hs=>(Sat.memClose (v:=.slice a M.length c) hs).to
 by_cases hlt:i<M.length
 ·have hg:M[i]?=some M[i]:=List.getElem?_eq_getElem hlt
  rw [hg]
  dsimp only
  have hlt':(i:Int)<(M.length:Int):=by omega
  obtain ⟨b,cap,rs,hv,q1,q2,q3,hs⟩:=(hs.take (.there .here)).ownPos (by omega)
  obtain ⟨rfl,_,rfl⟩:=Value.slice.inj hv
  have hseg:Seg ((entsC M).flatten++rs) (0+i*4) (entC M[i]):=by rw [Nat.zero_add];exact (rows_seg (entsC_k M) (by simp [entsC,hg])).app
  have hcell:=hseg.1
  have fin:∀ e w,Sat W0 (blk b 256 ((entsC M).flatten++rs)::blk m 120 [.slice (some ⟨b,0,none⟩) M.length c]::blk b3 256 e::F) w→Sat W0 (memC m M::F) w:=fun e w hs=>by
   have hs:=Sat.ownClose (k:=4) (len:=M.length) hs q1 q2 q3 (entsC_flat M) (entsC_one M)
   exact (Sat.memClose (v:=.slice (some ⟨b,0,none⟩) M.length c) hs.to).to
  by_cases hk:M[i].key=key
  ·rw [if_pos hk]
   refine go ?_
   refine wl_ixn (i:=i) rfl rfl rfl rfl rfl hlt rfl ?_
   refine go ?_
   refine wl_ld hs rfl rfl .here hcell rfl ?_
   refine go ?_
   refine wl_ixn (i:=i) rfl rfl rfl rfl rfl hlt rfl ?_
   refine wl_ldN (entC M[i]) hs rfl rfl rfl .here hseg rfl ?_
   refine w_stN (vs:=entC M[i]) hs fun w hs=>?_
   refine go ?_
   exact wq_retw ⟨_,_,b3,0,rfl,rfl,ld_res (entC M[i]) hs (.there (.there .here)) rfl rfl (Seg.all _),_,_,rfl,rfl,_,_,rfl,rfl,rfl⟩ ⟨rfl,fin _ _ hs⟩
  ·rw [if_neg hk]
   refine go ?_
   refine wl_ixn (i:=i) rfl rfl rfl rfl rfl hlt rfl ?_
   refine go ?_
   refine wl_ld hs rfl rfl .here hcell rfl ?_
   refine go ?_
   refine w_build (entC zeroE) ?_
   refine w_stN (vs:=entC zeroE) hs fun w hs=>?_
   refine go ?_
   exact wq_retw ⟨_,_,b3,0,rfl,rfl,ld_res (entC zeroE) hs (.there (.there .here)) rfl rfl (Seg.all _),_,_,rfl,rfl,_,_,rfl,rfl,rfl⟩ ⟨rfl,fin _ _ hs⟩
 ·have hg:M[i]?=none:=List.getElem?_eq_none (by omega)
  rw [hg]
  dsimp only
  have hlt':¬ (i:Int)<(M.length:Int):=by omega
  refine go ?_
  refine w_build (entC zeroE) ?_
  refine w_stN (vs:=entC zeroE) hs fun w hs=>?_
  refine go ?_
  exact wq_retw ⟨_,_,b3,0,rfl,rfl,ld_res (entC zeroE) hs (.there (.there .here)) rfl rfl (Seg.all _),_,_,rfl,rfl,_,_,rfl,rfl,rfl⟩ ⟨rfl,fin0 _ hs⟩
theorem tabFind_spec {key:Bs} {seq:Nat} {x:Except Err (Option Ent)} (h:findT D T key seq=some (x,D')) (hs:Sat W0 (tabC d p T::DiskA d D::F) w) :
 Calls Tryz.prog 276 #[idV p,str key,.int .u64 (seq:Int)] w fun y w'=>∃ ve,y=.returned (.tuple #[.agg (entC (entO (joinO x))).toArray,.bool (joinO x).isSome,ve])∧Sat W0 (tabC d p T::DiskA d D'::errC ve (errX x)::F) w':=by
 unfold findT at h
 refine enter Tryz.func276 rfl Tryz.ntmps276 Tryz.results276 rfl ?_
 refine go ?_
 refine w_alloc hs fun w b3 hs=>?_
 obtain ⟨bv,hs⟩:=(hs.take (.there .here)).tabOpen
 by_cases h1:bltB key T.first=true
 ·rw [if_pos (.inl h1)] at h
  simp only [Option.some.injEq,Prod.mk.injEq] at h
  obtain ⟨rfl,rfl⟩:=h
  rw [bltB_eq] at h1
  refine go ?_
  refine w_build (entC zeroE) ?_
  refine w_stN (vs:=entC zeroE) hs fun w hs=>?_
  refine go ?_
  exact wq_retw ⟨_,_,b3,0,rfl,rfl,ld_res (entC zeroE) hs (.there (.there (.there .here))) rfl rfl (Seg.all _),_,_,rfl,rfl,_,_,rfl,rfl,rfl⟩ ⟨_,rfl,(hs.errNil).to⟩
 ·have h1':ltb key T.first=false:=by rw [← bltB_eq];simpa using h1
  by_cases h2:bltB T.last key=true
  ·rw [if_pos (.inr h2)] at h
   simp only [Option.some.injEq,Prod.mk.injEq] at h
   obtain ⟨rfl,rfl⟩:=h
   rw [bltB_eq] at h2
   refine go ?_
   refine w_build (entC zeroE) ?_
   refine w_stN (vs:=entC zeroE) hs fun w hs=>?_
   refine go ?_
   exact wq_retw ⟨_,_,b3,0,rfl,rfl,ld_res (entC zeroE) hs (.there (.there (.there .here))) rfl rfl (Seg.all _),_,_,rfl,rfl,_,_,rfl,rfl,rfl⟩ ⟨_,rfl,(hs.errNil).to⟩
  ·have h2':ltb T.last key=false:=by rw [← bltB_eq];simpa using h2
   rw [if_neg (by simp [h1,h2])] at h
   cases hr:readT D T (placeT T key) with
   | none=>rw [hr] at h;cases h
   | some y=>
    obtain ⟨y,D2⟩:=y
    rw [hr] at h
    refine go ?_
    refine w_call (met (place_spec (key:=key) (hs.take (.there (.there .here)))) ?_)
    rintro _ w ⟨rfl,hs⟩
    refine ⟨_,rfl,go ?_⟩
    refine w_call (met (read_spec (F:=blk b3 256 (entC zeroE)::F) hr hs.to) ?_)
    rintro _ w ⟨lv,ve,rfl,hs⟩
    refine ⟨_,rfl,?_⟩
    cases y with
    | error e=>
     simp only [Option.some.injEq,Prod.mk.injEq] at h
     obtain ⟨rfl,rfl⟩:=h
     obtain ⟨t,u,rfl⟩:=(hs.take (.there (.there (.there .here)))).errIface
     refine go ?_
     refine w_build (entC zeroE) ?_
     refine go ?_
     refine w_stN (vs:=entC zeroE) hs fun w hs=>?_
     refine go ?_
     exact wq_retw ⟨_,_,b3,0,rfl,rfl,ld_res (entC zeroE) hs (.there (.there (.there (.there .here)))) rfl rfl (Seg.all _),_,_,rfl,rfl,_,_,rfl,rfl,rfl⟩ ⟨_,rfl,hs.to⟩
    | ok l=>
     simp only [Option.some.injEq,Prod.mk.injEq] at h
     obtain ⟨rfl,rfl⟩:=h
     have hve:=(hs.take (.there (.there (.there .here)))).errIs
     subst hve
     dsimp only [okL] at hs
     obtain ⟨a,c,rfl,hc⟩:=(hs.take (.there (.there .here))).rvShape
     have hl:(entsC l).length=l.length:=entsC_length l
     have hll:=readT_len hr
     rw [hl] at hs ⊢
     refine go ?_
     refine wc_loop (α:=Nat) (fun i=>[(0,idV p),(1,str key),(2,.int .u64 (seq:Int)),(6,idV b3),(42,.slice a l.length c),(43,.int .i64 (l.length:Int)),(44,.int .i64 (i:Int))])
      (fun i w=>(i≤l.length∧pickE key seq (l.drop i)=pickE key seq l)∧Sat W0 (entV (.slice a l.length c) l::tabC d p T::DiskA d D2::errC .nilIface none::blk b3 256 (entC zeroE)::F) w) (fun i=>l.length-i) 0 ⟨rfl,rfl,rfl,rfl,rfl,rfl,rfl,trivial⟩ ⟨⟨Nat.zero_le _,rfl⟩,hs.to⟩ ?_
     clear hs
     rintro i w ⟨⟨hi,hp⟩,hs⟩
     by_cases hlt:i<l.length
     ·have hg:l[i]?=some l[i]:=List.getElem?_eq_getElem hlt
      obtain ⟨zz,⟨hv,hzc,hseg⟩,hs2⟩:=hs.rvOpen (by intro h;simp [entsC] at h;rw [h] at hlt;simp at hlt)
      rw [hl] at hv
      obtain ⟨rfl,_,rfl⟩:=Value.slice.inj hv
      have hrow:=hseg.row (i:=i) (x:=entC l[i]) (entsC_k _) (by simp [entsC,hg])
      have hd:l.drop i=l[i]::l.drop (i+1):=List.drop_eq_getElem_cons hlt
      rw [hd] at hp
      refine go ?_
      refine wl_ixn (i:=i) rfl rfl rfl rfl rfl hlt rfl ?_
      refine wl_ldN (entC l[i]) hs2 rfl rfl rfl .here hrow rfl ?_
      clear hs
      refine w_alloc hs2 fun w b5 hs=>?_
      refine w_stN (vs:=entC l[i]) hs fun w hs=>?_
      by_cases hk:l[i].key=key
      ·by_cases hq:(l[i].seq:Int)≤(seq:Int)
       ·have hpick:pickE key seq l=some l[i]:=by rw [← hp];simp [pickE,List.find?,hk,Int.ofNat_le.1 hq]
        rw [hpick]
        refine go ?_
        refine w_stN (vs:=entC l[i]) hs fun w hs=>?_
        refine go ?_
        exact wq_retw ⟨_,_,b3,0,rfl,rfl,ld_res (entC l[i]) hs (.there (.there (.there (.there (.there (.there .here)))))) rfl rfl (Seg.all _),_,_,rfl,rfl,_,_,rfl,rfl,rfl⟩ ⟨_,rfl,hs.to⟩
       ·have hp':pickE key seq (l.drop (i+1))=pickE key seq l:=by
         have hq2:¬ l[i].seq≤seq:=fun h=>hq (Int.ofNat_le.2 h)
         rw [← hp];simp [pickE,List.find?,hk,hq2]
        refine go ?_
        exact wq_round (i+1) ⟨rfl,rfl,rfl,rfl,rfl,rfl,rfl,trivial⟩ ⟨⟨by omega,hp'⟩,hs.to⟩ (by omega)
      ·have hp':pickE key seq (l.drop (i+1))=pickE key seq l:=by rw [← hp];simp [pickE,List.find?,hk]
       refine go ?_
       exact wq_round (i+1) ⟨rfl,rfl,rfl,rfl,rfl,rfl,rfl,trivial⟩ ⟨⟨by omega,hp'⟩,hs.to⟩ (by omega)
     ·have hnone:pickE key seq l=none:=by rw [← hp,List.drop_of_length_le (by omega)];rfl
      rw [hnone]
      have he:i=l.length:=by omega
      subst he
      refine go ?_
      refine w_build (entC zeroE) ?_
      refine w_stN (vs:=entC zeroE) hs fun w hs=>?_
      refine go ?_
      exact wq_retw ⟨_,_,b3,0,rfl,rfl,ld_res (entC zeroE) hs (.there (.there (.there (.there .here)))) rfl rfl (Seg.all _),_,_,rfl,rfl,_,_,rfl,rfl,rfl⟩ ⟨_,rfl,hs.to⟩
end
section
open Go.Proofs.YtecibefflhomdaaGreatDoor.Pure (PDisk Ent Rd openB less bltB searchL numB textB frameB putB dec beN addL Chg chgE batchE numB_length valE)
attribute [local irreducible] IntKind.wrap
def getG (s:St) (D:PDisk) (key:Bs) (seq:Nat):Out (Option Bs):=if (tabsS s).length≤1099511627776∧s.mem.length≤1099511627776 then getS s D key seq else none
def remG (s:St) (key:Bs) (seq:Nat):Nat→PDisk→Out (Option Ent)
 | 0,D=>match findM s.mem key seq with
  | some e=>some (.ok (some e),D)
  | none=>getTs key seq (tabsS s) D
 | i+1,D=>getTs key seq ((tabsS s).drop i) D
def valO:Except Err (Option Ent)→Except Err (Option Bs)
 | .ok x=>.ok (valE x)
 | .error e=>.error e
theorem getS_rem {s:St} {D:PDisk} {key:Bs} {seq:Nat} (h:¬ (key.length=0∨8<key.length)):getS s D key seq=(remG s key seq 0 D).map fun x=>(valO x.1,x.2):=by
 unfold getS remG
 rw [if_neg h]
 cases findM s.mem key seq with
 | some e=>rfl
 | none=>
  dsimp only
  cases getTs key seq (tabsS s) D with
  | none=>rfl
  | some r=>obtain ⟨x,D'⟩:=r;cases x<;>rfl
def bsX:Except Err (Option Bs)→Bs
 | .ok (some v)=>v
 | _=>[]
def isX:Except Err (Option Bs)→Bool
 | .ok (some _)=>true
 | _=>false
theorem getTs_cons (key:Bs) (seq:Nat) (T:Tab) (r:List Tab) (D:PDisk):getTs key seq (T::r) D=match findT D T key seq with
 | none=>none
 | some (.error e,D')=>some (.error e,D')
 | some (.ok (some x),D')=>some (.ok (some x),D')
 | some (.ok none,D')=>getTs key seq r D':=rfl
variable {W0 w:World} {F:List HProp} {v:Value} {d m p:Nat} {T:Tab} {D D':PDisk} {M:List Ent}
theorem get_specI {b:Nat} {K:SK} {s:St} {key:Bs} {seq:Nat} {x:Except Err (Option Bs)} (h:getG s D key seq=some (x,D')) (hs:Sat W0 (stD b K s::DiskA K.d D::F) w) :
 Calls Tryz.prog 84 #[idV b,str key,uV seq] w fun y w'=>∃ ve,y=.returned (.tuple #[str (bsX x),.bool (isX x),ve])∧Sat W0 (stD b K s::DiskA K.d D'::errC ve (errX x)::F) w':=by
 unfold getG at h
 by_cases hg:(tabsS s).length≤1099511627776∧s.mem.length≤1099511627776
 case neg=>rw [if_neg hg] at h;cases h
 rw [if_pos hg] at h
 obtain ⟨hT,hmx⟩:=hg
 refine enter Tryz.func84 rfl Tryz.ntmps84 Tryz.results84 rfl ?_
 by_cases h0:key.length=0
 ·have h0':((key.length:Nat):Int)=0:=by omega
  unfold getS at h
  rw [if_pos (.inl h0)] at h
  simp only [Option.some.injEq,Prod.mk.injEq] at h
  obtain ⟨rfl,rfl⟩:=h
  refine gx ?_
  exact wq_ret rfl ⟨_,rfl,(Sat.errNum (k:=3) hs).to⟩
 ·have h0':¬ ((key.length:Nat):Int)=0:=by omega
  by_cases h8:8<key.length
  ·have h8':((key.length:Nat):Int) > 8:=by omega
   unfold getS at h
   rw [if_pos (.inr h8)] at h
   simp only [Option.some.injEq,Prod.mk.injEq] at h
   obtain ⟨rfl,rfl⟩:=h
   refine gx ?_
   exact wq_ret rfl ⟨_,rfl,(Sat.errNum (k:=3) hs).to⟩
  ·have h8':¬ ((key.length:Nat):Int) > 8:=by omega
   rw [getS_rem (by omega)] at h
   obtain ⟨hl,z,hs⟩:=hs.sdOpen
   refine gx ?_
   refine w_call (met (sources_spec hl hT hs) ?_)
   clear hs
   rintro _ w ⟨rv,ps,rfl,hps,hs⟩
   refine ⟨_,rfl,?_⟩
   obtain ⟨ar,cr,rfl,-⟩:=hs.ownShape
   refine gx ?_
   obtain ⟨r,hr,hx⟩:∃ r,remG s key seq 0 D=some r∧(valO r.1,r.2)=(x,D'):=by
    cases hr:remG s key seq 0 D with
    | none=>rw [hr] at h;cases h
    | some r=>rw [hr] at h;exact ⟨r,rfl,Option.some.inj h⟩
   clear h
   obtain ⟨rx,rD⟩:=r
   simp only [Prod.mk.injEq] at hx
   obtain ⟨hx,rfl⟩:=hx
   refine wc_loop (α:=Nat×PDisk) (fun q=>[(0,idV b),(1,str key),(2,uV seq),(24,.slice ar (1+ps.length) cr),(25,.int .i64 ((1+ps.length:Nat):Int)),(26,.int .i64 (q.1:Int))])
    (fun q w=>(q.1≤1+ps.length∧remG s key seq q.1 q.2=some (rx,rD))∧Sat W0 (ownS 1 (.slice ar (1+ps.length) cr) 261 (1+ps.length) (ifM z.m::ps.map ifT)::tbS K.d ps (tabsS s)::blk b 133 (stCells K z s)::lvS K.d z s.levels::memC z.m s.mem::mapH keyI z.sn (snapsV s.snaps)::DiskA K.d q.2::F) w) (fun q=>1+ps.length-q.1) (0,D) ⟨rfl,rfl,rfl,rfl,rfl,rfl,trivial⟩ ⟨⟨by omega,hr⟩,hs.to⟩ ?_
   clear hs hr
   rintro ⟨i,D1⟩ w ⟨⟨hi,hr⟩,hs⟩
   dsimp only at hi hr hs ⊢
   by_cases hlt:i<1+ps.length
   ·have hlt':(i:Int)<((1+ps.length:Nat):Int):=by omega
    have hpl:ps.length<9223372036854775807:=by omega
    cases i with
    | zero=>
     unfold remG at hr
     refine gx ?_
     obtain ⟨bb,cap,rs,hv,q1,q2,q3,hs2⟩:=hs.ownPos (by omega)
     obtain ⟨rfl,_,rfl⟩:=Value.slice.inj hv
     refine wl_ixn (i:=0) rfl rfl rfl rfl rfl (by omega) rfl ?_
     refine wl_ld (v:=ifM z.m) hs2 rfl rfl .here rfl rfl ?_
     clear hs2
     refine gx ?_
     refine wl_invoke rfl (mFind1 _) (fun _ _=>call_of2 rfl) rfl rfl (met (memFind_spec (key:=key) (seq:=seq) (hs.take (.there (.there (.there (.there .here))))) hmx) ?_)
     clear hs
     rintro _ w ⟨rfl,hs⟩
     refine ⟨_,rfl,?_⟩
     cases hf:findM s.mem key seq with
     | none=>
      rw [hf] at hr
      dsimp only at hr
      refine gx ?_
      refine w_alloc hs ?_
      clear hs
      intro w b11 hs
      refine gx ?_
      refine w_stN (vs:=entC (entO none)) hs ?_
      clear hs
      intro w hs
      refine gx ?_
      refine wq_round (1,D1) ⟨rfl,rfl,rfl,rfl,rfl,rfl,trivial⟩ ⟨⟨by dsimp only;omega,by dsimp only [remG];rw [List.drop_zero];exact hr⟩,hs.to⟩ (by dsimp only;omega)
     | some e=>
      rw [hf] at hr
      simp only [Option.some.injEq,Prod.mk.injEq] at hr
      obtain ⟨rfl,rfl⟩:=hr
      obtain ⟨ek,evl,ed,es⟩:=e
      refine gx ?_
      refine w_alloc hs ?_
      clear hs
      intro w b11 hs
      refine gx ?_
      refine w_stN (vs:=entC ⟨ek,evl,ed,es⟩) hs ?_
      clear hs
      intro w hs
      cases ed with
      | false=>
       have hx':x=.ok (some evl):=by rw [← hx];rfl
       subst hx'
       refine gx ?_
       exact wq_ret rfl ⟨_,rfl,(Sat.errNil (Sat.sdClose (s:=s) (z:=z) hl (hs.to (a:=blk b 133 (stCells K z s)::lvS K.d z s.levels::memC z.m s.mem::mapH keyI z.sn (snapsV s.snaps)::DiskA K.d D1::F)))).to⟩
      | true=>
       have hx':x=.ok none:=by rw [← hx];rfl
       subst hx'
       refine gx ?_
       exact wq_ret rfl ⟨_,rfl,(Sat.errNil (Sat.sdClose (s:=s) (z:=z) hl (hs.to (a:=blk b 133 (stCells K z s)::lvS K.d z s.levels::memC z.m s.mem::mapH keyI z.sn (snapsV s.snaps)::DiskA K.d D1::F)))).to⟩
    | succ i=>
     have hilt:i<ps.length:=by omega
     have hg:ps[i]?=some ps[i]:=List.getElem?_eq_getElem hilt
     have hT1:(tabsS s)[i]?=some ((tabsS s)[i]'(by omega)):=List.getElem?_eq_getElem (by omega)
     have hdr:(tabsS s).drop i=(tabsS s)[i]'(by omega)::(tabsS s).drop (i+1):=List.drop_eq_getElem_cons (by omega)
     have hr:getTs key seq ((tabsS s).drop i) D1=some (rx,rD):=hr
     rw [hdr,getTs_cons] at hr
     generalize (tabsS s)[i]'(by omega)=T at hT1 hdr hr
     generalize ps[i]=p at hg
     refine gx ?_
     obtain ⟨bb,cap,rs,hv,q1,q2,q3,hs2⟩:=hs.ownPos (by omega)
     obtain ⟨rfl,_,rfl⟩:=Value.slice.inj hv
     have hcell:((ifM z.m::ps.map ifT)++rs)[0+(i+1)*1]?=some (ifT p):=by
      rw [Nat.zero_add,Nat.mul_one,List.getElem?_append_left (by simp;omega),List.getElem?_cons_succ,List.getElem?_map,hg];rfl
     refine wl_ixn (i:=i+1) rfl rfl rfl rfl rfl (by omega) rfl ?_
     refine wl_ld hs2 rfl rfl .here hcell rfl ?_
     clear hs2
     have hz:=zipWith_at (tabC K.d) hg hT1
     have hs:=hs.take (.there .here)
     unfold tbS at hs
     rw [list_split hz] at hs
     have hs:=hs.starTake
     refine gx ?_
     cases hf:findT D1 T key seq with
     | none=>rw [hf] at hr;cases hr
     | some r=>
      obtain ⟨x1,D2⟩:=r
      rw [hf] at hr
      refine wl_invoke rfl (mFind2 _) (fun _ _=>call_of2 rfl) rfl rfl (met (tabFind_spec hf (hs.to (a:=tabC K.d p T::DiskA K.d D1::star (List.take i (List.zipWith (tabC K.d) ps (tabsS s))++List.drop (i+1) (List.zipWith (tabC K.d) ps (tabsS s)))::ownS 1 (.slice (some ⟨bb,0,none⟩) (1+ps.length) cr) 261 (1+ps.length) (ifM z.m::ps.map ifT)::blk b 133 (stCells K z s)::lvS K.d z s.levels::memC z.m s.mem::mapH keyI z.sn (snapsV s.snaps)::F))) ?_)
      clear hs
      rintro _ w ⟨ve,rfl,hs⟩
      refine ⟨_,rfl,?_⟩
      have hs:=(hs.to (a:=tabC K.d p T::star (List.take i (List.zipWith (tabC K.d) ps (tabsS s))++List.drop (i+1) (List.zipWith (tabC K.d) ps (tabsS s)))::errC ve (errX x1)::ownS 1 (.slice (some ⟨bb,0,none⟩) (1+ps.length) cr) 261 (1+ps.length) (ifM z.m::ps.map ifT)::blk b 133 (stCells K z s)::lvS K.d z s.levels::memC z.m s.mem::mapH keyI z.sn (snapsV s.snaps)::DiskA K.d D2::F)).starPut
      rw [← list_split hz] at hs
      have hs:Sat W0 (tbS K.d ps (tabsS s)::errC ve (errX x1)::ownS 1 (.slice (some ⟨bb,0,none⟩) (1+ps.length) cr) 261 (1+ps.length) (ifM z.m::ps.map ifT)::blk b 133 (stCells K z s)::lvS K.d z s.levels::memC z.m s.mem::mapH keyI z.sn (snapsV s.snaps)::DiskA K.d D2::F) w:=hs
      cases x1 with
      | error e=>
       simp only [Option.some.injEq,Prod.mk.injEq] at hr
       obtain ⟨rfl,rfl⟩:=hr
       have hx':x=.error e:=hx.symm
       subst hx'
       obtain ⟨t,u,rfl⟩:=(hs.take (.there .here)).errIface
       refine gx ?_
       refine w_alloc hs ?_
       clear hs
       intro w b11 hs
       refine gx ?_
       refine w_stN (vs:=entC zeroE) hs ?_
       clear hs
       intro w hs
       refine gx ?_
       exact wq_ret rfl ⟨_,rfl,(Sat.sdClose (s:=s) (z:=z) hl (hs.to (a:=blk b 133 (stCells K z s)::lvS K.d z s.levels::memC z.m s.mem::mapH keyI z.sn (snapsV s.snaps)::DiskA K.d D2::errC (.iface t u) (some e)::F))).to⟩
      | ok o=>
       have hve:=(hs.take (.there .here)).errIs
       subst hve
       cases o with
       | none=>
        dsimp only at hr
        refine gx ?_
        refine w_alloc hs ?_
        clear hs
        intro w b11 hs
        refine gx ?_
        refine w_stN (vs:=entC zeroE) hs ?_
        clear hs
        intro w hs
        refine gx ?_
        refine wq_round (i+1+1,D2) ⟨rfl,rfl,rfl,rfl,rfl,rfl,trivial⟩ ⟨⟨by dsimp only;omega,hr⟩,hs.to⟩ (by dsimp only;omega)
       | some e=>
        simp only [Option.some.injEq,Prod.mk.injEq] at hr
        obtain ⟨rfl,rfl⟩:=hr
        obtain ⟨ek,evl,ed,es⟩:=e
        refine gx ?_
        refine w_alloc hs ?_
        clear hs
        intro w b11 hs
        refine gx ?_
        refine w_stN (vs:=entC ⟨ek,evl,ed,es⟩) hs ?_
        clear hs
        intro w hs
        cases ed with
        | false=>
         have hx':x=.ok (some evl):=by rw [← hx];rfl
         subst hx'
         refine gx ?_
         exact wq_ret rfl ⟨_,rfl,(Sat.errNil (Sat.sdClose (s:=s) (z:=z) hl (hs.to (a:=blk b 133 (stCells K z s)::lvS K.d z s.levels::memC z.m s.mem::mapH keyI z.sn (snapsV s.snaps)::DiskA K.d D2::F)))).to⟩
        | true=>
         have hx':x=.ok none:=by rw [← hx];rfl
         subst hx'
         refine gx ?_
         exact wq_ret rfl ⟨_,rfl,(Sat.errNil (Sat.sdClose (s:=s) (z:=z) hl (hs.to (a:=blk b 133 (stCells K z s)::lvS K.d z s.levels::memC z.m s.mem::mapH keyI z.sn (snapsV s.snaps)::DiskA K.d D2::F)))).to⟩
   ·have hie:i=1+ps.length:=by omega
    subst hie
    have hr2:getTs key seq ((tabsS s).drop ps.length) D1=some (rx,rD):=by rw [Nat.add_comm] at hr;exact hr
    rw [hps,List.drop_length] at hr2
    simp only [getTs,Option.some.injEq,Prod.mk.injEq] at hr2
    obtain ⟨rfl,rfl⟩:=hr2
    have hx':x=.ok none:=hx.symm
    subst hx'
    have hlt':¬ (((1+ps.length:Nat):Int)<((1+ps.length:Nat):Int)):=by omega
    refine gx ?_
    exact wq_ret rfl ⟨_,rfl,(Sat.errNil (Sat.sdClose (s:=s) (z:=z) hl (hs.to (a:=blk b 133 (stCells K z s)::lvS K.d z s.levels::memC z.m s.mem::mapH keyI z.sn (snapsV s.snaps)::DiskA K.d D1::F)))).to⟩
end
end Go.Proofs.YtecibefflhomdaaGreatDoor
