/-
  Part 40: WALKS package levels; WALKS package levels; WALKS the statements' world; PLAIN LAWS the statements' world beside the document's; WALKS the statements' world; WALKS the statements' world; THE FRAME the statements' data, out of the reading of the ar; THE FRAME from a contract of a law's function, walked in one.
-/
import Derived.Test.YtecibefflhomdaaGreatDoorW39
import Derived.Laws.StructEq
import Derived.ChangeShapes
import Derived.ChangeArms
import Derived.SizedLaws
import Derived.Conc.HoldsTime
import Derived.Handed
import Derived.Test.YtecibefflhomdaaGreatDoorCards
import Derived.Test.YtecibefflhomdaaGreatDoorTie
set_option maxHeartbeats 8000000
set_option maxRecDepth 100000
set_option linter.all false
namespace Go.Proofs.YtecibefflhomdaaGreatDoor
open Go
section
open Go.Proofs.YtecibefflhomdaaGreatDoor.Pure (ad ax bZ cL)
attribute [local irreducible] IntKind.wrap
section
variable {κ:Type} [DecidableEq κ] (K:EM κ)
variable {ops:Array Oper} {Q:Exit→Act→World→Prop} {n:Nat} {ds:Md} {e:Env} {w w':World} {rest:List Oper}
variable {op:Op} {ty:TypeId} {pos:String} {af:Array Edge} {d b:Nat} {v u:Value} {W0:World} {l l' r r':List ah} {kvs:List (κ×Value)} {k:κ}
attribute [local semireducible] WL WC WQ
theorem oE {T elem:TypeId} {x y z:Operand} (hs:Sat W0 l w) (tk:ib l (aO K b kvs) (aO K b (bZ kvs k v)) l') (hx:ev e x=some (.map (some b))) (hy:ev e y=some (K.val k)) (hzv:ev e z=some v) (hT:lk vB T=some (K.ty,elem))
 (kk:∀ w',Sat W0 l' w'→WL ops Q n ds rest e w'):WL ops Q n ds (⟨none,.insert T x y z,ty,pos,af,none⟩::rest) e w:=by
 obtain ⟨r,t1,t2⟩:=tk.take
 obtain ⟨es,clock,hb,he,hlt,hnd,hs1⟩:=(hs.take t1).pR
 rcases jJ K es kvs k 0 he with ⟨g1,g2⟩|⟨j,v',g1,g2,g3,⟨e0,g4,g4'⟩,g5,_⟩
 ·have hf:=fU K (w:=w) g2
  have hs2:=hs1.q6 K (es':=es++[⟨K.val k,v,clock⟩]) (clock':=clock+1) (oY K es kvs k v clock he g1) (fun e' he'=>by
   rcases List.mem_append.1 he' with h|h
   ·exact Nat.lt_succ_of_lt (hlt e' h)
   ·simp at h;subst h;exact Nat.lt_succ_self _) (by
   rw [List.map_append,List.nodup_append]
   refine ⟨hnd,by simp,?_⟩
   intro a ha c hc hac
   simp at hc;subst hc;subst hac
   obtain ⟨e',he',h'⟩:=List.mem_map.1 ha
   have:=hlt e' he'
   omega)
  refine vV (fun a ha=>?_) (kk _ (hs2.mo t2))
  simp only [execOp,ha.ev hx,ha.ev hy,ha.ev hzv]
  simp [Instr.mapUpdate,run_underlying (iD hT),MapKept.run_getObj_map hb,K.check,hf,MapKept.run_setObj_map _ hb]
 ·have hf:=fU K (w:=w) g2
  obtain ⟨q1,q2⟩:=g5 v _ rfl
  have hs2:=hs1.q6 K (es':=es.modify j (fun e=>{ e with key:=K.val k,val:=v })) (clock':=clock) q1 (fun e' he'=>by
   have:e'.born∈es.map (·.born):=by rw [← q2];exact List.mem_map.2 ⟨e',he',rfl⟩
   obtain ⟨e1,h1,h2⟩:=List.mem_map.1 this
   rw [← h2];exact hlt e1 h1) (by rw [q2];exact hnd)
  refine vV (fun a ha=>?_) (kk _ (hs2.mo t2))
  simp only [execOp,ha.ev hx,ha.ev hy,ha.ev hzv]
  simp [Instr.mapUpdate,run_underlying (iD hT),MapKept.run_getObj_map hb,K.check,hf,MapKept.run_setObj_map _ hb,Instr.keyThatStays,K.bits,g4,g4']
end
variable {W0 w:World} {F:List ah} {b d:Nat} {D D':ad} {K:SK} {z:SZ} {s:St}
def Kn (kvs:List (Bs×Value)) (l:List Bs):Prop:=∀ n,ax kvs n=if n∈l then some (.int .i64 1) else none
theorem Kn.nil:Kn [] []:=fun n=>by simp [ax]
theorem Kn.put {kvs:List (Bs×Value)} {l l':List Bs} {n:Bs} (h:Kn kvs l) (hl:∀ m,m∈l'↔m=n∨m∈l):Kn (bZ kvs n (.int .i64 1)) l':=fun m=>by
 rw [cL,h m]
 by_cases hm:m=n
 ·rw [if_pos hm,if_pos ((hl m).2 (.inl hm))]
 ·rw [if_neg hm]
  by_cases hm2:m∈l
  ·rw [if_pos hm2,if_pos ((hl m).2 (.inr hm2))]
  ·rw [if_neg hm2,if_neg fun h=>((hl m).1 h).elim hm hm2]
theorem CR {x:Except cy St} (h:ja s D=some (x,D')) (hs:Sat W0 (nd b K s::ag K.d D::F) w) :
 Calls Tryz.prog 48 #[au b] w fun y w'=>∃ ve,y=.returned ve∧Sat W0 (Bh b K x::ag K.d D'::aL ve (dC x)::F) w':=by
 obtain ⟨hl,z,hs⟩:=hs.gM
 refine enter Tryz.func48 rfl Tryz.ntmps48 Tryz.results48 rfl ?_
 refine et ?_
 refine gB ?_
 refine dk rfl ?_
 refine eU (α:=Nat) (fun m=>[(0,au b),(3,.map (some m))]) (fun m w=>∃ kvs,Kn kvs [aN,s.log]∧Sat W0 (aO bP m kvs::blk b 133 (aj K z s)::ea K.d z s.levels::aS z.m s.mem::aO bF z.sn (aC s.snaps)::ag K.d D::F) w) ?_ ?_
 ·refine cx [blk b 133 (aj K z s)] [5] (.q 2 (.q 3 (.q 4 (.s 5 (.l 0 (.l2 1 (.l 6 (.q 7 (.q 8 .nil))) 6 (.l 1 (.q 7 (.q 8 .nil))))))))) hs (by kernel_rfl) ?_
  clear hs
  intro w hs
  refine ov ?_
  refine kr hs rfl ?_
  clear hs
  intro w m hs
  have hs:=hs.tG bP
  refine gB ?_
  refine dN hs.to ?_
  refine zG rfl rfl ?_ ?_
  ·refine oE bP (k:=aN) (v:=.int .i64 1) hs .here rfl rfl rfl rfl ?_
   clear hs
   intro w hs
   refine gB ?_
   refine dN hs.to ?_
   refine ov ?_
   refine oE bP (k:=s.log) (v:=.int .i64 1) hs .here rfl rfl rfl rfl ?_
   clear hs
   intro w hs
   refine gB ?_
   refine cZ rfl ?_
   refine ov ?_
   exact bE m ⟨rfl,rfl,trivial⟩ ⟨_,(Kn.nil.put (l':=[aN]) (by simp)).put (by simp [or_comm]),hs⟩
  ·refine oE bP (k:=s.log) (v:=.int .i64 1) hs .here rfl rfl rfl rfl ?_
   clear hs
   intro w hs
   refine gB ?_
   refine dN hs.to ?_
   refine ov ?_
   refine oE bP (k:=aN) (v:=.int .i64 1) hs .here rfl rfl rfl rfl ?_
   clear hs
   intro w hs
   refine gB ?_
   refine dN hs.to ?_
   refine ov ?_
   exact bE m ⟨rfl,rfl,trivial⟩ ⟨_,(Kn.nil.put (l':=[s.log]) (by simp)).put (by simp),hs⟩
 clear hs
 rintro m w ⟨kvs,hkn,hs⟩
 have hl4:s.levels.length=4:=hl
 refine gx ?_
 refine aK (α:=Nat×List (Bs×Value)) (fun q=>[(0,au b),(3,.map (some m)),(20,.agg #[z.l0,z.l1,z.l2,z.l3]),(21,.int .i64 (q.1:Int))])
  (fun q w=>(q.1≤4∧Kn q.2 ([aN,s.log]++(s.levels.take q.1).flatten.map (·.name)))∧Sat W0 (aO bP m q.2::blk b 133 (aj K z s)::ea K.d z s.levels::aS z.m s.mem::aO bF z.sn (aC s.snaps)::ag K.d D::F) w) (fun q=>4-q.1) (0,kvs) ⟨rfl,rfl,rfl,rfl,trivial⟩ ⟨⟨Nat.zero_le _,by simpa using hkn⟩,hs⟩ ?_
 clear hs hkn
 rintro ⟨i,kvs⟩ w ⟨⟨hi,hkn⟩,hs⟩
 dsimp only at hi hkn hs ⊢
 by_cases hlt:i<4
 ·have hgl:s.levels[i]?=some s.levels[i]:=List.getElem?_eq_getElem (by omega)
  have htk:s.levels.take (i+1)=s.levels.take i++[s.levels[i]]:=by rw [List.take_add_one,hgl];rfl
  generalize s.levels[i]=Ts at hgl htk
  obtain ⟨lv,hlv,hs⟩:=(hs.take (.there (.there .here))).ph hgl hlt
  obtain ⟨ps,hps,hs⟩:=hs.iZ
  obtain ⟨al,cl,rfl,hc1,hc2⟩:=hs.aB
  have hpl:ps.length≤9223372036854775807:=by simp only [maxLen] at hc2;omega
  have hint:((i:Int)<4):=by omega
  refine gx ?_
  refine H2 (m:=i) (vs:=[z.l0,z.l1,z.l2,z.l3]) rfl rfl rfl rfl rfl rfl hlt hlv rfl ?_
  refine gx ?_
  refine aK (α:=Nat×List (Bs×Value)) (fun q=>[(0,au b),(3,.map (some m)),(20,.agg #[z.l0,z.l1,z.l2,z.l3]),(21,.int .i64 (i:Int)),(24,.slice al ps.length cl),(25,.int .i64 (ps.length:Int)),(26,.int .i64 (q.1:Int))])
   (fun q w=>(q.1≤ps.length∧Kn q.2 ([aN,s.log]++(s.levels.take i).flatten.map (·.name)++(Ts.take q.1).map (·.name)))∧Sat W0 (aI 1 (.slice al ps.length cl) 193 ps.length (ps.map au)::star (List.zipWith (cE K.d) ps Ts)::Gu K.d z s.levels i::aO bP m q.2::blk b 133 (aj K z s)::aS z.m s.mem::aO bF z.sn (aC s.snaps)::ag K.d D::F) w) (fun q=>ps.length-q.1) (0,kvs) ⟨rfl,rfl,rfl,rfl,rfl,rfl,rfl,trivial⟩ ⟨⟨Nat.zero_le _,by simpa using hkn⟩,hs.to⟩ ?_
  clear hs hkn
  rintro ⟨j,kvs⟩ w ⟨⟨hj,hkn⟩,hs⟩
  dsimp only at hj hkn hs ⊢
  by_cases hlj:j<ps.length
  ·have gp:ps[j]?=some ps[j]:=List.getElem?_eq_getElem hlj
   have gT:Ts[j]?=some (Ts[j]'(by omega)):=List.getElem?_eq_getElem (by omega)
   have htj:Ts.take (j+1)=Ts.take j++[Ts[j]'(by omega)]:=by rw [List.take_add_one,gT];rfl
   have hzj:=db (cE K.d) gp gT
   generalize Ts[j]'(by omega)=T at gT htj hzj
   generalize ps[j]=p at gp hzj
   have hspj:=dM hzj
   obtain ⟨bq,cap,rs,hv,q1,q2,q3,hs2⟩:=hs.dr (by omega)
   obtain ⟨rfl,_,rfl⟩:=Value.slice.inj hv
   have hcell:(ps.map au++rs)[0+j*1]?=some (au p):=by
    rw [Nat.zero_add,Nat.mul_one,List.getElem?_append_left (by simpa using hlj),List.getElem?_map,gp];rfl
   refine gx ?_
   refine cK (i:=j) rfl rfl rfl rfl rfl hlj rfl ?_
   refine eE hs2 rfl rfl .here hcell rfl ?_
   clear hs2
   have hs:=hs.take (.there .here)
   rw [hspj] at hs
   obtain ⟨bv,hs⟩:=hs.fL.mK
   refine gx ?_
   refine iP bP (k:=T.name) (v:=.int .i64 1) hs (by repeat (first|exact ib.here|apply ib.there)) rfl rfl rfl rfl ?_
   clear hs
   intro w hs
   refine gx ?_
   refine aA (j+1,bZ kvs T.name (.int .i64 1)) ⟨rfl,rfl,rfl,rfl,rfl,rfl,rfl,trivial⟩ ⟨⟨hlj,?_⟩,?_⟩ (by show _-(j+1)<_-j;omega)
   ·refine hkn.put fun x=>?_
    rw [htj]
    simp only [List.map_append,List.map_cons,List.map_nil,List.mem_append,List.mem_singleton]
    constructor
    ·rintro (h|h|h)
     ·exact .inr (.inl h)
     ·exact .inr (.inr h)
     ·exact .inl h
    ·rintro (h|h|h)
     ·exact .inr (.inr h)
     ·exact .inl h
     ·exact .inr (.inl h)
   ·have hs:=(hs.drop.drop).gu
    rw [← hspj] at hs
    exact hs.to
  ·have hje:j=ps.length:=by omega
   subst hje
   rw [hps,List.take_length] at hkn
   have hnl:¬ ((ps.length:Int)<(ps.length:Int)):=by omega
   refine gx ?_
   refine aA (i+1,kvs) ⟨rfl,rfl,rfl,rfl,trivial⟩ ⟨⟨hlt,?_⟩,?_⟩ (by show 4-(i+1)<4-i;omega)
   ·dsimp only
    rw [htk,List.flatten_append,List.map_append]
    simpa using hkn
   ·have hs:=Sat.H5 hgl hlv (Sat.jD hps hs)
    exact hs.to
 ·have hie:i=4:=by omega
  subst hie
  rw [List.take_of_length_le (by omega)] at hkn
  by_cases hnow:D.now.length≤gL
  case neg=>unfold ja at h;rw [if_neg hnow] at h;cases h
  unfold ja at h
  rw [if_pos hnow] at h
  rw [bG] at hnow
  refine gx ?_
  refine ae (met (IY (hs.take (.there (.there (.there (.there (.there .here)))))) hnow) ?_)
  clear hs
  rintro _ w ⟨lv,rfl,hs⟩
  refine ⟨_,rfl,?_⟩
  obtain ⟨al,cl,rfl,hc1,hc2⟩:=(hs.take (.there .here)).aB
  have hpl:(eQ D).length≤9223372036854775807:=by simp only [maxLen] at hc2;omega
  have hkn2:∀ n,ax kvs n=if fO s n=true then some (.int .i64 1) else none:=fun n=>by
   rw [hkn n]
   have:n∈([aN,s.log]++s.levels.flatten.map (·.name))↔fO s n=true:=by
    unfold fO
    simp only [Bool.or_eq_true,decide_eq_true_eq,List.any_eq_true,List.mem_append,List.mem_cons,List.not_mem_nil,or_false,List.mem_map]
   by_cases hk:fO s n=true
   ·rw [if_pos hk,if_pos (this.2 hk)]
   ·rw [if_neg hk,if_neg fun hh=>hk (this.1 hh)]
  generalize hld:eQ D=ns at *
  refine gx ?_
  refine aK (α:=Nat×ad) (fun q=>[(0,au b),(3,.map (some m)),(42,.slice al ns.length cl),(43,.int .i64 (ns.length:Int)),(44,.int .i64 (q.1:Int))])
   (fun q w=>(q.1≤ns.length∧(match eO (((ns.drop q.1).filter fun n=>!fO s n).map .remove) q.2 with|none=>none|some (some e,D')=>some (.error e,D')|some (none,D')=>some (.ok s,D'))=some (x,D')) ∧
     Sat W0 (CL (.slice al ns.length cl) ns::aO bP m kvs::blk b 133 (aj K z s)::ea K.d z s.levels::aS z.m s.mem::aO bF z.sn (aC s.snaps)::ag K.d q.2::F) w) (fun q=>ns.length-q.1) (0,D) ⟨rfl,rfl,rfl,rfl,rfl,trivial⟩ ⟨⟨Nat.zero_le _,by rw [List.drop_zero];exact h⟩,hs.to⟩ ?_
  clear hs h hld
  rintro ⟨i,D1⟩ w ⟨⟨hi,h⟩,hs⟩
  dsimp only at hi h hs ⊢
  by_cases hlt:i<ns.length
  ·rw [List.drop_eq_getElem_cons hlt,List.filter_cons] at h
   have hg:ns[i]?=some ns[i]:=List.getElem?_eq_getElem hlt
   generalize ns[i]=n at hg h
   obtain ⟨bq,cap,rs,hv,q1,q2,q3,hs2⟩:=hs.dr (by omega)
   obtain ⟨rfl,_,rfl⟩:=Value.slice.inj hv
   have hcell:(ns.map str++rs)[0+i*1]?=some (str n):=by
    rw [Nat.zero_add,Nat.mul_one,List.getElem?_append_left (by simpa using hlt),List.getElem?_map,hg];rfl
   refine gx ?_
   refine cK (i:=i) rfl rfl rfl rfl rfl hlt rfl ?_
   refine eE hs2 rfl rfl .here hcell rfl ?_
   clear hs2
   refine gx ?_
   refine lL bP (k:=n) (z:=.int .i64 0) hs (.there .here) rfl rfl rfl rfl rfl ?_
   rw [hkn2 n]
   cases hk:fO s n with
   | true=>
    rw [hk] at h
    refine gx ?_
    refine aA (i+1,D1) ⟨rfl,rfl,rfl,rfl,rfl,trivial⟩ ⟨⟨hlt,by simpa using h⟩,hs⟩ (by show _-(i+1)<_-i;omega)
   | false=>
    rw [hk,if_pos (by simp),List.map_cons,eO] at h
    refine gx ?_
    cases hro:eG D1 (.remove n) with
    | none=>rw [hro] at h;cases h
    | some r=>
     obtain ⟨eo,D2⟩:=r
     rw [hro] at h
     unfold eG at hro
     dsimp only at hro
     split at hro
     ·rename_i hmv
      rw [bG] at hmv
      simp only [Option.some.injEq,Prod.mk.injEq] at hro
      obtain ⟨rfl,rfl⟩:=hro
      refine ae (met (tW (n:=n) (hs.take (.there (.there (.there (.there (.there (.there .here))))))) hmv) ?_)
      clear hs
      rintro _ w ⟨ve,rfl,hs⟩
      refine ⟨_,rfl,?_⟩
      cases hc:bg D1 n with
      | some e=>
       rw [hc] at h hs
       simp only [Option.some.injEq,Prod.mk.injEq] at h
       obtain ⟨rfl,rfl⟩:=h
       obtain ⟨t,u,rfl⟩:=(hs.take (.there .here)).aV
       refine gx ?_
       exact ak rfl ⟨_,rfl,Sat.jQ (Sat.bJ (z:=z) hl hs.to)⟩
      | none=>
       rw [hc] at h hs
       dsimp only at h
       have hve:=(hs.take (.there .here)).cD
       subst hve
       refine gx ?_
       exact aA (i+1,fe D1 n) ⟨rfl,rfl,rfl,rfl,rfl,trivial⟩ ⟨⟨hlt,h⟩,hs.to⟩ (by show _-(i+1)<_-i;omega)
     ·cases hro
  ·have hie:i=ns.length:=by omega
   subst hie
   rw [List.drop_length] at h
   simp only [List.filter_nil,List.map_nil,eO,Option.some.injEq,Prod.mk.injEq] at h
   obtain ⟨rfl,rfl⟩:=h
   have hnl:¬ ((ns.length:Int)<(ns.length:Int)):=by omega
   refine gx ?_
   refine ak rfl ⟨_,rfl,?_⟩
   have:=Sat.dW (Sat.bJ (K:=K) (z:=z) (s:=s) hl (hs.to (a:=blk b 133 (aj K z s)::ea K.d z s.levels::aS z.m s.mem::aO bF z.sn (aC s.snaps)::ag K.d D1::F)))
   exact this.to
end
section
open Go.Proofs.YtecibefflhomdaaGreatDoor.Pure (ad ax bZ cL)
attribute [local irreducible] IntKind.wrap
variable {W0 w:World} {F:List ah} {b d:Nat} {D D':ad} {K:SK} {z:SZ} {s:St}
theorem CS {x:Except cy St} (h:jW K.o s D=some (x,D')) (hW:jP W0) (hs:Sat W0 (nd b K s::ag K.d D::F) w) :
 Calls Tryz.prog 49 #[au b] w fun y w'=>∃ ve,y=.returned ve∧Sat W0 (Bh b K x::ag K.d D'::aL ve (dC x)::F) w':=by
 unfold jW at h
 refine enter Tryz.func49 rfl Tryz.ntmps49 Tryz.results49 rfl ?_
 obtain ⟨hl,z,hs⟩:=hs.gM
 refine gx ?_
 refine ae (met (tZ (hs.take (.there (.there .here)))) ?_)
 clear hs
 rintro _ w ⟨rfl,hs⟩
 refine ⟨_,rfl,?_⟩
 by_cases hm:0<s.mem.length
 ·rw [if_pos hm] at h
  have hm':(s.mem.length:Int) > 0:=by omega
  have hs:=Sat.bJ (z:=z) hl (hs.to (a:=blk b 133 (aj K z s)::ea K.d z s.levels::aS z.m s.mem::aO bF z.sn (aC s.snaps)::ag K.d D::F))
  refine gx ?_
  refine ae (met (nM h hW hs) ?_)
  clear hs
  rintro _ w ⟨ve,rfl,hs⟩
  refine ⟨_,rfl,gx ?_⟩
  exact ak rfl ⟨_,rfl,hs⟩
 ·rw [if_neg hm] at h
  have hm':¬ (s.mem.length:Int) > 0:=by omega
  refine gx ?_
  cases hcm:gA s D true with
  | none=>rw [hcm] at h;cases h
  | some r=>
   obtain ⟨xc,D1⟩:=r
   rw [hcm] at h
   refine ae (met (uH hcm hl hW (hs.to (a:=blk b 133 (aj K z s)::ea K.d z s.levels::ag K.d D::aS z.m s.mem::aO bF z.sn (aC s.snaps)::F))) ?_)
   clear hs hcm
   rintro _ w ⟨ve,s',rfl,hs',⟨nu,lo,hs2⟩,hs⟩
   refine ⟨_,rfl,?_⟩
   have hl3:s'.levels.length=4:=by rw [hs2];exact hl
   have hcl:Sat W0 (nd b K s'::ag K.d D1::aL ve (dC xc)::F) w:=by
    refine Sat.bJ (z:=z) hl3 ?_
    have e1:s'.levels=s.levels:=by rw [hs2]
    have e2:s'.mem=s.mem:=by rw [hs2]
    have e3:s'.snaps=s.snaps:=by rw [hs2]
    rw [e1,e2,e3]
    exact hs.to
   clear hs
   cases xc with
   | error e=>
    simp only [dE,Option.some.injEq,Prod.mk.injEq] at h
    obtain ⟨rfl,rfl⟩:=h
    obtain ⟨t,u,rfl⟩:=(hcl.take (.there (.there .here))).aV
    refine gx ?_
    refine ak rfl ⟨_,rfl,?_⟩
    exact Sat.jQ (e:=e) hcl
   | ok s3=>
    obtain rfl:=hs' s3 rfl
    simp only [dE] at h
    have hve:=(hcl.take (.there (.there .here))).cD
    subst hve
    refine gx ?_
    refine ae (met (su h hW hcl) ?_)
    clear hcl
    rintro _ w ⟨ve,rfl,hs⟩
    refine ⟨_,rfl,gx ?_⟩
    exact ak rfl ⟨_,rfl,hs.to⟩
def NA (o:jX):Nat→St→ad→Out St
 | 0,_,D=>iy o D
 | 1,s,D=>dE (ja s D) fun s D=>jW o s D
 | 2,s,D=>jW o s D
 | _,s,D=>some (.ok s,D)
theorem I3 {o:jX} {i:Nat} {s:St} {D D':ad} {x:Except cy St} (h:NA o i s D=some (x,D')) (hi:i<3) :
 ∃ y D1,(match i with|0=>nP D|1=>ja s D|_=>jW o s D)=some (y,D1)∧((∃ e,y=.error e∧x=.error e∧D'=D1)∨∃ s1,y=.ok s1∧NA o (i+1) s1 D1=some (x,D')):=by
 have key:∀ (a:Out St) (k:St→ad→Out St),dE a k=some (x,D')→∃ y D1,a=some (y,D1)∧((∃ e,y=.error e∧x=.error e∧D'=D1)∨∃ s1,y=.ok s1∧k s1 D1=some (x,D')):=by
  intro a k h
  cases a with
  | none=>cases h
  | some r=>
   obtain ⟨y,D1⟩:=r
   cases y with
   | error e=>simp only [dE,Option.some.injEq,Prod.mk.injEq] at h;exact ⟨_,_,rfl,.inl ⟨e,rfl,h.1.symm,h.2.symm⟩⟩
   | ok s1=>exact ⟨_,_,rfl,.inr ⟨s1,rfl,h⟩⟩
 match i,hi with
 | 0,_=>exact key _ _ h
 | 1,_=>exact key _ _ h
 | 2,_=>
  refine ⟨x,D',h,?_⟩
  cases x with
  | error e=>exact .inl ⟨e,rfl,rfl,rfl⟩
  | ok s1=>exact .inr ⟨s1,rfl,rfl⟩
def I4 (d:Nat) (o:jX) (v:Value):Except cy St→ah
 | .ok s=>fun h=>∃ b,v=au b∧fx b d o false none s h
 | .error _=>fun _=>v=.pointer none
theorem kQ {o:jX} {x:Except cy St} (h1:1≤o.memory∧o.memory≤32) (h2:2≤o.tables∧o.tables≤6) (h:iy o D=some (x,D')) (hW:jP W0) (hE:kP W0) (hs:Sat W0 (ag d D::F) w) :
 Calls Tryz.prog 18 #[au d,.agg #[.int .i64 (o.memory:Int),.int .i64 (o.tables:Int)]] w fun y w'=>∃ pv ve,y=.returned (.tuple #[pv,ve])∧Sat W0 (I4 d o pv x::ag d D'::aL ve (dC x)::F) w':=by
 refine enter Tryz.func18 rfl Tryz.ntmps18 Tryz.results18 rfl ?_
 have g1:¬ ((o.memory:Int)<1):=by omega
 have g2:¬ ((o.memory:Int) > 32):=by omega
 have g3:¬ ((o.tables:Int)<2):=by omega
 have g4:¬ ((o.tables:Int) > 6):=by omega
 refine gx ?_
 refine cC hs ?_
 clear hs
 intro w b3 hs
 refine gx ?_
 refine bw [.slice none 0 0] ?_
 refine cC hs ?_
 clear hs
 intro w m hs
 refine gx ?_
 refine kr hs rfl ?_
 clear hs
 intro w sn hs
 have hs:=hs.tG bF
 refine gx ?_
 refine bw (aj (KS d o false .nilIface 0) ⟨m,.slice none 0 0,.slice none 0 0,.slice none 0 0,.slice none 0 0,sn⟩ oO) ?_
 refine cC hs ?_
 clear hs
 intro w b hs
 refine gx ?_
 refine iT [.func (.func 47) #[au b] #[],.func (.func 48) #[au b] #[],.func (.func 49) #[au b] #[]] hs ?_
 clear hs
 intro w bf hs
 have h0:Sat W0 (aS m []::ea d ⟨m,.slice none 0 0,.slice none 0 0,.slice none 0 0,.slice none 0 0,sn⟩ [[],[],[],[]]::blk bf 107 [.func (.func 47) #[au b] #[],.func (.func 48) #[au b] #[],.func (.func 49) #[au b] #[]]::blk b 133 (aj (KS d o false .nilIface 0) ⟨m,.slice none 0 0,.slice none 0 0,.slice none 0 0,.slice none 0 0,sn⟩ oO)::aO bF sn []::ag d D::F) w:=by
  have h2:=Sat.wG (d:=d) (Sat.wG (d:=d) (Sat.wG (d:=d) (Sat.wG (d:=d) hs)))
  have h3:=h2.Ce (z:=⟨m,.slice none 0 0,.slice none 0 0,.slice none 0 0,.slice none 0 0,sn⟩) (t0:=[]) (t1:=[]) (t2:=[]) (t3:=[])
  have h4:=Sat.dA (k:=4) (E:=256) h3
  have h5:=Sat.iX (m:=m) (v:=.slice none 0 0) (l:=[]) (h4.to (a:=blk m 120 [.slice none 0 0]::iW (.slice none 0 0) []::ea d ⟨m,.slice none 0 0,.slice none 0 0,.slice none 0 0,.slice none 0 0,sn⟩ [[],[],[],[]]::blk bf 107 [.func (.func 47) #[au b] #[],.func (.func 48) #[au b] #[],.func (.func 49) #[au b] #[]]::blk b 133 (aj (KS d o false .nilIface 0) ⟨m,.slice none 0 0,.slice none 0 0,.slice none 0 0,.slice none 0 0,sn⟩ oO)::aO bF sn []::ag d D::F))
  exact h5
 clear hs
 have hs:=Sat.bJ (K:=KS d o false .nilIface 0) (z:=⟨m,.slice none 0 0,.slice none 0 0,.slice none 0 0,.slice none 0 0,sn⟩) (s:=oO) (b:=b) rfl (h0.to (a:=blk b 133 (aj (KS d o false .nilIface 0) ⟨m,.slice none 0 0,.slice none 0 0,.slice none 0 0,.slice none 0 0,sn⟩ oO)::ea d ⟨m,.slice none 0 0,.slice none 0 0,.slice none 0 0,.slice none 0 0,sn⟩ [[],[],[],[]]::aS m []::aO bF sn []::ag d D::blk bf 107 [.func (.func 47) #[au b] #[],.func (.func 48) #[au b] #[],.func (.func 49) #[au b] #[]]::F))
 clear h0
 refine gx ?_
 refine aK (α:=Nat×St×ad) (fun q=>[(6,au b),(42,.slice (some ⟨bf,0,none⟩) 3 3),(43,.int .i64 3),(44,.int .i64 (q.1:Int))])
  (fun q w=>(q.1≤3∧(q.1=0→q.2.1=oO)∧NA o q.1 q.2.1 q.2.2=some (x,D'))∧Sat W0 (nd b (KS d o false .nilIface 0) q.2.1::ag d q.2.2::blk bf 107 [.func (.func 47) #[au b] #[],.func (.func 48) #[au b] #[],.func (.func 49) #[au b] #[]]::F) w) (fun q=>3-q.1) (0,oO,D) ⟨rfl,rfl,rfl,rfl,trivial⟩ ⟨⟨Nat.zero_le _,fun _=>rfl,h⟩,hs⟩ ?_
 clear hs h
 rintro ⟨i,s,D1⟩ w ⟨⟨hi,hi0,h⟩,hs⟩
 dsimp only at hi hi0 h hs ⊢
 by_cases hlt:i<3
 ·have hint:((i:Int)<3):=by omega
  obtain ⟨y,D2,hy,hr⟩:=I3 h hlt
  have hend:∀ (ve:Value) (w:World),Sat W0 (Bh b (KS d o false .nilIface 0) y::ag d D2::aL ve (dC y)::blk bf 107 [.func (.func 47) #[au b] #[],.func (.func 48) #[au b] #[],.func (.func 49) #[au b] #[]]::F) w →
   (∃ e,y=.error e∧Sat W0 (I4 d o (.pointer none) x::ag d D'::aL ve (dC x)::F) w)∨∃ s1,y=.ok s1∧ve=.nilIface∧NA o (i+1) s1 D2=some (x,D')∧Sat W0 (nd b (KS d o false .nilIface 0) s1::ag d D2::blk bf 107 [.func (.func 47) #[au b] #[],.func (.func 48) #[au b] #[],.func (.func 49) #[au b] #[]]::F) w:=by
   intro ve w hs
   rcases hr with ⟨e,rfl,rfl,rfl⟩|⟨s1,rfl,hr⟩
   ·refine .inl ⟨e,rfl,?_⟩
    have h2:=hs.to (a:=ag d D'::aL ve (dC (.error e:Except cy St))::F)
    exact h2.imp fun hp r=>⟨fun _=>none,hp,fun _ _ _ hx=>(by cases hx),fun _ _ hx=>(by cases hx),Hp.le_refl _,rfl,r⟩
   ·have hve:=(hs.take (.there (.there .here))).cD
    exact .inr ⟨s1,rfl,hve,hr,hs.to⟩
  obtain ⟨f,hf1,hf2,hcall⟩:∃ f,([.func (.func 47) #[au b] #[],.func (.func 48) #[au b] #[],.func (.func 49) #[au b] #[]]:List Value)[0+i*1]?=some (.func (.func f) #[au b] #[])∧lk tp f=some () ∧
   Calls Tryz.prog f #[au b] w fun z w'=>∃ ve,z=.returned ve∧Sat W0 (Bh b (KS d o false .nilIface 0) y::ag d D2::aL ve (dC y)::blk bf 107 [.func (.func 47) #[au b] #[],.func (.func 48) #[au b] #[],.func (.func 49) #[au b] #[]]::F) w':=by
   match i,hlt,hi0,hy with
   | 0,_,hi0,hy=>
    have:=hi0 rfl
    subst this
    exact ⟨47,rfl,rfl,F7 (K:=KS d o false .nilIface 0) hy hE hs⟩
   | 1,_,_,hy=>exact ⟨48,rfl,rfl,CR (K:=KS d o false .nilIface 0) hy hs⟩
   | 2,_,_,hy=>exact ⟨49,rfl,rfl,CS (K:=KS d o false .nilIface 0) hy hW hs⟩
  refine gx ?_
  refine cK (i:=i) rfl rfl rfl rfl rfl hlt rfl ?_
  refine eE hs rfl rfl (.there (.there .here)) hf1 rfl ?_
  refine gx ?_
  refine iK rfl hf2 rfl rfl (met hcall ?_)
  clear hs hcall
  rintro _ w ⟨ve,rfl,hs⟩
  refine ⟨_,rfl,?_⟩
  cases y with
  | error e=>
   obtain ⟨t,u,rfl⟩:=(hs.take (.there (.there .here))).aV
   rcases hend _ w hs with ⟨e',_,hs⟩|⟨s1,h1,_⟩
   ·refine gx ?_
    exact ak rfl ⟨_,_,rfl,hs⟩
   ·cases h1
  | ok s2=>
   rcases hend _ w hs with ⟨e',h1,_⟩|⟨s1,h1,rfl,h3,h4⟩
   ·cases h1
   ·cases h1
    clear hs
    refine gx ?_
    exact aA (i+1,s2,D2) ⟨rfl,rfl,rfl,rfl,trivial⟩ ⟨⟨hlt,fun hh=>(by omega),h3⟩,h4⟩ (by show 3-(i+1)<3-i;omega)
 ·have hie:i=3:=by omega
  subst hie
  simp only [NA,Option.some.injEq,Prod.mk.injEq] at h
  obtain ⟨rfl,rfl⟩:=h
  refine gx ?_
  refine ak rfl ⟨_,_,rfl,?_⟩
  have hs:=Sat.dW hs
  have hs:=Sat.dW hs
  have hs:=Sat.yq (o:=o) (cl:=false) (be:=none) (br:=.nilIface) (hs.to (a:=nd b (KS d o false .nilIface 0) s::aL .nilIface none::ag d D1::aL .nilIface none::F))
  exact hs.head fun _ k=>⟨b,rfl,k⟩
end
section
open Go.Proofs.YtecibefflhomdaaGreatDoor.Pure (ad bX aQ aR dJ kW kV)
attribute [local irreducible] IntKind.wrap
section
variable {ops:Array Oper} {Q:Exit→Act→World→Prop} {n:Nat} {ds:Md} {e:Env} {w w':World} {rest:List Oper}
variable {op:Op} {ty:TypeId} {pos:String} {af:Array Edge} {d:Nat} {v u:Value}
attribute [local semireducible] WL WC WQ
theorem I5 (k:Nat) (p q:Bool) (w:World):(Op.equalIn (k+1) 4 (.bool p) (.bool q)).run Tryz.prog w=.ok (p==q) w:=by
 unfold Op.equalIn
 simp only [Sem.run_bind,cj Tryz.underlying4,Result.andThen_ok]
 rfl
theorem I6 (p q:Bool) (w:World):(Op.equal 4 (.bool p) (.bool q)).run Tryz.prog w=.ok (p==q) w:=I5 9999 p q w
theorem vj {t2:TypeId} {x y:Operand} {p q:Bool} (b:Bool) (hx:ev e x=some (.bool p)) (hy:ev e y=some (.bool q)) (hb:(!(p==q))=b) (hd:Nat.blt d n=true)
 (k:WL ops Q n ds rest ((d,.bool b)::e) w):WL ops Q n ds (⟨some d,.binOp .neq 4 x y t2,ty,pos,af,none⟩::rest) e w:=by
 refine yE (vx:=.bool p) (vy:=.bool q) hx hy (by simp [eqGuard]) ?_ hd k
 subst hb
 simp [Go.binOp,I6]
end
variable {W0 w:World} {F:List ah} {v:Value} {rb:Nat} {r:Gw}
theorem CU (a:Int):IntKind.u64.wrap a=(((IntKind.u64.wrap a).toNat:Nat):Int):=by
 rw [IntKind.wrap_u64]
 omega
def rU (a:Int) (k:Nat):Nat:=(IntKind.u64.wrap a).toNat%k
theorem tb (a:Int) {k:Nat} (h:0<k):rU a k<k:=Nat.mod_lt _ h
def K7 (m t:Nat):Bool:=decide (1≤m∧m≤32∧2≤t∧t≤6)
end
section
open Go.Proofs.YtecibefflhomdaaGreatDoor.Pure
structure WS where
 b:Nat
 d:Nat
 rb:Nat
 vo:Value
 vw:Value
 o:jX
 s:St
 D:ad
 r:Gw
 det:Option (Nat×ad)
 out:List (Bs×Bs)
variable {X:WS} {E B N:Nat}
theorem Ej:∀ l:List bX,ir (pB l)=rQ l
 | []=>rfl
 | c::r=>by
  unfold pB rQ
  by_cases h1:c.key.length=0∨8<c.key.length
  ·rw [if_pos h1,if_pos h1];rfl
  ·rw [if_neg h1,if_neg h1]
   by_cases h2:c.del=false∧16<c.val.length
   ·rw [if_pos h2,if_pos h2];rfl
   ·rw [if_neg h2,if_neg h2];exact Ej r
theorem AX:∀ l:List bX,pB l=none↔rQ l=0
 | []=>by simp [pB,rQ]
 | c::r=>by
  unfold pB rQ
  by_cases h1:c.key.length=0∨8<c.key.length
  ·rw [if_pos h1,if_pos h1];simp
  ·rw [if_neg h1,if_neg h1]
   by_cases h2:c.del=false∧16<c.val.length
   ·rw [if_pos h2,if_pos h2];simp
   ·rw [if_neg h2,if_neg h2];exact AX r
theorem KB (cl:Bool) (r:Gw) (hr:r.closed=cl) (l:List bX):ir (mh cl none l)=Ed r l∧(mh cl none l=none↔(cl=false∧gr l=0)):=by
 subst hr
 unfold mh Ed gr oF
 cases r.closed with
 | true=>simp [ir]
 | false=>
  simp only [Bool.false_eq_true,if_false]
  by_cases h8:8<l.length
  ·simp [h8,ir]
  ·simp only [h8,if_false,true_and]
   exact ⟨Ej l,AX l⟩
end
section
open Go.Proofs.YtecibefflhomdaaGreatDoor.Pure (ad bX aQ aR dJ kW kV)
attribute [local irreducible] IntKind.wrap
variable {W0 w:World} {F:List ah} {p:Nat} {X:WS} {E B N:Nat}
theorem Sat.NB (h:Sat W0 F w):Sat W0 ((fun _=>True)::F) w:=h.imp fun hp r=>⟨fun _=>none,hp,fun _ _ _ hx=>(by cases hx),fun _ _ hx=>(by cases hx),Hp.le_refl _,trivial,r⟩
end
section
open Go.Proofs.YtecibefflhomdaaGreatDoor.Pure (ad bX aQ aR dJ kW kV)
attribute [local irreducible] IntKind.wrap
variable {W0 w:World} {F l:List ah} {p k:Nat} {X:WS} {E B N:Nat} {v:Value} {rows:List (List Value)}
def N8 (b o:Nat) (cs:List Value):ah:=fun h=>∃ c E fr,h b=some (true,.cells c E fr)∧∀ j u,cs[j]?=some u→c[o+j]?=some u
theorem Sat.Mq {b o j:Nat} {cs:List Value} {u:Value} (h:Sat W0 (N8 b o cs::l) w) (hu:cs[j]?=some u):w.cell? ⟨b,o+j,none⟩=some u:=by
 obtain ⟨_,_,_,_,hp,h1,_,k⟩:=h
 obtain ⟨x1,x2,_,l1,_,⟨c,E,fr,hb,hc⟩,_⟩:=k
 have:=h1 _ _ (l1 _ _ hb)
 unfold World.cell?
 rw [this]
 exact hc j u hu
theorem xn.chunk (h:xn W0 k v rows) (hne:rows≠[]) (hk:0<k):∃ b o c,v=.slice (some ⟨b,o,none⟩) rows.length c∧∀ {l:List ah} {w:World},Sat W0 l w→Sat W0 (N8 b o rows.flatten::l) w:=by
 obtain ⟨b,o,c,h1,h2⟩:=h.2.2 hne
 refine ⟨b,o,c,h1,fun {l w} hs=>?_⟩
 have hlen:0<rows.flatten.length:=by
  rw [nE h.2.1]
  have:0<rows.length:=by cases rows with|nil=>exact absurd rfl hne|cons _ _=>simp
  exact Nat.mul_pos this hk
 have h3:=h2 0 _ (List.getElem?_eq_getElem hlen)
 unfold World.cell? at h3
 cases hb:W0.heap[b]? with
 | none=>rw [show W0.heap[(⟨b,o+0,none⟩:Addr).block]?=_ from hb] at h3;cases h3
 | some ob0=>
  rw [show W0.heap[(⟨b,o+0,none⟩:Addr).block]?=_ from hb] at h3
  cases ob0 with
  | cells cc EE fr=>
   have h4:=hs.old hb
   refine h4.head fun hp k=>⟨cc,EE,fr,k,fun j u hu=>?_⟩
   have h5:=h2 j u hu
   unfold World.cell? at h5
   rw [show W0.heap[(⟨b,o+j,none⟩:Addr).block]?=_ from hb] at h5
   exact h5
  | _=>cases h3
theorem AY (l:List bX):∀ u∈(dF l).flatten,ej u=true:=fun u hu=>by
 obtain ⟨r,hr,hu⟩:=List.mem_flatten.1 hu
 obtain ⟨c,_,rfl⟩:=List.mem_map.1 hr
 simp [lC] at hu
 rcases hu with rfl|rfl|rfl<;>rfl
end
section
open Go.Proofs.YtecibefflhomdaaGreatDoor.Pure (bX)
section
variable {H:Type} {enc:TypeId×Value→H} {w:World} {base fuel:Nat} {sp:Nat→Bool} {held:Bool}
def Wt (t:TypeId) (d:DataW H):Prop:=∀ x∈DataW.weights Tryz.prog t d,x≤140737488355328
theorem sH {α:Type} {P:Nat→α→Prop}:∀ n:Nat,(∀ i,i<n→∃ a,P i a)→∃ l:List α,l.length=n∧∀ i a,l[i]?=some a→P i a
 | 0,_=>⟨[],rfl,fun i a h=>by simp at h⟩
 | n+1,h=>by
  obtain ⟨l,h1,h2⟩:=sH n fun i hi=>h i (by omega)
  obtain ⟨a,ha⟩:=h n (by omega)
  refine ⟨l++[a],by simp [h1],fun i b hb=>?_⟩
  by_cases hi:i<l.length
  ·rw [List.getElem?_append_left hi] at hb;exact h2 i b hb
  ·have hlt:=(List.getElem?_eq_some_iff.1 hb).1
   simp at hlt
   have:i=l.length:=by omega
   subst this
   rw [List.getElem?_append_right (Nat.le_refl _)] at hb
   simp at hb
   subst hb
   rw [h1];exact ha
theorem AZ {k:Nat} {u:Value}:∀ {rows:List (List Value)} {j:Nat},(∀ r∈rows,r.length=k)→rows.flatten[j]?=some u→∃ i r row,rows[i]?=some row∧j=i*k+r∧row[r]?=some u
 | [],_,_,h=>by simp at h
 | r::rows,j,hk,h=>by
  rw [List.flatten_cons] at h
  have hr:r.length=k:=hk r (by simp)
  by_cases hj:j<r.length
  ·rw [List.getElem?_append_left hj] at h
   exact ⟨0,j,r,rfl,by simp,h⟩
  ·rw [List.getElem?_append_right (by omega)] at h
   obtain ⟨i,r',row,h1,h2,h3⟩:=AZ (fun r hr=>hk r (by simp [hr])) h
   exact ⟨i+1,r',row,by simpa using h1,by rw [Nat.succ_mul];omega,h3⟩
theorem I7 {e:TypeId} {y:DataW H}:∀ {l:List (DataW H)},(∀ x∈DataW.weightsAll Tryz.prog e l,x≤140737488355328)→y∈l→Wt e y
 | d::r,h,hy=>by
  unfold DataW.weightsAll at h
  rcases List.mem_cons.1 hy with rfl|hy
  ·exact fun x hx=>h x (List.mem_append_left _ hx)
  ·exact I7 (fun x hx=>h x (List.mem_append_right _ hx)) hy
theorem xr {α:Type} {t e k:Nat} {rowOf:α→List Value} {R:α→Prop} {cs:List Value} {x:DataW H×List MemPlace} (ht:Tryz.prog.underlying t=some (.slice e)) (hc:Tryz.prog.cellsOf e=k) (hk:0<k) (hrow:∀ a,(rowOf a).length=k)
 (helem:∀ n cs y,DataW.trod enc Tryz.prog w base sp held n e cs=some y→Wt e y.1→∃ a,cs=rowOf a∧R a)
 (h:DataW.trod enc Tryz.prog w base sp held fuel t cs=some x) (hw:Wt t x.1) :
 ∃ (v:Value) (l:List α),cs=[v]∧xn w k v (l.map rowOf)∧(∀ a∈l,R a)∧∀ a n c,v=.slice a n c→n≤c:=by
 rcases DataW.trod_slice ht h with ⟨rfl,rfl⟩|⟨a,len,cap,elems,rest,n,rfl,rfl,rfl,_,hle,_,hlen,hel,_,_⟩
 ·exact ⟨_,[],rfl,⟨⟨none,0,rfl⟩,by simp,fun hh=>absurd rfl hh⟩,by simp,fun a n c hh=>by injection hh with _ h2 h3;omega⟩
 ·have hwe:∀ y∈elems,Wt e y.1:=fun y hy=>by
   unfold Wt DataW.weights at hw
   rw [ht] at hw
   exact I7 (l:=elems.map (·.1)) (fun z hz=>hw z (List.mem_cons_of_mem _ (List.mem_append_left _ hz))) (List.mem_map.2 ⟨y,hy,rfl⟩)
  have hall:∀ i,i<len→∃ b:α,R b∧∀ j u,(rowOf b)[j]?=some u→w.cell? ((a.add (i*k)).add j)=some u:=by
   intro i hi
   have h1:=hel i hi
   have hi':i<elems.length:=by omega
   rw [List.getElem?_eq_getElem hi',hc] at h1
   obtain ⟨ci,h2,h3⟩:=Option.bind_eq_some_iff.1 h1
   obtain ⟨b,rfl,hb⟩:=helem n ci _ h3 (hwe _ (List.getElem_mem hi'))
   obtain ⟨_,h5,h6⟩:=World.cells?_some h2
   refine ⟨b,hb,fun j u hu=>?_⟩
   have hj:j<k:=by rw [← hrow b];exact (List.getElem?_eq_some_iff.1 hu).1
   rw [h6 j hj];exact hu
  obtain ⟨l,hl1,hl2⟩:=sH (P:=fun i b=>R b∧∀ j u,(rowOf b)[j]?=some u→w.cell? ((a.add (i*k)).add j)=some u) len hall
  have hlm:(l.map rowOf).length=len:=by rw [List.length_map,hl1]
  refine ⟨_,l,rfl,⟨⟨some a,cap,by rw [hlm]⟩,fun r hr=>?_,fun hne=>?_⟩,fun b hb=>?_,fun a' n' c' hh=>by injection hh with _ h2 h3;omega⟩
  ·obtain ⟨b,_,rfl⟩:=List.mem_map.1 hr;exact hrow b
  ·have hpos:0<l.length:=by cases l with|nil=>exact absurd rfl hne|cons _ _=>simp
   have h0:=(hl2 0 _ (List.getElem?_eq_getElem hpos)).2 0 _ (List.getElem?_eq_getElem (by rw [hrow];exact hk))
   have hsp:a.spot=none:=by
    have:=World.cell?_spot h0
    simpa [Addr.add] using this
   obtain ⟨b0,o0,s0⟩:=a
   have hsp:s0=none:=hsp
   subst hsp
   refine ⟨b0,o0,cap,by rw [hlm],fun j u hu=>?_⟩
   obtain ⟨i,r,row,g1,rfl,g3⟩:=AZ (k:=k) (fun r hr=>by obtain ⟨b,_,rfl⟩:=List.mem_map.1 hr;exact hrow b) hu
   rw [List.getElem?_map] at g1
   obtain ⟨b,g4,rfl⟩:=Option.map_eq_some_iff.1 g1
   have:=(hl2 i b g4).2 r u g3
   rw [add_eq,add_eq] at this
   rw [← Nat.add_assoc];exact this
  ·obtain ⟨i,hi⟩:=List.mem_iff_getElem?.1 hb
   exact (hl2 i b hi).1
theorem I8 {cs:List Value} {x:DataW H×List MemPlace} (h:DataW.trod enc Tryz.prog w base sp held fuel 100 cs=some x) (hw:Wt 100 x.1) :
 ∃ c:bX,cs=lC c∧c.key.length≤140737488355328∧c.val.length≤140737488355328:=by
 obtain ⟨xs,n,rfl,rfl,hl,hx,hf⟩:=DataW.trod_struct Tryz.underlying100 h
 have c100:Tryz.prog.cellsOf 100=3:=by kernel_rfl
 have c9:Tryz.prog.cellsOf 9=1:=by kernel_rfl
 have c4:Tryz.prog.cellsOf 4=1:=by kernel_rfl
 rw [c100] at hl
 match cs,hl with
 | [v0,v1,v2],_=>
  match xs,hx with
  | [x0,x1,x2],_=>
   have f0:DataW.trod enc Tryz.prog w base sp held n 9 (([v0,v1,v2].drop 0).take (Tryz.prog.cellsOf 9))=some x0:=hf 0 _ rfl
   have f1:DataW.trod enc Tryz.prog w base sp held n 9 (([v0,v1,v2].drop 1).take (Tryz.prog.cellsOf 9))=some x1:=hf 1 _ rfl
   have f2:DataW.trod enc Tryz.prog w base sp held n 4 (([v0,v1,v2].drop 2).take (Tryz.prog.cellsOf 4))=some x2:=hf 2 _ rfl
   rw [c9] at f0 f1
   rw [c4] at f2
   obtain ⟨s0,e0,d0,_⟩:=DataW.trod_string Tryz.underlying9 (show _=some x0 from f0)
   obtain ⟨s1,e1,d1,_⟩:=DataW.trod_string Tryz.underlying9 (show _=some x1 from f1)
   obtain ⟨b2,e2,d2⟩:=DataW.trod_bool Tryz.underlying4 (show _=some x2 from f2)
   simp at e0 e1 e2
   subst e0 e1 e2 d0 d1 d2
   unfold Wt DataW.weights at hw
   rw [Tryz.underlying100] at hw
   simp only [List.map_cons,List.map_nil] at hw
   obtain ⟨⟨l0⟩⟩:=s0
   obtain ⟨⟨l1⟩⟩:=s1
   refine ⟨⟨l0,l1,b2⟩,rfl,hw _ ?_,hw _ ?_⟩
   ·simp [DataW.weightsEach,DataW.weights]
   ·simp [DataW.weightsEach,DataW.weights]
end
end
theorem I9:ownKnob Tryz.prog.godebug=none:=by kernel_rfl
end Go.Proofs.YtecibefflhomdaaGreatDoor
