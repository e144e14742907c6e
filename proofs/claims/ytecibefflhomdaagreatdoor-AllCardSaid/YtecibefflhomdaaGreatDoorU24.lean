/-
  Part 24: WALKS package levels; WALKS package levels.
-/
import Derived.Test.YtecibefflhomdaaGreatDoorU23
set_option maxHeartbeats 8000000
set_option maxRecDepth 100000
set_option linter.all false
namespace Go.Proofs.YtecibefflhomdaaGreatDoor
open Go
section
open Go.Proofs.YtecibefflhomdaaGreatDoor.Pure (PDisk Ent Rd openB less bltB searchL numB textB frameB putB dec beN)
attribute [local irreducible] IntKind.wrap
variable {W0 w:World} {F:List HProp} {v:Value} {d m p:Nat} {T:Tab} {D D':PDisk} {M:List Ent}
theorem tabsB_len:∀ (ls:List (List Tab)) (i:Nat),(∀ l∈ls,l.length≤1048576∧∀ T∈l,T.name.length≤255)→(tabsB i ls).length≤ls.length*269484032
 | [],_,_=>by simp [tabsB]
 | l::r,i,h=>by
  have ih:=tabsB_len r (i+1) fun x hx=>h x (List.mem_cons_of_mem _ hx)
  obtain ⟨h1,h2⟩:=h l List.mem_cons_self
  have key:∀ (l:List Tab),(∀ T∈l,T.name.length≤255)→((l.map fun T=>UInt8.ofNat i::textB T.name).flatten).length≤l.length*257:=by
   intro l
   induction l with
   | nil=>intro _;simp
   | cons T q ihq=>
    intro hl
    have a1:=hl T List.mem_cons_self
    have a2:=ihq fun x hx=>hl x (List.mem_cons_of_mem _ hx)
    simp only [List.map_cons,List.flatten_cons,List.length_append,List.length_cons,Pure.textB_length] at a2 ⊢
    omega
  have:=key l h2
  simp only [tabsB,List.length_append,List.length_cons]
  omega
theorem tabsB_app:∀ (a:List (List Tab)) (k:Nat) (l:List Tab),tabsB k (a++[l])=tabsB k a++(l.map fun T=>UInt8.ofNat (k+a.length)::textB T.name).flatten
 | [],k,l=>by simp [tabsB]
 | x::a,k,l=>by
  simp only [List.cons_append,tabsB,tabsB_app a (k+1) l,List.append_assoc,List.length_cons]
  rw [show k+1+a.length=k+(a.length+1) by omega]
theorem tabsB_take:∀ (ls:List (List Tab)) (i k:Nat),i≤ls.length→tabsB k ls=tabsB k (ls.take i)++tabsB (k+i) (ls.drop i)
 | _,0,k,_=>by simp [tabsB]
 | [],i+1,k,h=>by simp at h
 | l::r,i+1,k,h=>by
  simp only [List.take_succ_cons,List.drop_succ_cons,tabsB,List.append_assoc]
  rw [tabsB_take r i (k+1) (by simpa using h),show k+1+i=k+(i+1) by omega]
theorem fits_state {s:St} (h:fitsB s=true):s.number≤4611686018427387904∧s.seq≤4611686018427387904∧s.log.length≤255∧∀ l∈s.levels,l.length≤1048576∧∀ T∈l,T.name.length≤255:=by
 unfold fitsB at h
 simp only [Bool.and_eq_true,decide_eq_true_eq,Nat.ble_eq,List.all_eq_true] at h
 exact ⟨h.1.1.1,h.1.1.2,h.1.2,h.2⟩
def sthB (s:St):Bs:=numB s.number 8++numB s.seq 8++textB s.log
theorem stateB_eq (s:St):stateB s=sthB s++tabsB 0 s.levels:=rfl
theorem commit_spec {b:Nat} {K:SK} {z:SZ} {s:St} {t0 t1 t2 t3:List Tab} {nl:Bool} {x:Except Err St} (h:commitS s D nl=some (x,D')) (hlv:s.levels=[t0,t1,t2,t3]) (hW:PowW W0)
 (hs:Sat W0 (blk b 133 (stCells K z s)::lvC K.d z.l0 t0::lvC K.d z.l1 t1::lvC K.d z.l2 t2::lvC K.d z.l3 t3::DiskA K.d D::F) w) :
 Calls Tryz.prog 100 #[idV b,.bool nl] w fun y w'=>∃ ve s',y=.returned ve∧(∀ r,x=.ok r→s'=r)∧(∃ nu lo,s'={ s with number:=nu,log:=lo }) ∧
  Sat W0 (blk b 133 (stCells K z s')::lvC K.d z.l0 t0::lvC K.d z.l1 t1::lvC K.d z.l2 t2::lvC K.d z.l3 t3::DiskA K.d D'::errC ve (errX x)::F) w':=by
 refine enter Tryz.func100 rfl Tryz.ntmps100 Tryz.results100 rfl ?_
 refine gx ?_
 refine w_box hs ?_
 clear hs
 intro w bS hs
 refine gx ?_
 refine w_alloc hs ?_
 clear hs
 intro w b5 hs
 refine gx ?_
 refine w_st hs ?_
 clear hs
 intro w hs
 refine gxs ?_
 refine wq_then rfl ?_
 refine wc_cut (α:=St×PDisk) (fun _=>[(1,.bool nl),(2,idV bS),(5,idV b5)])
  (fun q w=>((∃ nu lo,q.1={ s with number:=nu,log:=lo })∧fitsB q.1=true∧∃ eo,runOps (stepsS q.1 (if nl=true then (if s.log=[] then none else some s.log) else none)) q.2=some (eo,D')∧x=(match eo with|some e=>.error e|none=>.ok q.1)) ∧
    Sat W0 (blk bS 31 [idV b]::blk b 133 (stCells K z q.1)::blk b5 9 [str s.log]::lvC K.d z.l0 t0::lvC K.d z.l1 t1::lvC K.d z.l2 t2::lvC K.d z.l3 t3::DiskA K.d q.2::F) w) ?_ ?_
 ·unfold commitS at h
  cases nl with
  | false=>
   simp only [Bool.false_eq_true,if_false] at h
   split at h
   ·rename_i hf
    refine gx ?_
    refine wq_cut (s,D) ⟨rfl,rfl,rfl,trivial⟩ ⟨⟨⟨s.number,s.log,rfl⟩,hf,?_⟩,hs.to⟩
    split at h
    ·cases h
    ·rename_i e D2 hr
     simp only [Option.some.injEq,Prod.mk.injEq] at h
     obtain ⟨rfl,rfl⟩:=h
     exact ⟨some e,hr,rfl⟩
    ·rename_i D2 hr
     simp only [Option.some.injEq,Prod.mk.injEq] at h
     obtain ⟨rfl,rfl⟩:=h
     exact ⟨none,hr,rfl⟩
   ·cases h
  | true=>
   simp only [if_true] at h
   by_cases hn:s.number≤4611686018427387904
   case neg=>rw [if_neg hn] at h;cases h
   rw [if_pos hn] at h
   refine gx ?_
   refine wc_draw [blk bS 31 [idV b]] [(0,false),(1,false),(2,true),(3,false),(4,false),(5,true)] hs (by kernel_rfl) ?_
   clear hs
   intro w hs
   refine gx ?_
   refine w_call (met (sname_spec (kind:=[108,111,103]) (hs.take (.there (.there .here))) (by decide) hn hW) ?_)
   clear hs
   rintro _ w ⟨rfl,hs⟩
   refine ⟨_,rfl,gx ?_⟩
   refine w_st hs ?_
   clear hs
   intro w hs
   have hs:Sat W0 (blk b 133 (stCells K z { s with number:=s.number+1,log:=logN (s.number+1) })::blk b5 9 [str s.log]::blk bS 31 [idV b]::lvC K.d z.l0 t0::lvC K.d z.l1 t1::lvC K.d z.l2 t2::lvC K.d z.l3 t3::DiskA K.d D::F) w:=hs
   refine gx ?_
   refine wc_draw [blk b 133 (stCells K z { s with number:=s.number+1,log:=logN (s.number+1) }),blk bS 31 [idV b]] [(0,false),(1,false),(2,false),(3,false),(4,false),(5,false),(6,false),(7,false),(8,true),(9,false)] hs (by kernel_rfl) ?_
   clear hs
   intro w hs
   refine gx ?_
   cases ho:runOp D (.create (logN (s.number+1))) with
   | none=>rw [ho] at h;cases h
   | some r=>
    obtain ⟨eo,D1⟩:=r
    rw [ho] at h
    unfold runOp at ho
    dsimp only at ho
    split at ho
    ·rename_i hm
     rw [big_eq] at hm
     simp only [Option.some.injEq,Prod.mk.injEq] at ho
     obtain ⟨rfl,rfl⟩:=ho
     refine w_call (met (create_a (n:=logN (s.number+1)) (hs.take (.there (.there (.there (.there (.there (.there (.there .here)))))))) hm) ?_)
     clear hs
     rintro _ w ⟨ve,rfl,hs⟩
     refine ⟨_,rfl,?_⟩
     cases hc:createE D (logN (s.number+1)) with
     | some e=>
      rw [hc] at h hs
      simp only [Option.some.injEq,Prod.mk.injEq] at h
      obtain ⟨rfl,rfl⟩:=h
      obtain ⟨t,u,rfl⟩:=(hs.take (.there .here)).errIface
      refine gx ?_
      refine wq_ret rfl ⟨_,{ s with number:=s.number+1,log:=logN (s.number+1) },rfl,fun r hr=>(by cases hr),⟨_,_,rfl⟩,?_⟩
      exact hs.to
     | none=>
      rw [hc] at h hs
      dsimp only at h
      have hve:=(hs.take (.there .here)).errIs
      subst hve
      by_cases hf:fitsB { s with number:=s.number+1,log:=logN (s.number+1) }=true
      case neg=>rw [if_neg hf] at h;cases h
      rw [if_pos hf] at h
      refine gx ?_
      refine wq_cut ({ s with number:=s.number+1,log:=logN (s.number+1) },createD D (logN (s.number+1))) ⟨rfl,rfl,rfl,trivial⟩ ⟨⟨⟨_,_,rfl⟩,hf,?_⟩,hs.to⟩
      simp only [if_true]
      split at h
      ·cases h
      ·rename_i e D2 hr
       simp only [Option.some.injEq,Prod.mk.injEq] at h
       obtain ⟨rfl,rfl⟩:=h
       exact ⟨some e,hr,rfl⟩
      ·rename_i D2 hr
       simp only [Option.some.injEq,Prod.mk.injEq] at h
       obtain ⟨rfl,rfl⟩:=h
       exact ⟨none,hr,rfl⟩
    ·cases ho
 clear hs h
 rintro ⟨s1,D1⟩ w ⟨⟨⟨nu,lo,hs1⟩,hfit,eo,hrun,hx⟩,hs⟩
 dsimp only at hs1 hfit hrun hx hs
 have hlv1:s1.levels=[t0,t1,t2,t3]:=by rw [hs1];exact hlv
 obtain ⟨f1,f2,f3,f4⟩:=fits_state hfit
 have hstl:(stateB s1).length≤1200000000:=by
  have:=tabsB_len s1.levels 0 f4
  rw [hlv1] at this
  rw [stateB_eq,hlv1]
  simp only [sthB,List.length_append,Pure.numB_length,Pure.textB_length,List.length_cons,List.length_nil] at this ⊢
  omega
 refine wc_cut (α:=Nat×Value) (fun q=>[(1,.bool nl),(2,idV bS),(5,idV b5),(7,idV q.1)])
  (fun q w=>Sat W0 (blk q.1 93 [q.2]::bytS q.2 (sthB s1)::blk bS 31 [idV b]::blk b 133 (stCells K z s1)::blk b5 9 [str s.log]::lvC K.d z.l0 t0::lvC K.d z.l1 t1::lvC K.d z.l2 t2::lvC K.d z.l3 t3::DiskA K.d D1::F) w) ?_ ?_
 ·refine wc_tree [blk bS 31 [idV b],blk b 133 (stCells K z s1)] [0,3,5,8,10,13] (.s 0 (.q 1 (.q 2 (.s 3 (.s 5 (.q 6 (.q 7 (.s 8 (.s 10 (.q 11 (.q 12 (.s 13 (.l2 4 (.l2 9 (.l2 14 (.l 15 (.l 16 .nil)) 15 (.l 14 (.l 16 .nil))) 15 (.l 9 (.l 14 (.l 16 .nil)))) 15 (.l 4 (.l 9 (.l 14 (.l 16 .nil))))))))))))))))) hs (by kernel_rfl) ?_
  clear hs
  intro w hs
  refine gxt ?_
  refine wt_l2 rfl rfl ?_ ?_
  ·refine w_call (met (number_spec (v:=.slice none 0 0) (bs:=[]) (N:=s1.number) (k:=8) (hs.ownNil (k:=1) (E:=5)) (by omega) (by simp)) ?_)
   clear hs
   rintro _ w ⟨v1,rfl,hs⟩
   refine ⟨_,rfl,?_⟩
   refine gxs ?_
   refine wq_wt hs.to ?_
   refine wt_l2 rfl rfl ?_ ?_
   ·refine w_call (met (number_spec (N:=s1.seq) (k:=8) (hs.take .here) (by omega) (by simp)) ?_)
    clear hs
    rintro _ w ⟨v2,rfl,hs⟩
    refine ⟨_,rfl,?_⟩
    refine gxs ?_
    refine wq_wt hs.to ?_
    refine wt_l2 rfl rfl ?_ ?_
    ·refine w_call (met (text_spec (s:=s1.log) (hs.take .here) (by simp) (by omega)) ?_)
     clear hs
     rintro _ w ⟨v3,rfl,hs⟩
     refine ⟨_,rfl,?_⟩
     refine gxs ?_
     refine wq_wt hs.to ?_
     refine wt_l rfl ?_
     refine w_alloc hs ?_
     clear hs
     intro w b7 hs
     refine gxs ?_
     refine wq_wt hs.to ?_
     refine wt_l rfl ?_
     obtain ⟨av,cv,hv,-⟩:=(hs.take (.there .here)).ownShape
     subst hv
     refine w_st hs ?_
     clear hs
     intro w hs
     refine gxs ?_
     refine wq_wtD rfl ?_
     refine wt_nil ?_
     simp only [List.nil_append] at hs
     exact wq_cut (b7,.slice av _ cv) ⟨rfl,rfl,rfl,rfl,trivial⟩ hs.to
    ·refine w_alloc hs ?_
     clear hs
     intro w b7 hs
     refine gxs ?_
     refine wq_wt hs.to ?_
     refine wt_l rfl ?_
     refine w_call (met (text_spec (s:=s1.log) (hs.take (.there .here)) (by simp) (by omega)) ?_)
     clear hs
     rintro _ w ⟨v3,rfl,hs⟩
     refine ⟨_,rfl,?_⟩
     refine gxs ?_
     refine wq_wt hs.to ?_
     refine wt_l rfl ?_
     obtain ⟨av,cv,hv,-⟩:=(hs.take .here).ownShape
     subst hv
     refine w_st hs ?_
     clear hs
     intro w hs
     refine gxs ?_
     refine wq_wtD rfl ?_
     refine wt_nil ?_
     simp only [List.nil_append] at hs
     exact wq_cut (b7,.slice av _ cv) ⟨rfl,rfl,rfl,rfl,trivial⟩ hs.to
   ·refine w_alloc hs ?_
    clear hs
    intro w b7 hs
    refine gxs ?_
    refine wq_wt hs.to ?_
    refine wt_l rfl ?_
    refine w_call (met (number_spec (N:=s1.seq) (k:=8) (hs.take (.there .here)) (by omega) (by simp)) ?_)
    clear hs
    rintro _ w ⟨v2,rfl,hs⟩
    refine ⟨_,rfl,?_⟩
    refine gxs ?_
    refine wq_wt hs.to ?_
    refine wt_l rfl ?_
    refine w_call (met (text_spec (s:=s1.log) (hs.take .here) (by simp) (by omega)) ?_)
    clear hs
    rintro _ w ⟨v3,rfl,hs⟩
    refine ⟨_,rfl,?_⟩
    refine gxs ?_
    refine wq_wt hs.to ?_
    refine wt_l rfl ?_
    obtain ⟨av,cv,hv,-⟩:=(hs.take .here).ownShape
    subst hv
    refine w_st hs ?_
    clear hs
    intro w hs
    refine gxs ?_
    refine wq_wtD rfl ?_
    refine wt_nil ?_
    simp only [List.nil_append] at hs
    exact wq_cut (b7,.slice av _ cv) ⟨rfl,rfl,rfl,rfl,trivial⟩ hs.to
  ·refine w_alloc hs ?_
   clear hs
   intro w b7 hs
   refine gxs ?_
   refine wq_wt hs.to ?_
   refine wt_l rfl ?_
   refine w_call (met (number_spec (v:=.slice none 0 0) (bs:=[]) (N:=s1.number) (k:=8) (hs.ownNil (k:=1) (E:=5)) (by omega) (by simp)) ?_)
   clear hs
   rintro _ w ⟨v1,rfl,hs⟩
   refine ⟨_,rfl,?_⟩
   refine gxs ?_
   refine wq_wt hs.to ?_
   refine wt_l rfl ?_
   refine w_call (met (number_spec (N:=s1.seq) (k:=8) (hs.take .here) (by omega) (by simp)) ?_)
   clear hs
   rintro _ w ⟨v2,rfl,hs⟩
   refine ⟨_,rfl,?_⟩
   refine gxs ?_
   refine wq_wt hs.to ?_
   refine wt_l rfl ?_
   refine w_call (met (text_spec (s:=s1.log) (hs.take .here) (by simp) (by omega)) ?_)
   clear hs
   rintro _ w ⟨v3,rfl,hs⟩
   refine ⟨_,rfl,?_⟩
   refine gxs ?_
   refine wq_wt hs.to ?_
   refine wt_l rfl ?_
   obtain ⟨av,cv,hv,-⟩:=(hs.take .here).ownShape
   subst hv
   refine w_st hs ?_
   clear hs
   intro w hs
   refine gxs ?_
   refine wq_wtD rfl ?_
   refine wt_nil ?_
   simp only [List.nil_append] at hs
   exact wq_cut (b7,.slice av _ cv) ⟨rfl,rfl,rfl,rfl,trivial⟩ hs.to
 clear hs
 rintro ⟨b7,vb⟩ w hs
 dsimp only at hs
 have hs:=Sat.imp (hs.to (a:=lvC K.d z.l0 t0::lvC K.d z.l1 t1::lvC K.d z.l2 t2::lvC K.d z.l3 t3::blk b7 93 [vb]::bytS vb (sthB s1)::blk bS 31 [idV b]::blk b 133 (stCells K z s1)::blk b5 9 [str s.log]::DiskA K.d D1::F)) fun _ k=>sepL_unstar (a:=[lvC K.d z.l0 t0,lvC K.d z.l1 t1,lvC K.d z.l2 t2,lvC K.d z.l3 t3]) k
 have hlz:[lvC K.d z.l0 t0,lvC K.d z.l1 t1,lvC K.d z.l2 t2,lvC K.d z.l3 t3]=List.zipWith (lvC K.d) [z.l0,z.l1,z.l2,z.l3] s1.levels:=by rw [hlv1];rfl
 rw [hlz] at hs
 refine wc_cut (α:=Value) (fun _=>[(1,.bool nl),(2,idV bS),(5,idV b5),(7,idV b7)])
  (fun vb w=>Sat W0 (star (List.zipWith (lvC K.d) [z.l0,z.l1,z.l2,z.l3] s1.levels)::blk b7 93 [vb]::bytS vb (stateB s1)::blk bS 31 [idV b]::blk b 133 (stCells K z s1)::blk b5 9 [str s.log]::DiskA K.d D1::F) w) ?_ ?_
 ·refine gx ?_
  refine wc_loop (α:=Nat×Value) (fun q=>[(1,.bool nl),(2,idV bS),(5,idV b5),(7,idV b7),(56,.agg #[z.l0,z.l1,z.l2,z.l3]),(57,.int .i64 (q.1:Int))])
   (fun q w=>q.1≤4∧Sat W0 (star (List.zipWith (lvC K.d) [z.l0,z.l1,z.l2,z.l3] s1.levels)::blk b7 93 [q.2]::bytS q.2 (sthB s1++tabsB 0 (s1.levels.take q.1))::blk bS 31 [idV b]::blk b 133 (stCells K z s1)::blk b5 9 [str s.log]::DiskA K.d D1::F) w) (fun q=>4-q.1) (0,vb) ⟨rfl,rfl,rfl,rfl,rfl,rfl,trivial⟩ ⟨by simp,by simp only [List.take_zero,tabsB,List.append_nil];exact hs⟩ ?_
  clear hs
  rintro ⟨i,vb⟩ w ⟨hi,hs⟩
  dsimp only at hi hs
  have hl4:s1.levels.length=4:=by rw [hlv1];rfl
  by_cases hlt:i<4
  ·have hgl:s1.levels[i]?=some s1.levels[i]:=List.getElem?_eq_getElem (by omega)
   have hgv:[z.l0,z.l1,z.l2,z.l3][i]?=some [z.l0,z.l1,z.l2,z.l3][i]:=List.getElem?_eq_getElem (by simpa using hlt)
   have htk:s1.levels.take (i+1)=s1.levels.take i++[s1.levels[i]]:=by rw [List.take_add_one,hgl];rfl
   have hfi:=f4 _ (List.mem_of_getElem? hgl)
   have hzi:=zipWith_at (lvC K.d) hgv hgl
   generalize s1.levels[i]=Ts at hgl htk hfi hzi
   generalize [z.l0,z.l1,z.l2,z.l3][i]=lv at hgv hzi
   have hsp:=list_split hzi
   rw [hsp] at hs
   have hs:=hs.starTake
   obtain ⟨ps,hps,hs⟩:=hs.lvOpen
   obtain ⟨al,cl,rfl,-⟩:=hs.ownShape
   have htot:(sthB s1++tabsB 0 (s1.levels.take i)++(Ts.map fun T=>UInt8.ofNat i::textB T.name).flatten).length≤1200000000:=by
    refine Nat.le_trans ?_ hstl
    have e1:tabsB 0 (s1.levels.take (i+1))=tabsB 0 (s1.levels.take i)++(Ts.map fun T=>UInt8.ofNat i::textB T.name).flatten:=by
     rw [htk,tabsB_app]
     have:(s1.levels.take i).length=i:=by simp;omega
     rw [this,Nat.zero_add]
    have e2:stateB s1=sthB s1++tabsB 0 (s1.levels.take (i+1))++tabsB (i+1) (s1.levels.drop (i+1)):=by
     have e3:=tabsB_take s1.levels (i+1) 0 (by omega)
     rw [Nat.zero_add] at e3
     rw [stateB_eq,e3,List.append_assoc]
    rw [e2,e1]
    simp only [List.length_append];omega
   have hint:((i:Int)<4):=by omega
   refine gx ?_
   refine wl_aix (m:=i) (vs:=[z.l0,z.l1,z.l2,z.l3]) rfl rfl rfl rfl rfl rfl hlt hgv rfl ?_
   refine gx ?_
   refine wc_loop (α:=Nat×Value) (fun q=>[(1,.bool nl),(2,idV bS),(5,idV b5),(7,idV b7),(56,.agg #[z.l0,z.l1,z.l2,z.l3]),(57,.int .i64 (i:Int)),(8,.int .i64 (i:Int)),(61,.slice al ps.length cl),(62,.int .i64 (ps.length:Int)),(63,.int .i64 (q.1:Int))])
    (fun q w=>q.1≤ps.length∧Sat W0 (ownS 1 (.slice al ps.length cl) 193 ps.length (ps.map idV)::star (List.zipWith (tabC K.d) ps Ts)::star ((List.zipWith (lvC K.d) [z.l0,z.l1,z.l2,z.l3] s1.levels).take i++(List.zipWith (lvC K.d) [z.l0,z.l1,z.l2,z.l3] s1.levels).drop (i+1))::blk b7 93 [q.2]::bytS q.2 (sthB s1++tabsB 0 (s1.levels.take i)++((Ts.take q.1).map fun T=>UInt8.ofNat i::textB T.name).flatten)::blk bS 31 [idV b]::blk b 133 (stCells K z s1)::blk b5 9 [str s.log]::DiskA K.d D1::F) w) (fun q=>ps.length-q.1) (0,vb) ⟨rfl,rfl,rfl,rfl,rfl,rfl,rfl,rfl,rfl,rfl,trivial⟩ ⟨Nat.zero_le _,by simp only [List.take_zero,List.map_nil,List.flatten_nil,List.append_nil];exact hs⟩ ?_
   clear hs
   rintro ⟨j,vb⟩ w ⟨hj,hs⟩
   dsimp only at hj hs
   by_cases hlj:j<ps.length
   ·have gp:ps[j]?=some ps[j]:=List.getElem?_eq_getElem hlj
    have gT:Ts[j]?=some (Ts[j]'(by omega)):=List.getElem?_eq_getElem (by omega)
    have htj:Ts.take (j+1)=Ts.take j++[Ts[j]'(by omega)]:=by rw [List.take_add_one,gT];rfl
    have hzj:=zipWith_at (tabC K.d) gp gT
    have hnm:=hfi.2 _ (List.mem_of_getElem? gT)
    generalize Ts[j]'(by omega)=T at gT htj hzj hnm
    generalize ps[j]=p at gp hzj
    have hspj:=list_split hzj
    obtain ⟨bq,cap,rs,hv,q1,q2,q3,hs2⟩:=hs.ownPos (by omega)
    obtain ⟨rfl,_,rfl⟩:=Value.slice.inj hv
    have hcell:(ps.map idV++rs)[0+j*1]?=some (idV p):=by
     rw [Nat.zero_add,Nat.mul_one,List.getElem?_append_left (by simpa using hlj),List.getElem?_map,gp];rfl
    have hpre:(sthB s1++tabsB 0 (s1.levels.take i)++((Ts.take j).map fun T=>UInt8.ofNat i::textB T.name).flatten).length≤1200000000:=by
     refine Nat.le_trans ?_ htot
     have:Ts=Ts.take j++Ts.drop j:=(List.take_append_drop j Ts).symm
     conv=>rhs;rw [this]
     rw [List.map_append,List.flatten_append]
     simp only [List.length_append];omega
    refine gx ?_
    refine wl_ixn (i:=j) rfl rfl rfl rfl rfl hlj rfl ?_
    refine wl_ld hs2 rfl rfl .here hcell rfl ?_
    clear hs2
    have hs:=hs.take (.there .here)
    rw [hspj] at hs
    obtain ⟨bv,hs⟩:=hs.starTake.tabOpen
    refine gx ?_
    refine wc_draw [blk b7 93 [vb],imm p 200 [str T.name,str T.first,str T.last,.int .i64 (T.count:Int),idV K.d,bv]] [(0,false),(1,false),(2,false),(5,false),(6,false),(7,false),(8,false),(9,false),(3,true),(4,true),(10,true),(11,true)] hs (by kernel_rfl) ?_
    clear hs
    intro w hs
    refine gx ?_
    rw [wrap_u8]
    refine w_lit1 hs ?_
    clear hs
    intro w b9 hs
    refine gx ?_
    refine wl_appB1 (UInt8.ofNat i) hs rfl rfl (by repeat (first|exact Take.here|apply Take.there)) (by repeat (first|exact Take.here|apply Take.there)) (by omega) rfl ?_
    clear hs
    intro v8 w hs
    refine gx ?_
    refine w_call (met (text_spec (s:=T.name) hs (by rw [List.length_append];simp only [List.length_cons,List.length_nil];omega) (by omega)) ?_)
    clear hs
    rintro _ w ⟨v9,rfl,hs⟩
    obtain ⟨a9,c9,hv9,-⟩:=hs.ownShape
    obtain ⟨n9,hn9⟩:∃ n9,v9=.slice a9 n9 c9:=⟨_,hv9⟩
    clear hv9
    subst hn9
    refine ⟨_,rfl,gx ?_⟩
    refine w_st hs ?_
    clear hs
    intro w hs
    refine gx ?_
    refine wq_round (j+1,.slice a9 n9 c9) ⟨rfl,rfl,rfl,rfl,rfl,rfl,rfl,rfl,rfl,rfl,trivial⟩ ⟨hlj,?_⟩ (by show _-(j+1)<_-j;omega)
    dsimp only
    rw [htj,List.map_append,List.flatten_append,List.map_cons,List.map_nil,List.flatten_cons,List.flatten_nil,List.append_nil]
    have e5:sthB s1++tabsB 0 (s1.levels.take i)++((Ts.take j).map fun T=>UInt8.ofNat i::textB T.name).flatten++[UInt8.ofNat i]++textB T.name=sthB s1++tabsB 0 (s1.levels.take i)++(((Ts.take j).map fun T=>UInt8.ofNat i::textB T.name).flatten++UInt8.ofNat i::textB T.name):=by simp
    rw [e5] at hs
    rw [hspj]
    have hs:=(hs.to (a:=tabC K.d p T::star ((List.zipWith (tabC K.d) ps Ts).take j++(List.zipWith (tabC K.d) ps Ts).drop (j+1))::ownS 1 (.slice (some ⟨bq,0,none⟩) ps.length cl) 193 ps.length (ps.map idV)::star ((List.zipWith (lvC K.d) [z.l0,z.l1,z.l2,z.l3] s1.levels).take i++(List.zipWith (lvC K.d) [z.l0,z.l1,z.l2,z.l3] s1.levels).drop (i+1))::blk b7 93 [.slice a9 n9 c9]::bytS (.slice a9 n9 c9) (sthB s1++tabsB 0 (s1.levels.take i)++(((Ts.take j).map fun T=>UInt8.ofNat i::textB T.name).flatten++UInt8.ofNat i::textB T.name))::blk bS 31 [idV b]::blk b 133 (stCells K z s1)::blk b5 9 [str s.log]::DiskA K.d D1::F)).starPut
    exact hs.to
   ·have hje:j=ps.length:=by omega
    subst hje
    rw [hps,List.take_length] at hs
    have e1:tabsB 0 (s1.levels.take (i+1))=tabsB 0 (s1.levels.take i)++(Ts.map fun T=>UInt8.ofNat i::textB T.name).flatten:=by
     rw [htk,tabsB_app]
     have:(s1.levels.take i).length=i:=by simp;omega
     rw [this,Nat.zero_add]
    rw [← hps] at hs
    have hs:=(Sat.lvClose hps hs)
    rw [List.append_assoc,← e1] at hs
    refine gx ?_
    refine wq_round (i+1,vb) ⟨rfl,rfl,rfl,rfl,rfl,rfl,trivial⟩ ⟨hlt,?_⟩ (by show 4-(i+1)<4-i;omega)
    dsimp only
    rw [hsp]
    have hs:=hs.starPut
    exact hs.to
  ·have hi4:i=4:=by omega
   subst hi4
   have e1:s1.levels.take 4=s1.levels:=List.take_of_length_le (by omega)
   rw [e1,← stateB_eq] at hs
   have hnlt:¬ ((4:Int)<4):=by omega
   refine gx ?_
   exact wq_cut vb ⟨rfl,rfl,rfl,rfl,trivial⟩ hs
 clear hs
 intro vb w hs
 generalize hG:(⟨b,bS,b5,b7,K,z,s1,vb,s.log⟩:CmG)=G
 obtain ⟨kk,hk,hkk⟩:∃ kk,kk≤6∧stepsS s1 (if nl=true then (if s.log=[] then none else some s.log) else none)=(cmO G).take kk∧5≤kk∧(kk=6↔nl=true∧s.log≠[]):=by
  subst hG
  cases nl with
  | false=>exact ⟨5,by omega,rfl,by omega,by simp⟩
  | true=>
   by_cases hl:s.log=[]
   ·exact ⟨5,by omega,by simp [hl];rfl,by omega,by simp [hl]⟩
   ·exact ⟨6,by omega,by simp [hl,stepsS,cmO],by omega,by simp [hl]⟩
 obtain ⟨hst,hk5,hk6⟩:=hkk
 rw [hst] at hrun
 have hs:Sat W0 (cmL G D1++star (List.zipWith (lvC K.d) [z.l0,z.l1,z.l2,z.l3] s1.levels)::F) w:=by subst hG;exact hs.to
 have hGK:G.K=K:=by subst hG;rfl
 dsimp only [cmL,List.cons_append,List.nil_append] at hs
 refine wc_seq ?_
 refine gxs ?_
 subst hG
 dsimp only at hs hGK
 refine gxs ?_
 refine w_lit ((cmF ⟨b,bS,b5,b7,K,z,s1,vb,s.log⟩).take 5) hs ?_
 clear hs
 intro w bl hs
 refine gxs ?_
 refine wq_then rfl ?_
 have hs:=Sat.ownClose (k:=1) (cap:=5) (len:=5) (cs:=(cmF ⟨b,bS,b5,b7,K,z,s1,vb,s.log⟩).take 5) (rest:=[]) (E:=107) hs (by omega) (by simp [maxLen]) rfl rfl (by
  intro u hu
  simp [cmF] at hu
  rcases hu with rfl|rfl|rfl|rfl|rfl<;>rfl)
 refine wc_cut (α:=Value) (fun sv=>[(12,sv)])
  (fun sv w=>Sat W0 (ownS 1 sv 107 kk ((cmF ⟨b,bS,b5,b7,K,z,s1,vb,s.log⟩).take kk)::cmL ⟨b,bS,b5,b7,K,z,s1,vb,s.log⟩ D1++star (List.zipWith (lvC K.d) [z.l0,z.l1,z.l2,z.l3] s1.levels)::F) w) ?_ ?_
 ·dsimp only [cmL,List.cons_append,List.nil_append]
  by_cases hc:nl=true∧s.log≠[]
  ·have h6:=hk6.2 hc
   subst h6
   obtain ⟨rfl,hne⟩:=hc
   refine gx ?_
   refine w_lit1 hs ?_
   clear hs
   intro w b9 hs
   refine w_app1 hs ?_
   clear hs
   intro v9 w hs
   refine gx ?_
   exact wq_cut v9 ⟨rfl,trivial⟩ hs.to
  ·have h5:kk=5:=by
    have:¬ kk=6:=fun h=>hc (hk6.1 h)
    omega
   subst h5
   cases nl with
   | false=>
    refine gx ?_
    exact wq_cut (.slice (some ⟨bl,0,none⟩) 5 5) ⟨rfl,trivial⟩ hs
   | true=>
    have hle:¬ s.log≠[]:=fun h=>hc ⟨rfl,h⟩
    refine gx ?_
    exact wq_cut (.slice (some ⟨bl,0,none⟩) 5 5) ⟨rfl,trivial⟩ hs
 clear hs
 intro sv w hs
 dsimp only [cmL,List.cons_append,List.nil_append] at hs
 have hkl:((cmF ⟨b,bS,b5,b7,K,z,s1,vb,s.log⟩).take kk).length=kk:=by simp [cmF];omega
 obtain ⟨asv,csv,rfl,-⟩:=hs.ownShape
 refine gx ?_
 refine wc_loop (α:=Nat×PDisk) (fun q=>[(99,.slice asv kk csv),(100,.int .i64 (kk:Int)),(101,.int .i64 (q.1:Int))])
  (fun q w=>(q.1≤kk∧runOps (((cmO ⟨b,bS,b5,b7,K,z,s1,vb,s.log⟩).take kk).drop q.1) q.2=some (eo,D'))∧Sat W0 (ownS 1 (.slice asv kk csv) 107 kk ((cmF ⟨b,bS,b5,b7,K,z,s1,vb,s.log⟩).take kk)::cmL ⟨b,bS,b5,b7,K,z,s1,vb,s.log⟩ q.2++star (List.zipWith (lvC K.d) [z.l0,z.l1,z.l2,z.l3] s1.levels)::F) w) (fun q=>kk-q.1) (0,D1) ⟨rfl,rfl,rfl,trivial⟩ ⟨⟨Nat.zero_le _,hrun⟩,hs⟩ ?_
 clear hs hrun
 rintro ⟨i,D3⟩ w ⟨⟨hi,hrun⟩,hs⟩
 dsimp only [cmL,List.cons_append,List.nil_append] at hi hrun hs
 by_cases hlt:i<kk
 ·have hol:i<((cmO ⟨b,bS,b5,b7,K,z,s1,vb,s.log⟩).take kk).length:=by simp [cmO];omega
  have hgo:((cmO ⟨b,bS,b5,b7,K,z,s1,vb,s.log⟩).take kk)[i]?=some (((cmO ⟨b,bS,b5,b7,K,z,s1,vb,s.log⟩).take kk)[i]):=List.getElem?_eq_getElem hol
  rw [List.drop_eq_getElem_cons hol] at hrun
  generalize ((cmO ⟨b,bS,b5,b7,K,z,s1,vb,s.log⟩).take kk)[i]=o at hgo hrun
  unfold runOps at hrun
  cases hr:runOp D3 o with
  | none=>rw [hr] at hrun;cases hrun
  | some r=>
   obtain ⟨e1,D4⟩:=r
   rw [hr] at hrun
   have hgo':(cmO ⟨b,bS,b5,b7,K,z,s1,vb,s.log⟩)[i]?=some o:=by
    rw [List.getElem?_take] at hgo;rw [if_pos hlt] at hgo;exact hgo
   obtain ⟨bq,cap,rs,hv,q1,q2,q3,hs2⟩:=hs.ownPos (by omega)
   obtain ⟨rfl,_,rfl⟩:=Value.slice.inj hv
   obtain ⟨f,pp,qq,hcf,hff,hcall⟩:=step_spec' (G:=⟨b,bS,b5,b7,K,z,s1,vb,s.log⟩) (F:=star (List.zipWith (lvC K.d) [z.l0,z.l1,z.l2,z.l3] s1.levels)::ownS 1 (.slice (some ⟨bq,0,none⟩) kk csv) 107 kk ((cmF ⟨b,bS,b5,b7,K,z,s1,vb,s.log⟩).take kk)::F) (by show (stateB s1).length≤_;omega) hgo' hr hs.to
   have hcell:((cmF ⟨b,bS,b5,b7,K,z,s1,vb,s.log⟩).take kk++rs)[0+i*1]?=some (.func (.func f) pp qq):=by
    rw [Nat.zero_add,Nat.mul_one,List.getElem?_append_left (by omega),List.getElem?_take,if_pos hlt];exact hcf
   refine gx ?_
   refine wl_ixn (i:=i) rfl rfl rfl rfl rfl hlt rfl ?_
   refine wl_ld hs2 rfl rfl .here hcell rfl ?_
   clear hs2
   refine gx ?_
   refine wl_callv rfl hff rfl rfl (met hcall ?_)
   clear hs hcall
   rintro _ w ⟨ve,rfl,hs⟩
   dsimp only [cmL,List.cons_append,List.nil_append] at hs
   refine ⟨_,rfl,?_⟩
   cases e1 with
   | some e=>
    simp only [Option.some.injEq,Prod.mk.injEq] at hrun
    obtain ⟨rfl,rfl⟩:=hrun
    obtain ⟨t,u,rfl⟩:=(hs.take (.there (.there (.there (.there (.there (.there .here))))))).errIface
    refine gx ?_
    refine wq_ret rfl ⟨_,s1,rfl,fun r hr=>(by rw [hx] at hr;cases hr),⟨nu,lo,hs1⟩,?_⟩
    rw [hx]
    have hs:=hs.to (a:=star (List.zipWith (lvC K.d) [z.l0,z.l1,z.l2,z.l3] s1.levels)::blk b 133 (stCells K z s1)::DiskA K.d D4::errC (.iface t u) (some e)::F)
    rw [← hlz] at hs
    have hs:=hs.imp fun _ k=>sepL_star k
    exact hs.to
   | none=>
    dsimp only at hrun
    have hve:=(hs.take (.there (.there (.there (.there (.there (.there .here))))))).errIs
    subst hve
    refine gx ?_
    exact wq_round (i+1,D4) ⟨rfl,rfl,rfl,trivial⟩ ⟨⟨hlt,hrun⟩,hs.to⟩ (by show kk-(i+1)<kk-i;omega)
 ·have hik:i=kk:=by omega
  subst hik
  rw [List.drop_of_length_le (List.length_take_le _ _)] at hrun
  simp only [runOps,Option.some.injEq,Prod.mk.injEq] at hrun
  obtain ⟨rfl,rfl⟩:=hrun
  refine gx ?_
  refine wq_ret rfl ⟨_,s1,rfl,fun r hr=>(by rw [hx] at hr;cases hr;rfl),⟨nu,lo,hs1⟩,?_⟩
  have hs:=Sat.errNil hs
  rw [hx]
  have hs:=hs.to (a:=star (List.zipWith (lvC K.d) [z.l0,z.l1,z.l2,z.l3] s1.levels)::blk b 133 (stCells K z s1)::DiskA K.d D3::errC .nilIface none::F)
  rw [← hlz] at hs
  have hs:=hs.imp fun _ k=>sepL_star k
  exact hs.to
end
section
open Go.Proofs.YtecibefflhomdaaGreatDoor.Pure (PDisk Ent Rd openB less bltB searchL numB textB frameB putB dec beN)
attribute [local irreducible] IntKind.wrap
variable {W0 w:World} {F:List HProp} {v:Value} {d m p:Nat} {T:Tab} {D D':PDisk} {M:List Ent}
def SZ.lvs (z:SZ):List Value:=[z.l0,z.l1,z.l2,z.l3]
def SZ.put (z:SZ) (i:Nat) (v:Value):SZ:=match i with
 | 0=>{ z with l0:=v }
 | 1=>{ z with l1:=v }
 | 2=>{ z with l2:=v }
 | _=>{ z with l3:=v }
theorem lv_cell {K:SK} {z:SZ} {s:St} {i:Nat} (hi:i<4) (hv:z.lvs[i]?=some v):(stCells K z s)[0+7+((i:Int)).toNat*1]?=some v:=by
 match i,hi,hv with
 | 0,_,hv=>exact hv
 | 1,_,hv=>exact hv
 | 2,_,hv=>exact hv
 | 3,_,hv=>exact hv
theorem lv_set {K:SK} {z:SZ} {s:St} {i:Nat} (hi:i<4) (v:Value):(stCells K z s).set (0+7+((i:Int)).toNat*1) v=stCells K (z.put i v) s:=by
 match i,hi with
 | 0,_=>rfl
 | 1,_=>rfl
 | 2,_=>rfl
 | 3,_=>rfl
theorem put_lvs {z:SZ} {i:Nat} (hi:i<4) (v:Value):(z.put i v).lvs=z.lvs.set i v:=by
 match i,hi with
 | 0,_=>rfl
 | 1,_=>rfl
 | 2,_=>rfl
 | 3,_=>rfl
@[simp] theorem put_m (z:SZ) (i:Nat) (v:Value):(z.put i v).m=z.m:=by unfold SZ.put;split<;>rfl
@[simp] theorem put_sn (z:SZ) (i:Nat) (v:Value):(z.put i v).sn=z.sn:=by unfold SZ.put;split<;>rfl
def lvS (d:Nat) (z:SZ) (Ls:List (List Tab)):HProp:=star (List.zipWith (lvC d) z.lvs Ls)
def lvR (d:Nat) (z:SZ) (Ls:List (List Tab)) (i:Nat):HProp:=star ((List.zipWith (lvC d) z.lvs Ls).take i++(List.zipWith (lvC d) z.lvs Ls).drop (i+1))
theorem Sat.lvTake {z:SZ} {Ls:List (List Tab)} {i:Nat} {L:List Tab} (hg:Ls[i]?=some L) (hi:i<4) (h:Sat W0 (lvS d z Ls::F) w):∃ v,z.lvs[i]?=some v∧Sat W0 (lvC d v L::lvR d z Ls i::F) w:=by
 have hv:z.lvs[i]?=some (z.lvs[i]'(by simpa [SZ.lvs] using hi)):=List.getElem?_eq_getElem _
 refine ⟨_,hv,?_⟩
 have hz:=zipWith_at (lvC d) hv hg
 unfold lvS at h
 rw [list_split hz] at h
 exact h.starTake
theorem Sat.lvBack {z:SZ} {Ls:List (List Tab)} {i:Nat} {L:List Tab} (hg:Ls[i]?=some L) (hv:z.lvs[i]?=some v) (h:Sat W0 (lvC d v L::lvR d z Ls i::F) w):Sat W0 (lvS d z Ls::F) w:=by
 have hz:=zipWith_at (lvC d) hv hg
 unfold lvS
 rw [list_split hz]
 exact h.starPut
theorem zipWith_set2 {α β γ:Type} (f:α→β→γ):∀ {xs:List α} {ys:List β} {i:Nat} (x:α) (y:β),i<xs.length→i<ys.length→List.zipWith f (xs.set i x) (ys.set i y)=(List.zipWith f xs ys).take i++f x y::(List.zipWith f xs ys).drop (i+1)
 | a::xs,b::ys,0,x,y,_,_=>by simp
 | a::xs,b::ys,i+1,x,y,hx,hy=>by
  simp at hx hy
  simp [zipWith_set2 f x y hx hy]
theorem Sat.lvPut {z:SZ} {Ls:List (List Tab)} {i:Nat} {L:List Tab} (hi:i<4) (hL:Ls.length=4) (h:Sat W0 (lvC d v L::lvR d z Ls i::F) w):Sat W0 (lvS d (z.put i v) (Ls.set i L)::F) w:=by
 unfold lvS
 rw [put_lvs hi,zipWith_set2 _ _ _ (by simpa [SZ.lvs] using hi) (by omega)]
 exact h.starPut
theorem lvS_eq {z:SZ} {t0 t1 t2 t3:List Tab}:lvS d z [t0,t1,t2,t3]=star [lvC d z.l0 t0,lvC d z.l1 t1,lvC d z.l2 t2,lvC d z.l3 t3]:=rfl
theorem Sat.lvJoin {z:SZ} {t0 t1 t2 t3:List Tab} (h:Sat W0 (lvC d z.l0 t0::lvC d z.l1 t1::lvC d z.l2 t2::lvC d z.l3 t3::F) w):Sat W0 (lvS d z [t0,t1,t2,t3]::F) w:=by
 rw [lvS_eq];exact h.imp fun _ k=>sepL_unstar (a:=[lvC d z.l0 t0,lvC d z.l1 t1,lvC d z.l2 t2,lvC d z.l3 t3]) k
theorem Sat.lvPart {z:SZ} {t0 t1 t2 t3:List Tab} (h:Sat W0 (lvS d z [t0,t1,t2,t3]::F) w):Sat W0 (lvC d z.l0 t0::lvC d z.l1 t1::lvC d z.l2 t2::lvC d z.l3 t3::F) w:=by
 rw [lvS_eq] at h;exact h.imp fun _ k=>sepL_star k
theorem four {α:Type} {l:List α} (h:l.length=4):∃ a b c d,l=[a,b,c,d]:=by
 match l,h with
 | [a,b,c,d],_=>exact ⟨a,b,c,d,rfl⟩
theorem commit_s {b:Nat} {K:SK} {z:SZ} {s:St} {nl:Bool} {x:Except Err St} (h:commitS s D nl=some (x,D')) (hl:s.levels.length=4) (hW:PowW W0)
 (hs:Sat W0 (blk b 133 (stCells K z s)::lvS K.d z s.levels::DiskA K.d D::F) w) :
 Calls Tryz.prog 100 #[idV b,.bool nl] w fun y w'=>∃ ve s',y=.returned ve∧(∀ r,x=.ok r→s'=r)∧(∃ nu lo,s'={ s with number:=nu,log:=lo }) ∧
  Sat W0 (blk b 133 (stCells K z s')::lvS K.d z s.levels::DiskA K.d D'::errC ve (errX x)::F) w':=by
 obtain ⟨t0,t1,t2,t3,hlv⟩:=four hl
 rw [hlv] at hs
 have hs:=(hs.take (.there .here)).lvPart
 refine (commit_spec h hlv hW hs.to).mono ?_
 rintro _ w' ⟨ve,s',rfl,h1,h2,hs⟩
 refine ⟨ve,s',rfl,h1,h2,?_⟩
 rw [hlv]
 exact ((hs.to (a:=lvC K.d z.l0 t0::lvC K.d z.l1 t1::lvC K.d z.l2 t2::lvC K.d z.l3 t3::blk b 133 (stCells K z s')::DiskA K.d D'::errC ve (errX x)::F)).lvJoin).to
theorem Sat.rwNil (h:Sat W0 F w):Sat W0 (rwC d m (.slice none 0 0) []::F) w:=by
 refine Sat.close (B:=[ownS 1 (.slice none 0 0) 288 0 [],star (List.zipWith (itC d m) [] [])]) (Sat.ownNil (k:=1) (E:=288) ((h.imp fun hp k=>(⟨fun _=>none,hp,fun _ _ _ hx=>(by cases hx),fun _ _ hx=>(by cases hx),Hp.le_refl _,trivial,k⟩:sepL (star (List.zipWith (itC d m) [] [])::F) hp)))) fun hp k=>⟨[],rfl,k⟩
theorem Sat.rwPush {its:List It} {it:It} {rv u:Value} {vs:List Value} (h1:vs.length=its.length) (h:Sat W0 (ownS 1 rv 288 (vs.length+1) (vs++[u])::star (List.zipWith (itC d m) vs its)::itC d m u it::F) w):Sat W0 (rwC d m rv (its++[it])::F) w:=by
 refine Sat.close (B:=[ownS 1 rv 288 (vs++[u]).length (vs++[u]),star (List.zipWith (itC d m) (vs++[u]) (its++[it]))]) ?_ fun hp k=>⟨vs++[u],by simp [h1],k⟩
 rw [List.zipWith_append (by exact h1),List.length_append]
 have h2:Sat W0 (itC d m u it::star (List.zipWith (itC d m) vs its++[])::ownS 1 rv 288 (vs.length+1) (vs++[u])::F) w:=by
  rw [List.append_nil];exact h.to
 have h3:=h2.starPut
 exact h3.to
end
end Go.Proofs.YtecibefflhomdaaGreatDoor
