/-
  Part 22: WALKS table; The engine 27 order trees over any fact that the loud steps .
-/
import Derived.Test.YtecibefflhomdaaGreatDoorU21
set_option maxHeartbeats 8000000
set_option maxRecDepth 100000
set_option linter.all false
namespace Go.Proofs.YtecibefflhomdaaGreatDoor
open Go
section
open Go.Proofs.YtecibefflhomdaaGreatDoor.Pure (PDisk Ent Rd openB less bltB searchL numB textB frameB putB dec)
attribute [local irreducible] IntKind.wrap
variable {W0 w:World} {F:List HProp} {v:Value} {d:Nat}
def preW (l:List Ent) (i:Nat) (e:Ent) (s:Wr):Option Wr:=if 300≤s.inb.length then match l[i-1]? with
 | none=>none
 | some p=>if e.key=p.key then some s else (flushW s).map fun s=>{ s with first:=e.key }
 else some s
theorem stepW_some {l:List Ent} {i:Nat} {e:Ent} {s s1:Wr} (h:stepW l i e s=some s1):∃ s2,preW l i e s=some s2∧s1={ s2 with inb:=s2.inb++putB e }∧s.inb.length≤1048576∧entOk e=true:=by
 unfold stepW at h
 split at h
 ·rename_i hg
  change (preW l i e s).map _=_ at h
  cases hp:preW l i e s with
  | none=>rw [hp] at h;cases h
  | some s2=>
   rw [hp] at h
   simp only [Option.map_some,Option.some.injEq] at h
   exact ⟨s2,rfl,h.symm,hg.1,hg.2⟩
 ·cases h
theorem preW_in {l:List Ent} {i:Nat} {e:Ent} {s s2:Wr} (h:preW l i e s=some s2):s2.inb.length≤s.inb.length:=by
 unfold preW at h
 split at h
 ·split at h
  ·cases h
  ·split at h
   ·cases h;exact Nat.le_refl _
   ·unfold flushW at h
    split at h
    ·cases h;simp
    ·cases h
 ·cases h;exact Nat.le_refl _
theorem tabB_some {l:List Ent} {z:Bs×List (Bs×Nat×Nat)} (h:tabB l=some z):∃ e ez sfin send,l.head?=some e∧l.getLast?=some ez∧stepsW l 0 l ⟨[],[],e.key,[]⟩=some sfin∧flushW sfin=some send ∧
 (send.file.length≤big∧send.blocks.length≤1048576∧l.length≤1048576∧(send.blocks.all fun b=>Nat.ble b.1.length 255&&Nat.ble b.2.1 big&&Nat.ble b.2.2 big)=true∧e.key.length≤255∧ez.key.length≤255) ∧
 z=(send.file++frameB (listB e.key ez.key l.length send.blocks)++frameB (numB send.file.length 8),send.blocks):=by
 unfold tabB at h
 split at h
 ·rename_i e r ez hez
  cases hst:stepsW (e::r) 0 (e::r) ⟨[],[],e.key,[]⟩ with
  | none=>rw [hst] at h;cases h
  | some sfin=>
   rw [hst] at h
   simp only [Option.bind_some] at h
   cases hf:flushW sfin with
   | none=>rw [hf] at h;cases h
   | some send=>
    rw [hf] at h
    dsimp only at h
    split at h
    ·rename_i hg
     exact ⟨e,ez,sfin,send,rfl,hez,hst,hf,hg,(Option.some.inj h).symm⟩
    ·cases h
 ·cases h
theorem blk_bytes {bs:List (Bs×Nat×Nat)} (h:(bs.all fun b=>Nat.ble b.1.length 255&&Nat.ble b.2.1 big&&Nat.ble b.2.2 big)=true) {j:Nat} (hj:j≤1048576) :
 ((bs.take j).map fun b=>textB b.1++numB b.2.1 4++numB b.2.2 4).flatten.length≤276824064:=by
 have key:∀ (l:List (Bs×Nat×Nat)),(∀ b∈l,b.1.length≤255)→(l.map fun b=>textB b.1++numB b.2.1 4++numB b.2.2 4).flatten.length≤l.length*264:=by
  intro l
  induction l with
  | nil=>intro _;simp
  | cons b r ih=>
   intro hl
   have h1:=hl b List.mem_cons_self
   have h2:=ih fun x hx=>hl x (List.mem_cons_of_mem _ hx)
   simp only [List.map_cons,List.flatten_cons,List.length_append,List.length_cons,Pure.textB_length,Pure.numB_length] at h2 ⊢
   omega
 have h1:=key (bs.take j) fun b hb=>by
  have:=List.all_eq_true.1 h b (List.mem_of_mem_take hb)
  simp only [Bool.and_eq_true,Nat.ble_eq] at this
  exact this.1.1
 have h2:(bs.take j).length≤j:=List.length_take_le _ _
 omega
def tabX (d:Nat) (tv:Value):Except Err Tab→HProp
 | .ok T=>fun h=>∃ p,tv=idV p∧tabC d p T h
 | .error _=>fun _=>True
theorem Sat.tabXOk {p:Nat} {T:Tab} {bv:Value} (hT:TabOk T) (hs:Sat W0 (imm p 200 [str T.name,str T.first,str T.last,.int .i64 (T.count:Int),idV d,bv]::rvw 3 bv (blksC T.blocks)::F) w):Sat W0 (tabX d (idV p) (.ok T)::F) w:=
 Sat.close (B:=[imm p 200 [str T.name,str T.first,str T.last,.int .i64 (T.count:Int),idV d,bv],rvw 3 bv (blksC T.blocks)]) hs fun hp k=>⟨p,rfl,hT,bv,k⟩
theorem write_spec {D:PDisk} {name:Bs} {l:List Ent} (hs:Sat W0 (rvw 4 v (entsC l)::DiskA d D::F) w) {r:Except Err Tab×PDisk} (h:writeT D name l=some r) :
 Calls Tryz.prog 208 #[idV d,str name,v] w fun x w'=>∃ tv ve,x=.returned (.tuple #[tv,ve])∧Sat W0 (DiskA d r.2::errC ve (errX r.1)::tabX d tv r.1::F) w':=by
 unfold writeT at h
 cases ht:tabB l with
 | none=>rw [ht] at h;cases h
 | some z=>
  rw [ht] at h
  dsimp only at h
  obtain ⟨e,ez,sfin,send,he,hez,hst0,hfl,⟨g1,g2,hlb,g4,g5,g6⟩,hz⟩:=tabB_some ht
  clear ht
  have hlp:0<l.length:=by cases l with|nil=>cases he|cons a b=>simp
  have he0:l[0]?=some e:=by rw [← List.head?_eq_getElem?];exact he
  have hzi:l[l.length-1]?=some ez:=by rw [← List.getLast?_eq_getElem?];exact hez
  obtain ⟨z0,⟨hv,hzc,hseg⟩,hs2⟩:=hs.rvOpen (by intro hn;simp [entsC] at hn;rw [hn] at hlp;simp at hlp)
  have hlen:(entsC l).length=l.length:=by simp [entsC]
  rw [hlen] at hv hzc
  subst hv
  obtain ⟨b0,o0,c0,all,E0⟩:=z0
  dsimp only at hzc hseg hs2
  clear hs
  have hrow:∀ i x,l[i]?=some x→Seg all (o0+i*4) (entC x):=fun i x hi=>hseg.row (i:=i) (x:=entC x) (entsC_k _) (by simp [entsC,hi])
  have hrow0:=hrow _ _ he0
  have hrowl:=hrow _ _ hzi
  generalize hL:l.length=L at *
  refine enter Tryz.func208 rfl Tryz.ntmps208 Tryz.results208 rfl ?_
  refine wc_seq ?_
  refine gxs ?_
  refine wq_then rfl ?_
  refine wc_cut (α:=Nat×Nat) (fun z=>[(0,idV d),(1,str name),(2,.slice (some ⟨b0,o0,none⟩) L c0),(8,idV z.1)]) (fun z w=>Sat W0 (blk z.1 193 [idV z.2]::blk z.2 200 [str name,str e.key,str ez.key,.int .i64 (L:Int),idV d,.slice none 0 0]::ob true b0 (.cells all.toArray E0 (0,0))::DiskA d D::F) w) ?_ ?_
  ·refine wc_tree [ob true b0 (.cells all.toArray E0 (0,0))] [4,11] (.q 0 (.q 1 (.q 2 (.q 3 (.s 4 (.q 5 (.q 6 (.q 7 (.q 8 (.q 9 (.q 10 (.s 11 (.q 12 (.q 13 (.q 14 (.q 15 (.q 16 (.l2 17 (.l 18 (.l 19 .nil)) 18 (.l 17 (.l 19 .nil)))))))))))))))))))) hs2 (by kernel_rfl) fun w hs=>?_
   refine got ?_
   refine wt_ixn (j:=0) rfl rfl rfl rfl rfl rfl hlp rfl ?_
   refine got ?_
   refine wt_ld rfl rfl rfl .here hrow0.1 rfl ?_
   refine got ?_
   refine wt_ixn (j:=L-1) rfl rfl rfl (by omega) rfl rfl (by omega) rfl ?_
   refine got ?_
   refine wt_ld rfl rfl rfl .here hrowl.1 rfl ?_
   refine got ?_
   refine wt_build [str name,str e.key,str ez.key,.int .i64 (L:Int)] rfl ?_
   refine got ?_
   refine wt_build [str name,str e.key,str ez.key,.int .i64 (L:Int),idV d,.slice none 0 0] rfl ?_
   refine wt_l2 rfl rfl ?_ ?_
   ·refine w_box hs fun w p hs=>?_
    refine gxs ?_
    refine wq_wt hs.to ?_
    refine wt_l rfl ?_
    refine w_alloc hs ?_
    clear hs
    intro w bt hs
    refine gxs ?_
    refine wq_wt hs.to ?_
    refine wt_l rfl ?_
    refine w_st hs ?_
    clear hs
    intro w hs
    refine gxs ?_
    refine wq_wt hs.to ?_
    refine wt_nil ?_
    exact wq_cut (bt,p) ⟨rfl,rfl,rfl,rfl,trivial⟩ hs.to
   ·refine w_alloc hs fun w bt hs=>?_
    refine gxs ?_
    refine wq_wt hs.to ?_
    refine wt_l rfl ?_
    refine w_box hs ?_
    clear hs
    intro w p hs
    refine gxs ?_
    refine wq_wt hs.to ?_
    refine wt_l rfl ?_
    refine w_st hs ?_
    clear hs
    intro w hs
    refine gxs ?_
    refine wq_wt hs.to ?_
    refine wt_nil ?_
    exact wq_cut (bt,p) ⟨rfl,rfl,rfl,rfl,trivial⟩ hs.to
  clear hs2
  rintro ⟨bt,p⟩ w hs
  dsimp only at hs
  refine gx ?_
  refine w_alloc hs ?_
  clear hs
  intro w bl hs
  refine gx ?_
  refine w_alloc hs ?_
  clear hs
  intro w bi hs
  refine gx ?_
  refine wl_ixn (i:=0) rfl rfl rfl rfl rfl hlp rfl ?_
  refine gx ?_
  refine wl_ld hs rfl rfl (by repeat (first|exact Take.here|apply Take.there)) hrow0.1 rfl ?_
  refine w_alloc hs ?_
  clear hs
  intro w bf hs
  refine w_st hs ?_
  clear hs
  intro w hs
  refine gx ?_
  refine wc_loop (α:=Nat×Wr×WrV) (fun z=>[(0,idV d),(1,str name),(2,.slice (some ⟨b0,o0,none⟩) L c0),(8,idV bt),(9,idV bl),(10,idV bi),(11,idV bf),(12,.func (.func 227) #[] #[idV bi,idV bt,idV bf,idV bl]),(44,.slice (some ⟨b0,o0,none⟩) L c0),(45,.int .i64 (L:Int)),(46,.int .i64 (z.1:Int))])
   (fun z w=>(z.1≤L∧stepsW l z.1 (l.drop z.1) z.2.1=some sfin∧(0<z.1∨z.2.1.inb=[]))∧Sat W0 (wrL ⟨bi,bt,bf,bl,p,d,name,e.key,ez.key,L⟩ z.2.2 z.2.1++ob true b0 (.cells all.toArray E0 (0,0))::DiskA d D::F) w) (fun z=>L-z.1) (0,⟨[],[],e.key,[]⟩,⟨.slice none 0 0,.slice none 0 0,.slice none 0 0⟩) ⟨rfl,rfl,rfl,rfl,rfl,rfl,rfl,rfl,rfl,rfl,rfl,trivial⟩ ⟨⟨Nat.zero_le _,hst0,.inr rfl⟩,?_⟩ ?_
  ·have hs:=((hs.ownNil (k:=1) (E:=5)).ownNil (k:=1) (E:=5)).ownNil (k:=3) (E:=282)
   exact hs.to
  clear hs
  rintro ⟨i,s,V⟩ w ⟨⟨hi,hst,hin⟩,hs⟩
  dsimp only at hi hst hin
  obtain ⟨vi,vl,bv⟩:=V
  dsimp only [wrL,List.cons_append,List.nil_append] at hs
  by_cases hlt:i<L
  ·have hlt':i<l.length:=by omega
   have hx:l[i]?=some l[i]:=List.getElem?_eq_getElem hlt'
   generalize l[i]=x at hx
   have hdrop:l.drop i=x::l.drop (i+1):=by rw [List.drop_eq_getElem_cons hlt'];congr 1;exact (List.getElem?_eq_some_iff.1 hx).2
   rw [hdrop] at hst
   simp only [stepsW] at hst
   cases hsw:stepW l i x s with
   | none=>rw [hsw] at hst;cases hst
   | some s1=>
    rw [hsw] at hst
    dsimp only at hst
    obtain ⟨s2,hpre,rfl,q1,q2⟩:=stepW_some hsw
    have hin2:=preW_in hpre
    simp only [entOk,Bool.and_eq_true,Nat.ble_eq] at q2
    have hrowi:=hrow _ _ hx
    refine (show WC _ _ _ _ [(0,idV d),(1,str name),(2,.slice (some ⟨b0,o0,none⟩) L c0),(8,idV bt),(9,idV bl),(10,idV bi),(11,idV bf),(12,.func (.func 227) #[] #[idV bi,idV bt,idV bf,idV bl]),(44,.slice (some ⟨b0,o0,none⟩) L c0),(45,.int .i64 (L:Int)),(46,.int .i64 (i:Int))] w from ?_)
    refine gx ?_
    refine wl_ixn (i:=i) rfl rfl rfl rfl rfl hlt rfl ?_
    refine wl_ldN (entC x) hs rfl rfl rfl (by repeat (first|exact Take.here|apply Take.there)) hrowi rfl ?_
    refine gxs ?_
    refine w_alloc hs ?_
    clear hs
    intro w b14 hs
    refine gxs ?_
    refine w_stN (vs:=entC x) hs ?_
    clear hs
    intro w hs
    refine gxs ?_
    refine wq_then rfl ?_
    refine wc_cut (α:=Wr×WrV) (fun z=>[(0,idV d),(1,str name),(2,.slice (some ⟨b0,o0,none⟩) L c0),(8,idV bt),(9,idV bl),(10,idV bi),(11,idV bf),(12,.func (.func 227) #[] #[idV bi,idV bt,idV bf,idV bl]),(44,.slice (some ⟨b0,o0,none⟩) L c0),(45,.int .i64 (L:Int)),(46,.int .i64 (i:Int)),(14,idV b14)])
     (fun z w=>preW l i x s=some z.1∧Sat W0 (wrL ⟨bi,bt,bf,bl,p,d,name,e.key,ez.key,L⟩ z.2 z.1++blk b14 256 (entC x)::ob true b0 (.cells all.toArray E0 (0,0))::DiskA d D::F) w) ?_ ?_
    ·clear hst hsw
     obtain ⟨a1,c1,e1,-⟩:=(hs.take (.there (.there .here))).ownShape
     subst e1
     unfold preW at hpre ⊢
     by_cases h300:300≤s.inb.length
     ·rw [if_pos h300] at hpre
      obtain ⟨i,rfl⟩:∃ j,i=j+1:=⟨i-1,by rcases hin with h|h;omega;rw [h] at h300;simp at h300⟩
      have hpv:∃ pv,l[i]?=some pv:=⟨_,List.getElem?_eq_getElem (show i<l.length by omega)⟩
      obtain ⟨pv,hpv⟩:=hpv
      rw [Nat.add_sub_cancel,hpv] at hpre
      dsimp only at hpre
      have hrowp:=hrow _ _ hpv
      refine wc_seq ?_
      refine wc_tree [blk b14 256 (entC x),blk bi 93 [.slice a1 s.inb.length c1],ob true b0 (.cells all.toArray E0 (0,0))] [0,5,11] (.s 0 (.q 1 (.q 2 (.q 3 (.q 4 (.s 5 (.q 6 (.q 7 (.q 8 (.q 9 (.q 10 (.s 11 (.q 12 (.q 13 .nil)))))))))))))) hs (by kernel_rfl) fun w hs=>?_
      have h300':(s.inb.length:Int) ≥ 300:=by omega
      refine got ?_
      refine wt_ixg (j:=i) rfl rfl rfl rfl (by omega) rfl rfl (by omega) rfl ?_
      refine got ?_
      refine wt_ldg rfl rfl rfl rfl (by repeat (first|exact Take.here|apply Take.there)) hrowp.1 rfl ?_
      by_cases hk:x.key=pv.key
      ·rw [if_pos hk] at hpre
       refine wt_pg (v:=.bool false) rfl rfl (by show some (Value.bool (decide (x.key≠pv.key)))=some (.bool false);rw [decide_eq_false (by simpa using hk)]) rfl ?_
       refine got ?_
       refine wt_nil ?_
       refine gx ?_
       exact wq_cut (s,⟨.slice a1 s.inb.length c1,vl,bv⟩) ⟨rfl,rfl,rfl,rfl,rfl,rfl,rfl,rfl,rfl,rfl,rfl,rfl,trivial⟩ ⟨by rw [if_pos h300,Nat.add_sub_cancel,hpv];simp only [if_pos hk],hs.to⟩
      ·rw [if_neg hk] at hpre
       refine wt_pg (v:=.bool true) rfl rfl (by show some (Value.bool (decide (x.key≠pv.key)))=some (.bool true);rw [decide_eq_true (by simpa using hk)]) rfl ?_
       refine got ?_
       refine wt_nil ?_
       refine gx ?_
       cases hfs:flushW s with
       | none=>rw [hfs] at hpre;cases hpre
       | some sf=>
        rw [hfs] at hpre
        simp only [Option.map_some,Option.some.injEq] at hpre
        subst hpre
        have hs3:Sat W0 (blk bi 93 [.slice a1 s.inb.length c1]::bytS (.slice a1 s.inb.length c1) s.inb::blk bt 193 [idV p]::blk p 200 [str name,str e.key,str ez.key,.int .i64 (L:Int),idV d,bv]::ownS 3 bv 282 s.blocks.length (blksC s.blocks).flatten::blk bf 9 [str s.first]::blk bl 93 [vl]::bytS vl s.file::blk b14 256 (entC x)::ob true b0 (.cells all.toArray E0 (0,0))::DiskA d D::F) w:=hs.to
        clear hs
        refine wl_callv rfl rfl rfl rfl (met (flush_spec (P:=⟨bi,bt,bf,bl,p,d,name,e.key,ez.key,L⟩) (V:=⟨.slice a1 s.inb.length c1,vl,bv⟩) (F:=blk b14 256 (entC x)::ob true b0 (.cells all.toArray E0 (0,0))::DiskA d D::F) hs3 hfs) ?_)
        rintro _ w ⟨u,V',rfl,hs⟩
        dsimp only [wrL,List.cons_append,List.nil_append] at hs
        clear hs3
        refine ⟨_,rfl,?_⟩
        refine gx ?_
        refine w_st hs ?_
        clear hs
        intro w hs
        refine gxs ?_
        exact wq_cut ({ sf with first:=x.key },V') ⟨rfl,rfl,rfl,rfl,rfl,rfl,rfl,rfl,rfl,rfl,rfl,rfl,trivial⟩ ⟨by rw [if_pos h300,Nat.add_sub_cancel,hpv];simp only [if_neg hk,hfs];rfl,hs.to⟩
     ·rw [if_neg h300] at hpre
      refine wc_seq ?_
      refine wc_tree [blk b14 256 (entC x),blk bi 93 [.slice a1 s.inb.length c1],ob true b0 (.cells all.toArray E0 (0,0))] [0,5,11] (.s 0 (.q 1 (.q 2 (.q 3 (.q 4 (.s 5 (.q 6 (.q 7 (.q 8 (.q 9 (.q 10 (.s 11 (.q 12 (.q 13 .nil)))))))))))))) hs (by kernel_rfl) fun w hs=>?_
      have h300':¬ (s.inb.length:Int) ≥ 300:=by omega
      refine got ?_
      refine wt_nil ?_
      refine gx ?_
      rw [if_neg h300]
      exact wq_cut (s,⟨.slice a1 s.inb.length c1,vl,bv⟩) ⟨rfl,rfl,rfl,rfl,rfl,rfl,rfl,rfl,rfl,rfl,rfl,rfl,trivial⟩ ⟨rfl,hs.to⟩
    ·clear hs
     rintro ⟨s3,vi3,vl3,bv3⟩ w ⟨hp3,hs⟩
     rw [hpre] at hp3
     obtain rfl:=Option.some.inj hp3
     dsimp only [wrL,List.cons_append,List.nil_append] at hs
     refine gx ?_
     refine w_call (met (put_spec2 (x:=x) (hs.take (.there .here)) (by omega) q2.1 (fun hd=>by simpa [hd] using q2.2)) ?_)
     clear hs
     rintro _ w ⟨v',rfl,hs⟩
     refine ⟨_,rfl,?_⟩
     obtain ⟨a5,c5,rfl,-⟩:=hs.ownShape
     refine gxs ?_
     refine w_st hs ?_
     clear hs
     intro w hs
     refine gx ?_
     refine wq_round (i+1,⟨s2.file,s2.inb++putB x,s2.first,s2.blocks⟩,⟨.slice a5 (s2.inb++putB x).length c5,vl3,bv3⟩) ⟨rfl,rfl,rfl,rfl,rfl,rfl,rfl,rfl,rfl,rfl,rfl,trivial⟩ ⟨⟨by show i+1≤L;omega,hst,.inl (by show 0<i+1;omega)⟩,?_⟩ (by show L-(i+1)<L-i;omega)
     exact hs.to
  ·have hiL:L=i:=by omega
   subst hiL
   have hd0:l.drop L=[]:=by rw [List.drop_eq_nil_iff];omega
   rw [hd0] at hst
   simp only [stepsW,Option.some.injEq] at hst
   subst hst
   refine (show WC _ _ _ _ [(0,idV d),(1,str name),(2,.slice (some ⟨b0,o0,none⟩) L c0),(8,idV bt),(9,idV bl),(10,idV bi),(11,idV bf),(12,.func (.func 227) #[] #[idV bi,idV bt,idV bf,idV bl]),(44,.slice (some ⟨b0,o0,none⟩) L c0),(45,.int .i64 (L:Int)),(46,.int .i64 (L:Int))] w from ?_)
   refine gx ?_
   have hs3:Sat W0 (blk bi 93 [vi]::bytS vi s.inb::blk bt 193 [idV p]::blk p 200 [str name,str e.key,str ez.key,.int .i64 (L:Int),idV d,bv]::ownS 3 bv 282 s.blocks.length (blksC s.blocks).flatten::blk bf 9 [str s.first]::blk bl 93 [vl]::bytS vl s.file::ob true b0 (.cells all.toArray E0 (0,0))::DiskA d D::F) w:=hs.to
   clear hs
   refine wl_callv rfl rfl rfl rfl (met (flush_spec (P:=⟨bi,bt,bf,bl,p,d,name,e.key,ez.key,L⟩) (V:=⟨vi,vl,bv⟩) (F:=ob true b0 (.cells all.toArray E0 (0,0))::DiskA d D::F) hs3 hfl) ?_)
   rintro _ w ⟨u,⟨vi2,vl2,bv2⟩,rfl,hs⟩
   dsimp only [wrL,List.cons_append,List.nil_append] at hs
   clear hs3
   refine ⟨_,rfl,?_⟩
   refine gx ?_
   have hs:=(hs.take (.there (.there (.there (.there .here)))))
   have hbl:send.blocks.length=(blksC send.blocks).length:=by simp [blksC]
   rw [hbl] at hs
   have hs:=(Sat.rvShare (blksC_k _) hs).take (.there (.there (.there (.there .here))))
   have hs:=hs.share
   obtain ⟨a6,c6,rfl,hc6⟩:=(hs.take (.there .here)).rvShape
   have hTok:TabOk ⟨name,e.key,ez.key,L,send.blocks⟩:=⟨by show send.blocks.length≤_;omega,by show L≤_;omega,fun b hb=>by
    have:=List.all_eq_true.1 g4 b hb
    simp only [Bool.and_eq_true,Nat.ble_eq,big_eq] at this
    omega⟩
   refine wc_draw [blk bt 193 [idV p],imm p 200 [str name,str e.key,str ez.key,.int .i64 (L:Int),idV d,.slice a6 (blksC send.blocks).length c6]] [(0,false),(1,false),(2,false),(3,false),(4,false),(6,false),(7,false),(8,false),(9,false),(10,false),(5,true),(11,true),(12,false)] hs.to (by kernel_rfl) fun w hs=>?_
   refine gx ?_
   refine w_call (met (text_spec (v:=.slice none 0 0) (bs:=[]) (s:=e.key) (hs.ownNil (k:=1) (E:=5)) (by simp) (by omega)) ?_)
   clear hs
   rintro _ w ⟨v1,rfl,hs⟩
   refine ⟨_,rfl,gx ?_⟩
   refine w_call (met (text_spec (s:=ez.key) hs (by simp only [List.length_append,Pure.textB_length,Pure.numB_length,List.length_nil];omega) (by omega)) ?_)
   clear hs
   rintro _ w ⟨v2,rfl,hs⟩
   refine ⟨_,rfl,gx ?_⟩
   refine w_call (met (number_spec (N:=L) (k:=4) hs (by omega) (by simp only [List.length_append,Pure.textB_length,Pure.numB_length,List.length_nil];omega)) ?_)
   clear hs
   rintro _ w ⟨v3,rfl,hs⟩
   refine ⟨_,rfl,gx ?_⟩
   have hn:(blksC send.blocks).length≤1048576:=by omega
   refine wc_loop (α:=Nat×Value) (fun z=>[(0,idV d),(1,str name),(8,idV bt),(9,idV bl),(15,z.2),(98,.slice a6 (blksC send.blocks).length c6),(99,.int .i64 ((blksC send.blocks).length:Int)),(100,.int .i64 (z.1:Int))])
    (fun z w=>z.1≤send.blocks.length∧Sat W0 (bytS z.2 (textB e.key++textB ez.key++numB L 4++((send.blocks.take z.1).map fun b=>textB b.1++numB b.2.1 4++numB b.2.2 4).flatten)::imm p 200 [str name,str e.key,str ez.key,.int .i64 (L:Int),idV d,.slice a6 (blksC send.blocks).length c6]::rvw 3 (.slice a6 (blksC send.blocks).length c6) (blksC send.blocks)::blk bt 193 [idV p]::blk bl 93 [vl2]::bytS vl2 send.file::DiskA d D::F) w) (fun z=>send.blocks.length-z.1) (0,v3) ⟨rfl,rfl,rfl,rfl,rfl,rfl,rfl,rfl,trivial⟩ ⟨Nat.zero_le _,?_⟩ ?_
   ·dsimp only
    rw [List.take_zero,List.map_nil,List.flatten_nil,List.append_nil]
    exact hs.to
   clear hs
   rintro ⟨j,v4⟩ w ⟨hj,hs⟩
   dsimp only at hj hs
   by_cases hlt:j<send.blocks.length
   ·have hg:send.blocks[j]?=some send.blocks[j]:=List.getElem?_eq_getElem hlt
    generalize send.blocks[j]=bk at hg
    have htk:send.blocks.take (j+1)=send.blocks.take j++[bk]:=by
     rw [List.take_add_one,hg];rfl
    obtain ⟨z0,⟨hv,hzc,hseg⟩,hs2⟩:=(hs.take (.there (.there .here))).rvOpen (by intro hn0;rw [hn0] at hbl;simp at hbl;rw [hbl] at hlt;simp at hlt)
    obtain ⟨rfl,_,rfl⟩:=Value.slice.inj hv
    have hrowj:=hseg.row (i:=j) (x:=blkC bk) (blksC_k _) (by simp [blksC,hg])
    have hbk:=List.all_eq_true.1 g4 bk (List.mem_of_getElem? hg)
    simp only [Bool.and_eq_true,Nat.ble_eq,big_eq] at hbk
    obtain ⟨⟨k1,k2⟩,k3⟩:=hbk
    have hfb:((send.blocks.take j).map fun b=>textB b.1++numB b.2.1 4++numB b.2.2 4).flatten.length≤276824064:=blk_bytes g4 (by omega)
    have hlt':j<(blksC send.blocks).length:=by omega
    refine gx ?_
    refine wl_ixn (i:=j) rfl rfl rfl rfl rfl hlt' rfl ?_
    refine wl_ldN (blkC bk) hs2 rfl rfl rfl (by repeat (first|exact Take.here|apply Take.there)) hrowj rfl ?_
    refine w_alloc hs2 fun w b17 hs=>?_
    refine w_stN (vs:=blkC bk) hs ?_
    clear hs
    intro w hs
    clear hs2
    refine gx ?_
    refine w_call (met (text_spec (s:=bk.1) (hs.take (.there (.there (.there .here)))) (by simp only [List.length_append,Pure.textB_length,Pure.numB_length,List.length_nil];omega) (by omega)) ?_)
    clear hs
    rintro _ w ⟨v5,rfl,hs⟩
    refine ⟨_,rfl,gx ?_⟩
    refine wc_draw [blk b17 282 (blkC bk)] [(0,false),(1,false),(2,false),(3,false),(5,false),(6,false),(7,false),(4,true),(8,true),(9,false)] hs (by kernel_rfl) fun w hs=>?_
    have w1:IntKind.u64.wrap (bk.2.1:Int)=(bk.2.1:Int):=IntWalk.u64_in _ (by omega)
    have w2:IntKind.u64.wrap (bk.2.2:Int)=(bk.2.2:Int):=IntWalk.u64_in _ (by omega)
    refine gx ?_
    try rw [w1,w2]
    refine w_call (met (number_spec (N:=bk.2.1) (k:=4) hs (by omega) (by simp only [List.length_append,Pure.textB_length,Pure.numB_length,List.length_nil];omega)) ?_)
    clear hs
    rintro _ w ⟨v6,rfl,hs⟩
    refine ⟨_,rfl,gx ?_⟩
    refine w_call (met (number_spec (N:=bk.2.2) (k:=4) hs (by omega) (by simp only [List.length_append,Pure.textB_length,Pure.numB_length,List.length_nil];omega)) ?_)
    clear hs
    rintro _ w ⟨v7,rfl,hs⟩
    refine ⟨_,rfl,gx ?_⟩
    refine wq_round (j+1,v7) ⟨rfl,rfl,rfl,rfl,rfl,rfl,rfl,rfl,trivial⟩ ⟨by show j+1≤_;omega,?_⟩ (by show _-(j+1)<_-j;omega)
    dsimp only
    rw [htk,List.map_append,List.flatten_append,List.map_cons,List.map_nil,List.flatten_cons,List.flatten_nil,List.append_nil]
    simp only [List.append_assoc] at hs ⊢
    exact hs.to
   ·have hjn:j=send.blocks.length:=by omega
    subst hjn
    rw [List.take_length] at hs
    have hfb:((send.blocks).map fun b=>textB b.1++numB b.2.1 4++numB b.2.2 4).flatten.length≤276824064:=by
     have:=blk_bytes (j:=send.blocks.length) g4 (by omega)
     rwa [List.take_length] at this
    have hlB:textB e.key++textB ez.key++numB L 4++((send.blocks).map fun b=>textB b.1++numB b.2.1 4++numB b.2.2 4).flatten=listB e.key ez.key L send.blocks:=rfl
    have hlen2:(listB e.key ez.key L send.blocks).length≤300000000:=by rw [← hlB];simp only [List.length_append,Pure.textB_length,Pure.numB_length];omega
    rw [hlB] at hs
    have hnlt:¬ send.blocks.length<(blksC send.blocks).length:=by omega
    obtain ⟨a7,c7,rfl,-⟩:=(hs.take (.there (.there (.there (.there (.there .here)))))).ownShape
    have hfl2:send.file.length≤1099511627776:=by rw [← big_eq];exact g1
    refine gx ?_
    refine w_call (met (number_spec (v:=.slice none 0 0) (bs:=[]) (N:=send.file.length) (k:=8) (hs.ownNil (k:=1) (E:=5)) (by omega) (by simp)) ?_)
    clear hs
    rintro _ w ⟨v8,rfl,hs⟩
    refine ⟨_,rfl,gx ?_⟩
    refine w_call (met (frame_spec hs (by simp)) ?_)
    clear hs
    rintro _ w ⟨v9,rfl,hs⟩
    refine ⟨_,rfl,?_⟩
    simp only [List.nil_append] at hs
    refine gx ?_
    have hs:=hs.to (a:=blk bl 93 [.slice a7 send.file.length c7]::bytS v4 (listB e.key ez.key L send.blocks)::bytS v9 (frameB (numB send.file.length 8))::bytS (.slice a7 send.file.length c7) send.file::imm p 200 [str name,str e.key,str ez.key,.int .i64 (L:Int),idV d,.slice a6 (blksC send.blocks).length c6]::rvw 3 (.slice a6 (blksC send.blocks).length c6) (blksC send.blocks)::blk bt 193 [idV p]::DiskA d D::F)
    refine wc_draw [blk bl 93 [.slice a7 send.file.length c7]] [(0,false),(1,false),(4,false),(2,true),(3,true),(5,true),(6,true)] hs (by kernel_rfl) fun w hs=>?_
    refine gx ?_
    have hfr1:=frame_len (listB e.key ez.key L send.blocks)
    have hfr2:=frame_len (numB send.file.length 8)
    rw [Pure.numB_length] at hfr2
    refine w_call (met (frame_spec (hs.take (.there .here)) (by omega)) ?_)
    clear hs
    rintro _ w ⟨v10,rfl,hs⟩
    refine ⟨_,rfl,gx ?_⟩
    refine wl_appB (m:=(frameB (listB e.key ez.key L send.blocks)).length) (bs:=send.file) (ns:=frameB (listB e.key ez.key L send.blocks)) hs rfl rfl (by repeat (first|exact Take.here|apply Take.there)) (srcOwn rfl (by repeat (first|exact Take.here|apply Take.there))) (by omega) rfl ?_
    clear hs
    intro v11 w hs
    refine gx ?_
    refine wl_appB (m:=(frameB (numB send.file.length 8)).length) (bs:=send.file++frameB (listB e.key ez.key L send.blocks)) (ns:=frameB (numB send.file.length 8)) hs rfl rfl (by repeat (first|exact Take.here|apply Take.there)) (srcOwn rfl (by repeat (first|exact Take.here|apply Take.there))) (by rw [List.length_append];omega) rfl ?_
    clear hs
    intro v12 w hs
    obtain ⟨a8,c8,rfl,-⟩:=hs.ownShape
    refine gx ?_
    refine w_st hs ?_
    clear hs
    intro w hs
    subst hz
    dsimp only at h
    generalize send.file++frameB (listB e.key ez.key L send.blocks)++frameB (numB send.file.length 8)=file at *
    by_cases hm:D.moves.length≤big
    ·rw [if_pos hm] at h
     rw [big_eq] at hm
     refine gx ?_
     have hs:=hs.to (a:=DiskA d D::bytS (.slice a8 file.length c8) file::blk bl 93 [.slice a8 file.length c8]::imm p 200 [str name,str e.key,str ez.key,.int .i64 (L:Int),idV d,.slice a6 (blksC send.blocks).length c6]::rvw 3 (.slice a6 (blksC send.blocks).length c6) (blksC send.blocks)::blk bt 193 [idV p]::F)
     refine w_call (met (create_a (n:=name) hs hm) ?_)
     clear hs
     rintro _ w ⟨ve,rfl,hs⟩
     refine ⟨_,rfl,?_⟩
     cases hc:createE D name with
     | some er=>
      rw [hc] at h hs
      obtain rfl:=Option.some.inj h
      obtain ⟨t,u,rfl⟩:=(hs.take (.there .here)).errIface
      refine gx ?_
      exact wq_ret rfl ⟨_,_,rfl,Sat.to (Sat.emp hs)⟩
     | none=>
      rw [hc] at h hs
      dsimp only at h
      have hve:=(hs.take (.there .here)).errIs
      subst hve
      refine gx ?_
      refine w_call (met (append_a (n:=name) (bs:=file) (hs.take2 .here (.there .here))) ?_)
      clear hs
      rintro _ w ⟨ve,rfl,hs⟩
      refine ⟨_,rfl,?_⟩
      generalize createD D name=D1 at *
      cases ha:appendE D1 name file with
      | some er=>
       rw [ha] at h hs
       obtain rfl:=Option.some.inj h
       obtain ⟨t,u,rfl⟩:=(hs.take (.there (.there .here))).errIface
       refine gx ?_
       exact wq_ret rfl ⟨_,_,rfl,Sat.to (Sat.emp hs)⟩
      | none=>
       rw [ha] at h hs
       dsimp only at h
       have hve:=(hs.take (.there (.there .here))).errIs
       subst hve
       generalize appended D1 name file=D2 at *
       refine gx ?_
       have hs:=hs.to (a:=blk bt 193 [idV p]::DiskA d D2::imm p 200 [str name,str e.key,str ez.key,.int .i64 (L:Int),idV d,.slice a6 (blksC send.blocks).length c6]::rvw 3 (.slice a6 (blksC send.blocks).length c6) (blksC send.blocks)::F)
       refine wc_draw [blk bt 193 [idV p]] [(0,false),(1,false),(2,false),(3,true),(4,false),(5,false)] hs (by kernel_rfl) fun w hs=>?_
       refine gx ?_
       refine w_call (met (sync_a (n:=name) (hs.take (.there .here))) ?_)
       clear hs
       rintro _ w ⟨ve,rfl,hs⟩
       refine ⟨_,rfl,?_⟩
       cases hf:findE D2 name with
       | some er=>
        rw [hf] at h hs
        obtain rfl:=Option.some.inj h
        refine gx ?_
        exact wq_ret rfl ⟨_,_,rfl,Sat.to (Sat.emp hs)⟩
       | none=>
        rw [hf] at h hs
        obtain rfl:=Option.some.inj h
        refine gx ?_
        have e1:firstK l=e.key:=by cases l with|nil=>cases he|cons a b=>simp at he;rw [← he];rfl
        have e2:lastK l=ez.key:=by unfold lastK;rw [hez]
        refine wq_ret rfl ⟨_,_,rfl,?_⟩
        dsimp only [errX]
        rw [e1,e2]
        have hs:=hs.to (a:=imm p 200 [str name,str e.key,str ez.key,.int .i64 (L:Int),idV d,.slice a6 (blksC send.blocks).length c6]::rvw 3 (.slice a6 (blksC send.blocks).length c6) (blksC send.blocks)::DiskA d (syncD D2 name)::errC ve none::F)
        have hs:=Sat.tabXOk (T:=⟨name,e.key,ez.key,L,send.blocks⟩) hTok hs
        exact hs.to
    ·rw [if_neg hm] at h;cases h
end
section
variable {ops:Array Oper} {Q:Exit→Act→World→Prop} {S:World→Prop} {K:List Nat} {n:Nat} {ds:Md} {e:Env} {w w':World} {b:Bool} {t t':OT}
variable {op:Op} {ty:TypeId} {pos:String} {af:Array Edge} {d i j:Nat} {v u:Value} {W0:World} {l l' r r':List HProp}
theorem wc_treeS {id:Nat} {ol:List Oper} [hp:PInd Q] [NOut Q] (S:World→Prop) (K:List Nat) (t:OT) (hs:Sat W0 l w)
 (hok:(otOK ol.toArray K t ol.length (Array.replicate ol.length false)&&Region.noSelect ol.toArray&&(ds.round.isNone||noDef ol))=true)
 (hS:∀ w,Sat W0 l w→S w) (k:∀ w,Sat W0 l w→WT ol.toArray Q S K n ds true t e w):WC (.region id ol.toArray true) Q n ds e w:=by
 unfold WC
 intro a ha
 simp only [Bool.and_eq_true] at hok
 obtain ⟨⟨h1,h3⟩,h4⟩:=hok
 refine wpIn_region_draw fun tt=>opsIn _ (by simpa using h4) _ _ _ ?_
 simp only [Region.schedule,mixed,Bool.true_or,if_true]
 refine wpAny_sound ol.toArray.size tt _ _ _ (wpY_any (S:=S) (K:=K) _ _ _ _ ?_)
 have hd:=hs.drew
 have e1:ol.toArray.size=ol.length:=by simp
 rw [e1]
 exact wt_wpY h3 hp.ind t ol.length _ a _ (fun j o ho hl=>by
  exfalso
  have hj:j<ol.length:=by have:=(Array.getElem?_eq_some_iff.1 ho).1;simpa using this
  simp [hj] at hl) h1 (by have:=k _ hd;unfold WT at this;exact this a ha fun _=>hS _ hd)
theorem isWT (k:WT ops Q S K n ds b t e w):WT ops Q S K n ds b t e w:=k
theorem wt_ldS {x:Operand} {T bb o:Nat} (ho:ops[i]?=some ⟨some d,.load T x,ty,pos,af,none⟩) (hx:ev e x=some (.pointer (some ⟨bb,o,none⟩))) (hT:lk tAgg T=some false)
 (hS:∀ w,S w→w.cell? ⟨bb,o,none⟩=some v) (hd:Nat.blt d n=true) (k:WT ops Q S K n ds true t ((d,v)::e) w):WT ops Q S K n ds true (.s i t) e w:=
 wt_sy ho (fun a w' ha hs=>by simp [execOp,ha.ev hx,Instr.loadAt,Instr.sureAddr,loadVar1_run hT (hS _ hs)]) hd k
theorem wt_u64 {x:Int} (ho:ops[i]?=some ⟨some d,op,ty,pos,af,none⟩) (hv:yv e op=some (.int .u64 (IntKind.u64.wrap x))) (h1:0≤x) (h2:x≤18446744073709551615) (hd:Nat.blt d n=true)
 (k:WT ops Q S K n ds b t ((d,.int .u64 x)::e) w):WT ops Q S K n ds b (.q i t) e w:=wt_p ho (by rw [hv,IntWalk.u64_in _ ⟨h1,h2⟩]) hd k
end
theorem gxt {G G':Prop} (k:G') (h:Hold G'→G:=by
 (intro k
  repeat (refine isWT ?_
          first
   | refine wt_p (op:=.fieldAddr _ _ _) rfl rfl rfl ?_
   | refine wt_p (op:=.nilCheck _) rfl rfl rfl ?_
   | refine wt_p (op:=.move _) rfl rfl rfl ?_
   | refine wt_p (op:=.assign _) rfl rfl rfl ?_
   | refine wt_p (op:=.extract _ _) rfl rfl rfl ?_
   | refine wt_ld rfl rfl rfl (by repeat (first|exact Take.here|apply Take.there)) (by rfl) rfl ?_
   | refine wt_l rfl ?_
   | refine wt_nil ?_
   | refine wt_i rfl rfl (by omega) (by omega) rfl ?_
   | refine wt_u64 rfl rfl (by omega) (by omega) rfl ?_
   | refine wt_bT rfl rfl (by first|assumption|omega) rfl ?_
   | refine wt_bF rfl rfl (by first|assumption|omega) rfl ?_
   | refine wt_p rfl rfl rfl ?_
   | refine wt_ig rfl rfl rfl (by omega) (by omega) rfl ?_
   | refine wt_pg rfl rfl rfl rfl ?_
   | refine wt_gF rfl rfl rfl rfl ?_
   | refine wt_gFs rfl rfl rfl rfl ?_
   | refine wt_ldg rfl rfl rfl rfl (by repeat (first|exact Take.here|apply Take.there)) (by rfl) rfl ?_)
  exact k.out)):G:=h ⟨k⟩
end Go.Proofs.YtecibefflhomdaaGreatDoor
