/-
  Part 40: WALKS the document's functions on pairs; WALKS the document's functions on pairs; WALKS the statements' small functions; WALKS the document's store.
-/
import Derived.Test.YtecibefflhomdaaGreatDoorU29
import Derived.Test.YtecibefflhomdaaGreatDoorU38
import Derived.Test.YtecibefflhomdaaGreatDoorU39
set_option maxHeartbeats 8000000
set_option maxRecDepth 100000
set_option linter.all false
namespace Go.Proofs.YtecibefflhomdaaGreatDoor
open Go
section
open Go.Proofs.YtecibefflhomdaaGreatDoor.Pure (PDisk Chg bltB lookP betweenP inLo inHi)
attribute [local irreducible] IntKind.wrap
variable {W0 w:World} {F:List HProp} {v:Value} {ps:List (Bs×Bs)}
@[simp] theorem pairsC_length (l:List (Bs×Bs)):(pairsC l).length=l.length:=List.length_map _
theorem pairsC_at {i:Nat} {p:Bs×Bs} (h:ps[i]?=some p):(pairsC ps)[i]?=some (pairC p):=by unfold pairsC;rw [List.getElem?_map,h];rfl
abbrev pairV (v:Value) (l:List (Bs×Bs)):HProp:=rvw 2 v (pairsC l)
theorem Sat.pvShape (h:Sat W0 (pairV v ps::F) w):∃ a c,v=.slice a ps.length c∧ps.length≤c:=by
 obtain ⟨a,c,h1,h2⟩:=h.rvShape
 rw [pairsC_length] at h1 h2
 exact ⟨a,c,h1,h2⟩
theorem Sat.pvRow {a:Option Addr} {c i:Nat} (hs:Sat W0 (pairV (.slice a ps.length c) ps::F) w) (hi:i<ps.length) :
 ∃ (z:VwAt) (p:Bs×Bs),ps[i]?=some p∧ps.drop i=p::ps.drop (i+1)∧a=some ⟨z.b,z.o,none⟩∧Seg z.all (z.o+i*2) (pairC p)∧z.all[z.o+i*2]?=some (str p.1)∧z.all[z.o+i*2+1]?=some (str p.2) ∧
  Sat W0 (ob true z.b (.cells z.all.toArray z.E (0,0))::pairV (.slice a ps.length c) ps::F) w:=by
 have hg:ps[i]?=some ps[i]:=List.getElem?_eq_getElem hi
 have hs':Sat W0 (rvw 2 (.slice a (pairsC ps).length c) (pairsC ps)::F) w:=by rw [pairsC_length];exact hs
 obtain ⟨z,h1,h2,h3⟩:=hs'.rvRow (pairsC_at hg)
 rw [pairsC_length] at h3
 exact ⟨z,ps[i],hg,List.drop_eq_getElem_cons hi,h1,h2,h2.1,h2.2.1,h3⟩
theorem Sat.pvShare (h:Sat W0 (pairS v ps::F) w):Sat W0 (pairV v ps::F) w:=by
 have h1:Sat W0 (ownS 2 v 147 (pairsC ps).length (pairsC ps).flatten::F) w:=by rw [pairsC_length];exact h
 exact h1.rvShare fun r hr=>by obtain ⟨x,_,rfl⟩:=List.mem_map.1 hr;rfl
def optB:Option Bs→Bs
 | some v=>v
 | none=>[]
theorem look_spec {key:Bs} (hs:Sat W0 (pairV v ps::F) w) (hp:ps.length≤1099511627776) :
 Calls Tryz.prog 51 #[v,str key] w fun x w'=>x=.returned (.tuple #[str (optB (lookP ps key)),.bool (lookP ps key).isSome])∧Sat W0 (pairV v ps::F) w':=by
 obtain ⟨a,c,rfl,hc⟩:=hs.pvShape
 refine enter Tryz.func51 rfl Tryz.ntmps51 Tryz.results51 rfl ?_
 refine gy ?_
 refine wc_loop (α:=Nat) (fun i=>[(0,.slice a ps.length c),(1,str key),(6,.int .i64 (i:Int))])
  (fun i w=>(i≤ps.length∧lookP (ps.drop i) key=lookP ps key)∧Sat W0 (pairV (.slice a ps.length c) ps::F) w) (fun i=>ps.length-i) 0 ⟨rfl,rfl,rfl,trivial⟩ ⟨⟨Nat.zero_le _,by rw [List.drop_zero]⟩,hs⟩ ?_
 clear hs
 rintro i w ⟨⟨hi,hl⟩,hs⟩
 by_cases hlt:i<ps.length
 ·have hlt':(i:Int)<(ps.length:Int):=by omega
  obtain ⟨z,p,hg,hd,rfl,hseg,c0,c1,h2⟩:=hs.pvRow hlt
  clear hs
  rw [hd] at hl
  have hl:(if p.1=key then some p.2 else lookP (ps.drop (i+1)) key)=lookP ps key:=hl
  by_cases hk:p.1=key
  ·rw [if_pos hk] at hl
   refine gy ?_
   refine wq_ret rfl ⟨?_,h2.drop⟩
   rw [← hl];rfl
  ·rw [if_neg hk] at hl
   refine gy ?_
   exact wq_round (i+1) ⟨rfl,rfl,rfl,trivial⟩ ⟨⟨hlt,hl⟩,h2.drop⟩ (by show ps.length-(i+1)<ps.length-i;omega)
 ·have hie:i=ps.length:=by omega
  subst hie
  have hlt':¬ (ps.length:Int)<(ps.length:Int):=by omega
  rw [List.drop_length] at hl
  refine gy ?_
  refine wq_ret rfl ⟨?_,hs⟩
  rw [← hl];rfl
theorem refget_spec {key:Bs} (hs:Sat W0 (pairV v ps::F) w) (hp:ps.length≤1099511627776) :
 Calls Tryz.prog 191 #[v,str key] w fun x w'=>x=.returned (.tuple #[str (bsX (refGet ps key)),.bool (isX (refGet ps key)),.int .i64 (numE (errX (refGet ps key)):Int)])∧Sat W0 (pairV v ps::F) w':=by
 refine enter Tryz.func191 rfl Tryz.ntmps191 Tryz.results191 rfl ?_
 unfold refGet
 by_cases h1:(key.length:Int)=0
 ·rw [if_pos (.inl (by omega))]
  refine gy ?_
  exact wq_ret rfl ⟨rfl,hs⟩
 ·by_cases h2:(key.length:Int) > 8
  ·rw [if_pos (.inr (by omega))]
   refine gy ?_
   exact wq_ret rfl ⟨rfl,hs⟩
  ·rw [if_neg (by omega)]
   refine gy ?_
   refine w_call (met (look_spec hs hp) ?_)
   clear hs
   rintro _ w ⟨rfl,hs⟩
   refine ⟨_,rfl,?_⟩
   refine gy ?_
   refine wq_ret rfl ⟨?_,hs⟩
   cases lookP ps key<;>rfl
abbrev pairG (v:Value) (l:List (Bs×Bs)):HProp:=ownS 2 v 158 l.length (pairsC l).flatten
theorem ap_pairs (E:Nat) (l:List (Bs×Bs)) (p:Bs×Bs):ownS 2 v E (l.length+1) ((pairsC l).flatten++pairC p)=ownS 2 v E (l++[p]).length (pairsC (l++[p])).flatten:=by
 rw [pairs_cons,List.length_append];rfl
theorem Sat.pgShare (h:Sat W0 (pairG v ps::F) w):Sat W0 (pairV v ps::F) w:=by
 have h1:Sat W0 (ownS 2 v 158 (pairsC ps).length (pairsC ps).flatten::F) w:=by rw [pairsC_length];exact h
 exact h1.rvShare fun r hr=>by obtain ⟨x,_,rfl⟩:=List.mem_map.1 hr;rfl
theorem between_spec {lo hi:Bs} {limit:Int} (hs:Sat W0 (pairV v ps::F) w) (hp:ps.length≤1099511627776) :
 Calls Tryz.prog 192 #[v,str lo,str hi,.int .i64 limit] w fun x w'=>∃ u,x=.returned u∧Sat W0 (pairG u (betweenP ps lo hi limit)::pairV v ps::F) w':=by
 obtain ⟨a,c,rfl,hc⟩:=hs.pvShape
 refine enter Tryz.func192 rfl Tryz.ntmps192 Tryz.results192 rfl ?_
 refine gy ?_
 refine wc_loop (α:=Nat×List (Bs×Bs)×Value) (fun z=>[(0,.slice a ps.length c),(1,str lo),(2,str hi),(3,.int .i64 limit),(9,z.2.2),(10,.int .i64 (z.1:Int))])
  (fun z w=>(z.1≤ps.length∧z.2.1.length≤z.1∧(ps.drop z.1).foldl (betR lo hi limit) z.2.1=betweenP ps lo hi limit)∧Sat W0 (pairG z.2.2 z.2.1::pairV (.slice a ps.length c) ps::F) w) (fun z=>ps.length-z.1) (0,[],.slice none 0 0) ⟨rfl,rfl,rfl,rfl,rfl,rfl,trivial⟩
  ⟨⟨Nat.zero_le _,Nat.le_refl _,by rw [List.drop_zero];exact betR_eq lo hi limit ps⟩,Sat.ownNil (k:=2) (E:=158) hs⟩ ?_
 clear hs
 rintro ⟨i,out,vo⟩ w ⟨⟨hib,ho,hl⟩,hs⟩
 dsimp only at hib ho hl hs ⊢
 obtain ⟨ao,co,rfl,-⟩:=hs.ownShape
 by_cases hlt:i<ps.length
 ·have hlt':(i:Int)<(ps.length:Int):=by omega
  obtain ⟨z,p,hg,hd,rfl,hseg,c0,c1,h2⟩:=(hs.take (.there .here)).pvRow hlt
  clear hs
  rw [hd,List.foldl_cons] at hl
  have hno:¬ (inLo lo p.1=true∧inHi hi p.1=true∧(limit≤0∨(out.length:Int)<limit))→(ps.drop (i+1)).foldl (betR lo hi limit) out=betweenP ps lo hi limit:=by
   intro hn
   have e:betR lo hi limit out p=out:=if_neg hn
   rw [e] at hl;exact hl
  have hyes:(inLo lo p.1=true∧inHi hi p.1=true∧(limit≤0∨(out.length:Int)<limit))→(ps.drop (i+1)).foldl (betR lo hi limit) (out++[p])=betweenP ps lo hi limit:=by
   intro hn
   have e:betR lo hi limit out p=out++[p]:=if_pos hn
   rw [e] at hl;exact hl
  clear hl
  unfold inLo inHi at hno hyes
  rw [bltB_eq,bltB_eq] at hno hyes
  have hs:Sat W0 (pairG (.slice ao out.length co) out::ob true z.b (.cells z.all.toArray z.E (0,0))::pairV (.slice (some ⟨z.b,z.o,none⟩) ps.length c) ps::F) w:=h2.to
  clear h2
  by_cases hY:(!ltb p.1 lo)=true∧(decide (hi=[])||ltb p.1 hi)=true∧(limit≤0∨(out.length:Int)<limit)
  ·have hl:=hyes hY
   obtain ⟨a1,a2,a3⟩:=hY
   have b2:hi=[]∨(¬ hi=[]∧ltb p.1 hi=true):=by
    by_cases h:hi=[]
    ·exact .inl h
    ·exact .inr ⟨h,by simpa [h] using a2⟩
   have b3:limit≤0∨(¬ limit≤0∧(out.length:Int)<limit):=by omega
   clear hno hyes a2 a3
   rcases b2 with b2|⟨b2,b2'⟩<;>rcases b3 with b3|⟨b3,b3'⟩
   all_goals
    refine gy ?_
    refine w_lit (pairC p) hs ?_
    clear hs
    intro w b8 hs
    refine w_app1 hs ?_
    clear hs
    intro v2 w hs
    rw [ap_pairs] at hs
    refine gy ?_
    exact wq_round (i+1,out++[p],v2) ⟨rfl,rfl,rfl,rfl,rfl,rfl,trivial⟩ ⟨⟨hlt,by simp;omega,hl⟩,hs.to⟩ (by show ps.length-(i+1)<ps.length-i;omega)
  ·have hl:=hno hY
   have b:(!ltb p.1 lo)=false∨((!ltb p.1 lo)=true∧((¬ hi=[]∧ltb p.1 hi=false)∨((hi=[]∨(¬ hi=[]∧ltb p.1 hi=true))∧¬ limit≤0∧¬ (out.length:Int)<limit))):=by
    cases h1:(!ltb p.1 lo) with
    | false=>exact .inl rfl
    | true=>
     refine .inr ⟨rfl,?_⟩
     by_cases h2:hi=[]
     ·refine .inr ⟨.inl h2,?_⟩
      refine Decidable.byContradiction fun h3=>?_
      exact hY ⟨h1,by simp [h2],by omega⟩
     ·cases h3:ltb p.1 hi with
      | false=>exact .inl ⟨h2,rfl⟩
      | true=>
       refine .inr ⟨.inr ⟨h2,rfl⟩,?_⟩
       refine Decidable.byContradiction fun h4=>?_
       exact hY ⟨h1,by simp [h3],by omega⟩
   clear hno hyes hY
   rcases b with b1|⟨b1,⟨b2,b3⟩|⟨b2|⟨b2,b2'⟩,b3,b4⟩⟩
   all_goals
    refine gy ?_
    exact wq_round (i+1,out,_) ⟨rfl,rfl,rfl,rfl,rfl,rfl,trivial⟩ ⟨⟨hlt,by show out.length≤_;omega,hl⟩,hs.to⟩ (by show ps.length-(i+1)<ps.length-i;omega)
 ·have hie:i=ps.length:=by omega
  subst hie
  have hlt':¬ (ps.length:Int)<(ps.length:Int):=by omega
  rw [List.drop_length] at hl
  have hl:out=betweenP ps lo hi limit:=hl
  subst hl
  refine gy ?_
  exact wq_ret rfl ⟨_,rfl,hs⟩
end
section
open Go.Proofs.YtecibefflhomdaaGreatDoor.Pure (PDisk Chg bltB lookP betweenP inLo inHi)
attribute [local irreducible] IntKind.wrap
variable {W0 w:World} {F:List HProp} {v:Value} {ps:List (Bs×Bs)}
theorem rset_spec {c:Chg} (hs:Sat W0 (pairV v ps::F) w) (hp:ps.length≤1099511627776) :
 Calls Tryz.prog 53 #[v,.agg (chgC c).toArray] w fun x w'=>∃ u,x=.returned u∧Sat W0 (pairG u (setR c.key c.val c.del ps)::pairV v ps::F) w':=by
 obtain ⟨a,cc,rfl,hc⟩:=hs.pvShape
 refine enter Tryz.func53 rfl Tryz.ntmps53 Tryz.results53 rfl ?_
 refine gy ?_
 refine w_box (z:=chgC c) hs ?_
 clear hs
 intro w b3 hs
 have hs:Sat W0 (blk b3 137 [str c.key,str c.val,.bool c.del]::pairV (.slice a ps.length cc) ps::F) w:=hs
 generalize hR:setR c.key c.val c.del ps=R
 refine gy ?_
 refine wc_loop (α:=Nat×List (Bs×Bs)×Value×Bool) (fun z=>[(0,.slice a ps.length cc),(3,idV b3),(5,z.2.2.1),(6,.bool z.2.2.2),(7,.int .i64 (z.1:Int))])
  (fun z w=>(z.1≤ps.length∧z.2.1.length≤2*z.1∧z.2.1++setR c.key c.val z.2.2.2 (ps.drop z.1)=R)∧Sat W0 (pairG z.2.2.1 z.2.1::blk b3 137 [str c.key,str c.val,.bool c.del]::pairV (.slice a ps.length cc) ps::F) w) (fun z=>ps.length-z.1) (0,[],.slice none 0 0,c.del) ⟨rfl,rfl,rfl,rfl,rfl,trivial⟩
  ⟨⟨Nat.zero_le _,Nat.le_refl _,by rw [List.drop_zero];exact hR⟩,Sat.ownNil (k:=2) (E:=158) hs⟩ ?_
 clear hs hR
 rintro ⟨i,out,vo,put⟩ w ⟨⟨hi,ho,hl⟩,hs⟩
 dsimp only at hi ho hl hs ⊢
 obtain ⟨ao,co,rfl,-⟩:=hs.ownShape
 by_cases hlt:i<ps.length
 ·have hlt':(i:Int)<(ps.length:Int):=by omega
  obtain ⟨z,p,hg,hd,rfl,hseg,c0,c1,h2⟩:=(hs.take (.there (.there .here))).pvRow hlt
  clear hs
  rw [hd] at hl
  unfold setR at hl
  rw [bltB_eq] at hl
  have hs:Sat W0 (pairG (.slice ao out.length co) out::ob true z.b (.cells z.all.toArray z.E (0,0))::blk b3 137 [str c.key,str c.val,.bool c.del]::pairV (.slice (some ⟨z.b,z.o,none⟩) ps.length cc) ps::F) w:=h2.to
  clear h2
  refine wc_seq ?_
  refine wc_seq ?_
  refine gxs ?_
  refine wq_then rfl ?_
  refine gxs ?_
  refine wq_then rfl ?_
  refine wc_seq ?_
  refine wc_block ?_
  refine wc_cut (α:=List (Bs×Bs)×Value) (fun y=>[(0,.slice (some ⟨z.b,z.o,none⟩) ps.length cc),(3,idV b3),(5,y.2),(6,.bool (put||!ltb p.1 c.key)),(7,.int .i64 (i:Int))])
   (fun y w=>(y.1.length≤2*i+1∧y.1++((if p.1=c.key then [] else [p])++setR c.key c.val (put||!ltb p.1 c.key) (ps.drop (i+1)))=R)∧Sat W0 (pairG y.2 y.1::ob true z.b (.cells z.all.toArray z.E (0,0))::blk b3 137 [str c.key,str c.val,.bool c.del]::pairV (.slice (some ⟨z.b,z.o,none⟩) ps.length cc) ps::F) w) ?_ ?_
  ·refine wc_seq ?_
   refine wc_tree [ob true z.b (.cells z.all.toArray z.E (0,0)),blk b3 137 [str c.key,str c.val,.bool c.del]] [7,9] (.q 0 (.q 1 (.q 2 (.q 3 (.q 4 (.q 5 (.q 6 (.s 7 (.q 8 (.s 9 (.q 10 (.q 11 .nil)))))))))))) hs (by kernel_rfl) ?_
   clear hs
   intro w hs
   cases put with
   | true=>
    refine gyt ?_
    refine gy ?_
    exact wq_cut (out,.slice ao out.length co) ⟨rfl,rfl,rfl,rfl,rfl,trivial⟩ ⟨⟨by show out.length≤_;omega,by simpa using hl⟩,hs⟩
   | false=>
    by_cases hb:ltb p.1 c.key=true
    ·have hb':(!ltb p.1 c.key)=false:=by rw [hb];rfl
     refine gyt ?_
     refine gy ?_
     exact wq_cut (out,.slice ao out.length co) ⟨rfl,rfl,rfl,by rw [hb];rfl,rfl,trivial⟩ ⟨⟨by show out.length≤_;omega,by simpa [hb] using hl⟩,hs⟩
    ·have hb':(!ltb p.1 c.key)=true:=by simpa using hb
     refine gyt ?_
     refine gy ?_
     refine w_build (pairC (c.key,c.val)) ?_
     refine w_lit (pairC (c.key,c.val)) hs ?_
     clear hs
     intro w b8 hs
     refine w_app1 hs ?_
     clear hs
     intro v2 w hs
     rw [ap_pairs] at hs
     refine gy ?_
     exact wq_cut (out++[(c.key,c.val)],v2) ⟨rfl,rfl,rfl,by rw [hb'];rfl,rfl,trivial⟩ ⟨⟨by simp;omega,by simpa [hb] using hl⟩,hs⟩
  ·clear hs hl
   rintro ⟨out,vo⟩ w ⟨⟨ho,hl⟩,hs⟩
   dsimp only at ho hl hs ⊢
   obtain ⟨ao,co,rfl,-⟩:=hs.ownShape
   refine wc_seq ?_
   refine wc_tree [ob true z.b (.cells z.all.toArray z.E (0,0)),blk b3 137 [str c.key,str c.val,.bool c.del]] [4,6] (.q 0 (.q 1 (.q 2 (.q 3 (.s 4 (.q 5 (.s 6 (.q 7 .nil)))))))) hs (by kernel_rfl) ?_
   clear hs
   intro w hs
   by_cases hk:p.1=c.key
   ·have hk':¬ (p.1≠c.key):=by simpa using hk
    rw [if_pos hk] at hl
    refine gyt ?_
    refine gy ?_
    exact wq_round (i+1,out,_,_) ⟨rfl,rfl,rfl,rfl,rfl,trivial⟩ ⟨⟨hlt,by show out.length≤_;omega,hl⟩,hs.to⟩ (by show ps.length-(i+1)<ps.length-i;omega)
   ·have hk':p.1≠c.key:=hk
    rw [if_neg hk] at hl
    refine gyt ?_
    refine gy ?_
    refine w_lit (pairC p) hs ?_
    clear hs
    intro w b8 hs
    refine w_app1 hs ?_
    clear hs
    intro v2 w hs
    rw [ap_pairs] at hs
    refine gy ?_
    exact wq_round (i+1,out++[p],v2,(put||!ltb p.1 c.key)) ⟨rfl,rfl,rfl,rfl,rfl,trivial⟩ ⟨⟨hlt,by simp;omega,by rw [List.append_assoc];exact hl⟩,hs.to⟩ (by show ps.length-(i+1)<ps.length-i;omega)
 ·have hie:i=ps.length:=by omega
  subst hie
  have hlt':¬ (ps.length:Int)<(ps.length:Int):=by omega
  rw [List.drop_length] at hl
  unfold setR at hl
  cases put with
  | true=>
   rw [if_pos rfl,List.append_nil] at hl
   subst hl
   refine gy ?_
   exact wq_ret rfl ⟨_,rfl,hs.to⟩
  | false=>
   rw [if_neg (by simp)] at hl
   subst hl
   refine gy ?_
   refine w_build (pairC (c.key,c.val)) ?_
   refine w_lit (pairC (c.key,c.val)) hs ?_
   clear hs
   intro w b8 hs
   refine w_app1 hs ?_
   clear hs
   intro v2 w hs
   rw [ap_pairs] at hs
   refine gy ?_
   exact wq_ret rfl ⟨_,rfl,hs.to⟩
end
section
open Go.Proofs.YtecibefflhomdaaGreatDoor.Pure (PDisk Chg bltB lookP betweenP inLo inHi)
attribute [local irreducible] IntKind.wrap
variable {W0 w:World} {F:List HProp} {v:Value} {ps:List (Bs×Bs)}
def RdW (W0:World) (k:Nat) (v:Value) (rows:List (List Value)):Prop:=
 (∃ a c,v=.slice a rows.length c)∧(∀ r∈rows,r.length=k)∧(rows≠[]→∃ b o c,v=.slice (some ⟨b,o,none⟩) rows.length c∧∀ j u,rows.flatten[j]?=some u→W0.cell? ⟨b,o+j,none⟩=some u)
theorem RdW.row {k:Nat} {rows:List (List Value)} (h:RdW W0 k v rows) {i:Nat} {x:List Value} (hx:rows[i]?=some x):∃ b o c,v=.slice (some ⟨b,o,none⟩) rows.length c∧∀ j u,x[j]?=some u→W0.cell? ⟨b,o+i*k+j,none⟩=some u:=by
 obtain ⟨b,o,c,h1,h2⟩:=h.2.2 (fun h=>by rw [h] at hx;simp at hx)
 refine ⟨b,o,c,h1,fun j u hu=>?_⟩
 have:=(rows_seg h.2.1 hx).at j u hu
 rw [Nat.add_assoc]
 exact h2 _ _ this
theorem RdW.chg {l:List Chg} {a:Option Addr} {n c:Nat} (h:RdW W0 3 (.slice a n c) (chgsC l)) {i:Nat} (hi:i<l.length):∃ b o x,l[i]?=some x∧l.drop i=x::l.drop (i+1)∧a=some ⟨b,o,none⟩ ∧
 (∀ j u,(chgC x)[j]?=some u→W0.cell? ⟨b,o+i*3+j,none⟩=some u)∧W0.cell? ⟨b,o+i*3,none⟩=some (str x.key)∧W0.cell? ⟨b,o+i*3+1,none⟩=some (str x.val)∧W0.cell? ⟨b,o+i*3+2,none⟩=some (.bool x.del):=by
 have hg:l[i]?=some l[i]:=List.getElem?_eq_getElem hi
 obtain ⟨b,o,c,h1,h2⟩:=h.row (chgsC_at hg)
 injection h1 with h3 _ _
 exact ⟨b,o,l[i],hg,List.drop_eq_getElem_cons hi,h3,h2,h2 0 _ rfl,h2 1 _ rfl,h2 2 _ rfl⟩
theorem RdW.chgLen {l:List Chg} (h:RdW W0 3 v (chgsC l)):∃ a c,v=.slice a l.length c:=by
 obtain ⟨a,c,h1⟩:=h.1
 rw [chgsC_length] at h1
 exact ⟨a,c,h1⟩
abbrev chgG (v:Value) (l:List Chg):HProp:=ownS 3 v 137 l.length (chgsC l).flatten
theorem ap_chgs (E:Nat) (l:List Chg) (p:Chg):ownS 3 v E (l.length+1) ((chgsC l).flatten++chgC p)=ownS 3 v E (l++[p]).length (chgsC (l++[p])).flatten:=by
 rw [List.length_append];simp [chgsC]
abbrev chgV (v:Value) (l:List Chg):HProp:=rvw 3 v (chgsC l)
theorem Sat.cgShare {l:List Chg} (h:Sat W0 (chgG v l::F) w):Sat W0 (chgV v l::F) w:=by
 have h1:Sat W0 (ownS 3 v 137 (chgsC l).length (chgsC l).flatten::F) w:=by rw [chgsC_length];exact h
 exact h1.rvShare fun r hr=>by obtain ⟨x,_,rfl⟩:=List.mem_map.1 hr;rfl
theorem Sat.cvShape {l:List Chg} (h:Sat W0 (chgV v l::F) w):∃ a c,v=.slice a l.length c∧l.length≤c:=by
 obtain ⟨a,c,h1,h2⟩:=h.rvShape
 rw [chgsC_length] at h1 h2
 exact ⟨a,c,h1,h2⟩
theorem Sat.cvRow {l:List Chg} {a:Option Addr} {c i:Nat} (hs:Sat W0 (chgV (.slice a l.length c) l::F) w) (hi:i<l.length) :
 ∃ (z:VwAt) (x:Chg),l[i]?=some x∧l.drop i=x::l.drop (i+1)∧a=some ⟨z.b,z.o,none⟩∧Seg z.all (z.o+i*3) (chgC x)∧z.all[z.o+i*3]?=some (str x.key)∧z.all[z.o+i*3+1]?=some (str x.val)∧z.all[z.o+i*3+2]?=some (.bool x.del) ∧
  Sat W0 (ob true z.b (.cells z.all.toArray z.E (0,0))::chgV (.slice a l.length c) l::F) w:=by
 have hg:l[i]?=some l[i]:=List.getElem?_eq_getElem hi
 have hs':Sat W0 (rvw 3 (.slice a (chgsC l).length c) (chgsC l)::F) w:=by rw [chgsC_length];exact hs
 obtain ⟨z,h1,h2,h3⟩:=hs'.rvRow (chgsC_at hg)
 rw [chgsC_length] at h3
 exact ⟨z,l[i],hg,List.drop_eq_getElem_cons hi,h1,h2,h2.1,h2.2.1,h2.2.2.1,h3⟩
theorem theirs_spec {l:List Chg} (hl:RdW W0 3 v (chgsC l)) (hlen:l.length≤1099511627776) (hs:Sat W0 F w) :
 Calls Tryz.prog 31 #[v] w fun x w'=>∃ u,x=.returned u∧Sat W0 (chgG u l::F) w':=by
 obtain ⟨a,c,rfl⟩:=hl.chgLen
 refine enter Tryz.func31 rfl Tryz.ntmps31 Tryz.results31 rfl ?_
 refine gy ?_
 refine wc_loop (α:=Nat×Value) (fun z=>[(0,.slice a l.length c),(3,z.2),(4,.int .i64 (z.1:Int))])
  (fun z w=>z.1≤l.length∧Sat W0 (chgG z.2 (l.take z.1)::F) w) (fun z=>l.length-z.1) (0,.slice none 0 0) ⟨rfl,rfl,rfl,trivial⟩ ⟨Nat.zero_le _,Sat.ownNil (k:=3) (E:=137) hs⟩ ?_
 clear hs
 rintro ⟨i,vo⟩ w ⟨hi,hs⟩
 dsimp only at hi hs ⊢
 obtain ⟨ao,co,rfl,-⟩:=hs.ownShape
 by_cases hlt:i<l.length
 ·have hlt':(i:Int)<(l.length:Int):=by omega
  obtain ⟨b,o,x,hg,hd,rfl,-,c0,c1,c2⟩:=hl.chg hlt
  have htk:(l.take i).length=i:=by rw [List.length_take];omega
  refine gy ?_
  refine wc_tree [] [5,10,15] (.q 0 (.q 1 (.q 2 (.q 3 (.q 4 (.s 5 (.q 6 (.q 7 (.q 8 (.q 9 (.s 10 (.q 11 (.q 12 (.q 13 (.q 14 (.s 15 (.q 16 (.l 17 (.l 18 (.q 19 .nil)))))))))))))))))))) hs (by kernel_rfl) ?_
  clear hs
  intro w hs
  refine gyt ?_
  refine wt_build (chgC x) rfl ?_
  refine gyt ?_
  refine w_lit (chgC x) hs ?_
  clear hs
  intro w b8 hs
  refine gy ?_
  refine wq_wt hs.to ?_
  refine gyt ?_
  refine w_app1 hs ?_
  clear hs
  intro v2 w hs
  rw [ap_chgs] at hs
  refine gy ?_
  refine wq_wt hs.to ?_
  refine gyt ?_
  refine gy ?_
  have htk:l.take (i+1)=l.take i++[x]:=by rw [List.take_add_one,hg];rfl
  refine wq_round (i+1,v2) ⟨rfl,rfl,rfl,trivial⟩ ⟨hlt,?_⟩ (by show l.length-(i+1)<l.length-i;omega)
  rw [htk]
  exact hs
 ·have hie:i=l.length:=by omega
  subst hie
  have hlt':¬ (l.length:Int)<(l.length:Int):=by omega
  rw [List.take_length] at hs ⊢
  refine gy ?_
  exact wq_ret rfl ⟨_,rfl,hs⟩
theorem same_spec {va vb:Value} {a b:List (Bs×Bs)} (ha:a.length≤1099511627776) (hs:Sat W0 (pairV va a::pairV vb b::F) w) :
 Calls Tryz.prog 33 #[va,vb] w fun x w'=>x=.returned (.bool (decide (a=b)))∧Sat W0 (pairV va a::pairV vb b::F) w':=by
 obtain ⟨aa,ca,rfl,-⟩:=hs.pvShape
 obtain ⟨ab,cb,rfl,-⟩:=(hs.take (.there .here)).pvShape
 refine enter Tryz.func33 rfl Tryz.ntmps33 Tryz.results33 rfl ?_
 by_cases hlen:a.length=b.length
 ·have hlen':¬ ((a.length:Int)≠(b.length:Int)):=by omega
  refine gy ?_
  refine wc_loop (α:=Nat) (fun i=>[(0,.slice aa a.length ca),(1,.slice ab b.length cb),(5,.int .i64 (i:Int))])
   (fun i w=>(i≤a.length∧decide (a.drop i=b.drop i)=decide (a=b))∧Sat W0 (pairV (.slice aa a.length ca) a::pairV (.slice ab b.length cb) b::F) w) (fun i=>a.length-i) 0 ⟨rfl,rfl,rfl,trivial⟩ ⟨⟨Nat.zero_le _,by rw [List.drop_zero,List.drop_zero]⟩,hs⟩ ?_
  clear hs
  rintro i w ⟨⟨hi,hl⟩,hs⟩
  by_cases hlt:i<a.length
  ·have hlt':(i:Int)<(a.length:Int):=by omega
   have hlt2:i<b.length:=by omega
   obtain ⟨z,p,hg,hd,rfl,hseg,c0,c1,h2⟩:=hs.pvRow hlt
   clear hs
   obtain ⟨z2,p2,hg2,hd2,rfl,hseg2,c2,c3,h3⟩:=(h2.take (.there (.there .here))).pvRow hlt2
   clear h2
   rw [hd,hd2] at hl
   have hs:Sat W0 (ob true z.b (.cells z.all.toArray z.E (0,0))::ob true z2.b (.cells z2.all.toArray z2.E (0,0))::pairV (.slice (some ⟨z.b,z.o,none⟩) a.length ca) a::pairV (.slice (some ⟨z2.b,z2.o,none⟩) b.length cb) b::F) w:=h3.to
   clear h3
   refine gy ?_
   refine wc_tree [ob true z.b (.cells z.all.toArray z.E (0,0)),ob true z2.b (.cells z2.all.toArray z2.E (0,0))] [4,9,16,21] (.q 0 (.q 1 (.q 2 (.q 3 (.s 4 (.q 5 (.q 6 (.q 7 (.q 8 (.s 9 (.q 10 (.q 11 (.q 12 (.q 13 (.q 14 (.q 15 (.s 16 (.q 17 (.q 18 (.q 19 (.q 20 (.s 21 (.q 22 (.q 23 .nil)))))))))))))))))))))))) hs (by kernel_rfl) ?_
   clear hs
   intro w hs
   by_cases h1:p.1=p2.1
   ·have h1':¬ (p.1≠p2.1):=by simpa using h1
    by_cases h2:p.2=p2.2
    ·have h2':¬ (p.2≠p2.2):=by simpa using h2
     have hp:p=p2:=Prod.ext h1 h2
     subst hp
     refine gyt ?_
     refine gy ?_
     exact wq_round (i+1) ⟨rfl,rfl,rfl,trivial⟩ ⟨⟨hlt,by rw [← hl];simp⟩,hs.to⟩ (by show a.length-(i+1)<a.length-i;omega)
    ·have h2':p.2≠p2.2:=h2
     refine gyt ?_
     refine gy ?_
     have hne:a≠b:=fun e=>by
      subst e;rw [hg] at hg2;exact h2 (by rw [Option.some.inj hg2])
     exact wq_ret rfl ⟨by rw [decide_eq_false hne];rfl,hs.to⟩
   ·have h1':p.1≠p2.1:=h1
    refine gyt ?_
    refine gy ?_
    have hne:a≠b:=fun e=>by
     subst e;rw [hg] at hg2;exact h1 (by rw [Option.some.inj hg2])
    exact wq_ret rfl ⟨by rw [decide_eq_false hne];rfl,hs.to⟩
  ·have hie:i=a.length:=by omega
   subst hie
   have hlt':¬ (a.length:Int)<(a.length:Int):=by omega
   refine gy ?_
   refine wq_ret rfl ⟨?_,hs⟩
   rw [← hl,List.drop_length,hlen,List.drop_length];rfl
 ·have hlen':((a.length:Int)≠(b.length:Int)):=by omega
  refine gy ?_
  have hne:a≠b:=fun e=>hlen (by rw [e])
  exact wq_ret rfl ⟨by rw [decide_eq_false hne];rfl,hs⟩
theorem num_spec {k:Int} (hs:Sat W0 F w):Calls Tryz.prog 65 #[.int .i64 k] w fun x w'=>x=.returned (.int .i64 k)∧Sat W0 F w':=by
 refine enter Tryz.func65 rfl Tryz.ntmps65 Tryz.results65 rfl ?_
 refine gy ?_
 exact wq_ret rfl ⟨rfl,hs⟩
end
section
open Go.Proofs.YtecibefflhomdaaGreatDoor.Pure (PDisk Chg bltB lookP betweenP inLo inHi)
attribute [local irreducible] IntKind.wrap
variable {W0 w:World} {F:List HProp} {v:Value} {ps:List (Bs×Bs)} {rb:Nat} {r:RSt}
theorem sepL_drops:∀ (l:List HProp) {r:List HProp} {h:Hp},sepL (l++r) h→sepL r h
 | [],_,_,k=>k
 | _::l,_,_,k=>sepL_drops l (sepL_drop k)
theorem sepL_pick:∀ {l:List HProp} {i:Nat} {A:HProp},l[i]?=some A→∀ {r:List HProp} {h:Hp},sepL (l++r) h→sepL (A::r) h
 | [],_,_,hi,_,_,_=>by simp at hi
 | B::l,0,A,hi,r,h,k=>by
  simp at hi;subst hi
  exact sepL_tail (fun _=>sepL_drops l) k
 | B::l,i+1,A,hi,r,h,k=>by
  simp at hi
  exact sepL_pick hi (sepL_drop k)
theorem sepL_set {A':HProp} (hA:∀ h,A' h):∀ {l:List HProp} {i:Nat} {h:Hp},sepL l h→sepL (l.set i A') h
 | [],_,_,k=>k
 | _::_,0,_,k=>sepL_head (fun h _=>hA h) k
 | _::_,_+1,_,k=>sepL_tail (fun _ k=>sepL_set hA k) k
theorem Sat.starAt {l:List HProp} {i:Nat} {A:HProp} (hl:∀ A∈l,Shd A) (hi:l[i]?=some A) (hs:Sat W0 (star l::F) w):Sat W0 (A::star l::F) w:=by
 have h2:=Sat.shDup (shd_star hl) hs
 exact h2.imp fun h k=>sepL_pick hi (sepL_star k)
theorem mem_zw {α β γ:Type} {f:α→β→γ}:∀ {a:List α} {b:List β} {x:γ},x∈List.zipWith f a b→∃ u y,u∈a∧y∈b∧x=f u y
 | [],_,_,h=>by simp at h
 | _::_,[],_,h=>by simp at h
 | u::a,y::b,x,h=>by
  rw [List.zipWith_cons_cons,List.mem_cons] at h
  rcases h with rfl|h
  ·exact ⟨u,y,by simp,by simp,rfl⟩
  ·obtain ⟨u',y',h1,h2,h3⟩:=mem_zw h
   exact ⟨u',y',by simp [h1],by simp [h2],h3⟩
theorem zipWith_setB {α β γ:Type} (f:α→β→γ):∀ (a:List α) (b:List β) (i:Nat) (x:α) (y:β),List.zipWith f (a.set i x) (b.set i y)=(List.zipWith f a b).set i (f x y)
 | [],_,i,_,_=>by simp
 | _::_,[],i,_,_=>by simp
 | _::a,_::b,0,_,_=>rfl
 | _::a,_::b,i+1,x,y=>by simp [zipWith_setB f a b i x y]
theorem splice_rows {k:Nat} {x:List Value} (hx:x.length=k):∀ (rows:List (List Value)) (i:Nat),(∀ r∈rows,r.length=k)→i<rows.length→splice rows.flatten (i*k) x=(rows.set i x).flatten
 | [],_,_,h=>by simp at h
 | r::rows,0,hk,_=>by
  have hr:r.length=k:=hk r (by simp)
  have e:splice ((r::rows).flatten) (0*k) x=x++rows.flatten:=by
   unfold splice
   rw [Nat.zero_mul,Nat.zero_add,hx,← hr];simp
  rw [e];simp
 | r::rows,i+1,hk,hi=>by
  have hr:r.length=k:=hk r (by simp)
  have ih:=splice_rows hx rows i (fun r hr=>hk r (by simp [hr])) (by simpa using hi)
  rw [List.set_cons_succ,List.flatten_cons,List.flatten_cons,← ih]
  unfold splice
  have e1:(i+1)*k=r.length+i*k:=by rw [hr,Nat.succ_mul,Nat.add_comm]
  rw [e1,List.take_length_add_append,Nat.add_assoc,List.drop_length_add_append]
  simp
def snC (u:Value):Option (List (Bs×Bs))→HProp
 | some ps=>pairV u ps
 | none=>fun _=>True
theorem shd_snC (u:Value) (x:Option (List (Bs×Bs))):Shd (snC u x):=by
 cases x with
 | none=>exact fun _ _=>trivial
 | some ps=>exact shd_rvw _ _ _
def snRow (u:Value) (x:Option (List (Bs×Bs))):List Value:=[.bool x.isSome,u]
abbrev snRows (us:List Value) (l:List (Option (List (Bs×Bs)))):List (List Value):=List.zipWith snRow us l
abbrev snS (v:Value) (us:List Value) (l:List (Option (List (Bs×Bs)))):HProp:=ownS 2 v 177 l.length (snRows us l).flatten
abbrev snT (us:List Value) (l:List (Option (List (Bs×Bs)))):HProp:=star (List.zipWith snC us l)
abbrev refL (rb:Nat) (vp vs:Value) (us:List Value) (r:RSt):List HProp:=[blk rb 88 [vp,vs,.bool r.closed],pairV vp r.pairs,snS vs us r.snaps,snT us r.snaps]
def refC (rb:Nat) (r:RSt):HProp:=fun h=>∃ (vp vs:Value) (us:List Value),(us.length=r.snaps.length∧∀ u∈us,isOne u=true)∧sepL (refL rb vp vs us r) h
theorem Sat.rfOpen (h:Sat W0 (refC rb r::F) w):∃ (vp vs:Value) (us:List Value),(us.length=r.snaps.length∧∀ u∈us,isOne u=true)∧Sat W0 (blk rb 88 [vp,vs,.bool r.closed]::pairV vp r.pairs::snS vs us r.snaps::snT us r.snaps::F) w:=by
 obtain ⟨⟨vp,vs,us⟩,hu,hs⟩:=h.open1 (φ:=fun z:Value×Value×List Value=>z.2.2.length=r.snaps.length∧∀ u∈z.2.2,isOne u=true) (B:=fun z=>refL rb z.1 z.2.1 z.2.2 r) fun hp ⟨vp,vs,us,h1,h2⟩=>⟨⟨vp,vs,us⟩,h1,h2⟩
 exact ⟨vp,vs,us,hu,hs⟩
theorem Sat.rfClose {vp vs:Value} {us:List Value} (hu:us.length=r.snaps.length∧∀ u∈us,isOne u=true) (h:Sat W0 (blk rb 88 [vp,vs,.bool r.closed]::pairV vp r.pairs::snS vs us r.snaps::snT us r.snaps::F) w):Sat W0 (refC rb r::F) w:=
 Sat.close (B:=refL rb vp vs us r) h fun hp k=>⟨vp,vs,us,hu,k⟩
theorem snRows_k (us:List Value) (l:List (Option (List (Bs×Bs)))):∀ r∈snRows us l,r.length=2:=fun r hr=>by
 obtain ⟨x,y,_,_,rfl⟩:=mem_zw hr
 rfl
theorem snRows_at {us:List Value} {l:List (Option (List (Bs×Bs)))} {i:Nat} {u:Value} {x:Option (List (Bs×Bs))} (h1:us[i]?=some u) (h2:l[i]?=some x):(snRows us l).flatten[0+i*2]?=some (.bool x.isSome)∧(snRows us l).flatten[0+i*2+1]?=some u:=by
 have h3:(snRows us l)[i]?=some (snRow u x):=by rw [List.getElem?_zipWith,h1,h2]
 have h4:=rows_seg (snRows_k us l) h3
 rw [Nat.zero_add]
 exact ⟨h4.1,h4.2.1⟩
theorem snRows_len (us:List Value) (l:List (Option (List (Bs×Bs)))) (h:us.length=l.length):(snRows us l).length=l.length:=by simp [h]
def getV (x:Except Err (Option Bs)):Value:=.tuple #[str (bsX x),.bool (isX x),.int .i64 (numE (errX x):Int)]
def rGet (r:RSt) (key:Bs):Except Err (Option Bs):=if r.closed=true then .error (none,6) else refGet r.pairs key
theorem rget_spec {key:Bs} (hp:r.pairs.length≤1099511627776) (hs:Sat W0 (refC rb r::F) w) :
 Calls Tryz.prog 129 #[idV rb,str key] w fun x w'=>x=.returned (getV (rGet r key))∧Sat W0 (refC rb r::F) w':=by
 obtain ⟨vp,vs,us,hu,hs⟩:=hs.rfOpen
 refine enter Tryz.func129 rfl Tryz.ntmps129 Tryz.results129 rfl ?_
 unfold rGet
 generalize hc:r.closed=cl at hs
 cases cl with
 | true=>
  refine gy ?_
  exact wq_ret rfl ⟨rfl,Sat.rfClose hu (by rw [hc];exact hs)⟩
 | false=>
  refine gy ?_
  refine w_call (met (refget_spec (hs.take (.there .here)) hp) ?_)
  clear hs
  rintro _ w ⟨rfl,hs⟩
  refine ⟨_,rfl,?_⟩
  refine gy ?_
  exact wq_ret rfl ⟨rfl,Sat.rfClose hu (by rw [hc];exact hs.to)⟩
def rScan (r:RSt) (lo hi:Bs) (limit:Int):Except Err (List (Bs×Bs)):=if r.closed=true then .error (none,6) else .ok (betweenP r.pairs lo hi limit)
theorem rscan_spec {lo hi:Bs} {limit:Int} (hp:r.pairs.length≤1099511627776) (hs:Sat W0 (refC rb r::F) w) :
 Calls Tryz.prog 130 #[idV rb,str lo,str hi,.int .i64 limit] w fun x w'=>∃ u,x=.returned (.tuple #[u,.int .i64 (numE (errX (rScan r lo hi limit)):Int)])∧Sat W0 (pairV u (okL (rScan r lo hi limit))::refC rb r::F) w':=by
 obtain ⟨vp,vs,us,hu,hs⟩:=hs.rfOpen
 refine enter Tryz.func130 rfl Tryz.ntmps130 Tryz.results130 rfl ?_
 unfold rScan
 generalize hc:r.closed=cl at hs
 cases cl with
 | true=>
  refine gy ?_
  exact wq_ret rfl ⟨_,rfl,Sat.rvEmp (Sat.rfClose hu (by rw [hc];exact hs)) (.inl rfl) (fun _=>rfl)⟩
 | false=>
  refine gy ?_
  refine w_call (met (between_spec (hs.take (.there .here)) hp) ?_)
  clear hs
  rintro _ w ⟨u,rfl,hs⟩
  refine ⟨_,rfl,?_⟩
  have hs:=hs.pgShare
  refine gy ?_
  refine wq_ret rfl ⟨_,rfl,?_⟩
  have h2:=Sat.rfClose (F:=pairV u (betweenP r.pairs lo hi limit)::F) hu (by rw [hc];exact hs.to)
  exact h2.to
theorem rclose_spec (hs:Sat W0 (refC rb r::F) w) :
 Calls Tryz.prog 76 #[idV rb] w fun x w'=>x=.returned (.int .i64 (if r.closed=true then 6 else 0))∧Sat W0 (refC rb { r with closed:=true }::F) w':=by
 obtain ⟨vp,vs,us,hu,hs⟩:=hs.rfOpen
 refine enter Tryz.func76 rfl Tryz.ntmps76 Tryz.results76 rfl ?_
 generalize hc:r.closed=cl at hs
 cases cl with
 | true=>
  refine gy ?_
  exact wq_ret rfl ⟨rfl,Sat.rfClose (r:={ r with closed:=true }) hu hs⟩
 | false=>
  refine gy ?_
  refine w_st hs ?_
  clear hs
  intro w hs
  refine gy ?_
  exact wq_ret rfl ⟨rfl,Sat.rfClose (r:={ r with closed:=true }) hu hs⟩
theorem ropen_spec (hs:Sat W0 (refC rb r::F) w) :
 Calls Tryz.prog 128 #[idV rb] w fun x w'=>∃ rb',x=.returned (idV rb')∧Sat W0 (refC rb' ⟨r.pairs,[],false⟩::F) w':=by
 obtain ⟨vp,vs,us,hu,hs⟩:=hs.rfOpen
 obtain ⟨a,c,rfl,-⟩:=(hs.take (.there .here)).pvShape
 refine enter Tryz.func128 rfl Tryz.ntmps128 Tryz.results128 rfl ?_
 refine gy ?_
 refine w_build [.slice a r.pairs.length c,.slice none 0 0,.bool false] ?_
 refine w_box hs ?_
 clear hs
 intro w rb' hs
 refine gy ?_
 refine wq_ret rfl ⟨_,rfl,?_⟩
 have h2:=Sat.ownNil (k:=2) (E:=177) hs
 have h3:Sat W0 (snT [] []::blk rb' 88 [.slice a r.pairs.length c,.slice none 0 0,.bool false]::pairV (.slice a r.pairs.length c) r.pairs::ownS 2 (.slice none 0 0) 177 0 []::F) w:=by
  have h4:Sat W0 (blk rb' 88 [.slice a r.pairs.length c,.slice none 0 0,.bool false]::pairV (.slice a r.pairs.length c) r.pairs::ownS 2 (.slice none 0 0) 177 0 []::F) w:=h2.to
  exact h4.imp fun hp k=>sepL_unstar (a:=[]) k
 exact Sat.rfClose (r:=⟨r.pairs,[],false⟩) (us:=[]) ⟨rfl,by simp⟩ h3.to
end
end Go.Proofs.YtecibefflhomdaaGreatDoor
