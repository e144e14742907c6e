/-
  Part 37: WALKS the document's functions on pairs; WALKS the document's functions on pairs; WALKS the statements' small functions; WALKS the document's store; WALKS the document's Do, Check, Write, at, GetAt, ScanAt; WALKS api.
-/
import Derived.Test.YtecibefflhomdaaGreatDoorY36
set_option maxHeartbeats 8000000
set_option maxRecDepth 100000
set_option linter.all false
namespace Go.Proofs.YtecibefflhomdaaGreatDoor
open Go
section
open Go.Proofs.YtecibefflhomdaaGreatDoor.Pure (ad bO aQ aV dW lf k9)
attribute [local irreducible] IntKind.wrap
variable {W0 w:World} {F:List ah} {v:Value} {ps:List (Bs×Bs)}
@[simp] theorem iu (l:List (Bs×Bs)):(eX l).length=l.length:=List.length_map _
theorem Gu {i:Nat} {p:Bs×Bs} (h:ps[i]?=some p):(eX ps)[i]?=some (gR p):=by unfold eX;rw [List.getElem?_map,h];rfl
abbrev bw (v:Value) (l:List (Bs×Bs)):ah:=jm 2 v (eX l)
theorem Sat.fH (h:Sat W0 (bw v ps::F) w):∃ a c,v=.slice a ps.length c∧ps.length≤c:=by
 obtain ⟨a,c,h1,h2⟩:=h.iw
 rw [iu] at h1 h2
 exact ⟨a,c,h1,h2⟩
theorem Sat.A0 {a:Option Addr} {c i:Nat} (hs:Sat W0 (bw (.slice a ps.length c) ps::F) w) (hi:i<ps.length) :
 ∃ (z:vH) (p:Bs×Bs),ps[i]?=some p∧ps.drop i=p::ps.drop (i+1)∧a=some ⟨z.b,z.o,none⟩∧gh z.all (z.o+i*2) (gR p)∧z.all[z.o+i*2]?=some (str p.1)∧z.all[z.o+i*2+1]?=some (str p.2) ∧
  Sat W0 (ob true z.b (.cells z.all.toArray z.E (0,0))::bw (.slice a ps.length c) ps::F) w:=by
 have hg:ps[i]?=some ps[i]:=List.getElem?_eq_getElem hi
 have hs':Sat W0 (jm 2 (.slice a (eX ps).length c) (eX ps)::F) w:=by rw [iu];exact hs
 obtain ⟨z,h1,h2,h3⟩:=hs'.Lt (Gu hg)
 rw [iu] at h3
 exact ⟨z,ps[i],hg,List.drop_eq_getElem_cons hi,h1,h2,h2.1,h2.2.1,h3⟩
theorem Sat.ED (h:Sat W0 (iD v ps::F) w):Sat W0 (bw v ps::F) w:=by
 have h1:Sat W0 (aE 2 v 147 (eX ps).length (eX ps).flatten::F) w:=by rw [iu];exact h
 exact h1.jK fun r hr=>by obtain ⟨x,_,rfl⟩:=List.mem_map.1 hr;rfl
def CZ:Option Bs→Bs
 | some v=>v
 | none=>[]
theorem oH {key:Bs} (hs:Sat W0 (bw v ps::F) w) (hp:ps.length≤1099511627776) :
 Calls Tryz.prog 51 #[v,str key] w fun x w'=>x=.returned (.tuple #[str (CZ (aV ps key)),.bool (aV ps key).isSome])∧Sat W0 (bw v ps::F) w':=by
 obtain ⟨a,c,rfl,hc⟩:=hs.fH
 refine enter Tryz.func51 rfl Tryz.ntmps51 Tryz.results51 rfl ?_
 refine gy ?_
 refine aL (α:=Nat) (fun i=>[(0,.slice a ps.length c),(1,str key),(6,.int .i64 (i:Int))])
  (fun i w=>(i≤ps.length∧aV (ps.drop i) key=aV ps key)∧Sat W0 (bw (.slice a ps.length c) ps::F) w) (fun i=>ps.length-i) 0 ⟨rfl,rfl,rfl,trivial⟩ ⟨⟨Nat.zero_le _,by rw [List.drop_zero]⟩,hs⟩ ?_
 clear hs
 rintro i w ⟨⟨hi,hl⟩,hs⟩
 by_cases hlt:i<ps.length
 ·have hlt':(i:Int)<(ps.length:Int):=by omega
  obtain ⟨z,p,hg,hd,rfl,hseg,c0,c1,h2⟩:=hs.A0 hlt
  clear hs
  rw [hd] at hl
  have hl:(if p.1=key then some p.2 else aV (ps.drop (i+1)) key)=aV ps key:=hl
  by_cases hk:p.1=key
  ·rw [if_pos hk] at hl
   refine gy ?_
   refine ak rfl ⟨?_,h2.drop⟩
   rw [← hl];rfl
  ·rw [if_neg hk] at hl
   refine gy ?_
   exact aB (i+1) ⟨rfl,rfl,rfl,trivial⟩ ⟨⟨hlt,hl⟩,h2.drop⟩ (by show ps.length-(i+1)<ps.length-i;omega)
 ·have hie:i=ps.length:=by omega
  subst hie
  have hlt':¬ (ps.length:Int)<(ps.length:Int):=by omega
  rw [List.drop_length] at hl
  refine gy ?_
  refine ak rfl ⟨?_,hs⟩
  rw [← hl];rfl
abbrev A1 (v:Value) (l:List (Bs×Bs)):ah:=aE 2 v 158 l.length (eX l).flatten
theorem vg (E:Nat) (l:List (Bs×Bs)) (p:Bs×Bs):aE 2 v E (l.length+1) ((eX l).flatten++gR p)=aE 2 v E (l++[p]).length (eX (l++[p])).flatten:=by
 rw [pB,List.length_append];rfl
theorem Sat.KO (h:Sat W0 (A1 v ps::F) w):Sat W0 (bw v ps::F) w:=by
 have h1:Sat W0 (aE 2 v 158 (eX ps).length (eX ps).flatten::F) w:=by rw [iu];exact h
 exact h1.jK fun r hr=>by obtain ⟨x,_,rfl⟩:=List.mem_map.1 hr;rfl
end
section
open Go.Proofs.YtecibefflhomdaaGreatDoor.Pure (ad bO aQ aV dW lf k9)
attribute [local irreducible] IntKind.wrap
variable {W0 w:World} {F:List ah} {v:Value} {ps:List (Bs×Bs)}
theorem Gv {c:bO} (hs:Sat W0 (bw v ps::F) w) (hp:ps.length≤1099511627776) :
 Calls Tryz.prog 53 #[v,.agg (j5 c).toArray] w fun x w'=>∃ u,x=.returned u∧Sat W0 (A1 u (iY c.key c.val c.del ps)::bw v ps::F) w':=by
 obtain ⟨a,cc,rfl,hc⟩:=hs.fH
 refine enter Tryz.func53 rfl Tryz.ntmps53 Tryz.results53 rfl ?_
 refine gy ?_
 refine cE (z:=j5 c) hs ?_
 clear hs
 intro w b3 hs
 have hs:Sat W0 (blk b3 137 [str c.key,str c.val,.bool c.del]::bw (.slice a ps.length cc) ps::F) w:=hs
 generalize hR:iY c.key c.val c.del ps=R
 refine gy ?_
 refine aL (α:=Nat×List (Bs×Bs)×Value×Bool) (fun z=>[(0,.slice a ps.length cc),(3,au b3),(5,z.2.2.1),(6,.bool z.2.2.2),(7,.int .i64 (z.1:Int))])
  (fun z w=>(z.1≤ps.length∧z.2.1.length≤2*z.1∧z.2.1++iY c.key c.val z.2.2.2 (ps.drop z.1)=R)∧Sat W0 (A1 z.2.2.1 z.2.1::blk b3 137 [str c.key,str c.val,.bool c.del]::bw (.slice a ps.length cc) ps::F) w) (fun z=>ps.length-z.1) (0,[],.slice none 0 0,c.del) ⟨rfl,rfl,rfl,rfl,rfl,trivial⟩
  ⟨⟨Nat.zero_le _,Nat.le_refl _,by rw [List.drop_zero];exact hR⟩,Sat.cP (k:=2) (E:=158) hs⟩ ?_
 clear hs hR
 rintro ⟨i,out,vo,put⟩ w ⟨⟨hi,ho,hl⟩,hs⟩
 dsimp only at hi ho hl hs ⊢
 obtain ⟨ao,co,rfl,-⟩:=hs.ay
 by_cases hlt:i<ps.length
 ·have hlt':(i:Int)<(ps.length:Int):=by omega
  obtain ⟨z,p,hg,hd,rfl,hseg,c0,c1,h2⟩:=(hs.take (.there (.there .here))).A0 hlt
  clear hs
  rw [hd] at hl
  unfold iY at hl
  rw [gZ] at hl
  have hs:Sat W0 (A1 (.slice ao out.length co) out::ob true z.b (.cells z.all.toArray z.E (0,0))::blk b3 137 [str c.key,str c.val,.bool c.del]::bw (.slice (some ⟨z.b,z.o,none⟩) ps.length cc) ps::F) w:=h2.to
  clear h2
  refine dU ?_
  refine dU ?_
  refine gz ?_
  refine db rfl ?_
  refine gz ?_
  refine db rfl ?_
  refine dU ?_
  refine ik ?_
  refine eB (α:=List (Bs×Bs)×Value) (fun y=>[(0,.slice (some ⟨z.b,z.o,none⟩) ps.length cc),(3,au b3),(5,y.2),(6,.bool (put||!o8 p.1 c.key)),(7,.int .i64 (i:Int))])
   (fun y w=>(y.1.length≤2*i+1∧y.1++((if p.1=c.key then [] else [p])++iY c.key c.val (put||!o8 p.1 c.key) (ps.drop (i+1)))=R)∧Sat W0 (A1 y.2 y.1::ob true z.b (.cells z.all.toArray z.E (0,0))::blk b3 137 [str c.key,str c.val,.bool c.del]::bw (.slice (some ⟨z.b,z.o,none⟩) ps.length cc) ps::F) w) ?_ ?_
  ·refine dU ?_
   refine bH [ob true z.b (.cells z.all.toArray z.E (0,0)),blk b3 137 [str c.key,str c.val,.bool c.del]] [7,9] (.q 0 (.q 1 (.q 2 (.q 3 (.q 4 (.q 5 (.q 6 (.s 7 (.q 8 (.s 9 (.q 10 (.q 11 .nil)))))))))))) hs (by kernel_rfl) ?_
   clear hs
   intro w hs
   cases put with
   | true=>
    refine gg ?_
    refine gy ?_
    exact bg (out,.slice ao out.length co) ⟨rfl,rfl,rfl,rfl,rfl,trivial⟩ ⟨⟨by show out.length≤_;omega,by simpa using hl⟩,hs⟩
   | false=>
    by_cases hb:o8 p.1 c.key=true
    ·have hb':(!o8 p.1 c.key)=false:=by rw [hb];rfl
     refine gg ?_
     refine gy ?_
     exact bg (out,.slice ao out.length co) ⟨rfl,rfl,rfl,by rw [hb];rfl,rfl,trivial⟩ ⟨⟨by show out.length≤_;omega,by simpa [hb] using hl⟩,hs⟩
    ·have hb':(!o8 p.1 c.key)=true:=by simpa using hb
     refine gg ?_
     refine gy ?_
     refine bA (gR (c.key,c.val)) ?_
     refine gN (gR (c.key,c.val)) hs ?_
     clear hs
     intro w b8 hs
     refine dF hs ?_
     clear hs
     intro v2 w hs
     rw [vg] at hs
     refine gy ?_
     exact bg (out++[(c.key,c.val)],v2) ⟨rfl,rfl,rfl,by rw [hb'];rfl,rfl,trivial⟩ ⟨⟨by simp;omega,by simpa [hb] using hl⟩,hs⟩
  ·clear hs hl
   rintro ⟨out,vo⟩ w ⟨⟨ho,hl⟩,hs⟩
   dsimp only at ho hl hs ⊢
   obtain ⟨ao,co,rfl,-⟩:=hs.ay
   refine dU ?_
   refine bH [ob true z.b (.cells z.all.toArray z.E (0,0)),blk b3 137 [str c.key,str c.val,.bool c.del]] [4,6] (.q 0 (.q 1 (.q 2 (.q 3 (.s 4 (.q 5 (.s 6 (.q 7 .nil)))))))) hs (by kernel_rfl) ?_
   clear hs
   intro w hs
   by_cases hk:p.1=c.key
   ·have hk':¬ (p.1≠c.key):=by simpa using hk
    rw [if_pos hk] at hl
    refine gg ?_
    refine gy ?_
    exact aB (i+1,out,_,_) ⟨rfl,rfl,rfl,rfl,rfl,trivial⟩ ⟨⟨hlt,by show out.length≤_;omega,hl⟩,hs.to⟩ (by show ps.length-(i+1)<ps.length-i;omega)
   ·have hk':p.1≠c.key:=hk
    rw [if_neg hk] at hl
    refine gg ?_
    refine gy ?_
    refine gN (gR p) hs ?_
    clear hs
    intro w b8 hs
    refine dF hs ?_
    clear hs
    intro v2 w hs
    rw [vg] at hs
    refine gy ?_
    exact aB (i+1,out++[p],v2,(put||!o8 p.1 c.key)) ⟨rfl,rfl,rfl,rfl,rfl,trivial⟩ ⟨⟨hlt,by simp;omega,by rw [List.append_assoc];exact hl⟩,hs.to⟩ (by show ps.length-(i+1)<ps.length-i;omega)
 ·have hie:i=ps.length:=by omega
  subst hie
  have hlt':¬ (ps.length:Int)<(ps.length:Int):=by omega
  rw [List.drop_length] at hl
  unfold iY at hl
  cases put with
  | true=>
   rw [if_pos rfl,List.append_nil] at hl
   subst hl
   refine gy ?_
   exact ak rfl ⟨_,rfl,hs.to⟩
  | false=>
   rw [if_neg (by simp)] at hl
   subst hl
   refine gy ?_
   refine bA (gR (c.key,c.val)) ?_
   refine gN (gR (c.key,c.val)) hs ?_
   clear hs
   intro w b8 hs
   refine dF hs ?_
   clear hs
   intro v2 w hs
   rw [vg] at hs
   refine gy ?_
   exact ak rfl ⟨_,rfl,hs.to⟩
end
section
open Go.Proofs.YtecibefflhomdaaGreatDoor.Pure (ad bO aQ aV dW lf k9)
attribute [local irreducible] IntKind.wrap
variable {W0 w:World} {F:List ah} {v:Value} {ps:List (Bs×Bs)}
def vA (W0:World) (k:Nat) (v:Value) (rows:List (List Value)):Prop:=
 (∃ a c,v=.slice a rows.length c)∧(∀ r∈rows,r.length=k)∧(rows≠[]→∃ b o c,v=.slice (some ⟨b,o,none⟩) rows.length c∧∀ j u,rows.flatten[j]?=some u→W0.cell? ⟨b,o+j,none⟩=some u)
theorem vA.row {k:Nat} {rows:List (List Value)} (h:vA W0 k v rows) {i:Nat} {x:List Value} (hx:rows[i]?=some x):∃ b o c,v=.slice (some ⟨b,o,none⟩) rows.length c∧∀ j u,x[j]?=some u→W0.cell? ⟨b,o+i*k+j,none⟩=some u:=by
 obtain ⟨b,o,c,h1,h2⟩:=h.2.2 (fun h=>by rw [h] at hx;simp at hx)
 refine ⟨b,o,c,h1,fun j u hu=>?_⟩
 have:=(ja h.2.1 hx).at j u hu
 rw [Nat.add_assoc]
 exact h2 _ _ this
theorem vA.OI {l:List bO} {a:Option Addr} {n c:Nat} (h:vA W0 3 (.slice a n c) (dw l)) {i:Nat} (hi:i<l.length):∃ b o x,l[i]?=some x∧l.drop i=x::l.drop (i+1)∧a=some ⟨b,o,none⟩ ∧
 (∀ j u,(j5 x)[j]?=some u→W0.cell? ⟨b,o+i*3+j,none⟩=some u)∧W0.cell? ⟨b,o+i*3,none⟩=some (str x.key)∧W0.cell? ⟨b,o+i*3+1,none⟩=some (str x.val)∧W0.cell? ⟨b,o+i*3+2,none⟩=some (.bool x.del):=by
 have hg:l[i]?=some l[i]:=List.getElem?_eq_getElem hi
 obtain ⟨b,o,c,h1,h2⟩:=h.row (nR hg)
 injection h1 with h3 _ _
 exact ⟨b,o,l[i],hg,List.drop_eq_getElem_cons hi,h3,h2,h2 0 _ rfl,h2 1 _ rfl,h2 2 _ rfl⟩
theorem vA.yN {l:List bO} (h:vA W0 3 v (dw l)):∃ a c,v=.slice a l.length c:=by
 obtain ⟨a,c,h1⟩:=h.1
 rw [dC] at h1
 exact ⟨a,c,h1⟩
abbrev C0 (v:Value) (l:List bO):ah:=aE 3 v 137 l.length (dw l).flatten
theorem yO (E:Nat) (l:List bO) (p:bO):aE 3 v E (l.length+1) ((dw l).flatten++j5 p)=aE 3 v E (l++[p]).length (dw (l++[p])).flatten:=by
 rw [List.length_append];simp [dw]
abbrev gI (v:Value) (l:List bO):ah:=jm 3 v (dw l)
theorem Sat.yP {l:List bO} (h:Sat W0 (C0 v l::F) w):Sat W0 (gI v l::F) w:=by
 have h1:Sat W0 (aE 3 v 137 (dw l).length (dw l).flatten::F) w:=by rw [dC];exact h
 exact h1.jK fun r hr=>by obtain ⟨x,_,rfl⟩:=List.mem_map.1 hr;rfl
theorem Sat.oI {l:List bO} (h:Sat W0 (gI v l::F) w):∃ a c,v=.slice a l.length c∧l.length≤c:=by
 obtain ⟨a,c,h1,h2⟩:=h.iw
 rw [dC] at h1 h2
 exact ⟨a,c,h1,h2⟩
theorem Sat.Ja {l:List bO} {a:Option Addr} {c i:Nat} (hs:Sat W0 (gI (.slice a l.length c) l::F) w) (hi:i<l.length) :
 ∃ (z:vH) (x:bO),l[i]?=some x∧l.drop i=x::l.drop (i+1)∧a=some ⟨z.b,z.o,none⟩∧gh z.all (z.o+i*3) (j5 x)∧z.all[z.o+i*3]?=some (str x.key)∧z.all[z.o+i*3+1]?=some (str x.val)∧z.all[z.o+i*3+2]?=some (.bool x.del) ∧
  Sat W0 (ob true z.b (.cells z.all.toArray z.E (0,0))::gI (.slice a l.length c) l::F) w:=by
 have hg:l[i]?=some l[i]:=List.getElem?_eq_getElem hi
 have hs':Sat W0 (jm 3 (.slice a (dw l).length c) (dw l)::F) w:=by rw [dC];exact hs
 obtain ⟨z,h1,h2,h3⟩:=hs'.Lt (nR hg)
 rw [dC] at h3
 exact ⟨z,l[i],hg,List.drop_eq_getElem_cons hi,h1,h2,h2.1,h2.2.1,h2.2.2.1,h3⟩
theorem sM {l:List bO} (hl:vA W0 3 v (dw l)) (hlen:l.length≤1099511627776) (hs:Sat W0 F w) :
 Calls Tryz.prog 31 #[v] w fun x w'=>∃ u,x=.returned u∧Sat W0 (C0 u l::F) w':=by
 obtain ⟨a,c,rfl⟩:=hl.yN
 refine enter Tryz.func31 rfl Tryz.ntmps31 Tryz.results31 rfl ?_
 refine gy ?_
 refine aL (α:=Nat×Value) (fun z=>[(0,.slice a l.length c),(3,z.2),(4,.int .i64 (z.1:Int))])
  (fun z w=>z.1≤l.length∧Sat W0 (C0 z.2 (l.take z.1)::F) w) (fun z=>l.length-z.1) (0,.slice none 0 0) ⟨rfl,rfl,rfl,trivial⟩ ⟨Nat.zero_le _,Sat.cP (k:=3) (E:=137) hs⟩ ?_
 clear hs
 rintro ⟨i,vo⟩ w ⟨hi,hs⟩
 dsimp only at hi hs ⊢
 obtain ⟨ao,co,rfl,-⟩:=hs.ay
 by_cases hlt:i<l.length
 ·have hlt':(i:Int)<(l.length:Int):=by omega
  obtain ⟨b,o,x,hg,hd,rfl,-,c0,c1,c2⟩:=hl.OI hlt
  have htk:(l.take i).length=i:=by rw [List.length_take];omega
  refine gy ?_
  refine bH [] [5,10,15] (.q 0 (.q 1 (.q 2 (.q 3 (.q 4 (.s 5 (.q 6 (.q 7 (.q 8 (.q 9 (.s 10 (.q 11 (.q 12 (.q 13 (.q 14 (.s 15 (.q 16 (.l 17 (.l 18 (.q 19 .nil)))))))))))))))))))) hs (by kernel_rfl) ?_
  clear hs
  intro w hs
  refine gg ?_
  refine mf (j5 x) rfl ?_
  refine gg ?_
  refine gN (j5 x) hs ?_
  clear hs
  intro w b8 hs
  refine gy ?_
  refine cX hs.to ?_
  refine gg ?_
  refine dF hs ?_
  clear hs
  intro v2 w hs
  rw [yO] at hs
  refine gy ?_
  refine cX hs.to ?_
  refine gg ?_
  refine gy ?_
  have htk:l.take (i+1)=l.take i++[x]:=by rw [List.take_add_one,hg];rfl
  refine aB (i+1,v2) ⟨rfl,rfl,rfl,trivial⟩ ⟨hlt,?_⟩ (by show l.length-(i+1)<l.length-i;omega)
  rw [htk]
  exact hs
 ·have hie:i=l.length:=by omega
  subst hie
  have hlt':¬ (l.length:Int)<(l.length:Int):=by omega
  rw [List.take_length] at hs ⊢
  refine gy ?_
  exact ak rfl ⟨_,rfl,hs⟩
theorem rW {va vb:Value} {a b:List (Bs×Bs)} (ha:a.length≤1099511627776) (hs:Sat W0 (bw va a::bw vb b::F) w) :
 Calls Tryz.prog 33 #[va,vb] w fun x w'=>x=.returned (.bool (decide (a=b)))∧Sat W0 (bw va a::bw vb b::F) w':=by
 obtain ⟨aa,ca,rfl,-⟩:=hs.fH
 obtain ⟨ab,cb,rfl,-⟩:=(hs.take (.there .here)).fH
 refine enter Tryz.func33 rfl Tryz.ntmps33 Tryz.results33 rfl ?_
 by_cases hlen:a.length=b.length
 ·have hlen':¬ ((a.length:Int)≠(b.length:Int)):=by omega
  refine gy ?_
  refine aL (α:=Nat) (fun i=>[(0,.slice aa a.length ca),(1,.slice ab b.length cb),(5,.int .i64 (i:Int))])
   (fun i w=>(i≤a.length∧decide (a.drop i=b.drop i)=decide (a=b))∧Sat W0 (bw (.slice aa a.length ca) a::bw (.slice ab b.length cb) b::F) w) (fun i=>a.length-i) 0 ⟨rfl,rfl,rfl,trivial⟩ ⟨⟨Nat.zero_le _,by rw [List.drop_zero,List.drop_zero]⟩,hs⟩ ?_
  clear hs
  rintro i w ⟨⟨hi,hl⟩,hs⟩
  by_cases hlt:i<a.length
  ·have hlt':(i:Int)<(a.length:Int):=by omega
   have hlt2:i<b.length:=by omega
   obtain ⟨z,p,hg,hd,rfl,hseg,c0,c1,h2⟩:=hs.A0 hlt
   clear hs
   obtain ⟨z2,p2,hg2,hd2,rfl,hseg2,c2,c3,h3⟩:=(h2.take (.there (.there .here))).A0 hlt2
   clear h2
   rw [hd,hd2] at hl
   have hs:Sat W0 (ob true z.b (.cells z.all.toArray z.E (0,0))::ob true z2.b (.cells z2.all.toArray z2.E (0,0))::bw (.slice (some ⟨z.b,z.o,none⟩) a.length ca) a::bw (.slice (some ⟨z2.b,z2.o,none⟩) b.length cb) b::F) w:=h3.to
   clear h3
   refine gy ?_
   refine bH [ob true z.b (.cells z.all.toArray z.E (0,0)),ob true z2.b (.cells z2.all.toArray z2.E (0,0))] [4,9,16,21] (.q 0 (.q 1 (.q 2 (.q 3 (.s 4 (.q 5 (.q 6 (.q 7 (.q 8 (.s 9 (.q 10 (.q 11 (.q 12 (.q 13 (.q 14 (.q 15 (.s 16 (.q 17 (.q 18 (.q 19 (.q 20 (.s 21 (.q 22 (.q 23 .nil)))))))))))))))))))))))) hs (by kernel_rfl) ?_
   clear hs
   intro w hs
   by_cases h1:p.1=p2.1
   ·have h1':¬ (p.1≠p2.1):=by simpa using h1
    by_cases h2:p.2=p2.2
    ·have h2':¬ (p.2≠p2.2):=by simpa using h2
     have hp:p=p2:=Prod.ext h1 h2
     subst hp
     refine gg ?_
     refine gy ?_
     exact aB (i+1) ⟨rfl,rfl,rfl,trivial⟩ ⟨⟨hlt,by rw [← hl];simp⟩,hs.to⟩ (by show a.length-(i+1)<a.length-i;omega)
    ·have h2':p.2≠p2.2:=h2
     refine gg ?_
     refine gy ?_
     have hne:a≠b:=fun e=>by
      subst e;rw [hg] at hg2;exact h2 (by rw [Option.some.inj hg2])
     exact ak rfl ⟨by rw [decide_eq_false hne];rfl,hs.to⟩
   ·have h1':p.1≠p2.1:=h1
    refine gg ?_
    refine gy ?_
    have hne:a≠b:=fun e=>by
     subst e;rw [hg] at hg2;exact h1 (by rw [Option.some.inj hg2])
    exact ak rfl ⟨by rw [decide_eq_false hne];rfl,hs.to⟩
  ·have hie:i=a.length:=by omega
   subst hie
   have hlt':¬ (a.length:Int)<(a.length:Int):=by omega
   refine gy ?_
   refine ak rfl ⟨?_,hs⟩
   rw [← hl,List.drop_length,hlen,List.drop_length];rfl
 ·have hlen':((a.length:Int)≠(b.length:Int)):=by omega
  refine gy ?_
  have hne:a≠b:=fun e=>hlen (by rw [e])
  exact ak rfl ⟨by rw [decide_eq_false hne];rfl,hs⟩
theorem A2 {k:Int} (hs:Sat W0 F w):Calls Tryz.prog 65 #[.int .i64 k] w fun x w'=>x=.returned (.int .i64 k)∧Sat W0 F w':=by
 refine enter Tryz.func65 rfl Tryz.ntmps65 Tryz.results65 rfl ?_
 refine gy ?_
 exact ak rfl ⟨rfl,hs⟩
end
section
open Go.Proofs.YtecibefflhomdaaGreatDoor.Pure (ad bO aQ aV dW lf k9)
attribute [local irreducible] IntKind.wrap
variable {W0 w:World} {F:List ah} {v:Value} {ps:List (Bs×Bs)} {rb:Nat} {r:GX}
theorem vh:∀ (l:List ah) {r:List ah} {h:Hp},cV (l++r) h→cV r h
 | [],_,_,k=>k
 | _::l,_,_,k=>vh l (kj k)
theorem xB:∀ {l:List ah} {i:Nat} {A:ah},l[i]?=some A→∀ {r:List ah} {h:Hp},cV (l++r) h→cV (A::r) h
 | [],_,_,hi,_,_,_=>by simp at hi
 | B::l,0,A,hi,r,h,k=>by
  simp at hi;subst hi
  exact dH (fun _=>vh l) k
 | B::l,i+1,A,hi,r,h,k=>by
  simp at hi
  exact xB hi (kj k)
theorem Sat.C1 {l:List ah} {i:Nat} {A:ah} (hl:∀ A∈l,GU A) (hi:l[i]?=some A) (hs:Sat W0 (star l::F) w):Sat W0 (A::star l::F) w:=by
 have h2:=Sat.qm (An hl) hs
 exact h2.imp fun h k=>xB hi (dI k)
end
section
open Go.Proofs.YtecibefflhomdaaGreatDoor.Pure (ad bO aQ aV dW lf k9)
attribute [local irreducible] IntKind.wrap
variable {W0 w:World} {F:List ah} {v:Value} {ps:List (Bs×Bs)} {rb:Nat} {r:GX}
theorem ti {vc:Value} {l:List bO} (hs:Sat W0 (bw v ps::gI vc l::F) w) (hp:ps.length+l.length≤1099511627776) :
 Calls Tryz.prog 21 #[v,vc] w fun x w'=>∃ u,x=.returned u∧Sat W0 (bw u (Lx ps l)::gI vc l::F) w':=by
 obtain ⟨a,c,rfl,-⟩:=(hs.take (.there .here)).oI
 refine enter Tryz.func21 rfl Tryz.ntmps21 Tryz.results21 rfl ?_
 refine gy ?_
 refine aL (α:=Nat×List (Bs×Bs)×Value) (fun z=>[(0,z.2.2),(1,.slice a l.length c),(5,.int .i64 (z.1:Int))])
  (fun z w=>(z.1≤l.length∧z.2.1.length≤ps.length+z.1∧Lx z.2.1 (l.drop z.1)=Lx ps l)∧Sat W0 (bw z.2.2 z.2.1::gI (.slice a l.length c) l::F) w) (fun z=>l.length-z.1) (0,ps,v) ⟨rfl,rfl,rfl,trivial⟩ ⟨⟨Nat.zero_le _,Nat.le_refl _,by rw [List.drop_zero]⟩,hs⟩ ?_
 clear hs
 rintro ⟨i,p,vp⟩ w ⟨⟨hi,hpl,hl⟩,hs⟩
 dsimp only at hi hpl hl hs ⊢
 by_cases hlt:i<l.length
 ·have hlt':(i:Int)<(l.length:Int):=by omega
  obtain ⟨z,x,hg,hd,rfl,hseg,c0,c1,c2,h2⟩:=(hs.take (.there .here)).Ja hlt
  clear hs
  have hs:Sat W0 (bw vp p::ob true z.b (.cells z.all.toArray z.E (0,0))::gI (.slice (some ⟨z.b,z.o,none⟩) l.length c) l::F) w:=h2.to
  clear h2
  rw [hd] at hl
  refine gy ?_
  refine ae (met (Gv hs (by omega)) ?_)
  clear hs
  rintro _ w ⟨u,rfl,hs⟩
  refine ⟨_,rfl,?_⟩
  have hs:=hs.KO
  have hlen:=vd x.key x.val p x.del
  have hlen:(iY x.key x.val x.del p).length≤ps.length+(i+1):=by split at hlen<;>omega
  refine gy ?_
  exact aB (i+1,iY x.key x.val x.del p,u) ⟨rfl,rfl,rfl,trivial⟩ ⟨⟨hlt,hlen,hl⟩,hs.to⟩ (by show l.length-(i+1)<l.length-i;omega)
 ·have hie:i=l.length:=by omega
  subst hie
  have hlt':¬ (l.length:Int)<(l.length:Int):=by omega
  rw [List.drop_length] at hl
  have hl:p=Lx ps l:=hl
  subst hl
  refine gy ?_
  exact ak rfl ⟨_,rfl,hs⟩
theorem C2 {vc:Value} {l:List bO} (hlen:l.length≤1099511627776) (hs:Sat W0 (gI vc l::F) w) :
 Calls Tryz.prog 85 #[vc] w fun x w'=>x=.returned (.int .i64 (fY l:Int))∧Sat W0 (gI vc l::F) w':=by
 obtain ⟨a,c,rfl,-⟩:=hs.oI
 refine enter Tryz.func85 rfl Tryz.ntmps85 Tryz.results85 rfl ?_
 unfold fY
 by_cases h8:8<l.length
 ·have h8':(l.length:Int) > 8:=by omega
  rw [if_pos h8]
  refine gy ?_
  exact ak rfl ⟨rfl,hs⟩
 ·have h8':¬ (l.length:Int) > 8:=by omega
  rw [if_neg h8]
  refine gy ?_
  refine aL (α:=Nat) (fun i=>[(0,.slice a l.length c),(3,.int .i64 (i:Int))])
   (fun i w=>(i≤l.length∧rU (l.drop i)=rU l)∧Sat W0 (gI (.slice a l.length c) l::F) w) (fun i=>l.length-i) 0 ⟨rfl,rfl,trivial⟩ ⟨⟨Nat.zero_le _,by rw [List.drop_zero]⟩,hs⟩ ?_
  clear hs
  rintro i w ⟨⟨hi,hl⟩,hs⟩
  by_cases hlt:i<l.length
  ·have hlt':(i:Int)<(l.length:Int):=by omega
   obtain ⟨z,x,hg,hd,rfl,hseg,c0,c1,c2,h2⟩:=hs.Ja hlt
   clear hs
   rw [hd] at hl
   have hl:(if x.key.length=0∨8<x.key.length then 3 else if x.del=false∧16<x.val.length then 4 else rU (l.drop (i+1)))=rU l:=hl
   by_cases h1:(x.key.length:Int)=0
   ·rw [if_pos (.inl (by omega))] at hl
    refine gy ?_
    exact ak rfl ⟨by rw [← hl];rfl,h2.drop⟩
   ·by_cases h3:(x.key.length:Int) > 8
    ·rw [if_pos (.inr (by omega))] at hl
     refine gy ?_
     exact ak rfl ⟨by rw [← hl];rfl,h2.drop⟩
    ·rw [if_neg (by omega)] at hl
     cases hdel:x.del with
     | true=>
      rw [hdel] at c2 hl
      rw [if_neg (by simp)] at hl
      refine gy ?_
      exact aB (i+1) ⟨rfl,rfl,trivial⟩ ⟨⟨hlt,hl⟩,h2.drop⟩ (by show l.length-(i+1)<l.length-i;omega)
     | false=>
      rw [hdel] at c2 hl
      by_cases h4:(x.val.length:Int) > 16
      ·rw [if_pos ⟨rfl,by omega⟩] at hl
       refine gy ?_
       exact ak rfl ⟨by rw [← hl];rfl,h2.drop⟩
      ·rw [if_neg (by omega)] at hl
       refine gy ?_
       exact aB (i+1) ⟨rfl,rfl,trivial⟩ ⟨⟨hlt,hl⟩,h2.drop⟩ (by show l.length-(i+1)<l.length-i;omega)
  ·have hie:i=l.length:=by omega
   subst hie
   have hlt':¬ (l.length:Int)<(l.length:Int):=by omega
   rw [List.drop_length] at hl
   refine gy ?_
   exact ak rfl ⟨by rw [← hl];rfl,hs⟩
def EF (r:GX) (l:List bO):Nat:=if r.closed=true then 6 else fY l
end
section
open Go.Proofs.YtecibefflhomdaaGreatDoor.Pure (ad aA cx cQ im de cw dL)
attribute [local irreducible] IntKind.wrap
variable {W0 w:World} {F l:List ah} {v:Value} {d:Nat} {D:ad} {bs:Bs}
abbrev Cp:=Bs×Nat×Bs
abbrev pO (cp:List Cp):List (Bs×Nat):=cp.map fun c=>(c.1,c.2.1)
abbrev Bw (cp:List Cp):List (Nat×(Bs×Nat)):=cp.map fun c=>(c.2.1,(c.2.2,c.2.2.length))
abbrev Jb (cp:List Cp):List (Bs×Bs):=cp.map fun c=>(c.1,c.2.2)
abbrev vR (room:Int) (cp:List Cp):ad:=⟨pO cp,pO cp,[],Bw cp,room,0,0,0,0⟩
abbrev qR (D:ad) (l:List (Bs×Nat)):List (Bs×Bs):=l.map fun p=>(p.1,D.aH p.2)
theorem n7 {κ α:Type} [DecidableEq κ]:∀ {l:List (κ×α)} {x:κ} {u:α},aA l x=none→cx l x u=l++[(x,u)]
 | [],_,_,_=>rfl
 | (k,v)::r,x,u,h=>by
  unfold aA at h
  by_cases hx:x=k
  ·rw [if_pos hx] at h;cases h
  ·rw [if_neg hx] at h
   unfold cx
   rw [if_neg hx,n7 h];rfl
theorem xC {κ α:Type} [DecidableEq κ] {a b:List (κ×α)} (hb:(b.map (·.1)).Nodup) (h:a.Perm b) (x:κ):aA a x=aA b x:=by
 have ha:(a.map (·.1)).Nodup:=(h.map (·.1)).nodup_iff.2 hb
 cases hx:aA b x with
 | none=>
  rw [cw] at hx ⊢
  exact fun hm=>hx ((h.map (·.1)).mem_iff.1 hm)
 | some u=>exact de ha (h.mem_iff.2 (dL hx))
theorem EG {cp:List Cp} {room:Int} (hid:(cp.map (·.2.1)).Nodup) {c:Cp} (hc:c∈cp):(vR room cp).aH c.2.1=c.2.2:=by
 have h1:aA (Bw cp) c.2.1=some (c.2.2,c.2.2.length):=de (by rw [List.map_map];exact hid) (List.mem_map.2 ⟨c,hc,rfl⟩)
 unfold ad.aH
 show (match aA (Bw cp) c.2.1 with|some x=>x.1|none=>[])=_
 rw [h1]
theorem KP {cp:List Cp} {room:Int} (hid:(cp.map (·.2.1)).Nodup) (m:Bs):file (vR room cp) m=aA (Jb cp) m:=by
 unfold file
 show (aA (pO cp) m).map _=_
 have key:∀ l:List Cp,(∀ c∈l,c∈cp)→(aA (pO l) m).map (vR room cp).aH=aA (Jb l) m:=by
  intro l
  induction l with
  | nil=>intro _;rfl
  | cons c r ih=>
   intro hl
   have ih:=ih fun c hc=>hl c (List.mem_cons_of_mem _ hc)
   simp only [pO,Jb,List.map_cons,aA] at ih ⊢
   by_cases hm:m=c.1
   ·rw [if_pos hm,if_pos hm,Option.map_some,EG hid (hl c (by simp))]
   ·rw [if_neg hm,if_neg hm];exact ih
 exact key cp fun _ h=>h
theorem A3 (D:ad) (m:Bs):∀ l:List (Bs×Nat),aA (qR D l) m=(aA l m).map D.aH
 | []=>rfl
 | p::r=>by
  simp only [qR,List.map_cons,aA]
  by_cases hm:m=p.1
  ·rw [if_pos hm,if_pos hm];rfl
  ·rw [if_neg hm,if_neg hm];exact A3 D m r
theorem KQ {cp:List Cp} (hok:D.Ok) (hid:(cp.map (·.2.1)).Nodup) (hp:(Jb cp).Perm (qR D D.now)):rS D (vR D.room cp):=by
 have hkeys:((qR D D.now).map (·.1)).Nodup:=by rw [List.map_map];exact hok.names
 have hn:(cp.map (·.1)).Nodup:=by
  have:=(hp.map (·.1)).nodup_iff.2 hkeys
  rwa [List.map_map] at this
 have hu:(vR D.room cp).used=D.used:=by
  unfold ad.used
  have h1:((vR D.room cp).now.map fun p=>((vR D.room cp).aH p.2).length)=(Jb cp).map fun e=>e.2.length:=by
   show (pO cp).map _=_
   rw [List.map_map,List.map_map]
   exact List.map_congr_left fun c hc=>by show ((vR D.room cp).aH c.2.1).length=_;rw [EG hid hc];rfl
  have h2:(D.now.map fun p=>(D.aH p.2).length)=(qR D D.now).map fun e=>e.2.length:=by rw [List.map_map];rfl
  rw [h1,h2]
  exact (hp.map _).sum_nat
 have hsome:∀ p∈pO cp,(aA (Bw cp) p.2).isSome=true:=by
  intro p hp
  obtain ⟨c,hc,rfl⟩:=List.mem_map.1 hp
  cases h:aA (Bw cp) c.2.1 with
  | some _=>rfl
  | none=>exact absurd (List.mem_map.2 ⟨_,List.mem_map.2 ⟨c,hc,rfl⟩,rfl⟩) (cw.1 h)
 refine ⟨⟨hsome,hsome,fun l hl=>by simp at hl,by rw [List.map_map];exact hn,by rw [List.map_map];exact hid,hok.room0,hok.room1,by simp,by simp,by simp,by simp,by rw [hu];exact hok.used,fun l hl=>by simp at hl⟩,fun m=>?_,rfl,rfl,rfl,hu⟩
 rw [KP hid,xC hkeys hp m,A3]
 rfl
theorem Sat.N6 (hs:Sat W0 (cC v bs::l) w):∃ A:ah,LW (A::l) v bs∧Sat W0 (A::l) w∧∀ hp,A hp→cC v bs hp:=by
 by_cases hb:bs=[]
 ·subst hb
  obtain ⟨a,c,rfl,-⟩:=hs.ay
  exact ⟨_,.inl ⟨rfl,a,c,rfl⟩,hs,fun _ h=>h⟩
 ·have hpos:0<bs.length:=(by cases bs with|nil=>exact absurd rfl hb|cons _ _=>simp)
  have hlen:=hs.tB
  have hone:=hs.tC
  obtain ⟨b,cap,rs,rfl,q1,q2,q3,hs2⟩:=hs.dV hpos
  refine ⟨blk b 5 (bs.map bV++rs),.inr ⟨b,0,cap,false,_,_,_,rfl,.here,fun j u hu=>?_⟩,hs2,fun hp k=>⟨hlen,hone,.inr ⟨b,cap,rs,rfl,q1,q2,q3,k⟩⟩⟩
  simp only [List.getElem?_toArray,Nat.zero_add]
  rw [List.getElem?_append_left (List.getElem?_eq_some_iff.1 hu).1];exact hu
theorem Gw (hs:Sat W0 (eh d D::F) w) :
 Calls Tryz.prog 16 #[au d] w fun x w'=>∃ c cp,x=.returned (au c)∧rS D (vR D.room cp)∧Sat W0 (eh c (vR D.room cp)::eh d D::F) w':=by
 obtain ⟨hok,z,hs⟩:=hs.eR
 dsimp only [fK,aX,List.cons_append,List.nil_append] at hs
 refine enter Tryz.func16 rfl Tryz.ntmps16 Tryz.results16 rfl ?_
 refine gy ?_
 refine ae (met (qg hs hok.room0 hok.room1) ?_)
 clear hs
 rintro _ w ⟨c,rfl,hs⟩
 refine ⟨_,rfl,?_⟩
 obtain ⟨-,zc,hs⟩:=hs.eR
 dsimp only [fK,aX,List.cons_append,List.nil_append] at hs
 refine gy ?_
 refine nA cu hs (.there (.there (.there (.there (.there (.there .here)))))) rfl rfl rfl ?_
 clear hs
 intro w it hs
 refine gy ?_
 refine aL (α:=List (Bs×Nat)×List Cp) (fun _=>[(3,au c),(15,.pointer (some ⟨it,0,none⟩))])
  (fun y w=>(((Jb y.2++qR D y.1).Perm (qR D D.now))∧(y.2.map (·.2.1)).Nodup∧(∀ p∈y.1,p∈D.now))∧∃ last,Sat W0 (fy cu z.bn it (aM D.now) (aM y.1) last::blk c 111 (aX zc (vR D.room y.2))::aO cu zc.bn (aM (pO y.2))::aO cu zc.bs (aM (pO y.2))::eP zc.mv []::star ((Bw y.2).map dA)::blk d 111 (aX z D)::aO cu z.bs (aM D.safe)::eP z.mv D.moves::star (D.nodes.map dA)::F) w)
  (fun y=>y.1.length) (D.now,[]) ⟨rfl,rfl,trivial⟩ ⟨⟨by simp,by simp,fun _ h=>h⟩,none,hs.to⟩ ?_
 clear hs
 rintro ⟨left,cp⟩ w ⟨⟨hp,hid,hsub⟩,last,hs⟩
 dsimp only at hp hid hsub hs ⊢
 refine gy ?_
 refine pZ cu hs .here rfl rfl (fun h0=>?_) (fun l1 x l2 w hl hs=>?_)
 ·have hl0:left=[]:=by simpa [aM] using h0
  subst hl0
  have hp:(Jb cp).Perm (qR D D.now):=by simpa using hp
  have hcp:=KQ hok hid hp
  have hs:=hs.lP
  refine gy ?_
  refine ak rfl ⟨_,cp,rfl,hcp,?_⟩
  have h2:=Sat.cU (z:=z) (d:=d) (D:=D) (F:=fK c zc (vR D.room cp)++F) hok hs.to
  exact Sat.cU (z:=zc) (d:=c) (D:=vR D.room cp) (F:=eh d D::F) hcp.ok h2.to
 ·obtain ⟨a,p,b,rfl,rfl,hab⟩:=iZ hl
  rw [hab] at hs
  have hpn:p∈D.now:=hsub p (by simp)
  obtain ⟨x,hx⟩:∃ x,aA D.nodes p.2=some x:=Option.isSome_iff_exists.1 (hok.now p hpn)
  have hdata:D.aH p.2=x.1:=by unfold ad.aH;rw [hx]
  have hkeys:((qR D D.now).map (·.1)).Nodup:=by rw [List.map_map];exact hok.names
  have hnew:aA (pO cp) p.1=none:=by
   rw [cw]
   intro hm
   have h1:=(hp.map (·.1)).nodup_iff.2 hkeys
   rw [List.map_append,List.nodup_append] at h1
   refine h1.2.2 p.1 ?_ p.1 ?_ rfl
   ·rw [List.map_map] at hm ⊢;exact hm
   ·rw [List.map_map];exact List.mem_map.2 ⟨p,by simp,rfl⟩
  have hperm:(Jb cp++(p.1,x.1)::qR D (a++b)).Perm (qR D D.now):=by
   refine List.Perm.trans ?_ hp
   refine List.Perm.append_left _ ?_
   simp only [qR,List.map_append,List.map_cons]
   rw [← hdata]
   exact List.perm_middle.symm
  have hsz:x.1.length≤4398046511104:=by
   have h1:aA D.now p.1=some p.2:=de hok.names hpn
   have h2:=Pure.ad.size_le (D:=D) (n:=p.1) (i:=p.2) h1
   have h3:=hok.used
   rw [hdata] at h2;omega
  refine gy ?_
  refine nB cu hs .here rfl rfl ?_
  refine gy ?_
  obtain ⟨B,C,vn,e1,e2,hs⟩:=(hs.take (.there (.there (.there (.there (.there (.there (.there (.there (.there .here)))))))))).kL hx
  obtain ⟨an,cn,rfl,-⟩:=(hs.take (.there .here)).ay
  obtain ⟨A,hrd,hs2,hback⟩:=(hs.take (.there .here)).N6
  clear hs
  rename Sat W0 _ w=>hs
  refine bH [blk c 111 (aX zc (vR D.room cp)),blk p.2 116 [.slice an x.1.length cn,.int .i64 (x.2:Int)]] [3,8,13] (.q 0 (.q 1 (.q 2 (.s 3 (.q 4 (.q 5 (.q 6 (.q 7 (.s 8 (.q 10 (.q 11 (.q 12 (.s 13 (.q 14 (.l 9 (.q 15 (.l 16 (.l 17 .nil)))))))))))))))))) hs (by kernel_rfl) ?_
  clear hs
  intro w hs
  refine gg ?_
  refine ae (met (tU hs hrd (by omega)) ?_)
  clear hs
  rintro _ w ⟨v2,rfl,hs⟩
  refine ⟨_,rfl,?_⟩
  obtain ⟨a2,c2,rfl,-⟩:=hs.ay
  refine gy ?_
  refine cX hs.to ?_
  refine gg ?_
  refine mf [.slice a2 x.1.length c2,.int .i64 (x.1.length:Int)] rfl ?_
  refine gg ?_
  refine cE hs ?_
  clear hs
  intro w i hs
  refine gy ?_
  refine cX hs.to ?_
  refine gg ?_
  refine iV cu hs (k:=p.1) (v:=au i) (by repeat (first|exact ic.here|apply ic.there)) rfl rfl rfl rfl ?_
  clear hs
  intro w hs
  refine gy ?_
  refine cA rfl ?_
  refine gg ?_
  refine gy ?_
  have hs:Sat W0 (aO cu zc.bn (aM (pO cp++[(p.1,i)]))::aO cu zc.bs (aM (pO cp))::blk c 111 (aX zc (vR D.room cp))::blk i 116 [.slice a2 x.1.length c2,.int .i64 (x.1.length:Int)]::cC (.slice a2 x.1.length c2) x.1::star ((Bw cp).map dA)::A::blk p.2 116 [.slice an x.1.length cn,.int .i64 (x.2:Int)]::star (B++C)::fy cu z.bn it (aM D.now) (aM (a++b)) (some (p.1,au p.2))::eP zc.mv []::blk d 111 (aX z D)::aO cu z.bs (aM D.safe)::eP z.mv D.moves::F) w:=by
   rw [← n7 hnew,jA]
   exact hs.to
  refine bH [blk c 111 (aX zc (vR D.room cp))] [3,8] (.q 0 (.q 1 (.q 2 (.s 3 (.q 4 (.q 5 (.q 6 (.q 7 (.s 8 (.q 9 (.l 10 (.l 11 .nil)))))))))))) hs (by kernel_rfl) ?_
  clear hs
  intro w hs
  refine gg ?_
  have hlook:aA (aM (pO cp++[(p.1,i)])) p.1=some (au i):=by
   rw [← n7 hnew,jA,im]
  refine oo cu hs .here rfl rfl rfl xW rfl ?_
  rw [hlook]
  refine gy ?_
  refine cX hs.to ?_
  refine gg ?_
  refine iV cu hs (k:=p.1) (v:=au i) (.there .here) rfl rfl rfl rfl ?_
  clear hs
  intro w hs
  have hfr:aA (Bw cp) i=none:=Sat.fresh (F:=F) (hs.to (a:=blk i 116 [.slice a2 x.1.length c2,.int .i64 (x.1.length:Int)]::star ((Bw cp).map dA)::F))
  have h1:=hs.to (a:=A::aO cu zc.bn (aM (pO cp++[(p.1,i)]))::aO cu zc.bs (cx (aM (pO cp)) p.1 (au i))::blk c 111 (aX zc (vR D.room cp))::blk i 116 [.slice a2 x.1.length c2,.int .i64 (x.1.length:Int)]::cC (.slice a2 x.1.length c2) x.1::star ((Bw cp).map dA)::blk p.2 116 [.slice an x.1.length cn,.int .i64 (x.2:Int)]::star (B++C)::fy cu z.bn it (aM D.now) (aM (a++b)) (some (p.1,au p.2))::eP zc.mv []::blk d 111 (aX z D)::aO cu z.bs (aM D.safe)::eP z.mv D.moves::F)
  clear hs
  have h1:=h1.head hback
  have h2:=Sat.lp (i:=p.2) (y:=x) (B:=B) (C:=C) (F:=aO cu zc.bn (aM (pO cp++[(p.1,i)]))::aO cu zc.bs (cx (aM (pO cp)) p.1 (au i))::blk c 111 (aX zc (vR D.room cp))::blk i 116 [.slice a2 x.1.length c2,.int .i64 (x.1.length:Int)]::cC (.slice a2 x.1.length c2) x.1::star ((Bw cp).map dA)::fy cu z.bn it (aM D.now) (aM (a++b)) (some (p.1,au p.2))::eP zc.mv []::blk d 111 (aX z D)::aO cu z.bs (aM D.safe)::eP z.mv D.moves::F) h1.to
  rw [← e1] at h2
  clear h1
  have h3:Sat W0 (dA (i,(x.1,x.1.length))::star ((Bw cp).map dA)::star (D.nodes.map dA)::aO cu zc.bn (aM (pO cp++[(p.1,i)]))::aO cu zc.bs (cx (aM (pO cp)) p.1 (au i))::blk c 111 (aX zc (vR D.room cp))::fy cu z.bn it (aM D.now) (aM (a++b)) (some (p.1,au p.2))::eP zc.mv []::blk d 111 (aX z D)::aO cu z.bs (aM D.safe)::eP z.mv D.moves::F) w:=
   Sat.close (B:=[blk i 116 [.slice a2 x.1.length c2,.int .i64 (x.1.length:Int)],cC (.slice a2 x.1.length c2) x.1]) h2.to fun hp k=>⟨_,k⟩
  clear h2
  have h4:Sat W0 (star ((Bw (cp++[(p.1,i,x.1)])).map dA)::star (D.nodes.map dA)::aO cu zc.bn (aM (pO cp++[(p.1,i)]))::aO cu zc.bs (cx (aM (pO cp)) p.1 (au i))::blk c 111 (aX zc (vR D.room cp))::fy cu z.bn it (aM D.now) (aM (a++b)) (some (p.1,au p.2))::eP zc.mv []::blk d 111 (aX z D)::aO cu z.bs (aM D.safe)::eP z.mv D.moves::F) w:=by
   refine (h3.take (.there .here)).imp fun hp k=>?_
   have e:(Bw (cp++[(p.1,i,x.1)])).map dA=(Bw cp).map dA++[dA (i,(x.1,x.1.length))]:=by simp [Bw]
   rw [e]
   refine dJ ?_
   rw [List.append_assoc]
   exact dI k
  have e7:cx (aM (pO cp)) p.1 (au i)=aM (pO (cp++[(p.1,i,x.1)])):=by
   rw [← jA,n7 hnew];simp [pO]
  have e8:pO cp++[(p.1,i)]=pO (cp++[(p.1,i,x.1)]):=by simp [pO]
  rw [e7,e8] at h4
  refine gy ?_
  refine cA rfl ?_
  refine gg ?_
  refine gy ?_
  refine aB (a++b,cp++[(p.1,i,x.1)]) ⟨rfl,rfl,trivial⟩ ⟨⟨?_,?_,?_⟩,some (p.1,au p.2),h4.to⟩ (by simp)
  ·have e:Jb (cp++[(p.1,i,x.1)])++qR D (a++b)=Jb cp++(p.1,x.1)::qR D (a++b):=by simp [Jb]
   rw [e];exact hperm
  ·rw [List.map_append]
   refine List.nodup_append.2 ⟨hid,by simp,fun u hu u' hu' he=>?_⟩
   simp at hu'
   subst hu'
   subst he
   rw [cw,List.map_map] at hfr
   exact hfr hu
  ·intro q hq
   refine hsub q ?_
   simp only [List.mem_append,List.mem_cons] at hq ⊢
   rcases hq with h|h
   ·exact .inl h
   ·exact .inr (.inr h)
theorem MU (hs:Sat W0 (ag d D::F) w) :
 Calls Tryz.prog 16 #[au d] w fun x w'=>∃ c D2,x=.returned (au c)∧rS D D2∧Sat W0 (ag c D2::ag d D::F) w':=by
 obtain ⟨D0,f,h,h0,hs⟩:=hs.m7
 have hu:=h.used h0
 refine (Gw hs).mono ?_
 rintro _ w' ⟨c,cp,rfl,hc,hs⟩
 have hfile:∀ m,file D0 m=file D m:=fun m=>by
  unfold file
  rw [h.now m]
  cases hm:aA D.now m with
  | none=>rfl
  | some i=>simp only [Option.map_some];rw [h.ox (h.has hm)]
 have h2:=(hs.take (.there .here)).ig h
 have hid:∀ n,aA (pO cp) n=(aA (pO cp) n).map id:=fun n=>by cases aA (pO cp) n<;>rfl
 refine ⟨c,vR D0.room cp,rfl,⟨hc.ok,fun m=>by rw [hc.file,hfile],by rw [hc.room,h.room],rfl,rfl,by rw [hc.used,hu]⟩,?_⟩
 refine Sat.ig (f:=id) ⟨hid,hid,rfl,fun i x hx=>hx,fun i j _ _ he=>he,?_,?_,rfl,rfl,rfl,rfl,rfl,hc.ok⟩ h2.to
 ·exact hc.ok.names
 ·exact hc.ok.names
end
end Go.Proofs.YtecibefflhomdaaGreatDoor
