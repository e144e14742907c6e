/-
  Part 37: WALKS the statements' small functions; WALKS the document's store; WALKS the document's Do, Check, Write, at, GetAt, ScanAt; WALKS api; WALKS slices; WALKS slices.
-/
import Derived.Test.YtecibefflhomdaaGreatDoorW36
import Derived.Shelf.Sort.Plain
set_option maxHeartbeats 8000000
set_option maxRecDepth 100000
set_option linter.all false
namespace Go.Proofs.YtecibefflhomdaaGreatDoor
open Go
section
open Go.Proofs.YtecibefflhomdaaGreatDoor.Pure (ad bX aQ aR dJ kW kV)
attribute [local irreducible] IntKind.wrap
variable {W0 w:World} {F:List ah} {v:Value} {ps:List (Bs×Bs)}
def xn (W0:World) (k:Nat) (v:Value) (rows:List (List Value)):Prop:=
 (∃ a c,v=.slice a rows.length c)∧(∀ r∈rows,r.length=k)∧(rows≠[]→∃ b o c,v=.slice (some ⟨b,o,none⟩) rows.length c∧∀ j u,rows.flatten[j]?=some u→W0.cell? ⟨b,o+j,none⟩=some u)
theorem xn.row {k:Nat} {rows:List (List Value)} (h:xn W0 k v rows) {i:Nat} {x:List Value} (hx:rows[i]?=some x):∃ b o c,v=.slice (some ⟨b,o,none⟩) rows.length c∧∀ j u,x[j]?=some u→W0.cell? ⟨b,o+i*k+j,none⟩=some u:=by
 obtain ⟨b,o,c,h1,h2⟩:=h.2.2 (fun h=>by rw [h] at hx;simp at hx)
 refine ⟨b,o,c,h1,fun j u hu=>?_⟩
 have:=(jO h.2.1 hx).at j u hu
 rw [Nat.add_assoc]
 exact h2 _ _ this
theorem xn.N6 {l:List bX} {a:Option Addr} {n c:Nat} (h:xn W0 3 (.slice a n c) (dF l)) {i:Nat} (hi:i<l.length):∃ b o x,l[i]?=some x∧l.drop i=x::l.drop (i+1)∧a=some ⟨b,o,none⟩ ∧
 (∀ j u,(lC x)[j]?=some u→W0.cell? ⟨b,o+i*3+j,none⟩=some u)∧W0.cell? ⟨b,o+i*3,none⟩=some (str x.key)∧W0.cell? ⟨b,o+i*3+1,none⟩=some (str x.val)∧W0.cell? ⟨b,o+i*3+2,none⟩=some (.bool x.del):=by
 have hg:l[i]?=some l[i]:=List.getElem?_eq_getElem hi
 obtain ⟨b,o,c,h1,h2⟩:=h.row (nN hg)
 injection h1 with h3 _ _
 exact ⟨b,o,l[i],hg,List.drop_eq_getElem_cons hi,h3,h2,h2 0 _ rfl,h2 1 _ rfl,h2 2 _ rfl⟩
theorem xn.yF {l:List bX} (h:xn W0 3 v (dF l)):∃ a c,v=.slice a l.length c:=by
 obtain ⟨a,c,h1⟩:=h.1
 rw [dR] at h1
 exact ⟨a,c,h1⟩
abbrev Mp (v:Value) (l:List bX):ah:=aI 3 v 137 l.length (dF l).flatten
theorem Kt (E:Nat) (l:List bX) (p:bX):aI 3 v E (l.length+1) ((dF l).flatten++lC p)=aI 3 v E (l++[p]).length (dF (l++[p])).flatten:=by
 rw [List.length_append];simp [dF]
abbrev jz (v:Value) (l:List bX):ah:=kD 3 v (dF l)
theorem Sat.Ec {l:List bX} (h:Sat W0 (Mp v l::F) w):Sat W0 (jz v l::F) w:=by
 have h1:Sat W0 (aI 3 v 137 (dF l).length (dF l).flatten::F) w:=by rw [dR];exact h
 exact h1.mI fun r hr=>by obtain ⟨x,_,rfl⟩:=List.mem_map.1 hr;rfl
theorem Sat.qN {l:List bX} (h:Sat W0 (jz v l::F) w):∃ a c,v=.slice a l.length c∧l.length≤c:=by
 obtain ⟨a,c,h1,h2⟩:=h.im
 rw [dR] at h1 h2
 exact ⟨a,c,h1,h2⟩
theorem Sat.IU {l:List bX} {a:Option Addr} {c i:Nat} (hs:Sat W0 (jz (.slice a l.length c) l::F) w) (hi:i<l.length) :
 ∃ (z:vF) (x:bX),l[i]?=some x∧l.drop i=x::l.drop (i+1)∧a=some ⟨z.b,z.o,none⟩∧fX z.all (z.o+i*3) (lC x)∧z.all[z.o+i*3]?=some (str x.key)∧z.all[z.o+i*3+1]?=some (str x.val)∧z.all[z.o+i*3+2]?=some (.bool x.del) ∧
  Sat W0 (ob true z.b (.cells z.all.toArray z.E (0,0))::jz (.slice a l.length c) l::F) w:=by
 have hg:l[i]?=some l[i]:=List.getElem?_eq_getElem hi
 have hs':Sat W0 (kD 3 (.slice a (dF l).length c) (dF l)::F) w:=by rw [dR];exact hs
 obtain ⟨z,h1,h2,h3⟩:=hs'.KV (nN hg)
 rw [dR] at h3
 exact ⟨z,l[i],hg,List.drop_eq_getElem_cons hi,h1,h2,h2.1,h2.2.1,h2.2.2.1,h3⟩
theorem sD {l:List bX} (hl:xn W0 3 v (dF l)) (hlen:l.length≤1099511627776) (hs:Sat W0 F w) :
 Calls Tryz.prog 31 #[v] w fun x w'=>∃ u,x=.returned u∧Sat W0 (Mp u l::F) w':=by
 obtain ⟨a,c,rfl⟩:=hl.yF
 refine enter Tryz.func31 rfl Tryz.ntmps31 Tryz.results31 rfl ?_
 refine gy ?_
 refine aK (α:=Nat×Value) (fun z=>[(0,.slice a l.length c),(3,z.2),(4,.int .i64 (z.1:Int))])
  (fun z w=>z.1≤l.length∧Sat W0 (Mp z.2 (l.take z.1)::F) w) (fun z=>l.length-z.1) (0,.slice none 0 0) ⟨rfl,rfl,rfl,trivial⟩ ⟨Nat.zero_le _,Sat.dA (k:=3) (E:=137) hs⟩ ?_
 clear hs
 rintro ⟨i,vo⟩ w ⟨hi,hs⟩
 dsimp only at hi hs ⊢
 obtain ⟨ao,co,rfl,-⟩:=hs.aB
 by_cases hlt:i<l.length
 ·have hlt':(i:Int)<(l.length:Int):=by omega
  obtain ⟨b,o,x,hg,hd,rfl,-,c0,c1,c2⟩:=hl.N6 hlt
  have htk:(l.take i).length=i:=by rw [List.length_take];omega
  refine gy ?_
  refine cx [] [5,10,15] (.q 0 (.q 1 (.q 2 (.q 3 (.q 4 (.s 5 (.q 6 (.q 7 (.q 8 (.q 9 (.s 10 (.q 11 (.q 12 (.q 13 (.q 14 (.s 15 (.q 16 (.l 17 (.l 18 (.q 19 .nil)))))))))))))))))))) hs (by kernel_rfl) ?_
  clear hs
  intro w hs
  refine kR ?_
  refine qt (lC x) rfl ?_
  refine kR ?_
  refine iT (lC x) hs ?_
  clear hs
  intro w b8 hs
  refine gy ?_
  refine dN hs.to ?_
  refine kR ?_
  refine eA hs ?_
  clear hs
  intro v2 w hs
  rw [Kt] at hs
  refine gy ?_
  refine dN hs.to ?_
  refine kR ?_
  refine gy ?_
  have htk:l.take (i+1)=l.take i++[x]:=by rw [List.take_add_one,hg];rfl
  refine aA (i+1,v2) ⟨rfl,rfl,rfl,trivial⟩ ⟨hlt,?_⟩ (by show l.length-(i+1)<l.length-i;omega)
  rw [htk]
  exact hs
 ·have hie:i=l.length:=by omega
  subst hie
  have hlt':¬ (l.length:Int)<(l.length:Int):=by omega
  rw [List.take_length] at hs ⊢
  refine gy ?_
  exact ak rfl ⟨_,rfl,hs⟩
theorem oD {va vb:Value} {a b:List (Bs×Bs)} (ha:a.length≤1099511627776) (hs:Sat W0 (aX va a::aX vb b::F) w) :
 Calls Tryz.prog 33 #[va,vb] w fun x w'=>x=.returned (.bool (decide (a=b)))∧Sat W0 (aX va a::aX vb b::F) w':=by
 obtain ⟨aa,ca,rfl,-⟩:=hs.fZ
 obtain ⟨ab,cb,rfl,-⟩:=(hs.take (.there .here)).fZ
 refine enter Tryz.func33 rfl Tryz.ntmps33 Tryz.results33 rfl ?_
 by_cases hlen:a.length=b.length
 ·have hlen':¬ ((a.length:Int)≠(b.length:Int)):=by omega
  refine gy ?_
  refine aK (α:=Nat) (fun i=>[(0,.slice aa a.length ca),(1,.slice ab b.length cb),(5,.int .i64 (i:Int))])
   (fun i w=>(i≤a.length∧decide (a.drop i=b.drop i)=decide (a=b))∧Sat W0 (aX (.slice aa a.length ca) a::aX (.slice ab b.length cb) b::F) w) (fun i=>a.length-i) 0 ⟨rfl,rfl,rfl,trivial⟩ ⟨⟨Nat.zero_le _,by rw [List.drop_zero,List.drop_zero]⟩,hs⟩ ?_
  clear hs
  rintro i w ⟨⟨hi,hl⟩,hs⟩
  by_cases hlt:i<a.length
  ·have hlt':(i:Int)<(a.length:Int):=by omega
   have hlt2:i<b.length:=by omega
   obtain ⟨z,p,hg,hd,rfl,hseg,c0,c1,h2⟩:=hs.Eb hlt
   clear hs
   obtain ⟨z2,p2,hg2,hd2,rfl,hseg2,c2,c3,h3⟩:=(h2.take (.there (.there .here))).Eb hlt2
   clear h2
   rw [hd,hd2] at hl
   have hs:Sat W0 (ob true z.b (.cells z.all.toArray z.E (0,0))::ob true z2.b (.cells z2.all.toArray z2.E (0,0))::aX (.slice (some ⟨z.b,z.o,none⟩) a.length ca) a::aX (.slice (some ⟨z2.b,z2.o,none⟩) b.length cb) b::F) w:=h3.to
   clear h3
   refine gy ?_
   refine cx [ob true z.b (.cells z.all.toArray z.E (0,0)),ob true z2.b (.cells z2.all.toArray z2.E (0,0))] [4,9,16,21] (.q 0 (.q 1 (.q 2 (.q 3 (.s 4 (.q 5 (.q 6 (.q 7 (.q 8 (.s 9 (.q 10 (.q 11 (.q 12 (.q 13 (.q 14 (.q 15 (.s 16 (.q 17 (.q 18 (.q 19 (.q 20 (.s 21 (.q 22 (.q 23 .nil)))))))))))))))))))))))) hs (by kernel_rfl) ?_
   clear hs
   intro w hs
   by_cases h1:p.1=p2.1
   ·have h1':¬ (p.1≠p2.1):=by simpa using h1
    by_cases h2:p.2=p2.2
    ·have h2':¬ (p.2≠p2.2):=by simpa using h2
     have hp:p=p2:=Prod.ext h1 h2
     subst hp
     refine kR ?_
     refine gy ?_
     exact aA (i+1) ⟨rfl,rfl,rfl,trivial⟩ ⟨⟨hlt,by rw [← hl];simp⟩,hs.to⟩ (by show a.length-(i+1)<a.length-i;omega)
    ·have h2':p.2≠p2.2:=h2
     refine kR ?_
     refine gy ?_
     have hne:a≠b:=fun e=>by
      subst e;rw [hg] at hg2;exact h2 (by rw [Option.some.inj hg2])
     exact ak rfl ⟨by rw [decide_eq_false hne];rfl,hs.to⟩
   ·have h1':p.1≠p2.1:=h1
    refine kR ?_
    refine gy ?_
    have hne:a≠b:=fun e=>by
     subst e;rw [hg] at hg2;exact h1 (by rw [Option.some.inj hg2])
    exact ak rfl ⟨by rw [decide_eq_false hne];rfl,hs.to⟩
  ·have hie:i=a.length:=by omega
   subst hie
   have hlt':¬ (a.length:Int)<(a.length:Int):=by omega
   refine gy ?_
   refine ak rfl ⟨?_,hs⟩
   rw [← hl,List.drop_length,hlen,List.drop_length];rfl
 ·have hlen':((a.length:Int)≠(b.length:Int)):=by omega
  refine gy ?_
  have hne:a≠b:=fun e=>hlen (by rw [e])
  exact ak rfl ⟨by rw [decide_eq_false hne];rfl,hs⟩
theorem AQ {k:Int} (hs:Sat W0 F w):Calls Tryz.prog 65 #[.int .i64 k] w fun x w'=>x=.returned (.int .i64 k)∧Sat W0 F w':=by
 refine enter Tryz.func65 rfl Tryz.ntmps65 Tryz.results65 rfl ?_
 refine gy ?_
 exact ak rfl ⟨rfl,hs⟩
end
section
open Go.Proofs.YtecibefflhomdaaGreatDoor.Pure (ad bX aQ aR dJ kW kV)
attribute [local irreducible] IntKind.wrap
variable {W0 w:World} {F:List ah} {v:Value} {ps:List (Bs×Bs)} {rb:Nat} {r:Gw}
theorem u9:∀ (l:List ah) {r:List ah} {h:Hp},cR (l++r) h→cR r h
 | [],_,_,k=>k
 | _::l,_,_,k=>u9 l (j5 k)
theorem xo:∀ {l:List ah} {i:Nat} {A:ah},l[i]?=some A→∀ {r:List ah} {h:Hp},cR (l++r) h→cR (A::r) h
 | [],_,_,hi,_,_,_=>by simp at hi
 | B::l,0,A,hi,r,h,k=>by
  simp at hi;subst hi
  exact du (fun _=>u9 l) k
 | B::l,i+1,A,hi,r,h,k=>by
  simp at hi
  exact xo hi (j5 k)
theorem Sat.yG {l:List ah} {i:Nat} {A:ah} (hl:∀ A∈l,Gs A) (hi:l[i]?=some A) (hs:Sat W0 (star l::F) w):Sat W0 (A::star l::F) w:=by
 have h2:=Sat.qh (Ac hl) hs
 exact h2.imp fun h k=>xo hi (dw k)
end
section
open Go.Proofs.YtecibefflhomdaaGreatDoor.Pure (ad bX aQ aR dJ kW kV)
attribute [local irreducible] IntKind.wrap
variable {W0 w:World} {F:List ah} {v:Value} {ps:List (Bs×Bs)} {rb:Nat} {r:Gw}
theorem s9 {vc:Value} {l:List bX} (hs:Sat W0 (aX v ps::jz vc l::F) w) (hp:ps.length+l.length≤1099511627776) :
 Calls Tryz.prog 21 #[v,vc] w fun x w'=>∃ u,x=.returned u∧Sat W0 (aX u (KZ ps l)::jz vc l::F) w':=by
 obtain ⟨a,c,rfl,-⟩:=(hs.take (.there .here)).qN
 refine enter Tryz.func21 rfl Tryz.ntmps21 Tryz.results21 rfl ?_
 refine gy ?_
 refine aK (α:=Nat×List (Bs×Bs)×Value) (fun z=>[(0,z.2.2),(1,.slice a l.length c),(5,.int .i64 (z.1:Int))])
  (fun z w=>(z.1≤l.length∧z.2.1.length≤ps.length+z.1∧KZ z.2.1 (l.drop z.1)=KZ ps l)∧Sat W0 (aX z.2.2 z.2.1::jz (.slice a l.length c) l::F) w) (fun z=>l.length-z.1) (0,ps,v) ⟨rfl,rfl,rfl,trivial⟩ ⟨⟨Nat.zero_le _,Nat.le_refl _,by rw [List.drop_zero]⟩,hs⟩ ?_
 clear hs
 rintro ⟨i,p,vp⟩ w ⟨⟨hi,hpl,hl⟩,hs⟩
 dsimp only at hi hpl hl hs ⊢
 by_cases hlt:i<l.length
 ·have hlt':(i:Int)<(l.length:Int):=by omega
  obtain ⟨z,x,hg,hd,rfl,hseg,c0,c1,c2,h2⟩:=(hs.take (.there .here)).IU hlt
  clear hs
  have hs:Sat W0 (aX vp p::ob true z.b (.cells z.all.toArray z.E (0,0))::jz (.slice (some ⟨z.b,z.o,none⟩) l.length c) l::F) w:=h2.to
  clear h2
  rw [hd] at hl
  refine gy ?_
  refine ae (met (F1 hs (by omega)) ?_)
  clear hs
  rintro _ w ⟨u,rfl,hs⟩
  refine ⟨_,rfl,?_⟩
  have hs:=hs.Ks
  have hlen:=u6 x.key x.val p x.del
  have hlen:(iS x.key x.val x.del p).length≤ps.length+(i+1):=by split at hlen<;>omega
  refine gy ?_
  exact aA (i+1,iS x.key x.val x.del p,u) ⟨rfl,rfl,rfl,trivial⟩ ⟨⟨hlt,hlen,hl⟩,hs.to⟩ (by show l.length-(i+1)<l.length-i;omega)
 ·have hie:i=l.length:=by omega
  subst hie
  have hlt':¬ (l.length:Int)<(l.length:Int):=by omega
  rw [List.drop_length] at hl
  have hl:p=KZ ps l:=hl
  subst hl
  refine gy ?_
  exact ak rfl ⟨_,rfl,hs⟩
theorem CI {vc:Value} {l:List bX} (hlen:l.length≤1099511627776) (hs:Sat W0 (jz vc l::F) w) :
 Calls Tryz.prog 85 #[vc] w fun x w'=>x=.returned (.int .i64 (gr l:Int))∧Sat W0 (jz vc l::F) w':=by
 obtain ⟨a,c,rfl,-⟩:=hs.qN
 refine enter Tryz.func85 rfl Tryz.ntmps85 Tryz.results85 rfl ?_
 unfold gr
 by_cases h8:8<l.length
 ·have h8':(l.length:Int) > 8:=by omega
  rw [if_pos h8]
  refine gy ?_
  exact ak rfl ⟨rfl,hs⟩
 ·have h8':¬ (l.length:Int) > 8:=by omega
  rw [if_neg h8]
  refine gy ?_
  refine aK (α:=Nat) (fun i=>[(0,.slice a l.length c),(3,.int .i64 (i:Int))])
   (fun i w=>(i≤l.length∧rQ (l.drop i)=rQ l)∧Sat W0 (jz (.slice a l.length c) l::F) w) (fun i=>l.length-i) 0 ⟨rfl,rfl,trivial⟩ ⟨⟨Nat.zero_le _,by rw [List.drop_zero]⟩,hs⟩ ?_
  clear hs
  rintro i w ⟨⟨hi,hl⟩,hs⟩
  by_cases hlt:i<l.length
  ·have hlt':(i:Int)<(l.length:Int):=by omega
   obtain ⟨z,x,hg,hd,rfl,hseg,c0,c1,c2,h2⟩:=hs.IU hlt
   clear hs
   rw [hd] at hl
   have hl:(if x.key.length=0∨8<x.key.length then 3 else if x.del=false∧16<x.val.length then 4 else rQ (l.drop (i+1)))=rQ l:=hl
   by_cases h1:(x.key.length:Int)=0
   ·rw [if_pos (.inl (by omega))] at hl
    refine gy ?_
    exact ak rfl ⟨by rw [← hl];rfl,h2.drop⟩
   ·by_cases h3:(x.key.length:Int) > 8
    ·rw [if_pos (.inr (by omega))] at hl
     refine gy ?_
     exact ak rfl ⟨by rw [← hl];rfl,h2.drop⟩
    ·rw [if_neg (by omega)] at hl
     cases hdel:x.del with
     | true=>
      rw [hdel] at c2 hl
      rw [if_neg (by simp)] at hl
      refine gy ?_
      exact aA (i+1) ⟨rfl,rfl,trivial⟩ ⟨⟨hlt,hl⟩,h2.drop⟩ (by show l.length-(i+1)<l.length-i;omega)
     | false=>
      rw [hdel] at c2 hl
      by_cases h4:(x.val.length:Int) > 16
      ·rw [if_pos ⟨rfl,by omega⟩] at hl
       refine gy ?_
       exact ak rfl ⟨by rw [← hl];rfl,h2.drop⟩
      ·rw [if_neg (by omega)] at hl
       refine gy ?_
       exact aA (i+1) ⟨rfl,rfl,trivial⟩ ⟨⟨hlt,hl⟩,h2.drop⟩ (by show l.length-(i+1)<l.length-i;omega)
  ·have hie:i=l.length:=by omega
   subst hie
   have hlt':¬ (l.length:Int)<(l.length:Int):=by omega
   rw [List.drop_length] at hl
   refine gy ?_
   exact ak rfl ⟨by rw [← hl];rfl,hs⟩
def Ed (r:Gw) (l:List bX):Nat:=if r.closed=true then 6 else gr l
end
section
open Go.Proofs.YtecibefflhomdaaGreatDoor.Pure (ad ax bZ cL ig df cu dI)
attribute [local irreducible] IntKind.wrap
variable {W0 w:World} {F l:List ah} {v:Value} {d:Nat} {D:ad} {bs:Bs}
abbrev Cp:=Bs×Nat×Bs
abbrev pG (cp:List Cp):List (Bs×Nat):=cp.map fun c=>(c.1,c.2.1)
abbrev Bi (cp:List Cp):List (Nat×(Bs×Nat)):=cp.map fun c=>(c.2.1,(c.2.2,c.2.2.length))
abbrev IV (cp:List Cp):List (Bs×Bs):=cp.map fun c=>(c.1,c.2.2)
abbrev vO (room:Int) (cp:List Cp):ad:=⟨pG cp,pG cp,[],Bi cp,room,0,0,0,0⟩
abbrev qO (D:ad) (l:List (Bs×Nat)):List (Bs×Bs):=l.map fun p=>(p.1,D.aE p.2)
theorem n5 {κ α:Type} [DecidableEq κ]:∀ {l:List (κ×α)} {x:κ} {u:α},ax l x=none→bZ l x u=l++[(x,u)]
 | [],_,_,_=>rfl
 | (k,v)::r,x,u,h=>by
  unfold ax at h
  by_cases hx:x=k
  ·rw [if_pos hx] at h;cases h
  ·rw [if_neg hx] at h
   unfold bZ
   rw [if_neg hx,n5 h];rfl
theorem xp {κ α:Type} [DecidableEq κ] {a b:List (κ×α)} (hb:(b.map (·.1)).Nodup) (h:a.Perm b) (x:κ):ax a x=ax b x:=by
 have ha:(a.map (·.1)).Nodup:=(h.map (·.1)).nodup_iff.2 hb
 cases hx:ax b x with
 | none=>
  rw [cu] at hx ⊢
  exact fun hm=>hx ((h.map (·.1)).mem_iff.1 hm)
 | some u=>exact df ha (h.mem_iff.2 (dI hx))
theorem Ee {cp:List Cp} {room:Int} (hid:(cp.map (·.2.1)).Nodup) {c:Cp} (hc:c∈cp):(vO room cp).aE c.2.1=c.2.2:=by
 have h1:ax (Bi cp) c.2.1=some (c.2.2,c.2.2.length):=df (by rw [List.map_map];exact hid) (List.mem_map.2 ⟨c,hc,rfl⟩)
 unfold ad.aE
 show (match ax (Bi cp) c.2.1 with|some x=>x.1|none=>[])=_
 rw [h1]
theorem Ku {cp:List Cp} {room:Int} (hid:(cp.map (·.2.1)).Nodup) (m:Bs):file (vO room cp) m=ax (IV cp) m:=by
 unfold file
 show (ax (pG cp) m).map _=_
 have key:∀ l:List Cp,(∀ c∈l,c∈cp)→(ax (pG l) m).map (vO room cp).aE=ax (IV l) m:=by
  intro l
  induction l with
  | nil=>intro _;rfl
  | cons c r ih=>
   intro hl
   have ih:=ih fun c hc=>hl c (List.mem_cons_of_mem _ hc)
   simp only [pG,IV,List.map_cons,ax] at ih ⊢
   by_cases hm:m=c.1
   ·rw [if_pos hm,if_pos hm,Option.map_some,Ee hid (hl c (by simp))]
   ·rw [if_neg hm,if_neg hm];exact ih
 exact key cp fun _ h=>h
theorem AR (D:ad) (m:Bs):∀ l:List (Bs×Nat),ax (qO D l) m=(ax l m).map D.aE
 | []=>rfl
 | p::r=>by
  simp only [qO,List.map_cons,ax]
  by_cases hm:m=p.1
  ·rw [if_pos hm,if_pos hm];rfl
  ·rw [if_neg hm,if_neg hm];exact AR D m r
theorem Kv {cp:List Cp} (hok:D.Ok) (hid:(cp.map (·.2.1)).Nodup) (hp:(IV cp).Perm (qO D D.now)):nZ D (vO D.room cp):=by
 have hkeys:((qO D D.now).map (·.1)).Nodup:=by rw [List.map_map];exact hok.names
 have hn:(cp.map (·.1)).Nodup:=by
  have:=(hp.map (·.1)).nodup_iff.2 hkeys
  rwa [List.map_map] at this
 have hu:(vO D.room cp).used=D.used:=by
  unfold ad.used
  have h1:((vO D.room cp).now.map fun p=>((vO D.room cp).aE p.2).length)=(IV cp).map fun e=>e.2.length:=by
   show (pG cp).map _=_
   rw [List.map_map,List.map_map]
   exact List.map_congr_left fun c hc=>by show ((vO D.room cp).aE c.2.1).length=_;rw [Ee hid hc];rfl
  have h2:(D.now.map fun p=>(D.aE p.2).length)=(qO D D.now).map fun e=>e.2.length:=by rw [List.map_map];rfl
  rw [h1,h2]
  exact (hp.map _).sum_nat
 have hsome:∀ p∈pG cp,(ax (Bi cp) p.2).isSome=true:=by
  intro p hp
  obtain ⟨c,hc,rfl⟩:=List.mem_map.1 hp
  cases h:ax (Bi cp) c.2.1 with
  | some _=>rfl
  | none=>exact absurd (List.mem_map.2 ⟨_,List.mem_map.2 ⟨c,hc,rfl⟩,rfl⟩) (cu.1 h)
 refine ⟨⟨hsome,hsome,fun l hl=>by simp at hl,by rw [List.map_map];exact hn,by rw [List.map_map];exact hid,hok.room0,hok.room1,by simp,by simp,by simp,by simp,by rw [hu];exact hok.used,fun l hl=>by simp at hl⟩,fun m=>?_,rfl,rfl,rfl,hu⟩
 rw [Ku hid,xp hkeys hp m,AR]
 rfl
theorem Sat.Nw (hs:Sat W0 (cg v bs::l) w):∃ A:ah,Ln (A::l) v bs∧Sat W0 (A::l) w∧∀ hp,A hp→cg v bs hp:=by
 by_cases hb:bs=[]
 ·subst hb
  obtain ⟨a,c,rfl,-⟩:=hs.aB
  exact ⟨_,.inl ⟨rfl,a,c,rfl⟩,hs,fun _ h=>h⟩
 ·have hpos:0<bs.length:=(by cases bs with|nil=>exact absurd rfl hb|cons _ _=>simp)
  have hlen:=hs.tu
  have hone:=hs.tw
  obtain ⟨b,cap,rs,rfl,q1,q2,q3,hs2⟩:=hs.dr hpos
  refine ⟨blk b 5 (bs.map bV++rs),.inr ⟨b,0,cap,false,_,_,_,rfl,.here,fun j u hu=>?_⟩,hs2,fun hp k=>⟨hlen,hone,.inr ⟨b,cap,rs,rfl,q1,q2,q3,k⟩⟩⟩
  simp only [List.getElem?_toArray,Nat.zero_add]
  rw [List.getElem?_append_left (List.getElem?_eq_some_iff.1 hu).1];exact hu
theorem F2 (hs:Sat W0 (dL d D::F) w) :
 Calls Tryz.prog 16 #[au d] w fun x w'=>∃ c cp,x=.returned (au c)∧nZ D (vO D.room cp)∧Sat W0 (dL c (vO D.room cp)::dL d D::F) w':=by
 obtain ⟨hok,z,hs⟩:=hs.eL
 dsimp only [fB,aU,List.cons_append,List.nil_append] at hs
 refine enter Tryz.func16 rfl Tryz.ntmps16 Tryz.results16 rfl ?_
 refine gy ?_
 refine ae (met (p9 hs hok.room0 hok.room1) ?_)
 clear hs
 rintro _ w ⟨c,rfl,hs⟩
 refine ⟨_,rfl,?_⟩
 obtain ⟨-,zc,hs⟩:=hs.eL
 dsimp only [fB,aU,List.cons_append,List.nil_append] at hs
 refine gy ?_
 refine nt bP hs (.there (.there (.there (.there (.there (.there .here)))))) rfl rfl rfl ?_
 clear hs
 intro w it hs
 refine gy ?_
 refine aK (α:=List (Bs×Nat)×List Cp) (fun _=>[(3,au c),(15,.pointer (some ⟨it,0,none⟩))])
  (fun y w=>(((IV y.2++qO D y.1).Perm (qO D D.now))∧(y.2.map (·.2.1)).Nodup∧(∀ p∈y.1,p∈D.now))∧∃ last,Sat W0 (fi bP z.bn it (aJ D.now) (aJ y.1) last::blk c 111 (aU zc (vO D.room y.2))::aO bP zc.bn (aJ (pG y.2))::aO bP zc.bs (aJ (pG y.2))::ei zc.mv []::star ((Bi y.2).map di)::blk d 111 (aU z D)::aO bP z.bs (aJ D.safe)::ei z.mv D.moves::star (D.nodes.map di)::F) w)
  (fun y=>y.1.length) (D.now,[]) ⟨rfl,rfl,trivial⟩ ⟨⟨by simp,by simp,fun _ h=>h⟩,none,hs.to⟩ ?_
 clear hs
 rintro ⟨left,cp⟩ w ⟨⟨hp,hid,hsub⟩,last,hs⟩
 dsimp only at hp hid hsub hs ⊢
 refine gy ?_
 refine pS bP hs .here rfl rfl (fun h0=>?_) (fun l1 x l2 w hl hs=>?_)
 ·have hl0:left=[]:=by simpa [aJ] using h0
  subst hl0
  have hp:(IV cp).Perm (qO D D.now):=by simpa using hp
  have hcp:=Kv hok hid hp
  have hs:=hs.lM
  refine gy ?_
  refine ak rfl ⟨_,cp,rfl,hcp,?_⟩
  have h2:=Sat.cz (z:=z) (d:=d) (D:=D) (F:=fB c zc (vO D.room cp)++F) hok hs.to
  exact Sat.cz (z:=zc) (d:=c) (D:=vO D.room cp) (F:=dL d D::F) hcp.ok h2.to
 ·obtain ⟨a,p,b,rfl,rfl,hab⟩:=iU hl
  rw [hab] at hs
  have hpn:p∈D.now:=hsub p (by simp)
  obtain ⟨x,hx⟩:∃ x,ax D.nodes p.2=some x:=Option.isSome_iff_exists.1 (hok.now p hpn)
  have hdata:D.aE p.2=x.1:=by unfold ad.aE;rw [hx]
  have hkeys:((qO D D.now).map (·.1)).Nodup:=by rw [List.map_map];exact hok.names
  have hnew:ax (pG cp) p.1=none:=by
   rw [cu]
   intro hm
   have h1:=(hp.map (·.1)).nodup_iff.2 hkeys
   rw [List.map_append,List.nodup_append] at h1
   refine h1.2.2 p.1 ?_ p.1 ?_ rfl
   ·rw [List.map_map] at hm ⊢;exact hm
   ·rw [List.map_map];exact List.mem_map.2 ⟨p,by simp,rfl⟩
  have hperm:(IV cp++(p.1,x.1)::qO D (a++b)).Perm (qO D D.now):=by
   refine List.Perm.trans ?_ hp
   refine List.Perm.append_left _ ?_
   simp only [qO,List.map_append,List.map_cons]
   rw [← hdata]
   exact List.perm_middle.symm
  have hsz:x.1.length≤4398046511104:=by
   have h1:ax D.now p.1=some p.2:=df hok.names hpn
   have h2:=Pure.ad.size_le (D:=D) (n:=p.1) (i:=p.2) h1
   have h3:=hok.used
   rw [hdata] at h2;omega
  refine gy ?_
  refine ny bP hs .here rfl rfl ?_
  refine gy ?_
  obtain ⟨B,C,vn,e1,e2,hs⟩:=(hs.take (.there (.there (.there (.there (.there (.there (.there (.there (.there .here)))))))))).jN hx
  obtain ⟨an,cn,rfl,-⟩:=(hs.take (.there .here)).aB
  obtain ⟨A,hrd,hs2,hback⟩:=(hs.take (.there .here)).Nw
  clear hs
  rename Sat W0 _ w=>hs
  refine cx [blk c 111 (aU zc (vO D.room cp)),blk p.2 116 [.slice an x.1.length cn,.int .i64 (x.2:Int)]] [3,8,13] (.q 0 (.q 1 (.q 2 (.s 3 (.q 4 (.q 5 (.q 6 (.q 7 (.s 8 (.q 10 (.q 11 (.q 12 (.s 13 (.q 14 (.l 9 (.q 15 (.l 16 (.l 17 .nil)))))))))))))))))) hs (by kernel_rfl) ?_
  clear hs
  intro w hs
  refine kR ?_
  refine ae (met (tR hs hrd (by omega)) ?_)
  clear hs
  rintro _ w ⟨v2,rfl,hs⟩
  refine ⟨_,rfl,?_⟩
  obtain ⟨a2,c2,rfl,-⟩:=hs.aB
  refine gy ?_
  refine dN hs.to ?_
  refine kR ?_
  refine qt [.slice a2 x.1.length c2,.int .i64 (x.1.length:Int)] rfl ?_
  refine kR ?_
  refine cC hs ?_
  clear hs
  intro w i hs
  refine gy ?_
  refine dN hs.to ?_
  refine kR ?_
  refine iP bP hs (k:=p.1) (v:=au i) (by repeat (first|exact ib.here|apply ib.there)) rfl rfl rfl rfl ?_
  clear hs
  intro w hs
  refine gy ?_
  refine cZ rfl ?_
  refine kR ?_
  refine gy ?_
  have hs:Sat W0 (aO bP zc.bn (aJ (pG cp++[(p.1,i)]))::aO bP zc.bs (aJ (pG cp))::blk c 111 (aU zc (vO D.room cp))::blk i 116 [.slice a2 x.1.length c2,.int .i64 (x.1.length:Int)]::cg (.slice a2 x.1.length c2) x.1::star ((Bi cp).map di)::A::blk p.2 116 [.slice an x.1.length cn,.int .i64 (x.2:Int)]::star (B++C)::fi bP z.bn it (aJ D.now) (aJ (a++b)) (some (p.1,au p.2))::ei zc.mv []::blk d 111 (aU z D)::aO bP z.bs (aJ D.safe)::ei z.mv D.moves::F) w:=by
   rw [← n5 hnew,jr]
   exact hs.to
  refine cx [blk c 111 (aU zc (vO D.room cp))] [3,8] (.q 0 (.q 1 (.q 2 (.s 3 (.q 4 (.q 5 (.q 6 (.q 7 (.s 8 (.q 9 (.l 10 (.l 11 .nil)))))))))))) hs (by kernel_rfl) ?_
  clear hs
  intro w hs
  refine kR ?_
  have hlook:ax (aJ (pG cp++[(p.1,i)])) p.1=some (au i):=by
   rw [← n5 hnew,jr,ig]
  refine lL bP hs .here rfl rfl rfl sV rfl ?_
  rw [hlook]
  refine gy ?_
  refine dN hs.to ?_
  refine kR ?_
  refine iP bP hs (k:=p.1) (v:=au i) (.there .here) rfl rfl rfl rfl ?_
  clear hs
  intro w hs
  have hfr:ax (Bi cp) i=none:=Sat.fresh (F:=F) (hs.to (a:=blk i 116 [.slice a2 x.1.length c2,.int .i64 (x.1.length:Int)]::star ((Bi cp).map di)::F))
  have h1:=hs.to (a:=A::aO bP zc.bn (aJ (pG cp++[(p.1,i)]))::aO bP zc.bs (bZ (aJ (pG cp)) p.1 (au i))::blk c 111 (aU zc (vO D.room cp))::blk i 116 [.slice a2 x.1.length c2,.int .i64 (x.1.length:Int)]::cg (.slice a2 x.1.length c2) x.1::star ((Bi cp).map di)::blk p.2 116 [.slice an x.1.length cn,.int .i64 (x.2:Int)]::star (B++C)::fi bP z.bn it (aJ D.now) (aJ (a++b)) (some (p.1,au p.2))::ei zc.mv []::blk d 111 (aU z D)::aO bP z.bs (aJ D.safe)::ei z.mv D.moves::F)
  clear hs
  have h1:=h1.head hback
  have h2:=Sat.jC (i:=p.2) (y:=x) (B:=B) (C:=C) (F:=aO bP zc.bn (aJ (pG cp++[(p.1,i)]))::aO bP zc.bs (bZ (aJ (pG cp)) p.1 (au i))::blk c 111 (aU zc (vO D.room cp))::blk i 116 [.slice a2 x.1.length c2,.int .i64 (x.1.length:Int)]::cg (.slice a2 x.1.length c2) x.1::star ((Bi cp).map di)::fi bP z.bn it (aJ D.now) (aJ (a++b)) (some (p.1,au p.2))::ei zc.mv []::blk d 111 (aU z D)::aO bP z.bs (aJ D.safe)::ei z.mv D.moves::F) h1.to
  rw [← e1] at h2
  clear h1
  have h3:Sat W0 (di (i,(x.1,x.1.length))::star ((Bi cp).map di)::star (D.nodes.map di)::aO bP zc.bn (aJ (pG cp++[(p.1,i)]))::aO bP zc.bs (bZ (aJ (pG cp)) p.1 (au i))::blk c 111 (aU zc (vO D.room cp))::fi bP z.bn it (aJ D.now) (aJ (a++b)) (some (p.1,au p.2))::ei zc.mv []::blk d 111 (aU z D)::aO bP z.bs (aJ D.safe)::ei z.mv D.moves::F) w:=
   Sat.close (B:=[blk i 116 [.slice a2 x.1.length c2,.int .i64 (x.1.length:Int)],cg (.slice a2 x.1.length c2) x.1]) h2.to fun hp k=>⟨_,k⟩
  clear h2
  have h4:Sat W0 (star ((Bi (cp++[(p.1,i,x.1)])).map di)::star (D.nodes.map di)::aO bP zc.bn (aJ (pG cp++[(p.1,i)]))::aO bP zc.bs (bZ (aJ (pG cp)) p.1 (au i))::blk c 111 (aU zc (vO D.room cp))::fi bP z.bn it (aJ D.now) (aJ (a++b)) (some (p.1,au p.2))::ei zc.mv []::blk d 111 (aU z D)::aO bP z.bs (aJ D.safe)::ei z.mv D.moves::F) w:=by
   refine (h3.take (.there .here)).imp fun hp k=>?_
   have e:(Bi (cp++[(p.1,i,x.1)])).map di=(Bi cp).map di++[di (i,(x.1,x.1.length))]:=by simp [Bi]
   rw [e]
   refine dx ?_
   rw [List.append_assoc]
   exact dw k
  have e7:bZ (aJ (pG cp)) p.1 (au i)=aJ (pG (cp++[(p.1,i,x.1)])):=by
   rw [← jr,n5 hnew];simp [pG]
  have e8:pG cp++[(p.1,i)]=pG (cp++[(p.1,i,x.1)]):=by simp [pG]
  rw [e7,e8] at h4
  refine gy ?_
  refine cZ rfl ?_
  refine kR ?_
  refine gy ?_
  refine aA (a++b,cp++[(p.1,i,x.1)]) ⟨rfl,rfl,trivial⟩ ⟨⟨?_,?_,?_⟩,some (p.1,au p.2),h4.to⟩ (by simp)
  ·have e:IV (cp++[(p.1,i,x.1)])++qO D (a++b)=IV cp++(p.1,x.1)::qO D (a++b):=by simp [IV]
   rw [e];exact hperm
  ·rw [List.map_append]
   refine List.nodup_append.2 ⟨hid,by simp,fun u hu u' hu' he=>?_⟩
   simp at hu'
   subst hu'
   subst he
   rw [cu,List.map_map] at hfr
   exact hfr hu
  ·intro q hq
   refine hsub q ?_
   simp only [List.mem_append,List.mem_cons] at hq ⊢
   rcases hq with h|h
   ·exact .inl h
   ·exact .inr (.inr h)
theorem IW (hs:Sat W0 (ag d D::F) w) :
 Calls Tryz.prog 16 #[au d] w fun x w'=>∃ c D2,x=.returned (au c)∧nZ D D2∧Sat W0 (ag c D2::ag d D::F) w':=by
 obtain ⟨D0,f,h,h0,hs⟩:=hs.mW
 have hu:=h.used h0
 refine (F2 hs).mono ?_
 rintro _ w' ⟨c,cp,rfl,hc,hs⟩
 have hfile:∀ m,file D0 m=file D m:=fun m=>by
  unfold file
  rw [h.now m]
  cases hm:ax D.now m with
  | none=>rfl
  | some i=>simp only [Option.map_some];rw [h.ot (h.has hm)]
 have h2:=(hs.take (.there .here)).gJ h
 have hid:∀ n,ax (pG cp) n=(ax (pG cp) n).map id:=fun n=>by cases ax (pG cp) n<;>rfl
 refine ⟨c,vO D0.room cp,rfl,⟨hc.ok,fun m=>by rw [hc.file,hfile],by rw [hc.room,h.room],rfl,rfl,by rw [hc.used,hu]⟩,?_⟩
 refine Sat.gJ (f:=id) ⟨hid,hid,rfl,fun i x hx=>hx,fun i j _ _ he=>he,?_,?_,rfl,rfl,rfl,rfl,rfl,hc.ok⟩ h2.to
 ·exact hc.ok.names
 ·exact hc.ok.names
end
section
open Go.Proofs.YtecibefflhomdaaGreatDoor.Pure (ad aQ re pV eh cw aM)
attribute [local irreducible] IntKind.wrap
def Ny:Shelf.Ren where
 f:=fun x=>match x with|190=>45|125=>88|258=>87|128=>158|129=>159|302=>149|303=>150|304=>151|305=>152|306=>153|307=>154|308=>155|309=>156|310=>157|333=>199|329=>200|330=>201|334=>202|335=>203|336=>204|344=>225|n=>n
 t:=fun x=>match x with|31=>29|9=>9|3=>3|46=>23|0=>0|51=>124|53=>131|4=>4|183=>266|182=>265|131=>271|5=>5|218=>332|222=>335|228=>355|229=>169|n=>n
 g:=fun n=>n
theorem Kw:Go.Proofs.Lays.n190 Tryz.prog Ny where
 mixed:=by kernel_rfl
 f125:=by kernel_rfl
 f128:=by kernel_rfl
 f129:=by kernel_rfl
 f190:=by kernel_rfl
 f258:=by kernel_rfl
 f302:=by kernel_rfl
 f303:=by kernel_rfl
 f304:=by kernel_rfl
 f305:=by kernel_rfl
 f306:=by kernel_rfl
 f307:=by kernel_rfl
 f308:=by kernel_rfl
 f309:=by kernel_rfl
 f310:=by kernel_rfl
 f329:=by kernel_rfl
 f330:=by kernel_rfl
 f333:=by kernel_rfl
 f334:=by kernel_rfl
 f335:=by kernel_rfl
 f336:=by kernel_rfl
 f344:=by kernel_rfl
 t0:=Tryz.underlying0
 a0:=Tryz.isAgg0
 z0:=Tryz.sizeOf0
 v0:=Tryz.zeroValue0
 t3:=Tryz.underlying3
 a3:=Tryz.isAgg3
 z3:=Tryz.sizeOf3
 v3:=Tryz.zeroValue3
 t4:=Tryz.underlying4
 a4:=Tryz.isAgg4
 z4:=Tryz.sizeOf4
 v4:=Tryz.zeroValue4
 t5:=Tryz.underlying5
 a5:=Tryz.isAgg5
 z5:=Tryz.sizeOf5
 v5:=Tryz.zeroValue5
 t9:=Tryz.underlying9
 a9:=Tryz.isAgg9
 z9:=Tryz.sizeOf9
 v9:=Tryz.zeroValue9
 t31:=Tryz.underlying29
 a31:=Tryz.isAgg29
 z31:=Tryz.sizeOf29
 v31:=Tryz.zeroValue29
 t46:=Tryz.underlying23
 a46:=Tryz.isAgg23
 z46:=Tryz.sizeOf23
 v46:=Tryz.zeroValue23
 t51:=Tryz.underlying124
 a51:=Tryz.isAgg124
 z51:=Tryz.sizeOf124
 v51:=Tryz.zeroValue124
 t53:=Tryz.underlying131
 a53:=Tryz.isAgg131
 z53:=Tryz.sizeOf131
 v53:=Tryz.zeroValue131
 t131:=Tryz.underlying271
 a131:=Tryz.isAgg271
 z131:=Tryz.sizeOf271
 v131:=Tryz.zeroValue271
 t182:=Tryz.underlying265
 a182:=Tryz.isAgg265
 z182:=Tryz.sizeOf265
 v182:=Tryz.zeroValue265
 t183:=Tryz.underlying266
 a183:=Tryz.isAgg266
 z183:=Tryz.sizeOf266
 v183:=Tryz.zeroValue266
 t218:=Tryz.underlying332
 a218:=Tryz.isAgg332
 z218:=Tryz.sizeOf332
 v218:=Tryz.zeroValue332
 t222:=Tryz.underlying335
 a222:=Tryz.isAgg335
 z222:=Tryz.sizeOf335
 v222:=Tryz.zeroValue335
 t228:=Tryz.underlying355
 a228:=Tryz.isAgg355
 z228:=Tryz.sizeOf355
 v228:=Tryz.zeroValue355
 t229:=Tryz.underlying169
 a229:=Tryz.isAgg169
 z229:=Tryz.sizeOf169
 v229:=Tryz.zeroValue169
theorem lt_iff:∀ (a b:Bs),a<b↔aQ a b=true
 | _,[]=>by simp [aQ]
 | [],_::_=>by simp [aQ]
 | a::x,b::y=>by
  rw [List.cons_lt_cons_iff,lt_iff x y]
  simp [aQ]
theorem Kx (a b:Bs):decide (a≤b)=!aQ b a:=by
 have h:a≤b↔¬ (b<a):=Iff.rfl
 cases hb:aQ b a with
 | true=>simp [h,lt_iff,hb]
 | false=>simp [h,lt_iff,hb]
theorem oS {a b:List Bs} (h:a.Perm b):kM a=kM b:=by
 unfold kM
 have e:(fun x y:Bs=>decide (x≤y))=fun x y=>!aQ y x:=funext fun x=>funext fun y=>Kx x y
 rw [e]
 have htr:∀ a b c:Bs,(!aQ b a)=true→(!aQ c b)=true→(!aQ c a)=true:=fun a b c h1 h2=>by
  simp only [Bool.not_eq_true'] at h1 h2 ⊢
  exact re h1 h2
 have hto:∀ a b:Bs,((!aQ b a)||(!aQ a b))=true:=fun a b=>by
  rcases eh a b with h|h|h
  ·rw [cw h];rfl
  ·rw [h,aM];rfl
  ·rw [cw h];simp
 refine List.Perm.eq_of_pairwise (le:=fun x y=>(!aQ y x)=true) ?_ (List.pairwise_mergeSort htr hto a) (List.pairwise_mergeSort htr hto b) (((List.mergeSort_perm a _).trans h).trans (List.mergeSort_perm b _).symm)
 intro x y _ _ h1 h2
 simp only [Bool.not_eq_true'] at h1 h2
 exact pV h2 h1
end
section
open Go.Proofs.YtecibefflhomdaaGreatDoor.Pure (ad ax)
attribute [local irreducible] IntKind.wrap
variable {W0 w:World} {F l:List ah} {v:Value} {d:Nat} {D:ad}
theorem Sat.grow (h:Sat W0 l w) (os:Array Obj):Sat W0 l (Go.Sort.grow w os):=by
 obtain ⟨a,b,c,d,hp,e,f,r⟩:=h
 refine ⟨a,b,c,by simp [Go.Sort.grow];omega,hp,fun i x hx=>?_,f,r⟩
 have h1:=e i x hx
 have h2:=(Array.getElem?_eq_some_iff.1 h1).1
 show (w.heap++os)[i]?=_
 rw [Array.getElem?_append_left h2];exact h1
theorem F3 (ss ss':List Bs) (rest:List Value) (hl:ss'.length=ss.length):Go.Sort.putCells Go.Proofs.encStr 0 ss'.toArray ((ss.map str++rest).toArray)=(ss'.map str++rest).toArray:=by
 apply Array.ext'
 apply List.ext_getElem?
 intro j
 simp only [Go.Sort.putCells]
 rw [Array.getElem?_toList,Array.getElem?_mapIdx,Array.getElem?_toList]
 simp only [List.getElem?_toArray]
 by_cases hj:j<ss'.length
 ·rw [List.getElem?_append_left (by simp;omega),List.getElem?_append_left (by simpa using hj),List.getElem?_map,List.getElem?_map,List.getElem?_eq_getElem (by omega),List.getElem?_eq_getElem hj]
  simp [hj]
 ·rw [List.getElem?_append_right (by simp;omega),List.getElem?_append_right (by simp;omega)]
  have e1:(ss.map str).length=(ss'.map str).length:=by simp [hl]
  rw [e1]
  cases rest[j-(ss'.map str).length]? with
  | none=>rfl
  | some x=>simp [hj]
theorem CJ {b c:Nat} {ss:List Bs} {rest:List Value} (hs:Sat W0 (blk b 9 (ss.map str++rest)::F) w) (hlen:ss.length≤1099511627776) :
 Calls Tryz.prog 45 #[.slice (some ⟨b,0,none⟩) ss.length c] w fun x w'=>x=.returned (.tuple #[])∧Sat W0 (blk b 9 ((kM ss).map str++rest)::F) w':=by
 have hb:=hs.fq
 have hlt:b<w.heap.size:=(Array.getElem?_eq_some_iff.1 hb).1
 refine (Go.Proofs.Any.slices_Sort_string Kw b 0 c ss w (fun j hj=>?_) hlt (by omega)).mono ?_
 ·have hj':j<ss.length:=by simpa using hj
  refine ⟨?_,hs.free .here _⟩
  rw [hs.cell .here,Nat.zero_add,List.getElem?_append_left (by simpa using hj'),List.getElem?_map,List.getElem?_eq_getElem hj']
  simp [hj']
 ·rintro x w' ⟨rfl,n,os,rfl⟩
  refine ⟨rfl,Sat.grow ?_ os⟩
  have hl:(kM ss).length=ss.length:=(List.mergeSort_perm ss _).length_eq
  refine Sat.kn (w:=w) (o:=.cells (ss.map str++rest).toArray 9 (0,0)) hs rfl rfl rfl ?_ ?_ ?_
  ·simp [Go.Sort.putRow,Go.Sort.mapBlock,Go.Sort.ahead]
  ·simp only [Go.Sort.putRow,Go.Sort.mapBlock,Go.Sort.ahead,Array.getElem?_modify,hb]
   simp only [if_true,Option.map_some,Go.Sort.onCells]
   have:=F3 ss (kM ss) rest hl
   unfold kM at this ⊢
   rw [this]
  ·intro i hi
   simp only [Go.Sort.putRow,Go.Sort.mapBlock,Go.Sort.ahead,Array.getElem?_modify]
   rw [if_neg (by omega)]
theorem IX {v:Value} (hs:Sat W0 F w):Calls Tryz.prog 149 #[v,.int .i64 0,.int .i64 0] w fun x w'=>∃ u,x=.returned u∧Sat W0 F w':=by
 refine enter Tryz.func149 rfl Tryz.ntmps149 Tryz.results149 rfl ?_
 refine gx ?_
 refine aK (α:=Unit) (fun z=>[(0,v),(1,.int .i64 0),(2,.int .i64 0),(6,.int .i64 1)]) (fun z w=>Sat W0 F w) (fun z=>0) () ⟨rfl,rfl,rfl,rfl,trivial⟩ hs ?_
 clear hs
 rintro _ w hs
 refine gx ?_
 exact gE rfl ⟨_,rfl,hs⟩
theorem F4 (hs:Sat W0 F w):Calls Tryz.prog 45 #[.slice none 0 0] w fun x w'=>∃ u,x=.returned u∧Sat W0 F w':=by
 refine enter Tryz.func45 rfl Tryz.ntmps45 Tryz.results45 rfl ?_
 refine gx ?_
 refine ae (met (wy (n:=0) (by omega) hs) ?_)
 clear hs
 rintro _ w ⟨k,rfl,hs⟩
 refine ⟨_,rfl,?_⟩
 refine gx ?_
 refine ae (f:=87) ?_
 refine met (R:=fun x w'=>∃ u,x=.returned u∧Sat W0 F w') ?_ ?_
 ·refine enter Tryz.func87 rfl Tryz.ntmps87 Tryz.results87 rfl ?_
  refine gx ?_
  refine aK (α:=Unit) (fun z=>[(0,.slice none 0 0),(1,.int .i64 0),(2,.int .i64 0),(3,.int .i64 (k:Int))]) (fun z w=>Sat W0 F w) (fun z=>0) () ⟨rfl,rfl,rfl,rfl,trivial⟩ hs ?_
  clear hs
  rintro _ w hs
  refine gx ?_
  refine ae (met (IX hs) ?_)
  clear hs
  rintro _ w ⟨u,rfl,hs⟩
  refine ⟨_,rfl,?_⟩
  refine gx ?_
  exact ak rfl ⟨_,rfl,hs⟩
 ·clear hs
  rintro _ w ⟨u,rfl,hs⟩
  refine ⟨_,rfl,?_⟩
  refine gx ?_
  exact gE rfl ⟨_,rfl,hs⟩
theorem CK {ss:List Bs} (hs:Sat W0 (aI 1 v 9 ss.length (ss.map str)::F) w) (hlen:ss.length≤1099511627776) :
 Calls Tryz.prog 45 #[v] w fun x w'=>∃ u,x=.returned u∧Sat W0 (aI 1 v 9 (kM ss).length ((kM ss).map str)::F) w':=by
 have hl:(kM ss).length=ss.length:=(List.mergeSort_perm ss _).length_eq
 by_cases hv:v=.slice none 0 0
 ·subst hv
  have h0:ss=[]:=by
   obtain ⟨a,c,h1,h2,_⟩:=hs.aB
   simp only [Value.slice.injEq] at h1
   exact List.eq_nil_of_length_eq_zero h1.2.1.symm
  subst h0
  refine (F4 hs).mono ?_
  rintro x w' ⟨u,rfl,hs⟩
  exact ⟨u,rfl,by simpa [kM] using hs⟩
 ·obtain ⟨b,cap,rest,rfl,q1,q2,q3,h2⟩:=hs.iM hv
  refine (CJ h2 hlen).mono ?_
  rintro x w' ⟨rfl,hs⟩
  refine ⟨_,rfl,?_⟩
  rw [← hl] at q1 q3 ⊢
  refine Sat.cT hs q1 q2 q3 (by simp) fun u hu=>?_
  obtain ⟨x,_,rfl⟩:=List.mem_map.1 hu
  rfl
end
end Go.Proofs.YtecibefflhomdaaGreatDoor
