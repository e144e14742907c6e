/-
  Part 8: .
-/
import Derived.Test.YtecibefflhomdaaGreatDoorZ07
set_option maxHeartbeats 8000000
set_option maxRecDepth 100000
set_option linter.all false
namespace Go.Proofs.YtecibefflhomdaaGreatDoor
open Go
section
open Pure
def kS(k v:Bs):XN->Xn (Bs×Bs)->Xn (Bs×Bs)
 | put,[]=>if put=true then[]else[(k,v)]
 | put,p::r=>(if put=false/\aO p.1 k=false then[(k,v)]else[])++(if p.1=k then[]else[p])++kS k v (put||!aO p.1 k) r
variable {k v:Bs}
theorem tD:∀ {l:List (Bs×Bs)},mI l->kS k v true l=(l.filter fun p=>aO p.1 k)++l.filter fun p=>aO k p.1
 | [],_=>rfl
 | p::r,h=>by
  rw[kS,if_neg (by simp),List.nil_append,Bool.true_or,(tD (List.pairwise_cons.1 h).2)];rcases eP p.1 k with H|H|H
  ·rw[if_neg (fun e=>by rw[e,aP] at H;cases H),List.filter_cons,if_pos H,List.filter_cons,if_neg (by rw[cX H];simp)];rfl
  ·rw[if_pos H,List.filter_cons,if_neg (by rw[H,aP];simp),List.filter_cons,if_neg (by rw[H,aP];simp)];rfl
  ·have a:r.filter (fun p=>aO p.1 k)=[]:=List.filter_eq_nil_iff.2 fun x b=>by
    have:=(List.pairwise_cons.1 h).1 x b;rw[cX (dR H this)];simp
   rw[if_neg (fun e=>by rw[e,aP] at H;cases H),List.filter_cons,if_neg (by rw[cX H];simp),List.filter_cons,if_pos H,a];rfl
theorem Ew{k v:Bs}:∀ {l:List (Bs×Bs)},mI l->kS k v false l=(l.filter fun p=>aO p.1 k)++[(k,v)]++l.filter fun p=>aO k p.1
 | [],_=>rfl
 | p::r,h=>by
  have c:=(List.pairwise_cons.1 h).2;unfold kS;rcases eP p.1 k with H|H|H
  ·have i:=Ew (k:=k) (v:=v) c;rw[if_neg (by grind),if_neg (fun e=>by rw[e,aP] at H;cases H),H,List.filter_cons,if_pos H,List.filter_cons,if_neg (by rw[cX H];simp)]
   grind
  ·have a:r.filter (fun p=>aO p.1 k)=[]:=List.filter_eq_nil_iff.2 fun x d=>by
    have:=(List.pairwise_cons.1 h).1 x d;rw[<- H,cX this];simp
   have b:aO p.1 k=false:=by rw[H,aP]
   rw[if_pos ⟨rfl,b⟩,if_pos H,b];show[(k,v)]++[]++kS k v true r=_;rw[tD c,a,List.filter_cons,if_neg (by grind),List.filter_cons,if_neg (by grind),a];simp
  ·have a:r.filter (fun p=>aO p.1 k)=[]:=List.filter_eq_nil_iff.2 fun x d=>by
    have:=(List.pairwise_cons.1 h).1 x d;rw[cX (dR H this)];simp
   have b:=cX H;rw[if_pos ⟨rfl,b⟩,if_neg (fun e=>by grind),b];show[(k,v)]++[p]++kS k v true r=_;rw[tD c,a,List.filter_cons,if_neg (by grind),List.filter_cons,if_pos H,a];simp
def Cr{l:Xn (Bs×Bs)}(h:mI l)(k v:Bs)(del:XN):kS k v del l=xM l k v del:=by
 unfold xM;cases del with
 | true=>rw[tD h];simp
 | false=>rw[Ew h];simp
def ym(k v:Bs):∀(l:Xn (Bs×Bs)) (put:XN),(kS k v put l).length<=l.length+(if put=true then 0 else 1)
 | [],put=>by unfold kS;cases put<;>simp
 | p::r,put=>by
  have i:=ym k v r (put||!aO p.1 k);have H:(if p.1=k then[]else[p]).length<=1:=by split<;>simp
  simp[kS];cases put with
  | true=>simp at i;simp;omega
  | false=>
   cases h:aO p.1 k with
   | true=>rw[h]at i;simp at i;simp;omega
   | false=>rw[h]at i;simp at i;simp;omega
def Ak(l:Xn (Bs×Bs))(b:Xn cC):Xn (Bs×Bs):=b.foldl (λl c=>kS c.key c.val c.del l) l
def MQ:∀(b:Xn cC) {l:Xn (Bs×Bs)},mI l->Ak l b=sF l b
 | [],_,_=>rfl
 | c::b,l,h=>by
  rw[Ak,sF,YI,YI,Cr h];exact MQ b (DT h c.key c.val c.del)
def IJ:∀(b:Xn cC) (l:Xn (Bs×Bs)),(Ak l b).length<=l.length+b.length
 | [],l=>XD _
 | c::b,l=>by
  have h:=IJ b (kS c.key c.val c.del l);have H:=ym c.key c.val l c.del;unfold Ak at h |-
  grind
