/-
  Part 9: PLAIN pairs in order; PLAIN several sorted lists, the newest first, and what they ; THE PURE DISK, PART 4 what each operation answers and leaves; WALKS package api; WALKS package api.
-/
import Derived.Test.YtecibefflhomdaaGreatDoorY08
set_option maxHeartbeats 8000000
set_option maxRecDepth 100000
set_option linter.all false
namespace Go.Proofs.YtecibefflhomdaaGreatDoor.Pure
open Go
def dP:Option az→Option Bs
 | none=>none
 | some e=>if e.del=true then none else some e.val
theorem fU (ms:List Nat) (b:Bool) (l:List az):(dE ms b l).Sublist l:=by
 unfold dE
 split
 ·exact List.filter_sublist.trans List.filter_sublist
 ·exact List.filter_sublist
theorem lT {ms:List Nat} {b:Bool} {l:List az} (h:fS l):fS (dE ms b l):=h.sublist (fU ms b l)
theorem Fu {ms:List Nat} {b:Bool} {l:List az} {e:az} (h:e∈dE ms b l):e∈kl ms l:=by
 unfold dE at h
 split at h
 ·exact (List.mem_filter.1 h).1
 ·exact h
theorem zC {ms:List Nat} {l:List az} (hl:fS l) {k:Bs} {m:Nat} (hm:m∈ms):gd (dE ms false l) k m=gd l k m:=by
 cases hv:gd l k m with
 | none=>exact dM.2 fun x hx=>dM.1 hv x ((fU _ _ _).subset hx)
 | some e=>
  obtain ⟨a1,a2,a3⟩:=fT hv
  refine tM (lT hl) ?_ a2 a3 fun x hx=>ov hl hv x ((fU _ _ _).subset hx)
  show e∈kl ms l
  refine tN.2 ⟨a1,?_⟩
  unfold seen
  rw [List.any_eq_true]
  exact ⟨m,hm,by rw [a2];simpa using hv⟩
theorem HF {ms:List Nat} {l:List az} (hl:fS l) {k:Bs} {m:Nat} (hm:m∈ms):dP (gd (dE ms true l) k m)=dP (gd l k m):=by
 cases hv:gd l k m with
 | none=>
  have:gd (dE ms true l) k m=none:=dM.2 fun x hx=>dM.1 hv x ((fU _ _ _).subset hx)
  rw [this]
 | some e=>
  obtain ⟨a1,a2,a3⟩:=fT hv
  have hk:e∈kl ms l:=tN.2 ⟨a1,by
   unfold seen
   rw [List.any_eq_true]
   exact ⟨m,hm,by rw [a2];simpa using hv⟩⟩
  by_cases hh:holds (kl ms l) e=true
  ·have:gd (dE ms true l) k m=some e:=tM (lT hl) (List.mem_filter.2 ⟨hk,hh⟩) a2 a3 fun x hx=>ov hl hv x ((fU _ _ _).subset hx)
   rw [this]
  ·have hd:e.del=true:=by
    cases hd:e.del with
    | true=>rfl
    | false=>exact absurd (List.any_eq_true.2 ⟨e,hk,by simp [hd]⟩) hh
   have:gd (dE ms true l) k m=none:=dM.2 fun x hx hxk=>by
    rcases Nat.lt_or_ge m x.seq with h|h
    ·exact h
    ·have h1:=ov hl hv x ((fU _ _ _).subset hx) hxk h
     have h2:holds (kl ms l) x=true:=(List.mem_filter.1 hx).2
     unfold holds at h2 hh
     obtain ⟨y,hy,h3⟩:=List.any_eq_true.1 h2
     simp only [Bool.and_eq_true,decide_eq_true_eq] at h3
     exact absurd (List.any_eq_true.2 ⟨y,hy,by
      simp only [Bool.and_eq_true,decide_eq_true_eq]
      exact ⟨⟨h3.1.1.trans (hxk.trans a2.symm),by omega⟩,h3.2⟩⟩) hh
   rw [this]
   simp [dP,hd]
abbrev jS (l:List (Bs×Bs)):Prop:=l.Pairwise fun a b=>aQ a.1 b.1=true
def aV:List (Bs×Bs)→Bs→Option Bs
 | [],_=>none
 | p::r,k=>if p.1=k then some p.2 else aV r k
theorem mB {l:List (Bs×Bs)} {k:Bs} (h:∀ p∈l,p.1≠k):aV l k=none:=by
 induction l with
 | nil=>rfl
 | cons p r ih=>
  unfold aV
  rw [if_neg (h p List.mem_cons_self)]
  exact ih fun q hq=>h q (List.mem_cons_of_mem _ hq)
theorem tO {l:List (Bs×Bs)} {k v:Bs} (h:aV l k=some v):(k,v)∈l:=by
 induction l with
 | nil=>cases h
 | cons p r ih=>
  unfold aV at h
  split at h
  ·rename_i hk;cases h;subst hk;exact List.mem_cons_self
  ·exact List.mem_cons_of_mem _ (ih h)
theorem wv {l:List (Bs×Bs)} (hl:jS l) {p:Bs×Bs} (h:p∈l):aV l p.1=some p.2:=by
 induction l with
 | nil=>cases h
 | cons q r ih=>
  obtain ⟨q1,q2⟩:=List.pairwise_cons.1 hl
  unfold aV
  rcases List.mem_cons.1 h with rfl|h
  ·simp
  ·rw [if_neg (jJ (q1 p h))];exact ih q2 h
theorem wx:∀ {a b:List (Bs×Bs)},jS a→jS b→(∀ k,aV a k=aV b k)→a=b
 | [],[],_,_,_=>rfl
 | [],q::b,_,_,h=>by have:=h q.1;simp [aV] at this
 | p::a,[],_,_,h=>by have:=h p.1;simp [aV] at this
 | p::a,q::b,ha,hb,h=>by
  obtain ⟨p1,p2⟩:=List.pairwise_cons.1 ha
  obtain ⟨q1,q2⟩:=List.pairwise_cons.1 hb
  have e1:=h p.1
  have e2:=h q.1
  simp only [aV,if_true] at e1 e2
  have hk:p.1=q.1:=by
   rcases ew p.1 q.1 with h1|h1|h1
   ·rw [if_neg (Ne.symm (jJ h1))] at e1
    have:=tO e1.symm
    have:=q1 _ this
    rw [cz h1] at this;cases this
   ·exact h1
   ·rw [if_neg (Ne.symm (jJ h1))] at e2
    have:=tO e2
    have:=p1 _ this
    rw [cz h1] at this;cases this
  rw [if_pos hk.symm] at e1
  have hpq:p=q:=Prod.ext hk (Option.some.inj e1)
  subst hpq
  congr 1
  refine wx p2 q2 fun k=>?_
  have:=h k
  unfold aV at this
  by_cases hpk:p.1=k
  ·subst hpk
   rw [mB fun r hr=>Ne.symm (jJ (p1 r hr)),mB fun r hr=>Ne.symm (jJ (q1 r hr))]
  ·rwa [if_neg hpk,if_neg hpk] at this
theorem mC {l:List (Bs×Bs)} (f:Bs→Bool) (k:Bs):aV (l.filter fun p=>f p.1) k=if f k=true then aV l k else none:=by
 induction l with
 | nil=>simp [aV]
 | cons p r ih=>
  rw [List.filter_cons]
  by_cases hf:f p.1=true
  ·rw [if_pos hf]
   unfold aV
   by_cases hk:p.1=k
   ·subst hk;simp [hf]
   ·rw [if_neg hk,if_neg hk,ih]
  ·rw [if_neg hf,ih]
   by_cases hk:p.1=k
   ·subst hk;simp [hf]
   ·rw [aV,if_neg hk]
def ph (l:List (Bs×Bs)) (k v:Bs) (del:Bool):List (Bs×Bs):=
 (l.filter fun p=>aQ p.1 k)++(if del=true then [] else [(k,v)])++l.filter fun p=>aQ k p.1
theorem zD {l:List (Bs×Bs)} (hl:jS l) (k v:Bs) (del:Bool):jS (ph l k v del):=by
 unfold ph
 refine List.pairwise_append.2 ⟨List.pairwise_append.2 ⟨hl.filter _,?_,?_⟩,hl.filter _,?_⟩
 ·split<;>simp
 ·intro a ha b hb
  split at hb
  ·cases hb
  ·simp at hb;subst hb;exact (List.mem_filter.1 ha).2
 ·intro a ha b hb
  have hb:=(List.mem_filter.1 hb).2
  rcases List.mem_append.1 ha with ha|ha
  ·exact dj (List.mem_filter.1 ha).2 hb
  ·split at ha
   ·cases ha
   ·simp at ha;subst ha;exact hb
theorem p9 (a b:List (Bs×Bs)) (k:Bs):aV (a++b) k=(aV a k).or (aV b k):=by
 induction a with
 | nil=>rfl
 | cons p r ih=>
  simp only [List.cons_append,aV]
  split
  ·rfl
  ·exact ih
theorem Fv (l:List (Bs×Bs)) (k v:Bs) (del:Bool) (x:Bs):aV (ph l k v del) x=if x=k then (if del=true then none else some v) else aV l x:=by
 unfold ph
 rw [p9,p9,mC (fun y=>aQ y k),mC (fun y=>aQ k y)]
 by_cases hx:x=k
 ·subst hx
  rw [aN]
  cases del<;>simp [aV]
 ·have e1:aV (if del=true then [] else [(k,v)]) x=none:=by split<;>simp [aV,Ne.symm hx]
  rw [e1,if_neg hx]
  rcases ew x k with h|h|h
  ·rw [h,cz h];simp
  ·exact absurd h hx
  ·rw [h,cz h];simp
def k9 (hi k:Bs):Bool:=decide (hi=[])||aQ k hi
def lf (lo k:Bs):Bool:=!aQ k lo
def x9 {α:Type} (limit:Int) (l:List α):List α:=if 0<limit then l.take limit.toNat else l
def dW (l:List (Bs×Bs)) (lo hi:Bs) (limit:Int):List (Bs×Bs):=x9 limit (l.filter fun p=>lf lo p.1&&k9 hi p.1)
def shown (l:List az) (m:Nat) (e:az):Option (Bs×Bs):=if gd l e.key m=some e then (if e.del=true then none else some (e.key,e.val)) else none
def qb (l:List az) (m:Nat):List (Bs×Bs):=l.filterMap (shown l m)
theorem lU {l:List az} {m:Nat} {e:az} {p:Bs×Bs} (h:shown l m e=some p):p=(e.key,e.val)∧gd l e.key m=some e∧e.del=false:=by
 unfold shown at h
 split at h
 ·rename_i h1
  split at h
  ·cases h
  ·rename_i h2;exact ⟨(Option.some.inj h).symm,h1,by simpa using h2⟩
 ·cases h
theorem si {l:List az} (hl:fS l) (m:Nat):jS (qb l m):=by
 unfold qb
 rw [jS,List.pairwise_filterMap]
 refine hl.imp_of_mem fun {a b} ha hb hab p hp q hq=>?_
 obtain ⟨rfl,h1,-⟩:=lU hp
 obtain ⟨rfl,h2,-⟩:=lU hq
 rcases bQ.1 hab with h|h
 ·exact h
 ·rw [h.1] at h1;rw [h1] at h2;cases h2;omega
theorem vI {l:List az} (hl:fS l) (m:Nat) (k:Bs):aV (qb l m) k=dP (gd l k m):=by
 cases hv:gd l k m with
 | none=>
  refine mB fun p hp hk=>?_
  obtain ⟨e,he,hs⟩:=List.mem_filterMap.1 hp
  obtain ⟨rfl,h1,-⟩:=lU hs
  dsimp only at hk
  rw [hk,hv] at h1;cases h1
 | some e=>
  obtain ⟨a1,a2,a3⟩:=fT hv
  cases hd:e.del with
  | true=>
   simp only [dP,hd,if_true]
   refine mB fun p hp hk=>?_
   obtain ⟨x,hx,hs⟩:=List.mem_filterMap.1 hp
   obtain ⟨rfl,h1,h2⟩:=lU hs
   dsimp only at hk
   rw [hk,hv] at h1;cases h1;rw [hd] at h2;cases h2
  | false=>
   simp only [dP,hd,Bool.false_eq_true,if_false]
   have:(e.key,e.val)∈qb l m:=List.mem_filterMap.2 ⟨e,a1,by
    unfold shown;rw [a2,if_pos hv,hd];simp⟩
   have h2:=wv (si hl m) this
   rw [a2] at h2;exact h2
structure Sc where
 out:List (Bs×Bs)
 last:Bs
 any:Bool
def lV (hi:Bs) (limit:Int) (seq:Nat) (s:Sc) (e:az):Sc×Bool:=
 if (hi≠[]∧aQ e.key hi=false)∨(0<limit∧(s.out.length:Int)=limit) then (s,false) else
 if seq<e.seq∨(s.any=true∧e.key=s.last) then (s,true) else
 (⟨if e.del=true then s.out else s.out++[(e.key,e.val)],e.key,true⟩,true)
def nD {σ:Type} (body:σ→az→σ×Bool):List az→σ→σ
 | [],s=>s
 | e::r,s=>if (body s e).2=true then nD body r (body s e).1 else (body s e).1
structure No (seq:Nat) (l p:List az) (s:Sc):Prop where
 out:s.out=p.filterMap (shown l seq)
 last:s.any=true→∃ z∈p,z.key=s.last∧z.seq≤seq∧∀ x∈p,x.seq≤seq→less z x=false∨x.key=z.key
 any:s.any=false→∀ x∈p,seq<x.seq
theorem rj {hi:Bs} {limit:Int} {seq:Nat} {l:List az} (hs:fS l):∀ (r p:List az) (s:Sc),l=p++r→No seq l p s→(0<limit→(s.out.length:Int)≤limit)→(∀ x∈s.out,k9 hi x.1=true) →
 (nD (lV hi limit seq) r s).out=x9 limit ((l.filterMap (shown l seq)).filter fun p=>k9 hi p.1)
 | [],p,s,hl,h,hlim,hhi=>by
  simp at hl;subst hl
  show s.out=_
  rw [← h.out,List.filter_eq_self.2 hhi]
  unfold x9
  split
  ·rename_i h0
   rw [List.take_of_length_le]
   have:=hlim h0;omega
  ·rfl
 | e::r,p,s,hl,h,hlim,hhi=>by
  have hrest:l.filterMap (shown l seq)=s.out++(e::r).filterMap (shown l seq):=by
   rw [h.out,← List.filterMap_append,← hl]
  obtain ⟨s1,s2,s3⟩:=gL (hl▸hs)
  unfold nD lV
  by_cases hb:(hi≠[]∧aQ e.key hi=false)∨(0<limit∧(s.out.length:Int)=limit)
  ·rw [if_pos hb]
   simp only [Bool.false_eq_true,if_false]
   rw [hrest,List.filter_append,List.filter_eq_self.2 hhi]
   rcases hb with ⟨hb1,hb2⟩|⟨hb1,hb2⟩
   ·have:((e::r).filterMap (shown l seq)).filter (fun p=>k9 hi p.1)=[]:=by
     rw [List.filter_eq_nil_iff]
     intro q hq
     obtain ⟨x,hx,hsx⟩:=List.mem_filterMap.1 hq
     obtain ⟨rfl,-,-⟩:=lU hsx
     have hxe:aQ x.key hi=false:=by
      rcases List.mem_cons.1 hx with rfl|hx
      ·exact hb2
      ·rcases bQ.1 ((List.pairwise_cons.1 s2).1 x hx) with h1|h1
       ·exact ri hb2 (cz h1)
       ·rw [← h1.1];exact hb2
     simp [k9,hb1,hxe]
    rw [this,List.append_nil]
    unfold x9
    split
    ·rename_i h0
     rw [List.take_of_length_le]
     have:=hlim h0;omega
    ·rfl
   ·unfold x9
    rw [if_pos hb1,List.take_left' (by omega)]
  ·rw [if_neg hb]
   have hin:k9 hi e.key=true:=by
    unfold k9
    by_cases hh:hi=[]
    ·simp [hh]
    ·cases hx:aQ e.key hi with
     | true=>simp
     | false=>exact absurd (.inl ⟨hh,hx⟩) hb
   have hlt:0<limit→(s.out.length:Int)<limit:=fun h0=>by
    have:=hlim h0
    have h2:¬ (s.out.length:Int)=limit:=fun h3=>hb (.inr ⟨h0,h3⟩)
    omega
   have hvis:gd l e.key seq=some e↔e.seq≤seq∧∀ x∈p,x.key=e.key→seq<x.seq:=by
    rw [hl,ow]
    have hcons:gd (e::r) e.key seq=if e.seq≤seq then some e else gd r e.key seq:=by
     unfold gd;rw [List.find?_cons];by_cases h:e.seq≤seq<;>simp [h]
    rw [hcons]
    constructor
    ·intro hh
     cases hv:gd p e.key seq with
     | some x=>
      rw [hv] at hh;simp at hh;subst hh
      have:=s3 x (fT hv).1 x (by simp)
      rw [jR] at this;cases this
     | none=>
      rw [hv] at hh
      simp only [Option.none_or] at hh
      refine ⟨?_,dM.1 hv⟩
      by_cases hle:e.seq≤seq
      ·exact hle
      ·rw [if_neg hle] at hh;exact (fT hh).2.2
    ·rintro ⟨h1,h2⟩
     rw [dM.2 h2,if_pos h1];rfl
   by_cases hsk:seq<e.seq∨(s.any=true∧e.key=s.last)
   ·rw [if_pos hsk]
    simp only [if_true]
    have hnot:shown l seq e=none:=by
     unfold shown
     rw [if_neg]
     rw [hvis]
     rintro ⟨h1,h2⟩
     rcases hsk with h3|⟨h3,h4⟩
     ·omega
     ·obtain ⟨z,hz,z1,z2,-⟩:=h.last h3
      have:=h2 z hz (z1.trans h4.symm)
      omega
    refine rj hs r (p++[e]) s (by rw [hl];simp) ⟨?_,fun ha=>?_,fun ha x hx=>?_⟩ hlim hhi
    ·rw [List.filterMap_append,h.out];simp [hnot]
    ·obtain ⟨z,hz,z1,z2,z3⟩:=h.last ha
     refine ⟨z,List.mem_append_left _ hz,z1,z2,fun x hx hxs=>?_⟩
     rcases List.mem_append.1 hx with hx|hx
     ·exact z3 x hx hxs
     ·simp at hx;subst hx
      rcases hsk with h3|⟨_,h4⟩
      ·omega
      ·exact .inr (h4.trans z1.symm)
    ·rcases List.mem_append.1 hx with hx|hx
     ·exact h.any ha x hx
     ·simp at hx;subst hx
      rcases hsk with h3|⟨h3,_⟩
      ·exact h3
      ·rw [ha] at h3;cases h3
   ·rw [if_neg hsk]
    simp only [if_true]
    have hle:e.seq≤seq:=by omega
    have hv:gd l e.key seq=some e:=hvis.2 ⟨hle,fun x hx hk=>by
     rcases Nat.lt_or_ge seq x.seq with h1|h1
     ·exact h1
     ·cases ha:s.any with
      | false=>exact h.any ha x hx
      | true=>
       obtain ⟨z,hz,z1,z2,z3⟩:=h.last ha
       have hne:¬ e.key=s.last:=fun h3=>hsk (.inr ⟨ha,h3⟩)
       rcases z3 x hx h1 with h2|h2
       ·
        have h4:=s3 z hz e (by simp)
        exfalso
        rcases bQ.1 h4 with h4|h4
        ·rw [← hk] at h4
         rw [bQ.2 (.inl h4)] at h2;cases h2
        ·exact hne (h4.1.symm.trans z1)
       ·exact absurd (hk.symm.trans (h2.trans z1)) hne⟩
    have hsh:shown l seq e=if e.del=true then none else some (e.key,e.val):=by unfold shown;rw [if_pos hv]
    refine rj hs r (p++[e]) _ (by rw [hl];simp) ⟨?_,fun _=>?_,fun ha=>by cases ha⟩ ?_ ?_
    ·rw [List.filterMap_append,← h.out]
     cases hd:e.del<;>simp [hsh,hd]
    ·refine ⟨e,by simp,rfl,hle,fun x hx _=>?_⟩
     rcases List.mem_append.1 hx with hx|hx
     ·exact .inl (BV (s3 x hx e (by simp)))
     ·simp at hx;subst hx;exact .inr rfl
    ·intro h0
     have:=hlt h0
     cases hd:e.del<;>simp<;>omega
    ·intro x hx
     cases hd:e.del with
     | true=>rw [hd] at hx;simp at hx;exact hhi x hx
     | false=>
      rw [hd] at hx;simp at hx
      rcases hx with hx|rfl
      ·exact hhi x hx
      ·exact hin
def GR:Sc:=⟨[],[],false⟩
theorem Ke {lo hi:Bs} {limit:Int} {seq:Nat} {l:List az} {ps:List (Bs×Bs)} (hs:fS l) (hlo:∀ e∈l,lf lo e.key=true) (hp:jS ps)
 (h:∀ k,lf lo k=true→dP (gd l k seq)=aV ps k):(nD (lV hi limit seq) l GR).out=dW ps lo hi limit:=by
 rw [rj hs l [] GR rfl ⟨rfl,fun h=>(by cases h),fun _ x hx=>(by cases hx)⟩ (fun h0=>by show ((0:Nat):Int)≤limit;omega) (fun x hx=>by cases hx)]
 unfold dW
 congr 1
 have e1:l.filterMap (shown l seq)=ps.filter fun p=>lf lo p.1:=by
  refine wx (si hs seq) (hp.filter _) fun k=>?_
  show aV (qb l seq) k=_
  rw [vI hs,mC]
  by_cases hk:lf lo k=true
  ·rw [if_pos hk,h k hk]
  ·rw [if_neg hk]
   have:gd l k seq=none:=dM.2 fun e he hek=>absurd (hek▸hlo e he) hk
   rw [this];rfl
 rw [e1,List.filter_filter]
 congr 1
 funext p
 rw [Bool.and_comm]
def fa (ls:List (List az)) (k:Bs) (m:Nat):Option az:=ls.findSome? fun l=>gd l k m
abbrev Np (a b:List az):Prop:=∀ x∈a,∀ y∈b,x.key=y.key→y.seq<x.seq
abbrev Ord (ls:List (List az)):Prop:=ls.Pairwise Np
theorem bC (l:List az) (ls:List (List az)) (k:Bs) (m:Nat):fa (l::ls) k m=(gd l k m).or (fa ls k m):=by
 unfold fa;rw [List.findSome?_cons];cases gd l k m<;>rfl
theorem jT (a b:List (List az)) (k:Bs) (m:Nat):fa (a++b) k m=(fa a k m).or (fa b k m):=by
 unfold fa;rw [List.findSome?_append]
theorem Fw {ls:List (List az)} {k:Bs} {m:Nat}:fa ls k m=none↔∀ l∈ls,∀ e∈l,e.key=k→m<e.seq:=by
 unfold fa
 rw [List.findSome?_eq_none_iff]
 constructor
 ·intro h l hl;exact dM.1 (h l hl)
 ·intro h l hl;exact dM.2 (h l hl)
theorem wy {ls:List (List az)} {k:Bs} {m:Nat} {e:az} (h:fa ls k m=some e):∃ l∈ls,gd l k m=some e:=by
 unfold fa at h
 obtain ⟨l,hl,hv⟩:=List.exists_of_findSome?_eq_some h
 exact ⟨l,hl,hv⟩
theorem HG {ls:List (List az)} (hs:∀ l∈ls,fS l) (ho:Ord ls) {k:Bs} {m:Nat} {e:az} (h:fa ls k m=some e):∀ l∈ls,∀ x∈l,x.key=k→x.seq≤m→x.seq≤e.seq:=by
 induction ls with
 | nil=>intro l hl;cases hl
 | cons a r ih=>
  obtain ⟨o1,o2⟩:=List.pairwise_cons.1 ho
  rw [bC] at h
  intro l hl x hx hk hm
  cases hv:gd a k m with
  | some z=>
   rw [hv] at h;simp at h;subst h
   rcases List.mem_cons.1 hl with rfl|hl
   ·exact ov (hs _ List.mem_cons_self) hv x hx hk hm
   ·have:=o1 l hl z (fT hv).1 x hx ((fT hv).2.1.trans hk.symm);omega
  | none=>
   rw [hv] at h;simp only [Option.none_or] at h
   rcases List.mem_cons.1 hl with rfl|hl
   ·have:=dM.1 hv x hx hk;omega
   ·exact ih (fun l hl=>hs l (List.mem_cons_of_mem _ hl)) o2 h l hl x hx hk hm
theorem BW {ls:List (List az)} {L:List az} (hs:∀ l∈ls,fS l) (ho:Ord ls) (hL:fS L) (hm:∀ e,e∈L↔∃ l∈ls,e∈l) (k:Bs) (m:Nat):gd L k m=fa ls k m:=by
 cases hv:fa ls k m with
 | none=>
  exact dM.2 fun x hx hk=>by
   obtain ⟨l,hl,hxl⟩:=(hm x).1 hx
   exact Fw.1 hv l hl x hxl hk
 | some e=>
  obtain ⟨l,hl,h1⟩:=wy hv
  obtain ⟨a1,a2,a3⟩:=fT h1
  refine tM hL ((hm e).2 ⟨l,hl,a1⟩) a2 a3 fun x hx hk hxm=>?_
  obtain ⟨l',hl',hxl⟩:=(hm x).1 hx
  exact HG hs ho hv l' hl' x hxl hk hxm
theorem BX (l:List az) (f:Bs→Bool) (k:Bs) (m:Nat):gd (l.filter fun e=>f e.key) k m=if f k=true then gd l k m else none:=by
 induction l with
 | nil=>simp [gd]
 | cons e r ih=>
  unfold gd at *
  rw [List.filter_cons,List.find?_cons]
  by_cases hk:e.key=k
  ·subst hk
   by_cases hf:f e.key=true
   ·rw [if_pos hf,List.find?_cons,ih]
    simp [hf]
   ·rw [if_neg hf,ih];simp [hf]
  ·by_cases hf:f e.key=true
   ·rw [if_pos hf,List.find?_cons,ih];simp [hk]
   ·rw [if_neg hf,ih];simp [hk]
def iY (k v:Bs):Bool→List (Bs×Bs)→List (Bs×Bs)
 | put,[]=>if put=true then [] else [(k,v)]
 | put,p::r=>(if put=false∧aQ p.1 k=false then [(k,v)] else [])++((if p.1≠k then [p] else [])++iY k v (put||!aQ p.1 k) r)
theorem wz (k v:Bs):∀ l:List (Bs×Bs),iY k v true l=l.filter fun p=>decide (p.1≠k)
 | []=>rfl
 | p::r=>by
  unfold iY
  rw [List.filter_cons]
  simp only [Bool.true_or,wz k v r]
  by_cases h:p.1=k<;>simp [h]
theorem ya (k v:Bs) (del:Bool):∀ {l:List (Bs×Bs)},jS l→iY k v del l=ph l k v del
 | [],_=>by cases del<;>simp [iY,ph]
 | p::r,hl=>by
  obtain ⟨p1,p2⟩:=List.pairwise_cons.1 hl
  have ih:=ya k v del p2
  unfold iY
  cases hb:aQ p.1 k with
  | true=>
   have hne:=jJ hb
   have has:=cz hb
   simp only [Bool.true_eq_false,and_false,if_false,List.nil_append,ne_eq,hne,not_false_eq_true,if_true,Bool.not_true,Bool.or_false,ih]
   unfold ph
   rw [List.filter_cons,List.filter_cons,hb,has]
   simp
  | false=>
   have hall:∀ q∈r,aQ k q.1=true:=fun q hq=>by
    have:=p1 q hq
    exact oN hb this
   have hf1:r.filter (fun q=>aQ q.1 k)=[]:=by
    rw [List.filter_eq_nil_iff];intro q hq;rw [cz (hall q hq)];simp
   have hf2:r.filter (fun q=>aQ k q.1)=r:=List.filter_eq_self.2 hall
   have hf3:r.filter (fun q=>decide (q.1≠k))=r:=List.filter_eq_self.2 fun q hq=>by
    simpa using Ne.symm (jJ (hall q hq))
   simp only [Bool.not_false,Bool.or_true,wz,hf3,and_true]
   unfold ph
   rw [List.filter_cons,List.filter_cons,hb,hf1,hf2]
   rcases ew p.1 k with h|h|h
   ·rw [hb] at h;cases h
   ·subst h
    rw [aN]
    cases del<;>simp
   ·rw [h]
    have hne:=Ne.symm (jJ h)
    cases del<;>simp [hne]
structure bO where
 key:Bs
 val:Bs
 del:Bool
deriving DecidableEq
def mZ (l:List (Bs×Bs)) (b:List bO):List (Bs×Bs):=b.foldl (fun l c=>ph l c.key c.val c.del) l
theorem yb:∀ (b:List bO) {l:List (Bs×Bs)},jS l→jS (mZ l b)
 | [],_,h=>h
 | c::b,_,h=>yb b (zD h c.key c.val c.del)
def gH (c:bO) (q:Nat):az:=⟨c.key,c.val,c.del,q⟩
def bj:Nat→List bO→List az
 | _,[]=>[]
 | q,c::r=>gH c (q+1)::bj (q+1) r
theorem pj:∀ (b:List bO) (q:Nat) (e:az),e∈bj q b→q<e.seq∧e.seq≤q+b.length
 | [],_,e,h=>by cases h
 | c::r,q,e,h=>by
  rcases List.mem_cons.1 h with rfl|h
  ·simp [gH]
  ·have:=pj r (q+1) e h
   simp;omega
@[simp] theorem ey:∀ (b:List bO) (q:Nat),(bj q b).length=b.length
 | [],_=>rfl
 | c::r,q=>by simp [bj,ey r]
theorem DY {l:List az} {e:az} (hl:fS l) (hn:∀ x∈l,x.seq<e.seq) (k:Bs) (m:Nat):gd (dT l e) k m=if e.key=k∧e.seq≤m then some e else gd l k m:=by
 have hs:=nC (e:=e) hl fun x hx h=>by have:=hn x hx;omega
 by_cases h:e.key=k∧e.seq≤m
 ·rw [if_pos h]
  refine tM hs (iW.2 (.inl rfl)) h.1 h.2 fun x hx _ _=>?_
  rcases iW.1 hx with rfl|hx
  ·exact Nat.le_refl _
  ·exact Nat.le_of_lt (hn x hx)
 ·rw [if_neg h]
  cases hv:gd l k m with
  | none=>
   exact dM.2 fun x hx hk=>by
    rcases iW.1 hx with rfl|hx
    ·simpa [hk] using h
    ·exact dM.1 hv x hx hk
  | some z=>
   obtain ⟨a1,a2,a3⟩:=fT hv
   refine tM hs (iW.2 (.inr a1)) a2 a3 fun x hx hk hm=>?_
   rcases iW.1 hx with rfl|hx
   ·exact absurd ⟨hk,hm⟩ h
   ·exact ov hl hv x hx hk hm
theorem tP:∀ (b:List bO) {q:Nat} {l:List az},fS l→(∀ x∈l,x.seq≤q)→fS ((bj q b).foldl dT l)
 | [],_,_,h,_=>h
 | c::r,q,l,h,hq=>tP r (nC h fun x hx hh=>by have:=hq x hx;simp [gH] at hh;omega) fun x hx=>by
  rcases iW.1 hx with rfl|hx
  ·exact Nat.le_refl _
  ·have:=hq x hx;omega
theorem qd:∀ (b:List az) {l:List az} {x:az},x∈b.foldl dT l↔x∈b∨x∈l
 | [],_,_=>by simp
 | c::r,l,x=>by
  rw [List.foldl_cons,qd r,iW,List.mem_cons]
  constructor
  ·rintro (h|h|h)
   ·exact .inl (.inr h)
   ·exact .inl (.inl h)
   ·exact .inr h
  ·rintro ((h|h)|h)
   ·exact .inr (.inl h)
   ·exact .inl h
   ·exact .inr (.inr h)
@[simp] theorem ll:∀ (b:List az) (l:List az),(b.foldl dT l).length=l.length+b.length
 | [],_=>rfl
 | c::r,l=>by rw [List.foldl_cons,ll r,lj,List.length_cons];omega
theorem qe:∀ (b:List bO) {q:Nat} {l:List az} (k:Bs) (m:Nat),fS l→(∀ x∈l,x.seq≤q)→m≤q→gd ((bj q b).foldl dT l) k m=gd l k m
 | [],_,_,_,_,_,_,_=>rfl
 | c::r,q,l,k,m,h,hq,hm=>by
  have hs:=nC (e:=gH c (q+1)) h fun x hx hh=>by have:=hq x hx;simp [gH] at hh;omega
  rw [bj,List.foldl_cons,qe r k m hs (fun x hx=>by
   rcases iW.1 hx with rfl|hx
   ·exact Nat.le_refl _
   ·have:=hq x hx;omega) (by omega),DY h (fun x hx=>by have:=hq x hx;simp [gH];omega)]
  rw [if_neg (by simp [gH];omega)]
theorem mD:∀ (b:List bO) {q:Nat} {l:List az} (k:Bs) (m:Nat) (ps:List (Bs×Bs)) (below:Option az),fS l→(∀ x∈l,x.seq≤q)→q+b.length≤m →
 dP ((gd l k m).or below)=aV ps k→dP ((gd ((bj q b).foldl dT l) k m).or below)=aV (mZ ps b) k
 | [],_,_,_,_,_,_,_,_,_,h=>h
 | c::r,q,l,k,m,ps,below,h,hq,hm,hv=>by
  have hs:=nC (e:=gH c (q+1)) h fun x hx hh=>by have:=hq x hx;simp [gH] at hh;omega
  rw [bj,List.foldl_cons]
  simp only [List.length_cons] at hm
  refine mD r k m (ph ps c.key c.val c.del) below hs (fun x hx=>by
   rcases iW.1 hx with rfl|hx
   ·exact Nat.le_refl _
   ·have:=hq x hx;omega) (by omega) ?_
  rw [DY h (fun x hx=>by have:=hq x hx;simp [gH];omega),Fv]
  by_cases hk:k=c.key
  ·subst hk
   rw [if_pos ⟨rfl,by simp [gH];omega⟩,if_pos rfl]
   simp [dP,gH]
  ·rw [if_neg (by simp [gH];intro h;exact absurd h.symm hk),if_neg hk]
   exact hv
end Go.Proofs.YtecibefflhomdaaGreatDoor.Pure
namespace Go.Proofs.YtecibefflhomdaaGreatDoor
open Go
section
open Go.Proofs.YtecibefflhomdaaGreatDoor.Pure (ad aA cx eD fE cQ iU dL jv jw de cw)
def bz (D:ad) (n:Bs):Option (Option Bs×Nat):=if D.eg=true then some (some n,8) else match aA D.now n with|none=>some (some n,10)|some _=>none
abbrev cy:=Option Bs×Nat
def gM (D:ad) (n:Bs) (f:Nat→ad):ad:=match bz D n with
 | some _=>D.tick
 | none=>match aA D.now n with
  | some i=>f i
  | none=>D.tick
def mE (D:ad) (i:Nat):Nat:=match aA D.nodes i with|some x=>x.2|none=>0
def dX (D:ad) (n bs:Bs):Option cy:=match bz D n with
 | some e=>some e
 | none=>if (bs.length:Int) > D.room-D.used then some (some n,9) else none
def bZ (D:ad) (n bs:Bs):ad:=match dX D n bs with
 | some _=>D.tick
 | none=>match aA D.now n with
  | some i=>D.tick.laid i (D.aH i++bs,mE D i)
  | none=>D.tick
def fz (bs:Bs) (at_ n:Int):Bs:=(bs.drop (min (max at_ 0) bs.length).toNat).take (min (max n 0) (bs.length-min (max at_ 0) bs.length)).toNat
def counted (D:ad) (n:Int):ad:={ D with reads:=IntKind.i64.wrap (D.reads+1),most:=max D.most n }
def fh (D:ad):ad:=if D.eg=true then D.tick else D.tick.synced
def dB (room:Int):ad:=⟨[],[],[],[],room,0,0,0,0⟩
def bx (D:ad) (a t:Int):ad:={ D with wait:=max a 0,bad:=max t 0 }
def fresh (D:ad):Nat:=(D.nodes.map (·.1)).foldl max 0+1
theorem qf:∀ (l:List Nat) (m:Nat),m≤l.foldl max m∧∀ x∈l,x≤l.foldl max m
 | [],m=>⟨Nat.le_refl _,by simp⟩
 | y::l,m=>by
  obtain ⟨h1,h2⟩:=qf l (max m y)
  refine ⟨Nat.le_trans (Nat.le_max_left m y) h1,fun x hx=>?_⟩
  rcases List.mem_cons.1 hx with rfl|hx
  ·exact Nat.le_trans (Nat.le_max_right m x) h1
  ·exact h2 x hx
theorem tQ (D:ad):aA D.nodes (fresh D)=none:=by
 rw [cw]
 intro h
 have:=(qf (D.nodes.map (·.1)) 0).2 _ h
 unfold fresh at this
 omega
def gm (D:ad) (n:Bs):Option cy:=if D.eg=true then some (some n,8) else if (aA D.now n).isSome=true then some (some n,11) else none
def cT (D:ad) (n:Bs):ad:=if D.eg=true then D.tick else if (aA D.now n).isSome=true then D.tick else D.tick.created n (fresh D.tick)
def fileOf (D:ad) (n:Bs):Bs:=match aA D.now n with|some i=>D.aH i|none=>[]
def jU (D:ad) (n:Bs):Nat:=match bz D n with|some _=>0|none=>(fileOf D n).length
def dR (D:ad) (n:Bs):ad:=gM D n fun i=>D.tick.laid i (D.aH i,(D.aH i).length)
def fq (D:ad) (n:Bs):ad:=gM D n fun _=>D.tick.fL n
def fM (D:ad) (n m:Bs):ad:=gM D n fun i=>if n=m then D.tick else D.tick.renamed n m i
def iC (D:ad) (nm:Bs) (at_ n:Int):Bs:=match bz D nm with
 | some _=>[]
 | none=>fz (fileOf D nm) at_ n
end
section
open Go.Proofs.YtecibefflhomdaaGreatDoor.Pure (ad aA cx eD fE)
attribute [local irreducible] IntKind.wrap
abbrev au (i:Nat):Value:=.pointer (some ⟨i,0,none⟩)
def dA (p:Nat×(Bs×Nat)):ah:=fun h=>∃ v,cV [blk p.1 116 [v,.int .i64 (p.2.2:Int)],cC v p.2.1] h
def tR (p:Bs×Option Nat):List Value:=[str p.1,.pointer (p.2.map fun i=>⟨i,0,none⟩)]
def y8 (v:Value) (m:List (Bs×Option Nat)):ah:=fun h=>∃ b c,v=.slice (some ⟨b,0,none⟩) m.length c∧h b=some (true,.cells (m.map tR).flatten.toArray 216 (0,0))
def eP (v:Value) (ms:List (List (Bs×Option Nat))):ah:=fun h=>∃ vs,vs.length=ms.length∧cV [aE 1 v 143 ms.length vs,star (List.zipWith y8 vs ms)] h
def aM (l:List (Bs×Nat)):List (Bs×Value):=l.map fun p=>(p.1,au p.2)
structure DV where
 bn:Nat
 bs:Nat
 mv:Value
abbrev aX (z:DV) (D:ad):List Value:=[.map (some z.bn),.map (some z.bs),z.mv,.int .i64 D.room,.int .i64 D.wait,.int .i64 D.bad,.int .i64 D.reads,.int .i64 D.most]
abbrev fK (d:Nat) (z:DV) (D:ad):List ah:=[blk d 111 (aX z D),aO cu z.bn (aM D.now),aO cu z.bs (aM D.safe),eP z.mv D.moves,star (D.nodes.map dA)]
def eh (d:Nat) (D:ad):ah:=fun h=>D.Ok∧∃ z,cV (fK d z D) h
def ax (v:Value):Option (Option Bs×Nat)→ah
 | none=>fun _=>v=.nilIface
 | some (none,k)=>fun _=>v=.iface 44 (.int .i64 (k:Int))
 | some (some s,k)=>fun h=>∃ b,v=.iface 249 (.pointer (some ⟨b,0,none⟩))∧h b=some (true,.cells [str s,.int .i64 (k:Int)].toArray 251 (0,0))
variable {W0 w:World} {F l:List ah} {v:Value} {d:Nat} {D:ad}
theorem Sat.eR (h:Sat W0 (eh d D::F) w):D.Ok∧∃ z,Sat W0 (fK d z D++F) w:=by
 have h1:D.Ok:=h.fQ fun _ k=>k.1
 obtain ⟨z,_,hs⟩:=h.eI (φ:=fun _:DV=>True) (B:=fun z=>fK d z D) fun hp ⟨_,z,k⟩=>⟨z,trivial,k⟩
 exact ⟨h1,z,hs⟩
theorem Sat.cU {z:DV} (hok:D.Ok) (h:Sat W0 (fK d z D++F) w):Sat W0 (eh d D::F) w:=Sat.close h fun hp k=>⟨hok,z,k⟩
theorem nE:∀ (l:List (Bs×Nat)) (n:Bs),aA (aM l) n=(aA l n).map au
 | [],_=>rfl
 | (k,i)::r,n=>by
  unfold aM
  simp only [List.map_cons,aA]
  by_cases h:n=k
  ·simp [h]
  ·simp only [h,if_false];exact nE r n
theorem Sat.pk {s:Bs} {k b:Nat} (h:Sat W0 (blk b 251 [str s,.int .i64 (k:Int)]::F) w):Sat W0 (ax (.iface 249 (.pointer (some ⟨b,0,none⟩))) (some (some s,k))::F) w:=h.share.head fun hp k=>⟨b,rfl,k⟩
theorem Sat.ei (h:Sat W0 F w):Sat W0 (ax .nilIface none::F) w:=h.imp fun hp r=>⟨fun _=>none,hp,fun _ _ _ hx=>(by cases hx),fun _ _ hx=>(by cases hx),Hp.le_refl _,rfl,r⟩
theorem po (hs:Sat W0 (eh d D::F) w) :
 Calls Tryz.prog 141 #[au d] w fun x w'=>x=.returned (.bool D.eg)∧Sat W0 (eh d D.tick::F) w':=by
 obtain ⟨hok,z,hs⟩:=hs.eR
 have hok':=hok.tick
 have:=hok.wait1
 have:=hok.bad1
 dsimp only [fK,aX,List.cons_append,List.nil_append] at hs
 refine enter Tryz.func141 rfl Tryz.ntmps141 Tryz.results141 rfl ?_
 by_cases h1:D.wait > 0
 ·have e1:D.eg=false:=by simp [ad.eg];omega
  have e2:D.tick={ D with wait:=D.wait-1 }:=by unfold ad.tick;rw [if_pos h1]
  rw [e1];rw [e2] at hok' ⊢
  refine go ?_
  refine bD hs fun w hs=>?_
  refine go ?_
  exact ak rfl ⟨rfl,Sat.cU (z:=z) hok' hs⟩
 ·by_cases h2:D.bad > 0
  ·have e1:D.eg=true:=by simp [ad.eg];omega
   have e2:D.tick={ D with bad:=D.bad-1 }:=by unfold ad.tick;rw [if_neg h1,if_pos h2]
   rw [e1];rw [e2] at hok' ⊢
   refine go ?_
   refine bD hs fun w hs=>?_
   refine go ?_
   exact ak rfl ⟨rfl,Sat.cU (z:=z) hok' hs⟩
  ·have e1:D.eg=false:=by simp [ad.eg];omega
   have e2:D.tick=D:=by unfold ad.tick;rw [if_neg h1,if_neg h2]
   rw [e1,e2]
   refine go ?_
   exact ak rfl ⟨rfl,Sat.cU (z:=z) hok hs⟩
def nF (D:ad) (n:Bs):Value:=.pointer (if D.eg=true then none else (aA D.now n).map fun i=>⟨i,0,none⟩)
theorem find_spec {n:Bs} (hs:Sat W0 (eh d D::F) w) :
 Calls Tryz.prog 139 #[au d,str n] w fun x w'=>∃ ve,x=.returned (.tuple #[nF D n,ve])∧Sat W0 (eh d D.tick::ax ve (bz D n)::F) w':=by
 obtain ⟨hok,z,hs⟩:=hs.eR
 refine enter Tryz.func139 rfl Tryz.ntmps139 Tryz.results139 rfl ?_
 dsimp only [fK,aX,List.cons_append,List.nil_append] at hs
 refine go ?_
 refine oo cu (k:=n) hs (.there .here) rfl rfl rfl xW rfl ?_
 rw [nE]
 refine go ?_
 refine ae (met (po (Sat.cU (z:=z) hok hs)) ?_)
 rintro _ w ⟨rfl,hs⟩
 refine ⟨_,rfl,?_⟩
 cases ht:D.eg with
 | true=>
  have e1:bz D n=some (some n,8):=by simp [bz,ht]
  have e2:nF D n=.pointer none:=by simp [nF,ht]
  rw [e1,e2]
  refine go ?_
  refine bA [str n,.int .i64 8] ?_
  refine cE hs fun w b hs=>?_
  refine go ?_
  exact ak rfl ⟨_,rfl,hs.pk.to⟩
 | false=>
  cases hg:aA D.now n with
  | none=>
   have e1:bz D n=some (some n,10):=by simp [bz,ht,hg]
   have e2:nF D n=.pointer none:=by simp [nF,ht,hg]
   rw [e1,e2]
   refine go ?_
   refine bA [str n,.int .i64 10] ?_
   refine cE hs fun w b hs=>?_
   refine go ?_
   exact ak rfl ⟨_,rfl,hs.pk.to⟩
  | some i=>
   have e1:bz D n=none:=by simp [bz,ht,hg]
   have e2:nF D n=au i:=by simp [nF,ht,hg]
   rw [e1,e2]
   refine go ?_
   exact ak rfl ⟨_,rfl,hs.ei.to⟩
end
section
open Go.Proofs.YtecibefflhomdaaGreatDoor.Pure (ad aA cx eD fE)
attribute [local irreducible] IntKind.wrap
variable {W0 w:World} {F l:List ah} {v:Value} {d:Nat} {D:ad}
theorem jA:∀ (l:List (Bs×Nat)) (n:Bs) (i:Nat),aM (cx l n i)=cx (aM l) n (au i)
 | [],_,_=>rfl
 | (k,j)::r,n,i=>by
  simp only [aM,List.map_cons,cx]
  by_cases h:n=k
  ·simp [h]
  ·simp only [h,if_false,List.map_cons];rw [← aM,jA r n i];rfl
theorem tS:∀ (l:List (Bs×Nat)) (n:Bs),aM (eD l n)=eD (aM l) n
 | [],_=>rfl
 | (k,j)::r,n=>by
  simp only [aM,List.map_cons,eD]
  by_cases h:n=k
  ·simp [h]
  ·simp only [h,if_false,List.map_cons];rw [← aM,tS r n];rfl
theorem HH {k:Nat}:∀ (xs:List (List Value)) (i:Nat) (x:List Value),(∀ y∈xs,y.length=k)→xs[i]?=some x→gh xs.flatten (i*k) x:=by
 have shift:∀ (pre cs vs:List Value) (o:Nat),gh cs o vs→gh (pre++cs) (pre.length+o) vs:=by
  intro pre cs vs
  induction vs with
  | nil=>intro o _;trivial
  | cons u r ih=>intro o ⟨h,hr⟩;exact ⟨by rw [List.getElem?_append_right (by omega),Nat.add_sub_cancel_left];exact h,by rw [Nat.add_assoc];exact ih _ hr⟩
 have pre:∀ (vs cs:List Value),gh (vs++cs) 0 vs:=by
  have key:∀ (vs pre cs:List Value),gh (pre++(vs++cs)) pre.length vs:=by
   intro vs
   induction vs with
   | nil=>intro _ _;trivial
   | cons v r ih=>intro p cs;exact ⟨by simp,by have:=ih (p++[v]) cs;simpa using this⟩
  exact fun vs cs=>key vs [] cs
 intro xs
 induction xs with
 | nil=>intro i x _ h;simp at h
 | cons y ys ih=>
  intro i x hl h
  cases i with
  | zero=>simp at h;subst h;rw [Nat.zero_mul,List.flatten_cons];exact pre _ _
  | succ i=>
   simp at h
   have:=shift y ys.flatten x (i*k) (ih i x (fun z hz=>hl z (List.mem_cons_of_mem _ hz)) h)
   rw [hl y List.mem_cons_self] at this
   rw [List.flatten_cons,Nat.succ_mul,Nat.add_comm];exact this
theorem Fx (m:List (Bs×Nat)) (mvs:List (Bs×Option Nat)) (i:Nat) (p:Bs×Option Nat) (h:mvs[i]?=some p) :
 fE m (mvs.take (i+1))=match p.2 with|none=>eD (fE m (mvs.take i)) p.1|some j=>cx (fE m (mvs.take i)) p.1 j:=by
 have hlt:=(List.getElem?_eq_some_iff.1 h).1
 have he:=(List.getElem?_eq_some_iff.1 h).2
 rw [List.take_succ_eq_append_getElem hlt,he]
 obtain ⟨a,o⟩:=p
 cases o<;>simp [fE,List.foldl_append]
theorem zE {m:Nat} {kvs:List (Bs×Nat)} {mvs:List (Bs×Option Nat)} (hs:Sat W0 (aO cu m (aM kvs)::y8 v mvs::F) w) (hl:mvs.length<1000) :
 Calls Tryz.prog 54 #[.map (some m),v] w fun x w'=>x=.returned (.tuple #[])∧Sat W0 (aO cu m (aM (fE kvs mvs))::y8 v mvs::F) w':=by
 obtain ⟨b,c,rfl⟩:∃ b c,v=.slice (some ⟨b,0,none⟩) mvs.length c:=(hs.take (.there .here)).fQ fun _ ⟨b,c,h,_⟩=>⟨b,c,h⟩
 refine enter Tryz.func54 rfl Tryz.ntmps54 Tryz.results54 rfl ?_
 refine go ?_
 refine aL (α:=Nat) (fun i=>[(0,.map (some m)),(6,.slice (some ⟨b,0,none⟩) mvs.length c),(7,.int .i64 (mvs.length:Int)),(8,.int .i64 (i:Int))])
  (fun i w=>i≤mvs.length∧Sat W0 (aO cu m (aM (fE kvs (mvs.take i)))::y8 (.slice (some ⟨b,0,none⟩) mvs.length c) mvs::F) w) (fun i=>mvs.length-i) 0 ⟨rfl,rfl,rfl,rfl,trivial⟩ ⟨Nat.zero_le _,hs⟩ ?_
 clear hs
 rintro i w ⟨hi,hs⟩
 by_cases hlt:i<mvs.length
 ·have hg:mvs[i]?=some mvs[i]:=List.getElem?_eq_getElem hlt
  have hst:=Fx kvs mvs i _ hg
  generalize mvs[i]=p at hg hst
  obtain ⟨⟨b',c'⟩,hv,hs2⟩:=(Sat.zt (B:=y8 (.slice (some ⟨b,0,none⟩) mvs.length c) mvs) (hs.take (.there .here)) (fun h k=>by
   obtain ⟨b',c',h1,h2⟩:=k
   refine ⟨fun j=>if j=b' then some (true,.cells (mvs.map tR).flatten.toArray 216 (0,0)) else none,fun j x hx=>?_,fun j x hx=>?_,b',c',h1,by simp⟩
   ·by_cases hj:j=b'
    ·subst hj;simp at hx;subst hx;exact h2
    ·simp [hj] at hx
   ·by_cases hj:j=b'
    ·subst hj;simp at hx;subst hx;rfl
    ·simp [hj] at hx)).eI (α:=Nat×Nat) (φ:=fun z=>Value.slice (some ⟨b,0,none⟩) mvs.length c=.slice (some ⟨z.1,0,none⟩) mvs.length z.2) (B:=fun z=>[ob true z.1 (.cells (mvs.map tR).flatten.toArray 216 (0,0))]) fun hp ⟨b',c',h1,h2⟩=>
    ⟨(b',c'),h1,hp,fun _=>none,fun _ _ _ _ hy=>(by cases hy),Hp.le_refl _,fun _ _ hx=>(by cases hx),h2,trivial⟩
  obtain ⟨rfl,rfl⟩:b=b'∧c=c':=by simpa using hv
  dsimp only [List.cons_append,List.nil_append] at hs2
  have hseg:=HH (k:=2) (mvs.map tR) i (tR p) (fun y hy=>by obtain ⟨q,_,rfl⟩:=List.mem_map.1 hy;rfl) (by simp [hg])
  refine go ?_
  refine cL (i:=i) rfl rfl rfl rfl rfl hlt rfl ?_
  refine dz (tR p) hs2 rfl rfl rfl .here (by simpa using hseg) rfl ?_
  refine aS hs fun w b5 hs=>?_
  refine cZ (vs:=tR p) hs fun w hs=>?_
  obtain ⟨nm,o⟩:=p
  cases o with
  | none=>
   refine go ?_
   refine Fo cu (k:=nm) hs (.there .here) rfl rfl rfl fun w hs=>?_
   refine go ?_
   refine aB (i+1) ⟨rfl,rfl,rfl,rfl,trivial⟩ ⟨hlt,?_⟩ (by omega)
   rw [hst,tS];exact hs.to
  | some j=>
   refine go ?_
   refine iV cu (k:=nm) hs (.there .here) rfl rfl rfl rfl fun w hs=>?_
   refine go ?_
   refine aB (i+1) ⟨rfl,rfl,rfl,rfl,trivial⟩ ⟨hlt,?_⟩ (by omega)
   rw [hst,jA];exact hs.to
 ·have:i=mvs.length:=by omega
  subst this
  rw [List.take_length] at hs
  refine go ?_
  exact gB rfl ⟨rfl,hs⟩
end
end Go.Proofs.YtecibefflhomdaaGreatDoor
