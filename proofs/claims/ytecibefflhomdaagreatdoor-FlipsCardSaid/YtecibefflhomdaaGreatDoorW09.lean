/-
  Part 9: PLAIN pairs in order; PLAIN several sorted lists, the newest first, and what they ; THE PURE DISK, PART 4 what each operation answers and leaves; WALKS package api; WALKS package api.
-/
import Derived.Test.YtecibefflhomdaaGreatDoorW08
set_option maxHeartbeats 8000000
set_option maxRecDepth 100000
set_option linter.all false
namespace Go.Proofs.YtecibefflhomdaaGreatDoor.Pure
open Go
def dB:Option ay→Option Bs
 | none=>none
 | some e=>if e.del=true then none else some e.val
theorem fK (ms:List Nat) (b:Bool) (l:List ay):(ey ms b l).Sublist l:=by
 unfold ey
 split
 ·exact List.filter_sublist.trans List.filter_sublist
 ·exact List.filter_sublist
theorem lN {ms:List Nat} {b:Bool} {l:List ay} (h:fJ l):fJ (ey ms b l):=h.sublist (fK ms b l)
theorem EU {ms:List Nat} {b:Bool} {l:List ay} {e:ay} (h:e∈ey ms b l):e∈kl ms l:=by
 unfold ey at h
 split at h
 ·exact (List.mem_filter.1 h).1
 ·exact h
theorem zr {ms:List Nat} {l:List ay} (hl:fJ l) {k:Bs} {m:Nat} (hm:m∈ms):fS (ey ms false l) k m=fS l k m:=by
 cases hv:fS l k m with
 | none=>exact dy.2 fun x hx=>dy.1 hv x ((fK _ _ _).subset hx)
 | some e=>
  obtain ⟨a1,a2,a3⟩:=gd hv
  refine tJ (lN hl) ?_ a2 a3 fun x hx=>oo hl hv x ((fK _ _ _).subset hx)
  show e∈kl ms l
  refine tK.2 ⟨a1,?_⟩
  unfold seen
  rw [List.any_eq_true]
  exact ⟨m,hm,by rw [a2];simpa using hv⟩
theorem He {ms:List Nat} {l:List ay} (hl:fJ l) {k:Bs} {m:Nat} (hm:m∈ms):dB (fS (ey ms true l) k m)=dB (fS l k m):=by
 cases hv:fS l k m with
 | none=>
  have:fS (ey ms true l) k m=none:=dy.2 fun x hx=>dy.1 hv x ((fK _ _ _).subset hx)
  rw [this]
 | some e=>
  obtain ⟨a1,a2,a3⟩:=gd hv
  have hk:e∈kl ms l:=tK.2 ⟨a1,by
   unfold seen
   rw [List.any_eq_true]
   exact ⟨m,hm,by rw [a2];simpa using hv⟩⟩
  by_cases hh:holds (kl ms l) e=true
  ·have:fS (ey ms true l) k m=some e:=tJ (lN hl) (List.mem_filter.2 ⟨hk,hh⟩) a2 a3 fun x hx=>oo hl hv x ((fK _ _ _).subset hx)
   rw [this]
  ·have hd:e.del=true:=by
    cases hd:e.del with
    | true=>rfl
    | false=>exact absurd (List.any_eq_true.2 ⟨e,hk,by simp [hd]⟩) hh
   have:fS (ey ms true l) k m=none:=dy.2 fun x hx hxk=>by
    rcases Nat.lt_or_ge m x.seq with h|h
    ·exact h
    ·have h1:=oo hl hv x ((fK _ _ _).subset hx) hxk h
     have h2:holds (kl ms l) x=true:=(List.mem_filter.1 hx).2
     unfold holds at h2 hh
     obtain ⟨y,hy,h3⟩:=List.any_eq_true.1 h2
     simp only [Bool.and_eq_true,decide_eq_true_eq] at h3
     exact absurd (List.any_eq_true.2 ⟨y,hy,by
      simp only [Bool.and_eq_true,decide_eq_true_eq]
      exact ⟨⟨h3.1.1.trans (hxk.trans a2.symm),by omega⟩,h3.2⟩⟩) hh
   rw [this]
   simp [dB,hd]
abbrev kU (l:List (Bs×Bs)):Prop:=l.Pairwise fun a b=>aQ a.1 b.1=true
def aR:List (Bs×Bs)→Bs→Option Bs
 | [],_=>none
 | p::r,k=>if p.1=k then some p.2 else aR r k
theorem mz {l:List (Bs×Bs)} {k:Bs} (h:∀ p∈l,p.1≠k):aR l k=none:=by
 induction l with
 | nil=>rfl
 | cons p r ih=>
  unfold aR
  rw [if_neg (h p List.mem_cons_self)]
  exact ih fun q hq=>h q (List.mem_cons_of_mem _ hq)
theorem tL {l:List (Bs×Bs)} {k v:Bs} (h:aR l k=some v):(k,v)∈l:=by
 induction l with
 | nil=>cases h
 | cons p r ih=>
  unfold aR at h
  split at h
  ·rename_i hk;cases h;subst hk;exact List.mem_cons_self
  ·exact List.mem_cons_of_mem _ (ih h)
theorem EV {l:List (Bs×Bs)} (hl:kU l) {p:Bs×Bs} (h:p∈l):aR l p.1=some p.2:=by
 induction l with
 | nil=>cases h
 | cons q r ih=>
  obtain ⟨q1,q2⟩:=List.pairwise_cons.1 hl
  unfold aR
  rcases List.mem_cons.1 h with rfl|h
  ·simp
  ·rw [if_neg (jB (q1 p h))];exact ih q2 h
theorem we:∀ {a b:List (Bs×Bs)},kU a→kU b→(∀ k,aR a k=aR b k)→a=b
 | [],[],_,_,_=>rfl
 | [],q::b,_,_,h=>by have:=h q.1;simp [aR] at this
 | p::a,[],_,_,h=>by have:=h p.1;simp [aR] at this
 | p::a,q::b,ha,hb,h=>by
  obtain ⟨p1,p2⟩:=List.pairwise_cons.1 ha
  obtain ⟨q1,q2⟩:=List.pairwise_cons.1 hb
  have e1:=h p.1
  have e2:=h q.1
  simp only [aR,if_true] at e1 e2
  have hk:p.1=q.1:=by
   rcases eh p.1 q.1 with h1|h1|h1
   ·rw [if_neg (Ne.symm (jB h1))] at e1
    have:=tL e1.symm
    have:=q1 _ this
    rw [cw h1] at this;cases this
   ·exact h1
   ·rw [if_neg (Ne.symm (jB h1))] at e2
    have:=tL e2
    have:=p1 _ this
    rw [cw h1] at this;cases this
  rw [if_pos hk.symm] at e1
  have hpq:p=q:=Prod.ext hk (Option.some.inj e1)
  subst hpq
  congr 1
  refine we p2 q2 fun k=>?_
  have:=h k
  unfold aR at this
  by_cases hpk:p.1=k
  ·subst hpk
   rw [mz fun r hr=>Ne.symm (jB (p1 r hr)),mz fun r hr=>Ne.symm (jB (q1 r hr))]
  ·rwa [if_neg hpk,if_neg hpk] at this
theorem mA {l:List (Bs×Bs)} (f:Bs→Bool) (k:Bs):aR (l.filter fun p=>f p.1) k=if f k=true then aR l k else none:=by
 induction l with
 | nil=>simp [aR]
 | cons p r ih=>
  rw [List.filter_cons]
  by_cases hf:f p.1=true
  ·rw [if_pos hf]
   unfold aR
   by_cases hk:p.1=k
   ·subst hk;simp [hf]
   ·rw [if_neg hk,if_neg hk,ih]
  ·rw [if_neg hf,ih]
   by_cases hk:p.1=k
   ·subst hk;simp [hf]
   ·rw [aR,if_neg hk]
def sM (l:List (Bs×Bs)) (k v:Bs) (del:Bool):List (Bs×Bs):=
 (l.filter fun p=>aQ p.1 k)++(if del=true then [] else [(k,v)])++l.filter fun p=>aQ k p.1
theorem zs {l:List (Bs×Bs)} (hl:kU l) (k v:Bs) (del:Bool):kU (sM l k v del):=by
 unfold sM
 refine List.pairwise_append.2 ⟨List.pairwise_append.2 ⟨hl.filter _,?_,?_⟩,hl.filter _,?_⟩
 ·split<;>simp
 ·intro a ha b hb
  split at hb
  ·cases hb
  ·simp at hb;subst hb;exact (List.mem_filter.1 ha).2
 ·intro a ha b hb
  have hb:=(List.mem_filter.1 hb).2
  rcases List.mem_append.1 ha with ha|ha
  ·exact dt (List.mem_filter.1 ha).2 hb
  ·split at ha
   ·cases ha
   ·simp at ha;subst ha;exact hb
theorem pW (a b:List (Bs×Bs)) (k:Bs):aR (a++b) k=(aR a k).or (aR b k):=by
 induction a with
 | nil=>rfl
 | cons p r ih=>
  simp only [List.cons_append,aR]
  split
  ·rfl
  ·exact ih
theorem EW (l:List (Bs×Bs)) (k v:Bs) (del:Bool) (x:Bs):aR (sM l k v del) x=if x=k then (if del=true then none else some v) else aR l x:=by
 unfold sM
 rw [pW,pW,mA (fun y=>aQ y k),mA (fun y=>aQ k y)]
 by_cases hx:x=k
 ·subst hx
  rw [aM]
  cases del<;>simp [aR]
 ·have e1:aR (if del=true then [] else [(k,v)]) x=none:=by split<;>simp [aR,Ne.symm hx]
  rw [e1,if_neg hx]
  rcases eh x k with h|h|h
  ·rw [h,cw h];simp
  ·exact absurd h hx
  ·rw [h,cw h];simp
def kV (hi k:Bs):Bool:=decide (hi=[])||aQ k hi
def kW (lo k:Bs):Bool:=!aQ k lo
def xV {α:Type} (limit:Int) (l:List α):List α:=if 0<limit then l.take limit.toNat else l
def dJ (l:List (Bs×Bs)) (lo hi:Bs) (limit:Int):List (Bs×Bs):=xV limit (l.filter fun p=>kW lo p.1&&kV hi p.1)
def shown (l:List ay) (m:Nat) (e:ay):Option (Bs×Bs):=if fS l e.key m=some e then (if e.del=true then none else some (e.key,e.val)) else none
def pX (l:List ay) (m:Nat):List (Bs×Bs):=l.filterMap (shown l m)
theorem lO {l:List ay} {m:Nat} {e:ay} {p:Bs×Bs} (h:shown l m e=some p):p=(e.key,e.val)∧fS l e.key m=some e∧e.del=false:=by
 unfold shown at h
 split at h
 ·rename_i h1
  split at h
  ·cases h
  ·rename_i h2;exact ⟨(Option.some.inj h).symm,h1,by simpa using h2⟩
 ·cases h
theorem r8 {l:List ay} (hl:fJ l) (m:Nat):kU (pX l m):=by
 unfold pX
 rw [kU,List.pairwise_filterMap]
 refine hl.imp_of_mem fun {a b} ha hb hab p hp q hq=>?_
 obtain ⟨rfl,h1,-⟩:=lO hp
 obtain ⟨rfl,h2,-⟩:=lO hq
 rcases bK.1 hab with h|h
 ·exact h
 ·rw [h.1] at h1;rw [h1] at h2;cases h2;omega
theorem vG {l:List ay} (hl:fJ l) (m:Nat) (k:Bs):aR (pX l m) k=dB (fS l k m):=by
 cases hv:fS l k m with
 | none=>
  refine mz fun p hp hk=>?_
  obtain ⟨e,he,hs⟩:=List.mem_filterMap.1 hp
  obtain ⟨rfl,h1,-⟩:=lO hs
  dsimp only at hk
  rw [hk,hv] at h1;cases h1
 | some e=>
  obtain ⟨a1,a2,a3⟩:=gd hv
  cases hd:e.del with
  | true=>
   simp only [dB,hd,if_true]
   refine mz fun p hp hk=>?_
   obtain ⟨x,hx,hs⟩:=List.mem_filterMap.1 hp
   obtain ⟨rfl,h1,h2⟩:=lO hs
   dsimp only at hk
   rw [hk,hv] at h1;cases h1;rw [hd] at h2;cases h2
  | false=>
   simp only [dB,hd,Bool.false_eq_true,if_false]
   have:(e.key,e.val)∈pX l m:=List.mem_filterMap.2 ⟨e,a1,by
    unfold shown;rw [a2,if_pos hv,hd];simp⟩
   have h2:=EV (r8 hl m) this
   rw [a2] at h2;exact h2
structure Sc where
 out:List (Bs×Bs)
 last:Bs
 any:Bool
def lP (hi:Bs) (limit:Int) (seq:Nat) (s:Sc) (e:ay):Sc×Bool:=
 if (hi≠[]∧aQ e.key hi=false)∨(0<limit∧(s.out.length:Int)=limit) then (s,false) else
 if seq<e.seq∨(s.any=true∧e.key=s.last) then (s,true) else
 (⟨if e.del=true then s.out else s.out++[(e.key,e.val)],e.key,true⟩,true)
def nA {σ:Type} (body:σ→ay→σ×Bool):List ay→σ→σ
 | [],s=>s
 | e::r,s=>if (body s e).2=true then nA body r (body s e).1 else (body s e).1
structure MQ (seq:Nat) (l p:List ay) (s:Sc):Prop where
 out:s.out=p.filterMap (shown l seq)
 last:s.any=true→∃ z∈p,z.key=s.last∧z.seq≤seq∧∀ x∈p,x.seq≤seq→less z x=false∨x.key=z.key
 any:s.any=false→∀ x∈p,seq<x.seq
theorem rf {hi:Bs} {limit:Int} {seq:Nat} {l:List ay} (hs:fJ l):∀ (r p:List ay) (s:Sc),l=p++r→MQ seq l p s→(0<limit→(s.out.length:Int)≤limit)→(∀ x∈s.out,kV hi x.1=true) →
 (nA (lP hi limit seq) r s).out=xV limit ((l.filterMap (shown l seq)).filter fun p=>kV hi p.1)
 | [],p,s,hl,h,hlim,hhi=>by
  simp at hl;subst hl
  show s.out=_
  rw [← h.out,List.filter_eq_self.2 hhi]
  unfold xV
  split
  ·rename_i h0
   rw [List.take_of_length_le]
   have:=hlim h0;omega
  ·rfl
 | e::r,p,s,hl,h,hlim,hhi=>by
  have hrest:l.filterMap (shown l seq)=s.out++(e::r).filterMap (shown l seq):=by
   rw [h.out,← List.filterMap_append,← hl]
  obtain ⟨s1,s2,s3⟩:=gH (hl▸hs)
  unfold nA lP
  by_cases hb:(hi≠[]∧aQ e.key hi=false)∨(0<limit∧(s.out.length:Int)=limit)
  ·rw [if_pos hb]
   simp only [Bool.false_eq_true,if_false]
   rw [hrest,List.filter_append,List.filter_eq_self.2 hhi]
   rcases hb with ⟨hb1,hb2⟩|⟨hb1,hb2⟩
   ·have:((e::r).filterMap (shown l seq)).filter (fun p=>kV hi p.1)=[]:=by
     rw [List.filter_eq_nil_iff]
     intro q hq
     obtain ⟨x,hx,hsx⟩:=List.mem_filterMap.1 hq
     obtain ⟨rfl,-,-⟩:=lO hsx
     have hxe:aQ x.key hi=false:=by
      rcases List.mem_cons.1 hx with rfl|hx
      ·exact hb2
      ·rcases bK.1 ((List.pairwise_cons.1 s2).1 x hx) with h1|h1
       ·exact re hb2 (cw h1)
       ·rw [← h1.1];exact hb2
     simp [kV,hb1,hxe]
    rw [this,List.append_nil]
    unfold xV
    split
    ·rename_i h0
     rw [List.take_of_length_le]
     have:=hlim h0;omega
    ·rfl
   ·unfold xV
    rw [if_pos hb1,List.take_left' (by omega)]
  ·rw [if_neg hb]
   have hin:kV hi e.key=true:=by
    unfold kV
    by_cases hh:hi=[]
    ·simp [hh]
    ·cases hx:aQ e.key hi with
     | true=>simp
     | false=>exact absurd (.inl ⟨hh,hx⟩) hb
   have hlt:0<limit→(s.out.length:Int)<limit:=fun h0=>by
    have:=hlim h0
    have h2:¬ (s.out.length:Int)=limit:=fun h3=>hb (.inr ⟨h0,h3⟩)
    omega
   have hvis:fS l e.key seq=some e↔e.seq≤seq∧∀ x∈p,x.key=e.key→seq<x.seq:=by
    rw [hl,oq]
    have hcons:fS (e::r) e.key seq=if e.seq≤seq then some e else fS r e.key seq:=by
     unfold fS;rw [List.find?_cons];by_cases h:e.seq≤seq<;>simp [h]
    rw [hcons]
    constructor
    ·intro hh
     cases hv:fS p e.key seq with
     | some x=>
      rw [hv] at hh;simp at hh;subst hh
      have:=s3 x (gd hv).1 x (by simp)
      rw [jK] at this;cases this
     | none=>
      rw [hv] at hh
      simp only [Option.none_or] at hh
      refine ⟨?_,dy.1 hv⟩
      by_cases hle:e.seq≤seq
      ·exact hle
      ·rw [if_neg hle] at hh;exact (gd hh).2.2
    ·rintro ⟨h1,h2⟩
     rw [dy.2 h2,if_pos h1];rfl
   by_cases hsk:seq<e.seq∨(s.any=true∧e.key=s.last)
   ·rw [if_pos hsk]
    simp only [if_true]
    have hnot:shown l seq e=none:=by
     unfold shown
     rw [if_neg]
     rw [hvis]
     rintro ⟨h1,h2⟩
     rcases hsk with h3|⟨h3,h4⟩
     ·omega
     ·obtain ⟨z,hz,z1,z2,-⟩:=h.last h3
      have:=h2 z hz (z1.trans h4.symm)
      omega
    refine rf hs r (p++[e]) s (by rw [hl];simp) ⟨?_,fun ha=>?_,fun ha x hx=>?_⟩ hlim hhi
    ·rw [List.filterMap_append,h.out];simp [hnot]
    ·obtain ⟨z,hz,z1,z2,z3⟩:=h.last ha
     refine ⟨z,List.mem_append_left _ hz,z1,z2,fun x hx hxs=>?_⟩
     rcases List.mem_append.1 hx with hx|hx
     ·exact z3 x hx hxs
     ·simp at hx;subst hx
      rcases hsk with h3|⟨_,h4⟩
      ·omega
      ·exact .inr (h4.trans z1.symm)
    ·rcases List.mem_append.1 hx with hx|hx
     ·exact h.any ha x hx
     ·simp at hx;subst hx
      rcases hsk with h3|⟨h3,_⟩
      ·exact h3
      ·rw [ha] at h3;cases h3
   ·rw [if_neg hsk]
    simp only [if_true]
    have hle:e.seq≤seq:=by omega
    have hv:fS l e.key seq=some e:=hvis.2 ⟨hle,fun x hx hk=>by
     rcases Nat.lt_or_ge seq x.seq with h1|h1
     ·exact h1
     ·cases ha:s.any with
      | false=>exact h.any ha x hx
      | true=>
       obtain ⟨z,hz,z1,z2,z3⟩:=h.last ha
       have hne:¬ e.key=s.last:=fun h3=>hsk (.inr ⟨ha,h3⟩)
       rcases z3 x hx h1 with h2|h2
       ·
        have h4:=s3 z hz e (by simp)
        exfalso
        rcases bK.1 h4 with h4|h4
        ·rw [← hk] at h4
         rw [bK.2 (.inl h4)] at h2;cases h2
        ·exact hne (h4.1.symm.trans z1)
       ·exact absurd (hk.symm.trans (h2.trans z1)) hne⟩
    have hsh:shown l seq e=if e.del=true then none else some (e.key,e.val):=by unfold shown;rw [if_pos hv]
    refine rf hs r (p++[e]) _ (by rw [hl];simp) ⟨?_,fun _=>?_,fun ha=>by cases ha⟩ ?_ ?_
    ·rw [List.filterMap_append,← h.out]
     cases hd:e.del<;>simp [hsh,hd]
    ·refine ⟨e,by simp,rfl,hle,fun x hx _=>?_⟩
     rcases List.mem_append.1 hx with hx|hx
     ·exact .inl (BH (s3 x hx e (by simp)))
     ·simp at hx;subst hx;exact .inr rfl
    ·intro h0
     have:=hlt h0
     cases hd:e.del<;>simp<;>omega
    ·intro x hx
     cases hd:e.del with
     | true=>rw [hd] at hx;simp at hx;exact hhi x hx
     | false=>
      rw [hd] at hx;simp at hx
      rcases hx with hx|rfl
      ·exact hhi x hx
      ·exact hin
def Gr:Sc:=⟨[],[],false⟩
theorem JQ {lo hi:Bs} {limit:Int} {seq:Nat} {l:List ay} {ps:List (Bs×Bs)} (hs:fJ l) (hlo:∀ e∈l,kW lo e.key=true) (hp:kU ps)
 (h:∀ k,kW lo k=true→dB (fS l k seq)=aR ps k):(nA (lP hi limit seq) l Gr).out=dJ ps lo hi limit:=by
 rw [rf hs l [] Gr rfl ⟨rfl,fun h=>(by cases h),fun _ x hx=>(by cases hx)⟩ (fun h0=>by show ((0:Nat):Int)≤limit;omega) (fun x hx=>by cases hx)]
 unfold dJ
 congr 1
 have e1:l.filterMap (shown l seq)=ps.filter fun p=>kW lo p.1:=by
  refine we (r8 hs seq) (hp.filter _) fun k=>?_
  show aR (pX l seq) k=_
  rw [vG hs,mA]
  by_cases hk:kW lo k=true
  ·rw [if_pos hk,h k hk]
  ·rw [if_neg hk]
   have:fS l k seq=none:=dy.2 fun e he hek=>absurd (hek▸hlo e he) hk
   rw [this];rfl
 rw [e1,List.filter_filter]
 congr 1
 funext p
 rw [Bool.and_comm]
def eW (ls:List (List ay)) (k:Bs) (m:Nat):Option ay:=ls.findSome? fun l=>fS l k m
abbrev MR (a b:List ay):Prop:=∀ x∈a,∀ y∈b,x.key=y.key→y.seq<x.seq
abbrev Ord (ls:List (List ay)):Prop:=ls.Pairwise MR
theorem bx (l:List ay) (ls:List (List ay)) (k:Bs) (m:Nat):eW (l::ls) k m=(fS l k m).or (eW ls k m):=by
 unfold eW;rw [List.findSome?_cons];cases fS l k m<;>rfl
theorem jL (a b:List (List ay)) (k:Bs) (m:Nat):eW (a++b) k m=(eW a k m).or (eW b k m):=by
 unfold eW;rw [List.findSome?_append]
theorem EX {ls:List (List ay)} {k:Bs} {m:Nat}:eW ls k m=none↔∀ l∈ls,∀ e∈l,e.key=k→m<e.seq:=by
 unfold eW
 rw [List.findSome?_eq_none_iff]
 constructor
 ·intro h l hl;exact dy.1 (h l hl)
 ·intro h l hl;exact dy.2 (h l hl)
theorem EY {ls:List (List ay)} {k:Bs} {m:Nat} {e:ay} (h:eW ls k m=some e):∃ l∈ls,fS l k m=some e:=by
 unfold eW at h
 obtain ⟨l,hl,hv⟩:=List.exists_of_findSome?_eq_some h
 exact ⟨l,hl,hv⟩
theorem Hf {ls:List (List ay)} (hs:∀ l∈ls,fJ l) (ho:Ord ls) {k:Bs} {m:Nat} {e:ay} (h:eW ls k m=some e):∀ l∈ls,∀ x∈l,x.key=k→x.seq≤m→x.seq≤e.seq:=by
 induction ls with
 | nil=>intro l hl;cases hl
 | cons a r ih=>
  obtain ⟨o1,o2⟩:=List.pairwise_cons.1 ho
  rw [bx] at h
  intro l hl x hx hk hm
  cases hv:fS a k m with
  | some z=>
   rw [hv] at h;simp at h;subst h
   rcases List.mem_cons.1 hl with rfl|hl
   ·exact oo (hs _ List.mem_cons_self) hv x hx hk hm
   ·have:=o1 l hl z (gd hv).1 x hx ((gd hv).2.1.trans hk.symm);omega
  | none=>
   rw [hv] at h;simp only [Option.none_or] at h
   rcases List.mem_cons.1 hl with rfl|hl
   ·have:=dy.1 hv x hx hk;omega
   ·exact ih (fun l hl=>hs l (List.mem_cons_of_mem _ hl)) o2 h l hl x hx hk hm
theorem BI {ls:List (List ay)} {L:List ay} (hs:∀ l∈ls,fJ l) (ho:Ord ls) (hL:fJ L) (hm:∀ e,e∈L↔∃ l∈ls,e∈l) (k:Bs) (m:Nat):fS L k m=eW ls k m:=by
 cases hv:eW ls k m with
 | none=>
  exact dy.2 fun x hx hk=>by
   obtain ⟨l,hl,hxl⟩:=(hm x).1 hx
   exact EX.1 hv l hl x hxl hk
 | some e=>
  obtain ⟨l,hl,h1⟩:=EY hv
  obtain ⟨a1,a2,a3⟩:=gd h1
  refine tJ hL ((hm e).2 ⟨l,hl,a1⟩) a2 a3 fun x hx hk hxm=>?_
  obtain ⟨l',hl',hxl⟩:=(hm x).1 hx
  exact Hf hs ho hv l' hl' x hxl hk hxm
theorem BJ (l:List ay) (f:Bs→Bool) (k:Bs) (m:Nat):fS (l.filter fun e=>f e.key) k m=if f k=true then fS l k m else none:=by
 induction l with
 | nil=>simp [fS]
 | cons e r ih=>
  unfold fS at *
  rw [List.filter_cons,List.find?_cons]
  by_cases hk:e.key=k
  ·subst hk
   by_cases hf:f e.key=true
   ·rw [if_pos hf,List.find?_cons,ih]
    simp [hf]
   ·rw [if_neg hf,ih];simp [hf]
  ·by_cases hf:f e.key=true
   ·rw [if_pos hf,List.find?_cons,ih];simp [hk]
   ·rw [if_neg hf,ih];simp [hk]
def iS (k v:Bs):Bool→List (Bs×Bs)→List (Bs×Bs)
 | put,[]=>if put=true then [] else [(k,v)]
 | put,p::r=>(if put=false∧aQ p.1 k=false then [(k,v)] else [])++((if p.1≠k then [p] else [])++iS k v (put||!aQ p.1 k) r)
theorem wh (k v:Bs):∀ l:List (Bs×Bs),iS k v true l=l.filter fun p=>decide (p.1≠k)
 | []=>rfl
 | p::r=>by
  unfold iS
  rw [List.filter_cons]
  simp only [Bool.true_or,wh k v r]
  by_cases h:p.1=k<;>simp [h]
theorem xW (k v:Bs) (del:Bool):∀ {l:List (Bs×Bs)},kU l→iS k v del l=sM l k v del
 | [],_=>by cases del<;>simp [iS,sM]
 | p::r,hl=>by
  obtain ⟨p1,p2⟩:=List.pairwise_cons.1 hl
  have ih:=xW k v del p2
  unfold iS
  cases hb:aQ p.1 k with
  | true=>
   have hne:=jB hb
   have has:=cw hb
   simp only [Bool.true_eq_false,and_false,if_false,List.nil_append,ne_eq,hne,not_false_eq_true,if_true,Bool.not_true,Bool.or_false,ih]
   unfold sM
   rw [List.filter_cons,List.filter_cons,hb,has]
   simp
  | false=>
   have hall:∀ q∈r,aQ k q.1=true:=fun q hq=>by
    have:=p1 q hq
    exact oI hb this
   have hf1:r.filter (fun q=>aQ q.1 k)=[]:=by
    rw [List.filter_eq_nil_iff];intro q hq;rw [cw (hall q hq)];simp
   have hf2:r.filter (fun q=>aQ k q.1)=r:=List.filter_eq_self.2 hall
   have hf3:r.filter (fun q=>decide (q.1≠k))=r:=List.filter_eq_self.2 fun q hq=>by
    simpa using Ne.symm (jB (hall q hq))
   simp only [Bool.not_false,Bool.or_true,wh,hf3,and_true]
   unfold sM
   rw [List.filter_cons,List.filter_cons,hb,hf1,hf2]
   rcases eh p.1 k with h|h|h
   ·rw [hb] at h;cases h
   ·subst h
    rw [aM]
    cases del<;>simp
   ·rw [h]
    have hne:=Ne.symm (jB h)
    cases del<;>simp [hne]
structure bX where
 key:Bs
 val:Bs
 del:Bool
deriving DecidableEq
def pY (l:List (Bs×Bs)) (b:List bX):List (Bs×Bs):=b.foldl (fun l c=>sM l c.key c.val c.del) l
theorem xX:∀ (b:List bX) {l:List (Bs×Bs)},kU l→kU (pY l b)
 | [],_,h=>h
 | c::b,_,h=>xX b (zs h c.key c.val c.del)
def gC (c:bX) (q:Nat):ay:=⟨c.key,c.val,c.del,q⟩
def aZ:Nat→List bX→List ay
 | _,[]=>[]
 | q,c::r=>gC c (q+1)::aZ (q+1) r
theorem o6:∀ (b:List bX) (q:Nat) (e:ay),e∈aZ q b→q<e.seq∧e.seq≤q+b.length
 | [],_,e,h=>by cases h
 | c::r,q,e,h=>by
  rcases List.mem_cons.1 h with rfl|h
  ·simp [gC]
  ·have:=o6 r (q+1) e h
   simp;omega
@[simp] theorem dH:∀ (b:List bX) (q:Nat),(aZ q b).length=b.length
 | [],_=>rfl
 | c::r,q=>by simp [aZ,dH r]
theorem Ds {l:List ay} {e:ay} (hl:fJ l) (hn:∀ x∈l,x.seq<e.seq) (k:Bs) (m:Nat):fS (dG l e) k m=if e.key=k∧e.seq≤m then some e else fS l k m:=by
 have hs:=nz (e:=e) hl fun x hx h=>by have:=hn x hx;omega
 by_cases h:e.key=k∧e.seq≤m
 ·rw [if_pos h]
  refine tJ hs (iQ.2 (.inl rfl)) h.1 h.2 fun x hx _ _=>?_
  rcases iQ.1 hx with rfl|hx
  ·exact Nat.le_refl _
  ·exact Nat.le_of_lt (hn x hx)
 ·rw [if_neg h]
  cases hv:fS l k m with
  | none=>
   exact dy.2 fun x hx hk=>by
    rcases iQ.1 hx with rfl|hx
    ·simpa [hk] using h
    ·exact dy.1 hv x hx hk
  | some z=>
   obtain ⟨a1,a2,a3⟩:=gd hv
   refine tJ hs (iQ.2 (.inr a1)) a2 a3 fun x hx hk hm=>?_
   rcases iQ.1 hx with rfl|hx
   ·exact absurd ⟨hk,hm⟩ h
   ·exact oo hl hv x hx hk hm
theorem tM:∀ (b:List bX) {q:Nat} {l:List ay},fJ l→(∀ x∈l,x.seq≤q)→fJ ((aZ q b).foldl dG l)
 | [],_,_,h,_=>h
 | c::r,q,l,h,hq=>tM r (nz h fun x hx hh=>by have:=hq x hx;simp [gC] at hh;omega) fun x hx=>by
  rcases iQ.1 hx with rfl|hx
  ·exact Nat.le_refl _
  ·have:=hq x hx;omega
theorem pZ:∀ (b:List ay) {l:List ay} {x:ay},x∈b.foldl dG l↔x∈b∨x∈l
 | [],_,_=>by simp
 | c::r,l,x=>by
  rw [List.foldl_cons,pZ r,iQ,List.mem_cons]
  constructor
  ·rintro (h|h|h)
   ·exact .inl (.inr h)
   ·exact .inl (.inl h)
   ·exact .inr h
  ·rintro ((h|h)|h)
   ·exact .inr (.inl h)
   ·exact .inl h
   ·exact .inr (.inr h)
@[simp] theorem k8:∀ (b:List ay) (l:List ay),(b.foldl dG l).length=l.length+b.length
 | [],_=>rfl
 | c::r,l=>by rw [List.foldl_cons,k8 r,kZ,List.length_cons];omega
theorem p7:∀ (b:List bX) {q:Nat} {l:List ay} (k:Bs) (m:Nat),fJ l→(∀ x∈l,x.seq≤q)→m≤q→fS ((aZ q b).foldl dG l) k m=fS l k m
 | [],_,_,_,_,_,_,_=>rfl
 | c::r,q,l,k,m,h,hq,hm=>by
  have hs:=nz (e:=gC c (q+1)) h fun x hx hh=>by have:=hq x hx;simp [gC] at hh;omega
  rw [aZ,List.foldl_cons,p7 r k m hs (fun x hx=>by
   rcases iQ.1 hx with rfl|hx
   ·exact Nat.le_refl _
   ·have:=hq x hx;omega) (by omega),Ds h (fun x hx=>by have:=hq x hx;simp [gC];omega)]
  rw [if_neg (by simp [gC];omega)]
theorem mB:∀ (b:List bX) {q:Nat} {l:List ay} (k:Bs) (m:Nat) (ps:List (Bs×Bs)) (below:Option ay),fJ l→(∀ x∈l,x.seq≤q)→q+b.length≤m →
 dB ((fS l k m).or below)=aR ps k→dB ((fS ((aZ q b).foldl dG l) k m).or below)=aR (pY ps b) k
 | [],_,_,_,_,_,_,_,_,_,h=>h
 | c::r,q,l,k,m,ps,below,h,hq,hm,hv=>by
  have hs:=nz (e:=gC c (q+1)) h fun x hx hh=>by have:=hq x hx;simp [gC] at hh;omega
  rw [aZ,List.foldl_cons]
  simp only [List.length_cons] at hm
  refine mB r k m (sM ps c.key c.val c.del) below hs (fun x hx=>by
   rcases iQ.1 hx with rfl|hx
   ·exact Nat.le_refl _
   ·have:=hq x hx;omega) (by omega) ?_
  rw [Ds h (fun x hx=>by have:=hq x hx;simp [gC];omega),EW]
  by_cases hk:k=c.key
  ·subst hk
   rw [if_pos ⟨rfl,by simp [gC];omega⟩,if_pos rfl]
   simp [dB,gC]
  ·rw [if_neg (by simp [gC];intro h;exact absurd h.symm hk),if_neg hk]
   exact hv
end Go.Proofs.YtecibefflhomdaaGreatDoor.Pure
namespace Go.Proofs.YtecibefflhomdaaGreatDoor
open Go
section
open Go.Proofs.YtecibefflhomdaaGreatDoor.Pure (ad ax bZ ew fu cL iO dI jj jk df cu)
def bg (D:ad) (n:Bs):Option (Option Bs×Nat):=if D.dT=true then some (some n,8) else match ax D.now n with|none=>some (some n,10)|some _=>none
abbrev cy:=Option Bs×Nat
def gI (D:ad) (n:Bs) (f:Nat→ad):ad:=match bg D n with
 | some _=>D.tick
 | none=>match ax D.now n with
  | some i=>f i
  | none=>D.tick
def mC (D:ad) (i:Nat):Nat:=match ax D.nodes i with|some x=>x.2|none=>0
def dK (D:ad) (n bs:Bs):Option cy:=match bg D n with
 | some e=>some e
 | none=>if (bs.length:Int) > D.room-D.used then some (some n,9) else none
def bR (D:ad) (n bs:Bs):ad:=match dK D n bs with
 | some _=>D.tick
 | none=>match ax D.now n with
  | some i=>D.tick.laid i (D.aE i++bs,mC D i)
  | none=>D.tick
def dV (bs:Bs) (at_ n:Int):Bs:=(bs.drop (min (max at_ 0) bs.length).toNat).take (min (max n 0) (bs.length-min (max at_ 0) bs.length)).toNat
def counted (D:ad) (n:Int):ad:={ D with reads:=IntKind.i64.wrap (D.reads+1),most:=max D.most n }
def eX (D:ad):ad:=if D.dT=true then D.tick else D.tick.synced
def dp (room:Int):ad:=⟨[],[],[],[],room,0,0,0,0⟩
def fresh (D:ad):Nat:=(D.nodes.map (·.1)).foldl max 0+1
theorem p8:∀ (l:List Nat) (m:Nat),m≤l.foldl max m∧∀ x∈l,x≤l.foldl max m
 | [],m=>⟨Nat.le_refl _,by simp⟩
 | y::l,m=>by
  obtain ⟨h1,h2⟩:=p8 l (max m y)
  refine ⟨Nat.le_trans (Nat.le_max_left m y) h1,fun x hx=>?_⟩
  rcases List.mem_cons.1 hx with rfl|hx
  ·exact Nat.le_trans (Nat.le_max_right m x) h1
  ·exact h2 x hx
theorem tN (D:ad):ax D.nodes (fresh D)=none:=by
 rw [cu]
 intro h
 have:=(p8 (D.nodes.map (·.1)) 0).2 _ h
 unfold fresh at this
 omega
def fY (D:ad) (n:Bs):Option cy:=if D.dT=true then some (some n,8) else if (ax D.now n).isSome=true then some (some n,11) else none
def cN (D:ad) (n:Bs):ad:=if D.dT=true then D.tick else if (ax D.now n).isSome=true then D.tick else D.tick.created n (fresh D.tick)
def fileOf (D:ad) (n:Bs):Bs:=match ax D.now n with|some i=>D.aE i|none=>[]
def jM (D:ad) (n:Bs):Nat:=match bg D n with|some _=>0|none=>(fileOf D n).length
def dU (D:ad) (n:Bs):ad:=gI D n fun i=>D.tick.laid i (D.aE i,(D.aE i).length)
def fe (D:ad) (n:Bs):ad:=gI D n fun _=>D.tick.fC n
def fD (D:ad) (n m:Bs):ad:=gI D n fun i=>if n=m then D.tick else D.tick.renamed n m i
def ix (D:ad) (nm:Bs) (at_ n:Int):Bs:=match bg D nm with
 | some _=>[]
 | none=>dV (fileOf D nm) at_ n
end
section
open Go.Proofs.YtecibefflhomdaaGreatDoor.Pure (ad ax bZ ew fu)
attribute [local irreducible] IntKind.wrap
abbrev au (i:Nat):Value:=.pointer (some ⟨i,0,none⟩)
def di (p:Nat×(Bs×Nat)):ah:=fun h=>∃ v,cR [blk p.1 116 [v,.int .i64 (p.2.2:Int)],cg v p.2.1] h
def tO (p:Bs×Option Nat):List Value:=[str p.1,.pointer (p.2.map fun i=>⟨i,0,none⟩)]
def yW (v:Value) (m:List (Bs×Option Nat)):ah:=fun h=>∃ b c,v=.slice (some ⟨b,0,none⟩) m.length c∧h b=some (true,.cells (m.map tO).flatten.toArray 216 (0,0))
def ei (v:Value) (ms:List (List (Bs×Option Nat))):ah:=fun h=>∃ vs,vs.length=ms.length∧cR [aI 1 v 143 ms.length vs,star (List.zipWith yW vs ms)] h
def aJ (l:List (Bs×Nat)):List (Bs×Value):=l.map fun p=>(p.1,au p.2)
structure DV where
 bn:Nat
 bs:Nat
 mv:Value
abbrev aU (z:DV) (D:ad):List Value:=[.map (some z.bn),.map (some z.bs),z.mv,.int .i64 D.room,.int .i64 D.wait,.int .i64 D.bad,.int .i64 D.reads,.int .i64 D.most]
abbrev fB (d:Nat) (z:DV) (D:ad):List ah:=[blk d 111 (aU z D),aO bP z.bn (aJ D.now),aO bP z.bs (aJ D.safe),ei z.mv D.moves,star (D.nodes.map di)]
def dL (d:Nat) (D:ad):ah:=fun h=>D.Ok∧∃ z,cR (fB d z D) h
def aL (v:Value):Option (Option Bs×Nat)→ah
 | none=>fun _=>v=.nilIface
 | some (none,k)=>fun _=>v=.iface 44 (.int .i64 (k:Int))
 | some (some s,k)=>fun h=>∃ b,v=.iface 249 (.pointer (some ⟨b,0,none⟩))∧h b=some (true,.cells [str s,.int .i64 (k:Int)].toArray 251 (0,0))
variable {W0 w:World} {F l:List ah} {v:Value} {d:Nat} {D:ad}
theorem Sat.eL (h:Sat W0 (dL d D::F) w):D.Ok∧∃ z,Sat W0 (fB d z D++F) w:=by
 have h1:D.Ok:=h.fT fun _ k=>k.1
 obtain ⟨z,_,hs⟩:=h.fg (φ:=fun _:DV=>True) (B:=fun z=>fB d z D) fun hp ⟨_,z,k⟩=>⟨z,trivial,k⟩
 exact ⟨h1,z,hs⟩
theorem Sat.cz {z:DV} (hok:D.Ok) (h:Sat W0 (fB d z D++F) w):Sat W0 (dL d D::F) w:=Sat.close h fun hp k=>⟨hok,z,k⟩
theorem k9:∀ (l:List (Bs×Nat)) (n:Bs),ax (aJ l) n=(ax l n).map au
 | [],_=>rfl
 | (k,i)::r,n=>by
  unfold aJ
  simp only [List.map_cons,ax]
  by_cases h:n=k
  ·simp [h]
  ·simp only [h,if_false];exact k9 r n
theorem Sat.o7 {s:Bs} {k b:Nat} (h:Sat W0 (blk b 251 [str s,.int .i64 (k:Int)]::F) w):Sat W0 (aL (.iface 249 (.pointer (some ⟨b,0,none⟩))) (some (some s,k))::F) w:=h.share.head fun hp k=>⟨b,rfl,k⟩
theorem Sat.dW (h:Sat W0 F w):Sat W0 (aL .nilIface none::F) w:=h.imp fun hp r=>⟨fun _=>none,hp,fun _ _ _ hx=>(by cases hx),fun _ _ hx=>(by cases hx),Hp.le_refl _,rfl,r⟩
theorem o8 (hs:Sat W0 (dL d D::F) w) :
 Calls Tryz.prog 141 #[au d] w fun x w'=>x=.returned (.bool D.dT)∧Sat W0 (dL d D.tick::F) w':=by
 obtain ⟨hok,z,hs⟩:=hs.eL
 have hok':=hok.tick
 have:=hok.wait1
 have:=hok.bad1
 dsimp only [fB,aU,List.cons_append,List.nil_append] at hs
 refine enter Tryz.func141 rfl Tryz.ntmps141 Tryz.results141 rfl ?_
 by_cases h1:D.wait > 0
 ·have e1:D.dT=false:=by simp [ad.dT];omega
  have e2:D.tick={ D with wait:=D.wait-1 }:=by unfold ad.tick;rw [if_pos h1]
  rw [e1];rw [e2] at hok' ⊢
  refine go ?_
  refine bI hs fun w hs=>?_
  refine go ?_
  exact ak rfl ⟨rfl,Sat.cz (z:=z) hok' hs⟩
 ·by_cases h2:D.bad > 0
  ·have e1:D.dT=true:=by simp [ad.dT];omega
   have e2:D.tick={ D with bad:=D.bad-1 }:=by unfold ad.tick;rw [if_neg h1,if_pos h2]
   rw [e1];rw [e2] at hok' ⊢
   refine go ?_
   refine bI hs fun w hs=>?_
   refine go ?_
   exact ak rfl ⟨rfl,Sat.cz (z:=z) hok' hs⟩
  ·have e1:D.dT=false:=by simp [ad.dT];omega
   have e2:D.tick=D:=by unfold ad.tick;rw [if_neg h1,if_neg h2]
   rw [e1,e2]
   refine go ?_
   exact ak rfl ⟨rfl,Sat.cz (z:=z) hok hs⟩
def nB (D:ad) (n:Bs):Value:=.pointer (if D.dT=true then none else (ax D.now n).map fun i=>⟨i,0,none⟩)
theorem find_spec {n:Bs} (hs:Sat W0 (dL d D::F) w) :
 Calls Tryz.prog 139 #[au d,str n] w fun x w'=>∃ ve,x=.returned (.tuple #[nB D n,ve])∧Sat W0 (dL d D.tick::aL ve (bg D n)::F) w':=by
 obtain ⟨hok,z,hs⟩:=hs.eL
 refine enter Tryz.func139 rfl Tryz.ntmps139 Tryz.results139 rfl ?_
 dsimp only [fB,aU,List.cons_append,List.nil_append] at hs
 refine go ?_
 refine lL bP (k:=n) hs (.there .here) rfl rfl rfl sV rfl ?_
 rw [k9]
 refine go ?_
 refine ae (met (o8 (Sat.cz (z:=z) hok hs)) ?_)
 rintro _ w ⟨rfl,hs⟩
 refine ⟨_,rfl,?_⟩
 cases ht:D.dT with
 | true=>
  have e1:bg D n=some (some n,8):=by simp [bg,ht]
  have e2:nB D n=.pointer none:=by simp [nB,ht]
  rw [e1,e2]
  refine go ?_
  refine bw [str n,.int .i64 8] ?_
  refine cC hs fun w b hs=>?_
  refine go ?_
  exact ak rfl ⟨_,rfl,hs.o7.to⟩
 | false=>
  cases hg:ax D.now n with
  | none=>
   have e1:bg D n=some (some n,10):=by simp [bg,ht,hg]
   have e2:nB D n=.pointer none:=by simp [nB,ht,hg]
   rw [e1,e2]
   refine go ?_
   refine bw [str n,.int .i64 10] ?_
   refine cC hs fun w b hs=>?_
   refine go ?_
   exact ak rfl ⟨_,rfl,hs.o7.to⟩
  | some i=>
   have e1:bg D n=none:=by simp [bg,ht,hg]
   have e2:nB D n=au i:=by simp [nB,ht,hg]
   rw [e1,e2]
   refine go ?_
   exact ak rfl ⟨_,rfl,hs.dW.to⟩
end
section
open Go.Proofs.YtecibefflhomdaaGreatDoor.Pure (ad ax bZ ew fu)
attribute [local irreducible] IntKind.wrap
variable {W0 w:World} {F l:List ah} {v:Value} {d:Nat} {D:ad}
theorem jr:∀ (l:List (Bs×Nat)) (n:Bs) (i:Nat),aJ (bZ l n i)=bZ (aJ l) n (au i)
 | [],_,_=>rfl
 | (k,j)::r,n,i=>by
  simp only [aJ,List.map_cons,bZ]
  by_cases h:n=k
  ·simp [h]
  ·simp only [h,if_false,List.map_cons];rw [← aJ,jr r n i];rfl
theorem tP:∀ (l:List (Bs×Nat)) (n:Bs),aJ (ew l n)=ew (aJ l) n
 | [],_=>rfl
 | (k,j)::r,n=>by
  simp only [aJ,List.map_cons,ew]
  by_cases h:n=k
  ·simp [h]
  ·simp only [h,if_false,List.map_cons];rw [← aJ,tP r n];rfl
theorem Hg {k:Nat}:∀ (xs:List (List Value)) (i:Nat) (x:List Value),(∀ y∈xs,y.length=k)→xs[i]?=some x→fX xs.flatten (i*k) x:=by
 have shift:∀ (pre cs vs:List Value) (o:Nat),fX cs o vs→fX (pre++cs) (pre.length+o) vs:=by
  intro pre cs vs
  induction vs with
  | nil=>intro o _;trivial
  | cons u r ih=>intro o ⟨h,hr⟩;exact ⟨by rw [List.getElem?_append_right (by omega),Nat.add_sub_cancel_left];exact h,by rw [Nat.add_assoc];exact ih _ hr⟩
 have pre:∀ (vs cs:List Value),fX (vs++cs) 0 vs:=by
  have key:∀ (vs pre cs:List Value),fX (pre++(vs++cs)) pre.length vs:=by
   intro vs
   induction vs with
   | nil=>intro _ _;trivial
   | cons v r ih=>intro p cs;exact ⟨by simp,by have:=ih (p++[v]) cs;simpa using this⟩
  exact fun vs cs=>key vs [] cs
 intro xs
 induction xs with
 | nil=>intro i x _ h;simp at h
 | cons y ys ih=>
  intro i x hl h
  cases i with
  | zero=>simp at h;subst h;rw [Nat.zero_mul,List.flatten_cons];exact pre _ _
  | succ i=>
   simp at h
   have:=shift y ys.flatten x (i*k) (ih i x (fun z hz=>hl z (List.mem_cons_of_mem _ hz)) h)
   rw [hl y List.mem_cons_self] at this
   rw [List.flatten_cons,Nat.succ_mul,Nat.add_comm];exact this
theorem EZ (m:List (Bs×Nat)) (mvs:List (Bs×Option Nat)) (i:Nat) (p:Bs×Option Nat) (h:mvs[i]?=some p) :
 fu m (mvs.take (i+1))=match p.2 with|none=>ew (fu m (mvs.take i)) p.1|some j=>bZ (fu m (mvs.take i)) p.1 j:=by
 have hlt:=(List.getElem?_eq_some_iff.1 h).1
 have he:=(List.getElem?_eq_some_iff.1 h).2
 rw [List.take_succ_eq_append_getElem hlt,he]
 obtain ⟨a,o⟩:=p
 cases o<;>simp [fu,List.foldl_append]
theorem zt {m:Nat} {kvs:List (Bs×Nat)} {mvs:List (Bs×Option Nat)} (hs:Sat W0 (aO bP m (aJ kvs)::yW v mvs::F) w) (hl:mvs.length<1000) :
 Calls Tryz.prog 54 #[.map (some m),v] w fun x w'=>x=.returned (.tuple #[])∧Sat W0 (aO bP m (aJ (fu kvs mvs))::yW v mvs::F) w':=by
 obtain ⟨b,c,rfl⟩:∃ b c,v=.slice (some ⟨b,0,none⟩) mvs.length c:=(hs.take (.there .here)).fT fun _ ⟨b,c,h,_⟩=>⟨b,c,h⟩
 refine enter Tryz.func54 rfl Tryz.ntmps54 Tryz.results54 rfl ?_
 refine go ?_
 refine aK (α:=Nat) (fun i=>[(0,.map (some m)),(6,.slice (some ⟨b,0,none⟩) mvs.length c),(7,.int .i64 (mvs.length:Int)),(8,.int .i64 (i:Int))])
  (fun i w=>i≤mvs.length∧Sat W0 (aO bP m (aJ (fu kvs (mvs.take i)))::yW (.slice (some ⟨b,0,none⟩) mvs.length c) mvs::F) w) (fun i=>mvs.length-i) 0 ⟨rfl,rfl,rfl,rfl,trivial⟩ ⟨Nat.zero_le _,hs⟩ ?_
 clear hs
 rintro i w ⟨hi,hs⟩
 by_cases hlt:i<mvs.length
 ·have hg:mvs[i]?=some mvs[i]:=List.getElem?_eq_getElem hlt
  have hst:=EZ kvs mvs i _ hg
  generalize mvs[i]=p at hg hst
  obtain ⟨⟨b',c'⟩,hv,hs2⟩:=(Sat.zj (B:=yW (.slice (some ⟨b,0,none⟩) mvs.length c) mvs) (hs.take (.there .here)) (fun h k=>by
   obtain ⟨b',c',h1,h2⟩:=k
   refine ⟨fun j=>if j=b' then some (true,.cells (mvs.map tO).flatten.toArray 216 (0,0)) else none,fun j x hx=>?_,fun j x hx=>?_,b',c',h1,by simp⟩
   ·by_cases hj:j=b'
    ·subst hj;simp at hx;subst hx;exact h2
    ·simp [hj] at hx
   ·by_cases hj:j=b'
    ·subst hj;simp at hx;subst hx;rfl
    ·simp [hj] at hx)).fg (α:=Nat×Nat) (φ:=fun z=>Value.slice (some ⟨b,0,none⟩) mvs.length c=.slice (some ⟨z.1,0,none⟩) mvs.length z.2) (B:=fun z=>[ob true z.1 (.cells (mvs.map tO).flatten.toArray 216 (0,0))]) fun hp ⟨b',c',h1,h2⟩=>
    ⟨(b',c'),h1,hp,fun _=>none,fun _ _ _ _ hy=>(by cases hy),Hp.le_refl _,fun _ _ hx=>(by cases hx),h2,trivial⟩
  obtain ⟨rfl,rfl⟩:b=b'∧c=c':=by simpa using hv
  dsimp only [List.cons_append,List.nil_append] at hs2
  have hseg:=Hg (k:=2) (mvs.map tO) i (tO p) (fun y hy=>by obtain ⟨q,_,rfl⟩:=List.mem_map.1 hy;rfl) (by simp [hg])
  refine go ?_
  refine cK (i:=i) rfl rfl rfl rfl rfl hlt rfl ?_
  refine dq (tO p) hs2 rfl rfl rfl .here (by simpa using hseg) rfl ?_
  refine aW hs fun w b5 hs=>?_
  refine cV (vs:=tO p) hs fun w hs=>?_
  obtain ⟨nm,o⟩:=p
  cases o with
  | none=>
   refine go ?_
   refine EO bP (k:=nm) hs (.there .here) rfl rfl rfl fun w hs=>?_
   refine go ?_
   refine aA (i+1) ⟨rfl,rfl,rfl,rfl,trivial⟩ ⟨hlt,?_⟩ (by omega)
   rw [hst,tP];exact hs.to
  | some j=>
   refine go ?_
   refine iP bP (k:=nm) hs (.there .here) rfl rfl rfl rfl fun w hs=>?_
   refine go ?_
   refine aA (i+1) ⟨rfl,rfl,rfl,rfl,trivial⟩ ⟨hlt,?_⟩ (by omega)
   rw [hst,jr];exact hs.to
 ·have:i=mvs.length:=by omega
  subst this
  rw [List.take_length] at hs
  refine go ?_
  exact gE rfl ⟨rfl,hs⟩
end
end Go.Proofs.YtecibefflhomdaaGreatDoor
