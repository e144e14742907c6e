/-
  Part 9: PLAIN pairs in order; PLAIN several sorted lists, the newest first, and what they ; THE PURE DISK, PART 4 what each operation answers and leaves; WALKS package api; WALKS package api.
-/
import Derived.Test.YtecibefflhomdaaGreatDoorV08
set_option maxHeartbeats 8000000
set_option maxRecDepth 100000
set_option linter.all false
namespace Go.Proofs.YtecibefflhomdaaGreatDoor.Pure
open Go
def eg:Option aB→Option Bs
 | none=>none
 | some e=>if e.del=true then none else some e.val
theorem ga (ms:List Nat) (b:Bool) (l:List aB):(dB ms b l).Sublist l:=by
 unfold dB
 split
 ·exact List.filter_sublist.trans List.filter_sublist
 ·exact List.filter_sublist
theorem kV {ms:List Nat} {b:Bool} {l:List aB} (h:gq l):gq (dB ms b l):=h.sublist (ga ms b l)
theorem xP {ms:List Nat} {b:Bool} {l:List aB} {e:aB} (h:e∈dB ms b l):e∈kl ms l:=by
 unfold dB at h
 split at h
 ·exact (List.mem_filter.1 h).1
 ·exact h
theorem A7 {ms:List Nat} {l:List aB} (hl:gq l) {k:Bs} {m:Nat} (hm:m∈ms):fN (dB ms false l) k m=fN l k m:=by
 cases hv:fN l k m with
 | none=>exact dG.2 fun x hx=>dG.1 hv x ((ga _ _ _).subset hx)
 | some e=>
  obtain ⟨a1,a2,a3⟩:=eT hv
  refine uY (kV hl) ?_ a2 a3 fun x hx=>oU hl hv x ((ga _ _ _).subset hx)
  show e∈kl ms l
  refine pR.2 ⟨a1,?_⟩
  unfold seen
  rw [List.any_eq_true]
  exact ⟨m,hm,by rw [a2];simpa using hv⟩
theorem JL {ms:List Nat} {l:List aB} (hl:gq l) {k:Bs} {m:Nat} (hm:m∈ms):eg (fN (dB ms true l) k m)=eg (fN l k m):=by
 cases hv:fN l k m with
 | none=>
  have:fN (dB ms true l) k m=none:=dG.2 fun x hx=>dG.1 hv x ((ga _ _ _).subset hx)
  rw [this]
 | some e=>
  obtain ⟨a1,a2,a3⟩:=eT hv
  have hk:e∈kl ms l:=pR.2 ⟨a1,by
   unfold seen
   rw [List.any_eq_true]
   exact ⟨m,hm,by rw [a2];simpa using hv⟩⟩
  by_cases hh:holds (kl ms l) e=true
  ·have:fN (dB ms true l) k m=some e:=uY (kV hl) (List.mem_filter.2 ⟨hk,hh⟩) a2 a3 fun x hx=>oU hl hv x ((ga _ _ _).subset hx)
   rw [this]
  ·have hd:e.del=true:=by
    cases hd:e.del with
    | true=>rfl
    | false=>exact absurd (List.any_eq_true.2 ⟨e,hk,by simp [hd]⟩) hh
   have:fN (dB ms true l) k m=none:=dG.2 fun x hx hxk=>by
    rcases Nat.lt_or_ge m x.seq with h|h
    ·exact h
    ·have h1:=oU hl hv x ((ga _ _ _).subset hx) hxk h
     have h2:holds (kl ms l) x=true:=(List.mem_filter.1 hx).2
     unfold holds at h2 hh
     obtain ⟨y,hy,h3⟩:=List.any_eq_true.1 h2
     simp only [Bool.and_eq_true,decide_eq_true_eq] at h3
     exact absurd (List.any_eq_true.2 ⟨y,hy,by
      simp only [Bool.and_eq_true,decide_eq_true_eq]
      exact ⟨⟨h3.1.1.trans (hxk.trans a2.symm),by omega⟩,h3.2⟩⟩) hh
   rw [this]
   simp [eg,hd]
abbrev j4 (l:List (Bs×Bs)):Prop:=l.Pairwise fun a b=>aR a.1 b.1=true
def bE:List (Bs×Bs)→Bs→Option Bs
 | [],_=>none
 | p::r,k=>if p.1=k then some p.2 else bE r k
theorem mV {l:List (Bs×Bs)} {k:Bs} (h:∀ p∈l,p.1≠k):bE l k=none:=by
 induction l with
 | nil=>rfl
 | cons p r ih=>
  unfold bE
  rw [if_neg (h p List.mem_cons_self)]
  exact ih fun q hq=>h q (List.mem_cons_of_mem _ hq)
theorem pS {l:List (Bs×Bs)} {k v:Bs} (h:bE l k=some v):(k,v)∈l:=by
 induction l with
 | nil=>cases h
 | cons p r ih=>
  unfold bE at h
  split at h
  ·rename_i hk;cases h;subst hk;exact List.mem_cons_self
  ·exact List.mem_cons_of_mem _ (ih h)
theorem xQ {l:List (Bs×Bs)} (hl:j4 l) {p:Bs×Bs} (h:p∈l):bE l p.1=some p.2:=by
 induction l with
 | nil=>cases h
 | cons q r ih=>
  obtain ⟨q1,q2⟩:=List.pairwise_cons.1 hl
  unfold bE
  rcases List.mem_cons.1 h with rfl|h
  ·simp
  ·rw [if_neg (jq (q1 p h))];exact ih q2 h
theorem xR:∀ {a b:List (Bs×Bs)},j4 a→j4 b→(∀ k,bE a k=bE b k)→a=b
 | [],[],_,_,_=>rfl
 | [],q::b,_,_,h=>by have:=h q.1;simp [bE] at this
 | p::a,[],_,_,h=>by have:=h p.1;simp [bE] at this
 | p::a,q::b,ha,hb,h=>by
  obtain ⟨p1,p2⟩:=List.pairwise_cons.1 ha
  obtain ⟨q1,q2⟩:=List.pairwise_cons.1 hb
  have e1:=h p.1
  have e2:=h q.1
  simp only [bE,if_true] at e1 e2
  have hk:p.1=q.1:=by
   rcases ew p.1 q.1 with h1|h1|h1
   ·rw [if_neg (Ne.symm (jq h1))] at e1
    have:=pS e1.symm
    have:=q1 _ this
    rw [cC h1] at this;cases this
   ·exact h1
   ·rw [if_neg (Ne.symm (jq h1))] at e2
    have:=pS e2
    have:=p1 _ this
    rw [cC h1] at this;cases this
  rw [if_pos hk.symm] at e1
  have hpq:p=q:=Prod.ext hk (Option.some.inj e1)
  subst hpq
  congr 1
  refine xR p2 q2 fun k=>?_
  have:=h k
  unfold bE at this
  by_cases hpk:p.1=k
  ·subst hpk
   rw [mV fun r hr=>Ne.symm (jq (p1 r hr)),mV fun r hr=>Ne.symm (jq (q1 r hr))]
  ·rwa [if_neg hpk,if_neg hpk] at this
theorem mW {l:List (Bs×Bs)} (f:Bs→Bool) (k:Bs):bE (l.filter fun p=>f p.1) k=if f k=true then bE l k else none:=by
 induction l with
 | nil=>simp [bE]
 | cons p r ih=>
  rw [List.filter_cons]
  by_cases hf:f p.1=true
  ·rw [if_pos hf]
   unfold bE
   by_cases hk:p.1=k
   ·subst hk;simp [hf]
   ·rw [if_neg hk,if_neg hk,ih]
  ·rw [if_neg hf,ih]
   by_cases hk:p.1=k
   ·subst hk;simp [hf]
   ·rw [bE,if_neg hk]
def tM (l:List (Bs×Bs)) (k v:Bs) (del:Bool):List (Bs×Bs):=
 (l.filter fun p=>aR p.1 k)++(if del=true then [] else [(k,v)])++l.filter fun p=>aR k p.1
theorem A8 {l:List (Bs×Bs)} (hl:j4 l) (k v:Bs) (del:Bool):j4 (tM l k v del):=by
 unfold tM
 refine List.pairwise_append.2 ⟨List.pairwise_append.2 ⟨hl.filter _,?_,?_⟩,hl.filter _,?_⟩
 ·split<;>simp
 ·intro a ha b hb
  split at hb
  ·cases hb
  ·simp at hb;subst hb;exact (List.mem_filter.1 ha).2
 ·intro a ha b hb
  have hb:=(List.mem_filter.1 hb).2
  rcases List.mem_append.1 ha with ha|ha
  ·exact dL (List.mem_filter.1 ha).2 hb
  ·split at ha
   ·cases ha
   ·simp at ha;subst ha;exact hb
theorem qz (a b:List (Bs×Bs)) (k:Bs):bE (a++b) k=(bE a k).or (bE b k):=by
 induction a with
 | nil=>rfl
 | cons p r ih=>
  simp only [List.cons_append,bE]
  split
  ·rfl
  ·exact ih
theorem Hi (l:List (Bs×Bs)) (k v:Bs) (del:Bool) (x:Bs):bE (tM l k v del) x=if x=k then (if del=true then none else some v) else bE l x:=by
 unfold tM
 rw [qz,qz,mW (fun y=>aR y k),mW (fun y=>aR k y)]
 by_cases hx:x=k
 ·subst hx
  rw [aP]
  cases del<;>simp [bE]
 ·have e1:bE (if del=true then [] else [(k,v)]) x=none:=by split<;>simp [bE,Ne.symm hx]
  rw [e1,if_neg hx]
  rcases ew x k with h|h|h
  ·rw [h,cC h];simp
  ·exact absurd h hx
  ·rw [h,cC h];simp
def jf (hi k:Bs):Bool:=decide (hi=[])||aR k hi
def jh (lo k:Bs):Bool:=!aR k lo
def rU {α:Type} (limit:Int) (l:List α):List α:=if 0<limit then l.take limit.toNat else l
def bB (l:List (Bs×Bs)) (lo hi:Bs) (limit:Int):List (Bs×Bs):=rU limit (l.filter fun p=>jh lo p.1&&jf hi p.1)
def shown (l:List aB) (m:Nat) (e:aB):Option (Bs×Bs):=if fN l e.key m=some e then (if e.del=true then none else some (e.key,e.val)) else none
def qA (l:List aB) (m:Nat):List (Bs×Bs):=l.filterMap (shown l m)
theorem mn {l:List aB} {m:Nat} {e:aB} {p:Bs×Bs} (h:shown l m e=some p):p=(e.key,e.val)∧fN l e.key m=some e∧e.del=false:=by
 unfold shown at h
 split at h
 ·rename_i h1
  split at h
  ·cases h
  ·rename_i h2;exact ⟨(Option.some.inj h).symm,h1,by simpa using h2⟩
 ·cases h
theorem sR {l:List aB} (hl:gq l) (m:Nat):j4 (qA l m):=by
 unfold qA
 rw [j4,List.pairwise_filterMap]
 refine hl.imp_of_mem fun {a b} ha hb hab p hp q hq=>?_
 obtain ⟨rfl,h1,-⟩:=mn hp
 obtain ⟨rfl,h2,-⟩:=mn hq
 rcases bT.1 hab with h|h
 ·exact h
 ·rw [h.1] at h1;rw [h1] at h2;cases h2;omega
theorem xd {l:List aB} (hl:gq l) (m:Nat) (k:Bs):bE (qA l m) k=eg (fN l k m):=by
 cases hv:fN l k m with
 | none=>
  refine mV fun p hp hk=>?_
  obtain ⟨e,he,hs⟩:=List.mem_filterMap.1 hp
  obtain ⟨rfl,h1,-⟩:=mn hs
  dsimp only at hk
  rw [hk,hv] at h1;cases h1
 | some e=>
  obtain ⟨a1,a2,a3⟩:=eT hv
  cases hd:e.del with
  | true=>
   simp only [eg,hd,if_true]
   refine mV fun p hp hk=>?_
   obtain ⟨x,hx,hs⟩:=List.mem_filterMap.1 hp
   obtain ⟨rfl,h1,h2⟩:=mn hs
   dsimp only at hk
   rw [hk,hv] at h1;cases h1;rw [hd] at h2;cases h2
  | false=>
   simp only [eg,hd,Bool.false_eq_true,if_false]
   have:(e.key,e.val)∈qA l m:=List.mem_filterMap.2 ⟨e,a1,by
    unfold shown;rw [a2,if_pos hv,hd];simp⟩
   have h2:=xQ (sR hl m) this
   rw [a2] at h2;exact h2
structure Sc where
 out:List (Bs×Bs)
 last:Bs
 any:Bool
def mo (hi:Bs) (limit:Int) (seq:Nat) (s:Sc) (e:aB):Sc×Bool:=
 if (hi≠[]∧aR e.key hi=false)∨(0<limit∧(s.out.length:Int)=limit) then (s,false) else
 if seq<e.seq∨(s.any=true∧e.key=s.last) then (s,true) else
 (⟨if e.del=true then s.out else s.out++[(e.key,e.val)],e.key,true⟩,true)
def nZ {σ:Type} (body:σ→aB→σ×Bool):List aB→σ→σ
 | [],s=>s
 | e::r,s=>if (body s e).2=true then nZ body r (body s e).1 else (body s e).1
structure PI (seq:Nat) (l p:List aB) (s:Sc):Prop where
 out:s.out=p.filterMap (shown l seq)
 last:s.any=true→∃ z∈p,z.key=s.last∧z.seq≤seq∧∀ x∈p,x.seq≤seq→less z x=false∨x.key=z.key
 any:s.any=false→∀ x∈p,seq<x.seq
theorem rV {hi:Bs} {limit:Int} {seq:Nat} {l:List aB} (hs:gq l):∀ (r p:List aB) (s:Sc),l=p++r→PI seq l p s→(0<limit→(s.out.length:Int)≤limit)→(∀ x∈s.out,jf hi x.1=true) →
 (nZ (mo hi limit seq) r s).out=rU limit ((l.filterMap (shown l seq)).filter fun p=>jf hi p.1)
 | [],p,s,hl,h,hlim,hhi=>by
  simp at hl;subst hl
  show s.out=_
  rw [← h.out,List.filter_eq_self.2 hhi]
  unfold rU
  split
  ·rename_i h0
   rw [List.take_of_length_le]
   have:=hlim h0;omega
  ·rfl
 | e::r,p,s,hl,h,hlim,hhi=>by
  have hrest:l.filterMap (shown l seq)=s.out++(e::r).filterMap (shown l seq):=by
   rw [h.out,← List.filterMap_append,← hl]
  obtain ⟨s1,s2,s3⟩:=hO (hl▸hs)
  unfold nZ mo
  by_cases hb:(hi≠[]∧aR e.key hi=false)∨(0<limit∧(s.out.length:Int)=limit)
  ·rw [if_pos hb]
   simp only [Bool.false_eq_true,if_false]
   rw [hrest,List.filter_append,List.filter_eq_self.2 hhi]
   rcases hb with ⟨hb1,hb2⟩|⟨hb1,hb2⟩
   ·have:((e::r).filterMap (shown l seq)).filter (fun p=>jf hi p.1)=[]:=by
     rw [List.filter_eq_nil_iff]
     intro q hq
     obtain ⟨x,hx,hsx⟩:=List.mem_filterMap.1 hq
     obtain ⟨rfl,-,-⟩:=mn hsx
     have hxe:aR x.key hi=false:=by
      rcases List.mem_cons.1 hx with rfl|hx
      ·exact hb2
      ·rcases bT.1 ((List.pairwise_cons.1 s2).1 x hx) with h1|h1
       ·exact rT hb2 (cC h1)
       ·rw [← h1.1];exact hb2
     simp [jf,hb1,hxe]
    rw [this,List.append_nil]
    unfold rU
    split
    ·rename_i h0
     rw [List.take_of_length_le]
     have:=hlim h0;omega
    ·rfl
   ·unfold rU
    rw [if_pos hb1,List.take_left' (by omega)]
  ·rw [if_neg hb]
   have hin:jf hi e.key=true:=by
    unfold jf
    by_cases hh:hi=[]
    ·simp [hh]
    ·cases hx:aR e.key hi with
     | true=>simp
     | false=>exact absurd (.inl ⟨hh,hx⟩) hb
   have hlt:0<limit→(s.out.length:Int)<limit:=fun h0=>by
    have:=hlim h0
    have h2:¬ (s.out.length:Int)=limit:=fun h3=>hb (.inr ⟨h0,h3⟩)
    omega
   have hvis:fN l e.key seq=some e↔e.seq≤seq∧∀ x∈p,x.key=e.key→seq<x.seq:=by
    rw [hl,oV]
    have hcons:fN (e::r) e.key seq=if e.seq≤seq then some e else fN r e.key seq:=by
     unfold fN;rw [List.find?_cons];by_cases h:e.seq≤seq<;>simp [h]
    rw [hcons]
    constructor
    ·intro hh
     cases hv:fN p e.key seq with
     | some x=>
      rw [hv] at hh;simp at hh;subst hh
      have:=s3 x (eT hv).1 x (by simp)
      rw [j3] at this;cases this
     | none=>
      rw [hv] at hh
      simp only [Option.none_or] at hh
      refine ⟨?_,dG.1 hv⟩
      by_cases hle:e.seq≤seq
      ·exact hle
      ·rw [if_neg hle] at hh;exact (eT hh).2.2
    ·rintro ⟨h1,h2⟩
     rw [dG.2 h2,if_pos h1];rfl
   by_cases hsk:seq<e.seq∨(s.any=true∧e.key=s.last)
   ·rw [if_pos hsk]
    simp only [if_true]
    have hnot:shown l seq e=none:=by
     unfold shown
     rw [if_neg]
     rw [hvis]
     rintro ⟨h1,h2⟩
     rcases hsk with h3|⟨h3,h4⟩
     ·omega
     ·obtain ⟨z,hz,z1,z2,-⟩:=h.last h3
      have:=h2 z hz (z1.trans h4.symm)
      omega
    refine rV hs r (p++[e]) s (by rw [hl];simp) ⟨?_,fun ha=>?_,fun ha x hx=>?_⟩ hlim hhi
    ·rw [List.filterMap_append,h.out];simp [hnot]
    ·obtain ⟨z,hz,z1,z2,z3⟩:=h.last ha
     refine ⟨z,List.mem_append_left _ hz,z1,z2,fun x hx hxs=>?_⟩
     rcases List.mem_append.1 hx with hx|hx
     ·exact z3 x hx hxs
     ·simp at hx;subst hx
      rcases hsk with h3|⟨_,h4⟩
      ·omega
      ·exact .inr (h4.trans z1.symm)
    ·rcases List.mem_append.1 hx with hx|hx
     ·exact h.any ha x hx
     ·simp at hx;subst hx
      rcases hsk with h3|⟨h3,_⟩
      ·exact h3
      ·rw [ha] at h3;cases h3
   ·rw [if_neg hsk]
    simp only [if_true]
    have hle:e.seq≤seq:=by omega
    have hv:fN l e.key seq=some e:=hvis.2 ⟨hle,fun x hx hk=>by
     rcases Nat.lt_or_ge seq x.seq with h1|h1
     ·exact h1
     ·cases ha:s.any with
      | false=>exact h.any ha x hx
      | true=>
       obtain ⟨z,hz,z1,z2,z3⟩:=h.last ha
       have hne:¬ e.key=s.last:=fun h3=>hsk (.inr ⟨ha,h3⟩)
       rcases z3 x hx h1 with h2|h2
       ·
        have h4:=s3 z hz e (by simp)
        exfalso
        rcases bT.1 h4 with h4|h4
        ·rw [← hk] at h4
         rw [bT.2 (.inl h4)] at h2;cases h2
        ·exact hne (h4.1.symm.trans z1)
       ·exact absurd (hk.symm.trans (h2.trans z1)) hne⟩
    have hsh:shown l seq e=if e.del=true then none else some (e.key,e.val):=by unfold shown;rw [if_pos hv]
    refine rV hs r (p++[e]) _ (by rw [hl];simp) ⟨?_,fun _=>?_,fun ha=>by cases ha⟩ ?_ ?_
    ·rw [List.filterMap_append,← h.out]
     cases hd:e.del<;>simp [hsh,hd]
    ·refine ⟨e,by simp,rfl,hle,fun x hx _=>?_⟩
     rcases List.mem_append.1 hx with hx|hx
     ·exact .inl (DI (s3 x hx e (by simp)))
     ·simp at hx;subst hx;exact .inr rfl
    ·intro h0
     have:=hlt h0
     cases hd:e.del<;>simp<;>omega
    ·intro x hx
     cases hd:e.del with
     | true=>rw [hd] at hx;simp at hx;exact hhi x hx
     | false=>
      rw [hd] at hx;simp at hx
      rcases hx with hx|rfl
      ·exact hhi x hx
      ·exact hin
def I2:Sc:=⟨[],[],false⟩
theorem Mw {lo hi:Bs} {limit:Int} {seq:Nat} {l:List aB} {ps:List (Bs×Bs)} (hs:gq l) (hlo:∀ e∈l,jh lo e.key=true) (hp:j4 ps)
 (h:∀ k,jh lo k=true→eg (fN l k seq)=bE ps k):(nZ (mo hi limit seq) l I2).out=bB ps lo hi limit:=by
 rw [rV hs l [] I2 rfl ⟨rfl,fun h=>(by cases h),fun _ x hx=>(by cases hx)⟩ (fun h0=>by show ((0:Nat):Int)≤limit;omega) (fun x hx=>by cases hx)]
 unfold bB
 congr 1
 have e1:l.filterMap (shown l seq)=ps.filter fun p=>jh lo p.1:=by
  refine xR (sR hs seq) (hp.filter _) fun k=>?_
  show bE (qA l seq) k=_
  rw [xd hs,mW]
  by_cases hk:jh lo k=true
  ·rw [if_pos hk,h k hk]
  ·rw [if_neg hk]
   have:fN l k seq=none:=dG.2 fun e he hek=>absurd (hek▸hlo e he) hk
   rw [this];rfl
 rw [e1,List.filter_filter]
 congr 1
 funext p
 rw [Bool.and_comm]
def fH (ls:List (List aB)) (k:Bs) (m:Nat):Option aB:=ls.findSome? fun l=>fN l k m
abbrev PJ (a b:List aB):Prop:=∀ x∈a,∀ y∈b,x.key=y.key→y.seq<x.seq
abbrev Ord (ls:List (List aB)):Prop:=ls.Pairwise PJ
theorem bD (l:List aB) (ls:List (List aB)) (k:Bs) (m:Nat):fH (l::ls) k m=(fN l k m).or (fH ls k m):=by
 unfold fH;rw [List.findSome?_cons];cases fN l k m<;>rfl
theorem j5 (a b:List (List aB)) (k:Bs) (m:Nat):fH (a++b) k m=(fH a k m).or (fH b k m):=by
 unfold fH;rw [List.findSome?_append]
theorem Hj {ls:List (List aB)} {k:Bs} {m:Nat}:fH ls k m=none↔∀ l∈ls,∀ e∈l,e.key=k→m<e.seq:=by
 unfold fH
 rw [List.findSome?_eq_none_iff]
 constructor
 ·intro h l hl;exact dG.1 (h l hl)
 ·intro h l hl;exact dG.2 (h l hl)
theorem Hk {ls:List (List aB)} {k:Bs} {m:Nat} {e:aB} (h:fH ls k m=some e):∃ l∈ls,fN l k m=some e:=by
 unfold fH at h
 obtain ⟨l,hl,hv⟩:=List.exists_of_findSome?_eq_some h
 exact ⟨l,hl,hv⟩
theorem JM {ls:List (List aB)} (hs:∀ l∈ls,gq l) (ho:Ord ls) {k:Bs} {m:Nat} {e:aB} (h:fH ls k m=some e):∀ l∈ls,∀ x∈l,x.key=k→x.seq≤m→x.seq≤e.seq:=by
 induction ls with
 | nil=>intro l hl;cases hl
 | cons a r ih=>
  obtain ⟨o1,o2⟩:=List.pairwise_cons.1 ho
  rw [bD] at h
  intro l hl x hx hk hm
  cases hv:fN a k m with
  | some z=>
   rw [hv] at h;simp at h;subst h
   rcases List.mem_cons.1 hl with rfl|hl
   ·exact oU (hs _ List.mem_cons_self) hv x hx hk hm
   ·have:=o1 l hl z (eT hv).1 x hx ((eT hv).2.1.trans hk.symm);omega
  | none=>
   rw [hv] at h;simp only [Option.none_or] at h
   rcases List.mem_cons.1 hl with rfl|hl
   ·have:=dG.1 hv x hx hk;omega
   ·exact ih (fun l hl=>hs l (List.mem_cons_of_mem _ hl)) o2 h l hl x hx hk hm
theorem DJ {ls:List (List aB)} {L:List aB} (hs:∀ l∈ls,gq l) (ho:Ord ls) (hL:gq L) (hm:∀ e,e∈L↔∃ l∈ls,e∈l) (k:Bs) (m:Nat):fN L k m=fH ls k m:=by
 cases hv:fH ls k m with
 | none=>
  exact dG.2 fun x hx hk=>by
   obtain ⟨l,hl,hxl⟩:=(hm x).1 hx
   exact Hj.1 hv l hl x hxl hk
 | some e=>
  obtain ⟨l,hl,h1⟩:=Hk hv
  obtain ⟨a1,a2,a3⟩:=eT h1
  refine uY hL ((hm e).2 ⟨l,hl,a1⟩) a2 a3 fun x hx hk hxm=>?_
  obtain ⟨l',hl',hxl⟩:=(hm x).1 hx
  exact JM hs ho hv l' hl' x hxl hk hxm
theorem DK (l:List aB) (f:Bs→Bool) (k:Bs) (m:Nat):fN (l.filter fun e=>f e.key) k m=if f k=true then fN l k m else none:=by
 induction l with
 | nil=>simp [fN]
 | cons e r ih=>
  unfold fN at *
  rw [List.filter_cons,List.find?_cons]
  by_cases hk:e.key=k
  ·subst hk
   by_cases hf:f e.key=true
   ·rw [if_pos hf,List.find?_cons,ih]
    simp [hf]
   ·rw [if_neg hf,ih];simp [hf]
  ·by_cases hf:f e.key=true
   ·rw [if_pos hf,List.find?_cons,ih];simp [hk]
   ·rw [if_neg hf,ih];simp [hk]
def ju (k v:Bs):Bool→List (Bs×Bs)→List (Bs×Bs)
 | put,[]=>if put=true then [] else [(k,v)]
 | put,p::r=>(if put=false∧aR p.1 k=false then [(k,v)] else [])++((if p.1≠k then [p] else [])++ju k v (put||!aR p.1 k) r)
theorem xS (k v:Bs):∀ l:List (Bs×Bs),ju k v true l=l.filter fun p=>decide (p.1≠k)
 | []=>rfl
 | p::r=>by
  unfold ju
  rw [List.filter_cons]
  simp only [Bool.true_or,xS k v r]
  by_cases h:p.1=k<;>simp [h]
theorem zD (k v:Bs) (del:Bool):∀ {l:List (Bs×Bs)},j4 l→ju k v del l=tM l k v del
 | [],_=>by cases del<;>simp [ju,tM]
 | p::r,hl=>by
  obtain ⟨p1,p2⟩:=List.pairwise_cons.1 hl
  have ih:=zD k v del p2
  unfold ju
  cases hb:aR p.1 k with
  | true=>
   have hne:=jq hb
   have has:=cC hb
   simp only [Bool.true_eq_false,and_false,if_false,List.nil_append,ne_eq,hne,not_false_eq_true,if_true,Bool.not_true,Bool.or_false,ih]
   unfold tM
   rw [List.filter_cons,List.filter_cons,hb,has]
   simp
  | false=>
   have hall:∀ q∈r,aR k q.1=true:=fun q hq=>by
    have:=p1 q hq
    exact lQ hb this
   have hf1:r.filter (fun q=>aR q.1 k)=[]:=by
    rw [List.filter_eq_nil_iff];intro q hq;rw [cC (hall q hq)];simp
   have hf2:r.filter (fun q=>aR k q.1)=r:=List.filter_eq_self.2 hall
   have hf3:r.filter (fun q=>decide (q.1≠k))=r:=List.filter_eq_self.2 fun q hq=>by
    simpa using Ne.symm (jq (hall q hq))
   simp only [Bool.not_false,Bool.or_true,xS,hf3,and_true]
   unfold tM
   rw [List.filter_cons,List.filter_cons,hb,hf1,hf2]
   rcases ew p.1 k with h|h|h
   ·rw [hb] at h;cases h
   ·subst h
    rw [aP]
    cases del<;>simp
   ·rw [h]
    have hne:=Ne.symm (jq h)
    cases del<;>simp [hne]
structure cG where
 key:Bs
 val:Bs
 del:Bool
deriving DecidableEq
def DL (l:List (Bs×Bs)) (b:List cG):List (Bs×Bs):=b.foldl (fun l c=>tM l c.key c.val c.del) l
theorem FZ:∀ (b:List cG) {l:List (Bs×Bs)},j4 l→j4 (DL l b)
 | [],_,h=>h
 | c::b,_,h=>FZ b (A8 h c.key c.val c.del)
def gR (c:cG) (q:Nat):aB:=⟨c.key,c.val,c.del,q⟩
def bc:Nat→List cG→List aB
 | _,[]=>[]
 | q,c::r=>gR c (q+1)::bc (q+1) r
theorem uZ:∀ (b:List cG) (q:Nat) (e:aB),e∈bc q b→q<e.seq∧e.seq≤q+b.length
 | [],_,e,h=>by cases h
 | c::r,q,e,h=>by
  rcases List.mem_cons.1 h with rfl|h
  ·simp [gR]
  ·have:=uZ r (q+1) e h
   simp;omega
@[simp] theorem eD:∀ (b:List cG) (q:Nat),(bc q b).length=b.length
 | [],_=>rfl
 | c::r,q=>by simp [bc,eD r]
theorem F0 {l:List aB} {e:aB} (hl:gq l) (hn:∀ x∈l,x.seq<e.seq) (k:Bs) (m:Nat):fN (dU l e) k m=if e.key=k∧e.seq≤m then some e else fN l k m:=by
 have hs:=nY (e:=e) hl fun x hx h=>by have:=hn x hx;omega
 by_cases h:e.key=k∧e.seq≤m
 ·rw [if_pos h]
  refine uY hs (jr.2 (.inl rfl)) h.1 h.2 fun x hx _ _=>?_
  rcases jr.1 hx with rfl|hx
  ·exact Nat.le_refl _
  ·exact Nat.le_of_lt (hn x hx)
 ·rw [if_neg h]
  cases hv:fN l k m with
  | none=>
   exact dG.2 fun x hx hk=>by
    rcases jr.1 hx with rfl|hx
    ·simpa [hk] using h
    ·exact dG.1 hv x hx hk
  | some z=>
   obtain ⟨a1,a2,a3⟩:=eT hv
   refine uY hs (jr.2 (.inr a1)) a2 a3 fun x hx hk hm=>?_
   rcases jr.1 hx with rfl|hx
   ·exact absurd ⟨hk,hm⟩ h
   ·exact oU hl hv x hx hk hm
theorem A9:∀ (b:List cG) {q:Nat} {l:List aB},gq l→(∀ x∈l,x.seq≤q)→gq ((bc q b).foldl dU l)
 | [],_,_,h,_=>h
 | c::r,q,l,h,hq=>A9 r (nY h fun x hx hh=>by have:=hq x hx;simp [gR] at hh;omega) fun x hx=>by
  rcases jr.1 hx with rfl|hx
  ·exact Nat.le_refl _
  ·have:=hq x hx;omega
theorem u4:∀ (b:List aB) {l:List aB} {x:aB},x∈b.foldl dU l↔x∈b∨x∈l
 | [],_,_=>by simp
 | c::r,l,x=>by
  rw [List.foldl_cons,u4 r,jr,List.mem_cons]
  constructor
  ·rintro (h|h|h)
   ·exact .inl (.inr h)
   ·exact .inl (.inl h)
   ·exact .inr h
  ·rintro ((h|h)|h)
   ·exact .inr (.inl h)
   ·exact .inl h
   ·exact .inr (.inr h)
@[simp] theorem lF:∀ (b:List aB) (l:List aB),(b.foldl dU l).length=l.length+b.length
 | [],_=>rfl
 | c::r,l=>by rw [List.foldl_cons,lF r,lE,List.length_cons];omega
theorem qB:∀ (b:List cG) {q:Nat} {l:List aB} (k:Bs) (m:Nat),gq l→(∀ x∈l,x.seq≤q)→m≤q→fN ((bc q b).foldl dU l) k m=fN l k m
 | [],_,_,_,_,_,_,_=>rfl
 | c::r,q,l,k,m,h,hq,hm=>by
  have hs:=nY (e:=gR c (q+1)) h fun x hx hh=>by have:=hq x hx;simp [gR] at hh;omega
  rw [bc,List.foldl_cons,qB r k m hs (fun x hx=>by
   rcases jr.1 hx with rfl|hx
   ·exact Nat.le_refl _
   ·have:=hq x hx;omega) (by omega),F0 h (fun x hx=>by have:=hq x hx;simp [gR];omega)]
  rw [if_neg (by simp [gR];omega)]
theorem qC:∀ (b:List cG) {q:Nat} {l:List aB} (k:Bs) (m:Nat) (ps:List (Bs×Bs)) (below:Option aB),gq l→(∀ x∈l,x.seq≤q)→q+b.length≤m →
 eg ((fN l k m).or below)=bE ps k→eg ((fN ((bc q b).foldl dU l) k m).or below)=bE (DL ps b) k
 | [],_,_,_,_,_,_,_,_,_,h=>h
 | c::r,q,l,k,m,ps,below,h,hq,hm,hv=>by
  have hs:=nY (e:=gR c (q+1)) h fun x hx hh=>by have:=hq x hx;simp [gR] at hh;omega
  rw [bc,List.foldl_cons]
  simp only [List.length_cons] at hm
  refine qC r k m (tM ps c.key c.val c.del) below hs (fun x hx=>by
   rcases jr.1 hx with rfl|hx
   ·exact Nat.le_refl _
   ·have:=hq x hx;omega) (by omega) ?_
  rw [F0 h (fun x hx=>by have:=hq x hx;simp [gR];omega),Hi]
  by_cases hk:k=c.key
  ·subst hk
   rw [if_pos ⟨rfl,by simp [gR];omega⟩,if_pos rfl]
   simp [eg,gR]
  ·rw [if_neg (by simp [gR];intro h;exact absurd h.symm hk),if_neg hk]
   exact hv
end Go.Proofs.YtecibefflhomdaaGreatDoor.Pure
namespace Go.Proofs.YtecibefflhomdaaGreatDoor
open Go
section
open Go.Proofs.YtecibefflhomdaaGreatDoor.Pure (ae aD cz dI fG cW gZ dh jJ iu di cB)
def bx (D:ae) (n:Bs):Option (Option Bs×Nat):=if D.eh=true then some (some n,8) else match aD D.now n with|none=>some (some n,10)|some _=>none
abbrev cx:=Option Bs×Nat
def hU (D:ae) (n:Bs) (f:Nat→ae):ae:=match bx D n with
 | some _=>D.tick
 | none=>match aD D.now n with
  | some i=>f i
  | none=>D.tick
def mX (D:ae) (i:Nat):Nat:=match aD D.nodes i with|some x=>x.2|none=>0
def dW (D:ae) (n bs:Bs):Option cx:=match bx D n with
 | some e=>some e
 | none=>if (bs.length:Int) > D.room-D.used then some (some n,9) else none
def cg (D:ae) (n bs:Bs):ae:=match dW D n bs with
 | some _=>D.tick
 | none=>match aD D.now n with
  | some i=>D.tick.laid i (D.aK i++bs,mX D i)
  | none=>D.tick
def fB (bs:Bs) (at_ n:Int):Bs:=(bs.drop (min (max at_ 0) bs.length).toNat).take (min (max n 0) (bs.length-min (max at_ 0) bs.length)).toNat
def counted (D:ae) (n:Int):ae:={ D with reads:=IntKind.i64.wrap (D.reads+1),most:=max D.most n }
def fj (D:ae):ae:=if D.eh=true then D.tick else D.tick.synced
def dm (room:Int):ae:=⟨[],[],[],[],room,0,0,0,0⟩
def uncounted (D:ae):ae:={ D with reads:=0,most:=0 }
def fresh (D:ae):Nat:=(D.nodes.map (·.1)).foldl max 0+1
theorem qD:∀ (l:List Nat) (m:Nat),m≤l.foldl max m∧∀ x∈l,x≤l.foldl max m
 | [],m=>⟨Nat.le_refl _,by simp⟩
 | y::l,m=>by
  obtain ⟨h1,h2⟩:=qD l (max m y)
  refine ⟨Nat.le_trans (Nat.le_max_left m y) h1,fun x hx=>?_⟩
  rcases List.mem_cons.1 hx with rfl|hx
  ·exact Nat.le_trans (Nat.le_max_right m x) h1
  ·exact h2 x hx
theorem u5 (D:ae):aD D.nodes (fresh D)=none:=by
 rw [cB]
 intro h
 have:=(qD (D.nodes.map (·.1)) 0).2 _ h
 unfold fresh at this
 omega
def gA (D:ae) (n:Bs):Option cx:=if D.eh=true then some (some n,8) else if (aD D.now n).isSome=true then some (some n,11) else none
def cR (D:ae) (n:Bs):ae:=if D.eh=true then D.tick else if (aD D.now n).isSome=true then D.tick else D.tick.created n (fresh D.tick)
def fileOf (D:ae) (n:Bs):Bs:=match aD D.now n with|some i=>D.aK i|none=>[]
def j6 (D:ae) (n:Bs):Nat:=match bx D n with|some _=>0|none=>(fileOf D n).length
def gz (D:ae) (n:Bs):ae:=hU D n fun i=>D.tick.laid i (D.aK i,(D.aK i).length)
def fx (D:ae) (n:Bs):ae:=hU D n fun _=>D.tick.fV n
def fW (D:ae) (n m:Bs):ae:=hU D n fun i=>if n=m then D.tick else D.tick.renamed n m i
def iZ (D:ae) (nm:Bs) (at_ n:Int):Bs:=match bx D nm with
 | some _=>[]
 | none=>fB (fileOf D nm) at_ n
end
section
open Go.Proofs.YtecibefflhomdaaGreatDoor.Pure (ae aD cz dI fG)
attribute [local irreducible] IntKind.wrap
abbrev ay (i:Nat):Value:=.pointer (some ⟨i,0,none⟩)
def dX (p:Nat×(Bs×Nat)):ax:=fun h=>∃ v,cL [blk p.1 116 [v,.int .i64 (p.2.2:Int)],cI v p.2.1] h
def u6 (p:Bs×Option Nat):List Value:=[str p.1,.pointer (p.2.map fun i=>⟨i,0,none⟩)]
def Ba (v:Value) (m:List (Bs×Option Nat)):ax:=fun h=>∃ b c,v=.slice (some ⟨b,0,none⟩) m.length c∧h b=some (true,.cells (m.map u6).flatten.toArray 216 (0,0))
def eX (v:Value) (ms:List (List (Bs×Option Nat))):ax:=fun h=>∃ vs,vs.length=ms.length∧cL [aL 1 v 143 ms.length vs,star (List.zipWith Ba vs ms)] h
def aW (l:List (Bs×Nat)):List (Bs×Value):=l.map fun p=>(p.1,ay p.2)
structure DV where
 bn:Nat
 bs:Nat
 mv:Value
abbrev aX (z:DV) (D:ae):List Value:=[.map (some z.bn),.map (some z.bs),z.mv,.int .i64 D.room,.int .i64 D.wait,.int .i64 D.bad,.int .i64 D.reads,.int .i64 D.most]
abbrev gd (d:Nat) (z:DV) (D:ae):List ax:=[blk d 111 (aX z D),aM cS z.bn (aW D.now),aM cS z.bs (aW D.safe),eX z.mv D.moves,star (D.nodes.map dX)]
def eB (d:Nat) (D:ae):ax:=fun h=>D.Ok∧∃ z,cL (gd d z D) h
def aH (v:Value):Option (Option Bs×Nat)→ax
 | none=>fun _=>v=.nilIface
 | some (none,k)=>fun _=>v=.iface 44 (.int .i64 (k:Int))
 | some (some s,k)=>fun h=>∃ b,v=.iface 249 (.pointer (some ⟨b,0,none⟩))∧h b=some (true,.cells [str s,.int .i64 (k:Int)].toArray 251 (0,0))
variable {W0 w:World} {F l:List ax} {v:Value} {d:Nat} {D:ae}
theorem Sat.fp (h:Sat W0 (eB d D::F) w):D.Ok∧∃ z,Sat W0 (gd d z D++F) w:=by
 have h1:D.Ok:=h.fT fun _ k=>k.1
 obtain ⟨z,_,hs⟩:=h.e9 (φ:=fun _:DV=>True) (B:=fun z=>gd d z D) fun hp ⟨_,z,k⟩=>⟨z,trivial,k⟩
 exact ⟨h1,z,hs⟩
theorem Sat.db {z:DV} (hok:D.Ok) (h:Sat W0 (gd d z D++F) w):Sat W0 (eB d D::F) w:=Sat.close h fun hp k=>⟨hok,z,k⟩
theorem n4:∀ (l:List (Bs×Nat)) (n:Bs),aD (aW l) n=(aD l n).map ay
 | [],_=>rfl
 | (k,i)::r,n=>by
  unfold aW
  simp only [List.map_cons,aD]
  by_cases h:n=k
  ·simp [h]
  ·simp only [h,if_false];exact n4 r n
theorem Sat.pT {s:Bs} {k b:Nat} (h:Sat W0 (blk b 251 [str s,.int .i64 (k:Int)]::F) w):Sat W0 (aH (.iface 249 (.pointer (some ⟨b,0,none⟩))) (some (some s,k))::F) w:=h.share.head fun hp k=>⟨b,rfl,k⟩
theorem Sat.ej (h:Sat W0 F w):Sat W0 (aH .nilIface none::F) w:=h.imp fun hp r=>⟨fun _=>none,hp,fun _ _ _ hx=>(by cases hx),fun _ _ hx=>(by cases hx),Hp.le_refl _,rfl,r⟩
theorem pU (hs:Sat W0 (eB d D::F) w) :
 Calls Tryz.prog 141 #[ay d] w fun x w'=>x=.returned (.bool D.eh)∧Sat W0 (eB d D.tick::F) w':=by
 obtain ⟨hok,z,hs⟩:=hs.fp
 have hok':=hok.tick
 have:=hok.wait1
 have:=hok.bad1
 dsimp only [gd,aX,List.cons_append,List.nil_append] at hs
 refine enter Tryz.func141 rfl Tryz.ntmps141 Tryz.results141 rfl ?_
 by_cases h1:D.wait > 0
 ·have e1:D.eh=false:=by simp [ae.eh];omega
  have e2:D.tick={ D with wait:=D.wait-1 }:=by unfold ae.tick;rw [if_pos h1]
  rw [e1];rw [e2] at hok' ⊢
  refine go ?_
  refine bK hs fun w hs=>?_
  refine go ?_
  exact ah rfl ⟨rfl,Sat.db (z:=z) hok' hs⟩
 ·by_cases h2:D.bad > 0
  ·have e1:D.eh=true:=by simp [ae.eh];omega
   have e2:D.tick={ D with bad:=D.bad-1 }:=by unfold ae.tick;rw [if_neg h1,if_pos h2]
   rw [e1];rw [e2] at hok' ⊢
   refine go ?_
   refine bK hs fun w hs=>?_
   refine go ?_
   exact ah rfl ⟨rfl,Sat.db (z:=z) hok' hs⟩
  ·have e1:D.eh=false:=by simp [ae.eh];omega
   have e2:D.tick=D:=by unfold ae.tick;rw [if_neg h1,if_neg h2]
   rw [e1,e2]
   refine go ?_
   exact ah rfl ⟨rfl,Sat.db (z:=z) hok hs⟩
def n5 (D:ae) (n:Bs):Value:=.pointer (if D.eh=true then none else (aD D.now n).map fun i=>⟨i,0,none⟩)
theorem find_spec {n:Bs} (hs:Sat W0 (eB d D::F) w) :
 Calls Tryz.prog 139 #[ay d,str n] w fun x w'=>∃ ve,x=.returned (.tuple #[n5 D n,ve])∧Sat W0 (eB d D.tick::aH ve (bx D n)::F) w':=by
 obtain ⟨hok,z,hs⟩:=hs.fp
 refine enter Tryz.func139 rfl Tryz.ntmps139 Tryz.results139 rfl ?_
 dsimp only [gd,aX,List.cons_append,List.nil_append] at hs
 refine go ?_
 refine oP cS (k:=n) hs (.there .here) rfl rfl rfl zt rfl ?_
 rw [n4]
 refine go ?_
 refine ag (met (pU (Sat.db (z:=z) hok hs)) ?_)
 rintro _ w ⟨rfl,hs⟩
 refine ⟨_,rfl,?_⟩
 cases ht:D.eh with
 | true=>
  have e1:bx D n=some (some n,8):=by simp [bx,ht]
  have e2:n5 D n=.pointer none:=by simp [n5,ht]
  rw [e1,e2]
  refine go ?_
  refine bz [str n,.int .i64 8] ?_
  refine bR hs fun w b hs=>?_
  refine go ?_
  exact ah rfl ⟨_,rfl,hs.pT.to⟩
 | false=>
  cases hg:aD D.now n with
  | none=>
   have e1:bx D n=some (some n,10):=by simp [bx,ht,hg]
   have e2:n5 D n=.pointer none:=by simp [n5,ht,hg]
   rw [e1,e2]
   refine go ?_
   refine bz [str n,.int .i64 10] ?_
   refine bR hs fun w b hs=>?_
   refine go ?_
   exact ah rfl ⟨_,rfl,hs.pT.to⟩
  | some i=>
   have e1:bx D n=none:=by simp [bx,ht,hg]
   have e2:n5 D n=ay i:=by simp [n5,ht,hg]
   rw [e1,e2]
   refine go ?_
   exact ah rfl ⟨_,rfl,hs.ej.to⟩
end
section
open Go.Proofs.YtecibefflhomdaaGreatDoor.Pure (ae aD cz dI fG)
attribute [local irreducible] IntKind.wrap
variable {W0 w:World} {F l:List ax} {v:Value} {d:Nat} {D:ae}
theorem kW:∀ (l:List (Bs×Nat)) (n:Bs) (i:Nat),aW (cz l n i)=cz (aW l) n (ay i)
 | [],_,_=>rfl
 | (k,j)::r,n,i=>by
  simp only [aW,List.map_cons,cz]
  by_cases h:n=k
  ·simp [h]
  ·simp only [h,if_false,List.map_cons];rw [← aW,kW r n i];rfl
theorem u7:∀ (l:List (Bs×Nat)) (n:Bs),aW (dI l n)=dI (aW l) n
 | [],_=>rfl
 | (k,j)::r,n=>by
  simp only [aW,List.map_cons,dI]
  by_cases h:n=k
  ·simp [h]
  ·simp only [h,if_false,List.map_cons];rw [← aW,u7 r n];rfl
theorem JN {k:Nat}:∀ (xs:List (List Value)) (i:Nat) (x:List Value),(∀ y∈xs,y.length=k)→xs[i]?=some x→fS xs.flatten (i*k) x:=by
 have shift:∀ (pre cs vs:List Value) (o:Nat),fS cs o vs→fS (pre++cs) (pre.length+o) vs:=by
  intro pre cs vs
  induction vs with
  | nil=>intro o _;trivial
  | cons u r ih=>intro o ⟨h,hr⟩;exact ⟨by rw [List.getElem?_append_right (by omega),Nat.add_sub_cancel_left];exact h,by rw [Nat.add_assoc];exact ih _ hr⟩
 have pre:∀ (vs cs:List Value),fS (vs++cs) 0 vs:=by
  have key:∀ (vs pre cs:List Value),fS (pre++(vs++cs)) pre.length vs:=by
   intro vs
   induction vs with
   | nil=>intro _ _;trivial
   | cons v r ih=>intro p cs;exact ⟨by simp,by have:=ih (p++[v]) cs;simpa using this⟩
  exact fun vs cs=>key vs [] cs
 intro xs
 induction xs with
 | nil=>intro i x _ h;simp at h
 | cons y ys ih=>
  intro i x hl h
  cases i with
  | zero=>simp at h;subst h;rw [Nat.zero_mul,List.flatten_cons];exact pre _ _
  | succ i=>
   simp at h
   have:=shift y ys.flatten x (i*k) (ih i x (fun z hz=>hl z (List.mem_cons_of_mem _ hz)) h)
   rw [hl y List.mem_cons_self] at this
   rw [List.flatten_cons,Nat.succ_mul,Nat.add_comm];exact this
theorem Hl (m:List (Bs×Nat)) (mvs:List (Bs×Option Nat)) (i:Nat) (p:Bs×Option Nat) (h:mvs[i]?=some p) :
 fG m (mvs.take (i+1))=match p.2 with|none=>dI (fG m (mvs.take i)) p.1|some j=>cz (fG m (mvs.take i)) p.1 j:=by
 have hlt:=(List.getElem?_eq_some_iff.1 h).1
 have he:=(List.getElem?_eq_some_iff.1 h).2
 rw [List.take_succ_eq_append_getElem hlt,he]
 obtain ⟨a,o⟩:=p
 cases o<;>simp [fG,List.foldl_append]
theorem Bb {m:Nat} {kvs:List (Bs×Nat)} {mvs:List (Bs×Option Nat)} (hs:Sat W0 (aM cS m (aW kvs)::Ba v mvs::F) w) (hl:mvs.length<1000) :
 Calls Tryz.prog 54 #[.map (some m),v] w fun x w'=>x=.returned (.tuple #[])∧Sat W0 (aM cS m (aW (fG kvs mvs))::Ba v mvs::F) w':=by
 obtain ⟨b,c,rfl⟩:∃ b c,v=.slice (some ⟨b,0,none⟩) mvs.length c:=(hs.take (.there .here)).fT fun _ ⟨b,c,h,_⟩=>⟨b,c,h⟩
 refine enter Tryz.func54 rfl Tryz.ntmps54 Tryz.results54 rfl ?_
 refine go ?_
 refine aJ (α:=Nat) (fun i=>[(0,.map (some m)),(6,.slice (some ⟨b,0,none⟩) mvs.length c),(7,.int .i64 (mvs.length:Int)),(8,.int .i64 (i:Int))])
  (fun i w=>i≤mvs.length∧Sat W0 (aM cS m (aW (fG kvs (mvs.take i)))::Ba (.slice (some ⟨b,0,none⟩) mvs.length c) mvs::F) w) (fun i=>mvs.length-i) 0 ⟨rfl,rfl,rfl,rfl,trivial⟩ ⟨Nat.zero_le _,hs⟩ ?_
 clear hs
 rintro i w ⟨hi,hs⟩
 by_cases hlt:i<mvs.length
 ·have hg:mvs[i]?=some mvs[i]:=List.getElem?_eq_getElem hlt
  have hst:=Hl kvs mvs i _ hg
  generalize mvs[i]=p at hg hst
  obtain ⟨⟨b',c'⟩,hv,hs2⟩:=(Sat.xJ (B:=Ba (.slice (some ⟨b,0,none⟩) mvs.length c) mvs) (hs.take (.there .here)) (fun h k=>by
   obtain ⟨b',c',h1,h2⟩:=k
   refine ⟨fun j=>if j=b' then some (true,.cells (mvs.map u6).flatten.toArray 216 (0,0)) else none,fun j x hx=>?_,fun j x hx=>?_,b',c',h1,by simp⟩
   ·by_cases hj:j=b'
    ·subst hj;simp at hx;subst hx;exact h2
    ·simp [hj] at hx
   ·by_cases hj:j=b'
    ·subst hj;simp at hx;subst hx;rfl
    ·simp [hj] at hx)).e9 (α:=Nat×Nat) (φ:=fun z=>Value.slice (some ⟨b,0,none⟩) mvs.length c=.slice (some ⟨z.1,0,none⟩) mvs.length z.2) (B:=fun z=>[ob true z.1 (.cells (mvs.map u6).flatten.toArray 216 (0,0))]) fun hp ⟨b',c',h1,h2⟩=>
    ⟨(b',c'),h1,hp,fun _=>none,fun _ _ _ _ hy=>(by cases hy),Hp.le_refl _,fun _ _ hx=>(by cases hx),h2,trivial⟩
  obtain ⟨rfl,rfl⟩:b=b'∧c=c':=by simpa using hv
  dsimp only [List.cons_append,List.nil_append] at hs2
  have hseg:=JN (k:=2) (mvs.map u6) i (u6 p) (fun y hy=>by obtain ⟨q,_,rfl⟩:=List.mem_map.1 hy;rfl) (by simp [hg])
  refine go ?_
  refine cN (i:=i) rfl rfl rfl rfl rfl hlt rfl ?_
  refine dF (u6 p) hs2 rfl rfl rfl .here (by simpa using hseg) rfl ?_
  refine aS hs fun w b5 hs=>?_
  refine da (vs:=u6 p) hs fun w hs=>?_
  obtain ⟨nm,o⟩:=p
  cases o with
  | none=>
   refine go ?_
   refine xL cS (k:=nm) hs (.there .here) rfl rfl rfl fun w hs=>?_
   refine go ?_
   refine az (i+1) ⟨rfl,rfl,rfl,rfl,trivial⟩ ⟨hlt,?_⟩ (by omega)
   rw [hst,u7];exact hs.to
  | some j=>
   refine go ?_
   refine jo cS (k:=nm) hs (.there .here) rfl rfl rfl rfl fun w hs=>?_
   refine go ?_
   refine az (i+1) ⟨rfl,rfl,rfl,rfl,trivial⟩ ⟨hlt,?_⟩ (by omega)
   rw [hst,kW];exact hs.to
 ·have:i=mvs.length:=by omega
  subst this
  rw [List.take_length] at hs
  refine go ?_
  exact km rfl ⟨rfl,hs⟩
end
end Go.Proofs.YtecibefflhomdaaGreatDoor
