/-
  Part 9: PLAIN pairs in order; PLAIN several sorted lists, the newest first, and what they ; THE PURE DISK, PART 4 what each operation answers and leaves; WALKS package api.
-/
import Derived.Test.YtecibefflhomdaaGreatDoorU08
set_option maxHeartbeats 8000000
set_option maxRecDepth 100000
set_option linter.all false
namespace Go.Proofs.YtecibefflhomdaaGreatDoor.Pure
open Go
def valE:Option Ent→Option Bs
 | none=>none
 | some e=>if e.del=true then none else some e.val
theorem kept_sub (ms:List Nat) (b:Bool) (l:List Ent):(keptL ms b l).Sublist l:=by
 unfold keptL
 split
 ·exact List.filter_sublist.trans List.filter_sublist
 ·exact List.filter_sublist
theorem kept_srt {ms:List Nat} {b:Bool} {l:List Ent} (h:Srt l):Srt (keptL ms b l):=h.sublist (kept_sub ms b l)
theorem kept_seen {ms:List Nat} {b:Bool} {l:List Ent} {e:Ent} (h:e∈keptL ms b l):e∈kl ms l:=by
 unfold keptL at h
 split at h
 ·exact (List.mem_filter.1 h).1
 ·exact h
theorem kept_vis {ms:List Nat} {l:List Ent} (hl:Srt l) {k:Bs} {m:Nat} (hm:m∈ms):vis (keptL ms false l) k m=vis l k m:=by
 cases hv:vis l k m with
 | none=>exact vis_none.2 fun x hx=>vis_none.1 hv x ((kept_sub _ _ _).subset hx)
 | some e=>
  obtain ⟨a1,a2,a3⟩:=vis_some hv
  refine vis_of (kept_srt hl) ?_ a2 a3 fun x hx=>vis_max hl hv x ((kept_sub _ _ _).subset hx)
  show e∈kl ms l
  refine mem_kl.2 ⟨a1,?_⟩
  unfold seen
  rw [List.any_eq_true]
  exact ⟨m,hm,by rw [a2];simpa using hv⟩
theorem kept_val {ms:List Nat} {l:List Ent} (hl:Srt l) {k:Bs} {m:Nat} (hm:m∈ms):valE (vis (keptL ms true l) k m)=valE (vis l k m):=by
 cases hv:vis l k m with
 | none=>
  have:vis (keptL ms true l) k m=none:=vis_none.2 fun x hx=>vis_none.1 hv x ((kept_sub _ _ _).subset hx)
  rw [this]
 | some e=>
  obtain ⟨a1,a2,a3⟩:=vis_some hv
  have hk:e∈kl ms l:=mem_kl.2 ⟨a1,by
   unfold seen
   rw [List.any_eq_true]
   exact ⟨m,hm,by rw [a2];simpa using hv⟩⟩
  by_cases hh:holds (kl ms l) e=true
  ·have:vis (keptL ms true l) k m=some e:=vis_of (kept_srt hl) (List.mem_filter.2 ⟨hk,hh⟩) a2 a3 fun x hx=>vis_max hl hv x ((kept_sub _ _ _).subset hx)
   rw [this]
  ·have hd:e.del=true:=by
    cases hd:e.del with
    | true=>rfl
    | false=>exact absurd (List.any_eq_true.2 ⟨e,hk,by simp [hd]⟩) hh
   have:vis (keptL ms true l) k m=none:=vis_none.2 fun x hx hxk=>by
    rcases Nat.lt_or_ge m x.seq with h|h
    ·exact h
    ·have h1:=vis_max hl hv x ((kept_sub _ _ _).subset hx) hxk h
     have h2:holds (kl ms l) x=true:=(List.mem_filter.1 hx).2
     unfold holds at h2 hh
     obtain ⟨y,hy,h3⟩:=List.any_eq_true.1 h2
     simp only [Bool.and_eq_true,decide_eq_true_eq] at h3
     exact absurd (List.any_eq_true.2 ⟨y,hy,by
      simp only [Bool.and_eq_true,decide_eq_true_eq]
      exact ⟨⟨h3.1.1.trans (hxk.trans a2.symm),by omega⟩,h3.2⟩⟩) hh
   rw [this]
   simp [valE,hd]
abbrev SrtP (l:List (Bs×Bs)):Prop:=l.Pairwise fun a b=>bltB a.1 b.1=true
def lookP:List (Bs×Bs)→Bs→Option Bs
 | [],_=>none
 | p::r,k=>if p.1=k then some p.2 else lookP r k
theorem lookP_none {l:List (Bs×Bs)} {k:Bs} (h:∀ p∈l,p.1≠k):lookP l k=none:=by
 induction l with
 | nil=>rfl
 | cons p r ih=>
  unfold lookP
  rw [if_neg (h p List.mem_cons_self)]
  exact ih fun q hq=>h q (List.mem_cons_of_mem _ hq)
theorem lookP_some {l:List (Bs×Bs)} {k v:Bs} (h:lookP l k=some v):(k,v)∈l:=by
 induction l with
 | nil=>cases h
 | cons p r ih=>
  unfold lookP at h
  split at h
  ·rename_i hk;cases h;subst hk;exact List.mem_cons_self
  ·exact List.mem_cons_of_mem _ (ih h)
theorem lookP_mem {l:List (Bs×Bs)} (hl:SrtP l) {p:Bs×Bs} (h:p∈l):lookP l p.1=some p.2:=by
 induction l with
 | nil=>cases h
 | cons q r ih=>
  obtain ⟨q1,q2⟩:=List.pairwise_cons.1 hl
  unfold lookP
  rcases List.mem_cons.1 h with rfl|h
  ·simp
  ·rw [if_neg (bltB_ne (q1 p h))];exact ih q2 h
theorem pairs_ext:∀ {a b:List (Bs×Bs)},SrtP a→SrtP b→(∀ k,lookP a k=lookP b k)→a=b
 | [],[],_,_,_=>rfl
 | [],q::b,_,_,h=>by have:=h q.1;simp [lookP] at this
 | p::a,[],_,_,h=>by have:=h p.1;simp [lookP] at this
 | p::a,q::b,ha,hb,h=>by
  obtain ⟨p1,p2⟩:=List.pairwise_cons.1 ha
  obtain ⟨q1,q2⟩:=List.pairwise_cons.1 hb
  have e1:=h p.1
  have e2:=h q.1
  simp only [lookP,if_true] at e1 e2
  have hk:p.1=q.1:=by
   rcases bltB_total p.1 q.1 with h1|h1|h1
   ·rw [if_neg (Ne.symm (bltB_ne h1))] at e1
    have:=lookP_some e1.symm
    have:=q1 _ this
    rw [bltB_asymm h1] at this;cases this
   ·exact h1
   ·rw [if_neg (Ne.symm (bltB_ne h1))] at e2
    have:=lookP_some e2
    have:=p1 _ this
    rw [bltB_asymm h1] at this;cases this
  rw [if_pos hk.symm] at e1
  have hpq:p=q:=Prod.ext hk (Option.some.inj e1)
  subst hpq
  congr 1
  refine pairs_ext p2 q2 fun k=>?_
  have:=h k
  unfold lookP at this
  by_cases hpk:p.1=k
  ·subst hpk
   rw [lookP_none fun r hr=>Ne.symm (bltB_ne (p1 r hr)),lookP_none fun r hr=>Ne.symm (bltB_ne (q1 r hr))]
  ·rwa [if_neg hpk,if_neg hpk] at this
theorem lookP_filter {l:List (Bs×Bs)} (f:Bs→Bool) (k:Bs):lookP (l.filter fun p=>f p.1) k=if f k=true then lookP l k else none:=by
 induction l with
 | nil=>simp [lookP]
 | cons p r ih=>
  rw [List.filter_cons]
  by_cases hf:f p.1=true
  ·rw [if_pos hf]
   unfold lookP
   by_cases hk:p.1=k
   ·subst hk;simp [hf]
   ·rw [if_neg hk,if_neg hk,ih]
  ·rw [if_neg hf,ih]
   by_cases hk:p.1=k
   ·subst hk;simp [hf]
   ·rw [lookP,if_neg hk]
def setP (l:List (Bs×Bs)) (k v:Bs) (del:Bool):List (Bs×Bs):=
 (l.filter fun p=>bltB p.1 k)++(if del=true then [] else [(k,v)])++l.filter fun p=>bltB k p.1
theorem setP_srt {l:List (Bs×Bs)} (hl:SrtP l) (k v:Bs) (del:Bool):SrtP (setP l k v del):=by
 unfold setP
 refine List.pairwise_append.2 ⟨List.pairwise_append.2 ⟨hl.filter _,?_,?_⟩,hl.filter _,?_⟩
 ·split<;>simp
 ·intro a ha b hb
  split at hb
  ·cases hb
  ·simp at hb;subst hb;exact (List.mem_filter.1 ha).2
 ·intro a ha b hb
  have hb:=(List.mem_filter.1 hb).2
  rcases List.mem_append.1 ha with ha|ha
  ·exact bltB_trans (List.mem_filter.1 ha).2 hb
  ·split at ha
   ·cases ha
   ·simp at ha;subst ha;exact hb
theorem lookP_append (a b:List (Bs×Bs)) (k:Bs):lookP (a++b) k=(lookP a k).or (lookP b k):=by
 induction a with
 | nil=>rfl
 | cons p r ih=>
  simp only [List.cons_append,lookP]
  split
  ·rfl
  ·exact ih
theorem lookP_set (l:List (Bs×Bs)) (k v:Bs) (del:Bool) (x:Bs):lookP (setP l k v del) x=if x=k then (if del=true then none else some v) else lookP l x:=by
 unfold setP
 rw [lookP_append,lookP_append,lookP_filter (fun y=>bltB y k),lookP_filter (fun y=>bltB k y)]
 by_cases hx:x=k
 ·subst hx
  rw [bltB_irrefl]
  cases del<;>simp [lookP]
 ·have e1:lookP (if del=true then [] else [(k,v)]) x=none:=by split<;>simp [lookP,Ne.symm hx]
  rw [e1,if_neg hx]
  rcases bltB_total x k with h|h|h
  ·rw [h,bltB_asymm h];simp
  ·exact absurd h hx
  ·rw [h,bltB_asymm h];simp
def inHi (hi k:Bs):Bool:=decide (hi=[])||bltB k hi
def inLo (lo k:Bs):Bool:=!bltB k lo
def limT {α:Type} (limit:Int) (l:List α):List α:=if 0<limit then l.take limit.toNat else l
def betweenP (l:List (Bs×Bs)) (lo hi:Bs) (limit:Int):List (Bs×Bs):=limT limit (l.filter fun p=>inLo lo p.1&&inHi hi p.1)
def shown (l:List Ent) (m:Nat) (e:Ent):Option (Bs×Bs):=if vis l e.key m=some e then (if e.del=true then none else some (e.key,e.val)) else none
def pairsOf (l:List Ent) (m:Nat):List (Bs×Bs):=l.filterMap (shown l m)
theorem shown_key {l:List Ent} {m:Nat} {e:Ent} {p:Bs×Bs} (h:shown l m e=some p):p=(e.key,e.val)∧vis l e.key m=some e∧e.del=false:=by
 unfold shown at h
 split at h
 ·rename_i h1
  split at h
  ·cases h
  ·rename_i h2;exact ⟨(Option.some.inj h).symm,h1,by simpa using h2⟩
 ·cases h
theorem pairsOf_srt {l:List Ent} (hl:Srt l) (m:Nat):SrtP (pairsOf l m):=by
 unfold pairsOf
 rw [SrtP,List.pairwise_filterMap]
 refine hl.imp_of_mem fun {a b} ha hb hab p hp q hq=>?_
 obtain ⟨rfl,h1,-⟩:=shown_key hp
 obtain ⟨rfl,h2,-⟩:=shown_key hq
 rcases less_iff.1 hab with h|h
 ·exact h
 ·rw [h.1] at h1;rw [h1] at h2;cases h2;omega
theorem lookP_pairsOf {l:List Ent} (hl:Srt l) (m:Nat) (k:Bs):lookP (pairsOf l m) k=valE (vis l k m):=by
 cases hv:vis l k m with
 | none=>
  refine lookP_none fun p hp hk=>?_
  obtain ⟨e,he,hs⟩:=List.mem_filterMap.1 hp
  obtain ⟨rfl,h1,-⟩:=shown_key hs
  dsimp only at hk
  rw [hk,hv] at h1;cases h1
 | some e=>
  obtain ⟨a1,a2,a3⟩:=vis_some hv
  cases hd:e.del with
  | true=>
   simp only [valE,hd,if_true]
   refine lookP_none fun p hp hk=>?_
   obtain ⟨x,hx,hs⟩:=List.mem_filterMap.1 hp
   obtain ⟨rfl,h1,h2⟩:=shown_key hs
   dsimp only at hk
   rw [hk,hv] at h1;cases h1;rw [hd] at h2;cases h2
  | false=>
   simp only [valE,hd,Bool.false_eq_true,if_false]
   have:(e.key,e.val)∈pairsOf l m:=List.mem_filterMap.2 ⟨e,a1,by
    unfold shown;rw [a2,if_pos hv,hd];simp⟩
   have h2:=lookP_mem (pairsOf_srt hl m) this
   rw [a2] at h2;exact h2
structure Sc where
 out:List (Bs×Bs)
 last:Bs
 any:Bool
def scanP (hi:Bs) (limit:Int) (seq:Nat) (s:Sc) (e:Ent):Sc×Bool:=
 if (hi≠[]∧bltB e.key hi=false)∨(0<limit∧(s.out.length:Int)=limit) then (s,false) else
 if seq<e.seq∨(s.any=true∧e.key=s.last) then (s,true) else
 (⟨if e.del=true then s.out else s.out++[(e.key,e.val)],e.key,true⟩,true)
def foldB {σ:Type} (body:σ→Ent→σ×Bool):List Ent→σ→σ
 | [],s=>s
 | e::r,s=>if (body s e).2=true then foldB body r (body s e).1 else (body s e).1
structure ScInv (seq:Nat) (l p:List Ent) (s:Sc):Prop where
 out:s.out=p.filterMap (shown l seq)
 last:s.any=true→∃ z∈p,z.key=s.last∧z.seq≤seq∧∀ x∈p,x.seq≤seq→less z x=false∨x.key=z.key
 any:s.any=false→∀ x∈p,seq<x.seq
theorem scan_fold {hi:Bs} {limit:Int} {seq:Nat} {l:List Ent} (hs:Srt l):∀ (r p:List Ent) (s:Sc),l=p++r→ScInv seq l p s→(0<limit→(s.out.length:Int)≤limit)→(∀ x∈s.out,inHi hi x.1=true) →
 (foldB (scanP hi limit seq) r s).out=limT limit ((l.filterMap (shown l seq)).filter fun p=>inHi hi p.1)
 | [],p,s,hl,h,hlim,hhi=>by
  simp at hl;subst hl
  show s.out=_
  rw [← h.out,List.filter_eq_self.2 hhi]
  unfold limT
  split
  ·rename_i h0
   rw [List.take_of_length_le]
   have:=hlim h0;omega
  ·rfl
 | e::r,p,s,hl,h,hlim,hhi=>by
  have hrest:l.filterMap (shown l seq)=s.out++(e::r).filterMap (shown l seq):=by
   rw [h.out,← List.filterMap_append,← hl]
  obtain ⟨s1,s2,s3⟩:=srt_append (hl▸hs)
  unfold foldB scanP
  by_cases hb:(hi≠[]∧bltB e.key hi=false)∨(0<limit∧(s.out.length:Int)=limit)
  ·rw [if_pos hb]
   simp only [Bool.false_eq_true,if_false]
   rw [hrest,List.filter_append,List.filter_eq_self.2 hhi]
   rcases hb with ⟨hb1,hb2⟩|⟨hb1,hb2⟩
   ·have:((e::r).filterMap (shown l seq)).filter (fun p=>inHi hi p.1)=[]:=by
     rw [List.filter_eq_nil_iff]
     intro q hq
     obtain ⟨x,hx,hsx⟩:=List.mem_filterMap.1 hq
     obtain ⟨rfl,-,-⟩:=shown_key hsx
     have hxe:bltB x.key hi=false:=by
      rcases List.mem_cons.1 hx with rfl|hx
      ·exact hb2
      ·rcases less_iff.1 ((List.pairwise_cons.1 s2).1 x hx) with h1|h1
       ·exact ble_trans hb2 (bltB_asymm h1)
       ·rw [← h1.1];exact hb2
     simp [inHi,hb1,hxe]
    rw [this,List.append_nil]
    unfold limT
    split
    ·rename_i h0
     rw [List.take_of_length_le]
     have:=hlim h0;omega
    ·rfl
   ·unfold limT
    rw [if_pos hb1,List.take_left' (by omega)]
  ·rw [if_neg hb]
   have hin:inHi hi e.key=true:=by
    unfold inHi
    by_cases hh:hi=[]
    ·simp [hh]
    ·cases hx:bltB e.key hi with
     | true=>simp
     | false=>exact absurd (.inl ⟨hh,hx⟩) hb
   have hlt:0<limit→(s.out.length:Int)<limit:=fun h0=>by
    have:=hlim h0
    have h2:¬ (s.out.length:Int)=limit:=fun h3=>hb (.inr ⟨h0,h3⟩)
    omega
   have hvis:vis l e.key seq=some e↔e.seq≤seq∧∀ x∈p,x.key=e.key→seq<x.seq:=by
    rw [hl,vis_app]
    have hcons:vis (e::r) e.key seq=if e.seq≤seq then some e else vis r e.key seq:=by
     unfold vis;rw [List.find?_cons];by_cases h:e.seq≤seq<;>simp [h]
    rw [hcons]
    constructor
    ·intro hh
     cases hv:vis p e.key seq with
     | some x=>
      rw [hv] at hh;simp at hh;subst hh
      have:=s3 x (vis_some hv).1 x (by simp)
      rw [less_irrefl] at this;cases this
     | none=>
      rw [hv] at hh
      simp only [Option.none_or] at hh
      refine ⟨?_,vis_none.1 hv⟩
      by_cases hle:e.seq≤seq
      ·exact hle
      ·rw [if_neg hle] at hh;exact (vis_some hh).2.2
    ·rintro ⟨h1,h2⟩
     rw [vis_none.2 h2,if_pos h1];rfl
   by_cases hsk:seq<e.seq∨(s.any=true∧e.key=s.last)
   ·rw [if_pos hsk]
    simp only [if_true]
    have hnot:shown l seq e=none:=by
     unfold shown
     rw [if_neg]
     rw [hvis]
     rintro ⟨h1,h2⟩
     rcases hsk with h3|⟨h3,h4⟩
     ·omega
     ·obtain ⟨z,hz,z1,z2,-⟩:=h.last h3
      have:=h2 z hz (z1.trans h4.symm)
      omega
    refine scan_fold hs r (p++[e]) s (by rw [hl];simp) ⟨?_,fun ha=>?_,fun ha x hx=>?_⟩ hlim hhi
    ·rw [List.filterMap_append,h.out];simp [hnot]
    ·obtain ⟨z,hz,z1,z2,z3⟩:=h.last ha
     refine ⟨z,List.mem_append_left _ hz,z1,z2,fun x hx hxs=>?_⟩
     rcases List.mem_append.1 hx with hx|hx
     ·exact z3 x hx hxs
     ·simp at hx;subst hx
      rcases hsk with h3|⟨_,h4⟩
      ·omega
      ·exact .inr (h4.trans z1.symm)
    ·rcases List.mem_append.1 hx with hx|hx
     ·exact h.any ha x hx
     ·simp at hx;subst hx
      rcases hsk with h3|⟨h3,_⟩
      ·exact h3
      ·rw [ha] at h3;cases h3
   ·rw [if_neg hsk]
    simp only [if_true]
    have hle:e.seq≤seq:=by omega
    have hv:vis l e.key seq=some e:=hvis.2 ⟨hle,fun x hx hk=>by
     rcases Nat.lt_or_ge seq x.seq with h1|h1
     ·exact h1
     ·cases ha:s.any with
      | false=>exact h.any ha x hx
      | true=>
       obtain ⟨z,hz,z1,z2,z3⟩:=h.last ha
       have hne:¬ e.key=s.last:=fun h3=>hsk (.inr ⟨ha,h3⟩)
       rcases z3 x hx h1 with h2|h2
       ·
        have h4:=s3 z hz e (by simp)
        exfalso
        rcases less_iff.1 h4 with h4|h4
        ·rw [← hk] at h4
         rw [less_iff.2 (.inl h4)] at h2;cases h2
        ·exact hne (h4.1.symm.trans z1)
       ·exact absurd (hk.symm.trans (h2.trans z1)) hne⟩
    have hsh:shown l seq e=if e.del=true then none else some (e.key,e.val):=by unfold shown;rw [if_pos hv]
    refine scan_fold hs r (p++[e]) _ (by rw [hl];simp) ⟨?_,fun _=>?_,fun ha=>by cases ha⟩ ?_ ?_
    ·rw [List.filterMap_append,← h.out]
     cases hd:e.del<;>simp [hsh,hd]
    ·refine ⟨e,by simp,rfl,hle,fun x hx _=>?_⟩
     rcases List.mem_append.1 hx with hx|hx
     ·exact .inl (less_asymm (s3 x hx e (by simp)))
     ·simp at hx;subst hx;exact .inr rfl
    ·intro h0
     have:=hlt h0
     cases hd:e.del<;>simp<;>omega
    ·intro x hx
     cases hd:e.del with
     | true=>rw [hd] at hx;simp at hx;exact hhi x hx
     | false=>
      rw [hd] at hx;simp at hx
      rcases hx with hx|rfl
      ·exact hhi x hx
      ·exact hin
def sc0:Sc:=⟨[],[],false⟩
theorem scan_eq {lo hi:Bs} {limit:Int} {seq:Nat} {l:List Ent} {ps:List (Bs×Bs)} (hs:Srt l) (hlo:∀ e∈l,inLo lo e.key=true) (hp:SrtP ps)
 (h:∀ k,inLo lo k=true→valE (vis l k seq)=lookP ps k):(foldB (scanP hi limit seq) l sc0).out=betweenP ps lo hi limit:=by
 rw [scan_fold hs l [] sc0 rfl ⟨rfl,fun h=>(by cases h),fun _ x hx=>(by cases hx)⟩ (fun h0=>by show ((0:Nat):Int)≤limit;omega) (fun x hx=>by cases hx)]
 unfold betweenP
 congr 1
 have e1:l.filterMap (shown l seq)=ps.filter fun p=>inLo lo p.1:=by
  refine pairs_ext (pairsOf_srt hs seq) (hp.filter _) fun k=>?_
  show lookP (pairsOf l seq) k=_
  rw [lookP_pairsOf hs,lookP_filter]
  by_cases hk:inLo lo k=true
  ·rw [if_pos hk,h k hk]
  ·rw [if_neg hk]
   have:vis l k seq=none:=vis_none.2 fun e he hek=>absurd (hek▸hlo e he) hk
   rw [this];rfl
 rw [e1,List.filter_filter]
 congr 1
 funext p
 rw [Bool.and_comm]
def visL (ls:List (List Ent)) (k:Bs) (m:Nat):Option Ent:=ls.findSome? fun l=>vis l k m
abbrev Newer (a b:List Ent):Prop:=∀ x∈a,∀ y∈b,x.key=y.key→y.seq<x.seq
abbrev Ord (ls:List (List Ent)):Prop:=ls.Pairwise Newer
theorem visL_cons (l:List Ent) (ls:List (List Ent)) (k:Bs) (m:Nat):visL (l::ls) k m=(vis l k m).or (visL ls k m):=by
 unfold visL;rw [List.findSome?_cons];cases vis l k m<;>rfl
theorem visL_append (a b:List (List Ent)) (k:Bs) (m:Nat):visL (a++b) k m=(visL a k m).or (visL b k m):=by
 unfold visL;rw [List.findSome?_append]
theorem visL_none {ls:List (List Ent)} {k:Bs} {m:Nat}:visL ls k m=none↔∀ l∈ls,∀ e∈l,e.key=k→m<e.seq:=by
 unfold visL
 rw [List.findSome?_eq_none_iff]
 constructor
 ·intro h l hl;exact vis_none.1 (h l hl)
 ·intro h l hl;exact vis_none.2 (h l hl)
theorem visL_some {ls:List (List Ent)} {k:Bs} {m:Nat} {e:Ent} (h:visL ls k m=some e):∃ l∈ls,vis l k m=some e:=by
 unfold visL at h
 obtain ⟨l,hl,hv⟩:=List.exists_of_findSome?_eq_some h
 exact ⟨l,hl,hv⟩
theorem visL_max {ls:List (List Ent)} (hs:∀ l∈ls,Srt l) (ho:Ord ls) {k:Bs} {m:Nat} {e:Ent} (h:visL ls k m=some e):∀ l∈ls,∀ x∈l,x.key=k→x.seq≤m→x.seq≤e.seq:=by
 induction ls with
 | nil=>intro l hl;cases hl
 | cons a r ih=>
  obtain ⟨o1,o2⟩:=List.pairwise_cons.1 ho
  rw [visL_cons] at h
  intro l hl x hx hk hm
  cases hv:vis a k m with
  | some z=>
   rw [hv] at h;simp at h;subst h
   rcases List.mem_cons.1 hl with rfl|hl
   ·exact vis_max (hs _ List.mem_cons_self) hv x hx hk hm
   ·have:=o1 l hl z (vis_some hv).1 x hx ((vis_some hv).2.1.trans hk.symm);omega
  | none=>
   rw [hv] at h;simp only [Option.none_or] at h
   rcases List.mem_cons.1 hl with rfl|hl
   ·have:=vis_none.1 hv x hx hk;omega
   ·exact ih (fun l hl=>hs l (List.mem_cons_of_mem _ hl)) o2 h l hl x hx hk hm
theorem vis_merged {ls:List (List Ent)} {L:List Ent} (hs:∀ l∈ls,Srt l) (ho:Ord ls) (hL:Srt L) (hm:∀ e,e∈L↔∃ l∈ls,e∈l) (k:Bs) (m:Nat):vis L k m=visL ls k m:=by
 cases hv:visL ls k m with
 | none=>
  exact vis_none.2 fun x hx hk=>by
   obtain ⟨l,hl,hxl⟩:=(hm x).1 hx
   exact visL_none.1 hv l hl x hxl hk
 | some e=>
  obtain ⟨l,hl,h1⟩:=visL_some hv
  obtain ⟨a1,a2,a3⟩:=vis_some h1
  refine vis_of hL ((hm e).2 ⟨l,hl,a1⟩) a2 a3 fun x hx hk hxm=>?_
  obtain ⟨l',hl',hxl⟩:=(hm x).1 hx
  exact visL_max hs ho hv l' hl' x hxl hk hxm
theorem vis_filter (l:List Ent) (f:Bs→Bool) (k:Bs) (m:Nat):vis (l.filter fun e=>f e.key) k m=if f k=true then vis l k m else none:=by
 induction l with
 | nil=>simp [vis]
 | cons e r ih=>
  unfold vis at *
  rw [List.filter_cons,List.find?_cons]
  by_cases hk:e.key=k
  ·subst hk
   by_cases hf:f e.key=true
   ·rw [if_pos hf,List.find?_cons,ih]
    simp [hf]
   ·rw [if_neg hf,ih];simp [hf]
  ·by_cases hf:f e.key=true
   ·rw [if_pos hf,List.find?_cons,ih];simp [hk]
   ·rw [if_neg hf,ih];simp [hk]
def setR (k v:Bs):Bool→List (Bs×Bs)→List (Bs×Bs)
 | put,[]=>if put=true then [] else [(k,v)]
 | put,p::r=>(if put=false∧bltB p.1 k=false then [(k,v)] else [])++((if p.1≠k then [p] else [])++setR k v (put||!bltB p.1 k) r)
theorem setR_true (k v:Bs):∀ l:List (Bs×Bs),setR k v true l=l.filter fun p=>decide (p.1≠k)
 | []=>rfl
 | p::r=>by
  unfold setR
  rw [List.filter_cons]
  simp only [Bool.true_or,setR_true k v r]
  by_cases h:p.1=k<;>simp [h]
theorem setR_eq (k v:Bs) (del:Bool):∀ {l:List (Bs×Bs)},SrtP l→setR k v del l=setP l k v del
 | [],_=>by cases del<;>simp [setR,setP]
 | p::r,hl=>by
  obtain ⟨p1,p2⟩:=List.pairwise_cons.1 hl
  have ih:=setR_eq k v del p2
  unfold setR
  cases hb:bltB p.1 k with
  | true=>
   have hne:=bltB_ne hb
   have has:=bltB_asymm hb
   simp only [Bool.true_eq_false,and_false,if_false,List.nil_append,ne_eq,hne,not_false_eq_true,if_true,Bool.not_true,Bool.or_false,ih]
   unfold setP
   rw [List.filter_cons,List.filter_cons,hb,has]
   simp
  | false=>
   have hall:∀ q∈r,bltB k q.1=true:=fun q hq=>by
    have:=p1 q hq
    exact bltB_le_trans hb this
   have hf1:r.filter (fun q=>bltB q.1 k)=[]:=by
    rw [List.filter_eq_nil_iff];intro q hq;rw [bltB_asymm (hall q hq)];simp
   have hf2:r.filter (fun q=>bltB k q.1)=r:=List.filter_eq_self.2 hall
   have hf3:r.filter (fun q=>decide (q.1≠k))=r:=List.filter_eq_self.2 fun q hq=>by
    simpa using Ne.symm (bltB_ne (hall q hq))
   simp only [Bool.not_false,Bool.or_true,setR_true,hf3,and_true]
   unfold setP
   rw [List.filter_cons,List.filter_cons,hb,hf1,hf2]
   rcases bltB_total p.1 k with h|h|h
   ·rw [hb] at h;cases h
   ·subst h
    rw [bltB_irrefl]
    cases del<;>simp
   ·rw [h]
    have hne:=Ne.symm (bltB_ne h)
    cases del<;>simp [hne]
structure Chg where
 key:Bs
 val:Bs
 del:Bool
deriving DecidableEq
def doP (l:List (Bs×Bs)) (b:List Chg):List (Bs×Bs):=b.foldl (fun l c=>setP l c.key c.val c.del) l
theorem doP_srt:∀ (b:List Chg) {l:List (Bs×Bs)},SrtP l→SrtP (doP l b)
 | [],_,h=>h
 | c::b,_,h=>doP_srt b (setP_srt h c.key c.val c.del)
def chgE (c:Chg) (q:Nat):Ent:=⟨c.key,c.val,c.del,q⟩
def batchE:Nat→List Chg→List Ent
 | _,[]=>[]
 | q,c::r=>chgE c (q+1)::batchE (q+1) r
theorem batchE_seq:∀ (b:List Chg) (q:Nat) (e:Ent),e∈batchE q b→q<e.seq∧e.seq≤q+b.length
 | [],_,e,h=>by cases h
 | c::r,q,e,h=>by
  rcases List.mem_cons.1 h with rfl|h
  ·simp [chgE]
  ·have:=batchE_seq r (q+1) e h
   simp;omega
@[simp] theorem batchE_length:∀ (b:List Chg) (q:Nat),(batchE q b).length=b.length
 | [],_=>rfl
 | c::r,q=>by simp [batchE,batchE_length r]
theorem add_vis {l:List Ent} {e:Ent} (hl:Srt l) (hn:∀ x∈l,x.seq<e.seq) (k:Bs) (m:Nat):vis (addL l e) k m=if e.key=k∧e.seq≤m then some e else vis l k m:=by
 have hs:=addL_srt (e:=e) hl fun x hx h=>by have:=hn x hx;omega
 by_cases h:e.key=k∧e.seq≤m
 ·rw [if_pos h]
  refine vis_of hs (addL_mem.2 (.inl rfl)) h.1 h.2 fun x hx _ _=>?_
  rcases addL_mem.1 hx with rfl|hx
  ·exact Nat.le_refl _
  ·exact Nat.le_of_lt (hn x hx)
 ·rw [if_neg h]
  cases hv:vis l k m with
  | none=>
   exact vis_none.2 fun x hx hk=>by
    rcases addL_mem.1 hx with rfl|hx
    ·simpa [hk] using h
    ·exact vis_none.1 hv x hx hk
  | some z=>
   obtain ⟨a1,a2,a3⟩:=vis_some hv
   refine vis_of hs (addL_mem.2 (.inr a1)) a2 a3 fun x hx hk hm=>?_
   rcases addL_mem.1 hx with rfl|hx
   ·exact absurd ⟨hk,hm⟩ h
   ·exact vis_max hl hv x hx hk hm
theorem adds_srt:∀ (b:List Chg) {q:Nat} {l:List Ent},Srt l→(∀ x∈l,x.seq≤q)→Srt ((batchE q b).foldl addL l)
 | [],_,_,h,_=>h
 | c::r,q,l,h,hq=>adds_srt r (addL_srt h fun x hx hh=>by have:=hq x hx;simp [chgE] at hh;omega) fun x hx=>by
  rcases addL_mem.1 hx with rfl|hx
  ·exact Nat.le_refl _
  ·have:=hq x hx;omega
theorem adds_mem:∀ (b:List Ent) {l:List Ent} {x:Ent},x∈b.foldl addL l↔x∈b∨x∈l
 | [],_,_=>by simp
 | c::r,l,x=>by
  rw [List.foldl_cons,adds_mem r,addL_mem,List.mem_cons]
  constructor
  ·rintro (h|h|h)
   ·exact .inl (.inr h)
   ·exact .inl (.inl h)
   ·exact .inr h
  ·rintro ((h|h)|h)
   ·exact .inr (.inl h)
   ·exact .inl h
   ·exact .inr (.inr h)
@[simp] theorem adds_length:∀ (b:List Ent) (l:List Ent),(b.foldl addL l).length=l.length+b.length
 | [],_=>rfl
 | c::r,l=>by rw [List.foldl_cons,adds_length r,addL_length,List.length_cons];omega
theorem adds_vis_old:∀ (b:List Chg) {q:Nat} {l:List Ent} (k:Bs) (m:Nat),Srt l→(∀ x∈l,x.seq≤q)→m≤q→vis ((batchE q b).foldl addL l) k m=vis l k m
 | [],_,_,_,_,_,_,_=>rfl
 | c::r,q,l,k,m,h,hq,hm=>by
  have hs:=addL_srt (e:=chgE c (q+1)) h fun x hx hh=>by have:=hq x hx;simp [chgE] at hh;omega
  rw [batchE,List.foldl_cons,adds_vis_old r k m hs (fun x hx=>by
   rcases addL_mem.1 hx with rfl|hx
   ·exact Nat.le_refl _
   ·have:=hq x hx;omega) (by omega),add_vis h (fun x hx=>by have:=hq x hx;simp [chgE];omega)]
  rw [if_neg (by simp [chgE];omega)]
theorem adds_val_new:∀ (b:List Chg) {q:Nat} {l:List Ent} (k:Bs) (m:Nat) (ps:List (Bs×Bs)) (below:Option Ent),Srt l→(∀ x∈l,x.seq≤q)→q+b.length≤m →
 valE ((vis l k m).or below)=lookP ps k→valE ((vis ((batchE q b).foldl addL l) k m).or below)=lookP (doP ps b) k
 | [],_,_,_,_,_,_,_,_,_,h=>h
 | c::r,q,l,k,m,ps,below,h,hq,hm,hv=>by
  have hs:=addL_srt (e:=chgE c (q+1)) h fun x hx hh=>by have:=hq x hx;simp [chgE] at hh;omega
  rw [batchE,List.foldl_cons]
  simp only [List.length_cons] at hm
  refine adds_val_new r k m (setP ps c.key c.val c.del) below hs (fun x hx=>by
   rcases addL_mem.1 hx with rfl|hx
   ·exact Nat.le_refl _
   ·have:=hq x hx;omega) (by omega) ?_
  rw [add_vis h (fun x hx=>by have:=hq x hx;simp [chgE];omega),lookP_set]
  by_cases hk:k=c.key
  ·subst hk
   rw [if_pos ⟨rfl,by simp [chgE];omega⟩,if_pos rfl]
   simp [valE,chgE]
  ·rw [if_neg (by simp [chgE];intro h;exact absurd h.symm hk),if_neg hk]
   exact hv
end Go.Proofs.YtecibefflhomdaaGreatDoor.Pure
namespace Go.Proofs.YtecibefflhomdaaGreatDoor
open Go
section
open Go.Proofs.YtecibefflhomdaaGreatDoor.Pure (PDisk aget aput adel setM aget_put aget_del aget_mem nodup_put nodup_del aget_of_mem aget_none_iff)
def findE (D:PDisk) (n:Bs):Option (Option Bs×Nat):=if D.trips=true then some (some n,8) else match aget D.now n with|none=>some (some n,10)|some _=>none
abbrev Err:=Option Bs×Nat
def onFile (D:PDisk) (n:Bs) (f:Nat→PDisk):PDisk:=match findE D n with
 | some _=>D.tick
 | none=>match aget D.now n with
  | some i=>f i
  | none=>D.tick
def safeOf (D:PDisk) (i:Nat):Nat:=match aget D.nodes i with|some x=>x.2|none=>0
def appendE (D:PDisk) (n bs:Bs):Option Err:=match findE D n with
 | some e=>some e
 | none=>if (bs.length:Int) > D.room-D.used then some (some n,9) else none
def appended (D:PDisk) (n bs:Bs):PDisk:=match appendE D n bs with
 | some _=>D.tick
 | none=>match aget D.now n with
  | some i=>D.tick.laid i (D.dataOf i++bs,safeOf D i)
  | none=>D.tick
def pieceB (bs:Bs) (at_ n:Int):Bs:=(bs.drop (min (max at_ 0) bs.length).toNat).take (min (max n 0) (bs.length-min (max at_ 0) bs.length)).toNat
def counted (D:PDisk) (n:Int):PDisk:={ D with reads:=IntKind.i64.wrap (D.reads+1),most:=max D.most n }
def syncdirR (D:PDisk):PDisk:=if D.trips=true then D.tick else D.tick.synced
def newDisk (room:Int):PDisk:=⟨[],[],[],[],room,0,0,0,0⟩
def fresh (D:PDisk):Nat:=(D.nodes.map (·.1)).foldl max 0+1
theorem le_foldl_max:∀ (l:List Nat) (m:Nat),m≤l.foldl max m∧∀ x∈l,x≤l.foldl max m
 | [],m=>⟨Nat.le_refl _,by simp⟩
 | y::l,m=>by
  obtain ⟨h1,h2⟩:=le_foldl_max l (max m y)
  refine ⟨Nat.le_trans (Nat.le_max_left m y) h1,fun x hx=>?_⟩
  rcases List.mem_cons.1 hx with rfl|hx
  ·exact Nat.le_trans (Nat.le_max_right m x) h1
  ·exact h2 x hx
theorem fresh_none (D:PDisk):aget D.nodes (fresh D)=none:=by
 rw [aget_none_iff]
 intro h
 have:=(le_foldl_max (D.nodes.map (·.1)) 0).2 _ h
 unfold fresh at this
 omega
def createE (D:PDisk) (n:Bs):Option Err:=if D.trips=true then some (some n,8) else if (aget D.now n).isSome=true then some (some n,11) else none
def createD (D:PDisk) (n:Bs):PDisk:=if D.trips=true then D.tick else if (aget D.now n).isSome=true then D.tick else D.tick.created n (fresh D.tick)
def fileOf (D:PDisk) (n:Bs):Bs:=match aget D.now n with|some i=>D.dataOf i|none=>[]
def sizeB (D:PDisk) (n:Bs):Nat:=match findE D n with|some _=>0|none=>(fileOf D n).length
def syncD (D:PDisk) (n:Bs):PDisk:=onFile D n fun i=>D.tick.laid i (D.dataOf i,(D.dataOf i).length)
def removeD (D:PDisk) (n:Bs):PDisk:=onFile D n fun _=>D.tick.removed n
def renameD (D:PDisk) (n m:Bs):PDisk:=onFile D n fun i=>if n=m then D.tick else D.tick.renamed n m i
def readD (D:PDisk) (nm:Bs) (at_ n:Int):Bs:=match findE D nm with
 | some _=>[]
 | none=>pieceB (fileOf D nm) at_ n
end
section
open Go.Proofs.YtecibefflhomdaaGreatDoor.Pure (PDisk aget aput adel setM)
attribute [local irreducible] IntKind.wrap
abbrev idV (i:Nat):Value:=.pointer (some ⟨i,0,none⟩)
def nodeC (p:Nat×(Bs×Nat)):HProp:=fun h=>∃ v,sepL [blk p.1 116 [v,.int .i64 (p.2.2:Int)],bytS v p.2.1] h
def moveC (p:Bs×Option Nat):List Value:=[str p.1,.pointer (p.2.map fun i=>⟨i,0,none⟩)]
def mvV (v:Value) (m:List (Bs×Option Nat)):HProp:=fun h=>∃ b c,v=.slice (some ⟨b,0,none⟩) m.length c∧h b=some (true,.cells (m.map moveC).flatten.toArray 216 (0,0))
def movesC (v:Value) (ms:List (List (Bs×Option Nat))):HProp:=fun h=>∃ vs,vs.length=ms.length∧sepL [ownS 1 v 143 ms.length vs,star (List.zipWith mvV vs ms)] h
def namesV (l:List (Bs×Nat)):List (Bs×Value):=l.map fun p=>(p.1,idV p.2)
structure DV where
 bn:Nat
 bs:Nat
 mv:Value
abbrev diskCells (z:DV) (D:PDisk):List Value:=[.map (some z.bn),.map (some z.bs),z.mv,.int .i64 D.room,.int .i64 D.wait,.int .i64 D.bad,.int .i64 D.reads,.int .i64 D.most]
abbrev diskL (d:Nat) (z:DV) (D:PDisk):List HProp:=[blk d 111 (diskCells z D),mapH keyS z.bn (namesV D.now),mapH keyS z.bs (namesV D.safe),movesC z.mv D.moves,star (D.nodes.map nodeC)]
def DiskR (d:Nat) (D:PDisk):HProp:=fun h=>D.Ok∧∃ z,sepL (diskL d z D) h
def errC (v:Value):Option (Option Bs×Nat)→HProp
 | none=>fun _=>v=.nilIface
 | some (none,k)=>fun _=>v=.iface 44 (.int .i64 (k:Int))
 | some (some s,k)=>fun h=>∃ b,v=.iface 249 (.pointer (some ⟨b,0,none⟩))∧h b=some (true,.cells [str s,.int .i64 (k:Int)].toArray 251 (0,0))
variable {W0 w:World} {F l:List HProp} {v:Value} {d:Nat} {D:PDisk}
theorem Sat.diskOpen (h:Sat W0 (DiskR d D::F) w):D.Ok∧∃ z,Sat W0 (diskL d z D++F) w:=by
 have h1:D.Ok:=h.pure1 fun _ k=>k.1
 obtain ⟨z,_,hs⟩:=h.open1 (φ:=fun _:DV=>True) (B:=fun z=>diskL d z D) fun hp ⟨_,z,k⟩=>⟨z,trivial,k⟩
 exact ⟨h1,z,hs⟩
theorem Sat.diskClose {z:DV} (hok:D.Ok) (h:Sat W0 (diskL d z D++F) w):Sat W0 (DiskR d D::F) w:=Sat.close h fun hp k=>⟨hok,z,k⟩
theorem aget_namesV:∀ (l:List (Bs×Nat)) (n:Bs),aget (namesV l) n=(aget l n).map idV
 | [],_=>rfl
 | (k,i)::r,n=>by
  unfold namesV
  simp only [List.map_cons,aget]
  by_cases h:n=k
  ·simp [h]
  ·simp only [h,if_false];exact aget_namesV r n
theorem Sat.errNew {s:Bs} {k b:Nat} (h:Sat W0 (blk b 251 [str s,.int .i64 (k:Int)]::F) w):Sat W0 (errC (.iface 249 (.pointer (some ⟨b,0,none⟩))) (some (some s,k))::F) w:=h.share.head fun hp k=>⟨b,rfl,k⟩
theorem Sat.errNil (h:Sat W0 F w):Sat W0 (errC .nilIface none::F) w:=h.imp fun hp r=>⟨fun _=>none,hp,fun _ _ _ hx=>(by cases hx),fun _ _ hx=>(by cases hx),Hp.le_refl _,rfl,r⟩
theorem fails_spec (hs:Sat W0 (DiskR d D::F) w) :
 Calls Tryz.prog 141 #[idV d] w fun x w'=>x=.returned (.bool D.trips)∧Sat W0 (DiskR d D.tick::F) w':=by
 obtain ⟨hok,z,hs⟩:=hs.diskOpen
 have hok':=hok.tick
 have:=hok.wait1
 have:=hok.bad1
 dsimp only [diskL,diskCells,List.cons_append,List.nil_append] at hs
 refine enter Tryz.func141 rfl Tryz.ntmps141 Tryz.results141 rfl ?_
 by_cases h1:D.wait > 0
 ·have e1:D.trips=false:=by simp [PDisk.trips];omega
  have e2:D.tick={ D with wait:=D.wait-1 }:=by unfold PDisk.tick;rw [if_pos h1]
  rw [e1];rw [e2] at hok' ⊢
  refine go ?_
  refine w_st hs fun w hs=>?_
  refine go ?_
  exact wq_ret rfl ⟨rfl,Sat.diskClose (z:=z) hok' hs⟩
 ·by_cases h2:D.bad > 0
  ·have e1:D.trips=true:=by simp [PDisk.trips];omega
   have e2:D.tick={ D with bad:=D.bad-1 }:=by unfold PDisk.tick;rw [if_neg h1,if_pos h2]
   rw [e1];rw [e2] at hok' ⊢
   refine go ?_
   refine w_st hs fun w hs=>?_
   refine go ?_
   exact wq_ret rfl ⟨rfl,Sat.diskClose (z:=z) hok' hs⟩
  ·have e1:D.trips=false:=by simp [PDisk.trips];omega
   have e2:D.tick=D:=by unfold PDisk.tick;rw [if_neg h1,if_neg h2]
   rw [e1,e2]
   refine go ?_
   exact wq_ret rfl ⟨rfl,Sat.diskClose (z:=z) hok hs⟩
def findP (D:PDisk) (n:Bs):Value:=.pointer (if D.trips=true then none else (aget D.now n).map fun i=>⟨i,0,none⟩)
theorem find_spec {n:Bs} (hs:Sat W0 (DiskR d D::F) w) :
 Calls Tryz.prog 139 #[idV d,str n] w fun x w'=>∃ ve,x=.returned (.tuple #[findP D n,ve])∧Sat W0 (DiskR d D.tick::errC ve (findE D n)::F) w':=by
 obtain ⟨hok,z,hs⟩:=hs.diskOpen
 refine enter Tryz.func139 rfl Tryz.ntmps139 Tryz.results139 rfl ?_
 dsimp only [diskL,diskCells,List.cons_append,List.nil_append] at hs
 refine go ?_
 refine wl_lookup keyS (k:=n) hs (.there .here) rfl rfl rfl zero113 rfl ?_
 rw [aget_namesV]
 refine go ?_
 refine w_call (met (fails_spec (Sat.diskClose (z:=z) hok hs)) ?_)
 rintro _ w ⟨rfl,hs⟩
 refine ⟨_,rfl,?_⟩
 cases ht:D.trips with
 | true=>
  have e1:findE D n=some (some n,8):=by simp [findE,ht]
  have e2:findP D n=.pointer none:=by simp [findP,ht]
  rw [e1,e2]
  refine go ?_
  refine w_build [str n,.int .i64 8] ?_
  refine w_box hs fun w b hs=>?_
  refine go ?_
  exact wq_ret rfl ⟨_,rfl,hs.errNew.to⟩
 | false=>
  cases hg:aget D.now n with
  | none=>
   have e1:findE D n=some (some n,10):=by simp [findE,ht,hg]
   have e2:findP D n=.pointer none:=by simp [findP,ht,hg]
   rw [e1,e2]
   refine go ?_
   refine w_build [str n,.int .i64 10] ?_
   refine w_box hs fun w b hs=>?_
   refine go ?_
   exact wq_ret rfl ⟨_,rfl,hs.errNew.to⟩
  | some i=>
   have e1:findE D n=none:=by simp [findE,ht,hg]
   have e2:findP D n=idV i:=by simp [findP,ht,hg]
   rw [e1,e2]
   refine go ?_
   exact wq_ret rfl ⟨_,rfl,hs.errNil.to⟩
end
end Go.Proofs.YtecibefflhomdaaGreatDoor
