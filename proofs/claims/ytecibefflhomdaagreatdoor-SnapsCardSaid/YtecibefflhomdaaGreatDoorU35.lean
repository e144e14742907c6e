/-
  Part 35: PLAIN settle; PLAIN flush, compact.
-/
import Derived.Test.YtecibefflhomdaaGreatDoorU34
set_option maxHeartbeats 8000000
set_option maxRecDepth 100000
set_option linter.all false
namespace Go.Proofs.YtecibefflhomdaaGreatDoor
open Go
section
open Go.Proofs.YtecibefflhomdaaGreatDoor.Pure
theorem Alike.refl (s:St):Alike s s:=⟨rfl,rfl,rfl,rfl⟩
theorem Alike.trans {a b c:St} (h:Alike a b) (k:Alike b c):Alike a c:=⟨k.mem.trans h.mem,k.seq.trans h.seq,k.snaps.trans h.snaps,k.snap.trans h.snap⟩
theorem Alike.moments {a b:St} (h:Alike a b):momentsS b=momentsS a:=by unfold momentsS;rw [h.snaps]
theorem SameV.cons {ms:List Nat} {A B:List (List Ent)} (h:SameV ms A B) (m:List Ent):SameV ms (m::A) (m::B):=fun k hk x=>by
 rw [visL_cons,visL_cons];exact valE_or (h k hk x)
section
variable {C:Prop} {s:St} {D:PDisk} {q0:Nat} {Ls:Lvs} {bs:List (List Chg)} {E:Nat}
theorem After.bind {N1 N2:Nat} {sh1:Lvs→Prop} {sh2:Lvs→Prop} {x1:Except Err St} {D1:PDisk} {f:St→PDisk→Out St} (h1:After C s D q0 Ls bs E N1 sh1 x1 D1)
 (k:∀ s1 Ls1,x1=.ok s1→Run C s1 D1 q0 Ls1 bs E→SameV (momentsS s) (srcs Ls) (srcs Ls1)→Alike s s1→s1.number≤s.number+N1→sh1 Ls1→∃ x D',f s1 D1=some (x,D')∧After C s1 D1 q0 Ls1 bs E N2 sh2 x D') :
 ∃ x D',bindO (some (x1,D1)) f=some (x,D')∧After C s D q0 Ls bs E (N1+N2) sh2 x D':=by
 obtain ⟨l1,h1⟩:=h1
 rcases h1 with ⟨e,rfl,h2,h3⟩|⟨s1,Ls1,rfl,h2,h3,h4,h5,h6,h7⟩
 ·exact ⟨_,_,rfl,l1,.inl ⟨e,rfl,h2,h3⟩⟩
 ·obtain ⟨x,D',k1,l2,k2⟩:=k s1 Ls1 rfl h2 h3 h4 h6 h7
  refine ⟨x,D',k1,l1.trans l2,?_⟩
  rw [h4.moments] at k2
  rcases k2 with ⟨e,rfl,k2,c,Ls',bs',k3,k4⟩|⟨s',Ls',rfl,k2,k3,k4,k5,k6,k7⟩
  ·refine .inl ⟨e,rfl,k2.before l1,c,Ls',bs',k3,?_⟩
   rcases k4 with ⟨k4,k5,k6⟩|⟨k4,k5,k6⟩
   ·exact .inl ⟨k4,k5,h3.trans k6⟩
   ·refine .inr ⟨by rw [k4,h4.seq],k5,?_⟩
    rw [h4.mem] at k6
    exact (h3.cons s.mem).trans k6
  ·exact .inr ⟨s',Ls',rfl,k2,h3.trans k3,h4.trans k4,⟨k5.1.trans h5.1,by rw [h5.1] at k5;exact k5.2.trans h5.2⟩,by omega,k7⟩
theorem After.none (h:Run C s D q0 Ls bs E) {sh:Lvs→Prop} (hs:sh Ls):After C s D q0 Ls bs E 0 sh (.ok s) D:=
 ⟨Later.refl h.core.ok,.inr ⟨s,Ls,rfl,h,SameV.refl _ _,Alike.refl s,⟨rfl,rfl⟩,by omega,hs⟩⟩
theorem After.more {N N':Nat} {sh sh':Lvs→Prop} {x:Except Err St} {D':PDisk} (h:After C s D q0 Ls bs E N sh x D') (hN:N≤N') (hs:∀ L,sh L→sh' L):After C s D q0 Ls bs E N' sh' x D':=by
 obtain ⟨l,h⟩:=h
 refine ⟨l,?_⟩
 rcases h with h|⟨s',Ls',h1,h2,h3,h4,h5,h6,h7⟩
 ·exact .inl h
 ·exact .inr ⟨s',Ls',h1,h2,h3,h4,h5,by omega,hs _ h7⟩
theorem lv_len (h:s.levels=tabsOf Ls) (i:Nat):(s.levels.getD i []).length=(Ls.getD i []).length:=by
 rw [h];unfold tabsOf
 rw [List.getD_eq_getElem?_getD,List.getD_eq_getElem?_getD,List.getElem?_map]
 cases Ls[i]?<;>simp
structure Settled (o:Opt) (Ls:Lvs):Prop where
 l0:(Ls.getD 0 []).length<o.tables
 l1:(Ls.getD 1 []).length≤o.tables
 l2:(Ls.getD 2 []).length≤o.tables
theorem settle_law {o:Opt} (ho:1≤o.tables) (h:Run C s D q0 Ls bs E) (ht:total bs=0) (hE:E≤1048576) (hB:bs.length≤16777216) (hnum:s.number+3*E≤4611686018427387904) :
 ∃ x D',settleS o s D=some (x,D')∧After C s D q0 Ls bs E (3*E) (Settled o) x D':=by
 have st0:∃ x D',(if o.tables≤(s.levels.getD 0 []).length then mergeS s D 0 1 else some (.ok s,D))=some (x,D')∧After C s D q0 Ls bs E E (fun L=>(L.getD 0 []).length<o.tables) x D':=by
  by_cases hc:o.tables≤(s.levels.getD 0 []).length
  ·rw [if_pos hc]
   obtain ⟨x,D',k1,k2⟩:=merge_law h ht (a:=0) (b:=1) (.inl ⟨rfl,.inl rfl⟩) hE hB (by omega)
   refine ⟨x,D',k1,k2.more (Nat.le_refl _) fun L hL=>?_⟩
   obtain ⟨R,ls,_,_,rfl,_⟩:=hL
   simp [newL];omega
  ·rw [if_neg hc]
   exact ⟨_,_,rfl,(After.none h (sh:=fun L=>(L.getD 0 []).length<o.tables) (by rw [← lv_len h.levels];omega)).more (Nat.zero_le _) fun _ h=>h⟩
 have stp:∀ (i:Nat) (s:St) (D:PDisk) (Ls:Lvs) (P:Lvs→Prop),Legs i (i+1)→i≠0→Run C s D q0 Ls bs E→s.number+E≤4611686018427387904→P Ls→(∀ ls,P Ls→P (newL i (i+1) Ls ls)) →
  ∃ x D',stepS o i s D=some (x,D')∧After C s D q0 Ls bs E E (fun L=>P L∧(L.getD i []).length≤o.tables) x D':=by
  intro i s D Ls P hi hi0 h hn hP hPn
  unfold stepS
  by_cases hc:o.tables<(s.levels.getD i []).length
  ·rw [if_pos hc]
   obtain ⟨x,D',k1,k2⟩:=merge_law h ht hi hE hB hn
   refine ⟨x,D',k1,k2.more (Nat.le_refl _) fun L hL=>?_⟩
   obtain ⟨R,ls,_,_,rfl,_⟩:=hL
   refine ⟨hPn ls hP,?_⟩
   obtain ⟨L0,L1,L2,L3,rfl⟩:=four_of h.core.lv.len
   rcases hi with ⟨rfl,_⟩|⟨rfl,_⟩|⟨rfl,_⟩
   ·exact absurd rfl hi0
   ·simp [newL,List.replicate]
   ·simp [newL,List.replicate]
  ·rw [if_neg hc]
   exact ⟨_,_,rfl,(After.none h (sh:=fun L=>P L∧(L.getD i []).length≤o.tables) ⟨hP,by rw [← lv_len h.levels];omega⟩).more (Nat.zero_le _) fun _ h=>h⟩
 obtain ⟨x1,D1,a1,a2⟩:=st0
 unfold settleS
 rw [a1]
 obtain ⟨x,D',b1,b2⟩:=a2.bind (f:=fun s D=>settleF o 2 1 s D) (N2:=2*E) (sh2:=Settled o) fun s1 Ls1 _ hr1 _ ha1 hn1 hs1=>by
  obtain ⟨x2,D2,c1,c2⟩:=stp 1 s1 D1 Ls1 (fun L=>(L.getD 0 []).length<o.tables) (.inr (.inl ⟨rfl,rfl⟩)) (by omega) hr1 (by omega) hs1 (fun ls hh=>by
   obtain ⟨L0,L1,L2,L3,rfl⟩:=four_of hr1.core.lv.len
   simpa [newL,List.replicate] using hh)
  show ∃ x D',settleF o 2 1 s1 D1=some (x,D')∧_
  unfold settleF
  rw [c1]
  obtain ⟨x,D',d1,d2⟩:=c2.bind (f:=fun s D=>settleF o 1 2 s D) (N2:=E) (sh2:=Settled o) fun s2 Ls2 _ hr2 _ ha2 hn2 hs2=>by
   obtain ⟨x3,D3,e1,e2⟩:=stp 2 s2 D2 Ls2 (fun L=>(L.getD 0 []).length<o.tables∧(L.getD 1 []).length≤o.tables) (.inr (.inr ⟨rfl,rfl⟩)) (by omega) hr2 (by omega) hs2 (fun ls hh=>by
    obtain ⟨L0,L1,L2,L3,rfl⟩:=four_of hr2.core.lv.len
    simpa [newL,List.replicate] using hh)
   show ∃ x D',settleF o 1 2 s2 D2=some (x,D')∧_
   unfold settleF
   rw [e1]
   obtain ⟨x,D',f1,f2⟩:=e2.bind (f:=fun s D=>settleF o 0 3 s D) (N2:=0) (sh2:=Settled o) fun s3 Ls3 _ hr3 _ _ _ hs3=>
    ⟨_,_,rfl,After.none hr3 ⟨hs3.1.1,hs3.1.2,hs3.2⟩⟩
   exact ⟨x,D',f1,f2⟩
  exact ⟨x,D',d1,d2.more (by omega) fun _ h=>h⟩
 exact ⟨x,D',b1,b2.more (by omega) fun _ h=>h⟩
end
theorem batch_ok:∀ (b:List Chg) (q:Nat),(∀ c∈b,c.key.length≤8∧c.key≠[])→(∀ c∈b,c.del=false→c.val.length≤16)→q+b.length<18446744073709551616→∀ e∈batchE q b,EOk e∧e.key≠[]
 | [],_,_,_,_,e,he=>by cases he
 | c::r,q,h1,h2,hq,e,he=>by
  simp only [List.length_cons] at hq
  rcases List.mem_cons.1 he with rfl|he
  ·exact ⟨⟨(h1 c List.mem_cons_self).1,h2 c List.mem_cons_self,by show q+1<_;omega⟩,(h1 c List.mem_cons_self).2⟩
  ·exact batch_ok r (q+1) (fun x hx=>h1 x (List.mem_cons_of_mem _ hx)) (fun x hx=>h2 x (List.mem_cons_of_mem _ hx)) (by omega) e he
theorem adds_len (b:List Ent):∀ l:List Ent,(b.foldl addL l).length=l.length+b.length:=by
 induction b with
 | nil=>intro l;simp
 | cons e r ih=>intro l;rw [List.foldl_cons,ih,addL_length];simp;omega
theorem batchE_len:∀ (b:List Chg) (q:Nat),(batchE q b).length=b.length
 | [],_=>rfl
 | c::r,q=>by simp [batchE,batchE_len r]
structure MemOk (q q':Nat) (m:List Ent):Prop where
 srt:Srt m
 seq:∀ x∈m,q<x.seq∧x.seq≤q'
 ents:∀ x∈m,EOk x∧x.key≠[]
theorem memOf_ok:∀ (bs:List (List Chg)) (q0 q:Nat) (m:List Ent),(∀ b∈bs,BOk b)→q0≤q→MemOk q0 q m→q+total bs≤4611686018427387904→MemOk q0 (q+total bs) (memOf q bs m)∧(memOf q bs m).length=m.length+total bs
 | [],q0,q,m,_,_,h,_=>⟨by simpa [total,memOf] using h,by simp [total,memOf]⟩
 | b::r,q0,q,m,hb,hq,h,hn=>by
  have ht:total (b::r)=b.length+total r:=by simp [total]
  have hbk:=hb b List.mem_cons_self
  have h1:MemOk q0 (q+b.length) ((batchE q b).foldl addL m):=by
   refine ⟨adds_srt b h.srt fun x hx=>(h.seq x hx).2,fun x hx=>?_,fun x hx=>?_⟩
   ·rcases (adds_mem _).1 hx with hx|hx
    ·have:=batchE_seq b q x hx;omega
    ·have:=h.seq x hx;omega
   ·rcases (adds_mem _).1 hx with hx|hx
    ·exact batch_ok b q hbk.key hbk.val (by omega) x hx
    ·exact h.ents x hx
  obtain ⟨k1,k2⟩:=memOf_ok r q0 (q+b.length) _ (fun x hx=>hb x (List.mem_cons_of_mem _ hx)) (by omega) h1 (by omega)
  rw [ht,← Nat.add_assoc]
  refine ⟨k1,?_⟩
  show (memOf (q+b.length) r _).length=_
  rw [k2,adds_len,batchE_len];omega
theorem memOk_nil (q:Nat):MemOk q q []:=⟨List.Pairwise.nil,by simp,by simp⟩
section
variable {C:Prop} {s:St} {D:PDisk} {q0:Nat} {Ls:Lvs} {bs:List (List Chg)} {E:Nat}
theorem Run.memOk (h:Run C s D q0 Ls bs E):MemOk q0 s.seq s.mem∧s.mem.length=total bs:=by
 obtain ⟨h1,h2⟩:=memOf_ok bs q0 q0 [] h.core.bsok (Nat.le_refl _) (memOk_nil q0) h.core.seq
 rw [h.mem,h.seq];exact ⟨h1,by simpa using h2⟩
theorem srcs_mem {l:List Ent} (h:l∈srcs Ls) (h4:Ls.length=4):∃ p∈Ls.flatten,l=p.2:=by
 obtain ⟨L0,L1,L2,L3,rfl⟩:=four_of h4
 obtain ⟨p,hp,rfl⟩:=List.mem_map.1 h
 refine ⟨p,?_,rfl⟩
 simp at hp ⊢;exact hp
theorem Run.ord (h:Run C s D q0 Ls bs E):Pure.Ord (s.mem::srcs Ls):=by
 refine List.pairwise_cons.2 ⟨fun l hl x hx y hy _=>?_,h.core.ord⟩
 obtain ⟨p,hp,rfl⟩:=srcs_mem hl h.core.lv.len
 have h1:=h.core.seqs p hp y hy
 have h1:y.seq≤q0:=h1
 have h2:=(h.memOk.1.seq x hx).1
 omega
def newF (Ls:Lvs) (ls:List (Tab×List Ent)):Lvs:=(Ls.getD 0 []++ls)::Ls.drop 1
theorem newF_src (Ls:Lvs) (ls:List (Tab×List Ent)) (h4:Ls.length=4):srcs (newF Ls ls)=ls.reverse.map (·.2)++srcs Ls:=by
 obtain ⟨L0,L1,L2,L3,rfl⟩:=four_of h4
 simp [srcs,newF]
theorem newF_flat (Ls:Lvs) (ls:List (Tab×List Ent)) (h4:Ls.length=4):∃ X Y,Ls.flatten=X++Y∧(newF Ls ls).flatten=X++ls++Y:=by
 obtain ⟨L0,L1,L2,L3,rfl⟩:=four_of h4
 exact ⟨L0,L1++L2++L3,by simp,by simp [newF]⟩
theorem vis_norm (l:List Ent) (k:Bs) (m:Nat):vis (l.map normE) k m=(vis l k m).map normE:=by
 unfold vis
 rw [List.find?_map]
 congr 1
 have:((fun e:Ent=>decide (e.key=k)&&decide (e.seq≤m)) ∘ normE)=fun e=>decide (e.key=k)&&decide (e.seq≤m):=by funext e;simp
 rw [this]
theorem valE_norm (x S:Option Ent):valE ((x.map normE).or S)=valE (x.or S):=by
 cases x with
 | none=>rfl
 | some e=>
  show valE (some (normE e))=valE (some e)
  unfold valE
  dsimp only
  rw [normE_del]
  cases hd:e.del with
  | true=>rfl
  | false=>simp [normE,hd]
theorem flush_same {ms:List Nat} {m:List Ent} {S:List (List Ent)} {ls:List (Tab×List Ent)} (hm:Srt m) (hls:ls.Pairwise fun a b=>SepC a.2 b.2) (hl:∀ p∈ls,Srt p.2) (he:(ls.map (·.2)).flatten=(keptL ms false m).map normE) :
 SameV ms (m::S) (ls.reverse.map (·.2)++S):=by
 intro q hq k
 have hR:Srt ((keptL ms false m).map normE):=srt_norm (kept_srt hm)
 have hp:((keptL ms false m).map normE).Perm (ls.reverse.map (·.2)).flatten:=by
  rw [← he]
  exact ((List.reverse_perm ls).symm.map _).flatten
 have hOr:Pure.Ord (ls.reverse.map (·.2)):=by
  refine List.pairwise_map.2 (List.pairwise_reverse.2 (hls.imp fun {a b} hab x hx y hy hk=>?_))
  have:=hab y hy x hx
  rw [hk,bltB_irrefl] at this;cases this
 have:=vis_perm hR (fun l hl2=>by
  obtain ⟨p,hp,rfl⟩:=List.mem_map.1 hl2
  exact hl p (List.mem_reverse.1 hp)) hOr hp k q
 rw [visL_append,← this,visL_cons,vis_norm,valE_norm,kept_vis hm hq]
end
end
section
open Go.Proofs.YtecibefflhomdaaGreatDoor.Pure
section
variable {C:Prop} {s:St} {D:PDisk} {q0:Nat} {Ls:Lvs} {bs:List (List Chg)} {E:Nat}
def AfterF (C:Prop) (s:St) (D:PDisk) (q0:Nat) (Ls:Lvs) (bs:List (List Chg)) (E:Nat) (N:Nat) (shape:Lvs→Prop) (x:Except Err St) (D':PDisk):Prop:=
 Later D D' ∧
  ((∃ e,x=.error e∧Flt C D e∧∃ c Ls' bs',RecM C D' c Ls' bs' E∧((c.seq=q0∧bs'=bs∧SameV (momentsS s) (srcs Ls) (srcs Ls'))∨(c.seq=s.seq∧bs'=[]∧SameV (momentsS s) (s.mem::srcs Ls) (srcs Ls')))) ∨
   ∃ s' Ls',x=.ok s'∧Run C s' D' s.seq Ls' [] E∧SameV (momentsS s) (s.mem::srcs Ls) (srcs Ls')∧s'.seq=s.seq∧s'.snaps=s.snaps∧s'.snap=s.snap∧s'.number≤s.number+N∧file D' s'.log=some []∧shape Ls')
theorem flush_rec {D':PDisk} {num:Nat} {ls:List (Tab×List Ent)} {fl0:Bs→Option Bs} (h:Run C s D q0 Ls bs E) (hN:NewT 5 s.number num (keptL (momentsS s) false s.mem) ls fl0 (file D')) (hnum:num+1≤4611686018427387904) (hd:D'.Ok)
 (hst:file D' stateN=some (frameB (stateB { s with number:=num+1,log:=logN (num+1),levels:=tabsOf (newF Ls ls),mem:=[] })))
 (hlog:file D' (logN (num+1))=some []) (hf:∀ m,m∈namesOf Ls→file D' m=file D m) :
 RecM C D' { s with number:=num+1,log:=logN (num+1),levels:=tabsOf (newF Ls ls),mem:=[] } (newF Ls ls) [] E:=by
 obtain ⟨X,Y,e1,e2⟩:=newF_flat Ls ls h.core.lv.len
 obtain ⟨hm1,hm2⟩:=h.memOk
 have hcn:=hN.cnt
 have hls:∀ p∈ls,∀ e∈p.2,∃ x∈s.mem,e=normE x:=fun p hp e he=>by
  have h1:e∈(ls.map (·.2)).flatten:=List.mem_flatten.2 ⟨p.2,List.mem_map.2 ⟨p,hp,rfl⟩,he⟩
  rw [hN.ents] at h1
  obtain ⟨x,hx,rfl⟩:=List.mem_map.1 h1
  exact ⟨x,(kept_sub _ _ _).subset hx,rfl⟩
 have hseq:=h.seq
 have hq:q0+total bs≤4611686018427387904:=h.core.seq
 refine ⟨hd,rfl,hst,hnum,by show s.seq+total []≤_;simp [total];omega,?_,⟨?_,?_,?_,?_⟩,?_,?_,?_,⟨num+1,Nat.le_refl _,rfl⟩,⟨[],by show file D' (logN (num+1))=_;rw [hlog];rfl,openB_nil⟩,by simp⟩
 ·have h1:=h.core.cntE
  have h2:cnt (newF Ls ls)=(X.map (·.2.length)).sum+(ls.map (·.2.length)).sum+(Y.map (·.2.length)).sum:=by unfold cnt;rw [e2];simp only [List.map_append,List.sum_append]
  have h3:cnt Ls=(X.map (·.2.length)).sum+(Y.map (·.2.length)).sum:=by unfold cnt;rw [e1];simp only [List.map_append,List.sum_append]
  have h4:=flatQ_len ls
  rw [hN.ents,List.length_map] at h4
  have h5:=kept_len (momentsS s) false s.mem
  show cnt (newF Ls ls)+total []≤E
  simp [total];omega
 ·show (newF Ls ls).length=4
  obtain ⟨L0,L1,L2,L3,rfl⟩:=four_of h.core.lv.len
  rfl
 ·intro p hp
  rw [e2] at hp
  simp only [List.mem_append] at hp
  rcases hp with (hp|hp)|hp
  ·obtain ⟨k,k1,k2⟩:=h.core.lv.names p (by rw [e1];exact List.mem_append_left _ hp)
   exact ⟨k,by have k1:k≤s.number:=k1;show k≤num+1;omega,k2⟩
  ·obtain ⟨k,k1,k2,k3⟩:=hN.names p hp
   exact ⟨k,by show k≤num+1;omega,k3⟩
  ·obtain ⟨k,k1,k2⟩:=h.core.lv.names p (by rw [e1];exact List.mem_append_right _ hp)
   exact ⟨k,by have k1:k≤s.number:=k1;show k≤num+1;omega,k2⟩
 ·have hnod:=h.core.lv.nodup
  unfold namesOf at hnod ⊢
  rw [e1,List.map_append] at hnod
  rw [e2,List.map_append,List.map_append]
  rw [List.nodup_append] at hnod
  rw [List.nodup_append,List.nodup_append]
  have hnew:∀ p∈ls,∀ q∈Ls.flatten,p.1.name≠q.1.name:=fun p hp q hq he=>by
   obtain ⟨k,k1,k2,k3⟩:=hN.names p hp
   obtain ⟨j,j1,j2⟩:=h.core.lv.names q hq
   have j1:j≤s.number:=j1
   have:=tableN_inj (k3.symm.trans (he.trans j2)) (by omega) (by omega)
   omega
  refine ⟨⟨hnod.1,hN.nodup,fun x hx y hy he=>?_⟩,hnod.2.1,fun x hx y hy he=>?_⟩
  ·obtain ⟨p,hp,rfl⟩:=List.mem_map.1 hx
   obtain ⟨q,hq,rfl⟩:=List.mem_map.1 hy
   exact hnew q hq p (by rw [e1];exact List.mem_append_left _ hp) he.symm
  ·rcases List.mem_append.1 hx with hx|hx
   ·exact hnod.2.2 x hx y hy he
   ·obtain ⟨p,hp,rfl⟩:=List.mem_map.1 hx
    obtain ⟨q,hq,rfl⟩:=List.mem_map.1 hy
    exact hnew p hp q (by rw [e1];exact List.mem_append_right _ hq) he
 ·intro i L hi hL
  have hsp:=h.core.lv.sep
  obtain ⟨L0,L1,L2,L3,rfl⟩:=four_of h.core.lv.len
  cases i with
  | zero=>omega
  | succ i=>exact hsp (i+1) L hi (by simpa [newF] using hL)
 ·intro p hp
  rw [e2] at hp
  simp only [List.mem_append] at hp
  rcases hp with (hp|hp)|hp
  ·have hp2:p∈Ls.flatten:=by rw [e1];exact List.mem_append_left _ hp
   obtain ⟨f,cs,k1,k2⟩:=h.core.on p hp2
   exact ⟨f,cs,by rw [hf _ (List.mem_map.2 ⟨p,hp2,rfl⟩)];exact k1,k2⟩
  ·obtain ⟨f,cs,k1,k2⟩:=hN.on p hp
   exact ⟨f,cs,k1,k2.mono (fun h=>h.elim)⟩
  ·have hp2:p∈Ls.flatten:=by rw [e1];exact List.mem_append_right _ hp
   obtain ⟨f,cs,k1,k2⟩:=h.core.on p hp2
   exact ⟨f,cs,by rw [hf _ (List.mem_map.2 ⟨p,hp2,rfl⟩)];exact k1,k2⟩
 ·intro p hp e he
  show e.seq≤s.seq
  rw [e2] at hp
  simp only [List.mem_append] at hp
  rcases hp with (hp|hp)|hp
  ·have h1:=h.core.seqs p (by rw [e1];exact List.mem_append_left _ hp) e he
   have h1:e.seq≤q0:=h1
   omega
  ·obtain ⟨x,hx,rfl⟩:=hls p hp e he
   rw [normE_seq];exact (hm1.seq x hx).2
  ·have h1:=h.core.seqs p (by rw [e1];exact List.mem_append_right _ hp) e he
   have h1:e.seq≤q0:=h1
   omega
 ·rw [newF_src Ls ls h.core.lv.len]
  have hor:=h.ord
  obtain ⟨o1,o2⟩:=List.pairwise_cons.1 hor
  refine List.pairwise_append.2 ⟨?_,o2,fun l hl w hw x hx y hy hk=>?_⟩
  ·refine List.pairwise_map.2 (List.pairwise_reverse.2 (hN.sep.imp fun {a b} hab x hx y hy hk=>?_))
   have:=hab y hy x hx
   rw [hk,bltB_irrefl] at this;cases this
  ·obtain ⟨p,hp,rfl⟩:=List.mem_map.1 hl
   obtain ⟨z,hz,rfl⟩:=hls p (List.mem_reverse.1 hp) x hx
   rw [normE_key] at hk
   rw [normE_seq]
   exact o1 w hw z hz y hy hk
theorem flush_law {o:Opt} (ho:1≤o.tables) (h:Run C s D q0 Ls bs E) (hE:E≤1048576) (hB:bs.length≤16777216) (hnum:s.number+4*E+1≤4611686018427387904) :
 ∃ x D',flushS o s D=some (x,D')∧AfterF C s D q0 Ls bs E (4*E+1) (Settled o) x D':=by
 have hused:=h.used hE hB
 have htab:=h.core.tabs hE
 have hcnt:=h.core.cntE
 obtain ⟨hm1,hm2⟩:=h.memOk
 have hseq:=h.seq
 have hq:q0+total bs≤4611686018427387904:=h.core.seq
 have hlat:latestN=18446744073709551615:=rfl
 have hml:s.mem.length≤E:=by omega
 have hmom:=moments_len h.snaps
 have hnx:NxOk C (file D) s.mem (.one (fromM s.mem [])) s.mem:=by
  have:=fromM_ok (C:=C) (fl:=file D) hm1.srt (fun e he=>by have:=(hm1.seq e he).2;omega) []
  rw [fromK_nil] at this
  exact this
 obtain ⟨x,D1,k1,k2,k3⟩:=keptS_law (s:=s) (nx:=.one (fromM s.mem [])) (bt:=false) h.core.ok hm1.srt hnx (by omega) (by have:=h.snaps;omega)
 unfold flushS
 rw [if_neg (by rw [big_eq];omega),k1]
 rcases k3 with ⟨e,rfl,k3⟩|rfl
 ·exact ⟨_,_,rfl,k2.later,.inl ⟨e,rfl,.inl k3,_,Ls,bs,h.core.files k2.later.ok fun m _=>k2.file m,.inl ⟨rfl,rfl,SameV.refl _ _⟩⟩⟩
 dsimp only [bindO]
 have hkl:=kept_len (momentsS s) false s.mem
 have hlf:∀ k,(ofKey k (keptL (momentsS s) false s.mem)).length≤5:=fun k=>Nat.le_trans (kept_few hm1.srt k) hmom
 have hls:Srt (keptL (momentsS s) false s.mem):=kept_srt hm1.srt
 have hlk:∀ e∈keptL (momentsS s) false s.mem,EOk e:=fun e he=>(hm1.ents e ((kept_sub _ _ _).subset he)).1
 have hD1:∀ k,s.number<k→k≤s.number+(keptL (momentsS s) false s.mem).length→file D1 (tableN k)=none:=fun k hk hk2=>by rw [k2.file];exact h.freeT hk (by omega)
 have hmv1:=h.moves
 obtain ⟨x,D2,p1,p2,p3,p4,p5,p6⟩:=split_law (K:=5) (by omega) (by omega) big s.number D1 _ [] k2.later.ok hls hlk hlf (by rw [big_eq];omega) (by omega) (by simp only [List.length_nil];omega) (by rw [k2.moves];omega) (by rw [k2.used];omega) hD1
 rw [p1]
 have hfar:∀ m,(∀ k,s.number<k→k≤s.number+(keptL (momentsS s) false s.mem).length→m≠tableN k)→file D2 m=file D m:=fun m hm=>by rw [p5 m hm,k2.file]
 have hfarN:∀ m,m∈namesOf Ls→file D2 m=file D m:=fun m hm=>hfar m fun k hk1 hk2 he=>by
  subst he
  obtain ⟨p,hp,hpe⟩:=List.mem_map.1 hm
  obtain ⟨i,hi,hie⟩:=h.core.lv.names p hp
  have hi:i≤s.number:=hi
  have:=tableN_inj (hie.symm.trans hpe) (by omega) (by omega)
  omega
 have hlogT:∀ k,s.log≠tableN k:=fun k hh=>by
  obtain ⟨j,_,h2⟩:=h.core.log
  have h2:s.log=logN j:=h2
  exact table_log k j (hh.symm.trans h2)
 have hfar2:∀ m,keeps2 { s with seq:=q0 } Ls m→file D2 m=file D m:=fun m hm=>by
  rcases hm with hm|hm|hm
  ·exact hfar m fun k _ _ hh=>table_state k (hh.symm.trans hm)
  ·have hm:m=s.log:=hm
   exact hfar m fun k _ _ hh=>hlogT k (hm.symm.trans hh)
  ·exact hfarN m hm
 rcases p6 with ⟨e,rfl,p6⟩|⟨num,ls,rfl,hN⟩
 ·exact ⟨_,_,rfl,k2.later.trans p2,.inl ⟨e,rfl,(p6.mono fun h=>h.elim).before k2.later,_,Ls,bs,h.core.files p2.ok hfar2,.inl ⟨rfl,rfl,SameV.refl _ _⟩⟩⟩
 dsimp only
 rw [List.nil_append]
 have hcn:=hN.cnt
 have hlsS:∀ p∈ls,Srt p.2∧p.2≠[]:=fun p hp=>by obtain ⟨f,cs,_,k⟩:=hN.on p hp;exact ⟨k.srt,k.some⟩
 have hlsl:ls.length≤E:=by
  have h1:=flatQ_len ls
  rw [hN.ents,List.length_map] at h1
  have key:∀ l:List (Tab×List Ent),(∀ p∈l,p.2≠[])→l.length≤(l.map (·.2.length)).sum:=by
   intro l
   induction l with
   | nil=>intro _;simp
   | cons p r ih=>
    intro hh
    have h1:=ih fun x hx=>hh x (List.mem_cons_of_mem _ hx)
    have h2:0<p.2.length:=List.length_pos_iff.2 (hh p List.mem_cons_self)
    simp only [List.map_cons,List.sum_cons,List.length_cons];omega
  have:=key ls fun p hp=>(hlsS p hp).2
  omega
 have hL0:(s.levels.getD 0 []).length≤1048576:=by
  rw [lv_len h.levels]
  obtain ⟨L0,L1,L2,L3,hL⟩:=four_of h.core.lv.len
  rw [hL] at htab ⊢
  simp only [List.flatten_cons,List.length_append] at htab
  show L0.length≤_
  omega
 rw [if_pos (by rw [List.length_map,big_eq];omega)]
 have hlevels:((s.levels.getD 0 []++ls.map (·.1))::s.levels.drop 1:List (List Tab))=tabsOf (newF Ls ls):=by
  rw [h.levels]
  obtain ⟨L0,L1,L2,L3,rfl⟩:=four_of h.core.lv.len
  simp [tabsOf,newF]
 rw [hlevels]
 have hsame:SameV (momentsS s) (s.mem::srcs Ls) (srcs (newF Ls ls)):=by
  rw [newF_src Ls ls h.core.lv.len]
  exact flush_same hm1.srt hN.sep (fun p hp=>(hlsS p hp).1) hN.ents
 obtain ⟨k0,hk0,hk1⟩:=h.core.log
 have hk1:s.log=logN k0:=hk1
 have hk0:k0≤s.number:=hk0
 have hfrF:file D2 freshN=none:=by rw [hfar _ fun k _ _ hh=>table_fresh k hh.symm];exact h.freeF
 have hfrL:file D2 (logN (num+1))=none:=by rw [hfar _ fun k _ _ hh=>table_log k _ hh.symm];exact h.freeL (by omega) (by omega)
 obtain ⟨junk,hj1,hj2⟩:=h.logf
 have hlogD2:file D2 s.log=some (logBytes q0 bs++junk):=by rw [hfar _ fun k _ _ hh=>hlogT k hh];exact hj1
 have hlv0:LvOk num (newF Ls ls):=by
  obtain ⟨X,Y,e1,e2⟩:=newF_flat Ls ls h.core.lv.len
  refine ⟨?_,?_,?_,?_⟩
  ·obtain ⟨L0,L1,L2,L3,rfl⟩:=four_of h.core.lv.len
   rfl
  ·intro p hp
   rw [e2] at hp
   simp only [List.mem_append] at hp
   rcases hp with (hp|hp)|hp
   ·obtain ⟨k,k1,k2⟩:=h.core.lv.names p (by rw [e1];exact List.mem_append_left _ hp)
    exact ⟨k,by have k1:k≤s.number:=k1;omega,k2⟩
   ·obtain ⟨k,k1,k2,k3⟩:=hN.names p hp
    exact ⟨k,k2,k3⟩
   ·obtain ⟨k,k1,k2⟩:=h.core.lv.names p (by rw [e1];exact List.mem_append_right _ hp)
    exact ⟨k,by have k1:k≤s.number:=k1;omega,k2⟩
  ·have hnod:=h.core.lv.nodup
   unfold namesOf at hnod ⊢
   rw [e1,List.map_append] at hnod
   rw [e2,List.map_append,List.map_append]
   rw [List.nodup_append] at hnod
   rw [List.nodup_append,List.nodup_append]
   have hnew:∀ p∈ls,∀ q∈Ls.flatten,p.1.name≠q.1.name:=fun p hp q hq he=>by
    obtain ⟨k,k1,k2,k3⟩:=hN.names p hp
    obtain ⟨j,j1,j2⟩:=h.core.lv.names q hq
    have j1:j≤s.number:=j1
    have:=tableN_inj (k3.symm.trans (he.trans j2)) (by omega) (by omega)
    omega
   refine ⟨⟨hnod.1,hN.nodup,fun x hx y hy he=>?_⟩,hnod.2.1,fun x hx y hy he=>?_⟩
   ·obtain ⟨p,hp,rfl⟩:=List.mem_map.1 hx
    obtain ⟨q,hq,rfl⟩:=List.mem_map.1 hy
    exact hnew q hq p (by rw [e1];exact List.mem_append_left _ hp) he.symm
   ·rcases List.mem_append.1 hx with hx|hx
    ·exact hnod.2.2 x hx y hy he
    ·obtain ⟨p,hp,rfl⟩:=List.mem_map.1 hx
     obtain ⟨q,hq,rfl⟩:=List.mem_map.1 hy
     exact hnew p hp q (by rw [e1];exact List.mem_append_right _ hq) he
  ·intro i L hi hL
   have hsp:=h.core.lv.sep
   obtain ⟨L0,L1,L2,L3,rfl⟩:=four_of h.core.lv.len
   cases i with
   | zero=>omega
   | succ i=>exact hsp (i+1) L hi (by simpa [newF] using hL)
 have hlen0:(newF Ls ls).flatten.length≤1048576:=by
  obtain ⟨X,Y,e1,e2⟩:=newF_flat Ls ls h.core.lv.len
  have h1:=cnt_tabs h.core.on
  have h2:=flatQ_len ls
  rw [hN.ents,List.length_map] at h2
  have key:∀ l:List (Tab×List Ent),(∀ p∈l,p.2≠[])→l.length≤(l.map (·.2.length)).sum:=by
   intro l
   induction l with
   | nil=>intro _;simp
   | cons p r ih=>
    intro hh
    have h1:=ih fun x hx=>hh x (List.mem_cons_of_mem _ hx)
    have h2:0<p.2.length:=List.length_pos_iff.2 (hh p List.mem_cons_self)
    simp only [List.map_cons,List.sum_cons,List.length_cons];omega
  have h3:=key ls fun p hp=>(hlsS p hp).2
  rw [e1,List.length_append] at h1
  rw [e2,List.length_append,List.length_append]
  omega
 obtain ⟨x,D3,c1,c2,c3⟩:=commitT_law (C:=C) (s:={ s with number:=num,levels:=tabsOf (newF Ls ls),mem:=[] }) (Ls:=newF Ls ls) rfl hlv0 hlen0 (by show num+1≤_;omega) (by show s.seq≤_;omega) p2.ok hfrF hfrL (.inr ⟨k0,_,by show k0≤num;omega,hk1,hlogD2⟩) (by rw [k2.moves] at p3;omega) (by rw [k2.used] at p4;omega)
 have l2:=k2.later.trans p2
 rw [c1]
 have hlogne:s.log≠logN (num+1):=fun hh=>by have:=logN_inj (hk1.symm.trans hh) (by omega) (by omega);omega
 have hnew:∀ D':PDisk,D'.Ok→file D' stateN=some (frameB (stateB { s with number:=num+1,log:=logN (num+1),levels:=tabsOf (newF Ls ls),mem:=[] }))→file D' (logN (num+1))=some [] →
  (∀ m,m≠stateN→m≠logN (num+1)→m≠s.log→file D' m=file D2 m)→RecM C D' { s with number:=num+1,log:=logN (num+1),levels:=tabsOf (newF Ls ls),mem:=[] } (newF Ls ls) [] E:=by
  intro D' hd' hs' hl' hf'
  have hN':NewT 5 s.number num (keptL (momentsS s) false s.mem) ls (fun _=>some []) (file D'):=by
   refine ⟨hN.ents,hN.cnt,hN.names,hN.nodup,fun p hp=>?_,hN.sep,hN.few,fun m hm=>.inl (by simp)⟩
   obtain ⟨f,cs,q1,q2⟩:=hN.on p hp
   obtain ⟨k,n1,n2,n3⟩:=hN.names p hp
   exact ⟨f,cs,by rw [hf' _ (by rw [n3];exact table_state k) (by rw [n3];exact table_log k _) (by rw [n3];exact (hlogT k).symm)];exact q1,q2⟩
  refine flush_rec h hN' (by omega) hd' hs' hl' fun m hm=>?_
  rw [hf' m (fun hh=>names_ne_state h.core.lv (by rw [← hh];exact hm)) (fun hh=>names_ne_log h.core.lv (num+1) (by rw [← hh];exact hm)) (fun hh=>names_ne_log h.core.lv k0 (by rw [← hk1,← hh];exact hm))]
  exact hfarN m hm
 rcases c3 with ⟨rfl,c3,c4⟩|⟨e,rfl,c3,c4⟩
 ·dsimp only
  have hrun:Run C { s with number:=num+1,log:=logN (num+1),levels:=tabsOf (newF Ls ls),mem:=[] } D3 s.seq (newF Ls ls) [] E:=by
   refine ⟨?_,rfl,by simp [total],?_,?_,by omega,h.snaps⟩
   ·exact hnew D3 c2.ok (by rw [c4,if_pos rfl]) (by rw [c4,if_neg (log_state _)];exact if_pos rfl) fun m h1 h2 h3=>by
     rw [c4,if_neg h1]
     exact (if_neg h2).trans (if_neg h3)
   ·refine ⟨[],?_,by simp⟩
    show file D3 (logN (num+1))=_
    rw [c4,if_neg (log_state _)];exact if_pos rfl
   ·intro m hm
    show m=stateN∨m=logN (num+1)∨_
    rw [c4] at hm
    by_cases h1:m=stateN
    ·exact .inl h1
    rw [if_neg h1] at hm
    by_cases h2:m=logN (num+1)
    ·exact .inr (.inl h2)
    have hm:=(if_neg h2:(if m=logN (num+1) then some [] else if m=s.log then none else file D2 m)=_)▸hm
    by_cases h3:m=s.log
    ·exact absurd (if_pos h3) hm
    rw [if_neg h3] at hm
    refine .inr (.inr ?_)
    obtain ⟨X,Y,e1,e2⟩:=newF_flat Ls ls h.core.lv.len
    unfold namesOf
    rw [e2,List.map_append,List.map_append,List.mem_append,List.mem_append]
    rcases hN.known m hm with h4|h4
    ·rw [k2.file] at h4
     rcases h.known m h4 with h4|h4|h4
     ·exact absurd h4 h1
     ·exact absurd h4 h3
     ·unfold namesOf at h4
      rw [e1,List.map_append,List.mem_append] at h4
      rcases h4 with h4|h4
      ·exact .inl (.inl h4)
      ·exact .inr h4
    ·exact .inl (.inr h4)
  obtain ⟨x,D4,s1,l3,s2⟩:=settle_law ho hrun (by simp [total]) hE (by simp) (by show num+1+3*E≤_;omega)
  rw [s1]
  refine ⟨x,D4,rfl,(l2.trans c2).trans l3,?_⟩
  have hmo:momentsS { s with number:=num+1,log:=logN (num+1),levels:=tabsOf (newF Ls ls),mem:=[] }=momentsS s:=rfl
  rw [hmo] at s2
  rcases s2 with ⟨e,rfl,s2,c,Ls',bs',s3,s4⟩|⟨s',Ls',rfl,s2,s3,s4,s5,s6,s7⟩
  ·refine .inl ⟨e,rfl,s2.before (l2.trans c2),c,Ls',bs',s3,.inr ?_⟩
   rcases s4 with ⟨s4,s5,s6⟩|⟨s4,s5,s6⟩
   ·exact ⟨s4,s5,hsame.trans s6⟩
   ·refine ⟨s4,s5,hsame.trans (SameV.trans (fun m hm k=>?_) s6)⟩
    show valE (visL ([]::srcs (newF Ls ls)) k m)=_
    rw [visL_cons];rfl
  ·exact .inr ⟨s',Ls',rfl,s2,hsame.trans s3,s4.seq,s4.snaps,s4.snap,by have s6:s'.number≤num+1+3*E:=s6;omega,by
    rw [s5.1,s5.2];show file D3 (logN (num+1))=_;rw [c4,if_neg (log_state _)];exact if_pos rfl,s7⟩
 ·refine ⟨_,_,rfl,l2.trans c2,.inl ⟨e,rfl,c3.before l2,?_⟩⟩
  rcases c4 with c4|c4
  ·refine ⟨_,Ls,bs,h.core.files c2.ok fun m hm=>?_,.inl ⟨rfl,rfl,SameV.refl _ _⟩⟩
   have h1:m≠freshN:=fun hh=>by
    rcases hm with hm|hm|hm
    ·exact fresh_state (hh.symm.trans hm)
    ·have hm:m=s.log:=hm
     exact log_fresh k0 (hk1.symm.trans (hm.symm.trans hh))
    ·exact names_ne_fresh h.core.lv (by rw [← hh];exact hm)
   have h2:m≠logN (num+1):=fun hh=>by
    rcases hm with hm|hm|hm
    ·exact log_state _ (hh.symm.trans hm)
    ·have hm:m=s.log:=hm
     exact hlogne (hm.symm.trans hh)
    ·exact names_ne_log h.core.lv (num+1) (by rw [← hh];exact hm)
   rw [c4 m h1 h2];exact hfar2 m hm
  ·exact ⟨_,_,[],hnew D3 c2.ok (by rw [c4,if_pos rfl]) (by rw [c4,if_neg (log_state _)];exact if_pos rfl) (fun m h1 h2 _=>by
    rw [c4,if_neg h1];exact if_neg h2),.inr ⟨rfl,rfl,hsame⟩⟩
end
end
end Go.Proofs.YtecibefflhomdaaGreatDoor
