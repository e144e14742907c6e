/-
  Part 36: PLAIN what is read; PLAIN a store is opened.
-/
import Derived.Test.YtecibefflhomdaaGreatDoorU27
import Derived.Test.YtecibefflhomdaaGreatDoorU35
set_option maxHeartbeats 8000000
set_option maxRecDepth 100000
set_option linter.all false
namespace Go.Proofs.YtecibefflhomdaaGreatDoor
open Go
section
open Go.Proofs.YtecibefflhomdaaGreatDoor.Pure
theorem findM_law {M:List Ent} (hM:Srt M) (key:Bs) (seq:Nat):findM M key seq=vis M key seq:=by
 obtain ⟨h1,h2⟩:=searchL_spec (e:=⟨key,[],false,seq⟩) hM
 unfold findM
 generalize searchL M ⟨key,[],false,seq⟩=i at h1 h2
 have hsp:=List.take_append_drop i M
 have hv:vis M key seq=vis (M.drop i) key seq:=by
  conv=>lhs;rw [← hsp,vis_app]
  have:vis (M.take i) key seq=none:=vis_none.2 fun x hx hk=>by
   rcases less_iff.1 (h1 x hx) with h|h
   ·have h:bltB x.key key=true:=h
    rw [hk,bltB_irrefl] at h;cases h
   ·exact h.2
  rw [this];rfl
 rw [hv,head_drop]
 have hs:Srt (M.drop i):=hM.sublist (List.drop_sublist _ _)
 cases hd:M.drop i with
 | nil=>rfl
 | cons e r=>
  rw [hd] at hs h2
  have he:=h2 e List.mem_cons_self
  dsimp only [List.head?_cons]
  by_cases hk:e.key=key
  ·rw [if_pos hk]
   have hle:e.seq≤seq:=by
    cases Nat.lt_or_ge seq e.seq with
    | inl h=>rw [less_iff.2 (.inr ⟨hk,h⟩)] at he;cases he
    | inr h=>exact h
   symm
   unfold vis
   rw [List.find?_cons_of_pos (by simp [hk,hle])]
  ·rw [if_neg hk]
   symm
   refine vis_none.2 fun x hx hxk=>?_
   exfalso
   have hlt:bltB key e.key=true:=by
    rcases bltB_total e.key key with h|h|h
    ·rw [less_iff.2 (.inl h)] at he;cases he
    ·exact absurd h hk
    ·exact h
   rcases List.mem_cons.1 hx with rfl|hx
   ·exact hk hxk
   ·rcases less_iff.1 ((List.pairwise_cons.1 hs).1 x hx) with h|h
    ·have:=bltB_trans hlt h;rw [hxk,bltB_irrefl] at this;cases this
    ·exact hk (h.1.trans hxk)
section
variable {C:Prop} {s:St} {D:PDisk} {q0:Nat} {Ls:Lvs} {bs:List (List Chg)} {E:Nat}
theorem tabsS_eq (h:s.levels=tabsOf Ls) (h4:Ls.length=4):∃ ps:List (Tab×List Ent),tabsS s=ps.map (·.1)∧srcs Ls=ps.map (·.2)∧(∀ p∈ps,p∈Ls.flatten)∧ps.length=Ls.flatten.length∧ps=(Ls.getD 0 []).reverse++(Ls.drop 1).flatten:=by
 refine ⟨(Ls.getD 0 []).reverse++(Ls.drop 1).flatten,?_,rfl,?_,?_,rfl⟩
 ·obtain ⟨L0,L1,L2,L3,rfl⟩:=four_of h4
  unfold tabsS;rw [h]
  simp [tabsOf]
 ·obtain ⟨L0,L1,L2,L3,rfl⟩:=four_of h4
  intro p hp;simp at hp ⊢;exact hp
 ·obtain ⟨L0,L1,L2,L3,rfl⟩:=four_of h4
  simp
theorem getTs_law {key:Bs} {seq:Nat}:∀ (ps:List (Tab×List Ent)) {D:PDisk},D.Ok→(∀ p∈ps,∃ f cs,file D p.1.name=some f∧ChOn C f p.1 p.2 cs) →
 ∃ x D',getTs key seq (ps.map (·.1)) D=some (x,D')∧Same D D'∧((∃ e,x=.error e∧Bad C D e)∨x=.ok (visL (ps.map (·.2)) key seq))
 | [],D,hd,_=>⟨_,_,rfl,Same.refl hd,.inr rfl⟩
 | p::ps,D,hd,h=>by
  obtain ⟨f,cs,h1,h2⟩:=h p List.mem_cons_self
  obtain ⟨x,D1,k1,k2,k3⟩:=findT_law h2 hd h1 key seq
  have s1:=Same.of_find hd k2
  rw [List.map_cons,List.map_cons,visL_cons]
  unfold getTs
  rw [k1]
  rcases k3 with rfl|⟨e,rfl,k3⟩
  ·cases hv:vis p.2 key seq with
   | some x=>exact ⟨_,_,rfl,s1,.inr rfl⟩
   | none=>
    dsimp only
    obtain ⟨x,D2,m1,m2,m3⟩:=getTs_law ps s1.later.ok fun q hq=>by
     obtain ⟨f,cs,h1,h2⟩:=h q (List.mem_cons_of_mem _ hq)
     exact ⟨f,cs,by rw [s1.file];exact h1,h2⟩
    refine ⟨x,D2,m1,s1.trans m2,?_⟩
    rcases m3 with ⟨e,m3,m4⟩|m3
    ·exact .inl ⟨e,m3,m4.before s1.later⟩
    ·exact .inr (by rw [m3];rfl)
  ·exact ⟨_,_,rfl,s1,.inl ⟨e,rfl,k3⟩⟩
theorem getS_law (h:Run C s D q0 Ls bs E) (key:Bs) (seq:Nat) :
 ∃ x D',getS s D key seq=some (x,D')∧Same D D'∧((key.length=0∨8<key.length)∧x=.error (none,3)∨¬ (key.length=0∨8<key.length)∧((∃ e,x=.error e∧Bad C D e)∨x=.ok (valE (visL (s.mem::srcs Ls) key seq)))):=by
 unfold getS
 by_cases hk:key.length=0∨8<key.length
 ·rw [if_pos hk];exact ⟨_,_,rfl,Same.refl h.core.ok,.inl ⟨hk,rfl⟩⟩
 ·rw [if_neg hk,findM_law h.memOk.1.srt,visL_cons]
  cases hv:vis s.mem key seq with
  | some e=>exact ⟨_,_,rfl,Same.refl h.core.ok,.inr ⟨hk,.inr rfl⟩⟩
  | none=>
   dsimp only
   obtain ⟨ps,p1,p2,p3,_⟩:=tabsS_eq h.levels h.core.lv.len
   obtain ⟨x,D',k1,k2,k3⟩:=getTs_law (C:=C) (key:=key) (seq:=seq) ps h.core.ok fun p hp=>h.core.on p (p3 p hp)
   rw [p1,k1]
   rcases k3 with ⟨e,rfl,k3⟩|rfl
   ·exact ⟨_,_,rfl,k2,.inr ⟨hk,.inl ⟨e,rfl,k3⟩⟩⟩
   ·exact ⟨_,_,rfl,k2,.inr ⟨hk,.inr (by rw [p2];rfl)⟩⟩
theorem scanP_size (hi:Bs) (limit:Int) (seq:Nat) (s:Sc) (e:Ent):(scanP hi limit seq s e).1.out.length≤s.out.length+1:=by
 unfold scanP
 split
 ·exact Nat.le_succ _
 ·split
  ·exact Nat.le_succ _
  ·dsimp only;split
   ·exact Nat.le_succ _
   ·simp
theorem scanS_law (h:Run C s D q0 Ls bs E) (hE:E≤1048576) (lo hi:Bs) (limit:Int) (seq:Nat) {ps:List (Bs×Bs)} (hps:SrtP ps) (hv:∀ k,valE (visL (s.mem::srcs Ls) k seq)=lookP ps k) :
 ∃ x D',scanS s D lo hi limit seq=some (x,D')∧Same D D'∧((∃ e,x=.error e∧Bad C D e)∨x=.ok (betweenP ps lo hi limit)):=by
 obtain ⟨qs,p1,p2,p3,p4,_⟩:=tabsS_eq h.levels h.core.lv.len
 have htab:=h.core.tabs hE
 have hcnt:=h.core.cntE
 obtain ⟨hm1,hm2⟩:=h.memOk
 have hq:q0+total bs≤4611686018427387904:=h.core.seq
 have hseq:=h.seq
 have hlat:latestN=18446744073709551615:=rfl
 have hon:∀ p∈qs,∃ f cs,file D p.1.name=some f∧ChOn C f p.1 p.2 cs:=fun p hp=>h.core.on p (p3 p hp)
 have hsr:∀ l∈s.mem::qs.map (·.2),Srt l:=fun l hl=>by
  rcases List.mem_cons.1 hl with rfl|hl
  ·exact hm1.srt
  ·obtain ⟨p,hp,rfl⟩:=List.mem_map.1 hl
   obtain ⟨f,cs,_,k⟩:=hon p hp
   exact k.srt
 have hor:Pure.Ord (s.mem::qs.map (·.2)):=by rw [← p2];exact h.ord
 have hsrF:∀ l∈(s.mem::qs.map (·.2)).map (fromK lo),Srt l:=fun l hl=>by
  obtain ⟨l',hl',rfl⟩:=List.mem_map.1 hl
  exact (hsr l' hl').sublist List.filter_sublist
 have horF:Pure.Ord ((s.mem::qs.map (·.2)).map (fromK lo)):=List.pairwise_map.2 (hor.imp fun {a b} hab x hx y hy hk=>hab x (List.mem_filter.1 hx).1 y (List.mem_filter.1 hy).1 hk)
 obtain ⟨R,hR,hRp⟩:=sorted_ex _ (distinct_flat hsrF horF)
 have hlenF:∀ ls:List (List Ent),(ls.map (fromK lo)).flatten.length≤ls.flatten.length:=by
  intro ls
  induction ls with
  | nil=>simp
  | cons l r ih=>
   have:(fromK lo l).length≤l.length:=List.length_filter_le _ _
   simp only [List.map_cons,List.flatten_cons,List.length_append];omega
 have hRl:R.length≤2*E:=by
  have h1:=hRp.length_eq
  have h2:=hlenF (s.mem::qs.map (·.2))
  rw [List.flatten_cons,List.length_append,← p2] at h2
  have h3:(srcs Ls).flatten.length=cnt Ls:=by
   obtain ⟨L0,L1,L2,L3,hL⟩:=four_of h.core.lv.len
   rw [hL]
   unfold srcs cnt
   rw [flatQ_len]
   simp
  rw [p2] at h2 h3
  omega
 have hRlo:∀ e∈R,inLo lo e.key=true:=fun e he=>by
  obtain ⟨l,hl,hel⟩:=List.mem_flatten.1 (hRp.mem_iff.1 he)
  obtain ⟨l',_,rfl⟩:=List.mem_map.1 hl
  exact (List.mem_filter.1 hel).2
 have hvis:∀ k,inLo lo k=true→valE (vis R k seq)=lookP ps k:=fun k hk=>by
  rw [vis_perm hR hsrF horF hRp,← hv,← p2.symm]
  have key:∀ ls:List (List Ent),visL (ls.map (fromK lo)) k seq=visL ls k seq:=by
   intro ls
   induction ls with
   | nil=>rfl
   | cons l r ih=>
    rw [List.map_cons,visL_cons,visL_cons,ih]
    have:=vis_filter l (fun x=>!bltB x lo) k seq
    have e1:vis (fromK lo l) k seq=vis l k seq:=by
     unfold fromK;rw [this]
     exact if_pos hk
    rw [e1]
  rw [key]
 have hnx:NxOk C (file D) s.mem (.mg ⟨false,fromM s.mem lo::(tabsS s).map fun T=>fromT T lo,[]⟩) R:=by
  show MgOk _ _ _ _ _
  unfold MgOk
  rw [if_neg (by simp)]
  refine ⟨rfl,?_,(s.mem::qs.map (·.2)).map (fromK lo),?_,hRp⟩
  ·rw [p1];simp only [List.length_map,List.length_cons];omega
  ·rw [p1]
   show RowsOk _ _ _ (fromM s.mem lo::((qs.map (·.1)).map fun T=>fromT T lo)) _
   rw [map_fst_fromT,List.map_cons,List.map_map]
   exact .cons (fromM_ok hm1.srt (fun e he=>by have:=(hm1.seq e he).2;omega) lo) (hm1.srt.sublist List.filter_sublist) (rows_ok lo qs hon)
 obtain ⟨s',o,D',j,k1,k2,k3,k4,k5⟩:=eachN_law (M:=s.mem) (body:=scanB hi limit seq) (g:=scanP hi limit seq) (Sz:=fun k (s:Sc)=>s.out.length≤k) (N:=1073741824)
  (fun k s' e hk hs=>⟨by unfold scanB;rw [if_pos (by rw [big_eq];omega)],by have:=scanP_size hi limit seq s' e;omega⟩) R big 0 _ D sc0 h.core.ok hR hnx (by rw [big_eq];omega) (by omega) (by simp [sc0])
 unfold scanS
 rw [if_pos (by rw [p1,List.length_map,big_eq];omega),k1]
 rcases k5 with ⟨e,rfl,k5⟩|⟨rfl,rfl⟩
 ·exact ⟨_,_,rfl,k2,.inl ⟨e,rfl,k5⟩⟩
 ·exact ⟨_,_,rfl,k2,.inr (by rw [scan_eq hR hRlo hps hvis])⟩
end
end
section
open Go.Proofs.YtecibefflhomdaaGreatDoor.Pure
theorem num_u8 {i:Nat} (h:i<256) (rest:Bs):Rd.num ⟨UInt8.ofNat i::rest,false⟩ 1=(i,⟨rest,false⟩):=by
 have:=num_app (N:=i) (k:=1) (by omega) rest
 simpa [numB] using this
theorem piece_all (b:Bs):pieceB b 0 (b.length:Int)=b:=by
 unfold pieceB
 have h1:(min (max (0:Int) 0) (b.length:Int)).toNat=0:=by omega
 have h2:(min (max (b.length:Int) 0) ((b.length:Int)-min (max (0:Int) 0) (b.length:Int))).toNat=b.length:=by omega
 rw [h1,h2,List.drop_zero,List.take_length]
theorem wholeD_law {D:PDisk} {n b:Bs} (hd:D.Ok) (hf:file D n=some b):∃ x D',wholeD D n=(x,D')∧Same D D'∧(x=.ok b∨∃ e,x=.error e∧Trip D e):=by
 unfold wholeD
 rcases findE_has hf with h1|⟨e,h1,ht⟩
 ·rw [h1]
  dsimp only
  have hf2:file D.tick n=some b:=by rw [file_tick];exact hf
  have s1:=Same.tick hd
  rcases findE_has hf2 with h2|⟨e,h2,ht⟩
  ·rw [h2]
   dsimp only
   rw [sizeB_of h1 hf,readD_of h2 hf2,piece_all]
   exact ⟨_,_,rfl,s1.trans (Same.read s1.later.ok _),.inl rfl⟩
  ·rw [h2]
   exact ⟨_,_,rfl,s1.trans (Same.read s1.later.ok _),.inr ⟨e,rfl,ht.before s1.later⟩⟩
 ·rw [h1]
  exact ⟨_,_,rfl,Same.tick hd,.inr ⟨e,rfl,ht⟩⟩
theorem wholeD_missing {D:PDisk} {n:Bs} (hd:D.Ok) (hf:file D n=none):∃ e D',wholeD D n=(.error e,D')∧Same D D'∧(Trip D e∨e=(some n,10)):=by
 unfold wholeD
 cases h1:findE D n with
 | some e=>
  refine ⟨e,_,rfl,Same.tick hd,?_⟩
  rcases findE_some h1 with h|⟨h,_⟩
  ·exact .inl h
  ·exact .inr h
 | none=>
  obtain ⟨_,i,_,h2⟩:=findE_none h1
  rw [hf] at h2;cases h2
theorem lost_bad {C:Prop} {D:PDisk} {e:Err} (h:Bad C D e):Bad C D (lostE e):=by
 unfold lostE
 cases hn:e.1 with
 | none=>exact h
 | some n=>
  dsimp only
  by_cases h10:e.2=10
  ·rcases h with h|⟨_,h⟩
   ·have:=h.1;omega
   ·omega
  ·rw [if_neg h10];exact h
def lvIdx:Nat→List (List (Tab×List Ent))→List (Nat×Tab×List Ent)
 | _,[]=>[]
 | i,l::r=>l.map (fun p=>(i,p))++lvIdx (i+1) r
def idxB (ps:List (Nat×Tab×List Ent)):Bs:=(ps.map fun p=>UInt8.ofNat p.1::textB p.2.1.name).flatten
theorem tabsB_idx:∀ (Ls:Lvs) (i:Nat),tabsB i (tabsOf Ls)=idxB (lvIdx i Ls)
 | [],_=>rfl
 | l::r,i=>by
  have h:=tabsB_idx r (i+1)
  unfold tabsOf at h ⊢
  rw [List.map_cons]
  unfold tabsB lvIdx
  rw [h]
  unfold idxB
  rw [List.map_append,List.flatten_append,List.map_map,List.map_map]
  rfl
theorem mem_idx:∀ (Ls:Lvs) (i:Nat) (p:Nat×Tab×List Ent),p∈lvIdx i Ls→p.2∈Ls.flatten∧i≤p.1∧p.1<i+Ls.length
 | [],_,p,h=>by cases h
 | l::r,i,p,h=>by
  unfold lvIdx at h
  rcases List.mem_append.1 h with h|h
  ·obtain ⟨q,hq,rfl⟩:=List.mem_map.1 h
   refine ⟨?_,Nat.le_refl _,by simp⟩
   rw [List.flatten_cons];exact List.mem_append_left _ hq
  ·obtain ⟨h1,h2,h3⟩:=mem_idx r (i+1) p h
   refine ⟨?_,by omega,by simp;omega⟩
   rw [List.flatten_cons];exact List.mem_append_right _ h1
theorem len_idx:∀ (Ls:Lvs) (i:Nat),(lvIdx i Ls).length=Ls.flatten.length
 | [],_=>rfl
 | l::r,i=>by simp [lvIdx,len_idx r]
def addT (ls:List (List Tab)) (p:Nat×Tab×List Ent):List (List Tab):=ls.set p.1 (ls.getD p.1 []++[p.2.1])
theorem addT_row (i:Nat):∀ (l:List (Tab×List Ent)) (acc:List (List Tab)),i<acc.length→(l.map fun p=>(i,p)).foldl addT acc=acc.set i (acc.getD i []++l.map (·.1))
 | [],acc,h=>by
  simp [List.getD_eq_getElem?_getD,List.getElem?_eq_getElem h]
 | p::l,acc,h=>by
  rw [List.map_cons,List.foldl_cons,addT_row i l _ (by simp [addT];exact h)]
  unfold addT
  dsimp only
  rw [List.set_set]
  congr 1
  simp [List.getD_eq_getElem?_getD,List.getElem?_set,h]
theorem addT_all {Ls:Lvs} (h4:Ls.length=4):(lvIdx 0 Ls).foldl addT [[],[],[],[]]=tabsOf Ls:=by
 obtain ⟨L0,L1,L2,L3,rfl⟩:=four_of h4
 unfold lvIdx lvIdx lvIdx lvIdx lvIdx
 rw [List.append_nil,List.foldl_append,List.foldl_append,List.foldl_append,addT_row 0 _ _ (by simp)]
 rw [addT_row 1 _ _ (by simp),addT_row 2 _ _ (by simp),addT_row 3 _ _ (by simp)]
 simp [tabsOf]
theorem getD_set_len (acc:List (List Tab)) (i j:Nat) (x:List Tab):((acc.set i x).getD j []).length≤max x.length (acc.getD j []).length:=by
 simp only [List.getD_eq_getElem?_getD,List.getElem?_set]
 split
 ·split
  ·simp;omega
  ·simp
 ·omega
theorem loadTs_law {C:Prop}:∀ (ps:List (Nat×Tab×List Ent)) (f:Nat) (D:PDisk) (acc:List (List Tab)) (k:Nat),D.Ok→ps.length<f→acc.length=4→(∀ i,(acc.getD i []).length≤k)→k+ps.length≤1073741824 →
 (∀ p∈ps,p.1<4∧p.2.1.name.length≤26∧∃ f cs,file D p.2.1.name=some f∧ChOn C f p.2.1 p.2.2 cs) →
 ∃ x D',loadTs f D ⟨idxB ps,false⟩ acc=some (x,D')∧Same D D'∧((∃ e,x=.error e∧Bad C D e)∨x=.ok (ps.foldl addT acc,⟨[],false⟩))
 | _,0,_,_,_,_,h,_,_,_,_=>absurd h (Nat.not_lt_zero _)
 | [],f+1,D,acc,k,hd,_,_,_,_,_=>by
  unfold loadTs
  rw [if_neg (by simp [idxB])]
  exact ⟨_,_,rfl,Same.refl hd,.inr rfl⟩
 | p::ps,f+1,D,acc,k,hd,hf,h4,hk,hkk,hp=>by
  obtain ⟨h1,h2,fl,cs,h3,h5⟩:=hp p List.mem_cons_self
  have e:idxB (p::ps)=UInt8.ofNat p.1::(textB p.2.1.name++idxB ps):=by simp [idxB]
  simp only [List.length_cons] at hf hkk
  unfold loadTs
  rw [if_pos ⟨by rw [e];simp,rfl⟩,e,num_u8 (by omega)]
  dsimp only
  rw [text_app (by omega)]
  dsimp only
  have hx:∃ x,openF p.2.1.name fl=some x∧(x=.ok p.2.1∨C∧x=.error (some p.2.1.name,7)):=by
   rcases h5.head with hh|⟨hC,hh⟩
   ·exact ⟨_,hh,.inl rfl⟩
   ·exact ⟨_,hh,.inr ⟨hC,rfl⟩⟩
  obtain ⟨x,hx1,hx2⟩:=hx
  obtain ⟨y,D1,o1,o2,o3⟩:=openT_law hd h3 hx1
  rw [o1]
  have bad:∀ e,y=.error e→Bad C D e→∃ x D',(match some (y,D1) with
   | none=>none
   | some (.error e,D')=>some (.error (lostE e),D')
   | some (.ok T,D')=>if 4≤p.1 then some (.error (some stateN,7),D') else
    if (acc.getD p.1 []).length≤big then loadTs f D' ⟨idxB ps,false⟩ (acc.set p.1 (acc.getD p.1 []++[T])) else none)=some (x,D')∧Same D D'∧((∃ e,x=.error e∧Bad C D e)∨x=.ok ((p::ps).foldl addT acc,⟨[],false⟩)):=by
   intro e he hb
   rw [he]
   exact ⟨_,_,rfl,o2,.inl ⟨_,rfl,lost_bad hb⟩⟩
  rcases o3 with o3|⟨e,o3,o4⟩
  ·rcases hx2 with hx2|⟨hC,hx2⟩
   ·rw [o3,hx2]
    dsimp only
    have hk':=hk p.1
    rw [if_neg (by omega),if_pos (by rw [big_eq];omega)]
    obtain ⟨x,D2,l1,l2,l3⟩:=loadTs_law ps f D1 (addT acc p) (k+1) o2.later.ok (by omega) (by simp [addT];exact h4) (fun i=>by
     have:=getD_set_len acc p.1 i (acc.getD p.1 []++[p.2.1])
     have h6:=hk i
     simp only [List.length_append,List.length_singleton] at this
     unfold addT;omega) (by omega) fun q hq=>by
      obtain ⟨a1,a2,f',cs',a3,a4⟩:=hp q (List.mem_cons_of_mem _ hq)
      exact ⟨a1,a2,f',cs',by rw [o2.file];exact a3,a4⟩
    refine ⟨x,D2,l1,o2.trans l2,?_⟩
    rcases l3 with ⟨e,l3,l4⟩|l3
    ·exact .inl ⟨e,l3,l4.before o2.later⟩
    ·exact .inr (by rw [l3];rfl)
   ·exact bad _ (o3.trans hx2) (.inr ⟨hC,rfl⟩)
  ·exact bad _ o3 (.inl o4)
def normC (c:Chg):Chg:=if c.del=true then { c with val:=[] } else c
theorem chgE_norm (c:Chg) (q:Nat):chgE (normC c) q=normE (chgE c q):=by
 obtain ⟨k,v,d⟩:=c
 cases d<;>rfl
theorem batchE_norm:∀ (b:List Chg) (q:Nat),batchE q (b.map normC)=(batchE q b).map normE
 | [],_=>rfl
 | c::r,q=>by simp only [List.map_cons,batchE,batchE_norm r,chgE_norm]
theorem getD_norm (l:List Ent) (i:Nat):(l.map normE).getD i default=normE (l.getD i default):=by
 rw [List.getD_eq_getElem?_getD,List.getD_eq_getElem?_getD,List.getElem?_map]
 cases l[i]?<;>rfl
theorem searchG_norm (l:List Ent) (e:Ent):∀ f lo hi,searchG (l.map normE) (normE e) f lo hi=searchG l e f lo hi
 | 0,_,_=>rfl
 | f+1,lo,hi=>by unfold searchG;rw [getD_norm,less_norm,searchG_norm l e f,searchG_norm l e f]
theorem addL_norm (l:List Ent) (e:Ent):addL (l.map normE) (normE e)=(addL l e).map normE:=by
 unfold addL searchL
 rw [List.length_map,searchG_norm]
 simp [List.map_take,List.map_drop]
theorem adds_norm:∀ (b l:List Ent),(b.map normE).foldl addL (l.map normE)=(b.foldl addL l).map normE
 | [],_=>rfl
 | e::b,l=>by rw [List.map_cons,List.foldl_cons,List.foldl_cons,addL_norm,adds_norm b]
theorem memOf_norm:∀ (bs:List (List Chg)) (q:Nat) (m:List Ent),memOf q (bs.map (·.map normC)) (m.map normE)=(memOf q bs m).map normE
 | [],_,_=>rfl
 | b::r,q,m=>by
  show memOf (q+(b.map normC).length) _ ((batchE q (b.map normC)).foldl addL (m.map normE))=_
  rw [List.length_map,batchE_norm,adds_norm,memOf_norm r];rfl
theorem total_norm (bs:List (List Chg)):total (bs.map (·.map normC))=total bs:=by
 unfold total;rw [List.map_map];congr 1;exact List.map_congr_left fun b _=>by simp
theorem logB_norm (q:Nat) (b:List Chg):logB q (b.map normC)=logB q b:=by
 unfold logB
 rw [batchE_norm,List.map_map]
 congr 2
 exact List.map_congr_left fun e _=>putB_norm e
theorem logBytes_norm:∀ (bs:List (List Chg)) (q:Nat),logBytes q (bs.map (·.map normC))=logBytes q bs
 | [],_=>rfl
 | b::r,q=>by
  show frameB (logB q (b.map normC))++logBytes (q+(b.map normC).length) _=_
  rw [logB_norm,List.length_map,logBytes_norm r];rfl
theorem bok_norm {b:List Chg} (h:BOk b):BOk (b.map normC):=by
 have hk:∀ c:Chg,(normC c).key=c.key:=fun c=>by unfold normC;split<;>rfl
 have hd:∀ c:Chg,(normC c).del=c.del:=fun c=>by unfold normC;split<;>rfl
 refine ⟨by simpa using h.len,fun c hc=>?_,fun c hc hh=>?_⟩
 ·obtain ⟨x,hx,rfl⟩:=List.mem_map.1 hc
  rw [hk];exact h.key x hx
 ·obtain ⟨x,hx,rfl⟩:=List.mem_map.1 hc
  rw [hd] at hh
  have:normC x=x:=by unfold normC;simp [hh]
  rw [this];exact h.val x hx hh
theorem replayEs_law:∀ (b:List Chg) (q f:Nat) (s:St),(∀ e∈batchE q b,EOk e)→s.seq=q→s.mem.length+b.length≤1048577→b.length<f →
 replayEs f ⟨((batchE q b).map putB).flatten,false⟩ s=some ({ s with seq:=q+b.length,mem:=((batchE q b).map normE).foldl addL s.mem },false)
 | _,_,0,_,_,_,_,h=>absurd h (Nat.not_lt_zero _)
 | [],q,f+1,s,_,hq,_,_=>by
  unfold replayEs
  rw [if_pos (by rfl)]
  subst hq;rfl
 | c::r,q,f+1,s,he,hq,hm,hf=>by
  simp only [List.length_cons] at hm hf
  have e1:((batchE q (c::r)).map putB).flatten=putB (chgE c (q+1))++((batchE (q+1) r).map putB).flatten:=by simp [batchE]
  have hne:putB (chgE c (q+1))≠[]:=fun hh=>by have:=putB_pos (chgE c (q+1));rw [hh] at this;simp at this
  unfold replayEs
  rw [if_neg (by rw [e1];simp [hne]),e1,entry_app (he _ List.mem_cons_self)]
  dsimp only
  rw [if_neg (by simp),if_pos (by omega)]
  have h:=replayEs_law r (q+1) f { s with seq:=q+1,mem:=addL s.mem (normE (chgE c (q+1))) } (fun e hh=>he e (List.mem_cons_of_mem _ hh)) rfl (by simp;omega) (by omega)
  have hs:(normE (chgE c (q+1))).seq=q+1:=normE_seq _
  rw [hs,h]
  simp [batchE,Nat.add_assoc,Nat.add_comm 1]
theorem replayF_law {junk:Bs} (hj:openB junk=none):∀ (bs:List (List Chg)) (q f:Nat) (s:St),(∀ b∈bs,BOk b)→s.seq=q→q+total bs≤4611686018427387904→s.mem.length+total bs≤1048576→bs.length<f →
 replayF f (logBytes q bs++junk) s=some { s with seq:=q+total bs,mem:=memOf q (bs.map (·.map normC)) s.mem }
 | _,_,0,_,_,_,_,_,h=>absurd h (Nat.not_lt_zero _)
 | [],q,f+1,s,_,hq,_,_,_=>by
  unfold replayF
  rw [show logBytes q []++junk=junk from rfl,hj]
  subst hq;rfl
 | b::r,q,f+1,s,hb,hq,hn,hm,hf=>by
  have ht:total (b::r)=b.length+total r:=by simp [total]
  have hbk:=hb b List.mem_cons_self
  have hl8:=hbk.len
  simp only [List.length_cons] at hf
  have he:∀ e∈batchE q b,EOk e:=fun e hh=>(batch_ok b q hbk.key hbk.val (by omega) e hh).1
  have hlen:(logB q b).length≤8+34*b.length:=by
   have h1:=putsB_le he
   rw [batchE_length] at h1
   unfold putsB at h1
   unfold logB
   rw [List.length_append,numB_length];omega
  have e1:logBytes q (b::r)++junk=frameB (logB q b)++(logBytes (q+b.length) r++junk):=by simp [logBytes]
  unfold replayF
  rw [e1,frame_app (by omega)]
  dsimp only
  rw [show logB q b=numB q 8++((batchE q b).map putB).flatten from rfl,num_app (by omega)]
  dsimp only
  rw [if_neg (by simp [hq])]
  have hfl:b.length<(numB q 8++((batchE q b).map putB).flatten).length+1:=by
   have key:∀ l:List Ent,l.length≤(l.map putB).flatten.length:=by
    intro l
    induction l with
    | nil=>simp
    | cons e r ih=>
     have:=putB_pos e
     simp only [List.map_cons,List.flatten_cons,List.length_append,List.length_cons];omega
   have:=key (batchE q b)
   rw [batchE_length] at this
   rw [List.length_append];omega
  rw [replayEs_law b q _ s he hq (by omega) hfl]
  dsimp only
  have h:=replayF_law hj r (q+b.length) f { s with seq:=q+b.length,mem:=((batchE q b).map normE).foldl addL s.mem } (fun x hx=>hb x (List.mem_cons_of_mem _ hx)) rfl (by omega) (by
   show (((batchE q b).map normE).foldl addL s.mem).length+_≤_
   rw [adds_len,List.length_map,batchE_length];omega) (by omega)
  rw [h,ht]
  simp only [List.map_cons,memOf,List.length_map,batchE_norm,Nat.add_assoc]
def loaded (c:St) (bs:List (List Chg)):St:={ st0 with number:=c.number,seq:=c.seq+total bs,log:=c.log,levels:=c.levels,mem:=memOf c.seq (bs.map (·.map normC)) [] }
theorem total_le:∀ (bs:List (List Chg)) (q:Nat),bs.length≤(logBytes q bs).length
 | [],_=>by simp
 | b::r,q=>by
  have:=total_le r (q+b.length)
  simp only [logBytes,List.length_append,List.length_cons,frameB_length];omega
section
variable {C:Prop} {D:PDisk} {c:St} {Ls:Lvs} {bs:List (List Chg)} {E:Nat}
theorem loadS_law (h:RecM C D c Ls bs E) (hE:E≤1048576) :
 ∃ x D',loadS D=some (x,D')∧Same D D'∧((∃ e,x=.error e∧Bad C D e)∨x=.ok (loaded c bs)):=by
 have htab:=h.tabs hE
 have hsl:=h.statelen hE
 have hll:=h.loglen
 have hnum:=h.num
 have hseq:=h.seq
 have hcnt:=h.cntE
 unfold loadS
 obtain ⟨x,D1,w1,w2,w3⟩:=wholeD_law h.ok h.state
 rw [w1]
 rcases w3 with rfl|⟨e,rfl,w3⟩
 ·dsimp only
  have ho:openB (frameB (stateB c))=some (stateB c,[]):=by
   have:=frame_app (b:=stateB c) (by rw [frameB_length] at hsl;omega) []
   rwa [List.append_nil] at this
  rw [ho]
  dsimp only
  rw [if_neg (by simp)]
  have e1:stateB c=numB c.number 8++(numB c.seq 8++(textB c.log++idxB (lvIdx 0 Ls))):=by
   unfold stateB;rw [h.levels,tabsB_idx];simp
  have hidx:(lvIdx 0 Ls).length<(stateB c).length+1:=by
   have key:∀ ps:List (Nat×Tab×List Ent),ps.length≤(idxB ps).length:=by
    intro ps
    induction ps with
    | nil=>simp
    | cons p r ih=>unfold idxB at ih ⊢;simp only [List.map_cons,List.flatten_cons,List.length_append,List.length_cons];omega
   have:=key (lvIdx 0 Ls)
   rw [e1];simp only [List.length_append];omega
  generalize hf:(stateB c).length+1=f at hidx
  rw [e1,num_app (by omega)]
  dsimp only
  rw [num_app (by omega)]
  dsimp only
  rw [text_app (by omega)]
  dsimp only
  obtain ⟨x,D2,l1,l2,l3⟩:=loadTs_law (C:=C) (lvIdx 0 Ls) f D1 [[],[],[],[]] 0 w2.later.ok hidx rfl (fun i=>by
   rcases i with _|_|_|_|i<;>simp) (by rw [len_idx];omega) fun p hp=>by
    obtain ⟨a1,_,a3⟩:=mem_idx Ls 0 p hp
    obtain ⟨fl,cs,b1,b2⟩:=h.on p.2 a1
    refine ⟨by rw [h.lv.len] at a3;omega,?_,fl,cs,by rw [w2.file];exact b1,b2⟩
    obtain ⟨k,_,hk⟩:=h.lv.names p.2 a1
    rw [hk];exact tableN_len k
  rw [l1]
  rcases l3 with ⟨e,rfl,l3⟩|rfl
  ·exact ⟨_,_,rfl,w2.trans l2,.inl ⟨e,rfl,l3.before w2.later⟩⟩
  ·dsimp only
   rw [if_neg (by simp),addT_all h.lv.len]
   have s2:=w2.trans l2
   obtain ⟨junk,j1,j2⟩:=h.logf
   unfold replayS
   obtain ⟨x,D3,r1,r2,r3⟩:=wholeD_law s2.later.ok (n:=c.log) (b:=logBytes c.seq bs++junk) (by rw [s2.file];exact j1)
   dsimp only
   rw [r1]
   rcases r3 with rfl|⟨e,rfl,r3⟩
   ·dsimp only
    have hr:=replayF_law j2 bs c.seq ((logBytes c.seq bs++junk).length+1) { st0 with number:=c.number,seq:=c.seq,log:=c.log,levels:=tabsOf Ls } h.bsok rfl h.seq (by show 0+total bs≤_;omega) (by
     have:=total_le bs c.seq
     rw [List.length_append];omega)
    rw [hr]
    refine ⟨_,_,rfl,s2.trans r2,.inr ?_⟩
    rw [← h.levels];rfl
   ·exact ⟨_,_,rfl,s2.trans r2,.inl ⟨_,rfl,lost_bad (.inl (r3.before s2.later))⟩⟩
 ·dsimp only
  have h8:=w3.1
  rw [if_neg (by omega)]
  exact ⟨_,_,rfl,w2,.inl ⟨e,rfl,.inl w3⟩⟩
end
end
end Go.Proofs.YtecibefflhomdaaGreatDoor
