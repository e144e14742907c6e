/-
  Part 37: PLAIN a store is opened; PLAIN Write, Compact, Close.
-/
import Derived.Test.YtecibefflhomdaaGreatDoorU36
set_option maxHeartbeats 8000000
set_option maxRecDepth 100000
set_option linter.all false
namespace Go.Proofs.YtecibefflhomdaaGreatDoor
open Go
section
open Go.Proofs.YtecibefflhomdaaGreatDoor.Pure
theorem sortB_perm (l:List Bs):(sortB l).Perm l:=List.mergeSort_perm l _
theorem listD_mem {D:PDisk} {n:Bs}:n∈listD D↔file D n≠none:=by
 unfold listD
 rw [(sortB_perm _).mem_iff,ne_eq,file_none,aget_none_iff]
 exact Iff.intro (fun h k=>k h) (fun h=>Classical.not_not.1 h)
theorem listD_nodup {D:PDisk} (h:D.Ok):(listD D).Nodup:=(sortB_perm _).nodup_iff.2 h.names
theorem listD_len (D:PDisk):(listD D).length=D.now.length:=by unfold listD;rw [(sortB_perm _).length_eq,List.length_map]
section
variable {C:Prop} {D:PDisk} {c s:St} {Ls:Lvs} {bs:List (List Chg)} {E:Nat}
theorem knownS_iff (hl:s.levels=tabsOf Ls) (m:Bs):knownS s m=true↔m=stateN∨m=s.log∨m∈namesOf Ls:=by
 unfold knownS namesOf
 rw [hl,flat_tabs]
 simp only [Bool.or_eq_true,decide_eq_true_eq,List.any_eq_true,List.mem_map]
 constructor
 ·rintro ((h|h)|⟨T,⟨p,hp,rfl⟩,h⟩)
  ·exact .inl h
  ·exact .inr (.inl h)
  ·exact .inr (.inr ⟨p,hp,h⟩)
 ·rintro (h|h|⟨p,hp,h⟩)
  ·exact .inl (.inl h)
  ·exact .inl (.inr h)
  ·exact .inr ⟨p.1,⟨p,hp,rfl⟩,h⟩
theorem clean_law (hd:D.Ok) (hl:s.levels=tabsOf Ls) (hm:D.moves.length+D.now.length≤1099511627776) :
 ∃ x D',cleanS s D=some (x,D')∧Later D D'∧D'.moves.length≤D.moves.length+D.now.length∧(∀ m,(m=stateN∨m=s.log∨m∈namesOf Ls)→file D' m=file D m) ∧
  ((∃ e,x=.error e∧Flt C D e)∨(x=.ok s∧∀ m,file D' m≠none→m=stateN∨m=s.log∨m∈namesOf Ls)):=by
 have hlen:((listD D).filter fun n=>!knownS s n).length≤D.now.length:=by
  have:=List.length_filter_le (fun n=>!knownS s n) (listD D)
  rw [listD_len] at this;exact this
 obtain ⟨x,D',k1,k2,k3,k4,k5⟩:=removes_law (C:=C) ((listD D).filter fun n=>!knownS s n) hd ((listD_nodup hd).filter _) (fun n hn=>listD_mem.1 (List.mem_filter.1 hn).1) (by omega)
 have hk4:∀ m,(m=stateN∨m=s.log∨m∈namesOf Ls)→file D' m=file D m:=fun m hm=>k4 m fun hh=>by
  have h1:=(List.mem_filter.1 hh).2
  rw [(knownS_iff hl m).2 hm] at h1
  cases h1
 unfold cleanS
 rw [if_pos (by rw [big_eq];omega),k1]
 rcases k5 with ⟨rfl,k5⟩|⟨e,rfl,k5⟩
 ·refine ⟨_,_,rfl,k2,by omega,hk4,.inr ⟨rfl,fun m hm=>(knownS_iff hl m).1 ?_⟩⟩
  cases hk:knownS s m with
  | true=>rfl
  | false=>
   by_cases hin:m∈(listD D).filter fun n=>!knownS s n
   ·exact absurd (k5 m hin) hm
   ·rw [k4 m hin] at hm
    exact absurd (List.mem_filter.2 ⟨listD_mem.2 hm,by rw [hk];rfl⟩) hin
 ·exact ⟨_,_,rfl,k2,by omega,hk4,.inl ⟨e,rfl,k5⟩⟩
def seeR (c:St) (Ls:Lvs) (bs:List (List Chg)) (k:Bs):Option Bs:=valE (visL (memOf c.seq bs []::srcs Ls) k latestN)
theorem seeR_nil (c:St) (Ls:Lvs) (k:Bs):seeR c Ls [] k=valE (visL (srcs Ls) k latestN):=by
 unfold seeR
 rw [visL_cons];rfl
theorem see_norm (q:Nat) (bs:List (List Chg)) (S:List (List Ent)) (k:Bs) (m:Nat):valE (visL (memOf q (bs.map (·.map normC)) []::S) k m)=valE (visL (memOf q bs []::S) k m):=by
 have h:=memOf_norm bs q []
 rw [List.map_nil] at h
 rw [h,visL_cons,visL_cons,vis_norm,valE_norm]
theorem RecM.norm (h:RecM C D c Ls bs E):RecM C D c Ls (bs.map (·.map normC)) E:=
 ⟨h.ok,h.levels,h.state,h.num,by rw [total_norm];exact h.seq,by rw [total_norm];exact h.cntE,h.lv,h.on,h.seqs,h.ord,h.log,by rw [logBytes_norm];exact h.logf,fun b hb=>by
   obtain ⟨x,hx,rfl⟩:=List.mem_map.1 hb
   exact bok_norm (h.bsok x hx)⟩
theorem stateB_congr {a b:St} (h1:a.number=b.number) (h2:a.seq=b.seq) (h3:a.log=b.log) (h4:a.levels=b.levels):stateB a=stateB b:=by unfold stateB;rw [h1,h2,h3,h4]
theorem RecM.congr {c':St} (h:RecM C D c Ls bs E) (h1:c'.number=c.number) (h2:c'.seq=c.seq) (h3:c'.log=c.log) (h4:c'.levels=c.levels):RecM C D c' Ls bs E:=
 ⟨h.ok,h4.trans h.levels,by rw [stateB_congr h1 h2 h3 h4];exact h.state,by rw [h1];exact h.num,by rw [h2];exact h.seq,h.cntE,by rw [h1];exact h.lv,h.on,by rw [h2];exact h.seqs,h.ord,by rw [h1,h3];exact h.log,by rw [h2,h3];exact h.logf,h.bsok⟩
def OpenEnd (C:Prop) (o:Opt) (D:PDisk) (q:Nat) (see:Bs→Option Bs) (N E:Nat) (x:Except Err St) (D':PDisk):Prop:=
 Later D D' ∧
  ((∃ e,x=.error e∧Flt C D e∧∃ c' Ls' bs',RecM C D' c' Ls' bs' E∧c'.seq+total bs'=q∧∀ k,seeR c' Ls' bs' k=see k) ∨
   ∃ s' Ls',x=.ok s'∧Run C s' D' q Ls' [] E∧(∀ k,valE (visL (srcs Ls') k latestN)=see k)∧s'.mem=[]∧s'.snaps=[]∧s'.snap=0∧s'.seq=q∧s'.number≤N∧file D' s'.log=some []∧Settled o Ls')
theorem OpenEnd.before {o:Opt} {D0:PDisk} {q N N':Nat} {see:Bs→Option Bs} {x:Except Err St} {D':PDisk} (hl:Later D0 D) (hN:N≤N') (h:OpenEnd C o D q see N E x D'):OpenEnd C o D0 q see N' E x D':=by
 obtain ⟨h1,h2⟩:=h
 refine ⟨hl.trans h1,?_⟩
 rcases h2 with ⟨e,a,b,r⟩|⟨s',Ls',a1,a2,a3,a4,a5,a6,a7,a8,a9⟩
 ·exact .inl ⟨e,a,b.before hl,r⟩
 ·exact .inr ⟨s',Ls',a1,a2,a3,a4,a5,a6,a7,Nat.le_trans a8 hN,a9⟩
theorem renew_law {o:Opt} {q0:Nat} (ho:1≤o.tables) (h:Run C s D q0 Ls bs E) (hsn:s.snaps=[]∧s.snap=0) (hE:E≤1048576) (hB:bs.length≤16777216) (hnum:s.number+4*E+1≤4611686018427387904) :
 ∃ x D',renewS o s D=some (x,D')∧OpenEnd C o D s.seq (fun k=>valE (visL (s.mem::srcs Ls) k latestN)) (s.number+4*E+1) E x D':=by
 have hmo:momentsS s=[latestN]:=by unfold momentsS;rw [hsn.1];rfl
 have hmem:=h.mem
 have hseq:=h.seq
 have herr:∀ (c':St) (Ls':Lvs) (bs':List (List Chg)),((c'.seq=q0∧bs'=bs∧SameV (momentsS s) (srcs Ls) (srcs Ls'))∨(c'.seq=s.seq∧bs'=[]∧SameV (momentsS s) (s.mem::srcs Ls) (srcs Ls')))→c'.seq+total bs'=s.seq∧∀ k,seeR c' Ls' bs' k=valE (visL (s.mem::srcs Ls) k latestN):=by
  rintro c' Ls' bs' (⟨e1,rfl,e3⟩|⟨e1,rfl,e3⟩)
  ·refine ⟨by rw [e1,hseq],fun k=>?_⟩
   unfold seeR
   rw [e1,← hmem,visL_cons,visL_cons]
   exact valE_or (e3 latestN (by rw [hmo];exact List.mem_cons_self) k)
  ·refine ⟨by rw [e1];simp [total],fun k=>?_⟩
   rw [seeR_nil]
   exact e3 latestN (by rw [hmo];exact List.mem_cons_self) k
 unfold renewS
 by_cases hm:0<s.mem.length
 ·rw [if_pos hm]
  obtain ⟨x,D',k1,k2,k3⟩:=flush_law ho h hE hB hnum
  refine ⟨x,D',k1,k2,?_⟩
  rcases k3 with ⟨e,a1,a2,c',Ls',bs',a3,a4⟩|⟨s',Ls',a1,a2,a3,a4,a5,a6,a7,a8,a9⟩
  ·obtain ⟨b1,b2⟩:=herr c' Ls' bs' a4
   exact .inl ⟨e,a1,a2,c',Ls',bs',a3,b1,b2⟩
  ·refine .inr ⟨s',Ls',a1,a2,fun k=>a3 latestN (by rw [hmo];exact List.mem_cons_self) k,?_,by rw [a5,hsn.1],by rw [a6,hsn.2],a4,a7,a8,a9⟩
   rw [a2.mem];rfl
 ·rw [if_neg hm]
  have hm0:s.mem=[]:=by cases hh:s.mem with
   | nil=>rfl
   | cons _ _=>rw [hh] at hm;simp at hm
  have ht:total bs=0:=by have:=h.memOk.2;rw [hm0] at this;simpa using this.symm
  have hq:s.seq=q0:=by rw [hseq,ht,Nat.add_zero]
  obtain ⟨k0,hk0,hk1⟩:=h.core.log
  have hk0:k0≤s.number:=hk0
  have hk1:s.log=logN k0:=hk1
  have hn:=h.core.num
  have hn:s.number≤4611686018427387904:=hn
  have hqs:=h.core.seq
  have hqs:q0+total bs≤4611686018427387904:=hqs
  have htab:=h.core.tabs hE
  have hused:=h.used hE hB
  have hmv:=h.moves
  obtain ⟨lb,hlb⟩:=h.logf
  obtain ⟨x,D3,c1,c2,c3⟩:=commitT_law (C:=C) (s:=s) (Ls:=Ls) h.levels h.core.lv htab (by omega) (by omega) h.core.ok h.freeF (h.freeL (by omega) (by omega)) (.inr ⟨k0,_,hk0,hk1,hlb.1⟩) (by omega) (by omega)
  rw [c1]
  have hlogne:s.log≠logN (s.number+1):=fun hh=>by have:=logN_inj (hk1.symm.trans hh) (by omega) (by omega);omega
  have hnew:∀ D':PDisk,D'.Ok→file D' stateN=some (frameB (stateB { s with number:=s.number+1,log:=logN (s.number+1) }))→file D' (logN (s.number+1))=some [] →
   (∀ m,m∈namesOf Ls→file D' m=file D m)→RecM C D' { s with number:=s.number+1,log:=logN (s.number+1) } Ls [] E:=by
   intro D' hd' hs' hl' hf'
   refine ⟨hd',h.levels,hs',by show s.number+1≤_;omega,by show s.seq+total []≤_;simp [total];omega,?_,⟨h.core.lv.len,fun p hp=>?_,h.core.lv.nodup,h.core.lv.sep⟩,fun p hp=>?_,fun p hp e he=>?_,h.core.ord,⟨s.number+1,Nat.le_refl _,rfl⟩,⟨[],by rw [hl'];rfl,openB_nil⟩,by simp⟩
   ·have:=h.core.cntE;simp [total];omega
   ·obtain ⟨k,a1,a2⟩:=h.core.lv.names p hp
    have a1:k≤s.number:=a1
    exact ⟨k,by show k≤s.number+1;omega,a2⟩
   ·obtain ⟨f,cs,a1,a2⟩:=h.core.on p hp
    exact ⟨f,cs,by rw [hf' _ (List.mem_map.2 ⟨p,hp,rfl⟩)];exact a1,a2⟩
   ·have h1:=h.core.seqs p hp e he
    have h1:e.seq≤q0:=h1
    show e.seq≤s.seq;omega
  rcases c3 with ⟨rfl,c3,c4⟩|⟨e,rfl,c3,c4⟩
  ·have hfl:file D3 (logN (s.number+1))=some []:=by rw [c4,if_neg (log_state _)];exact if_pos rfl
   have hrun:Run C { s with number:=s.number+1,log:=logN (s.number+1) } D3 s.seq Ls [] E:=by
    refine ⟨hnew D3 c2.ok (by rw [c4,if_pos rfl]) hfl fun m hm=>?_,hm0,by simp [total],⟨[],by rw [hfl];rfl,by simp⟩,fun m hm=>?_,by omega,h.snaps⟩
    ·rw [c4,if_neg fun hh=>names_ne_state h.core.lv (by rw [← hh];exact hm),if_neg fun hh=>names_ne_log h.core.lv (s.number+1) (by rw [← hh];exact hm),if_neg fun hh=>names_ne_log h.core.lv k0 (by rw [← hk1,← hh];exact hm)]
    ·show m=stateN∨m=logN (s.number+1)∨_
     rw [c4] at hm
     by_cases h1:m=stateN
     ·exact .inl h1
     rw [if_neg h1] at hm
     by_cases h2:m=logN (s.number+1)
     ·exact .inr (.inl h2)
     rw [if_neg h2] at hm
     by_cases h3:m=s.log
     ·exact absurd (if_pos h3) hm
     rw [if_neg h3] at hm
     rcases h.known m hm with h4|h4|h4
     ·exact absurd h4 h1
     ·exact absurd h4 h3
     ·exact .inr (.inr h4)
   dsimp only [bindO]
   obtain ⟨x,D4,s1,l3,s2⟩:=settle_law ho hrun (by simp [total]) hE (by simp) (by show s.number+1+3*E≤_;omega)
   refine ⟨x,D4,s1,c2.trans l3,?_⟩
   have hmo2:momentsS { s with number:=s.number+1,log:=logN (s.number+1) }=momentsS s:=rfl
   rw [hmo2] at s2
   have hsee:∀ k,valE (visL (s.mem::srcs Ls) k latestN)=valE (visL (srcs Ls) k latestN):=fun k=>by rw [visL_cons,hm0];rfl
   rcases s2 with ⟨e,a1,a2,c',Ls',bs',a3,a4⟩|⟨s',Ls',a1,a2,a3,a4,a5,a6,a7⟩
   ·refine .inl ⟨e,a1,a2.before c2,c',Ls',bs',a3,?_⟩
    rcases a4 with ⟨b1,rfl,b3⟩|⟨b1,rfl,b3⟩
    ·refine ⟨by rw [b1];simp [total],fun k=>?_⟩
     show seeR c' Ls' [] k=valE (visL (s.mem::srcs Ls) k latestN)
     rw [seeR_nil,hsee]
     exact b3 latestN (by rw [hmo];exact List.mem_cons_self) k
    ·refine ⟨by rw [b1];simp [total],fun k=>?_⟩
     show seeR c' Ls' [] k=valE (visL (s.mem::srcs Ls) k latestN)
     rw [seeR_nil]
     exact b3 latestN (by rw [hmo];exact List.mem_cons_self) k
   ·have hlog':s'.log=logN (s.number+1):=a5.1
    refine .inr ⟨s',Ls',a1,a2,fun k=>?_,by rw [a4.mem];exact hm0,by rw [a4.snaps];exact hsn.1,by rw [a4.snap];exact hsn.2,a4.seq,?_,?_,a7⟩
    ·show _=valE (visL (s.mem::srcs Ls) k latestN)
     rw [hsee];exact a3 latestN (by rw [hmo];exact List.mem_cons_self) k
    ·have a6:s'.number≤s.number+1+3*E:=a6
     omega
    ·rw [hlog']
     have:=a5.2
     have this:file D4 (logN (s.number+1))=file D3 (logN (s.number+1)):=this
     rw [this];exact hfl
  ·refine ⟨_,_,rfl,c2,.inl ⟨e,rfl,c3,?_⟩⟩
   rcases c4 with c4|c4
   ·refine ⟨_,Ls,bs,h.core.files c2.ok fun m hm=>c4 m ?_ ?_,herr _ _ _ (.inl ⟨rfl,rfl,SameV.refl _ _⟩)⟩
    ·rcases hm with hm|hm|hm
     ·rw [hm];exact fresh_state.symm
     ·have hm:m=s.log:=hm
      rw [hm,hk1];exact log_fresh _
     ·exact fun hh=>names_ne_fresh h.core.lv (by rw [← hh];exact hm)
    ·rcases hm with hm|hm|hm
     ·rw [hm];exact (log_state _).symm
     ·have hm:m=s.log:=hm
      rw [hm];exact hlogne
     ·exact fun hh=>names_ne_log h.core.lv (s.number+1) (by rw [← hh];exact hm)
   ·refine ⟨_,Ls,[],hnew D3 c2.ok (by rw [c4,if_pos rfl]) (by rw [c4,if_neg (log_state _)];exact if_pos rfl) fun m hm=>?_,herr _ _ _ (.inr ⟨rfl,rfl,fun m _ k=>?_⟩)⟩
    ·rw [c4,if_neg fun hh=>names_ne_state h.core.lv (by rw [← hh];exact hm),if_neg fun hh=>names_ne_log h.core.lv (s.number+1) (by rw [← hh];exact hm)]
    ·rw [visL_cons,hm0];rfl
theorem open_law {o:Opt} (ho:1≤o.tables) (h:RecM C D c Ls bs E) (hj:∀ b,file D c.log=some b→b.length≤1073741824) (hE:E≤1048576) (hB:bs.length≤16777216) (hm:D.moves.length+D.now.length≤4194304) (hnum:c.number+4*E+1≤4611686018427387904) :
 ∃ x D',openS o D=some (x,D')∧OpenEnd C o D (c.seq+total bs) (seeR c Ls bs) (c.number+4*E+1) E x D':=by
 unfold openS
 obtain ⟨x,D1,l1,l2,l3⟩:=loadS_law h hE
 rw [l1]
 have hR1:RecM C D1 c Ls bs E:=h.files l2.later.ok fun m _=>l2.file m
 rcases l3 with ⟨e,rfl,l3⟩|rfl
 ·exact ⟨_,_,rfl,l2.later,.inl ⟨e,rfl,.inl l3,c,Ls,bs,hR1,rfl,fun _=>rfl⟩⟩
 dsimp only [bindO]
 have hnow:D1.now.length=D.now.length:=by
  have h1:∀ m,m∈listD D1↔m∈listD D:=fun m=>by rw [listD_mem,listD_mem,l2.file]
  have h2:=nodup_le (listD_nodup l2.later.ok) fun m hm=>(h1 m).1 hm
  have h3:=nodup_le (listD_nodup h.ok) fun m hm=>(h1 m).2 hm
  rw [listD_len,listD_len] at h2 h3
  omega
 obtain ⟨x,D2,c1,c2,c3,c4,c5⟩:=clean_law (C:=C) (s:=loaded c bs) (Ls:=Ls) l2.later.ok h.levels (by rw [l2.moves,hnow];omega)
 rw [c1]
 have hR2:RecM C D2 c Ls bs E:=hR1.files c2.ok fun m hm=>c4 m hm
 rcases c5 with ⟨e,rfl,c5⟩|⟨rfl,c5⟩
 ·exact ⟨_,_,rfl,l2.later.trans c2,.inl ⟨e,rfl,c5.before l2.later,c,Ls,bs,hR2,rfl,fun _=>rfl⟩⟩
 dsimp only
 have hrun:Run C (loaded c bs) D2 c.seq Ls (bs.map (·.map normC)) E:=by
  refine ⟨hR2.norm.congr rfl rfl rfl rfl,rfl,by rw [total_norm];rfl,?_,c5,by rw [l2.moves,hnow] at c3;omega,by show [].length≤4;simp⟩
  obtain ⟨junk,j1,j2⟩:=h.logf
  refine ⟨junk,?_,?_⟩
  ·rw [logBytes_norm]
   have h2:file D2 c.log=file D1 c.log:=c4 _ (.inr (.inl rfl))
   show file D2 c.log=_
   rw [h2,l2.file];exact j1
  ·have:=hj _ j1;rw [List.length_append] at this;omega
 obtain ⟨x,D3,r1,r2⟩:=renew_law ho hrun ⟨rfl,rfl⟩ hE (by simpa using hB) hnum
 refine ⟨x,D3,r1,?_⟩
 have e1:(fun k=>valE (visL ((loaded c bs).mem::srcs Ls) k latestN))=seeR c Ls bs:=funext fun k=>see_norm c.seq bs (srcs Ls) k latestN
 rw [e1] at r2
 exact r2.before (l2.later.trans c2) (Nat.le_refl _)
end
end
section
open Go.Proofs.YtecibefflhomdaaGreatDoor.Pure
def Sees (s:St) (Ls:Lvs) (m:Nat) (k:Bs):Option Bs:=valE (visL (s.mem::srcs Ls) k m)
def CallEnd (C:Prop) (s:St) (D:PDisk) (Ls:Lvs) (see:Bs→Option Bs) (q':Nat) (see':Bs→Option Bs) (N E B:Nat) (shape:St→Lvs→Prop) (x:Except Err St) (D':PDisk):Prop:=
 Later D D' ∧
  ((∃ e,x=.error e∧Flt C D e∧∃ c' Ls' bs',RecM C D' c' Ls' bs' E∧((c'.seq+total bs'=s.seq∧∀ k,seeR c' Ls' bs' k=see k)∨(c'.seq+total bs'=q'∧∀ k,seeR c' Ls' bs' k=see' k))) ∨
   ∃ s' q0' Ls' bs',x=.ok s'∧Run C s' D' q0' Ls' bs' E∧file D' s'.log=some (logBytes q0' bs')∧s'.seq=q'∧s'.snaps=s.snaps∧s'.snap=s.snap∧s'.number≤s.number+N ∧
    (∀ k,Sees s' Ls' latestN k=see' k)∧(∀ m∈s.snaps.map (·.2),∀ k,Sees s' Ls' m k=Sees s Ls m k)∧bs'.length≤B∧shape s' Ls')
section
variable {C:Prop} {D:PDisk} {c s:St} {Ls:Lvs} {bs:List (List Chg)} {E q0:Nat}
theorem RecM.more {E':Nat} (h:RecM C D c Ls bs E) (hE:E≤E'):RecM C D c Ls bs E':=
 ⟨h.ok,h.levels,h.state,h.num,h.seq,Nat.le_trans h.cntE hE,h.lv,h.on,h.seqs,h.ord,h.log,h.logf,h.bsok⟩
theorem Run.more {E':Nat} (h:Run C s D q0 Ls bs E) (hE:E≤E'):Run C s D q0 Ls bs E':=
 ⟨h.core.more hE,h.mem,h.seq,h.logf,h.known,h.moves,h.snaps⟩
theorem total_app (a b:List (List Chg)):total (a++b)=total a+total b:=by unfold total;simp
theorem logBytes_app:∀ (a:List (List Chg)) (q:Nat) (b:List Chg),logBytes q (a++[b])=logBytes q a++frameB (logB (q+total a) b)
 | [],q,b=>by simp [logBytes,total]
 | x::a,q,b=>by
  have ht:total (x::a)=x.length+total a:=by simp [total]
  rw [List.cons_append,logBytes,logBytes,logBytes_app a,ht,Nat.add_assoc,List.append_assoc]
theorem memOf_app:∀ (a:List (List Chg)) (q:Nat) (b:List Chg) (m:List Ent),memOf q (a++[b]) m=(batchE (q+total a) b).foldl addL (memOf q a m)
 | [],q,b,m=>by simp [memOf,total]
 | x::a,q,b,m=>by
  have ht:total (x::a)=x.length+total a:=by simp [total]
  rw [List.cons_append,memOf,memOf,memOf_app a,ht,Nat.add_assoc]
theorem added (h:Run C s D q0 Ls bs E) {D':PDisk} {l:List Chg} (hl:BOk l) (hd:D'.Ok) (hmv:D'.moves=D.moves) (hq:s.seq+l.length≤4611686018427387904)
 (hf:∀ m,file D' m=if m=s.log then some (logBytes q0 (bs++[l])) else file D m):Run C (addsS s l) D' q0 Ls (bs++[l]) (E+l.length):=by
 have hseq:=h.seq
 have hm:=h.mem
 have htl:total [l]=l.length:=by simp [total]
 obtain ⟨k0,hk0,hk1⟩:=h.core.log
 have hk1:s.log=logN k0:=hk1
 have hoth:∀ m,m≠s.log→file D' m=file D m:=fun m hh=>by rw [hf,if_neg hh]
 have hlog:file D' s.log=some (logBytes q0 (bs++[l])):=by rw [hf,if_pos rfl]
 have hmv2:=h.moves
 refine ⟨⟨hd,h.core.levels,?_,h.core.num,?_,?_,h.core.lv,fun p hp=>?_,h.core.seqs,h.core.ord,h.core.log,?_,?_⟩,?_,?_,?_,fun m hh=>?_,by rw [hmv];exact hmv2,h.snaps⟩
 ·rw [hoth _ (by rw [hk1];exact (log_state _).symm)];exact h.core.state
 ·show q0+total (bs++[l])≤_
  rw [total_app,htl];omega
 ·have:=h.core.cntE;rw [total_app,htl];omega
 ·obtain ⟨f,cs,a1,a2⟩:=h.core.on p hp
  exact ⟨f,cs,by rw [hoth _ fun hh=>names_ne_log h.core.lv k0 (by rw [← hk1,← hh];exact List.mem_map.2 ⟨p,hp,rfl⟩)];exact a1,a2⟩
 ·exact ⟨[],by rw [List.append_nil];exact hlog,openB_nil⟩
 ·intro b hb
  rcases List.mem_append.1 hb with hb|hb
  ·exact h.core.bsok b hb
  ·simp at hb;subst hb;exact hl
 ·show (batchE s.seq l).foldl addL s.mem=_
  rw [memOf_app,← hm,hseq]
 ·show s.seq+l.length=_
  rw [total_app,htl];omega
 ·exact ⟨[],by rw [List.append_nil];exact hlog,by simp⟩
 ·show m=stateN∨m=s.log∨_
  by_cases h1:m=s.log
  ·exact .inr (.inl h1)
  ·rw [hoth m h1] at hh
   exact h.known m hh
theorem Run.seeR (h:Run C s D q0 Ls bs E) (k:Bs):YtecibefflhomdaaGreatDoor.seeR { s with seq:=q0 } Ls bs k=Sees s Ls latestN k:=by
 unfold YtecibefflhomdaaGreatDoor.seeR Sees
 rw [h.mem]
theorem write_law {o:Opt} {sync:Bool} {l:List Chg} {ps:List (Bs×Bs)} (ho:1≤o.tables) (hom:1≤o.memory) (h:Run C s D q0 Ls bs E) (hlog:file D s.log=some (logBytes q0 bs)) (hl:BOk l)
 (hE:E+l.length≤1048576) (hB:bs.length<16777216) (hq:s.seq+l.length≤4611686018427387904) (hnum:s.number+4*(E+l.length)+1≤4611686018427387904) (hmem:s.mem.length<o.memory)
 (hps:∀ k,Sees s Ls latestN k=lookP ps k) (hsn:∀ m∈s.snaps.map (·.2),m≤s.seq) :
 ∃ x D',writeS o s D l sync=some (x,D')∧CallEnd C s D Ls (fun k=>lookP ps k) (s.seq+l.length) (fun k=>lookP (doP ps l) k) (4*(E+l.length)+1) (E+l.length) (bs.length+1) (fun s' Ls'=>s'.mem.length<o.memory∧((Ls'=Ls)∨Settled o Ls')) x D':=by
 obtain ⟨hm1,hm2⟩:=h.memOk
 have hcnt:=h.core.cntE
 have hseq:=h.seq
 have hq0:s.seq≤4611686018427387904:=by omega
 have hold:∀ D':PDisk,D'.Ok→(∀ m,file D' m=file D m)→∃ c' Ls' bs',RecM C D' c' Ls' bs' (E+l.length)∧((c'.seq+total bs'=s.seq∧∀ k,YtecibefflhomdaaGreatDoor.seeR c' Ls' bs' k=lookP ps k)∨(c'.seq+total bs'=s.seq+l.length∧∀ k,YtecibefflhomdaaGreatDoor.seeR c' Ls' bs' k=lookP (doP ps l) k)):=fun D' hd hf=>
  ⟨_,Ls,bs,(h.core.files hd fun m _=>hf m).more (Nat.le_add_right _ _),.inl ⟨hseq.symm,fun k=>(h.seeR k).trans (hps k)⟩⟩
 unfold writeS
 rw [if_pos ⟨hq0,by omega⟩]
 unfold runOp
 dsimp only
 cases ha:appendE D s.log (frameB (logB s.seq l)) with
 | some e=>
  obtain ⟨a1,a2⟩:=append_err h.core.ok ha hlog
  have s1:=Same.tick h.core.ok
  refine ⟨_,_,rfl,by rw [a1];exact s1.later,.inl ⟨e,rfl,?_,hold _ (by rw [a1];exact s1.later.ok) fun m=>by rw [a1];exact s1.file m⟩⟩
  rcases a2 with a2|⟨a2,a3⟩
  ·exact .of a2
  ·have hused:=h.used (by omega) (by omega)
   have hfl:(frameB (logB s.seq l)).length≤292:=by
    have he:∀ e∈batchE s.seq l,EOk e:=fun e hh=>(batch_ok l s.seq hl.key hl.val (by omega) e hh).1
    have h1:=putsB_le he
    have h2:=hl.len
    rw [batchE_length] at h1
    unfold putsB at h1
    unfold logB
    rw [frameB_length,List.length_append,numB_length];omega
   exact .inr ⟨a2,by omega⟩
 | none=>
  obtain ⟨b,b1,b2,b3,b4,b5,b6⟩:=append_ok h.core.ok ha
  rw [hlog] at b1
  obtain rfl:=Option.some.inj b1
  dsimp only
  generalize hD1:appended D s.log (frameB (logB s.seq l))=D1 at b2 b3 b4 b5
  have hf1:∀ m,file D1 m=if m=s.log then some (logBytes q0 (bs++[l])) else file D m:=fun m=>by
   rw [b2,logBytes_app,hseq]
  have hsq:∀ x∈s.mem,x.seq≤s.seq:=fun x hx=>(hm1.seq x hx).2
  have hlat:latestN=18446744073709551615:=rfl
  have hnewS:∀ k,Sees (addsS s l) Ls latestN k=lookP (doP ps l) k:=fun k=>by
   unfold Sees
   rw [visL_cons]
   show valE ((vis ((batchE s.seq l).foldl addL s.mem) k latestN).or _)=_
   refine adds_val_new l k latestN ps _ hm1.srt hsq (by omega) ?_
   have:=hps k
   unfold Sees at this
   rw [visL_cons] at this;exact this
  have holdS:∀ m,m≤s.seq→∀ k,Sees (addsS s l) Ls m k=Sees s Ls m k:=fun m hm k=>by
   unfold Sees
   rw [visL_cons,visL_cons]
   show valE ((vis ((batchE s.seq l).foldl addL s.mem) k m).or _)=_
   rw [adds_vis_old l k m hm1.srt hsq hm]
  have hsync:∃ (x:Option Err) (D2:PDisk),(if sync=true then (some (findE D1 s.log,syncD D1 s.log):Option (Option Err×PDisk)) else some (none,D1))=some (x,D2)∧(∀ m,file D2 m=file D1 m)∧Later D1 D2∧D2.moves=D1.moves∧(x=none∨∃ e,x=some e∧Trip D1 e):=by
   cases sync with
   | false=>exact ⟨_,_,rfl,fun _=>rfl,Later.refl b4.ok,rfl,.inl rfl⟩
   | true=>
    obtain ⟨y1,y2,y3,y4⟩:=sync_law b4.ok s.log
    refine ⟨_,_,rfl,y1,y3,y4,?_⟩
    rcases findE_has (D:=D1) (n:=s.log) (b:=logBytes q0 (bs++[l])) (by rw [hf1,if_pos rfl]) with h1|⟨e,h1,ht⟩
    ·exact .inl h1
    ·exact .inr ⟨e,h1,ht⟩
  obtain ⟨x,D2,z1,z2,z3,z4,z5⟩:=hsync
  have hrun:Run C (addsS s l) D2 q0 Ls (bs++[l]) (E+l.length):=added h hl z3.ok (z4.trans b5) hq fun m=>by rw [z2,hf1]
  have hlog2:file D2 s.log=some (logBytes q0 (bs++[l])):=by rw [z2,hf1,if_pos rfl]
  have l2:=b4.trans z3
  rw [z1]
  rcases z5 with rfl|⟨e,rfl,z5⟩
  ·dsimp only
   by_cases hfull:o.memory≤(addsS s l).mem.length
   ·rw [if_pos hfull]
    obtain ⟨x,D',k1,k2,k3⟩:=flush_law ho hrun hE (by simp;omega) hnum
    refine ⟨x,D',k1,l2.trans k2,?_⟩
    have hmo:momentsS (addsS s l)=momentsS s:=rfl
    have hsqn:(addsS s l).seq=s.seq+l.length:=rfl
    rcases k3 with ⟨e,a1,a2,c',Ls',bs',a3,a4⟩|⟨s',Ls',a1,a2,a3,a4,a5,a6,a7,a8,a9⟩
    ·refine .inl ⟨e,a1,a2.before l2,c',Ls',bs',a3,.inr ?_⟩
     rcases a4 with ⟨r1,rfl,r3⟩|⟨r1,rfl,r3⟩
     ·refine ⟨by rw [r1,← hrun.seq];rfl,fun k=>?_⟩
      show YtecibefflhomdaaGreatDoor.seeR c' Ls' (bs++[l]) k=lookP (doP ps l) k
      rw [← hnewS k,← hrun.seeR k]
      unfold YtecibefflhomdaaGreatDoor.seeR
      rw [r1,visL_cons,visL_cons]
      exact valE_or (r3 latestN List.mem_cons_self k)
     ·refine ⟨by rw [r1];simp [total];rfl,fun k=>?_⟩
      show YtecibefflhomdaaGreatDoor.seeR c' Ls' [] k=lookP (doP ps l) k
      rw [seeR_nil,r3 latestN List.mem_cons_self k]
      exact hnewS k
    ·have hm0:s'.mem=[]:=a2.mem
     have hse:∀ m,m∈momentsS s→∀ k,Sees s' Ls' m k=Sees (addsS s l) Ls m k:=fun m hm k=>by
      have:=a3 m hm k
      unfold Sees
      rw [hm0,visL_cons]
      exact this
     refine .inr ⟨s',_,Ls',[],a1,a2,by rw [a8];rfl,by rw [a4];rfl,a5,a6,by rw [show (addsS s l).number=s.number from rfl] at a7;omega,fun k=>?_,fun m hm k=>?_,by simp,by rw [hm0];simp;omega,.inr a9⟩
     ·rw [hse latestN List.mem_cons_self k];exact hnewS k
     ·rw [hse m (List.mem_cons_of_mem _ hm) k]
      exact holdS m (hsn m hm) k
   ·rw [if_neg hfull]
    refine ⟨_,_,rfl,l2,.inr ⟨_,q0,Ls,bs++[l],rfl,hrun,hlog2,rfl,rfl,rfl,by show s.number≤_;omega,hnewS,fun m hm k=>holdS m (hsn m hm) k,by simp,by omega,.inl rfl⟩⟩
  ·refine ⟨_,_,rfl,l2,.inl ⟨e,rfl,.of (z5.before b4),_,Ls,bs++[l],hrun.core,.inr ⟨?_,fun k=>(hrun.seeR k).trans (hnewS k)⟩⟩⟩
   rw [show ({ addsS s l with seq:=q0 }:St).seq=q0 from rfl,← hrun.seq];rfl
def CompShp (ms:List Nat) (Ls':Lvs):Prop:=∃ R ls,Srt R∧Ls'=[[],[],[],ls]∧(ls.map (·.2)).flatten=keptL ms true R∧∀ p∈ls,p.2.length≤99
theorem compact_law {o:Opt} (ho:1≤o.tables) (h:Run C s D q0 Ls bs E) (hlog:file D s.log=some (logBytes q0 bs)) (hE:E≤1048576) (hB:bs.length≤16777216) (hnum:s.number+5*E+1≤4611686018427387904) :
 ∃ x D',compactS o s D=some (x,D')∧CallEnd C s D Ls (Sees s Ls latestN) s.seq (Sees s Ls latestN) (5*E+1) E bs.length (fun s' Ls'=>s'.mem=[]∧CompShp (momentsS s) Ls') x D':=by
 have hseq:=h.seq
 have hmem:=h.mem
 have mer:∀ (s1:St) (D1:PDisk) (Ls1:Lvs) (bs1:List (List Chg)) (q1:Nat),Run C s1 D1 q1 Ls1 bs1 E→total bs1=0→s1.mem=[]→s1.seq=s.seq→s1.snaps=s.snaps→s1.snap=s.snap→s1.number≤s.number+4*E+1→bs1.length≤bs.length →
  file D1 s1.log=some (logBytes q1 bs1)→(∀ m∈momentsS s,∀ k,Sees s1 Ls1 m k=Sees s Ls m k)→Later D D1 →
  ∃ x D',mergeS s1 D1 0 3=some (x,D')∧CallEnd C s D Ls (Sees s Ls latestN) s.seq (Sees s Ls latestN) (5*E+1) E bs.length (fun s' Ls'=>s'.mem=[]∧CompShp (momentsS s) Ls') x D':=by
  intro s1 D1 Ls1 bs1 q1 h1 ht hm0 hq hsn hsp hn hbl hlg hse hlt
  obtain ⟨x,D',k1,l1,k2⟩:=merge_law h1 ht (a:=0) (b:=3) (.inl ⟨rfl,.inr rfl⟩) hE (by omega) (by omega)
  have hmo:momentsS s1=momentsS s:=by unfold momentsS;rw [hsn]
  refine ⟨x,D',k1,hlt.trans l1,?_⟩
  have hs1:∀ m k,Sees s1 Ls1 m k=valE (visL (srcs Ls1) k m):=fun m k=>by unfold Sees;rw [hm0,visL_cons];rfl
  have hq1:=h1.seq
  rcases k2 with ⟨e,a1,a2,c',Ls',bs',a3,a4⟩|⟨s',Ls',a1,a2,a3,a4,a5,a6,a7⟩
  ·refine .inl ⟨e,a1,a2.before hlt,c',Ls',bs',a3,.inl ?_⟩
   rw [hmo] at a4
   rcases a4 with ⟨r1,rfl,r3⟩|⟨r1,rfl,r3⟩
   ·refine ⟨by omega,fun k=>?_⟩
    rw [← hse latestN List.mem_cons_self k,← h1.seeR k]
    unfold YtecibefflhomdaaGreatDoor.seeR
    rw [r1,visL_cons,visL_cons]
    exact valE_or (r3 latestN List.mem_cons_self k)
   ·refine ⟨by simp [total];omega,fun k=>?_⟩
    rw [seeR_nil,r3 latestN List.mem_cons_self k]
    exact hse latestN List.mem_cons_self k
  ·rw [hmo] at a3
   have hm':s'.mem=[]:=a4.mem.trans hm0
   have hse':∀ m∈momentsS s,∀ k,Sees s' Ls' m k=Sees s Ls m k:=fun m hm k=>by
    rw [← hse m hm k,hs1]
    unfold Sees
    rw [hm',visL_cons]
    exact a3 m hm k
   refine .inr ⟨s',q1,Ls',bs1,a1,a2,by rw [a5.1,a5.2];exact hlg,a4.seq.trans hq,a4.snaps.trans hsn,a4.snap.trans hsp,by omega,hse' latestN List.mem_cons_self,fun m hm=>hse' m (List.mem_cons_of_mem _ hm),hbl,hm',?_⟩
   obtain ⟨R,ls,b1,b2,b3,b4,b5⟩:=a7
   obtain ⟨L0,L1,L2,L3,hL⟩:=four_of h1.core.lv.len
   refine ⟨R,ls,b1,?_,?_,b5⟩
   ·rw [b3,hL];rfl
   ·rw [b4,hmo,hL];rfl
 unfold compactS
 by_cases hm:0<s.mem.length
 ·rw [if_pos hm]
  obtain ⟨x,D1,k1,l1,k2⟩:=flush_law ho h hE hB (by omega)
  rw [k1]
  rcases k2 with ⟨e,rfl,a2,c',Ls',bs',a3,a4⟩|⟨s',Ls',rfl,a2,a3,a4,a5,a6,a7,a8,a9⟩
  ·refine ⟨_,_,rfl,l1,.inl ⟨e,rfl,a2,c',Ls',bs',a3,.inl ?_⟩⟩
   rcases a4 with ⟨r1,rfl,r3⟩|⟨r1,rfl,r3⟩
   ·refine ⟨by rw [r1,hseq],fun k=>?_⟩
    rw [← h.seeR k]
    unfold YtecibefflhomdaaGreatDoor.seeR
    rw [r1,visL_cons,visL_cons]
    exact valE_or (r3 latestN List.mem_cons_self k)
   ·refine ⟨by rw [r1];simp [total],fun k=>?_⟩
    rw [seeR_nil,r3 latestN List.mem_cons_self k];rfl
  ·dsimp only [bindO]
   have hm0:s'.mem=[]:=a2.mem
   refine mer s' D1 Ls' [] s.seq a2 (by simp [total]) hm0 a4 a5 a6 (by omega) (by simp) (by rw [a8];rfl) (fun m hm k=>?_) l1
   unfold Sees
   rw [hm0,visL_cons]
   exact a3 m hm k
 ·rw [if_neg hm]
  dsimp only [bindO]
  have hm0:s.mem=[]:=by cases hh:s.mem with
   | nil=>rfl
   | cons _ _=>rw [hh] at hm;simp at hm
  have ht:total bs=0:=by have:=h.memOk.2;rw [hm0] at this;simpa using this.symm
  exact mer s D Ls bs q0 h ht hm0 rfl rfl rfl (by omega) (Nat.le_refl _) hlog (fun _ _ _=>rfl) (Later.refl h.core.ok)
end
end
end Go.Proofs.YtecibefflhomdaaGreatDoor
