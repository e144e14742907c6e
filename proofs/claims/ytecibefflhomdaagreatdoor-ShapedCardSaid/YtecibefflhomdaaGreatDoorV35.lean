/-
  Part 35: PLAIN Write, Compact, Close; PLAIN the document's answer, and the store beside it.
-/
import Derived.Test.YtecibefflhomdaaGreatDoorV34
set_option maxHeartbeats 8000000
set_option maxRecDepth 100000
set_option linter.all false
namespace Go.Proofs.YtecibefflhomdaaGreatDoor
open Go
section
open Go.Proofs.YtecibefflhomdaaGreatDoor.Pure
def gS (s:St) (Ls:fU) (m:Nat) (k:Bs):Option Bs:=eg (fH (s.mem::dt Ls) k m)
def uo (C:Prop) (s:St) (D:ae) (Ls:fU) (see:Bs→Option Bs) (q':Nat) (see':Bs→Option Bs) (N E B:Nat) (shape:St→fU→Prop) (x:Except cx St) (D':ae):Prop:=
 de D D' ∧
  ((∃ e,x=.error e∧um C D e∧∃ c' Ls' bs',RecM C D' c' Ls' bs' E∧((c'.seq+total bs'=s.seq∧∀ k,iQ c' Ls' bs' k=see k)∨(c'.seq+total bs'=q'∧∀ k,iQ c' Ls' bs' k=see' k))) ∨
   ∃ s' q0' Ls' bs',x=.ok s'∧je C s' D' q0' Ls' bs' E∧file D' s'.log=some (bJ q0' bs')∧s'.seq=q'∧s'.snaps=s.snaps∧s'.snap=s.snap∧s'.number≤s.number+N ∧
    (∀ k,gS s' Ls' aE k=see' k)∧(∀ m∈s.snaps.map (·.2),∀ k,gS s' Ls' m k=gS s Ls m k)∧bs'.length≤B∧shape s' Ls')
section
variable {C:Prop} {D:ae} {c s:St} {Ls:fU} {bs:List (List cG)} {E q0:Nat}
theorem RecM.more {E':Nat} (h:RecM C D c Ls bs E) (hE:E≤E'):RecM C D c Ls bs E':=
 ⟨h.ok,h.levels,h.state,h.num,h.seq,Nat.le_trans h.cntE hE,h.lv,h.on,h.seqs,h.ord,h.log,h.logf,h.bsok⟩
theorem je.more {E':Nat} (h:je C s D q0 Ls bs E) (hE:E≤E'):je C s D q0 Ls bs E':=
 ⟨h.core.more hE,h.mem,h.seq,h.logf,h.known,h.moves,h.snaps⟩
theorem sC (a b:List (List cG)):total (a++b)=total a+total b:=by unfold total;simp
theorem rj:∀ (a:List (List cG)) (q:Nat) (b:List cG),bJ q (a++[b])=bJ q a++aF (lB (q+total a) b)
 | [],q,b=>by simp [bJ,total]
 | x::a,q,b=>by
  have ht:total (x::a)=x.length+total a:=by simp [total]
  rw [List.cons_append,bJ,bJ,rj a,ht,Nat.add_assoc,List.append_assoc]
theorem yM:∀ (a:List (List cG)) (q:Nat) (b:List cG) (m:List aB),ij q (a++[b]) m=(bc (q+total a) b).foldl dU (ij q a m)
 | [],q,b,m=>by simp [ij,total]
 | x::a,q,b,m=>by
  have ht:total (x::a)=x.length+total a:=by simp [total]
  rw [List.cons_append,ij,ij,yM a,ht,Nat.add_assoc]
theorem added (h:je C s D q0 Ls bs E) {D':ae} {l:List cG} (hl:Ma l) (hd:D'.Ok) (hmv:D'.moves=D.moves) (hq:s.seq+l.length≤4611686018427387904)
 (hf:∀ m,file D' m=if m=s.log then some (bJ q0 (bs++[l])) else file D m):je C (eI s l) D' q0 Ls (bs++[l]) (E+l.length):=by
 have hseq:=h.seq
 have hm:=h.mem
 have htl:total [l]=l.length:=by simp [total]
 obtain ⟨k0,hk0,hk1⟩:=h.core.log
 have hk1:s.log=cj k0:=hk1
 have hoth:∀ m,m≠s.log→file D' m=file D m:=fun m hh=>by rw [hf,if_neg hh]
 have hlog:file D' s.log=some (bJ q0 (bs++[l])):=by rw [hf,if_pos rfl]
 have hmv2:=h.moves
 refine ⟨⟨hd,h.core.levels,?_,h.core.num,?_,?_,h.core.lv,fun p hp=>?_,h.core.seqs,h.core.ord,h.core.log,?_,?_⟩,?_,?_,?_,fun m hh=>?_,by rw [hmv];exact hmv2,h.snaps⟩
 ·rw [hoth _ (by rw [hk1];exact (eO _).symm)];exact h.core.state
 ·show q0+total (bs++[l])≤_
  rw [sC,htl];omega
 ·have:=h.core.cntE;rw [sC,htl];omega
 ·obtain ⟨f,cs,a1,a2⟩:=h.core.on p hp
  exact ⟨f,cs,by rw [hoth _ fun hh=>eE h.core.lv k0 (by rw [← hk1,← hh];exact List.mem_map.2 ⟨p,hp,rfl⟩)];exact a1,a2⟩
 ·exact ⟨[],by rw [List.append_nil];exact hlog,oT⟩
 ·intro b hb
  rcases List.mem_append.1 hb with hb|hb
  ·exact h.core.bsok b hb
  ·simp at hb;subst hb;exact hl
 ·show (bc s.seq l).foldl dU s.mem=_
  rw [yM,← hm,hseq]
 ·show s.seq+l.length=_
  rw [sC,htl];omega
 ·exact ⟨[],by rw [List.append_nil];exact hlog,by simp⟩
 ·show m=aU∨m=s.log∨_
  by_cases h1:m=s.log
  ·exact .inr (.inl h1)
  ·rw [hoth m h1] at hh
   exact h.known m hh
theorem je.iQ (h:je C s D q0 Ls bs E) (k:Bs):YtecibefflhomdaaGreatDoor.iQ { s with seq:=q0 } Ls bs k=gS s Ls aE k:=by
 unfold YtecibefflhomdaaGreatDoor.iQ gS
 rw [h.mem]
theorem H6 {o:nH} {sync:Bool} {l:List cG} {ps:List (Bs×Bs)} (ho:1≤o.tables) (hom:1≤o.memory) (h:je C s D q0 Ls bs E) (hlog:file D s.log=some (bJ q0 bs)) (hl:Ma l)
 (hE:E+l.length≤1048576) (hB:bs.length<16777216) (hq:s.seq+l.length≤4611686018427387904) (hnum:s.number+4*(E+l.length)+1≤4611686018427387904) (hmem:s.mem.length<o.memory)
 (hps:∀ k,gS s Ls aE k=bE ps k) (hsn:∀ m∈s.snaps.map (·.2),m≤s.seq) :
 ∃ x D',oo o s D l sync=some (x,D')∧uo C s D Ls (fun k=>bE ps k) (s.seq+l.length) (fun k=>bE (DL ps l) k) (4*(E+l.length)+1) (E+l.length) (bs.length+1) (fun s' Ls'=>s'.mem.length<o.memory∧((Ls'=Ls)∨kz o Ls')) x D':=by
 obtain ⟨hm1,hm2⟩:=h.pG
 have hcnt:=h.core.cntE
 have hseq:=h.seq
 have hq0:s.seq≤4611686018427387904:=by omega
 have hold:∀ D':ae,D'.Ok→(∀ m,file D' m=file D m)→∃ c' Ls' bs',RecM C D' c' Ls' bs' (E+l.length)∧((c'.seq+total bs'=s.seq∧∀ k,YtecibefflhomdaaGreatDoor.iQ c' Ls' bs' k=bE ps k)∨(c'.seq+total bs'=s.seq+l.length∧∀ k,YtecibefflhomdaaGreatDoor.iQ c' Ls' bs' k=bE (DL ps l) k)):=fun D' hd hf=>
  ⟨_,Ls,bs,(h.core.files hd fun m _=>hf m).more (Nat.le_add_right _ _),.inl ⟨hseq.symm,fun k=>(h.iQ k).trans (hps k)⟩⟩
 unfold oo
 rw [if_pos ⟨hq0,by omega⟩]
 unfold eM
 dsimp only
 cases ha:dW D s.log (aF (lB s.seq l)) with
 | some e=>
  obtain ⟨a1,a2⟩:=qc h.core.ok ha hlog
  have s1:=cK.tick h.core.ok
  refine ⟨_,_,rfl,by rw [a1];exact s1.later,.inl ⟨e,rfl,?_,hold _ (by rw [a1];exact s1.later.ok) fun m=>by rw [a1];exact s1.file m⟩⟩
  rcases a2 with a2|⟨a2,a3⟩
  ·exact .of a2
  ·have hused:=h.used (by omega) (by omega)
   have hfl:(aF (lB s.seq l)).length≤292:=by
    have he:∀ e∈bc s.seq l,mj e:=fun e hh=>(rf l s.seq hl.key hl.val (by omega) e hh).1
    have h1:=lu he
    have h2:=hl.len
    rw [eD] at h1
    unfold fz at h1
    unfold lB
    rw [bW,List.length_append,aV];omega
   exact .inr ⟨a2,by omega⟩
 | none=>
  obtain ⟨b,b1,b2,b3,b4,b5,b6⟩:=se h.core.ok ha
  rw [hlog] at b1
  obtain rfl:=Option.some.inj b1
  dsimp only
  generalize hD1:cg D s.log (aF (lB s.seq l))=D1 at b2 b3 b4 b5
  have hf1:∀ m,file D1 m=if m=s.log then some (bJ q0 (bs++[l])) else file D m:=fun m=>by
   rw [b2,rj,hseq]
  have hsq:∀ x∈s.mem,x.seq≤s.seq:=fun x hx=>(hm1.seq x hx).2
  have hlat:aE=18446744073709551615:=rfl
  have hnewS:∀ k,gS (eI s l) Ls aE k=bE (DL ps l) k:=fun k=>by
   unfold gS
   rw [bD]
   show eg ((fN ((bc s.seq l).foldl dU s.mem) k aE).or _)=_
   refine qC l k aE ps _ hm1.srt hsq (by omega) ?_
   have:=hps k
   unfold gS at this
   rw [bD] at this;exact this
  have holdS:∀ m,m≤s.seq→∀ k,gS (eI s l) Ls m k=gS s Ls m k:=fun m hm k=>by
   unfold gS
   rw [bD,bD]
   show eg ((fN ((bc s.seq l).foldl dU s.mem) k m).or _)=_
   rw [qB l k m hm1.srt hsq hm]
  have hsync:∃ (x:Option cx) (D2:ae),(if sync=true then (some (bx D1 s.log,gz D1 s.log):Option (Option cx×ae)) else some (none,D1))=some (x,D2)∧(∀ m,file D2 m=file D1 m)∧de D1 D2∧D2.moves=D1.moves∧(x=none∨∃ e,x=some e∧qX D1 e):=by
   cases sync with
   | false=>exact ⟨_,_,rfl,fun _=>rfl,de.refl b4.ok,rfl,.inl rfl⟩
   | true=>
    obtain ⟨y1,y2,y3,y4⟩:=qY b4.ok s.log
    refine ⟨_,_,rfl,y1,y3,y4,?_⟩
    rcases fe (D:=D1) (n:=s.log) (b:=bJ q0 (bs++[l])) (by rw [hf1,if_pos rfl]) with h1|⟨e,h1,ht⟩
    ·exact .inl h1
    ·exact .inr ⟨e,h1,ht⟩
  obtain ⟨x,D2,z1,z2,z3,z4,z5⟩:=hsync
  have hrun:je C (eI s l) D2 q0 Ls (bs++[l]) (E+l.length):=added h hl z3.ok (z4.trans b5) hq fun m=>by rw [z2,hf1]
  have hlog2:file D2 s.log=some (bJ q0 (bs++[l])):=by rw [z2,hf1,if_pos rfl]
  have l2:=b4.trans z3
  rw [z1]
  rcases z5 with rfl|⟨e,rfl,z5⟩
  ·dsimp only
   by_cases hfull:o.memory≤(eI s l).mem.length
   ·rw [if_pos hfull]
    obtain ⟨x,D',k1,k2,k3⟩:=sB ho hrun hE (by simp;omega) hnum
    refine ⟨x,D',k1,l2.trans k2,?_⟩
    have hmo:aN (eI s l)=aN s:=rfl
    have hsqn:(eI s l).seq=s.seq+l.length:=rfl
    rcases k3 with ⟨e,a1,a2,c',Ls',bs',a3,a4⟩|⟨s',Ls',a1,a2,a3,a4,a5,a6,a7,a8,a9⟩
    ·refine .inl ⟨e,a1,a2.before l2,c',Ls',bs',a3,.inr ?_⟩
     rcases a4 with ⟨r1,rfl,r3⟩|⟨r1,rfl,r3⟩
     ·refine ⟨by rw [r1,← hrun.seq];rfl,fun k=>?_⟩
      show YtecibefflhomdaaGreatDoor.iQ c' Ls' (bs++[l]) k=bE (DL ps l) k
      rw [← hnewS k,← hrun.iQ k]
      unfold YtecibefflhomdaaGreatDoor.iQ
      rw [r1,bD,bD]
      exact o8 (r3 aE List.mem_cons_self k)
     ·refine ⟨by rw [r1];simp [total];rfl,fun k=>?_⟩
      show YtecibefflhomdaaGreatDoor.iQ c' Ls' [] k=bE (DL ps l) k
      rw [mI,r3 aE List.mem_cons_self k]
      exact hnewS k
    ·have hm0:s'.mem=[]:=a2.mem
     have hse:∀ m,m∈aN s→∀ k,gS s' Ls' m k=gS (eI s l) Ls m k:=fun m hm k=>by
      have:=a3 m hm k
      unfold gS
      rw [hm0,bD]
      exact this
     refine .inr ⟨s',_,Ls',[],a1,a2,by rw [a8];rfl,by rw [a4];rfl,a5,a6,by rw [show (eI s l).number=s.number from rfl] at a7;omega,fun k=>?_,fun m hm k=>?_,by simp,by rw [hm0];simp;omega,.inr a9⟩
     ·rw [hse aE List.mem_cons_self k];exact hnewS k
     ·rw [hse m (List.mem_cons_of_mem _ hm) k]
      exact holdS m (hsn m hm) k
   ·rw [if_neg hfull]
    refine ⟨_,_,rfl,l2,.inr ⟨_,q0,Ls,bs++[l],rfl,hrun,hlog2,rfl,rfl,rfl,by show s.number≤_;omega,hnewS,fun m hm k=>holdS m (hsn m hm) k,by simp,by omega,.inl rfl⟩⟩
  ·refine ⟨_,_,rfl,l2,.inl ⟨e,rfl,.of (z5.before b4),_,Ls,bs++[l],hrun.core,.inr ⟨?_,fun k=>(hrun.iQ k).trans (hnewS k)⟩⟩⟩
   rw [show ({ eI s l with seq:=q0 }:St).seq=q0 from rfl,← hrun.seq];rfl
def pe (ms:List Nat) (Ls':fU):Prop:=∃ R ls,gq R∧Ls'=[[],[],[],ls]∧(ls.map (·.2)).flatten=dB ms true R∧∀ p∈ls,p.2.length≤99
theorem Cn {o:nH} (ho:1≤o.tables) (h:je C s D q0 Ls bs E) (hlog:file D s.log=some (bJ q0 bs)) (hE:E≤1048576) (hB:bs.length≤16777216) (hnum:s.number+5*E+1≤4611686018427387904) :
 ∃ x D',lj o s D=some (x,D')∧uo C s D Ls (gS s Ls aE) s.seq (gS s Ls aE) (5*E+1) E bs.length (fun s' Ls'=>s'.mem=[]∧pe (aN s) Ls') x D':=by
 have hseq:=h.seq
 have hmem:=h.mem
 have mer:∀ (s1:St) (D1:ae) (Ls1:fU) (bs1:List (List cG)) (q1:Nat),je C s1 D1 q1 Ls1 bs1 E→total bs1=0→s1.mem=[]→s1.seq=s.seq→s1.snaps=s.snaps→s1.snap=s.snap→s1.number≤s.number+4*E+1→bs1.length≤bs.length →
  file D1 s1.log=some (bJ q1 bs1)→(∀ m∈aN s,∀ k,gS s1 Ls1 m k=gS s Ls m k)→de D D1 →
  ∃ x D',lh s1 D1 0 3=some (x,D')∧uo C s D Ls (gS s Ls aE) s.seq (gS s Ls aE) (5*E+1) E bs.length (fun s' Ls'=>s'.mem=[]∧pe (aN s) Ls') x D':=by
  intro s1 D1 Ls1 bs1 q1 h1 ht hm0 hq hsn hsp hn hbl hlg hse hlt
  obtain ⟨x,D',k1,l1,k2⟩:=sA h1 ht (a:=0) (b:=3) (.inl ⟨rfl,.inr rfl⟩) hE (by omega) (by omega)
  have hmo:aN s1=aN s:=by unfold aN;rw [hsn]
  refine ⟨x,D',k1,hlt.trans l1,?_⟩
  have hs1:∀ m k,gS s1 Ls1 m k=eg (fH (dt Ls1) k m):=fun m k=>by unfold gS;rw [hm0,bD];rfl
  have hq1:=h1.seq
  rcases k2 with ⟨e,a1,a2,c',Ls',bs',a3,a4⟩|⟨s',Ls',a1,a2,a3,a4,a5,a6,a7⟩
  ·refine .inl ⟨e,a1,a2.before hlt,c',Ls',bs',a3,.inl ?_⟩
   rw [hmo] at a4
   rcases a4 with ⟨r1,rfl,r3⟩|⟨r1,rfl,r3⟩
   ·refine ⟨by omega,fun k=>?_⟩
    rw [← hse aE List.mem_cons_self k,← h1.iQ k]
    unfold YtecibefflhomdaaGreatDoor.iQ
    rw [r1,bD,bD]
    exact o8 (r3 aE List.mem_cons_self k)
   ·refine ⟨by simp [total];omega,fun k=>?_⟩
    rw [mI,r3 aE List.mem_cons_self k]
    exact hse aE List.mem_cons_self k
  ·rw [hmo] at a3
   have hm':s'.mem=[]:=a4.mem.trans hm0
   have hse':∀ m∈aN s,∀ k,gS s' Ls' m k=gS s Ls m k:=fun m hm k=>by
    rw [← hse m hm k,hs1]
    unfold gS
    rw [hm',bD]
    exact a3 m hm k
   refine .inr ⟨s',q1,Ls',bs1,a1,a2,by rw [a5.1,a5.2];exact hlg,a4.seq.trans hq,a4.snaps.trans hsn,a4.snap.trans hsp,by omega,hse' aE List.mem_cons_self,fun m hm=>hse' m (List.mem_cons_of_mem _ hm),hbl,hm',?_⟩
   obtain ⟨R,ls,b1,b2,b3,b4,b5⟩:=a7
   obtain ⟨L0,L1,L2,L3,hL⟩:=dS h1.core.lv.len
   refine ⟨R,ls,b1,?_,?_,b5⟩
   ·rw [b3,hL];rfl
   ·rw [b4,hmo,hL];rfl
 unfold lj
 by_cases hm:0<s.mem.length
 ·rw [if_pos hm]
  obtain ⟨x,D1,k1,l1,k2⟩:=sB ho h hE hB (by omega)
  rw [k1]
  rcases k2 with ⟨e,rfl,a2,c',Ls',bs',a3,a4⟩|⟨s',Ls',rfl,a2,a3,a4,a5,a6,a7,a8,a9⟩
  ·refine ⟨_,_,rfl,l1,.inl ⟨e,rfl,a2,c',Ls',bs',a3,.inl ?_⟩⟩
   rcases a4 with ⟨r1,rfl,r3⟩|⟨r1,rfl,r3⟩
   ·refine ⟨by rw [r1,hseq],fun k=>?_⟩
    rw [← h.iQ k]
    unfold YtecibefflhomdaaGreatDoor.iQ
    rw [r1,bD,bD]
    exact o8 (r3 aE List.mem_cons_self k)
   ·refine ⟨by rw [r1];simp [total],fun k=>?_⟩
    rw [mI,r3 aE List.mem_cons_self k];rfl
  ·dsimp only [ei]
   have hm0:s'.mem=[]:=a2.mem
   refine mer s' D1 Ls' [] s.seq a2 (by simp [total]) hm0 a4 a5 a6 (by omega) (by simp) (by rw [a8];rfl) (fun m hm k=>?_) l1
   unfold gS
   rw [hm0,bD]
   exact a3 m hm k
 ·rw [if_neg hm]
  dsimp only [ei]
  have hm0:s.mem=[]:=by cases hh:s.mem with
   | nil=>rfl
   | cons _ _=>rw [hh] at hm;simp at hm
  have ht:total bs=0:=by have:=h.pG.2;rw [hm0] at this;simpa using this.symm
  exact mer s D Ls bs q0 h ht hm0 rfl rfl rfl (by omega) (Nat.le_refl _) hlog (fun _ _ _=>rfl) (de.refl h.core.ok)
end
end
section
open Go.Proofs.YtecibefflhomdaaGreatDoor.Pure
structure mM where
 pairs:List (Bs×Bs)
 snaps:List (Option (List (Bs×Bs)))
 closed:Bool
def il (r:mM) (n:Int):Option (List (Bs×Bs)):=if 1≤n∧n≤(r.snaps.length:Int) then r.snaps.getD (n-1).toNat none else none
def lZ (ps:List (Bs×Bs)) (key:Bs):Except cx (Option Bs):=if key.length=0∨8<key.length then .error (none,3) else .ok (bE ps key)
def live (r:mM):Nat:=(r.snaps.filter Option.isSome).length
structure Inv (C:Prop) (P:St→fU→Prop) (s:St) (D:ae) (r:mM) (E B:Nat):Prop where
 run:∃ q0 Ls bs,je C s D q0 Ls bs E∧file D s.log=some (bJ q0 bs)∧bs.length≤B∧(∀ k,gS s Ls aE k=bE r.pairs k) ∧
  (∀ p∈s.snaps,p.2≤s.seq∧∃ ps,il r p.1=some ps∧j4 ps∧∀ k,gS s Ls p.2 k=bE ps k)∧P s Ls
 srt:j4 r.pairs
 snap:s.snap=r.snaps.length
 keys:(s.snaps.map (·.1)).Nodup
 dead:∀ n,aD s.snaps n=none→il r n=none
 live:s.snaps.length=live r
 seq:s.seq≤E
section
variable {C:Prop} {P:St→fU→Prop} {s:St} {D:ae} {r:mM} {E B q0:Nat} {Ls:fU} {bs:List (List cG)}
theorem je.same {D':ae} (h:je C s D q0 Ls bs E) (k:cK D D'):je C s D' q0 Ls bs E:=
 ⟨h.core.files k.later.ok fun m _=>k.file m,h.mem,h.seq,by rw [k.file];exact h.logf,fun m hm=>h.known m (by rw [← k.file];exact hm),by rw [k.moves];exact h.moves,h.snaps⟩
theorem Inv.same {D':ae} (h:Inv C P s D r E B) (k:cK D D'):Inv C P s D' r E B:=by
 obtain ⟨q0,Ls,bs,h1,h2,h3⟩:=h.run
 exact ⟨⟨q0,Ls,bs,h1.same k,by rw [k.file];exact h2,h3⟩,h.srt,h.snap,h.keys,h.dead,h.live,h.seq⟩
theorem Inv.Ah (h:Inv C P s D r E B):s.mem.length≤E:=by
 obtain ⟨q0,Ls,bs,h1,_⟩:=h.run
 have:=h1.core.cntE;rw [h1.pG.2];omega
theorem Inv.Gw (h:Inv C P s D r E B) (hE:E≤1048576):(cJ s).length≤1048576:=by
 obtain ⟨q0,Ls,bs,h1,_⟩:=h.run
 obtain ⟨ps,p1,_,_,p4,_⟩:=rh h1.levels h1.core.lv.len
 rw [p1,List.length_map,p4];exact h1.core.tS hE
theorem Inv.at (h:Inv C P s D r E B) {n:Int} {q:Nat} (hg:aD s.snaps n=some q):∃ ps,il r n=some ps∧j4 ps∧q≤s.seq:=by
 obtain ⟨q0,Ls,bs,_,_,_,_,h1,_⟩:=h.run
 obtain ⟨a,ps,b,c,_⟩:=h1 _ (dh hg)
 exact ⟨ps,b,c,a⟩
theorem MW (h:Inv C P s D r E B) (key:Bs):∃ x D',vM s D key aE=some (x,D')∧cK D D'∧Inv C P s D' r E B∧((∃ e,x=.error e∧qZ C D e)∨x=lZ r.pairs key):=by
 obtain ⟨q0,Ls,bs,h1,_,_,h4,_⟩:=h.run
 obtain ⟨x,D',k1,k2,k3⟩:=Ck h1 key aE
 refine ⟨x,D',k1,k2,h.same k2,?_⟩
 unfold lZ
 rcases k3 with ⟨k3,k4⟩|⟨k3,⟨e,k4,k5⟩|k4⟩
 ·exact .inr (by rw [if_pos k3];exact k4)
 ·exact .inl ⟨e,k4,k5⟩
 ·refine .inr ?_
  rw [if_neg k3,k4]
  congr 1
  exact h4 key
theorem H7 (h:Inv C P s D r E B) {n:Int} {q:Nat} {ps:List (Bs×Bs)} (hg:aD s.snaps n=some q) (hr:il r n=some ps) (key:Bs) :
 ∃ x D',vM s D key q=some (x,D')∧cK D D'∧Inv C P s D' r E B∧((∃ e,x=.error e∧qZ C D e)∨x=lZ ps key):=by
 obtain ⟨q0,Ls,bs,h1,_,_,_,h5,_⟩:=h.run
 obtain ⟨_,ps',a,b,c⟩:=h5 _ (dh hg)
 rw [hr] at a
 obtain rfl:=Option.some.inj a
 obtain ⟨x,D',k1,k2,k3⟩:=Ck h1 key q
 refine ⟨x,D',k1,k2,h.same k2,?_⟩
 unfold lZ
 rcases k3 with ⟨k3,k4⟩|⟨k3,⟨e,k4,k5⟩|k4⟩
 ·exact .inr (by rw [if_pos k3];exact k4)
 ·exact .inl ⟨e,k4,k5⟩
 ·refine .inr ?_
  rw [if_neg k3,k4]
  congr 1
  exact c key
theorem K2 (h:Inv C P s D r E B) (hE:E≤1048576) (lo hi:Bs) (limit:Int):∃ x D',yd s D lo hi limit aE=some (x,D')∧cK D D'∧Inv C P s D' r E B∧((∃ e,x=.error e∧qZ C D e)∨x=.ok (bB r.pairs lo hi limit)):=by
 obtain ⟨q0,Ls,bs,h1,_,_,h4,_⟩:=h.run
 obtain ⟨x,D',k1,k2,k3⟩:=yJ h1 hE lo hi limit aE h.srt h4
 exact ⟨x,D',k1,k2,h.same k2,k3⟩
theorem EO (h:Inv C P s D r E B) (hE:E≤1048576) {n:Int} {q:Nat} {ps:List (Bs×Bs)} (hg:aD s.snaps n=some q) (hr:il r n=some ps) (lo hi:Bs) (limit:Int) :
 ∃ x D',yd s D lo hi limit q=some (x,D')∧cK D D'∧Inv C P s D' r E B∧((∃ e,x=.error e∧qZ C D e)∨x=.ok (bB ps lo hi limit)):=by
 obtain ⟨q0,Ls,bs,h1,_,_,_,h5,_⟩:=h.run
 obtain ⟨_,ps',a,b,c⟩:=h5 _ (dh hg)
 rw [hr] at a
 obtain rfl:=Option.some.inj a
 obtain ⟨x,D',k1,k2,k3⟩:=yJ h1 hE lo hi limit q b c
 exact ⟨x,D',k1,k2,h.same k2,k3⟩
theorem qg (r:mM) (x:Option (List (Bs×Bs))) (n:Int):il { r with snaps:=r.snaps++[x] } n=if n=(r.snaps.length:Int)+1 then x else il r n:=by
 unfold il
 dsimp only
 rw [List.length_append,List.length_singleton]
 by_cases h:n=(r.snaps.length:Int)+1
 ·rw [if_pos h,if_pos ⟨by omega,by omega⟩]
  have:(n-1).toNat=r.snaps.length:=by omega
  rw [this];simp
 ·rw [if_neg h]
  by_cases h1:1≤n∧n≤(r.snaps.length:Int)
  ·rw [if_pos h1,if_pos ⟨h1.1,by omega⟩]
   rw [List.getD_eq_getElem?_getD,List.getD_eq_getElem?_getD,List.getElem?_append_left (by omega)]
  ·rw [if_neg h1,if_neg (by omega)]
theorem K3 (h:Inv C P s D r E B) (hP:∀ s' Ls,P s Ls→s'.levels=s.levels→s'.mem=s.mem→P s' Ls) (h4:s.snaps.length≠4) :
 Inv C P { s with snap:=s.snap+1,snaps:=cz s.snaps ((s.snap+1:Nat):Int) s.seq } D { r with snaps:=r.snaps++[some r.pairs] } E B:=by
 obtain ⟨q0,Ls,bs,h1,h2,h3,h5,h6,h7⟩:=h.run
 have hsn:=h.snap
 have hnew:aD s.snaps ((s.snap+1:Nat):Int)=none:=by
  cases hg:aD s.snaps ((s.snap+1:Nat):Int) with
  | none=>rfl
  | some q=>
   obtain ⟨_,ps,a,_⟩:=h6 _ (dh hg)
   unfold il at a
   rw [if_neg (by dsimp only;omega)] at a;cases a
 have hput:=zw hnew s.seq
 rw [hput]
 have h8:=h1.snaps
 refine ⟨⟨q0,Ls,bs,⟨h1.core.congr rfl rfl rfl rfl,h1.mem,h1.seq,h1.logf,h1.known,h1.moves,?_⟩,h2,h3,h5,?_,?_⟩,h.srt,?_,?_,?_,?_,h.seq⟩
 ·show (s.snaps++[_]).length≤4
  rw [List.length_append,List.length_singleton];omega
 ·intro p hp
  rcases List.mem_append.1 hp with hp|hp
  ·obtain ⟨a,ps,b,c,d⟩:=h6 p hp
   refine ⟨a,ps,?_,c,d⟩
   rw [qg,if_neg fun hh=>?_]
   ·exact b
   ·unfold il at b
    rw [if_neg (by omega)] at b;cases b
  ·simp at hp;subst hp
   refine ⟨Nat.le_refl _,r.pairs,?_,h.srt,fun k=>?_⟩
   ·rw [qg,if_pos (by dsimp only;omega)]
   ·rw [← h5 k]
    have hq:q0+total bs≤4611686018427387904:=h1.core.seq
    have hs1:=h1.seq
    have key:∀ l,(∀ e∈l,e.seq≤s.seq)→fN l k s.seq=fN l k aE:=by
     intro l hl
     unfold fN
     have hlat:aE=18446744073709551615:=rfl
     induction l with
     | nil=>rfl
     | cons e t ih=>
      have h9:=hl e List.mem_cons_self
      rw [List.find?_cons,List.find?_cons,ih fun x hx=>hl x (List.mem_cons_of_mem _ hx)]
      have:(decide (e.key=k)&&decide (e.seq≤s.seq))=(decide (e.key=k)&&decide (e.seq≤aE)):=by
       rw [show decide (e.seq≤s.seq)=true by simp [h9],show decide (e.seq≤aE)=true by simp;omega]
      rw [this]
    have keyL:∀ ls:List (List aB),(∀ l∈ls,∀ e∈l,e.seq≤s.seq)→fH ls k s.seq=fH ls k aE:=by
     intro ls
     induction ls with
     | nil=>intro _;rfl
     | cons l t ih=>intro hh;rw [bD,bD,key l (hh l List.mem_cons_self),ih fun x hx=>hh x (List.mem_cons_of_mem _ hx)]
    have hall:∀ l∈s.mem::dt Ls,∀ e∈l,e.seq≤s.seq:=fun l hl e he=>by
     rcases List.mem_cons.1 hl with rfl|hl
     ·exact (h1.pG.1.seq e he).2
     ·obtain ⟨p,hp,rfl⟩:=Ch hl h1.core.lv.len
      have h9:=h1.core.seqs p hp e he
      have h9:e.seq≤q0:=h9
      omega
    show eg (fH (s.mem::dt Ls) k s.seq)=eg (fH (s.mem::dt Ls) k aE)
    rw [keyL _ hall]
 ·exact hP _ _ h7 rfl rfl
 ·show s.snap+1=(r.snaps++[_]).length
  rw [List.length_append,List.length_singleton,hsn]
 ·show ((s.snaps++[(((s.snap+1:Nat):Int),s.seq)]).map (·.1)).Nodup
  rw [List.map_append,List.nodup_append]
  refine ⟨h.keys,by simp,fun a ha b hb hab=>?_⟩
  simp at hb
  have:=cB.1 hnew
  rw [hab,hb] at ha
  exact this (by simpa using ha)
 ·intro n hn
  rw [← hput,cW] at hn
  by_cases hh:n=((s.snap+1:Nat):Int)
  ·rw [if_pos hh] at hn;cases hn
  ·rw [if_neg hh] at hn
   rw [qg,if_neg (by omega)]
   exact h.dead n hn
 ·show (s.snaps++[_]).length=YtecibefflhomdaaGreatDoor.live { r with snaps:=r.snaps++[some r.pairs] }
  have:=h.live
  unfold YtecibefflhomdaaGreatDoor.live at this ⊢
  simp [List.filter_append];omega
theorem yN (r:mM) (m n:Int) (hm:1≤m∧m≤(r.snaps.length:Int)):il { r with snaps:=r.snaps.set (m-1).toNat none } n=if n=m then none else il r n:=by
 unfold il
 dsimp only
 rw [List.length_set]
 by_cases h:n=m
 ·rw [if_pos h]
  subst h
  have hlt:(n-1).toNat<r.snaps.length:=by omega
  rw [if_pos hm,List.getD_eq_getElem?_getD,List.getElem?_set,if_pos rfl,if_pos hlt];rfl
 ·rw [if_neg h]
  by_cases h1:1≤n∧n≤(r.snaps.length:Int)
  ·rw [if_pos h1,if_pos h1,List.getD_eq_getElem?_getD,List.getD_eq_getElem?_getD,List.getElem?_set,if_neg (by omega)]
  ·rw [if_neg h1,if_neg h1]
theorem Co:∀ (l:List (Option (List (Bs×Bs)))) (i:Nat) (x:List (Bs×Bs)),l[i]?=some (some x)→((l.set i none).filter Option.isSome).length+1=(l.filter Option.isSome).length
 | [],_,_,h=>by simp at h
 | a::l,0,x,h=>by simp at h;subst h;simp
 | a::l,i+1,x,h=>by
  have:=Co l i x (by simpa using h)
  rw [List.set_cons_succ]
  cases a<;>simp at this ⊢<;>omega
theorem Gx {κ α:Type} [DecidableEq κ]:∀ (l:List (κ×α)) (x:κ) (u:α),aD l x=some u→(dI l x).length+1=l.length
 | [],_,_,h=>by cases h
 | (k,v)::l,x,u,h=>by
  unfold aD at h
  unfold dI
  by_cases hk:x=k
  ·rw [if_pos hk];rfl
  ·rw [if_neg hk] at h ⊢
   have:=Gx l x u h
   simp only [List.length_cons];omega
theorem MX (h:Inv C P s D r E B) (hP:∀ s' Ls,P s Ls→s'.levels=s.levels→s'.mem=s.mem→P s' Ls) {n:Int} {q:Nat} (hg:aD s.snaps n=some q) :
 Inv C P { s with snaps:=dI s.snaps n } D { r with snaps:=r.snaps.set (n-1).toNat none } E B:=by
 obtain ⟨q0,Ls,bs,h1,h2,h3,h5,h6,h7⟩:=h.run
 obtain ⟨_,ps,a,_⟩:=h6 _ (dh hg)
 have hn:1≤n∧n≤(r.snaps.length:Int):=by
  unfold il at a
  by_cases hh:1≤n∧n≤(r.snaps.length:Int)
  ·exact hh
  ·rw [if_neg hh] at a;cases a
 have hget:r.snaps[(n-1).toNat]?=some (some ps):=by
  unfold il at a
  rw [if_pos hn,List.getD_eq_getElem?_getD] at a
  dsimp only at a
  have hlt:(n-1).toNat<r.snaps.length:=by omega
  rw [List.getElem?_eq_getElem hlt] at a ⊢
  have a:r.snaps[(n-1).toNat]=some ps:=a
  rw [a]
 have hdl:=Gx _ _ _ hg
 have hsl:=h1.snaps
 refine ⟨⟨q0,Ls,bs,⟨h1.core.congr rfl rfl rfl rfl,h1.mem,h1.seq,h1.logf,h1.known,h1.moves,?_⟩,h2,h3,h5,?_,hP _ _ h7 rfl rfl⟩,h.srt,?_,iu h.keys n,?_,?_,h.seq⟩
 ·show (dI s.snaps n).length≤4;omega
 ·intro p hp
  have hp':=(mh _ _).subset hp
  obtain ⟨b1,ps',b2,b3⟩:=h6 p hp'
  refine ⟨b1,ps',?_,b3⟩
  have hne:p.1≠n:=fun hh=>by
   have h8:=di (iu h.keys n) hp
   rw [gZ _ _ h.keys,if_pos hh] at h8
   cases h8
  rw [yN r n p.1 hn,if_neg hne];exact b2
 ·show s.snap=(r.snaps.set _ none).length
  rw [List.length_set];exact h.snap
 ·intro m hm
  rw [gZ _ _ h.keys] at hm
  rw [yN r n m hn]
  by_cases hh:m=n
  ·rw [if_pos hh]
  ·rw [if_neg hh] at hm ⊢
   exact h.dead m hm
 ·show (dI s.snaps n).length=YtecibefflhomdaaGreatDoor.live { r with snaps:=r.snaps.set (n-1).toNat none }
  have h8:=h.live
  have h9:=Co _ _ _ hget
  unfold YtecibefflhomdaaGreatDoor.live at h8 ⊢
  dsimp only at h8 h9 ⊢
  omega
end
end
end Go.Proofs.YtecibefflhomdaaGreatDoor
