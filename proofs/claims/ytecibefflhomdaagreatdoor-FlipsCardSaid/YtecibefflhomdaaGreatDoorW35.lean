/-
  Part 35: PLAIN Write, Compact, Close; PLAIN the document's answer, and the store beside it; PLAIN closed and opened again; PLAIN the document's functions as they are written; THE ENGINE functions without a body.
-/
import Derived.Test.YtecibefflhomdaaGreatDoorW34
import Derived.Laws.Externs
set_option maxHeartbeats 8000000
set_option maxRecDepth 100000
set_option linter.all false
namespace Go.Proofs.YtecibefflhomdaaGreatDoor
open Go
section
open Go.Proofs.YtecibefflhomdaaGreatDoor.Pure
def gP (s:St) (Ls:fW) (m:Nat) (k:Bs):Option Bs:=dB (eW (s.mem::dj Ls) k m)
def yA (C:Prop) (s:St) (D:ad) (Ls:fW) (see:Bs→Option Bs) (q':Nat) (see':Bs→Option Bs) (N E B:Nat) (shape:St→fW→List (List bX)→Prop) (x:Except cy St) (D':ad):Prop:=
 cQ D D' ∧
  ((∃ e,x=.error e∧sy C D e∧∃ c' Ls' bs',RecM C D' c' Ls' bs' E∧((c'.seq+total bs'=s.seq∧∀ k,jf c' Ls' bs' k=see k)∨(c'.seq+total bs'=q'∧∀ k,jf c' Ls' bs' k=see' k))) ∨
   ∃ s' q0' Ls' bs',x=.ok s'∧jw C s' D' q0' Ls' bs' E∧file D' s'.log=some (bA q0' bs')∧s'.seq=q'∧s'.snaps=s.snaps∧s'.snap=s.snap∧s'.number≤s.number+N ∧
    (∀ k,gP s' Ls' aH k=see' k)∧(∀ m∈s.snaps.map (·.2),∀ k,gP s' Ls' m k=gP s Ls m k)∧bs'.length≤B∧shape s' Ls' bs')
section
variable {C:Prop} {D:ad} {c s:St} {Ls:fW} {bs:List (List bX)} {E q0:Nat}
theorem RecM.more {E':Nat} (h:RecM C D c Ls bs E) (hE:E≤E'):RecM C D c Ls bs E':=
 ⟨h.ok,h.levels,h.state,h.num,h.seq,Nat.le_trans h.cntE hE,h.lv,h.on,h.seqs,h.ord,h.log,h.logf,h.bsok⟩
theorem jw.more {E':Nat} (h:jw C s D q0 Ls bs E) (hE:E≤E'):jw C s D q0 Ls bs E':=
 ⟨h.core.more hE,h.mem,h.seq,h.logf,h.known,h.moves,h.snaps⟩
theorem jy (a b:List (List bX)):total (a++b)=total a+total b:=by unfold total;simp
theorem qL:∀ (a:List (List bX)) (q:Nat) (b:List bX),bA q (a++[b])=bA q a++az (kI (q+total a) b)
 | [],q,b=>by simp [bA,total]
 | x::a,q,b=>by
  have ht:total (x::a)=x.length+total a:=by simp [total]
  rw [List.cons_append,bA,bA,qL a,ht,Nat.add_assoc,List.append_assoc]
theorem xj:∀ (a:List (List bX)) (q:Nat) (b:List bX) (m:List ay),gh q (a++[b]) m=(aZ (q+total a) b).foldl dG (gh q a m)
 | [],q,b,m=>by simp [gh,total]
 | x::a,q,b,m=>by
  have ht:total (x::a)=x.length+total a:=by simp [total]
  rw [List.cons_append,gh,gh,xj a,ht,Nat.add_assoc]
theorem added (h:jw C s D q0 Ls bs E) {D':ad} {l:List bX} (hl:FC l) (hd:D'.Ok) (hmv:D'.moves=D.moves) (hq:s.seq+l.length≤4611686018427387904)
 (hf:∀ m,file D' m=if m=s.log then some (bA q0 (bs++[l])) else file D m):jw C (eD s l) D' q0 Ls (bs++[l]) (E+l.length):=by
 have hseq:=h.seq
 have hm:=h.mem
 have htl:total [l]=l.length:=by simp [total]
 obtain ⟨k0,hk0,hk1⟩:=h.core.log
 have hk1:s.log=bU k0:=hk1
 have hoth:∀ m,m≠s.log→file D' m=file D m:=fun m hh=>by rw [hf,if_neg hh]
 have hlog:file D' s.log=some (bA q0 (bs++[l])):=by rw [hf,if_pos rfl]
 have hmv2:=h.moves
 refine ⟨⟨hd,h.core.levels,?_,h.core.num,?_,?_,h.core.lv,fun p hp=>?_,h.core.seqs,h.core.ord,h.core.log,?_,?_⟩,?_,?_,?_,fun m hh=>?_,by rw [hmv];exact hmv2,h.snaps⟩
 ·rw [hoth _ (by rw [hk1];exact (eI _).symm)];exact h.core.state
 ·show q0+total (bs++[l])≤_
  rw [jy,htl];omega
 ·have:=h.core.cntE;rw [jy,htl];omega
 ·obtain ⟨f,cs,a1,a2⟩:=h.core.on p hp
  exact ⟨f,cs,by rw [hoth _ fun hh=>dS h.core.lv k0 (by rw [← hk1,← hh];exact List.mem_map.2 ⟨p,hp,rfl⟩)];exact a1,a2⟩
 ·exact ⟨[],by rw [List.append_nil];exact hlog,om⟩
 ·intro b hb
  rcases List.mem_append.1 hb with hb|hb
  ·exact h.core.bsok b hb
  ·simp at hb;subst hb;exact hl
 ·show (aZ s.seq l).foldl dG s.mem=_
  rw [xj,← hm,hseq]
 ·show s.seq+l.length=_
  rw [jy,htl];omega
 ·exact ⟨[],by rw [List.append_nil];exact hlog,by simp⟩
 ·show m=aN∨m=s.log∨_
  by_cases h1:m=s.log
  ·exact .inr (.inl h1)
  ·rw [hoth m h1] at hh
   exact h.known m hh
theorem jw.jf (h:jw C s D q0 Ls bs E) (k:Bs):YtecibefflhomdaaGreatDoor.jf { s with seq:=q0 } Ls bs k=gP s Ls aH k:=by
 unfold YtecibefflhomdaaGreatDoor.jf gP
 rw [h.mem]
theorem FQ {o:jX} {sync:Bool} {l:List bX} {ps:List (Bs×Bs)} (ho:1≤o.tables) (hom:1≤o.memory) (h:jw C s D q0 Ls bs E) (hlog:file D s.log=some (bA q0 bs)) (hl:FC l)
 (hE:E+l.length≤1048576) (hB:bs.length<16777216) (hq:s.seq+l.length≤4611686018427387904) (hnum:s.number+4*(E+l.length)+1≤4611686018427387904) (hmem:s.mem.length<o.memory)
 (hps:∀ k,gP s Ls aH k=aR ps k) (hsn:∀ m∈s.snaps.map (·.2),m≤s.seq) :
 ∃ x D',kJ o s D l sync=some (x,D')∧yA C s D Ls (fun k=>aR ps k) (s.seq+l.length) (fun k=>aR (pY ps l) k) (4*(E+l.length)+1) (E+l.length) (bs.length+1) (fun s' Ls' bs'=>s'.mem.length<o.memory∧((Ls'=Ls∧bs'=bs++[l])∨(ln o Ls'∧bs'=[]))) x D':=by
 obtain ⟨hm1,hm2⟩:=h.qI
 have hcnt:=h.core.cntE
 have hseq:=h.seq
 have hq0:s.seq≤4611686018427387904:=by omega
 have hold:∀ D':ad,D'.Ok→(∀ m,file D' m=file D m)→∃ c' Ls' bs',RecM C D' c' Ls' bs' (E+l.length)∧((c'.seq+total bs'=s.seq∧∀ k,YtecibefflhomdaaGreatDoor.jf c' Ls' bs' k=aR ps k)∨(c'.seq+total bs'=s.seq+l.length∧∀ k,YtecibefflhomdaaGreatDoor.jf c' Ls' bs' k=aR (pY ps l) k)):=fun D' hd hf=>
  ⟨_,Ls,bs,(h.core.files hd fun m _=>hf m).more (Nat.le_add_right _ _),.inl ⟨hseq.symm,fun k=>(h.jf k).trans (hps k)⟩⟩
 unfold kJ
 rw [if_pos ⟨hq0,by omega⟩]
 unfold eG
 dsimp only
 cases ha:dK D s.log (az (kI s.seq l)) with
 | some e=>
  obtain ⟨a1,a2⟩:=pq h.core.ok ha hlog
  have s1:=cH.tick h.core.ok
  refine ⟨_,_,rfl,by rw [a1];exact s1.later,.inl ⟨e,rfl,?_,hold _ (by rw [a1];exact s1.later.ok) fun m=>by rw [a1];exact s1.file m⟩⟩
  rcases a2 with a2|⟨a2,a3⟩
  ·exact .of a2
  ·have hused:=h.used (by omega) (by omega)
   have hfl:(az (kI s.seq l)).length≤292:=by
    have he:∀ e∈aZ s.seq l,lx e:=fun e hh=>(nX l s.seq hl.key hl.val (by omega) e hh).1
    have h1:=jR he
    have h2:=hl.len
    rw [dH] at h1
    unfold dZ at h1
    unfold kI
    rw [bH,List.length_append,aD];omega
   exact .inr ⟨a2,by omega⟩
 | none=>
  obtain ⟨b,b1,b2,b3,b4,b5,b6⟩:=rB h.core.ok ha
  rw [hlog] at b1
  obtain rfl:=Option.some.inj b1
  dsimp only
  generalize hD1:bR D s.log (az (kI s.seq l))=D1 at b2 b3 b4 b5
  have hf1:∀ m,file D1 m=if m=s.log then some (bA q0 (bs++[l])) else file D m:=fun m=>by
   rw [b2,qL,hseq]
  have hsq:∀ x∈s.mem,x.seq≤s.seq:=fun x hx=>(hm1.seq x hx).2
  have hlat:aH=18446744073709551615:=rfl
  have hnewS:∀ k,gP (eD s l) Ls aH k=aR (pY ps l) k:=fun k=>by
   unfold gP
   rw [bx]
   show dB ((fS ((aZ s.seq l).foldl dG s.mem) k aH).or _)=_
   refine mB l k aH ps _ hm1.srt hsq (by omega) ?_
   have:=hps k
   unfold gP at this
   rw [bx] at this;exact this
  have holdS:∀ m,m≤s.seq→∀ k,gP (eD s l) Ls m k=gP s Ls m k:=fun m hm k=>by
   unfold gP
   rw [bx,bx]
   show dB ((fS ((aZ s.seq l).foldl dG s.mem) k m).or _)=_
   rw [p7 l k m hm1.srt hsq hm]
  have hsync:∃ (x:Option cy) (D2:ad),(if sync=true then (some (bg D1 s.log,dU D1 s.log):Option (Option cy×ad)) else some (none,D1))=some (x,D2)∧(∀ m,file D2 m=file D1 m)∧cQ D1 D2∧D2.moves=D1.moves∧(x=none∨∃ e,x=some e∧pj D1 e):=by
   cases sync with
   | false=>exact ⟨_,_,rfl,fun _=>rfl,cQ.refl b4.ok,rfl,.inl rfl⟩
   | true=>
    obtain ⟨y1,y2,y3,y4⟩:=qB b4.ok s.log
    refine ⟨_,_,rfl,y1,y3,y4,?_⟩
    rcases eT (D:=D1) (n:=s.log) (b:=bA q0 (bs++[l])) (by rw [hf1,if_pos rfl]) with h1|⟨e,h1,ht⟩
    ·exact .inl h1
    ·exact .inr ⟨e,h1,ht⟩
  obtain ⟨x,D2,z1,z2,z3,z4,z5⟩:=hsync
  have hrun:jw C (eD s l) D2 q0 Ls (bs++[l]) (E+l.length):=added h hl z3.ok (z4.trans b5) hq fun m=>by rw [z2,hf1]
  have hlog2:file D2 s.log=some (bA q0 (bs++[l])):=by rw [z2,hf1,if_pos rfl]
  have l2:=b4.trans z3
  rw [z1]
  rcases z5 with rfl|⟨e,rfl,z5⟩
  ·dsimp only
   by_cases hfull:o.memory≤(eD s l).mem.length
   ·rw [if_pos hfull]
    obtain ⟨x,D',k1,k2,k3⟩:=rO ho hrun hE (by simp;omega) hnum
    refine ⟨x,D',k1,l2.trans k2,?_⟩
    have hmo:aP (eD s l)=aP s:=rfl
    have hsqn:(eD s l).seq=s.seq+l.length:=rfl
    rcases k3 with ⟨e,a1,a2,c',Ls',bs',a3,a4⟩|⟨s',Ls',a1,a2,a3,a4,a5,a6,a7,a8,a9⟩
    ·refine .inl ⟨e,a1,a2.before l2,c',Ls',bs',a3,.inr ?_⟩
     rcases a4 with ⟨r1,rfl,r3⟩|⟨r1,rfl,r3⟩
     ·refine ⟨by rw [r1,← hrun.seq];rfl,fun k=>?_⟩
      show YtecibefflhomdaaGreatDoor.jf c' Ls' (bs++[l]) k=aR (pY ps l) k
      rw [← hnewS k,← hrun.jf k]
      unfold YtecibefflhomdaaGreatDoor.jf
      rw [r1,bx,bx]
      exact oz (r3 aH List.mem_cons_self k)
     ·refine ⟨by rw [r1];simp [total];rfl,fun k=>?_⟩
      show YtecibefflhomdaaGreatDoor.jf c' Ls' [] k=aR (pY ps l) k
      rw [mf,r3 aH List.mem_cons_self k]
      exact hnewS k
    ·have hm0:s'.mem=[]:=a2.mem
     have hse:∀ m,m∈aP s→∀ k,gP s' Ls' m k=gP (eD s l) Ls m k:=fun m hm k=>by
      have:=a3 m hm k
      unfold gP
      rw [hm0,bx]
      exact this
     refine .inr ⟨s',_,Ls',[],a1,a2,by rw [a8];rfl,by rw [a4];rfl,a5,a6,by rw [show (eD s l).number=s.number from rfl] at a7;omega,fun k=>?_,fun m hm k=>?_,by simp,by rw [hm0];simp;omega,.inr ⟨a9,rfl⟩⟩
     ·rw [hse aH List.mem_cons_self k];exact hnewS k
     ·rw [hse m (List.mem_cons_of_mem _ hm) k]
      exact holdS m (hsn m hm) k
   ·rw [if_neg hfull]
    refine ⟨_,_,rfl,l2,.inr ⟨_,q0,Ls,bs++[l],rfl,hrun,hlog2,rfl,rfl,rfl,by show s.number≤_;omega,hnewS,fun m hm k=>holdS m (hsn m hm) k,by simp,by omega,.inl ⟨rfl,rfl⟩⟩⟩
  ·refine ⟨_,_,rfl,l2,.inl ⟨e,rfl,.of (z5.before b4),_,Ls,bs++[l],hrun.core,.inr ⟨?_,fun k=>(hrun.jf k).trans (hnewS k)⟩⟩⟩
   rw [show ({ eD s l with seq:=q0 }:St).seq=q0 from rfl,← hrun.seq];rfl
def D8 (ms:List Nat) (Ls':fW):Prop:=∃ R ls,fJ R∧Ls'=[[],[],[],ls]∧(ls.map (·.2)).flatten=ey ms true R∧∀ p∈ls,p.2.length≤99
theorem AJ {o:jX} (ho:1≤o.tables) (h:jw C s D q0 Ls bs E) (hlog:file D s.log=some (bA q0 bs)) (hE:E≤1048576) (hB:bs.length≤16777216) (hnum:s.number+5*E+1≤4611686018427387904) :
 ∃ x D',lZ o s D=some (x,D')∧yA C s D Ls (gP s Ls aH) s.seq (gP s Ls aH) (5*E+1) E bs.length (fun s' Ls' bs'=>s'.mem=[]∧D8 (aP s) Ls'∧total bs'=0∧(bs'=[]∨bs'=bs)) x D':=by
 have hseq:=h.seq
 have hmem:=h.mem
 have mer:∀ (s1:St) (D1:ad) (Ls1:fW) (bs1:List (List bX)) (q1:Nat),(bs1=[]∨bs1=bs)→jw C s1 D1 q1 Ls1 bs1 E→total bs1=0→s1.mem=[]→s1.seq=s.seq→s1.snaps=s.snaps→s1.snap=s.snap→s1.number≤s.number+4*E+1→bs1.length≤bs.length →
  file D1 s1.log=some (bA q1 bs1)→(∀ m∈aP s,∀ k,gP s1 Ls1 m k=gP s Ls m k)→cQ D D1 →
  ∃ x D',kH s1 D1 0 3=some (x,D')∧yA C s D Ls (gP s Ls aH) s.seq (gP s Ls aH) (5*E+1) E bs.length (fun s' Ls' bs'=>s'.mem=[]∧D8 (aP s) Ls'∧total bs'=0∧(bs'=[]∨bs'=bs)) x D':=by
  intro s1 D1 Ls1 bs1 q1 hbb h1 ht hm0 hq hsn hsp hn hbl hlg hse hlt
  obtain ⟨x,D',k1,l1,k2⟩:=rN h1 ht (a:=0) (b:=3) (.inl ⟨rfl,.inr rfl⟩) hE (by omega) (by omega)
  have hmo:aP s1=aP s:=by unfold aP;rw [hsn]
  refine ⟨x,D',k1,hlt.trans l1,?_⟩
  have hs1:∀ m k,gP s1 Ls1 m k=dB (eW (dj Ls1) k m):=fun m k=>by unfold gP;rw [hm0,bx];rfl
  have hq1:=h1.seq
  rcases k2 with ⟨e,a1,a2,c',Ls',bs',a3,a4⟩|⟨s',Ls',a1,a2,a3,a4,a5,a6,a7⟩
  ·refine .inl ⟨e,a1,a2.before hlt,c',Ls',bs',a3,.inl ?_⟩
   rw [hmo] at a4
   rcases a4 with ⟨r1,rfl,r3⟩|⟨r1,rfl,r3⟩
   ·refine ⟨by omega,fun k=>?_⟩
    rw [← hse aH List.mem_cons_self k,← h1.jf k]
    unfold YtecibefflhomdaaGreatDoor.jf
    rw [r1,bx,bx]
    exact oz (r3 aH List.mem_cons_self k)
   ·refine ⟨by simp [total];omega,fun k=>?_⟩
    rw [mf,r3 aH List.mem_cons_self k]
    exact hse aH List.mem_cons_self k
  ·rw [hmo] at a3
   have hm':s'.mem=[]:=a4.mem.trans hm0
   have hse':∀ m∈aP s,∀ k,gP s' Ls' m k=gP s Ls m k:=fun m hm k=>by
    rw [← hse m hm k,hs1]
    unfold gP
    rw [hm',bx]
    exact a3 m hm k
   refine .inr ⟨s',q1,Ls',bs1,a1,a2,by rw [a5.1,a5.2];exact hlg,a4.seq.trans hq,a4.snaps.trans hsn,a4.snap.trans hsp,by omega,hse' aH List.mem_cons_self,fun m hm=>hse' m (List.mem_cons_of_mem _ hm),hbl,hm',?_,ht,hbb⟩
   obtain ⟨R,ls,b1,b2,b3,b4,b5⟩:=a7
   obtain ⟨L0,L1,L2,L3,hL⟩:=dY h1.core.lv.len
   refine ⟨R,ls,b1,?_,?_,b5⟩
   ·rw [b3,hL];rfl
   ·rw [b4,hmo,hL];rfl
 unfold lZ
 by_cases hm:0<s.mem.length
 ·rw [if_pos hm]
  obtain ⟨x,D1,k1,l1,k2⟩:=rO ho h hE hB (by omega)
  rw [k1]
  rcases k2 with ⟨e,rfl,a2,c',Ls',bs',a3,a4⟩|⟨s',Ls',rfl,a2,a3,a4,a5,a6,a7,a8,a9⟩
  ·refine ⟨_,_,rfl,l1,.inl ⟨e,rfl,a2,c',Ls',bs',a3,.inl ?_⟩⟩
   rcases a4 with ⟨r1,rfl,r3⟩|⟨r1,rfl,r3⟩
   ·refine ⟨by rw [r1,hseq],fun k=>?_⟩
    rw [← h.jf k]
    unfold YtecibefflhomdaaGreatDoor.jf
    rw [r1,bx,bx]
    exact oz (r3 aH List.mem_cons_self k)
   ·refine ⟨by rw [r1];simp [total],fun k=>?_⟩
    rw [mf,r3 aH List.mem_cons_self k];rfl
  ·dsimp only [dE]
   have hm0:s'.mem=[]:=a2.mem
   refine mer s' D1 Ls' [] s.seq (.inl rfl) a2 (by simp [total]) hm0 a4 a5 a6 (by omega) (by simp) (by rw [a8];rfl) (fun m hm k=>?_) l1
   unfold gP
   rw [hm0,bx]
   exact a3 m hm k
 ·rw [if_neg hm]
  dsimp only [dE]
  have hm0:s.mem=[]:=by cases hh:s.mem with
   | nil=>rfl
   | cons _ _=>rw [hh] at hm;simp at hm
  have ht:total bs=0:=by have:=h.qI.2;rw [hm0] at this;simpa using this.symm
  exact mer s D Ls bs q0 (.inr rfl) h ht hm0 rfl rfl rfl (by omega) (Nat.le_refl _) hlog (fun _ _ _=>rfl) (cQ.refl h.core.ok)
end
end
section
open Go.Proofs.YtecibefflhomdaaGreatDoor.Pure
structure Gw where
 pairs:List (Bs×Bs)
 snaps:List (Option (List (Bs×Bs)))
 closed:Bool
def IC (r:Gw) (n:Int):Option (List (Bs×Bs)):=if 1≤n∧n≤(r.snaps.length:Int) then r.snaps.getD (n-1).toNat none else none
def jc (ps:List (Bs×Bs)) (key:Bs):Except cy (Option Bs):=if key.length=0∨8<key.length then .error (none,3) else .ok (aR ps key)
def live (r:Gw):Nat:=(r.snaps.filter Option.isSome).length
structure Inv (C:Prop) (P:St→fW→Prop) (s:St) (D:ad) (r:Gw) (E B:Nat):Prop where
 run:∃ q0 Ls bs,jw C s D q0 Ls bs E∧file D s.log=some (bA q0 bs)∧bs.length≤B∧(∀ k,gP s Ls aH k=aR r.pairs k) ∧
  (∀ p∈s.snaps,p.2≤s.seq∧∃ ps,IC r p.1=some ps∧kU ps∧∀ k,gP s Ls p.2 k=aR ps k)∧P s Ls
 srt:kU r.pairs
 snap:s.snap=r.snaps.length
 keys:(s.snaps.map (·.1)).Nodup
 dead:∀ n,ax s.snaps n=none→IC r n=none
 live:s.snaps.length=live r
 seq:s.seq≤E
section
variable {C:Prop} {P:St→fW→Prop} {s:St} {D:ad} {r:Gw} {E B q0:Nat} {Ls:fW} {bs:List (List bX)}
theorem jw.same {D':ad} (h:jw C s D q0 Ls bs E) (k:cH D D'):jw C s D' q0 Ls bs E:=
 ⟨h.core.files k.later.ok fun m _=>k.file m,h.mem,h.seq,by rw [k.file];exact h.logf,fun m hm=>h.known m (by rw [← k.file];exact hm),by rw [k.moves];exact h.moves,h.snaps⟩
end
end
section
open Go.Proofs.YtecibefflhomdaaGreatDoor.Pure
structure nZ (D D':ad):Prop where
 ok:D'.Ok
 file:∀ m,file D' m=file D m
 room:D'.room=D.room
 bad:D'.bad=0
 moves:D'.moves=[]
 used:D'.used=D.used
def NQ (o:jX) (s:St) (Ls:fW):Prop:=s.mem.length<o.memory∧ln o Ls
section
variable {C:Prop} {P:St→fW→Prop} {s:St} {D D':ad} {r:Gw} {E B N q0:Nat} {Ls:fW} {bs:List (List bX)} {o:jX} {ps:List (Bs×Bs)}
theorem ID (hd:D.Ok) {ns:List Bs} (h:∀ m,file D m≠none→m∈ns):D.now.length≤ns.length:=by
 rw [← iC]
 exact me (jU hd) fun m hm=>h m (gk.1 hm)
theorem FR (ho:1≤o.tables) (hom:1≤o.memory) (hd:D.Ok) (h0:∀ m,file D m=none) (hb:D.bad=0) (hm:D.moves=[]) :
 ∃ x D',iy o D=some (x,D')∧cQ D D'∧((∃ e,x=.error e∧sy False D e)∨∃ s,x=.ok s∧Inv False (NQ o) s D' ⟨[],[],false⟩ 0 0∧s.number≤1):=by
 obtain ⟨e,D1,w1,w2,w3⟩:=u1 hd (h0 aN)
 have hb1:D1.bad≤0:=by have:=w2.later.bad;omega
 have w3:e=(some aN,10):=by
  rcases w3 with w3|w3
  ·have:=w3.2;omega
  ·exact w3
 subst w3
 have hl:nP D=some (.ok oO,D1):=by unfold nP;rw [w1];rfl
 have hnow:D1.now=[]:=by
  have:=ID w2.later.ok (ns:=[]) fun m hm=>by rw [w2.file,h0] at hm;exact absurd rfl hm
  exact List.eq_nil_of_length_eq_zero (by simpa using this)
 have hcl:ja oO D1=some (.ok oO,D1):=by unfold ja eQ;rw [hnow,if_pos (by simp)];simp [kM,eO]
 have hlv0:qF oO.number [[],[],[],[]]:=⟨rfl,by simp,by simp [bO],fun i L _ hL=>by
  rcases i with _|_|_|_|i<;>simp at hL<;>subst hL<;>exact List.Pairwise.nil⟩
 have hused:D1.used=0:=by unfold ad.used;rw [hnow];rfl
 obtain ⟨x,D3,c1,c2,c3⟩:=nV (C:=False) (s:=oO) (Ls:=[[],[],[],[]]) rfl hlv0 (by simp) (by show 0+1≤_;omega) (by show 0≤_;omega) w2.later.ok (by rw [w2.file,h0]) (by rw [w2.file,h0]) (.inl ⟨rfl,by rw [w2.file,h0]⟩) (by rw [w2.moves,hm];simp) (by rw [hused];omega)
 have hopen:iy o D=dE (gA oO D1 true) fun s D=>mN o s D:=by
  unfold iy
  rw [hl]
  show dE (ja oO D1) _=_
  rw [hcl]
  show jW o oO D1=_
  unfold jW
  rw [if_neg (by show ¬ 0<0;omega)]
 rw [hopen,c1]
 rcases c3 with ⟨rfl,c3,c4⟩|⟨e,rfl,c3,c4⟩
 ·have hfl:file D3 (bU 1)=some []:=by rw [c4,if_neg (eI _)];exact if_pos rfl
  have hrun:jw False { oO with number:=oO.number+1,log:=bU (oO.number+1) } D3 0 [[],[],[],[]] [] 0:=by
   refine ⟨⟨c2.ok,rfl,by rw [c4,if_pos rfl];rfl,by show 0+1≤_;omega,by simp [total,oO],by simp [cnt,total],⟨rfl,by simp,by simp [bO],hlv0.sep⟩,fun p hp=>by simp at hp,by simp,by unfold dj;simp,⟨1,Nat.le_refl _,rfl⟩,⟨[],hfl,om⟩,by simp⟩,rfl,rfl,⟨[],hfl,by simp⟩,fun m hm=>?_,by omega,by show [].length≤4;simp⟩
   show m=aN∨m=bU 1∨_
   rw [c4] at hm
   by_cases h1:m=aN
   ·exact .inl h1
   rw [if_neg h1] at hm
   by_cases h2:m=bU (oO.number+1)
   ·exact .inr (.inl h2)
   rw [if_neg h2] at hm
   by_cases h3:m=oO.log
   ·exact absurd (if_pos h3) hm
   ·rw [if_neg h3,w2.file,h0] at hm;exact absurd rfl hm
  dsimp only [dE]
  obtain ⟨x,D4,s1,l3,s2⟩:=pw ho hrun (by simp [total]) (by omega) (by simp) (by show 0+1+3*0≤_;omega)
  have l:=(w2.later.trans c2).trans l3
  refine ⟨x,D4,s1,l,?_⟩
  rcases s2 with ⟨e,a1,a2,_⟩|⟨s',Ls',a1,a2,a3,a4,a5,a6,a7⟩
  ·exact .inl ⟨e,a1,a2.before (w2.later.trans c2)⟩
  ·have hm0:s'.mem=[]:=a4.mem
   have hs0:s'.snaps=[]:=a4.snaps
   have hlog:s'.log=bU 1:=a5.1
   have hfl4:file D4 (bU 1)=some []:=by
    have:=a5.2
    have this:file D4 (bU 1)=file D3 (bU 1):=this
    rw [this];exact hfl
   refine .inr ⟨s',a1,⟨⟨0,Ls',[],a2,by rw [hlog,hfl4];rfl,by simp,fun k=>?_,fun p hp=>(by rw [hs0] at hp;cases hp),by rw [hm0];simp;omega,a7⟩,List.Pairwise.nil,by rw [a4.snap];rfl,by rw [hs0];simp,fun n _=>?_,by rw [hs0];rfl,by rw [a4.seq];exact Nat.le_refl 0⟩,by have a6:s'.number≤0+1+3*0:=a6;omega⟩
   ·unfold gP
    rw [hm0,bx]
    show dB (eW (dj Ls') k aH)=none
    rw [a3 aH List.mem_cons_self k];rfl
   ·unfold IC;rw [if_neg (by simp;omega)]
 ·exact ⟨_,_,rfl,w2.later.trans c2,.inl ⟨e,rfl,c3.before w2.later⟩⟩
structure Calm (D:ad):Prop where
 bad:D.bad=0
 room:D.room=1099511627776
theorem Calm.later (h:Calm D) (k:cQ D D'):Calm D':=⟨by have:=k.bad;have:=k.ok.bad0;have:=h.bad;omega,by rw [k.room];exact h.room⟩
theorem Calm.copy (h:Calm D) (k:nZ D D'):Calm D':=⟨k.bad,by rw [k.room];exact h.room⟩
theorem Calm.u5 (h:Calm D) {e:cy} (k:sy False D e):False:=by
 rcases k with (k|⟨k,_⟩)|⟨_,k⟩
 ·have:=k.2;have:=h.bad;omega
 ·exact k
 ·have:=h.room;omega
theorem Calm.IE (h:Calm D) {e:cy} (k:qC False D e):False:=h.u5 (.inl k)
end
end
section
open Go.Proofs.YtecibefflhomdaaGreatDoor.Pure
def iS (k v:Bs):Bool→List (Bs×Bs)→List (Bs×Bs)
 | put,[]=>if put=true then [] else [(k,v)]
 | put,p::r=>(if put=false∧aQ p.1 k=false then [(k,v)] else [])++(if p.1=k then [] else [p])++iS k v (put||!aQ p.1 k) r
theorem qM {k v:Bs}:∀ {l:List (Bs×Bs)},kU l→iS k v true l=(l.filter fun p=>aQ p.1 k)++l.filter fun p=>aQ k p.1
 | [],_=>rfl
 | p::r,h=>by
  have ih:=qM (k:=k) (v:=v) (List.pairwise_cons.1 h).2
  unfold iS
  rw [if_neg (by simp),List.nil_append,Bool.true_or,ih]
  rcases eh p.1 k with h1|h1|h1
  ·rw [if_neg (fun e=>by rw [e,aM] at h1;cases h1),List.filter_cons,if_pos h1,List.filter_cons,if_neg (by rw [cw h1];simp)];rfl
  ·rw [if_pos h1,List.filter_cons,if_neg (by rw [h1,aM];simp),List.filter_cons,if_neg (by rw [h1,aM];simp)];rfl
  ·have h2:r.filter (fun p=>aQ p.1 k)=[]:=List.filter_eq_nil_iff.2 fun x hx=>by
    have:=(List.pairwise_cons.1 h).1 x hx
    rw [cw (dt h1 this)];simp
   rw [if_neg (fun e=>by rw [e,aM] at h1;cases h1),List.filter_cons,if_neg (by rw [cw h1];simp),List.filter_cons,if_pos h1,h2];rfl
theorem AK {k v:Bs}:∀ {l:List (Bs×Bs)},kU l→iS k v false l=(l.filter fun p=>aQ p.1 k)++[(k,v)]++l.filter fun p=>aQ k p.1
 | [],_=>rfl
 | p::r,h=>by
  have hr:=(List.pairwise_cons.1 h).2
  unfold iS
  rcases eh p.1 k with h1|h1|h1
  ·have ih:=AK (k:=k) (v:=v) hr
   rw [if_neg (by rw [h1];simp),if_neg (fun e=>by rw [e,aM] at h1;cases h1),h1]
   rw [List.filter_cons,if_pos h1,List.filter_cons,if_neg (by rw [cw h1];simp)]
   show []++[p]++iS k v false r=_
   rw [ih];simp
  ·have h2:r.filter (fun p=>aQ p.1 k)=[]:=List.filter_eq_nil_iff.2 fun x hx=>by
    have:=(List.pairwise_cons.1 h).1 x hx
    rw [← h1,cw this];simp
   have h3:aQ p.1 k=false:=by rw [h1,aM]
   rw [if_pos ⟨rfl,h3⟩,if_pos h1,h3]
   show [(k,v)]++[]++iS k v true r=_
   rw [qM hr,h2,List.filter_cons,if_neg (by rw [h3];simp),List.filter_cons,if_neg (by rw [h1,aM];simp),h2];simp
  ·have h2:r.filter (fun p=>aQ p.1 k)=[]:=List.filter_eq_nil_iff.2 fun x hx=>by
    have:=(List.pairwise_cons.1 h).1 x hx
    rw [cw (dt h1 this)];simp
   have h3:aQ p.1 k=false:=cw h1
   rw [if_pos ⟨rfl,h3⟩,if_neg (fun e=>by rw [e,aM] at h1;cases h1),h3]
   show [(k,v)]++[p]++iS k v true r=_
   rw [qM hr,h2,List.filter_cons,if_neg (by rw [h3];simp),List.filter_cons,if_pos h1,h2];simp
theorem xW {l:List (Bs×Bs)} (h:kU l) (k v:Bs) (del:Bool):iS k v del l=sM l k v del:=by
 unfold sM
 cases del with
 | true=>rw [qM h];simp
 | false=>rw [AK h];simp
theorem u6 (k v:Bs):∀ (l:List (Bs×Bs)) (put:Bool),(iS k v put l).length≤l.length+(if put=true then 0 else 1)
 | [],put=>by unfold iS;cases put<;>simp
 | p::r,put=>by
  have ih:=u6 k v r (put||!aQ p.1 k)
  have h2:(if p.1=k then [] else [p]).length≤1:=by split<;>simp
  unfold iS
  simp only [List.length_append,List.length_cons]
  cases put with
  | true=>simp only [Bool.true_or,if_true] at ih;simp;omega
  | false=>
   cases hb:aQ p.1 k with
   | true=>rw [hb] at ih;simp at ih;simp;omega
   | false=>rw [hb] at ih;simp at ih;simp;omega
def KZ (l:List (Bs×Bs)) (b:List bX):List (Bs×Bs):=b.foldl (fun l c=>iS c.key c.val c.del l) l
theorem rP:∀ (b:List bX) {l:List (Bs×Bs)},kU l→KZ l b=pY l b
 | [],_,_=>rfl
 | c::b,l,h=>by
  unfold KZ pY
  rw [List.foldl_cons,List.foldl_cons,xW h]
  exact rP b (zs h c.key c.val c.del)
theorem D9:∀ (b:List bX) (l:List (Bs×Bs)),(KZ l b).length≤l.length+b.length
 | [],l=>Nat.le_refl _
 | c::b,l=>by
  have h1:=D9 b (iS c.key c.val c.del l)
  have h2:=u6 c.key c.val l c.del
  have:(if c.del=true then 0 else 1)≤1:=by split<;>omega
  unfold KZ at h1 ⊢
  rw [List.foldl_cons]
  simp only [List.length_cons];omega
def rQ:List bX→Nat
 | []=>0
 | c::r=>if c.key.length=0∨8<c.key.length then 3 else if c.del=false∧16<c.val.length then 4 else rQ r
def gr (l:List bX):Nat:=if 8<l.length then 2 else rQ l
theorem IG {l:List bX} (h:gr l=0):FC l:=by
 unfold gr at h
 by_cases h8:8<l.length
 ·rw [if_pos h8] at h;omega
 ·rw [if_neg h8] at h
  have key:∀ l:List bX,rQ l=0→∀ c∈l,(c.key.length≤8∧c.key≠[])∧(c.del=false→c.val.length≤16):=by
   intro l
   induction l with
   | nil=>intro _ c hc;cases hc
   | cons x r ih=>
    intro hh c hc
    unfold rQ at hh
    split at hh
    ·omega
    ·rename_i h1
     split at hh
     ·omega
     ·rename_i h2
      rcases List.mem_cons.1 hc with rfl|hc
      ·refine ⟨⟨by omega,fun e=>h1 (.inl (by rw [e];rfl))⟩,fun hd=>?_⟩
       cases Nat.lt_or_ge 16 c.val.length with
       | inl h=>exact absurd ⟨hd,h⟩ h2
       | inr h=>exact h
      ·exact ih hh c hc
  exact ⟨by omega,fun c hc=>(key l h c hc).1,fun c hc=>(key l h c hc).2⟩
end
section
open Go Go.Extern
section
variable {ops:Array Oper} {Q:Exit→Act→World→Prop} {n:Nat} {ds:Md} {e:Env} {w w':World} {rest:List Oper}
variable {op:Op} {ty:TypeId} {pos:String} {af:Array Edge} {d:Nat} {v u:Value} {W0:World} {l l' r r':List ah}
attribute [local semireducible] WL WC WQ
def Ext (f:FuncId) (g:Array Value→Sem Value):Prop:=∀ (args:Array Value) (w:World),(callFunc f args).run Tryz.prog w=((g args).run Tryz.prog w).andThen fun v w'=>.ok (.value v) w'
theorem fR {f:FuncId} {g:Array Value→Sem Value} {xs:Array Operand} {at_:Array TypeId} {vs:List Value} {y:Value} (hf:Ext f g) (hxs:sR e xs.toList=some vs) (hr:(g vs.toArray).run Tryz.prog w=.ok y w') (hd:Nat.blt d n=true)
 (k:WL ops Q n ds rest ((d,y)::e) w'):WL ops Q n ds (⟨some d,.call { callee:=.value (.func f),args:=xs,argTypes:=at_ },ty,pos,af,none⟩::rest) e w:=
 bW (fun a ha=>by
  have e1:xs.map a.eval=vs.toArray:=by rw [← ha.sR hxs];cases xs;simp
  simp [execOp,resolve,Act.eval,Deferred.ofValue,invoke,e1,hf vs.toArray w,hr]) hd k
theorem fw {x:Operand} {xs:Array Operand} {at_:Array TypeId} {vs:List Value} {T f:Nat} {name:String} {v' y:Value} {g:Array Value→Sem Value} (hx:ev e x=some (.iface T v)) (hm:∀ w,(Go.method (Tryz.prog.types.size+Made.depth) T v name).run Tryz.prog w=.ok (f,v') w)
 (hf:Ext f g) (hxs:sR e xs.toList=some vs) (hr:(g (v'::vs).toArray).run Tryz.prog w=.ok y w') (hd:Nat.blt d n=true) (k:WL ops Q n ds rest ((d,y)::e) w') :
 WL ops Q n ds (⟨some d,.call { callee:=.invoke x name,args:=xs,argTypes:=at_ },ty,pos,af,none⟩::rest) e w:=
 bW (fun a ha=>by
  have e1:xs.map a.eval=vs.toArray:=by rw [← ha.sR hxs];cases xs;simp
  have e2:(#[Value.iface T v]++vs.toArray).extract 1 (#[Value.iface T v]++vs.toArray).size=vs.toArray:=by apply Array.ext';simp
  have e3:(#[Value.iface T v]++vs.toArray)[0]?=some (.iface T v):=by simp
  have e4:(#[v']++vs.toArray:Array Value)=(v'::vs).toArray:=by apply Array.ext';simp
  simp only [execOp,resolve,ha.ev hx,e1,Sem.run_bind,Sem.run_pure,Result.andThen_ok,invoke,e2,e3,callMethod,run_program,hm,e4,hf (v'::vs).toArray w,hr]) hd k
theorem oR {x:Operand} {xt t:TypeId} {ok:Bool} {y:Value} (hx:ev e x=some v) (hr:(Instr.typeAssert v xt t ok).run Tryz.prog w=.ok y w) (hd:Nat.blt d n=true)
 (k:WL ops Q n ds rest ((d,y)::e) w):WL ops Q n ds (⟨some d,.typeAssert x xt t ok,ty,pos,af,none⟩::rest) e w:=
 bW (fun a ha=>by simp [execOp,ha.ev hx,hr]) hd k
end
theorem IH:Ext 102 (fun args=>ReflectliteValue.unpack (args.getD 0 (.tuple #[]))):=@run_callFunc_extern Tryz.prog 102 _ _ Tryz.func102 (by kernel_rfl) (by kernel_rfl) (by kernel_rfl) (by kernel_rfl)
theorem Mb:Ext 103 (ReflectliteValue.methodAny (ReflectliteValue.valueError "reflectlite.Value.Type" 0) (fun t _ _ _=>ReflectliteType.toType t)):=@run_callFunc_extern Tryz.prog 103 _ _ Tryz.func103 (by kernel_rfl) (by kernel_rfl) (by kernel_rfl) (by kernel_rfl)
theorem Mc:Ext 104 (ReflectliteValue.method (ReflectliteValue.valueError "reflectlite.Value.IsNil" 0) ReflectliteValue.isNil):=@run_callFunc_extern Tryz.prog 104 _ _ Tryz.func104 (by kernel_rfl) (by kernel_rfl) (by kernel_rfl) (by kernel_rfl)
theorem II:Ext 162 ReflectliteType.typeOf:=@run_callFunc_extern Tryz.prog 162 _ _ Tryz.func162 (by kernel_rfl) (by kernel_rfl) (by kernel_rfl) (by kernel_rfl)
theorem Ng:Ext 181 (ReflectliteValue.method (ReflectliteValue.valueError "reflectlite.Value.Elem" 0) ReflectliteValue.elem):=@run_callFunc_extern Tryz.prog 181 _ _ Tryz.func181 (by kernel_rfl) (by kernel_rfl) (by kernel_rfl) (by kernel_rfl)
theorem Nh:Ext 182 ReflectliteValue.set:=@run_callFunc_extern Tryz.prog 182 _ _ Tryz.func182 (by kernel_rfl) (by kernel_rfl) (by kernel_rfl) (by kernel_rfl)
theorem FT:Ext 271 (ReflectliteType.abiMethod fun t=>do pure (.int .u8 (← Rtype.kind t))):=@run_callFunc_extern Tryz.prog 271 _ _ Tryz.func271 (by kernel_rfl) (by kernel_rfl) (by kernel_rfl) (by kernel_rfl)
theorem Me:Ext 285 (ReflectliteType.method ReflectliteType.elem):=@run_callFunc_extern Tryz.prog 285 _ _ Tryz.func285 (by kernel_rfl) (by kernel_rfl) (by kernel_rfl) (by kernel_rfl)
theorem Mf:Ext 286 (ReflectliteType.relation "Implements" ReflectliteType.implements_):=@run_callFunc_extern Tryz.prog 286 _ _ Tryz.func286 (by kernel_rfl) (by kernel_rfl) (by kernel_rfl) (by kernel_rfl)
theorem Kj:Ext 283 (ReflectliteType.relation "AssignableTo" ReflectliteType.assignableTo):=@run_callFunc_extern Tryz.prog 283 _ _ Tryz.func283 (by kernel_rfl) (by kernel_rfl) (by kernel_rfl) (by kernel_rfl)
abbrev yB (t:Nat):Value:=.iface 297 (.agg #[.pointer (some ⟨4,t,none⟩)])
abbrev rv (t b fl:Nat):Value:=.agg #[.pointer (some ⟨4,t,none⟩),.pointer (some ⟨b,0,none⟩),.int .u64 (fl:Int)]
theorem CF (v:Value) (w:World):(ReflectliteType.typeOf #[.iface 44 v]).run Tryz.prog w=.ok (yB 44) w:=by kernel_rfl
theorem Ea (v:Value) (w:World):(ReflectliteType.typeOf #[.iface 249 v]).run Tryz.prog w=.ok (yB 249) w:=by kernel_rfl
theorem oC (h:Value) (w:World):(Go.method (Tryz.prog.types.size+Made.depth) 297 (.agg #[h]) "Kind").run Tryz.prog w=.ok (271,h) w:=by kernel_rfl
theorem yC (h:Value) (w:World):(Go.method (Tryz.prog.types.size+Made.depth) 297 (.agg #[h]) "Elem").run Tryz.prog w=.ok (285,.agg #[h]) w:=by kernel_rfl
theorem yD (h:Value) (w:World):(Go.method (Tryz.prog.types.size+Made.depth) 297 (.agg #[h]) "Implements").run Tryz.prog w=.ok (286,.agg #[h]) w:=by kernel_rfl
theorem s8 (h:Value) (w:World):(Go.method (Tryz.prog.types.size+Made.depth) 297 (.agg #[h]) "AssignableTo").run Tryz.prog w=.ok (283,.agg #[h]) w:=by kernel_rfl
theorem Kk (h:Value) (w:World):(Go.method (Tryz.prog.types.size+Made.depth) 297 (.agg #[h]) "Comparable").run Tryz.prog w=.ok (284,.agg #[h]) w:=by kernel_rfl
theorem Mh (t:Addr) (w:World):(ReflectliteValue.unpack (.iface 136 (.pointer (some t)))).run Tryz.prog w=.ok (rv 136 w.heap.size 150) { w with heap:=w.heap.push (.cells #[.pointer (some t)] 136) }:=by kernel_rfl
theorem IJ (t:Addr) (w:World):(ReflectliteValue.unpack (.iface 283 (.pointer (some t)))).run Tryz.prog w=.ok (rv 283 w.heap.size 150) { w with heap:=w.heap.push (.cells #[.pointer (some t)] 283) }:=by kernel_rfl
theorem Ni (k:Int) (w:World):(ReflectliteValue.unpack (.iface 44 (.int .i64 k))).run Tryz.prog w=.ok (rv 44 w.heap.size 130) { w with heap:=w.heap.push (.cells #[.int .i64 k] 44) }:=by kernel_rfl
theorem Mi (t:Addr) (w:World):(ReflectliteValue.unpack (.iface 249 (.pointer (some t)))).run Tryz.prog w=.ok (rv 249 w.heap.size 150) { w with heap:=w.heap.push (.cells #[.pointer (some t)] 249) }:=by kernel_rfl
theorem Nj (b:Nat) (w:World):(ReflectliteValue.methodAny (ReflectliteValue.valueError "reflectlite.Value.Type" 0) (fun t _ _ _=>ReflectliteType.toType t) #[rv 136 b 150]).run Tryz.prog w=.ok (yB 136) w:=by kernel_rfl
theorem K0 (b:Nat) (w:World):(ReflectliteValue.methodAny (ReflectliteValue.valueError "reflectlite.Value.Type" 0) (fun t _ _ _=>ReflectliteType.toType t) #[rv 283 b 150]).run Tryz.prog w=.ok (yB 283) w:=by kernel_rfl
theorem Nk (w:World):((ReflectliteType.abiMethod fun t=>(fun a:Nat=>Value.int IntKind.u8 (a:Int)) <$> Rtype.kind t) #[.pointer (some ⟨4,136,none⟩)]).run Tryz.prog w=.ok (.int .u8 22) w:=by kernel_rfl
theorem K1 (w:World):((ReflectliteType.abiMethod fun t=>(fun a:Nat=>Value.int IntKind.u8 (a:Int)) <$> Rtype.kind t) #[.pointer (some ⟨4,283,none⟩)]).run Tryz.prog w=.ok (.int .u8 22) w:=by kernel_rfl
theorem NY (w:World):((ReflectliteType.abiMethod fun t=>(fun a:Nat=>Value.int IntKind.u8 (a:Int)) <$> Rtype.kind t) #[.pointer (some ⟨4,44,none⟩)]).run Tryz.prog w=.ok (.int .u8 2) w:=by kernel_rfl
theorem K2 (w:World):((ReflectliteType.abiMethod fun t=>(fun a:Nat=>Value.int IntKind.u8 (a:Int)) <$> Rtype.kind t) #[.pointer (some ⟨4,249,none⟩)]).run Tryz.prog w=.ok (.int .u8 22) w:=by kernel_rfl
theorem Nl (w:World):(ReflectliteType.method ReflectliteType.elem #[.agg #[.pointer (some ⟨4,136,none⟩)]]).run Tryz.prog w=.ok (yB 44) w:=by kernel_rfl
theorem K3 (w:World):(ReflectliteType.method ReflectliteType.elem #[.agg #[.pointer (some ⟨4,283,none⟩)]]).run Tryz.prog w=.ok (yB 249) w:=by kernel_rfl
theorem NZ (w:World):(ReflectliteType.relation "Implements" ReflectliteType.implements_ #[.agg #[.pointer (some ⟨4,44,none⟩)],yB 41]).run Tryz.prog w=.ok (.bool true) w:=by kernel_rfl
theorem K4 (w:World):(ReflectliteType.relation "Implements" ReflectliteType.implements_ #[.agg #[.pointer (some ⟨4,249,none⟩)],yB 41]).run Tryz.prog w=.ok (.bool true) w:=by kernel_rfl
theorem Kl (w:World):(ReflectliteType.relation "AssignableTo" ReflectliteType.assignableTo #[.agg #[.pointer (some ⟨4,44,none⟩)],yB 44]).run Tryz.prog w=.ok (.bool true) w:=by kernel_rfl
theorem IK (w:World):(ReflectliteType.relation "AssignableTo" ReflectliteType.assignableTo #[.agg #[.pointer (some ⟨4,44,none⟩)],yB 249]).run Tryz.prog w=.ok (.bool false) w:=by kernel_rfl
theorem IL (w:World):(ReflectliteType.relation "AssignableTo" ReflectliteType.assignableTo #[.agg #[.pointer (some ⟨4,249,none⟩)],yB 44]).run Tryz.prog w=.ok (.bool false) w:=by kernel_rfl
theorem FU (w:World):(ReflectliteType.relation "AssignableTo" ReflectliteType.assignableTo #[.agg #[.pointer (some ⟨4,249,none⟩)],yB 249]).run Tryz.prog w=.ok (.bool true) w:=by kernel_rfl
end
end Go.Proofs.YtecibefflhomdaaGreatDoor
