/-
  Part 35: PLAIN a store is opened; PLAIN Write, Compact, Close; PLAIN the document's answer, and the store beside it; PLAIN closed and opened again.
-/
import Derived.Test.YtecibefflhomdaaGreatDoorY34
set_option maxHeartbeats 8000000
set_option maxRecDepth 100000
set_option linter.all false
namespace Go.Proofs.YtecibefflhomdaaGreatDoor
open Go
section
open Go.Proofs.YtecibefflhomdaaGreatDoor.Pure
theorem mU (l:List Bs):(kT l).Perm l:=List.mergeSort_perm l _
theorem iJ {D:ad} {n:Bs}:n∈fu D↔file D n≠none:=by
 unfold fu
 rw [(mU _).mem_iff,ne_eq,kr,cw]
 exact Iff.intro (fun h k=>k h) (fun h=>Classical.not_not.1 h)
theorem n6 {D:ad} (h:D.Ok):(fu D).Nodup:=(mU _).nodup_iff.2 h.names
theorem jF (D:ad):(fu D).length=D.now.length:=by unfold fu;rw [(mU _).length_eq,List.length_map]
section
variable {C:Prop} {D:ad} {c s:St} {Ls:ga} {bs:List (List bO)} {E:Nat}
theorem pK (hl:s.levels=cH Ls) (m:Bs):fJ s m=true↔m=aP∨m=s.log∨m∈bN Ls:=by
 unfold fJ bN
 rw [hl,oC]
 simp only [Bool.or_eq_true,decide_eq_true_eq,List.any_eq_true,List.mem_map]
 constructor
 ·rintro ((h|h)|⟨T,⟨p,hp,rfl⟩,h⟩)
  ·exact .inl h
  ·exact .inr (.inl h)
  ·exact .inr (.inr ⟨p,hp,h⟩)
 ·rintro (h|h|⟨p,hp,h⟩)
  ·exact .inl (.inl h)
  ·exact .inl (.inr h)
  ·exact .inr ⟨p.1,⟨p,hp,rfl⟩,h⟩
theorem Gi (hd:D.Ok) (hl:s.levels=cH Ls) (hm:D.moves.length+D.now.length≤1099511627776) :
 ∃ x D',jk s D=some (x,D')∧cS D D'∧D'.now.length≤D.now.length∧D'.moves.length≤D.moves.length+((fu D).filter fun n=>!fJ s n).length∧(∀ m,(m=aP∨m=s.log∨m∈bN Ls)→file D' m=file D m) ∧
  ((∃ e,x=.error e∧sF C D e)∨(x=.ok s∧∀ m,file D' m≠none→m=aP∨m=s.log∨m∈bN Ls)):=by
 have hlen:((fu D).filter fun n=>!fJ s n).length≤D.now.length:=by
  have:=List.length_filter_le (fun n=>!fJ s n) (fu D)
  rw [jF] at this;exact this
 obtain ⟨x,D',k1,k2,k3,k4,k5⟩:=n4 (C:=C) ((fu D).filter fun n=>!fJ s n) hd ((n6 hd).filter _) (fun n hn=>iJ.1 (List.mem_filter.1 hn).1) (by omega)
 have hk4:∀ m,(m=aP∨m=s.log∨m∈bN Ls)→file D' m=file D m:=fun m hm=>k4 m fun hh=>by
  have h1:=(List.mem_filter.1 hh).2
  rw [(pK hl m).2 hm] at h1
  cases h1
 have hno:D'.now.length≤D.now.length:=by
  have h1:=u1 k2.ok (ns:=fu D) fun m hm=>by
   by_cases hin:m∈(fu D).filter fun n=>!fJ s n
   ·exact (List.mem_filter.1 hin).1
   ·rw [k4 m hin] at hm;exact iJ.2 hm
  rwa [jF] at h1
 unfold jk
 rw [if_pos (by rw [bJ];omega),k1]
 rcases k5 with ⟨rfl,k5⟩|⟨e,rfl,k5⟩
 ·refine ⟨_,_,rfl,k2,hno,by omega,hk4,.inr ⟨rfl,fun m hm=>(pK hl m).1 ?_⟩⟩
  cases hk:fJ s m with
  | true=>rfl
  | false=>
   by_cases hin:m∈(fu D).filter fun n=>!fJ s n
   ·exact absurd (k5 m hin) hm
   ·rw [k4 m hin] at hm
    exact absurd (List.mem_filter.2 ⟨iJ.2 hm,by rw [hk];rfl⟩) hin
 ·exact ⟨_,_,rfl,k2,hno,by omega,hk4,.inl ⟨e,rfl,k5⟩⟩
def iy (c:St) (Ls:ga) (bs:List (List bO)) (k:Bs):Option Bs:=dP (fa (gu c.seq bs []::dx Ls) k aG)
theorem ml (c:St) (Ls:ga) (k:Bs):iy c Ls [] k=dP (fa (dx Ls) k aG):=by
 unfold iy
 rw [bC];rfl
theorem IX (q:Nat) (bs:List (List bO)) (S:List (List az)) (k:Bs) (m:Nat):dP (fa (gu q (bs.map (·.map ib)) []::S) k m)=dP (fa (gu q bs []::S) k m):=by
 have h:=u7 bs q []
 rw [List.map_nil] at h
 rw [h,bC,bC,AR,xq]
theorem RecM.norm (h:RecM C D c Ls bs E):RecM C D c Ls (bs.map (·.map ib)) E:=
 ⟨h.ok,h.levels,h.state,h.num,by rw [pI];exact h.seq,by rw [pI];exact h.cntE,h.lv,h.on,h.seqs,h.ord,h.log,by rw [lJ];exact h.logf,fun b hb=>by
   obtain ⟨x,hx,rfl⟩:=List.mem_map.1 hb
   exact IW (h.bsok x hx)⟩
theorem yH {a b:St} (h1:a.number=b.number) (h2:a.seq=b.seq) (h3:a.log=b.log) (h4:a.levels=b.levels):bT a=bT b:=by unfold bT;rw [h1,h2,h3,h4]
theorem RecM.congr {c':St} (h:RecM C D c Ls bs E) (h1:c'.number=c.number) (h2:c'.seq=c.seq) (h3:c'.log=c.log) (h4:c'.levels=c.levels):RecM C D c' Ls bs E:=
 ⟨h.ok,h4.trans h.levels,by rw [yH h1 h2 h3 h4];exact h.state,by rw [h1];exact h.num,by rw [h2];exact h.seq,h.cntE,by rw [h1];exact h.lv,h.on,by rw [h2];exact h.seqs,h.ord,by rw [h1,h3];exact h.log,by rw [h2,h3];exact h.logf,h.bsok⟩
def qO (C:Prop) (o:ji) (D:ad) (q:Nat) (see:Bs→Option Bs) (N E M:Nat) (x:Except cy St) (D':ad):Prop:=
 cS D D' ∧
  ((∃ e,x=.error e∧sF C D e∧∃ c' Ls' bs',(RecM C D' c' Ls' bs' E∧Left D' c' N M)∧c'.seq+total bs'=q∧∀ k,iy c' Ls' bs' k=see k) ∨
   ∃ s' Ls',x=.ok s'∧jo C s' D' q Ls' [] E∧(∀ k,dP (fa (dx Ls') k aG)=see k)∧s'.mem=[]∧s'.snaps=[]∧s'.snap=0∧s'.seq=q∧s'.number≤N∧file D' s'.log=some []∧lA o Ls')
theorem qO.before {o:ji} {D0:ad} {q N N' M M':Nat} {see:Bs→Option Bs} {x:Except cy St} {D':ad} (hl:cS D0 D) (hN:N≤N') (hM:M≤M') (h:qO C o D q see N E M x D'):qO C o D0 q see N' E M' x D':=by
 obtain ⟨h1,h2⟩:=h
 refine ⟨hl.trans h1,?_⟩
 rcases h2 with ⟨e,a,b,c,Ls',bs',r,r2⟩|⟨s',Ls',a1,a2,a3,a4,a5,a6,a7,a8,a9⟩
 ·exact .inl ⟨e,a,b.before hl,c,Ls',bs',⟨r.1,r.2.more hN hM⟩,r2⟩
 ·exact .inr ⟨s',Ls',a1,a2,a3,a4,a5,a6,a7,Nat.le_trans a8 hN,a9⟩
theorem Gj {o:ji} {q0:Nat} (ho:1≤o.tables) (h:jo C s D q0 Ls bs E) (hsn:s.snaps=[]∧s.snap=0) (hE:E≤1048576) (hB:bs.length≤16777216) (hnum:s.number+4*E+1≤4611686018427387904) :
 ∃ x D',j6 o s D=some (x,D')∧qO C o D s.seq (fun k=>dP (fa (s.mem::dx Ls) k aG)) (s.number+4*E+1) E E x D':=by
 have hmo:aK s=[aG]:=by unfold aK;rw [hsn.1];rfl
 have hmem:=h.mem
 have hseq:=h.seq
 have herr:∀ (c':St) (Ls':ga) (bs':List (List bO)),((c'.seq=q0∧bs'=bs∧fp (aK s) (dx Ls) (dx Ls'))∨(c'.seq=s.seq∧bs'=[]∧fp (aK s) (s.mem::dx Ls) (dx Ls')))→c'.seq+total bs'=s.seq∧∀ k,iy c' Ls' bs' k=dP (fa (s.mem::dx Ls) k aG):=by
  rintro c' Ls' bs' (⟨e1,rfl,e3⟩|⟨e1,rfl,e3⟩)
  ·refine ⟨by rw [e1,hseq],fun k=>?_⟩
   unfold iy
   rw [e1,← hmem,bC,bC]
   exact oD (e3 aG (by rw [hmo];exact List.mem_cons_self) k)
  ·refine ⟨by rw [e1];simp [total],fun k=>?_⟩
   rw [ml]
   exact e3 aG (by rw [hmo];exact List.mem_cons_self) k
 unfold j6
 by_cases hm:0<s.mem.length
 ·rw [if_pos hm]
  obtain ⟨x,D',k1,k2,k3⟩:=rR ho h hE hB hnum
  refine ⟨x,D',k1,k2,?_⟩
  rcases k3 with ⟨e,a1,a2,c',Ls',bs',a3,a4⟩|⟨s',Ls',a1,a2,a3,a4,a5,a6,a7,a8,a9⟩
  ·obtain ⟨b1,b2⟩:=herr c' Ls' bs' a4
   exact .inl ⟨e,a1,a2,c',Ls',bs',⟨a3.1,a3.2.more (by omega) (Nat.le_refl _)⟩,b1,b2⟩
  ·refine .inr ⟨s',Ls',a1,a2,fun k=>a3 aG (by rw [hmo];exact List.mem_cons_self) k,?_,by rw [a5,hsn.1],by rw [a6,hsn.2],a4,a7,a8,a9⟩
   rw [a2.mem];rfl
 ·rw [if_neg hm]
  have hm0:s.mem=[]:=by cases hh:s.mem with
   | nil=>rfl
   | cons _ _=>rw [hh] at hm;simp at hm
  have ht:total bs=0:=by have:=h.qM.2;rw [hm0] at this;simpa using this.symm
  have hq:s.seq=q0:=by rw [hseq,ht,Nat.add_zero]
  obtain ⟨k0,hk0,hk1⟩:=h.core.log
  have hk0:k0≤s.number:=hk0
  have hk1:s.log=bR k0:=hk1
  have hn:=h.core.num
  have hn:s.number≤4611686018427387904:=hn
  have hqs:=h.core.seq
  have hqs:q0+total bs≤4611686018427387904:=hqs
  have htab:=h.core.CQ hE
  have hused:=h.used hE hB
  have hmv:=h.moves
  obtain ⟨lb,hlb⟩:=h.logf
  obtain ⟨x,D3,c1,c2,c3⟩:=nZ (C:=C) (s:=s) (Ls:=Ls) h.levels h.core.lv htab (by omega) (by omega) h.core.ok h.IM (h.Lw (by omega) (by omega)) (.inr ⟨k0,_,hk0,hk1,hlb.1⟩) (by omega) (by omega)
  rw [c1]
  have hlogne:s.log≠bR (s.number+1):=fun hh=>by have:=nY (hk1.symm.trans hh) (by omega) (by omega);omega
  have hnew:∀ D':ad,D'.Ok→file D' aP=some (aD (bT { s with number:=s.number+1,log:=bR (s.number+1) }))→file D' (bR (s.number+1))=some [] →
   (∀ m,m∈bN Ls→file D' m=file D m)→RecM C D' { s with number:=s.number+1,log:=bR (s.number+1) } Ls [] E:=by
   intro D' hd' hs' hl' hf'
   refine ⟨hd',h.levels,hs',by show s.number+1≤_;omega,by show s.seq+total []≤_;simp [total];omega,?_,⟨h.core.lv.len,fun p hp=>?_,h.core.lv.nodup,h.core.lv.sep⟩,fun p hp=>?_,fun p hp e he=>?_,h.core.ord,⟨s.number+1,Nat.le_refl _,rfl⟩,⟨[],by rw [hl'];rfl,ou⟩,by simp⟩
   ·have:=h.core.cntE;simp [total];omega
   ·obtain ⟨k,a1,a2⟩:=h.core.lv.names p hp
    have a1:k≤s.number:=a1
    exact ⟨k,by show k≤s.number+1;omega,a2⟩
   ·obtain ⟨f,cs,a1,a2⟩:=h.core.on p hp
    exact ⟨f,cs,by rw [hf' _ (List.mem_map.2 ⟨p,hp,rfl⟩)];exact a1,a2⟩
   ·have h1:=h.core.seqs p hp e he
    have h1:e.seq≤q0:=h1
    show e.seq≤s.seq;omega
  rcases c3 with ⟨rfl,c3,c4⟩|⟨e,rfl,c3,c4⟩
  ·have hfl:file D3 (bR (s.number+1))=some []:=by rw [c4,if_neg (eN _)];exact if_pos rfl
   have hrun:jo C { s with number:=s.number+1,log:=bR (s.number+1) } D3 s.seq Ls [] E:=by
    refine ⟨hnew D3 c2.ok (by rw [c4,if_pos rfl]) hfl fun m hm=>?_,hm0,by simp [total],⟨[],by rw [hfl];rfl,by simp⟩,fun m hm=>?_,by omega,h.snaps⟩
    ·rw [c4,if_neg fun hh=>fX h.core.lv (by rw [← hh];exact hm),if_neg fun hh=>ea h.core.lv (s.number+1) (by rw [← hh];exact hm),if_neg fun hh=>ea h.core.lv k0 (by rw [← hk1,← hh];exact hm)]
    ·show m=aP∨m=bR (s.number+1)∨_
     rw [c4] at hm
     by_cases h1:m=aP
     ·exact .inl h1
     rw [if_neg h1] at hm
     by_cases h2:m=bR (s.number+1)
     ·exact .inr (.inl h2)
     rw [if_neg h2] at hm
     by_cases h3:m=s.log
     ·exact absurd (if_pos h3) hm
     rw [if_neg h3] at hm
     rcases h.known m hm with h4|h4|h4
     ·exact absurd h4 h1
     ·exact absurd h4 h3
     ·exact .inr (.inr h4)
   dsimp only [dS]
   obtain ⟨x,D4,s1,l3,s2⟩:=pG ho hrun (by simp [total]) hE (by simp) (by show s.number+1+3*E≤_;omega)
   refine ⟨x,D4,s1,c2.trans l3,?_⟩
   have hmo2:aK { s with number:=s.number+1,log:=bR (s.number+1) }=aK s:=rfl
   rw [hmo2] at s2
   have hsee:∀ k,dP (fa (s.mem::dx Ls) k aG)=dP (fa (dx Ls) k aG):=fun k=>by rw [bC,hm0];rfl
   rcases s2 with ⟨e,a1,a2,c',Ls',bs',a3,a4⟩|⟨s',Ls',a1,a2,a3,a4,a5,a6,a7⟩
   ·refine .inl ⟨e,a1,a2.before c2,c',Ls',bs',⟨a3.1,a3.2.more (by show s.number+1+3*E≤_;omega) (Nat.le_refl _)⟩,?_⟩
    rcases a4 with ⟨b1,rfl,b3⟩|⟨b1,rfl,b3⟩
    ·refine ⟨by rw [b1];simp [total],fun k=>?_⟩
     show iy c' Ls' [] k=dP (fa (s.mem::dx Ls) k aG)
     rw [ml,hsee]
     exact b3 aG (by rw [hmo];exact List.mem_cons_self) k
    ·refine ⟨by rw [b1];simp [total],fun k=>?_⟩
     show iy c' Ls' [] k=dP (fa (s.mem::dx Ls) k aG)
     rw [ml]
     exact b3 aG (by rw [hmo];exact List.mem_cons_self) k
   ·have hlog':s'.log=bR (s.number+1):=a5.1
    refine .inr ⟨s',Ls',a1,a2,fun k=>?_,by rw [a4.mem];exact hm0,by rw [a4.snaps];exact hsn.1,by rw [a4.snap];exact hsn.2,a4.seq,?_,?_,a7⟩
    ·show _=dP (fa (s.mem::dx Ls) k aG)
     rw [hsee];exact a3 aG (by rw [hmo];exact List.mem_cons_self) k
    ·have a6:s'.number≤s.number+1+3*E:=a6
     omega
    ·rw [hlog']
     have:=a5.2
     have this:file D4 (bR (s.number+1))=file D3 (bR (s.number+1)):=this
     rw [this];exact hfl
  ·refine ⟨_,_,rfl,c2,.inl ⟨e,rfl,c3,?_⟩⟩
   rcases c4 with c4|c4
   ·have hg4:=h.grow c2.ok (xs:=[aY,bR (s.number+1)]) fun m hm=>by
     by_cases hms:m=aY
     ·rw [hms];exact .inl List.mem_cons_self
     by_cases hml:m=bR (s.number+1)
     ·rw [hml];exact .inl (List.mem_cons_of_mem _ List.mem_cons_self)
     ·rw [c4 m hms hml] at hm
      exact .inr hm
    simp only [List.length_cons,List.length_nil] at hg4
    refine ⟨_,Ls,bs,⟨h.core.files c2.ok fun m hm=>c4 m ?_ ?_,by show s.number≤_;omega,by omega⟩,herr _ _ _ (.inl ⟨rfl,rfl,fp.refl _ _⟩)⟩
    ·rcases hm with hm|hm|hm
     ·rw [hm];exact iH.symm
     ·have hm:m=s.log:=hm
      rw [hm,hk1];exact jE _
     ·exact fun hh=>gU h.core.lv (by rw [← hh];exact hm)
    ·rcases hm with hm|hm|hm
     ·rw [hm];exact (eN _).symm
     ·have hm:m=s.log:=hm
      rw [hm];exact hlogne
     ·exact fun hh=>ea h.core.lv (s.number+1) (by rw [← hh];exact hm)
   ·have hg4:=h.grow c2.ok (xs:=[bR (s.number+1)]) fun m hm=>by
     by_cases hms:m=aP
     ·rw [hms];exact .inr (by have hst:file D aP=some (aD (bT { s with seq:=q0 })):=h.core.state
                              rw [hst];simp)
     by_cases hml:m=bR (s.number+1)
     ·rw [hml];exact .inl List.mem_cons_self
     ·rw [c4,if_neg hms] at hm
      exact .inr fun hh=>hm ((if_neg hml).trans hh)
    simp only [List.length_cons,List.length_nil] at hg4
    refine ⟨_,Ls,[],⟨hnew D3 c2.ok (by rw [c4,if_pos rfl]) (by rw [c4,if_neg (eN _)];exact if_pos rfl) fun m hm=>?_,by show s.number+1≤_;omega,by omega⟩,herr _ _ _ (.inr ⟨rfl,rfl,fun m _ k=>?_⟩)⟩
    ·rw [c4,if_neg fun hh=>fX h.core.lv (by rw [← hh];exact hm),if_neg fun hh=>ea h.core.lv (s.number+1) (by rw [← hh];exact hm)]
    ·rw [bC,hm0];rfl
theorem IY {o:ji} (ho:1≤o.tables) (h:RecM C D c Ls bs E) (hj:∀ b,file D c.log=some b→b.length≤1073741824) (hE:E≤1048576) (hB:bs.length≤16777216) (hm:D.moves.length+D.now.length≤2097152∨(D.moves.length≤2097152∧D.now.length≤2097152∧∀ m,file D m≠none→pF c Ls m)) (hnum:c.number+4*E+1≤4611686018427387904) :
 ∃ x D',j9 o D=some (x,D')∧qO C o D (c.seq+total bs) (iy c Ls bs) (c.number+4*E+1) E (E+D.now.length) x D':=by
 unfold j9
 obtain ⟨x,D1,l1,l2,l3⟩:=Gh h hE
 rw [l1]
 have hR1:RecM C D1 c Ls bs E:=h.files l2.later.ok fun m _=>l2.file m
 have hnow:D1.now.length=D.now.length:=by
  have h1:∀ m,m∈fu D1↔m∈fu D:=fun m=>by rw [iJ,iJ,l2.file]
  have h2:=mj (n6 l2.later.ok) fun m hm=>(h1 m).1 hm
  have h3:=mj (n6 h.ok) fun m hm=>(h1 m).2 hm
  rw [jF,jF] at h2 h3
  omega
 rcases l3 with ⟨e,rfl,l3⟩|rfl
 ·exact ⟨_,_,rfl,l2.later,.inl ⟨e,rfl,.inl l3,c,Ls,bs,⟨hR1,by omega,by rw [hnow];omega⟩,rfl,fun _=>rfl⟩⟩
 dsimp only [dS]
 obtain ⟨x,D2,c1,c2,c2n,c3,c4,c5⟩:=Gi (C:=C) (s:=pJ c bs) (Ls:=Ls) l2.later.ok h.levels (by rw [l2.moves,hnow];rcases hm with hm|⟨hm,hm2,-⟩<;>omega)
 have hfil:D1.moves.length+((fu D1).filter fun n=>!fJ (pJ c bs) n).length≤2097152:=by
  rw [l2.moves]
  rcases hm with hm|⟨hm,hm2,hk⟩
  ·have h1:=List.length_filter_le (fun n=>!fJ (pJ c bs) n) (fu D1)
   rw [jF,hnow] at h1;omega
  ·rw [List.filter_eq_nil_iff.2 fun m hm3=>?_]
   ·simpa using hm
   ·have h1:=hk m (by rw [← l2.file];exact iJ.1 hm3)
    have h2:=(pK (s:=pJ c bs) (Ls:=Ls) h.levels m).2 h1
    rw [h2];simp
 rw [c1]
 have hR2:RecM C D2 c Ls bs E:=hR1.files c2.ok fun m hm=>c4 m hm
 rcases c5 with ⟨e,rfl,c5⟩|⟨rfl,c5⟩
 ·exact ⟨_,_,rfl,l2.later.trans c2,.inl ⟨e,rfl,c5.before l2.later,c,Ls,bs,⟨hR2,by omega,by omega⟩,rfl,fun _=>rfl⟩⟩
 dsimp only
 have hrun:jo C (pJ c bs) D2 c.seq Ls (bs.map (·.map ib)) E:=by
  refine ⟨hR2.norm.congr rfl rfl rfl rfl,rfl,by rw [pI];rfl,?_,c5,by omega,by show [].length≤4;simp⟩
  obtain ⟨junk,j1,j2⟩:=h.logf
  refine ⟨junk,?_,?_⟩
  ·rw [lJ]
   have h2:file D2 c.log=file D1 c.log:=c4 _ (.inr (.inl rfl))
   show file D2 c.log=_
   rw [h2,l2.file];exact j1
  ·have:=hj _ j1;rw [List.length_append] at this;omega
 obtain ⟨x,D3,r1,r2⟩:=Gj ho hrun ⟨rfl,rfl⟩ hE (by simpa using hB) hnum
 refine ⟨x,D3,r1,?_⟩
 have e1:(fun k=>dP (fa ((pJ c bs).mem::dx Ls) k aG))=iy c Ls bs:=funext fun k=>IX c.seq bs (dx Ls) k aG
 rw [e1] at r2
 exact r2.before (l2.later.trans c2) (Nat.le_refl _) (Nat.le_add_right _ _)
end
end
section
open Go.Proofs.YtecibefflhomdaaGreatDoor.Pure
def gV (s:St) (Ls:ga) (m:Nat) (k:Bs):Option Bs:=dP (fa (s.mem::dx Ls) k m)
def yI (C:Prop) (s:St) (D:ad) (Ls:ga) (see:Bs→Option Bs) (q':Nat) (see':Bs→Option Bs) (N E B:Nat) (shape:St→ga→List (List bO)→Prop) (x:Except cy St) (D':ad):Prop:=
 cS D D' ∧
  ((∃ e,x=.error e∧sF C D e∧∃ c' Ls' bs',(RecM C D' c' Ls' bs' E∧Left D' c' (s.number+N) E)∧((c'.seq+total bs'=s.seq∧∀ k,iy c' Ls' bs' k=see k)∨(c'.seq+total bs'=q'∧∀ k,iy c' Ls' bs' k=see' k))) ∨
   ∃ s' q0' Ls' bs',x=.ok s'∧jo C s' D' q0' Ls' bs' E∧file D' s'.log=some (bF q0' bs')∧s'.seq=q'∧s'.snaps=s.snaps∧s'.snap=s.snap∧s'.number≤s.number+N ∧
    (∀ k,gV s' Ls' aG k=see' k)∧(∀ m∈s.snaps.map (·.2),∀ k,gV s' Ls' m k=gV s Ls m k)∧bs'.length≤B∧shape s' Ls' bs')
section
variable {C:Prop} {D:ad} {c s:St} {Ls:ga} {bs:List (List bO)} {E q0:Nat}
theorem RecM.more {E':Nat} (h:RecM C D c Ls bs E) (hE:E≤E'):RecM C D c Ls bs E':=
 ⟨h.ok,h.levels,h.state,h.num,h.seq,Nat.le_trans h.cntE hE,h.lv,h.on,h.seqs,h.ord,h.log,h.logf,h.bsok⟩
theorem jo.more {E':Nat} (h:jo C s D q0 Ls bs E) (hE:E≤E'):jo C s D q0 Ls bs E':=
 ⟨h.core.more hE,h.mem,h.seq,h.logf,h.known,h.moves,h.snaps⟩
theorem ku (a b:List (List bO)):total (a++b)=total a+total b:=by unfold total;simp
theorem qP:∀ (a:List (List bO)) (q:Nat) (b:List bO),bF q (a++[b])=bF q a++aD (kQ (q+total a) b)
 | [],q,b=>by simp [bF,total]
 | x::a,q,b=>by
  have ht:total (x::a)=x.length+total a:=by simp [total]
  rw [List.cons_append,bF,bF,qP a,ht,Nat.add_assoc,List.append_assoc]
theorem xy:∀ (a:List (List bO)) (q:Nat) (b:List bO) (m:List az),gu q (a++[b]) m=(bj (q+total a) b).foldl dT (gu q a m)
 | [],q,b,m=>by simp [gu,total]
 | x::a,q,b,m=>by
  have ht:total (x::a)=x.length+total a:=by simp [total]
  rw [List.cons_append,gu,gu,xy a,ht,Nat.add_assoc]
theorem added (h:jo C s D q0 Ls bs E) {D':ad} {l:List bO} (hl:JR l) (hd:D'.Ok) (hmv:D'.moves=D.moves) (hq:s.seq+l.length≤4611686018427387904)
 (hf:∀ m,file D' m=if m=s.log then some (bF q0 (bs++[l])) else file D m):jo C (eG s l) D' q0 Ls (bs++[l]) (E+l.length):=by
 have hseq:=h.seq
 have hm:=h.mem
 have htl:total [l]=l.length:=by simp [total]
 obtain ⟨k0,hk0,hk1⟩:=h.core.log
 have hk1:s.log=bR k0:=hk1
 have hoth:∀ m,m≠s.log→file D' m=file D m:=fun m hh=>by rw [hf,if_neg hh]
 have hlog:file D' s.log=some (bF q0 (bs++[l])):=by rw [hf,if_pos rfl]
 have hmv2:=h.moves
 refine ⟨⟨hd,h.core.levels,?_,h.core.num,?_,?_,h.core.lv,fun p hp=>?_,h.core.seqs,h.core.ord,h.core.log,?_,?_⟩,?_,?_,?_,fun m hh=>?_,by rw [hmv];exact hmv2,h.snaps⟩
 ·rw [hoth _ (by rw [hk1];exact (eN _).symm)];exact h.core.state
 ·show q0+total (bs++[l])≤_
  rw [ku,htl];omega
 ·have:=h.core.cntE;rw [ku,htl];omega
 ·obtain ⟨f,cs,a1,a2⟩:=h.core.on p hp
  exact ⟨f,cs,by rw [hoth _ fun hh=>ea h.core.lv k0 (by rw [← hk1,← hh];exact List.mem_map.2 ⟨p,hp,rfl⟩)];exact a1,a2⟩
 ·exact ⟨[],by rw [List.append_nil];exact hlog,ou⟩
 ·intro b hb
  rcases List.mem_append.1 hb with hb|hb
  ·exact h.core.bsok b hb
  ·simp at hb;subst hb;exact hl
 ·show (bj s.seq l).foldl dT s.mem=_
  rw [xy,← hm,hseq]
 ·show s.seq+l.length=_
  rw [ku,htl];omega
 ·exact ⟨[],by rw [List.append_nil];exact hlog,by simp⟩
 ·show m=aP∨m=s.log∨_
  by_cases h1:m=s.log
  ·exact .inr (.inl h1)
  ·rw [hoth m h1] at hh
   exact h.known m hh
theorem jo.iy (h:jo C s D q0 Ls bs E) (k:Bs):YtecibefflhomdaaGreatDoor.iy { s with seq:=q0 } Ls bs k=gV s Ls aG k:=by
 unfold YtecibefflhomdaaGreatDoor.iy gV
 rw [h.mem]
theorem Gk {o:ji} {sync:Bool} {l:List bO} {ps:List (Bs×Bs)} (ho:1≤o.tables) (hom:1≤o.memory) (h:jo C s D q0 Ls bs E) (hlog:file D s.log=some (bF q0 bs)) (hl:JR l)
 (hE:E+l.length≤1048576) (hB:bs.length<16777216) (hq:s.seq+l.length≤4611686018427387904) (hnum:s.number+4*(E+l.length)+1≤4611686018427387904) (hmem:s.mem.length<o.memory)
 (hps:∀ k,gV s Ls aG k=aV ps k) (hsn:∀ m∈s.snaps.map (·.2),m≤s.seq) :
 ∃ x D',kR o s D l sync=some (x,D')∧yI C s D Ls (fun k=>aV ps k) (s.seq+l.length) (fun k=>aV (mZ ps l) k) (4*(E+l.length)+1) (E+l.length) (bs.length+1) (fun s' Ls' bs'=>s'.mem.length<o.memory∧((Ls'=Ls∧bs'=bs++[l])∨(lA o Ls'∧bs'=[]))) x D':=by
 obtain ⟨hm1,hm2⟩:=h.qM
 have hcnt:=h.core.cntE
 have hseq:=h.seq
 have hq0:s.seq≤4611686018427387904:=by omega
 have hold:∀ D':ad,D'.Ok→(∀ m,file D' m=file D m)→∃ c' Ls' bs',(RecM C D' c' Ls' bs' (E+l.length)∧Left D' c' (s.number+(4*(E+l.length)+1)) (E+l.length))∧((c'.seq+total bs'=s.seq∧∀ k,YtecibefflhomdaaGreatDoor.iy c' Ls' bs' k=aV ps k)∨(c'.seq+total bs'=s.seq+l.length∧∀ k,YtecibefflhomdaaGreatDoor.iy c' Ls' bs' k=aV (mZ ps l) k)):=fun D' hd hf=>
  ⟨_,Ls,bs,⟨(h.core.files hd fun m _=>hf m).more (Nat.le_add_right _ _),Nat.le_add_right _ _,by have:=h.grow hd (xs:=[]) fun m hm=>.inr (by rw [← hf];exact hm);simp only [List.length_nil] at this;omega⟩,.inl ⟨hseq.symm,fun k=>(h.iy k).trans (hps k)⟩⟩
 unfold kR
 rw [if_pos ⟨hq0,by omega⟩]
 unfold eL
 dsimp only
 cases ha:dX D s.log (aD (kQ s.seq l)) with
 | some e=>
  obtain ⟨a1,a2⟩:=pE h.core.ok ha hlog
  have s1:=cO.tick h.core.ok
  refine ⟨_,_,rfl,by rw [a1];exact s1.later,.inl ⟨e,rfl,?_,hold _ (by rw [a1];exact s1.later.ok) fun m=>by rw [a1];exact s1.file m⟩⟩
  rcases a2 with a2|⟨a2,a3⟩
  ·exact .of a2
  ·have hused:=h.used (by omega) (by omega)
   have hfl:(aD (kQ s.seq l)).length≤292:=by
    have he:∀ e∈bj s.seq l,lQ e:=fun e hh=>(qL l s.seq hl.key hl.val (by omega) e hh).1
    have h1:=kW he
    have h2:=hl.len
    rw [ey] at h1
    unfold e9 at h1
    unfold kQ
    rw [bL,List.length_append,aU];omega
   exact .inr ⟨a2,by omega⟩
 | none=>
  obtain ⟨b,b1,b2,b3,b4,b5,b6⟩:=rE h.core.ok ha
  rw [hlog] at b1
  obtain rfl:=Option.some.inj b1
  dsimp only
  generalize hD1:bZ D s.log (aD (kQ s.seq l))=D1 at b2 b3 b4 b5
  have hf1:∀ m,file D1 m=if m=s.log then some (bF q0 (bs++[l])) else file D m:=fun m=>by
   rw [b2,qP,hseq]
  have hsq:∀ x∈s.mem,x.seq≤s.seq:=fun x hx=>(hm1.seq x hx).2
  have hlat:aG=18446744073709551615:=rfl
  have hnewS:∀ k,gV (eG s l) Ls aG k=aV (mZ ps l) k:=fun k=>by
   unfold gV
   rw [bC]
   show dP ((gd ((bj s.seq l).foldl dT s.mem) k aG).or _)=_
   refine mD l k aG ps _ hm1.srt hsq (by omega) ?_
   have:=hps k
   unfold gV at this
   rw [bC] at this;exact this
  have holdS:∀ m,m≤s.seq→∀ k,gV (eG s l) Ls m k=gV s Ls m k:=fun m hm k=>by
   unfold gV
   rw [bC,bC]
   show dP ((gd ((bj s.seq l).foldl dT s.mem) k m).or _)=_
   rw [qe l k m hm1.srt hsq hm]
  have hsync:∃ (x:Option cy) (D2:ad),(if sync=true then (some (bz D1 s.log,dR D1 s.log):Option (Option cy×ad)) else some (none,D1))=some (x,D2)∧(∀ m,file D2 m=file D1 m)∧cS D1 D2∧D2.moves=D1.moves∧(x=none∨∃ e,x=some e∧qE D1 e):=by
   cases sync with
   | false=>exact ⟨_,_,rfl,fun _=>rfl,cS.refl b4.ok,rfl,.inl rfl⟩
   | true=>
    obtain ⟨y1,y2,y3,y4⟩:=qF b4.ok s.log
    refine ⟨_,_,rfl,y1,y3,y4,?_⟩
    rcases fe (D:=D1) (n:=s.log) (b:=bF q0 (bs++[l])) (by rw [hf1,if_pos rfl]) with h1|⟨e,h1,ht⟩
    ·exact .inl h1
    ·exact .inr ⟨e,h1,ht⟩
  obtain ⟨x,D2,z1,z2,z3,z4,z5⟩:=hsync
  have hrun:jo C (eG s l) D2 q0 Ls (bs++[l]) (E+l.length):=added h hl z3.ok (z4.trans b5) hq fun m=>by rw [z2,hf1]
  have hlog2:file D2 s.log=some (bF q0 (bs++[l])):=by rw [z2,hf1,if_pos rfl]
  have l2:=b4.trans z3
  rw [z1]
  rcases z5 with rfl|⟨e,rfl,z5⟩
  ·dsimp only
   by_cases hfull:o.memory≤(eG s l).mem.length
   ·rw [if_pos hfull]
    obtain ⟨x,D',k1,k2,k3⟩:=rR ho hrun hE (by simp;omega) hnum
    refine ⟨x,D',k1,l2.trans k2,?_⟩
    have hmo:aK (eG s l)=aK s:=rfl
    have hsqn:(eG s l).seq=s.seq+l.length:=rfl
    rcases k3 with ⟨e,a1,a2,c',Ls',bs',a3,a4⟩|⟨s',Ls',a1,a2,a3,a4,a5,a6,a7,a8,a9⟩
    ·refine .inl ⟨e,a1,a2.before l2,c',Ls',bs',⟨a3.1,a3.2.more (by show s.number+_≤_;omega) (Nat.le_refl _)⟩,.inr ?_⟩
     rcases a4 with ⟨r1,rfl,r3⟩|⟨r1,rfl,r3⟩
     ·refine ⟨by rw [r1,← hrun.seq];rfl,fun k=>?_⟩
      show YtecibefflhomdaaGreatDoor.iy c' Ls' (bs++[l]) k=aV (mZ ps l) k
      rw [← hnewS k,← hrun.iy k]
      unfold YtecibefflhomdaaGreatDoor.iy
      rw [r1,bC,bC]
      exact oD (r3 aG List.mem_cons_self k)
     ·refine ⟨by rw [r1];simp [total];rfl,fun k=>?_⟩
      show YtecibefflhomdaaGreatDoor.iy c' Ls' [] k=aV (mZ ps l) k
      rw [ml,r3 aG List.mem_cons_self k]
      exact hnewS k
    ·have hm0:s'.mem=[]:=a2.mem
     have hse:∀ m,m∈aK s→∀ k,gV s' Ls' m k=gV (eG s l) Ls m k:=fun m hm k=>by
      have:=a3 m hm k
      unfold gV
      rw [hm0,bC]
      exact this
     refine .inr ⟨s',_,Ls',[],a1,a2,by rw [a8];rfl,by rw [a4];rfl,a5,a6,by rw [show (eG s l).number=s.number from rfl] at a7;omega,fun k=>?_,fun m hm k=>?_,by simp,by rw [hm0];simp;omega,.inr ⟨a9,rfl⟩⟩
     ·rw [hse aG List.mem_cons_self k];exact hnewS k
     ·rw [hse m (List.mem_cons_of_mem _ hm) k]
      exact holdS m (hsn m hm) k
   ·rw [if_neg hfull]
    refine ⟨_,_,rfl,l2,.inr ⟨_,q0,Ls,bs++[l],rfl,hrun,hlog2,rfl,rfl,rfl,by show s.number≤_;omega,hnewS,fun m hm k=>holdS m (hsn m hm) k,by simp,by omega,.inl ⟨rfl,rfl⟩⟩⟩
  ·refine ⟨_,_,rfl,l2,.inl ⟨e,rfl,.of (z5.before b4),_,Ls,bs++[l],⟨hrun.core,by show s.number≤_;omega,by have:=hrun.now;omega⟩,.inr ⟨?_,fun k=>(hrun.iy k).trans (hnewS k)⟩⟩⟩
   rw [show ({ eG s l with seq:=q0 }:St).seq=q0 from rfl,← hrun.seq];rfl
def EA (ms:List Nat) (Ls':ga):Prop:=∃ R ls,fS R∧Ls'=[[],[],[],ls]∧(ls.map (·.2)).flatten=dE ms true R∧∀ p∈ls,p.2.length≤99
theorem AU {o:ji} (ho:1≤o.tables) (h:jo C s D q0 Ls bs E) (hlog:file D s.log=some (bF q0 bs)) (hE:E≤1048576) (hB:bs.length≤16777216) (hnum:s.number+5*E+1≤4611686018427387904) :
 ∃ x D',me o s D=some (x,D')∧yI C s D Ls (gV s Ls aG) s.seq (gV s Ls aG) (5*E+1) E bs.length (fun s' Ls' bs'=>s'.mem=[]∧EA (aK s) Ls'∧total bs'=0∧(bs'=[]∨bs'=bs)) x D':=by
 have hseq:=h.seq
 have hmem:=h.mem
 have mer:∀ (s1:St) (D1:ad) (Ls1:ga) (bs1:List (List bO)) (q1:Nat),(bs1=[]∨bs1=bs)→jo C s1 D1 q1 Ls1 bs1 E→total bs1=0→s1.mem=[]→s1.seq=s.seq→s1.snaps=s.snaps→s1.snap=s.snap→s1.number≤s.number+4*E+1→bs1.length≤bs.length →
  file D1 s1.log=some (bF q1 bs1)→(∀ m∈aK s,∀ k,gV s1 Ls1 m k=gV s Ls m k)→cS D D1 →
  ∃ x D',kP s1 D1 0 3=some (x,D')∧yI C s D Ls (gV s Ls aG) s.seq (gV s Ls aG) (5*E+1) E bs.length (fun s' Ls' bs'=>s'.mem=[]∧EA (aK s) Ls'∧total bs'=0∧(bs'=[]∨bs'=bs)) x D':=by
  intro s1 D1 Ls1 bs1 q1 hbb h1 ht hm0 hq hsn hsp hn hbl hlg hse hlt
  obtain ⟨x,D',k1,l1,k2⟩:=rQ h1 ht (a:=0) (b:=3) (.inl ⟨rfl,.inr rfl⟩) hE (by omega) (by omega)
  have hmo:aK s1=aK s:=by unfold aK;rw [hsn]
  refine ⟨x,D',k1,hlt.trans l1,?_⟩
  have hs1:∀ m k,gV s1 Ls1 m k=dP (fa (dx Ls1) k m):=fun m k=>by unfold gV;rw [hm0,bC];rfl
  have hq1:=h1.seq
  rcases k2 with ⟨e,a1,a2,c',Ls',bs',a3,a4⟩|⟨s',Ls',a1,a2,a3,a4,a5,a6,a7⟩
  ·refine .inl ⟨e,a1,a2.before hlt,c',Ls',bs',⟨a3.1,a3.2.more (by omega) (Nat.le_refl _)⟩,.inl ?_⟩
   rw [hmo] at a4
   rcases a4 with ⟨r1,rfl,r3⟩|⟨r1,rfl,r3⟩
   ·refine ⟨by omega,fun k=>?_⟩
    rw [← hse aG List.mem_cons_self k,← h1.iy k]
    unfold YtecibefflhomdaaGreatDoor.iy
    rw [r1,bC,bC]
    exact oD (r3 aG List.mem_cons_self k)
   ·refine ⟨by simp [total];omega,fun k=>?_⟩
    rw [ml,r3 aG List.mem_cons_self k]
    exact hse aG List.mem_cons_self k
  ·rw [hmo] at a3
   have hm':s'.mem=[]:=a4.mem.trans hm0
   have hse':∀ m∈aK s,∀ k,gV s' Ls' m k=gV s Ls m k:=fun m hm k=>by
    rw [← hse m hm k,hs1]
    unfold gV
    rw [hm',bC]
    exact a3 m hm k
   refine .inr ⟨s',q1,Ls',bs1,a1,a2,by rw [a5.1,a5.2];exact hlg,a4.seq.trans hq,a4.snaps.trans hsn,a4.snap.trans hsp,by omega,hse' aG List.mem_cons_self,fun m hm=>hse' m (List.mem_cons_of_mem _ hm),hbl,hm',?_,ht,hbb⟩
   obtain ⟨R,ls,b1,b2,b3,b4,b5⟩:=a7
   obtain ⟨L0,L1,L2,L3,hL⟩:=ep h1.core.lv.len
   refine ⟨R,ls,b1,?_,?_,b5⟩
   ·rw [b3,hL];rfl
   ·rw [b4,hmo,hL];rfl
 unfold me
 by_cases hm:0<s.mem.length
 ·rw [if_pos hm]
  obtain ⟨x,D1,k1,l1,k2⟩:=rR ho h hE hB (by omega)
  rw [k1]
  rcases k2 with ⟨e,rfl,a2,c',Ls',bs',a3,a4⟩|⟨s',Ls',rfl,a2,a3,a4,a5,a6,a7,a8,a9⟩
  ·refine ⟨_,_,rfl,l1,.inl ⟨e,rfl,a2,c',Ls',bs',⟨a3.1,a3.2.more (by omega) (Nat.le_refl _)⟩,.inl ?_⟩⟩
   rcases a4 with ⟨r1,rfl,r3⟩|⟨r1,rfl,r3⟩
   ·refine ⟨by rw [r1,hseq],fun k=>?_⟩
    rw [← h.iy k]
    unfold YtecibefflhomdaaGreatDoor.iy
    rw [r1,bC,bC]
    exact oD (r3 aG List.mem_cons_self k)
   ·refine ⟨by rw [r1];simp [total],fun k=>?_⟩
    rw [ml,r3 aG List.mem_cons_self k];rfl
  ·dsimp only [dS]
   have hm0:s'.mem=[]:=a2.mem
   refine mer s' D1 Ls' [] s.seq (.inl rfl) a2 (by simp [total]) hm0 a4 a5 a6 (by omega) (by simp) (by rw [a8];rfl) (fun m hm k=>?_) l1
   unfold gV
   rw [hm0,bC]
   exact a3 m hm k
 ·rw [if_neg hm]
  dsimp only [dS]
  have hm0:s.mem=[]:=by cases hh:s.mem with
   | nil=>rfl
   | cons _ _=>rw [hh] at hm;simp at hm
  have ht:total bs=0:=by have:=h.qM.2;rw [hm0] at this;simpa using this.symm
  exact mer s D Ls bs q0 (.inr rfl) h ht hm0 rfl rfl rfl (by omega) (Nat.le_refl _) hlog (fun _ _ _=>rfl) (cS.refl h.core.ok)
end
end
section
open Go.Proofs.YtecibefflhomdaaGreatDoor.Pure
structure GX where
 pairs:List (Bs×Bs)
 snaps:List (Option (List (Bs×Bs)))
 closed:Bool
def IZ (r:GX) (n:Int):Option (List (Bs×Bs)):=if 1≤n∧n≤(r.snaps.length:Int) then r.snaps.getD (n-1).toNat none else none
def j7 (ps:List (Bs×Bs)) (key:Bs):Except cy (Option Bs):=if key.length=0∨8<key.length then .error (none,3) else .ok (aV ps key)
def live (r:GX):Nat:=(r.snaps.filter Option.isSome).length
structure Inv (C:Prop) (P:St→ga→Prop) (s:St) (D:ad) (r:GX) (E B:Nat):Prop where
 run:∃ q0 Ls bs,jo C s D q0 Ls bs E∧file D s.log=some (bF q0 bs)∧bs.length≤B∧(∀ k,gV s Ls aG k=aV r.pairs k) ∧
  (∀ p∈s.snaps,p.2≤s.seq∧∃ ps,IZ r p.1=some ps∧jS ps∧∀ k,gV s Ls p.2 k=aV ps k)∧P s Ls
 srt:jS r.pairs
 snap:s.snap=r.snaps.length
 keys:(s.snaps.map (·.1)).Nodup
 dead:∀ n,aA s.snaps n=none→IZ r n=none
 live:s.snaps.length=live r
 seq:s.seq≤E
section
variable {C:Prop} {P:St→ga→Prop} {s:St} {D:ad} {r:GX} {E B q0:Nat} {Ls:ga} {bs:List (List bO)}
theorem jo.same {D':ad} (h:jo C s D q0 Ls bs E) (k:cO D D'):jo C s D' q0 Ls bs E:=
 ⟨h.core.files k.later.ok fun m _=>k.file m,h.mem,h.seq,by rw [k.file];exact h.logf,fun m hm=>h.known m (by rw [← k.file];exact hm),by rw [k.moves];exact h.moves,h.snaps⟩
end
end
section
open Go.Proofs.YtecibefflhomdaaGreatDoor.Pure
structure rS (D D':ad):Prop where
 ok:D'.Ok
 file:∀ m,file D' m=file D m
 room:D'.room=D.room
 bad:D'.bad=0
 moves:D'.moves=[]
 used:D'.used=D.used
def OB (o:ji) (s:St) (Ls:ga):Prop:=s.mem.length<o.memory∧lA o Ls
section
variable {C:Prop} {P:St→ga→Prop} {s:St} {D D':ad} {r:GX} {E B N q0:Nat} {Ls:ga} {bs:List (List bO)} {o:ji} {ps:List (Bs×Bs)}
theorem Gl (ho:1≤o.tables) (hom:1≤o.memory) (hd:D.Ok) (h0:∀ m,file D m=none) (hb:D.bad=0) (hm:D.moves=[]) :
 ∃ x D',j9 o D=some (x,D')∧cS D D'∧((∃ e,x=.error e∧sF False D e)∨∃ s,x=.ok s∧Inv False (OB o) s D' ⟨[],[],false⟩ 0 0∧s.number≤1):=by
 obtain ⟨e,D1,w1,w2,w3⟩:=u4 hd (h0 aP)
 have hb1:D1.bad≤0:=by have:=w2.later.bad;omega
 have w3:e=(some aP,10):=by
  rcases w3 with w3|w3
  ·have:=w3.2;omega
  ·exact w3
 subst w3
 have hl:oV D=some (.ok oU,D1):=by unfold oV;rw [w1];rfl
 have hnow:D1.now=[]:=by
  have:=u1 w2.later.ok (ns:=[]) fun m hm=>by rw [w2.file,h0] at hm;exact absurd rfl hm
  exact List.eq_nil_of_length_eq_zero (by simpa using this)
 have hcl:jk oU D1=some (.ok oU,D1):=by unfold jk fu;rw [hnow,if_pos (by simp)];simp [kT,eW]
 have hlv0:qI oU.number [[],[],[],[]]:=⟨rfl,by simp,by simp [bN],fun i L _ hL=>by
  rcases i with _|_|_|_|i<;>simp at hL<;>subst hL<;>exact List.Pairwise.nil⟩
 have hused:D1.used=0:=by unfold ad.used;rw [hnow];rfl
 obtain ⟨x,D3,c1,c2,c3⟩:=nZ (C:=False) (s:=oU) (Ls:=[[],[],[],[]]) rfl hlv0 (by simp) (by show 0+1≤_;omega) (by show 0≤_;omega) w2.later.ok (by rw [w2.file,h0]) (by rw [w2.file,h0]) (.inl ⟨rfl,by rw [w2.file,h0]⟩) (by rw [w2.moves,hm];simp) (by rw [hused];omega)
 have hopen:j9 o D=dS (gG oU D1 true) fun s D=>mO o s D:=by
  unfold j9
  rw [hl]
  show dS (jk oU D1) _=_
  rw [hcl]
  show j6 o oU D1=_
  unfold j6
  rw [if_neg (by show ¬ 0<0;omega)]
 rw [hopen,c1]
 rcases c3 with ⟨rfl,c3,c4⟩|⟨e,rfl,c3,c4⟩
 ·have hfl:file D3 (bR 1)=some []:=by rw [c4,if_neg (eN _)];exact if_pos rfl
  have hrun:jo False { oU with number:=oU.number+1,log:=bR (oU.number+1) } D3 0 [[],[],[],[]] [] 0:=by
   refine ⟨⟨c2.ok,rfl,by rw [c4,if_pos rfl];rfl,by show 0+1≤_;omega,by simp [total,oU],by simp [cnt,total],⟨rfl,by simp,by simp [bN],hlv0.sep⟩,fun p hp=>by simp at hp,by simp,by unfold dx;simp,⟨1,Nat.le_refl _,rfl⟩,⟨[],hfl,ou⟩,by simp⟩,rfl,rfl,⟨[],hfl,by simp⟩,fun m hm=>?_,by omega,by show [].length≤4;simp⟩
   show m=aP∨m=bR 1∨_
   rw [c4] at hm
   by_cases h1:m=aP
   ·exact .inl h1
   rw [if_neg h1] at hm
   by_cases h2:m=bR (oU.number+1)
   ·exact .inr (.inl h2)
   rw [if_neg h2] at hm
   by_cases h3:m=oU.log
   ·exact absurd (if_pos h3) hm
   ·rw [if_neg h3,w2.file,h0] at hm;exact absurd rfl hm
  dsimp only [dS]
  obtain ⟨x,D4,s1,l3,s2⟩:=pG ho hrun (by simp [total]) (by omega) (by simp) (by show 0+1+3*0≤_;omega)
  have l:=(w2.later.trans c2).trans l3
  refine ⟨x,D4,s1,l,?_⟩
  rcases s2 with ⟨e,a1,a2,_⟩|⟨s',Ls',a1,a2,a3,a4,a5,a6,a7⟩
  ·exact .inl ⟨e,a1,a2.before (w2.later.trans c2)⟩
  ·have hm0:s'.mem=[]:=a4.mem
   have hs0:s'.snaps=[]:=a4.snaps
   have hlog:s'.log=bR 1:=a5.1
   have hfl4:file D4 (bR 1)=some []:=by
    have:=a5.2
    have this:file D4 (bR 1)=file D3 (bR 1):=this
    rw [this];exact hfl
   refine .inr ⟨s',a1,⟨⟨0,Ls',[],a2,by rw [hlog,hfl4];rfl,by simp,fun k=>?_,fun p hp=>(by rw [hs0] at hp;cases hp),by rw [hm0];simp;omega,a7⟩,List.Pairwise.nil,by rw [a4.snap];rfl,by rw [hs0];simp,fun n _=>?_,by rw [hs0];rfl,by rw [a4.seq];exact Nat.le_refl 0⟩,by have a6:s'.number≤0+1+3*0:=a6;omega⟩
   ·unfold gV
    rw [hm0,bC]
    show dP (fa (dx Ls') k aG)=none
    rw [a3 aG List.mem_cons_self k];rfl
   ·unfold IZ;rw [if_neg (by simp;omega)]
 ·exact ⟨_,_,rfl,w2.later.trans c2,.inl ⟨e,rfl,c3.before w2.later⟩⟩
end
end
end Go.Proofs.YtecibefflhomdaaGreatDoor
