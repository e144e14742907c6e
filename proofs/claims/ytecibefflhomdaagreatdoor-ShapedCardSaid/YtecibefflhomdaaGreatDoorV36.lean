/-
  Part 36: PLAIN closed and opened again; PLAIN the document's functions as they are written; THE ENGINE functions without a body.
-/
import Derived.Test.YtecibefflhomdaaGreatDoorV35
import Derived.Laws.Externs
set_option maxHeartbeats 8000000
set_option maxRecDepth 100000
set_option linter.all false
namespace Go.Proofs.YtecibefflhomdaaGreatDoor
open Go
section
open Go.Proofs.YtecibefflhomdaaGreatDoor.Pure
structure nk (D D':ae):Prop where
 ok:D'.Ok
 file:∀ m,file D' m=file D m
 room:D'.room=D.room
 bad:D'.bad=0
 moves:D'.moves=[]
 used:D'.used=D.used
def Cq (o:nH) (s:St) (Ls:fU):Prop:=s.mem.length<o.memory∧kz o Ls
theorem Cq.keep {o:nH}:∀ s' s Ls,Cq o s Ls→s'.levels=s.levels→s'.mem=s.mem→Cq o s' Ls:=fun s' s Ls h _ hm=>⟨by rw [hm];exact h.1,h.2⟩
structure Rest (C:Prop) (D:ae) (ps:List (Bs×Bs)) (E B N:Nat):Prop where
 rec_:∃ c Ls bs,RecM C D c Ls bs E∧(∀ k,iQ c Ls bs k=bE ps k)∧bs.length≤B∧c.number≤N∧c.seq+total bs≤E∧(∀ b,file D c.log=some b→b.length≤1073741824)
 srt:j4 ps
 small:D.moves.length+D.now.length≤4194304
section
variable {C:Prop} {P:St→fU→Prop} {s:St} {D D':ae} {r:mM} {E B N q0:Nat} {Ls:fU} {bs:List (List cG)} {o:nH} {ps:List (Bs×Bs)}
theorem EP (hd:D.Ok) {ns:List Bs} (h:∀ m,file D m≠none→m∈ns):D.now.length≤ns.length:=by
 rw [← mH]
 exact jC (ki hd) fun m hm=>h m (jQ.1 hm)
theorem Cr (h:Inv C P s D r E B) (k:nk D D') (hE:E≤1048576) (hB:B≤16777216):Rest C D' r.pairs E B s.number:=by
 obtain ⟨q0,Ls,bs,h1,h2,h3,h5,h6,h7⟩:=h.run
 have hR:RecM C D' { s with seq:=q0 } Ls bs E:=h1.core.files k.ok fun m _=>k.file m
 refine ⟨⟨_,Ls,bs,hR,fun x=>(h1.iQ x).trans (h5 x),h3,Nat.le_refl _,?_,fun b hb=>?_⟩,h.srt,?_⟩
 ·have:=h.seq;rw [h1.seq] at this;exact this
 ·have hb:file D' s.log=some b:=hb
  rw [k.file,h2] at hb
  obtain rfl:=Option.some.inj hb
  have a:=oB bs q0 h1.core.bsok h1.core.seq
  have b:=h1.core.cntE
  omega
 ·rw [k.moves]
  have:=EP k.ok (ns:=aU::s.log::bP Ls) fun m hm=>by
   rw [k.file] at hm
   rcases h1.known m hm with h|h|h
   ·rw [h];exact List.mem_cons_self
   ·rw [h];exact List.mem_cons_of_mem _ List.mem_cons_self
   ·exact List.mem_cons_of_mem _ (List.mem_cons_of_mem _ h)
  have h8:=h1.core.tS hE
  simp only [List.length_cons,bP,List.length_map,List.length_nil] at this ⊢
  omega
def Gy (C:Prop) (o:nH) (D:ae) (ps:List (Bs×Bs)) (E N:Nat) (x:Except cx St) (D':ae):Prop:=
 de D D'∧((∃ e,x=.error e∧um C D e∧∃ c' Ls' bs',RecM C D' c' Ls' bs' E∧c'.seq+total bs'≤E∧∀ k,iQ c' Ls' bs' k=bE ps k)∨∃ s,x=.ok s∧Inv C (Cq o) s D' ⟨ps,[],false⟩ E 0∧s.number≤N)
theorem Cs {q:Nat} {see:Bs→Option Bs} {x:Except cx St} (hom:1≤o.memory) (h:pd C o D q see N E x D') (hsee:∀ k,see k=bE ps k) (hps:j4 ps) (hq:q≤E):Gy C o D ps E N x D':=by
 obtain ⟨h1,h2⟩:=h
 refine ⟨h1,?_⟩
 rcases h2 with ⟨e,a,b,c',Ls',bs',c1,c2,c3⟩|⟨s',Ls',a1,a2,a3,a4,a5,a6,a7,a8,a9,a10⟩
 ·exact .inl ⟨e,a,b,c',Ls',bs',c1,by omega,fun k=>(c3 k).trans (hsee k)⟩
 ·refine .inr ⟨s',a1,⟨⟨q,Ls',[],a2,by rw [a9];rfl,by simp,fun k=>?_,fun p hp=>(by rw [a5] at hp;cases hp),by rw [a4];simp;omega,a10⟩,hps,by rw [a6];rfl,by rw [a5];simp,fun n _=>?_,by rw [a5];rfl,by omega⟩,a8⟩
  ·unfold gS
   rw [a4,bD]
   exact (a3 k).trans (hsee k)
  ·unfold il;rw [if_neg (by simp;omega)]
theorem open_inv (ho:1≤o.tables) (hom:1≤o.memory) (h:Rest C D ps E B N) (hE:E≤1048576) (hB:B≤16777216) (hN:N+4*E+1≤4611686018427387904) :
 ∃ x D',nI o D=some (x,D')∧Gy C o D ps E (N+4*E+1) x D':=by
 obtain ⟨c,Ls,bs,h1,h2,h3,h4,h5,h6⟩:=h.rec_
 obtain ⟨x,D',k1,k2⟩:=K1 ho h1 h6 hE (by omega) h.small (by omega)
 refine ⟨x,D',k1,Cs hom ⟨k2.1,?_⟩ h2 h.srt h5⟩
 rcases k2.2 with k|⟨s',Ls',a1,a2,a3,a4,a5,a6,a7,a8,a9⟩
 ·exact .inl k
 ·exact .inr ⟨s',Ls',a1,a2,a3,a4,a5,a6,a7,by omega,a9⟩
theorem H8 (ho:1≤o.tables) (hom:1≤o.memory) (hd:D.Ok) (h0:∀ m,file D m=none) (hb:D.bad=0) (hm:D.moves=[]) :
 ∃ x D',nI o D=some (x,D')∧de D D'∧((∃ e,x=.error e∧um False D e)∨∃ s,x=.ok s∧Inv False (Cq o) s D' ⟨[],[],false⟩ 0 0∧s.number≤1):=by
 obtain ⟨e,D1,w1,w2,w3⟩:=wy hd (h0 aU)
 have hb1:D1.bad≤0:=by have:=w2.later.bad;omega
 have w3:e=(some aU,10):=by
  rcases w3 with w3|w3
  ·have:=w3.2;omega
  ·exact w3
 subst w3
 have hl:tg D=some (.ok pC,D1):=by unfold tg;rw [w1];rfl
 have hnow:D1.now=[]:=by
  have:=EP w2.later.ok (ns:=[]) fun m hm=>by rw [w2.file,h0] at hm;exact absurd rfl hm
  exact List.eq_nil_of_length_eq_zero (by simpa using this)
 have hcl:lp pC D1=some (.ok pC,D1):=by unfold lp gh;rw [hnow,if_pos (by simp)];simp [ln,eZ]
 have hlv0:q7 pC.number [[],[],[],[]]:=⟨rfl,by simp,by simp [bP],fun i L _ hL=>by
  rcases i with _|_|_|_|i<;>simp at hL<;>subst hL<;>exact List.Pairwise.nil⟩
 have hused:D1.used=0:=by unfold ae.used;rw [hnow];rfl
 obtain ⟨x,D3,c1,c2,c3⟩:=oC (C:=False) (s:=pC) (Ls:=[[],[],[],[]]) rfl hlv0 (by simp) (by show 0+1≤_;omega) (by show 0≤_;omega) w2.later.ok (by rw [w2.file,h0]) (by rw [w2.file,h0]) (.inl ⟨rfl,by rw [w2.file,h0]⟩) (by rw [w2.moves,hm];simp) (by rw [hused];omega)
 have hopen:nI o D=ei (gP pC D1 true) fun s D=>nc o s D:=by
  unfold nI
  rw [hl]
  show ei (lp pC D1) _=_
  rw [hcl]
  show lX o pC D1=_
  unfold lX
  rw [if_neg (by show ¬ 0<0;omega)]
 rw [hopen,c1]
 rcases c3 with ⟨rfl,c3,c4⟩|⟨e,rfl,c3,c4⟩
 ·have hfl:file D3 (cj 1)=some []:=by rw [c4,if_neg (eO _)];exact if_pos rfl
  have hrun:je False { pC with number:=pC.number+1,log:=cj (pC.number+1) } D3 0 [[],[],[],[]] [] 0:=by
   refine ⟨⟨c2.ok,rfl,by rw [c4,if_pos rfl];rfl,by show 0+1≤_;omega,by simp [total,pC],by simp [cnt,total],⟨rfl,by simp,by simp [bP],hlv0.sep⟩,fun p hp=>by simp at hp,by simp,by unfold dt;simp,⟨1,Nat.le_refl _,rfl⟩,⟨[],hfl,oT⟩,by simp⟩,rfl,rfl,⟨[],hfl,by simp⟩,fun m hm=>?_,by omega,by show [].length≤4;simp⟩
   show m=aU∨m=cj 1∨_
   rw [c4] at hm
   by_cases h1:m=aU
   ·exact .inl h1
   rw [if_neg h1] at hm
   by_cases h2:m=cj (pC.number+1)
   ·exact .inr (.inl h2)
   rw [if_neg h2] at hm
   by_cases h3:m=pC.log
   ·exact absurd (if_pos h3) hm
   ·rw [if_neg h3,w2.file,h0] at hm;exact absurd rfl hm
  dsimp only [ei]
  obtain ⟨x,D4,s1,l3,s2⟩:=qd ho hrun (by simp [total]) (by omega) (by simp) (by show 0+1+3*0≤_;omega)
  have l:=(w2.later.trans c2).trans l3
  refine ⟨x,D4,s1,l,?_⟩
  rcases s2 with ⟨e,a1,a2,_⟩|⟨s',Ls',a1,a2,a3,a4,a5,a6,a7⟩
  ·exact .inl ⟨e,a1,a2.before (w2.later.trans c2)⟩
  ·have hm0:s'.mem=[]:=a4.mem
   have hs0:s'.snaps=[]:=a4.snaps
   have hlog:s'.log=cj 1:=a5.1
   have hfl4:file D4 (cj 1)=some []:=by
    have:=a5.2
    have this:file D4 (cj 1)=file D3 (cj 1):=this
    rw [this];exact hfl
   refine .inr ⟨s',a1,⟨⟨0,Ls',[],a2,by rw [hlog,hfl4];rfl,by simp,fun k=>?_,fun p hp=>(by rw [hs0] at hp;cases hp),by rw [hm0];simp;omega,a7⟩,List.Pairwise.nil,by rw [a4.snap];rfl,by rw [hs0];simp,fun n _=>?_,by rw [hs0];rfl,by rw [a4.seq];exact Nat.le_refl 0⟩,by have a6:s'.number≤0+1+3*0:=a6;omega⟩
   ·unfold gS
    rw [hm0,bD]
    show eg (fH (dt Ls') k aE)=none
    rw [a3 aE List.mem_cons_self k];rfl
   ·unfold il;rw [if_neg (by simp;omega)]
 ·exact ⟨_,_,rfl,w2.later.trans c2,.inl ⟨e,rfl,c3.before w2.later⟩⟩
structure Calm (D:ae):Prop where
 bad:D.bad=0
 room:D.room=1099511627776
theorem Calm.later (h:Calm D) (k:de D D'):Calm D':=⟨by have:=k.bad;have:=k.ok.bad0;have:=h.bad;omega,by rw [k.room];exact h.room⟩
theorem Calm.copy (h:Calm D) (k:nk D D'):Calm D':=⟨k.bad,by rw [k.room];exact h.room⟩
theorem Calm.yO (h:Calm D) {e:cx} (k:um False D e):False:=by
 rcases k with (k|⟨k,_⟩)|⟨_,k⟩
 ·have:=k.2;have:=h.bad;omega
 ·exact k
 ·have:=h.room;omega
theorem Calm.Gz (h:Calm D) {e:cx} (k:qZ False D e):False:=h.yO (.inl k)
theorem H9 {l:List cG} {sync:Bool} (ho:1≤o.tables) (hom:1≤o.memory) (h:Inv C (Cq o) s D r E B) (hl:Ma l) (hE:E+l.length≤1048576) (hB:B<16777216) (hn:s.number+4*(E+l.length)+1≤4611686018427387904) :
 ∃ x D',oo o s D l sync=some (x,D')∧de D D' ∧
  ((∃ e,x=.error e∧um C D e∧∃ c' Ls' bs',RecM C D' c' Ls' bs' (E+l.length)∧c'.seq+total bs'≤E+l.length∧((∀ k,iQ c' Ls' bs' k=bE r.pairs k)∨∀ k,iQ c' Ls' bs' k=bE (DL r.pairs l) k)) ∨
   ∃ s',x=.ok s'∧Inv C (Cq o) s' D' { r with pairs:=DL r.pairs l } (E+l.length) (B+1)∧s'.number≤s.number+(4*(E+l.length)+1)):=by
 have hsq:=h.seq
 obtain ⟨q0,Ls,bs,h1,h2,h3,h5,h6,h7⟩:=h.run
 have hw:∀ q0 Ls bs,je C s D q0 Ls bs E→file D s.log=some (bJ q0 bs)→bs.length≤B→(∀ k,gS s Ls aE k=bE r.pairs k)→Cq o s Ls →
  ∃ x D',oo o s D l sync=some (x,D')∧uo C s D Ls (fun k=>bE r.pairs k) (s.seq+l.length) (fun k=>bE (DL r.pairs l) k) (4*(E+l.length)+1) (E+l.length) (bs.length+1) (fun s' Ls'=>s'.mem.length<o.memory∧((Ls'=Ls)∨kz o Ls')) x D':=fun q0 Ls bs a1 a2 a3 a4 a5=>
  H6 ho hom a1 a2 hl hE (by omega) (by omega) hn a5.1 a4 fun m hm=>by
   obtain ⟨p,hp,rfl⟩:=List.mem_map.1 hm
   obtain ⟨ps,b1,b2,b3⟩:=h.at (di h.keys hp)
   exact b3
 obtain ⟨x,D',k1,k2⟩:=hw q0 Ls bs h1 h2 h3 h5 h7
 refine ⟨x,D',k1,k2.1,?_⟩
 rcases k2.2 with ⟨e,rfl,b,c',Ls',bs',c1,c2⟩|⟨s',_,_,_,rfl,_⟩
 ·refine .inl ⟨e,rfl,b,c',Ls',bs',c1,?_,?_⟩
  ·rcases c2 with c2|c2
   ·have:=c2.1;omega
   ·have:=c2.1;omega
  ·rcases c2 with c2|c2
   ·exact .inl c2.2
   ·exact .inr c2.2
 ·refine .inr ⟨s',rfl,?_⟩
  obtain ⟨_,k3⟩:=k2
  rcases k3 with ⟨e,k,_⟩|⟨s2,q2,Ls',bs',k,a1,a2,a3,a4,a5,a6,a7,a8,a9,a10⟩
  ·cases k
  ·cases k
   refine ⟨⟨⟨q2,Ls',bs',a1,a2,by omega,a7,fun p hp=>?_,a10.1,?_⟩,FZ l h.srt,by rw [a5];exact h.snap,by rw [a4];exact h.keys,fun n hn=>h.dead n (by rw [← a4];exact hn),by rw [a4];exact h.live,by omega⟩,a6⟩
   ·rw [a4] at hp
    obtain ⟨b1,ps',b2,b3,b4⟩:=h6 p hp
    refine ⟨by omega,ps',b2,b3,fun k=>?_⟩
    rw [a8 p.2 (List.mem_map.2 ⟨p,hp,rfl⟩) k];exact b4 k
   ·rcases a10.2 with rfl|h
    ·exact h7.2
    ·exact h
theorem Ct (ho:1≤o.tables) (ho2:2≤o.tables) (hom:1≤o.memory) (h:Inv C (Cq o) s D r E B) (hE:E≤1048576) (hB:B≤16777216) (hn:s.number+5*E+1≤4611686018427387904) :
 ∃ x D',lj o s D=some (x,D')∧de D D' ∧
  ((∃ e,x=.error e∧um C D e∧∃ c' Ls' bs',RecM C D' c' Ls' bs' E∧c'.seq+total bs'≤E∧∀ k,iQ c' Ls' bs' k=bE r.pairs k) ∨
   ∃ s',x=.ok s'∧Inv C (fun s' Ls'=>Cq o s' Ls'∧s'.mem=[]∧pe (aN s) Ls') s' D' r E B∧s'.number≤s.number+(5*E+1)):=by
 have hsq:=h.seq
 obtain ⟨q0,Ls,bs,h1,h2,h3,h5,h6,h7⟩:=h.run
 obtain ⟨x,D',k1,k2⟩:=Cn ho h1 h2 hE (by omega) hn
 refine ⟨x,D',k1,k2.1,?_⟩
 rcases k2.2 with ⟨e,rfl,b,c',Ls',bs',c1,c2⟩|⟨s',q2,Ls',bs',rfl,a1,a2,a3,a4,a5,a6,a7,a8,a9,a10,a11⟩
 ·refine .inl ⟨e,rfl,b,c',Ls',bs',c1,?_,fun k=>?_⟩
  ·rcases c2 with c2|c2
   ·have:=c2.1;omega
   ·have:=c2.1;omega
  ·rcases c2 with c2|c2
   ·rw [c2.2 k];exact h5 k
   ·rw [c2.2 k];exact h5 k
 ·refine .inr ⟨s',rfl,⟨⟨q2,Ls',bs',a1,a2,by omega,fun k=>(a7 k).trans (h5 k),fun p hp=>?_,⟨by rw [a10];simp;omega,?_⟩,a10,a11⟩,h.srt,by rw [a5];exact h.snap,by rw [a4];exact h.keys,fun n hn=>h.dead n (by rw [← a4];exact hn),by rw [a4];exact h.live,by omega⟩,a6⟩
  ·rw [a4] at hp
   obtain ⟨b1,ps',b2,b3,b4⟩:=h6 p hp
   refine ⟨by omega,ps',b2,b3,fun k=>?_⟩
   rw [a8 p.2 (List.mem_map.2 ⟨p,hp,rfl⟩) k];exact b4 k
  ·obtain ⟨R,ls,_,rfl,_⟩:=a11
   exact ⟨by simp;omega,by simp,by simp⟩
theorem Inv.QS {Q:St→fU→Prop} (h:Inv C P s D r E B) (hp:∀ Ls,P s Ls→Q s Ls):Inv C Q s D r E B:=by
 obtain ⟨q0,Ls,bs,h1,h2,h3,h5,h6,h7⟩:=h.run
 exact ⟨⟨q0,Ls,bs,h1,h2,h3,h5,h6,hp Ls h7⟩,h.srt,h.snap,h.keys,h.dead,h.live,h.seq⟩
theorem Inv.more {E' B':Nat} (h:Inv C P s D r E B) (hE:E≤E') (hB:B≤B'):Inv C P s D r E' B':=by
 obtain ⟨q0,Ls,bs,h1,h2,h3,h5,h6,h7⟩:=h.run
 exact ⟨⟨q0,Ls,bs,h1.more hE,h2,Nat.le_trans h3 hB,h5,h6,h7⟩,h.srt,h.snap,h.keys,h.dead,h.live,Nat.le_trans h.seq hE⟩
theorem Ia (h:Inv C P s D r E B):de D (gz D s.log)∧Inv C P s (gz D s.log) r E B∧(bx D s.log=none∨∃ e,bx D s.log=some e∧qX D e):=by
 obtain ⟨q0,Ls,bs,h1,h2,h3⟩:=h.run
 obtain ⟨y1,y2,y3,y4⟩:=qY h1.core.ok s.log
 refine ⟨y3,⟨⟨q0,Ls,bs,⟨h1.core.files y3.ok fun m _=>y1 m,h1.mem,h1.seq,by rw [y1];exact h1.logf,fun m hm=>h1.known m (by rw [← y1];exact hm),by rw [y4];exact h1.moves,h1.snaps⟩,by rw [y1];exact h2,h3⟩,h.srt,h.snap,h.keys,h.dead,h.live,h.seq⟩,fe h2⟩
end
end
section
open Go.Proofs.YtecibefflhomdaaGreatDoor.Pure
def ju (k v:Bs):Bool→List (Bs×Bs)→List (Bs×Bs)
 | put,[]=>if put=true then [] else [(k,v)]
 | put,p::r=>(if put=false∧aR p.1 k=false then [(k,v)] else [])++(if p.1=k then [] else [p])++ju k v (put||!aR p.1 k) r
theorem rk {k v:Bs}:∀ {l:List (Bs×Bs)},j4 l→ju k v true l=(l.filter fun p=>aR p.1 k)++l.filter fun p=>aR k p.1
 | [],_=>rfl
 | p::r,h=>by
  have ih:=rk (k:=k) (v:=v) (List.pairwise_cons.1 h).2
  unfold ju
  rw [if_neg (by simp),List.nil_append,Bool.true_or,ih]
  rcases ew p.1 k with h1|h1|h1
  ·rw [if_neg (fun e=>by rw [e,aP] at h1;cases h1),List.filter_cons,if_pos h1,List.filter_cons,if_neg (by rw [cC h1];simp)];rfl
  ·rw [if_pos h1,List.filter_cons,if_neg (by rw [h1,aP];simp),List.filter_cons,if_neg (by rw [h1,aP];simp)];rfl
  ·have h2:r.filter (fun p=>aR p.1 k)=[]:=List.filter_eq_nil_iff.2 fun x hx=>by
    have:=(List.pairwise_cons.1 h).1 x hx
    rw [cC (dL h1 this)];simp
   rw [if_neg (fun e=>by rw [e,aP] at h1;cases h1),List.filter_cons,if_neg (by rw [cC h1];simp),List.filter_cons,if_pos h1,h2];rfl
theorem Cu {k v:Bs}:∀ {l:List (Bs×Bs)},j4 l→ju k v false l=(l.filter fun p=>aR p.1 k)++[(k,v)]++l.filter fun p=>aR k p.1
 | [],_=>rfl
 | p::r,h=>by
  have hr:=(List.pairwise_cons.1 h).2
  unfold ju
  rcases ew p.1 k with h1|h1|h1
  ·have ih:=Cu (k:=k) (v:=v) hr
   rw [if_neg (by rw [h1];simp),if_neg (fun e=>by rw [e,aP] at h1;cases h1),h1]
   rw [List.filter_cons,if_pos h1,List.filter_cons,if_neg (by rw [cC h1];simp)]
   show []++[p]++ju k v false r=_
   rw [ih];simp
  ·have h2:r.filter (fun p=>aR p.1 k)=[]:=List.filter_eq_nil_iff.2 fun x hx=>by
    have:=(List.pairwise_cons.1 h).1 x hx
    rw [← h1,cC this];simp
   have h3:aR p.1 k=false:=by rw [h1,aP]
   rw [if_pos ⟨rfl,h3⟩,if_pos h1,h3]
   show [(k,v)]++[]++ju k v true r=_
   rw [rk hr,h2,List.filter_cons,if_neg (by rw [h3];simp),List.filter_cons,if_neg (by rw [h1,aP];simp),h2];simp
  ·have h2:r.filter (fun p=>aR p.1 k)=[]:=List.filter_eq_nil_iff.2 fun x hx=>by
    have:=(List.pairwise_cons.1 h).1 x hx
    rw [cC (dL h1 this)];simp
   have h3:aR p.1 k=false:=cC h1
   rw [if_pos ⟨rfl,h3⟩,if_neg (fun e=>by rw [e,aP] at h1;cases h1),h3]
   show [(k,v)]++[p]++ju k v true r=_
   rw [rk hr,h2,List.filter_cons,if_neg (by rw [h3];simp),List.filter_cons,if_pos h1,h2];simp
theorem zD {l:List (Bs×Bs)} (h:j4 l) (k v:Bs) (del:Bool):ju k v del l=tM l k v del:=by
 unfold tM
 cases del with
 | true=>rw [rk h];simp
 | false=>rw [Cu h];simp
theorem wD (k v:Bs):∀ (l:List (Bs×Bs)) (put:Bool),(ju k v put l).length≤l.length+(if put=true then 0 else 1)
 | [],put=>by unfold ju;cases put<;>simp
 | p::r,put=>by
  have ih:=wD k v r (put||!aR p.1 k)
  have h2:(if p.1=k then [] else [p]).length≤1:=by split<;>simp
  unfold ju
  simp only [List.length_append,List.length_cons]
  cases put with
  | true=>simp only [Bool.true_or,if_true] at ih;simp;omega
  | false=>
   cases hb:aR p.1 k with
   | true=>rw [hb] at ih;simp at ih;simp;omega
   | false=>rw [hb] at ih;simp at ih;simp;omega
def K4 (l:List (Bs×Bs)) (b:List cG):List (Bs×Bs):=b.foldl (fun l c=>ju c.key c.val c.del l) l
theorem ER:∀ (b:List cG) {l:List (Bs×Bs)},j4 l→K4 l b=DL l b
 | [],_,_=>rfl
 | c::b,l,h=>by
  unfold K4 DL
  rw [List.foldl_cons,List.foldl_cons,zD h]
  exact ER b (A8 h c.key c.val c.del)
theorem GA:∀ (b:List cG) (l:List (Bs×Bs)),(K4 l b).length≤l.length+b.length
 | [],l=>Nat.le_refl _
 | c::b,l=>by
  have h1:=GA b (ju c.key c.val c.del l)
  have h2:=wD c.key c.val l c.del
  have:(if c.del=true then 0 else 1)≤1:=by split<;>omega
  unfold K4 at h1 ⊢
  rw [List.foldl_cons]
  simp only [List.length_cons];omega
def Ai (lo hi:Bs) (limit:Int) (out:List (Bs×Bs)) (p:Bs×Bs):List (Bs×Bs):=if jh lo p.1=true∧jf hi p.1=true∧(limit≤0∨(out.length:Int)<limit) then out++[p] else out
theorem Cv (lo hi:Bs) (limit:Int):∀ (r:List (Bs×Bs)) (p:List (Bs×Bs)),r.foldl (Ai lo hi limit) (bB p lo hi limit)=bB (p++r) lo hi limit
 | [],p=>by simp
 | x::r,p=>by
  rw [List.foldl_cons]
  have:Ai lo hi limit (bB p lo hi limit) x=bB (p++[x]) lo hi limit:=by
   unfold Ai bB rU
   rw [List.filter_append,List.filter_cons,List.filter_nil]
   generalize p.filter (fun p=>jh lo p.1&&jf hi p.1)=q
   by_cases h1:jh lo x.1=true∧jf hi x.1=true
   ·rw [if_pos (c:=(jh lo x.1&&jf hi x.1)=true) (by simp [h1.1,h1.2])]
    by_cases hl:0<limit
    ·rw [if_pos hl,if_pos hl]
     by_cases h2:((q.take limit.toNat).length:Int)<limit
     ·rw [if_pos ⟨h1.1,h1.2,.inr h2⟩]
      have h3:q.length<limit.toNat:=by rw [List.length_take] at h2;omega
      rw [List.take_of_length_le (by omega),List.take_of_length_le (by simp;omega)]
     ·rw [if_neg (by rintro ⟨_,_,h|h⟩<;>omega)]
      have h3:limit.toNat≤q.length:=by rw [List.length_take] at h2;omega
      rw [List.take_append_of_le_length h3]
    ·rw [if_neg hl,if_neg hl,if_pos ⟨h1.1,h1.2,.inl (by omega)⟩]
   ·rw [if_neg (fun h=>h1 ⟨h.1,h.2.1⟩),if_neg (c:=(jh lo x.1&&jf hi x.1)=true) (fun h=>h1 (by simpa using h)),List.append_nil]
  rw [this,Cv lo hi limit r (p++[x]),List.append_assoc];rfl
theorem MY (lo hi:Bs) (limit:Int) (l:List (Bs×Bs)):l.foldl (Ai lo hi limit) []=bB l lo hi limit:=by
 have h:=Cv lo hi limit l []
 have h0:bB [] lo hi limit=[]:=by unfold bB rU;split<;>simp
 rw [h0] at h;simpa using h
def sD:List cG→Nat
 | []=>0
 | c::r=>if c.key.length=0∨8<c.key.length then 3 else if c.del=false∧16<c.val.length then 4 else sD r
def lx (l:List cG):Nat:=if 8<l.length then 2 else sD l
theorem O2 {l:List cG} (h:lx l=0):Ma l:=by
 unfold lx at h
 by_cases h8:8<l.length
 ·rw [if_pos h8] at h;omega
 ·rw [if_neg h8] at h
  have key:∀ l:List cG,sD l=0→∀ c∈l,(c.key.length≤8∧c.key≠[])∧(c.del=false→c.val.length≤16):=by
   intro l
   induction l with
   | nil=>intro _ c hc;cases hc
   | cons x r ih=>
    intro hh c hc
    unfold sD at hh
    split at hh
    ·omega
    ·rename_i h1
     split at hh
     ·omega
     ·rename_i h2
      rcases List.mem_cons.1 hc with rfl|hc
      ·refine ⟨⟨by omega,fun e=>h1 (.inl (by rw [e];rfl))⟩,fun hd=>?_⟩
       cases Nat.lt_or_ge 16 c.val.length with
       | inl h=>exact absurd ⟨hd,h⟩ h2
       | inr h=>exact h
      ·exact ih hh c hc
  exact ⟨by omega,fun c hc=>(key l h c hc).1,fun c hc=>(key l h c hc).2⟩
end
section
open Go Go.Extern
section
variable {ops:Array Oper} {Q:Exit→Act→World→Prop} {n:Nat} {ds:Md} {e:Env} {w w':World} {rest:List Oper}
variable {op:Op} {ty:TypeId} {pos:String} {af:Array Edge} {d:Nat} {v u:Value} {W0:World} {l l' r r':List ax}
attribute [local semireducible] WL WC WQ
def Ext (f:FuncId) (g:Array Value→Sem Value):Prop:=∀ (args:Array Value) (w:World),(callFunc f args).run Tryz.prog w=((g args).run Tryz.prog w).andThen fun v w'=>.ok (.value v) w'
theorem gn {f:FuncId} {g:Array Value→Sem Value} {xs:Array Operand} {at_:Array TypeId} {vs:List Value} {y:Value} (hf:Ext f g) (hxs:tW e xs.toList=some vs) (hr:(g vs.toArray).run Tryz.prog w=.ok y w') (hd:Nat.blt d n=true)
 (k:WL ops Q n ds rest ((d,y)::e) w'):WL ops Q n ds (⟨some d,.call { callee:=.value (.func f),args:=xs,argTypes:=at_ },ty,pos,af,none⟩::rest) e w:=
 bX (fun a ha=>by
  have e1:xs.map a.eval=vs.toArray:=by rw [← ha.tW hxs];cases xs;simp
  simp [execOp,resolve,Act.eval,Deferred.ofValue,invoke,e1,hf vs.toArray w,hr]) hd k
theorem fK {x:Operand} {xs:Array Operand} {at_:Array TypeId} {vs:List Value} {T f:Nat} {name:String} {v' y:Value} {g:Array Value→Sem Value} (hx:ev e x=some (.iface T v)) (hm:∀ w,(Go.method (Tryz.prog.types.size+Made.depth) T v name).run Tryz.prog w=.ok (f,v') w)
 (hf:Ext f g) (hxs:tW e xs.toList=some vs) (hr:(g (v'::vs).toArray).run Tryz.prog w=.ok y w') (hd:Nat.blt d n=true) (k:WL ops Q n ds rest ((d,y)::e) w') :
 WL ops Q n ds (⟨some d,.call { callee:=.invoke x name,args:=xs,argTypes:=at_ },ty,pos,af,none⟩::rest) e w:=
 bX (fun a ha=>by
  have e1:xs.map a.eval=vs.toArray:=by rw [← ha.tW hxs];cases xs;simp
  have e2:(#[Value.iface T v]++vs.toArray).extract 1 (#[Value.iface T v]++vs.toArray).size=vs.toArray:=by apply Array.ext';simp
  have e3:(#[Value.iface T v]++vs.toArray)[0]?=some (.iface T v):=by simp
  have e4:(#[v']++vs.toArray:Array Value)=(v'::vs).toArray:=by apply Array.ext';simp
  simp only [execOp,resolve,ha.ev hx,e1,Sem.run_bind,Sem.run_pure,Result.andThen_ok,invoke,e2,e3,callMethod,run_program,hm,e4,hf (v'::vs).toArray w,hr]) hd k
theorem pH {x:Operand} {xt t:TypeId} {ok:Bool} {y:Value} (hx:ev e x=some v) (hr:(Instr.typeAssert v xt t ok).run Tryz.prog w=.ok y w) (hd:Nat.blt d n=true)
 (k:WL ops Q n ds rest ((d,y)::e) w):WL ops Q n ds (⟨some d,.typeAssert x xt t ok,ty,pos,af,none⟩::rest) e w:=
 bX (fun a ha=>by simp [execOp,ha.ev hx,hr]) hd k
end
theorem K5:Ext 102 (fun args=>ReflectliteValue.unpack (args.getD 0 (.tuple #[]))):=@run_callFunc_extern Tryz.prog 102 _ _ Tryz.func102 (by kernel_rfl) (by kernel_rfl) (by kernel_rfl) (by kernel_rfl)
theorem O3:Ext 103 (ReflectliteValue.methodAny (ReflectliteValue.valueError "reflectlite.Value.Type" 0) (fun t _ _ _=>ReflectliteType.toType t)):=@run_callFunc_extern Tryz.prog 103 _ _ Tryz.func103 (by kernel_rfl) (by kernel_rfl) (by kernel_rfl) (by kernel_rfl)
theorem O4:Ext 104 (ReflectliteValue.method (ReflectliteValue.valueError "reflectlite.Value.IsNil" 0) ReflectliteValue.isNil):=@run_callFunc_extern Tryz.prog 104 _ _ Tryz.func104 (by kernel_rfl) (by kernel_rfl) (by kernel_rfl) (by kernel_rfl)
theorem K6:Ext 162 ReflectliteType.typeOf:=@run_callFunc_extern Tryz.prog 162 _ _ Tryz.func162 (by kernel_rfl) (by kernel_rfl) (by kernel_rfl) (by kernel_rfl)
theorem P8:Ext 181 (ReflectliteValue.method (ReflectliteValue.valueError "reflectlite.Value.Elem" 0) ReflectliteValue.elem):=@run_callFunc_extern Tryz.prog 181 _ _ Tryz.func181 (by kernel_rfl) (by kernel_rfl) (by kernel_rfl) (by kernel_rfl)
theorem P9:Ext 182 ReflectliteValue.set:=@run_callFunc_extern Tryz.prog 182 _ _ Tryz.func182 (by kernel_rfl) (by kernel_rfl) (by kernel_rfl) (by kernel_rfl)
theorem Ib:Ext 271 (ReflectliteType.abiMethod fun t=>do pure (.int .u8 (← Rtype.kind t))):=@run_callFunc_extern Tryz.prog 271 _ _ Tryz.func271 (by kernel_rfl) (by kernel_rfl) (by kernel_rfl) (by kernel_rfl)
theorem O5:Ext 285 (ReflectliteType.method ReflectliteType.elem):=@run_callFunc_extern Tryz.prog 285 _ _ Tryz.func285 (by kernel_rfl) (by kernel_rfl) (by kernel_rfl) (by kernel_rfl)
theorem O6:Ext 286 (ReflectliteType.relation "Implements" ReflectliteType.implements_):=@run_callFunc_extern Tryz.prog 286 _ _ Tryz.func286 (by kernel_rfl) (by kernel_rfl) (by kernel_rfl) (by kernel_rfl)
theorem MZ:Ext 283 (ReflectliteType.relation "AssignableTo" ReflectliteType.assignableTo):=@run_callFunc_extern Tryz.prog 283 _ _ Tryz.func283 (by kernel_rfl) (by kernel_rfl) (by kernel_rfl) (by kernel_rfl)
abbrev Aj (t:Nat):Value:=.iface 297 (.agg #[.pointer (some ⟨4,t,none⟩)])
abbrev rv (t b fl:Nat):Value:=.agg #[.pointer (some ⟨4,t,none⟩),.pointer (some ⟨b,0,none⟩),.int .u64 (fl:Int)]
theorem ES (v:Value) (w:World):(ReflectliteType.typeOf #[.iface 44 v]).run Tryz.prog w=.ok (Aj 44) w:=by kernel_rfl
theorem GB (v:Value) (w:World):(ReflectliteType.typeOf #[.iface 249 v]).run Tryz.prog w=.ok (Aj 249) w:=by kernel_rfl
theorem pf (h:Value) (w:World):(Go.method (Tryz.prog.types.size+Made.depth) 297 (.agg #[h]) "Kind").run Tryz.prog w=.ok (271,h) w:=by kernel_rfl
theorem Ak (h:Value) (w:World):(Go.method (Tryz.prog.types.size+Made.depth) 297 (.agg #[h]) "Elem").run Tryz.prog w=.ok (285,.agg #[h]) w:=by kernel_rfl
theorem Al (h:Value) (w:World):(Go.method (Tryz.prog.types.size+Made.depth) 297 (.agg #[h]) "Implements").run Tryz.prog w=.ok (286,.agg #[h]) w:=by kernel_rfl
theorem uq (h:Value) (w:World):(Go.method (Tryz.prog.types.size+Made.depth) 297 (.agg #[h]) "AssignableTo").run Tryz.prog w=.ok (283,.agg #[h]) w:=by kernel_rfl
theorem M0 (h:Value) (w:World):(Go.method (Tryz.prog.types.size+Made.depth) 297 (.agg #[h]) "Comparable").run Tryz.prog w=.ok (284,.agg #[h]) w:=by kernel_rfl
theorem O7 (t:Addr) (w:World):(ReflectliteValue.unpack (.iface 136 (.pointer (some t)))).run Tryz.prog w=.ok (rv 136 w.heap.size 150) { w with heap:=w.heap.push (.cells #[.pointer (some t)] 136) }:=by kernel_rfl
theorem K7 (t:Addr) (w:World):(ReflectliteValue.unpack (.iface 283 (.pointer (some t)))).run Tryz.prog w=.ok (rv 283 w.heap.size 150) { w with heap:=w.heap.push (.cells #[.pointer (some t)] 283) }:=by kernel_rfl
theorem Qa (k:Int) (w:World):(ReflectliteValue.unpack (.iface 44 (.int .i64 k))).run Tryz.prog w=.ok (rv 44 w.heap.size 130) { w with heap:=w.heap.push (.cells #[.int .i64 k] 44) }:=by kernel_rfl
theorem O8 (t:Addr) (w:World):(ReflectliteValue.unpack (.iface 249 (.pointer (some t)))).run Tryz.prog w=.ok (rv 249 w.heap.size 150) { w with heap:=w.heap.push (.cells #[.pointer (some t)] 249) }:=by kernel_rfl
theorem Qb (b:Nat) (w:World):(ReflectliteValue.methodAny (ReflectliteValue.valueError "reflectlite.Value.Type" 0) (fun t _ _ _=>ReflectliteType.toType t) #[rv 136 b 150]).run Tryz.prog w=.ok (Aj 136) w:=by kernel_rfl
theorem NO (b:Nat) (w:World):(ReflectliteValue.methodAny (ReflectliteValue.valueError "reflectlite.Value.Type" 0) (fun t _ _ _=>ReflectliteType.toType t) #[rv 283 b 150]).run Tryz.prog w=.ok (Aj 283) w:=by kernel_rfl
theorem Qc (w:World):((ReflectliteType.abiMethod fun t=>(fun a:Nat=>Value.int IntKind.u8 (a:Int)) <$> Rtype.kind t) #[.pointer (some ⟨4,136,none⟩)]).run Tryz.prog w=.ok (.int .u8 22) w:=by kernel_rfl
theorem NP (w:World):((ReflectliteType.abiMethod fun t=>(fun a:Nat=>Value.int IntKind.u8 (a:Int)) <$> Rtype.kind t) #[.pointer (some ⟨4,283,none⟩)]).run Tryz.prog w=.ok (.int .u8 22) w:=by kernel_rfl
theorem QT (w:World):((ReflectliteType.abiMethod fun t=>(fun a:Nat=>Value.int IntKind.u8 (a:Int)) <$> Rtype.kind t) #[.pointer (some ⟨4,44,none⟩)]).run Tryz.prog w=.ok (.int .u8 2) w:=by kernel_rfl
theorem NQ (w:World):((ReflectliteType.abiMethod fun t=>(fun a:Nat=>Value.int IntKind.u8 (a:Int)) <$> Rtype.kind t) #[.pointer (some ⟨4,249,none⟩)]).run Tryz.prog w=.ok (.int .u8 22) w:=by kernel_rfl
theorem Qd (w:World):(ReflectliteType.method ReflectliteType.elem #[.agg #[.pointer (some ⟨4,136,none⟩)]]).run Tryz.prog w=.ok (Aj 44) w:=by kernel_rfl
theorem NR (w:World):(ReflectliteType.method ReflectliteType.elem #[.agg #[.pointer (some ⟨4,283,none⟩)]]).run Tryz.prog w=.ok (Aj 249) w:=by kernel_rfl
theorem QU (w:World):(ReflectliteType.relation "Implements" ReflectliteType.implements_ #[.agg #[.pointer (some ⟨4,44,none⟩)],Aj 41]).run Tryz.prog w=.ok (.bool true) w:=by kernel_rfl
theorem NS (w:World):(ReflectliteType.relation "Implements" ReflectliteType.implements_ #[.agg #[.pointer (some ⟨4,249,none⟩)],Aj 41]).run Tryz.prog w=.ok (.bool true) w:=by kernel_rfl
theorem M1 (w:World):(ReflectliteType.relation "AssignableTo" ReflectliteType.assignableTo #[.agg #[.pointer (some ⟨4,44,none⟩)],Aj 44]).run Tryz.prog w=.ok (.bool true) w:=by kernel_rfl
theorem K8 (w:World):(ReflectliteType.relation "AssignableTo" ReflectliteType.assignableTo #[.agg #[.pointer (some ⟨4,44,none⟩)],Aj 249]).run Tryz.prog w=.ok (.bool false) w:=by kernel_rfl
theorem K9 (w:World):(ReflectliteType.relation "AssignableTo" ReflectliteType.assignableTo #[.agg #[.pointer (some ⟨4,249,none⟩)],Aj 44]).run Tryz.prog w=.ok (.bool false) w:=by kernel_rfl
theorem Ic (w:World):(ReflectliteType.relation "AssignableTo" ReflectliteType.assignableTo #[.agg #[.pointer (some ⟨4,249,none⟩)],Aj 249]).run Tryz.prog w=.ok (.bool true) w:=by kernel_rfl
end
end Go.Proofs.YtecibefflhomdaaGreatDoor
