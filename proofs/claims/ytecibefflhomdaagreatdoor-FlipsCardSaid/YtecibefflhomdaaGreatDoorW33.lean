/-
  Part 33: PLAIN settle; PLAIN flush, compact; PLAIN what is read.
-/
import Derived.Test.YtecibefflhomdaaGreatDoorW32
set_option maxHeartbeats 8000000
set_option maxRecDepth 100000
set_option linter.all false
namespace Go.Proofs.YtecibefflhomdaaGreatDoor
open Go
section
open Go.Proofs.YtecibefflhomdaaGreatDoor.Pure
theorem Alike.refl (s:St):Alike s s:=⟨rfl,rfl,rfl,rfl⟩
theorem Alike.trans {a b c:St} (h:Alike a b) (k:Alike b c):Alike a c:=⟨k.mem.trans h.mem,k.seq.trans h.seq,k.snaps.trans h.snaps,k.snap.trans h.snap⟩
theorem Alike.Ki {a b:St} (h:Alike a b):aP b=aP a:=by unfold aP;rw [h.snaps]
theorem e9.cons {ms:List Nat} {A B:List (List ay)} (h:e9 ms A B) (m:List ay):e9 ms (m::A) (m::B):=fun k hk x=>by
 rw [bx,bx];exact oz (h k hk x)
section
variable {C:Prop} {s:St} {D:ad} {q0:Nat} {Ls:fW} {bs:List (List bX)} {E:Nat}
theorem After.bind {N1 N2:Nat} {sh1:fW→Prop} {sh2:fW→Prop} {x1:Except cy St} {D1:ad} {f:St→ad→Out St} (h1:After C s D q0 Ls bs E N1 sh1 x1 D1)
 (k:∀ s1 Ls1,x1=.ok s1→jw C s1 D1 q0 Ls1 bs E→e9 (aP s) (dj Ls) (dj Ls1)→Alike s s1→s1.number≤s.number+N1→sh1 Ls1→∃ x D',f s1 D1=some (x,D')∧After C s1 D1 q0 Ls1 bs E N2 sh2 x D') :
 ∃ x D',dE (some (x1,D1)) f=some (x,D')∧After C s D q0 Ls bs E (N1+N2) sh2 x D':=by
 obtain ⟨l1,h1⟩:=h1
 rcases h1 with ⟨e,rfl,h2,h3⟩|⟨s1,Ls1,rfl,h2,h3,h4,h5,h6,h7⟩
 ·exact ⟨_,_,rfl,l1,.inl ⟨e,rfl,h2,h3⟩⟩
 ·obtain ⟨x,D',k1,l2,k2⟩:=k s1 Ls1 rfl h2 h3 h4 h6 h7
  refine ⟨x,D',k1,l1.trans l2,?_⟩
  rw [h4.Ki] at k2
  rcases k2 with ⟨e,rfl,k2,c,Ls',bs',k3,k4⟩|⟨s',Ls',rfl,k2,k3,k4,k5,k6,k7⟩
  ·refine .inl ⟨e,rfl,k2.before l1,c,Ls',bs',k3,?_⟩
   rcases k4 with ⟨k4,k5,k6⟩|⟨k4,k5,k6⟩
   ·exact .inl ⟨k4,k5,h3.trans k6⟩
   ·refine .inr ⟨by rw [k4,h4.seq],k5,?_⟩
    rw [h4.mem] at k6
    exact (h3.cons s.mem).trans k6
  ·exact .inr ⟨s',Ls',rfl,k2,h3.trans k3,h4.trans k4,⟨k5.1.trans h5.1,by rw [h5.1] at k5;exact k5.2.trans h5.2⟩,by omega,k7⟩
theorem After.none (h:jw C s D q0 Ls bs E) {sh:fW→Prop} (hs:sh Ls):After C s D q0 Ls bs E 0 sh (.ok s) D:=
 ⟨cQ.refl h.core.ok,.inr ⟨s,Ls,rfl,h,e9.refl _ _,Alike.refl s,⟨rfl,rfl⟩,by omega,hs⟩⟩
theorem After.more {N N':Nat} {sh sh':fW→Prop} {x:Except cy St} {D':ad} (h:After C s D q0 Ls bs E N sh x D') (hN:N≤N') (hs:∀ L,sh L→sh' L):After C s D q0 Ls bs E N' sh' x D':=by
 obtain ⟨l,h⟩:=h
 refine ⟨l,?_⟩
 rcases h with h|⟨s',Ls',h1,h2,h3,h4,h5,h6,h7⟩
 ·exact .inl h
 ·exact .inr ⟨s',Ls',h1,h2,h3,h4,h5,by omega,hs _ h7⟩
theorem CC (h:s.levels=cA Ls) (i:Nat):(s.levels.getD i []).length=(Ls.getD i []).length:=by
 rw [h];unfold cA
 rw [List.getD_eq_getElem?_getD,List.getD_eq_getElem?_getD,List.getElem?_map]
 cases Ls[i]?<;>simp
structure ln (o:jX) (Ls:fW):Prop where
 l0:(Ls.getD 0 []).length<o.tables
 l1:(Ls.getD 1 []).length≤o.tables
 l2:(Ls.getD 2 []).length≤o.tables
theorem pw {o:jX} (ho:1≤o.tables) (h:jw C s D q0 Ls bs E) (ht:total bs=0) (hE:E≤1048576) (hB:bs.length≤16777216) (hnum:s.number+3*E≤4611686018427387904) :
 ∃ x D',mN o s D=some (x,D')∧After C s D q0 Ls bs E (3*E) (ln o) x D':=by
 have oO:∃ x D',(if o.tables≤(s.levels.getD 0 []).length then kH s D 0 1 else some (.ok s,D))=some (x,D')∧After C s D q0 Ls bs E E (fun L=>(L.getD 0 []).length<o.tables) x D':=by
  by_cases hc:o.tables≤(s.levels.getD 0 []).length
  ·rw [if_pos hc]
   obtain ⟨x,D',k1,k2⟩:=rN h ht (a:=0) (b:=1) (.inl ⟨rfl,.inl rfl⟩) hE hB (by omega)
   refine ⟨x,D',k1,k2.more (Nat.le_refl _) fun L hL=>?_⟩
   obtain ⟨R,ls,_,_,rfl,_⟩:=hL
   simp [gq];omega
  ·rw [if_neg hc]
   exact ⟨_,_,rfl,(After.none h (sh:=fun L=>(L.getD 0 []).length<o.tables) (by rw [← CC h.levels];omega)).more (Nat.zero_le _) fun _ h=>h⟩
 have stp:∀ (i:Nat) (s:St) (D:ad) (Ls:fW) (P:fW→Prop),Az i (i+1)→i≠0→jw C s D q0 Ls bs E→s.number+E≤4611686018427387904→P Ls→(∀ ls,P Ls→P (gq i (i+1) Ls ls)) →
  ∃ x D',DL o i s D=some (x,D')∧After C s D q0 Ls bs E E (fun L=>P L∧(L.getD i []).length≤o.tables) x D':=by
  intro i s D Ls P hi hi0 h hn hP hPn
  unfold DL
  by_cases hc:o.tables<(s.levels.getD i []).length
  ·rw [if_pos hc]
   obtain ⟨x,D',k1,k2⟩:=rN h ht hi hE hB hn
   refine ⟨x,D',k1,k2.more (Nat.le_refl _) fun L hL=>?_⟩
   obtain ⟨R,ls,_,_,rfl,_⟩:=hL
   refine ⟨hPn ls hP,?_⟩
   obtain ⟨L0,L1,L2,L3,rfl⟩:=dY h.core.lv.len
   rcases hi with ⟨rfl,_⟩|⟨rfl,_⟩|⟨rfl,_⟩
   ·exact absurd rfl hi0
   ·simp [gq,List.replicate]
   ·simp [gq,List.replicate]
  ·rw [if_neg hc]
   exact ⟨_,_,rfl,(After.none h (sh:=fun L=>P L∧(L.getD i []).length≤o.tables) ⟨hP,by rw [← CC h.levels];omega⟩).more (Nat.zero_le _) fun _ h=>h⟩
 obtain ⟨x1,D1,a1,a2⟩:=oO
 unfold mN
 rw [a1]
 obtain ⟨x,D',b1,b2⟩:=a2.bind (f:=fun s D=>gY o 2 1 s D) (N2:=2*E) (sh2:=ln o) fun s1 Ls1 _ hr1 _ ha1 hn1 hs1=>by
  obtain ⟨x2,D2,c1,c2⟩:=stp 1 s1 D1 Ls1 (fun L=>(L.getD 0 []).length<o.tables) (.inr (.inl ⟨rfl,rfl⟩)) (by omega) hr1 (by omega) hs1 (fun ls hh=>by
   obtain ⟨L0,L1,L2,L3,rfl⟩:=dY hr1.core.lv.len
   simpa [gq,List.replicate] using hh)
  show ∃ x D',gY o 2 1 s1 D1=some (x,D')∧_
  unfold gY
  rw [c1]
  obtain ⟨x,D',d1,d2⟩:=c2.bind (f:=fun s D=>gY o 1 2 s D) (N2:=E) (sh2:=ln o) fun s2 Ls2 _ hr2 _ ha2 hn2 hs2=>by
   obtain ⟨x3,D3,e1,e2⟩:=stp 2 s2 D2 Ls2 (fun L=>(L.getD 0 []).length<o.tables∧(L.getD 1 []).length≤o.tables) (.inr (.inr ⟨rfl,rfl⟩)) (by omega) hr2 (by omega) hs2 (fun ls hh=>by
    obtain ⟨L0,L1,L2,L3,rfl⟩:=dY hr2.core.lv.len
    simpa [gq,List.replicate] using hh)
   show ∃ x D',gY o 1 2 s2 D2=some (x,D')∧_
   unfold gY
   rw [e1]
   obtain ⟨x,D',f1,f2⟩:=e2.bind (f:=fun s D=>gY o 0 3 s D) (N2:=0) (sh2:=ln o) fun s3 Ls3 _ hr3 _ _ _ hs3=>
    ⟨_,_,rfl,After.none hr3 ⟨hs3.1.1,hs3.1.2,hs3.2⟩⟩
   exact ⟨x,D',f1,f2⟩
  exact ⟨x,D',d1,d2.more (by omega) fun _ h=>h⟩
 exact ⟨x,D',b1,b2.more (by omega) fun _ h=>h⟩
end
theorem nX:∀ (b:List bX) (q:Nat),(∀ c∈b,c.key.length≤8∧c.key≠[])→(∀ c∈b,c.del=false→c.val.length≤16)→q+b.length<18446744073709551616→∀ e∈aZ q b,lx e∧e.key≠[]
 | [],_,_,_,_,e,he=>by cases he
 | c::r,q,h1,h2,hq,e,he=>by
  simp only [List.length_cons] at hq
  rcases List.mem_cons.1 he with rfl|he
  ·exact ⟨⟨(h1 c List.mem_cons_self).1,h2 c List.mem_cons_self,by show q+1<_;omega,(h1 c List.mem_cons_self).2⟩,(h1 c List.mem_cons_self).2⟩
  ·exact nX r (q+1) (fun x hx=>h1 x (List.mem_cons_of_mem _ hx)) (fun x hx=>h2 x (List.mem_cons_of_mem _ hx)) (by omega) e he
theorem AB (b:List ay):∀ l:List ay,(b.foldl dG l).length=l.length+b.length:=by
 induction b with
 | nil=>intro l;simp
 | cons e r ih=>intro l;rw [List.foldl_cons,ih,kZ];simp;omega
theorem uY:∀ (b:List bX) (q:Nat),(aZ q b).length=b.length
 | [],_=>rfl
 | c::r,q=>by simp [aZ,uY r]
structure AD (q q':Nat) (m:List ay):Prop where
 srt:fJ m
 seq:∀ x∈m,q<x.seq∧x.seq≤q'
 ents:∀ x∈m,lx x∧x.key≠[]
theorem AE:∀ (bs:List (List bX)) (q0 q:Nat) (m:List ay),(∀ b∈bs,FC b)→q0≤q→AD q0 q m→q+total bs≤4611686018427387904→AD q0 (q+total bs) (gh q bs m)∧(gh q bs m).length=m.length+total bs
 | [],q0,q,m,_,_,h,_=>⟨by simpa [total,gh] using h,by simp [total,gh]⟩
 | b::r,q0,q,m,hb,hq,h,hn=>by
  have ht:total (b::r)=b.length+total r:=by simp [total]
  have hbk:=hb b List.mem_cons_self
  have h1:AD q0 (q+b.length) ((aZ q b).foldl dG m):=by
   refine ⟨tM b h.srt fun x hx=>(h.seq x hx).2,fun x hx=>?_,fun x hx=>?_⟩
   ·rcases (pZ _).1 hx with hx|hx
    ·have:=o6 b q x hx;omega
    ·have:=h.seq x hx;omega
   ·rcases (pZ _).1 hx with hx|hx
    ·exact nX b q hbk.key hbk.val (by omega) x hx
    ·exact h.ents x hx
  obtain ⟨k1,k2⟩:=AE r q0 (q+b.length) _ (fun x hx=>hb x (List.mem_cons_of_mem _ hx)) (by omega) h1 (by omega)
  rw [ht,← Nat.add_assoc]
  refine ⟨k1,?_⟩
  show (gh (q+b.length) r _).length=_
  rw [k2,AB,uY];omega
theorem FE (q:Nat):AD q q []:=⟨List.Pairwise.nil,by simp,by simp⟩
section
variable {C:Prop} {s:St} {D:ad} {q0:Nat} {Ls:fW} {bs:List (List bX)} {E:Nat}
theorem jw.qI (h:jw C s D q0 Ls bs E):AD q0 s.seq s.mem∧s.mem.length=total bs:=by
 obtain ⟨h1,h2⟩:=AE bs q0 q0 [] h.core.bsok (Nat.le_refl _) (FE q0) h.core.seq
 rw [h.mem,h.seq];exact ⟨h1,by simpa using h2⟩
theorem Iw {l:List ay} (h:l∈dj Ls) (h4:Ls.length=4):∃ p∈Ls.flatten,l=p.2:=by
 obtain ⟨L0,L1,L2,L3,rfl⟩:=dY h4
 obtain ⟨p,hp,rfl⟩:=List.mem_map.1 h
 refine ⟨p,?_,rfl⟩
 simp at hp ⊢;exact hp
theorem jw.ord (h:jw C s D q0 Ls bs E):Pure.Ord (s.mem::dj Ls):=by
 refine List.pairwise_cons.2 ⟨fun l hl x hx y hy _=>?_,h.core.ord⟩
 obtain ⟨p,hp,rfl⟩:=Iw hl h.core.lv.len
 have h1:=h.core.seqs p hp y hy
 have h1:y.seq≤q0:=h1
 have h2:=(h.qI.1.seq x hx).1
 omega
def jS (Ls:fW) (ls:List (cO×List ay)):fW:=(Ls.getD 0 []++ls)::Ls.drop 1
theorem AF (Ls:fW) (ls:List (cO×List ay)) (h4:Ls.length=4):dj (jS Ls ls)=ls.reverse.map (·.2)++dj Ls:=by
 obtain ⟨L0,L1,L2,L3,rfl⟩:=dY h4
 simp [dj,jS]
theorem oB (Ls:fW) (ls:List (cO×List ay)) (h4:Ls.length=4):∃ X Y,Ls.flatten=X++Y∧(jS Ls ls).flatten=X++ls++Y:=by
 obtain ⟨L0,L1,L2,L3,rfl⟩:=dY h4
 exact ⟨L0,L1++L2++L3,by simp,by simp [jS]⟩
theorem AG (l:List ay) (k:Bs) (m:Nat):fS (l.map bD) k m=(fS l k m).map bD:=by
 unfold fS
 rw [List.find?_map]
 congr 1
 have:((fun e:ay=>decide (e.key=k)&&decide (e.seq≤m)) ∘ bD)=fun e=>decide (e.key=k)&&decide (e.seq≤m):=by funext e;simp
 rw [this]
theorem xe (x S:Option ay):dB ((x.map bD).or S)=dB (x.or S):=by
 cases x with
 | none=>rfl
 | some e=>
  show dB (some (bD e))=dB (some e)
  unfold dB
  dsimp only
  rw [wa]
  cases hd:e.del with
  | true=>rfl
  | false=>simp [bD,hd]
theorem CD {ms:List Nat} {m:List ay} {S:List (List ay)} {ls:List (cO×List ay)} (hm:fJ m) (hls:ls.Pairwise fun a b=>vM a.2 b.2) (hl:∀ p∈ls,fJ p.2) (he:(ls.map (·.2)).flatten=(ey ms false m).map bD) :
 e9 ms (m::S) (ls.reverse.map (·.2)++S):=by
 intro q hq k
 have hR:fJ ((ey ms false m).map bD):=Al (lN hm)
 have hp:((ey ms false m).map bD).Perm (ls.reverse.map (·.2)).flatten:=by
  rw [← he]
  exact ((List.reverse_perm ls).symm.map _).flatten
 have hOr:Pure.Ord (ls.reverse.map (·.2)):=by
  refine List.pairwise_map.2 (List.pairwise_reverse.2 (hls.imp fun {a b} hab x hx y hy hk=>?_))
  have:=hab y hy x hx
  rw [hk,aM] at this;cases this
 have:=uW hR (fun l hl2=>by
  obtain ⟨p,hp,rfl⟩:=List.mem_map.1 hl2
  exact hl p (List.mem_reverse.1 hp)) hOr hp k q
 rw [jL,← this,bx,AG,xe,zr hm hq]
end
end
section
open Go.Proofs.YtecibefflhomdaaGreatDoor.Pure
section
variable {C:Prop} {s:St} {D:ad} {q0:Nat} {Ls:fW} {bs:List (List bX)} {E:Nat}
def L9 (C:Prop) (s:St) (D:ad) (q0:Nat) (Ls:fW) (bs:List (List bX)) (E:Nat) (N:Nat) (shape:fW→Prop) (x:Except cy St) (D':ad):Prop:=
 cQ D D' ∧
  ((∃ e,x=.error e∧sy C D e∧∃ c Ls' bs',RecM C D' c Ls' bs' E∧((c.seq=q0∧bs'=bs∧e9 (aP s) (dj Ls) (dj Ls'))∨(c.seq=s.seq∧bs'=[]∧e9 (aP s) (s.mem::dj Ls) (dj Ls')))) ∨
   ∃ s' Ls',x=.ok s'∧jw C s' D' s.seq Ls' [] E∧e9 (aP s) (s.mem::dj Ls) (dj Ls')∧s'.seq=s.seq∧s'.snaps=s.snaps∧s'.snap=s.snap∧s'.number≤s.number+N∧file D' s'.log=some []∧shape Ls')
theorem FF {D':ad} {num:Nat} {ls:List (cO×List ay)} {fl0:Bs→Option Bs} (h:jw C s D q0 Ls bs E) (hN:FB 5 s.number num (ey (aP s) false s.mem) ls fl0 (file D')) (hnum:num+1≤4611686018427387904) (hd:D'.Ok)
 (hst:file D' aN=some (az (bL { s with number:=num+1,log:=bU (num+1),levels:=cA (jS Ls ls),mem:=[] })))
 (hlog:file D' (bU (num+1))=some []) (hf:∀ m,m∈bO Ls→file D' m=file D m) :
 RecM C D' { s with number:=num+1,log:=bU (num+1),levels:=cA (jS Ls ls),mem:=[] } (jS Ls ls) [] E:=by
 obtain ⟨X,Y,e1,e2⟩:=oB Ls ls h.core.lv.len
 obtain ⟨hm1,hm2⟩:=h.qI
 have hcn:=hN.cnt
 have hls:∀ p∈ls,∀ e∈p.2,∃ x∈s.mem,e=bD x:=fun p hp e he=>by
  have h1:e∈(ls.map (·.2)).flatten:=List.mem_flatten.2 ⟨p.2,List.mem_map.2 ⟨p,hp,rfl⟩,he⟩
  rw [hN.ents] at h1
  obtain ⟨x,hx,rfl⟩:=List.mem_map.1 h1
  exact ⟨x,(fK _ _ _).subset hx,rfl⟩
 have hseq:=h.seq
 have hq:q0+total bs≤4611686018427387904:=h.core.seq
 refine ⟨hd,rfl,hst,hnum,by show s.seq+total []≤_;simp [total];omega,?_,⟨?_,?_,?_,?_⟩,?_,?_,?_,⟨num+1,Nat.le_refl _,rfl⟩,⟨[],by show file D' (bU (num+1))=_;rw [hlog];rfl,om⟩,by simp⟩
 ·have h1:=h.core.cntE
  have h2:cnt (jS Ls ls)=(X.map (·.2.length)).sum+(ls.map (·.2.length)).sum+(Y.map (·.2.length)).sum:=by unfold cnt;rw [e2];simp only [List.map_append,List.sum_append]
  have h3:cnt Ls=(X.map (·.2.length)).sum+(Y.map (·.2.length)).sum:=by unfold cnt;rw [e1];simp only [List.map_append,List.sum_append]
  have h4:=jx ls
  rw [hN.ents,List.length_map] at h4
  have h5:=qE (aP s) false s.mem
  show cnt (jS Ls ls)+total []≤E
  simp [total];omega
 ·show (jS Ls ls).length=4
  obtain ⟨L0,L1,L2,L3,rfl⟩:=dY h.core.lv.len
  rfl
 ·intro p hp
  rw [e2] at hp
  simp only [List.mem_append] at hp
  rcases hp with (hp|hp)|hp
  ·obtain ⟨k,k1,k2⟩:=h.core.lv.names p (by rw [e1];exact List.mem_append_left _ hp)
   exact ⟨k,by have k1:k≤s.number:=k1;show k≤num+1;omega,k2⟩
  ·obtain ⟨k,k1,k2,k3⟩:=hN.names p hp
   exact ⟨k,by show k≤num+1;omega,k3⟩
  ·obtain ⟨k,k1,k2⟩:=h.core.lv.names p (by rw [e1];exact List.mem_append_right _ hp)
   exact ⟨k,by have k1:k≤s.number:=k1;show k≤num+1;omega,k2⟩
 ·have hnod:=h.core.lv.nodup
  unfold bO at hnod ⊢
  rw [e1,List.map_append] at hnod
  rw [e2,List.map_append,List.map_append]
  rw [List.nodup_append] at hnod
  rw [List.nodup_append,List.nodup_append]
  have hnew:∀ p∈ls,∀ q∈Ls.flatten,p.1.name≠q.1.name:=fun p hp q hq he=>by
   obtain ⟨k,k1,k2,k3⟩:=hN.names p hp
   obtain ⟨j,j1,j2⟩:=h.core.lv.names q hq
   have j1:j≤s.number:=j1
   have:=eY (k3.symm.trans (he.trans j2)) (by omega) (by omega)
   omega
  refine ⟨⟨hnod.1,hN.nodup,fun x hx y hy he=>?_⟩,hnod.2.1,fun x hx y hy he=>?_⟩
  ·obtain ⟨p,hp,rfl⟩:=List.mem_map.1 hx
   obtain ⟨q,hq,rfl⟩:=List.mem_map.1 hy
   exact hnew q hq p (by rw [e1];exact List.mem_append_left _ hp) he.symm
  ·rcases List.mem_append.1 hx with hx|hx
   ·exact hnod.2.2 x hx y hy he
   ·obtain ⟨p,hp,rfl⟩:=List.mem_map.1 hx
    obtain ⟨q,hq,rfl⟩:=List.mem_map.1 hy
    exact hnew p hp q (by rw [e1];exact List.mem_append_right _ hq) he
 ·intro i L hi hL
  have hsp:=h.core.lv.sep
  obtain ⟨L0,L1,L2,L3,rfl⟩:=dY h.core.lv.len
  cases i with
  | zero=>omega
  | succ i=>exact hsp (i+1) L hi (by simpa [jS] using hL)
 ·intro p hp
  rw [e2] at hp
  simp only [List.mem_append] at hp
  rcases hp with (hp|hp)|hp
  ·have hp2:p∈Ls.flatten:=by rw [e1];exact List.mem_append_left _ hp
   obtain ⟨f,cs,k1,k2⟩:=h.core.on p hp2
   exact ⟨f,cs,by rw [hf _ (List.mem_map.2 ⟨p,hp2,rfl⟩)];exact k1,k2⟩
  ·obtain ⟨f,cs,k1,k2⟩:=hN.on p hp
   exact ⟨f,cs,k1,k2.mono (fun h=>h.elim)⟩
  ·have hp2:p∈Ls.flatten:=by rw [e1];exact List.mem_append_right _ hp
   obtain ⟨f,cs,k1,k2⟩:=h.core.on p hp2
   exact ⟨f,cs,by rw [hf _ (List.mem_map.2 ⟨p,hp2,rfl⟩)];exact k1,k2⟩
 ·intro p hp e he
  show e.seq≤s.seq
  rw [e2] at hp
  simp only [List.mem_append] at hp
  rcases hp with (hp|hp)|hp
  ·have h1:=h.core.seqs p (by rw [e1];exact List.mem_append_left _ hp) e he
   have h1:e.seq≤q0:=h1
   omega
  ·obtain ⟨x,hx,rfl⟩:=hls p hp e he
   rw [oh];exact (hm1.seq x hx).2
  ·have h1:=h.core.seqs p (by rw [e1];exact List.mem_append_right _ hp) e he
   have h1:e.seq≤q0:=h1
   omega
 ·rw [AF Ls ls h.core.lv.len]
  have hor:=h.ord
  obtain ⟨o1,o2⟩:=List.pairwise_cons.1 hor
  refine List.pairwise_append.2 ⟨?_,o2,fun l hl w hw x hx y hy hk=>?_⟩
  ·refine List.pairwise_map.2 (List.pairwise_reverse.2 (hN.sep.imp fun {a b} hab x hx y hy hk=>?_))
   have:=hab y hy x hx
   rw [hk,aM] at this;cases this
  ·obtain ⟨p,hp,rfl⟩:=List.mem_map.1 hl
   obtain ⟨z,hz,rfl⟩:=hls p (List.mem_reverse.1 hp) x hx
   rw [j7] at hk
   rw [oh]
   exact o1 w hw z hz y hy hk
theorem rO {o:jX} (ho:1≤o.tables) (h:jw C s D q0 Ls bs E) (hE:E≤1048576) (hB:bs.length≤16777216) (hnum:s.number+4*E+1≤4611686018427387904) :
 ∃ x D',mO o s D=some (x,D')∧L9 C s D q0 Ls bs E (4*E+1) (ln o) x D':=by
 have hused:=h.used hE hB
 have htab:=h.core.Aw hE
 have hcnt:=h.core.cntE
 obtain ⟨hm1,hm2⟩:=h.qI
 have hseq:=h.seq
 have hq:q0+total bs≤4611686018427387904:=h.core.seq
 have hlat:aH=18446744073709551615:=rfl
 have hml:s.mem.length≤E:=by omega
 have hmom:=sA h.snaps
 have hnx:Ct C (file D) s.mem (.one (ij s.mem [])) s.mem:=by
  have:=Ay (C:=C) (fl:=file D) hm1.srt (fun e he=>by have:=(hm1.seq e he).2;omega) []
  rw [xa] at this
  exact this
 obtain ⟨x,D1,k1,k2,k3⟩:=wX (s:=s) (nx:=.one (ij s.mem [])) (bt:=false) h.core.ok hm1.srt hnx (by omega) (by have:=h.snaps;omega)
 unfold mO
 rw [if_neg (by rw [bG];omega),k1]
 rcases k3 with ⟨e,rfl,k3⟩|rfl
 ·exact ⟨_,_,rfl,k2.later,.inl ⟨e,rfl,.inl k3,_,Ls,bs,h.core.files k2.later.ok fun m _=>k2.file m,.inl ⟨rfl,rfl,e9.refl _ _⟩⟩⟩
 dsimp only [dE]
 have hkl:=qE (aP s) false s.mem
 have hlf:∀ k,(m7 k (ey (aP s) false s.mem)).length≤5:=fun k=>Nat.le_trans (Ao hm1.srt k) hmom
 have hls:fJ (ey (aP s) false s.mem):=lN hm1.srt
 have hlk:∀ e∈ey (aP s) false s.mem,lx e:=fun e he=>(hm1.ents e ((fK _ _ _).subset he)).1
 have hD1:∀ k,s.number<k→k≤s.number+(ey (aP s) false s.mem).length→file D1 (dQ k)=none:=fun k hk hk2=>by rw [k2.file];exact h.KX hk (by omega)
 have hmv1:=h.moves
 obtain ⟨x,D2,p1,p2,p3,p4,p5,p6⟩:=rI (K:=5) (by omega) (by omega) gL s.number D1 _ [] k2.later.ok hls hlk hlf (by rw [bG];omega) (by omega) (by simp only [List.length_nil];omega) (by rw [k2.moves];omega) (by rw [k2.used];omega) hD1
 rw [p1]
 have hfar:∀ m,(∀ k,s.number<k→k≤s.number+(ey (aP s) false s.mem).length→m≠dQ k)→file D2 m=file D m:=fun m hm=>by rw [p5 m hm,k2.file]
 have hfarN:∀ m,m∈bO Ls→file D2 m=file D m:=fun m hm=>hfar m fun k hk1 hk2 he=>by
  subst he
  obtain ⟨p,hp,hpe⟩:=List.mem_map.1 hm
  obtain ⟨i,hi,hie⟩:=h.core.lv.names p hp
  have hi:i≤s.number:=hi
  have:=eY (hie.symm.trans hpe) (by omega) (by omega)
  omega
 have hlogT:∀ k,s.log≠dQ k:=fun k hh=>by
  obtain ⟨j,_,h2⟩:=h.core.log
  have h2:s.log=bU j:=h2
  exact ju k j (hh.symm.trans h2)
 have hfar2:∀ m,pr { s with seq:=q0 } Ls m→file D2 m=file D m:=fun m hm=>by
  rcases hm with hm|hm|hm
  ·exact hfar m fun k _ _ hh=>iA k (hh.symm.trans hm)
  ·have hm:m=s.log:=hm
   exact hfar m fun k _ _ hh=>hlogT k (hm.symm.trans hh)
  ·exact hfarN m hm
 rcases p6 with ⟨e,rfl,p6⟩|⟨num,ls,rfl,hN⟩
 ·exact ⟨_,_,rfl,k2.later.trans p2,.inl ⟨e,rfl,(p6.mono fun h=>h.elim).before k2.later,_,Ls,bs,h.core.files p2.ok hfar2,.inl ⟨rfl,rfl,e9.refl _ _⟩⟩⟩
 dsimp only
 rw [List.nil_append]
 have hcn:=hN.cnt
 have hlsS:∀ p∈ls,fJ p.2∧p.2≠[]:=fun p hp=>by obtain ⟨f,cs,_,k⟩:=hN.on p hp;exact ⟨k.srt,k.some⟩
 have hlsl:ls.length≤E:=by
  have h1:=jx ls
  rw [hN.ents,List.length_map] at h1
  have key:∀ l:List (cO×List ay),(∀ p∈l,p.2≠[])→l.length≤(l.map (·.2.length)).sum:=by
   intro l
   induction l with
   | nil=>intro _;simp
   | cons p r ih=>
    intro hh
    have h1:=ih fun x hx=>hh x (List.mem_cons_of_mem _ hx)
    have h2:0<p.2.length:=List.length_pos_iff.2 (hh p List.mem_cons_self)
    simp only [List.map_cons,List.sum_cons,List.length_cons];omega
  have:=key ls fun p hp=>(hlsS p hp).2
  omega
 have hL0:(s.levels.getD 0 []).length≤1048576:=by
  rw [CC h.levels]
  obtain ⟨L0,L1,L2,L3,hL⟩:=dY h.core.lv.len
  rw [hL] at htab ⊢
  simp only [List.flatten_cons,List.length_append] at htab
  show L0.length≤_
  omega
 rw [if_pos (by rw [List.length_map,bG];omega)]
 have hlevels:((s.levels.getD 0 []++ls.map (·.1))::s.levels.drop 1:List (List cO))=cA (jS Ls ls):=by
  rw [h.levels]
  obtain ⟨L0,L1,L2,L3,rfl⟩:=dY h.core.lv.len
  simp [cA,jS]
 rw [hlevels]
 have hsame:e9 (aP s) (s.mem::dj Ls) (dj (jS Ls ls)):=by
  rw [AF Ls ls h.core.lv.len]
  exact CD hm1.srt hN.sep (fun p hp=>(hlsS p hp).1) hN.ents
 obtain ⟨k0,hk0,hk1⟩:=h.core.log
 have hk1:s.log=bU k0:=hk1
 have hk0:k0≤s.number:=hk0
 have hfrF:file D2 bp=none:=by rw [hfar _ fun k _ _ hh=>lj k hh.symm];exact h.Iq
 have hfrL:file D2 (bU (num+1))=none:=by rw [hfar _ fun k _ _ hh=>ju k _ hh.symm];exact h.KY (by omega) (by omega)
 obtain ⟨junk,hj1,hj2⟩:=h.logf
 have hlogD2:file D2 s.log=some (bA q0 bs++junk):=by rw [hfar _ fun k _ _ hh=>hlogT k hh];exact hj1
 have hlv0:qF num (jS Ls ls):=by
  obtain ⟨X,Y,e1,e2⟩:=oB Ls ls h.core.lv.len
  refine ⟨?_,?_,?_,?_⟩
  ·obtain ⟨L0,L1,L2,L3,rfl⟩:=dY h.core.lv.len
   rfl
  ·intro p hp
   rw [e2] at hp
   simp only [List.mem_append] at hp
   rcases hp with (hp|hp)|hp
   ·obtain ⟨k,k1,k2⟩:=h.core.lv.names p (by rw [e1];exact List.mem_append_left _ hp)
    exact ⟨k,by have k1:k≤s.number:=k1;omega,k2⟩
   ·obtain ⟨k,k1,k2,k3⟩:=hN.names p hp
    exact ⟨k,k2,k3⟩
   ·obtain ⟨k,k1,k2⟩:=h.core.lv.names p (by rw [e1];exact List.mem_append_right _ hp)
    exact ⟨k,by have k1:k≤s.number:=k1;omega,k2⟩
  ·have hnod:=h.core.lv.nodup
   unfold bO at hnod ⊢
   rw [e1,List.map_append] at hnod
   rw [e2,List.map_append,List.map_append]
   rw [List.nodup_append] at hnod
   rw [List.nodup_append,List.nodup_append]
   have hnew:∀ p∈ls,∀ q∈Ls.flatten,p.1.name≠q.1.name:=fun p hp q hq he=>by
    obtain ⟨k,k1,k2,k3⟩:=hN.names p hp
    obtain ⟨j,j1,j2⟩:=h.core.lv.names q hq
    have j1:j≤s.number:=j1
    have:=eY (k3.symm.trans (he.trans j2)) (by omega) (by omega)
    omega
   refine ⟨⟨hnod.1,hN.nodup,fun x hx y hy he=>?_⟩,hnod.2.1,fun x hx y hy he=>?_⟩
   ·obtain ⟨p,hp,rfl⟩:=List.mem_map.1 hx
    obtain ⟨q,hq,rfl⟩:=List.mem_map.1 hy
    exact hnew q hq p (by rw [e1];exact List.mem_append_left _ hp) he.symm
   ·rcases List.mem_append.1 hx with hx|hx
    ·exact hnod.2.2 x hx y hy he
    ·obtain ⟨p,hp,rfl⟩:=List.mem_map.1 hx
     obtain ⟨q,hq,rfl⟩:=List.mem_map.1 hy
     exact hnew p hp q (by rw [e1];exact List.mem_append_right _ hq) he
  ·intro i L hi hL
   have hsp:=h.core.lv.sep
   obtain ⟨L0,L1,L2,L3,rfl⟩:=dY h.core.lv.len
   cases i with
   | zero=>omega
   | succ i=>exact hsp (i+1) L hi (by simpa [jS] using hL)
 have hlen0:(jS Ls ls).flatten.length≤1048576:=by
  obtain ⟨X,Y,e1,e2⟩:=oB Ls ls h.core.lv.len
  have h1:=Ar h.core.on
  have h2:=jx ls
  rw [hN.ents,List.length_map] at h2
  have key:∀ l:List (cO×List ay),(∀ p∈l,p.2≠[])→l.length≤(l.map (·.2.length)).sum:=by
   intro l
   induction l with
   | nil=>intro _;simp
   | cons p r ih=>
    intro hh
    have h1:=ih fun x hx=>hh x (List.mem_cons_of_mem _ hx)
    have h2:0<p.2.length:=List.length_pos_iff.2 (hh p List.mem_cons_self)
    simp only [List.map_cons,List.sum_cons,List.length_cons];omega
  have h3:=key ls fun p hp=>(hlsS p hp).2
  rw [e1,List.length_append] at h1
  rw [e2,List.length_append,List.length_append]
  omega
 obtain ⟨x,D3,c1,c2,c3⟩:=nV (C:=C) (s:={ s with number:=num,levels:=cA (jS Ls ls),mem:=[] }) (Ls:=jS Ls ls) rfl hlv0 hlen0 (by show num+1≤_;omega) (by show s.seq≤_;omega) p2.ok hfrF hfrL (.inr ⟨k0,_,by show k0≤num;omega,hk1,hlogD2⟩) (by rw [k2.moves] at p3;omega) (by rw [k2.used] at p4;omega)
 have l2:=k2.later.trans p2
 rw [c1]
 have hlogne:s.log≠bU (num+1):=fun hh=>by have:=nU (hk1.symm.trans hh) (by omega) (by omega);omega
 have hnew:∀ D':ad,D'.Ok→file D' aN=some (az (bL { s with number:=num+1,log:=bU (num+1),levels:=cA (jS Ls ls),mem:=[] }))→file D' (bU (num+1))=some [] →
  (∀ m,m≠aN→m≠bU (num+1)→m≠s.log→file D' m=file D2 m)→RecM C D' { s with number:=num+1,log:=bU (num+1),levels:=cA (jS Ls ls),mem:=[] } (jS Ls ls) [] E:=by
  intro D' hd' hs' hl' hf'
  have hN':FB 5 s.number num (ey (aP s) false s.mem) ls (fun _=>some []) (file D'):=by
   refine ⟨hN.ents,hN.cnt,hN.names,hN.nodup,fun p hp=>?_,hN.sep,hN.few,fun m hm=>.inl (by simp)⟩
   obtain ⟨f,cs,q1,q2⟩:=hN.on p hp
   obtain ⟨k,n1,n2,n3⟩:=hN.names p hp
   exact ⟨f,cs,by rw [hf' _ (by rw [n3];exact iA k) (by rw [n3];exact ju k _) (by rw [n3];exact (hlogT k).symm)];exact q1,q2⟩
  refine FF h hN' (by omega) hd' hs' hl' fun m hm=>?_
  rw [hf' m (fun hh=>fQ h.core.lv (by rw [← hh];exact hm)) (fun hh=>dS h.core.lv (num+1) (by rw [← hh];exact hm)) (fun hh=>dS h.core.lv k0 (by rw [← hk1,← hh];exact hm))]
  exact hfarN m hm
 rcases c3 with ⟨rfl,c3,c4⟩|⟨e,rfl,c3,c4⟩
 ·dsimp only
  have hrun:jw C { s with number:=num+1,log:=bU (num+1),levels:=cA (jS Ls ls),mem:=[] } D3 s.seq (jS Ls ls) [] E:=by
   refine ⟨?_,rfl,by simp [total],?_,?_,by omega,h.snaps⟩
   ·exact hnew D3 c2.ok (by rw [c4,if_pos rfl]) (by rw [c4,if_neg (eI _)];exact if_pos rfl) fun m h1 h2 h3=>by
     rw [c4,if_neg h1]
     exact (if_neg h2).trans (if_neg h3)
   ·refine ⟨[],?_,by simp⟩
    show file D3 (bU (num+1))=_
    rw [c4,if_neg (eI _)];exact if_pos rfl
   ·intro m hm
    show m=aN∨m=bU (num+1)∨_
    rw [c4] at hm
    by_cases h1:m=aN
    ·exact .inl h1
    rw [if_neg h1] at hm
    by_cases h2:m=bU (num+1)
    ·exact .inr (.inl h2)
    have hm:=(if_neg h2:(if m=bU (num+1) then some [] else if m=s.log then none else file D2 m)=_)▸hm
    by_cases h3:m=s.log
    ·exact absurd (if_pos h3) hm
    rw [if_neg h3] at hm
    refine .inr (.inr ?_)
    obtain ⟨X,Y,e1,e2⟩:=oB Ls ls h.core.lv.len
    unfold bO
    rw [e2,List.map_append,List.map_append,List.mem_append,List.mem_append]
    rcases hN.known m hm with h4|h4
    ·rw [k2.file] at h4
     rcases h.known m h4 with h4|h4|h4
     ·exact absurd h4 h1
     ·exact absurd h4 h3
     ·unfold bO at h4
      rw [e1,List.map_append,List.mem_append] at h4
      rcases h4 with h4|h4
      ·exact .inl (.inl h4)
      ·exact .inr h4
    ·exact .inl (.inr h4)
  obtain ⟨x,D4,s1,l3,s2⟩:=pw ho hrun (by simp [total]) hE (by simp) (by show num+1+3*E≤_;omega)
  rw [s1]
  refine ⟨x,D4,rfl,(l2.trans c2).trans l3,?_⟩
  have hmo:aP { s with number:=num+1,log:=bU (num+1),levels:=cA (jS Ls ls),mem:=[] }=aP s:=rfl
  rw [hmo] at s2
  rcases s2 with ⟨e,rfl,s2,c,Ls',bs',s3,s4⟩|⟨s',Ls',rfl,s2,s3,s4,s5,s6,s7⟩
  ·refine .inl ⟨e,rfl,s2.before (l2.trans c2),c,Ls',bs',s3,.inr ?_⟩
   rcases s4 with ⟨s4,s5,s6⟩|⟨s4,s5,s6⟩
   ·exact ⟨s4,s5,hsame.trans s6⟩
   ·refine ⟨s4,s5,hsame.trans (e9.trans (fun m hm k=>?_) s6)⟩
    show dB (eW ([]::dj (jS Ls ls)) k m)=_
    rw [bx];rfl
  ·exact .inr ⟨s',Ls',rfl,s2,hsame.trans s3,s4.seq,s4.snaps,s4.snap,by have s6:s'.number≤num+1+3*E:=s6;omega,by
    rw [s5.1,s5.2];show file D3 (bU (num+1))=_;rw [c4,if_neg (eI _)];exact if_pos rfl,s7⟩
 ·refine ⟨_,_,rfl,l2.trans c2,.inl ⟨e,rfl,c3.before l2,?_⟩⟩
  rcases c4 with c4|c4
  ·refine ⟨_,Ls,bs,h.core.files c2.ok fun m hm=>?_,.inl ⟨rfl,rfl,e9.refl _ _⟩⟩
   have h1:m≠bp:=fun hh=>by
    rcases hm with hm|hm|hm
    ·exact iB (hh.symm.trans hm)
    ·have hm:m=s.log:=hm
     exact jv k0 (hk1.symm.trans (hm.symm.trans hh))
    ·exact gO h.core.lv (by rw [← hh];exact hm)
   have h2:m≠bU (num+1):=fun hh=>by
    rcases hm with hm|hm|hm
    ·exact eI _ (hh.symm.trans hm)
    ·have hm:m=s.log:=hm
     exact hlogne (hm.symm.trans hh)
    ·exact dS h.core.lv (num+1) (by rw [← hh];exact hm)
   rw [c4 m h1 h2];exact hfar2 m hm
  ·exact ⟨_,_,[],hnew D3 c2.ok (by rw [c4,if_pos rfl]) (by rw [c4,if_neg (eI _)];exact if_pos rfl) (fun m h1 h2 _=>by
    rw [c4,if_neg h1];exact if_neg h2),.inr ⟨rfl,rfl,hsame⟩⟩
end
end
section
open Go.Proofs.YtecibefflhomdaaGreatDoor.Pure
theorem FG {M:List ay} (hM:fJ M) (key:Bs) (seq:Nat):qk M key seq=fS M key seq:=by
 obtain ⟨h1,h2⟩:=my (e:=⟨key,[],false,seq⟩) hM
 unfold qk
 generalize aY M ⟨key,[],false,seq⟩=i at h1 h2
 have hsp:=List.take_append_drop i M
 have hv:fS M key seq=fS (M.drop i) key seq:=by
  conv=>lhs;rw [← hsp,oq]
  have:fS (M.take i) key seq=none:=dy.2 fun x hx hk=>by
   rcases bK.1 (h1 x hx) with h|h
   ·have h:aQ x.key key=true:=h
    rw [hk,aM] at h;cases h
   ·exact h.2
  rw [this];rfl
 rw [hv,head_drop]
 have hs:fJ (M.drop i):=hM.sublist (List.drop_sublist _ _)
 cases hd:M.drop i with
 | nil=>rfl
 | cons e r=>
  rw [hd] at hs h2
  have he:=h2 e List.mem_cons_self
  dsimp only [List.head?_cons]
  by_cases hk:e.key=key
  ·rw [if_pos hk]
   have hle:e.seq≤seq:=by
    cases Nat.lt_or_ge seq e.seq with
    | inl h=>rw [bK.2 (.inr ⟨hk,h⟩)] at he;cases he
    | inr h=>exact h
   symm
   unfold fS
   rw [List.find?_cons_of_pos (by simp [hk,hle])]
  ·rw [if_neg hk]
   symm
   refine dy.2 fun x hx hxk=>?_
   exfalso
   have hlt:aQ key e.key=true:=by
    rcases eh e.key key with h|h|h
    ·rw [bK.2 (.inl h)] at he;cases he
    ·exact absurd h hk
    ·exact h
   rcases List.mem_cons.1 hx with rfl|hx
   ·exact hk hxk
   ·rcases bK.1 ((List.pairwise_cons.1 hs).1 x hx) with h|h
    ·have:=dt hlt h;rw [hxk,aM] at this;cases this
    ·exact hk (h.1.trans hxk)
section
variable {C:Prop} {s:St} {D:ad} {q0:Nat} {Ls:fW} {bs:List (List bX)} {E:Nat}
theorem uZ (h:s.levels=cA Ls) (h4:Ls.length=4):∃ ps:List (cO×List ay),cB s=ps.map (·.1)∧dj Ls=ps.map (·.2)∧(∀ p∈ps,p∈Ls.flatten)∧ps.length=Ls.flatten.length∧ps=(Ls.getD 0 []).reverse++(Ls.drop 1).flatten:=by
 refine ⟨(Ls.getD 0 []).reverse++(Ls.drop 1).flatten,?_,rfl,?_,?_,rfl⟩
 ·obtain ⟨L0,L1,L2,L3,rfl⟩:=dY h4
  unfold cB;rw [h]
  simp [cA]
 ·obtain ⟨L0,L1,L2,L3,rfl⟩:=dY h4
  intro p hp;simp at hp ⊢;exact hp
 ·obtain ⟨L0,L1,L2,L3,rfl⟩:=dY h4
  simp
theorem xf {key:Bs} {seq:Nat}:∀ (ps:List (cO×List ay)) {D:ad},D.Ok→(∀ p∈ps,∃ f cs,file D p.1.name=some f∧kX C f p.1 p.2 cs) →
 ∃ x D',mZ key seq (ps.map (·.1)) D=some (x,D')∧cH D D'∧((∃ e,x=.error e∧qC C D e)∨x=.ok (eW (ps.map (·.2)) key seq))
 | [],D,hd,_=>⟨_,_,rfl,cH.refl hd,.inr rfl⟩
 | p::ps,D,hd,h=>by
  obtain ⟨f,cs,h1,h2⟩:=h p List.mem_cons_self
  obtain ⟨x,D1,k1,k2,k3⟩:=Fv h2 hd h1 key seq
  have s1:=cH.Kf hd k2
  rw [List.map_cons,List.map_cons,bx]
  unfold mZ
  rw [k1]
  rcases k3 with rfl|⟨e,rfl,k3⟩
  ·cases hv:fS p.2 key seq with
   | some x=>exact ⟨_,_,rfl,s1,.inr rfl⟩
   | none=>
    dsimp only
    obtain ⟨x,D2,m1,m2,m3⟩:=xf ps s1.later.ok fun q hq=>by
     obtain ⟨f,cs,h1,h2⟩:=h q (List.mem_cons_of_mem _ hq)
     exact ⟨f,cs,by rw [s1.file];exact h1,h2⟩
    refine ⟨x,D2,m1,s1.trans m2,?_⟩
    rcases m3 with ⟨e,m3,m4⟩|m3
    ·exact .inl ⟨e,m3,m4.before s1.later⟩
    ·exact .inr (by rw [m3];rfl)
  ·exact ⟨_,_,rfl,s1,.inl ⟨e,rfl,k3⟩⟩
theorem Ix (h:jw C s D q0 Ls bs E) (key:Bs) (seq:Nat) :
 ∃ x D',vK s D key seq=some (x,D')∧cH D D'∧((key.length=0∨8<key.length)∧x=.error (none,3)∨¬ (key.length=0∨8<key.length)∧((∃ e,x=.error e∧qC C D e)∨x=.ok (dB (eW (s.mem::dj Ls) key seq)))):=by
 unfold vK
 by_cases hk:key.length=0∨8<key.length
 ·rw [if_pos hk];exact ⟨_,_,rfl,cH.refl h.core.ok,.inl ⟨hk,rfl⟩⟩
 ·rw [if_neg hk,FG h.qI.1.srt,bx]
  cases hv:fS s.mem key seq with
  | some e=>exact ⟨_,_,rfl,cH.refl h.core.ok,.inr ⟨hk,.inr rfl⟩⟩
  | none=>
   dsimp only
   obtain ⟨ps,p1,p2,p3,_⟩:=uZ h.levels h.core.lv.len
   obtain ⟨x,D',k1,k2,k3⟩:=xf (C:=C) (key:=key) (seq:=seq) ps h.core.ok fun p hp=>h.core.on p (p3 p hp)
   rw [p1,k1]
   rcases k3 with ⟨e,rfl,k3⟩|rfl
   ·exact ⟨_,_,rfl,k2,.inr ⟨hk,.inl ⟨e,rfl,k3⟩⟩⟩
   ·exact ⟨_,_,rfl,k2,.inr ⟨hk,.inr (by rw [p2];rfl)⟩⟩
theorem CE (hi:Bs) (limit:Int) (seq:Nat) (s:Sc) (e:ay):(lP hi limit seq s e).1.out.length≤s.out.length+1:=by
 unfold lP
 split
 ·exact Nat.le_succ _
 ·split
  ·exact Nat.le_succ _
  ·dsimp only;split
   ·exact Nat.le_succ _
   ·simp
theorem FH (h:jw C s D q0 Ls bs E) (hE:E≤1048576) (lo hi:Bs) (limit:Int) (seq:Nat) {ps:List (Bs×Bs)} (hps:kU ps) (hv:∀ k,dB (eW (s.mem::dj Ls) k seq)=aR ps k) :
 ∃ x D',zW s D lo hi limit seq=some (x,D')∧cH D D'∧((∃ e,x=.error e∧qC C D e)∨x=.ok (dJ ps lo hi limit)):=by
 obtain ⟨qs,p1,p2,p3,p4,_⟩:=uZ h.levels h.core.lv.len
 have htab:=h.core.Aw hE
 have hcnt:=h.core.cntE
 obtain ⟨hm1,hm2⟩:=h.qI
 have hq:q0+total bs≤4611686018427387904:=h.core.seq
 have hseq:=h.seq
 have hlat:aH=18446744073709551615:=rfl
 have hon:∀ p∈qs,∃ f cs,file D p.1.name=some f∧kX C f p.1 p.2 cs:=fun p hp=>h.core.on p (p3 p hp)
 have hsr:∀ l∈s.mem::qs.map (·.2),fJ l:=fun l hl=>by
  rcases List.mem_cons.1 hl with rfl|hl
  ·exact hm1.srt
  ·obtain ⟨p,hp,rfl⟩:=List.mem_map.1 hl
   obtain ⟨f,cs,_,k⟩:=hon p hp
   exact k.srt
 have hor:Pure.Ord (s.mem::qs.map (·.2)):=by rw [← p2];exact h.ord
 have hsrF:∀ l∈(s.mem::qs.map (·.2)).map (fP lo),fJ l:=fun l hl=>by
  obtain ⟨l',hl',rfl⟩:=List.mem_map.1 hl
  exact (hsr l' hl').sublist List.filter_sublist
 have horF:Pure.Ord ((s.mem::qs.map (·.2)).map (fP lo)):=List.pairwise_map.2 (hor.imp fun {a b} hab x hx y hy hk=>hab x (List.mem_filter.1 hx).1 y (List.mem_filter.1 hy).1 hk)
 obtain ⟨R,hR,hRp⟩:=rK _ (oP hsrF horF)
 have hlenF:∀ ls:List (List ay),(ls.map (fP lo)).flatten.length≤ls.flatten.length:=by
  intro ls
  induction ls with
  | nil=>simp
  | cons l r ih=>
   have:(fP lo l).length≤l.length:=List.length_filter_le _ _
   simp only [List.map_cons,List.flatten_cons,List.length_append];omega
 have hRl:R.length≤2*E:=by
  have h1:=hRp.length_eq
  have h2:=hlenF (s.mem::qs.map (·.2))
  rw [List.flatten_cons,List.length_append,← p2] at h2
  have h3:(dj Ls).flatten.length=cnt Ls:=by
   obtain ⟨L0,L1,L2,L3,hL⟩:=dY h.core.lv.len
   rw [hL]
   unfold dj cnt
   rw [jx]
   simp
  rw [p2] at h2 h3
  omega
 have hRlo:∀ e∈R,kW lo e.key=true:=fun e he=>by
  obtain ⟨l,hl,hel⟩:=List.mem_flatten.1 (hRp.mem_iff.1 he)
  obtain ⟨l',_,rfl⟩:=List.mem_map.1 hl
  exact (List.mem_filter.1 hel).2
 have hvis:∀ k,kW lo k=true→dB (fS R k seq)=aR ps k:=fun k hk=>by
  rw [uW hR hsrF horF hRp,← hv,← p2.symm]
  have key:∀ ls:List (List ay),eW (ls.map (fP lo)) k seq=eW ls k seq:=by
   intro ls
   induction ls with
   | nil=>rfl
   | cons l r ih=>
    rw [List.map_cons,bx,bx,ih]
    have:=BJ l (fun x=>!aQ x lo) k seq
    have e1:fS (fP lo l) k seq=fS l k seq:=by
     unfold fP;rw [this]
     exact if_pos hk
    rw [e1]
  rw [key]
 have hnx:Ct C (file D) s.mem (.mg ⟨false,ij s.mem lo::(cB s).map fun T=>eC T lo,[]⟩) R:=by
  show sP _ _ _ _ _
  unfold sP
  rw [if_neg (by simp)]
  refine ⟨rfl,?_,(s.mem::qs.map (·.2)).map (fP lo),?_,hRp⟩
  ·rw [p1];simp only [List.length_map,List.length_cons];omega
  ·rw [p1]
   show nS _ _ _ (ij s.mem lo::((qs.map (·.1)).map fun T=>eC T lo)) _
   rw [oQ,List.map_cons,List.map_map]
   exact .cons (Ay hm1.srt (fun e he=>by have:=(hm1.seq e he).2;omega) lo) (hm1.srt.sublist List.filter_sublist) (yt lo qs hon)
 obtain ⟨s',o,D',j,k1,k2,k3,k4,k5⟩:=rH (M:=s.mem) (body:=zV hi limit seq) (g:=lP hi limit seq) (Sz:=fun k (s:Sc)=>s.out.length≤k) (N:=1073741824)
  (fun k s' e hk hs=>⟨by unfold zV;rw [if_pos (by rw [bG];omega)],by have:=CE hi limit seq s' e;omega⟩) R gL 0 _ D Gr h.core.ok hR hnx (by rw [bG];omega) (by omega) (by simp [Gr])
 unfold zW
 rw [if_pos (by rw [p1,List.length_map,bG];omega),k1]
 rcases k5 with ⟨e,rfl,k5⟩|⟨rfl,rfl⟩
 ·exact ⟨_,_,rfl,k2,.inl ⟨e,rfl,k5⟩⟩
 ·exact ⟨_,_,rfl,k2,.inr (by rw [JQ hR hRlo hps hvis])⟩
end
end
end Go.Proofs.YtecibefflhomdaaGreatDoor
