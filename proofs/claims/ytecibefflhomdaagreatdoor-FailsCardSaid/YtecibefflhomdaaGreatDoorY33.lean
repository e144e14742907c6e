/-
  Part 33: PLAIN settle; PLAIN flush, compact.
-/
import Derived.Test.YtecibefflhomdaaGreatDoorY32
set_option maxHeartbeats 8000000
set_option maxRecDepth 100000
set_option linter.all false
namespace Go.Proofs.YtecibefflhomdaaGreatDoor
open Go
section
open Go.Proofs.YtecibefflhomdaaGreatDoor.Pure
theorem Alike.refl (s:St):Alike s s:=⟨rfl,rfl,rfl,rfl⟩
theorem Alike.trans {a b c:St} (h:Alike a b) (k:Alike b c):Alike a c:=⟨k.mem.trans h.mem,k.seq.trans h.seq,k.snaps.trans h.snaps,k.snap.trans h.snap⟩
theorem Alike.KG {a b:St} (h:Alike a b):aK b=aK a:=by unfold aK;rw [h.snaps]
theorem fp.cons {ms:List Nat} {A B:List (List az)} (h:fp ms A B) (m:List az):fp ms (m::A) (m::B):=fun k hk x=>by
 rw [bC,bC];exact oD (h k hk x)
section
variable {C:Prop} {s:St} {D:ad} {q0:Nat} {Ls:ga} {bs:List (List bO)} {E:Nat}
theorem After.bind {N1 N2:Nat} {sh1:ga→Prop} {sh2:ga→Prop} {x1:Except cy St} {D1:ad} {f:St→ad→Out St} (h1:After C s D q0 Ls bs E N1 sh1 x1 D1)
 (k:∀ s1 Ls1,x1=.ok s1→jo C s1 D1 q0 Ls1 bs E→fp (aK s) (dx Ls) (dx Ls1)→Alike s s1→s1.number≤s.number+N1→sh1 Ls1→∃ x D',f s1 D1=some (x,D')∧After C s1 D1 q0 Ls1 bs E N2 sh2 x D') :
 ∃ x D',dS (some (x1,D1)) f=some (x,D')∧After C s D q0 Ls bs E (N1+N2) sh2 x D':=by
 obtain ⟨l1,h1⟩:=h1
 rcases h1 with ⟨e,rfl,h2,h3⟩|⟨s1,Ls1,rfl,h2,h3,h4,h5,h6,h7⟩
 ·obtain ⟨c,Ls',bs',h3,h4⟩:=h3
  exact ⟨_,_,rfl,l1,.inl ⟨e,rfl,h2,c,Ls',bs',⟨h3.1,h3.2.more (by omega) (Nat.le_refl _)⟩,h4⟩⟩
 ·obtain ⟨x,D',k1,l2,k2⟩:=k s1 Ls1 rfl h2 h3 h4 h6 h7
  refine ⟨x,D',k1,l1.trans l2,?_⟩
  rw [h4.KG] at k2
  rcases k2 with ⟨e,rfl,k2,c,Ls',bs',k3,k4⟩|⟨s',Ls',rfl,k2,k3,k4,k5,k6,k7⟩
  ·refine .inl ⟨e,rfl,k2.before l1,c,Ls',bs',⟨k3.1,k3.2.more (by omega) (Nat.le_refl _)⟩,?_⟩
   rcases k4 with ⟨k4,k5,k6⟩|⟨k4,k5,k6⟩
   ·exact .inl ⟨k4,k5,h3.trans k6⟩
   ·refine .inr ⟨by rw [k4,h4.seq],k5,?_⟩
    rw [h4.mem] at k6
    exact (h3.cons s.mem).trans k6
  ·exact .inr ⟨s',Ls',rfl,k2,h3.trans k3,h4.trans k4,⟨k5.1.trans h5.1,by rw [h5.1] at k5;exact k5.2.trans h5.2⟩,by omega,k7⟩
theorem After.none (h:jo C s D q0 Ls bs E) {sh:ga→Prop} (hs:sh Ls):After C s D q0 Ls bs E 0 sh (.ok s) D:=
 ⟨cS.refl h.core.ok,.inr ⟨s,Ls,rfl,h,fp.refl _ _,Alike.refl s,⟨rfl,rfl⟩,by omega,hs⟩⟩
theorem After.more {N N':Nat} {sh sh':ga→Prop} {x:Except cy St} {D':ad} (h:After C s D q0 Ls bs E N sh x D') (hN:N≤N') (hs:∀ L,sh L→sh' L):After C s D q0 Ls bs E N' sh' x D':=by
 obtain ⟨l,h⟩:=h
 refine ⟨l,?_⟩
 rcases h with ⟨e,h1,h2,c,Ls',bs',h3,h4⟩|⟨s',Ls',h1,h2,h3,h4,h5,h6,h7⟩
 ·exact .inl ⟨e,h1,h2,c,Ls',bs',⟨h3.1,h3.2.more (by omega) (Nat.le_refl _)⟩,h4⟩
 ·exact .inr ⟨s',Ls',h1,h2,h3,h4,h5,by omega,hs _ h7⟩
theorem CS (h:s.levels=cH Ls) (i:Nat):(s.levels.getD i []).length=(Ls.getD i []).length:=by
 rw [h];unfold cH
 rw [List.getD_eq_getElem?_getD,List.getD_eq_getElem?_getD,List.getElem?_map]
 cases Ls[i]?<;>simp
structure lA (o:ji) (Ls:ga):Prop where
 l0:(Ls.getD 0 []).length<o.tables
 l1:(Ls.getD 1 []).length≤o.tables
 l2:(Ls.getD 2 []).length≤o.tables
theorem pG {o:ji} (ho:1≤o.tables) (h:jo C s D q0 Ls bs E) (ht:total bs=0) (hE:E≤1048576) (hB:bs.length≤16777216) (hnum:s.number+3*E≤4611686018427387904) :
 ∃ x D',mO o s D=some (x,D')∧After C s D q0 Ls bs E (3*E) (lA o) x D':=by
 have oU:∃ x D',(if o.tables≤(s.levels.getD 0 []).length then kP s D 0 1 else some (.ok s,D))=some (x,D')∧After C s D q0 Ls bs E E (fun L=>(L.getD 0 []).length<o.tables) x D':=by
  by_cases hc:o.tables≤(s.levels.getD 0 []).length
  ·rw [if_pos hc]
   obtain ⟨x,D',k1,k2⟩:=rQ h ht (a:=0) (b:=1) (.inl ⟨rfl,.inl rfl⟩) hE hB (by omega)
   refine ⟨x,D',k1,k2.more (Nat.le_refl _) fun L hL=>?_⟩
   obtain ⟨R,ls,_,_,rfl,_⟩:=hL
   simp [gC];omega
  ·rw [if_neg hc]
   exact ⟨_,_,rfl,(After.none h (sh:=fun L=>(L.getD 0 []).length<o.tables) (by rw [← CS h.levels];omega)).more (Nat.zero_le _) fun _ h=>h⟩
 have stp:∀ (i:Nat) (s:St) (D:ad) (Ls:ga) (P:ga→Prop),AJ i (i+1)→i≠0→jo C s D q0 Ls bs E→s.number+E≤4611686018427387904→P Ls→(∀ ls,P Ls→P (gC i (i+1) Ls ls)) →
  ∃ x D',El o i s D=some (x,D')∧After C s D q0 Ls bs E E (fun L=>P L∧(L.getD i []).length≤o.tables) x D':=by
  intro i s D Ls P hi hi0 h hn hP hPn
  unfold El
  by_cases hc:o.tables<(s.levels.getD i []).length
  ·rw [if_pos hc]
   obtain ⟨x,D',k1,k2⟩:=rQ h ht hi hE hB hn
   refine ⟨x,D',k1,k2.more (Nat.le_refl _) fun L hL=>?_⟩
   obtain ⟨R,ls,_,_,rfl,_⟩:=hL
   refine ⟨hPn ls hP,?_⟩
   obtain ⟨L0,L1,L2,L3,rfl⟩:=ep h.core.lv.len
   rcases hi with ⟨rfl,_⟩|⟨rfl,_⟩|⟨rfl,_⟩
   ·exact absurd rfl hi0
   ·simp [gC,List.replicate]
   ·simp [gC,List.replicate]
  ·rw [if_neg hc]
   exact ⟨_,_,rfl,(After.none h (sh:=fun L=>P L∧(L.getD i []).length≤o.tables) ⟨hP,by rw [← CS h.levels];omega⟩).more (Nat.zero_le _) fun _ h=>h⟩
 obtain ⟨x1,D1,a1,a2⟩:=oU
 unfold mO
 rw [a1]
 obtain ⟨x,D',b1,b2⟩:=a2.bind (f:=fun s D=>hO o 2 1 s D) (N2:=2*E) (sh2:=lA o) fun s1 Ls1 _ hr1 _ ha1 hn1 hs1=>by
  obtain ⟨x2,D2,c1,c2⟩:=stp 1 s1 D1 Ls1 (fun L=>(L.getD 0 []).length<o.tables) (.inr (.inl ⟨rfl,rfl⟩)) (by omega) hr1 (by omega) hs1 (fun ls hh=>by
   obtain ⟨L0,L1,L2,L3,rfl⟩:=ep hr1.core.lv.len
   simpa [gC,List.replicate] using hh)
  show ∃ x D',hO o 2 1 s1 D1=some (x,D')∧_
  unfold hO
  rw [c1]
  obtain ⟨x,D',d1,d2⟩:=c2.bind (f:=fun s D=>hO o 1 2 s D) (N2:=E) (sh2:=lA o) fun s2 Ls2 _ hr2 _ ha2 hn2 hs2=>by
   obtain ⟨x3,D3,e1,e2⟩:=stp 2 s2 D2 Ls2 (fun L=>(L.getD 0 []).length<o.tables∧(L.getD 1 []).length≤o.tables) (.inr (.inr ⟨rfl,rfl⟩)) (by omega) hr2 (by omega) hs2 (fun ls hh=>by
    obtain ⟨L0,L1,L2,L3,rfl⟩:=ep hr2.core.lv.len
    simpa [gC,List.replicate] using hh)
   show ∃ x D',hO o 1 2 s2 D2=some (x,D')∧_
   unfold hO
   rw [e1]
   obtain ⟨x,D',f1,f2⟩:=e2.bind (f:=fun s D=>hO o 0 3 s D) (N2:=0) (sh2:=lA o) fun s3 Ls3 _ hr3 _ _ _ hs3=>
    ⟨_,_,rfl,After.none hr3 ⟨hs3.1.1,hs3.1.2,hs3.2⟩⟩
   exact ⟨x,D',f1,f2⟩
  exact ⟨x,D',d1,d2.more (by omega) fun _ h=>h⟩
 exact ⟨x,D',b1,b2.more (by omega) fun _ h=>h⟩
end
theorem qL:∀ (b:List bO) (q:Nat),(∀ c∈b,c.key.length≤8∧c.key≠[])→(∀ c∈b,c.del=false→c.val.length≤16)→q+b.length<18446744073709551616→∀ e∈bj q b,lQ e∧e.key≠[]
 | [],_,_,_,_,e,he=>by cases he
 | c::r,q,h1,h2,hq,e,he=>by
  simp only [List.length_cons] at hq
  rcases List.mem_cons.1 he with rfl|he
  ·exact ⟨⟨(h1 c List.mem_cons_self).1,h2 c List.mem_cons_self,by show q+1<_;omega,(h1 c List.mem_cons_self).2⟩,(h1 c List.mem_cons_self).2⟩
  ·exact qL r (q+1) (fun x hx=>h1 x (List.mem_cons_of_mem _ hx)) (fun x hx=>h2 x (List.mem_cons_of_mem _ hx)) (by omega) e he
theorem AM (b:List az):∀ l:List az,(b.foldl dT l).length=l.length+b.length:=by
 induction b with
 | nil=>intro l;simp
 | cons e r ih=>intro l;rw [List.foldl_cons,ih,lj];simp;omega
theorem pH:∀ (b:List bO) (q:Nat),(bj q b).length=b.length
 | [],_=>rfl
 | c::r,q=>by simp [bj,pH r]
structure AN (q q':Nat) (m:List az):Prop where
 srt:fS m
 seq:∀ x∈m,q<x.seq∧x.seq≤q'
 ents:∀ x∈m,lQ x∧x.key≠[]
theorem AO:∀ (bs:List (List bO)) (q0 q:Nat) (m:List az),(∀ b∈bs,JR b)→q0≤q→AN q0 q m→q+total bs≤4611686018427387904→AN q0 (q+total bs) (gu q bs m)∧(gu q bs m).length=m.length+total bs
 | [],q0,q,m,_,_,h,_=>⟨by simpa [total,gu] using h,by simp [total,gu]⟩
 | b::r,q0,q,m,hb,hq,h,hn=>by
  have ht:total (b::r)=b.length+total r:=by simp [total]
  have hbk:=hb b List.mem_cons_self
  have h1:AN q0 (q+b.length) ((bj q b).foldl dT m):=by
   refine ⟨tP b h.srt fun x hx=>(h.seq x hx).2,fun x hx=>?_,fun x hx=>?_⟩
   ·rcases (qd _).1 hx with hx|hx
    ·have:=pj b q x hx;omega
    ·have:=h.seq x hx;omega
   ·rcases (qd _).1 hx with hx|hx
    ·exact qL b q hbk.key hbk.val (by omega) x hx
    ·exact h.ents x hx
  obtain ⟨k1,k2⟩:=AO r q0 (q+b.length) _ (fun x hx=>hb x (List.mem_cons_of_mem _ hx)) (by omega) h1 (by omega)
  rw [ht,← Nat.add_assoc]
  refine ⟨k1,?_⟩
  show (gu (q+b.length) r _).length=_
  rw [k2,AM,pH];omega
theorem F8 (q:Nat):AN q q []:=⟨List.Pairwise.nil,by simp,by simp⟩
section
variable {C:Prop} {s:St} {D:ad} {q0:Nat} {Ls:ga} {bs:List (List bO)} {E:Nat}
theorem jo.qM (h:jo C s D q0 Ls bs E):AN q0 s.seq s.mem∧s.mem.length=total bs:=by
 obtain ⟨h1,h2⟩:=AO bs q0 q0 [] h.core.bsok (Nat.le_refl _) (F8 q0) h.core.seq
 rw [h.mem,h.seq];exact ⟨h1,by simpa using h2⟩
theorem AP {l:List az} (h:l∈dx Ls) (h4:Ls.length=4):∃ p∈Ls.flatten,l=p.2:=by
 obtain ⟨L0,L1,L2,L3,rfl⟩:=ep h4
 obtain ⟨p,hp,rfl⟩:=List.mem_map.1 h
 refine ⟨p,?_,rfl⟩
 simp at hp ⊢;exact hp
theorem jo.ord (h:jo C s D q0 Ls bs E):Pure.Ord (s.mem::dx Ls):=by
 refine List.pairwise_cons.2 ⟨fun l hl x hx y hy _=>?_,h.core.ord⟩
 obtain ⟨p,hp,rfl⟩:=AP hl h.core.lv.len
 have h1:=h.core.seqs p hp y hy
 have h1:y.seq≤q0:=h1
 have h2:=(h.qM.1.seq x hx).1
 omega
def jX (Ls:ga) (ls:List (cD×List az)):ga:=(Ls.getD 0 []++ls)::Ls.drop 1
theorem AQ (Ls:ga) (ls:List (cD×List az)) (h4:Ls.length=4):dx (jX Ls ls)=ls.reverse.map (·.2)++dx Ls:=by
 obtain ⟨L0,L1,L2,L3,rfl⟩:=ep h4
 simp [dx,jX]
theorem oF (Ls:ga) (ls:List (cD×List az)) (h4:Ls.length=4):∃ X Y,Ls.flatten=X++Y∧(jX Ls ls).flatten=X++ls++Y:=by
 obtain ⟨L0,L1,L2,L3,rfl⟩:=ep h4
 exact ⟨L0,L1++L2++L3,by simp,by simp [jX]⟩
theorem AR (l:List az) (k:Bs) (m:Nat):gd (l.map bG) k m=(gd l k m).map bG:=by
 unfold gd
 rw [List.find?_map]
 congr 1
 have:((fun e:az=>decide (e.key=k)&&decide (e.seq≤m)) ∘ bG)=fun e=>decide (e.key=k)&&decide (e.seq≤m):=by funext e;simp
 rw [this]
theorem xq (x S:Option az):dP ((x.map bG).or S)=dP (x.or S):=by
 cases x with
 | none=>rfl
 | some e=>
  show dP (some (bG e))=dP (some e)
  unfold dP
  dsimp only
  rw [wm]
  cases hd:e.del with
  | true=>rfl
  | false=>simp [bG,hd]
theorem CU {ms:List Nat} {m:List az} {S:List (List az)} {ls:List (cD×List az)} (hm:fS m) (hls:ls.Pairwise fun a b=>vO a.2 b.2) (hl:∀ p∈ls,fS p.2) (he:(ls.map (·.2)).flatten=(dE ms false m).map bG) :
 fp ms (m::S) (ls.reverse.map (·.2)++S):=by
 intro q hq k
 have hR:fS ((dE ms false m).map bG):=Aw (lT hm)
 have hp:((dE ms false m).map bG).Perm (ls.reverse.map (·.2)).flatten:=by
  rw [← he]
  exact ((List.reverse_perm ls).symm.map _).flatten
 have hOr:Pure.Ord (ls.reverse.map (·.2)):=by
  refine List.pairwise_map.2 (List.pairwise_reverse.2 (hls.imp fun {a b} hab x hx y hy hk=>?_))
  have:=hab y hy x hx
  rw [hk,aN] at this;cases this
 have:=uY hR (fun l hl2=>by
  obtain ⟨p,hp,rfl⟩:=List.mem_map.1 hl2
  exact hl p (List.mem_reverse.1 hp)) hOr hp k q
 rw [jT,← this,bC,AR,xq,zC hm hq]
end
end
section
open Go.Proofs.YtecibefflhomdaaGreatDoor.Pure
section
variable {C:Prop} {s:St} {D:ad} {q0:Nat} {Ls:ga} {bs:List (List bO)} {E:Nat}
def MF (C:Prop) (s:St) (D:ad) (q0:Nat) (Ls:ga) (bs:List (List bO)) (E:Nat) (N:Nat) (shape:ga→Prop) (x:Except cy St) (D':ad):Prop:=
 cS D D' ∧
  ((∃ e,x=.error e∧sF C D e∧∃ c Ls' bs',(RecM C D' c Ls' bs' E∧Left D' c (s.number+N) E)∧((c.seq=q0∧bs'=bs∧fp (aK s) (dx Ls) (dx Ls'))∨(c.seq=s.seq∧bs'=[]∧fp (aK s) (s.mem::dx Ls) (dx Ls')))) ∨
   ∃ s' Ls',x=.ok s'∧jo C s' D' s.seq Ls' [] E∧fp (aK s) (s.mem::dx Ls) (dx Ls')∧s'.seq=s.seq∧s'.snaps=s.snaps∧s'.snap=s.snap∧s'.number≤s.number+N∧file D' s'.log=some []∧shape Ls')
theorem F9 {D':ad} {num:Nat} {ls:List (cD×List az)} {fl0:Bs→Option Bs} (h:jo C s D q0 Ls bs E) (hN:F6 5 s.number num (dE (aK s) false s.mem) ls fl0 (file D')) (hnum:num+1≤4611686018427387904) (hd:D'.Ok)
 (hst:file D' aP=some (aD (bT { s with number:=num+1,log:=bR (num+1),levels:=cH (jX Ls ls),mem:=[] })))
 (hlog:file D' (bR (num+1))=some []) (hf:∀ m,m∈bN Ls→file D' m=file D m) :
 RecM C D' { s with number:=num+1,log:=bR (num+1),levels:=cH (jX Ls ls),mem:=[] } (jX Ls ls) [] E:=by
 obtain ⟨X,Y,e1,e2⟩:=oF Ls ls h.core.lv.len
 obtain ⟨hm1,hm2⟩:=h.qM
 have hcn:=hN.cnt
 have hls:∀ p∈ls,∀ e∈p.2,∃ x∈s.mem,e=bG x:=fun p hp e he=>by
  have h1:e∈(ls.map (·.2)).flatten:=List.mem_flatten.2 ⟨p.2,List.mem_map.2 ⟨p,hp,rfl⟩,he⟩
  rw [hN.ents] at h1
  obtain ⟨x,hx,rfl⟩:=List.mem_map.1 h1
  exact ⟨x,(fU _ _ _).subset hx,rfl⟩
 have hseq:=h.seq
 have hq:q0+total bs≤4611686018427387904:=h.core.seq
 refine ⟨hd,rfl,hst,hnum,by show s.seq+total []≤_;simp [total];omega,?_,⟨?_,?_,?_,?_⟩,?_,?_,?_,⟨num+1,Nat.le_refl _,rfl⟩,⟨[],by show file D' (bR (num+1))=_;rw [hlog];rfl,ou⟩,by simp⟩
 ·have h1:=h.core.cntE
  have h2:cnt (jX Ls ls)=(X.map (·.2.length)).sum+(ls.map (·.2.length)).sum+(Y.map (·.2.length)).sum:=by unfold cnt;rw [e2];simp only [List.map_append,List.sum_append]
  have h3:cnt Ls=(X.map (·.2.length)).sum+(Y.map (·.2.length)).sum:=by unfold cnt;rw [e1];simp only [List.map_append,List.sum_append]
  have h4:=iI ls
  rw [hN.ents,List.length_map] at h4
  have h5:=qH (aK s) false s.mem
  show cnt (jX Ls ls)+total []≤E
  simp [total];omega
 ·show (jX Ls ls).length=4
  obtain ⟨L0,L1,L2,L3,rfl⟩:=ep h.core.lv.len
  rfl
 ·intro p hp
  rw [e2] at hp
  simp only [List.mem_append] at hp
  rcases hp with (hp|hp)|hp
  ·obtain ⟨k,k1,k2⟩:=h.core.lv.names p (by rw [e1];exact List.mem_append_left _ hp)
   exact ⟨k,by have k1:k≤s.number:=k1;show k≤num+1;omega,k2⟩
  ·obtain ⟨k,k1,k2,k3⟩:=hN.names p hp
   exact ⟨k,by show k≤num+1;omega,k3⟩
  ·obtain ⟨k,k1,k2⟩:=h.core.lv.names p (by rw [e1];exact List.mem_append_right _ hp)
   exact ⟨k,by have k1:k≤s.number:=k1;show k≤num+1;omega,k2⟩
 ·have hnod:=h.core.lv.nodup
  unfold bN at hnod ⊢
  rw [e1,List.map_append] at hnod
  rw [e2,List.map_append,List.map_append]
  rw [List.nodup_append] at hnod
  rw [List.nodup_append,List.nodup_append]
  have hnew:∀ p∈ls,∀ q∈Ls.flatten,p.1.name≠q.1.name:=fun p hp q hq he=>by
   obtain ⟨k,k1,k2,k3⟩:=hN.names p hp
   obtain ⟨j,j1,j2⟩:=h.core.lv.names q hq
   have j1:j≤s.number:=j1
   have:=fi (k3.symm.trans (he.trans j2)) (by omega) (by omega)
   omega
  refine ⟨⟨hnod.1,hN.nodup,fun x hx y hy he=>?_⟩,hnod.2.1,fun x hx y hy he=>?_⟩
  ·obtain ⟨p,hp,rfl⟩:=List.mem_map.1 hx
   obtain ⟨q,hq,rfl⟩:=List.mem_map.1 hy
   exact hnew q hq p (by rw [e1];exact List.mem_append_left _ hp) he.symm
  ·rcases List.mem_append.1 hx with hx|hx
   ·exact hnod.2.2 x hx y hy he
   ·obtain ⟨p,hp,rfl⟩:=List.mem_map.1 hx
    obtain ⟨q,hq,rfl⟩:=List.mem_map.1 hy
    exact hnew p hp q (by rw [e1];exact List.mem_append_right _ hq) he
 ·intro i L hi hL
  have hsp:=h.core.lv.sep
  obtain ⟨L0,L1,L2,L3,rfl⟩:=ep h.core.lv.len
  cases i with
  | zero=>omega
  | succ i=>exact hsp (i+1) L hi (by simpa [jX] using hL)
 ·intro p hp
  rw [e2] at hp
  simp only [List.mem_append] at hp
  rcases hp with (hp|hp)|hp
  ·have hp2:p∈Ls.flatten:=by rw [e1];exact List.mem_append_left _ hp
   obtain ⟨f,cs,k1,k2⟩:=h.core.on p hp2
   exact ⟨f,cs,by rw [hf _ (List.mem_map.2 ⟨p,hp2,rfl⟩)];exact k1,k2⟩
  ·obtain ⟨f,cs,k1,k2⟩:=hN.on p hp
   exact ⟨f,cs,k1,k2.mono (fun h=>h.elim)⟩
  ·have hp2:p∈Ls.flatten:=by rw [e1];exact List.mem_append_right _ hp
   obtain ⟨f,cs,k1,k2⟩:=h.core.on p hp2
   exact ⟨f,cs,by rw [hf _ (List.mem_map.2 ⟨p,hp2,rfl⟩)];exact k1,k2⟩
 ·intro p hp e he
  show e.seq≤s.seq
  rw [e2] at hp
  simp only [List.mem_append] at hp
  rcases hp with (hp|hp)|hp
  ·have h1:=h.core.seqs p (by rw [e1];exact List.mem_append_left _ hp) e he
   have h1:e.seq≤q0:=h1
   omega
  ·obtain ⟨x,hx,rfl⟩:=hls p hp e he
   rw [ot];exact (hm1.seq x hx).2
  ·have h1:=h.core.seqs p (by rw [e1];exact List.mem_append_right _ hp) e he
   have h1:e.seq≤q0:=h1
   omega
 ·rw [AQ Ls ls h.core.lv.len]
  have hor:=h.ord
  obtain ⟨o1,o2⟩:=List.pairwise_cons.1 hor
  refine List.pairwise_append.2 ⟨?_,o2,fun l hl w hw x hx y hy hk=>?_⟩
  ·refine List.pairwise_map.2 (List.pairwise_reverse.2 (hN.sep.imp fun {a b} hab x hx y hy hk=>?_))
   have:=hab y hy x hx
   rw [hk,aN] at this;cases this
  ·obtain ⟨p,hp,rfl⟩:=List.mem_map.1 hl
   obtain ⟨z,hz,rfl⟩:=hls p (List.mem_reverse.1 hp) x hx
   rw [kn] at hk
   rw [ot]
   exact o1 w hw z hz y hy hk
theorem rR {o:ji} (ho:1≤o.tables) (h:jo C s D q0 Ls bs E) (hE:E≤1048576) (hB:bs.length≤16777216) (hnum:s.number+4*E+1≤4611686018427387904) :
 ∃ x D',mP o s D=some (x,D')∧MF C s D q0 Ls bs E (4*E+1) (lA o) x D':=by
 have hused:=h.used hE hB
 have htab:=h.core.CQ hE
 have hcnt:=h.core.cntE
 obtain ⟨hm1,hm2⟩:=h.qM
 have hseq:=h.seq
 have hq:q0+total bs≤4611686018427387904:=h.core.seq
 have hlat:aG=18446744073709551615:=rfl
 have hml:s.mem.length≤E:=by omega
 have hmom:=sI h.snaps
 have hnx:CI C (file D) s.mem (.one (iq s.mem [])) s.mem:=by
  have:=AI (C:=C) (fl:=file D) hm1.srt (fun e he=>by have:=(hm1.seq e he).2;omega) []
  rw [xo] at this
  exact this
 obtain ⟨x,D1,k1,k2,k3⟩:=xj (s:=s) (nx:=.one (iq s.mem [])) (bt:=false) h.core.ok hm1.srt hnx (by omega) (by have:=h.snaps;omega)
 unfold mP
 rw [if_neg (by rw [bJ];omega),k1]
 rcases k3 with ⟨e,rfl,k3⟩|rfl
 ·exact ⟨_,_,rfl,k2.later,.inl ⟨e,rfl,.inl k3,_,Ls,bs,⟨h.core.files k2.later.ok fun m _=>k2.file m,Nat.le_add_right _ _,by have:=h.grow k2.later.ok (xs:=[]) fun m hm=>.inr (by rw [← k2.file];exact hm);simp only [List.length_nil] at this;omega⟩,.inl ⟨rfl,rfl,fp.refl _ _⟩⟩⟩
 dsimp only [dS]
 have hkl:=qH (aK s) false s.mem
 have hlf:∀ k,(nf k (dE (aK s) false s.mem)).length≤5:=fun k=>Nat.le_trans (Az hm1.srt k) hmom
 have hls:fS (dE (aK s) false s.mem):=lT hm1.srt
 have hlk:∀ e∈dE (aK s) false s.mem,lQ e:=fun e he=>(hm1.ents e ((fU _ _ _).subset he)).1
 have hD1:∀ k,s.number<k→k≤s.number+(dE (aK s) false s.mem).length→file D1 (dp k)=none:=fun k hk hk2=>by rw [k2.file];exact h.Lv hk (by omega)
 have hmv1:=h.moves
 obtain ⟨x,D2,p1,p2,p3,p4,p5,p6⟩:=rL (K:=5) (by omega) (by omega) gW s.number D1 _ [] k2.later.ok hls hlk hlf (by rw [bJ];omega) (by omega) (by simp only [List.length_nil];omega) (by rw [k2.moves];omega) (by rw [k2.used];omega) hD1
 rw [p1]
 have hfar:∀ m,(∀ k,s.number<k→k≤s.number+(dE (aK s) false s.mem).length→m≠dp k)→file D2 m=file D m:=fun m hm=>by rw [p5 m hm,k2.file]
 have hfarN:∀ m,m∈bN Ls→file D2 m=file D m:=fun m hm=>hfar m fun k hk1 hk2 he=>by
  subst he
  obtain ⟨p,hp,hpe⟩:=List.mem_map.1 hm
  obtain ⟨i,hi,hie⟩:=h.core.lv.names p hp
  have hi:i≤s.number:=hi
  have:=fi (hie.symm.trans hpe) (by omega) (by omega)
  omega
 have hlogT:∀ k,s.log≠dp k:=fun k hh=>by
  obtain ⟨j,_,h2⟩:=h.core.log
  have h2:s.log=bR j:=h2
  exact jD k j (hh.symm.trans h2)
 have hfar2:∀ m,pF { s with seq:=q0 } Ls m→file D2 m=file D m:=fun m hm=>by
  rcases hm with hm|hm|hm
  ·exact hfar m fun k _ _ hh=>iG k (hh.symm.trans hm)
  ·have hm:m=s.log:=hm
   exact hfar m fun k _ _ hh=>hlogT k (hm.symm.trans hh)
  ·exact hfarN m hm
 have hgr:∀ m,file D2 m≠none→m∈vQ s.number (dE (aK s) false s.mem).length∨file D m≠none:=fun m hm=>by
  by_cases hh:∃ k,s.number<k∧k≤s.number+(dE (aK s) false s.mem).length∧m=dp k
  ·obtain ⟨k,h1,h2,rfl⟩:=hh
   exact .inl (AL h1 h2)
  ·rw [hfar m fun k h1 h2 he=>hh ⟨k,h1,h2,he⟩] at hm
   exact .inr hm
 rcases p6 with ⟨e,rfl,p6⟩|⟨num,ls,rfl,hN⟩
 ·exact ⟨_,_,rfl,k2.later.trans p2,.inl ⟨e,rfl,(p6.mono fun h=>h.elim).before k2.later,_,Ls,bs,⟨h.core.files p2.ok hfar2,Nat.le_add_right _ _,by have:=h.grow p2.ok hgr;rw [kX] at this;omega⟩,.inl ⟨rfl,rfl,fp.refl _ _⟩⟩⟩
 dsimp only
 rw [List.nil_append]
 have hcn:=hN.cnt
 have hlsS:∀ p∈ls,fS p.2∧p.2≠[]:=fun p hp=>by obtain ⟨f,cs,_,k⟩:=hN.on p hp;exact ⟨k.srt,k.some⟩
 have hlsl:ls.length≤E:=by
  have h1:=iI ls
  rw [hN.ents,List.length_map] at h1
  have key:∀ l:List (cD×List az),(∀ p∈l,p.2≠[])→l.length≤(l.map (·.2.length)).sum:=by
   intro l
   induction l with
   | nil=>intro _;simp
   | cons p r ih=>
    intro hh
    have h1:=ih fun x hx=>hh x (List.mem_cons_of_mem _ hx)
    have h2:0<p.2.length:=List.length_pos_iff.2 (hh p List.mem_cons_self)
    simp only [List.map_cons,List.sum_cons,List.length_cons];omega
  have:=key ls fun p hp=>(hlsS p hp).2
  omega
 have hL0:(s.levels.getD 0 []).length≤1048576:=by
  rw [CS h.levels]
  obtain ⟨L0,L1,L2,L3,hL⟩:=ep h.core.lv.len
  rw [hL] at htab ⊢
  simp only [List.flatten_cons,List.length_append] at htab
  show L0.length≤_
  omega
 rw [if_pos (by rw [List.length_map,bJ];omega)]
 have hlevels:((s.levels.getD 0 []++ls.map (·.1))::s.levels.drop 1:List (List cD))=cH (jX Ls ls):=by
  rw [h.levels]
  obtain ⟨L0,L1,L2,L3,rfl⟩:=ep h.core.lv.len
  simp [cH,jX]
 rw [hlevels]
 have hsame:fp (aK s) (s.mem::dx Ls) (dx (jX Ls ls)):=by
  rw [AQ Ls ls h.core.lv.len]
  exact CU hm1.srt hN.sep (fun p hp=>(hlsS p hp).1) hN.ents
 obtain ⟨k0,hk0,hk1⟩:=h.core.log
 have hk1:s.log=bR k0:=hk1
 have hk0:k0≤s.number:=hk0
 have hfrF:file D2 aY=none:=by rw [hfar _ fun k _ _ hh=>lz k hh.symm];exact h.IM
 have hfrL:file D2 (bR (num+1))=none:=by rw [hfar _ fun k _ _ hh=>jD k _ hh.symm];exact h.Lw (by omega) (by omega)
 obtain ⟨junk,hj1,hj2⟩:=h.logf
 have hlogD2:file D2 s.log=some (bF q0 bs++junk):=by rw [hfar _ fun k _ _ hh=>hlogT k hh];exact hj1
 have hlv0:qI num (jX Ls ls):=by
  obtain ⟨X,Y,e1,e2⟩:=oF Ls ls h.core.lv.len
  refine ⟨?_,?_,?_,?_⟩
  ·obtain ⟨L0,L1,L2,L3,rfl⟩:=ep h.core.lv.len
   rfl
  ·intro p hp
   rw [e2] at hp
   simp only [List.mem_append] at hp
   rcases hp with (hp|hp)|hp
   ·obtain ⟨k,k1,k2⟩:=h.core.lv.names p (by rw [e1];exact List.mem_append_left _ hp)
    exact ⟨k,by have k1:k≤s.number:=k1;omega,k2⟩
   ·obtain ⟨k,k1,k2,k3⟩:=hN.names p hp
    exact ⟨k,k2,k3⟩
   ·obtain ⟨k,k1,k2⟩:=h.core.lv.names p (by rw [e1];exact List.mem_append_right _ hp)
    exact ⟨k,by have k1:k≤s.number:=k1;omega,k2⟩
  ·have hnod:=h.core.lv.nodup
   unfold bN at hnod ⊢
   rw [e1,List.map_append] at hnod
   rw [e2,List.map_append,List.map_append]
   rw [List.nodup_append] at hnod
   rw [List.nodup_append,List.nodup_append]
   have hnew:∀ p∈ls,∀ q∈Ls.flatten,p.1.name≠q.1.name:=fun p hp q hq he=>by
    obtain ⟨k,k1,k2,k3⟩:=hN.names p hp
    obtain ⟨j,j1,j2⟩:=h.core.lv.names q hq
    have j1:j≤s.number:=j1
    have:=fi (k3.symm.trans (he.trans j2)) (by omega) (by omega)
    omega
   refine ⟨⟨hnod.1,hN.nodup,fun x hx y hy he=>?_⟩,hnod.2.1,fun x hx y hy he=>?_⟩
   ·obtain ⟨p,hp,rfl⟩:=List.mem_map.1 hx
    obtain ⟨q,hq,rfl⟩:=List.mem_map.1 hy
    exact hnew q hq p (by rw [e1];exact List.mem_append_left _ hp) he.symm
   ·rcases List.mem_append.1 hx with hx|hx
    ·exact hnod.2.2 x hx y hy he
    ·obtain ⟨p,hp,rfl⟩:=List.mem_map.1 hx
     obtain ⟨q,hq,rfl⟩:=List.mem_map.1 hy
     exact hnew p hp q (by rw [e1];exact List.mem_append_right _ hq) he
  ·intro i L hi hL
   have hsp:=h.core.lv.sep
   obtain ⟨L0,L1,L2,L3,rfl⟩:=ep h.core.lv.len
   cases i with
   | zero=>omega
   | succ i=>exact hsp (i+1) L hi (by simpa [jX] using hL)
 have hlen0:(jX Ls ls).flatten.length≤1048576:=by
  obtain ⟨X,Y,e1,e2⟩:=oF Ls ls h.core.lv.len
  have h1:=uW h.core.on
  have h2:=iI ls
  rw [hN.ents,List.length_map] at h2
  have key:∀ l:List (cD×List az),(∀ p∈l,p.2≠[])→l.length≤(l.map (·.2.length)).sum:=by
   intro l
   induction l with
   | nil=>intro _;simp
   | cons p r ih=>
    intro hh
    have h1:=ih fun x hx=>hh x (List.mem_cons_of_mem _ hx)
    have h2:0<p.2.length:=List.length_pos_iff.2 (hh p List.mem_cons_self)
    simp only [List.map_cons,List.sum_cons,List.length_cons];omega
  have h3:=key ls fun p hp=>(hlsS p hp).2
  rw [e1,List.length_append] at h1
  rw [e2,List.length_append,List.length_append]
  omega
 obtain ⟨x,D3,c1,c2,c3⟩:=nZ (C:=C) (s:={ s with number:=num,levels:=cH (jX Ls ls),mem:=[] }) (Ls:=jX Ls ls) rfl hlv0 hlen0 (by show num+1≤_;omega) (by show s.seq≤_;omega) p2.ok hfrF hfrL (.inr ⟨k0,_,by show k0≤num;omega,hk1,hlogD2⟩) (by rw [k2.moves] at p3;omega) (by rw [k2.used] at p4;omega)
 have l2:=k2.later.trans p2
 rw [c1]
 have hlogne:s.log≠bR (num+1):=fun hh=>by have:=nY (hk1.symm.trans hh) (by omega) (by omega);omega
 have hnew:∀ D':ad,D'.Ok→file D' aP=some (aD (bT { s with number:=num+1,log:=bR (num+1),levels:=cH (jX Ls ls),mem:=[] }))→file D' (bR (num+1))=some [] →
  (∀ m,m≠aP→m≠bR (num+1)→m≠s.log→file D' m=file D2 m)→RecM C D' { s with number:=num+1,log:=bR (num+1),levels:=cH (jX Ls ls),mem:=[] } (jX Ls ls) [] E:=by
  intro D' hd' hs' hl' hf'
  have hN':F6 5 s.number num (dE (aK s) false s.mem) ls (fun _=>some []) (file D'):=by
   refine ⟨hN.ents,hN.cnt,hN.names,hN.nodup,fun p hp=>?_,hN.sep,hN.Lb,fun m hm=>.inl (by simp)⟩
   obtain ⟨f,cs,q1,q2⟩:=hN.on p hp
   obtain ⟨k,n1,n2,n3⟩:=hN.names p hp
   exact ⟨f,cs,by rw [hf' _ (by rw [n3];exact iG k) (by rw [n3];exact jD k _) (by rw [n3];exact (hlogT k).symm)];exact q1,q2⟩
  refine F9 h hN' (by omega) hd' hs' hl' fun m hm=>?_
  rw [hf' m (fun hh=>fX h.core.lv (by rw [← hh];exact hm)) (fun hh=>ea h.core.lv (num+1) (by rw [← hh];exact hm)) (fun hh=>ea h.core.lv k0 (by rw [← hk1,← hh];exact hm))]
  exact hfarN m hm
 rcases c3 with ⟨rfl,c3,c4⟩|⟨e,rfl,c3,c4⟩
 ·dsimp only
  have hrun:jo C { s with number:=num+1,log:=bR (num+1),levels:=cH (jX Ls ls),mem:=[] } D3 s.seq (jX Ls ls) [] E:=by
   refine ⟨?_,rfl,by simp [total],?_,?_,by omega,h.snaps⟩
   ·exact hnew D3 c2.ok (by rw [c4,if_pos rfl]) (by rw [c4,if_neg (eN _)];exact if_pos rfl) fun m h1 h2 h3=>by
     rw [c4,if_neg h1]
     exact (if_neg h2).trans (if_neg h3)
   ·refine ⟨[],?_,by simp⟩
    show file D3 (bR (num+1))=_
    rw [c4,if_neg (eN _)];exact if_pos rfl
   ·intro m hm
    show m=aP∨m=bR (num+1)∨_
    rw [c4] at hm
    by_cases h1:m=aP
    ·exact .inl h1
    rw [if_neg h1] at hm
    by_cases h2:m=bR (num+1)
    ·exact .inr (.inl h2)
    have hm:=(if_neg h2:(if m=bR (num+1) then some [] else if m=s.log then none else file D2 m)=_)▸hm
    by_cases h3:m=s.log
    ·exact absurd (if_pos h3) hm
    rw [if_neg h3] at hm
    refine .inr (.inr ?_)
    obtain ⟨X,Y,e1,e2⟩:=oF Ls ls h.core.lv.len
    unfold bN
    rw [e2,List.map_append,List.map_append,List.mem_append,List.mem_append]
    rcases hN.known m hm with h4|h4
    ·rw [k2.file] at h4
     rcases h.known m h4 with h4|h4|h4
     ·exact absurd h4 h1
     ·exact absurd h4 h3
     ·unfold bN at h4
      rw [e1,List.map_append,List.mem_append] at h4
      rcases h4 with h4|h4
      ·exact .inl (.inl h4)
      ·exact .inr h4
    ·exact .inl (.inr h4)
  obtain ⟨x,D4,s1,l3,s2⟩:=pG ho hrun (by simp [total]) hE (by simp) (by show num+1+3*E≤_;omega)
  rw [s1]
  refine ⟨x,D4,rfl,(l2.trans c2).trans l3,?_⟩
  have hmo:aK { s with number:=num+1,log:=bR (num+1),levels:=cH (jX Ls ls),mem:=[] }=aK s:=rfl
  rw [hmo] at s2
  rcases s2 with ⟨e,rfl,s2,c,Ls',bs',s3,s4⟩|⟨s',Ls',rfl,s2,s3,s4,s5,s6,s7⟩
  ·refine .inl ⟨e,rfl,s2.before (l2.trans c2),c,Ls',bs',⟨s3.1,s3.2.more (by show num+1+3*E≤_;omega) (Nat.le_refl _)⟩,.inr ?_⟩
   rcases s4 with ⟨s4,s5,s6⟩|⟨s4,s5,s6⟩
   ·exact ⟨s4,s5,hsame.trans s6⟩
   ·refine ⟨s4,s5,hsame.trans (fp.trans (fun m hm k=>?_) s6)⟩
    show dP (fa ([]::dx (jX Ls ls)) k m)=_
    rw [bC];rfl
  ·exact .inr ⟨s',Ls',rfl,s2,hsame.trans s3,s4.seq,s4.snaps,s4.snap,by have s6:s'.number≤num+1+3*E:=s6;omega,by
    rw [s5.1,s5.2];show file D3 (bR (num+1))=_;rw [c4,if_neg (eN _)];exact if_pos rfl,s7⟩
 ·refine ⟨_,_,rfl,l2.trans c2,.inl ⟨e,rfl,c3.before l2,?_⟩⟩
  rcases c4 with c4|c4
  ·have hg4:=h.grow c2.ok (xs:=aY::bR (num+1)::vQ s.number (dE (aK s) false s.mem).length) fun m hm=>by
    by_cases hms:m=aY
    ·rw [hms];exact .inl List.mem_cons_self
    by_cases hml:m=bR (num+1)
    ·rw [hml];exact .inl (List.mem_cons_of_mem _ List.mem_cons_self)
    ·rw [c4 m hms hml] at hm
     rcases hgr m hm with hm|hm
     ·exact .inl (List.mem_cons_of_mem _ (List.mem_cons_of_mem _ hm))
     ·exact .inr hm
   rw [List.length_cons,List.length_cons,kX] at hg4
   refine ⟨_,Ls,bs,⟨h.core.files c2.ok fun m hm=>?_,Nat.le_add_right _ _,by omega⟩,.inl ⟨rfl,rfl,fp.refl _ _⟩⟩
   have h1:m≠aY:=fun hh=>by
    rcases hm with hm|hm|hm
    ·exact iH (hh.symm.trans hm)
    ·have hm:m=s.log:=hm
     exact jE k0 (hk1.symm.trans (hm.symm.trans hh))
    ·exact gU h.core.lv (by rw [← hh];exact hm)
   have h2:m≠bR (num+1):=fun hh=>by
    rcases hm with hm|hm|hm
    ·exact eN _ (hh.symm.trans hm)
    ·have hm:m=s.log:=hm
     exact hlogne (hm.symm.trans hh)
    ·exact ea h.core.lv (num+1) (by rw [← hh];exact hm)
   rw [c4 m h1 h2];exact hfar2 m hm
  ·have hg4:=h.grow c2.ok (xs:=bR (num+1)::vQ s.number (dE (aK s) false s.mem).length) fun m hm=>by
    by_cases hms:m=aP
    ·rw [hms];exact .inr (by have hst:file D aP=some (aD (bT { s with seq:=q0 })):=h.core.state
                             rw [hst];simp)
    by_cases hml:m=bR (num+1)
    ·rw [hml];exact .inl List.mem_cons_self
    ·rw [c4,if_neg hms] at hm
     have hm:file D2 m≠none:=fun hh=>hm ((if_neg hml).trans hh)
     rcases hgr m hm with hm|hm
     ·exact .inl (List.mem_cons_of_mem _ hm)
     ·exact .inr hm
   rw [List.length_cons,kX] at hg4
   exact ⟨_,_,[],⟨hnew D3 c2.ok (by rw [c4,if_pos rfl]) (by rw [c4,if_neg (eN _)];exact if_pos rfl) (fun m h1 h2 _=>by
    rw [c4,if_neg h1];exact if_neg h2),by show num+1≤_;omega,by omega⟩,.inr ⟨rfl,rfl,hsame⟩⟩
end
end
end Go.Proofs.YtecibefflhomdaaGreatDoor
