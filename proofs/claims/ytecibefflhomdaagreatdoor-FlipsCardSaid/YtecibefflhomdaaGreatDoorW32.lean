/-
  Part 32: PLAIN a merge; PLAIN merge, settle.
-/
import Derived.Test.YtecibefflhomdaaGreatDoorW31
set_option maxHeartbeats 8000000
set_option maxRecDepth 100000
set_option linter.all false
namespace Go.Proofs.YtecibefflhomdaaGreatDoor
open Go
section
open Go.Proofs.YtecibefflhomdaaGreatDoor.Pure
theorem rK:∀ (l:List ay),l.Pairwise (fun a b=>¬ (a.key=b.key∧a.seq=b.seq))→∃ R,fJ R∧R.Perm l
 | [],_=>⟨[],List.Pairwise.nil,.refl _⟩
 | e::l,h=>by
  obtain ⟨h1,h2⟩:=List.pairwise_cons.1 h
  obtain ⟨R,k1,k2⟩:=rK l h2
  refine ⟨dG R e,nz k1 fun x hx hh=>h1 x (k2.mem_iff.1 hx) ⟨hh.1.symm,hh.2.symm⟩,?_⟩
  refine List.Perm.trans ?_ (k2.cons e)
  unfold dG
  refine List.perm_middle.trans (List.Perm.cons e ?_)
  rw [List.take_append_drop]
theorem oP {ls:List (List ay)} (hs:∀ l∈ls,fJ l) (ho:Ord ls):ls.flatten.Pairwise fun a b=>¬ (a.key=b.key∧a.seq=b.seq):=by
 rw [List.pairwise_flatten]
 refine ⟨fun l hl=>(hs l hl).imp fun {a b} hab hh=>?_,ho.imp fun {a b} hab x hx y hy hh=>?_⟩
 ·rcases bK.1 hab with h|h
  ·rw [hh.1,aM] at h;cases h
  ·omega
 ·have:=hab x hx y hy hh.1;omega
theorem w9:∀ (ls:List (List ay)) (k:Bs) (m:Nat),eW ls k m=fS ls.flatten k m
 | [],_,_=>rfl
 | l::ls,k,m=>by rw [bx,List.flatten_cons,oq,w9 ls]
theorem uW {R:List ay} {M:List (List ay)} (hR:fJ R) (hs:∀ l∈M,fJ l) (ho:Ord M) (hp:R.Perm M.flatten) (k:Bs) (m:Nat):fS R k m=eW M k m:=
 BI hs ho hR (fun e=>by rw [hp.mem_iff,List.mem_flatten]) k m
theorem xa (l:List ay):fP [] l=l:=List.filter_eq_self.2 fun e _=>by rw [zo];rfl
theorem kX.mono {C C':Prop} {f:Bs} {T:cO} {l:List ay} {cs:List (List ay)} (hc:C→C') (h:kX C f T l cs):kX C' f T l cs:=
 ⟨h.flat,h.ne,h.sep,h.some,h.srt,h.ents,h.BO,h.lay.imp hc id,h.head.imp id fun h=>⟨hc h.1,h.2⟩,h.small,h.count,h.size,fun A c B e=>(h.blk A c B e).imp id fun h=>⟨hc h.1,h.2⟩⟩
theorem L8.mono {C C':Prop} {fl:Bs→Option Bs} {Ls:fW} (hc:C→C') (h:L8 C fl Ls):L8 C' fl Ls:=fun p hp=>by
 obtain ⟨f,cs,h1,h2⟩:=h p hp;exact ⟨f,cs,h1,h2.mono hc⟩
theorem Ir {C:Prop} {fl:Bs→Option Bs} {M:List ay} {f:Bs} {T:cO} {l:List ay} {cs:List (List ay)} (h1:fl T.name=some f) (h:kX C f T l cs) (key:Bs):Aj C fl M (eC T key) (fP key l):=by
 obtain ⟨A,c,B,e1,e2,e3,e4⟩:=wS h key
 have hA:A.length≤cs.length:=by rw [e1];simp
 refine ⟨f,l,cs,h1,h,by rw [← e2];exact hA,?_,?_⟩
 ·have hc:=h.count
  rw [← h.flat,← List.take_append_drop (jV T key) cs,List.flatten_append,List.length_append] at hc
  simp only [List.length_nil];omega
 ·rw [List.nil_append,← e2]
  have e5:l=A.flatten++(cs.drop A.length).flatten:=by rw [← h.flat,← List.flatten_append,e1,List.drop_left]
  conv=>lhs;rw [e5]
  unfold fP
  rw [List.filter_append,List.filter_eq_nil_iff.2 fun x hx=>by rw [e3 x hx];simp,List.nil_append]
theorem Ay {C:Prop} {fl:Bs→Option Bs} {M:List ay} (hM:fJ M) (hs:∀ e∈M,e.seq≤aH) (key:Bs):Aj C fl M (ij M key) (fP key M):=by
 obtain ⟨h1,h2⟩:=my (e:=⟨key,[],false,aH⟩) hM
 show fP key M=M.drop (aY M ⟨key,[],false,aH⟩)
 generalize aY M ⟨key,[],false,aH⟩=i at h1 h2
 conv=>lhs;rw [← List.take_append_drop i M]
 unfold fP
 rw [List.filter_append,List.filter_eq_nil_iff.2 fun x hx=>?_,List.nil_append,List.filter_eq_self.2 fun x hx=>?_]
 ·cases hb:aQ x.key key with
  | false=>rfl
  | true=>have:=h2 x hx;rw [bK.2 (.inl hb)] at this;cases this
 ·rcases bK.1 (h1 x hx) with h|h
  ·have h:aQ x.key key=true:=h
   rw [h];simp
  ·have:=hs x (List.mem_of_mem_take hx)
   have h:aH<x.seq:=h.2
   omega
theorem yt {C:Prop} {fl:Bs→Option Bs} {M:List ay} (key:Bs):∀ (ps:List (cO×List ay)),(∀ p∈ps,∃ f cs,fl p.1.name=some f∧kX C f p.1 p.2 cs)→nS C fl M (ps.map fun p=>eC p.1 key) (ps.map fun p=>fP key p.2)
 | [],_=>.nil
 | p::ps,h=>by
  obtain ⟨f,cs,h1,h2⟩:=h p List.mem_cons_self
  exact .cons (Ir h1 h2 key) (h2.srt.sublist List.filter_sublist) (yt key ps fun q hq=>h q (List.mem_cons_of_mem _ hq))
def fA (a b:Nat) (Ls:fW):List (cO×List ay):=((Ls.take (b+1)).drop a).flatten
def gq (a b:Nat) (Ls:fW) (ls:List (cO×List ay)):fW:=Ls.take a++List.replicate (b-a) []++ls::Ls.drop (b+1)
abbrev Az (a b:Nat):Prop:=(a=0∧(b=1∨b=3))∨(a=1∧b=2)∨(a=2∧b=3)
theorem dY {α:Type} {l:List α} (h:l.length=4):∃ a b c d,l=[a,b,c,d]:=by
 match l,h with
 | [a,b,c,d],_=>exact ⟨a,b,c,d,rfl⟩
def yu (b:Nat) (Ls:fW):Bool:=(Ls.drop (b+1)).all List.isEmpty
theorem uX {a b:Nat} {Ls:fW} (h4:Ls.length=4) (hab:Az a b):∃ U M W,dj Ls=U++M++W∧M.Perm ((fA a b Ls).map (·.2))∧(∀ ls,dj (gq a b Ls ls)=U++ls.map (·.2)++W)∧(yu b Ls=true→W=[]):=by
 obtain ⟨L0,L1,L2,L3,rfl⟩:=dY h4
 rcases hab with ⟨rfl,rfl|rfl⟩|⟨rfl,rfl⟩|⟨rfl,rfl⟩
 ·refine ⟨[],(L0.reverse++L1).map (·.2),(L2++L3).map (·.2),by simp [dj],?_,fun ls=>by simp [dj,gq],fun h=>?_⟩
  ·simp only [fA,List.map_append]
   simp
   exact (List.reverse_perm _).append_right _
  ·simp [yu] at h;simp [h.1,h.2]
 ·refine ⟨[],(L0.reverse++L1++L2++L3).map (·.2),[],by simp [dj],?_,fun ls=>by simp [dj,gq],fun h=>rfl⟩
  simp [fA]
  exact (List.reverse_perm _).append_right _
 ·refine ⟨L0.reverse.map (·.2),(L1++L2).map (·.2),L3.map (·.2),by simp [dj],by simp [fA],fun ls=>by simp [dj,gq],fun h=>?_⟩
  simp [yu] at h;simp [h]
 ·exact ⟨(L0.reverse++L1).map (·.2),(L2++L3).map (·.2),[],by simp [dj],by simp [fA],fun ls=>by simp [dj,gq],fun h=>rfl⟩
theorem rL {a b:Nat} {Ls:fW} (h4:Ls.length=4) (hab:Az a b):∃ X Y,Ls.flatten=X++fA a b Ls++Y∧∀ ls,(gq a b Ls ls).flatten=X++ls++Y:=by
 obtain ⟨L0,L1,L2,L3,rfl⟩:=dY h4
 rcases hab with ⟨rfl,rfl|rfl⟩|⟨rfl,rfl⟩|⟨rfl,rfl⟩
 ·exact ⟨[],L2++L3,by simp [fA],fun ls=>by simp [gq]⟩
 ·exact ⟨[],[],by simp [fA],fun ls=>by simp [gq]⟩
 ·exact ⟨L0,L3,by simp [fA],fun ls=>by simp [gq]⟩
 ·exact ⟨L0++L1,[],by simp [fA],fun ls=>by simp [gq]⟩
theorem Is {a b:Nat} {Ls:fW} (h4:Ls.length=4) (hab:Az a b) (ls:List (cO×List ay)):(gq a b Ls ls).length=4:=by
 obtain ⟨L0,L1,L2,L3,rfl⟩:=dY h4
 rcases hab with ⟨rfl,rfl|rfl⟩|⟨rfl,rfl⟩|⟨rfl,rfl⟩<;>simp [gq]
theorem Iu {a b:Nat} {Ls:fW} (h4:Ls.length=4) (hab:Az a b) {ls:List (cO×List ay)} {P:List (cO×List ay)→Prop} (h0:P []) (h1:P ls) (h:∀ i L,1≤i→Ls[i]?=some L→P L):∀ i L,1≤i→(gq a b Ls ls)[i]?=some L→P L:=by
 obtain ⟨L0,L1,L2,L3,rfl⟩:=dY h4
 have k1:=h 1 L1 (by omega) rfl
 have k2:=h 2 L2 (by omega) rfl
 have k3:=h 3 L3 (by omega) rfl
 intro i L hi hL
 rcases hab with ⟨rfl,rfl|rfl⟩|⟨rfl,rfl⟩|⟨rfl,rfl⟩<;>simp [gq,List.replicate] at hL<;>(match i,hi,hL with
  | 1,_,hL=>simp at hL;subst hL;assumption
  | 2,_,hL=>simp at hL;subst hL;assumption
  | 3,_,hL=>simp at hL;subst hL;assumption
  | i+4,_,hL=>simp at hL)
theorem FD {a b:Nat} {Ls:fW} (ls:List (cO×List ay)):cA (gq a b Ls ls)=(cA Ls).take a++List.replicate (b-a) []++ls.map (·.1)::(cA Ls).drop (b+1):=by
 simp [cA,gq,List.map_take,List.map_drop]
theorem qH {a b:Nat} {s:St} {Ls:fW} (h:s.levels=cA Ls):je s a b=(fA a b Ls).map (·.1):=by
 unfold je fA;rw [h];unfold cA;rw [← List.map_take,← List.map_drop,List.map_flatten]
theorem Iv {b:Nat} {s:St} {Ls:fW} (h:s.levels=cA Ls):mM s b=yu b Ls:=by
 unfold mM yu;rw [h];unfold cA;rw [← List.map_drop,List.all_map]
 congr 1
 funext l;cases l<;>rfl
def e9 (ms:List Nat) (A B:List (List ay)):Prop:=∀ m∈ms,∀ k,dB (eW B k m)=dB (eW A k m)
theorem e9.refl (ms:List Nat) (A:List (List ay)):e9 ms A A:=fun _ _ _=>rfl
theorem e9.trans {ms:List Nat} {A B D:List (List ay)} (h:e9 ms A B) (k:e9 ms B D):e9 ms A D:=fun m hm x=>(k m hm x).trans (h m hm x)
theorem oz {a b c:Option ay} (h:dB b=dB c):dB (a.or b)=dB (a.or c):=by cases a with|none=>exact h|some x=>rfl
theorem Kg {U M W N:List (List ay)} (ho:Ord (U++M++W)) (hN:Ord N) (hs:∀ l∈N,∀ e∈l,∃ l'∈M,e∈l'):Ord (U++N++W):=by
 unfold Pure.Ord at *
 rw [List.pairwise_append,List.pairwise_append] at ho ⊢
 obtain ⟨⟨h1,h2,h3⟩,h4,h5⟩:=ho
 refine ⟨⟨h1,hN,fun u hu n hn x hx y hy hk=>?_⟩,h4,fun u hu w hw x hx y hy hk=>?_⟩
 ·obtain ⟨l',hl',hy'⟩:=hs n hn y hy
  exact h3 u hu l' hl' x hx y hy' hk
 ·rcases List.mem_append.1 hu with hu|hu
  ·exact h5 u (List.mem_append_left _ hu) w hw x hx y hy hk
  ·obtain ⟨l',hl',hx'⟩:=hs u hu x hx
   exact h5 l' (List.mem_append_right _ hl') w hw x hx' y hy hk
theorem Kh {ls:List (List ay)} (h:ls.Pairwise vM):Ord ls:=h.imp fun {a b} hab x hx y hy hk=>by
 have:=hab x hx y hy;rw [hk,aM] at this;cases this
theorem AA {ms:List Nat} {U M W:List (List ay)} {R:List ay} {bt:Bool} {N:List (List ay)} (ho:Ord (U++M++W)) (hs:∀ l∈M,fJ l) (hR:fJ R) (hp:R.Perm M.flatten) (hW:bt=true→W=[]) (hN:N.flatten=ey ms bt R) :
 e9 ms (U++M++W) (U++N++W):=by
 intro m hm k
 have hoM:Ord M:=(List.pairwise_append.1 (List.pairwise_append.1 ho).1).2.1
 rw [jL,jL,jL,jL,← uW hR hs hoM hp,w9 N,hN]
 rw [Option.or_assoc,Option.or_assoc]
 cases bt with
 | false=>rw [zr hR hm]
 | true=>
  rw [hW rfl]
  refine oz ?_
  show dB ((fS _ k m).or none)=dB ((fS R k m).or none)
  rw [Option.or_none,Option.or_none]
  exact He hR hm
theorem oA {ms:List Nat} {bt:Bool} {R:List ay} (h:∀ e∈R,bD e=e):(ey ms bt R).map bD=ey ms bt R:=Ai fun e he=>h e ((fK ms bt R).subset he)
theorem rM {Ls:fW} {X M Y:List (cO×List ay)} (h:Ls.flatten=X++M++Y):cnt Ls=(X.map (·.2.length)).sum+(M.map (·.2.length)).sum+(Y.map (·.2.length)).sum:=by
 unfold cnt;rw [h];simp only [List.map_append,List.sum_append]
theorem jx (l:List (cO×List ay)):(l.map (·.2)).flatten.length=(l.map (·.2.length)).sum:=by
 rw [List.length_flatten,List.map_map];rfl
def hJ (s:St) (a b num:Nat) (Ls:fW) (ls:List (cO×List ay)):St:={ s with number:=num,levels:=cA (gq a b Ls ls) }
theorem xd {C:Prop} {s:St} {D:ad} {q0:Nat} {Ls:fW} {bs:List (List bX)} {E a b:Nat} {R:List ay} {K num:Nat} {bt:Bool} {ms:List Nat} {ls:List (cO×List ay)} {fl0 fl:Bs→Option Bs}
 (h:RecM C D { s with seq:=q0 } Ls bs E) (hab:Az a b) (hR:fJ R) (hp:R.Perm ((fA a b Ls).map (·.2)).flatten) (hN:FB K s.number num (ey ms bt R) ls fl0 fl) (hnum:num≤4611686018427387904) :
 cnt (gq a b Ls ls)+total bs≤E∧qF num (gq a b Ls ls):=by
 obtain ⟨X,Y,e1,e2⟩:=rL h.lv.len hab
 obtain ⟨U,M,W,s1,s2,s3,s4⟩:=uX h.lv.len hab
 have hRm:∀ e∈R,∃ p∈fA a b Ls,e∈p.2:=fun e he=>by
  obtain ⟨l,hl,hel⟩:=List.mem_flatten.1 (hp.mem_iff.1 he)
  obtain ⟨p,hp2,rfl⟩:=List.mem_map.1 hl
  exact ⟨p,hp2,hel⟩
 have hmid:∀ p∈fA a b Ls,p∈Ls.flatten:=fun p hp=>by rw [e1];simp only [List.mem_append];exact .inl (.inr hp)
 have hRn:∀ e∈R,lx e∧bD e=e:=fun e he=>by
  obtain ⟨p,hp,hep⟩:=hRm e he
  obtain ⟨f,cs,_,k⟩:=h.on p (hmid p hp)
  exact k.ents e hep
 have hls:∀ p∈ls,∀ e∈p.2,e∈R:=fun p hp e he=>by
  have h1:e∈(ls.map (·.2)).flatten:=List.mem_flatten.2 ⟨p.2,List.mem_map.2 ⟨p,hp,rfl⟩,he⟩
  rw [hN.ents,oA fun e he=>(hRn e he).2] at h1
  exact (fK _ _ _).subset h1
 have hcn:=hN.cnt
 have hnames:bO Ls=X.map (·.1.name)++(fA a b Ls).map (·.1.name)++Y.map (·.1.name):=by unfold bO;rw [e1];simp
 have hnod:=h.lv.nodup
 rw [hnames] at hnod
 have hX:∀ p∈X,p.1.name ∉ (fA a b Ls).map (·.1.name):=fun p hp hm=>by
  rw [List.nodup_append,List.nodup_append] at hnod
  exact hnod.1.2.2 _ (List.mem_map.2 ⟨p,hp,rfl⟩) _ hm rfl
 have hY:∀ p∈Y,p.1.name ∉ (fA a b Ls).map (·.1.name):=fun p hp hm=>by
  rw [List.nodup_append] at hnod
  exact hnod.2.2 _ (List.mem_append_right _ hm) _ (List.mem_map.2 ⟨p,hp,rfl⟩) rfl
 refine ⟨?_,Is h.lv.len hab ls,?_,?_,?_⟩
 ·have h1:=h.cntE
  rw [rM e1] at h1
  rw [rM (e2 ls)]
  have h2:=jx ls
  rw [hN.ents,List.length_map] at h2
  have h3:=qE ms bt R
  have h4:=hp.length_eq
  rw [jx] at h4
  omega
 ·intro p hp
  rw [e2 ls] at hp
  simp only [List.mem_append] at hp
  rcases hp with (hp|hp)|hp
  ·obtain ⟨k,k1,k2⟩:=h.lv.names p (by rw [e1];simp only [List.mem_append];exact .inl (.inl hp))
   exact ⟨k,by have k1:k≤s.number:=k1;show k≤num;omega,k2⟩
  ·obtain ⟨k,k1,k2,k3⟩:=hN.names p hp
   exact ⟨k,k2,k3⟩
  ·obtain ⟨k,k1,k2⟩:=h.lv.names p (by rw [e1];simp only [List.mem_append];exact .inr hp)
   exact ⟨k,by have k1:k≤s.number:=k1;show k≤num;omega,k2⟩
 ·unfold bO
  rw [e2 ls]
  simp only [List.map_append]
  rw [List.nodup_append,List.nodup_append] at hnod ⊢
  have hnew:∀ p∈ls,∀ q∈Ls.flatten,p.1.name≠q.1.name:=fun p hp q hq he=>by
   obtain ⟨k,k1,k2,k3⟩:=hN.names p hp
   obtain ⟨j,j1,j2⟩:=h.lv.names q hq
   have j1:j≤s.number:=j1
   have:=eY (k3.symm.trans (he.trans j2)) (by omega) (by omega)
   omega
  refine ⟨⟨hnod.1.1,hN.nodup,fun x hx y hy he=>?_⟩,hnod.2.1,fun x hx y hy he=>?_⟩
  ·obtain ⟨p,hp,rfl⟩:=List.mem_map.1 hx
   obtain ⟨q,hq,rfl⟩:=List.mem_map.1 hy
   exact hnew q hq p (by rw [e1];simp only [List.mem_append];exact .inl (.inl hp)) he.symm
  ·rcases List.mem_append.1 hx with hx|hx
   ·exact hnod.2.2 x (List.mem_append_left _ hx) y hy he
   ·obtain ⟨p,hp,rfl⟩:=List.mem_map.1 hx
    obtain ⟨q,hq,rfl⟩:=List.mem_map.1 hy
    exact hnew p hp q (by rw [e1];simp only [List.mem_append];exact .inr hq) he
 ·exact Iu h.lv.len hab .nil hN.sep h.lv.sep
theorem CB {C:Prop} {s:St} {D D':ad} {q0:Nat} {Ls:fW} {bs:List (List bX)} {E a b:Nat} {R:List ay} {K num:Nat} {bt:Bool} {ms:List Nat} {ls:List (cO×List ay)} {fl0:Bs→Option Bs}
 (h:RecM C D { s with seq:=q0 } Ls bs E) (hab:Az a b) (hR:fJ R) (hp:R.Perm ((fA a b Ls).map (·.2)).flatten) (hN:FB K s.number num (ey ms bt R) ls fl0 (file D')) (hnum:num≤4611686018427387904)
 (hd:D'.Ok) (hst:file D' aN=some (az (bL { hJ s a b num Ls ls with seq:=q0 }))) (hf:∀ m,(m=s.log∨(m∈bO Ls∧m ∉ (fA a b Ls).map (·.1.name)))→file D' m=file D m) :
 RecM C D' { hJ s a b num Ls ls with seq:=q0 } (gq a b Ls ls) bs E:=by
 obtain ⟨X,Y,e1,e2⟩:=rL h.lv.len hab
 obtain ⟨U,M,W,s1,s2,s3,s4⟩:=uX h.lv.len hab
 have hRm:∀ e∈R,∃ p∈fA a b Ls,e∈p.2:=fun e he=>by
  obtain ⟨l,hl,hel⟩:=List.mem_flatten.1 (hp.mem_iff.1 he)
  obtain ⟨p,hp2,rfl⟩:=List.mem_map.1 hl
  exact ⟨p,hp2,hel⟩
 have hmid:∀ p∈fA a b Ls,p∈Ls.flatten:=fun p hp=>by rw [e1];simp only [List.mem_append];exact .inl (.inr hp)
 have hRn:∀ e∈R,lx e∧bD e=e:=fun e he=>by
  obtain ⟨p,hp,hep⟩:=hRm e he
  obtain ⟨f,cs,_,k⟩:=h.on p (hmid p hp)
  exact k.ents e hep
 have hls:∀ p∈ls,∀ e∈p.2,e∈R:=fun p hp e he=>by
  have h1:e∈(ls.map (·.2)).flatten:=List.mem_flatten.2 ⟨p.2,List.mem_map.2 ⟨p,hp,rfl⟩,he⟩
  rw [hN.ents,oA fun e he=>(hRn e he).2] at h1
  exact (fK _ _ _).subset h1
 have hcn:=hN.cnt
 have hnames:bO Ls=X.map (·.1.name)++(fA a b Ls).map (·.1.name)++Y.map (·.1.name):=by unfold bO;rw [e1];simp
 have hnod:=h.lv.nodup
 rw [hnames] at hnod
 have hX:∀ p∈X,p.1.name ∉ (fA a b Ls).map (·.1.name):=fun p hp hm=>by
  rw [List.nodup_append,List.nodup_append] at hnod
  exact hnod.1.2.2 _ (List.mem_map.2 ⟨p,hp,rfl⟩) _ hm rfl
 have hY:∀ p∈Y,p.1.name ∉ (fA a b Ls).map (·.1.name):=fun p hp hm=>by
  rw [List.nodup_append] at hnod
  exact hnod.2.2 _ (List.mem_append_right _ hm) _ (List.mem_map.2 ⟨p,hp,rfl⟩) rfl
 obtain ⟨hc,hlvn⟩:=xd h hab hR hp hN hnum
 refine ⟨hd,rfl,hst,hnum,h.seq,hc,hlvn,?_,?_,?_,?_,?_,h.bsok⟩
 ·intro p hp
  rw [e2 ls] at hp
  simp only [List.mem_append] at hp
  rcases hp with (hp|hp)|hp
  ·have hp2:p∈Ls.flatten:=by rw [e1];simp only [List.mem_append];exact .inl (.inl hp)
   obtain ⟨f,cs,k1,k2⟩:=h.on p hp2
   exact ⟨f,cs,by rw [hf _ (.inr ⟨List.mem_map.2 ⟨p,hp2,rfl⟩,hX p hp⟩)];exact k1,k2⟩
  ·obtain ⟨f,cs,k1,k2⟩:=hN.on p hp
   exact ⟨f,cs,k1,k2.mono (fun h=>h.elim)⟩
  ·have hp2:p∈Ls.flatten:=by rw [e1];simp only [List.mem_append];exact .inr hp
   obtain ⟨f,cs,k1,k2⟩:=h.on p hp2
   exact ⟨f,cs,by rw [hf _ (.inr ⟨List.mem_map.2 ⟨p,hp2,rfl⟩,hY p hp⟩)];exact k1,k2⟩
 ·intro p hp e he
  rw [e2 ls] at hp
  simp only [List.mem_append] at hp
  rcases hp with (hp|hp)|hp
  ·exact h.seqs p (by rw [e1];simp only [List.mem_append];exact .inl (.inl hp)) e he
  ·obtain ⟨q,hq,heq⟩:=hRm e (hls p hp e he)
   exact h.seqs q (hmid q hq) e heq
  ·exact h.seqs p (by rw [e1];simp only [List.mem_append];exact .inr hp) e he
 ·rw [s3 ls]
  refine Kg (M:=M) (by rw [← s1];exact h.ord) (Kh (List.pairwise_map.2 hN.sep)) fun l hl e he=>?_
  obtain ⟨p,hp,rfl⟩:=List.mem_map.1 hl
  obtain ⟨q,hq,heq⟩:=hRm e (hls p hp e he)
  exact ⟨q.2,s2.mem_iff.2 (List.mem_map.2 ⟨q,hq,rfl⟩),heq⟩
 ·obtain ⟨k,k1,k2⟩:=h.log
  exact ⟨k,by have k1:k≤s.number:=k1;show k≤num;omega,k2⟩
 ·obtain ⟨j,j1,j2⟩:=h.logf
  exact ⟨j,by show file D' s.log=_;rw [hf s.log (.inl rfl)];exact j1,j2⟩
end
section
open Go.Proofs.YtecibefflhomdaaGreatDoor.Pure
section
variable {C:Prop} {s:St} {D:ad} {q0:Nat} {Ls:fW} {bs:List (List bX)} {E:Nat}
structure Alike (s s':St):Prop where
 mem:s'.mem=s.mem
 seq:s'.seq=s.seq
 snaps:s'.snaps=s.snaps
 snap:s'.snap=s.snap
def After (C:Prop) (s:St) (D:ad) (q0:Nat) (Ls:fW) (bs:List (List bX)) (E:Nat) (N:Nat) (shape:fW→Prop) (x:Except cy St) (D':ad):Prop:=
 cQ D D' ∧
  ((∃ e,x=.error e∧sy C D e∧∃ c Ls' bs',RecM C D' c Ls' bs' E∧((c.seq=q0∧bs'=bs∧e9 (aP s) (dj Ls) (dj Ls'))∨(c.seq=s.seq∧bs'=[]∧e9 (aP s) (s.mem::dj Ls) (dj Ls')))) ∨
   ∃ s' Ls',x=.ok s'∧jw C s' D' q0 Ls' bs E∧e9 (aP s) (dj Ls) (dj Ls')∧Alike s s'∧(s'.log=s.log∧file D' s.log=file D s.log)∧s'.number≤s.number+N∧shape Ls')
theorem sA (h:s.snaps.length≤4):(aP s).length≤5:=by unfold aP;simp;omega
theorem oQ (ps:List (cO×List ay)) (key:Bs):((ps.map (·.1)).map fun T=>eC T key)=ps.map fun p=>eC p.1 key:=by rw [List.map_map];rfl
def Ol (C:Prop) (s:St) (a b:Nat) (Ls Ls':fW):Prop:=∃ R ls,fJ R∧R.Perm ((fA a b Ls).map (·.2)).flatten∧Ls'=gq a b Ls ls∧(ls.map (·.2)).flatten=ey (aP s) (yu b Ls) R∧∀ p∈ls,p.2.length≤99
theorem rN (h:jw C s D q0 Ls bs E) (ht:total bs=0) {a b:Nat} (hab:Az a b) (hE:E≤1048576) (hB:bs.length≤16777216) (hnum:s.number+E≤4611686018427387904) :
 ∃ x D',kH s D a b=some (x,D')∧After C s D q0 Ls bs E E (Ol C s a b Ls) x D':=by
 have hq:s.seq=q0:=by rw [h.seq,ht,Nat.add_zero]
 have hused:=h.used hE hB
 have htab:=h.core.Aw hE
 have hcnt:=h.core.cntE
 obtain ⟨X,Y,e1,e2⟩:=rL h.core.lv.len hab
 obtain ⟨U,M,W,s1,s2,s3,s4⟩:=uX h.core.lv.len hab
 have hmid:∀ p∈fA a b Ls,p∈Ls.flatten:=fun p hp=>by rw [e1];simp only [List.mem_append];exact .inl (.inr hp)
 have hmidl:(fA a b Ls).length≤1048576:=by
  have:(fA a b Ls).length≤Ls.flatten.length:=by rw [e1];simp only [List.length_append];omega
  omega
 have hon:∀ p∈fA a b Ls,∃ f cs,file D p.1.name=some f∧kX C f p.1 p.2 cs:=fun p hp=>h.core.on p (hmid p hp)
 have hM:∀ l∈M,fJ l:=fun l hl=>by
  obtain ⟨p,hp,rfl⟩:=List.mem_map.1 (s2.mem_iff.1 hl)
  obtain ⟨f,cs,_,k⟩:=hon p hp
  exact k.srt
 have hoM:Pure.Ord M:=by
  have:=h.core.ord;rw [s1] at this
  exact (List.pairwise_append.1 (List.pairwise_append.1 this).1).2.1
 obtain ⟨R,hR,hRp⟩:=rK M.flatten (oP hM hoM)
 have hRp2:R.Perm ((fA a b Ls).map (·.2)).flatten:=hRp.trans s2.flatten
 have hRl:R.length≤E:=by
  have h1:=hRp2.length_eq
  rw [jx] at h1
  rw [rM e1] at hcnt
  omega
 have hRe:∀ e∈R,lx e∧bD e=e:=fun e he=>by
  obtain ⟨l,hl,hel⟩:=List.mem_flatten.1 (hRp2.mem_iff.1 he)
  obtain ⟨p,hp,rfl⟩:=List.mem_map.1 hl
  obtain ⟨f,cs,_,k⟩:=hon p hp
  exact k.ents e hel
 have hnx:Ct C (file D) s.mem (.mg ⟨false,(je s a b).map fun T=>eC T [],[]⟩) R:=by
  show sP _ _ _ _ _
  unfold sP
  rw [if_neg (by simp)]
  refine ⟨rfl,?_,(fA a b Ls).map fun p=>fP [] p.2,?_,?_⟩
  ·rw [qH h.levels];simp only [List.length_map];omega
  ·rw [qH h.levels]
   show nS _ _ _ (((fA a b Ls).map (·.1)).map fun T=>eC T []) _
   rw [oQ];exact yt [] _ hon
  ·have:((fA a b Ls).map fun p=>fP [] p.2)=(fA a b Ls).map (·.2):=List.map_congr_left fun p _=>xa p.2
   rw [this];exact hRp2
 have hml:=sA h.snaps
 obtain ⟨x,D1,k1,k2,k3⟩:=wX (s:=s) (nx:=.mg ⟨false,(je s a b).map fun T=>eC T [],[]⟩) (bt:=mM s b) h.core.ok hR hnx (by omega) (by have:=h.snaps;omega)
 unfold kH
 rw [if_pos ⟨by rw [qH h.levels,List.length_map,bG];omega,by
  rw [h.mem,bG]
  have:gh q0 bs []=[]:=by
   have key:∀ (bs:List (List bX)) (q:Nat) (m:List ay),total bs=0→gh q bs m=m:=by
    intro bs
    induction bs with
    | nil=>intro q m _;rfl
    | cons b r ih=>
     intro q m hh
     have h1:total (b::r)=b.length+total r:=by simp [total]
     have h2:b=[]:=List.eq_nil_of_length_eq_zero (by omega)
     subst h2
     exact ih _ _ (by simpa using h1.symm.trans hh)
   exact key bs q0 [] ht
  rw [this];simp⟩,k1]
 rcases k3 with ⟨e,rfl,k3⟩|rfl
 ·exact ⟨_,_,rfl,k2.later,.inl ⟨e,rfl,.inl k3,_,Ls,bs,h.core.files k2.later.ok fun m _=>k2.file m,.inl ⟨rfl,rfl,e9.refl _ _⟩⟩⟩
 rw [Iv h.levels]
 dsimp only [dE]
 have hkl:=qE (aP s) (yu b Ls) R
 generalize hl:ey (aP s) (yu b Ls) R=l at hkl
 have hls:fJ l:=by rw [← hl];exact lN hR
 have hlk:∀ e∈l,lx e:=fun e he=>by rw [← hl] at he;exact (hRe e ((fK _ _ _).subset he)).1
 have hlf:∀ k,(m7 k l).length≤5:=fun k=>by rw [← hl];exact Nat.le_trans (Ao hR k) hml
 have hD1:∀ k,s.number<k→k≤s.number+l.length→file D1 (dQ k)=none:=fun k hk hk2=>by rw [k2.file];exact h.KX hk (by omega)
 have hmv1:=h.moves
 obtain ⟨x,D2,p1,p2,p3,p4,p5,p6⟩:=rI (K:=5) (by omega) (by omega) gL s.number D1 l [] k2.later.ok hls hlk hlf (by rw [bG];omega) (by omega) (by simp only [List.length_nil];omega) (by rw [k2.moves];omega) (by rw [k2.used];omega) hD1
 rw [p1]
 have hfar:∀ m,(m=aN∨m=bp∨m=s.log∨m∈bO Ls)→file D2 m=file D m:=fun m hm=>by
  rw [p5 m fun k hk1 hk2 he=>?_,k2.file]
  subst he
  rcases hm with hm|hm|hm|hm
  ·exact iA k hm
  ·exact lj k hm
  ·obtain ⟨j,_,h2⟩:=h.core.log
   have h2:s.log=bU j:=h2
   exact ju k j (hm.trans h2)
  ·obtain ⟨p,hp,hpe⟩:=List.mem_map.1 hm
   obtain ⟨i,hi,hie⟩:=h.core.lv.names p hp
   have hi:i≤s.number:=hi
   have:=eY (hie.symm.trans hpe) (by omega) (by omega)
   omega
 rcases p6 with ⟨e,rfl,p6⟩|⟨num,ls,rfl,hN⟩
 ·refine ⟨_,_,rfl,k2.later.trans p2,.inl ⟨e,rfl,(p6.mono fun h=>h.elim).before k2.later,_,Ls,bs,h.core.files p2.ok fun m hm=>hfar m ?_,.inl ⟨rfl,rfl,e9.refl _ _⟩⟩⟩
  rcases hm with hm|hm|hm
  ·exact .inl hm
  ·exact .inr (.inr (.inl hm))
  ·exact .inr (.inr (.inr hm))
 dsimp only
 have hcn:=hN.cnt
 have heqS:({ s with number:=num,levels:=s.levels.take a++List.replicate (b-a) []++([]++ls.map (·.1))::s.levels.drop (b+1) }:St)=hJ s a b num Ls ls:=by
  unfold hJ;rw [FD,h.levels,List.nil_append]
 rw [heqS]
 subst hl
 have hnew:∀ D':ad,D'.Ok→file D' aN=some (az (bL { hJ s a b num Ls ls with seq:=q0 }))→(∀ m,m≠aN→m ∉ (fA a b Ls).map (·.1.name)→m≠bp→file D' m=file D2 m) →
  RecM C D' { hJ s a b num Ls ls with seq:=q0 } (gq a b Ls ls) bs E:=by
  intro D' hd' hs' hf'
  have hlsn:∀ p∈ls,p.1.name ∉ (fA a b Ls).map (·.1.name)∧p.1.name≠aN∧p.1.name≠bp:=fun p hp=>by
   obtain ⟨k,n1,n2,n3⟩:=hN.names p hp
   refine ⟨fun hm=>?_,by rw [n3];exact iA k,by rw [n3];exact lj k⟩
   obtain ⟨q,hq,hqe⟩:=List.mem_map.1 hm
   obtain ⟨i,hi,hie⟩:=h.core.lv.names q (hmid q hq)
   have hi:i≤s.number:=hi
   have:=eY (n3.symm.trans (hqe.symm.trans hie)) (by omega) (by omega)
   omega
  have hN':FB 5 s.number num (ey (aP s) (yu b Ls) R) ls (fun _=>some []) (file D'):=by
   refine ⟨hN.ents,hN.cnt,hN.names,hN.nodup,fun p hp=>?_,hN.sep,hN.few,fun m hm=>.inl (by simp)⟩
   obtain ⟨f,cs,q1,q2⟩:=hN.on p hp
   obtain ⟨n1,n2,n3⟩:=hlsn p hp
   exact ⟨f,cs,by rw [hf' _ n2 n1 n3];exact q1,q2⟩
  refine CB h.core hab hR hRp2 hN' (by omega) hd' hs' fun m hm=>?_
  rcases hm with hm|⟨hm,hm2⟩
  ·obtain ⟨j,_,h2⟩:=h.core.log
   have h2:s.log=bU j:=h2
   rw [hf' m (by rw [hm,h2];exact eI j) (fun hh=>?_) (by rw [hm,h2];exact jv j)]
   ·exact hfar m (.inr (.inr (.inl hm)))
   ·obtain ⟨p,hp,hpe⟩:=List.mem_map.1 hh
    obtain ⟨i,_,hie⟩:=h.core.lv.names p (hmid p hp)
    exact ju i j (hie.symm.trans (hpe.trans (hm.trans h2)))
  ·have h1:m≠aN:=fun hh=>fQ h.core.lv (by rw [← hh];exact hm)
   have h2:m≠bp:=fun hh=>gO h.core.lv (by rw [← hh];exact hm)
   rw [hf' m h1 hm2 h2]
   exact hfar m (.inr (.inr (.inr hm)))
 have hsame:e9 (aP s) (dj Ls) (dj (gq a b Ls ls)):=by
  rw [s3 ls,s1]
  have hen:=hN.ents
  rw [oA fun e he=>(hRe e he).2] at hen
  exact AA (by rw [← s1];exact h.core.ord) hM hR hRp s4 hen
 have heq0:({ hJ s a b num Ls ls with seq:=q0 }:St)=hJ s a b num Ls ls:=by unfold hJ;rw [← hq]
 rw [heq0] at hnew
 have hlvn:qF num (gq a b Ls ls)∧(gq a b Ls ls).flatten.length≤1048576:=by
  obtain ⟨n1,n2⟩:=xd h.core hab hR hRp2 hN (by omega)
  refine ⟨n2,?_⟩
  have hne:∀ p∈(gq a b Ls ls).flatten,p.2≠[]:=fun p hp=>by
   rw [e2 ls] at hp
   simp only [List.mem_append] at hp
   rcases hp with (hp|hp)|hp
   ·obtain ⟨f,cs,_,k⟩:=h.core.on p (by rw [e1];simp only [List.mem_append];exact .inl (.inl hp))
    exact k.some
   ·obtain ⟨f,cs,_,k⟩:=hN.on p hp
    exact k.some
   ·obtain ⟨f,cs,_,k⟩:=h.core.on p (by rw [e1];simp only [List.mem_append];exact .inr hp)
    exact k.some
  have:=DY hne
  omega
 have hfr2:file D2 bp=none:=by rw [hfar _ (.inr (.inl rfl))];exact h.Iq
 obtain ⟨x,D3,c1,c2,c3⟩:=Ax (C:=C) (s:=hJ s a b num Ls ls) (Ls:=gq a b Ls ls) rfl hlvn.1 hlvn.2 (by show num≤_;omega) (by show s.seq≤_;have:=h.core.seq;have h7:q0+total bs≤4611686018427387904:=this;omega) p2.ok hfr2 h.core.CA (by rw [k2.moves] at p3;omega) (by rw [k2.used] at p4;omega)
 have l2:=k2.later.trans p2
 rw [c1]
 rcases c3 with ⟨rfl,c3,c4⟩|⟨e,rfl,c3,c4⟩
 ·dsimp only
  have hrec3:=hnew D3 c2.ok (by rw [c4,if_pos rfl]) fun m hm _ _=>by rw [c4,if_neg hm]
  have hnod:((fA a b Ls).map (·.1.name)).Nodup:=by
   have hn:=h.core.lv.nodup
   unfold bO at hn
   rw [e1,List.map_append,List.map_append,List.nodup_append,List.nodup_append] at hn
   exact hn.1.2.1
  have hmidn:∀ m∈(fA a b Ls).map (·.1.name),m∈bO Ls:=fun m hm=>by
   obtain ⟨p,hp,rfl⟩:=List.mem_map.1 hm
   exact List.mem_map.2 ⟨p,hmid p hp,rfl⟩
  have hmap:((je s a b).map fun T=>Jt.remove T.name)=((fA a b Ls).map (·.1.name)).map .remove:=by
   rw [qH h.levels,List.map_map,List.map_map];rfl
  rw [hmap]
  obtain ⟨x,D4,r1,r2,r3,r4,r5⟩:=nW (C:=C) ((fA a b Ls).map (·.1.name)) c2.ok hnod (fun n hn=>by
   have hns:n≠aN:=fun hh=>fQ h.core.lv (by rw [← hh];exact hmidn n hn)
   rw [c4,if_neg hns,hfar n (.inr (.inr (.inr (hmidn n hn))))]
   obtain ⟨p,hp,rfl⟩:=List.mem_map.1 hn
   obtain ⟨f,cs,q1,_⟩:=hon p hp
   rw [q1];simp) (by rw [List.length_map];omega)
  rw [r1]
  rw [List.length_map] at r3
  have hnmid:∀ m,pr (hJ s a b num Ls ls) (gq a b Ls ls) m→m ∉ (fA a b Ls).map (·.1.name):=fun m hm hh=>by
   rcases hm with hm|hm|hm
   ·exact fQ h.core.lv (by rw [← hm];exact hmidn m hh)
   ·obtain ⟨j,_,h2⟩:=h.core.log
    have h2:s.log=bU j:=h2
    have hm:m=s.log:=hm
    exact dS h.core.lv j (by rw [← h2,← hm];exact hmidn m hh)
   ·unfold bO at hm
    rw [e2 ls,List.map_append,List.map_append,List.mem_append,List.mem_append] at hm
    have hn:=h.core.lv.nodup
    unfold bO at hn
    rw [e1,List.map_append,List.map_append,List.nodup_append,List.nodup_append] at hn
    rcases hm with (hm|hm)|hm
    ·exact hn.1.2.2 m hm m hh rfl
    ·obtain ⟨p,hp,hpe⟩:=List.mem_map.1 hm
     obtain ⟨q,hq,hqe⟩:=List.mem_map.1 hh
     obtain ⟨k,n1,n2,n3⟩:=hN.names p hp
     obtain ⟨i,hi,hie⟩:=h.core.lv.names q (hmid q hq)
     have hi:i≤s.number:=hi
     have:=eY (n3.symm.trans (hpe.trans (hqe.symm.trans hie))) (by omega) (by omega)
     omega
    ·exact hn.2.2 m (List.mem_append_right _ hh) m hm rfl
  have hrec4:=hrec3.files r2.ok fun m hm=>r4 m (hnmid m hm)
  have hlog4:file D4 s.log=file D s.log:=by
   have hk:pr (hJ s a b num Ls ls) (gq a b Ls ls) s.log:=.inr (.inl rfl)
   obtain ⟨j,_,h2⟩:=h.core.log
   have h2:s.log=bU j:=h2
   rw [r4 _ (hnmid _ hk),c4,if_neg (by rw [h2];exact eI j),hfar _ (.inr (.inr (.inl rfl)))]
  rcases r5 with ⟨rfl,r5⟩|⟨e,rfl,r5⟩
  ·refine ⟨_,_,rfl,(l2.trans c2).trans r2,.inr ⟨_,gq a b Ls ls,rfl,⟨by rw [heq0];exact hrec4,h.mem,h.seq,?_,?_,?_,h.snaps⟩,hsame,⟨rfl,rfl,rfl,rfl⟩,⟨rfl,hlog4⟩,by show num≤_;omega,R,ls,hR,hRp2,rfl,?_,fun p hp=>hN.few p hp⟩⟩
   ·have hk:pr (hJ s a b num Ls ls) (gq a b Ls ls) s.log:=.inr (.inl rfl)
    obtain ⟨j,_,h2⟩:=h.core.log
    have h2:s.log=bU j:=h2
    show ∃ junk,file D4 s.log=_∧_
    rw [hlog4]
    exact h.logf
   ·intro m hm
    show m=aN∨m=s.log∨_
    by_cases hmm:m∈(fA a b Ls).map (·.1.name)
    ·exact absurd (r5 m hmm) hm
    rw [r4 m hmm,c4] at hm
    by_cases hms:m=aN
    ·exact .inl hms
    rw [if_neg hms] at hm
    rcases hN.known m hm with h1|h1
    ·rw [k2.file] at h1
     rcases h.known m h1 with h1|h1|h1
     ·exact absurd h1 hms
     ·exact .inr (.inl h1)
     ·refine .inr (.inr ?_)
      unfold bO at h1 ⊢
      rw [e1,List.map_append,List.map_append,List.mem_append,List.mem_append] at h1
      rw [e2 ls,List.map_append,List.map_append,List.mem_append,List.mem_append]
      rcases h1 with (h1|h1)|h1
      ·exact .inl (.inl h1)
      ·exact absurd h1 hmm
      ·exact .inr h1
    ·refine .inr (.inr ?_)
     unfold bO
     rw [e2 ls,List.map_append,List.map_append,List.mem_append,List.mem_append]
     exact .inl (.inr h1)
   ·omega
   ·have hen:=hN.ents
    rwa [oA fun e he=>(hRe e he).2] at hen
  ·exact ⟨_,_,rfl,(l2.trans c2).trans r2,.inl ⟨e,rfl,r5.before (l2.trans c2),_,_,bs,hrec4,.inl ⟨hq,rfl,hsame⟩⟩⟩
 ·refine ⟨_,_,rfl,l2.trans c2,.inl ⟨e,rfl,c3.before l2,?_⟩⟩
  rcases c4 with c4|c4
  ·refine ⟨_,Ls,bs,h.core.files c2.ok fun m hm=>?_,.inl ⟨rfl,rfl,e9.refl _ _⟩⟩
   have h1:m≠bp:=fun hh=>by
    rcases hm with hm|hm|hm
    ·exact iB (hh.symm.trans hm)
    ·obtain ⟨j,_,h2⟩:=h.core.log
     have h2:s.log=bU j:=h2
     have hm:m=s.log:=hm
     exact jv j (h2.symm.trans (hm.symm.trans hh))
    ·exact gO h.core.lv (by rw [← hh];exact hm)
   rw [c4 m h1]
   refine hfar m ?_
   rcases hm with hm|hm|hm
   ·exact .inl hm
   ·exact .inr (.inr (.inl hm))
   ·exact .inr (.inr (.inr hm))
  ·exact ⟨_,_,bs,hnew D3 c2.ok (by rw [c4,if_pos rfl]) fun m hm _ _=>by rw [c4,if_neg hm],.inl ⟨hq,rfl,hsame⟩⟩
end
end
end Go.Proofs.YtecibefflhomdaaGreatDoor
