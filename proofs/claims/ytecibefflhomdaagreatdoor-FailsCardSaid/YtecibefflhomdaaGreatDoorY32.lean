/-
  Part 32: PLAIN a merge; PLAIN merge, settle.
-/
import Derived.Test.YtecibefflhomdaaGreatDoorY31
set_option maxHeartbeats 8000000
set_option maxRecDepth 100000
set_option linter.all false
namespace Go.Proofs.YtecibefflhomdaaGreatDoor
open Go
section
open Go.Proofs.YtecibefflhomdaaGreatDoor.Pure
theorem rN:∀ (l:List az),l.Pairwise (fun a b=>¬ (a.key=b.key∧a.seq=b.seq))→∃ R,fS R∧R.Perm l
 | [],_=>⟨[],List.Pairwise.nil,.refl _⟩
 | e::l,h=>by
  obtain ⟨h1,h2⟩:=List.pairwise_cons.1 h
  obtain ⟨R,k1,k2⟩:=rN l h2
  refine ⟨dT R e,nC k1 fun x hx hh=>h1 x (k2.mem_iff.1 hx) ⟨hh.1.symm,hh.2.symm⟩,?_⟩
  refine List.Perm.trans ?_ (k2.cons e)
  unfold dT
  refine List.perm_middle.trans (List.Perm.cons e ?_)
  rw [List.take_append_drop]
theorem oW {ls:List (List az)} (hs:∀ l∈ls,fS l) (ho:Ord ls):ls.flatten.Pairwise fun a b=>¬ (a.key=b.key∧a.seq=b.seq):=by
 rw [List.pairwise_flatten]
 refine ⟨fun l hl=>(hs l hl).imp fun {a b} hab hh=>?_,ho.imp fun {a b} hab x hx y hy hh=>?_⟩
 ·rcases bQ.1 hab with h|h
  ·rw [hh.1,aN] at h;cases h
  ·omega
 ·have:=hab x hx y hy hh.1;omega
theorem xn:∀ (ls:List (List az)) (k:Bs) (m:Nat),fa ls k m=gd ls.flatten k m
 | [],_,_=>rfl
 | l::ls,k,m=>by rw [bC,List.flatten_cons,ow,xn ls]
theorem uY {R:List az} {M:List (List az)} (hR:fS R) (hs:∀ l∈M,fS l) (ho:Ord M) (hp:R.Perm M.flatten) (k:Bs) (m:Nat):gd R k m=fa M k m:=
 BW hs ho hR (fun e=>by rw [hp.mem_iff,List.mem_flatten]) k m
theorem xo (l:List az):fW [] l=l:=List.filter_eq_self.2 fun e _=>by rw [zy];rfl
theorem mi.mono {C C':Prop} {f:Bs} {T:cD} {l:List az} {cs:List (List az)} (hc:C→C') (h:mi C f T l cs):mi C' f T l cs:=
 ⟨h.flat,h.ne,h.sep,h.some,h.srt,h.ents,h.Ec,h.lay.imp hc id,h.head.imp id fun h=>⟨hc h.1,h.2⟩,h.small,h.count,h.size,fun A c B e=>(h.blk A c B e).imp id fun h=>⟨hc h.1,h.2⟩⟩
theorem IP {C:Prop} {fl:Bs→Option Bs} {M:List az} {f:Bs} {T:cD} {l:List az} {cs:List (List az)} (h1:fl T.name=some f) (h:mi C f T l cs) (key:Bs):Au C fl M (eF T key) (fW key l):=by
 obtain ⟨A,c,B,e1,e2,e3,e4⟩:=xd h key
 have hA:A.length≤cs.length:=by rw [e1];simp
 refine ⟨f,l,cs,h1,h,by rw [← e2];exact hA,?_,?_⟩
 ·have hc:=h.count
  rw [← h.flat,← List.take_append_drop (j4 T key) cs,List.flatten_append,List.length_append] at hc
  simp only [List.length_nil];omega
 ·rw [List.nil_append,← e2]
  have e5:l=A.flatten++(cs.drop A.length).flatten:=by rw [← h.flat,← List.flatten_append,e1,List.drop_left]
  conv=>lhs;rw [e5]
  unfold fW
  rw [List.filter_append,List.filter_eq_nil_iff.2 fun x hx=>by rw [e3 x hx];simp,List.nil_append]
theorem AI {C:Prop} {fl:Bs→Option Bs} {M:List az} (hM:fS M) (hs:∀ e∈M,e.seq≤aG) (key:Bs):Au C fl M (iq M key) (fW key M):=by
 obtain ⟨h1,h2⟩:=mA (e:=⟨key,[],false,aG⟩) hM
 show fW key M=M.drop (aZ M ⟨key,[],false,aG⟩)
 generalize aZ M ⟨key,[],false,aG⟩=i at h1 h2
 conv=>lhs;rw [← List.take_append_drop i M]
 unfold fW
 rw [List.filter_append,List.filter_eq_nil_iff.2 fun x hx=>?_,List.nil_append,List.filter_eq_self.2 fun x hx=>?_]
 ·cases hb:aQ x.key key with
  | false=>rfl
  | true=>have:=h2 x hx;rw [bQ.2 (.inl hb)] at this;cases this
 ·rcases bQ.1 (h1 x hx) with h|h
  ·have h:aQ x.key key=true:=h
   rw [h];simp
  ·have:=hs x (List.mem_of_mem_take hx)
   have h:aG<x.seq:=h.2
   omega
theorem yE {C:Prop} {fl:Bs→Option Bs} {M:List az} (key:Bs):∀ (ps:List (cD×List az)),(∀ p∈ps,∃ f cs,fl p.1.name=some f∧mi C f p.1 p.2 cs)→nW C fl M (ps.map fun p=>eF p.1 key) (ps.map fun p=>fW key p.2)
 | [],_=>.nil
 | p::ps,h=>by
  obtain ⟨f,cs,h1,h2⟩:=h p List.mem_cons_self
  exact .cons (IP h1 h2 key) (h2.srt.sublist List.filter_sublist) (yE key ps fun q hq=>h q (List.mem_cons_of_mem _ hq))
def fF (a b:Nat) (Ls:ga):List (cD×List az):=((Ls.take (b+1)).drop a).flatten
def gC (a b:Nat) (Ls:ga) (ls:List (cD×List az)):ga:=Ls.take a++List.replicate (b-a) []++ls::Ls.drop (b+1)
abbrev AJ (a b:Nat):Prop:=(a=0∧(b=1∨b=3))∨(a=1∧b=2)∨(a=2∧b=3)
theorem ep {α:Type} {l:List α} (h:l.length=4):∃ a b c d,l=[a,b,c,d]:=by
 match l,h with
 | [a,b,c,d],_=>exact ⟨a,b,c,d,rfl⟩
def sX (b:Nat) (Ls:ga):Bool:=(Ls.drop (b+1)).all List.isEmpty
theorem uZ {a b:Nat} {Ls:ga} (h4:Ls.length=4) (hab:AJ a b):∃ U M W,dx Ls=U++M++W∧M.Perm ((fF a b Ls).map (·.2))∧(∀ ls,dx (gC a b Ls ls)=U++ls.map (·.2)++W)∧(sX b Ls=true→W=[]):=by
 obtain ⟨L0,L1,L2,L3,rfl⟩:=ep h4
 rcases hab with ⟨rfl,rfl|rfl⟩|⟨rfl,rfl⟩|⟨rfl,rfl⟩
 ·refine ⟨[],(L0.reverse++L1).map (·.2),(L2++L3).map (·.2),by simp [dx],?_,fun ls=>by simp [dx,gC],fun h=>?_⟩
  ·simp only [fF,List.map_append]
   simp
   exact (List.reverse_perm _).append_right _
  ·simp [sX] at h;simp [h.1,h.2]
 ·refine ⟨[],(L0.reverse++L1++L2++L3).map (·.2),[],by simp [dx],?_,fun ls=>by simp [dx,gC],fun h=>rfl⟩
  simp [fF]
  exact (List.reverse_perm _).append_right _
 ·refine ⟨L0.reverse.map (·.2),(L1++L2).map (·.2),L3.map (·.2),by simp [dx],by simp [fF],fun ls=>by simp [dx,gC],fun h=>?_⟩
  simp [sX] at h;simp [h]
 ·exact ⟨(L0.reverse++L1).map (·.2),(L2++L3).map (·.2),[],by simp [dx],by simp [fF],fun ls=>by simp [dx,gC],fun h=>rfl⟩
theorem rO {a b:Nat} {Ls:ga} (h4:Ls.length=4) (hab:AJ a b):∃ X Y,Ls.flatten=X++fF a b Ls++Y∧∀ ls,(gC a b Ls ls).flatten=X++ls++Y:=by
 obtain ⟨L0,L1,L2,L3,rfl⟩:=ep h4
 rcases hab with ⟨rfl,rfl|rfl⟩|⟨rfl,rfl⟩|⟨rfl,rfl⟩
 ·exact ⟨[],L2++L3,by simp [fF],fun ls=>by simp [gC]⟩
 ·exact ⟨[],[],by simp [fF],fun ls=>by simp [gC]⟩
 ·exact ⟨L0,L3,by simp [fF],fun ls=>by simp [gC]⟩
 ·exact ⟨L0++L1,[],by simp [fF],fun ls=>by simp [gC]⟩
theorem IQ {a b:Nat} {Ls:ga} (h4:Ls.length=4) (hab:AJ a b) (ls:List (cD×List az)):(gC a b Ls ls).length=4:=by
 obtain ⟨L0,L1,L2,L3,rfl⟩:=ep h4
 rcases hab with ⟨rfl,rfl|rfl⟩|⟨rfl,rfl⟩|⟨rfl,rfl⟩<;>simp [gC]
theorem IS {a b:Nat} {Ls:ga} (h4:Ls.length=4) (hab:AJ a b) {ls:List (cD×List az)} {P:List (cD×List az)→Prop} (h0:P []) (h1:P ls) (h:∀ i L,1≤i→Ls[i]?=some L→P L):∀ i L,1≤i→(gC a b Ls ls)[i]?=some L→P L:=by
 obtain ⟨L0,L1,L2,L3,rfl⟩:=ep h4
 have k1:=h 1 L1 (by omega) rfl
 have k2:=h 2 L2 (by omega) rfl
 have k3:=h 3 L3 (by omega) rfl
 intro i L hi hL
 rcases hab with ⟨rfl,rfl|rfl⟩|⟨rfl,rfl⟩|⟨rfl,rfl⟩<;>simp [gC,List.replicate] at hL<;>(match i,hi,hL with
  | 1,_,hL=>simp at hL;subst hL;assumption
  | 2,_,hL=>simp at hL;subst hL;assumption
  | 3,_,hL=>simp at hL;subst hL;assumption
  | i+4,_,hL=>simp at hL)
theorem F7 {a b:Nat} {Ls:ga} (ls:List (cD×List az)):cH (gC a b Ls ls)=(cH Ls).take a++List.replicate (b-a) []++ls.map (·.1)::(cH Ls).drop (b+1):=by
 simp [cH,gC,List.map_take,List.map_drop]
theorem qK {a b:Nat} {s:St} {Ls:ga} (h:s.levels=cH Ls):jq s a b=(fF a b Ls).map (·.1):=by
 unfold jq fF;rw [h];unfold cH;rw [← List.map_take,← List.map_drop,List.map_flatten]
theorem IT {b:Nat} {s:St} {Ls:ga} (h:s.levels=cH Ls):mN s b=sX b Ls:=by
 unfold mN sX;rw [h];unfold cH;rw [← List.map_drop,List.all_map]
 congr 1
 funext l;cases l<;>rfl
def fp (ms:List Nat) (A B:List (List az)):Prop:=∀ m∈ms,∀ k,dP (fa B k m)=dP (fa A k m)
theorem fp.refl (ms:List Nat) (A:List (List az)):fp ms A A:=fun _ _ _=>rfl
theorem fp.trans {ms:List Nat} {A B D:List (List az)} (h:fp ms A B) (k:fp ms B D):fp ms A D:=fun m hm x=>(k m hm x).trans (h m hm x)
theorem oD {a b c:Option az} (h:dP b=dP c):dP (a.or b)=dP (a.or c):=by cases a with|none=>exact h|some x=>rfl
theorem KE {U M W N:List (List az)} (ho:Ord (U++M++W)) (hN:Ord N) (hs:∀ l∈N,∀ e∈l,∃ l'∈M,e∈l'):Ord (U++N++W):=by
 unfold Pure.Ord at *
 rw [List.pairwise_append,List.pairwise_append] at ho ⊢
 obtain ⟨⟨h1,h2,h3⟩,h4,h5⟩:=ho
 refine ⟨⟨h1,hN,fun u hu n hn x hx y hy hk=>?_⟩,h4,fun u hu w hw x hx y hy hk=>?_⟩
 ·obtain ⟨l',hl',hy'⟩:=hs n hn y hy
  exact h3 u hu l' hl' x hx y hy' hk
 ·rcases List.mem_append.1 hu with hu|hu
  ·exact h5 u (List.mem_append_left _ hu) w hw x hx y hy hk
  ·obtain ⟨l',hl',hx'⟩:=hs u hu x hx
   exact h5 l' (List.mem_append_right _ hl') w hw x hx' y hy hk
theorem KF {ls:List (List az)} (h:ls.Pairwise vO):Ord ls:=h.imp fun {a b} hab x hx y hy hk=>by
 have:=hab x hx y hy;rw [hk,aN] at this;cases this
theorem AK {ms:List Nat} {U M W:List (List az)} {R:List az} {bt:Bool} {N:List (List az)} (ho:Ord (U++M++W)) (hs:∀ l∈M,fS l) (hR:fS R) (hp:R.Perm M.flatten) (hW:bt=true→W=[]) (hN:N.flatten=dE ms bt R) :
 fp ms (U++M++W) (U++N++W):=by
 intro m hm k
 have hoM:Ord M:=(List.pairwise_append.1 (List.pairwise_append.1 ho).1).2.1
 rw [jT,jT,jT,jT,← uY hR hs hoM hp,xn N,hN]
 rw [Option.or_assoc,Option.or_assoc]
 cases bt with
 | false=>rw [zC hR hm]
 | true=>
  rw [hW rfl]
  refine oD ?_
  show dP ((gd _ k m).or none)=dP ((gd R k m).or none)
  rw [Option.or_none,Option.or_none]
  exact HF hR hm
theorem oE {ms:List Nat} {bt:Bool} {R:List az} (h:∀ e∈R,bG e=e):(dE ms bt R).map bG=dE ms bt R:=As fun e he=>h e ((fU ms bt R).subset he)
theorem rP {Ls:ga} {X M Y:List (cD×List az)} (h:Ls.flatten=X++M++Y):cnt Ls=(X.map (·.2.length)).sum+(M.map (·.2.length)).sum+(Y.map (·.2.length)).sum:=by
 unfold cnt;rw [h];simp only [List.map_append,List.sum_append]
theorem iI (l:List (cD×List az)):(l.map (·.2)).flatten.length=(l.map (·.2.length)).sum:=by
 rw [List.length_flatten,List.map_map];rfl
def hU (s:St) (a b num:Nat) (Ls:ga) (ls:List (cD×List az)):St:={ s with number:=num,levels:=cH (gC a b Ls ls) }
theorem xp {C:Prop} {s:St} {D:ad} {q0:Nat} {Ls:ga} {bs:List (List bO)} {E a b:Nat} {R:List az} {K num:Nat} {bt:Bool} {ms:List Nat} {ls:List (cD×List az)} {fl0 fl:Bs→Option Bs}
 (h:RecM C D { s with seq:=q0 } Ls bs E) (hab:AJ a b) (hR:fS R) (hp:R.Perm ((fF a b Ls).map (·.2)).flatten) (hN:F6 K s.number num (dE ms bt R) ls fl0 fl) (hnum:num≤4611686018427387904) :
 cnt (gC a b Ls ls)+total bs≤E∧qI num (gC a b Ls ls):=by
 obtain ⟨X,Y,e1,e2⟩:=rO h.lv.len hab
 obtain ⟨U,M,W,s1,s2,s3,s4⟩:=uZ h.lv.len hab
 have hRm:∀ e∈R,∃ p∈fF a b Ls,e∈p.2:=fun e he=>by
  obtain ⟨l,hl,hel⟩:=List.mem_flatten.1 (hp.mem_iff.1 he)
  obtain ⟨p,hp2,rfl⟩:=List.mem_map.1 hl
  exact ⟨p,hp2,hel⟩
 have hmid:∀ p∈fF a b Ls,p∈Ls.flatten:=fun p hp=>by rw [e1];simp only [List.mem_append];exact .inl (.inr hp)
 have hRn:∀ e∈R,lQ e∧bG e=e:=fun e he=>by
  obtain ⟨p,hp,hep⟩:=hRm e he
  obtain ⟨f,cs,_,k⟩:=h.on p (hmid p hp)
  exact k.ents e hep
 have hls:∀ p∈ls,∀ e∈p.2,e∈R:=fun p hp e he=>by
  have h1:e∈(ls.map (·.2)).flatten:=List.mem_flatten.2 ⟨p.2,List.mem_map.2 ⟨p,hp,rfl⟩,he⟩
  rw [hN.ents,oE fun e he=>(hRn e he).2] at h1
  exact (fU _ _ _).subset h1
 have hcn:=hN.cnt
 have hnames:bN Ls=X.map (·.1.name)++(fF a b Ls).map (·.1.name)++Y.map (·.1.name):=by unfold bN;rw [e1];simp
 have hnod:=h.lv.nodup
 rw [hnames] at hnod
 have hX:∀ p∈X,p.1.name ∉ (fF a b Ls).map (·.1.name):=fun p hp hm=>by
  rw [List.nodup_append,List.nodup_append] at hnod
  exact hnod.1.2.2 _ (List.mem_map.2 ⟨p,hp,rfl⟩) _ hm rfl
 have hY:∀ p∈Y,p.1.name ∉ (fF a b Ls).map (·.1.name):=fun p hp hm=>by
  rw [List.nodup_append] at hnod
  exact hnod.2.2 _ (List.mem_append_right _ hm) _ (List.mem_map.2 ⟨p,hp,rfl⟩) rfl
 refine ⟨?_,IQ h.lv.len hab ls,?_,?_,?_⟩
 ·have h1:=h.cntE
  rw [rP e1] at h1
  rw [rP (e2 ls)]
  have h2:=iI ls
  rw [hN.ents,List.length_map] at h2
  have h3:=qH ms bt R
  have h4:=hp.length_eq
  rw [iI] at h4
  omega
 ·intro p hp
  rw [e2 ls] at hp
  simp only [List.mem_append] at hp
  rcases hp with (hp|hp)|hp
  ·obtain ⟨k,k1,k2⟩:=h.lv.names p (by rw [e1];simp only [List.mem_append];exact .inl (.inl hp))
   exact ⟨k,by have k1:k≤s.number:=k1;show k≤num;omega,k2⟩
  ·obtain ⟨k,k1,k2,k3⟩:=hN.names p hp
   exact ⟨k,k2,k3⟩
  ·obtain ⟨k,k1,k2⟩:=h.lv.names p (by rw [e1];simp only [List.mem_append];exact .inr hp)
   exact ⟨k,by have k1:k≤s.number:=k1;show k≤num;omega,k2⟩
 ·unfold bN
  rw [e2 ls]
  simp only [List.map_append]
  rw [List.nodup_append,List.nodup_append] at hnod ⊢
  have hnew:∀ p∈ls,∀ q∈Ls.flatten,p.1.name≠q.1.name:=fun p hp q hq he=>by
   obtain ⟨k,k1,k2,k3⟩:=hN.names p hp
   obtain ⟨j,j1,j2⟩:=h.lv.names q hq
   have j1:j≤s.number:=j1
   have:=fi (k3.symm.trans (he.trans j2)) (by omega) (by omega)
   omega
  refine ⟨⟨hnod.1.1,hN.nodup,fun x hx y hy he=>?_⟩,hnod.2.1,fun x hx y hy he=>?_⟩
  ·obtain ⟨p,hp,rfl⟩:=List.mem_map.1 hx
   obtain ⟨q,hq,rfl⟩:=List.mem_map.1 hy
   exact hnew q hq p (by rw [e1];simp only [List.mem_append];exact .inl (.inl hp)) he.symm
  ·rcases List.mem_append.1 hx with hx|hx
   ·exact hnod.2.2 x (List.mem_append_left _ hx) y hy he
   ·obtain ⟨p,hp,rfl⟩:=List.mem_map.1 hx
    obtain ⟨q,hq,rfl⟩:=List.mem_map.1 hy
    exact hnew p hp q (by rw [e1];simp only [List.mem_append];exact .inr hq) he
 ·exact IS h.lv.len hab .nil hN.sep h.lv.sep
theorem CR {C:Prop} {s:St} {D D':ad} {q0:Nat} {Ls:ga} {bs:List (List bO)} {E a b:Nat} {R:List az} {K num:Nat} {bt:Bool} {ms:List Nat} {ls:List (cD×List az)} {fl0:Bs→Option Bs}
 (h:RecM C D { s with seq:=q0 } Ls bs E) (hab:AJ a b) (hR:fS R) (hp:R.Perm ((fF a b Ls).map (·.2)).flatten) (hN:F6 K s.number num (dE ms bt R) ls fl0 (file D')) (hnum:num≤4611686018427387904)
 (hd:D'.Ok) (hst:file D' aP=some (aD (bT { hU s a b num Ls ls with seq:=q0 }))) (hf:∀ m,(m=s.log∨(m∈bN Ls∧m ∉ (fF a b Ls).map (·.1.name)))→file D' m=file D m) :
 RecM C D' { hU s a b num Ls ls with seq:=q0 } (gC a b Ls ls) bs E:=by
 obtain ⟨X,Y,e1,e2⟩:=rO h.lv.len hab
 obtain ⟨U,M,W,s1,s2,s3,s4⟩:=uZ h.lv.len hab
 have hRm:∀ e∈R,∃ p∈fF a b Ls,e∈p.2:=fun e he=>by
  obtain ⟨l,hl,hel⟩:=List.mem_flatten.1 (hp.mem_iff.1 he)
  obtain ⟨p,hp2,rfl⟩:=List.mem_map.1 hl
  exact ⟨p,hp2,hel⟩
 have hmid:∀ p∈fF a b Ls,p∈Ls.flatten:=fun p hp=>by rw [e1];simp only [List.mem_append];exact .inl (.inr hp)
 have hRn:∀ e∈R,lQ e∧bG e=e:=fun e he=>by
  obtain ⟨p,hp,hep⟩:=hRm e he
  obtain ⟨f,cs,_,k⟩:=h.on p (hmid p hp)
  exact k.ents e hep
 have hls:∀ p∈ls,∀ e∈p.2,e∈R:=fun p hp e he=>by
  have h1:e∈(ls.map (·.2)).flatten:=List.mem_flatten.2 ⟨p.2,List.mem_map.2 ⟨p,hp,rfl⟩,he⟩
  rw [hN.ents,oE fun e he=>(hRn e he).2] at h1
  exact (fU _ _ _).subset h1
 have hcn:=hN.cnt
 have hnames:bN Ls=X.map (·.1.name)++(fF a b Ls).map (·.1.name)++Y.map (·.1.name):=by unfold bN;rw [e1];simp
 have hnod:=h.lv.nodup
 rw [hnames] at hnod
 have hX:∀ p∈X,p.1.name ∉ (fF a b Ls).map (·.1.name):=fun p hp hm=>by
  rw [List.nodup_append,List.nodup_append] at hnod
  exact hnod.1.2.2 _ (List.mem_map.2 ⟨p,hp,rfl⟩) _ hm rfl
 have hY:∀ p∈Y,p.1.name ∉ (fF a b Ls).map (·.1.name):=fun p hp hm=>by
  rw [List.nodup_append] at hnod
  exact hnod.2.2 _ (List.mem_append_right _ hm) _ (List.mem_map.2 ⟨p,hp,rfl⟩) rfl
 obtain ⟨hc,hlvn⟩:=xp h hab hR hp hN hnum
 refine ⟨hd,rfl,hst,hnum,h.seq,hc,hlvn,?_,?_,?_,?_,?_,h.bsok⟩
 ·intro p hp
  rw [e2 ls] at hp
  simp only [List.mem_append] at hp
  rcases hp with (hp|hp)|hp
  ·have hp2:p∈Ls.flatten:=by rw [e1];simp only [List.mem_append];exact .inl (.inl hp)
   obtain ⟨f,cs,k1,k2⟩:=h.on p hp2
   exact ⟨f,cs,by rw [hf _ (.inr ⟨List.mem_map.2 ⟨p,hp2,rfl⟩,hX p hp⟩)];exact k1,k2⟩
  ·obtain ⟨f,cs,k1,k2⟩:=hN.on p hp
   exact ⟨f,cs,k1,k2.mono (fun h=>h.elim)⟩
  ·have hp2:p∈Ls.flatten:=by rw [e1];simp only [List.mem_append];exact .inr hp
   obtain ⟨f,cs,k1,k2⟩:=h.on p hp2
   exact ⟨f,cs,by rw [hf _ (.inr ⟨List.mem_map.2 ⟨p,hp2,rfl⟩,hY p hp⟩)];exact k1,k2⟩
 ·intro p hp e he
  rw [e2 ls] at hp
  simp only [List.mem_append] at hp
  rcases hp with (hp|hp)|hp
  ·exact h.seqs p (by rw [e1];simp only [List.mem_append];exact .inl (.inl hp)) e he
  ·obtain ⟨q,hq,heq⟩:=hRm e (hls p hp e he)
   exact h.seqs q (hmid q hq) e heq
  ·exact h.seqs p (by rw [e1];simp only [List.mem_append];exact .inr hp) e he
 ·rw [s3 ls]
  refine KE (M:=M) (by rw [← s1];exact h.ord) (KF (List.pairwise_map.2 hN.sep)) fun l hl e he=>?_
  obtain ⟨p,hp,rfl⟩:=List.mem_map.1 hl
  obtain ⟨q,hq,heq⟩:=hRm e (hls p hp e he)
  exact ⟨q.2,s2.mem_iff.2 (List.mem_map.2 ⟨q,hq,rfl⟩),heq⟩
 ·obtain ⟨k,k1,k2⟩:=h.log
  exact ⟨k,by have k1:k≤s.number:=k1;show k≤num;omega,k2⟩
 ·obtain ⟨j,j1,j2⟩:=h.logf
  exact ⟨j,by show file D' s.log=_;rw [hf s.log (.inl rfl)];exact j1,j2⟩
end
section
open Go.Proofs.YtecibefflhomdaaGreatDoor.Pure
section
variable {C:Prop} {s:St} {D:ad} {q0:Nat} {Ls:ga} {bs:List (List bO)} {E:Nat}
theorem u1 (hd:D.Ok) {ns:List Bs} (h:∀ m,file D m≠none→m∈ns):D.now.length≤ns.length:=by
 have h2:(D.now.map (·.1)).Nodup:=hd.names
 have h3:=mj h2 (b:=ns) fun m hm=>h m fun hn=>by
  rw [kr] at hn
  exact absurd hm (cw.1 hn)
 rwa [List.length_map] at h3
structure Left (D':ad) (c:St) (N E:Nat):Prop where
 num:c.number≤N
 now:D'.now.length≤3*E+10
theorem Left.more {D':ad} {c:St} {N N' E E':Nat} (h:Left D' c N E) (hN:N≤N') (hE:E≤E'):Left D' c N' E':=⟨Nat.le_trans h.num hN,by have:=h.now;omega⟩
theorem jo.grow (h:jo C s D q0 Ls bs E) {D':ad} (hd:D'.Ok) {xs:List Bs} (hx:∀ m,file D' m≠none→m∈xs∨file D m≠none):D'.now.length≤E+2+xs.length:=by
 have h1:=u1 hd (ns:=xs++aP::s.log::bN Ls) fun m hm=>by
  rcases hx m hm with hm|hm
  ·exact List.mem_append_left _ hm
  ·refine List.mem_append_right _ ?_
   rcases h.known m hm with h|h|h
   ·rw [h];exact List.mem_cons_self
   ·rw [h];exact List.mem_cons_of_mem _ List.mem_cons_self
   ·exact List.mem_cons_of_mem _ (List.mem_cons_of_mem _ h)
 have h2:=uW h.core.on
 have h3:=h.core.cntE
 rw [List.length_append,List.length_cons,List.length_cons,bN,List.length_map] at h1
 omega
theorem jo.now (h:jo C s D q0 Ls bs E):D.now.length≤E+2:=h.grow h.core.ok (xs:=[]) fun _ hm=>.inr hm
def vQ (n k:Nat):List Bs:=(List.range k).map fun i=>dp (n+1+i)
theorem kX (n k:Nat):(vQ n k).length=k:=by simp [vQ]
theorem AL {n k j:Nat} (h1:n<j) (h2:j≤n+k):dp j∈vQ n k:=List.mem_map.2 ⟨j-n-1,List.mem_range.2 (by omega),by congr 1;omega⟩
structure Alike (s s':St):Prop where
 mem:s'.mem=s.mem
 seq:s'.seq=s.seq
 snaps:s'.snaps=s.snaps
 snap:s'.snap=s.snap
def After (C:Prop) (s:St) (D:ad) (q0:Nat) (Ls:ga) (bs:List (List bO)) (E:Nat) (N:Nat) (shape:ga→Prop) (x:Except cy St) (D':ad):Prop:=
 cS D D' ∧
  ((∃ e,x=.error e∧sF C D e∧∃ c Ls' bs',(RecM C D' c Ls' bs' E∧Left D' c (s.number+N) E)∧((c.seq=q0∧bs'=bs∧fp (aK s) (dx Ls) (dx Ls'))∨(c.seq=s.seq∧bs'=[]∧fp (aK s) (s.mem::dx Ls) (dx Ls')))) ∨
   ∃ s' Ls',x=.ok s'∧jo C s' D' q0 Ls' bs E∧fp (aK s) (dx Ls) (dx Ls')∧Alike s s'∧(s'.log=s.log∧file D' s.log=file D s.log)∧s'.number≤s.number+N∧shape Ls')
theorem sI (h:s.snaps.length≤4):(aK s).length≤5:=by unfold aK;simp;omega
theorem oX (ps:List (cD×List az)) (key:Bs):((ps.map (·.1)).map fun T=>eF T key)=ps.map fun p=>eF p.1 key:=by rw [List.map_map];rfl
def O0 (C:Prop) (s:St) (a b:Nat) (Ls Ls':ga):Prop:=∃ R ls,fS R∧R.Perm ((fF a b Ls).map (·.2)).flatten∧Ls'=gC a b Ls ls∧(ls.map (·.2)).flatten=dE (aK s) (sX b Ls) R∧∀ p∈ls,p.2.length≤99
theorem rQ (h:jo C s D q0 Ls bs E) (ht:total bs=0) {a b:Nat} (hab:AJ a b) (hE:E≤1048576) (hB:bs.length≤16777216) (hnum:s.number+E≤4611686018427387904) :
 ∃ x D',kP s D a b=some (x,D')∧After C s D q0 Ls bs E E (O0 C s a b Ls) x D':=by
 have hq:s.seq=q0:=by rw [h.seq,ht,Nat.add_zero]
 have hused:=h.used hE hB
 have htab:=h.core.CQ hE
 have hcnt:=h.core.cntE
 obtain ⟨X,Y,e1,e2⟩:=rO h.core.lv.len hab
 obtain ⟨U,M,W,s1,s2,s3,s4⟩:=uZ h.core.lv.len hab
 have hmid:∀ p∈fF a b Ls,p∈Ls.flatten:=fun p hp=>by rw [e1];simp only [List.mem_append];exact .inl (.inr hp)
 have hmidl:(fF a b Ls).length≤1048576:=by
  have:(fF a b Ls).length≤Ls.flatten.length:=by rw [e1];simp only [List.length_append];omega
  omega
 have hon:∀ p∈fF a b Ls,∃ f cs,file D p.1.name=some f∧mi C f p.1 p.2 cs:=fun p hp=>h.core.on p (hmid p hp)
 have hM:∀ l∈M,fS l:=fun l hl=>by
  obtain ⟨p,hp,rfl⟩:=List.mem_map.1 (s2.mem_iff.1 hl)
  obtain ⟨f,cs,_,k⟩:=hon p hp
  exact k.srt
 have hoM:Pure.Ord M:=by
  have:=h.core.ord;rw [s1] at this
  exact (List.pairwise_append.1 (List.pairwise_append.1 this).1).2.1
 obtain ⟨R,hR,hRp⟩:=rN M.flatten (oW hM hoM)
 have hRp2:R.Perm ((fF a b Ls).map (·.2)).flatten:=hRp.trans s2.flatten
 have hRl:R.length≤E:=by
  have h1:=hRp2.length_eq
  rw [iI] at h1
  rw [rP e1] at hcnt
  omega
 have hRe:∀ e∈R,lQ e∧bG e=e:=fun e he=>by
  obtain ⟨l,hl,hel⟩:=List.mem_flatten.1 (hRp2.mem_iff.1 he)
  obtain ⟨p,hp,rfl⟩:=List.mem_map.1 hl
  obtain ⟨f,cs,_,k⟩:=hon p hp
  exact k.ents e hel
 have hnx:CI C (file D) s.mem (.mg ⟨false,(jq s a b).map fun T=>eF T [],[]⟩) R:=by
  show sW _ _ _ _ _
  unfold sW
  rw [if_neg (by simp)]
  refine ⟨rfl,?_,(fF a b Ls).map fun p=>fW [] p.2,?_,?_⟩
  ·rw [qK h.levels];simp only [List.length_map];omega
  ·rw [qK h.levels]
   show nW _ _ _ (((fF a b Ls).map (·.1)).map fun T=>eF T []) _
   rw [oX];exact yE [] _ hon
  ·have:((fF a b Ls).map fun p=>fW [] p.2)=(fF a b Ls).map (·.2):=List.map_congr_left fun p _=>xo p.2
   rw [this];exact hRp2
 have hml:=sI h.snaps
 obtain ⟨x,D1,k1,k2,k3⟩:=xj (s:=s) (nx:=.mg ⟨false,(jq s a b).map fun T=>eF T [],[]⟩) (bt:=mN s b) h.core.ok hR hnx (by omega) (by have:=h.snaps;omega)
 unfold kP
 rw [if_pos ⟨by rw [qK h.levels,List.length_map,bJ];omega,by
  rw [h.mem,bJ]
  have:gu q0 bs []=[]:=by
   have key:∀ (bs:List (List bO)) (q:Nat) (m:List az),total bs=0→gu q bs m=m:=by
    intro bs
    induction bs with
    | nil=>intro q m _;rfl
    | cons b r ih=>
     intro q m hh
     have h1:total (b::r)=b.length+total r:=by simp [total]
     have h2:b=[]:=List.eq_nil_of_length_eq_zero (by omega)
     subst h2
     exact ih _ _ (by simpa using h1.symm.trans hh)
   exact key bs q0 [] ht
  rw [this];simp⟩,k1]
 rcases k3 with ⟨e,rfl,k3⟩|rfl
 ·exact ⟨_,_,rfl,k2.later,.inl ⟨e,rfl,.inl k3,_,Ls,bs,⟨h.core.files k2.later.ok fun m _=>k2.file m,Nat.le_add_right _ _,by have:=h.grow k2.later.ok (xs:=[]) fun m hm=>.inr (by rw [← k2.file];exact hm);simp only [List.length_nil] at this;omega⟩,.inl ⟨rfl,rfl,fp.refl _ _⟩⟩⟩
 rw [IT h.levels]
 dsimp only [dS]
 have hkl:=qH (aK s) (sX b Ls) R
 generalize hl:dE (aK s) (sX b Ls) R=l at hkl
 have hls:fS l:=by rw [← hl];exact lT hR
 have hlk:∀ e∈l,lQ e:=fun e he=>by rw [← hl] at he;exact (hRe e ((fU _ _ _).subset he)).1
 have hlf:∀ k,(nf k l).length≤5:=fun k=>by rw [← hl];exact Nat.le_trans (Az hR k) hml
 have hD1:∀ k,s.number<k→k≤s.number+l.length→file D1 (dp k)=none:=fun k hk hk2=>by rw [k2.file];exact h.Lv hk (by omega)
 have hmv1:=h.moves
 obtain ⟨x,D2,p1,p2,p3,p4,p5,p6⟩:=rL (K:=5) (by omega) (by omega) gW s.number D1 l [] k2.later.ok hls hlk hlf (by rw [bJ];omega) (by omega) (by simp only [List.length_nil];omega) (by rw [k2.moves];omega) (by rw [k2.used];omega) hD1
 rw [p1]
 have hfar:∀ m,(m=aP∨m=aY∨m=s.log∨m∈bN Ls)→file D2 m=file D m:=fun m hm=>by
  rw [p5 m fun k hk1 hk2 he=>?_,k2.file]
  subst he
  rcases hm with hm|hm|hm|hm
  ·exact iG k hm
  ·exact lz k hm
  ·obtain ⟨j,_,h2⟩:=h.core.log
   have h2:s.log=bR j:=h2
   exact jD k j (hm.trans h2)
  ·obtain ⟨p,hp,hpe⟩:=List.mem_map.1 hm
   obtain ⟨i,hi,hie⟩:=h.core.lv.names p hp
   have hi:i≤s.number:=hi
   have:=fi (hie.symm.trans hpe) (by omega) (by omega)
   omega
 have hgr:∀ m,file D2 m≠none→m∈vQ s.number l.length∨file D m≠none:=fun m hm=>by
  by_cases hh:∃ k,s.number<k∧k≤s.number+l.length∧m=dp k
  ·obtain ⟨k,h1,h2,rfl⟩:=hh
   exact .inl (AL h1 h2)
  ·rw [p5 m fun k h1 h2 he=>hh ⟨k,h1,h2,he⟩,k2.file] at hm
   exact .inr hm
 rcases p6 with ⟨e,rfl,p6⟩|⟨num,ls,rfl,hN⟩
 ·refine ⟨_,_,rfl,k2.later.trans p2,.inl ⟨e,rfl,(p6.mono fun h=>h.elim).before k2.later,_,Ls,bs,⟨h.core.files p2.ok fun m hm=>hfar m ?_,Nat.le_add_right _ _,by have:=h.grow p2.ok hgr;rw [kX] at this;omega⟩,.inl ⟨rfl,rfl,fp.refl _ _⟩⟩⟩
  rcases hm with hm|hm|hm
  ·exact .inl hm
  ·exact .inr (.inr (.inl hm))
  ·exact .inr (.inr (.inr hm))
 dsimp only
 have hcn:=hN.cnt
 have heqS:({ s with number:=num,levels:=s.levels.take a++List.replicate (b-a) []++([]++ls.map (·.1))::s.levels.drop (b+1) }:St)=hU s a b num Ls ls:=by
  unfold hU;rw [F7,h.levels,List.nil_append]
 rw [heqS]
 subst hl
 have hnew:∀ D':ad,D'.Ok→file D' aP=some (aD (bT { hU s a b num Ls ls with seq:=q0 }))→(∀ m,m≠aP→m ∉ (fF a b Ls).map (·.1.name)→m≠aY→file D' m=file D2 m) →
  RecM C D' { hU s a b num Ls ls with seq:=q0 } (gC a b Ls ls) bs E:=by
  intro D' hd' hs' hf'
  have hlsn:∀ p∈ls,p.1.name ∉ (fF a b Ls).map (·.1.name)∧p.1.name≠aP∧p.1.name≠aY:=fun p hp=>by
   obtain ⟨k,n1,n2,n3⟩:=hN.names p hp
   refine ⟨fun hm=>?_,by rw [n3];exact iG k,by rw [n3];exact lz k⟩
   obtain ⟨q,hq,hqe⟩:=List.mem_map.1 hm
   obtain ⟨i,hi,hie⟩:=h.core.lv.names q (hmid q hq)
   have hi:i≤s.number:=hi
   have:=fi (n3.symm.trans (hqe.symm.trans hie)) (by omega) (by omega)
   omega
  have hN':F6 5 s.number num (dE (aK s) (sX b Ls) R) ls (fun _=>some []) (file D'):=by
   refine ⟨hN.ents,hN.cnt,hN.names,hN.nodup,fun p hp=>?_,hN.sep,hN.Lb,fun m hm=>.inl (by simp)⟩
   obtain ⟨f,cs,q1,q2⟩:=hN.on p hp
   obtain ⟨n1,n2,n3⟩:=hlsn p hp
   exact ⟨f,cs,by rw [hf' _ n2 n1 n3];exact q1,q2⟩
  refine CR h.core hab hR hRp2 hN' (by omega) hd' hs' fun m hm=>?_
  rcases hm with hm|⟨hm,hm2⟩
  ·obtain ⟨j,_,h2⟩:=h.core.log
   have h2:s.log=bR j:=h2
   rw [hf' m (by rw [hm,h2];exact eN j) (fun hh=>?_) (by rw [hm,h2];exact jE j)]
   ·exact hfar m (.inr (.inr (.inl hm)))
   ·obtain ⟨p,hp,hpe⟩:=List.mem_map.1 hh
    obtain ⟨i,_,hie⟩:=h.core.lv.names p (hmid p hp)
    exact jD i j (hie.symm.trans (hpe.trans (hm.trans h2)))
  ·have h1:m≠aP:=fun hh=>fX h.core.lv (by rw [← hh];exact hm)
   have h2:m≠aY:=fun hh=>gU h.core.lv (by rw [← hh];exact hm)
   rw [hf' m h1 hm2 h2]
   exact hfar m (.inr (.inr (.inr hm)))
 have hsame:fp (aK s) (dx Ls) (dx (gC a b Ls ls)):=by
  rw [s3 ls,s1]
  have hen:=hN.ents
  rw [oE fun e he=>(hRe e he).2] at hen
  exact AK (by rw [← s1];exact h.core.ord) hM hR hRp s4 hen
 have heq0:({ hU s a b num Ls ls with seq:=q0 }:St)=hU s a b num Ls ls:=by unfold hU;rw [← hq]
 rw [heq0] at hnew
 have hlvn:qI num (gC a b Ls ls)∧(gC a b Ls ls).flatten.length≤1048576:=by
  obtain ⟨n1,n2⟩:=xp h.core hab hR hRp2 hN (by omega)
  refine ⟨n2,?_⟩
  have hne:∀ p∈(gC a b Ls ls).flatten,p.2≠[]:=fun p hp=>by
   rw [e2 ls] at hp
   simp only [List.mem_append] at hp
   rcases hp with (hp|hp)|hp
   ·obtain ⟨f,cs,_,k⟩:=h.core.on p (by rw [e1];simp only [List.mem_append];exact .inl (.inl hp))
    exact k.some
   ·obtain ⟨f,cs,_,k⟩:=hN.on p hp
    exact k.some
   ·obtain ⟨f,cs,_,k⟩:=h.core.on p (by rw [e1];simp only [List.mem_append];exact .inr hp)
    exact k.some
  have:=Ew hne
  omega
 have hfr2:file D2 aY=none:=by rw [hfar _ (.inr (.inl rfl))];exact h.IM
 obtain ⟨x,D3,c1,c2,c3⟩:=AH (C:=C) (s:=hU s a b num Ls ls) (Ls:=gC a b Ls ls) rfl hlvn.1 hlvn.2 (by show num≤_;omega) (by show s.seq≤_;have:=h.core.seq;have h7:q0+total bs≤4611686018427387904:=this;omega) p2.ok hfr2 h.core.CP (by rw [k2.moves] at p3;omega) (by rw [k2.used] at p4;omega)
 have l2:=k2.later.trans p2
 rw [c1]
 rcases c3 with ⟨rfl,c3,c4⟩|⟨e,rfl,c3,c4⟩
 ·dsimp only
  have hrec3:=hnew D3 c2.ok (by rw [c4,if_pos rfl]) fun m hm _ _=>by rw [c4,if_neg hm]
  have hnod:((fF a b Ls).map (·.1.name)).Nodup:=by
   have hn:=h.core.lv.nodup
   unfold bN at hn
   rw [e1,List.map_append,List.map_append,List.nodup_append,List.nodup_append] at hn
   exact hn.1.2.1
  have hmidn:∀ m∈(fF a b Ls).map (·.1.name),m∈bN Ls:=fun m hm=>by
   obtain ⟨p,hp,rfl⟩:=List.mem_map.1 hm
   exact List.mem_map.2 ⟨p,hmid p hp,rfl⟩
  have hmap:((jq s a b).map fun T=>JO.remove T.name)=((fF a b Ls).map (·.1.name)).map .remove:=by
   rw [qK h.levels,List.map_map,List.map_map];rfl
  rw [hmap]
  obtain ⟨x,D4,r1,r2,r3,r4,r5⟩:=n4 (C:=C) ((fF a b Ls).map (·.1.name)) c2.ok hnod (fun n hn=>by
   have hns:n≠aP:=fun hh=>fX h.core.lv (by rw [← hh];exact hmidn n hn)
   rw [c4,if_neg hns,hfar n (.inr (.inr (.inr (hmidn n hn))))]
   obtain ⟨p,hp,rfl⟩:=List.mem_map.1 hn
   obtain ⟨f,cs,q1,_⟩:=hon p hp
   rw [q1];simp) (by rw [List.length_map];omega)
  rw [r1]
  rw [List.length_map] at r3
  have hnmid:∀ m,pF (hU s a b num Ls ls) (gC a b Ls ls) m→m ∉ (fF a b Ls).map (·.1.name):=fun m hm hh=>by
   rcases hm with hm|hm|hm
   ·exact fX h.core.lv (by rw [← hm];exact hmidn m hh)
   ·obtain ⟨j,_,h2⟩:=h.core.log
    have h2:s.log=bR j:=h2
    have hm:m=s.log:=hm
    exact ea h.core.lv j (by rw [← h2,← hm];exact hmidn m hh)
   ·unfold bN at hm
    rw [e2 ls,List.map_append,List.map_append,List.mem_append,List.mem_append] at hm
    have hn:=h.core.lv.nodup
    unfold bN at hn
    rw [e1,List.map_append,List.map_append,List.nodup_append,List.nodup_append] at hn
    rcases hm with (hm|hm)|hm
    ·exact hn.1.2.2 m hm m hh rfl
    ·obtain ⟨p,hp,hpe⟩:=List.mem_map.1 hm
     obtain ⟨q,hq,hqe⟩:=List.mem_map.1 hh
     obtain ⟨k,n1,n2,n3⟩:=hN.names p hp
     obtain ⟨i,hi,hie⟩:=h.core.lv.names q (hmid q hq)
     have hi:i≤s.number:=hi
     have:=fi (n3.symm.trans (hpe.trans (hqe.symm.trans hie))) (by omega) (by omega)
     omega
    ·exact hn.2.2 m (List.mem_append_right _ hh) m hm rfl
  have hrec4:=hrec3.files r2.ok fun m hm=>r4 m (hnmid m hm)
  have hlog4:file D4 s.log=file D s.log:=by
   have hk:pF (hU s a b num Ls ls) (gC a b Ls ls) s.log:=.inr (.inl rfl)
   obtain ⟨j,_,h2⟩:=h.core.log
   have h2:s.log=bR j:=h2
   rw [r4 _ (hnmid _ hk),c4,if_neg (by rw [h2];exact eN j),hfar _ (.inr (.inr (.inl rfl)))]
  rcases r5 with ⟨rfl,r5⟩|⟨e,rfl,r5⟩
  ·refine ⟨_,_,rfl,(l2.trans c2).trans r2,.inr ⟨_,gC a b Ls ls,rfl,⟨by rw [heq0];exact hrec4,h.mem,h.seq,?_,?_,?_,h.snaps⟩,hsame,⟨rfl,rfl,rfl,rfl⟩,⟨rfl,hlog4⟩,by show num≤_;omega,R,ls,hR,hRp2,rfl,?_,fun p hp=>hN.Lb p hp⟩⟩
   ·have hk:pF (hU s a b num Ls ls) (gC a b Ls ls) s.log:=.inr (.inl rfl)
    obtain ⟨j,_,h2⟩:=h.core.log
    have h2:s.log=bR j:=h2
    show ∃ junk,file D4 s.log=_∧_
    rw [hlog4]
    exact h.logf
   ·intro m hm
    show m=aP∨m=s.log∨_
    by_cases hmm:m∈(fF a b Ls).map (·.1.name)
    ·exact absurd (r5 m hmm) hm
    rw [r4 m hmm,c4] at hm
    by_cases hms:m=aP
    ·exact .inl hms
    rw [if_neg hms] at hm
    rcases hN.known m hm with h1|h1
    ·rw [k2.file] at h1
     rcases h.known m h1 with h1|h1|h1
     ·exact absurd h1 hms
     ·exact .inr (.inl h1)
     ·refine .inr (.inr ?_)
      unfold bN at h1 ⊢
      rw [e1,List.map_append,List.map_append,List.mem_append,List.mem_append] at h1
      rw [e2 ls,List.map_append,List.map_append,List.mem_append,List.mem_append]
      rcases h1 with (h1|h1)|h1
      ·exact .inl (.inl h1)
      ·exact absurd h1 hmm
      ·exact .inr h1
    ·refine .inr (.inr ?_)
     unfold bN
     rw [e2 ls,List.map_append,List.map_append,List.mem_append,List.mem_append]
     exact .inl (.inr h1)
   ·omega
   ·have hen:=hN.ents
    rwa [oE fun e he=>(hRe e he).2] at hen
  ·have hg4:=h.grow r2.ok (xs:=vQ s.number (dE (aK s) (sX b Ls) R).length) fun m hm=>by
    by_cases hms:m=aP
    ·rw [hms];exact .inr (by have hst:file D aP=some (aD (bT { s with seq:=q0 })):=h.core.state
                             rw [hst];simp)
    by_cases hmm:m∈(fF a b Ls).map (·.1.name)
    ·obtain ⟨p,hp,rfl⟩:=List.mem_map.1 hmm
     obtain ⟨f,cs,q1,_⟩:=hon p hp
     exact .inr (by rw [q1];simp)
    ·rw [r4 m hmm,c4,if_neg hms] at hm
     exact hgr m hm
   rw [kX] at hg4
   exact ⟨_,_,rfl,(l2.trans c2).trans r2,.inl ⟨e,rfl,r5.before (l2.trans c2),_,_,bs,⟨hrec4,by show num≤_;omega,by omega⟩,.inl ⟨hq,rfl,hsame⟩⟩⟩
 ·refine ⟨_,_,rfl,l2.trans c2,.inl ⟨e,rfl,c3.before l2,?_⟩⟩
  rcases c4 with c4|c4
  ·have hg4:=h.grow c2.ok (xs:=aY::vQ s.number (dE (aK s) (sX b Ls) R).length) fun m hm=>by
    by_cases hms:m=aY
    ·rw [hms];exact .inl List.mem_cons_self
    ·rw [c4 m hms] at hm
     rcases hgr m hm with hm|hm
     ·exact .inl (List.mem_cons_of_mem _ hm)
     ·exact .inr hm
   rw [List.length_cons,kX] at hg4
   refine ⟨_,Ls,bs,⟨h.core.files c2.ok fun m hm=>?_,Nat.le_add_right _ _,by omega⟩,.inl ⟨rfl,rfl,fp.refl _ _⟩⟩
   have h1:m≠aY:=fun hh=>by
    rcases hm with hm|hm|hm
    ·exact iH (hh.symm.trans hm)
    ·obtain ⟨j,_,h2⟩:=h.core.log
     have h2:s.log=bR j:=h2
     have hm:m=s.log:=hm
     exact jE j (h2.symm.trans (hm.symm.trans hh))
    ·exact gU h.core.lv (by rw [← hh];exact hm)
   rw [c4 m h1]
   refine hfar m ?_
   rcases hm with hm|hm|hm
   ·exact .inl hm
   ·exact .inr (.inr (.inl hm))
   ·exact .inr (.inr (.inr hm))
  ·have hg4:=h.grow c2.ok (xs:=vQ s.number (dE (aK s) (sX b Ls) R).length) fun m hm=>by
    by_cases hms:m=aP
    ·rw [hms];exact .inr (by have hst:file D aP=some (aD (bT { s with seq:=q0 })):=h.core.state
                             rw [hst];simp)
    ·rw [c4,if_neg hms] at hm
     exact hgr m hm
   rw [kX] at hg4
   exact ⟨_,_,bs,⟨hnew D3 c2.ok (by rw [c4,if_pos rfl]) fun m hm _ _=>by rw [c4,if_neg hm],by show num≤_;omega,by omega⟩,.inl ⟨hq,rfl,hsame⟩⟩
end
end
end Go.Proofs.YtecibefflhomdaaGreatDoor
