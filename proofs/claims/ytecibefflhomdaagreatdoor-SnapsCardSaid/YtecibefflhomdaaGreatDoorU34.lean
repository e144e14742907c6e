/-
  Part 34: PLAIN a merge; PLAIN merge, settle.
-/
import Derived.Test.YtecibefflhomdaaGreatDoorU33
set_option maxHeartbeats 8000000
set_option maxRecDepth 100000
set_option linter.all false
namespace Go.Proofs.YtecibefflhomdaaGreatDoor
open Go
section
open Go.Proofs.YtecibefflhomdaaGreatDoor.Pure
theorem sorted_ex:∀ (l:List Ent),l.Pairwise (fun a b=>¬ (a.key=b.key∧a.seq=b.seq))→∃ R,Srt R∧R.Perm l
 | [],_=>⟨[],List.Pairwise.nil,.refl _⟩
 | e::l,h=>by
  obtain ⟨h1,h2⟩:=List.pairwise_cons.1 h
  obtain ⟨R,k1,k2⟩:=sorted_ex l h2
  refine ⟨addL R e,addL_srt k1 fun x hx hh=>h1 x (k2.mem_iff.1 hx) ⟨hh.1.symm,hh.2.symm⟩,?_⟩
  refine List.Perm.trans ?_ (k2.cons e)
  unfold addL
  refine List.perm_middle.trans (List.Perm.cons e ?_)
  rw [List.take_append_drop]
theorem distinct_flat {ls:List (List Ent)} (hs:∀ l∈ls,Srt l) (ho:Ord ls):ls.flatten.Pairwise fun a b=>¬ (a.key=b.key∧a.seq=b.seq):=by
 rw [List.pairwise_flatten]
 refine ⟨fun l hl=>(hs l hl).imp fun {a b} hab hh=>?_,ho.imp fun {a b} hab x hx y hy hh=>?_⟩
 ·rcases less_iff.1 hab with h|h
  ·rw [hh.1,bltB_irrefl] at h;cases h
  ·omega
 ·have:=hab x hx y hy hh.1;omega
theorem visL_flat:∀ (ls:List (List Ent)) (k:Bs) (m:Nat),visL ls k m=vis ls.flatten k m
 | [],_,_=>rfl
 | l::ls,k,m=>by rw [visL_cons,List.flatten_cons,vis_app,visL_flat ls]
theorem vis_perm {R:List Ent} {M:List (List Ent)} (hR:Srt R) (hs:∀ l∈M,Srt l) (ho:Ord M) (hp:R.Perm M.flatten) (k:Bs) (m:Nat):vis R k m=visL M k m:=
 vis_merged hs ho hR (fun e=>by rw [hp.mem_iff,List.mem_flatten]) k m
theorem fromK_nil (l:List Ent):fromK [] l=l:=List.filter_eq_self.2 fun e _=>by rw [bltB_nil];rfl
theorem ChOn.mono {C C':Prop} {f:Bs} {T:Tab} {l:List Ent} {cs:List (List Ent)} (hc:C→C') (h:ChOn C f T l cs):ChOn C' f T l cs:=
 ⟨h.flat,h.ne,h.sep,h.some,h.srt,h.ents,h.tab,h.head.imp id fun h=>⟨hc h.1,h.2⟩,h.small,h.count,fun A c B e=>(h.blk A c B e).imp id fun h=>⟨hc h.1,h.2⟩⟩
theorem fromT_ok {C:Prop} {fl:Bs→Option Bs} {M:List Ent} {f:Bs} {T:Tab} {l:List Ent} {cs:List (List Ent)} (h1:fl T.name=some f) (h:ChOn C f T l cs) (key:Bs):ItOk C fl M (fromT T key) (fromK key l):=by
 obtain ⟨A,c,B,e1,e2,e3,e4⟩:=place_law h key
 have hA:A.length≤cs.length:=by rw [e1];simp
 refine ⟨f,l,cs,h1,h,by rw [← e2];exact hA,?_,?_⟩
 ·have hc:=h.count
  rw [← h.flat,← List.take_append_drop (placeT T key) cs,List.flatten_append,List.length_append] at hc
  simp only [List.length_nil];omega
 ·rw [List.nil_append,← e2]
  have e5:l=A.flatten++(cs.drop A.length).flatten:=by rw [← h.flat,← List.flatten_append,e1,List.drop_left]
  conv=>lhs;rw [e5]
  unfold fromK
  rw [List.filter_append,List.filter_eq_nil_iff.2 fun x hx=>by rw [e3 x hx];simp,List.nil_append]
theorem fromM_ok {C:Prop} {fl:Bs→Option Bs} {M:List Ent} (hM:Srt M) (hs:∀ e∈M,e.seq≤latestN) (key:Bs):ItOk C fl M (fromM M key) (fromK key M):=by
 obtain ⟨h1,h2⟩:=searchL_spec (e:=⟨key,[],false,latestN⟩) hM
 show fromK key M=M.drop (searchL M ⟨key,[],false,latestN⟩)
 generalize searchL M ⟨key,[],false,latestN⟩=i at h1 h2
 conv=>lhs;rw [← List.take_append_drop i M]
 unfold fromK
 rw [List.filter_append,List.filter_eq_nil_iff.2 fun x hx=>?_,List.nil_append,List.filter_eq_self.2 fun x hx=>?_]
 ·cases hb:bltB x.key key with
  | false=>rfl
  | true=>have:=h2 x hx;rw [less_iff.2 (.inl hb)] at this;cases this
 ·rcases less_iff.1 (h1 x hx) with h|h
  ·have h:bltB x.key key=true:=h
   rw [h];simp
  ·have:=hs x (List.mem_of_mem_take hx)
   have h:latestN<x.seq:=h.2
   omega
theorem rows_ok {C:Prop} {fl:Bs→Option Bs} {M:List Ent} (key:Bs):∀ (ps:List (Tab×List Ent)),(∀ p∈ps,∃ f cs,fl p.1.name=some f∧ChOn C f p.1 p.2 cs)→RowsOk C fl M (ps.map fun p=>fromT p.1 key) (ps.map fun p=>fromK key p.2)
 | [],_=>.nil
 | p::ps,h=>by
  obtain ⟨f,cs,h1,h2⟩:=h p List.mem_cons_self
  exact .cons (fromT_ok h1 h2 key) (h2.srt.sublist List.filter_sublist) (rows_ok key ps fun q hq=>h q (List.mem_cons_of_mem _ hq))
def midP (a b:Nat) (Ls:Lvs):List (Tab×List Ent):=((Ls.take (b+1)).drop a).flatten
def newL (a b:Nat) (Ls:Lvs) (ls:List (Tab×List Ent)):Lvs:=Ls.take a++List.replicate (b-a) []++ls::Ls.drop (b+1)
abbrev Legs (a b:Nat):Prop:=(a=0∧(b=1∨b=3))∨(a=1∧b=2)∨(a=2∧b=3)
theorem four_of {α:Type} {l:List α} (h:l.length=4):∃ a b c d,l=[a,b,c,d]:=by
 match l,h with
 | [a,b,c,d],_=>exact ⟨a,b,c,d,rfl⟩
def botL (b:Nat) (Ls:Lvs):Bool:=(Ls.drop (b+1)).all List.isEmpty
theorem legs_src {a b:Nat} {Ls:Lvs} (h4:Ls.length=4) (hab:Legs a b):∃ U M W,srcs Ls=U++M++W∧M.Perm ((midP a b Ls).map (·.2))∧(∀ ls,srcs (newL a b Ls ls)=U++ls.map (·.2)++W)∧(botL b Ls=true→W=[]):=by
 obtain ⟨L0,L1,L2,L3,rfl⟩:=four_of h4
 rcases hab with ⟨rfl,rfl|rfl⟩|⟨rfl,rfl⟩|⟨rfl,rfl⟩
 ·refine ⟨[],(L0.reverse++L1).map (·.2),(L2++L3).map (·.2),by simp [srcs],?_,fun ls=>by simp [srcs,newL],fun h=>?_⟩
  ·simp only [midP,List.map_append]
   simp
   exact (List.reverse_perm _).append_right _
  ·simp [botL] at h;simp [h.1,h.2]
 ·refine ⟨[],(L0.reverse++L1++L2++L3).map (·.2),[],by simp [srcs],?_,fun ls=>by simp [srcs,newL],fun h=>rfl⟩
  simp [midP]
  exact (List.reverse_perm _).append_right _
 ·refine ⟨L0.reverse.map (·.2),(L1++L2).map (·.2),L3.map (·.2),by simp [srcs],by simp [midP],fun ls=>by simp [srcs,newL],fun h=>?_⟩
  simp [botL] at h;simp [h]
 ·exact ⟨(L0.reverse++L1).map (·.2),(L2++L3).map (·.2),[],by simp [srcs],by simp [midP],fun ls=>by simp [srcs,newL],fun h=>rfl⟩
theorem legs_flat {a b:Nat} {Ls:Lvs} (h4:Ls.length=4) (hab:Legs a b):∃ X Y,Ls.flatten=X++midP a b Ls++Y∧∀ ls,(newL a b Ls ls).flatten=X++ls++Y:=by
 obtain ⟨L0,L1,L2,L3,rfl⟩:=four_of h4
 rcases hab with ⟨rfl,rfl|rfl⟩|⟨rfl,rfl⟩|⟨rfl,rfl⟩
 ·exact ⟨[],L2++L3,by simp [midP],fun ls=>by simp [newL]⟩
 ·exact ⟨[],[],by simp [midP],fun ls=>by simp [newL]⟩
 ·exact ⟨L0,L3,by simp [midP],fun ls=>by simp [newL]⟩
 ·exact ⟨L0++L1,[],by simp [midP],fun ls=>by simp [newL]⟩
theorem legs_len {a b:Nat} {Ls:Lvs} (h4:Ls.length=4) (hab:Legs a b) (ls:List (Tab×List Ent)):(newL a b Ls ls).length=4:=by
 obtain ⟨L0,L1,L2,L3,rfl⟩:=four_of h4
 rcases hab with ⟨rfl,rfl|rfl⟩|⟨rfl,rfl⟩|⟨rfl,rfl⟩<;>simp [newL]
theorem legs_sep {a b:Nat} {Ls:Lvs} (h4:Ls.length=4) (hab:Legs a b) {ls:List (Tab×List Ent)} {P:List (Tab×List Ent)→Prop} (h0:P []) (h1:P ls) (h:∀ i L,1≤i→Ls[i]?=some L→P L):∀ i L,1≤i→(newL a b Ls ls)[i]?=some L→P L:=by
 obtain ⟨L0,L1,L2,L3,rfl⟩:=four_of h4
 have k1:=h 1 L1 (by omega) rfl
 have k2:=h 2 L2 (by omega) rfl
 have k3:=h 3 L3 (by omega) rfl
 intro i L hi hL
 rcases hab with ⟨rfl,rfl|rfl⟩|⟨rfl,rfl⟩|⟨rfl,rfl⟩<;>simp [newL,List.replicate] at hL<;>(match i,hi,hL with
  | 1,_,hL=>simp at hL;subst hL;assumption
  | 2,_,hL=>simp at hL;subst hL;assumption
  | 3,_,hL=>simp at hL;subst hL;assumption
  | i+4,_,hL=>simp at hL)
theorem tabs_newL {a b:Nat} {Ls:Lvs} (ls:List (Tab×List Ent)):tabsOf (newL a b Ls ls)=(tabsOf Ls).take a++List.replicate (b-a) []++ls.map (·.1)::(tabsOf Ls).drop (b+1):=by
 simp [tabsOf,newL,List.map_take,List.map_drop]
theorem mid_tabs {a b:Nat} {s:St} {Ls:Lvs} (h:s.levels=tabsOf Ls):midT s a b=(midP a b Ls).map (·.1):=by
 unfold midT midP;rw [h];unfold tabsOf;rw [← List.map_take,← List.map_drop,List.map_flatten]
theorem bot_tabs {b:Nat} {s:St} {Ls:Lvs} (h:s.levels=tabsOf Ls):bottomT s b=botL b Ls:=by
 unfold bottomT botL;rw [h];unfold tabsOf;rw [← List.map_drop,List.all_map]
 congr 1
 funext l;cases l<;>rfl
def SameV (ms:List Nat) (A B:List (List Ent)):Prop:=∀ m∈ms,∀ k,valE (visL B k m)=valE (visL A k m)
theorem SameV.refl (ms:List Nat) (A:List (List Ent)):SameV ms A A:=fun _ _ _=>rfl
theorem SameV.trans {ms:List Nat} {A B D:List (List Ent)} (h:SameV ms A B) (k:SameV ms B D):SameV ms A D:=fun m hm x=>(k m hm x).trans (h m hm x)
theorem valE_or {a b c:Option Ent} (h:valE b=valE c):valE (a.or b)=valE (a.or c):=by cases a with|none=>exact h|some x=>rfl
theorem ord_mid {U M W N:List (List Ent)} (ho:Ord (U++M++W)) (hN:Ord N) (hs:∀ l∈N,∀ e∈l,∃ l'∈M,e∈l'):Ord (U++N++W):=by
 unfold Pure.Ord at *
 rw [List.pairwise_append,List.pairwise_append] at ho ⊢
 obtain ⟨⟨h1,h2,h3⟩,h4,h5⟩:=ho
 refine ⟨⟨h1,hN,fun u hu n hn x hx y hy hk=>?_⟩,h4,fun u hu w hw x hx y hy hk=>?_⟩
 ·obtain ⟨l',hl',hy'⟩:=hs n hn y hy
  exact h3 u hu l' hl' x hx y hy' hk
 ·rcases List.mem_append.1 hu with hu|hu
  ·exact h5 u (List.mem_append_left _ hu) w hw x hx y hy hk
  ·obtain ⟨l',hl',hx'⟩:=hs u hu x hx
   exact h5 l' (List.mem_append_right _ hl') w hw x hx' y hy hk
theorem ord_sep {ls:List (List Ent)} (h:ls.Pairwise SepC):Ord ls:=h.imp fun {a b} hab x hx y hy hk=>by
 have:=hab x hx y hy;rw [hk,bltB_irrefl] at this;cases this
theorem merged_same {ms:List Nat} {U M W:List (List Ent)} {R:List Ent} {bt:Bool} {N:List (List Ent)} (ho:Ord (U++M++W)) (hs:∀ l∈M,Srt l) (hR:Srt R) (hp:R.Perm M.flatten) (hW:bt=true→W=[]) (hN:N.flatten=keptL ms bt R) :
 SameV ms (U++M++W) (U++N++W):=by
 intro m hm k
 have hoM:Ord M:=(List.pairwise_append.1 (List.pairwise_append.1 ho).1).2.1
 rw [visL_append,visL_append,visL_append,visL_append,← vis_perm hR hs hoM hp,visL_flat N,hN]
 rw [Option.or_assoc,Option.or_assoc]
 cases bt with
 | false=>rw [kept_vis hR hm]
 | true=>
  rw [hW rfl]
  refine valE_or ?_
  show valE ((vis _ k m).or none)=valE ((vis R k m).or none)
  rw [Option.or_none,Option.or_none]
  exact kept_val hR hm
theorem norm_kept {ms:List Nat} {bt:Bool} {R:List Ent} (h:∀ e∈R,normE e=e):(keptL ms bt R).map normE=keptL ms bt R:=map_norm fun e he=>h e ((kept_sub ms bt R).subset he)
theorem cnt_parts {Ls:Lvs} {X M Y:List (Tab×List Ent)} (h:Ls.flatten=X++M++Y):cnt Ls=(X.map (·.2.length)).sum+(M.map (·.2.length)).sum+(Y.map (·.2.length)).sum:=by
 unfold cnt;rw [h];simp only [List.map_append,List.sum_append]
theorem flatQ_len (l:List (Tab×List Ent)):(l.map (·.2)).flatten.length=(l.map (·.2.length)).sum:=by
 rw [List.length_flatten,List.map_map];rfl
def mergedS (s:St) (a b num:Nat) (Ls:Lvs) (ls:List (Tab×List Ent)):St:={ s with number:=num,levels:=tabsOf (newL a b Ls ls) }
theorem merged_lv {C:Prop} {s:St} {D:PDisk} {q0:Nat} {Ls:Lvs} {bs:List (List Chg)} {E a b:Nat} {R:List Ent} {K num:Nat} {bt:Bool} {ms:List Nat} {ls:List (Tab×List Ent)} {fl0 fl:Bs→Option Bs}
 (h:RecM C D { s with seq:=q0 } Ls bs E) (hab:Legs a b) (hR:Srt R) (hp:R.Perm ((midP a b Ls).map (·.2)).flatten) (hN:NewT K s.number num (keptL ms bt R) ls fl0 fl) (hnum:num≤4611686018427387904) :
 cnt (newL a b Ls ls)+total bs≤E∧LvOk num (newL a b Ls ls):=by
 obtain ⟨X,Y,e1,e2⟩:=legs_flat h.lv.len hab
 obtain ⟨U,M,W,s1,s2,s3,s4⟩:=legs_src h.lv.len hab
 have hRm:∀ e∈R,∃ p∈midP a b Ls,e∈p.2:=fun e he=>by
  obtain ⟨l,hl,hel⟩:=List.mem_flatten.1 (hp.mem_iff.1 he)
  obtain ⟨p,hp2,rfl⟩:=List.mem_map.1 hl
  exact ⟨p,hp2,hel⟩
 have hmid:∀ p∈midP a b Ls,p∈Ls.flatten:=fun p hp=>by rw [e1];simp only [List.mem_append];exact .inl (.inr hp)
 have hRn:∀ e∈R,EOk e∧normE e=e:=fun e he=>by
  obtain ⟨p,hp,hep⟩:=hRm e he
  obtain ⟨f,cs,_,k⟩:=h.on p (hmid p hp)
  exact k.ents e hep
 have hls:∀ p∈ls,∀ e∈p.2,e∈R:=fun p hp e he=>by
  have h1:e∈(ls.map (·.2)).flatten:=List.mem_flatten.2 ⟨p.2,List.mem_map.2 ⟨p,hp,rfl⟩,he⟩
  rw [hN.ents,norm_kept fun e he=>(hRn e he).2] at h1
  exact (kept_sub _ _ _).subset h1
 have hcn:=hN.cnt
 have hnames:namesOf Ls=X.map (·.1.name)++(midP a b Ls).map (·.1.name)++Y.map (·.1.name):=by unfold namesOf;rw [e1];simp
 have hnod:=h.lv.nodup
 rw [hnames] at hnod
 have hX:∀ p∈X,p.1.name ∉ (midP a b Ls).map (·.1.name):=fun p hp hm=>by
  rw [List.nodup_append,List.nodup_append] at hnod
  exact hnod.1.2.2 _ (List.mem_map.2 ⟨p,hp,rfl⟩) _ hm rfl
 have hY:∀ p∈Y,p.1.name ∉ (midP a b Ls).map (·.1.name):=fun p hp hm=>by
  rw [List.nodup_append] at hnod
  exact hnod.2.2 _ (List.mem_append_right _ hm) _ (List.mem_map.2 ⟨p,hp,rfl⟩) rfl
 refine ⟨?_,legs_len h.lv.len hab ls,?_,?_,?_⟩
 ·have h1:=h.cntE
  rw [cnt_parts e1] at h1
  rw [cnt_parts (e2 ls)]
  have h2:=flatQ_len ls
  rw [hN.ents,List.length_map] at h2
  have h3:=kept_len ms bt R
  have h4:=hp.length_eq
  rw [flatQ_len] at h4
  omega
 ·intro p hp
  rw [e2 ls] at hp
  simp only [List.mem_append] at hp
  rcases hp with (hp|hp)|hp
  ·obtain ⟨k,k1,k2⟩:=h.lv.names p (by rw [e1];simp only [List.mem_append];exact .inl (.inl hp))
   exact ⟨k,by have k1:k≤s.number:=k1;show k≤num;omega,k2⟩
  ·obtain ⟨k,k1,k2,k3⟩:=hN.names p hp
   exact ⟨k,k2,k3⟩
  ·obtain ⟨k,k1,k2⟩:=h.lv.names p (by rw [e1];simp only [List.mem_append];exact .inr hp)
   exact ⟨k,by have k1:k≤s.number:=k1;show k≤num;omega,k2⟩
 ·unfold namesOf
  rw [e2 ls]
  simp only [List.map_append]
  rw [List.nodup_append,List.nodup_append] at hnod ⊢
  have hnew:∀ p∈ls,∀ q∈Ls.flatten,p.1.name≠q.1.name:=fun p hp q hq he=>by
   obtain ⟨k,k1,k2,k3⟩:=hN.names p hp
   obtain ⟨j,j1,j2⟩:=h.lv.names q hq
   have j1:j≤s.number:=j1
   have:=tableN_inj (k3.symm.trans (he.trans j2)) (by omega) (by omega)
   omega
  refine ⟨⟨hnod.1.1,hN.nodup,fun x hx y hy he=>?_⟩,hnod.2.1,fun x hx y hy he=>?_⟩
  ·obtain ⟨p,hp,rfl⟩:=List.mem_map.1 hx
   obtain ⟨q,hq,rfl⟩:=List.mem_map.1 hy
   exact hnew q hq p (by rw [e1];simp only [List.mem_append];exact .inl (.inl hp)) he.symm
  ·rcases List.mem_append.1 hx with hx|hx
   ·exact hnod.2.2 x (List.mem_append_left _ hx) y hy he
   ·obtain ⟨p,hp,rfl⟩:=List.mem_map.1 hx
    obtain ⟨q,hq,rfl⟩:=List.mem_map.1 hy
    exact hnew p hp q (by rw [e1];simp only [List.mem_append];exact .inr hq) he
 ·exact legs_sep h.lv.len hab .nil hN.sep h.lv.sep
theorem merged_rec {C:Prop} {s:St} {D D':PDisk} {q0:Nat} {Ls:Lvs} {bs:List (List Chg)} {E a b:Nat} {R:List Ent} {K num:Nat} {bt:Bool} {ms:List Nat} {ls:List (Tab×List Ent)} {fl0:Bs→Option Bs}
 (h:RecM C D { s with seq:=q0 } Ls bs E) (hab:Legs a b) (hR:Srt R) (hp:R.Perm ((midP a b Ls).map (·.2)).flatten) (hN:NewT K s.number num (keptL ms bt R) ls fl0 (file D')) (hnum:num≤4611686018427387904)
 (hd:D'.Ok) (hst:file D' stateN=some (frameB (stateB { mergedS s a b num Ls ls with seq:=q0 }))) (hf:∀ m,(m=s.log∨(m∈namesOf Ls∧m ∉ (midP a b Ls).map (·.1.name)))→file D' m=file D m) :
 RecM C D' { mergedS s a b num Ls ls with seq:=q0 } (newL a b Ls ls) bs E:=by
 obtain ⟨X,Y,e1,e2⟩:=legs_flat h.lv.len hab
 obtain ⟨U,M,W,s1,s2,s3,s4⟩:=legs_src h.lv.len hab
 have hRm:∀ e∈R,∃ p∈midP a b Ls,e∈p.2:=fun e he=>by
  obtain ⟨l,hl,hel⟩:=List.mem_flatten.1 (hp.mem_iff.1 he)
  obtain ⟨p,hp2,rfl⟩:=List.mem_map.1 hl
  exact ⟨p,hp2,hel⟩
 have hmid:∀ p∈midP a b Ls,p∈Ls.flatten:=fun p hp=>by rw [e1];simp only [List.mem_append];exact .inl (.inr hp)
 have hRn:∀ e∈R,EOk e∧normE e=e:=fun e he=>by
  obtain ⟨p,hp,hep⟩:=hRm e he
  obtain ⟨f,cs,_,k⟩:=h.on p (hmid p hp)
  exact k.ents e hep
 have hls:∀ p∈ls,∀ e∈p.2,e∈R:=fun p hp e he=>by
  have h1:e∈(ls.map (·.2)).flatten:=List.mem_flatten.2 ⟨p.2,List.mem_map.2 ⟨p,hp,rfl⟩,he⟩
  rw [hN.ents,norm_kept fun e he=>(hRn e he).2] at h1
  exact (kept_sub _ _ _).subset h1
 have hcn:=hN.cnt
 have hnames:namesOf Ls=X.map (·.1.name)++(midP a b Ls).map (·.1.name)++Y.map (·.1.name):=by unfold namesOf;rw [e1];simp
 have hnod:=h.lv.nodup
 rw [hnames] at hnod
 have hX:∀ p∈X,p.1.name ∉ (midP a b Ls).map (·.1.name):=fun p hp hm=>by
  rw [List.nodup_append,List.nodup_append] at hnod
  exact hnod.1.2.2 _ (List.mem_map.2 ⟨p,hp,rfl⟩) _ hm rfl
 have hY:∀ p∈Y,p.1.name ∉ (midP a b Ls).map (·.1.name):=fun p hp hm=>by
  rw [List.nodup_append] at hnod
  exact hnod.2.2 _ (List.mem_append_right _ hm) _ (List.mem_map.2 ⟨p,hp,rfl⟩) rfl
 obtain ⟨hc,hlvn⟩:=merged_lv h hab hR hp hN hnum
 refine ⟨hd,rfl,hst,hnum,h.seq,hc,hlvn,?_,?_,?_,?_,?_,h.bsok⟩
 ·intro p hp
  rw [e2 ls] at hp
  simp only [List.mem_append] at hp
  rcases hp with (hp|hp)|hp
  ·have hp2:p∈Ls.flatten:=by rw [e1];simp only [List.mem_append];exact .inl (.inl hp)
   obtain ⟨f,cs,k1,k2⟩:=h.on p hp2
   exact ⟨f,cs,by rw [hf _ (.inr ⟨List.mem_map.2 ⟨p,hp2,rfl⟩,hX p hp⟩)];exact k1,k2⟩
  ·obtain ⟨f,cs,k1,k2⟩:=hN.on p hp
   exact ⟨f,cs,k1,k2.mono (fun h=>h.elim)⟩
  ·have hp2:p∈Ls.flatten:=by rw [e1];simp only [List.mem_append];exact .inr hp
   obtain ⟨f,cs,k1,k2⟩:=h.on p hp2
   exact ⟨f,cs,by rw [hf _ (.inr ⟨List.mem_map.2 ⟨p,hp2,rfl⟩,hY p hp⟩)];exact k1,k2⟩
 ·intro p hp e he
  rw [e2 ls] at hp
  simp only [List.mem_append] at hp
  rcases hp with (hp|hp)|hp
  ·exact h.seqs p (by rw [e1];simp only [List.mem_append];exact .inl (.inl hp)) e he
  ·obtain ⟨q,hq,heq⟩:=hRm e (hls p hp e he)
   exact h.seqs q (hmid q hq) e heq
  ·exact h.seqs p (by rw [e1];simp only [List.mem_append];exact .inr hp) e he
 ·rw [s3 ls]
  refine ord_mid (M:=M) (by rw [← s1];exact h.ord) (ord_sep (List.pairwise_map.2 hN.sep)) fun l hl e he=>?_
  obtain ⟨p,hp,rfl⟩:=List.mem_map.1 hl
  obtain ⟨q,hq,heq⟩:=hRm e (hls p hp e he)
  exact ⟨q.2,s2.mem_iff.2 (List.mem_map.2 ⟨q,hq,rfl⟩),heq⟩
 ·obtain ⟨k,k1,k2⟩:=h.log
  exact ⟨k,by have k1:k≤s.number:=k1;show k≤num;omega,k2⟩
 ·obtain ⟨j,j1,j2⟩:=h.logf
  exact ⟨j,by show file D' s.log=_;rw [hf s.log (.inl rfl)];exact j1,j2⟩
end
section
open Go.Proofs.YtecibefflhomdaaGreatDoor.Pure
section
variable {C:Prop} {s:St} {D:PDisk} {q0:Nat} {Ls:Lvs} {bs:List (List Chg)} {E:Nat}
structure Alike (s s':St):Prop where
 mem:s'.mem=s.mem
 seq:s'.seq=s.seq
 snaps:s'.snaps=s.snaps
 snap:s'.snap=s.snap
def After (C:Prop) (s:St) (D:PDisk) (q0:Nat) (Ls:Lvs) (bs:List (List Chg)) (E:Nat) (N:Nat) (shape:Lvs→Prop) (x:Except Err St) (D':PDisk):Prop:=
 Later D D' ∧
  ((∃ e,x=.error e∧Flt C D e∧∃ c Ls' bs',RecM C D' c Ls' bs' E∧((c.seq=q0∧bs'=bs∧SameV (momentsS s) (srcs Ls) (srcs Ls'))∨(c.seq=s.seq∧bs'=[]∧SameV (momentsS s) (s.mem::srcs Ls) (srcs Ls')))) ∨
   ∃ s' Ls',x=.ok s'∧Run C s' D' q0 Ls' bs E∧SameV (momentsS s) (srcs Ls) (srcs Ls')∧Alike s s'∧(s'.log=s.log∧file D' s.log=file D s.log)∧s'.number≤s.number+N∧shape Ls')
theorem moments_len (h:s.snaps.length≤4):(momentsS s).length≤5:=by unfold momentsS;simp;omega
theorem map_fst_fromT (ps:List (Tab×List Ent)) (key:Bs):((ps.map (·.1)).map fun T=>fromT T key)=ps.map fun p=>fromT p.1 key:=by rw [List.map_map];rfl
def Shp (C:Prop) (s:St) (a b:Nat) (Ls Ls':Lvs):Prop:=∃ R ls,Srt R∧R.Perm ((midP a b Ls).map (·.2)).flatten∧Ls'=newL a b Ls ls∧(ls.map (·.2)).flatten=keptL (momentsS s) (botL b Ls) R∧∀ p∈ls,p.2.length≤99
theorem merge_law (h:Run C s D q0 Ls bs E) (ht:total bs=0) {a b:Nat} (hab:Legs a b) (hE:E≤1048576) (hB:bs.length≤16777216) (hnum:s.number+E≤4611686018427387904) :
 ∃ x D',mergeS s D a b=some (x,D')∧After C s D q0 Ls bs E E (Shp C s a b Ls) x D':=by
 have hq:s.seq=q0:=by rw [h.seq,ht,Nat.add_zero]
 have hused:=h.used hE hB
 have htab:=h.core.tabs hE
 have hcnt:=h.core.cntE
 obtain ⟨X,Y,e1,e2⟩:=legs_flat h.core.lv.len hab
 obtain ⟨U,M,W,s1,s2,s3,s4⟩:=legs_src h.core.lv.len hab
 have hmid:∀ p∈midP a b Ls,p∈Ls.flatten:=fun p hp=>by rw [e1];simp only [List.mem_append];exact .inl (.inr hp)
 have hmidl:(midP a b Ls).length≤1048576:=by
  have:(midP a b Ls).length≤Ls.flatten.length:=by rw [e1];simp only [List.length_append];omega
  omega
 have hon:∀ p∈midP a b Ls,∃ f cs,file D p.1.name=some f∧ChOn C f p.1 p.2 cs:=fun p hp=>h.core.on p (hmid p hp)
 have hM:∀ l∈M,Srt l:=fun l hl=>by
  obtain ⟨p,hp,rfl⟩:=List.mem_map.1 (s2.mem_iff.1 hl)
  obtain ⟨f,cs,_,k⟩:=hon p hp
  exact k.srt
 have hoM:Pure.Ord M:=by
  have:=h.core.ord;rw [s1] at this
  exact (List.pairwise_append.1 (List.pairwise_append.1 this).1).2.1
 obtain ⟨R,hR,hRp⟩:=sorted_ex M.flatten (distinct_flat hM hoM)
 have hRp2:R.Perm ((midP a b Ls).map (·.2)).flatten:=hRp.trans s2.flatten
 have hRl:R.length≤E:=by
  have h1:=hRp2.length_eq
  rw [flatQ_len] at h1
  rw [cnt_parts e1] at hcnt
  omega
 have hRe:∀ e∈R,EOk e∧normE e=e:=fun e he=>by
  obtain ⟨l,hl,hel⟩:=List.mem_flatten.1 (hRp2.mem_iff.1 he)
  obtain ⟨p,hp,rfl⟩:=List.mem_map.1 hl
  obtain ⟨f,cs,_,k⟩:=hon p hp
  exact k.ents e hel
 have hnx:NxOk C (file D) s.mem (.mg ⟨false,(midT s a b).map fun T=>fromT T [],[]⟩) R:=by
  show MgOk _ _ _ _ _
  unfold MgOk
  rw [if_neg (by simp)]
  refine ⟨rfl,?_,(midP a b Ls).map fun p=>fromK [] p.2,?_,?_⟩
  ·rw [mid_tabs h.levels];simp only [List.length_map];omega
  ·rw [mid_tabs h.levels]
   show RowsOk _ _ _ (((midP a b Ls).map (·.1)).map fun T=>fromT T []) _
   rw [map_fst_fromT];exact rows_ok [] _ hon
  ·have:((midP a b Ls).map fun p=>fromK [] p.2)=(midP a b Ls).map (·.2):=List.map_congr_left fun p _=>fromK_nil p.2
   rw [this];exact hRp2
 have hml:=moments_len h.snaps
 obtain ⟨x,D1,k1,k2,k3⟩:=keptS_law (s:=s) (nx:=.mg ⟨false,(midT s a b).map fun T=>fromT T [],[]⟩) (bt:=bottomT s b) h.core.ok hR hnx (by omega) (by have:=h.snaps;omega)
 unfold mergeS
 rw [if_pos ⟨by rw [mid_tabs h.levels,List.length_map,big_eq];omega,by
  rw [h.mem,big_eq]
  have:memOf q0 bs []=[]:=by
   have key:∀ (bs:List (List Chg)) (q:Nat) (m:List Ent),total bs=0→memOf q bs m=m:=by
    intro bs
    induction bs with
    | nil=>intro q m _;rfl
    | cons b r ih=>
     intro q m hh
     have h1:total (b::r)=b.length+total r:=by simp [total]
     have h2:b=[]:=List.eq_nil_of_length_eq_zero (by omega)
     subst h2
     exact ih _ _ (by simpa using h1.symm.trans hh)
   exact key bs q0 [] ht
  rw [this];simp⟩,k1]
 rcases k3 with ⟨e,rfl,k3⟩|rfl
 ·exact ⟨_,_,rfl,k2.later,.inl ⟨e,rfl,.inl k3,_,Ls,bs,h.core.files k2.later.ok fun m _=>k2.file m,.inl ⟨rfl,rfl,SameV.refl _ _⟩⟩⟩
 rw [bot_tabs h.levels]
 dsimp only [bindO]
 have hkl:=kept_len (momentsS s) (botL b Ls) R
 generalize hl:keptL (momentsS s) (botL b Ls) R=l at hkl
 have hls:Srt l:=by rw [← hl];exact kept_srt hR
 have hlk:∀ e∈l,EOk e:=fun e he=>by rw [← hl] at he;exact (hRe e ((kept_sub _ _ _).subset he)).1
 have hlf:∀ k,(ofKey k l).length≤5:=fun k=>by rw [← hl];exact Nat.le_trans (kept_few hR k) hml
 have hD1:∀ k,s.number<k→k≤s.number+l.length→file D1 (tableN k)=none:=fun k hk hk2=>by rw [k2.file];exact h.freeT hk (by omega)
 have hmv1:=h.moves
 obtain ⟨x,D2,p1,p2,p3,p4,p5,p6⟩:=split_law (K:=5) (by omega) (by omega) big s.number D1 l [] k2.later.ok hls hlk hlf (by rw [big_eq];omega) (by omega) (by simp only [List.length_nil];omega) (by rw [k2.moves];omega) (by rw [k2.used];omega) hD1
 rw [p1]
 have hfar:∀ m,(m=stateN∨m=freshN∨m=s.log∨m∈namesOf Ls)→file D2 m=file D m:=fun m hm=>by
  rw [p5 m fun k hk1 hk2 he=>?_,k2.file]
  subst he
  rcases hm with hm|hm|hm|hm
  ·exact table_state k hm
  ·exact table_fresh k hm
  ·obtain ⟨j,_,h2⟩:=h.core.log
   have h2:s.log=logN j:=h2
   exact table_log k j (hm.trans h2)
  ·obtain ⟨p,hp,hpe⟩:=List.mem_map.1 hm
   obtain ⟨i,hi,hie⟩:=h.core.lv.names p hp
   have hi:i≤s.number:=hi
   have:=tableN_inj (hie.symm.trans hpe) (by omega) (by omega)
   omega
 rcases p6 with ⟨e,rfl,p6⟩|⟨num,ls,rfl,hN⟩
 ·refine ⟨_,_,rfl,k2.later.trans p2,.inl ⟨e,rfl,(p6.mono fun h=>h.elim).before k2.later,_,Ls,bs,h.core.files p2.ok fun m hm=>hfar m ?_,.inl ⟨rfl,rfl,SameV.refl _ _⟩⟩⟩
  rcases hm with hm|hm|hm
  ·exact .inl hm
  ·exact .inr (.inr (.inl hm))
  ·exact .inr (.inr (.inr hm))
 dsimp only
 have hcn:=hN.cnt
 have heqS:({ s with number:=num,levels:=s.levels.take a++List.replicate (b-a) []++([]++ls.map (·.1))::s.levels.drop (b+1) }:St)=mergedS s a b num Ls ls:=by
  unfold mergedS;rw [tabs_newL,h.levels,List.nil_append]
 rw [heqS]
 subst hl
 have hnew:∀ D':PDisk,D'.Ok→file D' stateN=some (frameB (stateB { mergedS s a b num Ls ls with seq:=q0 }))→(∀ m,m≠stateN→m ∉ (midP a b Ls).map (·.1.name)→m≠freshN→file D' m=file D2 m) →
  RecM C D' { mergedS s a b num Ls ls with seq:=q0 } (newL a b Ls ls) bs E:=by
  intro D' hd' hs' hf'
  have hlsn:∀ p∈ls,p.1.name ∉ (midP a b Ls).map (·.1.name)∧p.1.name≠stateN∧p.1.name≠freshN:=fun p hp=>by
   obtain ⟨k,n1,n2,n3⟩:=hN.names p hp
   refine ⟨fun hm=>?_,by rw [n3];exact table_state k,by rw [n3];exact table_fresh k⟩
   obtain ⟨q,hq,hqe⟩:=List.mem_map.1 hm
   obtain ⟨i,hi,hie⟩:=h.core.lv.names q (hmid q hq)
   have hi:i≤s.number:=hi
   have:=tableN_inj (n3.symm.trans (hqe.symm.trans hie)) (by omega) (by omega)
   omega
  have hN':NewT 5 s.number num (keptL (momentsS s) (botL b Ls) R) ls (fun _=>some []) (file D'):=by
   refine ⟨hN.ents,hN.cnt,hN.names,hN.nodup,fun p hp=>?_,hN.sep,hN.few,fun m hm=>.inl (by simp)⟩
   obtain ⟨f,cs,q1,q2⟩:=hN.on p hp
   obtain ⟨n1,n2,n3⟩:=hlsn p hp
   exact ⟨f,cs,by rw [hf' _ n2 n1 n3];exact q1,q2⟩
  refine merged_rec h.core hab hR hRp2 hN' (by omega) hd' hs' fun m hm=>?_
  rcases hm with hm|⟨hm,hm2⟩
  ·obtain ⟨j,_,h2⟩:=h.core.log
   have h2:s.log=logN j:=h2
   rw [hf' m (by rw [hm,h2];exact log_state j) (fun hh=>?_) (by rw [hm,h2];exact log_fresh j)]
   ·exact hfar m (.inr (.inr (.inl hm)))
   ·obtain ⟨p,hp,hpe⟩:=List.mem_map.1 hh
    obtain ⟨i,_,hie⟩:=h.core.lv.names p (hmid p hp)
    exact table_log i j (hie.symm.trans (hpe.trans (hm.trans h2)))
  ·have h1:m≠stateN:=fun hh=>names_ne_state h.core.lv (by rw [← hh];exact hm)
   have h2:m≠freshN:=fun hh=>names_ne_fresh h.core.lv (by rw [← hh];exact hm)
   rw [hf' m h1 hm2 h2]
   exact hfar m (.inr (.inr (.inr hm)))
 have hsame:SameV (momentsS s) (srcs Ls) (srcs (newL a b Ls ls)):=by
  rw [s3 ls,s1]
  have hen:=hN.ents
  rw [norm_kept fun e he=>(hRe e he).2] at hen
  exact merged_same (by rw [← s1];exact h.core.ord) hM hR hRp s4 hen
 have heq0:({ mergedS s a b num Ls ls with seq:=q0 }:St)=mergedS s a b num Ls ls:=by unfold mergedS;rw [← hq]
 rw [heq0] at hnew
 have hlvn:LvOk num (newL a b Ls ls)∧(newL a b Ls ls).flatten.length≤1048576:=by
  obtain ⟨n1,n2⟩:=merged_lv h.core hab hR hRp2 hN (by omega)
  refine ⟨n2,?_⟩
  have hne:∀ p∈(newL a b Ls ls).flatten,p.2≠[]:=fun p hp=>by
   rw [e2 ls] at hp
   simp only [List.mem_append] at hp
   rcases hp with (hp|hp)|hp
   ·obtain ⟨f,cs,_,k⟩:=h.core.on p (by rw [e1];simp only [List.mem_append];exact .inl (.inl hp))
    exact k.some
   ·obtain ⟨f,cs,_,k⟩:=hN.on p hp
    exact k.some
   ·obtain ⟨f,cs,_,k⟩:=h.core.on p (by rw [e1];simp only [List.mem_append];exact .inr hp)
    exact k.some
  have:=cnt_len hne
  omega
 have hfr2:file D2 freshN=none:=by rw [hfar _ (.inr (.inl rfl))];exact h.freeF
 obtain ⟨x,D3,c1,c2,c3⟩:=commitF_law (C:=C) (s:=mergedS s a b num Ls ls) (Ls:=newL a b Ls ls) rfl hlvn.1 hlvn.2 (by show num≤_;omega) (by show s.seq≤_;have:=h.core.seq;have h7:q0+total bs≤4611686018427387904:=this;omega) p2.ok hfr2 h.core.loglen (by rw [k2.moves] at p3;omega) (by rw [k2.used] at p4;omega)
 have l2:=k2.later.trans p2
 rw [c1]
 rcases c3 with ⟨rfl,c3,c4⟩|⟨e,rfl,c3,c4⟩
 ·dsimp only
  have hrec3:=hnew D3 c2.ok (by rw [c4,if_pos rfl]) fun m hm _ _=>by rw [c4,if_neg hm]
  have hnod:((midP a b Ls).map (·.1.name)).Nodup:=by
   have hn:=h.core.lv.nodup
   unfold namesOf at hn
   rw [e1,List.map_append,List.map_append,List.nodup_append,List.nodup_append] at hn
   exact hn.1.2.1
  have hmidn:∀ m∈(midP a b Ls).map (·.1.name),m∈namesOf Ls:=fun m hm=>by
   obtain ⟨p,hp,rfl⟩:=List.mem_map.1 hm
   exact List.mem_map.2 ⟨p,hmid p hp,rfl⟩
  have hmap:((midT s a b).map fun T=>DOp.remove T.name)=((midP a b Ls).map (·.1.name)).map .remove:=by
   rw [mid_tabs h.levels,List.map_map,List.map_map];rfl
  rw [hmap]
  obtain ⟨x,D4,r1,r2,r3,r4,r5⟩:=removes_law (C:=C) ((midP a b Ls).map (·.1.name)) c2.ok hnod (fun n hn=>by
   have hns:n≠stateN:=fun hh=>names_ne_state h.core.lv (by rw [← hh];exact hmidn n hn)
   rw [c4,if_neg hns,hfar n (.inr (.inr (.inr (hmidn n hn))))]
   obtain ⟨p,hp,rfl⟩:=List.mem_map.1 hn
   obtain ⟨f,cs,q1,_⟩:=hon p hp
   rw [q1];simp) (by rw [List.length_map];omega)
  rw [r1]
  rw [List.length_map] at r3
  have hnmid:∀ m,keeps2 (mergedS s a b num Ls ls) (newL a b Ls ls) m→m ∉ (midP a b Ls).map (·.1.name):=fun m hm hh=>by
   rcases hm with hm|hm|hm
   ·exact names_ne_state h.core.lv (by rw [← hm];exact hmidn m hh)
   ·obtain ⟨j,_,h2⟩:=h.core.log
    have h2:s.log=logN j:=h2
    have hm:m=s.log:=hm
    exact names_ne_log h.core.lv j (by rw [← h2,← hm];exact hmidn m hh)
   ·unfold namesOf at hm
    rw [e2 ls,List.map_append,List.map_append,List.mem_append,List.mem_append] at hm
    have hn:=h.core.lv.nodup
    unfold namesOf at hn
    rw [e1,List.map_append,List.map_append,List.nodup_append,List.nodup_append] at hn
    rcases hm with (hm|hm)|hm
    ·exact hn.1.2.2 m hm m hh rfl
    ·obtain ⟨p,hp,hpe⟩:=List.mem_map.1 hm
     obtain ⟨q,hq,hqe⟩:=List.mem_map.1 hh
     obtain ⟨k,n1,n2,n3⟩:=hN.names p hp
     obtain ⟨i,hi,hie⟩:=h.core.lv.names q (hmid q hq)
     have hi:i≤s.number:=hi
     have:=tableN_inj (n3.symm.trans (hpe.trans (hqe.symm.trans hie))) (by omega) (by omega)
     omega
    ·exact hn.2.2 m (List.mem_append_right _ hh) m hm rfl
  have hrec4:=hrec3.files r2.ok fun m hm=>r4 m (hnmid m hm)
  have hlog4:file D4 s.log=file D s.log:=by
   have hk:keeps2 (mergedS s a b num Ls ls) (newL a b Ls ls) s.log:=.inr (.inl rfl)
   obtain ⟨j,_,h2⟩:=h.core.log
   have h2:s.log=logN j:=h2
   rw [r4 _ (hnmid _ hk),c4,if_neg (by rw [h2];exact log_state j),hfar _ (.inr (.inr (.inl rfl)))]
  rcases r5 with ⟨rfl,r5⟩|⟨e,rfl,r5⟩
  ·refine ⟨_,_,rfl,(l2.trans c2).trans r2,.inr ⟨_,newL a b Ls ls,rfl,⟨by rw [heq0];exact hrec4,h.mem,h.seq,?_,?_,?_,h.snaps⟩,hsame,⟨rfl,rfl,rfl,rfl⟩,⟨rfl,hlog4⟩,by show num≤_;omega,R,ls,hR,hRp2,rfl,?_,fun p hp=>hN.few p hp⟩⟩
   ·have hk:keeps2 (mergedS s a b num Ls ls) (newL a b Ls ls) s.log:=.inr (.inl rfl)
    obtain ⟨j,_,h2⟩:=h.core.log
    have h2:s.log=logN j:=h2
    show ∃ junk,file D4 s.log=_∧_
    rw [hlog4]
    exact h.logf
   ·intro m hm
    show m=stateN∨m=s.log∨_
    by_cases hmm:m∈(midP a b Ls).map (·.1.name)
    ·exact absurd (r5 m hmm) hm
    rw [r4 m hmm,c4] at hm
    by_cases hms:m=stateN
    ·exact .inl hms
    rw [if_neg hms] at hm
    rcases hN.known m hm with h1|h1
    ·rw [k2.file] at h1
     rcases h.known m h1 with h1|h1|h1
     ·exact absurd h1 hms
     ·exact .inr (.inl h1)
     ·refine .inr (.inr ?_)
      unfold namesOf at h1 ⊢
      rw [e1,List.map_append,List.map_append,List.mem_append,List.mem_append] at h1
      rw [e2 ls,List.map_append,List.map_append,List.mem_append,List.mem_append]
      rcases h1 with (h1|h1)|h1
      ·exact .inl (.inl h1)
      ·exact absurd h1 hmm
      ·exact .inr h1
    ·refine .inr (.inr ?_)
     unfold namesOf
     rw [e2 ls,List.map_append,List.map_append,List.mem_append,List.mem_append]
     exact .inl (.inr h1)
   ·omega
   ·have hen:=hN.ents
    rwa [norm_kept fun e he=>(hRe e he).2] at hen
  ·exact ⟨_,_,rfl,(l2.trans c2).trans r2,.inl ⟨e,rfl,r5.before (l2.trans c2),_,_,bs,hrec4,.inl ⟨hq,rfl,hsame⟩⟩⟩
 ·refine ⟨_,_,rfl,l2.trans c2,.inl ⟨e,rfl,c3.before l2,?_⟩⟩
  rcases c4 with c4|c4
  ·refine ⟨_,Ls,bs,h.core.files c2.ok fun m hm=>?_,.inl ⟨rfl,rfl,SameV.refl _ _⟩⟩
   have h1:m≠freshN:=fun hh=>by
    rcases hm with hm|hm|hm
    ·exact fresh_state (hh.symm.trans hm)
    ·obtain ⟨j,_,h2⟩:=h.core.log
     have h2:s.log=logN j:=h2
     have hm:m=s.log:=hm
     exact log_fresh j (h2.symm.trans (hm.symm.trans hh))
    ·exact names_ne_fresh h.core.lv (by rw [← hh];exact hm)
   rw [c4 m h1]
   refine hfar m ?_
   rcases hm with hm|hm|hm
   ·exact .inl hm
   ·exact .inr (.inr (.inl hm))
   ·exact .inr (.inr (.inr hm))
  ·exact ⟨_,_,bs,hnew D3 c2.ok (by rw [c4,if_pos rfl]) fun m hm _ _=>by rw [c4,if_neg hm],.inl ⟨hq,rfl,hsame⟩⟩
end
end
end Go.Proofs.YtecibefflhomdaaGreatDoor
