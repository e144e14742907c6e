/-
  Part 34: PLAIN what is read; PLAIN a store is opened.
-/
import Derived.Test.YtecibefflhomdaaGreatDoorY33
set_option maxHeartbeats 8000000
set_option maxRecDepth 100000
set_option linter.all false
namespace Go.Proofs.YtecibefflhomdaaGreatDoor
open Go
section
open Go.Proofs.YtecibefflhomdaaGreatDoor.Pure
theorem Ga {M:List az} (hM:fS M) (key:Bs) (seq:Nat):qo M key seq=gd M key seq:=by
 obtain ⟨h1,h2⟩:=mA (e:=⟨key,[],false,seq⟩) hM
 unfold qo
 generalize aZ M ⟨key,[],false,seq⟩=i at h1 h2
 have hsp:=List.take_append_drop i M
 have hv:gd M key seq=gd (M.drop i) key seq:=by
  conv=>lhs;rw [← hsp,ow]
  have:gd (M.take i) key seq=none:=dM.2 fun x hx hk=>by
   rcases bQ.1 (h1 x hx) with h|h
   ·have h:aQ x.key key=true:=h
    rw [hk,aN] at h;cases h
   ·exact h.2
  rw [this];rfl
 rw [hv,head_drop]
 have hs:fS (M.drop i):=hM.sublist (List.drop_sublist _ _)
 cases hd:M.drop i with
 | nil=>rfl
 | cons e r=>
  rw [hd] at hs h2
  have he:=h2 e List.mem_cons_self
  dsimp only [List.head?_cons]
  by_cases hk:e.key=key
  ·rw [if_pos hk]
   have hle:e.seq≤seq:=by
    cases Nat.lt_or_ge seq e.seq with
    | inl h=>rw [bQ.2 (.inr ⟨hk,h⟩)] at he;cases he
    | inr h=>exact h
   symm
   unfold gd
   rw [List.find?_cons_of_pos (by simp [hk,hle])]
  ·rw [if_neg hk]
   symm
   refine dM.2 fun x hx hxk=>?_
   exfalso
   have hlt:aQ key e.key=true:=by
    rcases ew e.key key with h|h|h
    ·rw [bQ.2 (.inl h)] at he;cases he
    ·exact absurd h hk
    ·exact h
   rcases List.mem_cons.1 hx with rfl|hx
   ·exact hk hxk
   ·rcases bQ.1 ((List.pairwise_cons.1 hs).1 x hx) with h|h
    ·have:=dj hlt h;rw [hxk,aN] at this;cases this
    ·exact hk (h.1.trans hxk)
section
variable {C:Prop} {s:St} {D:ad} {q0:Nat} {Ls:ga} {bs:List (List bO)} {E:Nat}
theorem u2 (h:s.levels=cH Ls) (h4:Ls.length=4):∃ ps:List (cD×List az),cI s=ps.map (·.1)∧dx Ls=ps.map (·.2)∧(∀ p∈ps,p∈Ls.flatten)∧ps.length=Ls.flatten.length∧ps=(Ls.getD 0 []).reverse++(Ls.drop 1).flatten:=by
 refine ⟨(Ls.getD 0 []).reverse++(Ls.drop 1).flatten,?_,rfl,?_,?_,rfl⟩
 ·obtain ⟨L0,L1,L2,L3,rfl⟩:=ep h4
  unfold cI;rw [h]
  simp [cH]
 ·obtain ⟨L0,L1,L2,L3,rfl⟩:=ep h4
  intro p hp;simp at hp ⊢;exact hp
 ·obtain ⟨L0,L1,L2,L3,rfl⟩:=ep h4
  simp
theorem xr {key:Bs} {seq:Nat}:∀ (ps:List (cD×List az)) {D:ad},D.Ok→(∀ p∈ps,∃ f cs,file D p.1.name=some f∧mi C f p.1 p.2 cs) →
 ∃ x D',nd key seq (ps.map (·.1)) D=some (x,D')∧cO D D'∧((∃ e,x=.error e∧qX C D e)∨x=.ok (fa (ps.map (·.2)) key seq))
 | [],D,hd,_=>⟨_,_,rfl,cO.refl hd,.inr rfl⟩
 | p::ps,D,hd,h=>by
  obtain ⟨f,cs,h1,h2⟩:=h p List.mem_cons_self
  obtain ⟨x,D1,k1,k2,k3⟩:=F0 h2 hd h1 key seq
  have s1:=cO.KD hd k2
  rw [List.map_cons,List.map_cons,bC]
  unfold nd
  rw [k1]
  rcases k3 with rfl|⟨e,rfl,k3⟩
  ·cases hv:gd p.2 key seq with
   | some x=>exact ⟨_,_,rfl,s1,.inr rfl⟩
   | none=>
    dsimp only
    obtain ⟨x,D2,m1,m2,m3⟩:=xr ps s1.later.ok fun q hq=>by
     obtain ⟨f,cs,h1,h2⟩:=h q (List.mem_cons_of_mem _ hq)
     exact ⟨f,cs,by rw [s1.file];exact h1,h2⟩
    refine ⟨x,D2,m1,s1.trans m2,?_⟩
    rcases m3 with ⟨e,m3,m4⟩|m3
    ·exact .inl ⟨e,m3,m4.before s1.later⟩
    ·exact .inr (by rw [m3];rfl)
  ·exact ⟨_,_,rfl,s1,.inl ⟨e,rfl,k3⟩⟩
theorem IU (h:jo C s D q0 Ls bs E) (key:Bs) (seq:Nat) :
 ∃ x D',vL s D key seq=some (x,D')∧cO D D'∧((key.length=0∨8<key.length)∧x=.error (none,3)∨¬ (key.length=0∨8<key.length)∧((∃ e,x=.error e∧qX C D e)∨x=.ok (dP (fa (s.mem::dx Ls) key seq)))):=by
 unfold vL
 by_cases hk:key.length=0∨8<key.length
 ·rw [if_pos hk];exact ⟨_,_,rfl,cO.refl h.core.ok,.inl ⟨hk,rfl⟩⟩
 ·rw [if_neg hk,Ga h.qM.1.srt,bC]
  cases hv:gd s.mem key seq with
  | some e=>exact ⟨_,_,rfl,cO.refl h.core.ok,.inr ⟨hk,.inr rfl⟩⟩
  | none=>
   dsimp only
   obtain ⟨ps,p1,p2,p3,_⟩:=u2 h.levels h.core.lv.len
   obtain ⟨x,D',k1,k2,k3⟩:=xr (C:=C) (key:=key) (seq:=seq) ps h.core.ok fun p hp=>h.core.on p (p3 p hp)
   rw [p1,k1]
   rcases k3 with ⟨e,rfl,k3⟩|rfl
   ·exact ⟨_,_,rfl,k2,.inr ⟨hk,.inl ⟨e,rfl,k3⟩⟩⟩
   ·exact ⟨_,_,rfl,k2,.inr ⟨hk,.inr (by rw [p2];rfl)⟩⟩
theorem CV (hi:Bs) (limit:Int) (seq:Nat) (s:Sc) (e:az):(lV hi limit seq s e).1.out.length≤s.out.length+1:=by
 unfold lV
 split
 ·exact Nat.le_succ _
 ·split
  ·exact Nat.le_succ _
  ·dsimp only;split
   ·exact Nat.le_succ _
   ·simp
theorem Gb (h:jo C s D q0 Ls bs E) (hE:E≤1048576) (lo hi:Bs) (limit:Int) (seq:Nat) {ps:List (Bs×Bs)} (hps:jS ps) (hv:∀ k,dP (fa (s.mem::dx Ls) k seq)=aV ps k) :
 ∃ x D',Ae s D lo hi limit seq=some (x,D')∧cO D D'∧((∃ e,x=.error e∧qX C D e)∨x=.ok (dW ps lo hi limit)):=by
 obtain ⟨qs,p1,p2,p3,p4,_⟩:=u2 h.levels h.core.lv.len
 have htab:=h.core.CQ hE
 have hcnt:=h.core.cntE
 obtain ⟨hm1,hm2⟩:=h.qM
 have hq:q0+total bs≤4611686018427387904:=h.core.seq
 have hseq:=h.seq
 have hlat:aG=18446744073709551615:=rfl
 have hon:∀ p∈qs,∃ f cs,file D p.1.name=some f∧mi C f p.1 p.2 cs:=fun p hp=>h.core.on p (p3 p hp)
 have hsr:∀ l∈s.mem::qs.map (·.2),fS l:=fun l hl=>by
  rcases List.mem_cons.1 hl with rfl|hl
  ·exact hm1.srt
  ·obtain ⟨p,hp,rfl⟩:=List.mem_map.1 hl
   obtain ⟨f,cs,_,k⟩:=hon p hp
   exact k.srt
 have hor:Pure.Ord (s.mem::qs.map (·.2)):=by rw [← p2];exact h.ord
 have hsrF:∀ l∈(s.mem::qs.map (·.2)).map (fW lo),fS l:=fun l hl=>by
  obtain ⟨l',hl',rfl⟩:=List.mem_map.1 hl
  exact (hsr l' hl').sublist List.filter_sublist
 have horF:Pure.Ord ((s.mem::qs.map (·.2)).map (fW lo)):=List.pairwise_map.2 (hor.imp fun {a b} hab x hx y hy hk=>hab x (List.mem_filter.1 hx).1 y (List.mem_filter.1 hy).1 hk)
 obtain ⟨R,hR,hRp⟩:=rN _ (oW hsrF horF)
 have hlenF:∀ ls:List (List az),(ls.map (fW lo)).flatten.length≤ls.flatten.length:=by
  intro ls
  induction ls with
  | nil=>simp
  | cons l r ih=>
   have:(fW lo l).length≤l.length:=List.length_filter_le _ _
   simp only [List.map_cons,List.flatten_cons,List.length_append];omega
 have hRl:R.length≤2*E:=by
  have h1:=hRp.length_eq
  have h2:=hlenF (s.mem::qs.map (·.2))
  rw [List.flatten_cons,List.length_append,← p2] at h2
  have h3:(dx Ls).flatten.length=cnt Ls:=by
   obtain ⟨L0,L1,L2,L3,hL⟩:=ep h.core.lv.len
   rw [hL]
   unfold dx cnt
   rw [iI]
   simp
  rw [p2] at h2 h3
  omega
 have hRlo:∀ e∈R,lf lo e.key=true:=fun e he=>by
  obtain ⟨l,hl,hel⟩:=List.mem_flatten.1 (hRp.mem_iff.1 he)
  obtain ⟨l',_,rfl⟩:=List.mem_map.1 hl
  exact (List.mem_filter.1 hel).2
 have hvis:∀ k,lf lo k=true→dP (gd R k seq)=aV ps k:=fun k hk=>by
  rw [uY hR hsrF horF hRp,← hv,← p2.symm]
  have key:∀ ls:List (List az),fa (ls.map (fW lo)) k seq=fa ls k seq:=by
   intro ls
   induction ls with
   | nil=>rfl
   | cons l r ih=>
    rw [List.map_cons,bC,bC,ih]
    have:=BX l (fun x=>!aQ x lo) k seq
    have e1:gd (fW lo l) k seq=gd l k seq:=by
     unfold fW;rw [this]
     exact if_pos hk
    rw [e1]
  rw [key]
 have hnx:CI C (file D) s.mem (.mg ⟨false,iq s.mem lo::(cI s).map fun T=>eF T lo,[]⟩) R:=by
  show sW _ _ _ _ _
  unfold sW
  rw [if_neg (by simp)]
  refine ⟨rfl,?_,(s.mem::qs.map (·.2)).map (fW lo),?_,hRp⟩
  ·rw [p1];simp only [List.length_map,List.length_cons];omega
  ·rw [p1]
   show nW _ _ _ (iq s.mem lo::((qs.map (·.1)).map fun T=>eF T lo)) _
   rw [oX,List.map_cons,List.map_map]
   exact .cons (AI hm1.srt (fun e he=>by have:=(hm1.seq e he).2;omega) lo) (hm1.srt.sublist List.filter_sublist) (yE lo qs hon)
 obtain ⟨s',o,D',j,k1,k2,k3,k4,k5⟩:=rJ (M:=s.mem) (body:=Ad hi limit seq) (g:=lV hi limit seq) (Sz:=fun k (s:Sc)=>s.out.length≤k) (N:=1073741824)
  (fun k s' e hk hs=>⟨by unfold Ad;rw [if_pos (by rw [bJ];omega)],by have:=CV hi limit seq s' e;omega⟩) R gW 0 _ D GR h.core.ok hR hnx (by rw [bJ];omega) (by omega) (by simp [GR])
 unfold Ae
 rw [if_pos (by rw [p1,List.length_map,bJ];omega),k1]
 rcases k5 with ⟨e,rfl,k5⟩|⟨rfl,rfl⟩
 ·exact ⟨_,_,rfl,k2,.inl ⟨e,rfl,k5⟩⟩
 ·exact ⟨_,_,rfl,k2,.inr (by rw [Ke hR hRlo hps hvis])⟩
end
end
section
open Go.Proofs.YtecibefflhomdaaGreatDoor.Pure
theorem MG {i:Nat} (h:i<256) (rest:Bs):Rd.num ⟨UInt8.ofNat i::rest,false⟩ 1=(i,⟨rest,false⟩):=by
 have:=iv (N:=i) (k:=1) (by omega) rest
 simpa [bM] using this
theorem Gc (b:Bs):fz b 0 (b.length:Int)=b:=by
 unfold fz
 have h1:(min (max (0:Int) 0) (b.length:Int)).toNat=0:=by omega
 have h2:(min (max (b.length:Int) 0) ((b.length:Int)-min (max (0:Int) 0) (b.length:Int))).toNat=b.length:=by omega
 rw [h1,h2,List.drop_zero,List.take_length]
theorem u3 {D:ad} {n b:Bs} (hd:D.Ok) (hf:file D n=some b):∃ x D',ij D n=(x,D')∧cO D D'∧(x=.ok b∨∃ e,x=.error e∧qE D e):=by
 unfold ij
 rcases fe hf with h1|⟨e,h1,ht⟩
 ·rw [h1]
  dsimp only
  have hf2:file D.tick n=some b:=by rw [iE];exact hf
  have s1:=cO.tick hd
  rcases fe hf2 with h2|⟨e,h2,ht⟩
  ·rw [h2]
   dsimp only
   rw [Ar h1 hf,qG h2 hf2,Gc]
   exact ⟨_,_,rfl,s1.trans (cO.read s1.later.ok _),.inl rfl⟩
  ·rw [h2]
   exact ⟨_,_,rfl,s1.trans (cO.read s1.later.ok _),.inr ⟨e,rfl,ht.before s1.later⟩⟩
 ·rw [h1]
  exact ⟨_,_,rfl,cO.tick hd,.inr ⟨e,rfl,ht⟩⟩
theorem u4 {D:ad} {n:Bs} (hd:D.Ok) (hf:file D n=none):∃ e D',ij D n=(.error e,D')∧cO D D'∧(qE D e∨e=(some n,10)):=by
 unfold ij
 cases h1:bz D n with
 | some e=>
  refine ⟨e,_,rfl,cO.tick hd,?_⟩
  rcases pC h1 with h|⟨h,_⟩
  ·exact .inl h
  ·exact .inr h
 | none=>
  obtain ⟨_,i,_,h2⟩:=kV h1
  rw [hf] at h2;cases h2
theorem AS {C:Prop} {D:ad} {e:cy} (h:qX C D e):qX C D (sE e):=by
 unfold sE
 cases hn:e.1 with
 | none=>exact h
 | some n=>
  dsimp only
  by_cases h10:e.2=10
  ·rcases h with h|⟨_,h⟩
   ·have:=h.1;omega
   ·omega
  ·rw [if_neg h10];exact h
def jY:Nat→List (List (cD×List az))→List (Nat×cD×List az)
 | _,[]=>[]
 | i,l::r=>l.map (fun p=>(i,p))++jY (i+1) r
def u5 (ps:List (Nat×cD×List az)):Bs:=(ps.map fun p=>UInt8.ofNat p.1::bE p.2.1.name).flatten
theorem xu:∀ (Ls:ga) (i:Nat),eM i (cH Ls)=u5 (jY i Ls)
 | [],_=>rfl
 | l::r,i=>by
  have h:=xu r (i+1)
  unfold cH at h ⊢
  rw [List.map_cons]
  unfold eM jY
  rw [h]
  unfold u5
  rw [List.map_append,List.flatten_append,List.map_map,List.map_map]
  rfl
theorem Ey:∀ (Ls:ga) (i:Nat) (p:Nat×cD×List az),p∈jY i Ls→p.2∈Ls.flatten∧i≤p.1∧p.1<i+Ls.length
 | [],_,p,h=>by cases h
 | l::r,i,p,h=>by
  unfold jY at h
  rcases List.mem_append.1 h with h|h
  ·obtain ⟨q,hq,rfl⟩:=List.mem_map.1 h
   refine ⟨?_,Nat.le_refl _,by simp⟩
   rw [List.flatten_cons];exact List.mem_append_left _ hq
  ·obtain ⟨h1,h2,h3⟩:=Ey r (i+1) p h
   refine ⟨?_,by omega,by simp;omega⟩
   rw [List.flatten_cons];exact List.mem_append_right _ h1
theorem Ez:∀ (Ls:ga) (i:Nat),(jY i Ls).length=Ls.flatten.length
 | [],_=>rfl
 | l::r,i=>by simp [jY,Ez r]
def yF (ls:List (List cD)) (p:Nat×cD×List az):List (List cD):=ls.set p.1 (ls.getD p.1 []++[p.2.1])
theorem n5 (i:Nat):∀ (l:List (cD×List az)) (acc:List (List cD)),i<acc.length→(l.map fun p=>(i,p)).foldl yF acc=acc.set i (acc.getD i []++l.map (·.1))
 | [],acc,h=>by
  simp [List.getD_eq_getElem?_getD,List.getElem?_eq_getElem h]
 | p::l,acc,h=>by
  rw [List.map_cons,List.foldl_cons,n5 i l _ (by simp [yF];exact h)]
  unfold yF
  dsimp only
  rw [List.set_set]
  congr 1
  simp [List.getD_eq_getElem?_getD,List.getElem?_set,h]
theorem IV {Ls:ga} (h4:Ls.length=4):(jY 0 Ls).foldl yF [[],[],[],[]]=cH Ls:=by
 obtain ⟨L0,L1,L2,L3,rfl⟩:=ep h4
 unfold jY jY jY jY jY
 rw [List.append_nil,List.foldl_append,List.foldl_append,List.foldl_append,n5 0 _ _ (by simp)]
 rw [n5 1 _ _ (by simp),n5 2 _ _ (by simp),n5 3 _ _ (by simp)]
 simp [cH]
theorem yG (acc:List (List cD)) (i j:Nat) (x:List cD):((acc.set i x).getD j []).length≤max x.length (acc.getD j []).length:=by
 simp only [List.getD_eq_getElem?_getD,List.getElem?_set]
 split
 ·split
  ·simp;omega
  ·simp
 ·omega
theorem u6 {C:Prop}:∀ (ps:List (Nat×cD×List az)) (f:Nat) (D:ad) (acc:List (List cD)) (k:Nat),D.Ok→ps.length<f→acc.length=4→(∀ i,(acc.getD i []).length≤k)→k+ps.length≤1073741824 →
 (∀ p∈ps,p.1<4∧p.2.1.name.length≤26∧∃ f cs,file D p.2.1.name=some f∧mi C f p.2.1 p.2.2 cs) →
 ∃ x D',lI f D ⟨u5 ps,false⟩ acc=some (x,D')∧cO D D'∧((∃ e,x=.error e∧qX C D e)∨x=.ok (ps.foldl yF acc,⟨[],false⟩))
 | _,0,_,_,_,_,h,_,_,_,_=>absurd h (Nat.not_lt_zero _)
 | [],f+1,D,acc,k,hd,_,_,_,_,_=>by
  unfold lI
  rw [if_neg (by simp [u5])]
  exact ⟨_,_,rfl,cO.refl hd,.inr rfl⟩
 | p::ps,f+1,D,acc,k,hd,hf,h4,hk,hkk,hp=>by
  obtain ⟨h1,h2,fl,cs,h3,h5⟩:=hp p List.mem_cons_self
  have e:u5 (p::ps)=UInt8.ofNat p.1::(bE p.2.1.name++u5 ps):=by simp [u5]
  simp only [List.length_cons] at hf hkk
  unfold lI
  rw [if_pos ⟨by rw [e];simp,rfl⟩,e,MG (by omega)]
  dsimp only
  rw [kI (by omega)]
  dsimp only
  have hx:∃ x,uP p.2.1.name fl=some x∧(x=.ok p.2.1∨C∧x=.error (some p.2.1.name,7)):=by
   rcases h5.head with hh|⟨hC,hh⟩
   ·exact ⟨_,hh,.inl rfl⟩
   ·exact ⟨_,hh,.inr ⟨hC,rfl⟩⟩
  obtain ⟨x,hx1,hx2⟩:=hx
  obtain ⟨y,D1,o1,o2,o3⟩:=FY hd h3 hx1
  rw [o1]
  have bad:∀ e,y=.error e→qX C D e→∃ x D',(match some (y,D1) with
   | none=>none
   | some (.error e,D')=>some (.error (sE e),D')
   | some (.ok T,D')=>if 4≤p.1 then some (.error (some aP,7),D') else
    if (acc.getD p.1 []).length≤gW then lI f D' ⟨u5 ps,false⟩ (acc.set p.1 (acc.getD p.1 []++[T])) else none)=some (x,D')∧cO D D'∧((∃ e,x=.error e∧qX C D e)∨x=.ok ((p::ps).foldl yF acc,⟨[],false⟩)):=by
   intro e he hb
   rw [he]
   exact ⟨_,_,rfl,o2,.inl ⟨_,rfl,AS hb⟩⟩
  rcases o3 with o3|⟨e,o3,o4⟩
  ·rcases hx2 with hx2|⟨hC,hx2⟩
   ·rw [o3,hx2]
    dsimp only
    have hk':=hk p.1
    rw [if_neg (by omega),if_pos (by rw [bJ];omega)]
    obtain ⟨x,D2,l1,l2,l3⟩:=u6 ps f D1 (yF acc p) (k+1) o2.later.ok (by omega) (by simp [yF];exact h4) (fun i=>by
     have:=yG acc p.1 i (acc.getD p.1 []++[p.2.1])
     have h6:=hk i
     simp only [List.length_append,List.length_singleton] at this
     unfold yF;omega) (by omega) fun q hq=>by
      obtain ⟨a1,a2,f',cs',a3,a4⟩:=hp q (List.mem_cons_of_mem _ hq)
      exact ⟨a1,a2,f',cs',by rw [o2.file];exact a3,a4⟩
    refine ⟨x,D2,l1,o2.trans l2,?_⟩
    rcases l3 with ⟨e,l3,l4⟩|l3
    ·exact .inl ⟨e,l3,l4.before o2.later⟩
    ·exact .inr (by rw [l3];rfl)
   ·exact bad _ (o3.trans hx2) (.inr ⟨hC,rfl⟩)
  ·exact bad _ o3 (.inl o4)
def ib (c:bO):bO:=if c.del=true then { c with val:=[] } else c
theorem Gd (c:bO) (q:Nat):gH (ib c) q=bG (gH c q):=by
 obtain ⟨k,v,d⟩:=c
 cases d<;>rfl
theorem lB:∀ (b:List bO) (q:Nat),bj q (b.map ib)=(bj q b).map bG
 | [],_=>rfl
 | c::r,q=>by simp only [List.map_cons,bj,lB r,Gd]
theorem Ge (l:List az) (i:Nat):(l.map bG).getD i default=bG (l.getD i default):=by
 rw [List.getD_eq_getElem?_getD,List.getD_eq_getElem?_getD,List.getElem?_map]
 cases l[i]?<;>rfl
theorem mT (l:List az) (e:az):∀ f lo hi,dt (l.map bG) (bG e) f lo hi=dt l e f lo hi
 | 0,_,_=>rfl
 | f+1,lo,hi=>by unfold dt;rw [Ge,xf,mT l e f,mT l e f]
theorem Gf (l:List az) (e:az):dT (l.map bG) (bG e)=(dT l e).map bG:=by
 unfold dT aZ
 rw [List.length_map,mT]
 simp [List.map_take,List.map_drop]
theorem xv:∀ (b l:List az),(b.map bG).foldl dT (l.map bG)=(b.foldl dT l).map bG
 | [],_=>rfl
 | e::b,l=>by rw [List.map_cons,List.foldl_cons,List.foldl_cons,Gf,xv b]
theorem u7:∀ (bs:List (List bO)) (q:Nat) (m:List az),gu q (bs.map (·.map ib)) (m.map bG)=(gu q bs m).map bG
 | [],_,_=>rfl
 | b::r,q,m=>by
  show gu (q+(b.map ib).length) _ ((bj q (b.map ib)).foldl dT (m.map bG))=_
  rw [List.length_map,lB,xv,u7 r];rfl
theorem pI (bs:List (List bO)):total (bs.map (·.map ib))=total bs:=by
 unfold total;rw [List.map_map];congr 1;exact List.map_congr_left fun b _=>by simp
theorem Gg (q:Nat) (b:List bO):kQ q (b.map ib)=kQ q b:=by
 unfold kQ
 rw [lB,List.map_map]
 congr 2
 exact List.map_congr_left fun e _=>rh e
theorem lJ:∀ (bs:List (List bO)) (q:Nat),bF q (bs.map (·.map ib))=bF q bs
 | [],_=>rfl
 | b::r,q=>by
  show aD (kQ q (b.map ib))++bF (q+(b.map ib).length) _=_
  rw [Gg,List.length_map,lJ r];rfl
theorem IW {b:List bO} (h:JR b):JR (b.map ib):=by
 have hk:∀ c:bO,(ib c).key=c.key:=fun c=>by unfold ib;split<;>rfl
 have hd:∀ c:bO,(ib c).del=c.del:=fun c=>by unfold ib;split<;>rfl
 refine ⟨by simpa using h.len,fun c hc=>?_,fun c hc hh=>?_⟩
 ·obtain ⟨x,hx,rfl⟩:=List.mem_map.1 hc
  rw [hk];exact h.key x hx
 ·obtain ⟨x,hx,rfl⟩:=List.mem_map.1 hc
  rw [hd] at hh
  have:ib x=x:=by unfold ib;simp [hh]
  rw [this];exact h.val x hx hh
theorem qN:∀ (b:List bO) (q f:Nat) (s:St),(∀ e∈bj q b,lQ e)→s.seq=q→s.mem.length+b.length≤1048577→b.length<f →
 kS f ⟨((bj q b).map cY).flatten,false⟩ s=some ({ s with seq:=q+b.length,mem:=((bj q b).map bG).foldl dT s.mem },false)
 | _,_,0,_,_,_,_,h=>absurd h (Nat.not_lt_zero _)
 | [],q,f+1,s,_,hq,_,_=>by
  unfold kS
  rw [if_pos (by rfl)]
  subst hq;rfl
 | c::r,q,f+1,s,he,hq,hm,hf=>by
  simp only [List.length_cons] at hm hf
  have e1:((bj q (c::r)).map cY).flatten=cY (gH c (q+1))++((bj (q+1) r).map cY).flatten:=by simp [bj]
  have hne:cY (gH c (q+1))≠[]:=fun hh=>by have:=lS (gH c (q+1));rw [hh] at this;simp at this
  unfold kS
  rw [if_neg (by rw [e1];simp [hne]),e1,wq (he _ List.mem_cons_self)]
  dsimp only
  rw [if_neg (by simp),if_pos (by omega)]
  have h:=qN r (q+1) f { s with seq:=q+1,mem:=dT s.mem (bG (gH c (q+1))) } (fun e hh=>he e (List.mem_cons_of_mem _ hh)) rfl (by simp;omega) (by omega)
  have hs:(bG (gH c (q+1))).seq=q+1:=ot _
  rw [hs,h]
  simp [bj,Nat.add_assoc,Nat.add_comm 1]
theorem sJ {junk:Bs} (hj:bI junk=none):∀ (bs:List (List bO)) (q f:Nat) (s:St),(∀ b∈bs,JR b)→s.seq=q→q+total bs≤4611686018427387904→s.mem.length+total bs≤1048576→bs.length<f →
 lx f (bF q bs++junk) s=some { s with seq:=q+total bs,mem:=gu q (bs.map (·.map ib)) s.mem }
 | _,_,0,_,_,_,_,_,h=>absurd h (Nat.not_lt_zero _)
 | [],q,f+1,s,_,hq,_,_,_=>by
  unfold lx
  rw [show bF q []++junk=junk from rfl,hj]
  subst hq;rfl
 | b::r,q,f+1,s,hb,hq,hn,hm,hf=>by
  have ht:total (b::r)=b.length+total r:=by simp [total]
  have hbk:=hb b List.mem_cons_self
  have hl8:=hbk.len
  simp only [List.length_cons] at hf
  have he:∀ e∈bj q b,lQ e:=fun e hh=>(qL b q hbk.key hbk.val (by omega) e hh).1
  have hlen:(kQ q b).length≤8+34*b.length:=by
   have h1:=kW he
   rw [ey] at h1
   unfold e9 at h1
   unfold kQ
   rw [List.length_append,aU];omega
  have e1:bF q (b::r)++junk=aD (kQ q b)++(bF (q+b.length) r++junk):=by simp [bF]
  unfold lx
  rw [e1,lR (by omega)]
  dsimp only
  rw [show kQ q b=bM q 8++((bj q b).map cY).flatten from rfl,iv (by omega)]
  dsimp only
  rw [if_neg (by simp [hq])]
  have hfl:b.length<(bM q 8++((bj q b).map cY).flatten).length+1:=by
   have key:∀ l:List az,l.length≤(l.map cY).flatten.length:=by
    intro l
    induction l with
    | nil=>simp
    | cons e r ih=>
     have:=lS e
     simp only [List.map_cons,List.flatten_cons,List.length_append,List.length_cons];omega
   have:=key (bj q b)
   rw [ey] at this
   rw [List.length_append];omega
  rw [qN b q _ s he hq (by omega) hfl]
  dsimp only
  have h:=sJ hj r (q+b.length) f { s with seq:=q+b.length,mem:=((bj q b).map bG).foldl dT s.mem } (fun x hx=>hb x (List.mem_cons_of_mem _ hx)) rfl (by omega) (by
   show (((bj q b).map bG).foldl dT s.mem).length+_≤_
   rw [AM,List.length_map,ey];omega) (by omega)
  rw [h,ht]
  simp only [List.map_cons,gu,List.length_map,lB,Nat.add_assoc]
def pJ (c:St) (bs:List (List bO)):St:={ oU with number:=c.number,seq:=c.seq+total bs,log:=c.log,levels:=c.levels,mem:=gu c.seq (bs.map (·.map ib)) [] }
theorem u9:∀ (bs:List (List bO)) (q:Nat),bs.length≤(bF q bs).length
 | [],_=>by simp
 | b::r,q=>by
  have:=u9 r (q+b.length)
  simp only [bF,List.length_append,List.length_cons,bL];omega
section
variable {C:Prop} {D:ad} {c:St} {Ls:ga} {bs:List (List bO)} {E:Nat}
theorem Gh (h:RecM C D c Ls bs E) (hE:E≤1048576) :
 ∃ x D',oV D=some (x,D')∧cO D D'∧((∃ e,x=.error e∧qX C D e)∨x=.ok (pJ c bs)):=by
 have htab:=h.CQ hE
 have hsl:=h.AG hE
 have hll:=h.CP
 have hnum:=h.num
 have hseq:=h.seq
 have hcnt:=h.cntE
 unfold oV
 obtain ⟨x,D1,w1,w2,w3⟩:=u3 h.ok h.state
 rw [w1]
 rcases w3 with rfl|⟨e,rfl,w3⟩
 ·dsimp only
  have ho:bI (aD (bT c))=some (bT c,[]):=by
   have:=lR (b:=bT c) (by rw [bL] at hsl;omega) []
   rwa [List.append_nil] at this
  rw [ho]
  dsimp only
  rw [if_neg (by simp)]
  have e1:bT c=bM c.number 8++(bM c.seq 8++(bE c.log++u5 (jY 0 Ls))):=by
   unfold bT;rw [h.levels,xu];simp
  have hidx:(jY 0 Ls).length<(bT c).length+1:=by
   have key:∀ ps:List (Nat×cD×List az),ps.length≤(u5 ps).length:=by
    intro ps
    induction ps with
    | nil=>simp
    | cons p r ih=>unfold u5 at ih ⊢;simp only [List.map_cons,List.flatten_cons,List.length_append,List.length_cons];omega
   have:=key (jY 0 Ls)
   rw [e1];simp only [List.length_append];omega
  generalize hf:(bT c).length+1=f at hidx
  rw [e1,iv (by omega)]
  dsimp only
  rw [iv (by omega)]
  dsimp only
  rw [kI (by omega)]
  dsimp only
  obtain ⟨x,D2,l1,l2,l3⟩:=u6 (C:=C) (jY 0 Ls) f D1 [[],[],[],[]] 0 w2.later.ok hidx rfl (fun i=>by
   rcases i with _|_|_|_|i<;>simp) (by rw [Ez];omega) fun p hp=>by
    obtain ⟨a1,_,a3⟩:=Ey Ls 0 p hp
    obtain ⟨fl,cs,b1,b2⟩:=h.on p.2 a1
    refine ⟨by rw [h.lv.len] at a3;omega,?_,fl,cs,by rw [w2.file];exact b1,b2⟩
    obtain ⟨k,_,hk⟩:=h.lv.names p.2 a1
    rw [hk];exact uX k
  rw [l1]
  rcases l3 with ⟨e,rfl,l3⟩|rfl
  ·exact ⟨_,_,rfl,w2.trans l2,.inl ⟨e,rfl,l3.before w2.later⟩⟩
  ·dsimp only
   rw [if_neg (by simp),IV h.lv.len]
   have s2:=w2.trans l2
   obtain ⟨junk,j1,j2⟩:=h.logf
   unfold qz
   obtain ⟨x,D3,r1,r2,r3⟩:=u3 s2.later.ok (n:=c.log) (b:=bF c.seq bs++junk) (by rw [s2.file];exact j1)
   dsimp only
   rw [r1]
   rcases r3 with rfl|⟨e,rfl,r3⟩
   ·dsimp only
    have hr:=sJ j2 bs c.seq ((bF c.seq bs++junk).length+1) { oU with number:=c.number,seq:=c.seq,log:=c.log,levels:=cH Ls } h.bsok rfl h.seq (by show 0+total bs≤_;omega) (by
     have:=u9 bs c.seq
     rw [List.length_append];omega)
    rw [hr]
    refine ⟨_,_,rfl,s2.trans r2,.inr ?_⟩
    rw [← h.levels];rfl
   ·exact ⟨_,_,rfl,s2.trans r2,.inl ⟨_,rfl,AS (.inl (r3.before s2.later))⟩⟩
 ·dsimp only
  have h8:=w3.1
  rw [if_neg (by omega)]
  exact ⟨_,_,rfl,w2,.inl ⟨e,rfl,.inl w3⟩⟩
end
end
end Go.Proofs.YtecibefflhomdaaGreatDoor
