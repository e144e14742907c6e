/-
  Part 34: PLAIN a store is opened; PLAIN a store is opened.
-/
import Derived.Test.YtecibefflhomdaaGreatDoorV33
set_option maxHeartbeats 8000000
set_option maxRecDepth 100000
set_option linter.all false
namespace Go.Proofs.YtecibefflhomdaaGreatDoor
open Go
section
open Go.Proofs.YtecibefflhomdaaGreatDoor.Pure
theorem O1 {i:Nat} (h:i<256) (rest:Bs):Rd.num ⟨UInt8.ofNat i::rest,false⟩ 1=(i,⟨rest,false⟩):=by
 have:=iS (N:=i) (k:=1) (by omega) rest
 simpa [bL] using this
theorem HX (b:Bs):fB b 0 (b.length:Int)=b:=by
 unfold fB
 have h1:(min (max (0:Int) 0) (b.length:Int)).toNat=0:=by omega
 have h2:(min (max (b.length:Int) 0) ((b.length:Int)-min (max (0:Int) 0) (b.length:Int))).toNat=b.length:=by omega
 rw [h1,h2,List.drop_zero,List.take_length]
theorem wx {D:ae} {n b:Bs} (hd:D.Ok) (hf:file D n=some b):∃ x D',iJ D n=(x,D')∧cK D D'∧(x=.ok b∨∃ e,x=.error e∧qX D e):=by
 unfold iJ
 rcases fe hf with h1|⟨e,h1,ht⟩
 ·rw [h1]
  dsimp only
  have hf2:file D.tick n=some b:=by rw [ja];exact hf
  have s1:=cK.tick hd
  rcases fe hf2 with h2|⟨e,h2,ht⟩
  ·rw [h2]
   dsimp only
   rw [BT h1 hf,q5 h2 hf2,HX]
   exact ⟨_,_,rfl,s1.trans (cK.read s1.later.ok _),.inl rfl⟩
  ·rw [h2]
   exact ⟨_,_,rfl,s1.trans (cK.read s1.later.ok _),.inr ⟨e,rfl,ht.before s1.later⟩⟩
 ·rw [h1]
  exact ⟨_,_,rfl,cK.tick hd,.inr ⟨e,rfl,ht⟩⟩
theorem wy {D:ae} {n:Bs} (hd:D.Ok) (hf:file D n=none):∃ e D',iJ D n=(.error e,D')∧cK D D'∧(qX D e∨e=(some n,10)):=by
 unfold iJ
 cases h1:bx D n with
 | some e=>
  refine ⟨e,_,rfl,cK.tick hd,?_⟩
  rcases qa h1 with h|⟨h,_⟩
  ·exact .inl h
  ·exact .inr h
 | none=>
  obtain ⟨_,i,_,h2⟩:=lr h1
  rw [hf] at h2;cases h2
theorem Cl {C:Prop} {D:ae} {e:cx} (h:qZ C D e):qZ C D (tf e):=by
 unfold tf
 cases hn:e.1 with
 | none=>exact h
 | some n=>
  dsimp only
  by_cases h10:e.2=10
  ·rcases h with h|⟨_,h⟩
   ·have:=h.1;omega
   ·omega
  ·rw [if_neg h10];exact h
def kh:Nat→List (List (bN×List aB))→List (Nat×bN×List aB)
 | _,[]=>[]
 | i,l::r=>l.map (fun p=>(i,p))++kh (i+1) r
def wz (ps:List (Nat×bN×List aB)):Bs:=(ps.map fun p=>UInt8.ofNat p.1::bC p.2.1.name).flatten
theorem yK:∀ (Ls:fU) (i:Nat),eN i (bU Ls)=wz (kh i Ls)
 | [],_=>rfl
 | l::r,i=>by
  have h:=yK r (i+1)
  unfold bU at h ⊢
  rw [List.map_cons]
  unfold eN kh
  rw [h]
  unfold wz
  rw [List.map_append,List.flatten_append,List.map_map,List.map_map]
  rfl
theorem Gu:∀ (Ls:fU) (i:Nat) (p:Nat×bN×List aB),p∈kh i Ls→p.2∈Ls.flatten∧i≤p.1∧p.1<i+Ls.length
 | [],_,p,h=>by cases h
 | l::r,i,p,h=>by
  unfold kh at h
  rcases List.mem_append.1 h with h|h
  ·obtain ⟨q,hq,rfl⟩:=List.mem_map.1 h
   refine ⟨?_,Nat.le_refl _,by simp⟩
   rw [List.flatten_cons];exact List.mem_append_left _ hq
  ·obtain ⟨h1,h2,h3⟩:=Gu r (i+1) p h
   refine ⟨?_,by omega,by simp;omega⟩
   rw [List.flatten_cons];exact List.mem_append_right _ h1
theorem Gv:∀ (Ls:fU) (i:Nat),(kh i Ls).length=Ls.flatten.length
 | [],_=>rfl
 | l::r,i=>by simp [kh,Gv r]
def Ad (ls:List (List bN)) (p:Nat×bN×List aB):List (List bN):=ls.set p.1 (ls.getD p.1 []++[p.2.1])
theorem oE (i:Nat):∀ (l:List (bN×List aB)) (acc:List (List bN)),i<acc.length→(l.map fun p=>(i,p)).foldl Ad acc=acc.set i (acc.getD i []++l.map (·.1))
 | [],acc,h=>by
  simp [List.getD_eq_getElem?_getD,List.getElem?_eq_getElem h]
 | p::l,acc,h=>by
  rw [List.map_cons,List.foldl_cons,oE i l _ (by simp [Ad];exact h)]
  unfold Ad
  dsimp only
  rw [List.set_set]
  congr 1
  simp [List.getD_eq_getElem?_getD,List.getElem?_set,h]
theorem KY {Ls:fU} (h4:Ls.length=4):(kh 0 Ls).foldl Ad [[],[],[],[]]=bU Ls:=by
 obtain ⟨L0,L1,L2,L3,rfl⟩:=dS h4
 unfold kh kh kh kh kh
 rw [List.append_nil,List.foldl_append,List.foldl_append,List.foldl_append,oE 0 _ _ (by simp)]
 rw [oE 1 _ _ (by simp),oE 2 _ _ (by simp),oE 3 _ _ (by simp)]
 simp [bU]
theorem Ae (acc:List (List bN)) (i j:Nat) (x:List bN):((acc.set i x).getD j []).length≤max x.length (acc.getD j []).length:=by
 simp only [List.getD_eq_getElem?_getD,List.getElem?_set]
 split
 ·split
  ·simp;omega
  ·simp
 ·omega
theorem wA {C:Prop}:∀ (ps:List (Nat×bN×List aB)) (f:Nat) (D:ae) (acc:List (List bN)) (k:Nat),D.Ok→ps.length<f→acc.length=4→(∀ i,(acc.getD i []).length≤k)→k+ps.length≤1073741824 →
 (∀ p∈ps,p.1<4∧p.2.1.name.length≤26∧∃ f cs,file D p.2.1.name=some f∧mG C f p.2.1 p.2.2 cs) →
 ∃ x D',lW f D ⟨wz ps,false⟩ acc=some (x,D')∧cK D D'∧((∃ e,x=.error e∧qZ C D e)∨x=.ok (ps.foldl Ad acc,⟨[],false⟩))
 | _,0,_,_,_,_,h,_,_,_,_=>absurd h (Nat.not_lt_zero _)
 | [],f+1,D,acc,k,hd,_,_,_,_,_=>by
  unfold lW
  rw [if_neg (by simp [wz])]
  exact ⟨_,_,rfl,cK.refl hd,.inr rfl⟩
 | p::ps,f+1,D,acc,k,hd,hf,h4,hk,hkk,hp=>by
  obtain ⟨h1,h2,fl,cs,h3,h5⟩:=hp p List.mem_cons_self
  have e:wz (p::ps)=UInt8.ofNat p.1::(bC p.2.1.name++wz ps):=by simp [wz]
  simp only [List.length_cons] at hf hkk
  unfold lW
  rw [if_pos ⟨by rw [e];simp,rfl⟩,e,O1 (by omega)]
  dsimp only
  rw [kS (by omega)]
  dsimp only
  have hx:∃ x,wa p.2.1.name fl=some x∧(x=.ok p.2.1∨C∧x=.error (some p.2.1.name,7)):=by
   rcases h5.head with hh|⟨hC,hh⟩
   ·exact ⟨_,hh,.inl rfl⟩
   ·exact ⟨_,hh,.inr ⟨hC,rfl⟩⟩
  obtain ⟨x,hx1,hx2⟩:=hx
  obtain ⟨y,D1,o1,o2,o3⟩:=HM hd h3 hx1
  rw [o1]
  have bad:∀ e,y=.error e→qZ C D e→∃ x D',(match some (y,D1) with
   | none=>none
   | some (.error e,D')=>some (.error (tf e),D')
   | some (.ok T,D')=>if 4≤p.1 then some (.error (some aU,7),D') else
    if (acc.getD p.1 []).length≤iq then lW f D' ⟨wz ps,false⟩ (acc.set p.1 (acc.getD p.1 []++[T])) else none)=some (x,D')∧cK D D'∧((∃ e,x=.error e∧qZ C D e)∨x=.ok ((p::ps).foldl Ad acc,⟨[],false⟩)):=by
   intro e he hb
   rw [he]
   exact ⟨_,_,rfl,o2,.inl ⟨_,rfl,Cl hb⟩⟩
  rcases o3 with o3|⟨e,o3,o4⟩
  ·rcases hx2 with hx2|⟨hC,hx2⟩
   ·rw [o3,hx2]
    dsimp only
    have hk':=hk p.1
    rw [if_neg (by omega),if_pos (by rw [bI];omega)]
    obtain ⟨x,D2,l1,l2,l3⟩:=wA ps f D1 (Ad acc p) (k+1) o2.later.ok (by omega) (by simp [Ad];exact h4) (fun i=>by
     have:=Ae acc p.1 i (acc.getD p.1 []++[p.2.1])
     have h6:=hk i
     simp only [List.length_append,List.length_singleton] at this
     unfold Ad;omega) (by omega) fun q hq=>by
      obtain ⟨a1,a2,f',cs',a3,a4⟩:=hp q (List.mem_cons_of_mem _ hq)
      exact ⟨a1,a2,f',cs',by rw [o2.file];exact a3,a4⟩
    refine ⟨x,D2,l1,o2.trans l2,?_⟩
    rcases l3 with ⟨e,l3,l4⟩|l3
    ·exact .inl ⟨e,l3,l4.before o2.later⟩
    ·exact .inr (by rw [l3];rfl)
   ·exact bad _ (o3.trans hx2) (.inr ⟨hC,rfl⟩)
  ·exact bad _ o3 (.inl o4)
def iG (c:cG):cG:=if c.del=true then { c with val:=[] } else c
theorem HY (c:cG) (q:Nat):gR (iG c) q=bF (gR c q):=by
 obtain ⟨k,v,d⟩:=c
 cases d<;>rfl
theorem lL:∀ (b:List cG) (q:Nat),bc q (b.map iG)=(bc q b).map bF
 | [],_=>rfl
 | c::r,q=>by simp only [List.map_cons,bc,lL r,HY]
theorem HZ (l:List aB) (i:Nat):(l.map bF).getD i default=bF (l.getD i default):=by
 rw [List.getD_eq_getElem?_getD,List.getD_eq_getElem?_getD,List.getElem?_map]
 cases l[i]?<;>rfl
theorem nj (l:List aB) (e:aB):∀ f lo hi,dA (l.map bF) (bF e) f lo hi=dA l e f lo hi
 | 0,_,_=>rfl
 | f+1,lo,hi=>by unfold dA;rw [HZ,yx,nj l e f,nj l e f]
theorem H0 (l:List aB) (e:aB):dU (l.map bF) (bF e)=(dU l e).map bF:=by
 unfold dU aZ
 rw [List.length_map,nj]
 simp [List.map_take,List.map_drop]
theorem yL:∀ (b l:List aB),(b.map bF).foldl dU (l.map bF)=(b.foldl dU l).map bF
 | [],_=>rfl
 | e::b,l=>by rw [List.map_cons,List.foldl_cons,List.foldl_cons,H0,yL b]
theorem wB:∀ (bs:List (List cG)) (q:Nat) (m:List aB),ij q (bs.map (·.map iG)) (m.map bF)=(ij q bs m).map bF
 | [],_,_=>rfl
 | b::r,q,m=>by
  show ij (q+(b.map iG).length) _ ((bc q (b.map iG)).foldl dU (m.map bF))=_
  rw [List.length_map,lL,yL,wB r];rfl
theorem qe (bs:List (List cG)):total (bs.map (·.map iG))=total bs:=by
 unfold total;rw [List.map_map];congr 1;exact List.map_congr_left fun b _=>by simp
theorem H2 (q:Nat) (b:List cG):lB q (b.map iG)=lB q b:=by
 unfold lB
 rw [lL,List.map_map]
 congr 2
 exact List.map_congr_left fun e _=>rS e
theorem lY:∀ (bs:List (List cG)) (q:Nat),bJ q (bs.map (·.map iG))=bJ q bs
 | [],_=>rfl
 | b::r,q=>by
  show aF (lB q (b.map iG))++bJ (q+(b.map iG).length) _=_
  rw [H2,List.length_map,lY r];rfl
theorem KZ {b:List cG} (h:Ma b):Ma (b.map iG):=by
 have hk:∀ c:cG,(iG c).key=c.key:=fun c=>by unfold iG;split<;>rfl
 have hd:∀ c:cG,(iG c).del=c.del:=fun c=>by unfold iG;split<;>rfl
 refine ⟨by simpa using h.len,fun c hc=>?_,fun c hc hh=>?_⟩
 ·obtain ⟨x,hx,rfl⟩:=List.mem_map.1 hc
  rw [hk];exact h.key x hx
 ·obtain ⟨x,hx,rfl⟩:=List.mem_map.1 hc
  rw [hd] at hh
  have:iG x=x:=by unfold iG;simp [hh]
  rw [this];exact h.val x hx hh
theorem ri:∀ (b:List cG) (q f:Nat) (s:St),(∀ e∈bc q b,mj e)→s.seq=q→s.mem.length+b.length≤1048577→b.length<f →
 ll f ⟨((bc q b).map dj).flatten,false⟩ s=some ({ s with seq:=q+b.length,mem:=((bc q b).map bF).foldl dU s.mem },false)
 | _,_,0,_,_,_,_,h=>absurd h (Nat.not_lt_zero _)
 | [],q,f+1,s,_,hq,_,_=>by
  unfold ll
  rw [if_pos (by rfl)]
  subst hq;rfl
 | c::r,q,f+1,s,he,hq,hm,hf=>by
  simp only [List.length_cons] at hm hf
  have e1:((bc q (c::r)).map dj).flatten=dj (gR c (q+1))++((bc (q+1) r).map dj).flatten:=by simp [bc]
  have hne:dj (gR c (q+1))≠[]:=fun hh=>by have:=qx (gR c (q+1));rw [hh] at this;simp at this
  unfold ll
  rw [if_neg (by rw [e1];simp [hne]),e1,xN (he _ List.mem_cons_self)]
  dsimp only
  rw [if_neg (by simp),if_pos (by omega)]
  have h:=ri r (q+1) f { s with seq:=q+1,mem:=dU s.mem (bF (gR c (q+1))) } (fun e hh=>he e (List.mem_cons_of_mem _ hh)) rfl (by simp;omega) (by omega)
  have hs:(bF (gR c (q+1))).seq=q+1:=oS _
  rw [hs,h]
  simp [bc,Nat.add_assoc,Nat.add_comm 1]
theorem tn {junk:Bs} (hj:bH junk=none):∀ (bs:List (List cG)) (q f:Nat) (s:St),(∀ b∈bs,Ma b)→s.seq=q→q+total bs≤4611686018427387904→s.mem.length+total bs≤1048576→bs.length<f →
 lJ f (bJ q bs++junk) s=some { s with seq:=q+total bs,mem:=ij q (bs.map (·.map iG)) s.mem }
 | _,_,0,_,_,_,_,_,h=>absurd h (Nat.not_lt_zero _)
 | [],q,f+1,s,_,hq,_,_,_=>by
  unfold lJ
  rw [show bJ q []++junk=junk from rfl,hj]
  subst hq;rfl
 | b::r,q,f+1,s,hb,hq,hn,hm,hf=>by
  have ht:total (b::r)=b.length+total r:=by simp [total]
  have hbk:=hb b List.mem_cons_self
  have hl8:=hbk.len
  simp only [List.length_cons] at hf
  have he:∀ e∈bc q b,mj e:=fun e hh=>(rf b q hbk.key hbk.val (by omega) e hh).1
  have hlen:(lB q b).length≤8+34*b.length:=by
   have h1:=lu he
   rw [eD] at h1
   unfold fz at h1
   unfold lB
   rw [List.length_append,aV];omega
  have e1:bJ q (b::r)++junk=aF (lB q b)++(bJ (q+b.length) r++junk):=by simp [bJ]
  unfold lJ
  rw [e1,ml (by omega)]
  dsimp only
  rw [show lB q b=bL q 8++((bc q b).map dj).flatten from rfl,iS (by omega)]
  dsimp only
  rw [if_neg (by simp [hq])]
  have hfl:b.length<(bL q 8++((bc q b).map dj).flatten).length+1:=by
   have key:∀ l:List aB,l.length≤(l.map dj).flatten.length:=by
    intro l
    induction l with
    | nil=>simp
    | cons e r ih=>
     have:=qx e
     simp only [List.map_cons,List.flatten_cons,List.length_append,List.length_cons];omega
   have:=key (bc q b)
   rw [eD] at this
   rw [List.length_append];omega
  rw [ri b q _ s he hq (by omega) hfl]
  dsimp only
  have h:=tn hj r (q+b.length) f { s with seq:=q+b.length,mem:=((bc q b).map bF).foldl dU s.mem } (fun x hx=>hb x (List.mem_cons_of_mem _ hx)) rfl (by omega) (by
   show (((bc q b).map bF).foldl dU s.mem).length+_≤_
   rw [Ce,List.length_map,eD];omega) (by omega)
  rw [h,ht]
  simp only [List.map_cons,ij,List.length_map,lL,Nat.add_assoc]
def Af (c:St) (bs:List (List cG)):St:={ pC with number:=c.number,seq:=c.seq+total bs,log:=c.log,levels:=c.levels,mem:=ij c.seq (bs.map (·.map iG)) [] }
theorem Cm:∀ (bs:List (List cG)) (q:Nat),bs.length≤(bJ q bs).length
 | [],_=>by simp
 | b::r,q=>by
  have:=Cm r (q+b.length)
  simp only [bJ,List.length_append,List.length_cons,bW];omega
section
variable {C:Prop} {D:ae} {c:St} {Ls:fU} {bs:List (List cG)} {E:Nat}
theorem H3 (h:RecM C D c Ls bs E) (hE:E≤1048576) :
 ∃ x D',tg D=some (x,D')∧cK D D'∧((∃ e,x=.error e∧qZ C D e)∨x=.ok (Af c bs)):=by
 have htab:=h.tS hE
 have hsl:=h.B9 hE
 have hll:=h.EJ
 have hnum:=h.num
 have hseq:=h.seq
 have hcnt:=h.cntE
 unfold tg
 obtain ⟨x,D1,w1,w2,w3⟩:=wx h.ok h.state
 rw [w1]
 rcases w3 with rfl|⟨e,rfl,w3⟩
 ·dsimp only
  have ho:bH (aF (cw c))=some (cw c,[]):=by
   have:=ml (b:=cw c) (by rw [bW] at hsl;omega) []
   rwa [List.append_nil] at this
  rw [ho]
  dsimp only
  rw [if_neg (by simp)]
  have e1:cw c=bL c.number 8++(bL c.seq 8++(bC c.log++wz (kh 0 Ls))):=by
   unfold cw;rw [h.levels,yK];simp
  have hidx:(kh 0 Ls).length<(cw c).length+1:=by
   have key:∀ ps:List (Nat×bN×List aB),ps.length≤(wz ps).length:=by
    intro ps
    induction ps with
    | nil=>simp
    | cons p r ih=>unfold wz at ih ⊢;simp only [List.map_cons,List.flatten_cons,List.length_append,List.length_cons];omega
   have:=key (kh 0 Ls)
   rw [e1];simp only [List.length_append];omega
  generalize hf:(cw c).length+1=f at hidx
  rw [e1,iS (by omega)]
  dsimp only
  rw [iS (by omega)]
  dsimp only
  rw [kS (by omega)]
  dsimp only
  obtain ⟨x,D2,l1,l2,l3⟩:=wA (C:=C) (kh 0 Ls) f D1 [[],[],[],[]] 0 w2.later.ok hidx rfl (fun i=>by
   rcases i with _|_|_|_|i<;>simp) (by rw [Gv];omega) fun p hp=>by
    obtain ⟨a1,_,a3⟩:=Gu Ls 0 p hp
    obtain ⟨fl,cs,b1,b2⟩:=h.on p.2 a1
    refine ⟨by rw [h.lv.len] at a3;omega,?_,fl,cs,by rw [w2.file];exact b1,b2⟩
    obtain ⟨k,_,hk⟩:=h.lv.names p.2 a1
    rw [hk];exact wm k
  rw [l1]
  rcases l3 with ⟨e,rfl,l3⟩|rfl
  ·exact ⟨_,_,rfl,w2.trans l2,.inl ⟨e,rfl,l3.before w2.later⟩⟩
  ·dsimp only
   rw [if_neg (by simp),KY h.lv.len]
   have s2:=w2.trans l2
   obtain ⟨junk,j1,j2⟩:=h.logf
   unfold qT
   obtain ⟨x,D3,r1,r2,r3⟩:=wx s2.later.ok (n:=c.log) (b:=bJ c.seq bs++junk) (by rw [s2.file];exact j1)
   dsimp only
   rw [r1]
   rcases r3 with rfl|⟨e,rfl,r3⟩
   ·dsimp only
    have hr:=tn j2 bs c.seq ((bJ c.seq bs++junk).length+1) { pC with number:=c.number,seq:=c.seq,log:=c.log,levels:=bU Ls } h.bsok rfl h.seq (by show 0+total bs≤_;omega) (by
     have:=Cm bs c.seq
     rw [List.length_append];omega)
    rw [hr]
    refine ⟨_,_,rfl,s2.trans r2,.inr ?_⟩
    rw [← h.levels];rfl
   ·exact ⟨_,_,rfl,s2.trans r2,.inl ⟨_,rfl,Cl (.inl (r3.before s2.later))⟩⟩
 ·dsimp only
  have h8:=w3.1
  rw [if_neg (by omega)]
  exact ⟨_,_,rfl,w2,.inl ⟨e,rfl,.inl w3⟩⟩
end
end
section
open Go.Proofs.YtecibefflhomdaaGreatDoor.Pure
theorem qf (l:List Bs):(ln l).Perm l:=List.mergeSort_perm l _
theorem jQ {D:ae} {n:Bs}:n∈gh D↔file D n≠none:=by
 unfold gh
 rw [(qf _).mem_iff,ne_eq,o6,cB]
 exact Iff.intro (fun h k=>k h) (fun h=>Classical.not_not.1 h)
theorem ki {D:ae} (h:D.Ok):(gh D).Nodup:=(qf _).nodup_iff.2 h.names
theorem mH (D:ae):(gh D).length=D.now.length:=by unfold gh;rw [(qf _).length_eq,List.length_map]
section
variable {C:Prop} {D:ae} {c s:St} {Ls:fU} {bs:List (List cG)} {E:Nat}
theorem wC (hl:s.levels=bU Ls) (m:Bs):jB s m=true↔m=aU∨m=s.log∨m∈bP Ls:=by
 unfold jB bP
 rw [hl,jd]
 simp only [Bool.or_eq_true,decide_eq_true_eq,List.any_eq_true,List.mem_map]
 constructor
 ·rintro ((h|h)|⟨T,⟨p,hp,rfl⟩,h⟩)
  ·exact .inl h
  ·exact .inr (.inl h)
  ·exact .inr (.inr ⟨p,hp,h⟩)
 ·rintro (h|h|⟨p,hp,h⟩)
  ·exact .inl (.inl h)
  ·exact .inl (.inr h)
  ·exact .inr ⟨p.1,⟨p,hp,rfl⟩,h⟩
theorem H4 (hd:D.Ok) (hl:s.levels=bU Ls) (hm:D.moves.length+D.now.length≤1099511627776) :
 ∃ x D',lp s D=some (x,D')∧de D D'∧D'.moves.length≤D.moves.length+D.now.length∧(∀ m,(m=aU∨m=s.log∨m∈bP Ls)→file D' m=file D m) ∧
  ((∃ e,x=.error e∧um C D e)∨(x=.ok s∧∀ m,file D' m≠none→m=aU∨m=s.log∨m∈bP Ls)):=by
 have hlen:((gh D).filter fun n=>!jB s n).length≤D.now.length:=by
  have:=List.length_filter_le (fun n=>!jB s n) (gh D)
  rw [mH] at this;exact this
 obtain ⟨x,D',k1,k2,k3,k4,k5⟩:=oD (C:=C) ((gh D).filter fun n=>!jB s n) hd ((ki hd).filter _) (fun n hn=>jQ.1 (List.mem_filter.1 hn).1) (by omega)
 have hk4:∀ m,(m=aU∨m=s.log∨m∈bP Ls)→file D' m=file D m:=fun m hm=>k4 m fun hh=>by
  have h1:=(List.mem_filter.1 hh).2
  rw [(wC hl m).2 hm] at h1
  cases h1
 unfold lp
 rw [if_pos (by rw [bI];omega),k1]
 rcases k5 with ⟨rfl,k5⟩|⟨e,rfl,k5⟩
 ·refine ⟨_,_,rfl,k2,by omega,hk4,.inr ⟨rfl,fun m hm=>(wC hl m).1 ?_⟩⟩
  cases hk:jB s m with
  | true=>rfl
  | false=>
   by_cases hin:m∈(gh D).filter fun n=>!jB s n
   ·exact absurd (k5 m hin) hm
   ·rw [k4 m hin] at hm
    exact absurd (List.mem_filter.2 ⟨jQ.2 hm,by rw [hk];rfl⟩) hin
 ·exact ⟨_,_,rfl,k2,by omega,hk4,.inl ⟨e,rfl,k5⟩⟩
def iQ (c:St) (Ls:fU) (bs:List (List cG)) (k:Bs):Option Bs:=eg (fH (ij c.seq bs []::dt Ls) k aE)
theorem mI (c:St) (Ls:fU) (k:Bs):iQ c Ls [] k=eg (fH (dt Ls) k aE):=by
 unfold iQ
 rw [bD];rfl
theorem K0 (q:Nat) (bs:List (List cG)) (S:List (List aB)) (k:Bs) (m:Nat):eg (fH (ij q (bs.map (·.map iG)) []::S) k m)=eg (fH (ij q bs []::S) k m):=by
 have h:=wB bs q []
 rw [List.map_nil] at h
 rw [h,bD,bD,Cj,yH]
theorem RecM.norm (h:RecM C D c Ls bs E):RecM C D c Ls (bs.map (·.map iG)) E:=
 ⟨h.ok,h.levels,h.state,h.num,by rw [qe];exact h.seq,by rw [qe];exact h.cntE,h.lv,h.on,h.seqs,h.ord,h.log,by rw [lY];exact h.logf,fun b hb=>by
   obtain ⟨x,hx,rfl⟩:=List.mem_map.1 hb
   exact KZ (h.bsok x hx)⟩
theorem Ag {a b:St} (h1:a.number=b.number) (h2:a.seq=b.seq) (h3:a.log=b.log) (h4:a.levels=b.levels):cw a=cw b:=by unfold cw;rw [h1,h2,h3,h4]
theorem RecM.congr {c':St} (h:RecM C D c Ls bs E) (h1:c'.number=c.number) (h2:c'.seq=c.seq) (h3:c'.log=c.log) (h4:c'.levels=c.levels):RecM C D c' Ls bs E:=
 ⟨h.ok,h4.trans h.levels,by rw [Ag h1 h2 h3 h4];exact h.state,by rw [h1];exact h.num,by rw [h2];exact h.seq,h.cntE,by rw [h1];exact h.lv,h.on,by rw [h2];exact h.seqs,h.ord,by rw [h1,h3];exact h.log,by rw [h2,h3];exact h.logf,h.bsok⟩
def pd (C:Prop) (o:nH) (D:ae) (q:Nat) (see:Bs→Option Bs) (N E:Nat) (x:Except cx St) (D':ae):Prop:=
 de D D' ∧
  ((∃ e,x=.error e∧um C D e∧∃ c' Ls' bs',RecM C D' c' Ls' bs' E∧c'.seq+total bs'=q∧∀ k,iQ c' Ls' bs' k=see k) ∨
   ∃ s' Ls',x=.ok s'∧je C s' D' q Ls' [] E∧(∀ k,eg (fH (dt Ls') k aE)=see k)∧s'.mem=[]∧s'.snaps=[]∧s'.snap=0∧s'.seq=q∧s'.number≤N∧file D' s'.log=some []∧kz o Ls')
theorem pd.before {o:nH} {D0:ae} {q N N':Nat} {see:Bs→Option Bs} {x:Except cx St} {D':ae} (hl:de D0 D) (hN:N≤N') (h:pd C o D q see N E x D'):pd C o D0 q see N' E x D':=by
 obtain ⟨h1,h2⟩:=h
 refine ⟨hl.trans h1,?_⟩
 rcases h2 with ⟨e,a,b,r⟩|⟨s',Ls',a1,a2,a3,a4,a5,a6,a7,a8,a9⟩
 ·exact .inl ⟨e,a,b.before hl,r⟩
 ·exact .inr ⟨s',Ls',a1,a2,a3,a4,a5,a6,a7,Nat.le_trans a8 hN,a9⟩
theorem H5 {o:nH} {q0:Nat} (ho:1≤o.tables) (h:je C s D q0 Ls bs E) (hsn:s.snaps=[]∧s.snap=0) (hE:E≤1048576) (hB:bs.length≤16777216) (hnum:s.number+4*E+1≤4611686018427387904) :
 ∃ x D',lX o s D=some (x,D')∧pd C o D s.seq (fun k=>eg (fH (s.mem::dt Ls) k aE)) (s.number+4*E+1) E x D':=by
 have hmo:aN s=[aE]:=by unfold aN;rw [hsn.1];rfl
 have hmem:=h.mem
 have hseq:=h.seq
 have herr:∀ (c':St) (Ls':fU) (bs':List (List cG)),((c'.seq=q0∧bs'=bs∧fu (aN s) (dt Ls) (dt Ls'))∨(c'.seq=s.seq∧bs'=[]∧fu (aN s) (s.mem::dt Ls) (dt Ls')))→c'.seq+total bs'=s.seq∧∀ k,iQ c' Ls' bs' k=eg (fH (s.mem::dt Ls) k aE):=by
  rintro c' Ls' bs' (⟨e1,rfl,e3⟩|⟨e1,rfl,e3⟩)
  ·refine ⟨by rw [e1,hseq],fun k=>?_⟩
   unfold iQ
   rw [e1,← hmem,bD,bD]
   exact o8 (e3 aE (by rw [hmo];exact List.mem_cons_self) k)
  ·refine ⟨by rw [e1];simp [total],fun k=>?_⟩
   rw [mI]
   exact e3 aE (by rw [hmo];exact List.mem_cons_self) k
 unfold lX
 by_cases hm:0<s.mem.length
 ·rw [if_pos hm]
  obtain ⟨x,D',k1,k2,k3⟩:=sB ho h hE hB hnum
  refine ⟨x,D',k1,k2,?_⟩
  rcases k3 with ⟨e,a1,a2,c',Ls',bs',a3,a4⟩|⟨s',Ls',a1,a2,a3,a4,a5,a6,a7,a8,a9⟩
  ·obtain ⟨b1,b2⟩:=herr c' Ls' bs' a4
   exact .inl ⟨e,a1,a2,c',Ls',bs',a3,b1,b2⟩
  ·refine .inr ⟨s',Ls',a1,a2,fun k=>a3 aE (by rw [hmo];exact List.mem_cons_self) k,?_,by rw [a5,hsn.1],by rw [a6,hsn.2],a4,a7,a8,a9⟩
   rw [a2.mem];rfl
 ·rw [if_neg hm]
  have hm0:s.mem=[]:=by cases hh:s.mem with
   | nil=>rfl
   | cons _ _=>rw [hh] at hm;simp at hm
  have ht:total bs=0:=by have:=h.pG.2;rw [hm0] at this;simpa using this.symm
  have hq:s.seq=q0:=by rw [hseq,ht,Nat.add_zero]
  obtain ⟨k0,hk0,hk1⟩:=h.core.log
  have hk0:k0≤s.number:=hk0
  have hk1:s.log=cj k0:=hk1
  have hn:=h.core.num
  have hn:s.number≤4611686018427387904:=hn
  have hqs:=h.core.seq
  have hqs:q0+total bs≤4611686018427387904:=hqs
  have htab:=h.core.tS hE
  have hused:=h.used hE hB
  have hmv:=h.moves
  obtain ⟨lb,hlb⟩:=h.logf
  obtain ⟨x,D3,c1,c2,c3⟩:=oC (C:=C) (s:=s) (Ls:=Ls) h.levels h.core.lv htab (by omega) (by omega) h.core.ok h.KT (h.NN (by omega) (by omega)) (.inr ⟨k0,_,hk0,hk1,hlb.1⟩) (by omega) (by omega)
  rw [c1]
  have hlogne:s.log≠cj (s.number+1):=fun hh=>by have:=oA (hk1.symm.trans hh) (by omega) (by omega);omega
  have hnew:∀ D':ae,D'.Ok→file D' aU=some (aF (cw { s with number:=s.number+1,log:=cj (s.number+1) }))→file D' (cj (s.number+1))=some [] →
   (∀ m,m∈bP Ls→file D' m=file D m)→RecM C D' { s with number:=s.number+1,log:=cj (s.number+1) } Ls [] E:=by
   intro D' hd' hs' hl' hf'
   refine ⟨hd',h.levels,hs',by show s.number+1≤_;omega,by show s.seq+total []≤_;simp [total];omega,?_,⟨h.core.lv.len,fun p hp=>?_,h.core.lv.nodup,h.core.lv.sep⟩,fun p hp=>?_,fun p hp e he=>?_,h.core.ord,⟨s.number+1,Nat.le_refl _,rfl⟩,⟨[],by rw [hl'];rfl,oT⟩,by simp⟩
   ·have:=h.core.cntE;simp [total];omega
   ·obtain ⟨k,a1,a2⟩:=h.core.lv.names p hp
    have a1:k≤s.number:=a1
    exact ⟨k,by show k≤s.number+1;omega,a2⟩
   ·obtain ⟨f,cs,a1,a2⟩:=h.core.on p hp
    exact ⟨f,cs,by rw [hf' _ (List.mem_map.2 ⟨p,hp,rfl⟩)];exact a1,a2⟩
   ·have h1:=h.core.seqs p hp e he
    have h1:e.seq≤q0:=h1
    show e.seq≤s.seq;omega
  rcases c3 with ⟨rfl,c3,c4⟩|⟨e,rfl,c3,c4⟩
  ·have hfl:file D3 (cj (s.number+1))=some []:=by rw [c4,if_neg (eO _)];exact if_pos rfl
   have hrun:je C { s with number:=s.number+1,log:=cj (s.number+1) } D3 s.seq Ls [] E:=by
    refine ⟨hnew D3 c2.ok (by rw [c4,if_pos rfl]) hfl fun m hm=>?_,hm0,by simp [total],⟨[],by rw [hfl];rfl,by simp⟩,fun m hm=>?_,by omega,h.snaps⟩
    ·rw [c4,if_neg fun hh=>gm h.core.lv (by rw [← hh];exact hm),if_neg fun hh=>eE h.core.lv (s.number+1) (by rw [← hh];exact hm),if_neg fun hh=>eE h.core.lv k0 (by rw [← hk1,← hh];exact hm)]
    ·show m=aU∨m=cj (s.number+1)∨_
     rw [c4] at hm
     by_cases h1:m=aU
     ·exact .inl h1
     rw [if_neg h1] at hm
     by_cases h2:m=cj (s.number+1)
     ·exact .inr (.inl h2)
     rw [if_neg h2] at hm
     by_cases h3:m=s.log
     ·exact absurd (if_pos h3) hm
     rw [if_neg h3] at hm
     rcases h.known m hm with h4|h4|h4
     ·exact absurd h4 h1
     ·exact absurd h4 h3
     ·exact .inr (.inr h4)
   dsimp only [ei]
   obtain ⟨x,D4,s1,l3,s2⟩:=qd ho hrun (by simp [total]) hE (by simp) (by show s.number+1+3*E≤_;omega)
   refine ⟨x,D4,s1,c2.trans l3,?_⟩
   have hmo2:aN { s with number:=s.number+1,log:=cj (s.number+1) }=aN s:=rfl
   rw [hmo2] at s2
   have hsee:∀ k,eg (fH (s.mem::dt Ls) k aE)=eg (fH (dt Ls) k aE):=fun k=>by rw [bD,hm0];rfl
   rcases s2 with ⟨e,a1,a2,c',Ls',bs',a3,a4⟩|⟨s',Ls',a1,a2,a3,a4,a5,a6,a7⟩
   ·refine .inl ⟨e,a1,a2.before c2,c',Ls',bs',a3,?_⟩
    rcases a4 with ⟨b1,rfl,b3⟩|⟨b1,rfl,b3⟩
    ·refine ⟨by rw [b1];simp [total],fun k=>?_⟩
     show iQ c' Ls' [] k=eg (fH (s.mem::dt Ls) k aE)
     rw [mI,hsee]
     exact b3 aE (by rw [hmo];exact List.mem_cons_self) k
    ·refine ⟨by rw [b1];simp [total],fun k=>?_⟩
     show iQ c' Ls' [] k=eg (fH (s.mem::dt Ls) k aE)
     rw [mI]
     exact b3 aE (by rw [hmo];exact List.mem_cons_self) k
   ·have hlog':s'.log=cj (s.number+1):=a5.1
    refine .inr ⟨s',Ls',a1,a2,fun k=>?_,by rw [a4.mem];exact hm0,by rw [a4.snaps];exact hsn.1,by rw [a4.snap];exact hsn.2,a4.seq,?_,?_,a7⟩
    ·show _=eg (fH (s.mem::dt Ls) k aE)
     rw [hsee];exact a3 aE (by rw [hmo];exact List.mem_cons_self) k
    ·have a6:s'.number≤s.number+1+3*E:=a6
     omega
    ·rw [hlog']
     have:=a5.2
     have this:file D4 (cj (s.number+1))=file D3 (cj (s.number+1)):=this
     rw [this];exact hfl
  ·refine ⟨_,_,rfl,c2,.inl ⟨e,rfl,c3,?_⟩⟩
   rcases c4 with c4|c4
   ·refine ⟨_,Ls,bs,h.core.files c2.ok fun m hm=>c4 m ?_ ?_,herr _ _ _ (.inl ⟨rfl,rfl,fu.refl _ _⟩)⟩
    ·rcases hm with hm|hm|hm
     ·rw [hm];exact jc.symm
     ·have hm:m=s.log:=hm
      rw [hm,hk1];exact jP _
     ·exact fun hh=>ik h.core.lv (by rw [← hh];exact hm)
    ·rcases hm with hm|hm|hm
     ·rw [hm];exact (eO _).symm
     ·have hm:m=s.log:=hm
      rw [hm];exact hlogne
     ·exact fun hh=>eE h.core.lv (s.number+1) (by rw [← hh];exact hm)
   ·refine ⟨_,Ls,[],hnew D3 c2.ok (by rw [c4,if_pos rfl]) (by rw [c4,if_neg (eO _)];exact if_pos rfl) fun m hm=>?_,herr _ _ _ (.inr ⟨rfl,rfl,fun m _ k=>?_⟩)⟩
    ·rw [c4,if_neg fun hh=>gm h.core.lv (by rw [← hh];exact hm),if_neg fun hh=>eE h.core.lv (s.number+1) (by rw [← hh];exact hm)]
    ·rw [bD,hm0];rfl
theorem K1 {o:nH} (ho:1≤o.tables) (h:RecM C D c Ls bs E) (hj:∀ b,file D c.log=some b→b.length≤1073741824) (hE:E≤1048576) (hB:bs.length≤16777216) (hm:D.moves.length+D.now.length≤4194304) (hnum:c.number+4*E+1≤4611686018427387904) :
 ∃ x D',nI o D=some (x,D')∧pd C o D (c.seq+total bs) (iQ c Ls bs) (c.number+4*E+1) E x D':=by
 unfold nI
 obtain ⟨x,D1,l1,l2,l3⟩:=H3 h hE
 rw [l1]
 have hR1:RecM C D1 c Ls bs E:=h.files l2.later.ok fun m _=>l2.file m
 rcases l3 with ⟨e,rfl,l3⟩|rfl
 ·exact ⟨_,_,rfl,l2.later,.inl ⟨e,rfl,.inl l3,c,Ls,bs,hR1,rfl,fun _=>rfl⟩⟩
 dsimp only [ei]
 have hnow:D1.now.length=D.now.length:=by
  have h1:∀ m,m∈gh D1↔m∈gh D:=fun m=>by rw [jQ,jQ,l2.file]
  have h2:=jC (ki l2.later.ok) fun m hm=>(h1 m).1 hm
  have h3:=jC (ki h.ok) fun m hm=>(h1 m).2 hm
  rw [mH,mH] at h2 h3
  omega
 obtain ⟨x,D2,c1,c2,c3,c4,c5⟩:=H4 (C:=C) (s:=Af c bs) (Ls:=Ls) l2.later.ok h.levels (by rw [l2.moves,hnow];omega)
 rw [c1]
 have hR2:RecM C D2 c Ls bs E:=hR1.files c2.ok fun m hm=>c4 m hm
 rcases c5 with ⟨e,rfl,c5⟩|⟨rfl,c5⟩
 ·exact ⟨_,_,rfl,l2.later.trans c2,.inl ⟨e,rfl,c5.before l2.later,c,Ls,bs,hR2,rfl,fun _=>rfl⟩⟩
 dsimp only
 have hrun:je C (Af c bs) D2 c.seq Ls (bs.map (·.map iG)) E:=by
  refine ⟨hR2.norm.congr rfl rfl rfl rfl,rfl,by rw [qe];rfl,?_,c5,by rw [l2.moves,hnow] at c3;omega,by show [].length≤4;simp⟩
  obtain ⟨junk,j1,j2⟩:=h.logf
  refine ⟨junk,?_,?_⟩
  ·rw [lY]
   have h2:file D2 c.log=file D1 c.log:=c4 _ (.inr (.inl rfl))
   show file D2 c.log=_
   rw [h2,l2.file];exact j1
  ·have:=hj _ j1;rw [List.length_append] at this;omega
 obtain ⟨x,D3,r1,r2⟩:=H5 ho hrun ⟨rfl,rfl⟩ hE (by simpa using hB) hnum
 refine ⟨x,D3,r1,?_⟩
 have e1:(fun k=>eg (fH ((Af c bs).mem::dt Ls) k aE))=iQ c Ls bs:=funext fun k=>K0 c.seq bs (dt Ls) k aE
 rw [e1] at r2
 exact r2.before (l2.later.trans c2) (Nat.le_refl _)
end
end
end Go.Proofs.YtecibefflhomdaaGreatDoor
