/-
  Part 34: PLAIN a store is opened; PLAIN a store is opened.
-/
import Derived.Test.YtecibefflhomdaaGreatDoorW33
set_option maxHeartbeats 8000000
set_option maxRecDepth 100000
set_option linter.all false
namespace Go.Proofs.YtecibefflhomdaaGreatDoor
open Go
section
open Go.Proofs.YtecibefflhomdaaGreatDoor.Pure
theorem Ma {i:Nat} (h:i<256) (rest:Bs):Rd.num ⟨UInt8.ofNat i::rest,false⟩ 1=(i,⟨rest,false⟩):=by
 have:=gU (N:=i) (k:=1) (by omega) rest
 simpa [bz] using this
theorem FI (b:Bs):dV b 0 (b.length:Int)=b:=by
 unfold dV
 have h1:(min (max (0:Int) 0) (b.length:Int)).toNat=0:=by omega
 have h2:(min (max (b.length:Int) 0) ((b.length:Int)-min (max (0:Int) 0) (b.length:Int))).toNat=b.length:=by omega
 rw [h1,h2,List.drop_zero,List.take_length]
theorem px {D:ad} {n b:Bs} (hd:D.Ok) (hf:file D n=some b):∃ x D',ie D n=(x,D')∧cH D D'∧(x=.ok b∨∃ e,x=.error e∧pj D e):=by
 unfold ie
 rcases eT hf with h1|⟨e,h1,ht⟩
 ·rw [h1]
  dsimp only
  have hf2:file D.tick n=some b:=by rw [iz];exact hf
  have s1:=cH.tick hd
  rcases eT hf2 with h2|⟨e,h2,ht⟩
  ·rw [h2]
   dsimp only
   rw [Ah h1 hf,qD h2 hf2,FI]
   exact ⟨_,_,rfl,s1.trans (cH.read s1.later.ok _),.inl rfl⟩
  ·rw [h2]
   exact ⟨_,_,rfl,s1.trans (cH.read s1.later.ok _),.inr ⟨e,rfl,ht.before s1.later⟩⟩
 ·rw [h1]
  exact ⟨_,_,rfl,cH.tick hd,.inr ⟨e,rfl,ht⟩⟩
theorem u1 {D:ad} {n:Bs} (hd:D.Ok) (hf:file D n=none):∃ e D',ie D n=(.error e,D')∧cH D D'∧(pj D e∨e=(some n,10)):=by
 unfold ie
 cases h1:bg D n with
 | some e=>
  refine ⟨e,_,rfl,cH.tick hd,?_⟩
  rcases pk h1 with h|⟨h,_⟩
  ·exact .inl h
  ·exact .inr h
 | none=>
  obtain ⟨_,i,_,h2⟩:=kO h1
  rw [hf] at h2;cases h2
theorem AH {C:Prop} {D:ad} {e:cy} (h:qC C D e):qC C D (sx e):=by
 unfold sx
 cases hn:e.1 with
 | none=>exact h
 | some n=>
  dsimp only
  by_cases h10:e.2=10
  ·rcases h with h|⟨_,h⟩
   ·have:=h.1;omega
   ·omega
  ·rw [if_neg h10];exact h
def jT:Nat→List (List (cO×List ay))→List (Nat×cO×List ay)
 | _,[]=>[]
 | i,l::r=>l.map (fun p=>(i,p))++jT (i+1) r
def u2 (ps:List (Nat×cO×List ay)):Bs:=(ps.map fun p=>UInt8.ofNat p.1::bB p.2.1.name).flatten
theorem xg:∀ (Ls:fW) (i:Nat),eH i (cA Ls)=u2 (jT i Ls)
 | [],_=>rfl
 | l::r,i=>by
  have h:=xg r (i+1)
  unfold cA at h ⊢
  rw [List.map_cons]
  unfold eH jT
  rw [h]
  unfold u2
  rw [List.map_append,List.flatten_append,List.map_map,List.map_map]
  rfl
theorem D6:∀ (Ls:fW) (i:Nat) (p:Nat×cO×List ay),p∈jT i Ls→p.2∈Ls.flatten∧i≤p.1∧p.1<i+Ls.length
 | [],_,p,h=>by cases h
 | l::r,i,p,h=>by
  unfold jT at h
  rcases List.mem_append.1 h with h|h
  ·obtain ⟨q,hq,rfl⟩:=List.mem_map.1 h
   refine ⟨?_,Nat.le_refl _,by simp⟩
   rw [List.flatten_cons];exact List.mem_append_left _ hq
  ·obtain ⟨h1,h2,h3⟩:=D6 r (i+1) p h
   refine ⟨?_,by omega,by simp;omega⟩
   rw [List.flatten_cons];exact List.mem_append_right _ h1
theorem D7:∀ (Ls:fW) (i:Nat),(jT i Ls).length=Ls.flatten.length
 | [],_=>rfl
 | l::r,i=>by simp [jT,D7 r]
def yw (ls:List (List cO)) (p:Nat×cO×List ay):List (List cO):=ls.set p.1 (ls.getD p.1 []++[p.2.1])
theorem nY (i:Nat):∀ (l:List (cO×List ay)) (acc:List (List cO)),i<acc.length→(l.map fun p=>(i,p)).foldl yw acc=acc.set i (acc.getD i []++l.map (·.1))
 | [],acc,h=>by
  simp [List.getD_eq_getElem?_getD,List.getElem?_eq_getElem h]
 | p::l,acc,h=>by
  rw [List.map_cons,List.foldl_cons,nY i l _ (by simp [yw];exact h)]
  unfold yw
  dsimp only
  rw [List.set_set]
  congr 1
  simp [List.getD_eq_getElem?_getD,List.getElem?_set,h]
theorem Iy {Ls:fW} (h4:Ls.length=4):(jT 0 Ls).foldl yw [[],[],[],[]]=cA Ls:=by
 obtain ⟨L0,L1,L2,L3,rfl⟩:=dY h4
 unfold jT jT jT jT jT
 rw [List.append_nil,List.foldl_append,List.foldl_append,List.foldl_append,nY 0 _ _ (by simp)]
 rw [nY 1 _ _ (by simp),nY 2 _ _ (by simp),nY 3 _ _ (by simp)]
 simp [cA]
theorem yx (acc:List (List cO)) (i j:Nat) (x:List cO):((acc.set i x).getD j []).length≤max x.length (acc.getD j []).length:=by
 simp only [List.getD_eq_getElem?_getD,List.getElem?_set]
 split
 ·split
  ·simp;omega
  ·simp
 ·omega
theorem u3 {C:Prop}:∀ (ps:List (Nat×cO×List ay)) (f:Nat) (D:ad) (acc:List (List cO)) (k:Nat),D.Ok→ps.length<f→acc.length=4→(∀ i,(acc.getD i []).length≤k)→k+ps.length≤1073741824 →
 (∀ p∈ps,p.1<4∧p.2.1.name.length≤26∧∃ f cs,file D p.2.1.name=some f∧kX C f p.2.1 p.2.2 cs) →
 ∃ x D',lD f D ⟨u2 ps,false⟩ acc=some (x,D')∧cH D D'∧((∃ e,x=.error e∧qC C D e)∨x=.ok (ps.foldl yw acc,⟨[],false⟩))
 | _,0,_,_,_,_,h,_,_,_,_=>absurd h (Nat.not_lt_zero _)
 | [],f+1,D,acc,k,hd,_,_,_,_,_=>by
  unfold lD
  rw [if_neg (by simp [u2])]
  exact ⟨_,_,rfl,cH.refl hd,.inr rfl⟩
 | p::ps,f+1,D,acc,k,hd,hf,h4,hk,hkk,hp=>by
  obtain ⟨h1,h2,fl,cs,h3,h5⟩:=hp p List.mem_cons_self
  have e:u2 (p::ps)=UInt8.ofNat p.1::(bB p.2.1.name++u2 ps):=by simp [u2]
  simp only [List.length_cons] at hf hkk
  unfold lD
  rw [if_pos ⟨by rw [e];simp,rfl⟩,e,Ma (by omega)]
  dsimp only
  rw [kA (by omega)]
  dsimp only
  have hx:∃ x,l9 p.2.1.name fl=some x∧(x=.ok p.2.1∨C∧x=.error (some p.2.1.name,7)):=by
   rcases h5.head with hh|⟨hC,hh⟩
   ·exact ⟨_,hh,.inl rfl⟩
   ·exact ⟨_,hh,.inr ⟨hC,rfl⟩⟩
  obtain ⟨x,hx1,hx2⟩:=hx
  obtain ⟨y,D1,o1,o2,o3⟩:=Ft hd h3 hx1
  rw [o1]
  have bad:∀ e,y=.error e→qC C D e→∃ x D',(match some (y,D1) with
   | none=>none
   | some (.error e,D')=>some (.error (sx e),D')
   | some (.ok T,D')=>if 4≤p.1 then some (.error (some aN,7),D') else
    if (acc.getD p.1 []).length≤gL then lD f D' ⟨u2 ps,false⟩ (acc.set p.1 (acc.getD p.1 []++[T])) else none)=some (x,D')∧cH D D'∧((∃ e,x=.error e∧qC C D e)∨x=.ok ((p::ps).foldl yw acc,⟨[],false⟩)):=by
   intro e he hb
   rw [he]
   exact ⟨_,_,rfl,o2,.inl ⟨_,rfl,AH hb⟩⟩
  rcases o3 with o3|⟨e,o3,o4⟩
  ·rcases hx2 with hx2|⟨hC,hx2⟩
   ·rw [o3,hx2]
    dsimp only
    have hk':=hk p.1
    rw [if_neg (by omega),if_pos (by rw [bG];omega)]
    obtain ⟨x,D2,l1,l2,l3⟩:=u3 ps f D1 (yw acc p) (k+1) o2.later.ok (by omega) (by simp [yw];exact h4) (fun i=>by
     have:=yx acc p.1 i (acc.getD p.1 []++[p.2.1])
     have h6:=hk i
     simp only [List.length_append,List.length_singleton] at this
     unfold yw;omega) (by omega) fun q hq=>by
      obtain ⟨a1,a2,f',cs',a3,a4⟩:=hp q (List.mem_cons_of_mem _ hq)
      exact ⟨a1,a2,f',cs',by rw [o2.file];exact a3,a4⟩
    refine ⟨x,D2,l1,o2.trans l2,?_⟩
    rcases l3 with ⟨e,l3,l4⟩|l3
    ·exact .inl ⟨e,l3,l4.before o2.later⟩
    ·exact .inr (by rw [l3];rfl)
   ·exact bad _ (o3.trans hx2) (.inr ⟨hC,rfl⟩)
  ·exact bad _ o3 (.inl o4)
def ia (c:bX):bX:=if c.del=true then { c with val:=[] } else c
theorem FJ (c:bX) (q:Nat):gC (ia c) q=bD (gC c q):=by
 obtain ⟨k,v,d⟩:=c
 cases d<;>rfl
theorem lp:∀ (b:List bX) (q:Nat),aZ q (b.map ia)=(aZ q b).map bD
 | [],_=>rfl
 | c::r,q=>by simp only [List.map_cons,aZ,lp r,FJ]
theorem FK (l:List ay) (i:Nat):(l.map bD).getD i default=bD (l.getD i default):=by
 rw [List.getD_eq_getElem?_getD,List.getD_eq_getElem?_getD,List.getElem?_map]
 cases l[i]?<;>rfl
theorem mR (l:List ay) (e:ay):∀ f lo hi,dg (l.map bD) (bD e) f lo hi=dg l e f lo hi
 | 0,_,_=>rfl
 | f+1,lo,hi=>by unfold dg;rw [FK,wU,mR l e f,mR l e f]
theorem FL (l:List ay) (e:ay):dG (l.map bD) (bD e)=(dG l e).map bD:=by
 unfold dG aY
 rw [List.length_map,mR]
 simp [List.map_take,List.map_drop]
theorem xh:∀ (b l:List ay),(b.map bD).foldl dG (l.map bD)=(b.foldl dG l).map bD
 | [],_=>rfl
 | e::b,l=>by rw [List.map_cons,List.foldl_cons,List.foldl_cons,FL,xh b]
theorem u4:∀ (bs:List (List bX)) (q:Nat) (m:List ay),gh q (bs.map (·.map ia)) (m.map bD)=(gh q bs m).map bD
 | [],_,_=>rfl
 | b::r,q,m=>by
  show gh (q+(b.map ia).length) _ ((aZ q (b.map ia)).foldl dG (m.map bD))=_
  rw [List.length_map,lp,xh,u4 r];rfl
theorem py (bs:List (List bX)):total (bs.map (·.map ia))=total bs:=by
 unfold total;rw [List.map_map];congr 1;exact List.map_congr_left fun b _=>by simp
theorem FM (q:Nat) (b:List bX):kI q (b.map ia)=kI q b:=by
 unfold kI
 rw [lp,List.map_map]
 congr 2
 exact List.map_congr_left fun e _=>q9 e
theorem lE:∀ (bs:List (List bX)) (q:Nat),bA q (bs.map (·.map ia))=bA q bs
 | [],_=>rfl
 | b::r,q=>by
  show az (kI q (b.map ia))++bA (q+(b.map ia).length) _=_
  rw [FM,List.length_map,lE r];rfl
theorem Iz {b:List bX} (h:FC b):FC (b.map ia):=by
 have hk:∀ c:bX,(ia c).key=c.key:=fun c=>by unfold ia;split<;>rfl
 have hd:∀ c:bX,(ia c).del=c.del:=fun c=>by unfold ia;split<;>rfl
 refine ⟨by simpa using h.len,fun c hc=>?_,fun c hc hh=>?_⟩
 ·obtain ⟨x,hx,rfl⟩:=List.mem_map.1 hc
  rw [hk];exact h.key x hx
 ·obtain ⟨x,hx,rfl⟩:=List.mem_map.1 hc
  rw [hd] at hh
  have:ia x=x:=by unfold ia;simp [hh]
  rw [this];exact h.val x hx hh
theorem qJ:∀ (b:List bX) (q f:Nat) (s:St),(∀ e∈aZ q b,lx e)→s.seq=q→s.mem.length+b.length≤1048577→b.length<f →
 kL f ⟨((aZ q b).map cU).flatten,false⟩ s=some ({ s with seq:=q+b.length,mem:=((aZ q b).map bD).foldl dG s.mem },false)
 | _,_,0,_,_,_,_,h=>absurd h (Nat.not_lt_zero _)
 | [],q,f+1,s,_,hq,_,_=>by
  unfold kL
  rw [if_pos (by rfl)]
  subst hq;rfl
 | c::r,q,f+1,s,he,hq,hm,hf=>by
  simp only [List.length_cons] at hm hf
  have e1:((aZ q (c::r)).map cU).flatten=cU (gC c (q+1))++((aZ (q+1) r).map cU).flatten:=by simp [aZ]
  have hne:cU (gC c (q+1))≠[]:=fun hh=>by have:=pU (gC c (q+1));rw [hh] at this;simp at this
  unfold kL
  rw [if_neg (by rw [e1];simp [hne]),e1,wb (he _ List.mem_cons_self)]
  dsimp only
  rw [if_neg (by simp),if_pos (by omega)]
  have h:=qJ r (q+1) f { s with seq:=q+1,mem:=dG s.mem (bD (gC c (q+1))) } (fun e hh=>he e (List.mem_cons_of_mem _ hh)) rfl (by simp;omega) (by omega)
  have hs:(bD (gC c (q+1))).seq=q+1:=oh _
  rw [hs,h]
  simp [aZ,Nat.add_assoc,Nat.add_comm 1]
theorem sB {junk:Bs} (hj:bu junk=none):∀ (bs:List (List bX)) (q f:Nat) (s:St),(∀ b∈bs,FC b)→s.seq=q→q+total bs≤4611686018427387904→s.mem.length+total bs≤1048576→bs.length<f →
 lh f (bA q bs++junk) s=some { s with seq:=q+total bs,mem:=gh q (bs.map (·.map ia)) s.mem }
 | _,_,0,_,_,_,_,_,h=>absurd h (Nat.not_lt_zero _)
 | [],q,f+1,s,_,hq,_,_,_=>by
  unfold lh
  rw [show bA q []++junk=junk from rfl,hj]
  subst hq;rfl
 | b::r,q,f+1,s,hb,hq,hn,hm,hf=>by
  have ht:total (b::r)=b.length+total r:=by simp [total]
  have hbk:=hb b List.mem_cons_self
  have hl8:=hbk.len
  simp only [List.length_cons] at hf
  have he:∀ e∈aZ q b,lx e:=fun e hh=>(nX b q hbk.key hbk.val (by omega) e hh).1
  have hlen:(kI q b).length≤8+34*b.length:=by
   have h1:=jR he
   rw [dH] at h1
   unfold dZ at h1
   unfold kI
   rw [List.length_append,aD];omega
  have e1:bA q (b::r)++junk=az (kI q b)++(bA (q+b.length) r++junk):=by simp [bA]
  unfold lh
  rw [e1,jq (by omega)]
  dsimp only
  rw [show kI q b=bz q 8++((aZ q b).map cU).flatten from rfl,gU (by omega)]
  dsimp only
  rw [if_neg (by simp [hq])]
  have hfl:b.length<(bz q 8++((aZ q b).map cU).flatten).length+1:=by
   have key:∀ l:List ay,l.length≤(l.map cU).flatten.length:=by
    intro l
    induction l with
    | nil=>simp
    | cons e r ih=>
     have:=pU e
     simp only [List.map_cons,List.flatten_cons,List.length_append,List.length_cons];omega
   have:=key (aZ q b)
   rw [dH] at this
   rw [List.length_append];omega
  rw [qJ b q _ s he hq (by omega) hfl]
  dsimp only
  have h:=sB hj r (q+b.length) f { s with seq:=q+b.length,mem:=((aZ q b).map bD).foldl dG s.mem } (fun x hx=>hb x (List.mem_cons_of_mem _ hx)) rfl (by omega) (by
   show (((aZ q b).map bD).foldl dG s.mem).length+_≤_
   rw [AB,List.length_map,dH];omega) (by omega)
  rw [h,ht]
  simp only [List.map_cons,gh,List.length_map,lp,Nat.add_assoc]
def pz (c:St) (bs:List (List bX)):St:={ oO with number:=c.number,seq:=c.seq+total bs,log:=c.log,levels:=c.levels,mem:=gh c.seq (bs.map (·.map ia)) [] }
theorem AI:∀ (bs:List (List bX)) (q:Nat),bs.length≤(bA q bs).length
 | [],_=>by simp
 | b::r,q=>by
  have:=AI r (q+b.length)
  simp only [bA,List.length_append,List.length_cons,bH];omega
section
variable {C:Prop} {D:ad} {c:St} {Ls:fW} {bs:List (List bX)} {E:Nat}
theorem FN (h:RecM C D c Ls bs E) (hE:E≤1048576) :
 ∃ x D',nP D=some (x,D')∧cH D D'∧((∃ e,x=.error e∧qC C D e)∨x=.ok (pz c bs)):=by
 have htab:=h.Aw hE
 have hsl:=h.uU hE
 have hll:=h.CA
 have hnum:=h.num
 have hseq:=h.seq
 have hcnt:=h.cntE
 unfold nP
 obtain ⟨x,D1,w1,w2,w3⟩:=px h.ok h.state
 rw [w1]
 rcases w3 with rfl|⟨e,rfl,w3⟩
 ·dsimp only
  have ho:bu (az (bL c))=some (bL c,[]):=by
   have:=jq (b:=bL c) (by rw [bH] at hsl;omega) []
   rwa [List.append_nil] at this
  rw [ho]
  dsimp only
  rw [if_neg (by simp)]
  have e1:bL c=bz c.number 8++(bz c.seq 8++(bB c.log++u2 (jT 0 Ls))):=by
   unfold bL;rw [h.levels,xg];simp
  have hidx:(jT 0 Ls).length<(bL c).length+1:=by
   have key:∀ ps:List (Nat×cO×List ay),ps.length≤(u2 ps).length:=by
    intro ps
    induction ps with
    | nil=>simp
    | cons p r ih=>unfold u2 at ih ⊢;simp only [List.map_cons,List.flatten_cons,List.length_append,List.length_cons];omega
   have:=key (jT 0 Ls)
   rw [e1];simp only [List.length_append];omega
  generalize hf:(bL c).length+1=f at hidx
  rw [e1,gU (by omega)]
  dsimp only
  rw [gU (by omega)]
  dsimp only
  rw [kA (by omega)]
  dsimp only
  obtain ⟨x,D2,l1,l2,l3⟩:=u3 (C:=C) (jT 0 Ls) f D1 [[],[],[],[]] 0 w2.later.ok hidx rfl (fun i=>by
   rcases i with _|_|_|_|i<;>simp) (by rw [D7];omega) fun p hp=>by
    obtain ⟨a1,_,a3⟩:=D6 Ls 0 p hp
    obtain ⟨fl,cs,b1,b2⟩:=h.on p.2 a1
    refine ⟨by rw [h.lv.len] at a3;omega,?_,fl,cs,by rw [w2.file];exact b1,b2⟩
    obtain ⟨k,_,hk⟩:=h.lv.names p.2 a1
    rw [hk];exact uT k
  rw [l1]
  rcases l3 with ⟨e,rfl,l3⟩|rfl
  ·exact ⟨_,_,rfl,w2.trans l2,.inl ⟨e,rfl,l3.before w2.later⟩⟩
  ·dsimp only
   rw [if_neg (by simp),Iy h.lv.len]
   have s2:=w2.trans l2
   obtain ⟨junk,j1,j2⟩:=h.logf
   unfold qx
   obtain ⟨x,D3,r1,r2,r3⟩:=px s2.later.ok (n:=c.log) (b:=bA c.seq bs++junk) (by rw [s2.file];exact j1)
   dsimp only
   rw [r1]
   rcases r3 with rfl|⟨e,rfl,r3⟩
   ·dsimp only
    have hr:=sB j2 bs c.seq ((bA c.seq bs++junk).length+1) { oO with number:=c.number,seq:=c.seq,log:=c.log,levels:=cA Ls } h.bsok rfl h.seq (by show 0+total bs≤_;omega) (by
     have:=AI bs c.seq
     rw [List.length_append];omega)
    rw [hr]
    refine ⟨_,_,rfl,s2.trans r2,.inr ?_⟩
    rw [← h.levels];rfl
   ·exact ⟨_,_,rfl,s2.trans r2,.inl ⟨_,rfl,AH (.inl (r3.before s2.later))⟩⟩
 ·dsimp only
  have h8:=w3.1
  rw [if_neg (by omega)]
  exact ⟨_,_,rfl,w2,.inl ⟨e,rfl,.inl w3⟩⟩
end
end
section
open Go.Proofs.YtecibefflhomdaaGreatDoor.Pure
theorem mS (l:List Bs):(kM l).Perm l:=List.mergeSort_perm l _
theorem gk {D:ad} {n:Bs}:n∈eQ D↔file D n≠none:=by
 unfold eQ
 rw [(mS _).mem_iff,ne_eq,ox,cu]
 exact Iff.intro (fun h k=>k h) (fun h=>Classical.not_not.1 h)
theorem jU {D:ad} (h:D.Ok):(eQ D).Nodup:=(mS _).nodup_iff.2 h.names
theorem iC (D:ad):(eQ D).length=D.now.length:=by unfold eQ;rw [(mS _).length_eq,List.length_map]
section
variable {C:Prop} {D:ad} {c s:St} {Ls:fW} {bs:List (List bX)} {E:Nat}
theorem pA (hl:s.levels=cA Ls) (m:Bs):fO s m=true↔m=aN∨m=s.log∨m∈bO Ls:=by
 unfold fO bO
 rw [hl,ki]
 simp only [Bool.or_eq_true,decide_eq_true_eq,List.any_eq_true,List.mem_map]
 constructor
 ·rintro ((h|h)|⟨T,⟨p,hp,rfl⟩,h⟩)
  ·exact .inl h
  ·exact .inr (.inl h)
  ·exact .inr (.inr ⟨p,hp,h⟩)
 ·rintro (h|h|⟨p,hp,h⟩)
  ·exact .inl (.inl h)
  ·exact .inl (.inr h)
  ·exact .inr ⟨p.1,⟨p,hp,rfl⟩,h⟩
theorem FO (hd:D.Ok) (hl:s.levels=cA Ls) (hm:D.moves.length+D.now.length≤1099511627776) :
 ∃ x D',ja s D=some (x,D')∧cQ D D'∧D'.moves.length≤D.moves.length+((eQ D).filter fun n=>!fO s n).length∧(∀ m,(m=aN∨m=s.log∨m∈bO Ls)→file D' m=file D m) ∧
  ((∃ e,x=.error e∧sy C D e)∨(x=.ok s∧∀ m,file D' m≠none→m=aN∨m=s.log∨m∈bO Ls)):=by
 have hlen:((eQ D).filter fun n=>!fO s n).length≤D.now.length:=by
  have:=List.length_filter_le (fun n=>!fO s n) (eQ D)
  rw [iC] at this;exact this
 obtain ⟨x,D',k1,k2,k3,k4,k5⟩:=nW (C:=C) ((eQ D).filter fun n=>!fO s n) hd ((jU hd).filter _) (fun n hn=>gk.1 (List.mem_filter.1 hn).1) (by omega)
 have hk4:∀ m,(m=aN∨m=s.log∨m∈bO Ls)→file D' m=file D m:=fun m hm=>k4 m fun hh=>by
  have h1:=(List.mem_filter.1 hh).2
  rw [(pA hl m).2 hm] at h1
  cases h1
 unfold ja
 rw [if_pos (by rw [bG];omega),k1]
 rcases k5 with ⟨rfl,k5⟩|⟨e,rfl,k5⟩
 ·refine ⟨_,_,rfl,k2,by omega,hk4,.inr ⟨rfl,fun m hm=>(pA hl m).1 ?_⟩⟩
  cases hk:fO s m with
  | true=>rfl
  | false=>
   by_cases hin:m∈(eQ D).filter fun n=>!fO s n
   ·exact absurd (k5 m hin) hm
   ·rw [k4 m hin] at hm
    exact absurd (List.mem_filter.2 ⟨gk.2 hm,by rw [hk];rfl⟩) hin
 ·exact ⟨_,_,rfl,k2,by omega,hk4,.inl ⟨e,rfl,k5⟩⟩
def jf (c:St) (Ls:fW) (bs:List (List bX)) (k:Bs):Option Bs:=dB (eW (gh c.seq bs []::dj Ls) k aH)
theorem mf (c:St) (Ls:fW) (k:Bs):jf c Ls [] k=dB (eW (dj Ls) k aH):=by
 unfold jf
 rw [bx];rfl
theorem IA (q:Nat) (bs:List (List bX)) (S:List (List ay)) (k:Bs) (m:Nat):dB (eW (gh q (bs.map (·.map ia)) []::S) k m)=dB (eW (gh q bs []::S) k m):=by
 have h:=u4 bs q []
 rw [List.map_nil] at h
 rw [h,bx,bx,AG,xe]
theorem RecM.norm (h:RecM C D c Ls bs E):RecM C D c Ls (bs.map (·.map ia)) E:=
 ⟨h.ok,h.levels,h.state,h.num,by rw [py];exact h.seq,by rw [py];exact h.cntE,h.lv,h.on,h.seqs,h.ord,h.log,by rw [lE];exact h.logf,fun b hb=>by
   obtain ⟨x,hx,rfl⟩:=List.mem_map.1 hb
   exact Iz (h.bsok x hx)⟩
theorem yz {a b:St} (h1:a.number=b.number) (h2:a.seq=b.seq) (h3:a.log=b.log) (h4:a.levels=b.levels):bL a=bL b:=by unfold bL;rw [h1,h2,h3,h4]
theorem RecM.congr {c':St} (h:RecM C D c Ls bs E) (h1:c'.number=c.number) (h2:c'.seq=c.seq) (h3:c'.log=c.log) (h4:c'.levels=c.levels):RecM C D c' Ls bs E:=
 ⟨h.ok,h4.trans h.levels,by rw [yz h1 h2 h3 h4];exact h.state,by rw [h1];exact h.num,by rw [h2];exact h.seq,h.cntE,by rw [h1];exact h.lv,h.on,by rw [h2];exact h.seqs,h.ord,by rw [h1,h3];exact h.log,by rw [h2,h3];exact h.logf,h.bsok⟩
def qK (C:Prop) (o:jX) (D:ad) (q:Nat) (see:Bs→Option Bs) (N E:Nat) (x:Except cy St) (D':ad):Prop:=
 cQ D D' ∧
  ((∃ e,x=.error e∧sy C D e∧∃ c' Ls' bs',RecM C D' c' Ls' bs' E∧c'.seq+total bs'=q∧∀ k,jf c' Ls' bs' k=see k) ∨
   ∃ s' Ls',x=.ok s'∧jw C s' D' q Ls' [] E∧(∀ k,dB (eW (dj Ls') k aH)=see k)∧s'.mem=[]∧s'.snaps=[]∧s'.snap=0∧s'.seq=q∧s'.number≤N∧file D' s'.log=some []∧ln o Ls')
theorem qK.before {o:jX} {D0:ad} {q N N':Nat} {see:Bs→Option Bs} {x:Except cy St} {D':ad} (hl:cQ D0 D) (hN:N≤N') (h:qK C o D q see N E x D'):qK C o D0 q see N' E x D':=by
 obtain ⟨h1,h2⟩:=h
 refine ⟨hl.trans h1,?_⟩
 rcases h2 with ⟨e,a,b,r⟩|⟨s',Ls',a1,a2,a3,a4,a5,a6,a7,a8,a9⟩
 ·exact .inl ⟨e,a,b.before hl,r⟩
 ·exact .inr ⟨s',Ls',a1,a2,a3,a4,a5,a6,a7,Nat.le_trans a8 hN,a9⟩
theorem FP {o:jX} {q0:Nat} (ho:1≤o.tables) (h:jw C s D q0 Ls bs E) (hsn:s.snaps=[]∧s.snap=0) (hE:E≤1048576) (hB:bs.length≤16777216) (hnum:s.number+4*E+1≤4611686018427387904) :
 ∃ x D',jW o s D=some (x,D')∧qK C o D s.seq (fun k=>dB (eW (s.mem::dj Ls) k aH)) (s.number+4*E+1) E x D':=by
 have hmo:aP s=[aH]:=by unfold aP;rw [hsn.1];rfl
 have hmem:=h.mem
 have hseq:=h.seq
 have herr:∀ (c':St) (Ls':fW) (bs':List (List bX)),((c'.seq=q0∧bs'=bs∧e9 (aP s) (dj Ls) (dj Ls'))∨(c'.seq=s.seq∧bs'=[]∧e9 (aP s) (s.mem::dj Ls) (dj Ls')))→c'.seq+total bs'=s.seq∧∀ k,jf c' Ls' bs' k=dB (eW (s.mem::dj Ls) k aH):=by
  rintro c' Ls' bs' (⟨e1,rfl,e3⟩|⟨e1,rfl,e3⟩)
  ·refine ⟨by rw [e1,hseq],fun k=>?_⟩
   unfold jf
   rw [e1,← hmem,bx,bx]
   exact oz (e3 aH (by rw [hmo];exact List.mem_cons_self) k)
  ·refine ⟨by rw [e1];simp [total],fun k=>?_⟩
   rw [mf]
   exact e3 aH (by rw [hmo];exact List.mem_cons_self) k
 unfold jW
 by_cases hm:0<s.mem.length
 ·rw [if_pos hm]
  obtain ⟨x,D',k1,k2,k3⟩:=rO ho h hE hB hnum
  refine ⟨x,D',k1,k2,?_⟩
  rcases k3 with ⟨e,a1,a2,c',Ls',bs',a3,a4⟩|⟨s',Ls',a1,a2,a3,a4,a5,a6,a7,a8,a9⟩
  ·obtain ⟨b1,b2⟩:=herr c' Ls' bs' a4
   exact .inl ⟨e,a1,a2,c',Ls',bs',a3,b1,b2⟩
  ·refine .inr ⟨s',Ls',a1,a2,fun k=>a3 aH (by rw [hmo];exact List.mem_cons_self) k,?_,by rw [a5,hsn.1],by rw [a6,hsn.2],a4,a7,a8,a9⟩
   rw [a2.mem];rfl
 ·rw [if_neg hm]
  have hm0:s.mem=[]:=by cases hh:s.mem with
   | nil=>rfl
   | cons _ _=>rw [hh] at hm;simp at hm
  have ht:total bs=0:=by have:=h.qI.2;rw [hm0] at this;simpa using this.symm
  have hq:s.seq=q0:=by rw [hseq,ht,Nat.add_zero]
  obtain ⟨k0,hk0,hk1⟩:=h.core.log
  have hk0:k0≤s.number:=hk0
  have hk1:s.log=bU k0:=hk1
  have hn:=h.core.num
  have hn:s.number≤4611686018427387904:=hn
  have hqs:=h.core.seq
  have hqs:q0+total bs≤4611686018427387904:=hqs
  have htab:=h.core.Aw hE
  have hused:=h.used hE hB
  have hmv:=h.moves
  obtain ⟨lb,hlb⟩:=h.logf
  obtain ⟨x,D3,c1,c2,c3⟩:=nV (C:=C) (s:=s) (Ls:=Ls) h.levels h.core.lv htab (by omega) (by omega) h.core.ok h.Iq (h.KY (by omega) (by omega)) (.inr ⟨k0,_,hk0,hk1,hlb.1⟩) (by omega) (by omega)
  rw [c1]
  have hlogne:s.log≠bU (s.number+1):=fun hh=>by have:=nU (hk1.symm.trans hh) (by omega) (by omega);omega
  have hnew:∀ D':ad,D'.Ok→file D' aN=some (az (bL { s with number:=s.number+1,log:=bU (s.number+1) }))→file D' (bU (s.number+1))=some [] →
   (∀ m,m∈bO Ls→file D' m=file D m)→RecM C D' { s with number:=s.number+1,log:=bU (s.number+1) } Ls [] E:=by
   intro D' hd' hs' hl' hf'
   refine ⟨hd',h.levels,hs',by show s.number+1≤_;omega,by show s.seq+total []≤_;simp [total];omega,?_,⟨h.core.lv.len,fun p hp=>?_,h.core.lv.nodup,h.core.lv.sep⟩,fun p hp=>?_,fun p hp e he=>?_,h.core.ord,⟨s.number+1,Nat.le_refl _,rfl⟩,⟨[],by rw [hl'];rfl,om⟩,by simp⟩
   ·have:=h.core.cntE;simp [total];omega
   ·obtain ⟨k,a1,a2⟩:=h.core.lv.names p hp
    have a1:k≤s.number:=a1
    exact ⟨k,by show k≤s.number+1;omega,a2⟩
   ·obtain ⟨f,cs,a1,a2⟩:=h.core.on p hp
    exact ⟨f,cs,by rw [hf' _ (List.mem_map.2 ⟨p,hp,rfl⟩)];exact a1,a2⟩
   ·have h1:=h.core.seqs p hp e he
    have h1:e.seq≤q0:=h1
    show e.seq≤s.seq;omega
  rcases c3 with ⟨rfl,c3,c4⟩|⟨e,rfl,c3,c4⟩
  ·have hfl:file D3 (bU (s.number+1))=some []:=by rw [c4,if_neg (eI _)];exact if_pos rfl
   have hrun:jw C { s with number:=s.number+1,log:=bU (s.number+1) } D3 s.seq Ls [] E:=by
    refine ⟨hnew D3 c2.ok (by rw [c4,if_pos rfl]) hfl fun m hm=>?_,hm0,by simp [total],⟨[],by rw [hfl];rfl,by simp⟩,fun m hm=>?_,by omega,h.snaps⟩
    ·rw [c4,if_neg fun hh=>fQ h.core.lv (by rw [← hh];exact hm),if_neg fun hh=>dS h.core.lv (s.number+1) (by rw [← hh];exact hm),if_neg fun hh=>dS h.core.lv k0 (by rw [← hk1,← hh];exact hm)]
    ·show m=aN∨m=bU (s.number+1)∨_
     rw [c4] at hm
     by_cases h1:m=aN
     ·exact .inl h1
     rw [if_neg h1] at hm
     by_cases h2:m=bU (s.number+1)
     ·exact .inr (.inl h2)
     rw [if_neg h2] at hm
     by_cases h3:m=s.log
     ·exact absurd (if_pos h3) hm
     rw [if_neg h3] at hm
     rcases h.known m hm with h4|h4|h4
     ·exact absurd h4 h1
     ·exact absurd h4 h3
     ·exact .inr (.inr h4)
   dsimp only [dE]
   obtain ⟨x,D4,s1,l3,s2⟩:=pw ho hrun (by simp [total]) hE (by simp) (by show s.number+1+3*E≤_;omega)
   refine ⟨x,D4,s1,c2.trans l3,?_⟩
   have hmo2:aP { s with number:=s.number+1,log:=bU (s.number+1) }=aP s:=rfl
   rw [hmo2] at s2
   have hsee:∀ k,dB (eW (s.mem::dj Ls) k aH)=dB (eW (dj Ls) k aH):=fun k=>by rw [bx,hm0];rfl
   rcases s2 with ⟨e,a1,a2,c',Ls',bs',a3,a4⟩|⟨s',Ls',a1,a2,a3,a4,a5,a6,a7⟩
   ·refine .inl ⟨e,a1,a2.before c2,c',Ls',bs',a3,?_⟩
    rcases a4 with ⟨b1,rfl,b3⟩|⟨b1,rfl,b3⟩
    ·refine ⟨by rw [b1];simp [total],fun k=>?_⟩
     show jf c' Ls' [] k=dB (eW (s.mem::dj Ls) k aH)
     rw [mf,hsee]
     exact b3 aH (by rw [hmo];exact List.mem_cons_self) k
    ·refine ⟨by rw [b1];simp [total],fun k=>?_⟩
     show jf c' Ls' [] k=dB (eW (s.mem::dj Ls) k aH)
     rw [mf]
     exact b3 aH (by rw [hmo];exact List.mem_cons_self) k
   ·have hlog':s'.log=bU (s.number+1):=a5.1
    refine .inr ⟨s',Ls',a1,a2,fun k=>?_,by rw [a4.mem];exact hm0,by rw [a4.snaps];exact hsn.1,by rw [a4.snap];exact hsn.2,a4.seq,?_,?_,a7⟩
    ·show _=dB (eW (s.mem::dj Ls) k aH)
     rw [hsee];exact a3 aH (by rw [hmo];exact List.mem_cons_self) k
    ·have a6:s'.number≤s.number+1+3*E:=a6
     omega
    ·rw [hlog']
     have:=a5.2
     have this:file D4 (bU (s.number+1))=file D3 (bU (s.number+1)):=this
     rw [this];exact hfl
  ·refine ⟨_,_,rfl,c2,.inl ⟨e,rfl,c3,?_⟩⟩
   rcases c4 with c4|c4
   ·refine ⟨_,Ls,bs,h.core.files c2.ok fun m hm=>c4 m ?_ ?_,herr _ _ _ (.inl ⟨rfl,rfl,e9.refl _ _⟩)⟩
    ·rcases hm with hm|hm|hm
     ·rw [hm];exact iB.symm
     ·have hm:m=s.log:=hm
      rw [hm,hk1];exact jv _
     ·exact fun hh=>gO h.core.lv (by rw [← hh];exact hm)
    ·rcases hm with hm|hm|hm
     ·rw [hm];exact (eI _).symm
     ·have hm:m=s.log:=hm
      rw [hm];exact hlogne
     ·exact fun hh=>dS h.core.lv (s.number+1) (by rw [← hh];exact hm)
   ·refine ⟨_,Ls,[],hnew D3 c2.ok (by rw [c4,if_pos rfl]) (by rw [c4,if_neg (eI _)];exact if_pos rfl) fun m hm=>?_,herr _ _ _ (.inr ⟨rfl,rfl,fun m _ k=>?_⟩)⟩
    ·rw [c4,if_neg fun hh=>fQ h.core.lv (by rw [← hh];exact hm),if_neg fun hh=>dS h.core.lv (s.number+1) (by rw [← hh];exact hm)]
    ·rw [bx,hm0];rfl
theorem IB {o:jX} (ho:1≤o.tables) (h:RecM C D c Ls bs E) (hj:∀ b,file D c.log=some b→b.length≤1073741824) (hE:E≤1048576) (hB:bs.length≤16777216) (hm:D.moves.length+D.now.length≤2097152∨(D.moves.length≤2097152∧D.now.length≤2097152∧∀ m,file D m≠none→pr c Ls m)) (hnum:c.number+4*E+1≤4611686018427387904) :
 ∃ x D',iy o D=some (x,D')∧qK C o D (c.seq+total bs) (jf c Ls bs) (c.number+4*E+1) E x D':=by
 unfold iy
 obtain ⟨x,D1,l1,l2,l3⟩:=FN h hE
 rw [l1]
 have hR1:RecM C D1 c Ls bs E:=h.files l2.later.ok fun m _=>l2.file m
 rcases l3 with ⟨e,rfl,l3⟩|rfl
 ·exact ⟨_,_,rfl,l2.later,.inl ⟨e,rfl,.inl l3,c,Ls,bs,hR1,rfl,fun _=>rfl⟩⟩
 dsimp only [dE]
 have hnow:D1.now.length=D.now.length:=by
  have h1:∀ m,m∈eQ D1↔m∈eQ D:=fun m=>by rw [gk,gk,l2.file]
  have h2:=me (jU l2.later.ok) fun m hm=>(h1 m).1 hm
  have h3:=me (jU h.ok) fun m hm=>(h1 m).2 hm
  rw [iC,iC] at h2 h3
  omega
 obtain ⟨x,D2,c1,c2,c3,c4,c5⟩:=FO (C:=C) (s:=pz c bs) (Ls:=Ls) l2.later.ok h.levels (by rw [l2.moves,hnow];rcases hm with hm|⟨hm,hm2,-⟩<;>omega)
 have hfil:D1.moves.length+((eQ D1).filter fun n=>!fO (pz c bs) n).length≤2097152:=by
  rw [l2.moves]
  rcases hm with hm|⟨hm,hm2,hk⟩
  ·have h1:=List.length_filter_le (fun n=>!fO (pz c bs) n) (eQ D1)
   rw [iC,hnow] at h1;omega
  ·rw [List.filter_eq_nil_iff.2 fun m hm3=>?_]
   ·simpa using hm
   ·have h1:=hk m (by rw [← l2.file];exact gk.1 hm3)
    have h2:=(pA (s:=pz c bs) (Ls:=Ls) h.levels m).2 h1
    rw [h2];simp
 rw [c1]
 have hR2:RecM C D2 c Ls bs E:=hR1.files c2.ok fun m hm=>c4 m hm
 rcases c5 with ⟨e,rfl,c5⟩|⟨rfl,c5⟩
 ·exact ⟨_,_,rfl,l2.later.trans c2,.inl ⟨e,rfl,c5.before l2.later,c,Ls,bs,hR2,rfl,fun _=>rfl⟩⟩
 dsimp only
 have hrun:jw C (pz c bs) D2 c.seq Ls (bs.map (·.map ia)) E:=by
  refine ⟨hR2.norm.congr rfl rfl rfl rfl,rfl,by rw [py];rfl,?_,c5,by omega,by show [].length≤4;simp⟩
  obtain ⟨junk,j1,j2⟩:=h.logf
  refine ⟨junk,?_,?_⟩
  ·rw [lE]
   have h2:file D2 c.log=file D1 c.log:=c4 _ (.inr (.inl rfl))
   show file D2 c.log=_
   rw [h2,l2.file];exact j1
  ·have:=hj _ j1;rw [List.length_append] at this;omega
 obtain ⟨x,D3,r1,r2⟩:=FP ho hrun ⟨rfl,rfl⟩ hE (by simpa using hB) hnum
 refine ⟨x,D3,r1,?_⟩
 have e1:(fun k=>dB (eW ((pz c bs).mem::dj Ls) k aH))=jf c Ls bs:=funext fun k=>IA c.seq bs (dj Ls) k aH
 rw [e1] at r2
 exact r2.before (l2.later.trans c2) (Nat.le_refl _)
end
end
end Go.Proofs.YtecibefflhomdaaGreatDoor
