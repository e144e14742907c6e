/-
  Part 30: PLAIN a table's file, written whole, is that table again; PLAIN entries written as tables, of new names.
-/
import Derived.Test.YtecibefflhomdaaGreatDoorV29
set_option maxHeartbeats 8000000
set_option maxRecDepth 100000
set_option linter.all false
namespace Go.Proofs.YtecibefflhomdaaGreatDoor
open Go
section
open Go.Proofs.YtecibefflhomdaaGreatDoor.Pure
theorem rS (e:aB):dj (bF e)=dj e:=by
 unfold dj
 rw [kD,oS,xM]
 cases hd:e.del with
 | true=>simp
 | false=>simp [bF,hd]
theorem wb (c:List aB):fz (c.map bF)=fz c:=by
 unfold fz;rw [List.map_map];congr 1;exact List.map_congr_left fun e _=>rS e
theorem yw (c:List aB):j9 (c.map bF)=j9 c:=by unfold j9;rw [wb]
theorem oz (l:List aB):dP (l.map bF)=dP l:=by cases l<;>simp [dP]
theorem wc (l:List aB):fJ (l.map bF)=fJ l:=by
 unfold fJ;rw [List.getLast?_map];cases l.getLast?<;>simp
theorem EC (cs:List (List aB)):cy (cs.map (·.map bF))=cy cs:=by
 unfold cy;rw [List.map_map];congr 1;exact List.map_congr_left fun c _=>yw c
theorem nh:∀ (cs:List (List aB)) (a:Nat),bZ a (cs.map (·.map bF))=bZ a cs
 | [],_=>rfl
 | c::cs,a=>by simp only [List.map_cons,bZ,oz,yw,nh cs]
theorem ED (l:List aB) (cs:List (List aB)):fA (l.map bF) (cs.map (·.map bF))=fA l cs:=by
 unfold fA;rw [EC,oz,wc,nh,List.length_map]
theorem yx (a b:aB):less (bF a) (bF b)=less a b:=by unfold less;simp
theorem BZ {l:List aB} (h:gq l):gq (l.map bF):=by
 exact List.pairwise_map.2 (h.imp fun {a b} hh=>by rw [yx];exact hh)
def xm (b:Bs×Nat×Nat):Bs:=bC b.1++bL b.2.1 4++bL b.2.2 4
theorem B0 (b:Bs×Nat×Nat):(xm b).length=b.1.length+9:=by simp [xm]
theorem we (a b:Bs) (n:Nat) (bs:List (Bs×Nat×Nat)):iP a b n bs=bC a++(bC b++(bL n 4++(bs.map xm).flatten)):=by
 unfold iP xm;rw [List.append_assoc,List.append_assoc]
theorem wh:∀ (bs:List (Bs×Nat×Nat)) (f:Nat),(∀ b∈bs,b.1.length≤255∧b.2.1<4294967296∧b.2.2<4294967296)→bs.length≤f→fD f ⟨(bs.map xm).flatten,false⟩=(bs,false)
 | [],0,_,_=>rfl
 | [],f+1,_,_=>by unfold fD;simp
 | b::bs,0,_,h=>by simp at h
 | b::bs,f+1,hb,h=>by
  obtain ⟨h1,h2,h3⟩:=hb b List.mem_cons_self
  have e:((b::bs).map xm).flatten=bC b.1++(bL b.2.1 4++(bL b.2.2 4++(bs.map xm).flatten)):=by simp [xm]
  unfold fD
  rw [e,if_pos ⟨by intro hh;simp [bC] at hh,rfl⟩,kS h1]
  dsimp only
  rw [iS (by omega)]
  dsimp only
  rw [iS (by omega),wh bs f (fun x hx=>hb x (List.mem_cons_of_mem _ hx)) (by simp at h;omega)]
theorem EF (bs:List (Bs×Nat×Nat)):bs.length≤(bs.map xm).flatten.length:=by
 induction bs with
 | nil=>simp
 | cons b r ih=>
  have:=B0 b
  simp only [List.map_cons,List.flatten_cons,List.length_append,List.length_cons];omega
theorem B1 {bs:List (Bs×Nat×Nat)} (h:∀ b∈bs,b.1.length≤8):(bs.map xm).flatten.length≤17*bs.length:=by
 induction bs with
 | nil=>simp
 | cons b r ih=>
  have h1:=B0 b
  have h2:=h b List.mem_cons_self
  have h3:=ih fun x hx=>h x (List.mem_cons_of_mem _ hx)
  simp only [List.map_cons,List.flatten_cons,List.length_append,List.length_cons];omega
section
variable {l:List aB} {cs:List (List aB)} {nm:Bs}
theorem wi (hk:∀ e∈l,mj e):(dP l).length≤8:=by
 cases l with
 | nil=>simp [dP]
 | cons e r=>exact (hk e List.mem_cons_self).key
theorem yz (hk:∀ e∈l,mj e):(fJ l).length≤8:=by
 unfold fJ
 cases h:l.getLast? with
 | none=>simp
 | some e=>exact (hk e (List.mem_of_getLast? h)).key
theorem sr (hf:cs.flatten=l) (hn:∀ c∈cs,c≠[]) (hk:∀ e∈l,mj e) (hne:l≠[]) (hc:l.length≤10000) :
 (fA l cs).length≤130*l.length∧l.length≤(fA l cs).length∧(cy cs).length≤46*l.length∧(iP (dP l) (fJ l) l.length (bZ 0 cs)).length≤22+17*l.length:=by
 have hk2:∀ e∈cs.flatten,mj e:=by rw [hf];exact hk
 have h1:=mF hn hk2
 have h2:=kH hn
 rw [hf] at h1 h2
 have h3:=wi hk
 have h4:=yz hk
 have h5:=B1 (bs:=bZ 0 cs) fun b hb=>(jV (a:=0) (A:=460000) hn hk2 (by rw [Nat.zero_add];omega) b hb).1
 rw [ig] at h5
 have h6:0<l.length:=List.length_pos_iff.2 hne
 have h8:(iP (dP l) (fJ l) l.length (bZ 0 cs)).length≤22+17*l.length:=by
  rw [we];simp only [List.length_append,dH,aV];omega
 have h9:l.length≤(cy cs).length:=by
  have key:∀ cs:List (List aB),cs.flatten.length≤(cy cs).length:=by
   intro cs
   induction cs with
   | nil=>simp [cy]
   | cons c r ih=>
    have:=BS c
    simp only [cy,List.map_cons,List.flatten_cons,List.length_append,j9,bW] at ih ⊢
    omega
  rw [← hf];exact key cs
 refine ⟨?_,?_,h1,h8⟩
 ·unfold fA;simp only [List.length_append,bW,aV];omega
 ·unfold fA;simp only [List.length_append,bW,aV];omega
theorem HQ (hf:cs.flatten=l) (hn:∀ c∈cs,c≠[]) (hk:∀ e∈l,mj e) (hne:l≠[]) (hc:l.length≤10000) :
 BG nm (iP (dP l) (fJ l) l.length (bZ 0 cs))=.ok ⟨nm,dP l,fJ l,l.length,bZ 0 cs⟩:=by
 have hk2:∀ e∈cs.flatten,mj e:=by rw [hf];exact hk
 have h1:=mF hn hk2
 rw [hf] at h1
 have h5:=jV (a:=0) (A:=460000) hn hk2 (by rw [Nat.zero_add];omega)
 have h3:=wi hk
 have h4:=yz hk
 unfold BG
 dsimp only
 have hlen:=EF (bZ 0 cs)
 have hcs:cs≠[]:=by rintro rfl;exact hne (by rw [← hf];rfl)
 have hb0:bZ 0 cs≠[]:=by intro h;have:=congrArg List.length h;rw [ig] at this;exact hcs (List.eq_nil_of_length_eq_zero (by simpa using this))
 have hp:=wh (bZ 0 cs) (iP (dP l) (fJ l) l.length (bZ 0 cs)).length (fun b hb=>by obtain ⟨k1,k2,k3⟩:=h5 b hb;omega) (by
  rw [we];simp only [List.length_append];omega)
 generalize hL:(iP (dP l) (fJ l) l.length (bZ 0 cs)).length=L at hp
 rw [we,kS (by omega)]
 dsimp only
 rw [kS (by omega)]
 dsimp only
 rw [iS (by omega)]
 dsimp only
 rw [hp]
 simp [hb0]
theorem HR (hf:cs.flatten=l) (hn:∀ c∈cs,c≠[]) (hk:∀ e∈l,mj e) (hne:l≠[]) (hc:l.length≤10000) :
 wa nm (fA l cs)=some (.ok ⟨nm,dP l,fJ l,l.length,bZ 0 cs⟩):=by
 obtain ⟨h1,h2,h3,h4⟩:=sr hf hn hk hne hc
 have hb:(cy cs).length<4294967296:=by omega
 have hbe:kj (bL (cy cs).length 8)=(cy cs).length:=by rw [uX];exact Nat.mod_eq_of_lt (by omega)
 generalize hLL:iP (dP l) (fJ l) l.length (bZ 0 cs)=L at h4
 have hlen:(fA l cs).length=(cy cs).length+(12+L.length)+20:=by
  unfold fA;rw [hLL];simp only [List.length_append,bW,aV]
 have e1:fB (fA l cs) (((fA l cs).length:Int)-20) 20=aF (bL (cy cs).length 8):=by
  have:=si (cy cs++aF L) (aF (bL (cy cs).length 8)) []
  rw [List.append_nil] at this
  rw [show ((fA l cs).length:Int)-20=((cy cs++aF L).length:Int) by rw [hlen];simp only [List.length_append,bW];omega,
   show (20:Int)=((aF (bL (cy cs).length 8)).length:Int) by simp]
  unfold fA;rw [hLL];exact this
 have e2:fB (fA l cs) ((cy cs).length:Int) (((fA l cs).length:Int)-20-((cy cs).length:Int))=aF L:=by
  have:=si (cy cs) (aF L) (aF (bL (cy cs).length 8))
  rw [show ((fA l cs).length:Int)-20-((cy cs).length:Int)=((aF L).length:Int) by rw [hlen];simp only [bW];omega]
  unfold fA;rw [hLL];exact this
 have o1:bH (aF (bL (cy cs).length 8))=some (bL (cy cs).length 8,[]):=by
  have:=ml (b:=bL (cy cs).length 8) (by simp) []
  rwa [List.append_nil] at this
 have o2:bH (aF L)=some (L,[]):=by
  have:=ml (b:=L) (by omega) []
  rwa [List.append_nil] at this
 unfold wa
 rw [e1,o1]
 dsimp only
 rw [if_neg (by simp),hbe,if_neg (by omega),e2,o2]
 dsimp only
 rw [if_pos (by rw [bI,bW];omega),← hLL,HQ hf hn hk hne hc]
theorem KP (hf:cs.flatten=l) (hn:∀ c∈cs,c≠[]) (hsep:cs.Pairwise tQ) (hs:gq l) (hk:∀ e∈l,mj e∧bF e=e) (hne:l≠[]) (hc:l.length≤99) (hz:∀ c∈cs,(j9 c).length≤512) :
 mG False (fA l cs) ⟨nm,dP l,fJ l,l.length,bZ 0 cs⟩ l cs:=by
 have hk1:∀ e∈l,mj e:=fun e he=>(hk e he).1
 obtain ⟨h1,h2,h3,h4⟩:=sr hf hn hk1 hne (by omega)
 refine ⟨hf,hn,hsep,hne,hs,hk,rfl,.inl (HR hf hn hk1 hne (by omega)),h1,hc,hz,fun A c B e=>.inl ?_⟩
 have hp:=si (cy A) (j9 c) (cy B++(aF (iP (dP l) (fJ l) l.length (bZ 0 cs))++aF (bL (cy cs).length 8)))
 have e1:fA l cs=cy A++j9 c++(cy B++(aF (iP (dP l) (fJ l) l.length (bZ 0 cs))++aF (bL (cy cs).length 8))):=by
  unfold fA
  have:cy cs=cy A++j9 c++cy B:=by rw [e,yq];simp [cy]
  conv=>lhs;rw [this]
  simp only [List.append_assoc]
  rw [this];simp only [List.append_assoc]
 rw [e1,hp]
 have hcl:∀ x∈c,x∈l:=fun x hx=>by rw [← hf,e];simp only [List.flatten_append,List.flatten_cons,List.mem_append];exact .inr (.inl hx)
 have hcc:c.length≤l.length:=by rw [← hf,e];simp only [List.flatten_append,List.flatten_cons,List.length_append];omega
 have:=ml (b:=fz c) (by have:=lu (c:=c) fun x hx=>hk1 x (hcl x hx);omega) []
 rwa [List.append_nil] at this
end
theorem jC {α:Type} [DecidableEq α]:∀ {a b:List α},a.Nodup→(∀ x∈a,x∈b)→a.length≤b.length
 | [],_,_,_=>Nat.zero_le _
 | x::a,b,hn,hs=>by
  obtain ⟨h1,h2⟩:=List.nodup_cons.1 hn
  have hx:=hs x List.mem_cons_self
  have:=jC (b:=b.erase x) h2 fun y hy=>by
   refine (List.mem_erase_of_ne (fun e=>h1 (by rw [← e];exact hy))).2 (hs y (List.mem_cons_of_mem _ hy))
  rw [List.length_erase_of_mem hx] at this
  have hp:=List.length_pos_of_mem hx
  simp only [List.length_cons];omega
theorem yA {l:List aB} (h:gq l):l.Nodup:=h.imp fun {a b} hh e=>by rw [e,j3] at hh;cases hh
def nJ (k:Bs) (l:List aB):List aB:=l.filter fun e=>decide (e.key=k)
theorem B2 {ms:List Nat} {bt:Bool} {l:List aB} (hl:gq l) (k:Bs):(nJ k (dB ms bt l)).length≤ms.length:=by
 have h1:(nJ k (dB ms bt l)).Nodup:=(yA (kV hl)).sublist List.filter_sublist
 have h2:=jC (b:=ms.filterMap (fN l k)) h1 fun e he=>by
  obtain ⟨he1,he2⟩:=List.mem_filter.1 he
  simp at he2
  have h3:=(pR.1 (xP he1)).2
  unfold seen at h3
  obtain ⟨m,hm,h4⟩:=List.any_eq_true.1 h3
  rw [he2] at h4
  exact List.mem_filterMap.2 ⟨m,hm,by simpa using h4⟩
 exact Nat.le_trans h2 (List.length_filterMap_le _ _)
theorem q6 (ms:List Nat) (bt:Bool) (l:List aB):(dB ms bt l).length≤l.length:=(ga ms bt l).length_le
theorem yB {σ:Type} (g:σ→aB→σ):∀ (l:List aB) (s:σ),nZ (fun s e=>(g s e,true)) l s=l.foldl g s
 | [],_=>rfl
 | e::l,s=>by rw [nZ,if_pos rfl,List.foldl_cons];exact yB g l _
theorem B3:∀ (n:Nat) (l:List aB),(js n l).length≤l.length
 | 0,_=>Nat.le_refl _
 | n+1,l=>by
  unfold js
  split
  ·split
   ·have:=B3 n l.dropLast
    rw [List.length_dropLast] at this;omega
   ·exact Nat.le_refl _
  ·exact Nat.le_refl _
theorem EG (ms:List Nat) (bt:Bool) (s:Kp) (e:aB):(kU ms bt s e).out.length+(kU ms bt s e).same.length≤s.out.length+s.same.length+1:=by
 have hd:∀ s:Kp,(gw bt s).out.length+(gw bt s).same.length≤s.out.length+s.same.length:=by
  intro s
  unfold gw
  have:=B3 s.same.length s.same
  simp only [List.length_append,List.length_nil]
  split<;>omega
 have h1:=hd s
 unfold kU
 by_cases hf:gG s e=true
 ·simp only [hf,if_true]
  split
  ·simp only [List.length_append,List.length_singleton];omega
  ·omega
 ·simp only [hf,Bool.false_eq_true,if_false]
  split
  ·simp only [List.length_append,List.length_singleton];omega
  ·omega
theorem yC {C:Prop} {D:ae} {s:St} {nx:Nx} {bt:Bool} {R:List aB} (hd:D.Ok) (hR:gq R) (hn:EB C (file D) s.mem nx R) (hl:R.length≤1073741824) (hs:s.snaps.length≤8) :
 ∃ x D',sZ s D nx bt=some (x,D')∧cK D D'∧((∃ e,x=.error e∧qZ C D e)∨x=.ok (dB (aN s) bt R)):=by
 obtain ⟨s',o,D',j,h1,h2,h3,h4,h5⟩:=so (M:=s.mem) (body:=BH (aN s) bt) (g:=fun s' e=>(kU (aN s) bt s' e,true)) (Sz:=fun k (s:Kp)=>s.out.length+s.same.length≤k) (N:=1073741824)
  (fun k s' e hk hs=>⟨by unfold BH;rw [if_pos (by rw [bI];omega)],by have:=EG (aN s) bt s' e;dsimp only;omega⟩) R iq 0 nx D I1 hd hR hn (by rw [bI];omega) (by omega) (by simp [I1])
 unfold sZ
 rw [if_neg (by omega),h1]
 rcases h5 with ⟨e,rfl,h5⟩|⟨rfl,rfl⟩
 ·dsimp only
  rw [if_pos (by rw [bI];omega)]
  exact ⟨_,_,rfl,h2,.inl ⟨e,rfl,h5⟩⟩
 ·dsimp only
  rw [if_pos (by rw [bI];omega)]
  refine ⟨_,_,rfl,h2,.inr ?_⟩
  rw [yB,Mv hR]
end
section
open Go.Proofs.YtecibefflhomdaaGreatDoor.Pure
def um (C:Prop) (D:ae) (e:cx):Prop:=qZ C D e∨(e.2=9∧D.room<1099511627776)
theorem um.before {C:Prop} {D D':ae} {e:cx} (h:de D D') (k:um C D' e):um C D e:=by
 rcases k with k|k
 ·exact .inl (k.before h)
 ·exact .inr ⟨k.1,by rw [← h.room];exact k.2⟩
theorem um.of {C:Prop} {D:ae} {e:cx} (h:qX D e):um C D e:=.inl (.inl h)
theorem um.mono {C C':Prop} {D:ae} {e:cx} (hc:C→C') (h:um C D e):um C' D e:=h.imp (fun h=>h.imp id fun h=>⟨hc h.1,h.2⟩) id
theorem fq {a b:Nat} (h:dZ a=dZ b) (ha:a≤9223372036854775808) (hb:b≤9223372036854775808):a=b:=by
 unfold dZ at h
 exact FX (by omega) (by omega) (List.append_cancel_left h)
theorem oA {a b:Nat} (h:cj a=cj b) (ha:a≤9223372036854775808) (hb:b≤9223372036854775808):a=b:=by
 unfold cj at h
 exact FX (by omega) (by omega) (List.append_cancel_left h)
theorem jO (a b:Nat):dZ a≠cj b:=by unfold dZ cj;intro h;simp at h
theorem jb (a:Nat):dZ a≠aU:=by unfold dZ aU;intro h;simp at h
theorem lK (a:Nat):dZ a≠bj:=by unfold dZ bj;intro h;simp at h
theorem eO (a:Nat):cj a≠aU:=by unfold cj aU;intro h;simp at h
theorem jP (a:Nat):cj a≠bj:=by unfold cj bj;intro h;simp at h
theorem jc:bj≠aU:=by decide
theorem KQ (a:Nat):cj a≠[]:=by unfold cj;simp
theorem OZ {l c:List aB} {cs:List (List aB)} (hk:∀ e∈l,mj e) (hK:∀ k,(nJ k l).length≤5) (hf:cs.flatten=l) (hc:c∈cs) (h:QJ c):(aF (fz c)).length≤512:=by
 obtain ⟨a,b,rfl,h1,h2⟩:=h
 have hsub:(a++b).Sublist l:=by rw [← hf];exact List.sublist_flatten_of_mem hc
 have hb:=lu (c:=b) fun e he=>hk e (hsub.subset (List.mem_append_right _ he))
 have h5:b.length≤5:=by
  cases b with
  | nil=>simp
  | cons e r=>
   have h3:nJ e.key (e::r)=e::r:=List.filter_eq_self.2 fun x hx=>by simpa using h2 x hx e List.mem_cons_self
   have h4:=(((List.sublist_append_right a (e::r)).trans hsub).filter fun x=>decide (x.key=e.key)).length_le
   have h6:=hK e.key
   unfold nJ at h3 h6
   rw [h3] at h4
   omega
 rw [bW,HJ,List.length_append]
 omega
theorem EH {D:ae} {name:Bs} {l:List aB} (hd:D.Ok) (hfree:file D name=none) (hm:D.moves.length≤1099511627776) (hs:gq l) (hk:∀ e∈l,mj e) (hn:l.length≤99) (hK:∀ k,(nJ k l).length≤5) (hne:l≠[])
 (hroom:D.used+130*l.length≤1099511627776) :
 ∃ x D',om D name l=some (x,D')∧de D D'∧(∀ m,m≠name→file D' m=file D m)∧D'.moves.length≤D.moves.length+1∧D'.used≤D.used+130*l.length ∧
  ((∃ e,x=.error e∧um False D e)∨∃ T f cs,x=.ok T∧T.name=name∧file D' name=some f∧mG False f T (l.map bF) cs):=by
 obtain ⟨cs,hf,hcn,hsep,hsz,ht⟩:=MS hs hk (by omega) hne
 obtain ⟨hl1,hl2,hl3,hl4⟩:=sr hf hcn hk hne (by omega)
 unfold om
 rw [ht]
 dsimp only
 rw [if_pos (by rw [bI];exact hm)]
 cases hc:gA D name with
 | some e=>
  obtain ⟨h1,h2⟩:=qb hd hc
  rw [h1]
  have s1:=cK.tick hd
  refine ⟨_,_,rfl,s1.later,fun m _=>s1.file m,by rw [s1.moves];omega,by rw [s1.used];omega,.inl ⟨e,rfl,?_⟩⟩
  rcases h2 with h2|⟨_,h2⟩
  ·exact .of h2
  ·exact absurd hfree h2
 | none=>
  obtain ⟨_,c2,c3,c4,c5⟩:=sd hd hc
  dsimp only
  have hcf:file (cR D name) name=some []:=by rw [c2,if_pos rfl]
  cases ha:dW (cR D name) name (fA l cs) with
  | some e=>
   obtain ⟨h1,h2⟩:=qc c4.ok ha hcf
   rw [h1]
   have s1:=cK.tick c4.ok
   refine ⟨_,_,rfl,c4.trans s1.later,fun m hm=>by rw [s1.file,c2,if_neg hm],by rw [s1.moves];omega,by rw [s1.used];omega,.inl ⟨e,rfl,?_⟩⟩
   rcases h2 with h2|⟨h2,h3⟩
   ·exact .of (h2.before c4)
   ·refine .inr ⟨h2,?_⟩
    rw [← c4.room];omega
  | none=>
   obtain ⟨b,a1,a2,a3,a4,a5,a6⟩:=se c4.ok ha
   rw [hcf] at a1;cases a1
   rw [List.nil_append] at a2
   dsimp only
   have haf:file (cg (cR D name) name (fA l cs)) name=some (fA l cs):=by rw [a2,if_pos rfl]
   obtain ⟨y1,y2,y3,y4⟩:=qY a4.ok name
   have hfile:∀ m,m≠name→file (gz (cg (cR D name) name (fA l cs)) name) m=file D m:=fun m hm=>by rw [y1,a2,if_neg hm,c2,if_neg hm]
   have hmv:(gz (cg (cR D name) name (fA l cs)) name).moves.length≤D.moves.length+1:=by rw [y4,a5,c5];omega
   have hus:(gz (cg (cR D name) name (fA l cs)) name).used≤D.used+130*l.length:=by omega
   rcases fe haf with he|⟨e,he,ht⟩
   ·rw [he]
    refine ⟨_,_,rfl,(c4.trans a4).trans y3,hfile,hmv,hus,.inr ⟨_,fA l cs,cs.map (·.map bF),rfl,rfl,by rw [y1];exact haf,?_⟩⟩
    have:=KP (nm:=name) (l:=l.map bF) (cs:=cs.map (·.map bF)) (by rw [← hf,List.map_flatten]) (fun c hc=>by
     obtain ⟨c',hc',rfl⟩:=List.mem_map.1 hc
     simp [hcn c' hc']) (List.pairwise_map.2 (hsep.imp fun {a b} hab x hx y hy=>by
     obtain ⟨x',hx',rfl⟩:=List.mem_map.1 hx
     obtain ⟨y',hy',rfl⟩:=List.mem_map.1 hy
     rw [kD,kD];exact hab x' hx' y' hy')) (BZ hs) (fun e he=>by
     obtain ⟨e',he',rfl⟩:=List.mem_map.1 he
     exact ⟨(hk e' he').norm,DG e'⟩) (by simp [hne]) (by simpa using hn) (fun c hc=>by
     obtain ⟨c',hc',rfl⟩:=List.mem_map.1 hc
     unfold j9
     rw [wb]
     exact OZ hk hK hf hc' (hsz c' hc'))
    rw [ED,oz,wc,nh,List.length_map] at this
    exact this
   ·rw [he]
    exact ⟨_,_,rfl,(c4.trans a4).trans y3,hfile,hmv,hus,.inl ⟨e,rfl,.of (ht.before (c4.trans a4))⟩⟩
theorem B4 (l:List aB):∀ (f n:Nat),n≤l.length→l.length≤n+f→n≤nL l f n∧nL l f n≤l.length∧(nL l f n<l.length→(l.getD (nL l f n) default).key≠(l.getD (nL l f n-1) default).key) ∧
 ∀ j,n≤j→j<nL l f n→(l.getD j default).key=(l.getD (j-1) default).key
 | 0,n,h,hf=>⟨Nat.le_refl _,h,fun hh=>by simp only [nL] at hh;omega,fun j h1 h2=>by simp only [nL] at h2;omega⟩
 | f+1,n,h,hf=>by
  unfold nL
  by_cases hc:n<l.length∧(l.getD n default).key=(l.getD (n-1) default).key
  ·rw [if_pos hc]
   obtain ⟨h1,h2,h3,h4⟩:=B4 l f (n+1) (by omega) (by omega)
   refine ⟨by omega,h2,h3,fun j k1 k2=>?_⟩
   by_cases hj:j=n
   ·rw [hj];exact hc.2
   ·exact h4 j (by omega) k2
  ·rw [if_neg hc]
   exact ⟨Nat.le_refl _,h,fun hh hk=>hc ⟨hh,hk⟩,fun j k1 k2=>by omega⟩
theorem KR {l:List aB} {K:Nat} (hne:l≠[]) (hs:gq l) (hK:∀ k,(nJ k l).length≤K) (hK1:1≤K):1≤lV l∧lV l≤l.length∧lV l≤94+K∧tQ (l.take (lV l)) (l.drop (lV l)):=by
 have hlen:0<l.length:=List.length_pos_iff.2 hne
 obtain ⟨h1,h2,h3,h4⟩:=B4 l l.length (min l.length 95) (Nat.min_le_left _ _) (by omega)
 unfold lV
 generalize nL l l.length (min l.length 95)=m at h1 h2 h3 h4
 refine ⟨by omega,h2,?_,?_⟩
 ·by_cases hm:m≤95
  ·omega
  ·have hn:min l.length 95=95:=by omega
   rw [hn] at h4
   have hkey:∀ j,94≤j→j<m→(l.getD j default).key=(l.getD 94 default).key:=by
    intro j
    induction j with
    | zero=>intro h;omega
    | succ j ih=>
     intro k1 k2
     by_cases hj:j+1=94
     ·rw [hj]
     ·rw [h4 (j+1) (by omega) k2];exact ih (by omega) (by omega)
   have hsub:((l.drop 94).take (m-94)).Sublist (nJ (l.getD 94 default).key l):=by
    have e:nJ (l.getD 94 default).key ((l.drop 94).take (m-94))=(l.drop 94).take (m-94):=by
     refine List.filter_eq_self.2 fun x hx=>?_
     obtain ⟨i,hi,rfl⟩:=List.mem_iff_getElem.1 hx
     simp only [List.length_take,List.length_drop] at hi
     have:=hkey (94+i) (by omega) (by omega)
     simp only [List.getElem_take,List.getElem_drop]
     rw [List.getD_eq_getElem?_getD,List.getElem?_eq_getElem (by omega)] at this
     simpa using this
    rw [← e]
    exact ((List.take_sublist _ _).trans (List.drop_sublist _ _)).filter _
   have hl:=hsub.length_le
   have hk:=hK (l.getD 94 default).key
   simp only [List.length_take,List.length_drop] at hl
   omega
 ·intro x hx y hy
  have hml:m<l.length:=by
   by_cases h:m<l.length
   ·exact h
   ·rw [List.drop_of_length_le (by omega)] at hy;cases hy
  have hk:=h3 hml
  rw [List.getD_eq_getElem?_getD,List.getD_eq_getElem?_getD,List.getElem?_eq_getElem hml,List.getElem?_eq_getElem (by omega)] at hk
  simp only [Option.getD_some] at hk
  have hget:=List.pairwise_iff_getElem.1 hs
  obtain ⟨i,hi,rfl⟩:=List.mem_iff_getElem.1 hx
  obtain ⟨j,hj,rfl⟩:=List.mem_iff_getElem.1 hy
  simp only [List.length_take] at hi
  simp only [List.length_drop] at hj
  simp only [List.getElem_take,List.getElem_drop]
  have hz:aR (l[m-1]'(by omega)).key l[m].key=true:=by
   rcases bT.1 (hget (m-1) m (by omega) hml (by omega)) with h|h
   ·exact h
   ·exact absurd h.1.symm hk
  have hx1:aR (l[m-1]'(by omega)).key (l[i]'(by omega)).key=false:=by
   by_cases hi2:i=m-1
   ·subst hi2;exact aP _
   ·rcases bT.1 (hget i (m-1) (by omega) (by omega) (by omega)) with h|h
    ·exact cC h
    ·rw [h.1];exact aP _
  have hy1:aR (l[m+j]'(by omega)).key l[m].key=false:=by
   by_cases hj2:j=0
   ·subst hj2;exact aP _
   ·rcases bT.1 (hget m (m+j) (by omega) (by omega) (by omega)) with h|h
    ·exact cC h
    ·rw [h.1];exact aP _
  exact pQ (lQ hx1 hz) hy1
structure HS (K num num2:Nat) (l:List aB) (ls:List (bN×List aB)) (fl0 fl:Bs→Option Bs):Prop where
 ents:(ls.map (·.2)).flatten=l.map bF
 cnt:num≤num2∧num2≤num+l.length
 names:∀ p∈ls,∃ k,num<k∧k≤num2∧p.1.name=dZ k
 nodup:(ls.map (·.1.name)).Nodup
 on:∀ p∈ls,∃ f cs,fl p.1.name=some f∧mG False f p.1 p.2 cs
 sep:ls.Pairwise fun a b=>tQ a.2 b.2
 few:∀ p∈ls,p.2.length≤94+K
 known:∀ m,fl m≠none→fl0 m≠none∨m∈ls.map (·.1.name)
theorem su {K:Nat} (hK1:1≤K) (hK2:K≤5):∀ (f num:Nat) (D:ae) (l:List aB) (acc:List bN),D.Ok→gq l→(∀ e∈l,mj e)→(∀ k,(nJ k l).length≤K)→l.length≤f→num+l.length≤4611686018427387904→acc.length+l.length≤1099511627776 →
 D.moves.length+l.length≤1099511627776→D.used+130*l.length≤1099511627776→(∀ k,num<k→k≤num+l.length→file D (dZ k)=none) →
 ∃ x D',lf f num D l acc=some (x,D')∧de D D'∧D'.moves.length≤D.moves.length+l.length∧D'.used≤D.used+130*l.length∧(∀ m,(∀ k,num<k→k≤num+l.length→m≠dZ k)→file D' m=file D m) ∧
  ((∃ e,x=.error e∧um False D e)∨∃ num' ls,x=.ok (acc++ls.map (·.1),num')∧HS K num num' l ls (file D) (file D'))
 | f,num,D,[],acc,hd,hs,hk,hK,hf,hn,ha,hm,hu,hfr=>by
  refine ⟨.ok (acc,num),D,by cases f<;>rfl,de.refl hd,by simp,by simp,fun m _=>rfl,.inr ⟨num,[],by simp,?_⟩⟩
  refine ⟨rfl,by simp,by simp,by simp,by simp,by simp,by simp,fun m hm=>.inl hm⟩
 | 0,num,D,e::r,acc,hd,hs,hk,hK,hf,hn,ha,hm,hu,hfr=>by simp at hf
 | f+1,num,D,e::r,acc,hd,hs,hk,hK,hf,hn,ha,hm,hu,hfr=>by
  unfold lf
  generalize hl:e::r=l at *
  have hne:l≠[]:=by rw [← hl];simp
  have hlen:0<l.length:=List.length_pos_iff.2 hne
  rw [if_pos ⟨by omega,by rw [bI];omega,by rw [bI];omega⟩]
  obtain ⟨c1,c2,c3,c4⟩:=KR hne hs hK hK1
  generalize lV l=n at c1 c2 c3 c4
  have hsp:=List.take_append_drop n l
  have htl:(l.take n).length=n:=by rw [List.length_take];omega
  have hdl:(l.drop n).length=l.length-n:=List.length_drop
  have hs2:gq (l.take n)∧gq (l.drop n):=by
   rw [← hsp] at hs;exact ⟨(List.pairwise_append.1 hs).1,(List.pairwise_append.1 hs).2.1⟩
  obtain ⟨x,D1,w1,w2,w3,w4,w5,w6⟩:=EH (name:=dZ (num+1)) hd (hfr (num+1) (by omega) (by omega)) (by omega) hs2.1 (fun e he=>hk e (List.mem_of_mem_take he)) (by omega) (fun k=>Nat.le_trans (((List.take_sublist n l).filter _).length_le) (Nat.le_trans (hK k) hK2)) (by intro h;rw [h] at htl;simp at htl;omega) (by rw [htl];omega)
  rw [htl] at w5
  rw [w1]
  rcases w6 with ⟨e',rfl,w6⟩|⟨T,fb,cs,rfl,w6,w7,w8⟩
  ·refine ⟨_,_,rfl,w2,by omega,by omega,fun m hm=>w3 m (hm (num+1) (by omega) (by omega)),.inl ⟨e',rfl,w6⟩⟩
  ·dsimp only
   have hfr1:∀ k,num+1<k→k≤num+1+(l.drop n).length→file D1 (dZ k)=none:=fun k hk hk2=>by
    rw [w3 _ (fun h=>by have:=fq h (by omega) (by omega);omega)];exact hfr k (by omega) (by omega)
   obtain ⟨x,D2,s1,s2,s3,s4,s5,s6⟩:=su hK1 hK2 f (num+1) D1 (l.drop n) (acc++[T]) w2.ok hs2.2 (fun e he=>hk e (List.mem_of_mem_drop he))
    (fun k=>Nat.le_trans (((List.drop_sublist n l).filter _).length_le) (hK k)) (by omega) (by omega) (by simp only [List.length_append,List.length_singleton];omega) (by omega) (by omega) hfr1
   refine ⟨x,D2,s1,w2.trans s2,by omega,by omega,fun m hm=>?_,?_⟩
   ·rw [s5 m fun k hk hk2=>hm k (by omega) (by omega),w3 m (hm (num+1) (by omega) (by omega))]
   ·rcases s6 with ⟨e',rfl,s6⟩|⟨num',ls,rfl,s6⟩
    ·exact .inl ⟨e',rfl,s6.before w2⟩
    ·refine .inr ⟨num',(T,(l.take n).map bF)::ls,by simp,?_⟩
     have hT2:file D2 T.name=some fb:=by
      rw [w6,s5 _ fun k hk hk2 h=>by have:=fq h (by omega) (by omega);omega];exact w7
     refine ⟨?_,⟨by have:=s6.cnt;omega,by have:=s6.cnt;omega⟩,?_,?_,?_,?_,?_,?_⟩
     ·rw [List.map_cons,List.flatten_cons,s6.ents,← List.map_append,hsp]
     ·intro p hp
      rcases List.mem_cons.1 hp with rfl|hp
      ·exact ⟨num+1,by omega,by have:=s6.cnt;omega,w6⟩
      ·obtain ⟨k,k1,k2,k3⟩:=s6.names p hp
       exact ⟨k,by omega,k2,k3⟩
     ·rw [List.map_cons,List.nodup_cons]
      refine ⟨fun h=>?_,s6.nodup⟩
      obtain ⟨p,hp,hpe⟩:=List.mem_map.1 h
      obtain ⟨k,k1,k2,k3⟩:=s6.names p hp
      have hcnt:=s6.cnt
      have:=fq (k3.symm.trans (hpe.trans w6)) (by omega) (by omega)
      omega
     ·intro p hp
      rcases List.mem_cons.1 hp with rfl|hp
      ·exact ⟨fb,cs,hT2,w8⟩
      ·exact s6.on p hp
     ·rw [List.pairwise_cons]
      refine ⟨fun p hp a ha b hb=>?_,s6.sep⟩
      obtain ⟨a',ha',rfl⟩:=List.mem_map.1 ha
      have hb2:b∈(ls.map (·.2)).flatten:=List.mem_flatten.2 ⟨p.2,List.mem_map.2 ⟨p,hp,rfl⟩,hb⟩
      rw [s6.ents] at hb2
      obtain ⟨b',hb',rfl⟩:=List.mem_map.1 hb2
      rw [kD,kD];exact c4 a' ha' b' hb'
     ·intro p hp
      rcases List.mem_cons.1 hp with rfl|hp
      ·simp only [List.length_map,htl];exact c3
      ·exact s6.few p hp
     ·intro m hm
      rcases s6.known m hm with h|h
      ·by_cases hmn:m=dZ (num+1)
       ·exact .inr (by rw [List.map_cons,w6,hmn];exact List.mem_cons_self)
       ·exact .inl (by rw [← w3 m hmn];exact h)
      ·exact .inr (List.mem_cons_of_mem _ h)
end
end Go.Proofs.YtecibefflhomdaaGreatDoor
