/-
  Part 30: PLAIN a table's file, written whole, is that table again; PLAIN entries written as tables, of new names.
-/
import Derived.Test.YtecibefflhomdaaGreatDoorW29
set_option maxHeartbeats 8000000
set_option maxRecDepth 100000
set_option linter.all false
namespace Go.Proofs.YtecibefflhomdaaGreatDoor
open Go
section
open Go.Proofs.YtecibefflhomdaaGreatDoor.Pure
theorem q9 (e:ay):cU (bD e)=cU e:=by
 unfold cU
 rw [j7,oh,wa]
 cases hd:e.del with
 | true=>simp
 | false=>simp [bD,hd]
theorem uO (c:List ay):dZ (c.map bD)=dZ c:=by
 unfold dZ;rw [List.map_map];congr 1;exact List.map_congr_left fun e _=>q9 e
theorem wT (c:List ay):gD (c.map bD)=gD c:=by unfold gD;rw [uO]
theorem nT (l:List ay):dD (l.map bD)=dD l:=by cases l<;>simp [dD]
theorem uP (l:List ay):fN (l.map bD)=fN l:=by
 unfold fN;rw [List.getLast?_map];cases l.getLast?<;>simp
theorem Cu (cs:List (List ay)):bC (cs.map (·.map bD))=bC cs:=by
 unfold bC;rw [List.map_map];congr 1;exact List.map_congr_left fun c _=>wT c
theorem mP:∀ (cs:List (List ay)) (a:Nat),bN a (cs.map (·.map bD))=bN a cs
 | [],_=>rfl
 | c::cs,a=>by simp only [List.map_cons,bN,nT,wT,mP cs]
theorem Cv (l:List ay) (cs:List (List ay)):eR (l.map bD) (cs.map (·.map bD))=eR l cs:=by
 unfold eR;rw [Cu,nT,uP,mP,List.length_map]
theorem wU (a b:ay):less (bD a) (bD b)=less a b:=by unfold less;simp
theorem Al {l:List ay} (h:fJ l):fJ (l.map bD):=by
 exact List.pairwise_map.2 (h.imp fun {a b} hh=>by rw [wU];exact hh)
def vN (b:Bs×Nat×Nat):Bs:=bB b.1++bz b.2.1 4++bz b.2.2 4
theorem Am (b:Bs×Nat×Nat):(vN b).length=b.1.length+9:=by simp [vN]
theorem uQ (a b:Bs) (n:Nat) (bs:List (Bs×Nat×Nat)):hU a b n bs=bB a++(bB b++(bz n 4++(bs.map vN).flatten)):=by
 unfold hU vN;rw [List.append_assoc,List.append_assoc]
theorem uR:∀ (bs:List (Bs×Nat×Nat)) (f:Nat),(∀ b∈bs,b.1.length≤255∧b.2.1<4294967296∧b.2.2<4294967296)→bs.length≤f→fp f ⟨(bs.map vN).flatten,false⟩=(bs,false)
 | [],0,_,_=>rfl
 | [],f+1,_,_=>by unfold fp;simp
 | b::bs,0,_,h=>by simp at h
 | b::bs,f+1,hb,h=>by
  obtain ⟨h1,h2,h3⟩:=hb b List.mem_cons_self
  have e:((b::bs).map vN).flatten=bB b.1++(bz b.2.1 4++(bz b.2.2 4++(bs.map vN).flatten)):=by simp [vN]
  unfold fp
  rw [e,if_pos ⟨by intro hh;simp [bB] at hh,rfl⟩,kA h1]
  dsimp only
  rw [gU (by omega)]
  dsimp only
  rw [gU (by omega),uR bs f (fun x hx=>hb x (List.mem_cons_of_mem _ hx)) (by simp at h;omega)]
theorem Cw (bs:List (Bs×Nat×Nat)):bs.length≤(bs.map vN).flatten.length:=by
 induction bs with
 | nil=>simp
 | cons b r ih=>
  have:=Am b
  simp only [List.map_cons,List.flatten_cons,List.length_append,List.length_cons];omega
theorem An {bs:List (Bs×Nat×Nat)} (h:∀ b∈bs,b.1.length≤8):(bs.map vN).flatten.length≤17*bs.length:=by
 induction bs with
 | nil=>simp
 | cons b r ih=>
  have h1:=Am b
  have h2:=h b List.mem_cons_self
  have h3:=ih fun x hx=>h x (List.mem_cons_of_mem _ hx)
  simp only [List.map_cons,List.flatten_cons,List.length_append,List.length_cons];omega
section
variable {l:List ay} {cs:List (List ay)} {nm:Bs}
theorem uS (hk:∀ e∈l,lx e):(dD l).length≤8:=by
 cases l with
 | nil=>simp [dD]
 | cons e r=>exact (hk e List.mem_cons_self).key
theorem wV (hk:∀ e∈l,lx e):(fN l).length≤8:=by
 unfold fN
 cases h:l.getLast? with
 | none=>simp
 | some e=>exact (hk e (List.mem_of_getLast? h)).key
theorem oy (hf:cs.flatten=l) (hn:∀ c∈cs,c≠[]) (hk:∀ e∈l,lx e) (hne:l≠[]) (hc:l.length≤10000) :
 (eR l cs).length≤130*l.length∧l.length≤(eR l cs).length∧(bC cs).length≤46*l.length∧(hU (dD l) (fN l) l.length (bN 0 cs)).length≤22+17*l.length:=by
 have hk2:∀ e∈cs.flatten,lx e:=by rw [hf];exact hk
 have h1:=l8 hn hk2
 have h2:=kh hn
 rw [hf] at h1 h2
 have h3:=uS hk
 have h4:=wV hk
 have h5:=An (bs:=bN 0 cs) fun b hb=>(jE (a:=0) (A:=460000) hn hk2 (by rw [Nat.zero_add];omega) b hb).1
 rw [gN] at h5
 have h6:0<l.length:=List.length_pos_iff.2 hne
 have h8:(hU (dD l) (fN l) l.length (bN 0 cs)).length≤22+17*l.length:=by
  rw [uQ];simp only [List.length_append,dm,aD];omega
 have h9:l.length≤(bC cs).length:=by
  have key:∀ cs:List (List ay),cs.flatten.length≤(bC cs).length:=by
   intro cs
   induction cs with
   | nil=>simp [bC]
   | cons c r ih=>
    have:=Ag c
    simp only [bC,List.map_cons,List.flatten_cons,List.length_append,gD,bH] at ih ⊢
    omega
  rw [← hf];exact key cs
 refine ⟨?_,?_,h1,h8⟩
 ·unfold eR;simp only [List.length_append,bH,aD];omega
 ·unfold eR;simp only [List.length_append,bH,aD];omega
theorem Fy (hf:cs.flatten=l) (hn:∀ c∈cs,c≠[]) (hk:∀ e∈l,lx e) (hne:l≠[]) (hc:l.length≤10000) :
 wE nm (hU (dD l) (fN l) l.length (bN 0 cs))=.ok ⟨nm,dD l,fN l,l.length,bN 0 cs⟩:=by
 have hk2:∀ e∈cs.flatten,lx e:=by rw [hf];exact hk
 have h1:=l8 hn hk2
 rw [hf] at h1
 have h5:=jE (a:=0) (A:=460000) hn hk2 (by rw [Nat.zero_add];omega)
 have h3:=uS hk
 have h4:=wV hk
 unfold wE
 dsimp only
 have hlen:=Cw (bN 0 cs)
 have hcs:cs≠[]:=by rintro rfl;exact hne (by rw [← hf];rfl)
 have hb0:bN 0 cs≠[]:=by intro h;have:=congrArg List.length h;rw [gN] at this;exact hcs (List.eq_nil_of_length_eq_zero (by simpa using this))
 have hp:=uR (bN 0 cs) (hU (dD l) (fN l) l.length (bN 0 cs)).length (fun b hb=>by obtain ⟨k1,k2,k3⟩:=h5 b hb;omega) (by
  rw [uQ];simp only [List.length_append];omega)
 generalize hL:(hU (dD l) (fN l) l.length (bN 0 cs)).length=L at hp
 rw [uQ,kA (by omega)]
 dsimp only
 rw [kA (by omega)]
 dsimp only
 rw [gU (by omega)]
 dsimp only
 rw [hp]
 simp [hb0]
theorem Fz (hf:cs.flatten=l) (hn:∀ c∈cs,c≠[]) (hk:∀ e∈l,lx e) (hne:l≠[]) (hc:l.length≤10000) :
 l9 nm (eR l cs)=some (.ok ⟨nm,dD l,fN l,l.length,bN 0 cs⟩):=by
 obtain ⟨h1,h2,h3,h4⟩:=oy hf hn hk hne hc
 have hb:(bC cs).length<4294967296:=by omega
 have hbe:iL (bz (bC cs).length 8)=(bC cs).length:=by rw [tI];exact Nat.mod_eq_of_lt (by omega)
 generalize hLL:hU (dD l) (fN l) l.length (bN 0 cs)=L at h4
 have hlen:(eR l cs).length=(bC cs).length+(12+L.length)+20:=by
  unfold eR;rw [hLL];simp only [List.length_append,bH,aD]
 have e1:dV (eR l cs) (((eR l cs).length:Int)-20) 20=az (bz (bC cs).length 8):=by
  have:=gZ (bC cs++az L) (az (bz (bC cs).length 8)) []
  rw [List.append_nil] at this
  rw [show ((eR l cs).length:Int)-20=((bC cs++az L).length:Int) by rw [hlen];simp only [List.length_append,bH];omega,
   show (20:Int)=((az (bz (bC cs).length 8)).length:Int) by simp]
  unfold eR;rw [hLL];exact this
 have e2:dV (eR l cs) ((bC cs).length:Int) (((eR l cs).length:Int)-20-((bC cs).length:Int))=az L:=by
  have:=gZ (bC cs) (az L) (az (bz (bC cs).length 8))
  rw [show ((eR l cs).length:Int)-20-((bC cs).length:Int)=((az L).length:Int) by rw [hlen];simp only [bH];omega]
  unfold eR;rw [hLL];exact this
 have o1:bu (az (bz (bC cs).length 8))=some (bz (bC cs).length 8,[]):=by
  have:=jq (b:=bz (bC cs).length 8) (by simp) []
  rwa [List.append_nil] at this
 have o2:bu (az L)=some (L,[]):=by
  have:=jq (b:=L) (by omega) []
  rwa [List.append_nil] at this
 unfold l9
 rw [e1,o1]
 dsimp only
 rw [if_neg (by simp),hbe,if_neg (by omega),e2,o2]
 dsimp only
 rw [if_pos (by rw [bG,bH];omega),← hLL,Fy hf hn hk hne hc]
theorem Im (hf:cs.flatten=l) (hn:∀ c∈cs,c≠[]) (hsep:cs.Pairwise vM) (hs:fJ l) (hk:∀ e∈l,lx e∧bD e=e) (hne:l≠[]) (hc:l.length≤99) (hz:∀ c∈cs,(gD c).length≤512) :
 kX False (eR l cs) ⟨nm,dD l,fN l,l.length,bN 0 cs⟩ l cs:=by
 have hk1:∀ e∈l,lx e:=fun e he=>(hk e he).1
 obtain ⟨h1,h2,h3,h4⟩:=oy hf hn hk1 hne (by omega)
 refine ⟨hf,hn,hsep,hne,hs,hk,rfl,.inr rfl,.inl (Fz hf hn hk1 hne (by omega)),h1,hc,hz,fun A c B e=>.inl ?_⟩
 have hp:=gZ (bC A) (gD c) (bC B++(az (hU (dD l) (fN l) l.length (bN 0 cs))++az (bz (bC cs).length 8)))
 have e1:eR l cs=bC A++gD c++(bC B++(az (hU (dD l) (fN l) l.length (bN 0 cs))++az (bz (bC cs).length 8))):=by
  unfold eR
  have:bC cs=bC A++gD c++bC B:=by rw [e,rC];simp [bC]
  conv=>lhs;rw [this]
  simp only [List.append_assoc]
  rw [this];simp only [List.append_assoc]
 rw [e1,hp]
 have hcl:∀ x∈c,x∈l:=fun x hx=>by rw [← hf,e];simp only [List.flatten_append,List.flatten_cons,List.mem_append];exact .inr (.inl hx)
 have hcc:c.length≤l.length:=by rw [← hf,e];simp only [List.flatten_append,List.flatten_cons,List.length_append];omega
 have:=jq (b:=dZ c) (by have:=jR (c:=c) fun x hx=>hk1 x (hcl x hx);omega) []
 rwa [List.append_nil] at this
end
theorem me {α:Type} [DecidableEq α]:∀ {a b:List α},a.Nodup→(∀ x∈a,x∈b)→a.length≤b.length
 | [],_,_,_=>Nat.zero_le _
 | x::a,b,hn,hs=>by
  obtain ⟨h1,h2⟩:=List.nodup_cons.1 hn
  have hx:=hs x List.mem_cons_self
  have:=me (b:=b.erase x) h2 fun y hy=>by
   refine (List.mem_erase_of_ne (fun e=>h1 (by rw [← e];exact hy))).2 (hs y (List.mem_cons_of_mem _ hy))
  rw [List.length_erase_of_mem hx] at this
  have hp:=List.length_pos_of_mem hx
  simp only [List.length_cons];omega
theorem FA {l:List ay} (h:fJ l):l.Nodup:=h.imp fun {a b} hh e=>by rw [e,jK] at hh;cases hh
def m7 (k:Bs) (l:List ay):List ay:=l.filter fun e=>decide (e.key=k)
theorem Ao {ms:List Nat} {bt:Bool} {l:List ay} (hl:fJ l) (k:Bs):(m7 k (ey ms bt l)).length≤ms.length:=by
 have h1:(m7 k (ey ms bt l)).Nodup:=(FA (lN hl)).sublist List.filter_sublist
 have h2:=me (b:=ms.filterMap (fS l k)) h1 fun e he=>by
  obtain ⟨he1,he2⟩:=List.mem_filter.1 he
  simp at he2
  have h3:=(tK.1 (EU he1)).2
  unfold seen at h3
  obtain ⟨m,hm,h4⟩:=List.any_eq_true.1 h3
  rw [he2] at h4
  exact List.mem_filterMap.2 ⟨m,hm,by simpa using h4⟩
 exact Nat.le_trans h2 (List.length_filterMap_le _ _)
theorem qE (ms:List Nat) (bt:Bool) (l:List ay):(ey ms bt l).length≤l.length:=(fK ms bt l).length_le
theorem wW {σ:Type} (g:σ→ay→σ):∀ (l:List ay) (s:σ),nA (fun s e=>(g s e,true)) l s=l.foldl g s
 | [],_=>rfl
 | e::l,s=>by rw [nA,if_pos rfl,List.foldl_cons];exact wW g l _
theorem Ap:∀ (n:Nat) (l:List ay),(iR n l).length≤l.length
 | 0,_=>Nat.le_refl _
 | n+1,l=>by
  unfold iR
  split
  ·split
   ·have:=Ap n l.dropLast
    rw [List.length_dropLast] at this;omega
   ·exact Nat.le_refl _
  ·exact Nat.le_refl _
theorem Cx (ms:List Nat) (bt:Bool) (s:Kp) (e:ay):(kC ms bt s e).out.length+(kC ms bt s e).same.length≤s.out.length+s.same.length+1:=by
 have hd:∀ s:Kp,(fV bt s).out.length+(fV bt s).same.length≤s.out.length+s.same.length:=by
  intro s
  unfold fV
  have:=Ap s.same.length s.same
  simp only [List.length_append,List.length_nil]
  split<;>omega
 have h1:=hd s
 unfold kC
 by_cases hf:gg s e=true
 ·simp only [hf,if_true]
  split
  ·simp only [List.length_append,List.length_singleton];omega
  ·omega
 ·simp only [hf,Bool.false_eq_true,if_false]
  split
  ·simp only [List.length_append,List.length_singleton];omega
  ·omega
theorem wX {C:Prop} {D:ad} {s:St} {nx:Nx} {bt:Bool} {R:List ay} (hd:D.Ok) (hR:fJ R) (hn:Ct C (file D) s.mem nx R) (hl:R.length≤1073741824) (hs:s.snaps.length≤8) :
 ∃ x D',si s D nx bt=some (x,D')∧cH D D'∧((∃ e,x=.error e∧qC C D e)∨x=.ok (ey (aP s) bt R)):=by
 obtain ⟨s',o,D',j,h1,h2,h3,h4,h5⟩:=rH (M:=s.mem) (body:=zU (aP s) bt) (g:=fun s' e=>(kC (aP s) bt s' e,true)) (Sz:=fun k (s:Kp)=>s.out.length+s.same.length≤k) (N:=1073741824)
  (fun k s' e hk hs=>⟨by unfold zU;rw [if_pos (by rw [bG];omega)],by have:=Cx (aP s) bt s' e;dsimp only;omega⟩) R gL 0 nx D Gq hd hR hn (by rw [bG];omega) (by omega) (by simp [Gq])
 unfold si
 rw [if_neg (by omega),h1]
 rcases h5 with ⟨e,rfl,h5⟩|⟨rfl,rfl⟩
 ·dsimp only
  rw [if_pos (by rw [bG];omega)]
  exact ⟨_,_,rfl,h2,.inl ⟨e,rfl,h5⟩⟩
 ·dsimp only
  rw [if_pos (by rw [bG];omega)]
  refine ⟨_,_,rfl,h2,.inr ?_⟩
  rw [wW,JP hR]
end
section
open Go.Proofs.YtecibefflhomdaaGreatDoor.Pure
def sy (C:Prop) (D:ad) (e:cy):Prop:=qC C D e∨(e.2=9∧D.room<1099511627776)
theorem sy.before {C:Prop} {D D':ad} {e:cy} (h:cQ D D') (k:sy C D' e):sy C D e:=by
 rcases k with k|k
 ·exact .inl (k.before h)
 ·exact .inr ⟨k.1,by rw [← h.room];exact k.2⟩
theorem sy.of {C:Prop} {D:ad} {e:cy} (h:pj D e):sy C D e:=.inl (.inl h)
theorem sy.mono {C C':Prop} {D:ad} {e:cy} (hc:C→C') (h:sy C D e):sy C' D e:=h.imp (fun h=>h.imp id fun h=>⟨hc h.1,h.2⟩) id
theorem eY {a b:Nat} (h:dQ a=dQ b) (ha:a≤9223372036854775808) (hb:b≤9223372036854775808):a=b:=by
 unfold dQ at h
 exact Dq (by omega) (by omega) (List.append_cancel_left h)
theorem nU {a b:Nat} (h:bU a=bU b) (ha:a≤9223372036854775808) (hb:b≤9223372036854775808):a=b:=by
 unfold bU at h
 exact Dq (by omega) (by omega) (List.append_cancel_left h)
theorem ju (a b:Nat):dQ a≠bU b:=by unfold dQ bU;intro h;simp at h
theorem iA (a:Nat):dQ a≠aN:=by unfold dQ aN;intro h;simp at h
theorem lj (a:Nat):dQ a≠bp:=by unfold dQ bp;intro h;simp at h
theorem eI (a:Nat):bU a≠aN:=by unfold bU aN;intro h;simp at h
theorem jv (a:Nat):bU a≠bp:=by unfold bU bp;intro h;simp at h
theorem iB:bp≠aN:=by decide
theorem Io (a:Nat):bU a≠[]:=by unfold bU;simp
theorem L7 {l c:List ay} {cs:List (List ay)} (hk:∀ e∈l,lx e) (hK:∀ k,(m7 k l).length≤5) (hf:cs.flatten=l) (hc:c∈cs) (h:NP c):(az (dZ c)).length≤512:=by
 obtain ⟨a,b,rfl,h1,h2⟩:=h
 have hsub:(a++b).Sublist l:=by rw [← hf];exact List.sublist_flatten_of_mem hc
 have hb:=jR (c:=b) fun e he=>hk e (hsub.subset (List.mem_append_right _ he))
 have h5:b.length≤5:=by
  cases b with
  | nil=>simp
  | cons e r=>
   have h3:m7 e.key (e::r)=e::r:=List.filter_eq_self.2 fun x hx=>by simpa using h2 x hx e List.mem_cons_self
   have h4:=(((List.sublist_append_right a (e::r)).trans hsub).filter fun x=>decide (x.key=e.key)).length_le
   have h6:=hK e.key
   unfold m7 at h3 h6
   rw [h3] at h4
   omega
 rw [bH,Fq,List.length_append]
 omega
theorem Cy {D:ad} {name:Bs} {l:List ay} (hd:D.Ok) (hfree:file D name=none) (hm:D.moves.length≤1099511627776) (hs:fJ l) (hk:∀ e∈l,lx e) (hn:l.length≤99) (hK:∀ k,(m7 k l).length≤5) (hne:l≠[])
 (hroom:D.used+130*l.length≤1099511627776) :
 ∃ x D',nL D name l=some (x,D')∧cQ D D'∧(∀ m,m≠name→file D' m=file D m)∧D'.moves.length≤D.moves.length+1∧D'.used≤D.used+130*l.length ∧
  ((∃ e,x=.error e∧sy False D e)∨∃ T f cs,x=.ok T∧T.name=name∧file D' name=some f∧kX False f T (l.map bD) cs):=by
 obtain ⟨cs,hf,hcn,hsep,hsz,ht⟩:=Ke hs hk (by omega) hne
 obtain ⟨hl1,hl2,hl3,hl4⟩:=oy hf hcn hk hne (by omega)
 unfold nL
 rw [ht]
 dsimp only
 rw [if_pos (by rw [bG];exact hm)]
 cases hc:fY D name with
 | some e=>
  obtain ⟨h1,h2⟩:=po hd hc
  rw [h1]
  have s1:=cH.tick hd
  refine ⟨_,_,rfl,s1.later,fun m _=>s1.file m,by rw [s1.moves];omega,by rw [s1.used];omega,.inl ⟨e,rfl,?_⟩⟩
  rcases h2 with h2|⟨_,h2⟩
  ·exact .of h2
  ·exact absurd hfree h2
 | none=>
  obtain ⟨_,c2,c3,c4,c5⟩:=rz hd hc
  dsimp only
  have hcf:file (cN D name) name=some []:=by rw [c2,if_pos rfl]
  cases ha:dK (cN D name) name (eR l cs) with
  | some e=>
   obtain ⟨h1,h2⟩:=pq c4.ok ha hcf
   rw [h1]
   have s1:=cH.tick c4.ok
   refine ⟨_,_,rfl,c4.trans s1.later,fun m hm=>by rw [s1.file,c2,if_neg hm],by rw [s1.moves];omega,by rw [s1.used];omega,.inl ⟨e,rfl,?_⟩⟩
   rcases h2 with h2|⟨h2,h3⟩
   ·exact .of (h2.before c4)
   ·refine .inr ⟨h2,?_⟩
    rw [← c4.room];omega
  | none=>
   obtain ⟨b,a1,a2,a3,a4,a5,a6⟩:=rB c4.ok ha
   rw [hcf] at a1;cases a1
   rw [List.nil_append] at a2
   dsimp only
   have haf:file (bR (cN D name) name (eR l cs)) name=some (eR l cs):=by rw [a2,if_pos rfl]
   obtain ⟨y1,y2,y3,y4⟩:=qB a4.ok name
   have hfile:∀ m,m≠name→file (dU (bR (cN D name) name (eR l cs)) name) m=file D m:=fun m hm=>by rw [y1,a2,if_neg hm,c2,if_neg hm]
   have hmv:(dU (bR (cN D name) name (eR l cs)) name).moves.length≤D.moves.length+1:=by rw [y4,a5,c5];omega
   have hus:(dU (bR (cN D name) name (eR l cs)) name).used≤D.used+130*l.length:=by omega
   rcases eT haf with he|⟨e,he,ht⟩
   ·rw [he]
    refine ⟨_,_,rfl,(c4.trans a4).trans y3,hfile,hmv,hus,.inr ⟨_,eR l cs,cs.map (·.map bD),rfl,rfl,by rw [y1];exact haf,?_⟩⟩
    have:=Im (nm:=name) (l:=l.map bD) (cs:=cs.map (·.map bD)) (by rw [← hf,List.map_flatten]) (fun c hc=>by
     obtain ⟨c',hc',rfl⟩:=List.mem_map.1 hc
     simp [hcn c' hc']) (List.pairwise_map.2 (hsep.imp fun {a b} hab x hx y hy=>by
     obtain ⟨x',hx',rfl⟩:=List.mem_map.1 hx
     obtain ⟨y',hy',rfl⟩:=List.mem_map.1 hy
     rw [j7,j7];exact hab x' hx' y' hy')) (Al hs) (fun e he=>by
     obtain ⟨e',he',rfl⟩:=List.mem_map.1 he
     exact ⟨(hk e' he').norm,BF e'⟩) (by simp [hne]) (by simpa using hn) (fun c hc=>by
     obtain ⟨c',hc',rfl⟩:=List.mem_map.1 hc
     unfold gD
     rw [uO]
     exact L7 hk hK hf hc' (hsz c' hc'))
    rw [Cv,nT,uP,mP,List.length_map] at this
    exact this
   ·rw [he]
    exact ⟨_,_,rfl,(c4.trans a4).trans y3,hfile,hmv,hus,.inl ⟨e,rfl,.of (ht.before (c4.trans a4))⟩⟩
theorem Aq (l:List ay):∀ (f n:Nat),n≤l.length→l.length≤n+f→n≤m9 l f n∧m9 l f n≤l.length∧(m9 l f n<l.length→(l.getD (m9 l f n) default).key≠(l.getD (m9 l f n-1) default).key) ∧
 ∀ j,n≤j→j<m9 l f n→(l.getD j default).key=(l.getD (j-1) default).key
 | 0,n,h,hf=>⟨Nat.le_refl _,h,fun hh=>by simp only [m9] at hh;omega,fun j h1 h2=>by simp only [m9] at h2;omega⟩
 | f+1,n,h,hf=>by
  unfold m9
  by_cases hc:n<l.length∧(l.getD n default).key=(l.getD (n-1) default).key
  ·rw [if_pos hc]
   obtain ⟨h1,h2,h3,h4⟩:=Aq l f (n+1) (by omega) (by omega)
   refine ⟨by omega,h2,h3,fun j k1 k2=>?_⟩
   by_cases hj:j=n
   ·rw [hj];exact hc.2
   ·exact h4 j (by omega) k2
  ·rw [if_neg hc]
   exact ⟨Nat.le_refl _,h,fun hh hk=>hc ⟨hh,hk⟩,fun j k1 k2=>by omega⟩
theorem Ip {l:List ay} {K:Nat} (hne:l≠[]) (hs:fJ l) (hK:∀ k,(m7 k l).length≤K) (hK1:1≤K):1≤lB l∧lB l≤l.length∧lB l≤94+K∧vM (l.take (lB l)) (l.drop (lB l)):=by
 have hlen:0<l.length:=List.length_pos_iff.2 hne
 obtain ⟨h1,h2,h3,h4⟩:=Aq l l.length (min l.length 95) (Nat.min_le_left _ _) (by omega)
 unfold lB
 generalize m9 l l.length (min l.length 95)=m at h1 h2 h3 h4
 refine ⟨by omega,h2,?_,?_⟩
 ·by_cases hm:m≤95
  ·omega
  ·have hn:min l.length 95=95:=by omega
   rw [hn] at h4
   have hkey:∀ j,94≤j→j<m→(l.getD j default).key=(l.getD 94 default).key:=by
    intro j
    induction j with
    | zero=>intro h;omega
    | succ j ih=>
     intro k1 k2
     by_cases hj:j+1=94
     ·rw [hj]
     ·rw [h4 (j+1) (by omega) k2];exact ih (by omega) (by omega)
   have hsub:((l.drop 94).take (m-94)).Sublist (m7 (l.getD 94 default).key l):=by
    have e:m7 (l.getD 94 default).key ((l.drop 94).take (m-94))=(l.drop 94).take (m-94):=by
     refine List.filter_eq_self.2 fun x hx=>?_
     obtain ⟨i,hi,rfl⟩:=List.mem_iff_getElem.1 hx
     simp only [List.length_take,List.length_drop] at hi
     have:=hkey (94+i) (by omega) (by omega)
     simp only [List.getElem_take,List.getElem_drop]
     rw [List.getD_eq_getElem?_getD,List.getElem?_eq_getElem (by omega)] at this
     simpa using this
    rw [← e]
    exact ((List.take_sublist _ _).trans (List.drop_sublist _ _)).filter _
   have hl:=hsub.length_le
   have hk:=hK (l.getD 94 default).key
   simp only [List.length_take,List.length_drop] at hl
   omega
 ·intro x hx y hy
  have hml:m<l.length:=by
   by_cases h:m<l.length
   ·exact h
   ·rw [List.drop_of_length_le (by omega)] at hy;cases hy
  have hk:=h3 hml
  rw [List.getD_eq_getElem?_getD,List.getD_eq_getElem?_getD,List.getElem?_eq_getElem hml,List.getElem?_eq_getElem (by omega)] at hk
  simp only [Option.getD_some] at hk
  have hget:=List.pairwise_iff_getElem.1 hs
  obtain ⟨i,hi,rfl⟩:=List.mem_iff_getElem.1 hx
  obtain ⟨j,hj,rfl⟩:=List.mem_iff_getElem.1 hy
  simp only [List.length_take] at hi
  simp only [List.length_drop] at hj
  simp only [List.getElem_take,List.getElem_drop]
  have hz:aQ (l[m-1]'(by omega)).key l[m].key=true:=by
   rcases bK.1 (hget (m-1) m (by omega) hml (by omega)) with h|h
   ·exact h
   ·exact absurd h.1.symm hk
  have hx1:aQ (l[m-1]'(by omega)).key (l[i]'(by omega)).key=false:=by
   by_cases hi2:i=m-1
   ·subst hi2;exact aM _
   ·rcases bK.1 (hget i (m-1) (by omega) (by omega) (by omega)) with h|h
    ·exact cw h
    ·rw [h.1];exact aM _
  have hy1:aQ (l[m+j]'(by omega)).key l[m].key=false:=by
   by_cases hj2:j=0
   ·subst hj2;exact aM _
   ·rcases bK.1 (hget m (m+j) (by omega) (by omega) (by omega)) with h|h
    ·exact cw h
    ·rw [h.1];exact aM _
  exact o5 (oI hx1 hz) hy1
structure FB (K num num2:Nat) (l:List ay) (ls:List (cO×List ay)) (fl0 fl:Bs→Option Bs):Prop where
 ents:(ls.map (·.2)).flatten=l.map bD
 cnt:num≤num2∧num2≤num+l.length
 names:∀ p∈ls,∃ k,num<k∧k≤num2∧p.1.name=dQ k
 nodup:(ls.map (·.1.name)).Nodup
 on:∀ p∈ls,∃ f cs,fl p.1.name=some f∧kX False f p.1 p.2 cs
 sep:ls.Pairwise fun a b=>vM a.2 b.2
 few:∀ p∈ls,p.2.length≤94+K
 known:∀ m,fl m≠none→fl0 m≠none∨m∈ls.map (·.1.name)
theorem rI {K:Nat} (hK1:1≤K) (hK2:K≤5):∀ (f num:Nat) (D:ad) (l:List ay) (acc:List cO),D.Ok→fJ l→(∀ e∈l,lx e)→(∀ k,(m7 k l).length≤K)→l.length≤f→num+l.length≤4611686018427387904→acc.length+l.length≤1099511627776 →
 D.moves.length+l.length≤1099511627776→D.used+130*l.length≤1099511627776→(∀ k,num<k→k≤num+l.length→file D (dQ k)=none) →
 ∃ x D',kG f num D l acc=some (x,D')∧cQ D D'∧D'.moves.length≤D.moves.length+l.length∧D'.used≤D.used+130*l.length∧(∀ m,(∀ k,num<k→k≤num+l.length→m≠dQ k)→file D' m=file D m) ∧
  ((∃ e,x=.error e∧sy False D e)∨∃ num' ls,x=.ok (acc++ls.map (·.1),num')∧FB K num num' l ls (file D) (file D'))
 | f,num,D,[],acc,hd,hs,hk,hK,hf,hn,ha,hm,hu,hfr=>by
  refine ⟨.ok (acc,num),D,by cases f<;>rfl,cQ.refl hd,by simp,by simp,fun m _=>rfl,.inr ⟨num,[],by simp,?_⟩⟩
  refine ⟨rfl,by simp,by simp,by simp,by simp,by simp,by simp,fun m hm=>.inl hm⟩
 | 0,num,D,e::r,acc,hd,hs,hk,hK,hf,hn,ha,hm,hu,hfr=>by simp at hf
 | f+1,num,D,e::r,acc,hd,hs,hk,hK,hf,hn,ha,hm,hu,hfr=>by
  unfold kG
  generalize hl:e::r=l at *
  have hne:l≠[]:=by rw [← hl];simp
  have hlen:0<l.length:=List.length_pos_iff.2 hne
  rw [if_pos ⟨by omega,by rw [bG];omega,by rw [bG];omega⟩]
  obtain ⟨c1,c2,c3,c4⟩:=Ip hne hs hK hK1
  generalize lB l=n at c1 c2 c3 c4
  have hsp:=List.take_append_drop n l
  have htl:(l.take n).length=n:=by rw [List.length_take];omega
  have hdl:(l.drop n).length=l.length-n:=List.length_drop
  have hs2:fJ (l.take n)∧fJ (l.drop n):=by
   rw [← hsp] at hs;exact ⟨(List.pairwise_append.1 hs).1,(List.pairwise_append.1 hs).2.1⟩
  obtain ⟨x,D1,w1,w2,w3,w4,w5,w6⟩:=Cy (name:=dQ (num+1)) hd (hfr (num+1) (by omega) (by omega)) (by omega) hs2.1 (fun e he=>hk e (List.mem_of_mem_take he)) (by omega) (fun k=>Nat.le_trans (((List.take_sublist n l).filter _).length_le) (Nat.le_trans (hK k) hK2)) (by intro h;rw [h] at htl;simp at htl;omega) (by rw [htl];omega)
  rw [htl] at w5
  rw [w1]
  rcases w6 with ⟨e',rfl,w6⟩|⟨T,fb,cs,rfl,w6,w7,w8⟩
  ·refine ⟨_,_,rfl,w2,by omega,by omega,fun m hm=>w3 m (hm (num+1) (by omega) (by omega)),.inl ⟨e',rfl,w6⟩⟩
  ·dsimp only
   have hfr1:∀ k,num+1<k→k≤num+1+(l.drop n).length→file D1 (dQ k)=none:=fun k hk hk2=>by
    rw [w3 _ (fun h=>by have:=eY h (by omega) (by omega);omega)];exact hfr k (by omega) (by omega)
   obtain ⟨x,D2,s1,s2,s3,s4,s5,s6⟩:=rI hK1 hK2 f (num+1) D1 (l.drop n) (acc++[T]) w2.ok hs2.2 (fun e he=>hk e (List.mem_of_mem_drop he))
    (fun k=>Nat.le_trans (((List.drop_sublist n l).filter _).length_le) (hK k)) (by omega) (by omega) (by simp only [List.length_append,List.length_singleton];omega) (by omega) (by omega) hfr1
   refine ⟨x,D2,s1,w2.trans s2,by omega,by omega,fun m hm=>?_,?_⟩
   ·rw [s5 m fun k hk hk2=>hm k (by omega) (by omega),w3 m (hm (num+1) (by omega) (by omega))]
   ·rcases s6 with ⟨e',rfl,s6⟩|⟨num',ls,rfl,s6⟩
    ·exact .inl ⟨e',rfl,s6.before w2⟩
    ·refine .inr ⟨num',(T,(l.take n).map bD)::ls,by simp,?_⟩
     have hT2:file D2 T.name=some fb:=by
      rw [w6,s5 _ fun k hk hk2 h=>by have:=eY h (by omega) (by omega);omega];exact w7
     refine ⟨?_,⟨by have:=s6.cnt;omega,by have:=s6.cnt;omega⟩,?_,?_,?_,?_,?_,?_⟩
     ·rw [List.map_cons,List.flatten_cons,s6.ents,← List.map_append,hsp]
     ·intro p hp
      rcases List.mem_cons.1 hp with rfl|hp
      ·exact ⟨num+1,by omega,by have:=s6.cnt;omega,w6⟩
      ·obtain ⟨k,k1,k2,k3⟩:=s6.names p hp
       exact ⟨k,by omega,k2,k3⟩
     ·rw [List.map_cons,List.nodup_cons]
      refine ⟨fun h=>?_,s6.nodup⟩
      obtain ⟨p,hp,hpe⟩:=List.mem_map.1 h
      obtain ⟨k,k1,k2,k3⟩:=s6.names p hp
      have hcnt:=s6.cnt
      have:=eY (k3.symm.trans (hpe.trans w6)) (by omega) (by omega)
      omega
     ·intro p hp
      rcases List.mem_cons.1 hp with rfl|hp
      ·exact ⟨fb,cs,hT2,w8⟩
      ·exact s6.on p hp
     ·rw [List.pairwise_cons]
      refine ⟨fun p hp a ha b hb=>?_,s6.sep⟩
      obtain ⟨a',ha',rfl⟩:=List.mem_map.1 ha
      have hb2:b∈(ls.map (·.2)).flatten:=List.mem_flatten.2 ⟨p.2,List.mem_map.2 ⟨p,hp,rfl⟩,hb⟩
      rw [s6.ents] at hb2
      obtain ⟨b',hb',rfl⟩:=List.mem_map.1 hb2
      rw [j7,j7];exact c4 a' ha' b' hb'
     ·intro p hp
      rcases List.mem_cons.1 hp with rfl|hp
      ·simp only [List.length_map,htl];exact c3
      ·exact s6.few p hp
     ·intro m hm
      rcases s6.known m hm with h|h
      ·by_cases hmn:m=dQ (num+1)
       ·exact .inr (by rw [List.map_cons,w6,hmn];exact List.mem_cons_self)
       ·exact .inl (by rw [← w3 m hmn];exact h)
      ·exact .inr (List.mem_cons_of_mem _ h)
end
end Go.Proofs.YtecibefflhomdaaGreatDoor
