/-
  Part 30: PLAIN a table's file, written whole, is that table again; PLAIN entries written as tables, of new names.
-/
import Derived.Test.YtecibefflhomdaaGreatDoorY29
set_option maxHeartbeats 8000000
set_option maxRecDepth 100000
set_option linter.all false
namespace Go.Proofs.YtecibefflhomdaaGreatDoor
open Go
section
open Go.Proofs.YtecibefflhomdaaGreatDoor.Pure
theorem rh (e:az):cY (bG e)=cY e:=by
 unfold cY
 rw [kn,ot,wm]
 cases hd:e.del with
 | true=>simp
 | false=>simp [bG,hd]
theorem uQ (c:List az):e9 (c.map bG)=e9 c:=by
 unfold e9;rw [List.map_map];congr 1;exact List.map_congr_left fun e _=>rh e
theorem xe (c:List az):jr (c.map bG)=jr c:=by unfold jr;rw [uQ]
theorem nX (l:List az):dZ (l.map bG)=dZ l:=by cases l<;>simp [dZ]
theorem uR (l:List az):gl (l.map bG)=gl l:=by
 unfold gl;rw [List.getLast?_map];cases l.getLast?<;>simp
theorem CJ (cs:List (List az)):cg (cs.map (·.map bG))=cg cs:=by
 unfold cg;rw [List.map_map];congr 1;exact List.map_congr_left fun c _=>xe c
theorem mR:∀ (cs:List (List az)) (a:Nat),bW a (cs.map (·.map bG))=bW a cs
 | [],_=>rfl
 | c::cs,a=>by simp only [List.map_cons,bW,nX,xe,mR cs]
theorem CK (l:List az) (cs:List (List az)):eU (l.map bG) (cs.map (·.map bG))=eU l cs:=by
 unfold eU;rw [CJ,nX,uR,mR,List.length_map]
theorem xf (a b:az):less (bG a) (bG b)=less a b:=by unfold less;simp
theorem Aw {l:List az} (h:fS l):fS (l.map bG):=by
 exact List.pairwise_map.2 (h.imp fun {a b} hh=>by rw [xf];exact hh)
def vP (b:Bs×Nat×Nat):Bs:=bE b.1++bM b.2.1 4++bM b.2.2 4
theorem Ax (b:Bs×Nat×Nat):(vP b).length=b.1.length+9:=by simp [vP]
theorem uS (a b:Bs) (n:Nat) (bs:List (Bs×Nat×Nat)):ir a b n bs=bE a++(bE b++(bM n 4++(bs.map vP).flatten)):=by
 unfold ir vP;rw [List.append_assoc,List.append_assoc]
theorem uT:∀ (bs:List (Bs×Nat×Nat)) (f:Nat),(∀ b∈bs,b.1.length≤255∧b.2.1<4294967296∧b.2.2<4294967296)→bs.length≤f→fB f ⟨(bs.map vP).flatten,false⟩=(bs,false)
 | [],0,_,_=>rfl
 | [],f+1,_,_=>by unfold fB;simp
 | b::bs,0,_,h=>by simp at h
 | b::bs,f+1,hb,h=>by
  obtain ⟨h1,h2,h3⟩:=hb b List.mem_cons_self
  have e:((b::bs).map vP).flatten=bE b.1++(bM b.2.1 4++(bM b.2.2 4++(bs.map vP).flatten)):=by simp [vP]
  unfold fB
  rw [e,if_pos ⟨by intro hh;simp [bE] at hh,rfl⟩,kI h1]
  dsimp only
  rw [iv (by omega)]
  dsimp only
  rw [iv (by omega),uT bs f (fun x hx=>hb x (List.mem_cons_of_mem _ hx)) (by simp at h;omega)]
theorem CL (bs:List (Bs×Nat×Nat)):bs.length≤(bs.map vP).flatten.length:=by
 induction bs with
 | nil=>simp
 | cons b r ih=>
  have:=Ax b
  simp only [List.map_cons,List.flatten_cons,List.length_append,List.length_cons];omega
theorem Ay {bs:List (Bs×Nat×Nat)} (h:∀ b∈bs,b.1.length≤8):(bs.map vP).flatten.length≤17*bs.length:=by
 induction bs with
 | nil=>simp
 | cons b r ih=>
  have h1:=Ax b
  have h2:=h b List.mem_cons_self
  have h3:=ih fun x hx=>h x (List.mem_cons_of_mem _ hx)
  simp only [List.map_cons,List.flatten_cons,List.length_append,List.length_cons];omega
section
variable {l:List az} {cs:List (List az)} {nm:Bs}
theorem uU (hk:∀ e∈l,lQ e):(dZ l).length≤8:=by
 cases l with
 | nil=>simp [dZ]
 | cons e r=>exact (hk e List.mem_cons_self).key
theorem xg (hk:∀ e∈l,lQ e):(gl l).length≤8:=by
 unfold gl
 cases h:l.getLast? with
 | none=>simp
 | some e=>exact (hk e (List.mem_of_getLast? h)).key
theorem rK (hf:cs.flatten=l) (hn:∀ c∈cs,c≠[]) (hk:∀ e∈l,lQ e) (hne:l≠[]) (hc:l.length≤10000) :
 (eU l cs).length≤130*l.length∧l.length≤(eU l cs).length∧(cg cs).length≤46*l.length∧(ir (dZ l) (gl l) l.length (bW 0 cs)).length≤22+17*l.length:=by
 have hk2:∀ e∈cs.flatten,lQ e:=by rw [hf];exact hk
 have h1:=mh hn hk2
 have h2:=kt hn
 rw [hf] at h1 h2
 have h3:=uU hk
 have h4:=xg hk
 have h5:=Ay (bs:=bW 0 cs) fun b hb=>(jL (a:=0) (A:=460000) hn hk2 (by rw [Nat.zero_add];omega) b hb).1
 rw [gS] at h5
 have h6:0<l.length:=List.length_pos_iff.2 hne
 have h8:(ir (dZ l) (gl l) l.length (bW 0 cs)).length≤22+17*l.length:=by
  rw [uS];simp only [List.length_append,dg,aU];omega
 have h9:l.length≤(cg cs).length:=by
  have key:∀ cs:List (List az),cs.flatten.length≤(cg cs).length:=by
   intro cs
   induction cs with
   | nil=>simp [cg]
   | cons c r ih=>
    have:=Aq c
    simp only [cg,List.map_cons,List.flatten_cons,List.length_append,jr,bL] at ih ⊢
    omega
  rw [← hf];exact key cs
 refine ⟨?_,?_,h1,h8⟩
 ·unfold eU;simp only [List.length_append,bL,aU];omega
 ·unfold eU;simp only [List.length_append,bL,aU];omega
theorem F3 (hf:cs.flatten=l) (hn:∀ c∈cs,c≠[]) (hk:∀ e∈l,lQ e) (hne:l≠[]) (hc:l.length≤10000) :
 Ab nm (ir (dZ l) (gl l) l.length (bW 0 cs))=.ok ⟨nm,dZ l,gl l,l.length,bW 0 cs⟩:=by
 have hk2:∀ e∈cs.flatten,lQ e:=by rw [hf];exact hk
 have h1:=mh hn hk2
 rw [hf] at h1
 have h5:=jL (a:=0) (A:=460000) hn hk2 (by rw [Nat.zero_add];omega)
 have h3:=uU hk
 have h4:=xg hk
 unfold Ab
 dsimp only
 have hlen:=CL (bW 0 cs)
 have hcs:cs≠[]:=by rintro rfl;exact hne (by rw [← hf];rfl)
 have hb0:bW 0 cs≠[]:=by intro h;have:=congrArg List.length h;rw [gS] at this;exact hcs (List.eq_nil_of_length_eq_zero (by simpa using this))
 have hp:=uT (bW 0 cs) (ir (dZ l) (gl l) l.length (bW 0 cs)).length (fun b hb=>by obtain ⟨k1,k2,k3⟩:=h5 b hb;omega) (by
  rw [uS];simp only [List.length_append];omega)
 generalize hL:(ir (dZ l) (gl l) l.length (bW 0 cs)).length=L at hp
 rw [uS,kI (by omega)]
 dsimp only
 rw [kI (by omega)]
 dsimp only
 rw [iv (by omega)]
 dsimp only
 rw [hp]
 simp [hb0]
theorem F4 (hf:cs.flatten=l) (hn:∀ c∈cs,c≠[]) (hk:∀ e∈l,lQ e) (hne:l≠[]) (hc:l.length≤10000) :
 uP nm (eU l cs)=some (.ok ⟨nm,dZ l,gl l,l.length,bW 0 cs⟩):=by
 obtain ⟨h1,h2,h3,h4⟩:=rK hf hn hk hne hc
 have hb:(cg cs).length<4294967296:=by omega
 have hbe:j3 (bM (cg cs).length 8)=(cg cs).length:=by rw [tL];exact Nat.mod_eq_of_lt (by omega)
 generalize hLL:ir (dZ l) (gl l) l.length (bW 0 cs)=L at h4
 have hlen:(eU l cs).length=(cg cs).length+(12+L.length)+20:=by
  unfold eU;rw [hLL];simp only [List.length_append,bL,aU]
 have e1:fz (eU l cs) (((eU l cs).length:Int)-20) 20=aD (bM (cg cs).length 8):=by
  have:=rG (cg cs++aD L) (aD (bM (cg cs).length 8)) []
  rw [List.append_nil] at this
  rw [show ((eU l cs).length:Int)-20=((cg cs++aD L).length:Int) by rw [hlen];simp only [List.length_append,bL];omega,
   show (20:Int)=((aD (bM (cg cs).length 8)).length:Int) by simp]
  unfold eU;rw [hLL];exact this
 have e2:fz (eU l cs) ((cg cs).length:Int) (((eU l cs).length:Int)-20-((cg cs).length:Int))=aD L:=by
  have:=rG (cg cs) (aD L) (aD (bM (cg cs).length 8))
  rw [show ((eU l cs).length:Int)-20-((cg cs).length:Int)=((aD L).length:Int) by rw [hlen];simp only [bL];omega]
  unfold eU;rw [hLL];exact this
 have o1:bI (aD (bM (cg cs).length 8))=some (bM (cg cs).length 8,[]):=by
  have:=lR (b:=bM (cg cs).length 8) (by simp) []
  rwa [List.append_nil] at this
 have o2:bI (aD L)=some (L,[]):=by
  have:=lR (b:=L) (by omega) []
  rwa [List.append_nil] at this
 unfold uP
 rw [e1,o1]
 dsimp only
 rw [if_neg (by simp),hbe,if_neg (by omega),e2,o2]
 dsimp only
 rw [if_pos (by rw [bJ,bL];omega),← hLL,F3 hf hn hk hne hc]
theorem IJ (hf:cs.flatten=l) (hn:∀ c∈cs,c≠[]) (hsep:cs.Pairwise vO) (hs:fS l) (hk:∀ e∈l,lQ e∧bG e=e) (hne:l≠[]) (hc:l.length≤99) (hz:∀ c∈cs,(jr c).length≤512) :
 mi False (eU l cs) ⟨nm,dZ l,gl l,l.length,bW 0 cs⟩ l cs:=by
 have hk1:∀ e∈l,lQ e:=fun e he=>(hk e he).1
 obtain ⟨h1,h2,h3,h4⟩:=rK hf hn hk1 hne (by omega)
 refine ⟨hf,hn,hsep,hne,hs,hk,rfl,.inr rfl,.inl (F4 hf hn hk1 hne (by omega)),h1,hc,hz,fun A c B e=>.inl ?_⟩
 have hp:=rG (cg A) (jr c) (cg B++(aD (ir (dZ l) (gl l) l.length (bW 0 cs))++aD (bM (cg cs).length 8)))
 have e1:eU l cs=cg A++jr c++(cg B++(aD (ir (dZ l) (gl l) l.length (bW 0 cs))++aD (bM (cg cs).length 8))):=by
  unfold eU
  have:cg cs=cg A++jr c++cg B:=by rw [e,w9];simp [cg]
  conv=>lhs;rw [this]
  simp only [List.append_assoc]
  rw [this];simp only [List.append_assoc]
 rw [e1,hp]
 have hcl:∀ x∈c,x∈l:=fun x hx=>by rw [← hf,e];simp only [List.flatten_append,List.flatten_cons,List.mem_append];exact .inr (.inl hx)
 have hcc:c.length≤l.length:=by rw [← hf,e];simp only [List.flatten_append,List.flatten_cons,List.length_append];omega
 have:=lR (b:=e9 c) (by have:=kW (c:=c) fun x hx=>hk1 x (hcl x hx);omega) []
 rwa [List.append_nil] at this
end
theorem mj {α:Type} [DecidableEq α]:∀ {a b:List α},a.Nodup→(∀ x∈a,x∈b)→a.length≤b.length
 | [],_,_,_=>Nat.zero_le _
 | x::a,b,hn,hs=>by
  obtain ⟨h1,h2⟩:=List.nodup_cons.1 hn
  have hx:=hs x List.mem_cons_self
  have:=mj (b:=b.erase x) h2 fun y hy=>by
   refine (List.mem_erase_of_ne (fun e=>h1 (by rw [← e];exact hy))).2 (hs y (List.mem_cons_of_mem _ hy))
  rw [List.length_erase_of_mem hx] at this
  have hp:=List.length_pos_of_mem hx
  simp only [List.length_cons];omega
theorem F5 {l:List az} (h:fS l):l.Nodup:=h.imp fun {a b} hh e=>by rw [e,jR] at hh;cases hh
def nf (k:Bs) (l:List az):List az:=l.filter fun e=>decide (e.key=k)
theorem Az {ms:List Nat} {bt:Bool} {l:List az} (hl:fS l) (k:Bs):(nf k (dE ms bt l)).length≤ms.length:=by
 have h1:(nf k (dE ms bt l)).Nodup:=(F5 (lT hl)).sublist List.filter_sublist
 have h2:=mj (b:=ms.filterMap (gd l k)) h1 fun e he=>by
  obtain ⟨he1,he2⟩:=List.mem_filter.1 he
  simp at he2
  have h3:=(tN.1 (Fu he1)).2
  unfold seen at h3
  obtain ⟨m,hm,h4⟩:=List.any_eq_true.1 h3
  rw [he2] at h4
  exact List.mem_filterMap.2 ⟨m,hm,by simpa using h4⟩
 exact Nat.le_trans h2 (List.length_filterMap_le _ _)
theorem qH (ms:List Nat) (bt:Bool) (l:List az):(dE ms bt l).length≤l.length:=(fU ms bt l).length_le
theorem xh {σ:Type} (g:σ→az→σ):∀ (l:List az) (s:σ),nD (fun s e=>(g s e,true)) l s=l.foldl g s
 | [],_=>rfl
 | e::l,s=>by rw [nD,if_pos rfl,List.foldl_cons];exact xh g l _
theorem AA:∀ (n:Nat) (l:List az),(iX n l).length≤l.length
 | 0,_=>Nat.le_refl _
 | n+1,l=>by
  unfold iX
  split
  ·split
   ·have:=AA n l.dropLast
    rw [List.length_dropLast] at this;omega
   ·exact Nat.le_refl _
  ·exact Nat.le_refl _
theorem CM (ms:List Nat) (bt:Bool) (s:Kp) (e:az):(kK ms bt s e).out.length+(kK ms bt s e).same.length≤s.out.length+s.same.length+1:=by
 have hd:∀ s:Kp,(gk bt s).out.length+(gk bt s).same.length≤s.out.length+s.same.length:=by
  intro s
  unfold gk
  have:=AA s.same.length s.same
  simp only [List.length_append,List.length_nil]
  split<;>omega
 have h1:=hd s
 unfold kK
 by_cases hf:gr s e=true
 ·simp only [hf,if_true]
  split
  ·simp only [List.length_append,List.length_singleton];omega
  ·omega
 ·simp only [hf,Bool.false_eq_true,if_false]
  split
  ·simp only [List.length_append,List.length_singleton];omega
  ·omega
theorem xj {C:Prop} {D:ad} {s:St} {nx:Nx} {bt:Bool} {R:List az} (hd:D.Ok) (hR:fS R) (hn:CI C (file D) s.mem nx R) (hl:R.length≤1073741824) (hs:s.snaps.length≤8) :
 ∃ x D',sx s D nx bt=some (x,D')∧cO D D'∧((∃ e,x=.error e∧qX C D e)∨x=.ok (dE (aK s) bt R)):=by
 obtain ⟨s',o,D',j,h1,h2,h3,h4,h5⟩:=rJ (M:=s.mem) (body:=Ac (aK s) bt) (g:=fun s' e=>(kK (aK s) bt s' e,true)) (Sz:=fun k (s:Kp)=>s.out.length+s.same.length≤k) (N:=1073741824)
  (fun k s' e hk hs=>⟨by unfold Ac;rw [if_pos (by rw [bJ];omega)],by have:=CM (aK s) bt s' e;dsimp only;omega⟩) R gW 0 nx D GQ hd hR hn (by rw [bJ];omega) (by omega) (by simp [GQ])
 unfold sx
 rw [if_neg (by omega),h1]
 rcases h5 with ⟨e,rfl,h5⟩|⟨rfl,rfl⟩
 ·dsimp only
  rw [if_pos (by rw [bJ];omega)]
  exact ⟨_,_,rfl,h2,.inl ⟨e,rfl,h5⟩⟩
 ·dsimp only
  rw [if_pos (by rw [bJ];omega)]
  refine ⟨_,_,rfl,h2,.inr ?_⟩
  rw [xh,Kd hR]
end
section
open Go.Proofs.YtecibefflhomdaaGreatDoor.Pure
def sF (C:Prop) (D:ad) (e:cy):Prop:=qX C D e∨(e.2=9∧D.room<1099511627776)
theorem sF.before {C:Prop} {D D':ad} {e:cy} (h:cS D D') (k:sF C D' e):sF C D e:=by
 rcases k with k|k
 ·exact .inl (k.before h)
 ·exact .inr ⟨k.1,by rw [← h.room];exact k.2⟩
theorem sF.of {C:Prop} {D:ad} {e:cy} (h:qE D e):sF C D e:=.inl (.inl h)
theorem sF.mono {C C':Prop} {D:ad} {e:cy} (hc:C→C') (h:sF C D e):sF C' D e:=h.imp (fun h=>h.imp id fun h=>⟨hc h.1,h.2⟩) id
theorem fi {a b:Nat} (h:dp a=dp b) (ha:a≤9223372036854775808) (hb:b≤9223372036854775808):a=b:=by
 unfold dp at h
 exact DW (by omega) (by omega) (List.append_cancel_left h)
theorem nY {a b:Nat} (h:bR a=bR b) (ha:a≤9223372036854775808) (hb:b≤9223372036854775808):a=b:=by
 unfold bR at h
 exact DW (by omega) (by omega) (List.append_cancel_left h)
theorem jD (a b:Nat):dp a≠bR b:=by unfold dp bR;intro h;simp at h
theorem iG (a:Nat):dp a≠aP:=by unfold dp aP;intro h;simp at h
theorem lz (a:Nat):dp a≠aY:=by unfold dp aY;intro h;simp at h
theorem eN (a:Nat):bR a≠aP:=by unfold bR aP;intro h;simp at h
theorem jE (a:Nat):bR a≠aY:=by unfold bR aY;intro h;simp at h
theorem iH:aY≠aP:=by decide
theorem IK (a:Nat):bR a≠[]:=by unfold bR;simp
theorem ME {l c:List az} {cs:List (List az)} (hk:∀ e∈l,lQ e) (hK:∀ k,(nf k l).length≤5) (hf:cs.flatten=l) (hc:c∈cs) (h:Oq c):(aD (e9 c)).length≤512:=by
 obtain ⟨a,b,rfl,h1,h2⟩:=h
 have hsub:(a++b).Sublist l:=by rw [← hf];exact List.sublist_flatten_of_mem hc
 have hb:=kW (c:=b) fun e he=>hk e (hsub.subset (List.mem_append_right _ he))
 have h5:b.length≤5:=by
  cases b with
  | nil=>simp
  | cons e r=>
   have h3:nf e.key (e::r)=e::r:=List.filter_eq_self.2 fun x hx=>by simpa using h2 x hx e List.mem_cons_self
   have h4:=(((List.sublist_append_right a (e::r)).trans hsub).filter fun x=>decide (x.key=e.key)).length_le
   have h6:=hK e.key
   unfold nf at h3 h6
   rw [h3] at h4
   omega
 rw [bL,FW,List.length_append]
 omega
theorem CN {D:ad} {name:Bs} {l:List az} (hd:D.Ok) (hfree:file D name=none) (hm:D.moves.length≤1099511627776) (hs:fS l) (hk:∀ e∈l,lQ e) (hn:l.length≤99) (hK:∀ k,(nf k l).length≤5) (hne:l≠[])
 (hroom:D.used+130*l.length≤1099511627776) :
 ∃ x D',nO D name l=some (x,D')∧cS D D'∧(∀ m,m≠name→file D' m=file D m)∧D'.moves.length≤D.moves.length+1∧D'.used≤D.used+130*l.length ∧
  ((∃ e,x=.error e∧sF False D e)∨∃ T f cs,x=.ok T∧T.name=name∧file D' name=some f∧mi False f T (l.map bG) cs):=by
 obtain ⟨cs,hf,hcn,hsep,hsz,ht⟩:=KC hs hk (by omega) hne
 obtain ⟨hl1,hl2,hl3,hl4⟩:=rK hf hcn hk hne (by omega)
 unfold nO
 rw [ht]
 dsimp only
 rw [if_pos (by rw [bJ];exact hm)]
 cases hc:gm D name with
 | some e=>
  obtain ⟨h1,h2⟩:=pD hd hc
  rw [h1]
  have s1:=cO.tick hd
  refine ⟨_,_,rfl,s1.later,fun m _=>s1.file m,by rw [s1.moves];omega,by rw [s1.used];omega,.inl ⟨e,rfl,?_⟩⟩
  rcases h2 with h2|⟨_,h2⟩
  ·exact .of h2
  ·exact absurd hfree h2
 | none=>
  obtain ⟨_,c2,c3,c4,c5⟩:=rC hd hc
  dsimp only
  have hcf:file (cT D name) name=some []:=by rw [c2,if_pos rfl]
  cases ha:dX (cT D name) name (eU l cs) with
  | some e=>
   obtain ⟨h1,h2⟩:=pE c4.ok ha hcf
   rw [h1]
   have s1:=cO.tick c4.ok
   refine ⟨_,_,rfl,c4.trans s1.later,fun m hm=>by rw [s1.file,c2,if_neg hm],by rw [s1.moves];omega,by rw [s1.used];omega,.inl ⟨e,rfl,?_⟩⟩
   rcases h2 with h2|⟨h2,h3⟩
   ·exact .of (h2.before c4)
   ·refine .inr ⟨h2,?_⟩
    rw [← c4.room];omega
  | none=>
   obtain ⟨b,a1,a2,a3,a4,a5,a6⟩:=rE c4.ok ha
   rw [hcf] at a1;cases a1
   rw [List.nil_append] at a2
   dsimp only
   have haf:file (bZ (cT D name) name (eU l cs)) name=some (eU l cs):=by rw [a2,if_pos rfl]
   obtain ⟨y1,y2,y3,y4⟩:=qF a4.ok name
   have hfile:∀ m,m≠name→file (dR (bZ (cT D name) name (eU l cs)) name) m=file D m:=fun m hm=>by rw [y1,a2,if_neg hm,c2,if_neg hm]
   have hmv:(dR (bZ (cT D name) name (eU l cs)) name).moves.length≤D.moves.length+1:=by rw [y4,a5,c5];omega
   have hus:(dR (bZ (cT D name) name (eU l cs)) name).used≤D.used+130*l.length:=by omega
   rcases fe haf with he|⟨e,he,ht⟩
   ·rw [he]
    refine ⟨_,_,rfl,(c4.trans a4).trans y3,hfile,hmv,hus,.inr ⟨_,eU l cs,cs.map (·.map bG),rfl,rfl,by rw [y1];exact haf,?_⟩⟩
    have:=IJ (nm:=name) (l:=l.map bG) (cs:=cs.map (·.map bG)) (by rw [← hf,List.map_flatten]) (fun c hc=>by
     obtain ⟨c',hc',rfl⟩:=List.mem_map.1 hc
     simp [hcn c' hc']) (List.pairwise_map.2 (hsep.imp fun {a b} hab x hx y hy=>by
     obtain ⟨x',hx',rfl⟩:=List.mem_map.1 hx
     obtain ⟨y',hy',rfl⟩:=List.mem_map.1 hy
     rw [kn,kn];exact hab x' hx' y' hy')) (Aw hs) (fun e he=>by
     obtain ⟨e',he',rfl⟩:=List.mem_map.1 he
     exact ⟨(hk e' he').norm,BT e'⟩) (by simp [hne]) (by simpa using hn) (fun c hc=>by
     obtain ⟨c',hc',rfl⟩:=List.mem_map.1 hc
     unfold jr
     rw [uQ]
     exact ME hk hK hf hc' (hsz c' hc'))
    rw [CK,nX,uR,mR,List.length_map] at this
    exact this
   ·rw [he]
    exact ⟨_,_,rfl,(c4.trans a4).trans y3,hfile,hmv,hus,.inl ⟨e,rfl,.of (ht.before (c4.trans a4))⟩⟩
theorem AB (l:List az):∀ (f n:Nat),n≤l.length→l.length≤n+f→n≤nh l f n∧nh l f n≤l.length∧(nh l f n<l.length→(l.getD (nh l f n) default).key≠(l.getD (nh l f n-1) default).key) ∧
 ∀ j,n≤j→j<nh l f n→(l.getD j default).key=(l.getD (j-1) default).key
 | 0,n,h,hf=>⟨Nat.le_refl _,h,fun hh=>by simp only [nh] at hh;omega,fun j h1 h2=>by simp only [nh] at h2;omega⟩
 | f+1,n,h,hf=>by
  unfold nh
  by_cases hc:n<l.length∧(l.getD n default).key=(l.getD (n-1) default).key
  ·rw [if_pos hc]
   obtain ⟨h1,h2,h3,h4⟩:=AB l f (n+1) (by omega) (by omega)
   refine ⟨by omega,h2,h3,fun j k1 k2=>?_⟩
   by_cases hj:j=n
   ·rw [hj];exact hc.2
   ·exact h4 j (by omega) k2
  ·rw [if_neg hc]
   exact ⟨Nat.le_refl _,h,fun hh hk=>hc ⟨hh,hk⟩,fun j k1 k2=>by omega⟩
theorem IL {l:List az} {K:Nat} (hne:l≠[]) (hs:fS l) (hK:∀ k,(nf k l).length≤K) (hK1:1≤K):1≤lH l∧lH l≤l.length∧lH l≤94+K∧vO (l.take (lH l)) (l.drop (lH l)):=by
 have hlen:0<l.length:=List.length_pos_iff.2 hne
 obtain ⟨h1,h2,h3,h4⟩:=AB l l.length (min l.length 95) (Nat.min_le_left _ _) (by omega)
 unfold lH
 generalize nh l l.length (min l.length 95)=m at h1 h2 h3 h4
 refine ⟨by omega,h2,?_,?_⟩
 ·by_cases hm:m≤95
  ·omega
  ·have hn:min l.length 95=95:=by omega
   rw [hn] at h4
   have hkey:∀ j,94≤j→j<m→(l.getD j default).key=(l.getD 94 default).key:=by
    intro j
    induction j with
    | zero=>intro h;omega
    | succ j ih=>
     intro k1 k2
     by_cases hj:j+1=94
     ·rw [hj]
     ·rw [h4 (j+1) (by omega) k2];exact ih (by omega) (by omega)
   have hsub:((l.drop 94).take (m-94)).Sublist (nf (l.getD 94 default).key l):=by
    have e:nf (l.getD 94 default).key ((l.drop 94).take (m-94))=(l.drop 94).take (m-94):=by
     refine List.filter_eq_self.2 fun x hx=>?_
     obtain ⟨i,hi,rfl⟩:=List.mem_iff_getElem.1 hx
     simp only [List.length_take,List.length_drop] at hi
     have:=hkey (94+i) (by omega) (by omega)
     simp only [List.getElem_take,List.getElem_drop]
     rw [List.getD_eq_getElem?_getD,List.getElem?_eq_getElem (by omega)] at this
     simpa using this
    rw [← e]
    exact ((List.take_sublist _ _).trans (List.drop_sublist _ _)).filter _
   have hl:=hsub.length_le
   have hk:=hK (l.getD 94 default).key
   simp only [List.length_take,List.length_drop] at hl
   omega
 ·intro x hx y hy
  have hml:m<l.length:=by
   by_cases h:m<l.length
   ·exact h
   ·rw [List.drop_of_length_le (by omega)] at hy;cases hy
  have hk:=h3 hml
  rw [List.getD_eq_getElem?_getD,List.getD_eq_getElem?_getD,List.getElem?_eq_getElem hml,List.getElem?_eq_getElem (by omega)] at hk
  simp only [Option.getD_some] at hk
  have hget:=List.pairwise_iff_getElem.1 hs
  obtain ⟨i,hi,rfl⟩:=List.mem_iff_getElem.1 hx
  obtain ⟨j,hj,rfl⟩:=List.mem_iff_getElem.1 hy
  simp only [List.length_take] at hi
  simp only [List.length_drop] at hj
  simp only [List.getElem_take,List.getElem_drop]
  have hz:aQ (l[m-1]'(by omega)).key l[m].key=true:=by
   rcases bQ.1 (hget (m-1) m (by omega) hml (by omega)) with h|h
   ·exact h
   ·exact absurd h.1.symm hk
  have hx1:aQ (l[m-1]'(by omega)).key (l[i]'(by omega)).key=false:=by
   by_cases hi2:i=m-1
   ·subst hi2;exact aN _
   ·rcases bQ.1 (hget i (m-1) (by omega) (by omega) (by omega)) with h|h
    ·exact cz h
    ·rw [h.1];exact aN _
  have hy1:aQ (l[m+j]'(by omega)).key l[m].key=false:=by
   by_cases hj2:j=0
   ·subst hj2;exact aN _
   ·rcases bQ.1 (hget m (m+j) (by omega) (by omega) (by omega)) with h|h
    ·exact cz h
    ·rw [h.1];exact aN _
  exact pg (oN hx1 hz) hy1
structure F6 (K num num2:Nat) (l:List az) (ls:List (cD×List az)) (fl0 fl:Bs→Option Bs):Prop where
 ents:(ls.map (·.2)).flatten=l.map bG
 cnt:num≤num2∧num2≤num+l.length
 names:∀ p∈ls,∃ k,num<k∧k≤num2∧p.1.name=dp k
 nodup:(ls.map (·.1.name)).Nodup
 on:∀ p∈ls,∃ f cs,fl p.1.name=some f∧mi False f p.1 p.2 cs
 sep:ls.Pairwise fun a b=>vO a.2 b.2
 Lb:∀ p∈ls,p.2.length≤94+K
 known:∀ m,fl m≠none→fl0 m≠none∨m∈ls.map (·.1.name)
theorem rL {K:Nat} (hK1:1≤K) (hK2:K≤5):∀ (f num:Nat) (D:ad) (l:List az) (acc:List cD),D.Ok→fS l→(∀ e∈l,lQ e)→(∀ k,(nf k l).length≤K)→l.length≤f→num+l.length≤4611686018427387904→acc.length+l.length≤1099511627776 →
 D.moves.length+l.length≤1099511627776→D.used+130*l.length≤1099511627776→(∀ k,num<k→k≤num+l.length→file D (dp k)=none) →
 ∃ x D',kO f num D l acc=some (x,D')∧cS D D'∧D'.moves.length≤D.moves.length+l.length∧D'.used≤D.used+130*l.length∧(∀ m,(∀ k,num<k→k≤num+l.length→m≠dp k)→file D' m=file D m) ∧
  ((∃ e,x=.error e∧sF False D e)∨∃ num' ls,x=.ok (acc++ls.map (·.1),num')∧F6 K num num' l ls (file D) (file D'))
 | f,num,D,[],acc,hd,hs,hk,hK,hf,hn,ha,hm,hu,hfr=>by
  refine ⟨.ok (acc,num),D,by cases f<;>rfl,cS.refl hd,by simp,by simp,fun m _=>rfl,.inr ⟨num,[],by simp,?_⟩⟩
  refine ⟨rfl,by simp,by simp,by simp,by simp,by simp,by simp,fun m hm=>.inl hm⟩
 | 0,num,D,e::r,acc,hd,hs,hk,hK,hf,hn,ha,hm,hu,hfr=>by simp at hf
 | f+1,num,D,e::r,acc,hd,hs,hk,hK,hf,hn,ha,hm,hu,hfr=>by
  unfold kO
  generalize hl:e::r=l at *
  have hne:l≠[]:=by rw [← hl];simp
  have hlen:0<l.length:=List.length_pos_iff.2 hne
  rw [if_pos ⟨by omega,by rw [bJ];omega,by rw [bJ];omega⟩]
  obtain ⟨c1,c2,c3,c4⟩:=IL hne hs hK hK1
  generalize lH l=n at c1 c2 c3 c4
  have hsp:=List.take_append_drop n l
  have htl:(l.take n).length=n:=by rw [List.length_take];omega
  have hdl:(l.drop n).length=l.length-n:=List.length_drop
  have hs2:fS (l.take n)∧fS (l.drop n):=by
   rw [← hsp] at hs;exact ⟨(List.pairwise_append.1 hs).1,(List.pairwise_append.1 hs).2.1⟩
  obtain ⟨x,D1,w1,w2,w3,w4,w5,w6⟩:=CN (name:=dp (num+1)) hd (hfr (num+1) (by omega) (by omega)) (by omega) hs2.1 (fun e he=>hk e (List.mem_of_mem_take he)) (by omega) (fun k=>Nat.le_trans (((List.take_sublist n l).filter _).length_le) (Nat.le_trans (hK k) hK2)) (by intro h;rw [h] at htl;simp at htl;omega) (by rw [htl];omega)
  rw [htl] at w5
  rw [w1]
  rcases w6 with ⟨e',rfl,w6⟩|⟨T,fb,cs,rfl,w6,w7,w8⟩
  ·refine ⟨_,_,rfl,w2,by omega,by omega,fun m hm=>w3 m (hm (num+1) (by omega) (by omega)),.inl ⟨e',rfl,w6⟩⟩
  ·dsimp only
   have hfr1:∀ k,num+1<k→k≤num+1+(l.drop n).length→file D1 (dp k)=none:=fun k hk hk2=>by
    rw [w3 _ (fun h=>by have:=fi h (by omega) (by omega);omega)];exact hfr k (by omega) (by omega)
   obtain ⟨x,D2,s1,s2,s3,s4,s5,s6⟩:=rL hK1 hK2 f (num+1) D1 (l.drop n) (acc++[T]) w2.ok hs2.2 (fun e he=>hk e (List.mem_of_mem_drop he))
    (fun k=>Nat.le_trans (((List.drop_sublist n l).filter _).length_le) (hK k)) (by omega) (by omega) (by simp only [List.length_append,List.length_singleton];omega) (by omega) (by omega) hfr1
   refine ⟨x,D2,s1,w2.trans s2,by omega,by omega,fun m hm=>?_,?_⟩
   ·rw [s5 m fun k hk hk2=>hm k (by omega) (by omega),w3 m (hm (num+1) (by omega) (by omega))]
   ·rcases s6 with ⟨e',rfl,s6⟩|⟨num',ls,rfl,s6⟩
    ·exact .inl ⟨e',rfl,s6.before w2⟩
    ·refine .inr ⟨num',(T,(l.take n).map bG)::ls,by simp,?_⟩
     have hT2:file D2 T.name=some fb:=by
      rw [w6,s5 _ fun k hk hk2 h=>by have:=fi h (by omega) (by omega);omega];exact w7
     refine ⟨?_,⟨by have:=s6.cnt;omega,by have:=s6.cnt;omega⟩,?_,?_,?_,?_,?_,?_⟩
     ·rw [List.map_cons,List.flatten_cons,s6.ents,← List.map_append,hsp]
     ·intro p hp
      rcases List.mem_cons.1 hp with rfl|hp
      ·exact ⟨num+1,by omega,by have:=s6.cnt;omega,w6⟩
      ·obtain ⟨k,k1,k2,k3⟩:=s6.names p hp
       exact ⟨k,by omega,k2,k3⟩
     ·rw [List.map_cons,List.nodup_cons]
      refine ⟨fun h=>?_,s6.nodup⟩
      obtain ⟨p,hp,hpe⟩:=List.mem_map.1 h
      obtain ⟨k,k1,k2,k3⟩:=s6.names p hp
      have hcnt:=s6.cnt
      have:=fi (k3.symm.trans (hpe.trans w6)) (by omega) (by omega)
      omega
     ·intro p hp
      rcases List.mem_cons.1 hp with rfl|hp
      ·exact ⟨fb,cs,hT2,w8⟩
      ·exact s6.on p hp
     ·rw [List.pairwise_cons]
      refine ⟨fun p hp a ha b hb=>?_,s6.sep⟩
      obtain ⟨a',ha',rfl⟩:=List.mem_map.1 ha
      have hb2:b∈(ls.map (·.2)).flatten:=List.mem_flatten.2 ⟨p.2,List.mem_map.2 ⟨p,hp,rfl⟩,hb⟩
      rw [s6.ents] at hb2
      obtain ⟨b',hb',rfl⟩:=List.mem_map.1 hb2
      rw [kn,kn];exact c4 a' ha' b' hb'
     ·intro p hp
      rcases List.mem_cons.1 hp with rfl|hp
      ·simp only [List.length_map,htl];exact c3
      ·exact s6.Lb p hp
     ·intro m hm
      rcases s6.known m hm with h|h
      ·by_cases hmn:m=dp (num+1)
       ·exact .inr (by rw [List.map_cons,w6,hmn];exact List.mem_cons_self)
       ·exact .inl (by rw [← w3 m hmn];exact h)
      ·exact .inr (List.mem_cons_of_mem _ h)
end
end Go.Proofs.YtecibefflhomdaaGreatDoor
