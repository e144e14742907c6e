/-
  Part 32: PLAIN a table's file, written whole, is that table again; PLAIN entries written as tables, of new names.
-/
import Derived.Test.YtecibefflhomdaaGreatDoorU31
set_option maxHeartbeats 8000000
set_option maxRecDepth 100000
set_option linter.all false
namespace Go.Proofs.YtecibefflhomdaaGreatDoor
open Go
section
open Go.Proofs.YtecibefflhomdaaGreatDoor.Pure
theorem putB_norm (e:Ent):putB (normE e)=putB e:=by
 unfold putB
 rw [normE_key,normE_seq,normE_del]
 cases hd:e.del with
 | true=>simp
 | false=>simp [normE,hd]
theorem putsB_norm (c:List Ent):putsB (c.map normE)=putsB c:=by
 unfold putsB;rw [List.map_map];congr 1;exact List.map_congr_left fun e _=>putB_norm e
theorem blkF_norm (c:List Ent):blkF (c.map normE)=blkF c:=by unfold blkF;rw [putsB_norm]
theorem firstK_norm (l:List Ent):firstK (l.map normE)=firstK l:=by cases l<;>simp [firstK]
theorem lastK_norm (l:List Ent):lastK (l.map normE)=lastK l:=by
 unfold lastK;rw [List.getLast?_map];cases l.getLast?<;>simp
theorem bodyB_norm (cs:List (List Ent)):bodyB (cs.map (·.map normE))=bodyB cs:=by
 unfold bodyB;rw [List.map_map];congr 1;exact List.map_congr_left fun c _=>blkF_norm c
theorem blocksB_norm:∀ (cs:List (List Ent)) (a:Nat),blocksB a (cs.map (·.map normE))=blocksB a cs
 | [],_=>rfl
 | c::cs,a=>by simp only [List.map_cons,blocksB,firstK_norm,blkF_norm,blocksB_norm cs]
theorem fileB_norm (l:List Ent) (cs:List (List Ent)):fileB (l.map normE) (cs.map (·.map normE))=fileB l cs:=by
 unfold fileB;rw [bodyB_norm,firstK_norm,lastK_norm,blocksB_norm,List.length_map]
theorem less_norm (a b:Ent):less (normE a) (normE b)=less a b:=by unfold less;simp
theorem srt_norm {l:List Ent} (h:Srt l):Srt (l.map normE):=by
 exact List.pairwise_map.2 (h.imp fun {a b} hh=>by rw [less_norm];exact hh)
def blkB (b:Bs×Nat×Nat):Bs:=textB b.1++numB b.2.1 4++numB b.2.2 4
theorem blkB_len (b:Bs×Nat×Nat):(blkB b).length=b.1.length+9:=by simp [blkB]
theorem listB_eq (a b:Bs) (n:Nat) (bs:List (Bs×Nat×Nat)):listB a b n bs=textB a++(textB b++(numB n 4++(bs.map blkB).flatten)):=by
 unfold listB blkB;rw [List.append_assoc,List.append_assoc]
theorem parseB_law:∀ (bs:List (Bs×Nat×Nat)) (f:Nat),(∀ b∈bs,b.1.length≤255∧b.2.1<4294967296∧b.2.2<4294967296)→bs.length≤f→parseB f ⟨(bs.map blkB).flatten,false⟩=(bs,false)
 | [],0,_,_=>rfl
 | [],f+1,_,_=>by unfold parseB;simp
 | b::bs,0,_,h=>by simp at h
 | b::bs,f+1,hb,h=>by
  obtain ⟨h1,h2,h3⟩:=hb b List.mem_cons_self
  have e:((b::bs).map blkB).flatten=textB b.1++(numB b.2.1 4++(numB b.2.2 4++(bs.map blkB).flatten)):=by simp [blkB]
  unfold parseB
  rw [e,if_pos ⟨by intro hh;simp [textB] at hh,rfl⟩,text_app h1]
  dsimp only
  rw [num_app (by omega)]
  dsimp only
  rw [num_app (by omega),parseB_law bs f (fun x hx=>hb x (List.mem_cons_of_mem _ hx)) (by simp at h;omega)]
theorem blk_len_le (bs:List (Bs×Nat×Nat)):bs.length≤(bs.map blkB).flatten.length:=by
 induction bs with
 | nil=>simp
 | cons b r ih=>
  have:=blkB_len b
  simp only [List.map_cons,List.flatten_cons,List.length_append,List.length_cons];omega
theorem blk_flat_le {bs:List (Bs×Nat×Nat)} (h:∀ b∈bs,b.1.length≤8):(bs.map blkB).flatten.length≤17*bs.length:=by
 induction bs with
 | nil=>simp
 | cons b r ih=>
  have h1:=blkB_len b
  have h2:=h b List.mem_cons_self
  have h3:=ih fun x hx=>h x (List.mem_cons_of_mem _ hx)
  simp only [List.map_cons,List.flatten_cons,List.length_append,List.length_cons];omega
section
variable {l:List Ent} {cs:List (List Ent)} {nm:Bs}
theorem firstK_len (hk:∀ e∈l,EOk e):(firstK l).length≤8:=by
 cases l with
 | nil=>simp [firstK]
 | cons e r=>exact (hk e List.mem_cons_self).key
theorem lastK_len (hk:∀ e∈l,EOk e):(lastK l).length≤8:=by
 unfold lastK
 cases h:l.getLast? with
 | none=>simp
 | some e=>exact (hk e (List.mem_of_getLast? h)).key
theorem fileB_len (hf:cs.flatten=l) (hn:∀ c∈cs,c≠[]) (hk:∀ e∈l,EOk e) (hne:l≠[]) (hc:l.length≤10000) :
 (fileB l cs).length≤130*l.length∧l.length≤(fileB l cs).length∧(bodyB cs).length≤46*l.length∧(listB (firstK l) (lastK l) l.length (blocksB 0 cs)).length≤22+17*l.length:=by
 have hk2:∀ e∈cs.flatten,EOk e:=by rw [hf];exact hk
 have h1:=bodyB_le hn hk2
 have h2:=chunks_le hn
 rw [hf] at h1 h2
 have h3:=firstK_len hk
 have h4:=lastK_len hk
 have h5:=blk_flat_le (bs:=blocksB 0 cs) fun b hb=>(blocksB_small (a:=0) (A:=460000) hn hk2 (by rw [Nat.zero_add];omega) b hb).1
 rw [blocksB_length] at h5
 have h6:0<l.length:=List.length_pos_iff.2 hne
 have h8:(listB (firstK l) (lastK l) l.length (blocksB 0 cs)).length≤22+17*l.length:=by
  rw [listB_eq];simp only [List.length_append,textB_length,numB_length];omega
 have h9:l.length≤(bodyB cs).length:=by
  have key:∀ cs:List (List Ent),cs.flatten.length≤(bodyB cs).length:=by
   intro cs
   induction cs with
   | nil=>simp [bodyB]
   | cons c r ih=>
    have:=puts_len c
    simp only [bodyB,List.map_cons,List.flatten_cons,List.length_append,blkF,frameB_length] at ih ⊢
    omega
  rw [← hf];exact key cs
 refine ⟨?_,?_,h1,h8⟩
 ·unfold fileB;simp only [List.length_append,frameB_length,numB_length];omega
 ·unfold fileB;simp only [List.length_append,frameB_length,numB_length];omega
theorem headT_law (hf:cs.flatten=l) (hn:∀ c∈cs,c≠[]) (hk:∀ e∈l,EOk e) (hne:l≠[]) (hc:l.length≤10000) :
 headT nm (listB (firstK l) (lastK l) l.length (blocksB 0 cs))=.ok ⟨nm,firstK l,lastK l,l.length,blocksB 0 cs⟩:=by
 have hk2:∀ e∈cs.flatten,EOk e:=by rw [hf];exact hk
 have h1:=bodyB_le hn hk2
 rw [hf] at h1
 have h5:=blocksB_small (a:=0) (A:=460000) hn hk2 (by rw [Nat.zero_add];omega)
 have h3:=firstK_len hk
 have h4:=lastK_len hk
 unfold headT
 dsimp only
 have hlen:=blk_len_le (blocksB 0 cs)
 have hcs:cs≠[]:=by rintro rfl;exact hne (by rw [← hf];rfl)
 have hb0:blocksB 0 cs≠[]:=by intro h;have:=congrArg List.length h;rw [blocksB_length] at this;exact hcs (List.eq_nil_of_length_eq_zero (by simpa using this))
 have hp:=parseB_law (blocksB 0 cs) (listB (firstK l) (lastK l) l.length (blocksB 0 cs)).length (fun b hb=>by obtain ⟨k1,k2,k3⟩:=h5 b hb;omega) (by
  rw [listB_eq];simp only [List.length_append];omega)
 generalize hL:(listB (firstK l) (lastK l) l.length (blocksB 0 cs)).length=L at hp
 rw [listB_eq,text_app (by omega)]
 dsimp only
 rw [text_app (by omega)]
 dsimp only
 rw [num_app (by omega)]
 dsimp only
 rw [hp]
 simp [hb0]
theorem openF_law (hf:cs.flatten=l) (hn:∀ c∈cs,c≠[]) (hk:∀ e∈l,EOk e) (hne:l≠[]) (hc:l.length≤10000) :
 openF nm (fileB l cs)=some (.ok ⟨nm,firstK l,lastK l,l.length,blocksB 0 cs⟩):=by
 obtain ⟨h1,h2,h3,h4⟩:=fileB_len hf hn hk hne hc
 have hb:(bodyB cs).length<4294967296:=by omega
 have hbe:beN (numB (bodyB cs).length 8)=(bodyB cs).length:=by rw [beN_numB];exact Nat.mod_eq_of_lt (by omega)
 generalize hLL:listB (firstK l) (lastK l) l.length (blocksB 0 cs)=L at h4
 have hlen:(fileB l cs).length=(bodyB cs).length+(12+L.length)+20:=by
  unfold fileB;rw [hLL];simp only [List.length_append,frameB_length,numB_length]
 have e1:pieceB (fileB l cs) (((fileB l cs).length:Int)-20) 20=frameB (numB (bodyB cs).length 8):=by
  have:=piece_mid (bodyB cs++frameB L) (frameB (numB (bodyB cs).length 8)) []
  rw [List.append_nil] at this
  rw [show ((fileB l cs).length:Int)-20=((bodyB cs++frameB L).length:Int) by rw [hlen];simp only [List.length_append,frameB_length];omega,
   show (20:Int)=((frameB (numB (bodyB cs).length 8)).length:Int) by simp]
  unfold fileB;rw [hLL];exact this
 have e2:pieceB (fileB l cs) ((bodyB cs).length:Int) (((fileB l cs).length:Int)-20-((bodyB cs).length:Int))=frameB L:=by
  have:=piece_mid (bodyB cs) (frameB L) (frameB (numB (bodyB cs).length 8))
  rw [show ((fileB l cs).length:Int)-20-((bodyB cs).length:Int)=((frameB L).length:Int) by rw [hlen];simp only [frameB_length];omega]
  unfold fileB;rw [hLL];exact this
 have o1:openB (frameB (numB (bodyB cs).length 8))=some (numB (bodyB cs).length 8,[]):=by
  have:=frame_app (b:=numB (bodyB cs).length 8) (by simp) []
  rwa [List.append_nil] at this
 have o2:openB (frameB L)=some (L,[]):=by
  have:=frame_app (b:=L) (by omega) []
  rwa [List.append_nil] at this
 unfold openF
 rw [e1,o1]
 dsimp only
 rw [if_neg (by simp),hbe,if_neg (by omega),e2,o2]
 dsimp only
 rw [if_pos (by rw [big_eq,frameB_length];omega),← hLL,headT_law hf hn hk hne hc]
theorem fileB_on (hf:cs.flatten=l) (hn:∀ c∈cs,c≠[]) (hsep:cs.Pairwise SepC) (hs:Srt l) (hk:∀ e∈l,EOk e∧normE e=e) (hne:l≠[]) (hc:l.length≤10000) :
 ChOn False (fileB l cs) ⟨nm,firstK l,lastK l,l.length,blocksB 0 cs⟩ l cs:=by
 have hk1:∀ e∈l,EOk e:=fun e he=>(hk e he).1
 obtain ⟨h1,h2,h3,h4⟩:=fileB_len hf hn hk1 hne hc
 refine ⟨hf,hn,hsep,hne,hs,hk,rfl,.inl (openF_law hf hn hk1 hne hc),h1,hc,fun A c B e=>.inl ?_⟩
 have hp:=piece_mid (bodyB A) (blkF c) (bodyB B++(frameB (listB (firstK l) (lastK l) l.length (blocksB 0 cs))++frameB (numB (bodyB cs).length 8)))
 have e1:fileB l cs=bodyB A++blkF c++(bodyB B++(frameB (listB (firstK l) (lastK l) l.length (blocksB 0 cs))++frameB (numB (bodyB cs).length 8))):=by
  unfold fileB
  have:bodyB cs=bodyB A++blkF c++bodyB B:=by rw [e,bodyB_app];simp [bodyB]
  conv=>lhs;rw [this]
  simp only [List.append_assoc]
  rw [this];simp only [List.append_assoc]
 rw [e1,hp]
 have hcl:∀ x∈c,x∈l:=fun x hx=>by rw [← hf,e];simp only [List.flatten_append,List.flatten_cons,List.mem_append];exact .inr (.inl hx)
 have hcc:c.length≤l.length:=by rw [← hf,e];simp only [List.flatten_append,List.flatten_cons,List.length_append];omega
 have:=frame_app (b:=putsB c) (by have:=putsB_le (c:=c) fun x hx=>hk1 x (hcl x hx);omega) []
 rwa [List.append_nil] at this
end
theorem nodup_le {α:Type} [DecidableEq α]:∀ {a b:List α},a.Nodup→(∀ x∈a,x∈b)→a.length≤b.length
 | [],_,_,_=>Nat.zero_le _
 | x::a,b,hn,hs=>by
  obtain ⟨h1,h2⟩:=List.nodup_cons.1 hn
  have hx:=hs x List.mem_cons_self
  have:=nodup_le (b:=b.erase x) h2 fun y hy=>by
   refine (List.mem_erase_of_ne (fun e=>h1 (by rw [← e];exact hy))).2 (hs y (List.mem_cons_of_mem _ hy))
  rw [List.length_erase_of_mem hx] at this
  have hp:=List.length_pos_of_mem hx
  simp only [List.length_cons];omega
theorem srt_nodup {l:List Ent} (h:Srt l):l.Nodup:=h.imp fun {a b} hh e=>by rw [e,less_irrefl] at hh;cases hh
def ofKey (k:Bs) (l:List Ent):List Ent:=l.filter fun e=>decide (e.key=k)
theorem kept_few {ms:List Nat} {bt:Bool} {l:List Ent} (hl:Srt l) (k:Bs):(ofKey k (keptL ms bt l)).length≤ms.length:=by
 have h1:(ofKey k (keptL ms bt l)).Nodup:=(srt_nodup (kept_srt hl)).sublist List.filter_sublist
 have h2:=nodup_le (b:=ms.filterMap (vis l k)) h1 fun e he=>by
  obtain ⟨he1,he2⟩:=List.mem_filter.1 he
  simp at he2
  have h3:=(mem_kl.1 (kept_seen he1)).2
  unfold seen at h3
  obtain ⟨m,hm,h4⟩:=List.any_eq_true.1 h3
  rw [he2] at h4
  exact List.mem_filterMap.2 ⟨m,hm,by simpa using h4⟩
 exact Nat.le_trans h2 (List.length_filterMap_le _ _)
theorem kept_len (ms:List Nat) (bt:Bool) (l:List Ent):(keptL ms bt l).length≤l.length:=(kept_sub ms bt l).length_le
theorem foldB_all {σ:Type} (g:σ→Ent→σ):∀ (l:List Ent) (s:σ),foldB (fun s e=>(g s e,true)) l s=l.foldl g s
 | [],_=>rfl
 | e::l,s=>by rw [foldB,if_pos rfl,List.foldl_cons];exact foldB_all g l _
theorem trimL_le:∀ (n:Nat) (l:List Ent),(trimL n l).length≤l.length
 | 0,_=>Nat.le_refl _
 | n+1,l=>by
  unfold trimL
  split
  ·split
   ·have:=trimL_le n l.dropLast
    rw [List.length_dropLast] at this;omega
   ·exact Nat.le_refl _
  ·exact Nat.le_refl _
theorem keepP_size (ms:List Nat) (bt:Bool) (s:Kp) (e:Ent):(keepP ms bt s e).out.length+(keepP ms bt s e).same.length≤s.out.length+s.same.length+1:=by
 have hd:∀ s:Kp,(doneK bt s).out.length+(doneK bt s).same.length≤s.out.length+s.same.length:=by
  intro s
  unfold doneK
  have:=trimL_le s.same.length s.same
  simp only [List.length_append,List.length_nil]
  split<;>omega
 have h1:=hd s
 unfold keepP
 by_cases hf:isFst s e=true
 ·simp only [hf,if_true]
  split
  ·simp only [List.length_append,List.length_singleton];omega
  ·omega
 ·simp only [hf,Bool.false_eq_true,if_false]
  split
  ·simp only [List.length_append,List.length_singleton];omega
  ·omega
theorem keptS_law {C:Prop} {D:PDisk} {s:St} {nx:Nx} {bt:Bool} {R:List Ent} (hd:D.Ok) (hR:Srt R) (hn:NxOk C (file D) s.mem nx R) (hl:R.length≤1073741824) (hs:s.snaps.length≤8) :
 ∃ x D',keptS s D nx bt=some (x,D')∧Same D D'∧((∃ e,x=.error e∧Bad C D e)∨x=.ok (keptL (momentsS s) bt R)):=by
 obtain ⟨s',o,D',j,h1,h2,h3,h4,h5⟩:=eachN_law (M:=s.mem) (body:=keepB (momentsS s) bt) (g:=fun s' e=>(keepP (momentsS s) bt s' e,true)) (Sz:=fun k (s:Kp)=>s.out.length+s.same.length≤k) (N:=1073741824)
  (fun k s' e hk hs=>⟨by unfold keepB;rw [if_pos (by rw [big_eq];omega)],by have:=keepP_size (momentsS s) bt s' e;dsimp only;omega⟩) R big 0 nx D kp0 hd hR hn (by rw [big_eq];omega) (by omega) (by simp [kp0])
 unfold keptS
 rw [if_neg (by omega),h1]
 rcases h5 with ⟨e,rfl,h5⟩|⟨rfl,rfl⟩
 ·dsimp only
  rw [if_pos (by rw [big_eq];omega)]
  exact ⟨_,_,rfl,h2,.inl ⟨e,rfl,h5⟩⟩
 ·dsimp only
  rw [if_pos (by rw [big_eq];omega)]
  refine ⟨_,_,rfl,h2,.inr ?_⟩
  rw [foldB_all,kept_eq hR]
end
section
open Go.Proofs.YtecibefflhomdaaGreatDoor.Pure
def Flt (C:Prop) (D:PDisk) (e:Err):Prop:=Bad C D e∨(e.2=9∧D.room<1099511627776)
theorem Flt.before {C:Prop} {D D':PDisk} {e:Err} (h:Later D D') (k:Flt C D' e):Flt C D e:=by
 rcases k with k|k
 ·exact .inl (k.before h)
 ·exact .inr ⟨k.1,by rw [← h.room];exact k.2⟩
theorem Flt.of {C:Prop} {D:PDisk} {e:Err} (h:Trip D e):Flt C D e:=.inl (.inl h)
theorem Flt.mono {C C':Prop} {D:PDisk} {e:Err} (hc:C→C') (h:Flt C D e):Flt C' D e:=h.imp (fun h=>h.imp id fun h=>⟨hc h.1,h.2⟩) id
theorem tableN_inj {a b:Nat} (h:tableN a=tableN b) (ha:a≤9223372036854775808) (hb:b≤9223372036854775808):a=b:=by
 unfold tableN at h
 exact dec_inj (by omega) (by omega) (List.append_cancel_left h)
theorem logN_inj {a b:Nat} (h:logN a=logN b) (ha:a≤9223372036854775808) (hb:b≤9223372036854775808):a=b:=by
 unfold logN at h
 exact dec_inj (by omega) (by omega) (List.append_cancel_left h)
theorem table_log (a b:Nat):tableN a≠logN b:=by unfold tableN logN;intro h;simp at h
theorem table_state (a:Nat):tableN a≠stateN:=by unfold tableN stateN;intro h;simp at h
theorem table_fresh (a:Nat):tableN a≠freshN:=by unfold tableN freshN;intro h;simp at h
theorem log_state (a:Nat):logN a≠stateN:=by unfold logN stateN;intro h;simp at h
theorem log_fresh (a:Nat):logN a≠freshN:=by unfold logN freshN;intro h;simp at h
theorem fresh_state:freshN≠stateN:=by decide
theorem log_ne (a:Nat):logN a≠[]:=by unfold logN;simp
theorem writeT_law {D:PDisk} {name:Bs} {l:List Ent} (hd:D.Ok) (hfree:file D name=none) (hm:D.moves.length≤1099511627776) (hs:Srt l) (hk:∀ e∈l,EOk e) (hn:l.length≤10000) (hne:l≠[])
 (hroom:D.used+130*l.length≤1099511627776) :
 ∃ x D',writeT D name l=some (x,D')∧Later D D'∧(∀ m,m≠name→file D' m=file D m)∧D'.moves.length≤D.moves.length+1∧D'.used≤D.used+130*l.length ∧
  ((∃ e,x=.error e∧Flt False D e)∨∃ T f cs,x=.ok T∧T.name=name∧file D' name=some f∧ChOn False f T (l.map normE) cs):=by
 obtain ⟨cs,hf,hcn,hsep,ht⟩:=tab_law hs hk hn hne
 obtain ⟨hl1,hl2,hl3,hl4⟩:=fileB_len hf hcn hk hne hn
 unfold writeT
 rw [ht]
 dsimp only
 rw [if_pos (by rw [big_eq];exact hm)]
 cases hc:createE D name with
 | some e=>
  obtain ⟨h1,h2⟩:=create_err hd hc
  rw [h1]
  have s1:=Same.tick hd
  refine ⟨_,_,rfl,s1.later,fun m _=>s1.file m,by rw [s1.moves];omega,by rw [s1.used];omega,.inl ⟨e,rfl,?_⟩⟩
  rcases h2 with h2|⟨_,h2⟩
  ·exact .of h2
  ·exact absurd hfree h2
 | none=>
  obtain ⟨_,c2,c3,c4,c5⟩:=create_ok hd hc
  dsimp only
  have hcf:file (createD D name) name=some []:=by rw [c2,if_pos rfl]
  cases ha:appendE (createD D name) name (fileB l cs) with
  | some e=>
   obtain ⟨h1,h2⟩:=append_err c4.ok ha hcf
   rw [h1]
   have s1:=Same.tick c4.ok
   refine ⟨_,_,rfl,c4.trans s1.later,fun m hm=>by rw [s1.file,c2,if_neg hm],by rw [s1.moves];omega,by rw [s1.used];omega,.inl ⟨e,rfl,?_⟩⟩
   rcases h2 with h2|⟨h2,h3⟩
   ·exact .of (h2.before c4)
   ·refine .inr ⟨h2,?_⟩
    rw [← c4.room];omega
  | none=>
   obtain ⟨b,a1,a2,a3,a4,a5,a6⟩:=append_ok c4.ok ha
   rw [hcf] at a1;cases a1
   rw [List.nil_append] at a2
   dsimp only
   have haf:file (appended (createD D name) name (fileB l cs)) name=some (fileB l cs):=by rw [a2,if_pos rfl]
   obtain ⟨y1,y2,y3,y4⟩:=sync_law a4.ok name
   have hfile:∀ m,m≠name→file (syncD (appended (createD D name) name (fileB l cs)) name) m=file D m:=fun m hm=>by rw [y1,a2,if_neg hm,c2,if_neg hm]
   have hmv:(syncD (appended (createD D name) name (fileB l cs)) name).moves.length≤D.moves.length+1:=by rw [y4,a5,c5];omega
   have hus:(syncD (appended (createD D name) name (fileB l cs)) name).used≤D.used+130*l.length:=by omega
   rcases findE_has haf with he|⟨e,he,ht⟩
   ·rw [he]
    refine ⟨_,_,rfl,(c4.trans a4).trans y3,hfile,hmv,hus,.inr ⟨_,fileB l cs,cs.map (·.map normE),rfl,rfl,by rw [y1];exact haf,?_⟩⟩
    have:=fileB_on (nm:=name) (l:=l.map normE) (cs:=cs.map (·.map normE)) (by rw [← hf,List.map_flatten]) (fun c hc=>by
     obtain ⟨c',hc',rfl⟩:=List.mem_map.1 hc
     simp [hcn c' hc']) (List.pairwise_map.2 (hsep.imp fun {a b} hab x hx y hy=>by
     obtain ⟨x',hx',rfl⟩:=List.mem_map.1 hx
     obtain ⟨y',hy',rfl⟩:=List.mem_map.1 hy
     rw [normE_key,normE_key];exact hab x' hx' y' hy')) (srt_norm hs) (fun e he=>by
     obtain ⟨e',he',rfl⟩:=List.mem_map.1 he
     exact ⟨(hk e' he').norm,normE_norm e'⟩) (by simp [hne]) (by simpa using hn)
    rw [fileB_norm,firstK_norm,lastK_norm,blocksB_norm,List.length_map] at this
    exact this
   ·rw [he]
    exact ⟨_,_,rfl,(c4.trans a4).trans y3,hfile,hmv,hus,.inl ⟨e,rfl,.of (ht.before (c4.trans a4))⟩⟩
theorem cutN_law (l:List Ent):∀ (f n:Nat),n≤l.length→l.length≤n+f→n≤cutN l f n∧cutN l f n≤l.length∧(cutN l f n<l.length→(l.getD (cutN l f n) default).key≠(l.getD (cutN l f n-1) default).key) ∧
 ∀ j,n≤j→j<cutN l f n→(l.getD j default).key=(l.getD (j-1) default).key
 | 0,n,h,hf=>⟨Nat.le_refl _,h,fun hh=>by simp only [cutN] at hh;omega,fun j h1 h2=>by simp only [cutN] at h2;omega⟩
 | f+1,n,h,hf=>by
  unfold cutN
  by_cases hc:n<l.length∧(l.getD n default).key=(l.getD (n-1) default).key
  ·rw [if_pos hc]
   obtain ⟨h1,h2,h3,h4⟩:=cutN_law l f (n+1) (by omega) (by omega)
   refine ⟨by omega,h2,h3,fun j k1 k2=>?_⟩
   by_cases hj:j=n
   ·rw [hj];exact hc.2
   ·exact h4 j (by omega) k2
  ·rw [if_neg hc]
   exact ⟨Nat.le_refl _,h,fun hh hk=>hc ⟨hh,hk⟩,fun j k1 k2=>by omega⟩
theorem cutL_law {l:List Ent} {K:Nat} (hne:l≠[]) (hs:Srt l) (hK:∀ k,(ofKey k l).length≤K) (hK1:1≤K):1≤cutL l∧cutL l≤l.length∧cutL l≤94+K∧SepC (l.take (cutL l)) (l.drop (cutL l)):=by
 have hlen:0<l.length:=List.length_pos_iff.2 hne
 obtain ⟨h1,h2,h3,h4⟩:=cutN_law l l.length (min l.length 95) (Nat.min_le_left _ _) (by omega)
 unfold cutL
 generalize cutN l l.length (min l.length 95)=m at h1 h2 h3 h4
 refine ⟨by omega,h2,?_,?_⟩
 ·by_cases hm:m≤95
  ·omega
  ·have hn:min l.length 95=95:=by omega
   rw [hn] at h4
   have hkey:∀ j,94≤j→j<m→(l.getD j default).key=(l.getD 94 default).key:=by
    intro j
    induction j with
    | zero=>intro h;omega
    | succ j ih=>
     intro k1 k2
     by_cases hj:j+1=94
     ·rw [hj]
     ·rw [h4 (j+1) (by omega) k2];exact ih (by omega) (by omega)
   have hsub:((l.drop 94).take (m-94)).Sublist (ofKey (l.getD 94 default).key l):=by
    have e:ofKey (l.getD 94 default).key ((l.drop 94).take (m-94))=(l.drop 94).take (m-94):=by
     refine List.filter_eq_self.2 fun x hx=>?_
     obtain ⟨i,hi,rfl⟩:=List.mem_iff_getElem.1 hx
     simp only [List.length_take,List.length_drop] at hi
     have:=hkey (94+i) (by omega) (by omega)
     simp only [List.getElem_take,List.getElem_drop]
     rw [List.getD_eq_getElem?_getD,List.getElem?_eq_getElem (by omega)] at this
     simpa using this
    rw [← e]
    exact ((List.take_sublist _ _).trans (List.drop_sublist _ _)).filter _
   have hl:=hsub.length_le
   have hk:=hK (l.getD 94 default).key
   simp only [List.length_take,List.length_drop] at hl
   omega
 ·intro x hx y hy
  have hml:m<l.length:=by
   by_cases h:m<l.length
   ·exact h
   ·rw [List.drop_of_length_le (by omega)] at hy;cases hy
  have hk:=h3 hml
  rw [List.getD_eq_getElem?_getD,List.getD_eq_getElem?_getD,List.getElem?_eq_getElem hml,List.getElem?_eq_getElem (by omega)] at hk
  simp only [Option.getD_some] at hk
  have hget:=List.pairwise_iff_getElem.1 hs
  obtain ⟨i,hi,rfl⟩:=List.mem_iff_getElem.1 hx
  obtain ⟨j,hj,rfl⟩:=List.mem_iff_getElem.1 hy
  simp only [List.length_take] at hi
  simp only [List.length_drop] at hj
  simp only [List.getElem_take,List.getElem_drop]
  have hz:bltB (l[m-1]'(by omega)).key l[m].key=true:=by
   rcases less_iff.1 (hget (m-1) m (by omega) hml (by omega)) with h|h
   ·exact h
   ·exact absurd h.1.symm hk
  have hx1:bltB (l[m-1]'(by omega)).key (l[i]'(by omega)).key=false:=by
   by_cases hi2:i=m-1
   ·subst hi2;exact bltB_irrefl _
   ·rcases less_iff.1 (hget i (m-1) (by omega) (by omega) (by omega)) with h|h
    ·exact bltB_asymm h
    ·rw [h.1];exact bltB_irrefl _
  have hy1:bltB (l[m+j]'(by omega)).key l[m].key=false:=by
   by_cases hj2:j=0
   ·subst hj2;exact bltB_irrefl _
   ·rcases less_iff.1 (hget m (m+j) (by omega) (by omega) (by omega)) with h|h
    ·exact bltB_asymm h
    ·rw [h.1];exact bltB_irrefl _
  exact bltB_lt_le (bltB_le_trans hx1 hz) hy1
structure NewT (K num num2:Nat) (l:List Ent) (ls:List (Tab×List Ent)) (fl0 fl:Bs→Option Bs):Prop where
 ents:(ls.map (·.2)).flatten=l.map normE
 cnt:num≤num2∧num2≤num+l.length
 names:∀ p∈ls,∃ k,num<k∧k≤num2∧p.1.name=tableN k
 nodup:(ls.map (·.1.name)).Nodup
 on:∀ p∈ls,∃ f cs,fl p.1.name=some f∧ChOn False f p.1 p.2 cs
 sep:ls.Pairwise fun a b=>SepC a.2 b.2
 few:∀ p∈ls,p.2.length≤94+K
 known:∀ m,fl m≠none→fl0 m≠none∨m∈ls.map (·.1.name)
theorem split_law {K:Nat} (hK1:1≤K) (hK2:K≤1000):∀ (f num:Nat) (D:PDisk) (l:List Ent) (acc:List Tab),D.Ok→Srt l→(∀ e∈l,EOk e)→(∀ k,(ofKey k l).length≤K)→l.length≤f→num+l.length≤4611686018427387904→acc.length+l.length≤1099511627776 →
 D.moves.length+l.length≤1099511627776→D.used+130*l.length≤1099511627776→(∀ k,num<k→k≤num+l.length→file D (tableN k)=none) →
 ∃ x D',splitS f num D l acc=some (x,D')∧Later D D'∧D'.moves.length≤D.moves.length+l.length∧D'.used≤D.used+130*l.length∧(∀ m,(∀ k,num<k→k≤num+l.length→m≠tableN k)→file D' m=file D m) ∧
  ((∃ e,x=.error e∧Flt False D e)∨∃ num' ls,x=.ok (acc++ls.map (·.1),num')∧NewT K num num' l ls (file D) (file D'))
 | f,num,D,[],acc,hd,hs,hk,hK,hf,hn,ha,hm,hu,hfr=>by
  refine ⟨.ok (acc,num),D,by cases f<;>rfl,Later.refl hd,by simp,by simp,fun m _=>rfl,.inr ⟨num,[],by simp,?_⟩⟩
  refine ⟨rfl,by simp,by simp,by simp,by simp,by simp,by simp,fun m hm=>.inl hm⟩
 | 0,num,D,e::r,acc,hd,hs,hk,hK,hf,hn,ha,hm,hu,hfr=>by simp at hf
 | f+1,num,D,e::r,acc,hd,hs,hk,hK,hf,hn,ha,hm,hu,hfr=>by
  unfold splitS
  generalize hl:e::r=l at *
  have hne:l≠[]:=by rw [← hl];simp
  have hlen:0<l.length:=List.length_pos_iff.2 hne
  rw [if_pos ⟨by omega,by rw [big_eq];omega,by rw [big_eq];omega⟩]
  obtain ⟨c1,c2,c3,c4⟩:=cutL_law hne hs hK hK1
  generalize cutL l=n at c1 c2 c3 c4
  have hsp:=List.take_append_drop n l
  have htl:(l.take n).length=n:=by rw [List.length_take];omega
  have hdl:(l.drop n).length=l.length-n:=List.length_drop
  have hs2:Srt (l.take n)∧Srt (l.drop n):=by
   rw [← hsp] at hs;exact ⟨(List.pairwise_append.1 hs).1,(List.pairwise_append.1 hs).2.1⟩
  obtain ⟨x,D1,w1,w2,w3,w4,w5,w6⟩:=writeT_law (name:=tableN (num+1)) hd (hfr (num+1) (by omega) (by omega)) (by omega) hs2.1 (fun e he=>hk e (List.mem_of_mem_take he)) (by omega) (by intro h;rw [h] at htl;simp at htl;omega) (by rw [htl];omega)
  rw [htl] at w5
  rw [w1]
  rcases w6 with ⟨e',rfl,w6⟩|⟨T,fb,cs,rfl,w6,w7,w8⟩
  ·refine ⟨_,_,rfl,w2,by omega,by omega,fun m hm=>w3 m (hm (num+1) (by omega) (by omega)),.inl ⟨e',rfl,w6⟩⟩
  ·dsimp only
   have hfr1:∀ k,num+1<k→k≤num+1+(l.drop n).length→file D1 (tableN k)=none:=fun k hk hk2=>by
    rw [w3 _ (fun h=>by have:=tableN_inj h (by omega) (by omega);omega)];exact hfr k (by omega) (by omega)
   obtain ⟨x,D2,s1,s2,s3,s4,s5,s6⟩:=split_law hK1 hK2 f (num+1) D1 (l.drop n) (acc++[T]) w2.ok hs2.2 (fun e he=>hk e (List.mem_of_mem_drop he))
    (fun k=>Nat.le_trans (((List.drop_sublist n l).filter _).length_le) (hK k)) (by omega) (by omega) (by simp only [List.length_append,List.length_singleton];omega) (by omega) (by omega) hfr1
   refine ⟨x,D2,s1,w2.trans s2,by omega,by omega,fun m hm=>?_,?_⟩
   ·rw [s5 m fun k hk hk2=>hm k (by omega) (by omega),w3 m (hm (num+1) (by omega) (by omega))]
   ·rcases s6 with ⟨e',rfl,s6⟩|⟨num',ls,rfl,s6⟩
    ·exact .inl ⟨e',rfl,s6.before w2⟩
    ·refine .inr ⟨num',(T,(l.take n).map normE)::ls,by simp,?_⟩
     have hT2:file D2 T.name=some fb:=by
      rw [w6,s5 _ fun k hk hk2 h=>by have:=tableN_inj h (by omega) (by omega);omega];exact w7
     refine ⟨?_,⟨by have:=s6.cnt;omega,by have:=s6.cnt;omega⟩,?_,?_,?_,?_,?_,?_⟩
     ·rw [List.map_cons,List.flatten_cons,s6.ents,← List.map_append,hsp]
     ·intro p hp
      rcases List.mem_cons.1 hp with rfl|hp
      ·exact ⟨num+1,by omega,by have:=s6.cnt;omega,w6⟩
      ·obtain ⟨k,k1,k2,k3⟩:=s6.names p hp
       exact ⟨k,by omega,k2,k3⟩
     ·rw [List.map_cons,List.nodup_cons]
      refine ⟨fun h=>?_,s6.nodup⟩
      obtain ⟨p,hp,hpe⟩:=List.mem_map.1 h
      obtain ⟨k,k1,k2,k3⟩:=s6.names p hp
      have hcnt:=s6.cnt
      have:=tableN_inj (k3.symm.trans (hpe.trans w6)) (by omega) (by omega)
      omega
     ·intro p hp
      rcases List.mem_cons.1 hp with rfl|hp
      ·exact ⟨fb,cs,hT2,w8⟩
      ·exact s6.on p hp
     ·rw [List.pairwise_cons]
      refine ⟨fun p hp a ha b hb=>?_,s6.sep⟩
      obtain ⟨a',ha',rfl⟩:=List.mem_map.1 ha
      have hb2:b∈(ls.map (·.2)).flatten:=List.mem_flatten.2 ⟨p.2,List.mem_map.2 ⟨p,hp,rfl⟩,hb⟩
      rw [s6.ents] at hb2
      obtain ⟨b',hb',rfl⟩:=List.mem_map.1 hb2
      rw [normE_key,normE_key];exact c4 a' ha' b' hb'
     ·intro p hp
      rcases List.mem_cons.1 hp with rfl|hp
      ·simp only [List.length_map,htl];exact c3
      ·exact s6.few p hp
     ·intro m hm
      rcases s6.known m hm with h|h
      ·by_cases hmn:m=tableN (num+1)
       ·exact .inr (by rw [List.map_cons,w6,hmn];exact List.mem_cons_self)
       ·exact .inl (by rw [← w3 m hmn];exact h)
      ·exact .inr (List.mem_cons_of_mem _ h)
end
end Go.Proofs.YtecibefflhomdaaGreatDoor
