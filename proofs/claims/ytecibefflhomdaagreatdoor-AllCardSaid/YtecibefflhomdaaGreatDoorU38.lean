/-
  Part 38: PLAIN the document's answer, and the store beside it; PLAIN closed and opened again; PLAIN the document's functions as they are written.
-/
import Derived.Test.YtecibefflhomdaaGreatDoorU37
set_option maxHeartbeats 8000000
set_option maxRecDepth 100000
set_option linter.all false
namespace Go.Proofs.YtecibefflhomdaaGreatDoor
open Go
section
open Go.Proofs.YtecibefflhomdaaGreatDoor.Pure
structure RSt where
 pairs:List (Bs×Bs)
 snaps:List (Option (List (Bs×Bs)))
 closed:Bool
def refAt (r:RSt) (n:Int):Option (List (Bs×Bs)):=if 1≤n∧n≤(r.snaps.length:Int) then r.snaps.getD (n-1).toNat none else none
def refGet (ps:List (Bs×Bs)) (key:Bs):Except Err (Option Bs):=if key.length=0∨8<key.length then .error (none,3) else .ok (lookP ps key)
def live (r:RSt):Nat:=(r.snaps.filter Option.isSome).length
structure Inv (C:Prop) (P:St→Lvs→Prop) (s:St) (D:PDisk) (r:RSt) (E B:Nat):Prop where
 run:∃ q0 Ls bs,Run C s D q0 Ls bs E∧file D s.log=some (logBytes q0 bs)∧bs.length≤B∧(∀ k,Sees s Ls latestN k=lookP r.pairs k) ∧
  (∀ p∈s.snaps,p.2≤s.seq∧∃ ps,refAt r p.1=some ps∧SrtP ps∧∀ k,Sees s Ls p.2 k=lookP ps k)∧P s Ls
 srt:SrtP r.pairs
 snap:s.snap=r.snaps.length
 keys:(s.snaps.map (·.1)).Nodup
 dead:∀ n,aget s.snaps n=none→refAt r n=none
 live:s.snaps.length=live r
 seq:s.seq≤E
section
variable {C:Prop} {P:St→Lvs→Prop} {s:St} {D:PDisk} {r:RSt} {E B q0:Nat} {Ls:Lvs} {bs:List (List Chg)}
theorem Run.same {D':PDisk} (h:Run C s D q0 Ls bs E) (k:Same D D'):Run C s D' q0 Ls bs E:=
 ⟨h.core.files k.later.ok fun m _=>k.file m,h.mem,h.seq,by rw [k.file];exact h.logf,fun m hm=>h.known m (by rw [← k.file];exact hm),by rw [k.moves];exact h.moves,h.snaps⟩
theorem Inv.same {D':PDisk} (h:Inv C P s D r E B) (k:Same D D'):Inv C P s D' r E B:=by
 obtain ⟨q0,Ls,bs,h1,h2,h3⟩:=h.run
 exact ⟨⟨q0,Ls,bs,h1.same k,by rw [k.file];exact h2,h3⟩,h.srt,h.snap,h.keys,h.dead,h.live,h.seq⟩
theorem Inv.mem_le (h:Inv C P s D r E B):s.mem.length≤E:=by
 obtain ⟨q0,Ls,bs,h1,_⟩:=h.run
 have:=h1.core.cntE;rw [h1.memOk.2];omega
theorem Inv.tabs_le (h:Inv C P s D r E B) (hE:E≤1048576):(tabsS s).length≤1048576:=by
 obtain ⟨q0,Ls,bs,h1,_⟩:=h.run
 obtain ⟨ps,p1,_,_,p4,_⟩:=tabsS_eq h1.levels h1.core.lv.len
 rw [p1,List.length_map,p4];exact h1.core.tabs hE
theorem Inv.at (h:Inv C P s D r E B) {n:Int} {q:Nat} (hg:aget s.snaps n=some q):∃ ps,refAt r n=some ps∧SrtP ps∧q≤s.seq:=by
 obtain ⟨q0,Ls,bs,_,_,_,_,h1,_⟩:=h.run
 obtain ⟨a,ps,b,c,_⟩:=h1 _ (aget_mem hg)
 exact ⟨ps,b,c,a⟩
theorem get_inv (h:Inv C P s D r E B) (key:Bs):∃ x D',getS s D key latestN=some (x,D')∧Same D D'∧Inv C P s D' r E B∧((∃ e,x=.error e∧Bad C D e)∨x=refGet r.pairs key):=by
 obtain ⟨q0,Ls,bs,h1,_,_,h4,_⟩:=h.run
 obtain ⟨x,D',k1,k2,k3⟩:=getS_law h1 key latestN
 refine ⟨x,D',k1,k2,h.same k2,?_⟩
 unfold refGet
 rcases k3 with ⟨k3,k4⟩|⟨k3,⟨e,k4,k5⟩|k4⟩
 ·exact .inr (by rw [if_pos k3];exact k4)
 ·exact .inl ⟨e,k4,k5⟩
 ·refine .inr ?_
  rw [if_neg k3,k4]
  congr 1
  exact h4 key
theorem getAt_inv (h:Inv C P s D r E B) {n:Int} {q:Nat} {ps:List (Bs×Bs)} (hg:aget s.snaps n=some q) (hr:refAt r n=some ps) (key:Bs) :
 ∃ x D',getS s D key q=some (x,D')∧Same D D'∧Inv C P s D' r E B∧((∃ e,x=.error e∧Bad C D e)∨x=refGet ps key):=by
 obtain ⟨q0,Ls,bs,h1,_,_,_,h5,_⟩:=h.run
 obtain ⟨_,ps',a,b,c⟩:=h5 _ (aget_mem hg)
 rw [hr] at a
 obtain rfl:=Option.some.inj a
 obtain ⟨x,D',k1,k2,k3⟩:=getS_law h1 key q
 refine ⟨x,D',k1,k2,h.same k2,?_⟩
 unfold refGet
 rcases k3 with ⟨k3,k4⟩|⟨k3,⟨e,k4,k5⟩|k4⟩
 ·exact .inr (by rw [if_pos k3];exact k4)
 ·exact .inl ⟨e,k4,k5⟩
 ·refine .inr ?_
  rw [if_neg k3,k4]
  congr 1
  exact c key
theorem scan_inv (h:Inv C P s D r E B) (hE:E≤1048576) (lo hi:Bs) (limit:Int):∃ x D',scanS s D lo hi limit latestN=some (x,D')∧Same D D'∧Inv C P s D' r E B∧((∃ e,x=.error e∧Bad C D e)∨x=.ok (betweenP r.pairs lo hi limit)):=by
 obtain ⟨q0,Ls,bs,h1,_,_,h4,_⟩:=h.run
 obtain ⟨x,D',k1,k2,k3⟩:=scanS_law h1 hE lo hi limit latestN h.srt h4
 exact ⟨x,D',k1,k2,h.same k2,k3⟩
theorem scanAt_inv (h:Inv C P s D r E B) (hE:E≤1048576) {n:Int} {q:Nat} {ps:List (Bs×Bs)} (hg:aget s.snaps n=some q) (hr:refAt r n=some ps) (lo hi:Bs) (limit:Int) :
 ∃ x D',scanS s D lo hi limit q=some (x,D')∧Same D D'∧Inv C P s D' r E B∧((∃ e,x=.error e∧Bad C D e)∨x=.ok (betweenP ps lo hi limit)):=by
 obtain ⟨q0,Ls,bs,h1,_,_,_,h5,_⟩:=h.run
 obtain ⟨_,ps',a,b,c⟩:=h5 _ (aget_mem hg)
 rw [hr] at a
 obtain rfl:=Option.some.inj a
 obtain ⟨x,D',k1,k2,k3⟩:=scanS_law h1 hE lo hi limit q b c
 exact ⟨x,D',k1,k2,h.same k2,k3⟩
theorem refAt_push (r:RSt) (x:Option (List (Bs×Bs))) (n:Int):refAt { r with snaps:=r.snaps++[x] } n=if n=(r.snaps.length:Int)+1 then x else refAt r n:=by
 unfold refAt
 dsimp only
 rw [List.length_append,List.length_singleton]
 by_cases h:n=(r.snaps.length:Int)+1
 ·rw [if_pos h,if_pos ⟨by omega,by omega⟩]
  have:(n-1).toNat=r.snaps.length:=by omega
  rw [this];simp
 ·rw [if_neg h]
  by_cases h1:1≤n∧n≤(r.snaps.length:Int)
  ·rw [if_pos h1,if_pos ⟨h1.1,by omega⟩]
   rw [List.getD_eq_getElem?_getD,List.getD_eq_getElem?_getD,List.getElem?_append_left (by omega)]
  ·rw [if_neg h1,if_neg (by omega)]
theorem snap_inv (h:Inv C P s D r E B) (hP:∀ s' Ls,P s Ls→s'.levels=s.levels→s'.mem=s.mem→P s' Ls) (h4:s.snaps.length≠4) :
 Inv C P { s with snap:=s.snap+1,snaps:=aput s.snaps ((s.snap+1:Nat):Int) s.seq } D { r with snaps:=r.snaps++[some r.pairs] } E B:=by
 obtain ⟨q0,Ls,bs,h1,h2,h3,h5,h6,h7⟩:=h.run
 have hsn:=h.snap
 have hnew:aget s.snaps ((s.snap+1:Nat):Int)=none:=by
  cases hg:aget s.snaps ((s.snap+1:Nat):Int) with
  | none=>rfl
  | some q=>
   obtain ⟨_,ps,a,_⟩:=h6 _ (aget_mem hg)
   unfold refAt at a
   rw [if_neg (by dsimp only;omega)] at a;cases a
 have hput:=put_new hnew s.seq
 rw [hput]
 have h8:=h1.snaps
 refine ⟨⟨q0,Ls,bs,⟨h1.core.congr rfl rfl rfl rfl,h1.mem,h1.seq,h1.logf,h1.known,h1.moves,?_⟩,h2,h3,h5,?_,?_⟩,h.srt,?_,?_,?_,?_,h.seq⟩
 ·show (s.snaps++[_]).length≤4
  rw [List.length_append,List.length_singleton];omega
 ·intro p hp
  rcases List.mem_append.1 hp with hp|hp
  ·obtain ⟨a,ps,b,c,d⟩:=h6 p hp
   refine ⟨a,ps,?_,c,d⟩
   rw [refAt_push,if_neg fun hh=>?_]
   ·exact b
   ·unfold refAt at b
    rw [if_neg (by omega)] at b;cases b
  ·simp at hp;subst hp
   refine ⟨Nat.le_refl _,r.pairs,?_,h.srt,fun k=>?_⟩
   ·rw [refAt_push,if_pos (by dsimp only;omega)]
   ·rw [← h5 k]
    have hq:q0+total bs≤4611686018427387904:=h1.core.seq
    have hs1:=h1.seq
    have key:∀ l,(∀ e∈l,e.seq≤s.seq)→vis l k s.seq=vis l k latestN:=by
     intro l hl
     unfold vis
     have hlat:latestN=18446744073709551615:=rfl
     induction l with
     | nil=>rfl
     | cons e t ih=>
      have h9:=hl e List.mem_cons_self
      rw [List.find?_cons,List.find?_cons,ih fun x hx=>hl x (List.mem_cons_of_mem _ hx)]
      have:(decide (e.key=k)&&decide (e.seq≤s.seq))=(decide (e.key=k)&&decide (e.seq≤latestN)):=by
       rw [show decide (e.seq≤s.seq)=true by simp [h9],show decide (e.seq≤latestN)=true by simp;omega]
      rw [this]
    have keyL:∀ ls:List (List Ent),(∀ l∈ls,∀ e∈l,e.seq≤s.seq)→visL ls k s.seq=visL ls k latestN:=by
     intro ls
     induction ls with
     | nil=>intro _;rfl
     | cons l t ih=>intro hh;rw [visL_cons,visL_cons,key l (hh l List.mem_cons_self),ih fun x hx=>hh x (List.mem_cons_of_mem _ hx)]
    have hall:∀ l∈s.mem::srcs Ls,∀ e∈l,e.seq≤s.seq:=fun l hl e he=>by
     rcases List.mem_cons.1 hl with rfl|hl
     ·exact (h1.memOk.1.seq e he).2
     ·obtain ⟨p,hp,rfl⟩:=srcs_mem hl h1.core.lv.len
      have h9:=h1.core.seqs p hp e he
      have h9:e.seq≤q0:=h9
      omega
    show valE (visL (s.mem::srcs Ls) k s.seq)=valE (visL (s.mem::srcs Ls) k latestN)
    rw [keyL _ hall]
 ·exact hP _ _ h7 rfl rfl
 ·show s.snap+1=(r.snaps++[_]).length
  rw [List.length_append,List.length_singleton,hsn]
 ·show ((s.snaps++[(((s.snap+1:Nat):Int),s.seq)]).map (·.1)).Nodup
  rw [List.map_append,List.nodup_append]
  refine ⟨h.keys,by simp,fun a ha b hb hab=>?_⟩
  simp at hb
  have:=aget_none_iff.1 hnew
  rw [hab,hb] at ha
  exact this (by simpa using ha)
 ·intro n hn
  rw [← hput,aget_put] at hn
  by_cases hh:n=((s.snap+1:Nat):Int)
  ·rw [if_pos hh] at hn;cases hn
  ·rw [if_neg hh] at hn
   rw [refAt_push,if_neg (by omega)]
   exact h.dead n hn
 ·show (s.snaps++[_]).length=YtecibefflhomdaaGreatDoor.live { r with snaps:=r.snaps++[some r.pairs] }
  have:=h.live
  unfold YtecibefflhomdaaGreatDoor.live at this ⊢
  simp [List.filter_append];omega
theorem refAt_set (r:RSt) (m n:Int) (hm:1≤m∧m≤(r.snaps.length:Int)):refAt { r with snaps:=r.snaps.set (m-1).toNat none } n=if n=m then none else refAt r n:=by
 unfold refAt
 dsimp only
 rw [List.length_set]
 by_cases h:n=m
 ·rw [if_pos h]
  subst h
  have hlt:(n-1).toNat<r.snaps.length:=by omega
  rw [if_pos hm,List.getD_eq_getElem?_getD,List.getElem?_set,if_pos rfl,if_pos hlt];rfl
 ·rw [if_neg h]
  by_cases h1:1≤n∧n≤(r.snaps.length:Int)
  ·rw [if_pos h1,if_pos h1,List.getD_eq_getElem?_getD,List.getD_eq_getElem?_getD,List.getElem?_set,if_neg (by omega)]
  ·rw [if_neg h1,if_neg h1]
theorem live_set:∀ (l:List (Option (List (Bs×Bs)))) (i:Nat) (x:List (Bs×Bs)),l[i]?=some (some x)→((l.set i none).filter Option.isSome).length+1=(l.filter Option.isSome).length
 | [],_,_,h=>by simp at h
 | a::l,0,x,h=>by simp at h;subst h;simp
 | a::l,i+1,x,h=>by
  have:=live_set l i x (by simpa using h)
  rw [List.set_cons_succ]
  cases a<;>simp at this ⊢<;>omega
theorem del_len {κ α:Type} [DecidableEq κ]:∀ (l:List (κ×α)) (x:κ) (u:α),aget l x=some u→(adel l x).length+1=l.length
 | [],_,_,h=>by cases h
 | (k,v)::l,x,u,h=>by
  unfold aget at h
  unfold adel
  by_cases hk:x=k
  ·rw [if_pos hk];rfl
  ·rw [if_neg hk] at h ⊢
   have:=del_len l x u h
   simp only [List.length_cons];omega
theorem rel_inv (h:Inv C P s D r E B) (hP:∀ s' Ls,P s Ls→s'.levels=s.levels→s'.mem=s.mem→P s' Ls) {n:Int} {q:Nat} (hg:aget s.snaps n=some q) :
 Inv C P { s with snaps:=adel s.snaps n } D { r with snaps:=r.snaps.set (n-1).toNat none } E B:=by
 obtain ⟨q0,Ls,bs,h1,h2,h3,h5,h6,h7⟩:=h.run
 obtain ⟨_,ps,a,_⟩:=h6 _ (aget_mem hg)
 have hn:1≤n∧n≤(r.snaps.length:Int):=by
  unfold refAt at a
  by_cases hh:1≤n∧n≤(r.snaps.length:Int)
  ·exact hh
  ·rw [if_neg hh] at a;cases a
 have hget:r.snaps[(n-1).toNat]?=some (some ps):=by
  unfold refAt at a
  rw [if_pos hn,List.getD_eq_getElem?_getD] at a
  dsimp only at a
  have hlt:(n-1).toNat<r.snaps.length:=by omega
  rw [List.getElem?_eq_getElem hlt] at a ⊢
  have a:r.snaps[(n-1).toNat]=some ps:=a
  rw [a]
 have hdl:=del_len _ _ _ hg
 have hsl:=h1.snaps
 refine ⟨⟨q0,Ls,bs,⟨h1.core.congr rfl rfl rfl rfl,h1.mem,h1.seq,h1.logf,h1.known,h1.moves,?_⟩,h2,h3,h5,?_,hP _ _ h7 rfl rfl⟩,h.srt,?_,nodup_del h.keys n,?_,?_,h.seq⟩
 ·show (adel s.snaps n).length≤4;omega
 ·intro p hp
  have hp':=(adel_sub _ _).subset hp
  obtain ⟨b1,ps',b2,b3⟩:=h6 p hp'
  refine ⟨b1,ps',?_,b3⟩
  have hne:p.1≠n:=fun hh=>by
   have h8:=aget_of_mem (nodup_del h.keys n) hp
   rw [aget_del _ _ h.keys,if_pos hh] at h8
   cases h8
  rw [refAt_set r n p.1 hn,if_neg hne];exact b2
 ·show s.snap=(r.snaps.set _ none).length
  rw [List.length_set];exact h.snap
 ·intro m hm
  rw [aget_del _ _ h.keys] at hm
  rw [refAt_set r n m hn]
  by_cases hh:m=n
  ·rw [if_pos hh]
  ·rw [if_neg hh] at hm ⊢
   exact h.dead m hm
 ·show (adel s.snaps n).length=YtecibefflhomdaaGreatDoor.live { r with snaps:=r.snaps.set (n-1).toNat none }
  have h8:=h.live
  have h9:=live_set _ _ _ hget
  unfold YtecibefflhomdaaGreatDoor.live at h8 ⊢
  dsimp only at h8 h9 ⊢
  omega
end
end
section
open Go.Proofs.YtecibefflhomdaaGreatDoor.Pure
structure IsCopy (D D':PDisk):Prop where
 ok:D'.Ok
 file:∀ m,file D' m=file D m
 room:D'.room=D.room
 bad:D'.bad=0
 moves:D'.moves=[]
 used:D'.used=D.used
def OkP (o:Opt) (s:St) (Ls:Lvs):Prop:=s.mem.length<o.memory∧Settled o Ls
theorem OkP.keep {o:Opt}:∀ s' s Ls,OkP o s Ls→s'.levels=s.levels→s'.mem=s.mem→OkP o s' Ls:=fun s' s Ls h _ hm=>⟨by rw [hm];exact h.1,h.2⟩
structure Rest (C:Prop) (D:PDisk) (ps:List (Bs×Bs)) (E B N:Nat):Prop where
 rec_:∃ c Ls bs,RecM C D c Ls bs E∧(∀ k,seeR c Ls bs k=lookP ps k)∧bs.length≤B∧c.number≤N∧c.seq+total bs≤E∧(∀ b,file D c.log=some b→b.length≤1073741824)
 srt:SrtP ps
 small:D.moves.length+D.now.length≤4194304
section
variable {C:Prop} {P:St→Lvs→Prop} {s:St} {D D':PDisk} {r:RSt} {E B N q0:Nat} {Ls:Lvs} {bs:List (List Chg)} {o:Opt} {ps:List (Bs×Bs)}
theorem now_le (hd:D.Ok) {ns:List Bs} (h:∀ m,file D m≠none→m∈ns):D.now.length≤ns.length:=by
 rw [← listD_len]
 exact nodup_le (listD_nodup hd) fun m hm=>h m (listD_mem.1 hm)
theorem rest_of_inv (h:Inv C P s D r E B) (k:IsCopy D D') (hE:E≤1048576) (hB:B≤16777216):Rest C D' r.pairs E B s.number:=by
 obtain ⟨q0,Ls,bs,h1,h2,h3,h5,h6,h7⟩:=h.run
 have hR:RecM C D' { s with seq:=q0 } Ls bs E:=h1.core.files k.ok fun m _=>k.file m
 refine ⟨⟨_,Ls,bs,hR,fun x=>(h1.seeR x).trans (h5 x),h3,Nat.le_refl _,?_,fun b hb=>?_⟩,h.srt,?_⟩
 ·have:=h.seq;rw [h1.seq] at this;exact this
 ·have hb:file D' s.log=some b:=hb
  rw [k.file,h2] at hb
  obtain rfl:=Option.some.inj hb
  have a:=logBytes_le bs q0 h1.core.bsok h1.core.seq
  have b:=h1.core.cntE
  omega
 ·rw [k.moves]
  have:=now_le k.ok (ns:=stateN::s.log::namesOf Ls) fun m hm=>by
   rw [k.file] at hm
   rcases h1.known m hm with h|h|h
   ·rw [h];exact List.mem_cons_self
   ·rw [h];exact List.mem_cons_of_mem _ List.mem_cons_self
   ·exact List.mem_cons_of_mem _ (List.mem_cons_of_mem _ h)
  have h8:=h1.core.tabs hE
  simp only [List.length_cons,namesOf,List.length_map,List.length_nil] at this ⊢
  omega
def OpenInv (C:Prop) (o:Opt) (D:PDisk) (ps:List (Bs×Bs)) (E N:Nat) (x:Except Err St) (D':PDisk):Prop:=
 Later D D'∧((∃ e,x=.error e∧Flt C D e∧∃ c' Ls' bs',RecM C D' c' Ls' bs' E∧c'.seq+total bs'≤E∧∀ k,seeR c' Ls' bs' k=lookP ps k)∨∃ s,x=.ok s∧Inv C (OkP o) s D' ⟨ps,[],false⟩ E 0∧s.number≤N)
theorem inv_of_open {q:Nat} {see:Bs→Option Bs} {x:Except Err St} (hom:1≤o.memory) (h:OpenEnd C o D q see N E x D') (hsee:∀ k,see k=lookP ps k) (hps:SrtP ps) (hq:q≤E):OpenInv C o D ps E N x D':=by
 obtain ⟨h1,h2⟩:=h
 refine ⟨h1,?_⟩
 rcases h2 with ⟨e,a,b,c',Ls',bs',c1,c2,c3⟩|⟨s',Ls',a1,a2,a3,a4,a5,a6,a7,a8,a9,a10⟩
 ·exact .inl ⟨e,a,b,c',Ls',bs',c1,by omega,fun k=>(c3 k).trans (hsee k)⟩
 ·refine .inr ⟨s',a1,⟨⟨q,Ls',[],a2,by rw [a9];rfl,by simp,fun k=>?_,fun p hp=>(by rw [a5] at hp;cases hp),by rw [a4];simp;omega,a10⟩,hps,by rw [a6];rfl,by rw [a5];simp,fun n _=>?_,by rw [a5];rfl,by omega⟩,a8⟩
  ·unfold Sees
   rw [a4,visL_cons]
   exact (a3 k).trans (hsee k)
  ·unfold refAt;rw [if_neg (by simp;omega)]
theorem open_inv (ho:1≤o.tables) (hom:1≤o.memory) (h:Rest C D ps E B N) (hE:E≤1048576) (hB:B≤16777216) (hN:N+4*E+1≤4611686018427387904) :
 ∃ x D',openS o D=some (x,D')∧OpenInv C o D ps E (N+4*E+1) x D':=by
 obtain ⟨c,Ls,bs,h1,h2,h3,h4,h5,h6⟩:=h.rec_
 obtain ⟨x,D',k1,k2⟩:=open_law ho h1 h6 hE (by omega) h.small (by omega)
 refine ⟨x,D',k1,inv_of_open hom ⟨k2.1,?_⟩ h2 h.srt h5⟩
 rcases k2.2 with k|⟨s',Ls',a1,a2,a3,a4,a5,a6,a7,a8,a9⟩
 ·exact .inl k
 ·exact .inr ⟨s',Ls',a1,a2,a3,a4,a5,a6,a7,by omega,a9⟩
theorem open0_inv (ho:1≤o.tables) (hom:1≤o.memory) (hd:D.Ok) (h0:∀ m,file D m=none) (hb:D.bad=0) (hm:D.moves=[]) :
 ∃ x D',openS o D=some (x,D')∧Later D D'∧((∃ e,x=.error e∧Flt False D e)∨∃ s,x=.ok s∧Inv False (OkP o) s D' ⟨[],[],false⟩ 0 0∧s.number≤1):=by
 obtain ⟨e,D1,w1,w2,w3⟩:=wholeD_missing hd (h0 stateN)
 have hb1:D1.bad≤0:=by have:=w2.later.bad;omega
 have w3:e=(some stateN,10):=by
  rcases w3 with w3|w3
  ·have:=w3.2;omega
  ·exact w3
 subst w3
 have hl:loadS D=some (.ok st0,D1):=by unfold loadS;rw [w1];rfl
 have hnow:D1.now=[]:=by
  have:=now_le w2.later.ok (ns:=[]) fun m hm=>by rw [w2.file,h0] at hm;exact absurd rfl hm
  exact List.eq_nil_of_length_eq_zero (by simpa using this)
 have hcl:cleanS st0 D1=some (.ok st0,D1):=by unfold cleanS listD;rw [hnow,if_pos (by simp)];simp [sortB,runOps]
 have hlv0:LvOk st0.number [[],[],[],[]]:=⟨rfl,by simp,by simp [namesOf],fun i L _ hL=>by
  rcases i with _|_|_|_|i<;>simp at hL<;>subst hL<;>exact List.Pairwise.nil⟩
 have hused:D1.used=0:=by unfold PDisk.used;rw [hnow];rfl
 obtain ⟨x,D3,c1,c2,c3⟩:=commitT_law (C:=False) (s:=st0) (Ls:=[[],[],[],[]]) rfl hlv0 (by simp) (by show 0+1≤_;omega) (by show 0≤_;omega) w2.later.ok (by rw [w2.file,h0]) (by rw [w2.file,h0]) (.inl ⟨rfl,by rw [w2.file,h0]⟩) (by rw [w2.moves,hm];simp) (by rw [hused];omega)
 have hopen:openS o D=bindO (commitS st0 D1 true) fun s D=>settleS o s D:=by
  unfold openS
  rw [hl]
  show bindO (cleanS st0 D1) _=_
  rw [hcl]
  show renewS o st0 D1=_
  unfold renewS
  rw [if_neg (by show ¬ 0<0;omega)]
 rw [hopen,c1]
 rcases c3 with ⟨rfl,c3,c4⟩|⟨e,rfl,c3,c4⟩
 ·have hfl:file D3 (logN 1)=some []:=by rw [c4,if_neg (log_state _)];exact if_pos rfl
  have hrun:Run False { st0 with number:=st0.number+1,log:=logN (st0.number+1) } D3 0 [[],[],[],[]] [] 0:=by
   refine ⟨⟨c2.ok,rfl,by rw [c4,if_pos rfl];rfl,by show 0+1≤_;omega,by simp [total,st0],by simp [cnt,total],⟨rfl,by simp,by simp [namesOf],hlv0.sep⟩,fun p hp=>by simp at hp,by simp,by unfold srcs;simp,⟨1,Nat.le_refl _,rfl⟩,⟨[],hfl,openB_nil⟩,by simp⟩,rfl,rfl,⟨[],hfl,by simp⟩,fun m hm=>?_,by omega,by show [].length≤4;simp⟩
   show m=stateN∨m=logN 1∨_
   rw [c4] at hm
   by_cases h1:m=stateN
   ·exact .inl h1
   rw [if_neg h1] at hm
   by_cases h2:m=logN (st0.number+1)
   ·exact .inr (.inl h2)
   rw [if_neg h2] at hm
   by_cases h3:m=st0.log
   ·exact absurd (if_pos h3) hm
   ·rw [if_neg h3,w2.file,h0] at hm;exact absurd rfl hm
  dsimp only [bindO]
  obtain ⟨x,D4,s1,l3,s2⟩:=settle_law ho hrun (by simp [total]) (by omega) (by simp) (by show 0+1+3*0≤_;omega)
  have l:=(w2.later.trans c2).trans l3
  refine ⟨x,D4,s1,l,?_⟩
  rcases s2 with ⟨e,a1,a2,_⟩|⟨s',Ls',a1,a2,a3,a4,a5,a6,a7⟩
  ·exact .inl ⟨e,a1,a2.before (w2.later.trans c2)⟩
  ·have hm0:s'.mem=[]:=a4.mem
   have hs0:s'.snaps=[]:=a4.snaps
   have hlog:s'.log=logN 1:=a5.1
   have hfl4:file D4 (logN 1)=some []:=by
    have:=a5.2
    have this:file D4 (logN 1)=file D3 (logN 1):=this
    rw [this];exact hfl
   refine .inr ⟨s',a1,⟨⟨0,Ls',[],a2,by rw [hlog,hfl4];rfl,by simp,fun k=>?_,fun p hp=>(by rw [hs0] at hp;cases hp),by rw [hm0];simp;omega,a7⟩,List.Pairwise.nil,by rw [a4.snap];rfl,by rw [hs0];simp,fun n _=>?_,by rw [hs0];rfl,by rw [a4.seq];exact Nat.le_refl 0⟩,by have a6:s'.number≤0+1+3*0:=a6;omega⟩
   ·unfold Sees
    rw [hm0,visL_cons]
    show valE (visL (srcs Ls') k latestN)=none
    rw [a3 latestN List.mem_cons_self k];rfl
   ·unfold refAt;rw [if_neg (by simp;omega)]
 ·exact ⟨_,_,rfl,w2.later.trans c2,.inl ⟨e,rfl,c3.before w2.later⟩⟩
structure Calm (D:PDisk):Prop where
 bad:D.bad=0
 room:D.room=1099511627776
theorem Calm.later (h:Calm D) (k:Later D D'):Calm D':=⟨by have:=k.bad;have:=k.ok.bad0;have:=h.bad;omega,by rw [k.room];exact h.room⟩
theorem Calm.copy (h:Calm D) (k:IsCopy D D'):Calm D':=⟨k.bad,by rw [k.room];exact h.room⟩
theorem Calm.noFlt (h:Calm D) {e:Err} (k:Flt False D e):False:=by
 rcases k with (k|⟨k,_⟩)|⟨_,k⟩
 ·have:=k.2;have:=h.bad;omega
 ·exact k
 ·have:=h.room;omega
theorem Calm.noBad (h:Calm D) {e:Err} (k:Bad False D e):False:=h.noFlt (.inl k)
theorem write_inv {l:List Chg} {sync:Bool} (ho:1≤o.tables) (hom:1≤o.memory) (h:Inv C (OkP o) s D r E B) (hl:BOk l) (hE:E+l.length≤1048576) (hB:B<16777216) (hn:s.number+4*(E+l.length)+1≤4611686018427387904) :
 ∃ x D',writeS o s D l sync=some (x,D')∧Later D D' ∧
  ((∃ e,x=.error e∧Flt C D e∧∃ c' Ls' bs',RecM C D' c' Ls' bs' (E+l.length)∧c'.seq+total bs'≤E+l.length∧((∀ k,seeR c' Ls' bs' k=lookP r.pairs k)∨∀ k,seeR c' Ls' bs' k=lookP (doP r.pairs l) k)) ∨
   ∃ s',x=.ok s'∧Inv C (OkP o) s' D' { r with pairs:=doP r.pairs l } (E+l.length) (B+1)∧s'.number≤s.number+(4*(E+l.length)+1)):=by
 have hsq:=h.seq
 obtain ⟨q0,Ls,bs,h1,h2,h3,h5,h6,h7⟩:=h.run
 have hw:∀ q0 Ls bs,Run C s D q0 Ls bs E→file D s.log=some (logBytes q0 bs)→bs.length≤B→(∀ k,Sees s Ls latestN k=lookP r.pairs k)→OkP o s Ls →
  ∃ x D',writeS o s D l sync=some (x,D')∧CallEnd C s D Ls (fun k=>lookP r.pairs k) (s.seq+l.length) (fun k=>lookP (doP r.pairs l) k) (4*(E+l.length)+1) (E+l.length) (bs.length+1) (fun s' Ls'=>s'.mem.length<o.memory∧((Ls'=Ls)∨Settled o Ls')) x D':=fun q0 Ls bs a1 a2 a3 a4 a5=>
  write_law ho hom a1 a2 hl hE (by omega) (by omega) hn a5.1 a4 fun m hm=>by
   obtain ⟨p,hp,rfl⟩:=List.mem_map.1 hm
   obtain ⟨ps,b1,b2,b3⟩:=h.at (aget_of_mem h.keys hp)
   exact b3
 obtain ⟨x,D',k1,k2⟩:=hw q0 Ls bs h1 h2 h3 h5 h7
 refine ⟨x,D',k1,k2.1,?_⟩
 rcases k2.2 with ⟨e,rfl,b,c',Ls',bs',c1,c2⟩|⟨s',_,_,_,rfl,_⟩
 ·refine .inl ⟨e,rfl,b,c',Ls',bs',c1,?_,?_⟩
  ·rcases c2 with c2|c2
   ·have:=c2.1;omega
   ·have:=c2.1;omega
  ·rcases c2 with c2|c2
   ·exact .inl c2.2
   ·exact .inr c2.2
 ·refine .inr ⟨s',rfl,?_⟩
  obtain ⟨_,k3⟩:=k2
  rcases k3 with ⟨e,k,_⟩|⟨s2,q2,Ls',bs',k,a1,a2,a3,a4,a5,a6,a7,a8,a9,a10⟩
  ·cases k
  ·cases k
   refine ⟨⟨⟨q2,Ls',bs',a1,a2,by omega,a7,fun p hp=>?_,a10.1,?_⟩,doP_srt l h.srt,by rw [a5];exact h.snap,by rw [a4];exact h.keys,fun n hn=>h.dead n (by rw [← a4];exact hn),by rw [a4];exact h.live,by omega⟩,a6⟩
   ·rw [a4] at hp
    obtain ⟨b1,ps',b2,b3,b4⟩:=h6 p hp
    refine ⟨by omega,ps',b2,b3,fun k=>?_⟩
    rw [a8 p.2 (List.mem_map.2 ⟨p,hp,rfl⟩) k];exact b4 k
   ·rcases a10.2 with rfl|h
    ·exact h7.2
    ·exact h
theorem compact_inv (ho:1≤o.tables) (ho2:2≤o.tables) (hom:1≤o.memory) (h:Inv C (OkP o) s D r E B) (hE:E≤1048576) (hB:B≤16777216) (hn:s.number+5*E+1≤4611686018427387904) :
 ∃ x D',compactS o s D=some (x,D')∧Later D D' ∧
  ((∃ e,x=.error e∧Flt C D e∧∃ c' Ls' bs',RecM C D' c' Ls' bs' E∧c'.seq+total bs'≤E∧∀ k,seeR c' Ls' bs' k=lookP r.pairs k) ∨
   ∃ s',x=.ok s'∧Inv C (fun s' Ls'=>OkP o s' Ls'∧s'.mem=[]∧CompShp (momentsS s) Ls') s' D' r E B∧s'.number≤s.number+(5*E+1)):=by
 have hsq:=h.seq
 obtain ⟨q0,Ls,bs,h1,h2,h3,h5,h6,h7⟩:=h.run
 obtain ⟨x,D',k1,k2⟩:=compact_law ho h1 h2 hE (by omega) hn
 refine ⟨x,D',k1,k2.1,?_⟩
 rcases k2.2 with ⟨e,rfl,b,c',Ls',bs',c1,c2⟩|⟨s',q2,Ls',bs',rfl,a1,a2,a3,a4,a5,a6,a7,a8,a9,a10,a11⟩
 ·refine .inl ⟨e,rfl,b,c',Ls',bs',c1,?_,fun k=>?_⟩
  ·rcases c2 with c2|c2
   ·have:=c2.1;omega
   ·have:=c2.1;omega
  ·rcases c2 with c2|c2
   ·rw [c2.2 k];exact h5 k
   ·rw [c2.2 k];exact h5 k
 ·refine .inr ⟨s',rfl,⟨⟨q2,Ls',bs',a1,a2,by omega,fun k=>(a7 k).trans (h5 k),fun p hp=>?_,⟨by rw [a10];simp;omega,?_⟩,a10,a11⟩,h.srt,by rw [a5];exact h.snap,by rw [a4];exact h.keys,fun n hn=>h.dead n (by rw [← a4];exact hn),by rw [a4];exact h.live,by omega⟩,a6⟩
  ·rw [a4] at hp
   obtain ⟨b1,ps',b2,b3,b4⟩:=h6 p hp
   refine ⟨by omega,ps',b2,b3,fun k=>?_⟩
   rw [a8 p.2 (List.mem_map.2 ⟨p,hp,rfl⟩) k];exact b4 k
  ·obtain ⟨R,ls,_,rfl,_⟩:=a11
   exact ⟨by simp;omega,by simp,by simp⟩
theorem Inv.weak {Q:St→Lvs→Prop} (h:Inv C P s D r E B) (hp:∀ Ls,P s Ls→Q s Ls):Inv C Q s D r E B:=by
 obtain ⟨q0,Ls,bs,h1,h2,h3,h5,h6,h7⟩:=h.run
 exact ⟨⟨q0,Ls,bs,h1,h2,h3,h5,h6,hp Ls h7⟩,h.srt,h.snap,h.keys,h.dead,h.live,h.seq⟩
theorem Inv.more {E' B':Nat} (h:Inv C P s D r E B) (hE:E≤E') (hB:B≤B'):Inv C P s D r E' B':=by
 obtain ⟨q0,Ls,bs,h1,h2,h3,h5,h6,h7⟩:=h.run
 exact ⟨⟨q0,Ls,bs,h1.more hE,h2,Nat.le_trans h3 hB,h5,h6,h7⟩,h.srt,h.snap,h.keys,h.dead,h.live,Nat.le_trans h.seq hE⟩
theorem close_inv (h:Inv C P s D r E B):Later D (syncD D s.log)∧Inv C P s (syncD D s.log) r E B∧(findE D s.log=none∨∃ e,findE D s.log=some e∧Trip D e):=by
 obtain ⟨q0,Ls,bs,h1,h2,h3⟩:=h.run
 obtain ⟨y1,y2,y3,y4⟩:=sync_law h1.core.ok s.log
 refine ⟨y3,⟨⟨q0,Ls,bs,⟨h1.core.files y3.ok fun m _=>y1 m,h1.mem,h1.seq,by rw [y1];exact h1.logf,fun m hm=>h1.known m (by rw [← y1];exact hm),by rw [y4];exact h1.moves,h1.snaps⟩,by rw [y1];exact h2,h3⟩,h.srt,h.snap,h.keys,h.dead,h.live,h.seq⟩,findE_has h2⟩
end
end
section
open Go.Proofs.YtecibefflhomdaaGreatDoor.Pure
def setR (k v:Bs):Bool→List (Bs×Bs)→List (Bs×Bs)
 | put,[]=>if put=true then [] else [(k,v)]
 | put,p::r=>(if put=false∧bltB p.1 k=false then [(k,v)] else [])++(if p.1=k then [] else [p])++setR k v (put||!bltB p.1 k) r
theorem setR_put {k v:Bs}:∀ {l:List (Bs×Bs)},SrtP l→setR k v true l=(l.filter fun p=>bltB p.1 k)++l.filter fun p=>bltB k p.1
 | [],_=>rfl
 | p::r,h=>by
  have ih:=setR_put (k:=k) (v:=v) (List.pairwise_cons.1 h).2
  unfold setR
  rw [if_neg (by simp),List.nil_append,Bool.true_or,ih]
  rcases bltB_total p.1 k with h1|h1|h1
  ·rw [if_neg (fun e=>by rw [e,bltB_irrefl] at h1;cases h1),List.filter_cons,if_pos h1,List.filter_cons,if_neg (by rw [bltB_asymm h1];simp)];rfl
  ·rw [if_pos h1,List.filter_cons,if_neg (by rw [h1,bltB_irrefl];simp),List.filter_cons,if_neg (by rw [h1,bltB_irrefl];simp)];rfl
  ·have h2:r.filter (fun p=>bltB p.1 k)=[]:=List.filter_eq_nil_iff.2 fun x hx=>by
    have:=(List.pairwise_cons.1 h).1 x hx
    rw [bltB_asymm (bltB_trans h1 this)];simp
   rw [if_neg (fun e=>by rw [e,bltB_irrefl] at h1;cases h1),List.filter_cons,if_neg (by rw [bltB_asymm h1];simp),List.filter_cons,if_pos h1,h2];rfl
theorem setR_new {k v:Bs}:∀ {l:List (Bs×Bs)},SrtP l→setR k v false l=(l.filter fun p=>bltB p.1 k)++[(k,v)]++l.filter fun p=>bltB k p.1
 | [],_=>rfl
 | p::r,h=>by
  have hr:=(List.pairwise_cons.1 h).2
  unfold setR
  rcases bltB_total p.1 k with h1|h1|h1
  ·have ih:=setR_new (k:=k) (v:=v) hr
   rw [if_neg (by rw [h1];simp),if_neg (fun e=>by rw [e,bltB_irrefl] at h1;cases h1),h1]
   rw [List.filter_cons,if_pos h1,List.filter_cons,if_neg (by rw [bltB_asymm h1];simp)]
   show []++[p]++setR k v false r=_
   rw [ih];simp
  ·have h2:r.filter (fun p=>bltB p.1 k)=[]:=List.filter_eq_nil_iff.2 fun x hx=>by
    have:=(List.pairwise_cons.1 h).1 x hx
    rw [← h1,bltB_asymm this];simp
   have h3:bltB p.1 k=false:=by rw [h1,bltB_irrefl]
   rw [if_pos ⟨rfl,h3⟩,if_pos h1,h3]
   show [(k,v)]++[]++setR k v true r=_
   rw [setR_put hr,h2,List.filter_cons,if_neg (by rw [h3];simp),List.filter_cons,if_neg (by rw [h1,bltB_irrefl];simp),h2];simp
  ·have h2:r.filter (fun p=>bltB p.1 k)=[]:=List.filter_eq_nil_iff.2 fun x hx=>by
    have:=(List.pairwise_cons.1 h).1 x hx
    rw [bltB_asymm (bltB_trans h1 this)];simp
   have h3:bltB p.1 k=false:=bltB_asymm h1
   rw [if_pos ⟨rfl,h3⟩,if_neg (fun e=>by rw [e,bltB_irrefl] at h1;cases h1),h3]
   show [(k,v)]++[p]++setR k v true r=_
   rw [setR_put hr,h2,List.filter_cons,if_neg (by rw [h3];simp),List.filter_cons,if_pos h1,h2];simp
theorem setR_eq {l:List (Bs×Bs)} (h:SrtP l) (k v:Bs) (del:Bool):setR k v del l=setP l k v del:=by
 unfold setP
 cases del with
 | true=>rw [setR_put h];simp
 | false=>rw [setR_new h];simp
theorem setR_len (k v:Bs):∀ (l:List (Bs×Bs)) (put:Bool),(setR k v put l).length≤l.length+(if put=true then 0 else 1)
 | [],put=>by unfold setR;cases put<;>simp
 | p::r,put=>by
  have ih:=setR_len k v r (put||!bltB p.1 k)
  have h2:(if p.1=k then [] else [p]).length≤1:=by split<;>simp
  unfold setR
  simp only [List.length_append,List.length_cons]
  cases put with
  | true=>simp only [Bool.true_or,if_true] at ih;simp;omega
  | false=>
   cases hb:bltB p.1 k with
   | true=>rw [hb] at ih;simp at ih;simp;omega
   | false=>rw [hb] at ih;simp at ih;simp;omega
def doR (l:List (Bs×Bs)) (b:List Chg):List (Bs×Bs):=b.foldl (fun l c=>setR c.key c.val c.del l) l
theorem doR_eq:∀ (b:List Chg) {l:List (Bs×Bs)},SrtP l→doR l b=doP l b
 | [],_,_=>rfl
 | c::b,l,h=>by
  unfold doR doP
  rw [List.foldl_cons,List.foldl_cons,setR_eq h]
  exact doR_eq b (setP_srt h c.key c.val c.del)
theorem doR_len:∀ (b:List Chg) (l:List (Bs×Bs)),(doR l b).length≤l.length+b.length
 | [],l=>Nat.le_refl _
 | c::b,l=>by
  have h1:=doR_len b (setR c.key c.val c.del l)
  have h2:=setR_len c.key c.val l c.del
  have:(if c.del=true then 0 else 1)≤1:=by split<;>omega
  unfold doR at h1 ⊢
  rw [List.foldl_cons]
  simp only [List.length_cons];omega
def betR (lo hi:Bs) (limit:Int) (out:List (Bs×Bs)) (p:Bs×Bs):List (Bs×Bs):=if inLo lo p.1=true∧inHi hi p.1=true∧(limit≤0∨(out.length:Int)<limit) then out++[p] else out
theorem betR_inv (lo hi:Bs) (limit:Int):∀ (r:List (Bs×Bs)) (p:List (Bs×Bs)),r.foldl (betR lo hi limit) (betweenP p lo hi limit)=betweenP (p++r) lo hi limit
 | [],p=>by simp
 | x::r,p=>by
  rw [List.foldl_cons]
  have:betR lo hi limit (betweenP p lo hi limit) x=betweenP (p++[x]) lo hi limit:=by
   unfold betR betweenP limT
   rw [List.filter_append,List.filter_cons,List.filter_nil]
   generalize p.filter (fun p=>inLo lo p.1&&inHi hi p.1)=q
   by_cases h1:inLo lo x.1=true∧inHi hi x.1=true
   ·rw [if_pos (c:=(inLo lo x.1&&inHi hi x.1)=true) (by simp [h1.1,h1.2])]
    by_cases hl:0<limit
    ·rw [if_pos hl,if_pos hl]
     by_cases h2:((q.take limit.toNat).length:Int)<limit
     ·rw [if_pos ⟨h1.1,h1.2,.inr h2⟩]
      have h3:q.length<limit.toNat:=by rw [List.length_take] at h2;omega
      rw [List.take_of_length_le (by omega),List.take_of_length_le (by simp;omega)]
     ·rw [if_neg (by rintro ⟨_,_,h|h⟩<;>omega)]
      have h3:limit.toNat≤q.length:=by rw [List.length_take] at h2;omega
      rw [List.take_append_of_le_length h3]
    ·rw [if_neg hl,if_neg hl,if_pos ⟨h1.1,h1.2,.inl (by omega)⟩]
   ·rw [if_neg (fun h=>h1 ⟨h.1,h.2.1⟩),if_neg (c:=(inLo lo x.1&&inHi hi x.1)=true) (fun h=>h1 (by simpa using h)),List.append_nil]
  rw [this,betR_inv lo hi limit r (p++[x]),List.append_assoc];rfl
theorem betR_eq (lo hi:Bs) (limit:Int) (l:List (Bs×Bs)):l.foldl (betR lo hi limit) []=betweenP l lo hi limit:=by
 have h:=betR_inv lo hi limit l []
 have h0:betweenP [] lo hi limit=[]:=by unfold betweenP limT;split<;>simp
 rw [h0] at h;simpa using h
def chkR:List Chg→Nat
 | []=>0
 | c::r=>if c.key.length=0∨8<c.key.length then 3 else if c.del=false∧16<c.val.length then 4 else chkR r
def checkR (l:List Chg):Nat:=if 8<l.length then 2 else chkR l
theorem bok_of {l:List Chg} (h:checkR l=0):BOk l:=by
 unfold checkR at h
 by_cases h8:8<l.length
 ·rw [if_pos h8] at h;omega
 ·rw [if_neg h8] at h
  have key:∀ l:List Chg,chkR l=0→∀ c∈l,(c.key.length≤8∧c.key≠[])∧(c.del=false→c.val.length≤16):=by
   intro l
   induction l with
   | nil=>intro _ c hc;cases hc
   | cons x r ih=>
    intro hh c hc
    unfold chkR at hh
    split at hh
    ·omega
    ·rename_i h1
     split at hh
     ·omega
     ·rename_i h2
      rcases List.mem_cons.1 hc with rfl|hc
      ·refine ⟨⟨by omega,fun e=>h1 (.inl (by rw [e];rfl))⟩,fun hd=>?_⟩
       cases Nat.lt_or_ge 16 c.val.length with
       | inl h=>exact absurd ⟨hd,h⟩ h2
       | inr h=>exact h
      ·exact ih hh c hc
  exact ⟨by omega,fun c hc=>(key l h c hc).1,fun c hc=>(key l h c hc).2⟩
end
end Go.Proofs.YtecibefflhomdaaGreatDoor
