/-
  Part 30: PLAIN the disk as files by their names; PLAIN a table's file out of entries.
-/
import Derived.Test.YtecibefflhomdaaGreatDoorU19
set_option maxHeartbeats 8000000
set_option maxRecDepth 100000
set_option linter.all false
namespace Go.Proofs.YtecibefflhomdaaGreatDoor
open Go
section
open Go.Proofs.YtecibefflhomdaaGreatDoor.Pure (PDisk aget aput adel setM aget_put aget_del aget_mem nodup_put nodup_del aget_of_mem aget_none_iff)
def file (D:PDisk) (n:Bs):Option Bs:=(aget D.now n).map D.dataOf
structure Later (D D':PDisk):Prop where
 ok:D'.Ok
 room:D'.room=D.room
 bad:D'.bad≤D.bad
 fits:(D.used:Int)≤D.room→(D'.used:Int)≤D'.room
theorem Later.refl {D:PDisk} (h:D.Ok):Later D D:=⟨h,rfl,Int.le_refl _,id⟩
theorem Later.trans {A B C:PDisk} (h:Later A B) (k:Later B C):Later A C:=⟨k.ok,k.room.trans h.room,Int.le_trans k.bad h.bad,fun x=>k.fits (h.fits x)⟩
theorem tick_bad (D:PDisk) (h:D.Ok):D.tick.bad≤D.bad:=by
 have:=h.bad0
 unfold PDisk.tick
 split
 ·exact Int.le_refl _
 ·split
  ·dsimp only;omega
  ·exact Int.le_refl _
theorem Later.tick {D:PDisk} (h:D.Ok):Later D D.tick:=⟨h.tick,Pure.PDisk.tick_room D,tick_bad D h,by simp⟩
@[simp] theorem file_tick (D:PDisk) (n:Bs):file D.tick n=file D n:=by
 unfold file
 have:D.tick.dataOf=D.dataOf:=funext fun i=>Pure.PDisk.tick_dataOf D i
 rw [Pure.PDisk.tick_now,this]
theorem trips_bad {D:PDisk} (h:D.trips=true):0<D.bad:=by
 unfold PDisk.trips at h;simp at h;exact h.2
theorem file_none {D:PDisk} {n:Bs}:file D n=none↔aget D.now n=none:=by unfold file;simp
theorem fileOf_eq (D:PDisk) (n:Bs):fileOf D n=(file D n).getD []:=by
 unfold fileOf file;cases aget D.now n<;>rfl
def Trip (D:PDisk) (e:Err):Prop:=e.2=8∧0<D.bad
theorem findE_some {D:PDisk} {n:Bs} {e:Err} (h:findE D n=some e):Trip D e∨(e=(some n,10)∧file D n=none):=by
 unfold findE at h
 split at h
 ·rename_i ht;cases h;exact .inl ⟨rfl,trips_bad ht⟩
 ·split at h
  ·rename_i hg;cases h;exact .inr ⟨rfl,file_none.2 hg⟩
  ·cases h
theorem findE_none {D:PDisk} {n:Bs} (h:findE D n=none):D.trips=false∧∃ i,aget D.now n=some i∧file D n=some (D.dataOf i):=by
 unfold findE at h
 split at h
 ·cases h
 ·rename_i ht
  split at h
  ·cases h
  ·rename_i i hg;exact ⟨by simpa using ht,i,hg,by simp [file,hg]⟩
theorem findE_has {D:PDisk} {n b:Bs} (hf:file D n=some b):findE D n=none∨∃ e,findE D n=some e∧Trip D e:=by
 cases he:findE D n with
 | none=>exact .inl rfl
 | some e=>
  rcases findE_some he with h|⟨_,h⟩
  ·exact .inr ⟨e,rfl,h⟩
  ·rw [hf] at h;cases h
theorem create_ok {D:PDisk} (h:D.Ok) {n:Bs} (he:createE D n=none) :
 file D n=none∧(∀ m,file (createD D n) m=if m=n then some [] else file D m)∧(createD D n).used=D.used∧Later D (createD D n)∧(createD D n).moves.length=D.moves.length+1:=by
 unfold createE at he
 split at he
 ·cases he
 ·rename_i ht
  split at he
  ·cases he
  ·rename_i hs
   have hn:aget D.now n=none:=by cases hg:aget D.now n with
    | none=>rfl
    | some i=>rw [hg] at hs;exact absurd rfl hs
   have hd:createD D n=D.tick.created n (fresh D.tick):=by unfold createD;rw [if_neg ht,if_neg hs]
   have hfr:=fresh_none D.tick
   have hn':aget D.tick.now n=none:=by rw [Pure.PDisk.tick_now];exact hn
   have hok:=h.tick.created hfr hn'
   have hu:(D.tick.created n (fresh D.tick)).used=D.used:=by
    unfold PDisk.used
    have e0:(D.tick.created n (fresh D.tick)).now=D.now++[(n,fresh D.tick)]:=by
     show setM D.tick.now _=_
     rw [Pure.PDisk.tick_now];exact Pure.put_new hn _
    rw [e0,List.map_append,List.sum_append]
    have e1:D.now.map (fun p=>((D.tick.created n (fresh D.tick)).dataOf p.2).length)=D.now.map fun p=>(D.dataOf p.2).length:=by
     refine List.map_congr_left fun p hp=>?_
     have hne:p.2≠fresh D.tick:=fun hh=>by
      have:=h.now p hp
      rw [hh,← Pure.PDisk.tick_nodes,hfr] at this;cases this
     simp [PDisk.dataOf,PDisk.created,aget,hne]
    rw [e1];simp [PDisk.dataOf,PDisk.created,aget]
   rw [hd]
   refine ⟨file_none.2 hn,fun m=>?_,hu,⟨hok,?_,?_,?_⟩,?_⟩
   ·unfold file
    show (aget (aput D.tick.now n (fresh D.tick)) m).map _=_
    rw [aget_put]
    by_cases hm:m=n
    ·subst hm;simp [PDisk.dataOf,PDisk.created,aget]
    ·simp only [hm,if_false,Pure.PDisk.tick_now]
     cases hg:aget D.now m with
     | none=>rfl
     | some j=>
      have hne:j≠fresh D.tick:=fun hh=>by
       have:=h.now _ (aget_mem hg)
       rw [hh,← Pure.PDisk.tick_nodes,hfr] at this;cases this
      simp [PDisk.dataOf,PDisk.created,aget,hne]
   ·exact Pure.PDisk.tick_room D
   ·exact tick_bad D h
   ·rw [hu];show _→_≤D.tick.room;rw [Pure.PDisk.tick_room];exact id
   ·show (D.tick.moves++[_]).length=_
    simp
theorem create_err {D:PDisk} (h:D.Ok) {n:Bs} {e:Err} (he:createE D n=some e) :
 createD D n=D.tick∧(Trip D e∨(e=(some n,11)∧file D n≠none)):=by
 unfold createE at he
 unfold createD
 split at he
 ·rename_i ht;cases he;rw [if_pos ht];exact ⟨rfl,.inl ⟨rfl,trips_bad ht⟩⟩
 ·rename_i ht
  split at he
  ·rename_i hs;cases he;rw [if_neg ht,if_pos hs]
   refine ⟨rfl,.inr ⟨rfl,fun hh=>?_⟩⟩
   rw [file_none.1 hh] at hs;cases hs
  ·cases he
theorem file_laid {D:PDisk} (h:D.Ok) {n:Bs} {i:Nat} (hi:aget D.now n=some i) (x:Bs×Nat) (m:Bs):file (D.laid i x) m=if m=n then some x.1 else file D m:=by
 unfold file
 show (aget D.now m).map _=_
 by_cases hm:m=n
 ·subst hm;rw [hi];simp [PDisk.dataOf,PDisk.laid,aget_put]
 ·rw [if_neg hm]
  cases hg:aget D.now m with
  | none=>rfl
  | some j=>
   have hne:j≠i:=fun hh=>hm ((Pure.ids_inj h.names).1 h.ids m n j hg (hh▸hi))
   simp [PDisk.dataOf,PDisk.laid,aget_put,hne]
theorem append_ok {D:PDisk} (h:D.Ok) {n bs:Bs} (he:appendE D n bs=none) :
 ∃ b,file D n=some b∧(∀ m,file (appended D n bs) m=if m=n then some (b++bs) else file D m)∧(appended D n bs).used≤D.used+bs.length∧Later D (appended D n bs)∧(appended D n bs).moves=D.moves∧(D.used:Int)+bs.length≤D.room:=by
 have hroom:findE D n=none∧(D.used:Int)+bs.length≤D.room:=by
  unfold appendE at he
  split at he
  ·cases he
  ·rename_i hf
   split at he
   ·cases he
   ·exact ⟨hf,by omega⟩
 obtain ⟨hf,hr⟩:=hroom
 obtain ⟨_,i,hg,hfi⟩:=findE_none hf
 have ha:appended D n bs=D.tick.laid i (D.dataOf i++bs,safeOf D i):=by unfold appended;rw [he,hg]
 have hgt:aget D.tick.now n=some i:=by rw [Pure.PDisk.tick_now];exact hg
 have hu:=Pure.PDisk.used_laid (x:=(D.dataOf i++bs,safeOf D i)) (i:=i) (k:=bs.length) h.tick (by simp)
 rw [Pure.PDisk.tick_used] at hu
 have hr1:=h.room1
 have hok:(D.tick.laid i (D.dataOf i++bs,safeOf D i)).Ok:=h.tick.laid (by omega)
 refine ⟨_,hfi,fun m=>?_,?_,?_,?_,hr⟩
 ·rw [ha,file_laid h.tick hgt];simp
 ·rw [ha];exact hu
 ·rw [ha]
  refine ⟨hok,Pure.PDisk.tick_room D,tick_bad D h,fun _=>?_⟩
  show _≤D.tick.room
  rw [Pure.PDisk.tick_room];omega
 ·rw [ha];exact Pure.PDisk.tick_moves D
theorem append_err {D:PDisk} (h:D.Ok) {n bs b:Bs} {e:Err} (he:appendE D n bs=some e) (hf:file D n=some b) :
 appended D n bs=D.tick∧(Trip D e∨(e.2=9∧D.room<(D.used:Int)+bs.length)):=by
 have hd:appended D n bs=D.tick:=by unfold appended;rw [he]
 refine ⟨hd,?_⟩
 unfold appendE at he
 split at he
 ·rename_i e' he'
  cases he
  rcases findE_some he' with h1|⟨_,h1⟩
  ·exact .inl h1
  ·rw [hf] at h1;cases h1
 ·split at he
  ·cases he;exact .inr ⟨rfl,by omega⟩
  ·cases he
theorem sync_law {D:PDisk} (h:D.Ok) (n:Bs):(∀ m,file (syncD D n) m=file D m)∧(syncD D n).used≤D.used∧Later D (syncD D n)∧(syncD D n).moves=D.moves:=by
 unfold syncD onFile
 cases hf:findE D n with
 | some e=>exact ⟨fun m=>file_tick D m,by simp,Later.tick h,by simp⟩
 | none=>
  obtain ⟨_,i,hg,hfi⟩:=findE_none hf
  simp only [hg]
  have hgt:aget D.tick.now n=some i:=by rw [Pure.PDisk.tick_now];exact hg
  have hu:=Pure.PDisk.used_laid (x:=(D.dataOf i,(D.dataOf i).length)) (i:=i) (k:=0) h.tick (by simp)
  rw [Pure.PDisk.tick_used] at hu
  have hok:=h.tick.laid (i:=i) (x:=(D.dataOf i,(D.dataOf i).length)) (by have:=h.used;omega)
  refine ⟨fun m=>?_,hu,⟨hok,Pure.PDisk.tick_room D,tick_bad D h,fun hh=>?_⟩,Pure.PDisk.tick_moves D⟩
  ·rw [file_laid h.tick hgt,file_tick]
   by_cases hm:m=n
   ·subst hm;rw [if_pos rfl,hfi]
   ·rw [if_neg hm]
  ·show _≤D.tick.room
   rw [Pure.PDisk.tick_room];omega
theorem remove_ok {D:PDisk} (h:D.Ok) {n:Bs} (he:findE D n=none) :
 (∀ m,file (removeD D n) m=if m=n then none else file D m)∧(removeD D n).used+(fileOf D n).length=D.used∧Later D (removeD D n)∧(removeD D n).moves.length=D.moves.length+1:=by
 obtain ⟨_,i,hg,hfi⟩:=findE_none he
 have hd:removeD D n=D.tick.removed n:=by unfold removeD onFile;rw [he,hg]
 have hu:=Pure.sum_del (fun i=>(D.dataOf i).length) D.now n
 rw [hg] at hu
 have e:(D.tick.removed n).used=((adel D.now n).map fun p=>(D.dataOf p.2).length).sum:=by
  unfold PDisk.used
  show ((adel D.tick.now n).map fun p=>(D.tick.dataOf p.2).length).sum=_
  rw [Pure.PDisk.tick_now];simp
 have hfo:fileOf D n=D.dataOf i:=by unfold fileOf;rw [hg]
 have hused:(D.tick.removed n).used+(fileOf D n).length=D.used:=by rw [e,hfo];exact hu
 rw [hd]
 refine ⟨fun m=>?_,hused,⟨h.tick.removed n,Pure.PDisk.tick_room D,tick_bad D h,fun hh=>?_⟩,?_⟩
 ·unfold file
  show (aget (adel D.tick.now n) m).map D.tick.dataOf=_
  rw [Pure.PDisk.tick_now,aget_del _ _ h.names]
  have:D.tick.dataOf=D.dataOf:=funext fun i=>Pure.PDisk.tick_dataOf D i
  rw [this]
  split<;>rfl
 ·show _≤D.tick.room
  rw [Pure.PDisk.tick_room];omega
 ·show (D.tick.moves++[_]).length=_
  simp
theorem remove_err {D:PDisk} {n:Bs} {e:Err} (he:findE D n=some e):removeD D n=D.tick:=by unfold removeD onFile;rw [he]
theorem rename_ok {D:PDisk} (h:D.Ok) {a b:Bs} (hab:a≠b) (he:findE D a=none) :
 (∀ m,file (renameD D a b) m=if m=a then none else if m=b then file D a else file D m)∧(renameD D a b).used+(fileOf D b).length=D.used∧Later D (renameD D a b)∧(renameD D a b).moves.length=D.moves.length+1:=by
 obtain ⟨_,i,hg,hfi⟩:=findE_none he
 have hd:renameD D a b=D.tick.renamed a b i:=by unfold renameD onFile;rw [he,hg];simp [hab]
 have hgt:aget D.tick.now a=some i:=by rw [Pure.PDisk.tick_now];exact hg
 have h1:=Pure.sum_put (fun i=>(D.dataOf i).length) D.now b i
 have h2:=Pure.sum_del (fun i=>(D.dataOf i).length) (aput D.now b i) a
 have h3:aget (aput D.now b i) a=some i:=by rw [aget_put];simp [hab,hg]
 rw [h3] at h2
 have e:(D.tick.renamed a b i).used=((adel (aput D.now b i) a).map fun p=>(D.dataOf p.2).length).sum:=by
  unfold PDisk.used
  show ((adel (aput D.tick.now b i) a).map fun p=>(D.tick.dataOf p.2).length).sum=_
  rw [Pure.PDisk.tick_now];simp
 have hfo:(fileOf D b).length=Pure.opt (fun i=>(D.dataOf i).length) (aget D.now b):=by
  unfold fileOf;cases aget D.now b<;>rfl
 have hused:(D.tick.renamed a b i).used+(fileOf D b).length=D.used:=by
  rw [e,hfo]
  have h2':((adel (aput D.now b i) a).map fun p=>(D.dataOf p.2).length).sum+(D.dataOf i).length=((aput D.now b i).map fun p=>(D.dataOf p.2).length).sum:=h2
  unfold PDisk.used
  omega
 rw [hd]
 have hok:=h.tick.renamed hab hgt
 refine ⟨fun m=>?_,hused,⟨hok,Pure.PDisk.tick_room D,tick_bad D h,fun hh=>?_⟩,?_⟩
 ·unfold file
  show (aget (adel (aput D.tick.now b i) a) m).map D.tick.dataOf=_
  have:D.tick.dataOf=D.dataOf:=funext fun i=>Pure.PDisk.tick_dataOf D i
  rw [Pure.PDisk.tick_now,aget_del _ _ (nodup_put h.names b i),aget_put,this]
  by_cases hma:m=a
  ·simp [hma]
  ·simp only [hma,if_false]
   by_cases hmb:m=b
   ·simp [hmb,hg]
   ·simp [hmb]
 ·show _≤D.tick.room
  rw [Pure.PDisk.tick_room];omega
 ·show (D.tick.moves++[_]).length=_
  simp
theorem rename_err {D:PDisk} {a b:Bs} {e:Err} (he:findE D a=some e):renameD D a b=D.tick:=by unfold renameD onFile;rw [he]
theorem syncdir_law {D:PDisk} (h:D.Ok):(∀ m,file (syncdirR D) m=file D m)∧(syncdirR D).used=D.used∧Later D (syncdirR D)∧(syncdirR D).moves.length≤D.moves.length∧(D.trips=false→(syncdirR D).moves=[]):=by
 unfold syncdirR
 by_cases ht:D.trips=true
 ·rw [if_pos ht];exact ⟨fun m=>file_tick D m,by simp,Later.tick h,by simp,fun hh=>by rw [ht] at hh;cases hh⟩
 ·rw [if_neg ht]
  have hd:∀ i,D.tick.synced.dataOf i=D.dataOf i:=fun i=>Pure.PDisk.tick_dataOf D i
  have hu:D.tick.synced.used=D.used:=Pure.PDisk.tick_used D
  refine ⟨fun m=>file_tick D m,hu,⟨h.tick.synced,Pure.PDisk.tick_room D,tick_bad D h,fun hh=>?_⟩,by simp [PDisk.synced],fun _=>rfl⟩
  show _≤D.tick.room
  rw [Pure.PDisk.tick_room,hu];exact hh
structure Same (D D':PDisk):Prop where
 later:Later D D'
 file:∀ m,file D' m=file D m
 used:D'.used=D.used
 moves:D'.moves=D.moves
theorem Same.refl {D:PDisk} (h:D.Ok):Same D D:=⟨Later.refl h,fun _=>rfl,rfl,rfl⟩
theorem Same.trans {A B C:PDisk} (h:Same A B) (k:Same B C):Same A C:=⟨h.later.trans k.later,fun m=>(k.file m).trans (h.file m),k.used.trans h.used,k.moves.trans h.moves⟩
theorem Same.tick {D:PDisk} (h:D.Ok):Same D D.tick:=⟨Later.tick h,fun m=>file_tick D m,by simp,by simp⟩
theorem Same.counted {D:PDisk} (h:D.Ok) (n:Int):Same D (counted D n):=
 ⟨⟨⟨h.now,h.safe,h.moves,h.names,h.ids,h.room0,h.room1,h.wait0,h.wait1,h.bad0,h.bad1,h.used,h.short⟩,rfl,Int.le_refl _,id⟩,fun _=>rfl,rfl,rfl⟩
theorem Same.read {D:PDisk} (h:D.Ok) (n:Int):Same D (YtecibefflhomdaaGreatDoor.counted D n).tick:=(Same.counted h n).trans (Same.tick (Same.counted h n).later.ok)
theorem Trip.before {D D':PDisk} {e:Err} (h:Later D D') (k:Trip D' e):Trip D e:=⟨k.1,Int.lt_of_lt_of_le k.2 h.bad⟩
end
section
open Go.Proofs.YtecibefflhomdaaGreatDoor.Pure
def putsB (c:List Ent):Bs:=(c.map putB).flatten
def blkF (c:List Ent):Bs:=frameB (putsB c)
def blocksB:Nat→List (List Ent)→List (Bs×Nat×Nat)
 | _,[]=>[]
 | a,c::r=>(firstK c,a,(blkF c).length)::blocksB (a+(blkF c).length) r
def bodyB (cs:List (List Ent)):Bs:=(cs.map blkF).flatten
abbrev SepC (a b:List Ent):Prop:=∀ x∈a,∀ y∈b,bltB x.key y.key=true
def fileB (l:List Ent) (cs:List (List Ent)):Bs:=bodyB cs++frameB (listB (firstK l) (lastK l) l.length (blocksB 0 cs))++frameB (numB (bodyB cs).length 8)
@[simp] theorem putsB_nil:putsB []=[]:=rfl
theorem putsB_le {c:List Ent} (h:∀ e∈c,EOk e):(putsB c).length≤34*c.length:=by
 induction c with
 | nil=>simp
 | cons e r ih=>
  have h1:=putB_le (h e List.mem_cons_self)
  have h2:=ih fun x hx=>h x (List.mem_cons_of_mem _ hx)
  simp only [putsB,List.map_cons,List.flatten_cons,List.length_append,List.length_cons] at h2 ⊢
  omega
theorem blocksB_app:∀ (A B:List (List Ent)) (a:Nat),blocksB a (A++B)=blocksB a A++blocksB (a+(bodyB A).length) B
 | [],B,a=>by simp [blocksB,bodyB]
 | c::A,B,a=>by
  simp only [List.cons_append,blocksB,blocksB_app A B]
  simp [bodyB,Nat.add_assoc]
@[simp] theorem blocksB_length:∀ (A:List (List Ent)) (a:Nat),(blocksB a A).length=A.length
 | [],_=>rfl
 | c::A,a=>by simp [blocksB,blocksB_length A]
theorem bodyB_app (A B:List (List Ent)):bodyB (A++B)=bodyB A++bodyB B:=by simp [bodyB]
theorem bodyB_le:∀ {cs:List (List Ent)},(∀ c∈cs,c≠[])→(∀ e∈cs.flatten,EOk e)→(bodyB cs).length≤46*cs.flatten.length
 | [],_,_=>by simp [bodyB]
 | c::r,hn,h=>by
  have h1:=putsB_le (c:=c) fun e he=>h e (by simp [he])
  have h2:=bodyB_le (cs:=r) (fun x hx=>hn x (List.mem_cons_of_mem _ hx)) fun e he=>h e (by simp at he ⊢;exact .inr he)
  have h3:0<c.length:=List.length_pos_iff.2 (hn c List.mem_cons_self)
  simp only [bodyB,List.map_cons,List.flatten_cons,List.length_append,blkF,frameB_length] at h2 ⊢
  omega
theorem chunks_le:∀ {cs:List (List Ent)},(∀ c∈cs,c≠[])→cs.length≤cs.flatten.length
 | [],_=>Nat.le_refl _
 | c::r,hn=>by
  have h2:=chunks_le (cs:=r) fun x hx=>hn x (List.mem_cons_of_mem _ hx)
  have h3:0<c.length:=List.length_pos_iff.2 (hn c List.mem_cons_self)
  simp only [List.flatten_cons,List.length_append,List.length_cons];omega
structure WInv (l:List Ent) (dn:List (List Ent)) (cur:List Ent) (s:Wr):Prop where
 file:s.file=bodyB dn
 inb:s.inb=putsB cur
 blocks:s.blocks=blocksB 0 dn
 first:if cur=[] then dn=[]∧s.first=firstK l else s.first=firstK cur
 ne:∀ c∈dn,c≠[]
 sep:(dn++[cur]).Pairwise SepC
theorem entOk_of {e:Ent} (h:EOk e):entOk e=true:=by
 have h1:=h.key
 unfold entOk
 cases hd:e.del with
 | true=>simp [Nat.ble_eq];omega
 | false=>have:=h.val hd;simp [Nat.ble_eq];omega
theorem flushW_law {l:List Ent} {dn:List (List Ent)} {cur:List Ent} {s:Wr} (h:WInv l dn cur s) (hb:big=1099511627776) (hc:cur≠[]) (h1:(putsB cur).length≤1048576) (h2:(bodyB dn).length≤1099511627776) (h3:dn.length≤1099511627776) :
 flushW s=some ⟨bodyB (dn++[cur]),[],s.first,blocksB 0 (dn++[cur])⟩:=by
 have hf:=h.first
 rw [if_neg hc] at hf
 unfold flushW
 rw [if_pos ⟨by rw [h.inb];exact h1,by rw [h.file,hb];exact h2,by rw [h.blocks,blocksB_length,hb];exact h3⟩,bodyB_app,blocksB_app,h.file,h.inb,h.blocks,hf]
 simp [bodyB,blkF,blocksB]
theorem steps_law {l:List Ent} (hs:Srt l) (hk:∀ e∈l,EOk e) (hn:l.length≤10000):∀ (r p:List Ent) (dn:List (List Ent)) (cur:List Ent) (s:Wr),l=p++r→p=dn.flatten++cur→WInv l dn cur s →
 ∃ dn' cur' s',stepsW l p.length r s=some s'∧l=dn'.flatten++cur'∧WInv l dn' cur' s'∧(l≠[]→cur'≠[]∨(r=[]∧cur'=cur))
 | [],p,dn,cur,s,hl,hp,h=>⟨dn,cur,s,rfl,by rw [hl,hp];simp,h,fun _=>.inr ⟨rfl,rfl⟩⟩
 | e::r,p,dn,cur,s,hl,hp,h=>by
  have he:e∈l:=by rw [hl];simp
  have hlen:dn.flatten.length+cur.length+(e::r).length=l.length:=by rw [hl,hp];simp only [List.length_append]
  simp only [List.length_cons] at hlen
  have hkd:∀ x∈dn.flatten,EOk x:=fun x hx=>hk x (by rw [hl,hp];simp only [List.mem_append];exact .inl (.inl hx))
  have hkc:∀ x∈cur,EOk x:=fun x hx=>hk x (by rw [hl,hp];simp only [List.mem_append];exact .inl (.inr hx))
  have hb1:=bodyB_le h.ne hkd
  have hb2:=putsB_le hkc
  have hb3:=chunks_le h.ne
  have hin:s.inb.length≤1048576:=by rw [h.inb];omega
  have keep:∀ (hk2:cur≠[]∨dn=[]),∃ dn' cur' s',stepsW l (p.length+1) r { s with inb:=s.inb++putB e }=some s'∧l=dn'.flatten++cur'∧WInv l dn' cur' s'∧(l≠[]→cur'≠[]∨(e::r=[]∧cur'=cur)):=by
   intro hk2
   have hw:WInv l dn (cur++[e]) { s with inb:=s.inb++putB e }:=by
    refine ⟨h.file,by simp [h.inb,putsB],h.blocks,?_,h.ne,?_⟩
    ·rw [if_neg (by simp)]
     have hf:=h.first
     by_cases hc:cur=[]
     ·rw [if_pos hc] at hf
      show s.first=_
      rw [hf.2,hl,hp,hf.1,hc];rfl
     ·rw [if_neg hc] at hf
      show s.first=_
      rw [hf];cases cur with
      | nil=>exact absurd rfl hc
      | cons c r=>rfl
    ·have hsep:=h.sep
     rw [List.pairwise_append] at hsep ⊢
     refine ⟨hsep.1,by simp,fun a ha b hb x hx y hy=>?_⟩
     simp at hb;subst hb
     rcases List.mem_append.1 hy with hy|hy
     ·exact hsep.2.2 a ha cur (by simp) x hx y hy
     ·simp at hy;subst hy
      rcases hk2 with hk2|hk2
      ·obtain ⟨z,hz⟩:=List.exists_mem_of_ne_nil _ hk2
       have h1:=hsep.2.2 a ha cur (by simp) x hx z hz
       have h2:less z y=true:=by
        rw [hl,hp] at hs
        exact (List.pairwise_append.1 hs).2.2 z (by simp only [List.mem_append];exact .inr hz) y (by simp)
       rcases less_iff.1 h2 with h3|h3
       ·exact bltB_trans h1 h3
       ·rw [← h3.1];exact h1
      ·rw [hk2] at ha;cases ha
   obtain ⟨dn',cur',s',h1,h2,h3,h4⟩:=steps_law hs hk hn r (p++[e]) dn (cur++[e]) _ (by rw [hl];simp) (by rw [hp];simp) hw
   rw [List.length_append,List.length_singleton] at h1
   refine ⟨dn',cur',s',h1,h2,h3,fun hne=>?_⟩
   rcases h4 hne with h4|⟨_,h4⟩
   ·exact .inl h4
   ·exact .inl (by rw [h4];simp)
  unfold stepsW stepW
  rw [if_pos ⟨hin,entOk_of (hk e he)⟩]
  by_cases h300:300≤s.inb.length
  ·rw [if_pos h300]
   have hc:cur≠[]:=by intro hc;rw [h.inb,hc] at h300;simp at h300
   obtain ⟨z,hz⟩:∃ z,cur.getLast?=some z:=by
    cases hg:cur.getLast? with
    | none=>exact absurd (List.getLast?_eq_none_iff.1 hg) hc
    | some z=>exact ⟨z,rfl⟩
   have hzm:z∈cur:=List.mem_of_getLast? hz
   have hpz:p.getLast?=some z:=by rw [hp,List.getLast?_append,hz];rfl
   have hpl:0<p.length:=by rw [hp,List.length_append];have:=List.length_pos_iff.2 hc;omega
   have hlz:l[p.length-1]?=some z:=by
    rw [hl,List.getElem?_append_left (by omega),← List.getLast?_eq_getElem?,hpz]
   rw [hlz]
   dsimp only
   by_cases hkz:e.key=z.key
   ·rw [if_pos hkz]
    exact keep (.inl hc)
   ·rw [if_neg hkz,flushW_law h big_eq hc (by rw [← h.inb];exact hin) (by omega) (by omega)]
    dsimp only [Option.map_some,List.nil_append]
    have hzlt:bltB z.key e.key=true:=by
     have h2:less z e=true:=by
      rw [hl,hp] at hs
      exact (List.pairwise_append.1 hs).2.2 z (by simp only [List.mem_append];exact .inr hzm) e (by simp)
     rcases less_iff.1 h2 with h3|h3
     ·exact h3
     ·exact absurd h3.1.symm hkz
    have hall:∀ x∈p,bltB x.key e.key=true:=by
     intro x hx
     obtain ⟨a,rfl⟩:∃ a,p=a++[z]:=by
      refine ⟨p.dropLast,?_⟩
      have hne:p≠[]:=by intro h';rw [h'] at hpl;simp at hpl
      rw [List.getLast?_eq_some_getLast hne] at hpz
      rw [← Option.some.inj hpz];exact (List.dropLast_concat_getLast hne).symm
     rcases List.mem_append.1 hx with hx|hx
     ·have h2:less x z=true:=by
       rw [hl,List.append_assoc] at hs
       exact (List.pairwise_append.1 hs).2.2 x hx z (by simp)
      rcases less_iff.1 h2 with h3|h3
      ·exact bltB_trans h3 hzlt
      ·rw [h3.1];exact hzlt
     ·simp at hx;subst hx;exact hzlt
    have hw:WInv l (dn++[cur]) [e] ⟨bodyB (dn++[cur]),putB e,e.key,blocksB 0 (dn++[cur])⟩:=by
     refine ⟨rfl,by simp [putsB],rfl,by rw [if_neg (by simp)];rfl,?_,?_⟩
     ·intro c hc'
      rcases List.mem_append.1 hc' with h'|h'
      ·exact h.ne c h'
      ·simp at h';subst h';exact hc
     ·rw [List.pairwise_append]
      refine ⟨h.sep,by simp,fun a ha b hb x hx y hy=>?_⟩
      simp at hb;subst hb;simp at hy;subst hy
      refine hall x ?_
      rw [hp]
      rcases List.mem_append.1 ha with ha|ha
      ·simp only [List.mem_append];exact .inl (List.mem_flatten.2 ⟨a,ha,hx⟩)
      ·simp at ha;subst ha;simp only [List.mem_append];exact .inr hx
    obtain ⟨dn',cur',s',h1,h2,h3,h4⟩:=steps_law hs hk hn r (p++[e]) (dn++[cur]) [e] _ (by rw [hl];simp) (by rw [hp];simp) hw
    rw [List.length_append,List.length_singleton] at h1
    refine ⟨dn',cur',s',h1,h2,h3,fun hne=>?_⟩
    rcases h4 hne with h4|⟨_,h4⟩
    ·exact .inl h4
    ·exact .inl (by rw [h4];simp)
  ·rw [if_neg h300]
   refine keep ?_
   by_cases hc:cur=[]
   ·have hf:=h.first;rw [if_pos hc] at hf;exact .inr hf.1
   ·exact .inl hc
theorem blocksB_small:∀ {cs:List (List Ent)} {a A:Nat},(∀ c∈cs,c≠[])→(∀ e∈cs.flatten,EOk e)→a+(bodyB cs).length≤A→∀ b∈blocksB a cs,b.1.length≤8∧b.2.1≤A∧b.2.2≤A
 | [],_,_,_,_,_,b,hb=>by cases hb
 | c::r,a,A,hn,h,hA,b,hb=>by
  simp only [bodyB,List.map_cons,List.flatten_cons,List.length_append] at hA
  rcases List.mem_cons.1 hb with rfl|hb
  ·refine ⟨?_,by dsimp only;omega,by dsimp only;omega⟩
   obtain ⟨e,r',rfl⟩:=List.exists_cons_of_ne_nil (hn c List.mem_cons_self)
   exact (h e (by simp)).key
  ·exact blocksB_small (cs:=r) (fun x hx=>hn x (List.mem_cons_of_mem _ hx)) (fun e he=>h e (by simp at he ⊢;exact .inr he)) (by simp only [bodyB];omega) b hb
theorem tab_law {l:List Ent} (hs:Srt l) (hk:∀ e∈l,EOk e) (hn:l.length≤10000) (hne:l≠[]) :
 ∃ cs:List (List Ent),cs.flatten=l∧(∀ c∈cs,c≠[])∧cs.Pairwise SepC∧tabB l=some (fileB l cs,blocksB 0 cs):=by
 obtain ⟨e0,r0,rfl⟩:=List.exists_cons_of_ne_nil hne
 obtain ⟨z,hz⟩:∃ z,(e0::r0).getLast?=some z:=by
  cases hg:(e0::r0).getLast? with
  | none=>exact absurd (List.getLast?_eq_none_iff.1 hg) hne
  | some z=>exact ⟨z,rfl⟩
 have h0:WInv (e0::r0) [] [] ⟨[],[],e0.key,[]⟩:=⟨rfl,rfl,rfl,by simp [firstK],by simp,by simp⟩
 obtain ⟨dn,cur,s,h1,h2,h3,h4⟩:=steps_law hs hk hn (e0::r0) [] [] [] _ rfl rfl h0
 have hc:cur≠[]:=by
  rcases h4 hne with h4|⟨h4,_⟩
  ·exact h4
  ·cases h4
 have hlen:dn.flatten.length+cur.length=(e0::r0).length:=by rw [h2];simp
 have hkd:∀ x∈dn.flatten,EOk x:=fun x hx=>hk x (by rw [h2];exact List.mem_append_left _ hx)
 have hkc:∀ x∈cur,EOk x:=fun x hx=>hk x (by rw [h2];exact List.mem_append_right _ hx)
 have hb1:=bodyB_le h3.ne hkd
 have hb2:=putsB_le hkc
 have hb3:=chunks_le h3.ne
 have hn1:∀ c∈dn++[cur],c≠[]:=fun c hc'=>by
  rcases List.mem_append.1 hc' with h'|h'
  ·exact h3.ne c h'
  ·simp at h';subst h';exact hc
 have hfl:(dn++[cur]).flatten=e0::r0:=by rw [h2];simp
 have hk1:∀ x∈(dn++[cur]).flatten,EOk x:=fun x hx=>hk x (by rw [← hfl];exact hx)
 have hb4:=bodyB_le hn1 hk1
 have hb5:=chunks_le hn1
 rw [hfl] at hb4 hb5
 have hzk:z.key.length≤8:=(hk z (List.mem_of_getLast? hz)).key
 have hek:e0.key.length≤8:=(hk e0 List.mem_cons_self).key
 refine ⟨dn++[cur],hfl,hn1,h3.sep,?_⟩
 have hlast:lastK (e0::r0)=z.key:=by unfold lastK;rw [hz]
 have hbl:=blocksB_small (a:=0) (A:=460000) hn1 hk1 (by omega)
 unfold tabB
 rw [hz]
 dsimp only
 simp only [List.length_nil] at h1
 rw [h1,Option.bind_some,flushW_law h3 big_eq hc (by omega) (by omega) (by omega)]
 dsimp only
 rw [if_pos]
 ·unfold fileB;rw [hlast];rfl
 ·refine ⟨by rw [big_eq];omega,by rw [blocksB_length];omega,by omega,?_,by omega,by omega⟩
  refine List.all_eq_true.2 fun b hb=>?_
  obtain ⟨k1,k2,k3⟩:=hbl b hb
  simp only [Bool.and_eq_true,Nat.ble_eq,big_eq]
  omega
theorem parse_puts:∀ (c:List Ent) (f:Nat),(∀ e∈c,EOk e)→c.length≤f→parseE f ⟨putsB c,false⟩=(c.map normE,false)
 | [],0,_,_=>rfl
 | [],f+1,_,_=>by unfold parseE;simp [putsB]
 | e::c,0,_,h=>by simp at h
 | e::c,f+1,hk,h=>by
  have he:putsB (e::c)=putB e++putsB c:=by simp [putsB]
  unfold parseE
  rw [he,if_pos ⟨entry_ne e (putsB c) rfl,rfl⟩,entry_app (hk e List.mem_cons_self),parse_puts c f (fun x hx=>hk x (List.mem_cons_of_mem _ hx)) (by simp at h;omega)]
  rfl
theorem puts_len (c:List Ent):c.length≤(putsB c).length:=by
 induction c with
 | nil=>simp
 | cons e r ih=>
  have:=putB_pos e
  simp only [putsB,List.map_cons,List.flatten_cons,List.length_append,List.length_cons] at ih ⊢
  omega
theorem blockE_law {nm bs:Bs} {c:List Ent} {rest:Bs} (h:openB bs=some (putsB c,rest)) (hb:bs.length≤1099511627776) (hk:∀ e∈c,EOk e):blockE nm bs=some (.ok (c.map normE)):=by
 unfold blockE
 rw [h]
 dsimp only
 rw [if_pos (by rw [big_eq];exact hb),parse_puts c _ hk (puts_len c)]
 simp
theorem piece_mid (a b c:Bs):pieceB (a++b++c) (a.length:Int) (b.length:Int)=b:=by
 have h1:(min (max (a.length:Int) 0) ((a++b++c).length:Int)).toNat=a.length:=by simp only [List.length_append];omega
 have h2:(min (max (b.length:Int) 0) (((a++b++c).length:Int)-min (max (a.length:Int) 0) ((a++b++c).length:Int))).toNat=b.length:=by simp only [List.length_append];omega
 unfold pieceB
 rw [h1,h2,List.append_assoc,List.drop_left,List.take_left]
theorem blocks_at (A B:List (List Ent)) (c:List Ent) (a:Nat):(blocksB a (A++c::B))[A.length]?=some (firstK c,a+(bodyB A).length,(blkF c).length):=by
 rw [blocksB_app,List.getElem?_append_right (by simp)]
 simp [blocksB]
end
end Go.Proofs.YtecibefflhomdaaGreatDoor
