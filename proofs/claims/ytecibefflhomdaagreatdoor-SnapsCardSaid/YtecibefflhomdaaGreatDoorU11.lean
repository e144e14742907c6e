/-
  Part 11: WALKS package api; WALKS package api; THE DISK, ABSTRACTLY files by numbers of their own; WALKS package codec.
-/
import Derived.Test.YtecibefflhomdaaGreatDoorU10
set_option maxHeartbeats 8000000
set_option maxRecDepth 100000
set_option linter.all false
namespace Go.Proofs.YtecibefflhomdaaGreatDoor
open Go
section
open Go.Proofs.YtecibefflhomdaaGreatDoor.Pure (PDisk aget aput adel setM)
attribute [local irreducible] IntKind.wrap
variable {W0 w:World} {F l:List HProp} {v:Value} {d:Nat} {D:PDisk} {bs:Bs}
theorem counted_ok (h:D.Ok) (n:Int):(counted D n).Ok:=⟨h.now,h.safe,h.moves,h.names,h.ids,h.room0,h.room1,h.wait0,h.wait1,h.bad0,h.bad1,h.used,h.short⟩
def readB (D:PDisk) (nm:Bs) (at_ n:Int):Bs:=match findE D nm with
 | some _=>[]
 | none=>match aget D.now nm with
  | some i=>pieceB (D.dataOf i) at_ n
  | none=>[]
theorem readAt_spec {nm:Bs} {at_ n:Int} (hs:Sat W0 (DiskR d D::F) w) (ha1:-9223372036854775808≤at_) (ha2:at_≤9223372036854775807) (hn1:-9223372036854775808≤n) (hn2:n≤9223372036854775807) :
 Calls Tryz.prog 161 #[idV d,str nm,.int .i64 at_,.int .i64 n] w fun x w'=>∃ v ve,x=.returned (.tuple #[v,ve])∧Sat W0 (DiskR d (counted D n).tick::bytS v (readB D nm at_ n)::errC ve (findE D nm)::F) w':=by
 obtain ⟨hok,z,hs⟩:=hs.diskOpen
 dsimp only [diskL,diskCells,List.cons_append,List.nil_append] at hs
 have hok1:=counted_ok hok n
 have hfe:findE (counted D n) nm=findE D nm:=rfl
 have hfp:findP (counted D n) nm=findP D nm:=rfl
 refine enter Tryz.func161 rfl Tryz.ntmps161 Tryz.results161 rfl ?_
 refine go ?_
 refine w_st hs fun w hs=>?_
 refine go ?_
 refine w_st hs fun w hs=>?_
 have hs:Sat W0 (DiskR d (counted D n)::F) w:=Sat.diskClose (z:=z) hok1 hs.to
 refine go ?_
 refine w_call (met (find_spec (n:=nm) hs) ?_)
 rintro _ w ⟨ve,rfl,hs⟩
 refine ⟨_,rfl,?_⟩
 rw [hfe] at hs
 rw [hfp]
 unfold readB
 cases he:findE D nm with
 | some e=>
  rw [he] at hs
  obtain ⟨t,u,rfl⟩:=(hs.take (.there .here)).errIface
  refine go ?_
  exact wq_ret rfl ⟨_,_,rfl,(hs.bytNil).to⟩
 | none=>
  rw [he] at hs
  obtain ⟨ht,i,hi,hp⟩:=find_some he
  have hve:=(hs.take (.there .here)).errIs
  subst hve
  rw [hp,hi]
  obtain ⟨hok,z,hs⟩:=hs.diskOpen
  dsimp only [diskL,diskCells,List.cons_append,List.nil_append] at hs
  obtain ⟨x,hx⟩:=hok.getNow (n:=nm) (by rw [Pure.PDisk.tick_now];exact hi)
  have hx':aget D.nodes i=some x:=by rw [Pure.PDisk.tick_nodes] at hx;exact hx
  obtain ⟨B,C,v,e1,e2,hs⟩:=(hs.take (.there (.there (.there (.there .here))))).nodeTake hx
  obtain ⟨a,c,hv,-⟩:=(hs.take (.there .here)).ownShape
  subst hv
  have hd:D.dataOf i=x.1:=by unfold PDisk.dataOf;rw [hx']
  have hsz:x.1.length≤4398046511104:=by
   have h1:=Pure.PDisk.size_le (D:=(counted D n).tick) (n:=nm) (i:=i) (by rw [Pure.PDisk.tick_now];exact hi)
   have h2:=hok.used
   have h3:(counted D n).tick.dataOf i=x.1:=by unfold PDisk.dataOf;rw [hx]
   rw [h3] at h1;omega
  dsimp only
  rw [hd]
  unfold pieceB
  obtain ⟨A,hA⟩:∃ A:Nat,min (max at_ 0) (x.1.length:Int)=A:=⟨(min (max at_ 0) (x.1.length:Int)).toNat,by omega⟩
  obtain ⟨M,hM⟩:∃ M:Nat,min (max n 0) ((x.1.length:Int)-min (max at_ 0) (x.1.length:Int))=M:=⟨(min (max n 0) ((x.1.length:Int)-min (max at_ 0) (x.1.length:Int))).toNat,by omega⟩
  rw [hM,hA]
  refine go ?_
  refine wl_sub (l':=A) (h':=A+M) (hs.take (.there .here)) rfl ?_ ?_ (by omega) (by omega) rfl fun v' l2 hr hs hb=>?_
  ·show some (Value.int .i64 (min (max at_ 0) (x.1.length:Int)))=_;rw [hA]
  ·show some (Value.int .i64 (min (max at_ 0) (x.1.length:Int)+min (max n 0) ((x.1.length:Int)-min (max at_ 0) (x.1.length:Int))))=_;rw [hM,hA];simp
  refine go ?_
  refine w_call (met (clone_spec hs hr (by simp;omega)) ?_)
  rintro _ w ⟨v2,rfl,hs⟩
  refine ⟨_,rfl,go ?_⟩
  have h2:=hs.imp fun _ k=>sepL_tail (fun hp=>hb hp) k
  have h3:=Sat.nodePut (i:=i) (y:=x) (B:=B) (C:=C) (F:=bytS v2 ((x.1.drop A).take (A+M-A))::errC .nilIface none::blk d 111 (diskCells z (counted D n).tick)::mapH keyS z.bn (namesV (counted D n).tick.now)::mapH keyS z.bs (namesV (counted D n).tick.safe)::movesC z.mv (counted D n).tick.moves::F) h2.to
  rw [← e1,Nat.add_sub_cancel_left] at h3
  exact wq_ret rfl ⟨_,_,rfl,Sat.diskClose (z:=z) hok h3.to⟩
end
section
open Go.Proofs.YtecibefflhomdaaGreatDoor.Pure (PDisk aget aput adel setM)
attribute [local irreducible] IntKind.wrap
variable {W0 w:World} {F l:List HProp} {v:Value} {d:Nat} {D:PDisk} {bs:Bs}
theorem zip_split {α β γ:Type} (f:α→β→γ):∀ {xs:List α} {ys:List β} {i:Nat} {x:α} {y:β},xs[i]?=some x→ys[i]?=some y→∃ B C,List.zipWith f xs ys=B++f x y::C
 | a::xs,b::ys,0,x,y,hx,hy=>by simp at hx hy;subst hx;subst hy;exact ⟨[],_,rfl⟩
 | a::xs,b::ys,i+1,x,y,hx,hy=>by
  simp at hx hy
  obtain ⟨B,C,h⟩:=zip_split f hx hy
  exact ⟨f a b::B,C,by simp [h]⟩
theorem syncdir_spec (hs:Sat W0 (DiskR d D::F) w) :
 Calls Tryz.prog 178 #[idV d] w fun x w'=>∃ ve,x=.returned ve∧Sat W0 (DiskR d (syncdirR D)::errC ve (if D.trips=true then some (some [],8) else none)::F) w':=by
 refine enter Tryz.func178 rfl Tryz.ntmps178 Tryz.results178 rfl ?_
 refine go ?_
 refine w_call (met (fails_spec hs) ?_)
 rintro _ w ⟨rfl,hs⟩
 refine ⟨_,rfl,?_⟩
 unfold syncdirR
 cases ht:D.trips with
 | true=>
  refine go ?_
  refine w_build [str [],.int .i64 8] ?_
  refine w_box hs fun w b hs=>?_
  refine go ?_
  exact wq_ret rfl ⟨_,rfl,(hs.errNew (s:=[])).to⟩
 | false=>
  obtain ⟨hok,z,hs⟩:=hs.diskOpen
  dsimp only [diskL,diskCells,List.cons_append,List.nil_append] at hs
  obtain ⟨vs,hvs,hs⟩:=(hs.take (.there (.there (.there .here)))).movesOpen
  dsimp only [List.cons_append,List.nil_append] at hs
  obtain ⟨a,c,hmv,hc⟩:=hs.ownShape
  have hc2:D.tick.moves.length≤9223372036854775807:=by have:=hc.1;have:=hc.2;simp only [maxLen] at this;omega
  have hsh:=hok.short
  have hok':=hok.synced
  generalize hD:D.tick=E at *
  refine go ?_
  rw [hmv]
  refine go ?_
  refine wc_loop (α:=Nat) (fun i=>[(0,idV d),(13,.slice a E.moves.length c),(14,.int .i64 (E.moves.length:Int)),(15,.int .i64 (i:Int))])
   (fun i w=>i≤E.moves.length∧Sat W0 (ownS 1 (.slice a E.moves.length c) 143 E.moves.length vs::star (List.zipWith mvV vs E.moves)::blk d 111 (diskCells z E)::mapH keyS z.bn (namesV E.now)::mapH keyS z.bs (namesV ((E.moves.take i).foldl setM E.safe))::star (E.nodes.map nodeC)::F) w) (fun i=>E.moves.length-i) 0 ⟨rfl,rfl,rfl,rfl,trivial⟩ ⟨Nat.zero_le _,by rw [← hmv];exact hs⟩ ?_
  clear hs
  rintro i w ⟨hi,hs⟩
  by_cases hlt:i<E.moves.length
  ·have hgm:E.moves[i]?=some E.moves[i]:=List.getElem?_eq_getElem hlt
   have hgv:vs[i]?=some vs[i]:=List.getElem?_eq_getElem (by omega)
   have hshort:=hsh _ (List.getElem_mem hlt)
   have hfold:(E.moves.take (i+1)).foldl setM E.safe=setM ((E.moves.take i).foldl setM E.safe) E.moves[i]:=by
    rw [List.take_succ_eq_append_getElem hlt,List.foldl_append];rfl
   generalize E.moves[i]=m at *
   generalize vs[i]=v at *
   obtain ⟨B,C,hz⟩:=zip_split mvV hgv hgm
   obtain ⟨b,cap,rs,hv,q1,q2,q3,hs2⟩:=hs.ownPos (by omega)
   simp only [Value.slice.injEq] at hv
   obtain ⟨rfl,_,rfl⟩:=hv
   have hcell:(vs++rs)[0+i*1]?=some v:=by rw [Nat.zero_add,Nat.mul_one,List.getElem?_append_left (by omega)];exact hgv
   refine go ?_
   refine wl_ixn (i:=i) rfl rfl rfl rfl rfl hlt rfl ?_
   refine wl_ld hs2 rfl rfl .here hcell rfl ?_
   rw [hz] at hs
   have h3:=(hs.take (.there .here)).starTake
   refine go ?_
   refine w_call (met (set_spec (m:=z.bs) (kvs:=(E.moves.take i).foldl setM E.safe) (mvs:=m) (v:=v) (F:=star (B++C)::ownS 1 (.slice (some ⟨b,0,none⟩) E.moves.length c) 143 E.moves.length vs::blk d 111 (diskCells z E)::mapH keyS z.bn (namesV E.now)::star (E.nodes.map nodeC)::F) h3.to hshort) ?_)
   rintro _ w ⟨rfl,hs⟩
   refine ⟨_,rfl,go ?_⟩
   refine wq_round (i+1) ⟨rfl,rfl,rfl,rfl,trivial⟩ ⟨hlt,?_⟩ (by omega)
   have h4:=(hs.take2 (.there .here) (.there .here)).starPut
   rw [← hz] at h4
   rw [hfold]
   exact h4.to
  ·have:i=E.moves.length:=by omega
   subst this
   rw [List.take_length] at hs
   refine go ?_
   refine w_st hs fun w hs=>?_
   refine go ?_
   have h5:Sat W0 (movesC (.slice none 0 0) []::blk d 111 ((diskCells z E).set (0+2) (.slice none 0 0))::mapH keyS z.bn (namesV E.now)::mapH keyS z.bs (namesV (E.moves.foldl setM E.safe))::star (E.nodes.map nodeC)::F) w:=
    Sat.movesClose (vs:=[]) rfl (hs.drop.drop.starNil.ownNil)
   exact wq_ret rfl ⟨_,rfl,Sat.diskClose (z:=⟨z.bn,z.bs,.slice none 0 0⟩) hok' (h5.errNil.to)⟩
theorem newDisk_ok {room:Int} (h0:0≤room) (h1:room≤2199023255552):(newDisk room).Ok:=
 ⟨fun p hp=>by simp [newDisk] at hp,fun p hp=>by simp [newDisk] at hp,fun l hl=>by simp [newDisk] at hl,by simp [newDisk],by simp [newDisk],h0,h1,by simp [newDisk],by simp [newDisk],by simp [newDisk],by simp [newDisk],by simp [newDisk,PDisk.used],fun l hl=>by simp [newDisk] at hl⟩
theorem newDisk_spec {room:Int} (hs:Sat W0 F w) (h0:0≤room) (h1:room≤2199023255552) :
 Calls Tryz.prog 22 #[.int .i64 room] w fun x w'=>∃ d,x=.returned (idV d)∧Sat W0 (DiskR d (newDisk room)::F) w':=by
 refine enter Tryz.func22 rfl Tryz.ntmps22 Tryz.results22 rfl ?_
 refine go ?_
 refine wl_makeMap hs rfl fun w m1 hs=>?_
 refine wl_makeMap (hs.mapNew keyS) rfl fun w m2 hs=>?_
 refine go ?_
 refine w_build [.map (some m1),.map (some m2),.slice none 0 0,.int .i64 room,.int .i64 0,.int .i64 0,.int .i64 0,.int .i64 0] ?_
 refine w_box (hs.mapNew keyS) fun w d hs=>?_
 refine go ?_
 refine wq_ret rfl ⟨d,rfl,Sat.diskClose (z:=⟨m1,m2,.slice none 0 0⟩) (newDisk_ok h0 h1) ?_⟩
 have h5:Sat W0 (movesC (.slice none 0 0) []::star ((newDisk room).nodes.map nodeC)::_) w:=Sat.movesClose (vs:=[]) rfl (Sat.ownNil (Sat.starNil (Sat.starNil hs)))
 exact h5.to
end
section
open Go.Proofs.YtecibefflhomdaaGreatDoor.Pure (PDisk aget aput adel setM aget_put aget_del aget_mem nodup_put nodup_del aget_of_mem aget_none_iff)
structure Sim (f:Nat→Nat) (D0 D:PDisk):Prop where
 now:∀ n,aget D0.now n=(aget D.now n).map f
 safe:∀ n,aget D0.safe n=(aget D.safe n).map f
 moves:D0.moves=D.moves.map (List.map fun p=>(p.1,p.2.map f))
 nodes:∀ i x,aget D.nodes i=some x→aget D0.nodes (f i)=some x
 inj:∀ i j,(aget D.nodes i).isSome=true→(aget D.nodes j).isSome=true→f i=f j→i=j
 ns0:(D0.safe.map (·.1)).Nodup
 ns:(D.safe.map (·.1)).Nodup
 room:D0.room=D.room
 wait:D0.wait=D.wait
 bad:D0.bad=D.bad
 reads:D0.reads=D.reads
 most:D0.most=D.most
 ok:D.Ok
def DiskA (d:Nat) (D:PDisk):HProp:=fun h=>∃ D0 f,Sim f D0 D∧DiskR d D0 h
section
variable {f:Nat→Nat} {D0 D:PDisk} {n:Bs}
theorem Sim.trips (h:Sim f D0 D):D0.trips=D.trips:=by unfold PDisk.trips;rw [h.wait,h.bad]
theorem Sim.tick (h:Sim f D0 D):Sim f D0.tick D.tick:=by
 have h1:D0.tick.wait=D.tick.wait:=by unfold PDisk.tick;rw [h.wait,h.bad];split<;>(try split)<;>simp [h.wait,h.bad]
 have h2:D0.tick.bad=D.tick.bad:=by unfold PDisk.tick;rw [h.wait,h.bad];split<;>(try split)<;>simp [h.wait,h.bad]
 refine ⟨?_,?_,?_,?_,?_,?_,?_,?_,h1,h2,?_,?_,h.ok.tick⟩<;>simp only [Pure.PDisk.tick_now,Pure.PDisk.tick_safe,Pure.PDisk.tick_moves,Pure.PDisk.tick_nodes,Pure.PDisk.tick_room,Pure.PDisk.tick_reads,Pure.PDisk.tick_most]
 ·exact h.now
 ·exact h.safe
 ·exact h.moves
 ·exact h.nodes
 ·exact h.inj
 ·exact h.ns0
 ·exact h.ns
 ·exact h.room
 ·exact h.reads
 ·exact h.most
theorem Sim.findES (h:Sim f D0 D) (n:Bs):findE D0 n=findE D n:=by
 unfold YtecibefflhomdaaGreatDoor.findE
 rw [h.trips,h.now n]
 cases aget D.now n<;>rfl
theorem Sim.dataOfS (h:Sim f D0 D) {i:Nat} (hi:(aget D.nodes i).isSome=true):D0.dataOf (f i)=D.dataOf i:=by
 obtain ⟨x,hx⟩:=Option.isSome_iff_exists.1 hi
 unfold PDisk.dataOf;rw [hx,h.nodes i x hx]
theorem Sim.safeOfS (h:Sim f D0 D) {i:Nat} (hi:(aget D.nodes i).isSome=true):safeOf D0 (f i)=safeOf D i:=by
 obtain ⟨x,hx⟩:=Option.isSome_iff_exists.1 hi
 unfold YtecibefflhomdaaGreatDoor.safeOf;rw [hx,h.nodes i x hx]
theorem Sim.has (h:Sim f D0 D) {i:Nat} (hi:aget D.now n=some i):(aget D.nodes i).isSome=true:=h.ok.now _ (aget_mem hi)
theorem perm_of_aget {κ α:Type} [DecidableEq κ] {a b:List (κ×α)} (ha:(a.map (·.1)).Nodup) (hb:(b.map (·.1)).Nodup) (h:∀ x,aget a x=aget b x):a.Perm b:=by
 have na:a.Nodup:=List.Pairwise.of_map _ (fun x y hxy e=>hxy (by rw [e])) ha
 have nb:b.Nodup:=List.Pairwise.of_map _ (fun x y hxy e=>hxy (by rw [e])) hb
 refine (List.perm_ext_iff_of_nodup na nb).2 fun p=>?_
 obtain ⟨k,v⟩:=p
 constructor
 ·intro hp;have:=aget_of_mem ha hp;rw [h] at this;exact aget_mem this
 ·intro hp;have:=aget_of_mem hb hp;rw [← h] at this;exact aget_mem this
theorem aget_map {κ α β:Type} [DecidableEq κ] (g:α→β):∀ (l:List (κ×α)) (x:κ),aget (l.map fun p=>(p.1,g p.2)) x=(aget l x).map g
 | [],_=>rfl
 | (k,v)::r,x=>by
  simp only [List.map_cons,aget]
  by_cases h:x=k
  ·simp [h]
  ·simp [h,aget_map g r x]
theorem Sim.perm (h:Sim f D0 D) (h0:D0.Ok):D0.now.Perm (D.now.map fun p=>(p.1,f p.2)):=by
 refine perm_of_aget h0.names ?_ fun x=>by rw [h.now,aget_map]
 rw [List.map_map];exact h.ok.names
theorem Sim.used (h:Sim f D0 D) (h0:D0.Ok):D0.used=D.used:=by
 unfold PDisk.used
 rw [((h.perm h0).map fun p=>(D0.dataOf p.2).length).sum_nat,List.map_map]
 congr 1
 exact List.map_congr_left fun p hp=>by simp only [Function.comp];rw [h.dataOfS (h.ok.now p hp)]
theorem aget_setM {f:Nat→Nat}:∀ (l:List (Bs×Option Nat)) (m0 m:List (Bs×Nat)),(m0.map (·.1)).Nodup→(m.map (·.1)).Nodup→(∀ n,aget m0 n=(aget m n).map f) →
 (∀ n,aget (setM m0 (l.map fun p=>(p.1,p.2.map f))) n=(aget (setM m l) n).map f)∧((setM m0 (l.map fun p=>(p.1,p.2.map f))).map (·.1)).Nodup∧((setM m l).map (·.1)).Nodup
 | [],m0,m,h0,h1,h=>⟨h,h0,h1⟩
 | (k,none)::l,m0,m,h0,h1,h=>aget_setM l (adel m0 k) (adel m k) (nodup_del h0 k) (nodup_del h1 k) fun n=>by
  rw [aget_del _ _ h0,aget_del _ _ h1,h n];split<;>rfl
 | (k,some i)::l,m0,m,h0,h1,h=>aget_setM l (aput m0 k (f i)) (aput m k i) (nodup_put h0 k _) (nodup_put h1 k _) fun n=>by
  rw [aget_put,aget_put,h n];split<;>rfl
theorem Sim.namedS (h:Sim f D0 D) (h0:D0.Ok) (l:List (Bs×Option Nat)) (hok:(named D l).Ok):Sim f (named D0 (l.map fun p=>(p.1,p.2.map f))) (named D l):=by
 have:=aget_setM (f:=f) l D0.now D.now h0.names h.ok.names h.now
 exact ⟨this.1,h.safe,by simp [YtecibefflhomdaaGreatDoor.named,h.moves],h.nodes,h.inj,h.ns0,h.ns,h.room,h.wait,h.bad,h.reads,h.most,hok⟩
theorem Sim.removed (h:Sim f D0 D) (h0:D0.Ok) (n:Bs):Sim f (D0.removed n) (D.removed n):=h.namedS h0 [(n,none)] (h.ok.removed n)
theorem Sim.renamed (h:Sim f D0 D) (h0:D0.Ok) {a b:Bs} {i:Nat} (hab:a≠b) (ha:aget D.now a=some i):Sim f (D0.renamed a b (f i)) (D.renamed a b i):=h.namedS h0 [(b,some i),(a,none)] (h.ok.renamed hab ha)
theorem Sim.laid (h:Sim f D0 D) {i:Nat} (hi:(aget D.nodes i).isSome=true) (x:Bs×Nat) (hok:(D.laid i x).Ok):Sim f (D0.laid (f i) x) (D.laid i x):=by
 refine ⟨h.now,h.safe,h.moves,fun j y hy=>?_,fun j k hj hk=>?_,h.ns0,h.ns,h.room,h.wait,h.bad,h.reads,h.most,hok⟩
 ·simp only [PDisk.laid,aget_put] at hy ⊢
  by_cases hj:j=i
  ·subst hj;simpa using hy
  ·simp only [hj,if_false] at hy
   have hne:f j≠f i:=fun e=>hj (h.inj j i (by rw [hy];rfl) hi e)
   simp only [hne,if_false];exact h.nodes j y hy
 ·have key:∀ j,(aget (D.laid i x).nodes j).isSome=true→(aget D.nodes j).isSome=true:=fun j hj=>by
   simp only [PDisk.laid,aget_put] at hj
   by_cases hji:j=i
   ·subst hji;exact hi
   ·simpa [hji] using hj
  exact h.inj j k (key j hj) (key k hk)
theorem Sim.created (h:Sim f D0 D) (h0:D0.Ok) {i0:Nat} (hi0:aget D0.nodes i0=none) (hn:aget D.now n=none):Sim (fun j=>if j=fresh D then i0 else f j) (D0.created n i0) (D.created n (fresh D)):=by
 have hfr:=fresh_none D
 have hne:∀ j,(aget D.nodes j).isSome=true→j≠fresh D:=fun j hj e=>by rw [e,hfr] at hj;cases hj
 have hne0:∀ j,(aget D.nodes j).isSome=true→f j≠i0:=fun j hj e=>by
  obtain ⟨x,hx⟩:=Option.isSome_iff_exists.1 hj
  have:=h.nodes j x hx;rw [e,hi0] at this;cases this
 have hn0:aget D0.now n=none:=by rw [h.now,hn];rfl
 refine ⟨fun m=>?_,fun m=>?_,?_,fun j y hy=>?_,fun j k hj hk hjk=>?_,h.ns0,h.ns,h.room,h.wait,h.bad,h.reads,h.most,h.ok.created hfr hn⟩
 ·show aget (aput D0.now n i0) m=(aget (aput D.now n (fresh D)) m).map _
  rw [aget_put,aget_put]
  by_cases hm:m=n
  ·simp [hm]
  ·simp only [hm,if_false,h.now]
   cases hg:aget D.now m with
   | none=>rfl
   | some j=>simp [hne j (h.has hg)]
 ·show aget D0.safe m=(aget D.safe m).map _
  rw [h.safe]
  cases hg:aget D.safe m with
  | none=>rfl
  | some j=>simp [hne j (h.ok.safe _ (aget_mem hg))]
 ·show D0.moves++[[(n,some i0)]]=(D.moves++[[(n,some (fresh D))]]).map _
  rw [h.moves,List.map_append]
  congr 1
  ·refine List.map_congr_left fun l hl=>List.map_congr_left fun p hp=>?_
   cases hp2:p.2 with
   | none=>rfl
   | some j=>simp [hne j (h.ok.moves l hl p hp j hp2)]
  ·simp
 ·show aget ((i0,(([]:Bs),0))::D0.nodes) _=_
  have hy':aget ((fresh D,(([]:Bs),0))::D.nodes) j=some y:=hy
  simp only [aget] at hy' ⊢
  by_cases hj:j=fresh D
  ·simpa [hj] using hy'
  ·simp only [hj,if_false] at hy' ⊢
   simp only [hne0 j (by rw [hy'];rfl),if_false]
   exact h.nodes j y hy'
 ·have key:∀ j,(aget ((fresh D,(([]:Bs),0))::D.nodes) j).isSome=true→j=fresh D∨(aget D.nodes j).isSome=true:=fun j hj=>by
   simp only [aget] at hj
   by_cases hj2:j=fresh D
   ·exact .inl hj2
   ·exact .inr (by simpa [hj2] using hj)
  rcases key j hj with h1|h1<;>rcases key k hk with h2|h2
  ·rw [h1,h2]
  ·simp only [h1,if_true,hne k h2,if_false] at hjk;exact absurd hjk.symm (hne0 k h2)
  ·simp only [h2,if_true,hne j h1,if_false] at hjk;exact absurd hjk (hne0 j h1)
  ·simp only [hne j h1,hne k h2,if_false] at hjk;exact h.inj j k h1 h2 hjk
theorem Sim.synced (h:Sim f D0 D):Sim f D0.synced D.synced:=by
 have key:∀ (ms:List (List (Bs×Option Nat))) (m0 m:List (Bs×Nat)),(m0.map (·.1)).Nodup→(m.map (·.1)).Nodup→(∀ n,aget m0 n=(aget m n).map f) →
  (∀ n,aget ((ms.map (List.map fun p=>(p.1,p.2.map f))).foldl setM m0) n=(aget (ms.foldl setM m) n).map f)∧(((ms.map (List.map fun p=>(p.1,p.2.map f))).foldl setM m0).map (·.1)).Nodup∧((ms.foldl setM m).map (·.1)).Nodup:=by
  intro ms
  induction ms with
  | nil=>intro m0 m h0 h1 h;exact ⟨h,h0,h1⟩
  | cons l ms ih=>
   intro m0 m h0 h1 h
   obtain ⟨a,b,c⟩:=aget_setM l m0 m h0 h1 h
   exact ih _ _ b c a
 obtain ⟨a,b,c⟩:=key D.moves D0.safe D.safe h.ns0 h.ns h.safe
 refine ⟨h.now,?_,rfl,h.nodes,h.inj,?_,c,h.room,h.wait,h.bad,h.reads,h.most,h.ok.synced⟩
 ·show ∀ n,aget (D0.moves.foldl setM D0.safe) n=_
  rw [h.moves];exact a
 ·show ((D0.moves.foldl setM D0.safe).map (·.1)).Nodup
  rw [h.moves];exact b
end
section
variable {W0 w:World} {F l:List HProp} {v:Value} {d:Nat} {D:PDisk} {n m:Bs}
theorem Sat.dOpen (h:Sat W0 (DiskA d D::F) w):∃ D0 f,Sim f D0 D∧D0.Ok∧Sat W0 (DiskR d D0::F) w:=by
 obtain ⟨⟨D0,f⟩,hs,h1⟩:=h.open1 (φ:=fun z:PDisk×(Nat→Nat)=>Sim z.2 z.1 D) (B:=fun z=>[DiskR d z.1]) fun hp ⟨D0,f,hs,k⟩=>⟨⟨D0,f⟩,hs,hp,fun _=>none,fun _ _ _ _ hy=>(by cases hy),Hp.le_refl _,fun _ _ hx=>(by cases hx),k,trivial⟩
 exact ⟨D0,f,hs,h1.pure1 fun _ k=>k.1,h1⟩
theorem Sat.dClose {D0:PDisk} {f:Nat→Nat} (hs:Sim f D0 D) (h:Sat W0 (DiskR d D0::F) w):Sat W0 (DiskA d D::F) w:=h.head fun _ k=>⟨D0,f,hs,k⟩
theorem Sat.dOk (h:Sat W0 (DiskA d D::F) w):D.Ok:=h.pure1 fun _ ⟨_,_,hs,_⟩=>hs.ok
theorem create_a (hs:Sat W0 (DiskA d D::F) w) (hm:D.moves.length≤1099511627776) :
 Calls Tryz.prog 78 #[idV d,str n] w fun x w'=>∃ ve,x=.returned ve∧Sat W0 (DiskA d (createD D n)::errC ve (createE D n)::F) w':=by
 obtain ⟨D0,f,h,h0,hs⟩:=hs.dOpen
 refine (create_spec (n:=n) hs (by rw [h.moves,List.length_map];exact hm)).mono ?_
 rintro _ w' ⟨ve,e,D',rfl,hc,hs⟩
 refine ⟨ve,rfl,?_⟩
 have hsome:(aget D0.now n).isSome=(aget D.now n).isSome:=by rw [h.now];cases aget D.now n<;>rfl
 have hnone:aget D0.now n=none→aget D.now n=none:=fun h1=>by rw [h.now] at h1;cases hx:aget D.now n<;>simp_all
 unfold createD createE
 rcases hc with ⟨h1,rfl,rfl⟩|⟨h1,h2,rfl,rfl⟩|⟨h1,h2,rfl,i,h3,rfl⟩
 ·rw [h.trips] at h1;rw [if_pos h1,if_pos h1]
  exact hs.dClose h.tick
 ·rw [h.trips] at h1;rw [hsome] at h2
  simp only [h1,h2,Bool.false_eq_true,if_false,if_true]
  exact hs.dClose h.tick
 ·rw [h.trips] at h1
  have h4:=hnone h2
  simp only [h1,h4,Option.isSome_none,Bool.false_eq_true,if_false]
  exact hs.dClose (h.tick.created h0.tick (by rw [Pure.PDisk.tick_nodes];exact h3) (by rw [Pure.PDisk.tick_now];exact h4))
theorem size_a (hs:Sat W0 (DiskA d D::F) w) :
 Calls Tryz.prog 160 #[idV d,str n] w fun x w'=>∃ ve,x=.returned (.tuple #[.int .i64 (sizeB D n:Int),ve])∧Sat W0 (DiskA d D.tick::errC ve (findE D n)::F) w':=by
 obtain ⟨D0,f,h,h0,hs⟩:=hs.dOpen
 refine (size_spec (n:=n) hs).mono ?_
 rintro _ w' ⟨ve,rfl,hs⟩
 rw [h.findES] at hs ⊢
 refine ⟨ve,?_,hs.dClose h.tick⟩
 unfold sizeB fileOf
 cases findE D n with
 | some e=>rfl
 | none=>
  simp only [h.now]
  cases hg:aget D.now n with
  | none=>rfl
  | some i=>simp only [Option.map_some,h.dataOfS (h.has hg)]
theorem Sim.onFileS {f:Nat→Nat} {D0:PDisk} (h:Sim f D0 D) {g0 g:Nat→PDisk} (k:∀ i,findE D n=none→aget D.now n=some i→Sim f (g0 (f i)) (g i)):Sim f (onFile D0 n g0) (onFile D n g):=by
 unfold YtecibefflhomdaaGreatDoor.onFile
 rw [h.findES,h.now]
 cases he:findE D n with
 | some e=>exact h.tick
 | none=>
  cases hg:aget D.now n with
  | none=>exact h.tick
  | some i=>exact k i he hg
theorem laid_same_ok (h:D.Ok) (i:Nat) (x:Bs×Nat) (hx:x.1=D.dataOf i):(D.laid i x).Ok:=h.laid (Nat.le_trans (Pure.PDisk.used_laid (k:=0) h (by rw [hx];rfl)) h.used)
theorem sync_a (hs:Sat W0 (DiskA d D::F) w) :
 Calls Tryz.prog 86 #[idV d,str n] w fun x w'=>∃ ve,x=.returned ve∧Sat W0 (DiskA d (syncD D n)::errC ve (findE D n)::F) w':=by
 obtain ⟨D0,f,h,h0,hs⟩:=hs.dOpen
 refine (sync_spec (n:=n) hs).mono ?_
 rintro _ w' ⟨ve,rfl,hs⟩
 rw [h.findES] at hs
 refine ⟨ve,rfl,hs.dClose (h.onFileS fun i he hg=>?_)⟩
 have hi:=h.has hg
 rw [h.dataOfS hi]
 exact h.tick.laid (by rw [Pure.PDisk.tick_nodes];exact hi) _ (laid_same_ok h.ok.tick _ _ (by simp))
theorem remove_a (hs:Sat W0 (DiskA d D::F) w) (hm:D.moves.length≤1099511627776) :
 Calls Tryz.prog 77 #[idV d,str n] w fun x w'=>∃ ve,x=.returned ve∧Sat W0 (DiskA d (removeD D n)::errC ve (findE D n)::F) w':=by
 obtain ⟨D0,f,h,h0,hs⟩:=hs.dOpen
 refine (remove_spec (n:=n) hs (by rw [h.moves,List.length_map];exact hm)).mono ?_
 rintro _ w' ⟨ve,rfl,hs⟩
 rw [h.findES] at hs
 exact ⟨ve,rfl,hs.dClose (h.onFileS fun i he hg=>h.tick.removed h0.tick n)⟩
theorem rename_a (hs:Sat W0 (DiskA d D::F) w) (hm:D.moves.length≤1099511627776) :
 Calls Tryz.prog 177 #[idV d,str n,str m] w fun x w'=>∃ ve,x=.returned ve∧Sat W0 (DiskA d (renameD D n m)::errC ve (findE D n)::F) w':=by
 obtain ⟨D0,f,h,h0,hs⟩:=hs.dOpen
 refine (rename_spec (n:=n) (m:=m) hs (by rw [h.moves,List.length_map];exact hm)).mono ?_
 rintro _ w' ⟨ve,rfl,hs⟩
 rw [h.findES] at hs
 refine ⟨ve,rfl,hs.dClose (h.onFileS fun i he hg=>?_)⟩
 by_cases hnm:n=m
 ·rw [if_pos hnm,if_pos hnm];exact h.tick
 ·rw [if_neg hnm,if_neg hnm];exact h.tick.renamed h0.tick hnm (by rw [Pure.PDisk.tick_now];exact hg)
theorem Sim.appendES {f:Nat→Nat} {D0:PDisk} (h:Sim f D0 D) (h0:D0.Ok) (n bs:Bs):appendE D0 n bs=appendE D n bs:=by
 unfold YtecibefflhomdaaGreatDoor.appendE;rw [h.findES,h.room,h.used h0]
theorem appendE_room {bs:Bs} (he:appendE D n bs=none):findE D n=none∧(D.used:Int)+bs.length≤D.room:=by
 unfold appendE at he
 split at he
 ·cases he
 ·rename_i hf
  split at he
  ·cases he
  ·exact ⟨hf,by omega⟩
theorem append_a {bs:Bs} {vb:Value} (hs:Sat W0 (DiskA d D::bytS vb bs::F) w) :
 Calls Tryz.prog 79 #[idV d,str n,vb] w fun x w'=>∃ ve,x=.returned ve∧Sat W0 (DiskA d (appended D n bs)::bytS vb bs::errC ve (appendE D n bs)::F) w':=by
 obtain ⟨D0,f,h,h0,hs⟩:=hs.dOpen
 refine (append_spec (n:=n) hs).mono ?_
 rintro _ w' ⟨ve,rfl,hs⟩
 rw [h.appendES h0] at hs
 refine ⟨ve,rfl,hs.dClose (f:=f) ?_⟩
 unfold appended
 rw [h.appendES h0]
 cases he:appendE D n bs with
 | some e=>exact h.tick
 | none=>
  rw [h.now]
  cases hg:aget D.now n with
  | none=>exact h.tick
  | some i=>
   simp only [Option.map_some]
   have hi:=h.has hg
   rw [h.dataOfS hi,h.safeOfS hi]
   obtain ⟨_,hroom⟩:=appendE_room he
   have hr:=h.ok.room1
   refine h.tick.laid (by rw [Pure.PDisk.tick_nodes];exact hi) _ (h.ok.tick.laid (Nat.le_trans (Pure.PDisk.used_laid (k:=bs.length) h.ok.tick (by simp)) ?_))
   rw [Pure.PDisk.tick_used];omega
theorem syncdir_a (hs:Sat W0 (DiskA d D::F) w) :
 Calls Tryz.prog 178 #[idV d] w fun x w'=>∃ ve,x=.returned ve∧Sat W0 (DiskA d (syncdirR D)::errC ve (if D.trips=true then some (some [],8) else none)::F) w':=by
 obtain ⟨D0,f,h,h0,hs⟩:=hs.dOpen
 refine (syncdir_spec hs).mono ?_
 rintro _ w' ⟨ve,rfl,hs⟩
 rw [h.trips] at hs
 refine ⟨ve,rfl,hs.dClose (f:=f) ?_⟩
 unfold syncdirR
 rw [h.trips]
 split
 ·exact h.tick
 ·exact h.tick.synced
theorem Sim.countedS {f:Nat→Nat} {D0:PDisk} (h:Sim f D0 D) (n:Int):Sim f (counted D0 n) (counted D n):=
 ⟨h.now,h.safe,h.moves,h.nodes,h.inj,h.ns0,h.ns,h.room,h.wait,h.bad,by simp [YtecibefflhomdaaGreatDoor.counted,h.reads],by simp [YtecibefflhomdaaGreatDoor.counted,h.most],counted_ok h.ok n⟩
theorem readAt_a {nm:Bs} {at_ n:Int} (hs:Sat W0 (DiskA d D::F) w) (ha1:-9223372036854775808≤at_) (ha2:at_≤9223372036854775807) (hn1:-9223372036854775808≤n) (hn2:n≤9223372036854775807) :
 Calls Tryz.prog 161 #[idV d,str nm,.int .i64 at_,.int .i64 n] w fun x w'=>∃ v ve,x=.returned (.tuple #[v,ve])∧Sat W0 (DiskA d (counted D n).tick::bytS v (readD D nm at_ n)::errC ve (findE D nm)::F) w':=by
 obtain ⟨D0,f,h,h0,hs⟩:=hs.dOpen
 refine (readAt_spec (nm:=nm) hs ha1 ha2 hn1 hn2).mono ?_
 rintro _ w' ⟨v,ve,rfl,hs⟩
 rw [h.findES] at hs
 have e:readB D0 nm at_ n=readD D nm at_ n:=by
  unfold readB readD fileOf
  rw [h.findES]
  cases he:findE D nm with
  | some e=>rfl
  | none=>
   simp only [h.now]
   cases hg:aget D.now nm with
   | none=>simp [pieceB]
   | some i=>simp only [Option.map_some,h.dataOfS (h.has hg)]
 rw [e] at hs
 exact ⟨v,ve,rfl,hs.dClose (h.countedS n).tick⟩
theorem newDisk_a {room:Int} (hs:Sat W0 F w) (h0:0≤room) (h1:room≤2199023255552) :
 Calls Tryz.prog 22 #[.int .i64 room] w fun x w'=>∃ d,x=.returned (idV d)∧Sat W0 (DiskA d (newDisk room)::F) w':=by
 refine (newDisk_spec hs h0 h1).mono ?_
 rintro _ w' ⟨d,rfl,hs⟩
 refine ⟨d,rfl,hs.dClose (f:=id) ⟨fun n=>?_,fun n=>?_,rfl,fun i x hx=>?_,fun i j hi=>?_,?_,?_,rfl,rfl,rfl,rfl,rfl,newDisk_ok h0 h1⟩⟩
 ·simp [newDisk,aget]
 ·simp [newDisk,aget]
 ·simp [newDisk,aget] at hx
 ·simp [newDisk,aget] at hi
 ·simp [newDisk]
 ·simp [newDisk]
end
end
section
open Go.Proofs.YtecibefflhomdaaGreatDoor.Pure (numB textB crc crcBit crcUp crcFrom frameB numB_length Ent putB Rd beN openB beN_append beN_lt)
attribute [local irreducible] IntKind.wrap
variable {W0 w:World} {F:List HProp} {v vr:Value} {bs:Bs} {r:Nat} {rd:Rd}
def rdR (r:Nat) (rd:Rd):HProp:=fun h=>∃ vr,sepL [blk r 190 [vr,.bool rd.bad],vw vr rd.rest] h
theorem Sat.rdOpen (h:Sat W0 (rdR r rd::F) w):∃ vr,True∧Sat W0 ([blk r 190 [vr,.bool rd.bad],vw vr rd.rest]++F) w:=h.open1 fun hp ⟨vr,k⟩=>⟨vr,trivial,k⟩
theorem Sat.rdClose (h:Sat W0 (blk r 190 [vr,.bool rd.bad]::vw vr rd.rest::F) w):Sat W0 (rdR r rd::F) w:=Sat.close (B:=[blk r 190 [vr,.bool rd.bad],vw vr rd.rest]) h fun hp k=>⟨vr,k⟩
theorem bytes_spec {N:Int} (hs:Sat W0 (rdR r rd::F) w) (hl:rd.rest.length≤140737488355328) (h1:-9223372036854775808≤N) (h2:N≤9223372036854775807) :
 Calls Tryz.prog 164 #[.pointer (some ⟨r,0,none⟩),.int .i64 N] w fun x w'=>∃ v',x=.returned v'∧Sat W0 (rdR r (rd.bytes N).2::vw v' (rd.bytes N).1::F) w':=by
 obtain ⟨vr,-,hs⟩:=hs.rdOpen
 dsimp only [List.cons_append,List.nil_append] at hs
 obtain ⟨rs,bad⟩:=rd
 dsimp only at hs hl
 obtain ⟨a,c,rfl,hc⟩:=(hs.take (.there .here)).vwShape
 refine enter Tryz.func164 rfl Tryz.ntmps164 Tryz.results164 rfl ?_
 by_cases hbad:(bad=true∨N<0∨(rs.length:Int)<N)
 ·have hp:Rd.bytes ⟨rs,bad⟩ N=([],⟨rs,true⟩):=by unfold Rd.bytes;rw [if_pos hbad]
  rw [hp]
  have fin:∀ w,Sat W0 (blk r 190 [.slice a rs.length c,.bool true]::vw (.slice a rs.length c) rs::F) w→∃ v',Ending.returned (tupV [.slice none 0 0])=.returned v'∧Sat W0 (rdR r ⟨rs,true⟩::vw v' []::F) w:=fun w hs=>
   ⟨_,rfl,Sat.rdClose (rd:=⟨rs,true⟩) ((hs.vwEmp (.inl rfl) (fun _=>rfl)).to)⟩
  by_cases hb:bad=true
  ·subst hb
   refine go ?_
   refine w_st hs fun w hs=>?_
   refine go ?_
   exact wq_ret rfl (fin _ hs)
  ·have hb':bad=false:=by simpa using hb
   subst hb'
   by_cases hn:N<0
   ·refine go ?_
    refine w_st hs fun w hs=>?_
    refine go ?_
    exact wq_ret rfl (fin _ hs)
   ·have hn2:(rs.length:Int)<N:=by simp at hbad;omega
    refine go ?_
    refine w_st hs fun w hs=>?_
    refine go ?_
    exact wq_ret rfl (fin _ hs)
 ·have hp:Rd.bytes ⟨rs,bad⟩ N=(rs.take N.toNat,⟨rs.drop N.toNat,false⟩):=by unfold Rd.bytes;rw [if_neg hbad]
  rw [hp]
  simp only [not_or] at hbad
  obtain ⟨hb,hn,hn2⟩:=hbad
  have hb':bad=false:=by simpa using hb
  subst hb'
  have hn3:¬ N > (rs.length:Int):=hn2
  refine go ?_
  refine wl_vhi (m:=N.toNat) hs (.there .here) rfl rfl (by omega) (by omega) rfl fun v1 hs=>?_
  refine go ?_
  refine wl_vlo (m:=N.toNat) hs (.there (.there .here)) rfl rfl (by omega) (by omega) rfl fun v2 hs=>?_
  refine go ?_
  obtain ⟨a2,c2,rfl,-⟩:=hs.vwShape
  refine w_st hs fun w hs=>?_
  refine go ?_
  exact wq_ret rfl ⟨_,rfl,Sat.rdClose (rd:=⟨rs.drop N.toNat,false⟩) hs.to⟩
theorem rnum_spec {K:Nat} (hs:Sat W0 (rdR r rd::F) w) (hl:rd.rest.length≤140737488355328) (hK:K≤8) :
 Calls Tryz.prog 93 #[.pointer (some ⟨r,0,none⟩),.int .i64 (K:Int)] w fun x w'=>x=.returned (.int .u64 ((rd.num K).1:Int))∧Sat W0 (rdR r (rd.num K).2::F) w':=by
 refine enter Tryz.func93 rfl Tryz.ntmps93 Tryz.results93 rfl ?_
 refine go ?_
 refine w_call (met (bytes_spec (N:=(K:Int)) hs hl (by omega) (by omega)) ?_)
 rintro _ w ⟨v,rfl,hs⟩
 refine ⟨v,rfl,?_⟩
 have hbl:=Rd.bytes_len rd (K:Int)
 have hfin:beN (rd.bytes (K:Int)).1=(rd.num K).1:=rfl
 have hfin2:(rd.bytes (K:Int)).2=(rd.num K).2:=rfl
 generalize hbs:(rd.bytes (K:Int)).1=bs at hs hbl hfin
 rw [hfin2] at hs
 rw [← hfin]
 obtain ⟨a,c,rfl,hc⟩:=(hs.take (.there .here)).vwShape
 refine go ?_
 refine wc_loop (α:=Nat×Nat) (fun z=>[(5,.int .u64 (z.2:Int)),(10,.slice a bs.length c),(11,.int .i64 (bs.length:Int)),(12,.int .i64 (z.1:Int))])
  (fun z w=>z.1≤bs.length∧z.2=beN (bs.take z.1)∧Sat W0 (rdR r (rd.num K).2::vw (.slice a bs.length c) bs::F) w) (fun z=>bs.length-z.1) (0,0) ⟨rfl,rfl,rfl,rfl,trivial⟩ ⟨Nat.zero_le _,rfl,hs⟩ ?_
 clear hs
 rintro ⟨i,m⟩ w ⟨hi,hm,hs⟩
 dsimp only at hi hm hs ⊢
 have hml:m<256^i:=by rw [hm];have:=beN_lt (bs.take i);rwa [List.length_take,Nat.min_eq_left hi] at this
 by_cases hlt:i<bs.length
 ·have hi8:i<8:=by omega
  have hml2:m<72057594037927936:=Nat.lt_of_lt_of_le hml (Nat.le_trans (Nat.pow_le_pow_right (by decide) (show i≤7 by omega)) (by decide))
  obtain ⟨z,⟨hv,hzc,hcell⟩,hs2⟩:=(hs.take (.there .here)).vwOpen (by intro h;subst h;simp at hlt)
  obtain ⟨rfl,rfl⟩:a=some ⟨z.b,z.o,none⟩∧c=z.c:=by simpa using hv
  have hbyte:=(bs[i]).toNat_lt
  have hc1:z.all[z.o+i*1]?=some (bV bs[i]):=by rw [Nat.mul_one];exact hcell i _ (by simp [hlt])
  refine go ?_
  refine wl_ixn (i:=i) rfl rfl rfl rfl rfl hlt rfl ?_
  refine wl_ld hs2 rfl rfl .here hc1 rfl ?_
  refine go ?_
  have e1:(IntKind.u64.wrap ((m*2^8:Nat):Int))=((m*256:Nat):Int):=IntWalk.u64_in _ (by omega)
  refine wl_shl (N:=m) (m:=8) rfl rfl rfl (by decide) e1 rfl ?_
  refine go ?_
  refine wl_bits (N:=m*256) (M:=(bs[i]).toNat) (R:=m*256+(bs[i]).toNat) (k:=.u64) rfl rfl rfl (by simp only [IntKind.bits];omega) (by simp only [IntKind.bits];omega) ?_ rfl ?_
  ·simp only [bitN]
   congr 1
   have:=Nat.two_pow_add_eq_or_of_lt (i:=8) hbyte m
   rw [Nat.mul_comm m 256];exact this.symm
  refine go ?_
  refine wq_round (i+1,m*256+(bs[i]).toNat) ⟨rfl,rfl,rfl,rfl,trivial⟩ ⟨by omega,?_,hs⟩ (by simp;omega)
  dsimp only
  rw [List.take_succ_eq_append_getElem hlt,beN_append,← hm]
 ·have:i=bs.length:=by omega
  subst this
  refine go ?_
  exact wq_ret rfl ⟨by rw [hm,List.take_length];rfl,hs.to⟩
end
end Go.Proofs.YtecibefflhomdaaGreatDoor
