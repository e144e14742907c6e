/-
  Part 42: WALKS api; WALKS slices; WALKS slices; WALKS api.
-/
import Derived.Test.YtecibefflhomdaaGreatDoorU38
import Derived.Shelf.Sort.Plain
set_option maxHeartbeats 8000000
set_option maxRecDepth 100000
set_option linter.all false
namespace Go.Proofs.YtecibefflhomdaaGreatDoor
open Go
section
open Go.Proofs.YtecibefflhomdaaGreatDoor.Pure (PDisk aget aput aget_put aget_put_same aget_of_mem aget_none_iff aget_mem)
attribute [local irreducible] IntKind.wrap
variable {W0 w:World} {F l:List HProp} {v:Value} {d:Nat} {D:PDisk} {bs:Bs}
abbrev Cp:=Bs×Nat×Bs
abbrev cpN (cp:List Cp):List (Bs×Nat):=cp.map fun c=>(c.1,c.2.1)
abbrev cpF (cp:List Cp):List (Nat×(Bs×Nat)):=cp.map fun c=>(c.2.1,(c.2.2,c.2.2.length))
abbrev cpE (cp:List Cp):List (Bs×Bs):=cp.map fun c=>(c.1,c.2.2)
abbrev cpD (room:Int) (cp:List Cp):PDisk:=⟨cpN cp,cpN cp,[],cpF cp,room,0,0,0,0⟩
abbrev nowE (D:PDisk) (l:List (Bs×Nat)):List (Bs×Bs):=l.map fun p=>(p.1,D.dataOf p.2)
theorem aput_new {κ α:Type} [DecidableEq κ]:∀ {l:List (κ×α)} {x:κ} {u:α},aget l x=none→aput l x u=l++[(x,u)]
 | [],_,_,_=>rfl
 | (k,v)::r,x,u,h=>by
  unfold aget at h
  by_cases hx:x=k
  ·rw [if_pos hx] at h;cases h
  ·rw [if_neg hx] at h
   unfold aput
   rw [if_neg hx,aput_new h];rfl
theorem aget_perm {κ α:Type} [DecidableEq κ] {a b:List (κ×α)} (hb:(b.map (·.1)).Nodup) (h:a.Perm b) (x:κ):aget a x=aget b x:=by
 have ha:(a.map (·.1)).Nodup:=(h.map (·.1)).nodup_iff.2 hb
 cases hx:aget b x with
 | none=>
  rw [aget_none_iff] at hx ⊢
  exact fun hm=>hx ((h.map (·.1)).mem_iff.1 hm)
 | some u=>exact aget_of_mem ha (h.mem_iff.2 (aget_mem hx))
theorem cp_data {cp:List Cp} {room:Int} (hid:(cp.map (·.2.1)).Nodup) {c:Cp} (hc:c∈cp):(cpD room cp).dataOf c.2.1=c.2.2:=by
 have h1:aget (cpF cp) c.2.1=some (c.2.2,c.2.2.length):=aget_of_mem (by rw [List.map_map];exact hid) (List.mem_map.2 ⟨c,hc,rfl⟩)
 unfold PDisk.dataOf
 show (match aget (cpF cp) c.2.1 with|some x=>x.1|none=>[])=_
 rw [h1]
theorem cp_file {cp:List Cp} {room:Int} (hid:(cp.map (·.2.1)).Nodup) (m:Bs):file (cpD room cp) m=aget (cpE cp) m:=by
 unfold file
 show (aget (cpN cp) m).map _=_
 have key:∀ l:List Cp,(∀ c∈l,c∈cp)→(aget (cpN l) m).map (cpD room cp).dataOf=aget (cpE l) m:=by
  intro l
  induction l with
  | nil=>intro _;rfl
  | cons c r ih=>
   intro hl
   have ih:=ih fun c hc=>hl c (List.mem_cons_of_mem _ hc)
   simp only [cpN,cpE,List.map_cons,aget] at ih ⊢
   by_cases hm:m=c.1
   ·rw [if_pos hm,if_pos hm,Option.map_some,cp_data hid (hl c (by simp))]
   ·rw [if_neg hm,if_neg hm];exact ih
 exact key cp fun _ h=>h
theorem now_file (D:PDisk) (m:Bs):∀ l:List (Bs×Nat),aget (nowE D l) m=(aget l m).map D.dataOf
 | []=>rfl
 | p::r=>by
  simp only [nowE,List.map_cons,aget]
  by_cases hm:m=p.1
  ·rw [if_pos hm,if_pos hm];rfl
  ·rw [if_neg hm,if_neg hm];exact now_file D m r
theorem cp_copy {cp:List Cp} (hok:D.Ok) (hid:(cp.map (·.2.1)).Nodup) (hp:(cpE cp).Perm (nowE D D.now)):IsCopy D (cpD D.room cp):=by
 have hkeys:((nowE D D.now).map (·.1)).Nodup:=by rw [List.map_map];exact hok.names
 have hn:(cp.map (·.1)).Nodup:=by
  have:=(hp.map (·.1)).nodup_iff.2 hkeys
  rwa [List.map_map] at this
 have hu:(cpD D.room cp).used=D.used:=by
  unfold PDisk.used
  have h1:((cpD D.room cp).now.map fun p=>((cpD D.room cp).dataOf p.2).length)=(cpE cp).map fun e=>e.2.length:=by
   show (cpN cp).map _=_
   rw [List.map_map,List.map_map]
   exact List.map_congr_left fun c hc=>by show ((cpD D.room cp).dataOf c.2.1).length=_;rw [cp_data hid hc];rfl
  have h2:(D.now.map fun p=>(D.dataOf p.2).length)=(nowE D D.now).map fun e=>e.2.length:=by rw [List.map_map];rfl
  rw [h1,h2]
  exact (hp.map _).sum_nat
 have hsome:∀ p∈cpN cp,(aget (cpF cp) p.2).isSome=true:=by
  intro p hp
  obtain ⟨c,hc,rfl⟩:=List.mem_map.1 hp
  cases h:aget (cpF cp) c.2.1 with
  | some _=>rfl
  | none=>exact absurd (List.mem_map.2 ⟨_,List.mem_map.2 ⟨c,hc,rfl⟩,rfl⟩) (aget_none_iff.1 h)
 refine ⟨⟨hsome,hsome,fun l hl=>by simp at hl,by rw [List.map_map];exact hn,by rw [List.map_map];exact hid,hok.room0,hok.room1,by simp,by simp,by simp,by simp,by rw [hu];exact hok.used,fun l hl=>by simp at hl⟩,fun m=>?_,rfl,rfl,rfl,hu⟩
 rw [cp_file hid,aget_perm hkeys hp m,now_file]
 rfl
theorem Sat.bytRd (hs:Sat W0 (bytS v bs::l) w):∃ A:HProp,RdB (A::l) v bs∧Sat W0 (A::l) w∧∀ hp,A hp→bytS v bs hp:=by
 by_cases hb:bs=[]
 ·subst hb
  obtain ⟨a,c,rfl,-⟩:=hs.ownShape
  exact ⟨_,.inl ⟨rfl,a,c,rfl⟩,hs,fun _ h=>h⟩
 ·have hpos:0<bs.length:=(by cases bs with|nil=>exact absurd rfl hb|cons _ _=>simp)
  have hlen:=hs.ownLen
  have hone:=hs.ownOne
  obtain ⟨b,cap,rs,rfl,q1,q2,q3,hs2⟩:=hs.ownPos hpos
  refine ⟨blk b 5 (bs.map bV++rs),.inr ⟨b,0,cap,false,_,_,_,rfl,.here,fun j u hu=>?_⟩,hs2,fun hp k=>⟨hlen,hone,.inr ⟨b,cap,rs,rfl,q1,q2,q3,k⟩⟩⟩
  simp only [List.getElem?_toArray,Nat.zero_add]
  rw [List.getElem?_append_left (List.getElem?_eq_some_iff.1 hu).1];exact hu
theorem copy_spec (hs:Sat W0 (DiskR d D::F) w) :
 Calls Tryz.prog 16 #[idV d] w fun x w'=>∃ c cp,x=.returned (idV c)∧IsCopy D (cpD D.room cp)∧Sat W0 (DiskR c (cpD D.room cp)::DiskR d D::F) w':=by
 obtain ⟨hok,z,hs⟩:=hs.diskOpen
 dsimp only [diskL,diskCells,List.cons_append,List.nil_append] at hs
 refine enter Tryz.func16 rfl Tryz.ntmps16 Tryz.results16 rfl ?_
 refine gy ?_
 refine w_call (met (newDisk_spec hs hok.room0 hok.room1) ?_)
 clear hs
 rintro _ w ⟨c,rfl,hs⟩
 refine ⟨_,rfl,?_⟩
 obtain ⟨-,zc,hs⟩:=hs.diskOpen
 dsimp only [diskL,diskCells,List.cons_append,List.nil_append] at hs
 refine gy ?_
 refine wl_range keyS hs (.there (.there (.there (.there (.there (.there .here)))))) rfl rfl rfl ?_
 clear hs
 intro w it hs
 refine gy ?_
 refine wc_loop (α:=List (Bs×Nat)×List Cp) (fun _=>[(3,idV c),(15,.pointer (some ⟨it,0,none⟩))])
  (fun y w=>(((cpE y.2++nowE D y.1).Perm (nowE D D.now))∧(y.2.map (·.2.1)).Nodup∧(∀ p∈y.1,p∈D.now))∧∃ last,Sat W0 (rangeH keyS z.bn it (namesV D.now) (namesV y.1) last::blk c 111 (diskCells zc (cpD D.room y.2))::mapH keyS zc.bn (namesV (cpN y.2))::mapH keyS zc.bs (namesV (cpN y.2))::movesC zc.mv []::star ((cpF y.2).map nodeC)::blk d 111 (diskCells z D)::mapH keyS z.bs (namesV D.safe)::movesC z.mv D.moves::star (D.nodes.map nodeC)::F) w)
  (fun y=>y.1.length) (D.now,[]) ⟨rfl,rfl,trivial⟩ ⟨⟨by simp,by simp,fun _ h=>h⟩,none,hs.to⟩ ?_
 clear hs
 rintro ⟨left,cp⟩ w ⟨⟨hp,hid,hsub⟩,last,hs⟩
 dsimp only at hp hid hsub hs ⊢
 refine gy ?_
 refine wl_next keyS hs .here rfl rfl (fun h0=>?_) (fun l1 x l2 w hl hs=>?_)
 ·have hl0:left=[]:=by simpa [namesV] using h0
  subst hl0
  have hp:(cpE cp).Perm (nowE D D.now):=by simpa using hp
  have hcp:=cp_copy hok hid hp
  have hs:=hs.rangeDone
  refine gy ?_
  refine wq_ret rfl ⟨_,cp,rfl,hcp,?_⟩
  have h2:=Sat.diskClose (z:=z) (d:=d) (D:=D) (F:=diskL c zc (cpD D.room cp)++F) hok hs.to
  exact Sat.diskClose (z:=zc) (d:=c) (D:=cpD D.room cp) (F:=DiskR d D::F) hcp.ok h2.to
 ·obtain ⟨a,p,b,rfl,rfl,hab⟩:=namesV_split hl
  rw [hab] at hs
  have hpn:p∈D.now:=hsub p (by simp)
  obtain ⟨x,hx⟩:∃ x,aget D.nodes p.2=some x:=Option.isSome_iff_exists.1 (hok.now p hpn)
  have hdata:D.dataOf p.2=x.1:=by unfold PDisk.dataOf;rw [hx]
  have hkeys:((nowE D D.now).map (·.1)).Nodup:=by rw [List.map_map];exact hok.names
  have hnew:aget (cpN cp) p.1=none:=by
   rw [aget_none_iff]
   intro hm
   have h1:=(hp.map (·.1)).nodup_iff.2 hkeys
   rw [List.map_append,List.nodup_append] at h1
   refine h1.2.2 p.1 ?_ p.1 ?_ rfl
   ·rw [List.map_map] at hm ⊢;exact hm
   ·rw [List.map_map];exact List.mem_map.2 ⟨p,by simp,rfl⟩
  have hperm:(cpE cp++(p.1,x.1)::nowE D (a++b)).Perm (nowE D D.now):=by
   refine List.Perm.trans ?_ hp
   refine List.Perm.append_left _ ?_
   simp only [nowE,List.map_append,List.map_cons]
   rw [← hdata]
   exact List.perm_middle.symm
  have hsz:x.1.length≤4398046511104:=by
   have h1:aget D.now p.1=some p.2:=aget_of_mem hok.names hpn
   have h2:=Pure.PDisk.size_le (D:=D) (n:=p.1) (i:=p.2) h1
   have h3:=hok.used
   rw [hdata] at h2;omega
  refine gy ?_
  refine wl_entry keyS hs .here rfl rfl ?_
  refine gy ?_
  obtain ⟨B,C,vn,e1,e2,hs⟩:=(hs.take (.there (.there (.there (.there (.there (.there (.there (.there (.there .here)))))))))).nodeTake hx
  obtain ⟨an,cn,rfl,-⟩:=(hs.take (.there .here)).ownShape
  obtain ⟨A,hrd,hs2,hback⟩:=(hs.take (.there .here)).bytRd
  clear hs
  rename Sat W0 _ w=>hs
  refine wc_tree [blk c 111 (diskCells zc (cpD D.room cp)),blk p.2 116 [.slice an x.1.length cn,.int .i64 (x.2:Int)]] [3,8,13] (.q 0 (.q 1 (.q 2 (.s 3 (.q 4 (.q 5 (.q 6 (.q 7 (.s 8 (.q 10 (.q 11 (.q 12 (.s 13 (.q 14 (.l 9 (.q 15 (.l 16 (.l 17 .nil)))))))))))))))))) hs (by kernel_rfl) ?_
  clear hs
  intro w hs
  refine gyt ?_
  refine w_call (met (clone_spec hs hrd (by omega)) ?_)
  clear hs
  rintro _ w ⟨v2,rfl,hs⟩
  refine ⟨_,rfl,?_⟩
  obtain ⟨a2,c2,rfl,-⟩:=hs.ownShape
  refine gy ?_
  refine wq_wt hs.to ?_
  refine gyt ?_
  refine wt_build [.slice a2 x.1.length c2,.int .i64 (x.1.length:Int)] rfl ?_
  refine gyt ?_
  refine w_box hs ?_
  clear hs
  intro w i hs
  refine gy ?_
  refine wq_wt hs.to ?_
  refine gyt ?_
  refine wl_mapUpdate keyS hs (k:=p.1) (v:=idV i) (by repeat (first|exact Repl.here|apply Repl.there)) rfl rfl rfl rfl ?_
  clear hs
  intro w hs
  refine gy ?_
  refine wq_wtD rfl ?_
  refine gyt ?_
  refine gy ?_
  have hs:Sat W0 (mapH keyS zc.bn (namesV (cpN cp++[(p.1,i)]))::mapH keyS zc.bs (namesV (cpN cp))::blk c 111 (diskCells zc (cpD D.room cp))::blk i 116 [.slice a2 x.1.length c2,.int .i64 (x.1.length:Int)]::bytS (.slice a2 x.1.length c2) x.1::star ((cpF cp).map nodeC)::A::blk p.2 116 [.slice an x.1.length cn,.int .i64 (x.2:Int)]::star (B++C)::rangeH keyS z.bn it (namesV D.now) (namesV (a++b)) (some (p.1,idV p.2))::movesC zc.mv []::blk d 111 (diskCells z D)::mapH keyS z.bs (namesV D.safe)::movesC z.mv D.moves::F) w:=by
   rw [← aput_new hnew,namesV_put]
   exact hs.to
  refine wc_tree [blk c 111 (diskCells zc (cpD D.room cp))] [3,8] (.q 0 (.q 1 (.q 2 (.s 3 (.q 4 (.q 5 (.q 6 (.q 7 (.s 8 (.q 9 (.l 10 (.l 11 .nil)))))))))))) hs (by kernel_rfl) ?_
  clear hs
  intro w hs
  refine gyt ?_
  have hlook:aget (namesV (cpN cp++[(p.1,i)])) p.1=some (idV i):=by
   rw [← aput_new hnew,namesV_put,aget_put_same]
  refine wl_lookup keyS hs .here rfl rfl rfl zero113 rfl ?_
  rw [hlook]
  refine gy ?_
  refine wq_wt hs.to ?_
  refine gyt ?_
  refine wl_mapUpdate keyS hs (k:=p.1) (v:=idV i) (.there .here) rfl rfl rfl rfl ?_
  clear hs
  intro w hs
  have hfr:aget (cpF cp) i=none:=Sat.fresh (F:=F) (hs.to (a:=blk i 116 [.slice a2 x.1.length c2,.int .i64 (x.1.length:Int)]::star ((cpF cp).map nodeC)::F))
  have h1:=hs.to (a:=A::mapH keyS zc.bn (namesV (cpN cp++[(p.1,i)]))::mapH keyS zc.bs (aput (namesV (cpN cp)) p.1 (idV i))::blk c 111 (diskCells zc (cpD D.room cp))::blk i 116 [.slice a2 x.1.length c2,.int .i64 (x.1.length:Int)]::bytS (.slice a2 x.1.length c2) x.1::star ((cpF cp).map nodeC)::blk p.2 116 [.slice an x.1.length cn,.int .i64 (x.2:Int)]::star (B++C)::rangeH keyS z.bn it (namesV D.now) (namesV (a++b)) (some (p.1,idV p.2))::movesC zc.mv []::blk d 111 (diskCells z D)::mapH keyS z.bs (namesV D.safe)::movesC z.mv D.moves::F)
  clear hs
  have h1:=h1.head hback
  have h2:=Sat.nodePut (i:=p.2) (y:=x) (B:=B) (C:=C) (F:=mapH keyS zc.bn (namesV (cpN cp++[(p.1,i)]))::mapH keyS zc.bs (aput (namesV (cpN cp)) p.1 (idV i))::blk c 111 (diskCells zc (cpD D.room cp))::blk i 116 [.slice a2 x.1.length c2,.int .i64 (x.1.length:Int)]::bytS (.slice a2 x.1.length c2) x.1::star ((cpF cp).map nodeC)::rangeH keyS z.bn it (namesV D.now) (namesV (a++b)) (some (p.1,idV p.2))::movesC zc.mv []::blk d 111 (diskCells z D)::mapH keyS z.bs (namesV D.safe)::movesC z.mv D.moves::F) h1.to
  rw [← e1] at h2
  clear h1
  have h3:Sat W0 (nodeC (i,(x.1,x.1.length))::star ((cpF cp).map nodeC)::star (D.nodes.map nodeC)::mapH keyS zc.bn (namesV (cpN cp++[(p.1,i)]))::mapH keyS zc.bs (aput (namesV (cpN cp)) p.1 (idV i))::blk c 111 (diskCells zc (cpD D.room cp))::rangeH keyS z.bn it (namesV D.now) (namesV (a++b)) (some (p.1,idV p.2))::movesC zc.mv []::blk d 111 (diskCells z D)::mapH keyS z.bs (namesV D.safe)::movesC z.mv D.moves::F) w:=
   Sat.close (B:=[blk i 116 [.slice a2 x.1.length c2,.int .i64 (x.1.length:Int)],bytS (.slice a2 x.1.length c2) x.1]) h2.to fun hp k=>⟨_,k⟩
  clear h2
  have h4:Sat W0 (star ((cpF (cp++[(p.1,i,x.1)])).map nodeC)::star (D.nodes.map nodeC)::mapH keyS zc.bn (namesV (cpN cp++[(p.1,i)]))::mapH keyS zc.bs (aput (namesV (cpN cp)) p.1 (idV i))::blk c 111 (diskCells zc (cpD D.room cp))::rangeH keyS z.bn it (namesV D.now) (namesV (a++b)) (some (p.1,idV p.2))::movesC zc.mv []::blk d 111 (diskCells z D)::mapH keyS z.bs (namesV D.safe)::movesC z.mv D.moves::F) w:=by
   refine (h3.take (.there .here)).imp fun hp k=>?_
   have e:(cpF (cp++[(p.1,i,x.1)])).map nodeC=(cpF cp).map nodeC++[nodeC (i,(x.1,x.1.length))]:=by simp [cpF]
   rw [e]
   refine sepL_unstar ?_
   rw [List.append_assoc]
   exact sepL_star k
  have e7:aput (namesV (cpN cp)) p.1 (idV i)=namesV (cpN (cp++[(p.1,i,x.1)])):=by
   rw [← namesV_put,aput_new hnew];simp [cpN]
  have e8:cpN cp++[(p.1,i)]=cpN (cp++[(p.1,i,x.1)]):=by simp [cpN]
  rw [e7,e8] at h4
  refine gy ?_
  refine wq_wtD rfl ?_
  refine gyt ?_
  refine gy ?_
  refine wq_round (a++b,cp++[(p.1,i,x.1)]) ⟨rfl,rfl,trivial⟩ ⟨⟨?_,?_,?_⟩,some (p.1,idV p.2),h4.to⟩ (by simp)
  ·have e:cpE (cp++[(p.1,i,x.1)])++nowE D (a++b)=cpE cp++(p.1,x.1)::nowE D (a++b):=by simp [cpE]
   rw [e];exact hperm
  ·rw [List.map_append]
   refine List.nodup_append.2 ⟨hid,by simp,fun u hu u' hu' he=>?_⟩
   simp at hu'
   subst hu'
   subst he
   rw [aget_none_iff,List.map_map] at hfr
   exact hfr hu
  ·intro q hq
   refine hsub q ?_
   simp only [List.mem_append,List.mem_cons] at hq ⊢
   rcases hq with h|h
   ·exact .inl h
   ·exact .inr (.inr h)
theorem copy_a (hs:Sat W0 (DiskA d D::F) w) :
 Calls Tryz.prog 16 #[idV d] w fun x w'=>∃ c D2,x=.returned (idV c)∧IsCopy D D2∧Sat W0 (DiskA c D2::DiskA d D::F) w':=by
 obtain ⟨D0,f,h,h0,hs⟩:=hs.dOpen
 have hu:=h.used h0
 refine (copy_spec hs).mono ?_
 rintro _ w' ⟨c,cp,rfl,hc,hs⟩
 have hfile:∀ m,file D0 m=file D m:=fun m=>by
  unfold file
  rw [h.now m]
  cases hm:aget D.now m with
  | none=>rfl
  | some i=>simp only [Option.map_some];rw [h.dataOfS (h.has hm)]
 have h2:=(hs.take (.there .here)).dClose h
 have hid:∀ n,aget (cpN cp) n=(aget (cpN cp) n).map id:=fun n=>by cases aget (cpN cp) n<;>rfl
 refine ⟨c,cpD D0.room cp,rfl,⟨hc.ok,fun m=>by rw [hc.file,hfile],by rw [hc.room,h.room],rfl,rfl,by rw [hc.used,hu]⟩,?_⟩
 refine Sat.dClose (f:=id) ⟨hid,hid,rfl,fun i x hx=>hx,fun i j _ _ he=>he,?_,?_,rfl,rfl,rfl,rfl,rfl,hc.ok⟩ h2.to
 ·exact hc.ok.names
 ·exact hc.ok.names
end
section
open Go.Proofs.YtecibefflhomdaaGreatDoor.Pure (PDisk bltB ble_trans ble_antisymm bltB_total bltB_asymm bltB_irrefl)
attribute [local irreducible] IntKind.wrap
def sortR:Shelf.Ren where
 f:=fun x=>match x with|190=>45|125=>88|258=>87|128=>158|129=>159|302=>149|303=>150|304=>151|305=>152|306=>153|307=>154|308=>155|309=>156|310=>157|333=>199|329=>200|330=>201|334=>202|335=>203|336=>204|344=>225|n=>n
 t:=fun x=>match x with|31=>29|9=>9|3=>3|46=>23|0=>0|51=>124|53=>131|4=>4|183=>266|182=>265|131=>271|5=>5|218=>332|222=>335|228=>355|229=>169|n=>n
 g:=fun n=>n
theorem sortLay:Go.Proofs.Lays.n190 Tryz.prog sortR where
 mixed:=by kernel_rfl
 f125:=by kernel_rfl
 f128:=by kernel_rfl
 f129:=by kernel_rfl
 f190:=by kernel_rfl
 f258:=by kernel_rfl
 f302:=by kernel_rfl
 f303:=by kernel_rfl
 f304:=by kernel_rfl
 f305:=by kernel_rfl
 f306:=by kernel_rfl
 f307:=by kernel_rfl
 f308:=by kernel_rfl
 f309:=by kernel_rfl
 f310:=by kernel_rfl
 f329:=by kernel_rfl
 f330:=by kernel_rfl
 f333:=by kernel_rfl
 f334:=by kernel_rfl
 f335:=by kernel_rfl
 f336:=by kernel_rfl
 f344:=by kernel_rfl
 t0:=Tryz.underlying0
 a0:=Tryz.isAgg0
 z0:=Tryz.sizeOf0
 v0:=Tryz.zeroValue0
 t3:=Tryz.underlying3
 a3:=Tryz.isAgg3
 z3:=Tryz.sizeOf3
 v3:=Tryz.zeroValue3
 t4:=Tryz.underlying4
 a4:=Tryz.isAgg4
 z4:=Tryz.sizeOf4
 v4:=Tryz.zeroValue4
 t5:=Tryz.underlying5
 a5:=Tryz.isAgg5
 z5:=Tryz.sizeOf5
 v5:=Tryz.zeroValue5
 t9:=Tryz.underlying9
 a9:=Tryz.isAgg9
 z9:=Tryz.sizeOf9
 v9:=Tryz.zeroValue9
 t31:=Tryz.underlying29
 a31:=Tryz.isAgg29
 z31:=Tryz.sizeOf29
 v31:=Tryz.zeroValue29
 t46:=Tryz.underlying23
 a46:=Tryz.isAgg23
 z46:=Tryz.sizeOf23
 v46:=Tryz.zeroValue23
 t51:=Tryz.underlying124
 a51:=Tryz.isAgg124
 z51:=Tryz.sizeOf124
 v51:=Tryz.zeroValue124
 t53:=Tryz.underlying131
 a53:=Tryz.isAgg131
 z53:=Tryz.sizeOf131
 v53:=Tryz.zeroValue131
 t131:=Tryz.underlying271
 a131:=Tryz.isAgg271
 z131:=Tryz.sizeOf271
 v131:=Tryz.zeroValue271
 t182:=Tryz.underlying265
 a182:=Tryz.isAgg265
 z182:=Tryz.sizeOf265
 v182:=Tryz.zeroValue265
 t183:=Tryz.underlying266
 a183:=Tryz.isAgg266
 z183:=Tryz.sizeOf266
 v183:=Tryz.zeroValue266
 t218:=Tryz.underlying332
 a218:=Tryz.isAgg332
 z218:=Tryz.sizeOf332
 v218:=Tryz.zeroValue332
 t222:=Tryz.underlying335
 a222:=Tryz.isAgg335
 z222:=Tryz.sizeOf335
 v222:=Tryz.zeroValue335
 t228:=Tryz.underlying355
 a228:=Tryz.isAgg355
 z228:=Tryz.sizeOf355
 v228:=Tryz.zeroValue355
 t229:=Tryz.underlying169
 a229:=Tryz.isAgg169
 z229:=Tryz.sizeOf169
 v229:=Tryz.zeroValue169
theorem lt_iff:∀ (a b:Bs),a<b↔bltB a b=true
 | _,[]=>by simp [bltB]
 | [],_::_=>by simp [bltB]
 | a::x,b::y=>by
  rw [List.cons_lt_cons_iff,lt_iff x y]
  simp [bltB]
theorem le_bool (a b:Bs):decide (a≤b)=!bltB b a:=by
 have h:a≤b↔¬ (b<a):=Iff.rfl
 cases hb:bltB b a with
 | true=>simp [h,lt_iff,hb]
 | false=>simp [h,lt_iff,hb]
theorem sortB_of_perm {a b:List Bs} (h:a.Perm b):sortB a=sortB b:=by
 unfold sortB
 have e:(fun x y:Bs=>decide (x≤y))=fun x y=>!bltB y x:=funext fun x=>funext fun y=>le_bool x y
 rw [e]
 have htr:∀ a b c:Bs,(!bltB b a)=true→(!bltB c b)=true→(!bltB c a)=true:=fun a b c h1 h2=>by
  simp only [Bool.not_eq_true'] at h1 h2 ⊢
  exact ble_trans h1 h2
 have hto:∀ a b:Bs,((!bltB b a)||(!bltB a b))=true:=fun a b=>by
  rcases bltB_total a b with h|h|h
  ·rw [bltB_asymm h];rfl
  ·rw [h,bltB_irrefl];rfl
  ·rw [bltB_asymm h];simp
 refine List.Perm.eq_of_pairwise (le:=fun x y=>(!bltB y x)=true) ?_ (List.pairwise_mergeSort htr hto a) (List.pairwise_mergeSort htr hto b) (((List.mergeSort_perm a _).trans h).trans (List.mergeSort_perm b _).symm)
 intro x y _ _ h1 h2
 simp only [Bool.not_eq_true'] at h1 h2
 exact ble_antisymm h2 h1
end
section
open Go.Proofs.YtecibefflhomdaaGreatDoor.Pure (PDisk aget)
attribute [local irreducible] IntKind.wrap
variable {W0 w:World} {F l:List HProp} {v:Value} {d:Nat} {D:PDisk}
theorem Sat.grow (h:Sat W0 l w) (os:Array Obj):Sat W0 l (Go.Sort.grow w os):=by
 obtain ⟨a,b,c,d,hp,e,f,r⟩:=h
 refine ⟨a,b,c,by simp [Go.Sort.grow];omega,hp,fun i x hx=>?_,f,r⟩
 have h1:=e i x hx
 have h2:=(Array.getElem?_eq_some_iff.1 h1).1
 show (w.heap++os)[i]?=_
 rw [Array.getElem?_append_left h2];exact h1
theorem put_cells (ss ss':List Bs) (rest:List Value) (hl:ss'.length=ss.length):Go.Sort.putCells Go.Proofs.encStr 0 ss'.toArray ((ss.map str++rest).toArray)=(ss'.map str++rest).toArray:=by
 apply Array.ext'
 apply List.ext_getElem?
 intro j
 simp only [Go.Sort.putCells]
 rw [Array.getElem?_toList,Array.getElem?_mapIdx,Array.getElem?_toList]
 simp only [List.getElem?_toArray]
 by_cases hj:j<ss'.length
 ·rw [List.getElem?_append_left (by simp;omega),List.getElem?_append_left (by simpa using hj),List.getElem?_map,List.getElem?_map,List.getElem?_eq_getElem (by omega),List.getElem?_eq_getElem hj]
  simp [hj]
 ·rw [List.getElem?_append_right (by simp;omega),List.getElem?_append_right (by simp;omega)]
  have e1:(ss.map str).length=(ss'.map str).length:=by simp [hl]
  rw [e1]
  cases rest[j-(ss'.map str).length]? with
  | none=>rfl
  | some x=>simp [hj]
theorem sortT_some {b c:Nat} {ss:List Bs} {rest:List Value} (hs:Sat W0 (blk b 9 (ss.map str++rest)::F) w) (hlen:ss.length≤1099511627776) :
 Calls Tryz.prog 45 #[.slice (some ⟨b,0,none⟩) ss.length c] w fun x w'=>x=.returned (.tuple #[])∧Sat W0 (blk b 9 ((sortB ss).map str++rest)::F) w':=by
 have hb:=hs.at_head
 have hlt:b<w.heap.size:=(Array.getElem?_eq_some_iff.1 hb).1
 refine (Go.Proofs.Any.slices_Sort_string sortLay b 0 c ss w (fun j hj=>?_) hlt (by omega)).mono ?_
 ·have hj':j<ss.length:=by simpa using hj
  refine ⟨?_,hs.free .here _⟩
  rw [hs.cell .here,Nat.zero_add,List.getElem?_append_left (by simpa using hj'),List.getElem?_map,List.getElem?_eq_getElem hj']
  simp [hj']
 ·rintro x w' ⟨rfl,n,os,rfl⟩
  refine ⟨rfl,Sat.grow ?_ os⟩
  have hl:(sortB ss).length=ss.length:=(List.mergeSort_perm ss _).length_eq
  refine Sat.set_head (w:=w) (o:=.cells (ss.map str++rest).toArray 9 (0,0)) hs rfl rfl rfl ?_ ?_ ?_
  ·simp [Go.Sort.putRow,Go.Sort.mapBlock,Go.Sort.ahead]
  ·simp only [Go.Sort.putRow,Go.Sort.mapBlock,Go.Sort.ahead,Array.getElem?_modify,hb]
   simp only [if_true,Option.map_some,Go.Sort.onCells]
   have:=put_cells ss (sortB ss) rest hl
   unfold sortB at this ⊢
   rw [this]
  ·intro i hi
   simp only [Go.Sort.putRow,Go.Sort.mapBlock,Go.Sort.ahead,Array.getElem?_modify]
   rw [if_neg (by omega)]
theorem insT_nil {v:Value} (hs:Sat W0 F w):Calls Tryz.prog 149 #[v,.int .i64 0,.int .i64 0] w fun x w'=>∃ u,x=.returned u∧Sat W0 F w':=by
 refine enter Tryz.func149 rfl Tryz.ntmps149 Tryz.results149 rfl ?_
 refine gx ?_
 refine wc_loop (α:=Unit) (fun z=>[(0,v),(1,.int .i64 0),(2,.int .i64 0),(6,.int .i64 1)]) (fun z w=>Sat W0 F w) (fun z=>0) () ⟨rfl,rfl,rfl,rfl,trivial⟩ hs ?_
 clear hs
 rintro _ w hs
 refine gx ?_
 exact wq_end rfl ⟨_,rfl,hs⟩
theorem sortT_nil (hs:Sat W0 F w):Calls Tryz.prog 45 #[.slice none 0 0] w fun x w'=>∃ u,x=.returned u∧Sat W0 F w':=by
 refine enter Tryz.func45 rfl Tryz.ntmps45 Tryz.results45 rfl ?_
 refine gx ?_
 refine w_call (met (lenU_spec (n:=0) (by omega) hs) ?_)
 clear hs
 rintro _ w ⟨k,rfl,hs⟩
 refine ⟨_,rfl,?_⟩
 refine gx ?_
 refine w_call (f:=87) ?_
 refine met (R:=fun x w'=>∃ u,x=.returned u∧Sat W0 F w') ?_ ?_
 ·refine enter Tryz.func87 rfl Tryz.ntmps87 Tryz.results87 rfl ?_
  refine gx ?_
  refine wc_loop (α:=Unit) (fun z=>[(0,.slice none 0 0),(1,.int .i64 0),(2,.int .i64 0),(3,.int .i64 (k:Int))]) (fun z w=>Sat W0 F w) (fun z=>0) () ⟨rfl,rfl,rfl,rfl,trivial⟩ hs ?_
  clear hs
  rintro _ w hs
  refine gx ?_
  refine w_call (met (insT_nil hs) ?_)
  clear hs
  rintro _ w ⟨u,rfl,hs⟩
  refine ⟨_,rfl,?_⟩
  refine gx ?_
  exact wq_ret rfl ⟨_,rfl,hs⟩
 ·clear hs
  rintro _ w ⟨u,rfl,hs⟩
  refine ⟨_,rfl,?_⟩
  refine gx ?_
  exact wq_end rfl ⟨_,rfl,hs⟩
theorem sortT_spec {ss:List Bs} (hs:Sat W0 (ownS 1 v 9 ss.length (ss.map str)::F) w) (hlen:ss.length≤1099511627776) :
 Calls Tryz.prog 45 #[v] w fun x w'=>∃ u,x=.returned u∧Sat W0 (ownS 1 v 9 (sortB ss).length ((sortB ss).map str)::F) w':=by
 have hl:(sortB ss).length=ss.length:=(List.mergeSort_perm ss _).length_eq
 by_cases hv:v=.slice none 0 0
 ·subst hv
  have h0:ss=[]:=by
   obtain ⟨a,c,h1,h2,_⟩:=hs.ownShape
   simp only [Value.slice.injEq] at h1
   exact List.eq_nil_of_length_eq_zero h1.2.1.symm
  subst h0
  refine (sortT_nil hs).mono ?_
  rintro x w' ⟨u,rfl,hs⟩
  exact ⟨u,rfl,by simpa [sortB] using hs⟩
 ·obtain ⟨b,cap,rest,rfl,q1,q2,q3,h2⟩:=hs.ownOpen hv
  refine (sortT_some h2 hlen).mono ?_
  rintro x w' ⟨rfl,hs⟩
  refine ⟨_,rfl,?_⟩
  rw [← hl] at q1 q3 ⊢
  refine Sat.ownClose hs q1 q2 q3 (by simp) fun u hu=>?_
  obtain ⟨x,_,rfl⟩:=List.mem_map.1 hu
  rfl
end
section
open Go.Proofs.YtecibefflhomdaaGreatDoor.Pure (PDisk aget)
attribute [local irreducible] IntKind.wrap
variable {W0 w:World} {F l:List HProp} {v:Value} {d:Nat} {D:PDisk}
abbrev txtS (v:Value) (ss:List Bs):HProp:=ownS 1 v 9 ss.length (ss.map str)
theorem list_spec (hs:Sat W0 (DiskR d D::F) w) (hn:D.now.length≤1099511627776) :
 Calls Tryz.prog 15 #[idV d] w fun x w'=>∃ v,x=.returned v∧Sat W0 (DiskR d D::txtS v (listD D)::F) w':=by
 obtain ⟨hok,z,hs⟩:=hs.diskOpen
 dsimp only [diskL,diskCells,List.cons_append,List.nil_append] at hs
 refine enter Tryz.func15 rfl Tryz.ntmps15 Tryz.results15 rfl ?_
 refine gx ?_
 refine wl_range keyS hs (.there .here) rfl rfl rfl ?_
 clear hs
 intro w it hs
 have hs:=Sat.ownNil (k:=1) (E:=9) hs
 refine gx ?_
 refine wc_loop (α:=List (Bs×Nat)×List Bs×Value) (fun y=>[(0,idV d),(3,y.2.2),(9,.pointer (some ⟨it,0,none⟩))])
  (fun y w=>((y.2.1++y.1.map (·.1)).Perm (D.now.map (·.1)))∧∃ last,Sat W0 (txtS y.2.2 y.2.1::rangeH keyS z.bn it (namesV D.now) (namesV y.1) last::blk d 111 (diskCells z D)::mapH keyS z.bs (namesV D.safe)::movesC z.mv D.moves::star (D.nodes.map nodeC)::F) w) (fun y=>y.1.length)
  (D.now,[],.slice none 0 0) ⟨rfl,rfl,rfl,trivial⟩ ⟨.refl _,none,hs.to⟩ ?_
 clear hs
 rintro ⟨left,acc,v⟩ w ⟨hp,last,hs⟩
 dsimp only at hp hs ⊢
 refine gx ?_
 refine wl_next keyS hs (.there .here) rfl rfl (fun h0=>?_) (fun l1 x l2 w hl hs=>?_)
 ·have hl0:left=[]:=by simpa [namesV] using h0
  subst hl0
  rw [List.map_nil,List.append_nil] at hp
  have hs:=(hs.take (.there .here)).rangeDone
  refine gx ?_
  have hlen:acc.length≤1099511627776:=by have:=hp.length_eq;rw [List.length_map] at this;omega
  refine w_call (met (sortT_spec (hs.take (.there .here)) hlen) ?_)
  clear hs
  rintro _ w ⟨u,rfl,hs⟩
  refine ⟨_,rfl,?_⟩
  have he:sortB acc=listD D:=by unfold listD;exact sortB_of_perm hp
  rw [he] at hs
  refine gx ?_
  exact wq_ret rfl ⟨_,rfl,Sat.diskClose (z:=z) hok hs.to⟩
 ·obtain ⟨a,p,b,rfl,rfl,hab⟩:=namesV_split hl
  rw [hab] at hs
  have hlen:=hp.length_eq
  simp only [List.length_append,List.length_map,List.length_cons] at hlen
  refine gx ?_
  refine wl_entry keyS hs .here rfl rfl ?_
  refine gx ?_
  refine w_lit1 hs ?_
  clear hs
  intro w b2 hs
  refine gx ?_
  refine w_app1 hs ?_
  clear hs
  intro v2 w hs
  refine gx ?_
  refine wq_round (a++b,acc++[p.1],v2) ⟨rfl,rfl,rfl,trivial⟩ ⟨?_,some (p.1,idV p.2),?_⟩ (by simp)
  ·refine List.Perm.trans ?_ hp
   simp only [List.map_append,List.map_cons,List.append_assoc,List.singleton_append]
   refine List.Perm.append_left acc ?_
   exact List.perm_middle.symm
  ·have h3:=hs.head (A':=txtS v2 (acc++[p.1])) fun hp k=>by
    unfold txtS
    rw [List.length_append,List.length_singleton,List.map_append]
    exact k
   exact h3.to
theorem list_a (hs:Sat W0 (DiskA d D::F) w) (hn:D.now.length≤1099511627776) :
 Calls Tryz.prog 15 #[idV d] w fun x w'=>∃ v,x=.returned v∧Sat W0 (DiskA d D::txtS v (listD D)::F) w':=by
 obtain ⟨D0,f,h,h0,hs⟩:=hs.dOpen
 have hp:=h.perm h0
 have hl:listD D0=listD D:=by
  unfold listD
  refine sortB_of_perm ?_
  have:=hp.map (·.1)
  rwa [List.map_map] at this
 refine (list_spec hs (by have:=hp.length_eq;rw [List.length_map] at this;omega)).mono ?_
 rintro _ w' ⟨v,rfl,hs⟩
 rw [hl] at hs
 exact ⟨v,rfl,hs.dClose h⟩
end
end Go.Proofs.YtecibefflhomdaaGreatDoor
