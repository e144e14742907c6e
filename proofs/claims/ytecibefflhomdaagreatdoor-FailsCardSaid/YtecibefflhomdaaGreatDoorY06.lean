/-
  Part 6: The engine 13 views of bytes that nobody writes any more; THE PURE MIRROR, PART 2 the disk.
-/
import Derived.Test.YtecibefflhomdaaGreatDoorY05
set_option maxHeartbeats 8000000
set_option maxRecDepth 100000
set_option linter.all false
namespace Go.Proofs.YtecibefflhomdaaGreatDoor
open Go
section
attribute [local semireducible] WL WC WQ
def vw (v:Value) (bs:Bs):ah:=fun h=>
 (v=.slice none 0 0∧bs=[])∨∃ b o c,v=.slice (some ⟨b,o,none⟩) bs.length c∧bs.length≤c ∧
  (bs=[]∨∃ all E,h b=some (true,.cells all E (0,0))∧∀ j u,(bs.map bV)[j]?=some u→all[o+j]?=some u)
section
variable {ops:Array Oper} {Q:Exit→Act→World→Prop} {n:Nat} {ds:Md} {e:Env} {w w':World} {rest:List Oper}
variable {op:Op} {ty:TypeId} {pos:String} {af:Array Edge} {d:Nat} {v u:Value} {W0:World} {l l' r r':List ah} {bs:Bs}
theorem Hw {h:Hp} (k:vw v bs h):∃ h1,Hp.le h1 h∧(∀ i x,h1 i=some x→x.1=true)∧vw v bs h1:=by
 rcases k with ⟨rfl,rfl⟩|⟨b,o,c,rfl,hc,k⟩
 ·exact ⟨fun _=>none,fun _ _ hx=>(by cases hx),fun _ _ hx=>(by cases hx),.inl ⟨rfl,rfl⟩⟩
 ·rcases k with rfl|⟨all,E,hb,hcell⟩
  ·exact ⟨fun _=>none,fun _ _ hx=>(by cases hx),fun _ _ hx=>(by cases hx),.inr ⟨b,o,c,rfl,hc,.inl rfl⟩⟩
  ·refine ⟨fun i=>if i=b then some (true,.cells all E (0,0)) else none,fun i x hx=>?_,fun i x hx=>?_,.inr ⟨b,o,c,rfl,hc,.inr ⟨all,E,by simp,hcell⟩⟩⟩
   ·by_cases hi:i=b
    ·subst hi;simp at hx;subst hx;exact hb
    ·simp [hi] at hx
   ·by_cases hi:i=b
    ·subst hi;simp at hx;subst hx;rfl
    ·simp [hi] at hx
theorem Sat.zt {A B:ah} (h:Sat W0 (A::l) w) (k:∀ h,A h→∃ h1,Hp.le h1 h∧(∀ i x,h1 i=some x→x.1=true)∧B h1):Sat W0 (B::A::l) w:=by
 refine h.imp fun hp r=>?_
 obtain ⟨h1,h2,ff,l1,l2,ha,hr⟩:=r
 obtain ⟨g,hg,hsh,hB⟩:=k h1 ha
 refine ⟨g,hp,fun i x y hx hy=>?_,Hp.le_trans hg l1,Hp.le_refl _,hB,h1,h2,ff,l1,l2,ha,hr⟩
 have:=l1 i x (hg i x hx)
 rw [this] at hy;cases hy
 exact ⟨rfl,hsh i x hx⟩
theorem Sat.fD (h:Sat W0 (vw v bs::l) w):∃ a c,v=.slice a bs.length c∧bs.length≤c:=h.fQ fun _ k=>by
 rcases k with ⟨rfl,rfl⟩|⟨b,o,c,rfl,hc,_⟩
 ·exact ⟨none,0,rfl,by simp⟩
 ·exact ⟨_,c,rfl,hc⟩
structure vH where
 b:Nat
 o:Nat
 c:Nat
 all:List Value
 E:TypeId
theorem Sat.q9 (h:Sat W0 (vw v bs::l) w) (hne:bs≠[]):∃ z:vH,(v=.slice (some ⟨z.b,z.o,none⟩) bs.length z.c∧bs.length≤z.c∧∀ j u,(bs.map bV)[j]?=some u→z.all[z.o+j]?=some u)∧Sat W0 (ob true z.b (.cells z.all.toArray z.E (0,0))::vw v bs::l) w:=
 (h.zt fun _=>Hw).eI (B:=fun z:vH=>[ob true z.b (.cells z.all.toArray z.E (0,0))]) fun hp k=>by
  rcases k with ⟨_,rfl⟩|⟨b,o,c,rfl,hc,rfl|⟨all,E,hb,hcell⟩⟩
  ·exact (hne rfl).elim
  ·exact (hne rfl).elim
  ·refine ⟨⟨b,o,c,all.toList,E⟩,⟨rfl,hc,fun j u hu=>by simpa using hcell j u hu⟩,hp,fun _=>none,fun _ _ _ _ hy=>(by cases hy),Hp.le_refl _,fun _ _ hx=>(by cases hx),?_,trivial⟩
   simpa [ob] using hb
theorem DN {z:vH} {l0:Nat} {ns:Bs} (hc:ns.length≤l0) (hcell:∀ j u,(ns.map bV)[j]?=some u→z.all[z.o+j]?=some u) {h:Hp} (k:ob true z.b (.cells z.all.toArray z.E (0,0)) h):vw (.slice (some ⟨z.b,z.o,none⟩) ns.length l0) ns h:=
 .inr ⟨z.b,z.o,l0,rfl,hc,.inr ⟨_,_,k,fun j u hu=>by simpa using hcell j u hu⟩⟩
theorem Sat.oL {a:Option Addr} (h:Sat W0 l w) (ha:a=none∨∃ b o,a=some ⟨b,o,none⟩) {c:Nat} (hn:a=none→c=0):Sat W0 (vw (.slice a 0 c) []::l) w:=
 h.imp fun hp r=>⟨fun _=>none,hp,fun _ _ _ hx=>(by cases hx),fun _ _ hx=>(by cases hx),Hp.le_refl _,(by
  rcases ha with rfl|⟨b,o,rfl⟩
  ·rw [hn rfl];exact .inl ⟨rfl,rfl⟩
  ·exact .inr ⟨b,o,c,rfl,Nat.zero_le _,.inl rfl⟩),r⟩
theorem Sat.Hx (h:Sat W0 (vw v []::l) w):v=.slice none 0 0∨∃ b o c,v=.slice (some ⟨b,o,none⟩) 0 c:=h.fQ fun _ k=>by
 rcases k with ⟨rfl,_⟩|⟨b,o,c,rfl,_,_⟩
 ·exact .inl rfl
 ·exact .inr ⟨b,o,c,rfl⟩
theorem LY {x y:Operand} {m:Nat} {Y:Int} (hs:Sat W0 l w) (tk:Take (vw v bs) l r) (hx:ev e x=some v) (hy:ev e y=some (.int .i64 Y)) (hY:Y=(m:Int)) (hm:m≤bs.length) (hd:Nat.blt d n=true)
 (kk:∀ v',Sat W0 (vw v' (bs.take m)::l) w→WL ops Q n ds rest ((d,v')::e) w):WL ops Q n ds (⟨some d,.slice 93 x none (some y) none,ty,pos,af,none⟩::rest) e w:=by
 subst hY
 have h1:=hs.take tk
 by_cases hb:bs=[]
 ·subst hb
  have hm0:m=0:=by simpa using hm
  subst hm0
  rcases h1.Hx with rfl|⟨b,o,c,rfl⟩
  ·exact pT hx rfl rfl trivial hy hd (kk _ (hs.oL (.inl rfl) (fun _=>rfl)))
  ·refine mz 0 0 hx rfl rfl rfl hy (Nat.le_refl _) (Nat.zero_le _) hd (kk _ ?_)
   have:cutAt b o c 0 1=⟨b,o,none⟩:=by unfold cutAt;split<;>simp
   rw [this]
   exact hs.oL (.inr ⟨b,o,rfl⟩) (fun h=>by cases h)
 ·obtain ⟨z,⟨rfl,hc,hcell⟩,h2⟩:=h1.q9 hb
  refine mz 0 m hx rfl rfl rfl hy (Nat.zero_le _) (by omega) hd ?_
  have e1:cutAt z.b z.o z.c 0 1=⟨z.b,z.o,none⟩:=by unfold cutAt;split<;>simp
  rw [e1,Nat.sub_zero,Nat.sub_zero]
  have e2:m=(bs.take m).length:=by simp;omega
  have h3:Sat W0 (vw (.slice (some ⟨z.b,z.o,none⟩) (bs.take m).length z.c) (bs.take m)::r) w:=(h2.head fun hp k=>DN (by omega) (fun j u hu=>hcell j u (by
   rw [List.map_take,List.getElem?_take] at hu;split at hu
   ·exact hu
   ·cases hu)) k).to (.cons .here (.skip .refl))
  have h4:Sat W0 (vw (.slice (some ⟨z.b,z.o,none⟩) (bs.take m).length z.c) (bs.take m)::vw (.slice (some ⟨z.b,z.o,none⟩) bs.length z.c) bs::r) w:=h2.head fun hp k=>DN (by omega) (fun j u hu=>hcell j u (by
   rw [List.map_take,List.getElem?_take] at hu;split at hu
   ·exact hu
   ·cases hu)) k
  have:=kk _ (h4.imp fun _ k=>dH (fun _=>tk.back) k)
  rw [← e2] at this
  exact this
theorem LZ {x y:Operand} {m:Nat} {Y:Int} (hs:Sat W0 l w) (tk:Take (vw v bs) l r) (hx:ev e x=some v) (hy:ev e y=some (.int .i64 Y)) (hY:Y=(m:Int)) (hm:m≤bs.length) (hd:Nat.blt d n=true)
 (kk:∀ v',Sat W0 (vw v' (bs.drop m)::l) w→WL ops Q n ds rest ((d,v')::e) w):WL ops Q n ds (⟨some d,.slice 93 x (some y) none none,ty,pos,af,none⟩::rest) e w:=by
 subst hY
 have h1:=hs.take tk
 by_cases hb:bs=[]
 ·subst hb
  have hm0:m=0:=by simpa using hm
  subst hm0
  rcases h1.Hx with rfl|⟨b,o,c,rfl⟩
  ·exact pT hx rfl rfl hy trivial hd (kk _ (hs.oL (.inl rfl) (fun _=>rfl)))
  ·refine mz 0 0 hx rfl rfl hy rfl (Nat.le_refl _) (Nat.zero_le _) hd (kk _ ?_)
   have:cutAt b o c 0 1=⟨b,o,none⟩:=by unfold cutAt;split<;>simp
   rw [this]
   exact hs.oL (.inr ⟨b,o,rfl⟩) (fun h=>by cases h)
 ·obtain ⟨z,⟨rfl,hc,hcell⟩,h2⟩:=h1.q9 hb
  refine mz m bs.length hx rfl rfl hy rfl hm hc hd ?_
  have e2:bs.length-m=(bs.drop m).length:=by simp
  by_cases hfull:z.c=m
  ·have hall:bs.drop m=[]:=List.drop_of_length_le (by omega)
   have e1:cutAt z.b z.o z.c m 1=⟨z.b,z.o,none⟩:=by unfold cutAt;rw [if_pos hfull]
   rw [e1,e2,hall]
   have:=kk (.slice (some ⟨z.b,z.o,none⟩) 0 (z.c-m)) (by rw [hall];exact hs.oL (.inr ⟨_,_,rfl⟩) (fun h=>by cases h))
   exact this
  ·have e1:cutAt z.b z.o z.c m 1=⟨z.b,z.o+m,none⟩:=by unfold cutAt;rw [if_neg hfull,Nat.mul_one]
   rw [e1,e2]
   have h4:Sat W0 (vw (.slice (some ⟨z.b,z.o+m,none⟩) (bs.drop m).length (z.c-m)) (bs.drop m)::vw (.slice (some ⟨z.b,z.o,none⟩) bs.length z.c) bs::r) w:=h2.head fun hp k=>DN (z:=⟨z.b,z.o+m,z.c,z.all,z.E⟩) (by simp;omega) (fun j u hu=>by
    rw [List.map_drop,List.getElem?_drop] at hu
    have:=hcell (m+j) u hu
    rw [← Nat.add_assoc] at this;exact this) k
   exact kk _ (h4.imp fun _ k=>dH (fun _=>tk.back) k)
theorem Kb {x:Operand} (hs:Sat W0 l w) (tk:Take (vw v bs) l r) (hx:ev e x=some v) (hd:Nat.blt d n=true) (kk:WL ops Q n ds rest ((d,str bs)::e) w) :
 WL ops Q n ds (⟨some d,.convert 93 9 x,ty,pos,af,none⟩::rest) e w:=by
 have h1:=hs.take tk
 by_cases hb:bs=[]
 ·subst hb
  rcases h1.Hx with rfl|⟨b,o,c,rfl⟩
  ·exact J7 hx hd kk
  ·refine cj (fun a ha=>?_) hd kk
   have:=se (w:=w) (b:=b) (o:=o) (len:=0) (c:=c) (bs:=[]) (fun j u hj=>by simp at hj) rfl
   simp [execOp,ha.ev hx,run_convert_bytes_string w 93 9 5 _ 0 c (bX rfl) (kz rfl) (iO (t:=9) rfl),this]
 ·obtain ⟨z,⟨rfl,hc,hcell⟩,h2⟩:=h1.q9 hb
  exact Ht bs h2 hx .here hcell rfl hd kk
theorem Sat.Ox (h:Sat W0 l w) (tk:Take (vw v bs) l r):∃ l',LW l' v bs∧Sat W0 l' w∧∀ w',Sat W0 l' w'→Sat W0 l w':=by
 have h1:=h.take tk
 by_cases hb:bs=[]
 ·subst hb
  obtain ⟨a,c,rfl,_⟩:=h1.fD
  exact ⟨l,.inl ⟨rfl,a,c,rfl⟩,h,fun _ k=>k⟩
 ·obtain ⟨z,⟨rfl,hc,hcell⟩,h2⟩:=h1.q9 hb
  exact ⟨_,.inr ⟨z.b,z.o,z.c,true,_,_,_,rfl,.here,fun j u hu=>by simpa using hcell j u hu⟩,h2,fun w' k=>k.drop.mr tk⟩
theorem Sat.nt (h:Sat W0 (cC v bs::l) w):Sat W0 (vw v bs::l) w:=by
 by_cases hv:v=.slice none 0 0
 ·subst hv
  obtain ⟨a,cap,e,_⟩:=h.ay
  have hb:bs=[]:=List.eq_nil_of_length_eq_zero (by simp at e;omega)
  subst hb
  exact h.drop.oL (.inl rfl) (fun _=>rfl)
 ·obtain ⟨b,cap,rest,rfl,h1,h2,h3,hs⟩:=h.iT hv
  refine hs.share.head fun hp k=>DN (z:=⟨b,0,cap,_,5⟩) h1 (fun j u hu=>?_) k
  have hj:=(List.getElem?_eq_some_iff.1 hu).1
  simp only [Nat.zero_add]
  rw [List.getElem?_append_left hj];exact hu
end
end
end Go.Proofs.YtecibefflhomdaaGreatDoor
namespace Go.Proofs.YtecibefflhomdaaGreatDoor.Pure
open Go
def aA {κ α:Type} [DecidableEq κ]:List (κ×α)→κ→Option α
 | [],_=>none
 | (k,v)::r,x=>if x=k then some v else aA r x
def cx {κ α:Type} [DecidableEq κ]:List (κ×α)→κ→α→List (κ×α)
 | [],x,u=>[(x,u)]
 | (k,v)::r,x,u=>if x=k then (x,u)::r else (k,v)::cx r x u
def eD {κ α:Type} [DecidableEq κ]:List (κ×α)→κ→List (κ×α)
 | [],_=>[]
 | (k,v)::r,x=>if x=k then r else (k,v)::eD r x
section
variable {κ α β:Type} [DecidableEq κ]
theorem im:∀ (l:List (κ×α)) (x:κ) (u:α),aA (cx l x u) x=some u
 | [],x,u=>by simp [cx,aA]
 | (k,v)::r,x,u=>by
  unfold cx
  by_cases h:x=k
  ·simp [h,aA]
  ·simp [h,aA,im r x u]
theorem ny:∀ (l:List (κ×α)) (x y:κ) (u:α),y≠x→aA (cx l x u) y=aA l y
 | [],x,y,u,h=>by simp [cx,aA,h]
 | (k,v)::r,x,y,u,h=>by
  unfold cx
  by_cases hk:x=k
  ·subst hk;simp [aA,h]
  ·simp only [hk,if_false,aA,ny r x y u h]
theorem cQ (l:List (κ×α)) (x y:κ) (u:α):aA (cx l x u) y=if y=x then some u else aA l y:=by
 by_cases h:y=x
 ·subst h;simp [im]
 ·simp [h,ny l x y u h]
theorem dL:∀ {l:List (κ×α)} {x:κ} {u:α},aA l x=some u→(x,u)∈l
 | (k,v)::r,x,u,h=>by
  unfold aA at h
  by_cases hk:x=k
  ·subst hk;simp at h;subst h;exact List.mem_cons_self
  ·simp only [hk,if_false] at h;exact List.mem_cons_of_mem _ (dL h)
theorem cw:∀ {l:List (κ×α)} {x:κ},aA l x=none↔x ∉ l.map (·.1)
 | [],x=>by simp [aA]
 | (k,v)::r,x=>by
  unfold aA
  by_cases hk:x=k
  ·simp [hk]
  ·simp only [hk,if_false,List.map_cons,List.mem_cons,false_or];exact cw
theorem de:∀ {l:List (κ×α)} {x:κ} {u:α},(l.map (·.1)).Nodup→(x,u)∈l→aA l x=some u
 | (k,v)::r,x,u,hn,h=>by
  simp only [List.map_cons,List.nodup_cons] at hn
  unfold aA
  rcases List.mem_cons.1 h with h|h
  ·cases h;simp
  ·have:x≠k:=fun e=>hn.1 (e▸List.mem_map.2 ⟨_,h,rfl⟩)
   simp only [this,if_false];exact de hn.2 h
theorem zu:∀ (l:List (κ×α)) (x:κ) (u:α),(cx l x u).map (·.1)=if x∈l.map (·.1) then l.map (·.1) else l.map (·.1)++[x]
 | [],x,u=>by simp [cx]
 | (k,v)::r,x,u=>by
  unfold cx
  by_cases hk:x=k
  ·simp [hk]
  ·simp only [hk,if_false,List.map_cons,List.mem_cons,false_or,zu r x u]
   split<;>simp
theorem jv {l:List (κ×α)} (h:(l.map (·.1)).Nodup) (x:κ) (u:α):((cx l x u).map (·.1)).Nodup:=by
 rw [zu]
 split
 ·exact h
 ·rename_i hx
  rw [List.nodup_append]
  exact ⟨h,by simp,fun a ha b hb hab=>by simp at hb;subst hb;subst hab;exact hx ha⟩
theorem nz:∀ (l:List (κ×α)) (x:κ),(eD l x).Sublist l
 | [],_=>List.Sublist.refl _
 | (k,v)::r,x=>by
  unfold eD
  by_cases hk:x=k
  ·simp [hk]
  ·simp only [hk,if_false];exact (nz r x).cons_cons _
theorem jw {l:List (κ×α)} (h:(l.map (·.1)).Nodup) (x:κ):((eD l x).map (·.1)).Nodup:=h.sublist ((nz l x).map _)
theorem iU:∀ {l:List (κ×α)} (x y:κ),(l.map (·.1)).Nodup→aA (eD l x) y=if y=x then none else aA l y
 | [],x,y,_=>by simp [eD,aA]
 | (k,v)::r,x,y,hn=>by
  simp only [List.map_cons,List.nodup_cons] at hn
  unfold eD
  by_cases hk:x=k
  ·subst hk
   simp only [if_true]
   by_cases hy:y=x
   ·subst hy;simp only [if_true];exact cw.2 hn.1
   ·simp [aA,hy]
  ·simp only [hk,if_false]
   unfold aA
   by_cases hyk:y=k
   ·subst hyk;simp [Ne.symm hk]
   ·simp only [hyk,if_false];exact iU x y hn.2
theorem DQ {l:List (κ×α)} {x:κ} {u:α} {p:κ×α} (h:p∈cx l x u):p=(x,u)∨p∈l:=by
 induction l with
 | nil=>simp [cx] at h;exact .inl h
 | cons q r ih=>
  obtain ⟨k,v⟩:=q
  unfold cx at h
  by_cases hk:x=k
  ·simp only [hk,if_true] at h
   rcases List.mem_cons.1 h with h|h
   ·exact .inl (by rw [h,hk])
   ·exact .inr (List.mem_cons_of_mem _ h)
  ·simp only [hk,if_false] at h
   rcases List.mem_cons.1 h with h|h
   ·exact .inr (h▸List.mem_cons_self)
   ·rcases ih h with h|h
    ·exact .inl h
    ·exact .inr (List.mem_cons_of_mem _ h)
end
structure ad where
 now:List (Bs×Nat)
 safe:List (Bs×Nat)
 moves:List (List (Bs×Option Nat))
 nodes:List (Nat×(Bs×Nat))
 room:Int
 wait:Int
 bad:Int
 reads:Int
 most:Int
namespace ad
def aH (D:ad) (i:Nat):Bs:=match aA D.nodes i with|some x=>x.1|none=>[]
def used (D:ad):Nat:=(D.now.map fun p=>(D.aH p.2).length).sum
structure Ok (D:ad):Prop where
 now:∀ p∈D.now,(aA D.nodes p.2).isSome=true
 safe:∀ p∈D.safe,(aA D.nodes p.2).isSome=true
 moves:∀ l∈D.moves,∀ p∈l,∀ i,p.2=some i→(aA D.nodes i).isSome=true
 names:(D.now.map (·.1)).Nodup
 ids:(D.now.map (·.2)).Nodup
 room0:0≤D.room
 room1:D.room≤2199023255552
 wait0:0≤D.wait
 wait1:D.wait≤9223372036854775807
 bad0:0≤D.bad
 bad1:D.bad≤9223372036854775807
 used:D.used≤4398046511104
 short:∀ l∈D.moves,l.length<1000
def eg (D:ad):Bool:=decide (¬ 0<D.wait∧0<D.bad)
def tick (D:ad):ad:=if 0<D.wait then { D with wait:=D.wait-1 } else if 0<D.bad then { D with bad:=D.bad-1 } else D
theorem Ok.tick {D:ad} (h:D.Ok):D.tick.Ok:=by
 unfold ad.tick
 have:=h.wait1;have:=h.bad1
 split
 ·exact ⟨h.now,h.safe,h.moves,h.names,h.ids,h.room0,h.room1,by dsimp only;omega,by dsimp only;omega,h.bad0,h.bad1,h.used,h.short⟩
 ·split
  ·exact ⟨h.now,h.safe,h.moves,h.names,h.ids,h.room0,h.room1,h.wait0,h.wait1,by dsimp only;omega,by dsimp only;omega,h.used,h.short⟩
  ·exact h
@[simp] theorem cW (D:ad):D.tick.now=D.now:=by unfold tick;split<;>(try split)<;>rfl
@[simp] theorem Fh (D:ad):D.tick.safe=D.safe:=by unfold tick;split<;>(try split)<;>rfl
@[simp] theorem jx (D:ad):D.tick.moves=D.moves:=by unfold tick;split<;>(try split)<;>rfl
@[simp] theorem et (D:ad):D.tick.nodes=D.nodes:=by unfold tick;split<;>(try split)<;>rfl
@[simp] theorem eJ (D:ad):D.tick.room=D.room:=by unfold tick;split<;>(try split)<;>rfl
@[simp] theorem BR (D:ad):D.tick.reads=D.reads:=by unfold tick;split<;>(try split)<;>rfl
@[simp] theorem Fi (D:ad):D.tick.most=D.most:=by unfold tick;split<;>(try split)<;>rfl
@[simp] theorem iB (D:ad) (i:Nat):D.tick.aH i=D.aH i:=by unfold aH;rw [et]
@[simp] theorem lO (D:ad):D.tick.used=D.used:=by simp [used]
end ad
def fE (m:List (Bs×Nat)) (l:List (Bs×Option Nat)):List (Bs×Nat):=l.foldl (fun m p=>match p.2 with|none=>eD m p.1|some i=>cx m p.1 i) m
end Go.Proofs.YtecibefflhomdaaGreatDoor.Pure
