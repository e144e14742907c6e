/-
  Part 45: WALKS package api; WALKS lives; THE FRAME laws over deeds, two numbers, a number and a bit.
-/
import Derived.Test.YtecibefflhomdaaGreatDoorY44
import Derived.Carry
set_option maxHeartbeats 8000000
set_option maxRecDepth 100000
set_option linter.all false
namespace Go.Proofs.YtecibefflhomdaaGreatDoor
open Go
section
open Go.Proofs.YtecibefflhomdaaGreatDoor.Pure (ad aA cx cQ im de cw dL)
section
variable {ops:Array Oper} {Q:Exit→Act→World→Prop} {n:Nat} {ds:Md} {e:Env} {w w':World} {rest:List Oper}
variable {op:Op} {ty:TypeId} {pos:String} {af:Array Edge} {d:Nat} {v u:Value} {W0:World} {l l' r r':List ah}
attribute [local semireducible] WL WC WQ
theorem K4 {x y:Operand} {t E k:Nat} (hv:v=.slice none 0 0∨∃ b len cap,v=.slice (some ⟨b,0,none⟩) len cap) (hx:ev e x=some v) (hy:ev e y=some (.int .i64 0)) (ht:lk dy t=some E) (hsz:lk df E=some k) (hd:Nat.blt d n=true)
 (kk:∀ A c,WL ops Q n ds rest ((d,.slice A 0 c)::e) w):WL ops Q n ds (⟨some d,.slice t x none (some y) none,ty,pos,af,none⟩::rest) e w:=by
 rcases hv with rfl|⟨b,len,cap,rfl⟩
 ·exact pT hx ht hsz trivial hy hd (kk _ _)
 ·exact mz 0 0 hx ht hsz rfl hy (Nat.le_refl _) (Nat.zero_le _) hd (kk _ _)
theorem M4 {S:World→Prop} {K:List Nat} {i:Nat} {bb:Bool} {t:OT} {x y:Operand} {k:IntKind} {tt ty2 N M:Nat} {X Y:Int} (ho:ops[i]?=some ⟨some d,.binOp .rem tt x y ty2,ty,pos,af,none⟩) (hx:ev e x=some (.int k X)) (hy:ev e y=some (.int k Y)) (hX:X=(N:Int)) (hY:Y=(M:Int)) (hM:0<M) (hd:Nat.blt d n=true)
 (kk:WT ops Q S K n ds bb t ((d,.int k ((N%M:Nat):Int))::e) w):WT ops Q S K n ds bb (.q i t) e w:=by
 subst hX hY
 refine zP ho (fun a w' ha=>?_) hd kk
 have h3:¬ (M=0):=by omega
 have hmod:Int.tmod (N:Int) (M:Int)=((N%M:Nat):Int):=by rw [Int.tmod_eq_emod_of_nonneg (by omega)];norm_cast
 simp [execOp,ha.ev hx,ha.ev hy,eqGuard,Go.binOp,Op.intDiv,h3,hmod]
def Od (v u:Value) (h:Nat):Prop:=(v=.slice none 0 0∧u=.slice none 0 0∧h=0)∨∃ b len cap,v=.slice (some ⟨b,0,none⟩) len cap∧u=.slice (some ⟨b,0,none⟩) h cap
theorem K5 {S:World→Prop} {K:List Nat} {i:Nat} {bb:Bool} {t:OT} {x y:Operand} {tt E k h':Nat} (hv:(v=.slice none 0 0∧h'=0)∨∃ b len cap,v=.slice (some ⟨b,0,none⟩) len cap∧h'≤cap) (ho:ops[i]?=some ⟨some d,.slice tt x none (some y) none,ty,pos,af,none⟩) (hx:ev e x=some v) (hy:ev e y=some (.int .i64 (h':Int))) (ht:lk dy tt=some E) (hsz:lk df E=some k) (hd:Nat.blt d n=true)
 (kk:∀ u,Od v u h'→WT ops Q S K n ds bb t ((d,u)::e) w):WT ops Q S K n ds bb (.q i t) e w:=by
 rcases hv with ⟨rfl,rfl⟩|⟨b,len,cap,rfl,hc⟩
 ·refine zP ho (v:=.slice none 0 0) (fun a w' ha=>?_) hd (kk _ (.inl ⟨rfl,rfl,rfl⟩))
  have hu:=bX ht
  have q2:=ha.ev hy
  simp_all [execOp,ha.ev hx,Instr.sliceAt,Instr.slice,cB hu,dq hsz,Instr.sliceBounds,Instr.sliceBound,asIntOf]
 ·refine B3 0 h' ho hx ht hsz rfl hy (Nat.zero_le _) hc hd (kk _ (.inr ⟨b,len,cap,rfl,?_⟩))
  have:cutAt b 0 cap 0 k=⟨b,0,none⟩:=by unfold cutAt;split<;>simp
  rw [this,Nat.sub_zero,Nat.sub_zero]
theorem Sat.M5 {bs:Bs} {h':Nat} (hc:Od v u h') (hle:h'≤bs.length) (h:Sat W0 (cC v bs::l) w):Sat W0 (cC u (bs.take h')::l) w:=by
 have hl:(bs.take h').length=h':=by rw [List.length_take];omega
 unfold cC
 rw [hl]
 rcases hc with ⟨rfl,rfl,rfl⟩|⟨b,len,cap,rfl,rfl⟩
 ·rw [List.take_zero]
  exact Sat.cP h.drop
 ·obtain ⟨b2,cap2,rest,hv,q1,q2,q3,h2⟩:=h.iT (by simp)
  injection hv with e1 e2 e3
  injection e1 with e1
  injection e1 with e1
  subst e1 e3
  have e4:bs.map bV++rest=(bs.take h').map bV++((bs.drop h').map bV++rest):=by rw [← List.append_assoc,← List.map_append,List.take_append_drop]
  rw [e4] at h2
  exact Sat.dK h2 (by omega) q2 (by simp;omega) (by simp;omega) (BO _)
end
attribute [local irreducible] IntKind.wrap
variable {W0 w:World} {F:List ah} {d:Nat} {D:ad}
def Oe (D:ad) (dn:List (Bs×Nat)) (N:List (Nat×(Bs×Nat))):Prop:=∀ i,aA N i=if i∈dn.map (·.2) then (aA D.nodes i).map GH else aA D.nodes i
theorem Bj {dn:List (Bs×Nat)} {N:List (Nat×(Bs×Nat))} (hok:D.Ok) (hcr:GI D) (hp:dn.Perm D.safe) (hN2:Oe D D.safe N):(⟨dn,D.safe,[],N,D.room,0,0,D.reads,D.most⟩:ad).Ok:=by
 have hsome:∀ p∈D.safe,∃ x,aA D.nodes p.2=some x∧aA N p.2=some (GH x):=fun p hp2=>by
  obtain ⟨x,hx⟩:=Option.isSome_iff_exists.1 (hok.safe p hp2)
  exact ⟨x,hx,by rw [hN2,if_pos (List.mem_map.2 ⟨p,hp2,rfl⟩),hx];rfl⟩
 have hsafe2:∀ p∈D.safe,(aA N p.2).isSome=true:=fun p hp2=>by
  obtain ⟨x,_,h2⟩:=hsome p hp2
  rw [h2];rfl
 have hsum:(dn.map fun p=>((⟨dn,D.safe,[],N,D.room,0,0,D.reads,D.most⟩:ad).aH p.2).length).sum≤dn.length*1048576:=by
  have key:∀ l:List (Bs×Nat),(∀ p∈l,p∈D.safe)→(l.map fun p=>((⟨dn,D.safe,[],N,D.room,0,0,D.reads,D.most⟩:ad).aH p.2).length).sum≤l.length*1048576:=by
   intro l
   induction l with
   | nil=>intro _;simp
   | cons p r ih=>
    intro hh
    have h1:=ih fun x hx=>hh x (List.mem_cons_of_mem _ hx)
    obtain ⟨x,g1,g2⟩:=hsome p (hh p List.mem_cons_self)
    obtain ⟨_,g3⟩:=hcr.cut p (hh p List.mem_cons_self) x g1
    have h2:((⟨dn,D.safe,[],N,D.room,0,0,D.reads,D.most⟩:ad).aH p.2).length≤1048576:=by
     unfold ad.aH
     dsimp only
     rw [g2]
     show (x.1.take x.2).length≤_
     rw [List.length_take];omega
    simp only [List.map_cons,List.sum_cons,List.length_cons] at h1 ⊢
    omega
  exact key dn fun p hp2=>hp.mem_iff.1 hp2
 have hlen:=hp.length_eq
 have hfew:=hcr.Lb
 exact ⟨fun p hp2=>hsafe2 p (hp.mem_iff.1 hp2),hsafe2,fun l hl=>(by cases hl),(hp.map (·.1)).nodup_iff.2 hcr.names,(hp.map (·.2)).nodup_iff.2 hcr.ids,hok.room0,hok.room1,Int.le_refl _,(by show (0:Int)≤9223372036854775807;omega),Int.le_refl _,(by show (0:Int)≤9223372036854775807;omega),by show (dn.map _).sum≤_;omega,fun l hl=>(by cases hl)⟩
theorem Dj (hcr:GI D) (hs:Sat W0 (eh d D::F) w) :
 Calls Tryz.prog 25 #[au d,.int .u64 0,.int .u64 0] w fun x w'=>x=.returned (.tuple #[])∧∃ N now,now.Perm D.safe∧Oe D D.safe N∧Sat W0 (eh d ⟨now,D.safe,[],N,D.room,0,0,D.reads,D.most⟩::F) w':=by
 obtain ⟨hok,z,hs⟩:=hs.eR
 refine enter Tryz.func25 rfl Tryz.ntmps25 Tryz.results25 rfl ?_
 dsimp only [fK,aX,List.cons_append,List.nil_append] at hs
 obtain ⟨vs,hvl,hs⟩:=(hs.take (.there (.there (.there .here)))).eI (φ:=fun vs:List Value=>vs.length=D.moves.length) (B:=fun vs=>[aE 1 z.mv 143 D.moves.length vs,star (List.zipWith y8 vs D.moves)]) fun hp ⟨vs,h1,h2⟩=>⟨vs,h1,h2⟩
 obtain ⟨ma,mc,hmv,hml⟩:=hs.ay
 have hms:z.mv=.slice none 0 0∨∃ b len cap,z.mv=.slice (some ⟨b,0,none⟩) len cap:=by
  by_cases hz:z.mv=.slice none 0 0
  ·exact .inl hz
  ·obtain ⟨b,cap,rest,hv,_⟩:=hs.iT hz
   exact .inr ⟨b,_,cap,hv⟩
 have hs:Sat W0 (blk d 111 [.map (some z.bn),.map (some z.bs),z.mv,.int .i64 D.room,.int .i64 D.wait,.int .i64 D.bad,.int .i64 D.reads,.int .i64 D.most]::aO cu z.bs (aM D.safe)::star (D.nodes.map dA)::F) w:=hs.to
 have hmlen:=hcr.mvs
 rw [hmv] at hs hms
 refine gy ?_
 refine kM (N:=0) (M:=D.moves.length+1) rfl rfl rfl (by omega) (by omega) rfl ?_
 rw [Nat.zero_mod]
 refine gy ?_
 refine K4 hms rfl rfl rfl rfl rfl fun A c=>?_
 refine gy ?_
 refine aL (α:=Unit) (fun _=>[(0,au d),(2,.int .u64 0),(27,.slice A 0 c),(28,.int .i64 0),(29,.int .i64 0)])
  (fun _ w=>Sat W0 (blk d 111 [.map (some z.bn),.map (some z.bs),.slice ma D.moves.length mc,.int .i64 D.room,.int .i64 D.wait,.int .i64 D.bad,.int .i64 D.reads,.int .i64 D.most]::aO cu z.bs (aM D.safe)::star (D.nodes.map dA)::F) w) (fun _=>0) () ⟨rfl,rfl,rfl,rfl,rfl,trivial⟩ hs ?_
 clear hs
 rintro _ w hs
 refine gy ?_
 refine kC hs rfl ?_
 clear hs
 intro w m hs
 have hs:=hs.tK cu
 have hs:=hs.to (a:=blk d 111 [.map (some z.bn),.map (some z.bs),.slice ma D.moves.length mc,.int .i64 D.room,.int .i64 D.wait,.int .i64 D.bad,.int .i64 D.reads,.int .i64 D.most]::aO cu m []::aO cu z.bs (aM D.safe)::star (D.nodes.map dA)::F)
 refine gy ?_
 refine bD hs ?_
 clear hs
 intro w hs
 refine gy ?_
 refine bD hs ?_
 clear hs
 intro w hs
 refine gy ?_
 refine bD hs ?_
 clear hs
 intro w hs
 refine gy ?_
 refine bD hs ?_
 clear hs
 intro w hs
 refine gy ?_
 refine nA cu hs (.there (.there .here)) rfl rfl rfl ?_
 clear hs
 intro w it hs
 refine gy ?_
 refine aL (α:=List (Bs×Nat)×List (Bs×Nat)×List (Nat×(Bs×Nat))) (fun _=>[(0,au d),(2,.int .u64 0),(57,.pointer (some ⟨it,0,none⟩))])
  (fun y w=>((y.2.1++y.1).Perm D.safe∧Oe D y.2.1 y.2.2)∧∃ last,Sat W0 (fy cu z.bs it (aM D.safe) (aM y.1) last::blk d 111 [.map (some m),.map (some z.bs),.slice none 0 0,.int .i64 D.room,.int .i64 0,.int .i64 0,.int .i64 D.reads,.int .i64 D.most]::aO cu m (aM y.2.1)::star (y.2.2.map dA)::F) w)
  (fun y=>y.1.length) (D.safe,[],D.nodes) ⟨rfl,rfl,rfl,trivial⟩ ⟨⟨List.Perm.refl _,fun i=>(if_neg (by simp)).symm⟩,none,hs.to⟩ ?_
 clear hs
 rintro ⟨left,dn,N⟩ w ⟨⟨hp,hN⟩,last,hs⟩
 dsimp only at hp hN hs ⊢
 refine gy ?_
 refine pZ cu hs .here rfl rfl (fun h0=>?_) (fun l1 x l2 w hl hs=>?_)
 ·have hl0:left=[]:=by simpa [aM] using h0
  subst hl0
  have hp:dn.Perm D.safe:=by simpa using hp
  have hs:=hs.lP
  have hmem:∀ i,i∈dn.map (·.2)↔i∈D.safe.map (·.2):=fun i=>(hp.map (·.2)).mem_iff
  have hN2:Oe D D.safe N:=fun i=>by
   rw [hN i]
   by_cases hi:i∈dn.map (·.2)
   ·rw [if_pos hi,if_pos ((hmem i).1 hi)]
   ·rw [if_neg hi,if_neg fun h=>hi ((hmem i).2 h)]
  have hokN:=Bj hok hcr hp hN2
  refine gy ?_
  refine gB rfl ⟨rfl,N,dn,hp,hN2,Sat.cU (z:=⟨m,z.bs,.slice none 0 0⟩) hokN ?_⟩
  have h5:Sat W0 (eP (.slice none 0 0) []::_) w:=Sat.mF (vs:=[]) rfl (Sat.cP (Sat.ln hs))
  exact h5.to
 ·obtain ⟨a,p,b,rfl,rfl,hab⟩:=iZ hl
  rw [hab] at hs
  have hpin:p∈D.safe:=hp.mem_iff.1 (by simp)
  obtain ⟨x,hx⟩:=Option.isSome_iff_exists.1 (hok.safe p hpin)
  obtain ⟨hx1,hx2⟩:=hcr.cut p hpin x hx
  have hnd:=(hp.map (·.2)).nodup_iff.2 hcr.ids
  have hnn:=(hp.map (·.1)).nodup_iff.2 hcr.names
  rw [List.map_append,List.nodup_append] at hnd hnn
  have hnot:p.2 ∉ dn.map (·.2):=fun hh=>hnd.2.2 p.2 hh p.2 (List.mem_map.2 ⟨p,by simp,rfl⟩) rfl
  have hnotn:p.1 ∉ dn.map (·.1):=fun hh=>hnn.2.2 p.1 hh p.1 (List.mem_map.2 ⟨p,by simp,rfl⟩) rfl
  have hxN:aA N p.2=some x:=by rw [hN,if_neg hnot];exact hx
  obtain ⟨B,C,v,e1,e2,hs⟩:=(hs.take (.there (.there (.there .here)))).kL hxN
  obtain ⟨va,vc,hve,hvl⟩:=(hs.take (.there .here)).ay
  have hvv:(v=.slice none 0 0∧x.2=0)∨∃ b len cap,v=.slice (some ⟨b,0,none⟩) len cap∧x.2≤cap:=by
   by_cases hz:v=.slice none 0 0
   ·refine .inl ⟨hz,?_⟩
    rw [hz] at hve
    injection hve with _ h2 _
    omega
   ·obtain ⟨b,cap,rest,hv,q1,_⟩:=(hs.take (.there .here)).iT hz
    exact .inr ⟨b,_,cap,hv,by omega⟩
  subst hve
  have hs:=hs.to (a:=fy cu z.bs it (aM D.safe) (aM (a++b)) (some (p.1,au p.2))::blk p.2 116 [.slice va x.1.length vc,.int .i64 (x.2:Int)]::blk d 111 [.map (some m),.map (some z.bs),.slice none 0 0,.int .i64 D.room,.int .i64 0,.int .i64 0,.int .i64 D.reads,.int .i64 D.most]::aO cu m (aM dn)::cC (.slice va x.1.length vc) x.1::star (B++C)::F)
  refine gy ?_
  refine nB cu hs .here rfl rfl ?_
  refine gy ?_
  refine bH [blk p.2 116 [.slice va x.1.length vc,.int .i64 (x.2:Int)]] [4,9] (.q 0 (.q 1 (.q 2 (.q 3 (.s 4 (.q 5 (.q 6 (.q 7 (.q 8 (.s 9 (.q 10 (.q 11 (.q 12 (.q 13 (.q 14 (.q 15 .nil)))))))))))))))) hs (by kernel_rfl) ?_
  clear hs
  intro w hs
  refine gg ?_
  refine M4 (N:=0) (M:=x.1.length-x.2+1) rfl rfl rfl rfl (by omega) (by omega) rfl ?_
  rw [Nat.zero_mod]
  refine gg ?_
  refine gy ?_
  refine bH [blk p.2 116 [.slice va x.1.length vc,.int .i64 (x.2:Int)]] [4,8] (.q 0 (.q 1 (.q 2 (.q 3 (.s 4 (.q 5 (.q 6 (.q 7 (.s 8 (.q 9 (.q 10 (.q 11 (.q 12 (.q 13 (.l 14 .nil))))))))))))))) hs (by kernel_rfl) ?_
  clear hs
  intro w hs
  refine gg ?_
  rw [show ((x.2:Int)+((0:Nat):Int))=(x.2:Int) by omega]
  refine K5 hvv rfl rfl rfl rfl rfl rfl fun u hu=>?_
  refine gg ?_
  have hs2:=(Sat.M5 hu hx1 (hs.take (.there (.there (.there (.there .here)))))).to (a:=blk p.2 116 [.slice va x.1.length vc,.int .i64 (x.2:Int)]::blk d 111 [.map (some m),.map (some z.bs),.slice none 0 0,.int .i64 D.room,.int .i64 0,.int .i64 0,.int .i64 D.reads,.int .i64 D.most]::aO cu m (aM dn)::cC u (x.1.take x.2)::fy cu z.bs it (aM D.safe) (aM (a++b)) (some (p.1,au p.2))::star (B++C)::F)
  clear hs
  obtain ⟨ua,uc,rfl,-⟩:=(hs2.take (.there (.there (.there .here)))).ay
  refine bD hs2 ?_
  clear hs2
  intro w hs
  refine gy ?_
  refine cA rfl ?_
  refine gg ?_
  refine gy ?_
  refine bD hs ?_
  clear hs
  intro w hs
  refine gy ?_
  refine iV cu hs (k:=p.1) (v:=au p.2) (by repeat (first|exact ic.here|apply ic.there)) rfl rfl rfl rfl ?_
  clear hs
  intro w hs
  have hnone:aA dn p.1=none:=cw.2 hnotn
  have e7:cx (aM dn) p.1 (au p.2)=aM (dn++[p]):=by
   rw [← jA,n7 hnone]
  rw [e7] at hs
  have h2:=Sat.lp (i:=p.2) (y:=GH x) (B:=B) (C:=C) (v:=.slice ua (x.1.take x.2).length uc) (F:=fy cu z.bs it (aM D.safe) (aM (a++b)) (some (p.1,au p.2))::blk d 111 [.map (some m),.map (some z.bs),.slice none 0 0,.int .i64 D.room,.int .i64 0,.int .i64 0,.int .i64 D.reads,.int .i64 D.most]::aO cu m (aM (dn++[p]))::F) hs.to
  rw [← e2] at h2
  refine gy ?_
  refine aB (a++b,dn++[p],cx N p.2 (GH x)) ⟨rfl,rfl,rfl,trivial⟩ ⟨⟨?_,fun i=>?_⟩,some (p.1,au p.2),h2.to⟩ (by simp)
  ·refine List.Perm.trans ?_ hp
   rw [List.append_assoc]
   exact List.Perm.append_left _ (show (p::(a++b)).Perm (a++p::b) from List.perm_middle.symm)
  ·dsimp only
   rw [cQ]
   by_cases hi:i=p.2
   ·rw [if_pos hi,if_pos (by rw [hi];simp),hi,hx];rfl
   ·rw [if_neg hi,hN]
    by_cases h3:i∈dn.map (·.2)
    ·rw [if_pos h3,if_pos (by rw [List.map_append];exact List.mem_append_left _ h3)]
    ·rw [if_neg h3,if_neg (by rw [List.map_append,List.mem_append];rintro (h|h);exact h3 h;exact hi (by simpa using h))]
theorem Bl (D:ad):Oe D D.safe (r7 D).nodes:=fun i=>by
 show aA (D.nodes.map fun p=>(p.1,if p.1∈D.safe.map (·.2) then GH p.2 else p.2)) i=_
 generalize D.safe.map (·.2)=ids
 generalize D.nodes=l
 induction l with
 | nil=>simp [aA]
 | cons p r ih=>
  obtain ⟨k,x⟩:=p
  simp only [List.map_cons,aA]
  by_cases h:i=k
  ·subst h
   simp only [if_true]
   split<;>rfl
  ·simp only [h,if_false]
   exact ih
theorem K6 (hcr:GI D) (hs:Sat W0 (ag d D::F) w) :
 Calls Tryz.prog 25 #[au d,.int .u64 0,.int .u64 0] w fun x w'=>x=.returned (.tuple #[])∧Sat W0 (ag d (r7 D)::F) w':=by
 obtain ⟨D0,f,h,h0,hs⟩:=hs.m7
 have hperm:D0.safe.Perm (D.safe.map fun p=>(p.1,f p.2)):=qh h.ns0 (by rw [List.map_map];exact h.ns) fun n=>by rw [h.safe,tX]
 have hpid:(D0.safe.map (·.2)).Perm ((D.safe.map (·.2)).map f):=by
  have:=hperm.map (·.2)
  rw [List.map_map] at this
  rw [List.map_map];exact this
 have hnode:∀ p∈D.safe,∃ x,aA D.nodes p.2=some x∧aA D0.nodes (f p.2)=some x:=fun p hp=>by
  obtain ⟨x,hx⟩:=Option.isSome_iff_exists.1 (h.ok.safe p hp)
  exact ⟨x,hx,h.nodes _ x hx⟩
 have hinj:∀ i∈D.safe.map (·.2),∀ j∈D.safe.map (·.2),f i=f j→i=j:=fun i hi j hj e=>by
  obtain ⟨p,hp,rfl⟩:=List.mem_map.1 hi
  obtain ⟨q,hq,rfl⟩:=List.mem_map.1 hj
  exact h.inj _ _ (h.ok.safe p hp) (h.ok.safe q hq) e
 have hcr0:GI D0:=by
  refine ⟨hpid.nodup_iff.2 ?_,h.ns0,fun p hp x hx=>?_,?_,?_⟩
  ·refine List.pairwise_map.2 (List.Pairwise.imp_of_mem (fun {a b} ha hb hab e=>hab (hinj a ha b hb e)) hcr.ids)
  ·obtain ⟨q,hq,rfl⟩:=List.mem_map.1 (hperm.mem_iff.1 hp)
   obtain ⟨y,h1,h2⟩:=hnode q hq
   have hx:aA D0.nodes (f q.2)=some x:=hx
   rw [h2] at hx
   cases hx
   exact hcr.cut q hq _ h1
  ·have:=hperm.length_eq;rw [List.length_map] at this;have:=hcr.Lb;omega
  ·rw [h.moves,List.length_map];exact hcr.mvs
 have hcl:=Dj hcr0 hs
 clear hs
 refine hcl.mono ?_
 rintro _ w ⟨rfl,N,now,hp,hN,hs⟩
 refine ⟨rfl,hs.ig (f:=f) (D:=r7 D) ?_⟩
 have hCN:=Bl D
 have hold:∀ i,(aA (r7 D).nodes i).isSome=true→(aA D.nodes i).isSome=true:=fun i hi=>by
  rw [hCN] at hi
  split at hi
  ·rwa [Option.isSome_map] at hi
  ·exact hi
 refine ⟨fun n=>?_,h.safe,rfl,fun i x hx=>?_,fun i j hi hj e=>h.inj i j (hold i hi) (hold j hj) e,h.ns0,h.ns,h.room,rfl,rfl,h.reads,h.most,Bj h.ok hcr (List.Perm.refl _) hCN⟩
 ·show aA now n=(aA D.safe n).map f
  rw [← h.safe,xC h.ns0 hp]
 ·rw [hCN] at hx
  show aA N (f i)=some x
  have hyi:(aA D.nodes i).isSome=true:=by
   split at hx
   ·cases hg:aA D.nodes i with
    | none=>rw [hg] at hx;cases hx
    | some y=>rfl
   ·rw [hx];rfl
  obtain ⟨y,hy⟩:=Option.isSome_iff_exists.1 hyi
  have hy0:=h.nodes i y hy
  have hiff:f i∈D0.safe.map (·.2)↔i∈D.safe.map (·.2):=by
   rw [hpid.mem_iff]
   constructor
   ·intro hm
    obtain ⟨j,hj,e⟩:=List.mem_map.1 hm
    obtain ⟨p,hp2,rfl⟩:=List.mem_map.1 hj
    have:=h.inj _ _ (h.ok.safe p hp2) hyi e
    rw [← this];exact hj
   ·intro hm
    exact List.mem_map.2 ⟨i,hm,rfl⟩
  rw [hN]
  by_cases hm:i∈D.safe.map (·.2)
  ·rw [if_pos hm,hy] at hx
   rw [if_pos (hiff.2 hm),hy0];exact hx
  ·rw [if_neg hm,hy] at hx
   rw [if_neg fun hh=>hm (hiff.1 hh),hy0];exact hx
end
section
open Go.Proofs.YtecibefflhomdaaGreatDoor.Pure (ad bO)
attribute [local irreducible] IntKind.wrap
variable {W0 w:World} {F:List ah}
theorem Dl (hW:jB W0) (hE:kY W0) (hs:Sat W0 F w):Calls Tryz.prog 12 #[] w fun y w'=>y=.returned (.bool true)∧Sat W0 F w':=by
 obtain ⟨s1,D1,s2,D2,s3,D3,s4,D4,D5,e1,e2,e3,hcr,e4,⟨t1,t2⟩,e5⟩:=M3
 have e6:FU false none s4 D4 [107]=some (.ok (some [118]),D5):=by
  show Cz s4 D4 [107] aG=_
  unfold Cz
  rw [if_pos ⟨by omega,by omega⟩]
  exact e5
 refine enter Tryz.func12 rfl Tryz.ntmps12 Tryz.results12 rfl ?_
 refine gy ?_
 refine ae (met (wC (room:=1099511627776) hs (by omega) (by omega)) ?_)
 clear hs
 rintro _ w ⟨d,rfl,hs⟩
 refine ⟨_,rfl,?_⟩
 refine gy ?_
 refine bA [.int .i64 4,.int .i64 2] ?_
 refine ae (met (mV (o:=mX) ⟨by decide,by decide⟩ ⟨by decide,by decide⟩ e1 hW hE hs) ?_)
 clear hs
 rintro _ w ⟨pv,ve,rfl,hs⟩
 refine ⟨_,rfl,?_⟩
 obtain ⟨b,rfl,hs2⟩:=qW hs
 have hs:Sat W0 (ax ve none::dh b d mX false none s1::ag d D1::F) w:=hs2.to
 clear hs2
 refine gy ?_
 refine ae (met (bK hE hs) ?_)
 clear hs
 rintro _ w ⟨rfl,hs⟩
 refine ⟨_,rfl,?_⟩
 have hn0:((gn none:Nat):Int)=0:=rfl
 have hs:=hs.to (a:=dh b d mX false none s1::ag d D1::F)
 refine gy ?_
 refine bA [str [107],str [118],.bool false] ?_
 refine gN [str [107],str [118],.bool false] hs ?_
 clear hs
 intro w b107 hs
 have hs:=Sat.dK (k:=3) (len:=1) (cap:=1) (rest:=[]) (cs:=((dw yX).flatten)) hs (Nat.le_refl _) (by decide) rfl rfl (Ba yX)
 have hA:=Sat.Es (k:=3) (rows:=dw yX) (fun r hr=>by simp [dw,yX] at hr;subst hr;rfl) hs
 refine gy ?_
 refine ae (met (jZ (l:=yX) (sync:=true) (x:=.ok s2) (D':=D2) (fun _=>e2) hA (by decide) hW (hs.to (a:=dh b d mX false none s1::ag d D1::aE 3 (.slice (some ⟨b107,0,none⟩) 1 1) 100 1 (dw yX).flatten::F))) ?_)
 clear hs hA
 rintro _ w ⟨ve,rfl,hs⟩
 refine ⟨_,rfl,?_⟩
 have hs:Sat W0 (dh b d mX false none s2::ag d D2::ax ve none::aE 3 (.slice (some ⟨b107,0,none⟩) 1 1) 100 1 (dw yX).flatten::F) w:=hs
 have hve:=(hs.take (.there (.there .here))).cF
 subst hve
 have hs:=hs.to (a:=dh b d mX false none s2::ag d D2::F)
 refine gy ?_
 refine bA [str [108],str [119],.bool false] ?_
 refine gN [str [108],str [119],.bool false] hs ?_
 clear hs
 intro w b108 hs
 have hs:=Sat.dK (k:=3) (len:=1) (cap:=1) (rest:=[]) (cs:=((dw yY).flatten)) hs (Nat.le_refl _) (by decide) rfl rfl (Ba yY)
 have hA:=Sat.Es (k:=3) (rows:=dw yY) (fun r hr=>by simp [dw,yY] at hr;subst hr;rfl) hs
 refine gy ?_
 refine ae (met (jZ (l:=yY) (sync:=false) (x:=.ok s3) (D':=D3) (fun _=>e3) hA (by decide) hW (hs.to (a:=dh b d mX false none s2::ag d D2::aE 3 (.slice (some ⟨b108,0,none⟩) 1 1) 100 1 (dw yY).flatten::F))) ?_)
 clear hs hA
 rintro _ w ⟨ve,rfl,hs⟩
 refine ⟨_,rfl,?_⟩
 have hs:Sat W0 (dh b d mX false none s3::ag d D3::ax ve none::aE 3 (.slice (some ⟨b108,0,none⟩) 1 1) 100 1 (dw yY).flatten::F) w:=hs
 have hve:=(hs.take (.there (.there .here))).cF
 subst hve
 have hs:=hs.to (a:=dh b d mX false none s3::ag d D3::F)
 refine gy ?_
 refine ae (met (K6 hcr (hs.take (.there .here))) ?_)
 clear hs
 rintro _ w ⟨rfl,hs⟩
 refine ⟨_,rfl,?_⟩
 refine gy ?_
 refine bA [.int .i64 4,.int .i64 2] ?_
 refine ae (met (mV (o:=mX) ⟨by decide,by decide⟩ ⟨by decide,by decide⟩ e4 hW hE hs) ?_)
 clear hs
 rintro _ w ⟨pv,ve,rfl,hs⟩
 refine ⟨_,rfl,?_⟩
 obtain ⟨b2,rfl,hs2⟩:=qW hs
 have hs:Sat W0 (ax ve none::dh b2 d mX false none s4::ag d D4::F) w:=hs2.to
 clear hs2
 have hve:=hs.cF
 subst hve
 refine gy ?_
 refine ae (met (bK hE hs) ?_)
 clear hs
 rintro _ w ⟨rfl,hs⟩
 refine ⟨_,rfl,?_⟩
 refine gy ?_
 refine ae (met (bK hE hs) ?_)
 clear hs
 rintro _ w ⟨rfl,hs⟩
 refine ⟨_,rfl,?_⟩
 refine gy ?_
 refine ae (met (bK hE hs) ?_)
 clear hs
 rintro _ w ⟨rfl,hs⟩
 refine ⟨_,rfl,?_⟩
 refine gy ?_
 refine ae (met (oB e6 hs.drop) ?_)
 clear hs
 rintro _ w ⟨ve,rfl,hs⟩
 refine ⟨_,rfl,?_⟩
 have hb1:NN (.ok (some [118]):Except cy (Option Bs))=[118]:=rfl
 have hb2:NO (.ok (some [118]):Except cy (Option Bs))=true:=rfl
 rw [hb1,hb2]
 refine gy ?_
 refine ae (met (bK hE (hs.take (.there (.there .here)))) ?_)
 clear hs
 rintro _ w ⟨rfl,hs⟩
 refine ⟨_,rfl,?_⟩
 have hn1:((gn (dk (.ok (some [118]):Except cy (Option Bs))):Nat):Int)=0:=rfl
 refine gy ?_
 exact ak rfl ⟨rfl,hs.drop.drop.drop⟩
end
section
open Go Go.ChangeShapes Go.WideShapes Go.RowKit
section
variable {H:Type} {enc:TypeId×Value→H} {w:World} {base fuel:Nat} {sp:Nat→Bool} {held:Bool}
theorem K7 {cs:List Value} {x:DataW H×List MemPlace} (h:DataW.trod enc Tryz.prog w base sp held fuel 104 cs=some x) (hw:Wt 104 x.1) :
 ∃ o:vB,cs=GG o∧vA w 3 o.lv (dw o.l)∧∀ c∈o.l,c.key.length≤140737488355328∧c.val.length≤140737488355328:=by
 obtain ⟨xs,n,rfl,rfl,hl,hx,hf⟩:=DataW.trod_struct Tryz.underlying104 h
 have c104:Tryz.prog.cellsOf 104=2:=by kernel_rfl
 have c3:Tryz.prog.cellsOf 3=1:=by kernel_rfl
 have c73:Tryz.prog.cellsOf 73=1:=by kernel_rfl
 have c100:Tryz.prog.cellsOf 100=3:=by kernel_rfl
 rw [c104] at hl
 match cs,hl with
 | [v0,v1],_=>
  match xs,hx with
  | [x0,x1],_=>
   have f0:DataW.trod enc Tryz.prog w base sp held n 3 (([v0,v1].drop 0).take (Tryz.prog.cellsOf 3))=some x0:=hf 0 _ rfl
   have f1:DataW.trod enc Tryz.prog w base sp held n 73 (([v0,v1].drop 1).take (Tryz.prog.cellsOf 73))=some x1:=hf 1 _ rfl
   rw [c3] at f0
   rw [c73] at f1
   unfold Wt DataW.weights at hw
   rw [Tryz.underlying104] at hw
   simp only [List.map_cons,List.map_nil,DataW.weightsEach] at hw
   obtain ⟨i0,e0,d0,g0⟩:=DataW.trod_int Tryz.underlying3 f0
   obtain ⟨v,l,e5,hrd,hok,hcap⟩:=rY (α:=Pure.bO) (k:=3) (rowOf:=j5) (R:=fun c=>c.key.length≤140737488355328∧c.val.length≤140737488355328) Tryz.underlying73 c100 (by decide) (fun _=>rfl)
    (fun n cs y hy hwy=>Jm hy hwy) f1 (fun z hz=>hw z (by simp [hz]))
   simp at e0 e5
   subst e0 e5
   exact ⟨⟨i0,v1,l⟩,rfl,hrd,hok⟩
theorem Jw {cs:List Value} {x:DataW H×List MemPlace} (h:DataW.trod enc Tryz.prog w base sp held fuel 22 cs=some x) (hw:Wt 22 x.1) :
 ∃ (v:Value) (ops:List vB),cs=[v]∧vS w v ops:=by
 have c104:Tryz.prog.cellsOf 104=2:=by kernel_rfl
 obtain ⟨v,l,e5,hrd,hok,hcap⟩:=rY (α:=vB) (k:=2) (rowOf:=GG) (R:=fun o=>vA w 3 o.lv (dw o.l)∧∀ c∈o.l,c.key.length≤140737488355328∧c.val.length≤140737488355328) Tryz.underlying22 c104 (by decide) (fun _=>rfl)
  (fun n cs y hy hwy=>K7 hy hwy) h hw
 exact ⟨v,l,e5,hrd,hok⟩
end
end
end Go.Proofs.YtecibefflhomdaaGreatDoor
