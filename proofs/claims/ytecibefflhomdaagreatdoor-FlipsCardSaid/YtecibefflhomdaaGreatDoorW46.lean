/-
  Part 46: WALKS package api; WALKS lives; WALKS Flips.
-/
import Derived.Test.YtecibefflhomdaaGreatDoorW45
set_option maxHeartbeats 8000000
set_option maxRecDepth 100000
set_option linter.all false
namespace Go.Proofs.YtecibefflhomdaaGreatDoor
open Go
section
open Go.Proofs.YtecibefflhomdaaGreatDoor.Pure (ad ax bZ cL ig df cu dI)
section
variable {ops:Array Oper} {Q:Exit→Act→World→Prop} {n:Nat} {ds:Md} {e:Env} {w w':World} {rest:List Oper}
variable {op:Op} {ty:TypeId} {pos:String} {af:Array Edge} {d:Nat} {v u:Value} {W0:World} {l l' r r':List ah}
attribute [local semireducible] WL WC WQ
theorem KJ {x y:Operand} {t E k:Nat} (hv:v=.slice none 0 0∨∃ b len cap,v=.slice (some ⟨b,0,none⟩) len cap) (hx:ev e x=some v) (hy:ev e y=some (.int .i64 0)) (ht:lk cY t=some E) (hsz:lk cS E=some k) (hd:Nat.blt d n=true)
 (kk:∀ A c,WL ops Q n ds rest ((d,.slice A 0 c)::e) w):WL ops Q n ds (⟨some d,.slice t x none (some y) none,ty,pos,af,none⟩::rest) e w:=by
 rcases hv with rfl|⟨b,len,cap,rfl⟩
 ·exact pL hx ht hsz trivial hy hd (kk _ _)
 ·exact mx 0 0 hx ht hsz rfl hy (Nat.le_refl _) (Nat.zero_le _) hd (kk _ _)
theorem My {S:World→Prop} {K:List Nat} {i:Nat} {bb:Bool} {t:OT} {x y:Operand} {k:IntKind} {tt ty2 N M:Nat} {X Y:Int} (ho:ops[i]?=some ⟨some d,.binOp .rem tt x y ty2,ty,pos,af,none⟩) (hx:ev e x=some (.int k X)) (hy:ev e y=some (.int k Y)) (hX:X=(N:Int)) (hY:Y=(M:Int)) (hM:0<M) (hd:Nat.blt d n=true)
 (kk:WT ops Q S K n ds bb t ((d,.int k ((N%M:Nat):Int))::e) w):WT ops Q S K n ds bb (.q i t) e w:=by
 subst hX hY
 refine zF ho (fun a w' ha=>?_) hd kk
 have h3:¬ (M=0):=by omega
 have hmod:Int.tmod (N:Int) (M:Int)=((N%M:Nat):Int):=by rw [Int.tmod_eq_emod_of_nonneg (by omega)];norm_cast
 simp [execOp,ha.ev hx,ha.ev hy,eqGuard,Go.binOp,Op.intDiv,h3,hmod]
def NH (v u:Value) (h:Nat):Prop:=(v=.slice none 0 0∧u=.slice none 0 0∧h=0)∨∃ b len cap,v=.slice (some ⟨b,0,none⟩) len cap∧u=.slice (some ⟨b,0,none⟩) h cap
theorem KL {S:World→Prop} {K:List Nat} {i:Nat} {bb:Bool} {t:OT} {x y:Operand} {tt E k h':Nat} (hv:(v=.slice none 0 0∧h'=0)∨∃ b len cap,v=.slice (some ⟨b,0,none⟩) len cap∧h'≤cap) (ho:ops[i]?=some ⟨some d,.slice tt x none (some y) none,ty,pos,af,none⟩) (hx:ev e x=some v) (hy:ev e y=some (.int .i64 (h':Int))) (ht:lk cY tt=some E) (hsz:lk cS E=some k) (hd:Nat.blt d n=true)
 (kk:∀ u,NH v u h'→WT ops Q S K n ds bb t ((d,u)::e) w):WT ops Q S K n ds bb (.q i t) e w:=by
 rcases hv with ⟨rfl,rfl⟩|⟨b,len,cap,rfl,hc⟩
 ·refine zF ho (v:=.slice none 0 0) (fun a w' ha=>?_) hd (kk _ (.inl ⟨rfl,rfl,rfl⟩))
  have hu:=bQ ht
  have q2:=ha.ev hy
  simp_all [execOp,ha.ev hx,Instr.sliceAt,Instr.slice,cj hu,cW hsz,Instr.sliceBounds,Instr.sliceBound,asIntOf]
 ·refine BN 0 h' ho hx ht hsz rfl hy (Nat.zero_le _) hc hd (kk _ (.inr ⟨b,len,cap,rfl,?_⟩))
  have:cutAt b 0 cap 0 k=⟨b,0,none⟩:=by unfold cutAt;split<;>simp
  rw [this,Nat.sub_zero,Nat.sub_zero]
theorem Sat.Mz {bs:Bs} {h':Nat} (hc:NH v u h') (hle:h'≤bs.length) (h:Sat W0 (cg v bs::l) w):Sat W0 (cg u (bs.take h')::l) w:=by
 have hl:(bs.take h').length=h':=by rw [List.length_take];omega
 unfold cg
 rw [hl]
 rcases hc with ⟨rfl,rfl,rfl⟩|⟨b,len,cap,rfl,rfl⟩
 ·rw [List.take_zero]
  exact Sat.dA h.drop
 ·obtain ⟨b2,cap2,rest,hv,q1,q2,q3,h2⟩:=h.iM (by simp)
  injection hv with e1 e2 e3
  injection e1 with e1
  injection e1 with e1
  subst e1 e3
  have e4:bs.map bV++rest=(bs.take h').map bV++((bs.drop h').map bV++rest):=by rw [← List.append_assoc,← List.map_append,List.take_append_drop]
  rw [e4] at h2
  exact Sat.cT h2 (by omega) q2 (by simp;omega) (by simp;omega) (xH _)
end
attribute [local irreducible] IntKind.wrap
variable {W0 w:World} {F:List ah} {d:Nat} {D:ad}
def NI (D:ad) (dn:List (Bs×Nat)) (N:List (Nat×(Bs×Nat))):Prop:=∀ i,ax N i=if i∈dn.map (·.2) then (ax D.nodes i).map Gj else ax D.nodes i
theorem Bc {dn:List (Bs×Nat)} {N:List (Nat×(Bs×Nat))} (hok:D.Ok) (hcr:Gk D) (hp:dn.Perm D.safe) (hN2:NI D D.safe N):(⟨dn,D.safe,[],N,D.room,0,0,D.reads,D.most⟩:ad).Ok:=by
 have hsome:∀ p∈D.safe,∃ x,ax D.nodes p.2=some x∧ax N p.2=some (Gj x):=fun p hp2=>by
  obtain ⟨x,hx⟩:=Option.isSome_iff_exists.1 (hok.safe p hp2)
  exact ⟨x,hx,by rw [hN2,if_pos (List.mem_map.2 ⟨p,hp2,rfl⟩),hx];rfl⟩
 have hsafe2:∀ p∈D.safe,(ax N p.2).isSome=true:=fun p hp2=>by
  obtain ⟨x,_,h2⟩:=hsome p hp2
  rw [h2];rfl
 have hsum:(dn.map fun p=>((⟨dn,D.safe,[],N,D.room,0,0,D.reads,D.most⟩:ad).aE p.2).length).sum≤dn.length*1048576:=by
  have key:∀ l:List (Bs×Nat),(∀ p∈l,p∈D.safe)→(l.map fun p=>((⟨dn,D.safe,[],N,D.room,0,0,D.reads,D.most⟩:ad).aE p.2).length).sum≤l.length*1048576:=by
   intro l
   induction l with
   | nil=>intro _;simp
   | cons p r ih=>
    intro hh
    have h1:=ih fun x hx=>hh x (List.mem_cons_of_mem _ hx)
    obtain ⟨x,g1,g2⟩:=hsome p (hh p List.mem_cons_self)
    obtain ⟨_,g3⟩:=hcr.cut p (hh p List.mem_cons_self) x g1
    have h2:((⟨dn,D.safe,[],N,D.room,0,0,D.reads,D.most⟩:ad).aE p.2).length≤1048576:=by
     unfold ad.aE
     dsimp only
     rw [g2]
     show (x.1.take x.2).length≤_
     rw [List.length_take];omega
    simp only [List.map_cons,List.sum_cons,List.length_cons] at h1 ⊢
    omega
  exact key dn fun p hp2=>hp.mem_iff.1 hp2
 have hlen:=hp.length_eq
 have hfew:=hcr.few
 exact ⟨fun p hp2=>hsafe2 p (hp.mem_iff.1 hp2),hsafe2,fun l hl=>(by cases hl),(hp.map (·.1)).nodup_iff.2 hcr.names,(hp.map (·.2)).nodup_iff.2 hcr.ids,hok.room0,hok.room1,Int.le_refl _,(by show (0:Int)≤9223372036854775807;omega),Int.le_refl _,(by show (0:Int)≤9223372036854775807;omega),by show (dn.map _).sum≤_;omega,fun l hl=>(by cases hl)⟩
theorem C1 (hcr:Gk D) (hs:Sat W0 (dL d D::F) w) :
 Calls Tryz.prog 25 #[au d,.int .u64 0,.int .u64 0] w fun x w'=>x=.returned (.tuple #[])∧∃ N now,now.Perm D.safe∧NI D D.safe N∧Sat W0 (dL d ⟨now,D.safe,[],N,D.room,0,0,D.reads,D.most⟩::F) w':=by
 obtain ⟨hok,z,hs⟩:=hs.eL
 refine enter Tryz.func25 rfl Tryz.ntmps25 Tryz.results25 rfl ?_
 dsimp only [fB,aU,List.cons_append,List.nil_append] at hs
 obtain ⟨vs,hvl,hs⟩:=(hs.take (.there (.there (.there .here)))).fg (φ:=fun vs:List Value=>vs.length=D.moves.length) (B:=fun vs=>[aI 1 z.mv 143 D.moves.length vs,star (List.zipWith yW vs D.moves)]) fun hp ⟨vs,h1,h2⟩=>⟨vs,h1,h2⟩
 obtain ⟨ma,mc,hmv,hml⟩:=hs.aB
 have hms:z.mv=.slice none 0 0∨∃ b len cap,z.mv=.slice (some ⟨b,0,none⟩) len cap:=by
  by_cases hz:z.mv=.slice none 0 0
  ·exact .inl hz
  ·obtain ⟨b,cap,rest,hv,_⟩:=hs.iM hz
   exact .inr ⟨b,_,cap,hv⟩
 have hs:Sat W0 (blk d 111 [.map (some z.bn),.map (some z.bs),z.mv,.int .i64 D.room,.int .i64 D.wait,.int .i64 D.bad,.int .i64 D.reads,.int .i64 D.most]::aO bP z.bs (aJ D.safe)::star (D.nodes.map di)::F) w:=hs.to
 have hmlen:=hcr.mvs
 rw [hmv] at hs hms
 refine gy ?_
 refine js (N:=0) (M:=D.moves.length+1) rfl rfl rfl (by omega) (by omega) rfl ?_
 rw [Nat.zero_mod]
 refine gy ?_
 refine KJ hms rfl rfl rfl rfl rfl fun A c=>?_
 refine gy ?_
 refine aK (α:=Unit) (fun _=>[(0,au d),(2,.int .u64 0),(27,.slice A 0 c),(28,.int .i64 0),(29,.int .i64 0)])
  (fun _ w=>Sat W0 (blk d 111 [.map (some z.bn),.map (some z.bs),.slice ma D.moves.length mc,.int .i64 D.room,.int .i64 D.wait,.int .i64 D.bad,.int .i64 D.reads,.int .i64 D.most]::aO bP z.bs (aJ D.safe)::star (D.nodes.map di)::F) w) (fun _=>0) () ⟨rfl,rfl,rfl,rfl,rfl,trivial⟩ hs ?_
 clear hs
 rintro _ w hs
 refine gy ?_
 refine kr hs rfl ?_
 clear hs
 intro w m hs
 have hs:=hs.tG bP
 have hs:=hs.to (a:=blk d 111 [.map (some z.bn),.map (some z.bs),.slice ma D.moves.length mc,.int .i64 D.room,.int .i64 D.wait,.int .i64 D.bad,.int .i64 D.reads,.int .i64 D.most]::aO bP m []::aO bP z.bs (aJ D.safe)::star (D.nodes.map di)::F)
 refine gy ?_
 refine bI hs ?_
 clear hs
 intro w hs
 refine gy ?_
 refine bI hs ?_
 clear hs
 intro w hs
 refine gy ?_
 refine bI hs ?_
 clear hs
 intro w hs
 refine gy ?_
 refine bI hs ?_
 clear hs
 intro w hs
 refine gy ?_
 refine nt bP hs (.there (.there .here)) rfl rfl rfl ?_
 clear hs
 intro w it hs
 refine gy ?_
 refine aK (α:=List (Bs×Nat)×List (Bs×Nat)×List (Nat×(Bs×Nat))) (fun _=>[(0,au d),(2,.int .u64 0),(57,.pointer (some ⟨it,0,none⟩))])
  (fun y w=>((y.2.1++y.1).Perm D.safe∧NI D y.2.1 y.2.2)∧∃ last,Sat W0 (fi bP z.bs it (aJ D.safe) (aJ y.1) last::blk d 111 [.map (some m),.map (some z.bs),.slice none 0 0,.int .i64 D.room,.int .i64 0,.int .i64 0,.int .i64 D.reads,.int .i64 D.most]::aO bP m (aJ y.2.1)::star (y.2.2.map di)::F) w)
  (fun y=>y.1.length) (D.safe,[],D.nodes) ⟨rfl,rfl,rfl,trivial⟩ ⟨⟨List.Perm.refl _,fun i=>(if_neg (by simp)).symm⟩,none,hs.to⟩ ?_
 clear hs
 rintro ⟨left,dn,N⟩ w ⟨⟨hp,hN⟩,last,hs⟩
 dsimp only at hp hN hs ⊢
 refine gy ?_
 refine pS bP hs .here rfl rfl (fun h0=>?_) (fun l1 x l2 w hl hs=>?_)
 ·have hl0:left=[]:=by simpa [aJ] using h0
  subst hl0
  have hp:dn.Perm D.safe:=by simpa using hp
  have hs:=hs.lM
  have hmem:∀ i,i∈dn.map (·.2)↔i∈D.safe.map (·.2):=fun i=>(hp.map (·.2)).mem_iff
  have hN2:NI D D.safe N:=fun i=>by
   rw [hN i]
   by_cases hi:i∈dn.map (·.2)
   ·rw [if_pos hi,if_pos ((hmem i).1 hi)]
   ·rw [if_neg hi,if_neg fun h=>hi ((hmem i).2 h)]
  have hokN:=Bc hok hcr hp hN2
  refine gy ?_
  refine gE rfl ⟨rfl,N,dn,hp,hN2,Sat.cz (z:=⟨m,z.bs,.slice none 0 0⟩) hokN ?_⟩
  have h5:Sat W0 (ei (.slice none 0 0) []::_) w:=Sat.mE (vs:=[]) rfl (Sat.dA (Sat.mD hs))
  exact h5.to
 ·obtain ⟨a,p,b,rfl,rfl,hab⟩:=iU hl
  rw [hab] at hs
  have hpin:p∈D.safe:=hp.mem_iff.1 (by simp)
  obtain ⟨x,hx⟩:=Option.isSome_iff_exists.1 (hok.safe p hpin)
  obtain ⟨hx1,hx2⟩:=hcr.cut p hpin x hx
  have hnd:=(hp.map (·.2)).nodup_iff.2 hcr.ids
  have hnn:=(hp.map (·.1)).nodup_iff.2 hcr.names
  rw [List.map_append,List.nodup_append] at hnd hnn
  have hnot:p.2 ∉ dn.map (·.2):=fun hh=>hnd.2.2 p.2 hh p.2 (List.mem_map.2 ⟨p,by simp,rfl⟩) rfl
  have hnotn:p.1 ∉ dn.map (·.1):=fun hh=>hnn.2.2 p.1 hh p.1 (List.mem_map.2 ⟨p,by simp,rfl⟩) rfl
  have hxN:ax N p.2=some x:=by rw [hN,if_neg hnot];exact hx
  obtain ⟨B,C,v,e1,e2,hs⟩:=(hs.take (.there (.there (.there .here)))).jN hxN
  obtain ⟨va,vc,hve,hvl⟩:=(hs.take (.there .here)).aB
  have hvv:(v=.slice none 0 0∧x.2=0)∨∃ b len cap,v=.slice (some ⟨b,0,none⟩) len cap∧x.2≤cap:=by
   by_cases hz:v=.slice none 0 0
   ·refine .inl ⟨hz,?_⟩
    rw [hz] at hve
    injection hve with _ h2 _
    omega
   ·obtain ⟨b,cap,rest,hv,q1,_⟩:=(hs.take (.there .here)).iM hz
    exact .inr ⟨b,_,cap,hv,by omega⟩
  subst hve
  have hs:=hs.to (a:=fi bP z.bs it (aJ D.safe) (aJ (a++b)) (some (p.1,au p.2))::blk p.2 116 [.slice va x.1.length vc,.int .i64 (x.2:Int)]::blk d 111 [.map (some m),.map (some z.bs),.slice none 0 0,.int .i64 D.room,.int .i64 0,.int .i64 0,.int .i64 D.reads,.int .i64 D.most]::aO bP m (aJ dn)::cg (.slice va x.1.length vc) x.1::star (B++C)::F)
  refine gy ?_
  refine ny bP hs .here rfl rfl ?_
  refine gy ?_
  refine cx [blk p.2 116 [.slice va x.1.length vc,.int .i64 (x.2:Int)]] [4,9] (.q 0 (.q 1 (.q 2 (.q 3 (.s 4 (.q 5 (.q 6 (.q 7 (.q 8 (.s 9 (.q 10 (.q 11 (.q 12 (.q 13 (.q 14 (.q 15 .nil)))))))))))))))) hs (by kernel_rfl) ?_
  clear hs
  intro w hs
  refine kR ?_
  refine My (N:=0) (M:=x.1.length-x.2+1) rfl rfl rfl rfl (by omega) (by omega) rfl ?_
  rw [Nat.zero_mod]
  refine kR ?_
  refine gy ?_
  refine cx [blk p.2 116 [.slice va x.1.length vc,.int .i64 (x.2:Int)]] [4,8] (.q 0 (.q 1 (.q 2 (.q 3 (.s 4 (.q 5 (.q 6 (.q 7 (.s 8 (.q 9 (.q 10 (.q 11 (.q 12 (.q 13 (.l 14 .nil))))))))))))))) hs (by kernel_rfl) ?_
  clear hs
  intro w hs
  refine kR ?_
  rw [show ((x.2:Int)+((0:Nat):Int))=(x.2:Int) by omega]
  refine KL hvv rfl rfl rfl rfl rfl rfl fun u hu=>?_
  refine kR ?_
  have hs2:=(Sat.Mz hu hx1 (hs.take (.there (.there (.there (.there .here)))))).to (a:=blk p.2 116 [.slice va x.1.length vc,.int .i64 (x.2:Int)]::blk d 111 [.map (some m),.map (some z.bs),.slice none 0 0,.int .i64 D.room,.int .i64 0,.int .i64 0,.int .i64 D.reads,.int .i64 D.most]::aO bP m (aJ dn)::cg u (x.1.take x.2)::fi bP z.bs it (aJ D.safe) (aJ (a++b)) (some (p.1,au p.2))::star (B++C)::F)
  clear hs
  obtain ⟨ua,uc,rfl,-⟩:=(hs2.take (.there (.there (.there .here)))).aB
  refine bI hs2 ?_
  clear hs2
  intro w hs
  refine gy ?_
  refine cZ rfl ?_
  refine kR ?_
  refine gy ?_
  refine bI hs ?_
  clear hs
  intro w hs
  refine gy ?_
  refine iP bP hs (k:=p.1) (v:=au p.2) (by repeat (first|exact ib.here|apply ib.there)) rfl rfl rfl rfl ?_
  clear hs
  intro w hs
  have hnone:ax dn p.1=none:=cu.2 hnotn
  have e7:bZ (aJ dn) p.1 (au p.2)=aJ (dn++[p]):=by
   rw [← jr,n5 hnone]
  rw [e7] at hs
  have h2:=Sat.jC (i:=p.2) (y:=Gj x) (B:=B) (C:=C) (v:=.slice ua (x.1.take x.2).length uc) (F:=fi bP z.bs it (aJ D.safe) (aJ (a++b)) (some (p.1,au p.2))::blk d 111 [.map (some m),.map (some z.bs),.slice none 0 0,.int .i64 D.room,.int .i64 0,.int .i64 0,.int .i64 D.reads,.int .i64 D.most]::aO bP m (aJ (dn++[p]))::F) hs.to
  rw [← e2] at h2
  refine gy ?_
  refine aA (a++b,dn++[p],bZ N p.2 (Gj x)) ⟨rfl,rfl,rfl,trivial⟩ ⟨⟨?_,fun i=>?_⟩,some (p.1,au p.2),h2.to⟩ (by simp)
  ·refine List.Perm.trans ?_ hp
   rw [List.append_assoc]
   exact List.Perm.append_left _ (show (p::(a++b)).Perm (a++p::b) from List.perm_middle.symm)
  ·dsimp only
   rw [cL]
   by_cases hi:i=p.2
   ·rw [if_pos hi,if_pos (by rw [hi];simp),hi,hx];rfl
   ·rw [if_neg hi,hN]
    by_cases h3:i∈dn.map (·.2)
    ·rw [if_pos h3,if_pos (by rw [List.map_append];exact List.mem_append_left _ h3)]
    ·rw [if_neg h3,if_neg (by rw [List.map_append,List.mem_append];rintro (h|h);exact h3 h;exact hi (by simpa using h))]
theorem Bd (D:ad):NI D D.safe (rW D).nodes:=fun i=>by
 show ax (D.nodes.map fun p=>(p.1,if p.1∈D.safe.map (·.2) then Gj p.2 else p.2)) i=_
 generalize D.safe.map (·.2)=ids
 generalize D.nodes=l
 induction l with
 | nil=>simp [ax]
 | cons p r ih=>
  obtain ⟨k,x⟩:=p
  simp only [List.map_cons,ax]
  by_cases h:i=k
  ·subst h
   simp only [if_true]
   split<;>rfl
  ·simp only [h,if_false]
   exact ih
theorem KM (hcr:Gk D) (hs:Sat W0 (ag d D::F) w) :
 Calls Tryz.prog 25 #[au d,.int .u64 0,.int .u64 0] w fun x w'=>x=.returned (.tuple #[])∧Sat W0 (ag d (rW D)::F) w':=by
 obtain ⟨D0,f,h,h0,hs⟩:=hs.mW
 have hperm:D0.safe.Perm (D.safe.map fun p=>(p.1,f p.2)):=qb h.ns0 (by rw [List.map_map];exact h.ns) fun n=>by rw [h.safe,tU]
 have hpid:(D0.safe.map (·.2)).Perm ((D.safe.map (·.2)).map f):=by
  have:=hperm.map (·.2)
  rw [List.map_map] at this
  rw [List.map_map];exact this
 have hnode:∀ p∈D.safe,∃ x,ax D.nodes p.2=some x∧ax D0.nodes (f p.2)=some x:=fun p hp=>by
  obtain ⟨x,hx⟩:=Option.isSome_iff_exists.1 (h.ok.safe p hp)
  exact ⟨x,hx,h.nodes _ x hx⟩
 have hinj:∀ i∈D.safe.map (·.2),∀ j∈D.safe.map (·.2),f i=f j→i=j:=fun i hi j hj e=>by
  obtain ⟨p,hp,rfl⟩:=List.mem_map.1 hi
  obtain ⟨q,hq,rfl⟩:=List.mem_map.1 hj
  exact h.inj _ _ (h.ok.safe p hp) (h.ok.safe q hq) e
 have hcr0:Gk D0:=by
  refine ⟨hpid.nodup_iff.2 ?_,h.ns0,fun p hp x hx=>?_,?_,?_⟩
  ·refine List.pairwise_map.2 (List.Pairwise.imp_of_mem (fun {a b} ha hb hab e=>hab (hinj a ha b hb e)) hcr.ids)
  ·obtain ⟨q,hq,rfl⟩:=List.mem_map.1 (hperm.mem_iff.1 hp)
   obtain ⟨y,h1,h2⟩:=hnode q hq
   have hx:ax D0.nodes (f q.2)=some x:=hx
   rw [h2] at hx
   cases hx
   exact hcr.cut q hq _ h1
  ·have:=hperm.length_eq;rw [List.length_map] at this;have:=hcr.few;omega
  ·rw [h.moves,List.length_map];exact hcr.mvs
 have hcl:=C1 hcr0 hs
 clear hs
 refine hcl.mono ?_
 rintro _ w ⟨rfl,N,now,hp,hN,hs⟩
 refine ⟨rfl,hs.gJ (f:=f) (D:=rW D) ?_⟩
 have hCN:=Bd D
 have hold:∀ i,(ax (rW D).nodes i).isSome=true→(ax D.nodes i).isSome=true:=fun i hi=>by
  rw [hCN] at hi
  split at hi
  ·rwa [Option.isSome_map] at hi
  ·exact hi
 refine ⟨fun n=>?_,h.safe,rfl,fun i x hx=>?_,fun i j hi hj e=>h.inj i j (hold i hi) (hold j hj) e,h.ns0,h.ns,h.room,rfl,rfl,h.reads,h.most,Bc h.ok hcr (List.Perm.refl _) hCN⟩
 ·show ax now n=(ax D.safe n).map f
  rw [← h.safe,xp h.ns0 hp]
 ·rw [hCN] at hx
  show ax N (f i)=some x
  have hyi:(ax D.nodes i).isSome=true:=by
   split at hx
   ·cases hg:ax D.nodes i with
    | none=>rw [hg] at hx;cases hx
    | some y=>rfl
   ·rw [hx];rfl
  obtain ⟨y,hy⟩:=Option.isSome_iff_exists.1 hyi
  have hy0:=h.nodes i y hy
  have hiff:f i∈D0.safe.map (·.2)↔i∈D.safe.map (·.2):=by
   rw [hpid.mem_iff]
   constructor
   ·intro hm
    obtain ⟨j,hj,e⟩:=List.mem_map.1 hm
    obtain ⟨p,hp2,rfl⟩:=List.mem_map.1 hj
    have:=h.inj _ _ (h.ok.safe p hp2) hyi e
    rw [← this];exact hj
   ·intro hm
    exact List.mem_map.2 ⟨i,hm,rfl⟩
  rw [hN]
  by_cases hm:i∈D.safe.map (·.2)
  ·rw [if_pos hm,hy] at hx
   rw [if_pos (hiff.2 hm),hy0];exact hx
  ·rw [if_neg hm,hy] at hx
   rw [if_neg fun hh=>hm (hiff.1 hh),hy0];exact hx
end
section
open Go.Proofs.YtecibefflhomdaaGreatDoor.Pure (ad bX)
attribute [local irreducible] IntKind.wrap
variable {W0 w:World} {F:List ah}
theorem C2 (hW:jP W0) (hE:kP W0) (hs:Sat W0 F w):Calls Tryz.prog 12 #[] w fun y w'=>y=.returned (.bool true)∧Sat W0 F w':=by
 obtain ⟨s1,D1,s2,D2,s3,D3,s4,D4,D5,e1,e2,e3,hcr,e4,⟨t1,t2⟩,e5⟩:=Mx
 have e6:Ih false none s4 D4 [107]=some (.ok (some [118]),D5):=by
  show Cj s4 D4 [107] aH=_
  unfold Cj
  rw [if_pos ⟨by omega,by omega⟩]
  exact e5
 refine enter Tryz.func12 rfl Tryz.ntmps12 Tryz.results12 rfl ?_
 refine gy ?_
 refine ae (met (wm (room:=1099511627776) hs (by omega) (by omega)) ?_)
 clear hs
 rintro _ w ⟨d,rfl,hs⟩
 refine ⟨_,rfl,?_⟩
 refine gy ?_
 refine bw [.int .i64 4,.int .i64 2] ?_
 refine ae (met (kQ (o:=mU) ⟨by decide,by decide⟩ ⟨by decide,by decide⟩ e1 hW hE hs) ?_)
 clear hs
 rintro _ w ⟨pv,ve,rfl,hs⟩
 refine ⟨_,rfl,?_⟩
 obtain ⟨b,rfl,hs2⟩:=n7 hs
 have hs:Sat W0 (aL ve none::fx b d mU false none s1::ag d D1::F) w:=hs2.to
 clear hs2
 refine gy ?_
 refine ae (met (cF hE hs) ?_)
 clear hs
 rintro _ w ⟨rfl,hs⟩
 refine ⟨_,rfl,?_⟩
 have hn0:((ir none:Nat):Int)=0:=rfl
 have hs:=hs.to (a:=fx b d mU false none s1::ag d D1::F)
 refine gy ?_
 refine bw [str [107],str [118],.bool false] ?_
 refine iT [str [107],str [118],.bool false] hs ?_
 clear hs
 intro w b107 hs
 have hs:=Sat.cT (k:=3) (len:=1) (cap:=1) (rest:=[]) (cs:=((dF yR).flatten)) hs (Nat.le_refl _) (by decide) rfl rfl (AY yR)
 have hA:=Sat.DU (k:=3) (rows:=dF yR) (fun r hr=>by simp [dF,yR] at hr;subst hr;rfl) hs
 refine gy ?_
 refine ae (met (lq (l:=yR) (sync:=true) (x:=.ok s2) (D':=D2) (fun _=>e2) hA (by decide) hW (hs.to (a:=fx b d mU false none s1::ag d D1::aI 3 (.slice (some ⟨b107,0,none⟩) 1 1) 100 1 (dF yR).flatten::F))) ?_)
 clear hs hA
 rintro _ w ⟨ve,rfl,hs⟩
 refine ⟨_,rfl,?_⟩
 have hs:Sat W0 (fx b d mU false none s2::ag d D2::aL ve none::aI 3 (.slice (some ⟨b107,0,none⟩) 1 1) 100 1 (dF yR).flatten::F) w:=hs
 have hve:=(hs.take (.there (.there .here))).cD
 subst hve
 have hs:=hs.to (a:=fx b d mU false none s2::ag d D2::F)
 refine gy ?_
 refine bw [str [108],str [119],.bool false] ?_
 refine iT [str [108],str [119],.bool false] hs ?_
 clear hs
 intro w b108 hs
 have hs:=Sat.cT (k:=3) (len:=1) (cap:=1) (rest:=[]) (cs:=((dF yS).flatten)) hs (Nat.le_refl _) (by decide) rfl rfl (AY yS)
 have hA:=Sat.DU (k:=3) (rows:=dF yS) (fun r hr=>by simp [dF,yS] at hr;subst hr;rfl) hs
 refine gy ?_
 refine ae (met (lq (l:=yS) (sync:=false) (x:=.ok s3) (D':=D3) (fun _=>e3) hA (by decide) hW (hs.to (a:=fx b d mU false none s2::ag d D2::aI 3 (.slice (some ⟨b108,0,none⟩) 1 1) 100 1 (dF yS).flatten::F))) ?_)
 clear hs hA
 rintro _ w ⟨ve,rfl,hs⟩
 refine ⟨_,rfl,?_⟩
 have hs:Sat W0 (fx b d mU false none s3::ag d D3::aL ve none::aI 3 (.slice (some ⟨b108,0,none⟩) 1 1) 100 1 (dF yS).flatten::F) w:=hs
 have hve:=(hs.take (.there (.there .here))).cD
 subst hve
 have hs:=hs.to (a:=fx b d mU false none s3::ag d D3::F)
 refine gy ?_
 refine ae (met (KM hcr (hs.take (.there .here))) ?_)
 clear hs
 rintro _ w ⟨rfl,hs⟩
 refine ⟨_,rfl,?_⟩
 refine gy ?_
 refine bw [.int .i64 4,.int .i64 2] ?_
 refine ae (met (kQ (o:=mU) ⟨by decide,by decide⟩ ⟨by decide,by decide⟩ e4 hW hE hs) ?_)
 clear hs
 rintro _ w ⟨pv,ve,rfl,hs⟩
 refine ⟨_,rfl,?_⟩
 obtain ⟨b2,rfl,hs2⟩:=n7 hs
 have hs:Sat W0 (aL ve none::fx b2 d mU false none s4::ag d D4::F) w:=hs2.to
 clear hs2
 have hve:=hs.cD
 subst hve
 refine gy ?_
 refine ae (met (cF hE hs) ?_)
 clear hs
 rintro _ w ⟨rfl,hs⟩
 refine ⟨_,rfl,?_⟩
 refine gy ?_
 refine ae (met (cF hE hs) ?_)
 clear hs
 rintro _ w ⟨rfl,hs⟩
 refine ⟨_,rfl,?_⟩
 refine gy ?_
 refine ae (met (cF hE hs) ?_)
 clear hs
 rintro _ w ⟨rfl,hs⟩
 refine ⟨_,rfl,?_⟩
 refine gy ?_
 refine ae (met (ow e6 hs.drop) ?_)
 clear hs
 rintro _ w ⟨ve,rfl,hs⟩
 refine ⟨_,rfl,?_⟩
 have hb1:MH (.ok (some [118]):Except cy (Option Bs))=[118]:=rfl
 have hb2:MI (.ok (some [118]):Except cy (Option Bs))=true:=rfl
 rw [hb1,hb2]
 refine gy ?_
 refine ae (met (cF hE (hs.take (.there (.there .here)))) ?_)
 clear hs
 rintro _ w ⟨rfl,hs⟩
 refine ⟨_,rfl,?_⟩
 have hn1:((ir (dC (.ok (some [118]):Except cy (Option Bs))):Nat):Int)=0:=rfl
 refine gy ?_
 exact ak rfl ⟨rfl,hs.drop.drop.drop⟩
end
section
open Go.Proofs.YtecibefflhomdaaGreatDoor.Pure (ad bX ax bZ pY aR)
attribute [local irreducible] IntKind.wrap
variable {W0 w:World} {F:List ah} {v:Value}
theorem Gm {ds:List tc} {mm tt file:Int} {bit:Nat} (ho:yK W0 v ds) (hW:jP W0) (hE:kP W0) (hs:Sat W0 F w) :
 Calls Tryz.prog 3 #[v,.int .i64 mm,.int .i64 tt,.int .i64 file,.int .u64 (bit:Int)] w fun y w'=>y=.returned (.bool true)∧Sat W0 F w':=by
 have hok:=A5 mm tt
 refine enter Tryz.func3 rfl Tryz.ntmps3 Tryz.results3 rfl ?_
 refine gy ?_
 refine ae (met (C2 hW hE hs) ?_)
 clear hs
 rintro _ w ⟨rfl,hs⟩
 refine ⟨_,rfl,?_⟩
 refine gy ?_
 refine ae (met (CW ho hs) ?_)
 clear hs
 rintro _ w ⟨bb,rfl,hb,hs⟩
 refine ⟨_,rfl,?_⟩
 cases bb with
 | false=>
  refine gy ?_
  exact ak rfl ⟨rfl,hs⟩
 | true=>
  have hb:=hb rfl
  refine gy ?_
  refine ae (met (A9 hb ho hW hE hs) ?_)
  clear hs
  rintro _ w ⟨X,hXo,hX,rfl,hs⟩
  refine ⟨_,rfl,?_⟩
  have hnow:X.D.now.length≤1099511627776:=by
   obtain ⟨q0,Ls,bs,G,h1,_,_,_,_,_,_,_,h8⟩:=hX.inv.Ms (by omega) (by omega)
   omega
  refine gy ?_
  refine ae (met (IY (hs.take (.there .here)) hnow) ?_)
  clear hs
  rintro _ w ⟨vn,rfl,hs⟩
  refine ⟨_,rfl,?_⟩
  obtain ⟨na,nc,rfl,-⟩:=(hs.take (.there .here)).aB
  have hs:=hs.to (a:=bT X.x X.d (au X.b) X.o X.hp::CL (.slice na (eQ X.D).length nc) (eQ X.D)::ag X.d X.D::ep X.hp X.H X.sf false::F)
  have hnl:(eQ X.D).length≤1099511627776:=by rw [iC];exact hnow
  generalize eQ X.D=names at hs hnl ⊢
  by_cases h0:names.length=0
  ·have h0':(names.length:Int)=0:=by omega
   refine gy ?_
   exact ak rfl ⟨rfl,hs.drop.drop.drop.drop⟩
  ·have h0':¬ (names.length:Int)=0:=by omega
   refine gy ?_
   refine ae (met (IW (hs.take (.there (.there .here)))) ?_)
   clear hs
   rintro _ w ⟨d2,D2,rfl,hc,hs⟩
   refine ⟨_,rfl,?_⟩
   obtain ⟨b,cap,rs,hv,q1,q2,q3,hs2⟩:=(hs.take (.there (.there (.there .here)))).dr (by omega)
   obtain ⟨rfl,_,rfl⟩:=Value.slice.inj hv
   have hs:Sat W0 (bT X.x X.d (au X.b) X.o X.hp::blk b 9 (names.map str++rs)::ag d2 D2::ep X.hp X.H X.sf false::F) w:=hs2.to
   clear hs2
   have hok':=hX.ho
   have hlt:(IntKind.u64.wrap file).toNat%names.length<names.length:=Nat.mod_lt _ (by omega)
   refine gy ?_
   refine js (N:=(IntKind.u64.wrap file).toNat) (M:=names.length) rfl rfl (CU file) rfl (by omega) rfl ?_
   generalize (IntKind.u64.wrap file).toNat%names.length=j at hlt ⊢
   obtain ⟨nm,hnm⟩:∃ nm,names[j]?=some nm:=⟨_,List.getElem?_eq_getElem hlt⟩
   have hcell:(names.map str++rs)[0+j*1]?=some (str nm):=by
    rw [Nat.zero_add,Nat.mul_one,List.getElem?_append_left (by simpa using hlt),List.getElem?_map,hnm];rfl
   refine gy ?_
   refine ae (met (Mu (n:=nm) (bit:=bit) (hs.take (.there (.there .here)))) ?_)
   clear hs
   rintro _ w ⟨rfl,D3,hD3,hs⟩
   refine ⟨_,rfl,?_⟩
   have hfl:=KI hX.calm hc hD3
   clear hD3 hc
   obtain ⟨r,D4,e1,e2⟩:=hX.inv.flipped (o:=X.o) (by omega) hok'.1 hfl (by omega) (by omega) (by have:=hX.num;omega)
   have hs:=hs.to (a:=bT X.x X.d (au X.b) X.o X.hp::ag d2 D3::ep X.hp X.H X.sf false::F)
   refine gy ?_
   refine ae (met (kQ (o:=X.o) ⟨hok'.1,hok'.2.1⟩ ⟨hok'.2.2.1,hok'.2.2.2⟩ e1 hW hE (hs.take (.there .here))) ?_)
   clear hs
   rintro _ w ⟨pv,ve,rfl,hs⟩
   refine ⟨_,rfl,?_⟩
   rcases e2 with ⟨e,rfl,h7⟩|⟨s',n,rfl,hn,hinv,hcalm⟩
   ·have hpv:=hs.fT (φ:=pv=.pointer none) fun _ k=>k
    subst hpv
    have hn7:((ir (dC (.error e:Except cy St)):Nat):Int)=7:=Jm h7
    refine gy ?_
    refine ae (met (cF hE (hs.take (.there (.there .here)))) ?_)
    clear hs
    rintro _ w ⟨rfl,hs⟩
    refine ⟨_,rfl,?_⟩
    refine gy ?_
    exact ak rfl ⟨rfl,hs.drop.drop.drop.drop.drop⟩
   ·obtain ⟨b2,rfl,hs2⟩:=n7 hs
    have hs:Sat W0 (bT X.x X.d (au X.b) X.o X.hp::fx b2 d2 X.o false none s'::ag d2 D4::aL ve none::ep X.hp X.H X.sf false::F) w:=hs2.to
    clear hs2
    have hn0:((ir (dC (.ok s':Except cy St)):Nat):Int)=0:=rfl
    refine gy ?_
    refine ae (met (cF hE (hs.take (.there (.there (.there .here))))) ?_)
    clear hs
    rintro _ w ⟨rfl,hs⟩
    refine ⟨_,rfl,?_⟩
    have hs:=hs.to (a:=bT X.x X.d (au X.b) X.o X.hp::ep X.hp X.H X.sf false::fx b2 d2 X.o false none s'::ag d2 D4::F)
    refine gy ?_
    have hHl:=hX.hlen
    have hHt:=hX.tot
    have hHb:=hX.bok
    generalize X.H=H at *
    generalize X.sf=sf at *
    generalize X.hp=hp at *
    refine aK (α:=Nat×Value×ad) (fun q=>[(13,au X.x),(17,au b2),(20,q.2.1),(21,.int .i64 (q.1:Int))])
     (fun q w=>(q.1≤n∧fa True X.o s' q.2.2 (H.take n) 1048576 0∧Calm q.2.2)∧Sat W0 (bT X.x X.d (au X.b) X.o hp::ep hp H sf false::fx b2 d2 X.o false none s'::ag d2 q.2.2::aX q.2.1 (aG (H.take q.1))::F) w) (fun q=>n-q.1) (0,.slice none 0 0,D4) ⟨rfl,rfl,rfl,rfl,trivial⟩ ⟨⟨Nat.zero_le _,hinv,hcalm⟩,(Sat.lU (k:=2) hs (.inl rfl) (fun _=>rfl)).to⟩ ?_
    clear hs hinv hcalm
    rintro ⟨k,p,D⟩ w ⟨⟨hkn,hinv,hcalm⟩,hs⟩
    dsimp only at hkn hinv hcalm hs ⊢
    have hkl:(k:Int)≤(H.length:Int):=by omega
    obtain ⟨pa,pc,rfl,-⟩:=(hs.take (.there (.there (.there (.there .here))))).fZ
    have hpl:(aG (H.take k)).length≤1048576:=by have:=gm (H.take k);have:=ml H k;omega
    obtain ⟨vb,vp,us,hu,hs2⟩:=(hs.take (.there .here)).lG
    obtain ⟨ba,bc,rfl,-⟩:=(hs2.take (.there .here)).aB
    have hs:Sat W0 (bT X.x X.d (au X.b) X.o hp::blk hp 49 [.slice ba H.length bc,.int .i64 (sf:Int),.bool false,vp]::aI 1 (.slice ba H.length bc) 52 H.length us::mj us H::aX vp (aG H)::fx b2 d2 X.o false none s'::ag d2 D::aX (.slice pa (aG (H.take k)).length pc) (aG (H.take k))::F) w:=hs2.to
    clear hs2
    refine gy ?_
    have hs2:=Sat.iq (hp:=hp) (sf:=sf) (mb:=false) hu (hs.to (a:=blk hp 49 [.slice ba H.length bc,.int .i64 (sf:Int),.bool false,vp]::aI 1 (.slice ba H.length bc) 52 H.length us::mj us H::aX vp (aG H)::bT X.x X.d (au X.b) X.o hp::fx b2 d2 X.o false none s'::ag d2 D::aX (.slice pa (aG (H.take k)).length pc) (aG (H.take k))::F))
    clear hs
    refine ae (met (Gi (o:=X.o) (mb:=false) (sf:=sf) (hp:=hp) (H:=H) (dv:=au X.d) (sv:=au X.b) (x:=X.x) hE hinv hcalm (by omega) (by omega) hHb hpl (by have:=gm (H.take n);have:=ml H n;omega) hs2.to) ?_)
    clear hs2 hinv hcalm hu
    rintro _ w ⟨r,D',rfl,hr,hinv,hcalm,hs⟩
    refine ⟨_,rfl,?_⟩
    cases r with
    | true=>
     refine gy ?_
     exact ak rfl ⟨rfl,hs.drop.drop.drop.drop.drop⟩
    | false=>
     have hkn2:k<n:=by
      rcases Nat.lt_or_ge k n with h|h
      ·exact h
      ·have:k=n:=by omega
       subst this
       have:=hr rfl
       cases this
     have hlt:k<H.length:=by omega
     have hlt':(k:Int)<(H.length:Int):=by omega
     obtain ⟨ch,hch⟩:∃ ch,H[k]?=some ch:=⟨_,List.getElem?_eq_getElem hlt⟩
     obtain ⟨vb,vp,us,hu,hs2⟩:=(hs.take (.there .here)).lG
     obtain ⟨u,hub⟩:∃ u,us[k]?=some u:=⟨_,List.getElem?_eq_getElem (by rw [hu.1];exact hlt)⟩
     have htk2:=ml H (k+1)
     have htk:=vt hch
     have e1:aG (H.take (k+1))=pY (aG (H.take k)) ch:=by rw [List.take_add_one,hch];exact kj _ _
     have hdl:=gm (H.take k)
     obtain ⟨bq,cap,rs,rfl,q1,q2,q3,h3⟩:=(hs2.take (.there .here)).dr (by omega)
     have hcell2:(us++rs)[0+k*1]?=some u:=by
      rw [Nat.zero_add,Nat.mul_one,List.getElem?_append_left (List.getElem?_eq_some_iff.1 hub).1];exact hub
     have hs:=(h3.take (.there (.there .here))).yG (te us H) (db _ hub hch)
     clear h3 hs2
     have hs:=hs.to (a:=bT X.x X.d (au X.b) X.o hp::blk hp 49 [.slice (some ⟨bq,0,none⟩) H.length cap,.int .i64 (sf:Int),.bool false,vp]::blk bq 52 (us++rs)::aX (.slice pa (aG (H.take k)).length pc) (aG (H.take k))::jz u ch::mj us H::aX vp (aG H)::fx b2 d2 X.o false none s'::ag d2 D'::F)
     refine gy ?_
     refine ae (met (s9 (l:=ch) (hs.fG (.there (.there (.there .here))) (.there (.there (.there .here)))) (by omega)) ?_)
     clear hs
     rintro _ w ⟨p2,rfl,hs⟩
     refine ⟨_,rfl,?_⟩
     rw [rP ch (mi _),← e1] at hs
     have hs1:=fun (_:True)=>Sat.cT (k:=1) (len:=H.length) (hs.to (a:=blk bq 52 (us++rs)::blk hp 49 [.slice (some ⟨bq,0,none⟩) H.length cap,.int .i64 (sf:Int),.bool false,vp]::mj us H::aX vp (aG H)::bT X.x X.d (au X.b) X.o hp::fx b2 d2 X.o false none s'::ag d2 D'::aX p2 (aG (H.take (k+1)))::F)) q1 q2 q3 (by rw [hu.1,Nat.mul_one]) hu.2
     refine gy ?_
     have h4:=Sat.iq (hp:=hp) (sf:=sf) (mb:=false) (vb:=.slice (some ⟨bq,0,none⟩) H.length cap) (vp:=vp) hu ((hs1 trivial).to (a:=blk hp 49 [.slice (some ⟨bq,0,none⟩) H.length cap,.int .i64 (sf:Int),.bool false,vp]::aI 1 (.slice (some ⟨bq,0,none⟩) H.length cap) 52 H.length us::mj us H::aX vp (aG H)::bT X.x X.d (au X.b) X.o hp::fx b2 d2 X.o false none s'::ag d2 D'::aX p2 (aG (H.take (k+1)))::F))
     exact aA (k+1,p2,D') ⟨rfl,rfl,rfl,rfl,trivial⟩ ⟨⟨hkn2,hinv,hcalm⟩,h4.to⟩ (by dsimp only;omega)
end
end Go.Proofs.YtecibefflhomdaaGreatDoor
