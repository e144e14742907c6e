/-
  Part 11: THE DISK, ABSTRACTLY files by numbers of their own; WALKS package codec; WALKS package codec.
-/
import Derived.Test.YtecibefflhomdaaGreatDoorW10
set_option maxHeartbeats 8000000
set_option maxRecDepth 100000
set_option linter.all false
namespace Go.Proofs.YtecibefflhomdaaGreatDoor
open Go
section
open Go.Proofs.YtecibefflhomdaaGreatDoor.Pure (ad ax bZ ew fu cL iO dI jj jk df cu)
structure j9 (f:Nat→Nat) (D0 D:ad):Prop where
 now:∀ n,ax D0.now n=(ax D.now n).map f
 safe:∀ n,ax D0.safe n=(ax D.safe n).map f
 moves:D0.moves=D.moves.map (List.map fun p=>(p.1,p.2.map f))
 nodes:∀ i x,ax D.nodes i=some x→ax D0.nodes (f i)=some x
 inj:∀ i j,(ax D.nodes i).isSome=true→(ax D.nodes j).isSome=true→f i=f j→i=j
 ns0:(D0.safe.map (·.1)).Nodup
 ns:(D.safe.map (·.1)).Nodup
 room:D0.room=D.room
 wait:D0.wait=D.wait
 bad:D0.bad=D.bad
 reads:D0.reads=D.reads
 most:D0.most=D.most
 ok:D.Ok
def ag (d:Nat) (D:ad):ah:=fun h=>∃ D0 f,j9 f D0 D∧dL d D0 h
section
variable {f:Nat→Nat} {D0 D:ad} {n:Bs}
theorem j9.dT (h:j9 f D0 D):D0.dT=D.dT:=by unfold ad.dT;rw [h.wait,h.bad]
theorem j9.tick (h:j9 f D0 D):j9 f D0.tick D.tick:=by
 have h1:D0.tick.wait=D.tick.wait:=by unfold ad.tick;rw [h.wait,h.bad];split<;>(try split)<;>simp [h.wait,h.bad]
 have h2:D0.tick.bad=D.tick.bad:=by unfold ad.tick;rw [h.wait,h.bad];split<;>(try split)<;>simp [h.wait,h.bad]
 refine ⟨?_,?_,?_,?_,?_,?_,?_,?_,h1,h2,?_,?_,h.ok.tick⟩<;>simp only [Pure.ad.cP,Pure.ad.EK,Pure.ad.jl,Pure.ad.eg,Pure.ad.eF,Pure.ad.BD,Pure.ad.EL]
 ·exact h.now
 ·exact h.safe
 ·exact h.moves
 ·exact h.nodes
 ·exact h.inj
 ·exact h.ns0
 ·exact h.ns
 ·exact h.room
 ·exact h.reads
 ·exact h.most
theorem j9.nC (h:j9 f D0 D) (n:Bs):bg D0 n=bg D n:=by
 unfold YtecibefflhomdaaGreatDoor.bg
 rw [h.dT,h.now n]
 cases ax D.now n<;>rfl
theorem j9.ot (h:j9 f D0 D) {i:Nat} (hi:(ax D.nodes i).isSome=true):D0.aE (f i)=D.aE i:=by
 obtain ⟨x,hx⟩:=Option.isSome_iff_exists.1 hi
 unfold ad.aE;rw [hx,h.nodes i x hx]
theorem j9.JV (h:j9 f D0 D) {i:Nat} (hi:(ax D.nodes i).isSome=true):mC D0 (f i)=mC D i:=by
 obtain ⟨x,hx⟩:=Option.isSome_iff_exists.1 hi
 unfold YtecibefflhomdaaGreatDoor.mC;rw [hx,h.nodes i x hx]
theorem j9.has (h:j9 f D0 D) {i:Nat} (hi:ax D.now n=some i):(ax D.nodes i).isSome=true:=h.ok.now _ (dI hi)
theorem qb {κ α:Type} [DecidableEq κ] {a b:List (κ×α)} (ha:(a.map (·.1)).Nodup) (hb:(b.map (·.1)).Nodup) (h:∀ x,ax a x=ax b x):a.Perm b:=by
 have na:a.Nodup:=List.Pairwise.of_map _ (fun x y hxy e=>hxy (by rw [e])) ha
 have nb:b.Nodup:=List.Pairwise.of_map _ (fun x y hxy e=>hxy (by rw [e])) hb
 refine (List.perm_ext_iff_of_nodup na nb).2 fun p=>?_
 obtain ⟨k,v⟩:=p
 constructor
 ·intro hp;have:=df ha hp;rw [h] at this;exact dI this
 ·intro hp;have:=df hb hp;rw [← h] at this;exact dI this
theorem tU {κ α β:Type} [DecidableEq κ] (g:α→β):∀ (l:List (κ×α)) (x:κ),ax (l.map fun p=>(p.1,g p.2)) x=(ax l x).map g
 | [],_=>rfl
 | (k,v)::r,x=>by
  simp only [List.map_cons,ax]
  by_cases h:x=k
  ·simp [h]
  ·simp [h,tU g r x]
theorem j9.perm (h:j9 f D0 D) (h0:D0.Ok):D0.now.Perm (D.now.map fun p=>(p.1,f p.2)):=by
 refine qb h0.names ?_ fun x=>by rw [h.now,tU]
 rw [List.map_map];exact h.ok.names
theorem j9.used (h:j9 f D0 D) (h0:D0.Ok):D0.used=D.used:=by
 unfold ad.used
 rw [((h.perm h0).map fun p=>(D0.aE p.2).length).sum_nat,List.map_map]
 congr 1
 exact List.map_congr_left fun p hp=>by simp only [Function.comp];rw [h.ot (h.ok.now p hp)]
theorem ou {f:Nat→Nat}:∀ (l:List (Bs×Option Nat)) (m0 m:List (Bs×Nat)),(m0.map (·.1)).Nodup→(m.map (·.1)).Nodup→(∀ n,ax m0 n=(ax m n).map f) →
 (∀ n,ax (fu m0 (l.map fun p=>(p.1,p.2.map f))) n=(ax (fu m l) n).map f)∧((fu m0 (l.map fun p=>(p.1,p.2.map f))).map (·.1)).Nodup∧((fu m l).map (·.1)).Nodup
 | [],m0,m,h0,h1,h=>⟨h,h0,h1⟩
 | (k,none)::l,m0,m,h0,h1,h=>ou l (ew m0 k) (ew m k) (jk h0 k) (jk h1 k) fun n=>by
  rw [iO _ _ h0,iO _ _ h1,h n];split<;>rfl
 | (k,some i)::l,m0,m,h0,h1,h=>ou l (bZ m0 k (f i)) (bZ m k i) (jj h0 k _) (jj h1 k _) fun n=>by
  rw [cL,cL,h n];split<;>rfl
theorem j9.Hh (h:j9 f D0 D) (h0:D0.Ok) (l:List (Bs×Option Nat)) (hok:(named D l).Ok):j9 f (named D0 (l.map fun p=>(p.1,p.2.map f))) (named D l):=by
 have:=ou (f:=f) l D0.now D.now h0.names h.ok.names h.now
 exact ⟨this.1,h.safe,by simp [YtecibefflhomdaaGreatDoor.named,h.moves],h.nodes,h.inj,h.ns0,h.ns,h.room,h.wait,h.bad,h.reads,h.most,hok⟩
theorem j9.fC (h:j9 f D0 D) (h0:D0.Ok) (n:Bs):j9 f (D0.fC n) (D.fC n):=h.Hh h0 [(n,none)] (h.ok.fC n)
theorem j9.renamed (h:j9 f D0 D) (h0:D0.Ok) {a b:Bs} {i:Nat} (hab:a≠b) (ha:ax D.now a=some i):j9 f (D0.renamed a b (f i)) (D.renamed a b i):=h.Hh h0 [(b,some i),(a,none)] (h.ok.renamed hab ha)
theorem j9.laid (h:j9 f D0 D) {i:Nat} (hi:(ax D.nodes i).isSome=true) (x:Bs×Nat) (hok:(D.laid i x).Ok):j9 f (D0.laid (f i) x) (D.laid i x):=by
 refine ⟨h.now,h.safe,h.moves,fun j y hy=>?_,fun j k hj hk=>?_,h.ns0,h.ns,h.room,h.wait,h.bad,h.reads,h.most,hok⟩
 ·simp only [ad.laid,cL] at hy ⊢
  by_cases hj:j=i
  ·subst hj;simpa using hy
  ·simp only [hj,if_false] at hy
   have hne:f j≠f i:=fun e=>hj (h.inj j i (by rw [hy];rfl) hi e)
   simp only [hne,if_false];exact h.nodes j y hy
 ·have key:∀ j,(ax (D.laid i x).nodes j).isSome=true→(ax D.nodes j).isSome=true:=fun j hj=>by
   simp only [ad.laid,cL] at hj
   by_cases hji:j=i
   ·subst hji;exact hi
   ·simpa [hji] using hj
  exact h.inj j k (key j hj) (key k hk)
theorem j9.created (h:j9 f D0 D) (h0:D0.Ok) {i0:Nat} (hi0:ax D0.nodes i0=none) (hn:ax D.now n=none):j9 (fun j=>if j=fresh D then i0 else f j) (D0.created n i0) (D.created n (fresh D)):=by
 have hfr:=tN D
 have hne:∀ j,(ax D.nodes j).isSome=true→j≠fresh D:=fun j hj e=>by rw [e,hfr] at hj;cases hj
 have hne0:∀ j,(ax D.nodes j).isSome=true→f j≠i0:=fun j hj e=>by
  obtain ⟨x,hx⟩:=Option.isSome_iff_exists.1 hj
  have:=h.nodes j x hx;rw [e,hi0] at this;cases this
 have hn0:ax D0.now n=none:=by rw [h.now,hn];rfl
 refine ⟨fun m=>?_,fun m=>?_,?_,fun j y hy=>?_,fun j k hj hk hjk=>?_,h.ns0,h.ns,h.room,h.wait,h.bad,h.reads,h.most,h.ok.created hfr hn⟩
 ·show ax (bZ D0.now n i0) m=(ax (bZ D.now n (fresh D)) m).map _
  rw [cL,cL]
  by_cases hm:m=n
  ·simp [hm]
  ·simp only [hm,if_false,h.now]
   cases hg:ax D.now m with
   | none=>rfl
   | some j=>simp [hne j (h.has hg)]
 ·show ax D0.safe m=(ax D.safe m).map _
  rw [h.safe]
  cases hg:ax D.safe m with
  | none=>rfl
  | some j=>simp [hne j (h.ok.safe _ (dI hg))]
 ·show D0.moves++[[(n,some i0)]]=(D.moves++[[(n,some (fresh D))]]).map _
  rw [h.moves,List.map_append]
  congr 1
  ·refine List.map_congr_left fun l hl=>List.map_congr_left fun p hp=>?_
   cases hp2:p.2 with
   | none=>rfl
   | some j=>simp [hne j (h.ok.moves l hl p hp j hp2)]
  ·simp
 ·show ax ((i0,(([]:Bs),0))::D0.nodes) _=_
  have hy':ax ((fresh D,(([]:Bs),0))::D.nodes) j=some y:=hy
  simp only [ax] at hy' ⊢
  by_cases hj:j=fresh D
  ·simpa [hj] using hy'
  ·simp only [hj,if_false] at hy' ⊢
   simp only [hne0 j (by rw [hy'];rfl),if_false]
   exact h.nodes j y hy'
 ·have key:∀ j,(ax ((fresh D,(([]:Bs),0))::D.nodes) j).isSome=true→j=fresh D∨(ax D.nodes j).isSome=true:=fun j hj=>by
   simp only [ax] at hj
   by_cases hj2:j=fresh D
   ·exact .inl hj2
   ·exact .inr (by simpa [hj2] using hj)
  rcases key j hj with h1|h1<;>rcases key k hk with h2|h2
  ·rw [h1,h2]
  ·simp only [h1,if_true,hne k h2,if_false] at hjk;exact absurd hjk.symm (hne0 k h2)
  ·simp only [h2,if_true,hne j h1,if_false] at hjk;exact absurd hjk (hne0 j h1)
  ·simp only [hne j h1,hne k h2,if_false] at hjk;exact h.inj j k h1 h2 hjk
theorem j9.synced (h:j9 f D0 D):j9 f D0.synced D.synced:=by
 have key:∀ (ms:List (List (Bs×Option Nat))) (m0 m:List (Bs×Nat)),(m0.map (·.1)).Nodup→(m.map (·.1)).Nodup→(∀ n,ax m0 n=(ax m n).map f) →
  (∀ n,ax ((ms.map (List.map fun p=>(p.1,p.2.map f))).foldl fu m0) n=(ax (ms.foldl fu m) n).map f)∧(((ms.map (List.map fun p=>(p.1,p.2.map f))).foldl fu m0).map (·.1)).Nodup∧((ms.foldl fu m).map (·.1)).Nodup:=by
  intro ms
  induction ms with
  | nil=>intro m0 m h0 h1 h;exact ⟨h,h0,h1⟩
  | cons l ms ih=>
   intro m0 m h0 h1 h
   obtain ⟨a,b,c⟩:=ou l m0 m h0 h1 h
   exact ih _ _ b c a
 obtain ⟨a,b,c⟩:=key D.moves D0.safe D.safe h.ns0 h.ns h.safe
 refine ⟨h.now,?_,rfl,h.nodes,h.inj,?_,c,h.room,h.wait,h.bad,h.reads,h.most,h.ok.synced⟩
 ·show ∀ n,ax (D0.moves.foldl fu D0.safe) n=_
  rw [h.moves];exact a
 ·show ((D0.moves.foldl fu D0.safe).map (·.1)).Nodup
  rw [h.moves];exact b
end
section
variable {W0 w:World} {F l:List ah} {v:Value} {d:Nat} {D:ad} {n m:Bs}
theorem Sat.mW (h:Sat W0 (ag d D::F) w):∃ D0 f,j9 f D0 D∧D0.Ok∧Sat W0 (dL d D0::F) w:=by
 obtain ⟨⟨D0,f⟩,hs,h1⟩:=h.fg (φ:=fun z:ad×(Nat→Nat)=>j9 z.2 z.1 D) (B:=fun z=>[dL d z.1]) fun hp ⟨D0,f,hs,k⟩=>⟨⟨D0,f⟩,hs,hp,fun _=>none,fun _ _ _ _ hy=>(by cases hy),Hp.le_refl _,fun _ _ hx=>(by cases hx),k,trivial⟩
 exact ⟨D0,f,hs,h1.fT fun _ k=>k.1,h1⟩
theorem Sat.gJ {D0:ad} {f:Nat→Nat} (hs:j9 f D0 D) (h:Sat W0 (dL d D0::F) w):Sat W0 (ag d D::F) w:=h.head fun _ k=>⟨D0,f,hs,k⟩
theorem Sat.MA (h:Sat W0 (ag d D::F) w):D.Ok:=h.fT fun _ ⟨_,_,hs,_⟩=>hs.ok
theorem tV (hs:Sat W0 (ag d D::F) w) (hm:D.moves.length≤1099511627776) :
 Calls Tryz.prog 78 #[au d,str n] w fun x w'=>∃ ve,x=.returned ve∧Sat W0 (ag d (cN D n)::aL ve (fY D n)::F) w':=by
 obtain ⟨D0,f,h,h0,hs⟩:=hs.mW
 refine (zx (n:=n) hs (by rw [h.moves,List.length_map];exact hm)).mono ?_
 rintro _ w' ⟨ve,e,D',rfl,hc,hs⟩
 refine ⟨ve,rfl,?_⟩
 have hsome:(ax D0.now n).isSome=(ax D.now n).isSome:=by rw [h.now];cases ax D.now n<;>rfl
 have hnone:ax D0.now n=none→ax D.now n=none:=fun h1=>by rw [h.now] at h1;cases hx:ax D.now n<;>simp_all
 unfold cN fY
 rcases hc with ⟨h1,rfl,rfl⟩|⟨h1,h2,rfl,rfl⟩|⟨h1,h2,rfl,i,h3,rfl⟩
 ·rw [h.dT] at h1;rw [if_pos h1,if_pos h1]
  exact hs.gJ h.tick
 ·rw [h.dT] at h1;rw [hsome] at h2
  simp only [h1,h2,Bool.false_eq_true,if_false,if_true]
  exact hs.gJ h.tick
 ·rw [h.dT] at h1
  have h4:=hnone h2
  simp only [h1,h4,Option.isSome_none,Bool.false_eq_true,if_false]
  exact hs.gJ (h.tick.created h0.tick (by rw [Pure.ad.eg];exact h3) (by rw [Pure.ad.cP];exact h4))
theorem Hi (hs:Sat W0 (ag d D::F) w) :
 Calls Tryz.prog 160 #[au d,str n] w fun x w'=>∃ ve,x=.returned (.tuple #[.int .i64 (jM D n:Int),ve])∧Sat W0 (ag d D.tick::aL ve (bg D n)::F) w':=by
 obtain ⟨D0,f,h,h0,hs⟩:=hs.mW
 refine (E1 (n:=n) hs).mono ?_
 rintro _ w' ⟨ve,rfl,hs⟩
 rw [h.nC] at hs ⊢
 refine ⟨ve,?_,hs.gJ h.tick⟩
 unfold jM fileOf
 cases bg D n with
 | some e=>rfl
 | none=>
  simp only [h.now]
  cases hg:ax D.now n with
  | none=>rfl
  | some i=>simp only [Option.map_some,h.ot (h.has hg)]
theorem j9.xZ {f:Nat→Nat} {D0:ad} (h:j9 f D0 D) {g0 g:Nat→ad} (k:∀ i,bg D n=none→ax D.now n=some i→j9 f (g0 (f i)) (g i)):j9 f (gI D0 n g0) (gI D n g):=by
 unfold YtecibefflhomdaaGreatDoor.gI
 rw [h.nC,h.now]
 cases he:bg D n with
 | some e=>exact h.tick
 | none=>
  cases hg:ax D.now n with
  | none=>exact h.tick
  | some i=>exact k i he hg
theorem x4 (h:D.Ok) (i:Nat) (x:Bs×Nat) (hx:x.1=D.aE i):(D.laid i x).Ok:=h.laid (Nat.le_trans (Pure.ad.gR (k:=0) h (by rw [hx];rfl)) h.used)
theorem x5 (hs:Sat W0 (ag d D::F) w) :
 Calls Tryz.prog 86 #[au d,str n] w fun x w'=>∃ ve,x=.returned ve∧Sat W0 (ag d (dU D n)::aL ve (bg D n)::F) w':=by
 obtain ⟨D0,f,h,h0,hs⟩:=hs.mW
 refine (E3 (n:=n) hs).mono ?_
 rintro _ w' ⟨ve,rfl,hs⟩
 rw [h.nC] at hs
 refine ⟨ve,rfl,hs.gJ (h.xZ fun i he hg=>?_)⟩
 have hi:=h.has hg
 rw [h.ot hi]
 exact h.tick.laid (by rw [Pure.ad.eg];exact hi) _ (x4 h.ok.tick _ _ (by simp))
theorem tW (hs:Sat W0 (ag d D::F) w) (hm:D.moves.length≤1099511627776) :
 Calls Tryz.prog 77 #[au d,str n] w fun x w'=>∃ ve,x=.returned ve∧Sat W0 (ag d (fe D n)::aL ve (bg D n)::F) w':=by
 obtain ⟨D0,f,h,h0,hs⟩:=hs.mW
 refine (zy (n:=n) hs (by rw [h.moves,List.length_map];exact hm)).mono ?_
 rintro _ w' ⟨ve,rfl,hs⟩
 rw [h.nC] at hs
 exact ⟨ve,rfl,hs.gJ (h.xZ fun i he hg=>h.tick.fC h0.tick n)⟩
theorem Hj (hs:Sat W0 (ag d D::F) w) (hm:D.moves.length≤1099511627776) :
 Calls Tryz.prog 177 #[au d,str n,str m] w fun x w'=>∃ ve,x=.returned ve∧Sat W0 (ag d (fD D n m)::aL ve (bg D n)::F) w':=by
 obtain ⟨D0,f,h,h0,hs⟩:=hs.mW
 refine (zA (n:=n) (m:=m) hs (by rw [h.moves,List.length_map];exact hm)).mono ?_
 rintro _ w' ⟨ve,rfl,hs⟩
 rw [h.nC] at hs
 refine ⟨ve,rfl,hs.gJ (h.xZ fun i he hg=>?_)⟩
 by_cases hnm:n=m
 ·rw [if_pos hnm,if_pos hnm];exact h.tick
 ·rw [if_neg hnm,if_neg hnm];exact h.tick.renamed h0.tick hnm (by rw [Pure.ad.cP];exact hg)
theorem j9.zD {f:Nat→Nat} {D0:ad} (h:j9 f D0 D) (h0:D0.Ok) (n bs:Bs):dK D0 n bs=dK D n bs:=by
 unfold YtecibefflhomdaaGreatDoor.dK;rw [h.nC,h.room,h.used h0]
theorem x6 {bs:Bs} (he:dK D n bs=none):bg D n=none∧(D.used:Int)+bs.length≤D.room:=by
 unfold dK at he
 split at he
 ·cases he
 ·rename_i hf
  split at he
  ·cases he
  ·exact ⟨hf,by omega⟩
theorem tX {bs:Bs} {vb:Value} (hs:Sat W0 (ag d D::cg vb bs::F) w) :
 Calls Tryz.prog 79 #[au d,str n,vb] w fun x w'=>∃ ve,x=.returned ve∧Sat W0 (ag d (bR D n bs)::cg vb bs::aL ve (dK D n bs)::F) w':=by
 obtain ⟨D0,f,h,h0,hs⟩:=hs.mW
 refine (zB (n:=n) hs).mono ?_
 rintro _ w' ⟨ve,rfl,hs⟩
 rw [h.zD h0] at hs
 refine ⟨ve,rfl,hs.gJ (f:=f) ?_⟩
 unfold bR
 rw [h.zD h0]
 cases he:dK D n bs with
 | some e=>exact h.tick
 | none=>
  rw [h.now]
  cases hg:ax D.now n with
  | none=>exact h.tick
  | some i=>
   simp only [Option.map_some]
   have hi:=h.has hg
   rw [h.ot hi,h.JV hi]
   obtain ⟨_,hroom⟩:=x6 he
   have hr:=h.ok.room1
   refine h.tick.laid (by rw [Pure.ad.eg];exact hi) _ (h.ok.tick.laid (Nat.le_trans (Pure.ad.gR (k:=bs.length) h.ok.tick (by simp)) ?_))
   rw [Pure.ad.lK];omega
theorem E4 (hs:Sat W0 (ag d D::F) w) :
 Calls Tryz.prog 178 #[au d] w fun x w'=>∃ ve,x=.returned ve∧Sat W0 (ag d (eX D)::aL ve (if D.dT=true then some (some [],8) else none)::F) w':=by
 obtain ⟨D0,f,h,h0,hs⟩:=hs.mW
 refine (xY hs).mono ?_
 rintro _ w' ⟨ve,rfl,hs⟩
 rw [h.dT] at hs
 refine ⟨ve,rfl,hs.gJ (f:=f) ?_⟩
 unfold eX
 rw [h.dT]
 split
 ·exact h.tick
 ·exact h.tick.synced
theorem j9.Hk {f:Nat→Nat} {D0:ad} (h:j9 f D0 D) (n:Int):j9 f (counted D0 n) (counted D n):=
 ⟨h.now,h.safe,h.moves,h.nodes,h.inj,h.ns0,h.ns,h.room,h.wait,h.bad,by simp [YtecibefflhomdaaGreatDoor.counted,h.reads],by simp [YtecibefflhomdaaGreatDoor.counted,h.most],tS h.ok n⟩
theorem qd {nm:Bs} {at_ n:Int} (hs:Sat W0 (ag d D::F) w) (ha1:-9223372036854775808≤at_) (ha2:at_≤9223372036854775807) (hn1:-9223372036854775808≤n) (hn2:n≤9223372036854775807) :
 Calls Tryz.prog 161 #[au d,str nm,.int .i64 at_,.int .i64 n] w fun x w'=>∃ v ve,x=.returned (.tuple #[v,ve])∧Sat W0 (ag d (counted D n).tick::cg v (ix D nm at_ n)::aL ve (bg D nm)::F) w':=by
 obtain ⟨D0,f,h,h0,hs⟩:=hs.mW
 refine (zC (nm:=nm) hs ha1 ha2 hn1 hn2).mono ?_
 rintro _ w' ⟨v,ve,rfl,hs⟩
 rw [h.nC] at hs
 have e:Du D0 nm at_ n=ix D nm at_ n:=by
  unfold Du ix fileOf
  rw [h.nC]
  cases he:bg D nm with
  | some e=>rfl
  | none=>
   simp only [h.now]
   cases hg:ax D.now nm with
   | none=>simp [dV]
   | some i=>simp only [Option.map_some,h.ot (h.has hg)]
 rw [e] at hs
 exact ⟨v,ve,rfl,hs.gJ (h.Hk n).tick⟩
theorem wm {room:Int} (hs:Sat W0 F w) (h0:0≤room) (h1:room≤2199023255552) :
 Calls Tryz.prog 22 #[.int .i64 room] w fun x w'=>∃ d,x=.returned (au d)∧Sat W0 (ag d (dp room)::F) w':=by
 refine (p9 hs h0 h1).mono ?_
 rintro _ w' ⟨d,rfl,hs⟩
 refine ⟨d,rfl,hs.gJ (f:=id) ⟨fun n=>?_,fun n=>?_,rfl,fun i x hx=>?_,fun i j hi=>?_,?_,?_,rfl,rfl,rfl,rfl,rfl,tT h0 h1⟩⟩
 ·simp [dp,ax]
 ·simp [dp,ax]
 ·simp [dp,ax] at hx
 ·simp [dp,ax] at hi
 ·simp [dp]
 ·simp [dp]
end
end
section
open Go.Proofs.YtecibefflhomdaaGreatDoor.Pure (bz bB qT fH rY fc az aD ay cU Rd iL bu oX xF)
attribute [local irreducible] IntKind.wrap
variable {W0 w:World} {F:List ah} {v vr:Value} {bs:Bs} {r:Nat} {rd:Rd}
def vH (r:Nat) (rd:Rd):ah:=fun h=>∃ vr,cR [blk r 190 [vr,.bool rd.bad],vw vr rd.rest] h
theorem Sat.nD (h:Sat W0 (vH r rd::F) w):∃ vr,True∧Sat W0 ([blk r 190 [vr,.bool rd.bad],vw vr rd.rest]++F) w:=h.fg fun hp ⟨vr,k⟩=>⟨vr,trivial,k⟩
theorem Sat.fE (h:Sat W0 (blk r 190 [vr,.bool rd.bad]::vw vr rd.rest::F) w):Sat W0 (vH r rd::F) w:=Sat.close (B:=[blk r 190 [vr,.bool rd.bad],vw vr rd.rest]) h fun hp k=>⟨vr,k⟩
theorem mF {N:Int} (hs:Sat W0 (vH r rd::F) w) (hl:rd.rest.length≤140737488355328) (h1:-9223372036854775808≤N) (h2:N≤9223372036854775807) :
 Calls Tryz.prog 164 #[.pointer (some ⟨r,0,none⟩),.int .i64 N] w fun x w'=>∃ v',x=.returned v'∧Sat W0 (vH r (rd.bytes N).2::vw v' (rd.bytes N).1::F) w':=by
 obtain ⟨vr,-,hs⟩:=hs.nD
 dsimp only [List.cons_append,List.nil_append] at hs
 obtain ⟨rs,bad⟩:=rd
 dsimp only at hs hl
 obtain ⟨a,c,rfl,hc⟩:=(hs.take (.there .here)).ft
 refine enter Tryz.func164 rfl Tryz.ntmps164 Tryz.results164 rfl ?_
 by_cases hbad:(bad=true∨N<0∨(rs.length:Int)<N)
 ·have hp:Rd.bytes ⟨rs,bad⟩ N=([],⟨rs,true⟩):=by unfold Rd.bytes;rw [if_pos hbad]
  rw [hp]
  have fin:∀ w,Sat W0 (blk r 190 [.slice a rs.length c,.bool true]::vw (.slice a rs.length c) rs::F) w→∃ v',Ending.returned (tn [.slice none 0 0])=.returned v'∧Sat W0 (vH r ⟨rs,true⟩::vw v' []::F) w:=fun w hs=>
   ⟨_,rfl,Sat.fE (rd:=⟨rs,true⟩) ((hs.oG (.inl rfl) (fun _=>rfl)).to)⟩
  by_cases hb:bad=true
  ·subst hb
   refine go ?_
   refine bI hs fun w hs=>?_
   refine go ?_
   exact ak rfl (fin _ hs)
  ·have hb':bad=false:=by simpa using hb
   subst hb'
   by_cases hn:N<0
   ·refine go ?_
    refine bI hs fun w hs=>?_
    refine go ?_
    exact ak rfl (fin _ hs)
   ·have hn2:(rs.length:Int)<N:=by simp at hbad;omega
    refine go ?_
    refine bI hs fun w hs=>?_
    refine go ?_
    exact ak rfl (fin _ hs)
 ·have hp:Rd.bytes ⟨rs,bad⟩ N=(rs.take N.toNat,⟨rs.drop N.toNat,false⟩):=by unfold Rd.bytes;rw [if_neg hbad]
  rw [hp]
  simp only [not_or] at hbad
  obtain ⟨hb,hn,hn2⟩:=hbad
  have hb':bad=false:=by simpa using hb
  subst hb'
  have hn3:¬ N > (rs.length:Int):=hn2
  refine go ?_
  refine Lp (m:=N.toNat) hs (.there .here) rfl rfl (by omega) (by omega) rfl fun v1 hs=>?_
  refine go ?_
  refine Lq (m:=N.toNat) hs (.there (.there .here)) rfl rfl (by omega) (by omega) rfl fun v2 hs=>?_
  refine go ?_
  obtain ⟨a2,c2,rfl,-⟩:=hs.ft
  refine bI hs fun w hs=>?_
  refine go ?_
  exact ak rfl ⟨_,rfl,Sat.fE (rd:=⟨rs.drop N.toNat,false⟩) hs.to⟩
theorem eS {K:Nat} (hs:Sat W0 (vH r rd::F) w) (hl:rd.rest.length≤140737488355328) (hK:K≤8) :
 Calls Tryz.prog 93 #[.pointer (some ⟨r,0,none⟩),.int .i64 (K:Int)] w fun x w'=>x=.returned (.int .u64 ((rd.num K).1:Int))∧Sat W0 (vH r (rd.num K).2::F) w':=by
 refine enter Tryz.func93 rfl Tryz.ntmps93 Tryz.results93 rfl ?_
 refine go ?_
 refine ae (met (mF (N:=(K:Int)) hs hl (by omega) (by omega)) ?_)
 rintro _ w ⟨v,rfl,hs⟩
 refine ⟨v,rfl,?_⟩
 have hbl:=Rd.j6 rd (K:Int)
 have hfin:iL (rd.bytes (K:Int)).1=(rd.num K).1:=rfl
 have hfin2:(rd.bytes (K:Int)).2=(rd.num K).2:=rfl
 generalize hbs:(rd.bytes (K:Int)).1=bs at hs hbl hfin
 rw [hfin2] at hs
 rw [← hfin]
 obtain ⟨a,c,rfl,hc⟩:=(hs.take (.there .here)).ft
 refine go ?_
 refine aK (α:=Nat×Nat) (fun z=>[(5,.int .u64 (z.2:Int)),(10,.slice a bs.length c),(11,.int .i64 (bs.length:Int)),(12,.int .i64 (z.1:Int))])
  (fun z w=>z.1≤bs.length∧z.2=iL (bs.take z.1)∧Sat W0 (vH r (rd.num K).2::vw (.slice a bs.length c) bs::F) w) (fun z=>bs.length-z.1) (0,0) ⟨rfl,rfl,rfl,rfl,trivial⟩ ⟨Nat.zero_le _,rfl,hs⟩ ?_
 clear hs
 rintro ⟨i,m⟩ w ⟨hi,hm,hs⟩
 dsimp only at hi hm hs ⊢
 have hml:m<256^i:=by rw [hm];have:=xF (bs.take i);rwa [List.length_take,Nat.min_eq_left hi] at this
 by_cases hlt:i<bs.length
 ·have hi8:i<8:=by omega
  have hml2:m<72057594037927936:=Nat.lt_of_lt_of_le hml (Nat.le_trans (Nat.pow_le_pow_right (by decide) (show i≤7 by omega)) (by decide))
  obtain ⟨z,⟨hv,hzc,hcell⟩,hs2⟩:=(hs.take (.there .here)).q5 (by intro h;subst h;simp at hlt)
  obtain ⟨rfl,rfl⟩:a=some ⟨z.b,z.o,none⟩∧c=z.c:=by simpa using hv
  have hbyte:=(bs[i]).toNat_lt
  have hc1:z.all[z.o+i*1]?=some (bV bs[i]):=by rw [Nat.mul_one];exact hcell i _ (by simp [hlt])
  refine go ?_
  refine cK (i:=i) rfl rfl rfl rfl rfl hlt rfl ?_
  refine eE hs2 rfl rfl .here hc1 rfl ?_
  refine go ?_
  have e1:(IntKind.u64.wrap ((m*2^8:Nat):Int))=((m*256:Nat):Int):=IntWalk.u64_in _ (by omega)
  refine G1 (N:=m) (m:=8) rfl rfl rfl (by decide) e1 rfl ?_
  refine go ?_
  refine pM (N:=m*256) (M:=(bs[i]).toNat) (R:=m*256+(bs[i]).toNat) (k:=.u64) rfl rfl rfl (by simp only [IntKind.bits];omega) (by simp only [IntKind.bits];omega) ?_ rfl ?_
  ·simp only [Ll]
   congr 1
   have:=Nat.two_pow_add_eq_or_of_lt (i:=8) hbyte m
   rw [Nat.mul_comm m 256];exact this.symm
  refine go ?_
  refine aA (i+1,m*256+(bs[i]).toNat) ⟨rfl,rfl,rfl,rfl,trivial⟩ ⟨by omega,?_,hs⟩ (by simp;omega)
  dsimp only
  rw [List.take_succ_eq_append_getElem hlt,oX,← hm]
 ·have:i=bs.length:=by omega
  subst this
  refine go ?_
  exact ak rfl ⟨by rw [hm,List.take_length];rfl,hs.to⟩
end
section
open Go.Proofs.YtecibefflhomdaaGreatDoor.Pure (bz bB qT fH rY fc az aD ay cU Rd iL bu oX xF)
attribute [local irreducible] IntKind.wrap
variable {W0 w:World} {F:List ah} {v vr:Value} {bs:Bs} {r:Nat} {rd:Rd}
theorem gK (hs:Sat W0 (vH r rd::F) w) (hl:rd.rest.length≤140737488355328) :
 Calls Tryz.prog 94 #[.pointer (some ⟨r,0,none⟩)] w fun x w'=>x=.returned (str rd.text.1)∧Sat W0 (vH r rd.text.2::F) w':=by
 have h1:=rd.ku 1
 have h2:=rd.cX 1
 refine enter Tryz.func94 rfl Tryz.ntmps94 Tryz.results94 rfl ?_
 refine go ?_
 refine ae (met (eS (K:=1) hs hl (by omega)) ?_)
 rintro _ w ⟨rfl,hs⟩
 refine ⟨_,rfl,go ?_⟩
 refine ae (met (mF (N:=((rd.num 1).1:Int)) hs (by omega) (by omega) (by omega)) ?_)
 rintro _ w ⟨v,rfl,hs⟩
 refine ⟨v,rfl,go ?_⟩
 refine JN hs (.there .here) rfl rfl ?_
 refine go ?_
 exact ak rfl ⟨rfl,hs.to⟩
theorem fX.all (vs:List Value):fX vs 0 vs:=by
 have key:∀ (vs pre:List Value),fX (pre++vs) pre.length vs:=by
  intro vs
  induction vs with
  | nil=>intro _;trivial
  | cons v r ih=>intro pre;exact ⟨by simp,by have:=ih (pre++[v]);simpa using this⟩
 exact key vs []
theorem tY (hs:Sat W0 (vH r rd::F) w) (hl:rd.rest.length≤140737488355328) :
 Calls Tryz.prog 167 #[.pointer (some ⟨r,0,none⟩)] w fun x w'=>x=.returned (.agg (aF rd.entry.1).toArray)∧Sat W0 (vH r rd.entry.2::F) w':=by
 have h1:=rd.iv
 have h2:=rd.text.2.cX 8
 refine enter Tryz.func167 rfl Tryz.ntmps167 Tryz.results167 rfl ?_
 refine go ?_
 refine aW hs fun w b2 hs=>?_
 refine go ?_
 refine ae (met (gK (hs.take (.there .here)) hl) ?_)
 rintro _ w ⟨rfl,hs⟩
 refine ⟨_,rfl,go ?_⟩
 refine ae (met (eS (K:=8) hs (by omega) (by omega)) ?_)
 rintro _ w ⟨rfl,hs⟩
 refine ⟨_,rfl,go ?_⟩
 refine bw [str rd.text.1,str [],.bool false,.int .u64 ((rd.text.2.num 8).1:Int)] ?_
 refine aW hs fun w b3 hs=>?_
 refine cV hs fun w hs=>?_
 have he:rd.entry=if (rd.text.2.num 8).2.rest.head?=some 255 then (⟨rd.text.1,[],true,(rd.text.2.num 8).1⟩,((rd.text.2.num 8).2.bytes 1).2)
  else (⟨rd.text.1,(rd.text.2.num 8).2.text.1,false,(rd.text.2.num 8).1⟩,(rd.text.2.num 8).2.text.2):=rfl
 rw [he]
 clear he
 generalize rd.text.1=key at *
 generalize (rd.text.2.num 8).1=seq at *
 generalize (rd.text.2.num 8).2=r1 at *
 have hl1:r1.rest.length≤140737488355328:=by omega
 obtain ⟨vr,-,hs⟩:=(hs.take (.there .here)).nD
 dsimp only [List.cons_append,List.nil_append] at hs
 obtain ⟨rs,bad⟩:=r1
 dsimp only at hs hl1 ⊢
 obtain ⟨a,c,rfl,hc⟩:=(hs.take (.there .here)).ft
 by_cases hp:(rs.length:Int) > 0
 ·obtain ⟨z,⟨hv,hzc,hcell⟩,hs2⟩:=(hs.take (.there .here)).q5 (by intro h;subst h;simp at hp)
  obtain ⟨rfl,rfl⟩:a=some ⟨z.b,z.o,none⟩∧c=z.c:=by simpa using hv
  have hp':0<rs.length:=by omega
  have hbyte:=(rs[0]).toNat_lt
  have hc1:z.all[z.o+0*1]?=some (bV rs[0]):=hcell 0 _ (by simp [hp'])
  have hh:rs.head?=some rs[0]:=by rw [List.head?_eq_getElem?,List.getElem?_eq_getElem hp']
  refine go ?_
  refine cK (i:=0) rfl rfl rfl rfl rfl hp' rfl ?_
  refine tq rfl ?_
  refine eE hs2 rfl rfl .here hc1 rfl ?_
  by_cases h255:((rs[0]).toNat:Int)=255
  ·have h255':rs.head?=some 255:=by rw [hh];congr 1;apply UInt8.toNat_inj.1;show (rs[0]).toNat=255;omega
   rw [if_pos h255']
   refine go ?_
   refine ae (met (mF (rd:=⟨rs,bad⟩) (N:=1) (Sat.fE (rd:=⟨rs,bad⟩) hs.to) hl1 (by omega) (by omega)) ?_)
   rintro _ w ⟨v,rfl,hs⟩
   refine ⟨_,rfl,go ?_⟩
   refine bI hs fun w hs=>?_
   refine go ?_
   refine cV hs fun w hs=>?_
   refine go ?_
   exact dX ⟨_,_,b2,0,rfl,rfl,fh _ hs (.there (.there (.there .here))) rfl rfl (fX.all _),rfl⟩ ⟨rfl,hs.to⟩
  ·have h255':rs.head?≠some 255:=by rw [hh];intro h;simp only [Option.some.injEq] at h;exact h255 (by rw [h];rfl)
   rw [if_neg h255']
   refine go ?_
   refine ae (met (gK (rd:=⟨rs,bad⟩) (Sat.fE (rd:=⟨rs,bad⟩) hs.to) hl1) ?_)
   rintro _ w ⟨rfl,hs⟩
   refine ⟨_,rfl,go ?_⟩
   refine bI hs fun w hs=>?_
   refine go ?_
   refine cV hs fun w hs=>?_
   refine go ?_
   exact dX ⟨_,_,b2,0,rfl,rfl,fh _ hs (.there (.there .here)) rfl rfl (fX.all _),rfl⟩ ⟨rfl,hs.to⟩
 ·have h255':rs.head?≠some 255:=by rw [show rs=[] from List.eq_nil_of_length_eq_zero (by omega)];simp
  rw [if_neg h255']
  refine go ?_
  refine ae (met (gK (rd:=⟨rs,bad⟩) (Sat.fE (rd:=⟨rs,bad⟩) hs.to) hl1) ?_)
  rintro _ w ⟨rfl,hs⟩
  refine ⟨_,rfl,go ?_⟩
  refine bI hs fun w hs=>?_
  refine go ?_
  refine cV hs fun w hs=>?_
  refine go ?_
  exact dX ⟨_,_,b2,0,rfl,rfl,fh _ hs (.there (.there .here)) rfl rfl (fX.all _),rfl⟩ ⟨rfl,hs.to⟩
theorem Lu (hs:Sat W0 (vw v bs::F) w) (hb:bs.length≤140737488355328) :
 Calls Tryz.prog 165 #[v] w fun x w'=>x=.returned (.int .u32 (qT bs:Nat))∧Sat W0 (vw v bs::F) w':=by
 obtain ⟨l',hr,hs',hk⟩:=hs.NT .here
 exact (zh hs' hr hb).mono fun x w' h=>⟨h.1,hk _ h.2⟩
theorem lQ (hs:Sat W0 (vw v bs::F) w) (hl:bs.length≤140737488355328) :
 Calls Tryz.prog 91 #[v] w fun x w'=>∃ v1 v2,x=.returned (.tuple #[v1,v2,.bool (bu bs).isSome]) ∧
  Sat W0 (vw v1 (match bu bs with|some z=>z.1|none=>[])::vw v2 (match bu bs with|some z=>z.2|none=>bs)::F) w':=by
 obtain ⟨a,c,rfl,hc⟩:=hs.ft
 refine enter Tryz.func91 rfl Tryz.ntmps91 Tryz.results91 rfl ?_
 have hs0:Sat W0 (vw (.slice a bs.length c) bs::vw (.slice a bs.length c) bs::F) w:=hs.zj fun _=>G5
 refine go ?_
 refine bw [.slice a bs.length c,.bool false] ?_
 refine cC hs0 fun w r hs=>?_
 have hs:=Sat.fE (rd:=⟨bs,false⟩) hs
 have b1:(Rd.num ⟨bs,false⟩ 4).2.rest.length≤bs.length:=Rd.cX ⟨bs,false⟩ 4
 have b2:=(Rd.num ⟨bs,false⟩ 4).2.cX 4
 have b3:=((Rd.num ⟨bs,false⟩ 4).2.num 4).2.cX 4
 have n1:=Rd.ku ⟨bs,false⟩ 4
 have n2:=(Rd.num ⟨bs,false⟩ 4).2.ku 4
 have n3:=((Rd.num ⟨bs,false⟩ 4).2.num 4).2.ku 4
 refine go ?_
 refine ae (met (eS (K:=4) hs hl (by omega)) ?_)
 rintro _ w ⟨rfl,hs⟩
 refine ⟨_,rfl,go ?_⟩
 refine ae (met (eS (K:=4) hs (by omega) (by omega)) ?_)
 rintro _ w ⟨rfl,hs⟩
 refine ⟨_,rfl,go ?_⟩
 refine ae (met (eS (K:=4) hs (by omega) (by omega)) ?_)
 rintro _ w ⟨rfl,hz⟩
 refine ⟨_,rfl,?_⟩
 clear hs hs0
 have ho:bu bs=(let n:=Rd.num ⟨bs,false⟩ 4
  let t:=n.2.num 4
  let s:=t.2.num 4
  if n.1≠4294967295-t.1 then none else
  let i:=s.2.bytes (n.1:Int)
  if i.2.bad=true∨qT i.1≠s.1 then none else some (i.1,i.2.rest)):=rfl
 dsimp only at ho
 have b4:=(((Rd.num ⟨bs,false⟩ 4).2.num 4).2.num 4).2.gG ((Rd.num ⟨bs,false⟩ 4).1:Int)
 have b5:=(((Rd.num ⟨bs,false⟩ 4).2.num 4).2.num 4).2.j6 ((Rd.num ⟨bs,false⟩ 4).1:Int)
 generalize (((Rd.num ⟨bs,false⟩ 4).2.num 4).2.num 4).1=s at *
 generalize (((Rd.num ⟨bs,false⟩ 4).2.num 4).2.num 4).2=r3 at *
 generalize ((Rd.num ⟨bs,false⟩ 4).2.num 4).1=t at *
 generalize ((Rd.num ⟨bs,false⟩ 4).2.num 4).2=r2 at *
 generalize (Rd.num ⟨bs,false⟩ 4).1=n at *
 generalize (Rd.num ⟨bs,false⟩ 4).2=r1 at *
 refine go ?_
 refine tC (N:=t) rfl (by omega) rfl ?_
 by_cases hn:(n:Int)=((4294967295-t:Nat):Int)
 ·have hn':¬ n≠4294967295-t:=by omega
  have hnn:¬ (n:Int)≠((4294967295-t:Nat):Int):=by omega
  rw [if_neg hn'] at ho
  refine go ?_
  refine ae (met (mF (N:=(n:Int)) hz (by omega) (by omega) (by omega)) ?_)
  rintro _ w ⟨v1,rfl,hs⟩
  refine ⟨_,rfl,?_⟩
  generalize r3.bytes (n:Int)=q at *
  obtain ⟨i,r4,bad⟩:=q
  dsimp only at ho b4 b5 hs
  obtain ⟨a1,c1,rfl,hc1⟩:=(hs.take (.there .here)).ft
  obtain ⟨vr,-,hs⟩:=hs.nD
  dsimp only [List.cons_append,List.nil_append] at hs
  have hcrc:=Pure.xE i
  cases bad with
  | true=>
   rw [if_pos (.inl rfl)] at ho
   rw [ho]
   refine go ?_
   exact ak rfl ⟨_,_,rfl,(hs.oG (.inl rfl) (fun _=>rfl)).to⟩
  | false=>
   refine go ?_
   refine ae (met (Lu (hs.take (.there (.there .here))) (by omega)) ?_)
   rintro _ w ⟨rfl,hs⟩
   refine ⟨_,rfl,?_⟩
   by_cases hs2:((qT i:Nat):Int)=(s:Int)
   ·have hss:¬ ((qT i:Nat):Int)≠(s:Int):=by omega
    rw [if_neg (by simp;omega)] at ho
    rw [ho]
    refine go ?_
    refine bM [blk r 190 [vr,.bool false]] [(0,false),(1,false),(2,false),(3,false),(4,false),(5,false),(6,false),(7,false)] hs.to (by kernel_rfl) fun w hs=>?_
    refine go ?_
    exact ak rfl ⟨_,_,rfl,hs.to⟩
   ·have hss:((qT i:Nat):Int)≠(s:Int):=hs2
    rw [if_pos (by simp;omega)] at ho
    rw [ho]
    refine go ?_
    exact ak rfl ⟨_,_,rfl,(hs.oG (.inl rfl) (fun _=>rfl)).to⟩
 ·have hn':n≠4294967295-t:=by omega
  have hnn:(n:Int)≠((4294967295-t:Nat):Int):=hn
  rw [if_pos hn'] at ho
  rw [ho]
  refine go ?_
  exact ak rfl ⟨_,_,rfl,(hz.oG (.inl rfl) (fun _=>rfl)).to⟩
end
end Go.Proofs.YtecibefflhomdaaGreatDoor
