/-
  Part 11: WALKS package api; THE DISK, ABSTRACTLY files by numbers of their own; WALKS package codec.
-/
import Derived.Test.YtecibefflhomdaaGreatDoorV10
set_option maxHeartbeats 8000000
set_option maxRecDepth 100000
set_option linter.all false
namespace Go.Proofs.YtecibefflhomdaaGreatDoor
open Go
section
open Go.Proofs.YtecibefflhomdaaGreatDoor.Pure (ae aD cz dI fG)
attribute [local irreducible] IntKind.wrap
variable {W0 w:World} {F l:List ax} {v:Value} {d:Nat} {D:ae} {bs:Bs}
theorem xU {α β γ:Type} (f:α→β→γ):∀ {xs:List α} {ys:List β} {i:Nat} {x:α} {y:β},xs[i]?=some x→ys[i]?=some y→∃ B C,List.zipWith f xs ys=B++f x y::C
 | a::xs,b::ys,0,x,y,hx,hy=>by simp at hx hy;subst hx;subst hy;exact ⟨[],_,rfl⟩
 | a::xs,b::ys,i+1,x,y,hx,hy=>by
  simp at hx hy
  obtain ⟨B,C,h⟩:=xU f hx hy
  exact ⟨f a b::B,C,by simp [h]⟩
theorem zE (hs:Sat W0 (eB d D::F) w) :
 Calls Tryz.prog 178 #[ay d] w fun x w'=>∃ ve,x=.returned ve∧Sat W0 (eB d (fj D)::aH ve (if D.eh=true then some (some [],8) else none)::F) w':=by
 refine enter Tryz.func178 rfl Tryz.ntmps178 Tryz.results178 rfl ?_
 refine go ?_
 refine ag (met (pU hs) ?_)
 rintro _ w ⟨rfl,hs⟩
 refine ⟨_,rfl,?_⟩
 unfold fj
 cases ht:D.eh with
 | true=>
  refine go ?_
  refine bz [str [],.int .i64 8] ?_
  refine bR hs fun w b hs=>?_
  refine go ?_
  exact ah rfl ⟨_,rfl,(hs.pT (s:=[])).to⟩
 | false=>
  obtain ⟨hok,z,hs⟩:=hs.fp
  dsimp only [gd,aX,List.cons_append,List.nil_append] at hs
  obtain ⟨vs,hvs,hs⟩:=(hs.take (.there (.there (.there .here)))).xT
  dsimp only [List.cons_append,List.nil_append] at hs
  obtain ⟨a,c,hmv,hc⟩:=hs.aC
  have hc2:D.tick.moves.length≤9223372036854775807:=by have:=hc.1;have:=hc.2;simp only [maxLen] at this;omega
  have hsh:=hok.short
  have hok':=hok.synced
  generalize hD:D.tick=E at *
  refine go ?_
  rw [hmv]
  refine go ?_
  refine aJ (α:=Nat) (fun i=>[(0,ay d),(13,.slice a E.moves.length c),(14,.int .i64 (E.moves.length:Int)),(15,.int .i64 (i:Int))])
   (fun i w=>i≤E.moves.length∧Sat W0 (aL 1 (.slice a E.moves.length c) 143 E.moves.length vs::star (List.zipWith Ba vs E.moves)::blk d 111 (aX z E)::aM cS z.bn (aW E.now)::aM cS z.bs (aW ((E.moves.take i).foldl fG E.safe))::star (E.nodes.map dX)::F) w) (fun i=>E.moves.length-i) 0 ⟨rfl,rfl,rfl,rfl,trivial⟩ ⟨Nat.zero_le _,by rw [← hmv];exact hs⟩ ?_
  clear hs
  rintro i w ⟨hi,hs⟩
  by_cases hlt:i<E.moves.length
  ·have hgm:E.moves[i]?=some E.moves[i]:=List.getElem?_eq_getElem hlt
   have hgv:vs[i]?=some vs[i]:=List.getElem?_eq_getElem (by omega)
   have hshort:=hsh _ (List.getElem_mem hlt)
   have hfold:(E.moves.take (i+1)).foldl fG E.safe=fG ((E.moves.take i).foldl fG E.safe) E.moves[i]:=by
    rw [List.take_succ_eq_append_getElem hlt,List.foldl_append];rfl
   generalize E.moves[i]=m at *
   generalize vs[i]=v at *
   obtain ⟨B,C,hz⟩:=xU Ba hgv hgm
   obtain ⟨b,cap,rs,hv,q1,q2,q3,hs2⟩:=hs.dw (by omega)
   simp only [Value.slice.injEq] at hv
   obtain ⟨rfl,_,rfl⟩:=hv
   have hcell:(vs++rs)[0+i*1]?=some v:=by rw [Nat.zero_add,Nat.mul_one,List.getElem?_append_left (by omega)];exact hgv
   refine go ?_
   refine cN (i:=i) rfl rfl rfl rfl rfl hlt rfl ?_
   refine eF hs2 rfl rfl .here hcell rfl ?_
   rw [hz] at hs
   have h3:=(hs.take (.there .here)).eU
   refine go ?_
   refine ag (met (Bb (m:=z.bs) (kvs:=(E.moves.take i).foldl fG E.safe) (mvs:=m) (v:=v) (F:=star (B++C)::aL 1 (.slice (some ⟨b,0,none⟩) E.moves.length c) 143 E.moves.length vs::blk d 111 (aX z E)::aM cS z.bn (aW E.now)::star (E.nodes.map dX)::F) h3.to hshort) ?_)
   rintro _ w ⟨rfl,hs⟩
   refine ⟨_,rfl,go ?_⟩
   refine az (i+1) ⟨rfl,rfl,rfl,rfl,trivial⟩ ⟨hlt,?_⟩ (by omega)
   have h4:=(hs.fg (.there .here) (.there .here)).eY
   rw [← hz] at h4
   rw [hfold]
   exact h4.to
  ·have:i=E.moves.length:=by omega
   subst this
   rw [List.take_length] at hs
   refine go ?_
   refine bK hs fun w hs=>?_
   refine go ?_
   have h5:Sat W0 (eX (.slice none 0 0) []::blk d 111 ((aX z E).set (0+2) (.slice none 0 0))::aM cS z.bn (aW E.now)::aM cS z.bs (aW (E.moves.foldl fG E.safe))::star (E.nodes.map dX)::F) w:=
    Sat.pV (vs:=[]) rfl (hs.drop.drop.oW.cH)
   exact ah rfl ⟨_,rfl,Sat.db (z:=⟨z.bn,z.bs,.slice none 0 0⟩) hok' (h5.ej.to)⟩
theorem pW {room:Int} (h0:0≤room) (h1:room≤2199023255552):(dm room).Ok:=
 ⟨fun p hp=>by simp [dm] at hp,fun p hp=>by simp [dm] at hp,fun l hl=>by simp [dm] at hl,by simp [dm],by simp [dm],h0,h1,by simp [dm],by simp [dm],by simp [dm],by simp [dm],by simp [dm,ae.used],fun l hl=>by simp [dm] at hl⟩
theorem qE {room:Int} (hs:Sat W0 F w) (h0:0≤room) (h1:room≤2199023255552) :
 Calls Tryz.prog 22 #[.int .i64 room] w fun x w'=>∃ d,x=.returned (ay d)∧Sat W0 (eB d (dm room)::F) w':=by
 refine enter Tryz.func22 rfl Tryz.ntmps22 Tryz.results22 rfl ?_
 refine go ?_
 refine mQ hs rfl fun w m1 hs=>?_
 refine mQ (hs.zs cS) rfl fun w m2 hs=>?_
 refine go ?_
 refine bz [.map (some m1),.map (some m2),.slice none 0 0,.int .i64 room,.int .i64 0,.int .i64 0,.int .i64 0,.int .i64 0] ?_
 refine bR (hs.zs cS) fun w d hs=>?_
 refine go ?_
 refine ah rfl ⟨d,rfl,Sat.db (z:=⟨m1,m2,.slice none 0 0⟩) (pW h0 h1) ?_⟩
 have h5:Sat W0 (eX (.slice none 0 0) []::star ((dm room).nodes.map dX)::_) w:=Sat.pV (vs:=[]) rfl (Sat.cH (Sat.oW (Sat.oW hs)))
 exact h5.to
theorem Bj (hs:Sat W0 (eB d D::F) w) :
 Calls Tryz.prog 68 #[ay d] w fun x w'=>x=.returned (.tuple #[.int .i64 D.reads,.int .i64 D.most])∧Sat W0 (eB d (uncounted D)::F) w':=by
 obtain ⟨hok,z,hs⟩:=hs.fp
 have hok':(uncounted D).Ok:=⟨hok.now,hok.safe,hok.moves,hok.names,hok.ids,hok.room0,hok.room1,hok.wait0,hok.wait1,hok.bad0,hok.bad1,hok.used,hok.short⟩
 dsimp only [gd,aX,List.cons_append,List.nil_append] at hs
 refine enter Tryz.func68 rfl Tryz.ntmps68 Tryz.results68 rfl ?_
 refine go ?_
 refine bO [blk d 111 (aX z D)] [(0,false),(1,false),(2,false),(3,false),(4,false),(5,false),(6,false),(7,false),(8,false),(9,false)] hs.to (by kernel_rfl) fun w hs=>?_
 refine go ?_
 refine bK hs fun w hs=>?_
 refine go ?_
 refine bK hs fun w hs=>?_
 refine go ?_
 exact ah rfl ⟨rfl,Sat.db (z:=z) hok' hs.to⟩
end
section
open Go.Proofs.YtecibefflhomdaaGreatDoor.Pure (ae aD cz dI fG cW gZ dh jJ iu di cB)
structure kF (f:Nat→Nat) (D0 D:ae):Prop where
 now:∀ n,aD D0.now n=(aD D.now n).map f
 safe:∀ n,aD D0.safe n=(aD D.safe n).map f
 moves:D0.moves=D.moves.map (List.map fun p=>(p.1,p.2.map f))
 nodes:∀ i x,aD D.nodes i=some x→aD D0.nodes (f i)=some x
 inj:∀ i j,(aD D.nodes i).isSome=true→(aD D.nodes j).isSome=true→f i=f j→i=j
 ns0:(D0.safe.map (·.1)).Nodup
 ns:(D.safe.map (·.1)).Nodup
 room:D0.room=D.room
 wait:D0.wait=D.wait
 bad:D0.bad=D.bad
 reads:D0.reads=D.reads
 most:D0.most=D.most
 ok:D.Ok
def aj (d:Nat) (D:ae):ax:=fun h=>∃ D0 f,kF f D0 D∧eB d D0 h
section
variable {f:Nat→Nat} {D0 D:ae} {n:Bs}
theorem kF.eh (h:kF f D0 D):D0.eh=D.eh:=by unfold ae.eh;rw [h.wait,h.bad]
theorem kF.tick (h:kF f D0 D):kF f D0.tick D.tick:=by
 have h1:D0.tick.wait=D.tick.wait:=by unfold ae.tick;rw [h.wait,h.bad];split<;>(try split)<;>simp [h.wait,h.bad]
 have h2:D0.tick.bad=D.tick.bad:=by unfold ae.tick;rw [h.wait,h.bad];split<;>(try split)<;>simp [h.wait,h.bad]
 refine ⟨?_,?_,?_,?_,?_,?_,?_,?_,h1,h2,?_,?_,h.ok.tick⟩<;>simp only [Pure.ae.cX,Pure.ae.Hc,Pure.ae.jK,Pure.ae.ep,Pure.ae.eL,Pure.ae.uU,Pure.ae.xK]
 ·exact h.now
 ·exact h.safe
 ·exact h.moves
 ·exact h.nodes
 ·exact h.inj
 ·exact h.ns0
 ·exact h.ns
 ·exact h.room
 ·exact h.reads
 ·exact h.most
theorem kF.n6 (h:kF f D0 D) (n:Bs):bx D0 n=bx D n:=by
 unfold YtecibefflhomdaaGreatDoor.bx
 rw [h.eh,h.now n]
 cases aD D.now n<;>rfl
theorem kF.oX (h:kF f D0 D) {i:Nat} (hi:(aD D.nodes i).isSome=true):D0.aK (f i)=D.aK i:=by
 obtain ⟨x,hx⟩:=Option.isSome_iff_exists.1 hi
 unfold ae.aK;rw [hx,h.nodes i x hx]
theorem kF.MA (h:kF f D0 D) {i:Nat} (hi:(aD D.nodes i).isSome=true):mX D0 (f i)=mX D i:=by
 obtain ⟨x,hx⟩:=Option.isSome_iff_exists.1 hi
 unfold YtecibefflhomdaaGreatDoor.mX;rw [hx,h.nodes i x hx]
theorem kF.has (h:kF f D0 D) {i:Nat} (hi:aD D.now n=some i):(aD D.nodes i).isSome=true:=h.ok.now _ (dh hi)
theorem zF {κ α:Type} [DecidableEq κ] {a b:List (κ×α)} (ha:(a.map (·.1)).Nodup) (hb:(b.map (·.1)).Nodup) (h:∀ x,aD a x=aD b x):a.Perm b:=by
 have na:a.Nodup:=List.Pairwise.of_map _ (fun x y hxy e=>hxy (by rw [e])) ha
 have nb:b.Nodup:=List.Pairwise.of_map _ (fun x y hxy e=>hxy (by rw [e])) hb
 refine (List.perm_ext_iff_of_nodup na nb).2 fun p=>?_
 obtain ⟨k,v⟩:=p
 constructor
 ·intro hp;have:=di ha hp;rw [h] at this;exact dh this
 ·intro hp;have:=di hb hp;rw [← h] at this;exact dh this
theorem vh {κ α β:Type} [DecidableEq κ] (g:α→β):∀ (l:List (κ×α)) (x:κ),aD (l.map fun p=>(p.1,g p.2)) x=(aD l x).map g
 | [],_=>rfl
 | (k,v)::r,x=>by
  simp only [List.map_cons,aD]
  by_cases h:x=k
  ·simp [h]
  ·simp [h,vh g r x]
theorem kF.perm (h:kF f D0 D) (h0:D0.Ok):D0.now.Perm (D.now.map fun p=>(p.1,f p.2)):=by
 refine zF h0.names ?_ fun x=>by rw [h.now,vh]
 rw [List.map_map];exact h.ok.names
theorem kF.used (h:kF f D0 D) (h0:D0.Ok):D0.used=D.used:=by
 unfold ae.used
 rw [((h.perm h0).map fun p=>(D0.aK p.2).length).sum_nat,List.map_map]
 congr 1
 exact List.map_congr_left fun p hp=>by simp only [Function.comp];rw [h.oX (h.ok.now p hp)]
theorem oY {f:Nat→Nat}:∀ (l:List (Bs×Option Nat)) (m0 m:List (Bs×Nat)),(m0.map (·.1)).Nodup→(m.map (·.1)).Nodup→(∀ n,aD m0 n=(aD m n).map f) →
 (∀ n,aD (fG m0 (l.map fun p=>(p.1,p.2.map f))) n=(aD (fG m l) n).map f)∧((fG m0 (l.map fun p=>(p.1,p.2.map f))).map (·.1)).Nodup∧((fG m l).map (·.1)).Nodup
 | [],m0,m,h0,h1,h=>⟨h,h0,h1⟩
 | (k,none)::l,m0,m,h0,h1,h=>oY l (dI m0 k) (dI m k) (iu h0 k) (iu h1 k) fun n=>by
  rw [gZ _ _ h0,gZ _ _ h1,h n];split<;>rfl
 | (k,some i)::l,m0,m,h0,h1,h=>oY l (cz m0 k (f i)) (cz m k i) (jJ h0 k _) (jJ h1 k _) fun n=>by
  rw [cW,cW,h n];split<;>rfl
theorem kF.JO (h:kF f D0 D) (h0:D0.Ok) (l:List (Bs×Option Nat)) (hok:(named D l).Ok):kF f (named D0 (l.map fun p=>(p.1,p.2.map f))) (named D l):=by
 have:=oY (f:=f) l D0.now D.now h0.names h.ok.names h.now
 exact ⟨this.1,h.safe,by simp [YtecibefflhomdaaGreatDoor.named,h.moves],h.nodes,h.inj,h.ns0,h.ns,h.room,h.wait,h.bad,h.reads,h.most,hok⟩
theorem kF.fV (h:kF f D0 D) (h0:D0.Ok) (n:Bs):kF f (D0.fV n) (D.fV n):=h.JO h0 [(n,none)] (h.ok.fV n)
theorem kF.renamed (h:kF f D0 D) (h0:D0.Ok) {a b:Bs} {i:Nat} (hab:a≠b) (ha:aD D.now a=some i):kF f (D0.renamed a b (f i)) (D.renamed a b i):=h.JO h0 [(b,some i),(a,none)] (h.ok.renamed hab ha)
theorem kF.laid (h:kF f D0 D) {i:Nat} (hi:(aD D.nodes i).isSome=true) (x:Bs×Nat) (hok:(D.laid i x).Ok):kF f (D0.laid (f i) x) (D.laid i x):=by
 refine ⟨h.now,h.safe,h.moves,fun j y hy=>?_,fun j k hj hk=>?_,h.ns0,h.ns,h.room,h.wait,h.bad,h.reads,h.most,hok⟩
 ·simp only [ae.laid,cW] at hy ⊢
  by_cases hj:j=i
  ·subst hj;simpa using hy
  ·simp only [hj,if_false] at hy
   have hne:f j≠f i:=fun e=>hj (h.inj j i (by rw [hy];rfl) hi e)
   simp only [hne,if_false];exact h.nodes j y hy
 ·have key:∀ j,(aD (D.laid i x).nodes j).isSome=true→(aD D.nodes j).isSome=true:=fun j hj=>by
   simp only [ae.laid,cW] at hj
   by_cases hji:j=i
   ·subst hji;exact hi
   ·simpa [hji] using hj
  exact h.inj j k (key j hj) (key k hk)
theorem kF.created (h:kF f D0 D) (h0:D0.Ok) {i0:Nat} (hi0:aD D0.nodes i0=none) (hn:aD D.now n=none):kF (fun j=>if j=fresh D then i0 else f j) (D0.created n i0) (D.created n (fresh D)):=by
 have hfr:=u5 D
 have hne:∀ j,(aD D.nodes j).isSome=true→j≠fresh D:=fun j hj e=>by rw [e,hfr] at hj;cases hj
 have hne0:∀ j,(aD D.nodes j).isSome=true→f j≠i0:=fun j hj e=>by
  obtain ⟨x,hx⟩:=Option.isSome_iff_exists.1 hj
  have:=h.nodes j x hx;rw [e,hi0] at this;cases this
 have hn0:aD D0.now n=none:=by rw [h.now,hn];rfl
 refine ⟨fun m=>?_,fun m=>?_,?_,fun j y hy=>?_,fun j k hj hk hjk=>?_,h.ns0,h.ns,h.room,h.wait,h.bad,h.reads,h.most,h.ok.created hfr hn⟩
 ·show aD (cz D0.now n i0) m=(aD (cz D.now n (fresh D)) m).map _
  rw [cW,cW]
  by_cases hm:m=n
  ·simp [hm]
  ·simp only [hm,if_false,h.now]
   cases hg:aD D.now m with
   | none=>rfl
   | some j=>simp [hne j (h.has hg)]
 ·show aD D0.safe m=(aD D.safe m).map _
  rw [h.safe]
  cases hg:aD D.safe m with
  | none=>rfl
  | some j=>simp [hne j (h.ok.safe _ (dh hg))]
 ·show D0.moves++[[(n,some i0)]]=(D.moves++[[(n,some (fresh D))]]).map _
  rw [h.moves,List.map_append]
  congr 1
  ·refine List.map_congr_left fun l hl=>List.map_congr_left fun p hp=>?_
   cases hp2:p.2 with
   | none=>rfl
   | some j=>simp [hne j (h.ok.moves l hl p hp j hp2)]
  ·simp
 ·show aD ((i0,(([]:Bs),0))::D0.nodes) _=_
  have hy':aD ((fresh D,(([]:Bs),0))::D.nodes) j=some y:=hy
  simp only [aD] at hy' ⊢
  by_cases hj:j=fresh D
  ·simpa [hj] using hy'
  ·simp only [hj,if_false] at hy' ⊢
   simp only [hne0 j (by rw [hy'];rfl),if_false]
   exact h.nodes j y hy'
 ·have key:∀ j,(aD ((fresh D,(([]:Bs),0))::D.nodes) j).isSome=true→j=fresh D∨(aD D.nodes j).isSome=true:=fun j hj=>by
   simp only [aD] at hj
   by_cases hj2:j=fresh D
   ·exact .inl hj2
   ·exact .inr (by simpa [hj2] using hj)
  rcases key j hj with h1|h1<;>rcases key k hk with h2|h2
  ·rw [h1,h2]
  ·simp only [h1,if_true,hne k h2,if_false] at hjk;exact absurd hjk.symm (hne0 k h2)
  ·simp only [h2,if_true,hne j h1,if_false] at hjk;exact absurd hjk (hne0 j h1)
  ·simp only [hne j h1,hne k h2,if_false] at hjk;exact h.inj j k h1 h2 hjk
theorem kF.synced (h:kF f D0 D):kF f D0.synced D.synced:=by
 have key:∀ (ms:List (List (Bs×Option Nat))) (m0 m:List (Bs×Nat)),(m0.map (·.1)).Nodup→(m.map (·.1)).Nodup→(∀ n,aD m0 n=(aD m n).map f) →
  (∀ n,aD ((ms.map (List.map fun p=>(p.1,p.2.map f))).foldl fG m0) n=(aD (ms.foldl fG m) n).map f)∧(((ms.map (List.map fun p=>(p.1,p.2.map f))).foldl fG m0).map (·.1)).Nodup∧((ms.foldl fG m).map (·.1)).Nodup:=by
  intro ms
  induction ms with
  | nil=>intro m0 m h0 h1 h;exact ⟨h,h0,h1⟩
  | cons l ms ih=>
   intro m0 m h0 h1 h
   obtain ⟨a,b,c⟩:=oY l m0 m h0 h1 h
   exact ih _ _ b c a
 obtain ⟨a,b,c⟩:=key D.moves D0.safe D.safe h.ns0 h.ns h.safe
 refine ⟨h.now,?_,rfl,h.nodes,h.inj,?_,c,h.room,h.wait,h.bad,h.reads,h.most,h.ok.synced⟩
 ·show ∀ n,aD (D0.moves.foldl fG D0.safe) n=_
  rw [h.moves];exact a
 ·show ((D0.moves.foldl fG D0.safe).map (·.1)).Nodup
  rw [h.moves];exact b
end
section
variable {W0 w:World} {F l:List ax} {v:Value} {d:Nat} {D:ae} {n m:Bs}
theorem Sat.n7 (h:Sat W0 (aj d D::F) w):∃ D0 f,kF f D0 D∧D0.Ok∧Sat W0 (eB d D0::F) w:=by
 obtain ⟨⟨D0,f⟩,hs,h1⟩:=h.e9 (φ:=fun z:ae×(Nat→Nat)=>kF z.2 z.1 D) (B:=fun z=>[eB d z.1]) fun hp ⟨D0,f,hs,k⟩=>⟨⟨D0,f⟩,hs,hp,fun _=>none,fun _ _ _ _ hy=>(by cases hy),Hp.le_refl _,fun _ _ hx=>(by cases hx),k,trivial⟩
 exact ⟨D0,f,hs,h1.fT fun _ k=>k.1,h1⟩
theorem Sat.iV {D0:ae} {f:Nat→Nat} (hs:kF f D0 D) (h:Sat W0 (eB d D0::F) w):Sat W0 (aj d D::F) w:=h.head fun _ k=>⟨D0,f,hs,k⟩
theorem Sat.Pr (h:Sat W0 (aj d D::F) w):D.Ok:=h.fT fun _ ⟨_,_,hs,_⟩=>hs.ok
theorem vj (hs:Sat W0 (aj d D::F) w) (hm:D.moves.length≤1099511627776) :
 Calls Tryz.prog 78 #[ay d,str n] w fun x w'=>∃ ve,x=.returned ve∧Sat W0 (aj d (cR D n)::aH ve (gA D n)::F) w':=by
 obtain ⟨D0,f,h,h0,hs⟩:=hs.n7
 refine (Be (n:=n) hs (by rw [h.moves,List.length_map];exact hm)).mono ?_
 rintro _ w' ⟨ve,e,D',rfl,hc,hs⟩
 refine ⟨ve,rfl,?_⟩
 have hsome:(aD D0.now n).isSome=(aD D.now n).isSome:=by rw [h.now];cases aD D.now n<;>rfl
 have hnone:aD D0.now n=none→aD D.now n=none:=fun h1=>by rw [h.now] at h1;cases hx:aD D.now n<;>simp_all
 unfold cR gA
 rcases hc with ⟨h1,rfl,rfl⟩|⟨h1,h2,rfl,rfl⟩|⟨h1,h2,rfl,i,h3,rfl⟩
 ·rw [h.eh] at h1;rw [if_pos h1,if_pos h1]
  exact hs.iV h.tick
 ·rw [h.eh] at h1;rw [hsome] at h2
  simp only [h1,h2,Bool.false_eq_true,if_false,if_true]
  exact hs.iV h.tick
 ·rw [h.eh] at h1
  have h4:=hnone h2
  simp only [h1,h4,Option.isSome_none,Bool.false_eq_true,if_false]
  exact hs.iV (h.tick.created h0.tick (by rw [Pure.ae.ep];exact h3) (by rw [Pure.ae.cX];exact h4))
theorem JP (hs:Sat W0 (aj d D::F) w) :
 Calls Tryz.prog 160 #[ay d,str n] w fun x w'=>∃ ve,x=.returned (.tuple #[.int .i64 (j6 D n:Int),ve])∧Sat W0 (aj d D.tick::aH ve (bx D n)::F) w':=by
 obtain ⟨D0,f,h,h0,hs⟩:=hs.n7
 refine (Hm (n:=n) hs).mono ?_
 rintro _ w' ⟨ve,rfl,hs⟩
 rw [h.n6] at hs ⊢
 refine ⟨ve,?_,hs.iV h.tick⟩
 unfold j6 fileOf
 cases bx D n with
 | some e=>rfl
 | none=>
  simp only [h.now]
  cases hg:aD D.now n with
  | none=>rfl
  | some i=>simp only [Option.map_some,h.oX (h.has hg)]
theorem kF.zG {f:Nat→Nat} {D0:ae} (h:kF f D0 D) {g0 g:Nat→ae} (k:∀ i,bx D n=none→aD D.now n=some i→kF f (g0 (f i)) (g i)):kF f (hU D0 n g0) (hU D n g):=by
 unfold YtecibefflhomdaaGreatDoor.hU
 rw [h.n6,h.now]
 cases he:bx D n with
 | some e=>exact h.tick
 | none=>
  cases hg:aD D.now n with
  | none=>exact h.tick
  | some i=>exact k i he hg
theorem zH (h:D.Ok) (i:Nat) (x:Bs×Nat) (hx:x.1=D.aK i):(D.laid i x).Ok:=h.laid (Nat.le_trans (Pure.ae.kC (k:=0) h (by rw [hx];rfl)) h.used)
theorem zI (hs:Sat W0 (aj d D::F) w) :
 Calls Tryz.prog 86 #[ay d,str n] w fun x w'=>∃ ve,x=.returned ve∧Sat W0 (aj d (gz D n)::aH ve (bx D n)::F) w':=by
 obtain ⟨D0,f,h,h0,hs⟩:=hs.n7
 refine (Hn (n:=n) hs).mono ?_
 rintro _ w' ⟨ve,rfl,hs⟩
 rw [h.n6] at hs
 refine ⟨ve,rfl,hs.iV (h.zG fun i he hg=>?_)⟩
 have hi:=h.has hg
 rw [h.oX hi]
 exact h.tick.laid (by rw [Pure.ae.ep];exact hi) _ (zH h.ok.tick _ _ (by simp))
theorem vk (hs:Sat W0 (aj d D::F) w) (hm:D.moves.length≤1099511627776) :
 Calls Tryz.prog 77 #[ay d,str n] w fun x w'=>∃ ve,x=.returned ve∧Sat W0 (aj d (fx D n)::aH ve (bx D n)::F) w':=by
 obtain ⟨D0,f,h,h0,hs⟩:=hs.n7
 refine (Bf (n:=n) hs (by rw [h.moves,List.length_map];exact hm)).mono ?_
 rintro _ w' ⟨ve,rfl,hs⟩
 rw [h.n6] at hs
 exact ⟨ve,rfl,hs.iV (h.zG fun i he hg=>h.tick.fV h0.tick n)⟩
theorem JQ (hs:Sat W0 (aj d D::F) w) (hm:D.moves.length≤1099511627776) :
 Calls Tryz.prog 177 #[ay d,str n,str m] w fun x w'=>∃ ve,x=.returned ve∧Sat W0 (aj d (fW D n m)::aH ve (bx D n)::F) w':=by
 obtain ⟨D0,f,h,h0,hs⟩:=hs.n7
 refine (Bg (n:=n) (m:=m) hs (by rw [h.moves,List.length_map];exact hm)).mono ?_
 rintro _ w' ⟨ve,rfl,hs⟩
 rw [h.n6] at hs
 refine ⟨ve,rfl,hs.iV (h.zG fun i he hg=>?_)⟩
 by_cases hnm:n=m
 ·rw [if_pos hnm,if_pos hnm];exact h.tick
 ·rw [if_neg hnm,if_neg hnm];exact h.tick.renamed h0.tick hnm (by rw [Pure.ae.cX];exact hg)
theorem kF.Bl {f:Nat→Nat} {D0:ae} (h:kF f D0 D) (h0:D0.Ok) (n bs:Bs):dW D0 n bs=dW D n bs:=by
 unfold YtecibefflhomdaaGreatDoor.dW;rw [h.n6,h.room,h.used h0]
theorem zJ {bs:Bs} (he:dW D n bs=none):bx D n=none∧(D.used:Int)+bs.length≤D.room:=by
 unfold dW at he
 split at he
 ·cases he
 ·rename_i hf
  split at he
  ·cases he
  ·exact ⟨hf,by omega⟩
theorem vq {bs:Bs} {vb:Value} (hs:Sat W0 (aj d D::cI vb bs::F) w) :
 Calls Tryz.prog 79 #[ay d,str n,vb] w fun x w'=>∃ ve,x=.returned ve∧Sat W0 (aj d (cg D n bs)::cI vb bs::aH ve (dW D n bs)::F) w':=by
 obtain ⟨D0,f,h,h0,hs⟩:=hs.n7
 refine (Bh (n:=n) hs).mono ?_
 rintro _ w' ⟨ve,rfl,hs⟩
 rw [h.Bl h0] at hs
 refine ⟨ve,rfl,hs.iV (f:=f) ?_⟩
 unfold cg
 rw [h.Bl h0]
 cases he:dW D n bs with
 | some e=>exact h.tick
 | none=>
  rw [h.now]
  cases hg:aD D.now n with
  | none=>exact h.tick
  | some i=>
   simp only [Option.map_some]
   have hi:=h.has hg
   rw [h.oX hi,h.MA hi]
   obtain ⟨_,hroom⟩:=zJ he
   have hr:=h.ok.room1
   refine h.tick.laid (by rw [Pure.ae.ep];exact hi) _ (h.ok.tick.laid (Nat.le_trans (Pure.ae.kC (k:=bs.length) h.ok.tick (by simp)) ?_))
   rw [Pure.ae.mi];omega
theorem Ho (hs:Sat W0 (aj d D::F) w) :
 Calls Tryz.prog 178 #[ay d] w fun x w'=>∃ ve,x=.returned ve∧Sat W0 (aj d (fj D)::aH ve (if D.eh=true then some (some [],8) else none)::F) w':=by
 obtain ⟨D0,f,h,h0,hs⟩:=hs.n7
 refine (zE hs).mono ?_
 rintro _ w' ⟨ve,rfl,hs⟩
 rw [h.eh] at hs
 refine ⟨ve,rfl,hs.iV (f:=f) ?_⟩
 unfold fj
 rw [h.eh]
 split
 ·exact h.tick
 ·exact h.tick.synced
theorem kF.JR {f:Nat→Nat} {D0:ae} (h:kF f D0 D) (n:Int):kF f (counted D0 n) (counted D n):=
 ⟨h.now,h.safe,h.moves,h.nodes,h.inj,h.ns0,h.ns,h.room,h.wait,h.bad,by simp [YtecibefflhomdaaGreatDoor.counted,h.reads],by simp [YtecibefflhomdaaGreatDoor.counted,h.most],vg h.ok n⟩
theorem qF {nm:Bs} {at_ n:Int} (hs:Sat W0 (aj d D::F) w) (ha1:-9223372036854775808≤at_) (ha2:at_≤9223372036854775807) (hn1:-9223372036854775808≤n) (hn2:n≤9223372036854775807) :
 Calls Tryz.prog 161 #[ay d,str nm,.int .i64 at_,.int .i64 n] w fun x w'=>∃ v ve,x=.returned (.tuple #[v,ve])∧Sat W0 (aj d (counted D n).tick::cI v (iZ D nm at_ n)::aH ve (bx D nm)::F) w':=by
 obtain ⟨D0,f,h,h0,hs⟩:=hs.n7
 refine (Bi (nm:=nm) hs ha1 ha2 hn1 hn2).mono ?_
 rintro _ w' ⟨v,ve,rfl,hs⟩
 rw [h.n6] at hs
 have e:F2 D0 nm at_ n=iZ D nm at_ n:=by
  unfold F2 iZ fileOf
  rw [h.n6]
  cases he:bx D nm with
  | some e=>rfl
  | none=>
   simp only [h.now]
   cases hg:aD D.now nm with
   | none=>simp [fB]
   | some i=>simp only [Option.map_some,h.oX (h.has hg)]
 rw [e] at hs
 exact ⟨v,ve,rfl,hs.iV (h.JR n).tick⟩
theorem Hq {room:Int} (hs:Sat W0 F w) (h0:0≤room) (h1:room≤2199023255552) :
 Calls Tryz.prog 22 #[.int .i64 room] w fun x w'=>∃ d,x=.returned (ay d)∧Sat W0 (aj d (dm room)::F) w':=by
 refine (qE hs h0 h1).mono ?_
 rintro _ w' ⟨d,rfl,hs⟩
 refine ⟨d,rfl,hs.iV (f:=id) ⟨fun n=>?_,fun n=>?_,rfl,fun i x hx=>?_,fun i j hi=>?_,?_,?_,rfl,rfl,rfl,rfl,rfl,pW h0 h1⟩⟩
 ·simp [dm,aD]
 ·simp [dm,aD]
 ·simp [dm,aD] at hx
 ·simp [dm,aD] at hi
 ·simp [dm]
 ·simp [dm]
theorem Bm (hs:Sat W0 (aj d D::F) w) :
 Calls Tryz.prog 68 #[ay d] w fun x w'=>x=.returned (.tuple #[.int .i64 D.reads,.int .i64 D.most])∧Sat W0 (aj d (uncounted D)::F) w':=by
 obtain ⟨D0,f,h,h0,hs⟩:=hs.n7
 refine (Bj hs).mono ?_
 rintro _ w' ⟨rfl,hs⟩
 have hok:=h.ok
 exact ⟨by rw [h.reads,h.most],Sat.iV (D0:=uncounted D0) (f:=f) ⟨h.now,h.safe,h.moves,h.nodes,h.inj,h.ns0,h.ns,h.room,h.wait,h.bad,rfl,rfl,⟨hok.now,hok.safe,hok.moves,hok.names,hok.ids,hok.room0,hok.room1,hok.wait0,hok.wait1,hok.bad0,hok.bad1,hok.used,hok.short⟩⟩ hs⟩
end
end
section
open Go.Proofs.YtecibefflhomdaaGreatDoor.Pure (bL bC xF kN xE jm aF aV aB dj Rd kj bH pN zg)
attribute [local irreducible] IntKind.wrap
variable {W0 w:World} {F:List ax} {v vr:Value} {bs:Bs} {r:Nat} {rd:Rd}
def xe (r:Nat) (rd:Rd):ax:=fun h=>∃ vr,cL [blk r 190 [vr,.bool rd.bad],vw vr rd.rest] h
theorem Sat.n8 (h:Sat W0 (xe r rd::F) w):∃ vr,True∧Sat W0 ([blk r 190 [vr,.bool rd.bad],vw vr rd.rest]++F) w:=h.e9 fun hp ⟨vr,k⟩=>⟨vr,trivial,k⟩
theorem Sat.fX (h:Sat W0 (blk r 190 [vr,.bool rd.bad]::vw vr rd.rest::F) w):Sat W0 (xe r rd::F) w:=Sat.close (B:=[blk r 190 [vr,.bool rd.bad],vw vr rd.rest]) h fun hp k=>⟨vr,k⟩
theorem mZ {N:Int} (hs:Sat W0 (xe r rd::F) w) (hl:rd.rest.length≤140737488355328) (h1:-9223372036854775808≤N) (h2:N≤9223372036854775807) :
 Calls Tryz.prog 164 #[.pointer (some ⟨r,0,none⟩),.int .i64 N] w fun x w'=>∃ v',x=.returned v'∧Sat W0 (xe r (rd.bytes N).2::vw v' (rd.bytes N).1::F) w':=by
 obtain ⟨vr,-,hs⟩:=hs.n8
 dsimp only [List.cons_append,List.nil_append] at hs
 obtain ⟨rs,bad⟩:=rd
 dsimp only at hs hl
 obtain ⟨a,c,rfl,hc⟩:=(hs.take (.there .here)).fF
 refine enter Tryz.func164 rfl Tryz.ntmps164 Tryz.results164 rfl ?_
 by_cases hbad:(bad=true∨N<0∨(rs.length:Int)<N)
 ·have hp:Rd.bytes ⟨rs,bad⟩ N=([],⟨rs,true⟩):=by unfold Rd.bytes;rw [if_pos hbad]
  rw [hp]
  have fin:∀ w,Sat W0 (blk r 190 [.slice a rs.length c,.bool true]::vw (.slice a rs.length c) rs::F) w→∃ v',Ending.returned (tK [.slice none 0 0])=.returned v'∧Sat W0 (xe r ⟨rs,true⟩::vw v' []::F) w:=fun w hs=>
   ⟨_,rfl,Sat.fX (rd:=⟨rs,true⟩) ((hs.po (.inl rfl) (fun _=>rfl)).to)⟩
  by_cases hb:bad=true
  ·subst hb
   refine go ?_
   refine bK hs fun w hs=>?_
   refine go ?_
   exact ah rfl (fin _ hs)
  ·have hb':bad=false:=by simpa using hb
   subst hb'
   by_cases hn:N<0
   ·refine go ?_
    refine bK hs fun w hs=>?_
    refine go ?_
    exact ah rfl (fin _ hs)
   ·have hn2:(rs.length:Int)<N:=by simp at hbad;omega
    refine go ?_
    refine bK hs fun w hs=>?_
    refine go ?_
    exact ah rfl (fin _ hs)
 ·have hp:Rd.bytes ⟨rs,bad⟩ N=(rs.take N.toNat,⟨rs.drop N.toNat,false⟩):=by unfold Rd.bytes;rw [if_neg hbad]
  rw [hp]
  simp only [not_or] at hbad
  obtain ⟨hb,hn,hn2⟩:=hbad
  have hb':bad=false:=by simpa using hb
  subst hb'
  have hn3:¬ N > (rs.length:Int):=hn2
  refine go ?_
  refine Om (m:=N.toNat) hs (.there .here) rfl rfl (by omega) (by omega) rfl fun v1 hs=>?_
  refine go ?_
  refine On (m:=N.toNat) hs (.there (.there .here)) rfl rfl (by omega) (by omega) rfl fun v2 hs=>?_
  refine go ?_
  obtain ⟨a2,c2,rfl,-⟩:=hs.fF
  refine bK hs fun w hs=>?_
  refine go ?_
  exact ah rfl ⟨_,rfl,Sat.fX (rd:=⟨rs.drop N.toNat,false⟩) hs.to⟩
theorem fc {K:Nat} (hs:Sat W0 (xe r rd::F) w) (hl:rd.rest.length≤140737488355328) (hK:K≤8) :
 Calls Tryz.prog 93 #[.pointer (some ⟨r,0,none⟩),.int .i64 (K:Int)] w fun x w'=>x=.returned (.int .u64 ((rd.num K).1:Int))∧Sat W0 (xe r (rd.num K).2::F) w':=by
 refine enter Tryz.func93 rfl Tryz.ntmps93 Tryz.results93 rfl ?_
 refine go ?_
 refine ag (met (mZ (N:=(K:Int)) hs hl (by omega) (by omega)) ?_)
 rintro _ w ⟨v,rfl,hs⟩
 refine ⟨v,rfl,?_⟩
 have hbl:=Rd.rJ rd (K:Int)
 have hfin:kj (rd.bytes (K:Int)).1=(rd.num K).1:=rfl
 have hfin2:(rd.bytes (K:Int)).2=(rd.num K).2:=rfl
 generalize hbs:(rd.bytes (K:Int)).1=bs at hs hbl hfin
 rw [hfin2] at hs
 rw [← hfin]
 obtain ⟨a,c,rfl,hc⟩:=(hs.take (.there .here)).fF
 refine go ?_
 refine aJ (α:=Nat×Nat) (fun z=>[(5,.int .u64 (z.2:Int)),(10,.slice a bs.length c),(11,.int .i64 (bs.length:Int)),(12,.int .i64 (z.1:Int))])
  (fun z w=>z.1≤bs.length∧z.2=kj (bs.take z.1)∧Sat W0 (xe r (rd.num K).2::vw (.slice a bs.length c) bs::F) w) (fun z=>bs.length-z.1) (0,0) ⟨rfl,rfl,rfl,rfl,trivial⟩ ⟨Nat.zero_le _,rfl,hs⟩ ?_
 clear hs
 rintro ⟨i,m⟩ w ⟨hi,hm,hs⟩
 dsimp only at hi hm hs ⊢
 have hml:m<256^i:=by rw [hm];have:=zg (bs.take i);rwa [List.length_take,Nat.min_eq_left hi] at this
 by_cases hlt:i<bs.length
 ·have hi8:i<8:=by omega
  have hml2:m<72057594037927936:=Nat.lt_of_lt_of_le hml (Nat.le_trans (Nat.pow_le_pow_right (by decide) (show i≤7 by omega)) (by decide))
  obtain ⟨z,⟨hv,hzc,hcell⟩,hs2⟩:=(hs.take (.there .here)).rP (by intro h;subst h;simp at hlt)
  obtain ⟨rfl,rfl⟩:a=some ⟨z.b,z.o,none⟩∧c=z.c:=by simpa using hv
  have hbyte:=(bs[i]).toNat_lt
  have hc1:z.all[z.o+i*1]?=some (bV bs[i]):=by rw [Nat.mul_one];exact hcell i _ (by simp [hlt])
  refine go ?_
  refine cN (i:=i) rfl rfl rfl rfl rfl hlt rfl ?_
  refine eF hs2 rfl rfl .here hc1 rfl ?_
  refine go ?_
  have e1:(IntKind.u64.wrap ((m*2^8:Nat):Int))=((m*256:Nat):Int):=IntWalk.u64_in _ (by omega)
  refine Og (N:=m) (m:=8) rfl rfl rfl (by decide) e1 rfl ?_
  refine go ?_
  refine ua (N:=m*256) (M:=(bs[i]).toNat) (R:=m*256+(bs[i]).toNat) (k:=.u64) rfl rfl rfl (by simp only [IntKind.bits];omega) (by simp only [IntKind.bits];omega) ?_ rfl ?_
  ·simp only [Oh]
   congr 1
   have:=Nat.two_pow_add_eq_or_of_lt (i:=8) hbyte m
   rw [Nat.mul_comm m 256];exact this.symm
  refine go ?_
  refine az (i+1,m*256+(bs[i]).toNat) ⟨rfl,rfl,rfl,rfl,trivial⟩ ⟨by omega,?_,hs⟩ (by simp;omega)
  dsimp only
  rw [List.take_succ_eq_append_getElem hlt,pN,← hm]
 ·have:i=bs.length:=by omega
  subst this
  refine go ?_
  exact ah rfl ⟨by rw [hm,List.take_length];rfl,hs.to⟩
end
end Go.Proofs.YtecibefflhomdaaGreatDoor
