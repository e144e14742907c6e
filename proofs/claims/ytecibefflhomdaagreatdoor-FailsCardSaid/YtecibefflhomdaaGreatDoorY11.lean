/-
  Part 11: WALKS package api; THE DISK, ABSTRACTLY files by numbers of their own; WALKS package codec.
-/
import Derived.Test.YtecibefflhomdaaGreatDoorY10
set_option maxHeartbeats 8000000
set_option maxRecDepth 100000
set_option linter.all false
namespace Go.Proofs.YtecibefflhomdaaGreatDoor
open Go
section
open Go.Proofs.YtecibefflhomdaaGreatDoor.Pure (ad aA cx eD fE)
attribute [local irreducible] IntKind.wrap
variable {W0 w:World} {F l:List ah} {v:Value} {d:Nat} {D:ad} {bs:Bs}
theorem wB {α β γ:Type} (f:α→β→γ):∀ {xs:List α} {ys:List β} {i:Nat} {x:α} {y:β},xs[i]?=some x→ys[i]?=some y→∃ B C,List.zipWith f xs ys=B++f x y::C
 | a::xs,b::ys,0,x,y,hx,hy=>by simp at hx hy;subst hx;subst hy;exact ⟨[],_,rfl⟩
 | a::xs,b::ys,i+1,x,y,hx,hy=>by
  simp at hx hy
  obtain ⟨B,C,h⟩:=wB f hx hy
  exact ⟨f a b::B,C,by simp [h]⟩
theorem yc (hs:Sat W0 (eh d D::F) w) :
 Calls Tryz.prog 178 #[au d] w fun x w'=>∃ ve,x=.returned ve∧Sat W0 (eh d (fh D)::ax ve (if D.eg=true then some (some [],8) else none)::F) w':=by
 refine enter Tryz.func178 rfl Tryz.ntmps178 Tryz.results178 rfl ?_
 refine go ?_
 refine ae (met (po hs) ?_)
 rintro _ w ⟨rfl,hs⟩
 refine ⟨_,rfl,?_⟩
 unfold fh
 cases ht:D.eg with
 | true=>
  refine go ?_
  refine bA [str [],.int .i64 8] ?_
  refine cE hs fun w b hs=>?_
  refine go ?_
  exact ak rfl ⟨_,rfl,(hs.pk (s:=[])).to⟩
 | false=>
  obtain ⟨hok,z,hs⟩:=hs.eR
  dsimp only [fK,aX,List.cons_append,List.nil_append] at hs
  obtain ⟨vs,hvs,hs⟩:=(hs.take (.there (.there (.there .here)))).wA
  dsimp only [List.cons_append,List.nil_append] at hs
  obtain ⟨a,c,hmv,hc⟩:=hs.ay
  have hc2:D.tick.moves.length≤9223372036854775807:=by have:=hc.1;have:=hc.2;simp only [maxLen] at this;omega
  have hsh:=hok.short
  have hok':=hok.synced
  generalize hD:D.tick=E at *
  refine go ?_
  rw [hmv]
  refine go ?_
  refine aL (α:=Nat) (fun i=>[(0,au d),(13,.slice a E.moves.length c),(14,.int .i64 (E.moves.length:Int)),(15,.int .i64 (i:Int))])
   (fun i w=>i≤E.moves.length∧Sat W0 (aE 1 (.slice a E.moves.length c) 143 E.moves.length vs::star (List.zipWith y8 vs E.moves)::blk d 111 (aX z E)::aO cu z.bn (aM E.now)::aO cu z.bs (aM ((E.moves.take i).foldl fE E.safe))::star (E.nodes.map dA)::F) w) (fun i=>E.moves.length-i) 0 ⟨rfl,rfl,rfl,rfl,trivial⟩ ⟨Nat.zero_le _,by rw [← hmv];exact hs⟩ ?_
  clear hs
  rintro i w ⟨hi,hs⟩
  by_cases hlt:i<E.moves.length
  ·have hgm:E.moves[i]?=some E.moves[i]:=List.getElem?_eq_getElem hlt
   have hgv:vs[i]?=some vs[i]:=List.getElem?_eq_getElem (by omega)
   have hshort:=hsh _ (List.getElem_mem hlt)
   have hfold:(E.moves.take (i+1)).foldl fE E.safe=fE ((E.moves.take i).foldl fE E.safe) E.moves[i]:=by
    rw [List.take_succ_eq_append_getElem hlt,List.foldl_append];rfl
   generalize E.moves[i]=m at *
   generalize vs[i]=v at *
   obtain ⟨B,C,hz⟩:=wB y8 hgv hgm
   obtain ⟨b,cap,rs,hv,q1,q2,q3,hs2⟩:=hs.dV (by omega)
   simp only [Value.slice.injEq] at hv
   obtain ⟨rfl,_,rfl⟩:=hv
   have hcell:(vs++rs)[0+i*1]?=some v:=by rw [Nat.zero_add,Nat.mul_one,List.getElem?_append_left (by omega)];exact hgv
   refine go ?_
   refine cL (i:=i) rfl rfl rfl rfl rfl hlt rfl ?_
   refine eC hs2 rfl rfl .here hcell rfl ?_
   rw [hz] at hs
   have h3:=(hs.take (.there .here)).eS
   refine go ?_
   refine ae (met (zE (m:=z.bs) (kvs:=(E.moves.take i).foldl fE E.safe) (mvs:=m) (v:=v) (F:=star (B++C)::aE 1 (.slice (some ⟨b,0,none⟩) E.moves.length c) 143 E.moves.length vs::blk d 111 (aX z E)::aO cu z.bn (aM E.now)::star (E.nodes.map dA)::F) h3.to hshort) ?_)
   rintro _ w ⟨rfl,hs⟩
   refine ⟨_,rfl,go ?_⟩
   refine aB (i+1) ⟨rfl,rfl,rfl,rfl,trivial⟩ ⟨hlt,?_⟩ (by omega)
   have h4:=(hs.eA (.there .here) (.there .here)).eK
   rw [← hz] at h4
   rw [hfold]
   exact h4.to
  ·have:i=E.moves.length:=by omega
   subst this
   rw [List.take_length] at hs
   refine go ?_
   refine bD hs fun w hs=>?_
   refine go ?_
   have h5:Sat W0 (eP (.slice none 0 0) []::blk d 111 ((aX z E).set (0+2) (.slice none 0 0))::aO cu z.bn (aM E.now)::aO cu z.bs (aM (E.moves.foldl fE E.safe))::star (E.nodes.map dA)::F) w:=
    Sat.mF (vs:=[]) rfl (hs.drop.drop.ln.cP)
   exact ak rfl ⟨_,rfl,Sat.cU (z:=⟨z.bn,z.bs,.slice none 0 0⟩) hok' (h5.ei.to)⟩
theorem tW {room:Int} (h0:0≤room) (h1:room≤2199023255552):(dB room).Ok:=
 ⟨fun p hp=>by simp [dB] at hp,fun p hp=>by simp [dB] at hp,fun l hl=>by simp [dB] at hl,by simp [dB],by simp [dB],h0,h1,by simp [dB],by simp [dB],by simp [dB],by simp [dB],by simp [dB,ad.used],fun l hl=>by simp [dB] at hl⟩
theorem qg {room:Int} (hs:Sat W0 F w) (h0:0≤room) (h1:room≤2199023255552) :
 Calls Tryz.prog 22 #[.int .i64 room] w fun x w'=>∃ d,x=.returned (au d)∧Sat W0 (eh d (dB room)::F) w':=by
 refine enter Tryz.func22 rfl Tryz.ntmps22 Tryz.results22 rfl ?_
 refine go ?_
 refine kC hs rfl fun w m1 hs=>?_
 refine kC (hs.tK cu) rfl fun w m2 hs=>?_
 refine go ?_
 refine bA [.map (some m1),.map (some m2),.slice none 0 0,.int .i64 room,.int .i64 0,.int .i64 0,.int .i64 0,.int .i64 0] ?_
 refine cE (hs.tK cu) fun w d hs=>?_
 refine go ?_
 refine ak rfl ⟨d,rfl,Sat.cU (z:=⟨m1,m2,.slice none 0 0⟩) (tW h0 h1) ?_⟩
 have h5:Sat W0 (eP (.slice none 0 0) []::star ((dB room).nodes.map dA)::_) w:=Sat.mF (vs:=[]) rfl (Sat.cP (Sat.ln (Sat.ln hs)))
 exact h5.to
theorem mG {a t:Int} (h:D.Ok) (ha2:a≤9223372036854775807) (ht2:t≤9223372036854775807):(bx D a t).Ok:=
 ⟨h.now,h.safe,h.moves,h.names,h.ids,h.room0,h.room1,by simp only [bx];omega,by simp only [bx];omega,by simp only [bx];omega,by simp only [bx];omega,h.used,h.short⟩
theorem FA {a t:Int} (hs:Sat W0 (eh d D::F) w) (ha2:a≤9223372036854775807) (ht2:t≤9223372036854775807) :
 Calls Tryz.prog 24 #[au d,.int .i64 a,.int .i64 t] w fun x w'=>x=.returned (.tuple #[])∧Sat W0 (eh d (bx D a t)::F) w':=by
 obtain ⟨hok,z,hs⟩:=hs.eR
 have hok':=mG hok ha2 ht2
 dsimp only [fK,aX,List.cons_append,List.nil_append] at hs
 refine enter Tryz.func24 rfl Tryz.ntmps24 Tryz.results24 rfl ?_
 refine go ?_
 refine bD hs fun w hs=>?_
 refine go ?_
 refine bD hs fun w hs=>?_
 refine go ?_
 exact gB rfl ⟨rfl,Sat.cU (z:=z) hok' hs.to⟩
end
section
open Go.Proofs.YtecibefflhomdaaGreatDoor.Pure (ad aA cx eD fE cQ iU dL jv jw de cw)
structure kp (f:Nat→Nat) (D0 D:ad):Prop where
 now:∀ n,aA D0.now n=(aA D.now n).map f
 safe:∀ n,aA D0.safe n=(aA D.safe n).map f
 moves:D0.moves=D.moves.map (List.map fun p=>(p.1,p.2.map f))
 nodes:∀ i x,aA D.nodes i=some x→aA D0.nodes (f i)=some x
 inj:∀ i j,(aA D.nodes i).isSome=true→(aA D.nodes j).isSome=true→f i=f j→i=j
 ns0:(D0.safe.map (·.1)).Nodup
 ns:(D.safe.map (·.1)).Nodup
 room:D0.room=D.room
 wait:D0.wait=D.wait
 bad:D0.bad=D.bad
 reads:D0.reads=D.reads
 most:D0.most=D.most
 ok:D.Ok
def ag (d:Nat) (D:ad):ah:=fun h=>∃ D0 f,kp f D0 D∧eh d D0 h
section
variable {f:Nat→Nat} {D0 D:ad} {n:Bs}
theorem kp.eg (h:kp f D0 D):D0.eg=D.eg:=by unfold ad.eg;rw [h.wait,h.bad]
theorem kp.tick (h:kp f D0 D):kp f D0.tick D.tick:=by
 have h1:D0.tick.wait=D.tick.wait:=by unfold ad.tick;rw [h.wait,h.bad];split<;>(try split)<;>simp [h.wait,h.bad]
 have h2:D0.tick.bad=D.tick.bad:=by unfold ad.tick;rw [h.wait,h.bad];split<;>(try split)<;>simp [h.wait,h.bad]
 refine ⟨?_,?_,?_,?_,?_,?_,?_,?_,h1,h2,?_,?_,h.ok.tick⟩<;>simp only [Pure.ad.cW,Pure.ad.Fh,Pure.ad.jx,Pure.ad.et,Pure.ad.eJ,Pure.ad.BR,Pure.ad.Fi]
 ·exact h.now
 ·exact h.safe
 ·exact h.moves
 ·exact h.nodes
 ·exact h.inj
 ·exact h.ns0
 ·exact h.ns
 ·exact h.room
 ·exact h.reads
 ·exact h.most
theorem kp.nG (h:kp f D0 D) (n:Bs):bz D0 n=bz D n:=by
 unfold YtecibefflhomdaaGreatDoor.bz
 rw [h.eg,h.now n]
 cases aA D.now n<;>rfl
theorem kp.ox (h:kp f D0 D) {i:Nat} (hi:(aA D.nodes i).isSome=true):D0.aH (f i)=D.aH i:=by
 obtain ⟨x,hx⟩:=Option.isSome_iff_exists.1 hi
 unfold ad.aH;rw [hx,h.nodes i x hx]
theorem kp.Ki (h:kp f D0 D) {i:Nat} (hi:(aA D.nodes i).isSome=true):mE D0 (f i)=mE D i:=by
 obtain ⟨x,hx⟩:=Option.isSome_iff_exists.1 hi
 unfold YtecibefflhomdaaGreatDoor.mE;rw [hx,h.nodes i x hx]
theorem kp.has (h:kp f D0 D) {i:Nat} (hi:aA D.now n=some i):(aA D.nodes i).isSome=true:=h.ok.now _ (dL hi)
theorem qh {κ α:Type} [DecidableEq κ] {a b:List (κ×α)} (ha:(a.map (·.1)).Nodup) (hb:(b.map (·.1)).Nodup) (h:∀ x,aA a x=aA b x):a.Perm b:=by
 have na:a.Nodup:=List.Pairwise.of_map _ (fun x y hxy e=>hxy (by rw [e])) ha
 have nb:b.Nodup:=List.Pairwise.of_map _ (fun x y hxy e=>hxy (by rw [e])) hb
 refine (List.perm_ext_iff_of_nodup na nb).2 fun p=>?_
 obtain ⟨k,v⟩:=p
 constructor
 ·intro hp;have:=de ha hp;rw [h] at this;exact dL this
 ·intro hp;have:=de hb hp;rw [← h] at this;exact dL this
theorem tX {κ α β:Type} [DecidableEq κ] (g:α→β):∀ (l:List (κ×α)) (x:κ),aA (l.map fun p=>(p.1,g p.2)) x=(aA l x).map g
 | [],_=>rfl
 | (k,v)::r,x=>by
  simp only [List.map_cons,aA]
  by_cases h:x=k
  ·simp [h]
  ·simp [h,tX g r x]
theorem kp.perm (h:kp f D0 D) (h0:D0.Ok):D0.now.Perm (D.now.map fun p=>(p.1,f p.2)):=by
 refine qh h0.names ?_ fun x=>by rw [h.now,tX]
 rw [List.map_map];exact h.ok.names
theorem kp.used (h:kp f D0 D) (h0:D0.Ok):D0.used=D.used:=by
 unfold ad.used
 rw [((h.perm h0).map fun p=>(D0.aH p.2).length).sum_nat,List.map_map]
 congr 1
 exact List.map_congr_left fun p hp=>by simp only [Function.comp];rw [h.ox (h.ok.now p hp)]
theorem oy {f:Nat→Nat}:∀ (l:List (Bs×Option Nat)) (m0 m:List (Bs×Nat)),(m0.map (·.1)).Nodup→(m.map (·.1)).Nodup→(∀ n,aA m0 n=(aA m n).map f) →
 (∀ n,aA (fE m0 (l.map fun p=>(p.1,p.2.map f))) n=(aA (fE m l) n).map f)∧((fE m0 (l.map fun p=>(p.1,p.2.map f))).map (·.1)).Nodup∧((fE m l).map (·.1)).Nodup
 | [],m0,m,h0,h1,h=>⟨h,h0,h1⟩
 | (k,none)::l,m0,m,h0,h1,h=>oy l (eD m0 k) (eD m k) (jw h0 k) (jw h1 k) fun n=>by
  rw [iU _ _ h0,iU _ _ h1,h n];split<;>rfl
 | (k,some i)::l,m0,m,h0,h1,h=>oy l (cx m0 k (f i)) (cx m k i) (jv h0 k _) (jv h1 k _) fun n=>by
  rw [cQ,cQ,h n];split<;>rfl
theorem kp.HI (h:kp f D0 D) (h0:D0.Ok) (l:List (Bs×Option Nat)) (hok:(named D l).Ok):kp f (named D0 (l.map fun p=>(p.1,p.2.map f))) (named D l):=by
 have:=oy (f:=f) l D0.now D.now h0.names h.ok.names h.now
 exact ⟨this.1,h.safe,by simp [YtecibefflhomdaaGreatDoor.named,h.moves],h.nodes,h.inj,h.ns0,h.ns,h.room,h.wait,h.bad,h.reads,h.most,hok⟩
theorem kp.fL (h:kp f D0 D) (h0:D0.Ok) (n:Bs):kp f (D0.fL n) (D.fL n):=h.HI h0 [(n,none)] (h.ok.fL n)
theorem kp.renamed (h:kp f D0 D) (h0:D0.Ok) {a b:Bs} {i:Nat} (hab:a≠b) (ha:aA D.now a=some i):kp f (D0.renamed a b (f i)) (D.renamed a b i):=h.HI h0 [(b,some i),(a,none)] (h.ok.renamed hab ha)
theorem kp.laid (h:kp f D0 D) {i:Nat} (hi:(aA D.nodes i).isSome=true) (x:Bs×Nat) (hok:(D.laid i x).Ok):kp f (D0.laid (f i) x) (D.laid i x):=by
 refine ⟨h.now,h.safe,h.moves,fun j y hy=>?_,fun j k hj hk=>?_,h.ns0,h.ns,h.room,h.wait,h.bad,h.reads,h.most,hok⟩
 ·simp only [ad.laid,cQ] at hy ⊢
  by_cases hj:j=i
  ·subst hj;simpa using hy
  ·simp only [hj,if_false] at hy
   have hne:f j≠f i:=fun e=>hj (h.inj j i (by rw [hy];rfl) hi e)
   simp only [hne,if_false];exact h.nodes j y hy
 ·have key:∀ j,(aA (D.laid i x).nodes j).isSome=true→(aA D.nodes j).isSome=true:=fun j hj=>by
   simp only [ad.laid,cQ] at hj
   by_cases hji:j=i
   ·subst hji;exact hi
   ·simpa [hji] using hj
  exact h.inj j k (key j hj) (key k hk)
theorem kp.created (h:kp f D0 D) (h0:D0.Ok) {i0:Nat} (hi0:aA D0.nodes i0=none) (hn:aA D.now n=none):kp (fun j=>if j=fresh D then i0 else f j) (D0.created n i0) (D.created n (fresh D)):=by
 have hfr:=tQ D
 have hne:∀ j,(aA D.nodes j).isSome=true→j≠fresh D:=fun j hj e=>by rw [e,hfr] at hj;cases hj
 have hne0:∀ j,(aA D.nodes j).isSome=true→f j≠i0:=fun j hj e=>by
  obtain ⟨x,hx⟩:=Option.isSome_iff_exists.1 hj
  have:=h.nodes j x hx;rw [e,hi0] at this;cases this
 have hn0:aA D0.now n=none:=by rw [h.now,hn];rfl
 refine ⟨fun m=>?_,fun m=>?_,?_,fun j y hy=>?_,fun j k hj hk hjk=>?_,h.ns0,h.ns,h.room,h.wait,h.bad,h.reads,h.most,h.ok.created hfr hn⟩
 ·show aA (cx D0.now n i0) m=(aA (cx D.now n (fresh D)) m).map _
  rw [cQ,cQ]
  by_cases hm:m=n
  ·simp [hm]
  ·simp only [hm,if_false,h.now]
   cases hg:aA D.now m with
   | none=>rfl
   | some j=>simp [hne j (h.has hg)]
 ·show aA D0.safe m=(aA D.safe m).map _
  rw [h.safe]
  cases hg:aA D.safe m with
  | none=>rfl
  | some j=>simp [hne j (h.ok.safe _ (dL hg))]
 ·show D0.moves++[[(n,some i0)]]=(D.moves++[[(n,some (fresh D))]]).map _
  rw [h.moves,List.map_append]
  congr 1
  ·refine List.map_congr_left fun l hl=>List.map_congr_left fun p hp=>?_
   cases hp2:p.2 with
   | none=>rfl
   | some j=>simp [hne j (h.ok.moves l hl p hp j hp2)]
  ·simp
 ·show aA ((i0,(([]:Bs),0))::D0.nodes) _=_
  have hy':aA ((fresh D,(([]:Bs),0))::D.nodes) j=some y:=hy
  simp only [aA] at hy' ⊢
  by_cases hj:j=fresh D
  ·simpa [hj] using hy'
  ·simp only [hj,if_false] at hy' ⊢
   simp only [hne0 j (by rw [hy'];rfl),if_false]
   exact h.nodes j y hy'
 ·have key:∀ j,(aA ((fresh D,(([]:Bs),0))::D.nodes) j).isSome=true→j=fresh D∨(aA D.nodes j).isSome=true:=fun j hj=>by
   simp only [aA] at hj
   by_cases hj2:j=fresh D
   ·exact .inl hj2
   ·exact .inr (by simpa [hj2] using hj)
  rcases key j hj with h1|h1<;>rcases key k hk with h2|h2
  ·rw [h1,h2]
  ·simp only [h1,if_true,hne k h2,if_false] at hjk;exact absurd hjk.symm (hne0 k h2)
  ·simp only [h2,if_true,hne j h1,if_false] at hjk;exact absurd hjk (hne0 j h1)
  ·simp only [hne j h1,hne k h2,if_false] at hjk;exact h.inj j k h1 h2 hjk
theorem kp.synced (h:kp f D0 D):kp f D0.synced D.synced:=by
 have key:∀ (ms:List (List (Bs×Option Nat))) (m0 m:List (Bs×Nat)),(m0.map (·.1)).Nodup→(m.map (·.1)).Nodup→(∀ n,aA m0 n=(aA m n).map f) →
  (∀ n,aA ((ms.map (List.map fun p=>(p.1,p.2.map f))).foldl fE m0) n=(aA (ms.foldl fE m) n).map f)∧(((ms.map (List.map fun p=>(p.1,p.2.map f))).foldl fE m0).map (·.1)).Nodup∧((ms.foldl fE m).map (·.1)).Nodup:=by
  intro ms
  induction ms with
  | nil=>intro m0 m h0 h1 h;exact ⟨h,h0,h1⟩
  | cons l ms ih=>
   intro m0 m h0 h1 h
   obtain ⟨a,b,c⟩:=oy l m0 m h0 h1 h
   exact ih _ _ b c a
 obtain ⟨a,b,c⟩:=key D.moves D0.safe D.safe h.ns0 h.ns h.safe
 refine ⟨h.now,?_,rfl,h.nodes,h.inj,?_,c,h.room,h.wait,h.bad,h.reads,h.most,h.ok.synced⟩
 ·show ∀ n,aA (D0.moves.foldl fE D0.safe) n=_
  rw [h.moves];exact a
 ·show ((D0.moves.foldl fE D0.safe).map (·.1)).Nodup
  rw [h.moves];exact b
end
section
variable {W0 w:World} {F l:List ah} {v:Value} {d:Nat} {D:ad} {n m:Bs}
theorem Sat.m7 (h:Sat W0 (ag d D::F) w):∃ D0 f,kp f D0 D∧D0.Ok∧Sat W0 (eh d D0::F) w:=by
 obtain ⟨⟨D0,f⟩,hs,h1⟩:=h.eI (φ:=fun z:ad×(Nat→Nat)=>kp z.2 z.1 D) (B:=fun z=>[eh d z.1]) fun hp ⟨D0,f,hs,k⟩=>⟨⟨D0,f⟩,hs,hp,fun _=>none,fun _ _ _ _ hy=>(by cases hy),Hp.le_refl _,fun _ _ hx=>(by cases hx),k,trivial⟩
 exact ⟨D0,f,hs,h1.fQ fun _ k=>k.1,h1⟩
theorem Sat.ig {D0:ad} {f:Nat→Nat} (hs:kp f D0 D) (h:Sat W0 (eh d D0::F) w):Sat W0 (ag d D::F) w:=h.head fun _ k=>⟨D0,f,hs,k⟩
theorem Sat.M7 (h:Sat W0 (ag d D::F) w):D.Ok:=h.fQ fun _ ⟨_,_,hs,_⟩=>hs.ok
theorem tY (hs:Sat W0 (ag d D::F) w) (hm:D.moves.length≤1099511627776) :
 Calls Tryz.prog 78 #[au d,str n] w fun x w'=>∃ ve,x=.returned ve∧Sat W0 (ag d (cT D n)::ax ve (gm D n)::F) w':=by
 obtain ⟨D0,f,h,h0,hs⟩:=hs.m7
 refine (zH (n:=n) hs (by rw [h.moves,List.length_map];exact hm)).mono ?_
 rintro _ w' ⟨ve,e,D',rfl,hc,hs⟩
 refine ⟨ve,rfl,?_⟩
 have hsome:(aA D0.now n).isSome=(aA D.now n).isSome:=by rw [h.now];cases aA D.now n<;>rfl
 have hnone:aA D0.now n=none→aA D.now n=none:=fun h1=>by rw [h.now] at h1;cases hx:aA D.now n<;>simp_all
 unfold cT gm
 rcases hc with ⟨h1,rfl,rfl⟩|⟨h1,h2,rfl,rfl⟩|⟨h1,h2,rfl,i,h3,rfl⟩
 ·rw [h.eg] at h1;rw [if_pos h1,if_pos h1]
  exact hs.ig h.tick
 ·rw [h.eg] at h1;rw [hsome] at h2
  simp only [h1,h2,Bool.false_eq_true,if_false,if_true]
  exact hs.ig h.tick
 ·rw [h.eg] at h1
  have h4:=hnone h2
  simp only [h1,h4,Option.isSome_none,Bool.false_eq_true,if_false]
  exact hs.ig (h.tick.created h0.tick (by rw [Pure.ad.et];exact h3) (by rw [Pure.ad.cW];exact h4))
theorem HJ (hs:Sat W0 (ag d D::F) w) :
 Calls Tryz.prog 160 #[au d,str n] w fun x w'=>∃ ve,x=.returned (.tuple #[.int .i64 (jU D n:Int),ve])∧Sat W0 (ag d D.tick::ax ve (bz D n)::F) w':=by
 obtain ⟨D0,f,h,h0,hs⟩:=hs.m7
 refine (Fy (n:=n) hs).mono ?_
 rintro _ w' ⟨ve,rfl,hs⟩
 rw [h.nG] at hs ⊢
 refine ⟨ve,?_,hs.ig h.tick⟩
 unfold jU fileOf
 cases bz D n with
 | some e=>rfl
 | none=>
  simp only [h.now]
  cases hg:aA D.now n with
  | none=>rfl
  | some i=>simp only [Option.map_some,h.ox (h.has hg)]
theorem kp.yd {f:Nat→Nat} {D0:ad} (h:kp f D0 D) {g0 g:Nat→ad} (k:∀ i,bz D n=none→aA D.now n=some i→kp f (g0 (f i)) (g i)):kp f (gM D0 n g0) (gM D n g):=by
 unfold YtecibefflhomdaaGreatDoor.gM
 rw [h.nG,h.now]
 cases he:bz D n with
 | some e=>exact h.tick
 | none=>
  cases hg:aA D.now n with
  | none=>exact h.tick
  | some i=>exact k i he hg
theorem ye (h:D.Ok) (i:Nat) (x:Bs×Nat) (hx:x.1=D.aH i):(D.laid i x).Ok:=h.laid (Nat.le_trans (Pure.ad.km (k:=0) h (by rw [hx];rfl)) h.used)
theorem yf (hs:Sat W0 (ag d D::F) w) :
 Calls Tryz.prog 86 #[au d,str n] w fun x w'=>∃ ve,x=.returned ve∧Sat W0 (ag d (dR D n)::ax ve (bz D n)::F) w':=by
 obtain ⟨D0,f,h,h0,hs⟩:=hs.m7
 refine (Fz (n:=n) hs).mono ?_
 rintro _ w' ⟨ve,rfl,hs⟩
 rw [h.nG] at hs
 refine ⟨ve,rfl,hs.ig (h.yd fun i he hg=>?_)⟩
 have hi:=h.has hg
 rw [h.ox hi]
 exact h.tick.laid (by rw [Pure.ad.et];exact hi) _ (ye h.ok.tick _ _ (by simp))
theorem tZ (hs:Sat W0 (ag d D::F) w) (hm:D.moves.length≤1099511627776) :
 Calls Tryz.prog 77 #[au d,str n] w fun x w'=>∃ ve,x=.returned ve∧Sat W0 (ag d (fq D n)::ax ve (bz D n)::F) w':=by
 obtain ⟨D0,f,h,h0,hs⟩:=hs.m7
 refine (zI (n:=n) hs (by rw [h.moves,List.length_map];exact hm)).mono ?_
 rintro _ w' ⟨ve,rfl,hs⟩
 rw [h.nG] at hs
 exact ⟨ve,rfl,hs.ig (h.yd fun i he hg=>h.tick.fL h0.tick n)⟩
theorem HL (hs:Sat W0 (ag d D::F) w) (hm:D.moves.length≤1099511627776) :
 Calls Tryz.prog 177 #[au d,str n,str m] w fun x w'=>∃ ve,x=.returned ve∧Sat W0 (ag d (fM D n m)::ax ve (bz D n)::F) w':=by
 obtain ⟨D0,f,h,h0,hs⟩:=hs.m7
 refine (zJ (n:=n) (m:=m) hs (by rw [h.moves,List.length_map];exact hm)).mono ?_
 rintro _ w' ⟨ve,rfl,hs⟩
 rw [h.nG] at hs
 refine ⟨ve,rfl,hs.ig (h.yd fun i he hg=>?_)⟩
 by_cases hnm:n=m
 ·rw [if_pos hnm,if_pos hnm];exact h.tick
 ·rw [if_neg hnm,if_neg hnm];exact h.tick.renamed h0.tick hnm (by rw [Pure.ad.cW];exact hg)
theorem kp.zM {f:Nat→Nat} {D0:ad} (h:kp f D0 D) (h0:D0.Ok) (n bs:Bs):dX D0 n bs=dX D n bs:=by
 unfold YtecibefflhomdaaGreatDoor.dX;rw [h.nG,h.room,h.used h0]
theorem yg {bs:Bs} (he:dX D n bs=none):bz D n=none∧(D.used:Int)+bs.length≤D.room:=by
 unfold dX at he
 split at he
 ·cases he
 ·rename_i hf
  split at he
  ·cases he
  ·exact ⟨hf,by omega⟩
theorem ub {bs:Bs} {vb:Value} (hs:Sat W0 (ag d D::cC vb bs::F) w) :
 Calls Tryz.prog 79 #[au d,str n,vb] w fun x w'=>∃ ve,x=.returned ve∧Sat W0 (ag d (bZ D n bs)::cC vb bs::ax ve (dX D n bs)::F) w':=by
 obtain ⟨D0,f,h,h0,hs⟩:=hs.m7
 refine (zK (n:=n) hs).mono ?_
 rintro _ w' ⟨ve,rfl,hs⟩
 rw [h.zM h0] at hs
 refine ⟨ve,rfl,hs.ig (f:=f) ?_⟩
 unfold bZ
 rw [h.zM h0]
 cases he:dX D n bs with
 | some e=>exact h.tick
 | none=>
  rw [h.now]
  cases hg:aA D.now n with
  | none=>exact h.tick
  | some i=>
   simp only [Option.map_some]
   have hi:=h.has hg
   rw [h.ox hi,h.Ki hi]
   obtain ⟨_,hroom⟩:=yg he
   have hr:=h.ok.room1
   refine h.tick.laid (by rw [Pure.ad.et];exact hi) _ (h.ok.tick.laid (Nat.le_trans (Pure.ad.km (k:=bs.length) h.ok.tick (by simp)) ?_))
   rw [Pure.ad.lO];omega
theorem FC (hs:Sat W0 (ag d D::F) w) :
 Calls Tryz.prog 178 #[au d] w fun x w'=>∃ ve,x=.returned ve∧Sat W0 (ag d (fh D)::ax ve (if D.eg=true then some (some [],8) else none)::F) w':=by
 obtain ⟨D0,f,h,h0,hs⟩:=hs.m7
 refine (yc hs).mono ?_
 rintro _ w' ⟨ve,rfl,hs⟩
 rw [h.eg] at hs
 refine ⟨ve,rfl,hs.ig (f:=f) ?_⟩
 unfold fh
 rw [h.eg]
 split
 ·exact h.tick
 ·exact h.tick.synced
theorem kp.HM {f:Nat→Nat} {D0:ad} (h:kp f D0 D) (n:Int):kp f (counted D0 n) (counted D n):=
 ⟨h.now,h.safe,h.moves,h.nodes,h.inj,h.ns0,h.ns,h.room,h.wait,h.bad,by simp [YtecibefflhomdaaGreatDoor.counted,h.reads],by simp [YtecibefflhomdaaGreatDoor.counted,h.most],tV h.ok n⟩
theorem qi {nm:Bs} {at_ n:Int} (hs:Sat W0 (ag d D::F) w) (ha1:-9223372036854775808≤at_) (ha2:at_≤9223372036854775807) (hn1:-9223372036854775808≤n) (hn2:n≤9223372036854775807) :
 Calls Tryz.prog 161 #[au d,str nm,.int .i64 at_,.int .i64 n] w fun x w'=>∃ v ve,x=.returned (.tuple #[v,ve])∧Sat W0 (ag d (counted D n).tick::cC v (iC D nm at_ n)::ax ve (bz D nm)::F) w':=by
 obtain ⟨D0,f,h,h0,hs⟩:=hs.m7
 refine (zL (nm:=nm) hs ha1 ha2 hn1 hn2).mono ?_
 rintro _ w' ⟨v,ve,rfl,hs⟩
 rw [h.nG] at hs
 have e:D6 D0 nm at_ n=iC D nm at_ n:=by
  unfold D6 iC fileOf
  rw [h.nG]
  cases he:bz D nm with
  | some e=>rfl
  | none=>
   simp only [h.now]
   cases hg:aA D.now nm with
   | none=>simp [fz]
   | some i=>simp only [Option.map_some,h.ox (h.has hg)]
 rw [e] at hs
 exact ⟨v,ve,rfl,hs.ig (h.HM n).tick⟩
theorem wC {room:Int} (hs:Sat W0 F w) (h0:0≤room) (h1:room≤2199023255552) :
 Calls Tryz.prog 22 #[.int .i64 room] w fun x w'=>∃ d,x=.returned (au d)∧Sat W0 (ag d (dB room)::F) w':=by
 refine (qg hs h0 h1).mono ?_
 rintro _ w' ⟨d,rfl,hs⟩
 refine ⟨d,rfl,hs.ig (f:=id) ⟨fun n=>?_,fun n=>?_,rfl,fun i x hx=>?_,fun i j hi=>?_,?_,?_,rfl,rfl,rfl,rfl,rfl,tW h0 h1⟩⟩
 ·simp [dB,aA]
 ·simp [dB,aA]
 ·simp [dB,aA] at hx
 ·simp [dB,aA] at hi
 ·simp [dB]
 ·simp [dB]
theorem mH {a t:Int} (hs:Sat W0 (ag d D::F) w) (ha2:a≤9223372036854775807) (ht2:t≤9223372036854775807) :
 Calls Tryz.prog 24 #[au d,.int .i64 a,.int .i64 t] w fun x w'=>x=.returned (.tuple #[])∧Sat W0 (ag d (bx D a t)::F) w':=by
 obtain ⟨D0,f,h,h0,hs⟩:=hs.m7
 refine (FA hs ha2 ht2).mono ?_
 rintro _ w' ⟨rfl,hs⟩
 exact ⟨rfl,Sat.ig (D0:=bx D0 a t) (f:=f) ⟨h.now,h.safe,h.moves,h.nodes,h.inj,h.ns0,h.ns,h.room,rfl,rfl,h.reads,h.most,mG h.ok ha2 ht2⟩ hs⟩
end
end
section
open Go.Proofs.YtecibefflhomdaaGreatDoor.Pure (bM bE we kD wc iS aD aU az cY Rd j3 bI pd xM)
attribute [local irreducible] IntKind.wrap
variable {W0 w:World} {F:List ah} {v vr:Value} {bs:Bs} {r:Nat} {rd:Rd}
def vJ (r:Nat) (rd:Rd):ah:=fun h=>∃ vr,cV [blk r 190 [vr,.bool rd.bad],vw vr rd.rest] h
theorem Sat.nH (h:Sat W0 (vJ r rd::F) w):∃ vr,True∧Sat W0 ([blk r 190 [vr,.bool rd.bad],vw vr rd.rest]++F) w:=h.eI fun hp ⟨vr,k⟩=>⟨vr,trivial,k⟩
theorem Sat.fN (h:Sat W0 (blk r 190 [vr,.bool rd.bad]::vw vr rd.rest::F) w):Sat W0 (vJ r rd::F) w:=Sat.close (B:=[blk r 190 [vr,.bool rd.bad],vw vr rd.rest]) h fun hp k=>⟨vr,k⟩
theorem mI {N:Int} (hs:Sat W0 (vJ r rd::F) w) (hl:rd.rest.length≤140737488355328) (h1:-9223372036854775808≤N) (h2:N≤9223372036854775807) :
 Calls Tryz.prog 164 #[.pointer (some ⟨r,0,none⟩),.int .i64 N] w fun x w'=>∃ v',x=.returned v'∧Sat W0 (vJ r (rd.bytes N).2::vw v' (rd.bytes N).1::F) w':=by
 obtain ⟨vr,-,hs⟩:=hs.nH
 dsimp only [List.cons_append,List.nil_append] at hs
 obtain ⟨rs,bad⟩:=rd
 dsimp only at hs hl
 obtain ⟨a,c,rfl,hc⟩:=(hs.take (.there .here)).fD
 refine enter Tryz.func164 rfl Tryz.ntmps164 Tryz.results164 rfl ?_
 by_cases hbad:(bad=true∨N<0∨(rs.length:Int)<N)
 ·have hp:Rd.bytes ⟨rs,bad⟩ N=([],⟨rs,true⟩):=by unfold Rd.bytes;rw [if_pos hbad]
  rw [hp]
  have fin:∀ w,Sat W0 (blk r 190 [.slice a rs.length c,.bool true]::vw (.slice a rs.length c) rs::F) w→∃ v',Ending.returned (tr [.slice none 0 0])=.returned v'∧Sat W0 (vJ r ⟨rs,true⟩::vw v' []::F) w:=fun w hs=>
   ⟨_,rfl,Sat.fN (rd:=⟨rs,true⟩) ((hs.oL (.inl rfl) (fun _=>rfl)).to)⟩
  by_cases hb:bad=true
  ·subst hb
   refine go ?_
   refine bD hs fun w hs=>?_
   refine go ?_
   exact ak rfl (fin _ hs)
  ·have hb':bad=false:=by simpa using hb
   subst hb'
   by_cases hn:N<0
   ·refine go ?_
    refine bD hs fun w hs=>?_
    refine go ?_
    exact ak rfl (fin _ hs)
   ·have hn2:(rs.length:Int)<N:=by simp at hbad;omega
    refine go ?_
    refine bD hs fun w hs=>?_
    refine go ?_
    exact ak rfl (fin _ hs)
 ·have hp:Rd.bytes ⟨rs,bad⟩ N=(rs.take N.toNat,⟨rs.drop N.toNat,false⟩):=by unfold Rd.bytes;rw [if_neg hbad]
  rw [hp]
  simp only [not_or] at hbad
  obtain ⟨hb,hn,hn2⟩:=hbad
  have hb':bad=false:=by simpa using hb
  subst hb'
  have hn3:¬ N > (rs.length:Int):=hn2
  refine go ?_
  refine LY (m:=N.toNat) hs (.there .here) rfl rfl (by omega) (by omega) rfl fun v1 hs=>?_
  refine go ?_
  refine LZ (m:=N.toNat) hs (.there (.there .here)) rfl rfl (by omega) (by omega) rfl fun v2 hs=>?_
  refine go ?_
  obtain ⟨a2,c2,rfl,-⟩:=hs.fD
  refine bD hs fun w hs=>?_
  refine go ?_
  exact ak rfl ⟨_,rfl,Sat.fN (rd:=⟨rs.drop N.toNat,false⟩) hs.to⟩
theorem fc {K:Nat} (hs:Sat W0 (vJ r rd::F) w) (hl:rd.rest.length≤140737488355328) (hK:K≤8) :
 Calls Tryz.prog 93 #[.pointer (some ⟨r,0,none⟩),.int .i64 (K:Int)] w fun x w'=>x=.returned (.int .u64 ((rd.num K).1:Int))∧Sat W0 (vJ r (rd.num K).2::F) w':=by
 refine enter Tryz.func93 rfl Tryz.ntmps93 Tryz.results93 rfl ?_
 refine go ?_
 refine ae (met (mI (N:=(K:Int)) hs hl (by omega) (by omega)) ?_)
 rintro _ w ⟨v,rfl,hs⟩
 refine ⟨v,rfl,?_⟩
 have hbl:=Rd.oh rd (K:Int)
 have hfin:j3 (rd.bytes (K:Int)).1=(rd.num K).1:=rfl
 have hfin2:(rd.bytes (K:Int)).2=(rd.num K).2:=rfl
 generalize hbs:(rd.bytes (K:Int)).1=bs at hs hbl hfin
 rw [hfin2] at hs
 rw [← hfin]
 obtain ⟨a,c,rfl,hc⟩:=(hs.take (.there .here)).fD
 refine go ?_
 refine aL (α:=Nat×Nat) (fun z=>[(5,.int .u64 (z.2:Int)),(10,.slice a bs.length c),(11,.int .i64 (bs.length:Int)),(12,.int .i64 (z.1:Int))])
  (fun z w=>z.1≤bs.length∧z.2=j3 (bs.take z.1)∧Sat W0 (vJ r (rd.num K).2::vw (.slice a bs.length c) bs::F) w) (fun z=>bs.length-z.1) (0,0) ⟨rfl,rfl,rfl,rfl,trivial⟩ ⟨Nat.zero_le _,rfl,hs⟩ ?_
 clear hs
 rintro ⟨i,m⟩ w ⟨hi,hm,hs⟩
 dsimp only at hi hm hs ⊢
 have hml:m<256^i:=by rw [hm];have:=xM (bs.take i);rwa [List.length_take,Nat.min_eq_left hi] at this
 by_cases hlt:i<bs.length
 ·have hi8:i<8:=by omega
  have hml2:m<72057594037927936:=Nat.lt_of_lt_of_le hml (Nat.le_trans (Nat.pow_le_pow_right (by decide) (show i≤7 by omega)) (by decide))
  obtain ⟨z,⟨hv,hzc,hcell⟩,hs2⟩:=(hs.take (.there .here)).q9 (by intro h;subst h;simp at hlt)
  obtain ⟨rfl,rfl⟩:a=some ⟨z.b,z.o,none⟩∧c=z.c:=by simpa using hv
  have hbyte:=(bs[i]).toNat_lt
  have hc1:z.all[z.o+i*1]?=some (bV bs[i]):=by rw [Nat.mul_one];exact hcell i _ (by simp [hlt])
  refine go ?_
  refine cL (i:=i) rfl rfl rfl rfl rfl hlt rfl ?_
  refine eC hs2 rfl rfl .here hc1 rfl ?_
  refine go ?_
  have e1:(IntKind.u64.wrap ((m*2^8:Nat):Int))=((m*256:Nat):Int):=IntWalk.u64_in _ (by omega)
  refine LS (N:=m) (m:=8) rfl rfl rfl (by decide) e1 rfl ?_
  refine go ?_
  refine tb (N:=m*256) (M:=(bs[i]).toNat) (R:=m*256+(bs[i]).toNat) (k:=.u64) rfl rfl rfl (by simp only [IntKind.bits];omega) (by simp only [IntKind.bits];omega) ?_ rfl ?_
  ·simp only [LU]
   congr 1
   have:=Nat.two_pow_add_eq_or_of_lt (i:=8) hbyte m
   rw [Nat.mul_comm m 256];exact this.symm
  refine go ?_
  refine aB (i+1,m*256+(bs[i]).toNat) ⟨rfl,rfl,rfl,rfl,trivial⟩ ⟨by omega,?_,hs⟩ (by simp;omega)
  dsimp only
  rw [List.take_succ_eq_append_getElem hlt,pd,← hm]
 ·have:i=bs.length:=by omega
  subst this
  refine go ?_
  exact ak rfl ⟨by rw [hm,List.take_length];rfl,hs.to⟩
end
end Go.Proofs.YtecibefflhomdaaGreatDoor
