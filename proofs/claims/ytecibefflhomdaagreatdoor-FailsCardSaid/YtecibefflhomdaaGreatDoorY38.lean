/-
  Part 38: WALKS slices; WALKS slices; WALKS api; WALKS package levels; WALKS errors.
-/
import Derived.Test.YtecibefflhomdaaGreatDoorY36
import Derived.Shelf.Sort.Plain
set_option maxHeartbeats 8000000
set_option maxRecDepth 100000
set_option linter.all false
namespace Go.Proofs.YtecibefflhomdaaGreatDoor
open Go
section
open Go.Proofs.YtecibefflhomdaaGreatDoor.Pure (ad aQ ri p8 ew cz aN)
attribute [local irreducible] IntKind.wrap
def N7:Shelf.Ren where
 f:=fun x=>match x with|190=>45|125=>88|258=>87|128=>158|129=>159|302=>149|303=>150|304=>151|305=>152|306=>153|307=>154|308=>155|309=>156|310=>157|333=>199|329=>200|330=>201|334=>202|335=>203|336=>204|344=>225|n=>n
 t:=fun x=>match x with|31=>29|9=>9|3=>3|46=>23|0=>0|51=>124|53=>131|4=>4|183=>266|182=>265|131=>271|5=>5|218=>332|222=>335|228=>355|229=>169|n=>n
 g:=fun n=>n
theorem KR:Go.Proofs.Lays.n190 Tryz.prog N7 where
 mixed:=by kernel_rfl
 f125:=by kernel_rfl
 f128:=by kernel_rfl
 f129:=by kernel_rfl
 f190:=by kernel_rfl
 f258:=by kernel_rfl
 f302:=by kernel_rfl
 f303:=by kernel_rfl
 f304:=by kernel_rfl
 f305:=by kernel_rfl
 f306:=by kernel_rfl
 f307:=by kernel_rfl
 f308:=by kernel_rfl
 f309:=by kernel_rfl
 f310:=by kernel_rfl
 f329:=by kernel_rfl
 f330:=by kernel_rfl
 f333:=by kernel_rfl
 f334:=by kernel_rfl
 f335:=by kernel_rfl
 f336:=by kernel_rfl
 f344:=by kernel_rfl
 t0:=Tryz.underlying0
 a0:=Tryz.isAgg0
 z0:=Tryz.sizeOf0
 v0:=Tryz.zeroValue0
 t3:=Tryz.underlying3
 a3:=Tryz.isAgg3
 z3:=Tryz.sizeOf3
 v3:=Tryz.zeroValue3
 t4:=Tryz.underlying4
 a4:=Tryz.isAgg4
 z4:=Tryz.sizeOf4
 v4:=Tryz.zeroValue4
 t5:=Tryz.underlying5
 a5:=Tryz.isAgg5
 z5:=Tryz.sizeOf5
 v5:=Tryz.zeroValue5
 t9:=Tryz.underlying9
 a9:=Tryz.isAgg9
 z9:=Tryz.sizeOf9
 v9:=Tryz.zeroValue9
 t31:=Tryz.underlying29
 a31:=Tryz.isAgg29
 z31:=Tryz.sizeOf29
 v31:=Tryz.zeroValue29
 t46:=Tryz.underlying23
 a46:=Tryz.isAgg23
 z46:=Tryz.sizeOf23
 v46:=Tryz.zeroValue23
 t51:=Tryz.underlying124
 a51:=Tryz.isAgg124
 z51:=Tryz.sizeOf124
 v51:=Tryz.zeroValue124
 t53:=Tryz.underlying131
 a53:=Tryz.isAgg131
 z53:=Tryz.sizeOf131
 v53:=Tryz.zeroValue131
 t131:=Tryz.underlying271
 a131:=Tryz.isAgg271
 z131:=Tryz.sizeOf271
 v131:=Tryz.zeroValue271
 t182:=Tryz.underlying265
 a182:=Tryz.isAgg265
 z182:=Tryz.sizeOf265
 v182:=Tryz.zeroValue265
 t183:=Tryz.underlying266
 a183:=Tryz.isAgg266
 z183:=Tryz.sizeOf266
 v183:=Tryz.zeroValue266
 t218:=Tryz.underlying332
 a218:=Tryz.isAgg332
 z218:=Tryz.sizeOf332
 v218:=Tryz.zeroValue332
 t222:=Tryz.underlying335
 a222:=Tryz.isAgg335
 z222:=Tryz.sizeOf335
 v222:=Tryz.zeroValue335
 t228:=Tryz.underlying355
 a228:=Tryz.isAgg355
 z228:=Tryz.sizeOf355
 v228:=Tryz.zeroValue355
 t229:=Tryz.underlying169
 a229:=Tryz.isAgg169
 z229:=Tryz.sizeOf169
 v229:=Tryz.zeroValue169
theorem lt_iff:∀ (a b:Bs),a<b↔aQ a b=true
 | _,[]=>by simp [aQ]
 | [],_::_=>by simp [aQ]
 | a::x,b::y=>by
  rw [List.cons_lt_cons_iff,lt_iff x y]
  simp [aQ]
theorem KT (a b:Bs):decide (a≤b)=!aQ b a:=by
 have h:a≤b↔¬ (b<a):=Iff.rfl
 cases hb:aQ b a with
 | true=>simp [h,lt_iff,hb]
 | false=>simp [h,lt_iff,hb]
theorem oZ {a b:List Bs} (h:a.Perm b):kT a=kT b:=by
 unfold kT
 have e:(fun x y:Bs=>decide (x≤y))=fun x y=>!aQ y x:=funext fun x=>funext fun y=>KT x y
 rw [e]
 have htr:∀ a b c:Bs,(!aQ b a)=true→(!aQ c b)=true→(!aQ c a)=true:=fun a b c h1 h2=>by
  simp only [Bool.not_eq_true'] at h1 h2 ⊢
  exact ri h1 h2
 have hto:∀ a b:Bs,((!aQ b a)||(!aQ a b))=true:=fun a b=>by
  rcases ew a b with h|h|h
  ·rw [cz h];rfl
  ·rw [h,aN];rfl
  ·rw [cz h];simp
 refine List.Perm.eq_of_pairwise (le:=fun x y=>(!aQ y x)=true) ?_ (List.pairwise_mergeSort htr hto a) (List.pairwise_mergeSort htr hto b) (((List.mergeSort_perm a _).trans h).trans (List.mergeSort_perm b _).symm)
 intro x y _ _ h1 h2
 simp only [Bool.not_eq_true'] at h1 h2
 exact p8 h2 h1
end
section
open Go.Proofs.YtecibefflhomdaaGreatDoor.Pure (ad aA)
attribute [local irreducible] IntKind.wrap
variable {W0 w:World} {F l:List ah} {v:Value} {d:Nat} {D:ad}
theorem Sat.grow (h:Sat W0 l w) (os:Array Obj):Sat W0 l (Go.Sort.grow w os):=by
 obtain ⟨a,b,c,d,hp,e,f,r⟩:=h
 refine ⟨a,b,c,by simp [Go.Sort.grow];omega,hp,fun i x hx=>?_,f,r⟩
 have h1:=e i x hx
 have h2:=(Array.getElem?_eq_some_iff.1 h1).1
 show (w.heap++os)[i]?=_
 rw [Array.getElem?_append_left h2];exact h1
theorem Gx (ss ss':List Bs) (rest:List Value) (hl:ss'.length=ss.length):Go.Sort.putCells Go.Proofs.encStr 0 ss'.toArray ((ss.map str++rest).toArray)=(ss'.map str++rest).toArray:=by
 apply Array.ext'
 apply List.ext_getElem?
 intro j
 simp only [Go.Sort.putCells]
 rw [Array.getElem?_toList,Array.getElem?_mapIdx,Array.getElem?_toList]
 simp only [List.getElem?_toArray]
 by_cases hj:j<ss'.length
 ·rw [List.getElem?_append_left (by simp;omega),List.getElem?_append_left (by simpa using hj),List.getElem?_map,List.getElem?_map,List.getElem?_eq_getElem (by omega),List.getElem?_eq_getElem hj]
  simp [hj]
 ·rw [List.getElem?_append_right (by simp;omega),List.getElem?_append_right (by simp;omega)]
  have e1:(ss.map str).length=(ss'.map str).length:=by simp [hl]
  rw [e1]
  cases rest[j-(ss'.map str).length]? with
  | none=>rfl
  | some x=>simp [hj]
theorem C3 {b c:Nat} {ss:List Bs} {rest:List Value} (hs:Sat W0 (blk b 9 (ss.map str++rest)::F) w) (hlen:ss.length≤1099511627776) :
 Calls Tryz.prog 45 #[.slice (some ⟨b,0,none⟩) ss.length c] w fun x w'=>x=.returned (.tuple #[])∧Sat W0 (blk b 9 ((kT ss).map str++rest)::F) w':=by
 have hb:=hs.fC
 have hlt:b<w.heap.size:=(Array.getElem?_eq_some_iff.1 hb).1
 refine (Go.Proofs.Any.slices_Sort_string KR b 0 c ss w (fun j hj=>?_) hlt (by omega)).mono ?_
 ·have hj':j<ss.length:=by simpa using hj
  refine ⟨?_,hs.free .here _⟩
  rw [hs.cell .here,Nat.zero_add,List.getElem?_append_left (by simpa using hj'),List.getElem?_map,List.getElem?_eq_getElem hj']
  simp [hj']
 ·rintro x w' ⟨rfl,n,os,rfl⟩
  refine ⟨rfl,Sat.grow ?_ os⟩
  have hl:(kT ss).length=ss.length:=(List.mergeSort_perm ss _).length_eq
  refine Sat.kx (w:=w) (o:=.cells (ss.map str++rest).toArray 9 (0,0)) hs rfl rfl rfl ?_ ?_ ?_
  ·simp [Go.Sort.putRow,Go.Sort.mapBlock,Go.Sort.ahead]
  ·simp only [Go.Sort.putRow,Go.Sort.mapBlock,Go.Sort.ahead,Array.getElem?_modify,hb]
   simp only [if_true,Option.map_some,Go.Sort.onCells]
   have:=Gx ss (kT ss) rest hl
   unfold kT at this ⊢
   rw [this]
  ·intro i hi
   simp only [Go.Sort.putRow,Go.Sort.mapBlock,Go.Sort.ahead,Array.getElem?_modify]
   rw [if_neg (by omega)]
theorem Jc {v:Value} (hs:Sat W0 F w):Calls Tryz.prog 149 #[v,.int .i64 0,.int .i64 0] w fun x w'=>∃ u,x=.returned u∧Sat W0 F w':=by
 refine enter Tryz.func149 rfl Tryz.ntmps149 Tryz.results149 rfl ?_
 refine gx ?_
 refine aL (α:=Unit) (fun z=>[(0,v),(1,.int .i64 0),(2,.int .i64 0),(6,.int .i64 1)]) (fun z w=>Sat W0 F w) (fun z=>0) () ⟨rfl,rfl,rfl,rfl,trivial⟩ hs ?_
 clear hs
 rintro _ w hs
 refine gx ?_
 exact gB rfl ⟨_,rfl,hs⟩
theorem Gy (hs:Sat W0 F w):Calls Tryz.prog 45 #[.slice none 0 0] w fun x w'=>∃ u,x=.returned u∧Sat W0 F w':=by
 refine enter Tryz.func45 rfl Tryz.ntmps45 Tryz.results45 rfl ?_
 refine gx ?_
 refine ae (met (wI (n:=0) (by omega) hs) ?_)
 clear hs
 rintro _ w ⟨k,rfl,hs⟩
 refine ⟨_,rfl,?_⟩
 refine gx ?_
 refine ae (f:=87) ?_
 refine met (R:=fun x w'=>∃ u,x=.returned u∧Sat W0 F w') ?_ ?_
 ·refine enter Tryz.func87 rfl Tryz.ntmps87 Tryz.results87 rfl ?_
  refine gx ?_
  refine aL (α:=Unit) (fun z=>[(0,.slice none 0 0),(1,.int .i64 0),(2,.int .i64 0),(3,.int .i64 (k:Int))]) (fun z w=>Sat W0 F w) (fun z=>0) () ⟨rfl,rfl,rfl,rfl,trivial⟩ hs ?_
  clear hs
  rintro _ w hs
  refine gx ?_
  refine ae (met (Jc hs) ?_)
  clear hs
  rintro _ w ⟨u,rfl,hs⟩
  refine ⟨_,rfl,?_⟩
  refine gx ?_
  exact ak rfl ⟨_,rfl,hs⟩
 ·clear hs
  rintro _ w ⟨u,rfl,hs⟩
  refine ⟨_,rfl,?_⟩
  refine gx ?_
  exact gB rfl ⟨_,rfl,hs⟩
theorem C4 {ss:List Bs} (hs:Sat W0 (aE 1 v 9 ss.length (ss.map str)::F) w) (hlen:ss.length≤1099511627776) :
 Calls Tryz.prog 45 #[v] w fun x w'=>∃ u,x=.returned u∧Sat W0 (aE 1 v 9 (kT ss).length ((kT ss).map str)::F) w':=by
 have hl:(kT ss).length=ss.length:=(List.mergeSort_perm ss _).length_eq
 by_cases hv:v=.slice none 0 0
 ·subst hv
  have h0:ss=[]:=by
   obtain ⟨a,c,h1,h2,_⟩:=hs.ay
   simp only [Value.slice.injEq] at h1
   exact List.eq_nil_of_length_eq_zero h1.2.1.symm
  subst h0
  refine (Gy hs).mono ?_
  rintro x w' ⟨u,rfl,hs⟩
  exact ⟨u,rfl,by simpa [kT] using hs⟩
 ·obtain ⟨b,cap,rest,rfl,q1,q2,q3,h2⟩:=hs.iT hv
  refine (C3 h2 hlen).mono ?_
  rintro x w' ⟨rfl,hs⟩
  refine ⟨_,rfl,?_⟩
  rw [← hl] at q1 q3 ⊢
  refine Sat.dK hs q1 q2 q3 (by simp) fun u hu=>?_
  obtain ⟨x,_,rfl⟩:=List.mem_map.1 hu
  rfl
end
section
open Go.Proofs.YtecibefflhomdaaGreatDoor.Pure (ad aA)
attribute [local irreducible] IntKind.wrap
variable {W0 w:World} {F l:List ah} {v:Value} {d:Nat} {D:ad}
abbrev Gz (v:Value) (ss:List Bs):ah:=aE 1 v 9 ss.length (ss.map str)
theorem GA (hs:Sat W0 (eh d D::F) w) (hn:D.now.length≤1099511627776) :
 Calls Tryz.prog 15 #[au d] w fun x w'=>∃ v,x=.returned v∧Sat W0 (eh d D::Gz v (fu D)::F) w':=by
 obtain ⟨hok,z,hs⟩:=hs.eR
 dsimp only [fK,aX,List.cons_append,List.nil_append] at hs
 refine enter Tryz.func15 rfl Tryz.ntmps15 Tryz.results15 rfl ?_
 refine gx ?_
 refine nA cu hs (.there .here) rfl rfl rfl ?_
 clear hs
 intro w it hs
 have hs:=Sat.cP (k:=1) (E:=9) hs
 refine gx ?_
 refine aL (α:=List (Bs×Nat)×List Bs×Value) (fun y=>[(0,au d),(3,y.2.2),(9,.pointer (some ⟨it,0,none⟩))])
  (fun y w=>((y.2.1++y.1.map (·.1)).Perm (D.now.map (·.1)))∧∃ last,Sat W0 (Gz y.2.2 y.2.1::fy cu z.bn it (aM D.now) (aM y.1) last::blk d 111 (aX z D)::aO cu z.bs (aM D.safe)::eP z.mv D.moves::star (D.nodes.map dA)::F) w) (fun y=>y.1.length)
  (D.now,[],.slice none 0 0) ⟨rfl,rfl,rfl,trivial⟩ ⟨.refl _,none,hs.to⟩ ?_
 clear hs
 rintro ⟨left,acc,v⟩ w ⟨hp,last,hs⟩
 dsimp only at hp hs ⊢
 refine gx ?_
 refine pZ cu hs (.there .here) rfl rfl (fun h0=>?_) (fun l1 x l2 w hl hs=>?_)
 ·have hl0:left=[]:=by simpa [aM] using h0
  subst hl0
  rw [List.map_nil,List.append_nil] at hp
  have hs:=(hs.take (.there .here)).lP
  refine gx ?_
  have hlen:acc.length≤1099511627776:=by have:=hp.length_eq;rw [List.length_map] at this;omega
  refine ae (met (C4 (hs.take (.there .here)) hlen) ?_)
  clear hs
  rintro _ w ⟨u,rfl,hs⟩
  refine ⟨_,rfl,?_⟩
  have he:kT acc=fu D:=by unfold fu;exact oZ hp
  rw [he] at hs
  refine gx ?_
  exact ak rfl ⟨_,rfl,Sat.cU (z:=z) hok hs.to⟩
 ·obtain ⟨a,p,b,rfl,rfl,hab⟩:=iZ hl
  rw [hab] at hs
  have hlen:=hp.length_eq
  simp only [List.length_append,List.length_map,List.length_cons] at hlen
  refine gx ?_
  refine nB cu hs .here rfl rfl ?_
  refine gx ?_
  refine fw hs ?_
  clear hs
  intro w b2 hs
  refine gx ?_
  refine dF hs ?_
  clear hs
  intro v2 w hs
  refine gx ?_
  refine aB (a++b,acc++[p.1],v2) ⟨rfl,rfl,rfl,trivial⟩ ⟨?_,some (p.1,au p.2),?_⟩ (by simp)
  ·refine List.Perm.trans ?_ hp
   simp only [List.map_append,List.map_cons,List.append_assoc,List.singleton_append]
   refine List.Perm.append_left acc ?_
   exact List.perm_middle.symm
  ·have h3:=hs.head (A':=Gz v2 (acc++[p.1])) fun hp k=>by
    unfold Gz
    rw [List.length_append,List.length_singleton,List.map_append]
    exact k
   exact h3.to
theorem MV (hs:Sat W0 (ag d D::F) w) (hn:D.now.length≤1099511627776) :
 Calls Tryz.prog 15 #[au d] w fun x w'=>∃ v,x=.returned v∧Sat W0 (ag d D::Gz v (fu D)::F) w':=by
 obtain ⟨D0,f,h,h0,hs⟩:=hs.m7
 have hp:=h.perm h0
 have hl:fu D0=fu D:=by
  unfold fu
  refine oZ ?_
  have:=hp.map (·.1)
  rwa [List.map_map] at this
 refine (GA hs (by have:=hp.length_eq;rw [List.length_map] at this;omega)).mono ?_
 rintro _ w' ⟨v,rfl,hs⟩
 rw [hl] at hs
 exact ⟨v,rfl,hs.ig h⟩
end
section
open Go.Proofs.YtecibefflhomdaaGreatDoor.Pure (ad az Rd bI less aQ aZ bM bE aD cY dec j3 dT bO gH bj aU dP Sc GR lV aA cx eD)
attribute [local irreducible] IntKind.wrap
variable {W0 w:World} {F:List ah} {v:Value} {b d m p:Nat} {o:ji} {cl:Bool} {be:Option cy} {s:St} {D D':ad}
def pL (cl:Bool) (be:Option cy) (s:St) (D:ad):Option cy×ad:=match jl cl be with
 | some e=>(some e,D)
 | none=>(bz D s.log,dR D s.log)
theorem iK (hs:Sat W0 (dh b d o cl be s::ag d D::F) w) :
 Calls Tryz.prog 44 #[au b] w fun y w'=>∃ ve,y=.returned ve∧Sat W0 (dh b d o true be s::ag d (pL cl be s D).2::ax ve (pL cl be s D).1::F) w':=by
 obtain ⟨hl,br,z,hs⟩:=hs.nT
 refine nK Tryz.func44 rfl Tryz.ntmps44 Tryz.results44 rfl ?_
 refine gx ?_
 refine lq hs ?_
 clear hs
 intro w hs
 have hs:Sat W0 (blk b 133 (aj (KS d o cl br 1) z s)::ax br be::dQ d z s.levels::aR z.m s.mem::aO bB z.sn (aC s.snaps)::ag d D::F) w:=hs
 refine gx ?_
 refine jV rfl ?_
 refine gx ?_
 refine ae (met (gP (K:=KS d o cl br 1) (be:=be) hs) ?_)
 clear hs
 rintro _ w ⟨ve,rfl,hs⟩
 refine ⟨_,rfl,?_⟩
 have hb:vM (KS d o cl br 1) be=jl cl be:=rfl
 rw [hb] at hs
 unfold pL
 refine gz ?_
 refine db rfl ?_
 refine gx ?_
 refine bD hs ?_
 clear hs
 intro w hs
 have hs:Sat W0 (ax ve (jl cl be)::blk b 133 (aj (KS d o true br 1) z s)::ax br be::dQ d z s.levels::aR z.m s.mem::aO bB z.sn (aC s.snaps)::ag d D::F) w:=hs
 cases hbx:jl cl be with
 | some e=>
  rw [hbx] at hs
  obtain ⟨t,u,rfl⟩:=hs.aW
  refine gx ?_
  refine ft (.inl rfl) hs ?_
  clear hs
  intro w hs
  exact ⟨_,rfl,Sat.fP (z:=z) hl hs.to⟩
 | none=>
  rw [hbx] at hs
  have hve:=hs.cF
  subst hve
  refine gx ?_
  refine bU [blk b 133 (aj (KS d o true br 1) z s)] [(0,false),(1,false),(2,false),(3,false),(4,false),(5,false),(6,false),(7,false),(8,true),(9,false)] hs (by kernel_rfl) ?_
  clear hs
  intro w hs
  refine gx ?_
  refine ae (met (yf (n:=s.log) (F:=blk b 133 (aj (KS d o true br 1) z s)::ax br be::dQ d z s.levels::aR z.m s.mem::aO bB z.sn (aC s.snaps)::F) hs.to) ?_)
  clear hs
  rintro _ w ⟨ve,rfl,hs⟩
  refine ⟨_,rfl,?_⟩
  refine gx ?_
  refine ft (.inl rfl) hs ?_
  clear hs
  intro w hs
  exact ⟨_,rfl,Sat.fP (z:=z) hl hs.to⟩
def Ov (b d:Nat) (o:ji) (cl:Bool):Except cy St→ah
 | .ok s=>dh b d o cl none s
 | .error e=>fun h=>∃ s,dh b d o cl (some e) s h
theorem Sat.EH {K:SK} {x:Except cy St} (h:Sat W0 (Bv b K x::F) w):∃ s',(∀ r,x=.ok r→s'=r)∧Sat W0 (ni b K s'::F) w:=by
 cases x with
 | ok r=>exact ⟨r,fun _ hh=>(Except.ok.inj hh),h⟩
 | error e=>
  obtain ⟨s',_,hs⟩:=h.eI (φ:=fun _:St=>True) (B:=fun s'=>[ni b K s']) fun hp ⟨s',k⟩=>⟨s',trivial,hp,fun _=>none,fun _ _ _ _ hy=>(by cases hy),Hp.le_refl _,fun _ _ hx=>(by cases hx),k,trivial⟩
  exact ⟨s',fun _ hh=>(by cases hh),hs⟩
theorem Sat.EI {x:Except cy St} {s':St} {br:Value} (hx:∀ r,x=.ok r→s'=r) (h:Sat W0 (ni b (KS d o cl br 0) s'::ax br (dk x)::F) w):Sat W0 (Ov b d o cl x::F) w:=by
 cases x with
 | ok r=>
  obtain rfl:=hx r rfl
  exact Sat.yC h
 | error e=>exact (Sat.yC h).head fun _ k=>⟨s',k⟩
theorem Sat.Jd {o':Option cy} (h:Sat W0 (ax v o'::F) w):Sat W0 (ax v o'::ax v o'::F) w:=Sat.qm (Ag v o') h
theorem Sat.C5 {o':Option cy} (h:Sat W0 (ax v o'::F) w):dD v=true:=by
 cases o' with
 | none=>rw [h.cF];rfl
 | some e=>obtain ⟨t,u,rfl⟩:=h.aW;rfl
theorem C6 {x:Except cy St} (hg:jl cl be=none) (h:me o s D=some (x,D')) (hW:jB W0) (hs:Sat W0 (dh b d o cl be s::ag d D::F) w) :
 Calls Tryz.prog 75 #[au b] w fun y w'=>∃ ve,y=.returned ve∧Sat W0 (Ov b d o cl x::ag d D'::ax ve (dk x)::F) w':=by
 obtain ⟨hl,br,z,hs⟩:=hs.nT
 refine nK Tryz.func75 rfl Tryz.ntmps75 Tryz.results75 rfl ?_
 refine gx ?_
 refine lq hs ?_
 clear hs
 intro w hs
 have hs:Sat W0 (blk b 133 (aj (KS d o cl br 1) z s)::ax br be::dQ d z s.levels::aR z.m s.mem::aO bB z.sn (aC s.snaps)::ag d D::F) w:=hs
 refine gx ?_
 refine jV rfl ?_
 refine gx ?_
 refine ae (met (gP (K:=KS d o cl br 1) (be:=be) hs) ?_)
 clear hs
 rintro _ w ⟨ve,rfl,hs⟩
 refine ⟨_,rfl,?_⟩
 have hb:vM (KS d o cl br 1) be=jl cl be:=rfl
 rw [hb] at hs
 rw [hg] at hs
 have hve:=hs.cF
 subst hve
 refine gx ?_
 have hs:=Sat.bP (K:=KS d o cl br 1) (z:=z) hl (hs.to (a:=blk b 133 (aj (KS d o cl br 1) z s)::dQ d z s.levels::aR z.m s.mem::aO bB z.sn (aC s.snaps)::ag d D::F))
 refine ae (met (yx (K:=KS d o cl br 1) h hW hs) ?_)
 clear hs
 rintro _ w ⟨ve,rfl,hs⟩
 refine ⟨_,rfl,?_⟩
 obtain ⟨s',hs',hs⟩:=hs.EH
 obtain ⟨hl',z',hs⟩:=hs.gQ
 have h1:=Sat.C5 (hs.take (.there (.there (.there (.there (.there .here))))))
 refine gx ?_
 refine bD hs (h1:=h1) ?_
 clear hs
 intro w hs
 have hs:Sat W0 (blk b 133 (aj (KS d o cl ve 1) z' s')::dQ d z' s'.levels::aR z'.m s'.mem::aO bB z'.sn (aC s'.snaps)::ag d D'::ax ve (dk x)::F) w:=hs
 refine gx ?_
 refine ft (.inl rfl) hs ?_
 clear hs
 intro w hs
 refine ⟨_,rfl,?_⟩
 have hs:=Sat.Jd (hs.take (.there (.there (.there (.there (.there .here))))))
 have hs:=Sat.bP (K:=KS d o cl ve 0) (s:=s') (z:=z') hl' (hs.to (a:=blk b 133 (aj (KS d o cl ve 0) z' s')::dQ d z' s'.levels::aR z'.m s'.mem::aO bB z'.sn (aC s'.snaps)::ax ve (dk x)::ag d D'::ax ve (dk x)::F))
 exact Sat.EI hs' hs
def pM:List bO→Option cy
 | []=>none
 | c::r=>if c.key.length=0∨8<c.key.length then some (none,3) else if c.del=false∧16<c.val.length then some (none,4) else pM r
def mn (cl:Bool) (be:Option cy) (l:List bO):Option cy:=match jl cl be with
 | some e=>some e
 | none=>if 8<l.length then some (none,2) else pM l
theorem EJ:∀ {l:List bO},pM l=none→∀ c∈l,(c.key.length≠0∧c.key.length≤8)∧(c.del=false→c.val.length≤16)
 | [],_,c,hc=>by cases hc
 | x::r,h,c,hc=>by
  unfold pM at h
  split at h
  ·cases h
  ·rename_i h1
   split at h
   ·cases h
   ·rename_i h2
    rcases List.mem_cons.1 hc with rfl|hc
    ·exact ⟨by omega,fun hd=>by
      cases Nat.lt_or_ge 16 c.val.length with
      | inl h3=>exact absurd ⟨hd,h3⟩ h2
      | inr h3=>exact h3⟩
    ·exact EJ h c hc
theorem GB (l:List bO) (i:Nat) (c:bO) (h:l[i]?=some c):pM (l.drop i)=if c.key.length=0∨8<c.key.length then some (none,3) else if c.del=false∧16<c.val.length then some (none,4) else pM (l.drop (i+1)):=by
 have:l.drop i=c::l.drop (i+1):=by
  have hlt:=(List.getElem?_eq_some_iff.1 h).1
  rw [List.drop_eq_getElem_cons hlt,(List.getElem?_eq_some_iff.1 h).2]
 rw [this];rfl
def O1 (A:ah) (b d:Nat) (o:ji) (cl:Bool) (be:Option cy) (s:St) (D:ad) (D':ad) (x:Except cy St) (ve:Value) (F:List ah):Option cy→List ah
 | some e=>dh b d o cl be s::ag d D::ax ve (some e)::A::F
 | none=>Ov b d o cl x::ag d D'::ax ve (dk x)::A::F
theorem jZ {A:ah} {l:List bO} {sync:Bool} {x:Except cy St} (h:mn cl be l=none→kR o s D l sync=some (x,D')) (hA:Mv A 3 v (dw l)) (hlen:l.length≤1099511627776) (hW:jB W0) (hs:Sat W0 (dh b d o cl be s::ag d D::A::F) w) :
 Calls Tryz.prog 41 #[au b,v,.bool sync] w fun y w'=>∃ ve,y=.returned ve∧Sat W0 (O1 A b d o cl be s D D' x ve F (mn cl be l)) w':=by
 obtain ⟨hl,br,z,hs⟩:=hs.nT
 refine nK Tryz.func41 rfl Tryz.ntmps41 Tryz.results41 rfl ?_
 refine gx ?_
 refine lq hs ?_
 clear hs
 intro w hs
 have hs:Sat W0 (blk b 133 (aj (KS d o cl br 1) z s)::ax br be::dQ d z s.levels::aR z.m s.mem::aO bB z.sn (aC s.snaps)::ag d D::A::F) w:=hs
 refine gx ?_
 refine jV rfl ?_
 refine gx ?_
 refine ae (met (gP (K:=KS d o cl br 1) (be:=be) hs) ?_)
 clear hs
 rintro _ w ⟨ve,rfl,hs⟩
 refine ⟨_,rfl,?_⟩
 have hb:vM (KS d o cl br 1) be=jl cl be:=rfl
 rw [hb] at hs
 obtain ⟨⟨av,cv,rfl⟩,-,-⟩:=id hA
 rw [dC]
 cases hbx:jl cl be with
 | some e=>
  have hr:mn cl be l=some e:=by unfold mn;rw [hbx]
  rw [hr]
  rw [hbx] at hs
  obtain ⟨t,u,rfl⟩:=hs.aW
  refine gx ?_
  refine ft (.inl rfl) hs ?_
  clear hs
  intro w hs
  exact ⟨_,rfl,Sat.fP (z:=z) hl hs.to⟩
 | none=>
  rw [hbx] at hs
  have hve:=hs.cF
  subst hve
  have hs:=hs.drop
  by_cases h8:8<l.length
  ·have hr:mn cl be l=some (none,2):=by unfold mn;rw [hbx];exact if_pos h8
   rw [hr]
   have h8':(l.length:Int) > 8:=by omega
   refine gx ?_
   have hs:=Sat.pA (k:=2) hs
   refine ft (.inl rfl) hs ?_
   clear hs
   intro w hs
   exact ⟨_,rfl,Sat.fP (z:=z) hl hs.to⟩
  ·have h8':¬ ((l.length:Int) > 8):=by omega
   have hr:mn cl be l=pM l:=by unfold mn;rw [hbx];exact if_neg h8
   refine gx ?_
   refine aL (α:=Nat) (fun i=>[(0,au b),(1,.slice av l.length cv),(2,.bool sync),(26,.slice av l.length cv),(27,.int .i64 (l.length:Int)),(28,.int .i64 (i:Int))])
    (fun i w=>(i≤l.length∧pM (l.drop i)=pM l)∧Sat W0 (blk b 133 (aj (KS d o cl br 1) z s)::ax br be::dQ d z s.levels::aR z.m s.mem::aO bB z.sn (aC s.snaps)::ag d D::A::F) w) (fun i=>l.length-i) 0 ⟨rfl,rfl,rfl,rfl,rfl,rfl,trivial⟩ ⟨⟨Nat.zero_le _,rfl⟩,hs⟩ ?_
   clear hs
   rintro i w ⟨⟨hi,hck⟩,hs⟩
   by_cases hlt:i<l.length
   ·have hlt':(i:Int)<(l.length:Int):=by omega
    have hg:l[i]?=some l[i]:=List.getElem?_eq_getElem hlt
    have hcd:=GB l i _ hg
    generalize l[i]=c at hg hcd
    obtain ⟨bb,o',cc,hv,hcell⟩:=hA.row (nR hg)
    rw [dC] at hv
    obtain ⟨rfl,_,rfl⟩:=Value.slice.inj hv
    have hcl:=hcell W0 _ w (hs.take (.there (.there (.there (.there (.there (.there .here)))))))
    obtain ⟨ck,cval,cd⟩:=c
    refine gx ?_
    refine cL (i:=i) rfl rfl rfl rfl rfl hlt rfl ?_
    refine yz (j5 ⟨ck,cval,cd⟩) rfl rfl rfl hcl rfl ?_
    refine gx ?_
    refine aS hs ?_
    clear hs hcl
    intro w b9 hs
    refine gx ?_
    refine cZ (vs:=j5 ⟨ck,cval,cd⟩) hs ?_
    clear hs
    intro w hs
    by_cases hk0:ck.length=0
    ·have hk0':(ck.length:Int)=0:=by omega
     have hr2:mn cl be l=some (none,3):=by rw [hr,← hck,hcd];exact if_pos (.inl hk0)
     rw [hr2]
     refine gx ?_
     have hs:=Sat.pA (k:=3) hs
     refine ft (.inl rfl) hs ?_
     clear hs
     intro w hs
     exact ⟨_,rfl,Sat.fP (z:=z) hl hs.to⟩
    ·have hk0':¬ ((ck.length:Int)=0):=by omega
     by_cases hk8:8<ck.length
     ·have hk8':(ck.length:Int) > 8:=by omega
      have hr2:mn cl be l=some (none,3):=by rw [hr,← hck,hcd];exact if_pos (.inr hk8)
      rw [hr2]
      refine gx ?_
      have hs:=Sat.pA (k:=3) hs
      refine ft (.inl rfl) hs ?_
      clear hs
      intro w hs
      exact ⟨_,rfl,Sat.fP (z:=z) hl hs.to⟩
     ·have hk8':¬ ((ck.length:Int) > 8):=by omega
      rw [if_neg (by dsimp only;omega)] at hcd
      cases cd with
      | true=>
       rw [if_neg (by simp)] at hcd
       refine gx ?_
       exact aB (i+1) ⟨rfl,rfl,rfl,rfl,rfl,rfl,trivial⟩ ⟨⟨hlt,by rw [← hcd];exact hck⟩,hs.drop⟩ (by omega)
      | false=>
       by_cases hv16:16<cval.length
       ·have hv16':(cval.length:Int) > 16:=by omega
        have hr2:mn cl be l=some (none,4):=by rw [hr,← hck,hcd];exact if_pos ⟨rfl,hv16⟩
        rw [hr2]
        refine gx ?_
        have hs:=Sat.pA (k:=4) hs
        refine ft (.inl rfl) hs ?_
        clear hs
        intro w hs
        exact ⟨_,rfl,Sat.fP (z:=z) hl hs.to⟩
       ·have hv16':¬ ((cval.length:Int) > 16):=by omega
        rw [if_neg (fun hh=>hv16 hh.2)] at hcd
        refine gx ?_
        exact aB (i+1) ⟨rfl,rfl,rfl,rfl,rfl,rfl,trivial⟩ ⟨⟨hlt,by rw [← hcd];exact hck⟩,hs.drop⟩ (by omega)
   ·have hie:i=l.length:=by omega
    subst hie
    have hlt':¬ ((l.length:Int)<(l.length:Int)):=by omega
    rw [List.drop_length] at hck
    have hr2:mn cl be l=none:=by rw [hr,← hck];rfl
    have hw:=h hr2
    rw [hr2]
    have hok:=EJ (show pM l=none by rw [← hck];rfl)
    have hch:Mw l:=⟨by omega,fun c hc=>by have:=(hok c hc).1;omega,fun c hc hd=>by have:=(hok c hc).2 hd;omega⟩
    refine gx ?_
    have hs:=Sat.bP (K:=KS d o cl br 1) (z:=z) hl (hs.to (a:=blk b 133 (aj (KS d o cl br 1) z s)::dQ d z s.levels::aR z.m s.mem::aO bB z.sn (aC s.snaps)::ag d D::A::F))
    have hA':Mv A 3 (.slice av l.length cv) (dw l):=by rw [← dC];exact hA
    refine ae (met (Am (K:=KS d o cl br 1) hw hA' hch hW hs) ?_)
    clear hs
    rintro _ w ⟨ve,rfl,hs⟩
    refine ⟨_,rfl,?_⟩
    obtain ⟨s',hs',hs⟩:=hs.EH
    obtain ⟨hl',z',hs⟩:=hs.gQ
    have h1:=Sat.C5 (hs.take (.there (.there (.there (.there (.there .here))))))
    refine gx ?_
    refine bD hs (h1:=h1) ?_
    clear hs
    intro w hs
    have hs:Sat W0 (blk b 133 (aj (KS d o cl ve 1) z' s')::dQ d z' s'.levels::aR z'.m s'.mem::aO bB z'.sn (aC s'.snaps)::ag d D'::ax ve (dk x)::A::F) w:=hs
    refine gx ?_
    refine ft (.inl rfl) hs ?_
    clear hs
    intro w hs
    refine ⟨_,rfl,?_⟩
    have hs:=Sat.Jd (hs.take (.there (.there (.there (.there (.there .here))))))
    have hs:=Sat.bP (K:=KS d o cl ve 0) (s:=s') (z:=z') hl' (hs.to (a:=blk b 133 (aj (KS d o cl ve 0) z' s')::dQ d z' s'.levels::aR z'.m s'.mem::aO bB z'.sn (aC s'.snaps)::ax ve (dk x)::ag d D'::ax ve (dk x)::A::F))
    exact Sat.EI hs' hs
end
section
open Go Go.Extern
open Go.Proofs.YtecibefflhomdaaGreatDoor.Pure (ad az Rd bI aA)
attribute [local irreducible] IntKind.wrap
variable {W0 w:World} {F:List ah} {d:Nat} {D D':ad}
theorem N8 (k:Int) (w:World):(binOp .eql 41 .nilIface (.iface 44 (.int .i64 k))).run Tryz.prog w=.ok (.bool false) w:=by
 have h:∀ d:Nat,(Op.equalIn (d+1) 41 .nilIface (.iface 44 (.int .i64 k))).run Tryz.prog w=.ok false w:=fun d=>by
  simp [Op.equalIn,run_underlying Tryz.underlying41]
 simp only [binOp]
 simp [Op.equal,Op.maxDepth,h 9999]
theorem KU {m:Nat} (hs:Sat W0 F w) :
 Calls Tryz.prog 90 #[.nilIface,.iface 44 (.int .i64 (m:Int))] w fun x w'=>x=.returned (.bool false)∧Sat W0 F w':=by
 refine enter Tryz.func90 rfl Tryz.ntmps90 Tryz.results90 rfl ?_
 refine gx ?_
 refine yM rfl rfl rfl (N8 _ _) rfl ?_
 refine gx ?_
 exact ak rfl ⟨rfl,hs⟩
theorem gA {s:Bs} (hs:Sat W0 F w) :
 Calls Tryz.prog 92 #[str s] w fun x w'=>∃ ve,x=.returned ve∧Sat W0 (ax ve (some (some s,7))::F) w':=by
 refine enter Tryz.func92 rfl Tryz.ntmps92 Tryz.results92 rfl ?_
 refine gx ?_
 refine bA [str s,.int .i64 7] ?_
 refine cE hs fun w b hs=>?_
 refine gx ?_
 exact ak rfl ⟨_,rfl,hs.pk⟩
theorem rX {e:cy} {ve:Value} (hE:kY W0) (hs:Sat W0 (ax ve (some e)::F) w) :
 Calls Tryz.prog 96 #[ve] w fun x w'=>∃ ve',x=.returned ve'∧Sat W0 (ax ve' (some (sE e))::F) w':=by
 obtain ⟨o,k⟩:=e
 refine enter Tryz.func96 rfl Tryz.ntmps96 Tryz.results96 rfl ?_
 cases o with
 | none=>
  have hv:=hs.AY
  subst hv
  refine gx ?_
  refine aS hs fun w b3 hs=>?_
  refine gx ?_
  refine ae (met (Gs hE hs) ?_)
  clear hs
  rintro _ w ⟨rfl,hs⟩
  refine ⟨_,rfl,?_⟩
  refine gx ?_
  exact ak rfl ⟨_,rfl,hs.drop⟩
 | some s=>
  obtain ⟨b,rfl,h2⟩:=hs.I8
  clear hs
  refine gx ?_
  refine aS h2 fun w b3 h2=>?_
  refine gx ?_
  refine ae (met (Gt hE h2) ?_)
  clear h2
  rintro _ w ⟨rfl,hs⟩
  refine ⟨_,rfl,?_⟩
  unfold sE
  dsimp only
  by_cases h10:k=10
  ·have h':((k:Nat):Int)=10:=by omega
   rw [if_pos h10]
   refine gx ?_
   refine ae (met (gA (s:=s) hs) ?_)
   clear hs
   rintro _ w ⟨ve,rfl,hs⟩
   refine ⟨_,rfl,?_⟩
   refine gx ?_
   exact ak rfl ⟨_,rfl,hs.to⟩
  ·have h':¬ ((k:Nat):Int)=10:=by omega
   rw [if_neg h10]
   refine gx ?_
   exact ak rfl ⟨_,rfl,hs.drop.rV⟩
def okB:Except cy Bs→Bs
 | .ok b=>b
 | .error _=>[]
theorem vj {n:Bs} (hs:Sat W0 (ag d D::F) w) :
 Calls Tryz.prog 89 #[au d,str n] w fun x w'=>∃ v ve,x=.returned (.tuple #[v,ve])∧Sat W0 (ag d (ij D n).2::cC v (okB (ij D n).1)::ax ve (dk (ij D n).1)::F) w':=by
 refine enter Tryz.func89 rfl Tryz.ntmps89 Tryz.results89 rfl ?_
 refine gx ?_
 have hok:=hs.M7
 refine ae (met (HJ (n:=n) hs) ?_)
 clear hs
 rintro _ w ⟨ve,rfl,hs⟩
 refine ⟨_,rfl,?_⟩
 unfold ij
 cases h1:bz D n with
 | some e=>
  rw [h1] at hs
  obtain ⟨t,u,rfl⟩:=(hs.take (.there .here)).aW
  refine gx ?_
  exact ak rfl ⟨_,_,rfl,(Sat.tJ hs).to⟩
 | none=>
  rw [h1] at hs
  have hve:=(hs.take (.there .here)).cF
  subst hve
  have hsz:jU D n≤9223372036854775807:=by
   unfold jU;rw [h1];dsimp only
   unfold fileOf
   cases hg:aA D.now n with
   | none=>simp
   | some i=>have:=Pure.ad.size_le hg;have:=hok.used;dsimp only;omega
  refine gx ?_
  refine ae (met (qi (nm:=n) (at_:=0) (n:=(jU D n:Int)) hs (by omega) (by omega) (by omega) (by omega)) ?_)
  clear hs
  rintro _ w ⟨v,ve,rfl,hs⟩
  refine ⟨_,rfl,?_⟩
  refine gx ?_
  cases h2:bz D.tick n with
  | some e=>
   rw [h2] at hs
   refine ak rfl ⟨_,_,rfl,?_⟩
   have e2:iC D.tick n 0 (jU D n:Int)=[]:=by unfold iC;rw [h2]
   rw [e2] at hs
   exact hs.to
  | none=>
   rw [h2] at hs
   exact ak rfl ⟨_,_,rfl,hs.to⟩
end
end Go.Proofs.YtecibefflhomdaaGreatDoor
