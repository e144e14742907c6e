/-
  Part 18: WALKS package rows; WALKS package rows; WALKS package rows.
-/
import Derived.Test.YtecibefflhomdaaGreatDoorV17
set_option maxHeartbeats 8000000
set_option maxRecDepth 100000
set_option linter.all false
namespace Go.Proofs.YtecibefflhomdaaGreatDoor
open Go
section
open Go.Proofs.YtecibefflhomdaaGreatDoor.Pure (ae aB Rd bH less aR aZ)
attribute [local irreducible] IntKind.wrap
variable {W0 w:World} {F:List ax} {v:Value} {d m p:Nat} {T:bN} {D D':ae} {M:List aB} {it:It}
def L6 (d m bh:Nat) (hs:List (aB×It)):ax:=fun h=>∃ z:Value×List Nat,z.2.length=hs.length∧cL [blk bh 346 [z.1],aL 1 z.1 347 z.2.length (z.2.map ay),star (List.zipWith (fa d m) z.2 hs)] h
theorem Sat.Kk {bh:Nat} {hl:List (aB×It)} (h:Sat W0 (L6 d m bh hl::F) w):∃ hv ps,ps.length=hl.length∧Sat W0 (blk bh 346 [hv]::aL 1 hv 347 ps.length (ps.map ay)::star (List.zipWith (fa d m) ps hl)::F) w:=by
 obtain ⟨z,hz,hs⟩:=h.e9 (φ:=fun z:Value×List Nat=>z.2.length=hl.length) (B:=fun z=>[blk bh 346 [z.1],aL 1 z.1 347 z.2.length (z.2.map ay),star (List.zipWith (fa d m) z.2 hl)]) fun hp ⟨z,hz,k⟩=>⟨z,hz,k⟩
 exact ⟨z.1,z.2,hz,hs⟩
theorem Sat.qQ {bh:Nat} {hl:List (aB×It)} {hv:Value} {ps:List Nat} (hp:ps.length=hl.length) (h:Sat W0 (blk bh 346 [hv]::aL 1 hv 347 ps.length (ps.map ay)::star (List.zipWith (fa d m) ps hl)::F) w):Sat W0 (L6 d m bh hl::F) w:=
 Sat.close (B:=[blk bh 346 [hv],aL 1 hv 347 ps.length (ps.map ay),star (List.zipWith (fa d m) ps hl)]) h fun _ k=>⟨(hv,ps),hp,k⟩
def zT (d m:Nat) (rv:Value) (its:List It):ax:=fun h=>∃ vs:List Value,vs.length=its.length∧cL [aL 1 rv 288 vs.length vs,star (List.zipWith (mb d m) vs its)] h
theorem Sat.vI {rv:Value} {its:List It} (h:Sat W0 (zT d m rv its::F) w):∃ vs,vs.length=its.length∧Sat W0 (aL 1 rv 288 vs.length vs::star (List.zipWith (mb d m) vs its)::F) w:=by
 obtain ⟨vs,hz,hs⟩:=h.e9 (φ:=fun vs:List Value=>vs.length=its.length) (B:=fun vs=>[aL 1 rv 288 vs.length vs,star (List.zipWith (mb d m) vs its)]) fun hp ⟨z,hz,k⟩=>⟨z,hz,k⟩
 exact ⟨vs,hz,hs⟩
def QR (d m bh:Nat):Except cx (List (aB×It))→ax
 | .ok hl=>L6 d m bh hl
 | .error _=>fun _=>True
theorem Sat.qR (h:Sat W0 (mb d m v it::F) w):∃ f q,v=.func (.func f) #[] q:=h.fT fun hp k=>by
 cases it with
 | mem i=>obtain ⟨_,bi,bm,rfl,_⟩:=k;exact ⟨_,_,rfl⟩
 | xg T key i l=>obtain ⟨_,z,rfl,_⟩:=k;exact ⟨_,_,rfl⟩
theorem D6 {br bh:Nat} {rv:Value} {its:List It} {x:Except cx (List (aB×It))} (h:lT M its [] D=some (x,D')) (nO:its.length≤1099511627776) (hmx:M.length≤1099511627776)
 (hs:Sat W0 (blk br 308 [rv]::zT d m rv its::L6 d m bh []::aO m M::aj d D::F) w) :
 Calls Tryz.prog 212 #[ay br,ay bh] w fun y w'=>∃ ve,y=.returned ve∧Sat W0 (QR d m bh x::aH ve (cU x)::aO m M::aj d D'::F) w':=by
 obtain ⟨vs,hvs,hs⟩:=(hs.take (.there .here)).vI
 obtain ⟨a,c,rfl,hc⟩:=hs.aC
 have hvl:vs.length≤1099511627776:=by omega
 refine enter Tryz.func212 rfl Tryz.ntmps212 Tryz.results212 rfl ?_
 refine go ?_
 refine aJ (α:=Nat×ae×List (aB×It)) (fun z=>[(0,ay br),(1,ay bh),(8,.slice a vs.length c),(9,.int .i64 (vs.length:Int)),(10,.int .i64 (z.1:Int))])
  (fun z w=>(z.1≤vs.length∧lT M (its.drop z.1) z.2.2 z.2.1=some (x,D')∧z.2.2.length≤z.1)∧Sat W0 (aL 1 (.slice a vs.length c) 288 vs.length vs::star (List.zipWith (mb d m) (vs.drop z.1) (its.drop z.1))::L6 d m bh z.2.2::aO m M::aj d z.2.1::F) w) (fun z=>vs.length-z.1) (0,D,[]) ⟨rfl,rfl,rfl,rfl,rfl,trivial⟩ ⟨⟨Nat.zero_le _,h,Nat.le_refl _⟩,hs.to⟩ ?_
 clear hs h
 rintro ⟨i,D1,acc⟩ w ⟨⟨hi,h,hacc⟩,hs⟩
 dsimp only at hi h hacc hs ⊢
 by_cases hlt:i<vs.length
 ·have hlt2:i<its.length:=by omega
  have hgv:vs[i]?=some vs[i]:=List.getElem?_eq_getElem hlt
  have hdv:vs.drop i=vs[i]::vs.drop (i+1):=List.drop_eq_getElem_cons hlt
  have hdi:its.drop i=its[i]::its.drop (i+1):=List.drop_eq_getElem_cons hlt2
  rw [hdi] at h
  rw [hdv,hdi] at hs
  generalize vs[i]=v1 at *
  generalize its[i]=it1 at *
  unfold lT at h
  cases hn:nG M D1 it1 with
  | none=>rw [hn] at h;cases h
  | some y=>
   obtain ⟨y,D2⟩:=y
   rw [hn] at h
   have hs:=Sat.eU (B:=[]) (hs.take (.there .here))
   obtain ⟨cf,cq,rfl⟩:=hs.qR
   obtain ⟨b,cap,rs,hv,q1,q2,q3,hs2⟩:=(hs.take (.there (.there .here))).dw (by omega)
   obtain ⟨rfl,_,rfl⟩:=Value.slice.inj hv
   have hcell:(vs++rs)[0+i*1]?=some (.func (.func cf) #[] cq):=by rw [Nat.zero_add,Nat.mul_one,List.getElem?_append_left (by omega)];exact hgv
   refine go ?_
   refine cN (i:=i) rfl rfl rfl rfl rfl hlt rfl ?_
   refine eF hs2 rfl rfl .here hcell rfl ?_
   clear hs2
   refine go ?_
   refine bz (aI cP++[.func (.func cf) #[] cq]) ?_
   refine bR (z:=aI cP++[.func (.func cf) #[] cq]) hs fun w hp hs=>?_
   refine go ?_
   have hs:=hs.to (a:=blk hp 349 (aI cP++[.func (.func cf) #[] cq])::mb d m (.func (.func cf) #[] cq) it1::aO m M::aj d D1::star (List.zipWith (mb d m) (vs.drop (i+1)) (its.drop (i+1)))::aL 1 (.slice (some ⟨b,0,none⟩) vs.length c) 288 vs.length vs::L6 d m bh acc::F)
   refine ag (met (ya hn hs hmx) ?_)
   rintro _ w ⟨ve,rfl,hs⟩
   refine ⟨_,rfl,?_⟩
   cases y with
   | error e=>
    simp only [Option.some.injEq,Prod.mk.injEq] at h
    obtain ⟨rfl,rfl⟩:=h
    obtain ⟨t,u,rfl⟩:=(hs.take (.there (.there .here))).aQ
    refine go ?_
    exact ah rfl ⟨_,rfl,Sat.emp hs.to⟩
   | ok q=>
    obtain ⟨o,it2⟩:=q
    have hve:=(hs.take (.there (.there .here))).cA
    subst hve
    cases o with
    | none=>
     dsimp only at h
     refine go ?_
     exact az (i+1,D2,acc) ⟨rfl,rfl,rfl,rfl,rfl,trivial⟩ ⟨⟨hlt,h,by dsimp only;omega⟩,hs.to⟩ (by dsimp only;omega)
    | some e=>
     dsimp only at h
     have hs:=Sat.x9 (x:=(e,it2)) (hs.to (a:=blk hp 349 (aI e++[.func (.func cf) #[] cq])::mb d m (.func (.func cf) #[] cq) it2::L6 d m bh acc::aO m M::aj d D2::star (List.zipWith (mb d m) (vs.drop (i+1)) (its.drop (i+1)))::aL 1 (.slice (some ⟨b,0,none⟩) vs.length c) 288 vs.length vs::F))
     obtain ⟨hv,ps,hps,hs⟩:=(hs.take (.there .here)).Kk
     refine go ?_
     refine fL hs fun w b2 hs=>?_
     refine dM hs fun v' w hs=>?_
     obtain ⟨a5,c5,rfl,hc5⟩:=hs.aC
     refine bK hs fun w hs=>?_
     refine go ?_
     have hs:=hs.to (a:=star (List.zipWith (fa d m) ps acc)::fa d m hp (e,it2)::blk bh 346 [.slice a5 (ps.length+1) c5]::aL 1 (.slice a5 (ps.length+1) c5) 347 (ps.length+1) (ps.map ay++[ay hp])::aO m M::aj d D2::star (List.zipWith (mb d m) (vs.drop (i+1)) (its.drop (i+1)))::aL 1 (.slice (some ⟨b,0,none⟩) vs.length c) 288 vs.length vs::F)
     have hs:=hs.Bc
     have ez:List.zipWith (fa d m) ps acc++[fa d m hp (e,it2)]=List.zipWith (fa d m) (ps++[hp]) (acc++[(e,it2)]):=by rw [List.zipWith_append hps];rfl
     rw [ez] at hs
     have hs:=Sat.qQ (ps:=ps++[hp]) (hl:=acc++[(e,it2)]) (bh:=bh) (hv:=.slice a5 (ps.length+1) c5) (by simp [hps]) (F:=aO m M::aj d D2::star (List.zipWith (mb d m) (vs.drop (i+1)) (its.drop (i+1)))::aL 1 (.slice (some ⟨b,0,none⟩) vs.length c) 288 vs.length vs::F) (by
      rw [List.length_append,List.map_append]
      exact hs.to)
     exact az (i+1,D2,acc++[(e,it2)]) ⟨rfl,rfl,rfl,rfl,rfl,trivial⟩ ⟨⟨hlt,h,by simp;omega⟩,hs.to⟩ (by dsimp only;omega)
 ·have hd0:its.drop i=[]:=List.drop_of_length_le (by omega)
  rw [hd0] at h
  unfold lT at h
  simp only [Option.some.injEq,Prod.mk.injEq] at h
  obtain ⟨rfl,rfl⟩:=h
  refine go ?_
  exact ah rfl ⟨_,rfl,(hs.ej).to⟩
end
section
open Go.Proofs.YtecibefflhomdaaGreatDoor.Pure (ae aB Rd bH less aR aZ)
attribute [local irreducible] IntKind.wrap
variable {W0 w:World} {F:List ax} {v:Value} {d m p:Nat} {T:bN} {D D':ae} {M:List aB} {it:It} {g:Mg}
structure Pu where
 bs:Nat
 bst:Nat
 bh:Nat
 br:Nat
 rv:Value
def PU (d m:Nat) (z:Pu) (g:Mg):ax:=if g.started=true then (fun _=>True) else star [blk z.br 308 [z.rv],zT d m z.rv g.rows]
abbrev Pv (d m:Nat) (z:Pu) (g:Mg):List ax:=[blk z.bs 4 [.bool g.started],blk z.bst 107 [.func (.func 212) #[] #[ay z.br,ay z.bh]],L6 d m z.bh g.heads,PU d m z g]
abbrev PV (z:Pu):Value:=.func (.func 214) #[] #[ay z.bs,ay z.bst,ay z.bh]
def OH (d m:Nat) (v:Value) (g:Mg):ax:=fun h=>(g.started=false→g.heads=[])∧∃ z,v=PV z∧cL (Pv d m z g) h
theorem Sat.Kl (h:Sat W0 (OH d m v g::F) w):(g.started=false→g.heads=[])∧∃ z,v=PV z∧Sat W0 (Pv d m z g++F) w:=by
 have h1:=h.fT (φ:=g.started=false→g.heads=[]) fun _ k=>k.1
 obtain ⟨z,hv,hs⟩:=h.e9 (φ:=fun z:Pu=>v=PV z) (B:=fun z=>Pv d m z g) fun hp ⟨_,z,hv,k⟩=>⟨z,hv,k⟩
 exact ⟨h1,z,hv,hs⟩
theorem Sat.uj {z:Pu} (hg:g.started=false→g.heads=[]) (h:Sat W0 (Pv d m z g++F) w):Sat W0 (OH d m (PV z) g::F) w:=Sat.close h fun hp k=>⟨hg,z,rfl,k⟩
theorem vJ {rv:Value} {its:List It} (hs:Sat W0 (zT d m rv its::F) w) :
 Calls Tryz.prog 184 #[rv] w fun y w'=>∃ v,y=.returned v∧Sat W0 (OH d m v ⟨false,its,[]⟩::F) w':=by
 obtain ⟨vs,hvs,hs⟩:=hs.vI
 obtain ⟨a,c,rfl,hc⟩:=hs.aC
 refine enter Tryz.func184 rfl Tryz.ntmps184 Tryz.results184 rfl ?_
 refine go ?_
 refine bR hs fun w br hs=>?_
 refine go ?_
 refine aS hs fun w bh hs=>?_
 refine go ?_
 refine aS hs fun w bs hs=>?_
 refine bK hs fun w hs=>?_
 refine go ?_
 refine aS hs fun w bst hs=>?_
 refine bK hs fun w hs=>?_
 refine go ?_
 refine ah rfl ⟨_,rfl,Sat.uj (z:=⟨bs,bst,bh,br,.slice a vs.length c⟩) (fun _=>rfl) ?_⟩
 have hs1:Sat W0 (zT d m (.slice a vs.length c) its::blk br 308 [.slice a vs.length c]::blk bh 346 [.slice none 0 0]::blk bs 4 [.bool false]::blk bst 107 [.func (.func 212) #[] #[ay br,ay bh]]::F) w:=
  Sat.close (B:=[aL 1 (.slice a vs.length c) 288 vs.length vs,star (List.zipWith (mb d m) vs its)]) hs.to fun _ k=>⟨vs,hvs,k⟩
 have hs2:=Sat.u9 (Sat.to (a:=blk br 308 [.slice a vs.length c]::star [zT d m (.slice a vs.length c) its]::blk bh 346 [.slice none 0 0]::blk bs 4 [.bool false]::blk bst 107 [.func (.func 212) #[] #[ay br,ay bh]]::F) (Sat.u9 (Sat.to (a:=zT d m (.slice a vs.length c) its::star []::blk br 308 [.slice a vs.length c]::blk bh 346 [.slice none 0 0]::blk bs 4 [.bool false]::blk bst 107 [.func (.func 212) #[] #[ay br,ay bh]]::F) hs1.oW)))
 have hs3:=Sat.qQ (d:=d) (m:=m) (bh:=bh) (hl:=[]) (hv:=.slice none 0 0) (ps:=[]) rfl (F:=star [blk br 308 [.slice a vs.length c],zT d m (.slice a vs.length c) its]::blk bs 4 [.bool false]::blk bst 107 [.func (.func 212) #[] #[ay br,ay bh]]::F) (Sat.to (Sat.cH (k:=1) (E:=347) (Sat.oW hs2)))
 exact hs3.to
end
section
open Go.Proofs.YtecibefflhomdaaGreatDoor.Pure (ae aB Rd bH less aR aZ)
attribute [local irreducible] IntKind.wrap
variable {W0 w:World} {F:List ax} {v:Value} {d m p:Nat} {T:bN} {D D':ae} {M:List aB} {it:It} {g:Mg}
theorem dN {α β γ:Type} (f:α→β→γ) {xs:List α} {ys:List β} {i:Nat} {x:α} {y:β} (hx:xs[i]?=some x) (hy:ys[i]?=some y):(List.zipWith f xs ys)[i]?=some (f x y):=by
 simp [List.getElem?_zipWith,hx,hy]
theorem r6 {Z:List ax} {i hp:Nat} {x:aB×It} {l r:List ax} (hs:Sat W0 l w) (tk:Take (star Z) l r) (hz:Z[i]?=some (fa d m hp x)):(loadVar 256 ⟨hp,0+0,none⟩).run Tryz.prog w=.ok (.agg (aI x.1).toArray) w:=by
 have h1:=hs.take tk
 rw [dx hz] at h1
 obtain ⟨v,h2⟩:=h1.eU.BC
 exact jl rfl rfl (h2.cell .here) (fS.all (aI x.1)).app
theorem vK (hs:List aB) (i:Nat):gO hs (i+1)=if less (hs.getD i default) (hs.getD (gO hs i) default)=true then i else gO hs i:=by
 unfold gO;rw [List.range_succ,List.foldl_append];rfl
theorem vL (hs:List aB):∀ i,0<i→gO hs i<i
 | 0,h=>by omega
 | i+1,_=>by
  rw [vK]
  split
  ·omega
  ·cases i with
   | zero=>simp [gO]
   | succ i=>have:=vL hs (i+1) (by omega);omega
theorem Km (hs:List aB) (i:Nat):gO hs i≤i:=by
 cases i with
 | zero=>simp [gO]
 | succ i=>have:=vL hs (i+1) (by omega);omega
theorem sX {α β γ:Type} (f:α→β→γ):∀ {xs:List α} {ys:List β} {i:Nat} {x:α} {y:β},xs[i]?=some x→i<ys.length→List.zipWith f xs (ys.set i y)=(List.zipWith f xs ys).take i++f x y::(List.zipWith f xs ys).drop (i+1)
 | a::xs,b::ys,0,x,y,hx,_=>by simp at hx;subst hx;simp
 | a::xs,b::ys,i+1,x,y,hx,hy=>by
  simp at hx hy
  simp [sX f hx hy]
theorem pA {α β γ:Type} (f:α→β→γ):∀ {xs:List α} {ys:List β} {i:Nat},xs.length=ys.length→List.zipWith f (xs.eraseIdx i) (ys.eraseIdx i)=(List.zipWith f xs ys).take i++(List.zipWith f xs ys).drop (i+1)
 | [],[],i,_=>by simp
 | a::xs,b::ys,0,_=>by simp
 | a::xs,b::ys,i+1,h=>by
  simp at h
  simp [pA f (i:=i) h]
theorem sY {α:Type}:∀ {Z:List α} {i:Nat},Z.eraseIdx i=Z.take i++Z.drop (i+1)
 | [],i=>by simp
 | z::Z,0=>by simp
 | z::Z,i+1=>by simp [sY (Z:=Z) (i:=i)]
theorem BD {z:Pu} {x:Except cx (Option aB×Mg)} (h:Bt M D g=some (x,D')) (hg:g.started=false→g.heads=[]) (hmx:M.length≤1099511627776) (hs:Sat W0 (Pv d m z g++(aO m M::aj d D::F)) w) :
 Calls Tryz.prog 214 #[ay z.bs,ay z.bst,ay z.bh] w (Kj W0 (OH d m (PV z)) m d M x D' F):=by
 obtain ⟨bs,bst,bh,br,rv⟩:=z
 obtain ⟨started,rows,heads⟩:=g
 dsimp only [Pv,List.cons_append,List.nil_append] at hs hg ⊢
 unfold Bt zP at h
 dsimp only at h
 refine enter Tryz.func214 rfl Tryz.ntmps214 Tryz.results214 rfl ?_
 refine dV ?_
 refine qL ?_
 refine aS hs fun w b3 hs=>?_
 refine qL ?_
 refine cV rfl ?_
 refine fh (α:=ae×List (aB×It)) (fun _=>[(0,ay bs),(1,ay bst),(2,ay bh),(3,ay b3)])
  (fun z w=>J8 M z.1 rows z.2=some (x,D')∧Sat W0 (blk bs 4 [.bool true]::blk bst 107 [.func (.func 212) #[] #[ay br,ay bh]]::L6 d m bh z.2::blk b3 256 (aI cP)::aO m M::aj d z.1::F) w) ?_ ?_
 ·cases started with
  | true=>
   rw [if_pos rfl] at h
   refine go ?_
   exact bG (D,heads) ⟨rfl,rfl,rfl,rfl,trivial⟩ ⟨h,hs.to⟩
  | false=>
   have hh:=hg rfl
   subst hh
   rw [if_neg (by simp)] at h
   by_cases hbig:rows.length≤iq
   ·rw [if_pos hbig] at h
    rw [bI] at hbig
    cases hst:lT M rows [] D with
    | none=>rw [hst] at h;cases h
    | some y=>
     obtain ⟨y,D2⟩:=y
     rw [hst] at h
     refine go ?_
     refine bK hs fun w hs=>?_
     refine go ?_
     have hs:=Sat.imp (hs.to (a:=star [blk br 308 [rv],zT d m rv rows]::L6 d m bh []::aO m M::aj d D::blk bs 4 [.bool true]::blk bst 107 [.func (.func 212) #[] #[ay br,ay bh]]::blk b3 256 (aI cP)::F)) fun _ k=>dD k
     dsimp only [List.cons_append,List.nil_append] at hs
     refine iM rfl rfl rfl rfl (met (D6 hst hbig hmx hs) ?_)
     rintro _ w ⟨ve,rfl,hs⟩
     refine ⟨_,rfl,?_⟩
     cases y with
     | error e=>
      simp only [Option.some.injEq,Prod.mk.injEq] at h
      obtain ⟨rfl,rfl⟩:=h
      obtain ⟨t,u,rfl⟩:=(hs.take (.there .here)).aQ
      refine go ?_
      refine bz (aI cP) ?_
      refine go ?_
      refine da (vs:=aI cP) hs fun w hs=>?_
      refine go ?_
      exact eC ⟨_,_,b3,0,rfl,rfl,fM (aI cP) hs (.there (.there (.there (.there (.there (.there .here)))))) rfl rfl (fS.all _),_,_,rfl,rfl,_,_,rfl,rfl,rfl⟩ ⟨_,rfl,Sat.emp hs.to⟩
     | ok hl=>
      have hve:=(hs.take (.there .here)).cA
      subst hve
      dsimp only at h
      refine go ?_
      exact bG (D2,hl) ⟨rfl,rfl,rfl,rfl,trivial⟩ ⟨h,hs.to⟩
   ·rw [if_neg hbig] at h;cases h
 ·clear h hg
  rintro ⟨D,heads⟩ w ⟨h,hs⟩
  dsimp only at h hs
  unfold J8 at h
  obtain ⟨hv,ps,hps,hs⟩:=(hs.take (.there (.there .here))).Kk
  obtain ⟨a,c,rfl,hc⟩:=(hs.take (.there .here)).aC
  simp only [maxLen] at hc
  cases heads with
  | nil=>
   have hp0:ps=[]:=List.eq_nil_of_length_eq_zero hps
   subst hp0
   simp only [List.map_nil,List.length_nil,gO,List.range_zero,List.foldl_nil,List.getElem?_nil,Option.some.injEq,Prod.mk.injEq] at h
   obtain ⟨rfl,rfl⟩:=h
   refine go ?_
   refine bz (aI cP) ?_
   refine da (vs:=aI cP) hs fun w hs=>?_
   refine go ?_
   refine eC ⟨_,_,b3,0,rfl,rfl,fM (aI cP) hs (.there (.there (.there (.there (.there .here))))) rfl rfl (fS.all _),_,_,rfl,rfl,_,_,rfl,rfl,rfl⟩ ⟨_,rfl,?_⟩
   have hs:=Sat.qQ (d:=d) (m:=m) (bh:=bh) (hl:=[]) (hv:=.slice a 0 c) (ps:=[]) rfl (F:=blk bs 4 [.bool true]::blk bst 107 [.func (.func 212) #[] #[ay br,ay bh]]::(fun _=>True)::aH .nilIface none::aO m M::aj d D::F) ((Sat.ej (Sat.emp hs)).to)
   exact Sat.uj (z:=⟨bs,bst,bh,br,rv⟩) (g:=⟨true,rows,[]⟩) (fun h=>by cases h) (F:=aH .nilIface none::aO m M::aj d D::F) hs.to
  | cons x0 hl0=>
   have hpos:0<ps.length:=by rw [hps];simp
   generalize hH:x0::hl0=H at *
   have hbl:gO (H.map (·.1)) H.length<H.length:=vL _ _ (by rw [← hps];exact hpos)
   obtain ⟨b,cap,rs,hv,q1,q2,q3,hs⟩:=(hs.take (.there .here)).dw hpos
   obtain ⟨rfl,_,rfl⟩:=Value.slice.inj hv
   have hcellAt:∀ i hp,ps[i]?=some hp→(ps.map ay++rs)[0+i*1]?=some (ay hp):=fun i hp hi=>by
    rw [Nat.zero_add,Nat.mul_one,List.getElem?_append_left (by have:=(List.getElem?_eq_some_iff.1 hi).1;simpa using this),List.getElem?_map,hi];rfl
   have hne:¬ (ps.length:Int)=0:=by omega
   refine go ?_
   refine aJ (α:=Nat×Nat) (fun z=>[(0,ay bs),(1,ay bst),(2,ay bh),(3,ay b3),(7,.int .i64 (z.2:Int)),(25,.int .i64 (ps.length:Int)),(26,.int .i64 (z.1:Int))])
    (fun z w=>(z.1≤ps.length∧z.2=gO (H.map (·.1)) z.1)∧Sat W0 (blk b 347 (ps.map ay++rs)::blk bh 346 [.slice (some ⟨b,0,none⟩) ps.length c]::star (List.zipWith (fa d m) ps H)::blk bs 4 [.bool true]::blk bst 107 [.func (.func 212) #[] #[ay br,ay bh]]::blk b3 256 (aI cP)::aO m M::aj d D::F) w) (fun z=>ps.length-z.1) (0,0) ⟨rfl,rfl,rfl,rfl,rfl,rfl,rfl,trivial⟩ ⟨⟨Nat.zero_le _,rfl⟩,hs.to⟩ ?_
   clear hs
   rintro ⟨i,best⟩ w ⟨⟨hi,hbest⟩,hs⟩
   dsimp only at hi hbest hs ⊢
   by_cases hlt:i<ps.length
   ·have hblt:best<ps.length:=by have:=Km (H.map (·.1)) i;omega
    have gi:ps[i]?=some ps[i]:=List.getElem?_eq_getElem hlt
    have gb:ps[best]?=some ps[best]:=List.getElem?_eq_getElem hblt
    have hi2:H[i]?=some (H[i]'(by omega)):=List.getElem?_eq_getElem (by omega)
    have hb2:H[best]?=some (H[best]'(by omega)):=List.getElem?_eq_getElem (by omega)
    have zi:=dN (fa d m) gi hi2
    have zb:=dN (fa d m) gb hb2
    have ci:=hcellAt i _ gi
    have cb:=hcellAt best _ gb
    have hsucc:=vK (H.map (·.1)) i
    rw [← hbest,show (H.map (·.1)).getD i default=(H[i]'(by omega)).1 from by simp [List.getD,hi2],show (H.map (·.1)).getD best default=(H[best]'(by omega)).1 from by simp [List.getD,hb2]] at hsucc
    generalize H[i]'(by omega)=xi at *
    generalize H[best]'(by omega)=xb at *
    generalize ps[i]=pi at *
    generalize ps[best]=pb at *
    refine go ?_
    refine bO [blk b 347 (ps.map ay++rs),blk bh 346 [.slice (some ⟨b,0,none⟩) ps.length c],star (List.zipWith (fa d m) ps H)] [(0,false),(1,false),(2,false),(3,false),(4,false),(5,false),(6,false),(7,false),(8,false),(9,false),(10,false),(11,false),(12,false),(13,false),(14,true)] hs (by kernel_rfl) fun w hs=>?_
    refine go ?_
    refine pX (j:=i) rfl rfl rfl rfl rfl rfl hlt rfl ?_
    refine qp rfl rfl rfl .here ci rfl ?_
    refine go ?_
    refine Hb (v:=.agg (aI xi.1).toArray) rfl (fun a w' ha hS=>by
     have h1:a.eval (.tmp 34)=.pointer (some ⟨pi,0+0,none⟩):=ha.ev rfl
     have h2:=r6 hS (.there (.there .here)) zi
     simp only [execOp,h1,Instr.loadAt,Instr.sureAddr,Sem.run_bind,Sem.run_pure,Result.andThen_ok,h2]) rfl ?_
    refine go ?_
    refine pX (j:=best) rfl rfl rfl rfl rfl rfl hblt rfl ?_
    refine qp rfl rfl rfl .here cb rfl ?_
    refine go ?_
    refine Hb (v:=.agg (aI xb.1).toArray) rfl (fun a w' ha hS=>by
     have h1:a.eval (.tmp 41)=.pointer (some ⟨pb,0+0,none⟩):=ha.ev rfl
     have h2:=r6 hS (.there (.there .here)) zb
     simp only [execOp,h1,Instr.loadAt,Instr.sureAddr,Sem.run_bind,Sem.run_pure,Result.andThen_ok,h2]) rfl ?_
    refine go ?_
    refine ag (met (xV (a:=xi.1) (b:=xb.1) hs) ?_)
    rintro _ w ⟨rfl,hs⟩
    refine ⟨_,rfl,?_⟩
    cases hl:less xi.1 xb.1 with
    | true=>
     rw [hl,if_pos rfl] at hsucc
     refine go ?_
     exact az (i+1,i) ⟨rfl,rfl,rfl,rfl,rfl,rfl,rfl,trivial⟩ ⟨⟨hlt,hsucc.symm⟩,hs⟩ (by dsimp only;omega)
    | false=>
     rw [hl,if_neg (by simp)] at hsucc
     refine go ?_
     exact az (i+1,best) ⟨rfl,rfl,rfl,rfl,rfl,rfl,rfl,trivial⟩ ⟨⟨hlt,hsucc.symm⟩,hs⟩ (by dsimp only;omega)
   ·have hie:i=H.length:=by omega
    subst hie
    rw [← hbest] at h hbl
    have hblt:best<ps.length:=by omega
    have gb:ps[best]?=some ps[best]:=List.getElem?_eq_getElem hblt
    have hb2:H[best]?=some H[best]:=List.getElem?_eq_getElem hbl
    have zb:=dN (fa d m) gb hb2
    have cb:=hcellAt best _ gb
    rw [hb2] at h
    have hset:∀ y,List.zipWith (fa d m) ps (H.set best y)=(List.zipWith (fa d m) ps H).take best++fa d m ps[best] y::(List.zipWith (fa d m) ps H).drop (best+1):=fun y=>sX _ gb hbl
    generalize H[best]=xb at *
    generalize ps[best]=pb at *
    dsimp only at h
    cases hn:nG M D xb.2 with
    | none=>rw [hn] at h;cases h
    | some y=>
     obtain ⟨y,D2⟩:=y
     rw [hn] at h
     refine go ?_
     refine cN (i:=best) rfl rfl rfl rfl rfl hblt rfl ?_
     refine eF hs rfl rfl .here cb rfl ?_
     refine go ?_
     refine bX (v:=.agg (aI xb.1).toArray) (w':=w) (fun a ha=>by
      have h1:a.eval (.tmp 51)=.pointer (some ⟨pb,0+0,none⟩):=ha.ev rfl
      have h2:=r6 hs (.there (.there .here)) zb
      simp only [execOp,h1,Instr.loadAt,Instr.sureAddr,Sem.run_bind,Sem.run_pure,Result.andThen_ok,h2]) rfl ?_
     refine aS hs fun w b9 hs=>?_
     refine da (vs:=aI xb.1) hs fun w hs=>?_
     refine go ?_
     refine cN (i:=best) rfl rfl rfl rfl rfl hblt rfl ?_
     refine eF hs rfl rfl (.there .here) cb rfl ?_
     have hs:=hs.take (.there (.there (.there .here)))
     rw [dx zb] at hs
     obtain ⟨cv,hs⟩:=hs.eU.BC
     have hs:=hs.to (a:=blk pb 349 (aI xb.1++[cv])::mb d m cv xb.2::aO m M::aj d D::star ((List.zipWith (fa d m) ps H).take best++(List.zipWith (fa d m) ps H).drop (best+1))::blk b9 256 (aI xb.1)::blk b 347 (ps.map ay++rs)::blk bh 346 [.slice (some ⟨b,0,none⟩) ps.length c]::blk bs 4 [.bool true]::blk bst 107 [.func (.func 212) #[] #[ay br,ay bh]]::blk b3 256 (aI cP)::F)
     refine go ?_
     refine ag (met (ya hn hs hmx) ?_)
     rintro _ w ⟨ve,rfl,hs⟩
     refine ⟨_,rfl,?_⟩
     cases y with
     | error e=>
      simp only [Option.some.injEq,Prod.mk.injEq] at h
      obtain ⟨rfl,rfl⟩:=h
      obtain ⟨t,u,rfl⟩:=(hs.take (.there (.there .here))).aQ
      refine go ?_
      refine bz (aI cP) ?_
      refine go ?_
      refine da (vs:=aI cP) hs fun w hs=>?_
      refine go ?_
      exact eC ⟨_,_,b3,0,rfl,rfl,fM (aI cP) hs (.there (.there (.there (.there (.there (.there (.there (.there (.there (.there (.there .here))))))))))) rfl rfl (fS.all _),_,_,rfl,rfl,_,_,rfl,rfl,rfl⟩ ⟨_,rfl,Sat.emp hs.to⟩
     | ok q=>
      obtain ⟨o,it2⟩:=q
      have hve:=(hs.take (.there (.there .here))).cA
      subst hve
      cases o with
      | some e=>
       dsimp only at h
       simp only [Option.some.injEq,Prod.mk.injEq] at h
       obtain ⟨rfl,rfl⟩:=h
       refine go ?_
       refine da (vs:=aI xb.1) hs fun w hs=>?_
       refine go ?_
       refine eC ⟨_,_,b3,0,rfl,rfl,fM (aI xb.1) hs (.there (.there (.there (.there (.there (.there (.there (.there (.there (.there (.there .here))))))))))) rfl rfl (fS.all _),_,_,rfl,rfl,_,_,rfl,rfl,rfl⟩ ⟨_,rfl,?_⟩
       have hs:=Sat.x9 (x:=(e,it2)) (hs.to (a:=blk pb 349 (aI e++[cv])::mb d m cv it2::star ((List.zipWith (fa d m) ps H).take best++(List.zipWith (fa d m) ps H).drop (best+1))::blk b 347 (ps.map ay++rs)::blk bh 346 [.slice (some ⟨b,0,none⟩) ps.length c]::blk bs 4 [.bool true]::blk bst 107 [.func (.func 212) #[] #[ay br,ay bh]]::aH .nilIface none::aO m M::aj d D2::F))
       have hs:=hs.eY
       rw [← hset (e,it2)] at hs
       have hs:=Sat.dg (k:=1) (len:=ps.length) (cs:=ps.map ay) (hs.to (a:=blk b 347 (ps.map ay++rs)::blk bh 346 [.slice (some ⟨b,0,none⟩) ps.length c]::star (List.zipWith (fa d m) ps (H.set best (e,it2)))::blk bs 4 [.bool true]::blk bst 107 [.func (.func 212) #[] #[ay br,ay bh]]::aH .nilIface none::aO m M::aj d D2::F)) q1 q2 q3 (by simp) (fun u hu=>by obtain ⟨x,_,rfl⟩:=List.mem_map.1 hu;rfl)
       have hs:=Sat.qQ (hl:=H.set best (e,it2)) (bh:=bh) (ps:=ps) (by simp [hps]) (hs.to (a:=blk bh 346 [.slice (some ⟨b,0,none⟩) ps.length c]::aL 1 (.slice (some ⟨b,0,none⟩) ps.length c) 347 ps.length (ps.map ay)::star (List.zipWith (fa d m) ps (H.set best (e,it2)))::blk bs 4 [.bool true]::blk bst 107 [.func (.func 212) #[] #[ay br,ay bh]]::aH .nilIface none::aO m M::aj d D2::F))
       exact Sat.uj (z:=⟨bs,bst,bh,br,rv⟩) (g:=⟨true,rows,H.set best (e,it2)⟩) (fun h=>by cases h) (F:=aH .nilIface none::aO m M::aj d D2::F) ((Sat.emp hs).to)
      | none=>
       dsimp only at h
       simp only [Option.some.injEq,Prod.mk.injEq] at h
       obtain ⟨rfl,rfl⟩:=h
       refine go ?_
       refine bO (l:=blk b 347 (ps.map ay++rs)::blk bh 346 [.slice (some ⟨b,0,none⟩) ps.length c]::star ((List.zipWith (fa d m) ps H).take best++(List.zipWith (fa d m) ps H).drop (best+1))::blk b9 256 (aI xb.1)::blk bs 4 [.bool true]::blk bst 107 [.func (.func 212) #[] #[ay br,ay bh]]::aH .nilIface none::aO m M::aj d D2::blk b3 256 (aI cP)::F) [blk bh 346 [.slice (some ⟨b,0,none⟩) ps.length c]] [(0,false),(1,false),(2,false),(3,false),(4,false),(5,false),(6,false),(7,true),(8,true)] hs.to (by kernel_rfl) fun w hs=>?_
       refine go ?_
       refine zK 0 best rfl rfl rfl rfl rfl rfl (Nat.zero_le _) (by omega) rfl ?_
       refine go ?_
       refine zK (best+1) ps.length rfl rfl rfl rfl (by show some (Value.int .i64 ((best:Int)+1))=_;rfl) rfl (by omega) q1 rfl ?_
       have e0:cutAt b 0 c 0 1=⟨b,0,none⟩:=by unfold cutAt;split<;>simp
       rw [e0,Nat.sub_zero,Nat.sub_zero]
       have hcs:(ps.map ay++rs).length=c*1:=by rw [List.length_append,List.length_map,q3];omega
       have hone:∀ u∈ps.map ay,df u=true:=fun u hu=>by obtain ⟨x,_,rfl⟩:=List.mem_map.1 hu;rfl
       obtain ⟨o,ho,hseg⟩:∃ o,cutAt b 0 c (best+1) 1=⟨b,o,none⟩∧fS (ps.map ay++rs) o ((ps.map ay).drop (best+1)):=by
        by_cases hc1:c=best+1
        ·refine ⟨0,by unfold cutAt;rw [if_pos hc1],?_⟩
         rw [List.drop_of_length_le (by simp;omega)];trivial
        ·refine ⟨0+(best+1)*1,by unfold cutAt;rw [if_neg hc1],?_⟩
         have e1:ps.map ay++rs=(ps.map ay).take (best+1)++((ps.map ay).drop (best+1)++rs):=by rw [← List.append_assoc,List.take_append_drop]
         have e2:0+(best+1)*1=((ps.map ay).take (best+1)).length+0:=by rw [List.length_take,List.length_map];omega
         rw [e1,e2]
         exact fS.pre _ (fS.all _).app
       rw [ho]
       refine go ?_
       refine JY (news:=(ps.map ay).drop (best+1)) hs rfl rfl rfl rfl rfl hcs hseg (by rw [List.length_drop,List.length_map];omega) (fun u hu=>hone u (List.mem_of_mem_drop hu)) (by omega) rfl fun w hs=>?_
       refine go ?_
       refine bK hs fun w hs=>?_
       refine go ?_
       refine da (vs:=aI xb.1) hs fun w hs=>?_
       refine go ?_
       refine eC ⟨_,_,b3,0,rfl,rfl,fM (aI xb.1) hs (.there (.there (.there (.there (.there (.there (.there (.there (.there .here))))))))) rfl rfl (fS.all _),_,_,rfl,rfl,_,_,rfl,rfl,rfl⟩ ⟨_,rfl,?_⟩
       obtain ⟨rs2,hrs2,hsp⟩:∃ rs2:List Value,rs2.length=(c-(best+(ps.length-(best+1))))*1∧dk (ps.map ay++rs) (best*1) ((ps.map ay).drop (best+1))=(ps.eraseIdx best).map ay++rs2:=by
        refine ⟨(ps.map ay++rs).drop (best*1+((ps.map ay).drop (best+1)).length),?_,?_⟩
        ·rw [List.length_drop,hcs,List.length_drop,List.length_map];omega
        ·unfold dk
         rw [sY,List.map_append,List.map_take,List.map_drop,List.take_append_of_le_length (by simp;omega),Nat.mul_one]
       rw [hsp] at hs
       have hlen:(ps.eraseIdx best).length=best+(ps.length-(best+1)):=by rw [List.length_eraseIdx];simp [hblt];omega
       have hs:=Sat.dg (k:=1) (len:=best+(ps.length-(best+1))) (cs:=(ps.eraseIdx best).map ay) hs (by omega) q2 hrs2 (by rw [List.length_map,hlen,Nat.mul_one]) (fun u hu=>by obtain ⟨x,_,rfl⟩:=List.mem_map.1 hu;rfl)
       rw [← pA (fa d m) hps] at hs
       rw [← hlen] at hs
       have hs:=Sat.qQ (hl:=H.eraseIdx best) (bh:=bh) (ps:=ps.eraseIdx best) (by rw [List.length_eraseIdx,List.length_eraseIdx,hps]) (hs.to (a:=blk bh 346 [.slice (some ⟨b,0,none⟩) (ps.eraseIdx best).length c]::aL 1 (.slice (some ⟨b,0,none⟩) (ps.eraseIdx best).length c) 347 (ps.eraseIdx best).length ((ps.eraseIdx best).map ay)::star (List.zipWith (fa d m) (ps.eraseIdx best) (H.eraseIdx best))::blk bs 4 [.bool true]::blk bst 107 [.func (.func 212) #[] #[ay br,ay bh]]::aH .nilIface none::aO m M::aj d D2::F))
       exact Sat.uj (z:=⟨bs,bst,bh,br,rv⟩) (g:=⟨true,rows,H.eraseIdx best⟩) (fun h=>by cases h) (F:=aH .nilIface none::aO m M::aj d D2::F) ((Sat.emp hs).to)
end
end Go.Proofs.YtecibefflhomdaaGreatDoor
