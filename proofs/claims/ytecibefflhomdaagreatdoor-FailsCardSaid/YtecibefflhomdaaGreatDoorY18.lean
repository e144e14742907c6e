/-
  Part 18: WALKS package rows; WALKS package rows; WALKS package rows.
-/
import Derived.Test.YtecibefflhomdaaGreatDoorY17
set_option maxHeartbeats 8000000
set_option maxRecDepth 100000
set_option linter.all false
namespace Go.Proofs.YtecibefflhomdaaGreatDoor
open Go
section
open Go.Proofs.YtecibefflhomdaaGreatDoor.Pure (ad az Rd bI less aQ aZ)
attribute [local irreducible] IntKind.wrap
variable {W0 w:World} {F:List ah} {v:Value} {d m p:Nat} {T:cD} {D D':ad} {M:List az} {it:It}
def JN (d m bh:Nat) (hs:List (az×It)):ah:=fun h=>∃ z:Value×List Nat,z.2.length=hs.length∧cV [blk bh 346 [z.1],aE 1 z.1 347 z.2.length (z.2.map au),star (List.zipWith (eZ d m) z.2 hs)] h
theorem Sat.Ib {bh:Nat} {hl:List (az×It)} (h:Sat W0 (JN d m bh hl::F) w):∃ hv ps,ps.length=hl.length∧Sat W0 (blk bh 346 [hv]::aE 1 hv 347 ps.length (ps.map au)::star (List.zipWith (eZ d m) ps hl)::F) w:=by
 obtain ⟨z,hz,hs⟩:=h.eI (φ:=fun z:Value×List Nat=>z.2.length=hl.length) (B:=fun z=>[blk bh 346 [z.1],aE 1 z.1 347 z.2.length (z.2.map au),star (List.zipWith (eZ d m) z.2 hl)]) fun hp ⟨z,hz,k⟩=>⟨z,hz,k⟩
 exact ⟨z.1,z.2,hz,hs⟩
theorem Sat.qw {bh:Nat} {hl:List (az×It)} {hv:Value} {ps:List Nat} (hp:ps.length=hl.length) (h:Sat W0 (blk bh 346 [hv]::aE 1 hv 347 ps.length (ps.map au)::star (List.zipWith (eZ d m) ps hl)::F) w):Sat W0 (JN d m bh hl::F) w:=
 Sat.close (B:=[blk bh 346 [hv],aE 1 hv 347 ps.length (ps.map au),star (List.zipWith (eZ d m) ps hl)]) h fun _ k=>⟨(hv,ps),hp,k⟩
def yq (d m:Nat) (rv:Value) (its:List It):ah:=fun h=>∃ vs:List Value,vs.length=its.length∧cV [aE 1 rv 288 vs.length vs,star (List.zipWith (lL d m) vs its)] h
theorem Sat.uA {rv:Value} {its:List It} (h:Sat W0 (yq d m rv its::F) w):∃ vs,vs.length=its.length∧Sat W0 (aE 1 rv 288 vs.length vs::star (List.zipWith (lL d m) vs its)::F) w:=by
 obtain ⟨vs,hz,hs⟩:=h.eI (φ:=fun vs:List Value=>vs.length=its.length) (B:=fun vs=>[aE 1 rv 288 vs.length vs,star (List.zipWith (lL d m) vs its)]) fun hp ⟨z,hz,k⟩=>⟨z,hz,k⟩
 exact ⟨vs,hz,hs⟩
def OA (d m bh:Nat):Except cy (List (az×It))→ah
 | .ok hl=>JN d m bh hl
 | .error _=>fun _=>True
theorem Sat.qx (h:Sat W0 (lL d m v it::F) w):∃ f q,v=.func (.func f) #[] q:=h.fQ fun hp k=>by
 cases it with
 | mem i=>obtain ⟨_,bi,bm,rfl,_⟩:=k;exact ⟨_,_,rfl⟩
 | Ec T key i l=>obtain ⟨_,z,rfl,_⟩:=k;exact ⟨_,_,rfl⟩
theorem Cb {br bh:Nat} {rv:Value} {its:List It} {x:Except cy (List (az×It))} (h:lF M its [] D=some (x,D')) (ON:its.length≤1099511627776) (hmx:M.length≤1099511627776)
 (hs:Sat W0 (blk br 308 [rv]::yq d m rv its::JN d m bh []::aR m M::ag d D::F) w) :
 Calls Tryz.prog 212 #[au br,au bh] w fun y w'=>∃ ve,y=.returned ve∧Sat W0 (OA d m bh x::ax ve (dk x)::aR m M::ag d D'::F) w':=by
 obtain ⟨vs,hvs,hs⟩:=(hs.take (.there .here)).uA
 obtain ⟨a,c,rfl,hc⟩:=hs.ay
 have hvl:vs.length≤1099511627776:=by omega
 refine enter Tryz.func212 rfl Tryz.ntmps212 Tryz.results212 rfl ?_
 refine go ?_
 refine aL (α:=Nat×ad×List (az×It)) (fun z=>[(0,au br),(1,au bh),(8,.slice a vs.length c),(9,.int .i64 (vs.length:Int)),(10,.int .i64 (z.1:Int))])
  (fun z w=>(z.1≤vs.length∧lF M (its.drop z.1) z.2.2 z.2.1=some (x,D')∧z.2.2.length≤z.1)∧Sat W0 (aE 1 (.slice a vs.length c) 288 vs.length vs::star (List.zipWith (lL d m) (vs.drop z.1) (its.drop z.1))::JN d m bh z.2.2::aR m M::ag d z.2.1::F) w) (fun z=>vs.length-z.1) (0,D,[]) ⟨rfl,rfl,rfl,rfl,rfl,trivial⟩ ⟨⟨Nat.zero_le _,h,Nat.le_refl _⟩,hs.to⟩ ?_
 clear hs h
 rintro ⟨i,D1,acc⟩ w ⟨⟨hi,h,hacc⟩,hs⟩
 dsimp only at hi h hacc hs ⊢
 by_cases hlt:i<vs.length
 ·have hlt2:i<its.length:=by omega
  have hgv:vs[i]?=some vs[i]:=List.getElem?_eq_getElem hlt
  have hdv:vs.drop i=vs[i]::vs.drop (i+1):=List.drop_eq_getElem_cons hlt
  have hdi:its.drop i=its[i]::its.drop (i+1):=List.drop_eq_getElem_cons hlt2
  rw [hdi] at h
  rw [hdv,hdi] at hs
  generalize vs[i]=v1 at *
  generalize its[i]=it1 at *
  unfold lF at h
  cases hn:nc M D1 it1 with
  | none=>rw [hn] at h;cases h
  | some y=>
   obtain ⟨y,D2⟩:=y
   rw [hn] at h
   have hs:=Sat.eS (B:=[]) (hs.take (.there .here))
   obtain ⟨cf,cq,rfl⟩:=hs.qx
   obtain ⟨b,cap,rs,hv,q1,q2,q3,hs2⟩:=(hs.take (.there (.there .here))).dV (by omega)
   obtain ⟨rfl,_,rfl⟩:=Value.slice.inj hv
   have hcell:(vs++rs)[0+i*1]?=some (.func (.func cf) #[] cq):=by rw [Nat.zero_add,Nat.mul_one,List.getElem?_append_left (by omega)];exact hgv
   refine go ?_
   refine cL (i:=i) rfl rfl rfl rfl rfl hlt rfl ?_
   refine eC hs2 rfl rfl .here hcell rfl ?_
   clear hs2
   refine go ?_
   refine bA (aF cN++[.func (.func cf) #[] cq]) ?_
   refine cE (z:=aF cN++[.func (.func cf) #[] cq]) hs fun w hp hs=>?_
   refine go ?_
   have hs:=hs.to (a:=blk hp 349 (aF cN++[.func (.func cf) #[] cq])::lL d m (.func (.func cf) #[] cq) it1::aR m M::ag d D1::star (List.zipWith (lL d m) (vs.drop (i+1)) (its.drop (i+1)))::aE 1 (.slice (some ⟨b,0,none⟩) vs.length c) 288 vs.length vs::JN d m bh acc::F)
   refine ae (met (wM hn hs hmx) ?_)
   rintro _ w ⟨ve,rfl,hs⟩
   refine ⟨_,rfl,?_⟩
   cases y with
   | error e=>
    simp only [Option.some.injEq,Prod.mk.injEq] at h
    obtain ⟨rfl,rfl⟩:=h
    obtain ⟨t,u,rfl⟩:=(hs.take (.there (.there .here))).aW
    refine go ?_
    exact ak rfl ⟨_,rfl,Sat.emp hs.to⟩
   | ok q=>
    obtain ⟨o,it2⟩:=q
    have hve:=(hs.take (.there (.there .here))).cF
    subst hve
    cases o with
    | none=>
     dsimp only at h
     refine go ?_
     exact aB (i+1,D2,acc) ⟨rfl,rfl,rfl,rfl,rfl,trivial⟩ ⟨⟨hlt,h,by dsimp only;omega⟩,hs.to⟩ (by dsimp only;omega)
    | some e=>
     dsimp only at h
     have hs:=Sat.wL (x:=(e,it2)) (hs.to (a:=blk hp 349 (aF e++[.func (.func cf) #[] cq])::lL d m (.func (.func cf) #[] cq) it2::JN d m bh acc::aR m M::ag d D2::star (List.zipWith (lL d m) (vs.drop (i+1)) (its.drop (i+1)))::aE 1 (.slice (some ⟨b,0,none⟩) vs.length c) 288 vs.length vs::F))
     obtain ⟨hv,ps,hps,hs⟩:=(hs.take (.there .here)).Ib
     refine go ?_
     refine fw hs fun w b2 hs=>?_
     refine dF hs fun v' w hs=>?_
     obtain ⟨a5,c5,rfl,hc5⟩:=hs.ay
     refine bD hs fun w hs=>?_
     refine go ?_
     have hs:=hs.to (a:=star (List.zipWith (eZ d m) ps acc)::eZ d m hp (e,it2)::blk bh 346 [.slice a5 (ps.length+1) c5]::aE 1 (.slice a5 (ps.length+1) c5) 347 (ps.length+1) (ps.map au++[au hp])::aR m M::ag d D2::star (List.zipWith (lL d m) (vs.drop (i+1)) (its.drop (i+1)))::aE 1 (.slice (some ⟨b,0,none⟩) vs.length c) 288 vs.length vs::F)
     have hs:=hs.zF
     have ez:List.zipWith (eZ d m) ps acc++[eZ d m hp (e,it2)]=List.zipWith (eZ d m) (ps++[hp]) (acc++[(e,it2)]):=by rw [List.zipWith_append hps];rfl
     rw [ez] at hs
     have hs:=Sat.qw (ps:=ps++[hp]) (hl:=acc++[(e,it2)]) (bh:=bh) (hv:=.slice a5 (ps.length+1) c5) (by simp [hps]) (F:=aR m M::ag d D2::star (List.zipWith (lL d m) (vs.drop (i+1)) (its.drop (i+1)))::aE 1 (.slice (some ⟨b,0,none⟩) vs.length c) 288 vs.length vs::F) (by
      rw [List.length_append,List.map_append]
      exact hs.to)
     exact aB (i+1,D2,acc++[(e,it2)]) ⟨rfl,rfl,rfl,rfl,rfl,trivial⟩ ⟨⟨hlt,h,by simp;omega⟩,hs.to⟩ (by dsimp only;omega)
 ·have hd0:its.drop i=[]:=List.drop_of_length_le (by omega)
  rw [hd0] at h
  unfold lF at h
  simp only [Option.some.injEq,Prod.mk.injEq] at h
  obtain ⟨rfl,rfl⟩:=h
  refine go ?_
  exact ak rfl ⟨_,rfl,(hs.ei).to⟩
end
section
open Go.Proofs.YtecibefflhomdaaGreatDoor.Pure (ad az Rd bI less aQ aZ)
attribute [local irreducible] IntKind.wrap
variable {W0 w:World} {F:List ah} {v:Value} {d m p:Nat} {T:cD} {D D':ad} {M:List az} {it:It} {g:Mg}
structure Na where
 bs:Nat
 bst:Nat
 bh:Nat
 br:Nat
 rv:Value
def Nz (d m:Nat) (z:Na) (g:Mg):ah:=if g.started=true then (fun _=>True) else star [blk z.br 308 [z.rv],yq d m z.rv g.rows]
abbrev Nb (d m:Nat) (z:Na) (g:Mg):List ah:=[blk z.bs 4 [.bool g.started],blk z.bst 107 [.func (.func 212) #[] #[au z.br,au z.bh]],JN d m z.bh g.heads,Nz d m z g]
abbrev NA (z:Na):Value:=.func (.func 214) #[] #[au z.bs,au z.bst,au z.bh]
def Mm (d m:Nat) (v:Value) (g:Mg):ah:=fun h=>(g.started=false→g.heads=[])∧∃ z,v=NA z∧cV (Nb d m z g) h
theorem Sat.Ic (h:Sat W0 (Mm d m v g::F) w):(g.started=false→g.heads=[])∧∃ z,v=NA z∧Sat W0 (Nb d m z g++F) w:=by
 have h1:=h.fQ (φ:=g.started=false→g.heads=[]) fun _ k=>k.1
 obtain ⟨z,hv,hs⟩:=h.eI (φ:=fun z:Na=>v=NA z) (B:=fun z=>Nb d m z g) fun hp ⟨_,z,hv,k⟩=>⟨z,hv,k⟩
 exact ⟨h1,z,hv,hs⟩
theorem Sat.tf {z:Na} (hg:g.started=false→g.heads=[]) (h:Sat W0 (Nb d m z g++F) w):Sat W0 (Mm d m (NA z) g::F) w:=Sat.close h fun hp k=>⟨hg,z,rfl,k⟩
theorem uB {rv:Value} {its:List It} (hs:Sat W0 (yq d m rv its::F) w) :
 Calls Tryz.prog 184 #[rv] w fun y w'=>∃ v,y=.returned v∧Sat W0 (Mm d m v ⟨false,its,[]⟩::F) w':=by
 obtain ⟨vs,hvs,hs⟩:=hs.uA
 obtain ⟨a,c,rfl,hc⟩:=hs.ay
 refine enter Tryz.func184 rfl Tryz.ntmps184 Tryz.results184 rfl ?_
 refine go ?_
 refine cE hs fun w br hs=>?_
 refine go ?_
 refine aS hs fun w bh hs=>?_
 refine go ?_
 refine aS hs fun w bs hs=>?_
 refine bD hs fun w hs=>?_
 refine go ?_
 refine aS hs fun w bst hs=>?_
 refine bD hs fun w hs=>?_
 refine go ?_
 refine ak rfl ⟨_,rfl,Sat.tf (z:=⟨bs,bst,bh,br,.slice a vs.length c⟩) (fun _=>rfl) ?_⟩
 have hs1:Sat W0 (yq d m (.slice a vs.length c) its::blk br 308 [.slice a vs.length c]::blk bh 346 [.slice none 0 0]::blk bs 4 [.bool false]::blk bst 107 [.func (.func 212) #[] #[au br,au bh]]::F) w:=
  Sat.close (B:=[aE 1 (.slice a vs.length c) 288 vs.length vs,star (List.zipWith (lL d m) vs its)]) hs.to fun _ k=>⟨vs,hvs,k⟩
 have hs2:=Sat.tT (Sat.to (a:=blk br 308 [.slice a vs.length c]::star [yq d m (.slice a vs.length c) its]::blk bh 346 [.slice none 0 0]::blk bs 4 [.bool false]::blk bst 107 [.func (.func 212) #[] #[au br,au bh]]::F) (Sat.tT (Sat.to (a:=yq d m (.slice a vs.length c) its::star []::blk br 308 [.slice a vs.length c]::blk bh 346 [.slice none 0 0]::blk bs 4 [.bool false]::blk bst 107 [.func (.func 212) #[] #[au br,au bh]]::F) hs1.ln)))
 have hs3:=Sat.qw (d:=d) (m:=m) (bh:=bh) (hl:=[]) (hv:=.slice none 0 0) (ps:=[]) rfl (F:=star [blk br 308 [.slice a vs.length c],yq d m (.slice a vs.length c) its]::blk bs 4 [.bool false]::blk bst 107 [.func (.func 212) #[] #[au br,au bh]]::F) (Sat.to (Sat.cP (k:=1) (E:=347) (Sat.ln hs2)))
 exact hs3.to
end
section
open Go.Proofs.YtecibefflhomdaaGreatDoor.Pure (ad az Rd bI less aQ aZ)
attribute [local irreducible] IntKind.wrap
variable {W0 w:World} {F:List ah} {v:Value} {d m p:Nat} {T:cD} {D D':ad} {M:List az} {it:It} {g:Mg}
theorem dm {α β γ:Type} (f:α→β→γ) {xs:List α} {ys:List β} {i:Nat} {x:α} {y:β} (hx:xs[i]?=some x) (hy:ys[i]?=some y):(List.zipWith f xs ys)[i]?=some (f x y):=by
 simp [List.getElem?_zipWith,hx,hy]
theorem rq {Z:List ah} {i hp:Nat} {x:az×It} {l r:List ah} (hs:Sat W0 l w) (tk:Take (star Z) l r) (hz:Z[i]?=some (eZ d m hp x)):(loadVar 256 ⟨hp,0+0,none⟩).run Tryz.prog w=.ok (.agg (aF x.1).toArray) w:=by
 have h1:=hs.take tk
 rw [dG hz] at h1
 obtain ⟨v,h2⟩:=h1.eS.z6
 exact iR rfl rfl (h2.cell .here) (gh.all (aF x.1)).app
theorem uC (hs:List az) (i:Nat):gF hs (i+1)=if less (hs.getD i default) (hs.getD (gF hs i) default)=true then i else gF hs i:=by
 unfold gF;rw [List.range_succ,List.foldl_append];rfl
theorem uD (hs:List az):∀ i,0<i→gF hs i<i
 | 0,h=>by omega
 | i+1,_=>by
  rw [uC]
  split
  ·omega
  ·cases i with
   | zero=>simp [gF]
   | succ i=>have:=uD hs (i+1) (by omega);omega
theorem Ie (hs:List az) (i:Nat):gF hs i≤i:=by
 cases i with
 | zero=>simp [gF]
 | succ i=>have:=uD hs (i+1) (by omega);omega
theorem su {α β γ:Type} (f:α→β→γ):∀ {xs:List α} {ys:List β} {i:Nat} {x:α} {y:β},xs[i]?=some x→i<ys.length→List.zipWith f xs (ys.set i y)=(List.zipWith f xs ys).take i++f x y::(List.zipWith f xs ys).drop (i+1)
 | a::xs,b::ys,0,x,y,hx,_=>by simp at hx;subst hx;simp
 | a::xs,b::ys,i+1,x,y,hx,hy=>by
  simp at hx hy
  simp [su f hx hy]
theorem oS {α β γ:Type} (f:α→β→γ):∀ {xs:List α} {ys:List β} {i:Nat},xs.length=ys.length→List.zipWith f (xs.eraseIdx i) (ys.eraseIdx i)=(List.zipWith f xs ys).take i++(List.zipWith f xs ys).drop (i+1)
 | [],[],i,_=>by simp
 | a::xs,b::ys,0,_=>by simp
 | a::xs,b::ys,i+1,h=>by
  simp at h
  simp [oS f (i:=i) h]
theorem sw {α:Type}:∀ {Z:List α} {i:Nat},Z.eraseIdx i=Z.take i++Z.drop (i+1)
 | [],i=>by simp
 | z::Z,0=>by simp
 | z::Z,i+1=>by simp [sw (Z:=Z) (i:=i)]
theorem z7 {z:Na} {x:Except cy (Option az×Mg)} (h:zS M D g=some (x,D')) (hg:g.started=false→g.heads=[]) (hmx:M.length≤1099511627776) (hs:Sat W0 (Nb d m z g++(aR m M::ag d D::F)) w) :
 Calls Tryz.prog 214 #[au z.bs,au z.bst,au z.bh] w (Ia W0 (Mm d m (NA z)) m d M x D' F):=by
 obtain ⟨bs,bst,bh,br,rv⟩:=z
 obtain ⟨started,rows,heads⟩:=g
 dsimp only [Nb,List.cons_append,List.nil_append] at hs hg ⊢
 unfold zS ym at h
 dsimp only at h
 refine enter Tryz.func214 rfl Tryz.ntmps214 Tryz.results214 rfl ?_
 refine dU ?_
 refine pr ?_
 refine aS hs fun w b3 hs=>?_
 refine pr ?_
 refine db rfl ?_
 refine eB (α:=ad×List (az×It)) (fun _=>[(0,au bs),(1,au bst),(2,au bh),(3,au b3)])
  (fun z w=>HY M z.1 rows z.2=some (x,D')∧Sat W0 (blk bs 4 [.bool true]::blk bst 107 [.func (.func 212) #[] #[au br,au bh]]::JN d m bh z.2::blk b3 256 (aF cN)::aR m M::ag d z.1::F) w) ?_ ?_
 ·cases started with
  | true=>
   rw [if_pos rfl] at h
   refine go ?_
   exact bg (D,heads) ⟨rfl,rfl,rfl,rfl,trivial⟩ ⟨h,hs.to⟩
  | false=>
   have hh:=hg rfl
   subst hh
   rw [if_neg (by simp)] at h
   by_cases hbig:rows.length≤gW
   ·rw [if_pos hbig] at h
    rw [bJ] at hbig
    cases hst:lF M rows [] D with
    | none=>rw [hst] at h;cases h
    | some y=>
     obtain ⟨y,D2⟩:=y
     rw [hst] at h
     refine go ?_
     refine bD hs fun w hs=>?_
     refine go ?_
     have hs:=Sat.imp (hs.to (a:=star [blk br 308 [rv],yq d m rv rows]::JN d m bh []::aR m M::ag d D::blk bs 4 [.bool true]::blk bst 107 [.func (.func 212) #[] #[au br,au bh]]::blk b3 256 (aF cN)::F)) fun _ k=>dI k
     dsimp only [List.cons_append,List.nil_append] at hs
     refine il rfl rfl rfl rfl (met (Cb hst hbig hmx hs) ?_)
     rintro _ w ⟨ve,rfl,hs⟩
     refine ⟨_,rfl,?_⟩
     cases y with
     | error e=>
      simp only [Option.some.injEq,Prod.mk.injEq] at h
      obtain ⟨rfl,rfl⟩:=h
      obtain ⟨t,u,rfl⟩:=(hs.take (.there .here)).aW
      refine go ?_
      refine bA (aF cN) ?_
      refine go ?_
      refine cZ (vs:=aF cN) hs fun w hs=>?_
      refine go ?_
      exact ej ⟨_,_,b3,0,rfl,rfl,fx (aF cN) hs (.there (.there (.there (.there (.there (.there .here)))))) rfl rfl (gh.all _),_,_,rfl,rfl,_,_,rfl,rfl,rfl⟩ ⟨_,rfl,Sat.emp hs.to⟩
     | ok hl=>
      have hve:=(hs.take (.there .here)).cF
      subst hve
      dsimp only at h
      refine go ?_
      exact bg (D2,hl) ⟨rfl,rfl,rfl,rfl,trivial⟩ ⟨h,hs.to⟩
   ·rw [if_neg hbig] at h;cases h
 ·clear h hg
  rintro ⟨D,heads⟩ w ⟨h,hs⟩
  dsimp only at h hs
  unfold HY at h
  obtain ⟨hv,ps,hps,hs⟩:=(hs.take (.there (.there .here))).Ib
  obtain ⟨a,c,rfl,hc⟩:=(hs.take (.there .here)).ay
  simp only [maxLen] at hc
  cases heads with
  | nil=>
   have hp0:ps=[]:=List.eq_nil_of_length_eq_zero hps
   subst hp0
   simp only [List.map_nil,List.length_nil,gF,List.range_zero,List.foldl_nil,List.getElem?_nil,Option.some.injEq,Prod.mk.injEq] at h
   obtain ⟨rfl,rfl⟩:=h
   refine go ?_
   refine bA (aF cN) ?_
   refine cZ (vs:=aF cN) hs fun w hs=>?_
   refine go ?_
   refine ej ⟨_,_,b3,0,rfl,rfl,fx (aF cN) hs (.there (.there (.there (.there (.there .here))))) rfl rfl (gh.all _),_,_,rfl,rfl,_,_,rfl,rfl,rfl⟩ ⟨_,rfl,?_⟩
   have hs:=Sat.qw (d:=d) (m:=m) (bh:=bh) (hl:=[]) (hv:=.slice a 0 c) (ps:=[]) rfl (F:=blk bs 4 [.bool true]::blk bst 107 [.func (.func 212) #[] #[au br,au bh]]::(fun _=>True)::ax .nilIface none::aR m M::ag d D::F) ((Sat.ei (Sat.emp hs)).to)
   exact Sat.tf (z:=⟨bs,bst,bh,br,rv⟩) (g:=⟨true,rows,[]⟩) (fun h=>by cases h) (F:=ax .nilIface none::aR m M::ag d D::F) hs.to
  | cons x0 hl0=>
   have hpos:0<ps.length:=by rw [hps];simp
   generalize hH:x0::hl0=H at *
   have hbl:gF (H.map (·.1)) H.length<H.length:=uD _ _ (by rw [← hps];exact hpos)
   obtain ⟨b,cap,rs,hv,q1,q2,q3,hs⟩:=(hs.take (.there .here)).dV hpos
   obtain ⟨rfl,_,rfl⟩:=Value.slice.inj hv
   have hcellAt:∀ i hp,ps[i]?=some hp→(ps.map au++rs)[0+i*1]?=some (au hp):=fun i hp hi=>by
    rw [Nat.zero_add,Nat.mul_one,List.getElem?_append_left (by have:=(List.getElem?_eq_some_iff.1 hi).1;simpa using this),List.getElem?_map,hi];rfl
   have hne:¬ (ps.length:Int)=0:=by omega
   refine go ?_
   refine aL (α:=Nat×Nat) (fun z=>[(0,au bs),(1,au bst),(2,au bh),(3,au b3),(7,.int .i64 (z.2:Int)),(25,.int .i64 (ps.length:Int)),(26,.int .i64 (z.1:Int))])
    (fun z w=>(z.1≤ps.length∧z.2=gF (H.map (·.1)) z.1)∧Sat W0 (blk b 347 (ps.map au++rs)::blk bh 346 [.slice (some ⟨b,0,none⟩) ps.length c]::star (List.zipWith (eZ d m) ps H)::blk bs 4 [.bool true]::blk bst 107 [.func (.func 212) #[] #[au br,au bh]]::blk b3 256 (aF cN)::aR m M::ag d D::F) w) (fun z=>ps.length-z.1) (0,0) ⟨rfl,rfl,rfl,rfl,rfl,rfl,rfl,trivial⟩ ⟨⟨Nat.zero_le _,rfl⟩,hs.to⟩ ?_
   clear hs
   rintro ⟨i,best⟩ w ⟨⟨hi,hbest⟩,hs⟩
   dsimp only at hi hbest hs ⊢
   by_cases hlt:i<ps.length
   ·have hblt:best<ps.length:=by have:=Ie (H.map (·.1)) i;omega
    have gi:ps[i]?=some ps[i]:=List.getElem?_eq_getElem hlt
    have gb:ps[best]?=some ps[best]:=List.getElem?_eq_getElem hblt
    have hi2:H[i]?=some (H[i]'(by omega)):=List.getElem?_eq_getElem (by omega)
    have hb2:H[best]?=some (H[best]'(by omega)):=List.getElem?_eq_getElem (by omega)
    have zi:=dm (eZ d m) gi hi2
    have zb:=dm (eZ d m) gb hb2
    have ci:=hcellAt i _ gi
    have cb:=hcellAt best _ gb
    have hsucc:=uC (H.map (·.1)) i
    rw [← hbest,show (H.map (·.1)).getD i default=(H[i]'(by omega)).1 from by simp [List.getD,hi2],show (H.map (·.1)).getD best default=(H[best]'(by omega)).1 from by simp [List.getD,hb2]] at hsucc
    generalize H[i]'(by omega)=xi at *
    generalize H[best]'(by omega)=xb at *
    generalize ps[i]=pi at *
    generalize ps[best]=pb at *
    refine go ?_
    refine bU [blk b 347 (ps.map au++rs),blk bh 346 [.slice (some ⟨b,0,none⟩) ps.length c],star (List.zipWith (eZ d m) ps H)] [(0,false),(1,false),(2,false),(3,false),(4,false),(5,false),(6,false),(7,false),(8,false),(9,false),(10,false),(11,false),(12,false),(13,false),(14,true)] hs (by kernel_rfl) fun w hs=>?_
    refine go ?_
    refine pq (j:=i) rfl rfl rfl rfl rfl rfl hlt rfl ?_
    refine pW rfl rfl rfl .here ci rfl ?_
    refine go ?_
    refine Fg (v:=.agg (aF xi.1).toArray) rfl (fun a w' ha hS=>by
     have h1:a.eval (.tmp 34)=.pointer (some ⟨pi,0+0,none⟩):=ha.ev rfl
     have h2:=rq hS (.there (.there .here)) zi
     simp only [execOp,h1,Instr.loadAt,Instr.sureAddr,Sem.run_bind,Sem.run_pure,Result.andThen_ok,h2]) rfl ?_
    refine go ?_
    refine pq (j:=best) rfl rfl rfl rfl rfl rfl hblt rfl ?_
    refine pW rfl rfl rfl .here cb rfl ?_
    refine go ?_
    refine Fg (v:=.agg (aF xb.1).toArray) rfl (fun a w' ha hS=>by
     have h1:a.eval (.tmp 41)=.pointer (some ⟨pb,0+0,none⟩):=ha.ev rfl
     have h2:=rq hS (.there (.there .here)) zb
     simp only [execOp,h1,Instr.loadAt,Instr.sureAddr,Sem.run_bind,Sem.run_pure,Result.andThen_ok,h2]) rfl ?_
    refine go ?_
    refine ae (met (wD (a:=xi.1) (b:=xb.1) hs) ?_)
    rintro _ w ⟨rfl,hs⟩
    refine ⟨_,rfl,?_⟩
    cases hl:less xi.1 xb.1 with
    | true=>
     rw [hl,if_pos rfl] at hsucc
     refine go ?_
     exact aB (i+1,i) ⟨rfl,rfl,rfl,rfl,rfl,rfl,rfl,trivial⟩ ⟨⟨hlt,hsucc.symm⟩,hs⟩ (by dsimp only;omega)
    | false=>
     rw [hl,if_neg (by simp)] at hsucc
     refine go ?_
     exact aB (i+1,best) ⟨rfl,rfl,rfl,rfl,rfl,rfl,rfl,trivial⟩ ⟨⟨hlt,hsucc.symm⟩,hs⟩ (by dsimp only;omega)
   ·have hie:i=H.length:=by omega
    subst hie
    rw [← hbest] at h hbl
    have hblt:best<ps.length:=by omega
    have gb:ps[best]?=some ps[best]:=List.getElem?_eq_getElem hblt
    have hb2:H[best]?=some H[best]:=List.getElem?_eq_getElem hbl
    have zb:=dm (eZ d m) gb hb2
    have cb:=hcellAt best _ gb
    rw [hb2] at h
    have hset:∀ y,List.zipWith (eZ d m) ps (H.set best y)=(List.zipWith (eZ d m) ps H).take best++eZ d m ps[best] y::(List.zipWith (eZ d m) ps H).drop (best+1):=fun y=>su _ gb hbl
    generalize H[best]=xb at *
    generalize ps[best]=pb at *
    dsimp only at h
    cases hn:nc M D xb.2 with
    | none=>rw [hn] at h;cases h
    | some y=>
     obtain ⟨y,D2⟩:=y
     rw [hn] at h
     refine go ?_
     refine cL (i:=best) rfl rfl rfl rfl rfl hblt rfl ?_
     refine eC hs rfl rfl .here cb rfl ?_
     refine go ?_
     refine cj (v:=.agg (aF xb.1).toArray) (w':=w) (fun a ha=>by
      have h1:a.eval (.tmp 51)=.pointer (some ⟨pb,0+0,none⟩):=ha.ev rfl
      have h2:=rq hs (.there (.there .here)) zb
      simp only [execOp,h1,Instr.loadAt,Instr.sureAddr,Sem.run_bind,Sem.run_pure,Result.andThen_ok,h2]) rfl ?_
     refine aS hs fun w b9 hs=>?_
     refine cZ (vs:=aF xb.1) hs fun w hs=>?_
     refine go ?_
     refine cL (i:=best) rfl rfl rfl rfl rfl hblt rfl ?_
     refine eC hs rfl rfl (.there .here) cb rfl ?_
     have hs:=hs.take (.there (.there (.there .here)))
     rw [dG zb] at hs
     obtain ⟨cv,hs⟩:=hs.eS.z6
     have hs:=hs.to (a:=blk pb 349 (aF xb.1++[cv])::lL d m cv xb.2::aR m M::ag d D::star ((List.zipWith (eZ d m) ps H).take best++(List.zipWith (eZ d m) ps H).drop (best+1))::blk b9 256 (aF xb.1)::blk b 347 (ps.map au++rs)::blk bh 346 [.slice (some ⟨b,0,none⟩) ps.length c]::blk bs 4 [.bool true]::blk bst 107 [.func (.func 212) #[] #[au br,au bh]]::blk b3 256 (aF cN)::F)
     refine go ?_
     refine ae (met (wM hn hs hmx) ?_)
     rintro _ w ⟨ve,rfl,hs⟩
     refine ⟨_,rfl,?_⟩
     cases y with
     | error e=>
      simp only [Option.some.injEq,Prod.mk.injEq] at h
      obtain ⟨rfl,rfl⟩:=h
      obtain ⟨t,u,rfl⟩:=(hs.take (.there (.there .here))).aW
      refine go ?_
      refine bA (aF cN) ?_
      refine go ?_
      refine cZ (vs:=aF cN) hs fun w hs=>?_
      refine go ?_
      exact ej ⟨_,_,b3,0,rfl,rfl,fx (aF cN) hs (.there (.there (.there (.there (.there (.there (.there (.there (.there (.there (.there .here))))))))))) rfl rfl (gh.all _),_,_,rfl,rfl,_,_,rfl,rfl,rfl⟩ ⟨_,rfl,Sat.emp hs.to⟩
     | ok q=>
      obtain ⟨o,it2⟩:=q
      have hve:=(hs.take (.there (.there .here))).cF
      subst hve
      cases o with
      | some e=>
       dsimp only at h
       simp only [Option.some.injEq,Prod.mk.injEq] at h
       obtain ⟨rfl,rfl⟩:=h
       refine go ?_
       refine cZ (vs:=aF xb.1) hs fun w hs=>?_
       refine go ?_
       refine ej ⟨_,_,b3,0,rfl,rfl,fx (aF xb.1) hs (.there (.there (.there (.there (.there (.there (.there (.there (.there (.there (.there .here))))))))))) rfl rfl (gh.all _),_,_,rfl,rfl,_,_,rfl,rfl,rfl⟩ ⟨_,rfl,?_⟩
       have hs:=Sat.wL (x:=(e,it2)) (hs.to (a:=blk pb 349 (aF e++[cv])::lL d m cv it2::star ((List.zipWith (eZ d m) ps H).take best++(List.zipWith (eZ d m) ps H).drop (best+1))::blk b 347 (ps.map au++rs)::blk bh 346 [.slice (some ⟨b,0,none⟩) ps.length c]::blk bs 4 [.bool true]::blk bst 107 [.func (.func 212) #[] #[au br,au bh]]::ax .nilIface none::aR m M::ag d D2::F))
       have hs:=hs.eK
       rw [← hset (e,it2)] at hs
       have hs:=Sat.dK (k:=1) (len:=ps.length) (cs:=ps.map au) (hs.to (a:=blk b 347 (ps.map au++rs)::blk bh 346 [.slice (some ⟨b,0,none⟩) ps.length c]::star (List.zipWith (eZ d m) ps (H.set best (e,it2)))::blk bs 4 [.bool true]::blk bst 107 [.func (.func 212) #[] #[au br,au bh]]::ax .nilIface none::aR m M::ag d D2::F)) q1 q2 q3 (by simp) (fun u hu=>by obtain ⟨x,_,rfl⟩:=List.mem_map.1 hu;rfl)
       have hs:=Sat.qw (hl:=H.set best (e,it2)) (bh:=bh) (ps:=ps) (by simp [hps]) (hs.to (a:=blk bh 346 [.slice (some ⟨b,0,none⟩) ps.length c]::aE 1 (.slice (some ⟨b,0,none⟩) ps.length c) 347 ps.length (ps.map au)::star (List.zipWith (eZ d m) ps (H.set best (e,it2)))::blk bs 4 [.bool true]::blk bst 107 [.func (.func 212) #[] #[au br,au bh]]::ax .nilIface none::aR m M::ag d D2::F))
       exact Sat.tf (z:=⟨bs,bst,bh,br,rv⟩) (g:=⟨true,rows,H.set best (e,it2)⟩) (fun h=>by cases h) (F:=ax .nilIface none::aR m M::ag d D2::F) ((Sat.emp hs).to)
      | none=>
       dsimp only at h
       simp only [Option.some.injEq,Prod.mk.injEq] at h
       obtain ⟨rfl,rfl⟩:=h
       refine go ?_
       refine bU (l:=blk b 347 (ps.map au++rs)::blk bh 346 [.slice (some ⟨b,0,none⟩) ps.length c]::star ((List.zipWith (eZ d m) ps H).take best++(List.zipWith (eZ d m) ps H).drop (best+1))::blk b9 256 (aF xb.1)::blk bs 4 [.bool true]::blk bst 107 [.func (.func 212) #[] #[au br,au bh]]::ax .nilIface none::aR m M::ag d D2::blk b3 256 (aF cN)::F) [blk bh 346 [.slice (some ⟨b,0,none⟩) ps.length c]] [(0,false),(1,false),(2,false),(3,false),(4,false),(5,false),(6,false),(7,true),(8,true)] hs.to (by kernel_rfl) fun w hs=>?_
       refine go ?_
       refine yh 0 best rfl rfl rfl rfl rfl rfl (Nat.zero_le _) (by omega) rfl ?_
       refine go ?_
       refine yh (best+1) ps.length rfl rfl rfl rfl (by show some (Value.int .i64 ((best:Int)+1))=_;rfl) rfl (by omega) q1 rfl ?_
       have e0:cutAt b 0 c 0 1=⟨b,0,none⟩:=by unfold cutAt;split<;>simp
       rw [e0,Nat.sub_zero,Nat.sub_zero]
       have hcs:(ps.map au++rs).length=c*1:=by rw [List.length_append,List.length_map,q3];omega
       have hone:∀ u∈ps.map au,dD u=true:=fun u hu=>by obtain ⟨x,_,rfl⟩:=List.mem_map.1 hu;rfl
       obtain ⟨o,ho,hseg⟩:∃ o,cutAt b 0 c (best+1) 1=⟨b,o,none⟩∧gh (ps.map au++rs) o ((ps.map au).drop (best+1)):=by
        by_cases hc1:c=best+1
        ·refine ⟨0,by unfold cutAt;rw [if_pos hc1],?_⟩
         rw [List.drop_of_length_le (by simp;omega)];trivial
        ·refine ⟨0+(best+1)*1,by unfold cutAt;rw [if_neg hc1],?_⟩
         have e1:ps.map au++rs=(ps.map au).take (best+1)++((ps.map au).drop (best+1)++rs):=by rw [← List.append_assoc,List.take_append_drop]
         have e2:0+(best+1)*1=((ps.map au).take (best+1)).length+0:=by rw [List.length_take,List.length_map];omega
         rw [e1,e2]
         exact gh.pre _ (gh.all _).app
       rw [ho]
       refine go ?_
       refine HQ (news:=(ps.map au).drop (best+1)) hs rfl rfl rfl rfl rfl hcs hseg (by rw [List.length_drop,List.length_map];omega) (fun u hu=>hone u (List.mem_of_mem_drop hu)) (by omega) rfl fun w hs=>?_
       refine go ?_
       refine bD hs fun w hs=>?_
       refine go ?_
       refine cZ (vs:=aF xb.1) hs fun w hs=>?_
       refine go ?_
       refine ej ⟨_,_,b3,0,rfl,rfl,fx (aF xb.1) hs (.there (.there (.there (.there (.there (.there (.there (.there (.there .here))))))))) rfl rfl (gh.all _),_,_,rfl,rfl,_,_,rfl,rfl,rfl⟩ ⟨_,rfl,?_⟩
       obtain ⟨rs2,hrs2,hsp⟩:∃ rs2:List Value,rs2.length=(c-(best+(ps.length-(best+1))))*1∧eV (ps.map au++rs) (best*1) ((ps.map au).drop (best+1))=(ps.eraseIdx best).map au++rs2:=by
        refine ⟨(ps.map au++rs).drop (best*1+((ps.map au).drop (best+1)).length),?_,?_⟩
        ·rw [List.length_drop,hcs,List.length_drop,List.length_map];omega
        ·unfold eV
         rw [sw,List.map_append,List.map_take,List.map_drop,List.take_append_of_le_length (by simp;omega),Nat.mul_one]
       rw [hsp] at hs
       have hlen:(ps.eraseIdx best).length=best+(ps.length-(best+1)):=by rw [List.length_eraseIdx];simp [hblt];omega
       have hs:=Sat.dK (k:=1) (len:=best+(ps.length-(best+1))) (cs:=(ps.eraseIdx best).map au) hs (by omega) q2 hrs2 (by rw [List.length_map,hlen,Nat.mul_one]) (fun u hu=>by obtain ⟨x,_,rfl⟩:=List.mem_map.1 hu;rfl)
       rw [← oS (eZ d m) hps] at hs
       rw [← hlen] at hs
       have hs:=Sat.qw (hl:=H.eraseIdx best) (bh:=bh) (ps:=ps.eraseIdx best) (by rw [List.length_eraseIdx,List.length_eraseIdx,hps]) (hs.to (a:=blk bh 346 [.slice (some ⟨b,0,none⟩) (ps.eraseIdx best).length c]::aE 1 (.slice (some ⟨b,0,none⟩) (ps.eraseIdx best).length c) 347 (ps.eraseIdx best).length ((ps.eraseIdx best).map au)::star (List.zipWith (eZ d m) (ps.eraseIdx best) (H.eraseIdx best))::blk bs 4 [.bool true]::blk bst 107 [.func (.func 212) #[] #[au br,au bh]]::ax .nilIface none::aR m M::ag d D2::F))
       exact Sat.tf (z:=⟨bs,bst,bh,br,rv⟩) (g:=⟨true,rows,H.eraseIdx best⟩) (fun h=>by cases h) (F:=ax .nilIface none::aR m M::ag d D2::F) ((Sat.emp hs).to)
end
end Go.Proofs.YtecibefflhomdaaGreatDoor
