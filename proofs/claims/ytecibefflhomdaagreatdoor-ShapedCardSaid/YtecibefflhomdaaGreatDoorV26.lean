/-
  Part 26: WALKS package levels; The engine 30 'gy', 'gyt'; WALKS Find in memory and in a table.
-/
import Derived.Test.YtecibefflhomdaaGreatDoorV25
set_option maxHeartbeats 8000000
set_option maxRecDepth 100000
set_option linter.all false
namespace Go.Proofs.YtecibefflhomdaaGreatDoor
open Go
section
open Go.Proofs.YtecibefflhomdaaGreatDoor.Pure (ae aB Rd bH less aR aZ bL bC aF dj dec kj dU cG gR bc aV)
attribute [local irreducible] IntKind.wrap
section
variable {ops:Array Oper} {Q:Exit→Act→World→Prop} {n:Nat} {ds:Md} {e:Env} {w w':World} {rest:List Oper}
variable {op:Op} {ty:TypeId} {pos:String} {af:Array Edge} {d:Nat} {v u:Value} {W0:World} {l l' r r':List ax}
attribute [local semireducible] WL WC WQ
theorem KF {x y:Operand} {tt bb o k h':Nat} {p:Nat×Nat} {Y:Int} (hx:ev e x=some (.pointer (some ⟨bb,o,none⟩))) (ht:lk wZ tt=some p) (hsz:lk dq p.2=some k) (hy:ev e y=some (.int .i64 Y)) (hY:Y=(h':Int)) (h1:h'<p.1) (hd:Nat.blt d n=true)
 (kk:WL ops Q n ds rest ((d,.slice (some ⟨bb,o+h'*k,none⟩) (p.1-h') (p.1-h'))::e) w):WL ops Q n ds (⟨some d,.slice tt x (some y) none none,ty,pos,af,none⟩::rest) e w:=by
 subst hY
 refine bX (fun a ha=>?_) hd kk
 have hu:=mc ht
 have h2:h'≤p.1:=by omega
 have h3:¬ p.1=h':=by omega
 simp [execOp,ha.ev hx,ha.ev hy,Instr.sliceAt,Instr.sureAddr,cE hu,dy hsz,Instr.sliceBounds,Instr.sliceBound,asIntOf,h2,h3,add_eq]
end
variable {W0 w:World} {F:List ax} {v:Value} {d m p:Nat} {T:bN} {D D':ae} {M:List aB}
theorem vV {l:List ax} (h:∀ A∈l,F6 A):F6 (star l):=qJ h
theorem qU (d:Nat):∀ (ps:List Nat) (Ts:List bN),F6 (star (List.zipWith (cF d) ps Ts)):=fun ps Ts=>vV fun A hA=>by
 obtain ⟨i,hi,rfl⟩:=List.mem_iff_getElem.1 hA
 rw [List.getElem_zipWith];exact qN _ _ _
def Et (z:SZ) (pss:List (List Nat)):ax:=star (List.zipWith (fun v (ps:List Nat)=>aL 1 v 193 ps.length (ps.map ay)) z.xj pss)
abbrev fY (d:Nat) (ps:List Nat) (Ts:List bN):ax:=star (List.zipWith (cF d) ps Ts)
theorem Sat.MP {z:SZ} {t0 t1 t2 t3:List bN} (h:Sat W0 (dE d z [t0,t1,t2,t3]::F) w):∃ p0 p1 p2 p3:List Nat,(p0.length=t0.length∧p1.length=t1.length∧p2.length=t2.length∧p3.length=t3.length) ∧
 Sat W0 (Et z [p0,p1,p2,p3]::fY d p0 t0::fY d p1 t1::fY d p2 t2::fY d p3 t3::F) w:=by
 have h:=h.KC
 obtain ⟨p0,h0,h⟩:=h.iW
 obtain ⟨p1,h1,h⟩:=(h.take (.there (.there .here))).iW
 obtain ⟨p2,h2,h⟩:=(h.take (.there (.there (.there (.there .here))))).iW
 obtain ⟨p3,h3,h⟩:=(h.take (.there (.there (.there (.there (.there (.there .here))))))).iW
 refine ⟨p0,p1,p2,p3,⟨h0,h1,h2,h3⟩,?_⟩
 have hs:Sat W0 (aL 1 z.l0 193 p0.length (p0.map ay)::aL 1 z.l1 193 p1.length (p1.map ay)::aL 1 z.l2 193 p2.length (p2.map ay)::aL 1 z.l3 193 p3.length (p3.map ay)::fY d p0 t0::fY d p1 t1::fY d p2 t2::fY d p3 t3::F) w:=h.to
 exact hs.imp fun _ k=>cT (a:=[aL 1 z.l0 193 p0.length (p0.map ay),aL 1 z.l1 193 p1.length (p1.map ay),aL 1 z.l2 193 p2.length (p2.map ay),aL 1 z.l3 193 p3.length (p3.map ay)]) k
theorem Sat.HD {z:SZ} {t0 t1 t2 t3:List bN} {p0 p1 p2 p3:List Nat} (hl:p0.length=t0.length∧p1.length=t1.length∧p2.length=t2.length∧p3.length=t3.length)
 (h:Sat W0 (Et z [p0,p1,p2,p3]::fY d p0 t0::fY d p1 t1::fY d p2 t2::fY d p3 t3::F) w):Sat W0 (dE d z [t0,t1,t2,t3]::F) w:=by
 have hs:Sat W0 (aL 1 z.l0 193 p0.length (p0.map ay)::aL 1 z.l1 193 p1.length (p1.map ay)::aL 1 z.l2 193 p2.length (p2.map ay)::aL 1 z.l3 193 p3.length (p3.map ay)::fY d p0 t0::fY d p1 t1::fY d p2 t2::fY d p3 t3::F) w:=
  h.imp fun _ k=>dD (a:=[aL 1 z.l0 193 p0.length (p0.map ay),aL 1 z.l1 193 p1.length (p1.map ay),aL 1 z.l2 193 p2.length (p2.map ay),aL 1 z.l3 193 p3.length (p3.map ay)]) k
 have h0:=Sat.jA (d:=d) hl.1 (hs.to (a:=aL 1 z.l0 193 p0.length (p0.map ay)::fY d p0 t0::aL 1 z.l1 193 p1.length (p1.map ay)::aL 1 z.l2 193 p2.length (p2.map ay)::aL 1 z.l3 193 p3.length (p3.map ay)::fY d p1 t1::fY d p2 t2::fY d p3 t3::F))
 have h1:=Sat.jA (d:=d) hl.2.1 (h0.to (a:=aL 1 z.l1 193 p1.length (p1.map ay)::fY d p1 t1::eV d z.l0 t0::aL 1 z.l2 193 p2.length (p2.map ay)::aL 1 z.l3 193 p3.length (p3.map ay)::fY d p2 t2::fY d p3 t3::F))
 have h2:=Sat.jA (d:=d) hl.2.2.1 (h1.to (a:=aL 1 z.l2 193 p2.length (p2.map ay)::fY d p2 t2::eV d z.l0 t0::eV d z.l1 t1::aL 1 z.l3 193 p3.length (p3.map ay)::fY d p3 t3::F))
 have h3:=Sat.jA (d:=d) hl.2.2.2 (h2.to (a:=aL 1 z.l3 193 p3.length (p3.map ay)::fY d p3 t3::eV d z.l0 t0::eV d z.l1 t1::eV d z.l2 t2::F))
 exact Sat.Eo h3.to
theorem Sat.KG {z:SZ} {pss:List (List Nat)} {i:Nat} {ps:List Nat} (hg:pss[i]?=some ps) (hv:z.xj[i]?=some v) (h:Sat W0 (Et z pss::F) w):∃ R,Sat W0 (aL 1 v 193 ps.length (ps.map ay)::R::F) w:=by
 have hz:=dN (fun v (ps:List Nat)=>aL 1 v 193 ps.length (ps.map ay)) hv hg
 refine ⟨star ((List.zipWith (fun v (ps:List Nat)=>aL 1 v 193 ps.length (ps.map ay)) z.xj pss).take i++(List.zipWith (fun v (ps:List Nat)=>aL 1 v 193 ps.length (ps.map ay)) z.xj pss).drop (i+1)),?_⟩
 unfold Et at h
 rw [dx hz] at h
 exact h.eU
theorem Sat.Gn {z:SZ} {pss:List (List Nat)} {i:Nat} {ps:List Nat} (hg:pss[i]?=some ps) (hv:z.xj[i]?=some v) (h:Sat W0 (Et z pss::F) w):∃ a c,v=.slice a ps.length c:=by
 obtain ⟨R,h⟩:=h.KG hg hv
 obtain ⟨a,c,rfl,-⟩:=h.aC
 exact ⟨a,c,rfl⟩
theorem Sat.P2 {z:SZ} {pss:List (List Nat)} {i j p:Nat} {ps:List Nat} (hg:pss[i]?=some ps) (hv:z.xj[i]?=some v) (hj:ps[j]?=some p) (h:Sat W0 (Et z pss::F) w):∃ bb c cs E F',v=.slice (some ⟨bb,0,none⟩) ps.length c∧cs[0+j*1]?=some (ay p)∧Sat W0 (blk bb E cs::F') w:=by
 obtain ⟨R,h⟩:=h.KG hg hv
 obtain ⟨bb,cap,rs,rfl,q1,q2,q3,hs2⟩:=h.dw (by have:=(List.getElem?_eq_some_iff.1 hj).1;omega)
 refine ⟨bb,cap,_,_,_,rfl,?_,hs2⟩
 have hlt:=(List.getElem?_eq_some_iff.1 hj).1
 rw [Nat.zero_add,Nat.mul_one,List.getElem?_append_left (by simpa using hlt),List.getElem?_map,hj];rfl
abbrev uk (m:Nat):Value:=.iface 117 (ay m)
abbrev wX (p:Nat):Value:=.iface 193 (ay p)
theorem Sat.KH {a b:List Nat} {A B:List bN} (h1:a.length=A.length) (h:Sat W0 (fY d a A::fY d b B::F) w):Sat W0 (fY d (a++b) (A++B)::F) w:=by
 show Sat W0 (star (List.zipWith (cF d) (a++b) (A++B))::F) w
 rw [List.zipWith_append (by exact h1)]
 refine h.imp fun _ k=>?_
 have k2:=dD k
 refine cT (a:=List.zipWith (cF d) a A++List.zipWith (cF d) b B) ?_
 rw [List.append_assoc]
 obtain ⟨x1,x2,f,l1,l2,ra,rb⟩:=kI k2
 exact jW f l1 l2 ra (dD rb)
theorem HE {l l':List ax} (h:l.Perm l'):∀ {hp:Hp},cL l hp→cL l' hp:=by
 induction h with
 | nil=>exact id
 | cons A _ ih=>exact fun k=>cZ (fun _=>ih) k
 | swap A B l=>exact kA
 | trans _ _ ih1 ih2=>exact fun k=>ih2 (ih1 k)
theorem Sat.P3 {a:List Nat} {A:List bN} (h1:a.length=A.length) (h:Sat W0 (fY d a A::F) w):Sat W0 (fY d a.reverse A.reverse::F) w:=by
 refine h.head fun _ k=>?_
 show cL (List.zipWith (cF d) a.reverse A.reverse) _
 rw [← List.reverse_zipWith h1]
 exact HE (List.reverse_perm _).symm k
theorem qV {b:Nat} {K:SK} {z:SZ} {s:St} (hl:s.levels.length=4) (hT:(cJ s).length≤1099511627776) (hs:Sat W0 (blk b 133 (ak K z s)::dE K.d z s.levels::F) w) :
 Calls Tryz.prog 148 #[ay b] w fun x w'=>∃ (v:Value) (ps:List Nat),x=.returned v∧ps.length=(cJ s).length∧Sat W0 (aL 1 v 261 (1+ps.length) (uk z.m::ps.map wX)::fY K.d ps (cJ s)::blk b 133 (ak K z s)::dE K.d z s.levels::F) w':=by
 obtain ⟨t0,t1,t2,t3,hlv⟩:=four hl
 have htab:cJ s=t0.reverse++(t1++(t2++t3)):=by unfold cJ;rw [hlv];simp
 rw [hlv] at hs
 rw [htab] at hT
 simp only [List.length_append,List.length_reverse] at hT
 obtain ⟨p0,p1,p2,p3,hp,hs⟩:=(hs.take (.there .here)).MP
 have hs:=hs.to (a:=blk b 133 (ak K z s)::Et z [p0,p1,p2,p3]::fY K.d p0 t0::fY K.d p1 t1::fY K.d p2 t2::fY K.d p3 t3::F)
 suffices hw:Calls Tryz.prog 148 #[ay b] w fun x w'=>∃ v,x=.returned v∧Sat W0 (aL 1 v 261 (1+(p0.reverse++(p1++(p2++p3))).length) (uk z.m::(p0.reverse++(p1++(p2++p3))).map wX)::blk b 133 (ak K z s)::Et z [p0,p1,p2,p3]::fY K.d p0 t0::fY K.d p1 t1::fY K.d p2 t2::fY K.d p3 t3::F) w' by
  refine met hw ?_
  clear hs hw
  rintro _ w ⟨v,rfl,hs⟩
  refine ⟨v,p0.reverse++(p1++(p2++p3)),rfl,by rw [htab];simp [hp],?_⟩
  have h0:=Sat.od (qU K.d p0 t0) (hs.take (.there (.there (.there .here))))
  have h1:=Sat.od (qU K.d p1 t1) (h0.take (.there (.there (.there (.there (.there .here))))))
  have h2:=Sat.od (qU K.d p2 t2) (h1.take (.there (.there (.there (.there (.there (.there (.there .here))))))))
  have h3:=Sat.od (qU K.d p3 t3) (h2.take (.there (.there (.there (.there (.there (.there (.there (.there (.there .here))))))))))
  have h4:=Sat.KH hp.2.2.1 (h3.to (a:=fY K.d p2 t2::fY K.d p3 t3::fY K.d p0 t0::fY K.d p0 t0::fY K.d p1 t1::fY K.d p1 t1::fY K.d p2 t2::fY K.d p3 t3::aL 1 v 261 (1+(p0.reverse++(p1++(p2++p3))).length) (uk z.m::(p0.reverse++(p1++(p2++p3))).map wX)::blk b 133 (ak K z s)::Et z [p0,p1,p2,p3]::F))
  have h5:=Sat.KH hp.2.1 (h4.take (.there (.there (.there .here))))
  have h6:=Sat.P3 hp.1 (h5.take (.there .here))
  have h7:=Sat.KH (by simp [hp.1]) (h6.to (a:=fY K.d p0.reverse t0.reverse::fY K.d (p1++(p2++p3)) (t1++(t2++t3))::Et z [p0,p1,p2,p3]::fY K.d p0 t0::fY K.d p1 t1::fY K.d p2 t2::fY K.d p3 t3::aL 1 v 261 (1+(p0.reverse++(p1++(p2++p3))).length) (uk z.m::(p0.reverse++(p1++(p2++p3))).map wX)::blk b 133 (ak K z s)::F))
  have h8:=Sat.HD hp (h7.to (a:=Et z [p0,p1,p2,p3]::fY K.d p0 t0::fY K.d p1 t1::fY K.d p2 t2::fY K.d p3 t3::fY K.d (p0.reverse++(p1++(p2++p3))) (t0.reverse++(t1++(t2++t3)))::aL 1 v 261 (1+(p0.reverse++(p1++(p2++p3))).length) (uk z.m::(p0.reverse++(p1++(p2++p3))).map wX)::blk b 133 (ak K z s)::F))
  rw [htab,hlv]
  exact h8.to
 have hn0:p0.length+(p1.length+(p2.length+p3.length))≤1099511627776:=by omega
 clear hT htab hlv hl
 refine enter Tryz.func148 rfl Tryz.ntmps148 Tryz.results148 rfl ?_
 refine gx ?_
 refine fL hs ?_
 clear hs
 intro w bl hs
 have hs:=Sat.dg (k:=1) (len:=1) (cs:=[uk z.m]) (rest:=[]) (cap:=1) hs (Nat.le_refl _) (by decide) rfl rfl (by simp [df])
 have hs:=hs.to (a:=aL 1 (.slice (some ⟨bl,0,none⟩) 1 1) 261 1 [uk z.m]::blk b 133 (ak K z s)::Et z [p0,p1,p2,p3]::fY K.d p0 t0::fY K.d p1 t1::fY K.d p2 t2::fY K.d p3 t3::F)
 obtain ⟨a0,c0,hz0⟩:=(hs.take (.there (.there .here))).Gn (i:=0) (ps:=p0) rfl (v:=z.l0) rfl
 refine gx ?_
 refine uP (p:=(4,129)) rfl rfl rfl rfl (by omega) (by show (0:Int)<4;omega) rfl ?_
 refine gx ?_
 rw [hz0]
 refine gx ?_
 refine aJ (α:=Nat×Value) (fun q=>[(0,ay b),(3,q.2),(4,.int .i64 ((q.1:Int)-1))])
  (fun q w=>q.1≤p0.length∧Sat W0 (aL 1 q.2 261 (1+(p0.drop q.1).reverse.length) (uk z.m::(p0.drop q.1).reverse.map wX)::blk b 133 (ak K z s)::Et z [p0,p1,p2,p3]::fY K.d p0 t0::fY K.d p1 t1::fY K.d p2 t2::fY K.d p3 t3::F) w) (fun q=>q.1) (p0.length,_) ⟨rfl,rfl,rfl,trivial⟩ ⟨Nat.le_refl _,by simpa using hs⟩ ?_
 clear hs
 rintro ⟨k,v⟩ w ⟨hk,hs⟩
 dsimp only at hk hs ⊢
 cases k with
 | succ k=>
  have hge:((k+1:Nat):Int)-1 ≥ 0:=by omega
  have hg:p0[k]?=some p0[k]:=List.getElem?_eq_getElem (by omega)
  have hdr:p0.drop k=p0[k]::p0.drop (k+1):=List.drop_eq_getElem_cons (by omega)
  generalize p0[k]=q at hg hdr
  refine gx ?_
  refine uP (p:=(4,129)) rfl rfl rfl rfl (by omega) (by show (0:Int)<4;omega) rfl ?_
  refine gx ?_
  obtain ⟨bb,c,cs,E,F',hv,hcell,hs2⟩:=(hs.take (.there (.there .here))).P2 (i:=0) (ps:=p0) rfl (v:=z.l0) rfl hg
  rw [hv]
  refine cN (i:=k) rfl rfl (by omega) rfl rfl (by omega) rfl ?_
  refine eF hs2 rfl rfl .here hcell rfl ?_
  clear hs2
  obtain ⟨av,cv,rfl,-⟩:=hs.aC
  have hdl:(p0.drop (k+1)).reverse.length≤p0.length:=by simp
  refine gx ?_
  refine fL hs ?_
  clear hs
  intro w b2 hs
  refine dM hs ?_
  clear hs
  intro v2 w hs
  refine gx ?_
  refine az (k,v2) ⟨rfl,rfl,?_,trivial⟩ ⟨by omega,?_⟩ (by dsimp only;omega)
  ·show some (Value.int .i64 (((k+1:Nat):Int)-1-1))=some (Value.int .i64 ((k:Int)-1))
   rw [show ((k+1:Nat):Int)-1-1=(k:Int)-1 by omega]
  ·have e1:(p0.drop k).reverse=(p0.drop (k+1)).reverse++[q]:=by rw [hdr,List.reverse_cons]
   dsimp only
   rw [e1,List.length_append,List.map_append]
   exact hs.to
 | zero=>
  have hlt:¬ (((0:Nat):Int)-1 ≥ 0):=by omega
  refine gx ?_
  refine KF (p:=(4,129)) (h':=1) rfl rfl rfl rfl rfl (by show 1<4;omega) rfl ?_
  refine gx ?_
  rw [List.drop_zero] at hs
  refine aJ (α:=Nat×Value) (fun q=>[(0,ay b),(3,q.2),(41,.slice (some ⟨b,8,none⟩) 3 3),(42,.int .i64 3),(43,.int .i64 (q.1:Int))])
   (fun q w=>q.1≤3∧Sat W0 (aL 1 q.2 261 (1+(p0.reverse++(([p1,p2,p3].take q.1).flatten)).length) (uk z.m::(p0.reverse++(([p1,p2,p3].take q.1).flatten)).map wX)::blk b 133 (ak K z s)::Et z [p0,p1,p2,p3]::fY K.d p0 t0::fY K.d p1 t1::fY K.d p2 t2::fY K.d p3 t3::F) w) (fun q=>3-q.1) (0,v) ⟨rfl,rfl,rfl,rfl,rfl,trivial⟩ ⟨by omega,by simpa using hs⟩ ?_
  clear hs
  rintro ⟨i,v⟩ w ⟨hi,hs⟩
  dsimp only at hi hs ⊢
  by_cases hlt3:i<3
  ·have hlt3':(i:Int)<3:=by omega
   obtain ⟨ps,hps⟩:∃ ps,[p0,p1,p2,p3][i+1]?=some ps:=⟨_,List.getElem?_eq_getElem (by simp;omega)⟩
   obtain ⟨vi,hvi⟩:∃ vi,z.xj[i+1]?=some vi:=⟨_,List.getElem?_eq_getElem (by simp [SZ.xj];omega)⟩
   have hcl:(ak K z s)[8+i*1]?=some vi:=by
    match i,hlt3,hvi with
    | 0,_,hvi=>exact hvi
    | 1,_,hvi=>exact hvi
    | 2,_,hvi=>exact hvi
   have htk:([p1,p2,p3].take (i+1)).flatten=([p1,p2,p3].take i).flatten++ps:=by
    match i,hlt3,hps with
    | 0,_,hps=>simp at hps;simp [hps]
    | 1,_,hps=>simp at hps;simp [hps]
    | 2,_,hps=>simp at hps;simp [hps]
   have hle:(p0.reverse++(([p1,p2,p3].take i).flatten)).length+ps.length≤1099511627776:=by
    match i,hlt3,hps with
    | 0,_,hps=>simp at hps;simp [← hps];omega
    | 1,_,hps=>simp at hps;simp [← hps];omega
    | 2,_,hps=>simp at hps;simp [← hps];omega
   obtain ⟨ai,ci,rfl⟩:=(hs.take (.there (.there .here))).Gn hps hvi
   generalize hacc:p0.reverse++(([p1,p2,p3].take i).flatten)=acc at hs hle
   refine gx ?_
   refine cN (i:=i) rfl rfl rfl rfl rfl hlt3 rfl ?_
   refine eF hs rfl rfl (.there .here) hcl rfl ?_
   refine gx ?_
   refine aJ (α:=Nat×Value) (fun q=>[(0,ay b),(3,q.2),(41,.slice (some ⟨b,8,none⟩) 3 3),(42,.int .i64 3),(43,.int .i64 (i:Int)),(47,.slice ai ps.length ci),(48,.int .i64 (ps.length:Int)),(49,.int .i64 (q.1:Int))])
    (fun q w=>q.1≤ps.length∧Sat W0 (aL 1 q.2 261 (1+(acc++ps.take q.1).length) (uk z.m::(acc++ps.take q.1).map wX)::blk b 133 (ak K z s)::Et z [p0,p1,p2,p3]::fY K.d p0 t0::fY K.d p1 t1::fY K.d p2 t2::fY K.d p3 t3::F) w) (fun q=>ps.length-q.1) (0,v) ⟨rfl,rfl,rfl,rfl,rfl,rfl,rfl,rfl,trivial⟩ ⟨by omega,by simpa using hs⟩ ?_
   clear hs
   rintro ⟨j,v⟩ w ⟨hj,hs⟩
   dsimp only at hj hs ⊢
   by_cases hltj:j<ps.length
   ·have hltj':(j:Int)<(ps.length:Int):=by omega
    have hg:ps[j]?=some ps[j]:=List.getElem?_eq_getElem hltj
    have htj:ps.take (j+1)=ps.take j++[ps[j]]:=by rw [List.take_add_one,hg];rfl
    generalize ps[j]=q at hg htj
    refine gx ?_
    obtain ⟨bb,c,cs,E,F',hv,hcell,hs2⟩:=(hs.take (.there (.there .here))).P2 hps hvi hg
    obtain ⟨rfl,_,rfl⟩:=Value.slice.inj hv
    refine cN (i:=j) rfl rfl rfl rfl rfl hltj rfl ?_
    refine eF hs2 rfl rfl .here hcell rfl ?_
    clear hs2
    obtain ⟨av,cv,rfl,-⟩:=hs.aC
    have hdl:(acc++ps.take j).length≤1099511627776:=by rw [List.length_append,List.length_take];omega
    refine gx ?_
    refine fL hs ?_
    clear hs
    intro w b2 hs
    refine dM hs ?_
    clear hs
    intro v2 w hs
    refine gx ?_
    refine az (j+1,v2) ⟨rfl,rfl,rfl,rfl,rfl,rfl,rfl,rfl,trivial⟩ ⟨by omega,?_⟩ (by dsimp only;omega)
    dsimp only
    rw [htj,← List.append_assoc]
    generalize acc++ps.take j=ac2 at hs
    rw [List.length_append,List.map_append]
    exact hs.to
   ·have hje:j=ps.length:=by omega
    subst hje
    have hltj':¬ ((ps.length:Int)<(ps.length:Int)):=by omega
    rw [List.take_length] at hs
    refine gx ?_
    refine az (i+1,v) ⟨rfl,rfl,rfl,rfl,rfl,trivial⟩ ⟨by omega,?_⟩ (by dsimp only;omega)
    dsimp only
    rw [htk,← List.append_assoc,hacc]
    exact hs.to
  ·have hie:i=3:=by omega
   subst hie
   have hlt3':¬ (((3:Nat):Int)<3):=by omega
   refine gx ?_
   have e3:([p1,p2,p3].take 3).flatten=p1++(p2++p3):=by simp
   rw [e3] at hs
   exact ah rfl ⟨v,rfl,hs⟩
end
section
variable {ops:Array Oper} {Q:Exit→Act→World→Prop} {S:World→Prop} {K:List Nat} {n:Nat} {ds:Md} {e:Env} {w w':World} {bb:Bool} {t:OT} {rest:List Oper}
variable {op:Op} {ty:TypeId} {pos:String} {af:Array Edge} {d i j:Nat} {v u:Value} {W0:World} {l l0 r:List ax}
theorem OR {x:Operand} {T b o:Nat} (hs:Sat W0 l w) (hx:ev e x=some (.pointer (some ⟨b,o,none⟩))) (hT:lk ks T=some false)
 (hc:W0.cell? ⟨b,o,none⟩=some v) (hd:Nat.blt d n=true) (k:WL ops Q n ds rest ((d,v)::e) w) :
 WL ops Q n ds (⟨some d,.load T x,ty,pos,af,none⟩::rest) e w:=
 bX (fun a ha=>by simp [execOp,ha.ev hx,Instr.loadAt,Instr.sureAddr,cM hT (hs.lH hc)]) hd k
theorem MQ (vs:List Value) {x:Operand} {T b o:Nat} (hs:Sat W0 l w) (hx:ev e x=some (.pointer (some ⟨b,o,none⟩))) (hT:lk ks T=some true) (hz:lk dq T=some vs.length)
 (hc:∀ j u,vs[j]?=some u→W0.cell? ⟨b,o+j,none⟩=some u) (hd:Nat.blt d n=true) (k:WL ops Q n ds rest ((d,.agg vs.toArray)::e) w) :
 WL ops Q n ds (⟨some d,.load T x,ty,pos,af,none⟩::rest) e w:=
 zZ vs hx hT hz (fun j u hj=>hs.lH (hc j u hj)) hd k
theorem OS {x:Operand} {T b o:Nat} (ho:ops[i]?=some ⟨some d,.load T x,ty,pos,af,none⟩) (hx:ev e x=some (.pointer (some ⟨b,o,none⟩))) (hT:lk ks T=some false)
 (hc:W0.cell? ⟨b,o,none⟩=some v) (hd:Nat.blt d n=true) (k:WT ops Q (Sat W0 l0) K n ds true t ((d,v)::e) w):WT ops Q (Sat W0 l0) K n ds true (.s i t) e w:=
 Bp ho (fun a w' ha hs=>by simp [execOp,ha.ev hx,Instr.loadAt,Instr.sureAddr,cM hT (hs.lH hc)]) hd k
theorem Gp (vs:List Value) {x:Operand} {T b o:Nat} (ho:ops[i]?=some ⟨some d,.load T x,ty,pos,af,none⟩) (hx:ev e x=some (.pointer (some ⟨b,o,none⟩))) (hT:lk ks T=some true) (hz:lk dq T=some vs.length)
 (hc:∀ j u,vs[j]?=some u→W0.cell? ⟨b,o+j,none⟩=some u) (hd:Nat.blt d n=true) (k:WT ops Q (Sat W0 l0) K n ds true t ((d,.agg vs.toArray)::e) w):WT ops Q (Sat W0 l0) K n ds true (.s i t) e w:=
 Bp ho (fun a w' ha hs=>by
  have:=run_loadCells_list (P:=Tryz.prog) w' ⟨b,o,none⟩ vs (fun j v hj=>by rw [add_eq];exact hs.lH (hc j v hj))
  simp [execOp,ha.ev hx,Instr.loadAt,Instr.sureAddr,loadVar,rI hT,dy hz,this]) hd k
theorem P4 {b:Bool} (ho:ops[i]?=some ⟨some d,op,ty,pos,af,none⟩) (hv:yv e op=some (.bool b)) (hp:b=true) (hd:Nat.blt d n=true) (k:WT ops Q S K n ds bb t ((d,.bool true)::e) w):WT ops Q S K n ds bb (.q i t) e w:=dQ ho (by rw [hv,hp]) hd k
theorem P5 {b:Bool} (ho:ops[i]?=some ⟨some d,op,ty,pos,af,none⟩) (hv:yv e op=some (.bool b)) (hp:b=false) (hd:Nat.blt d n=true) (k:WT ops Q S K n ds bb t ((d,.bool false)::e) w):WT ops Q S K n ds bb (.q i t) e w:=dQ ho (by rw [hv,hp]) hd k
theorem OU {b g:Bool} (ho:ops[i]?=some ⟨some d,op,ty,pos,af,some (j,g)⟩) (hg:gv ops e j=some g) (hv:yv e op=some (.bool b)) (hp:b=true) (hd:Nat.blt d n=true) (k:WT ops Q S K n ds bb t ((d,.bool true)::e) w):WT ops Q S K n ds bb (.q i t) e w:=nF ho hg (by rw [hv,hp]) hd k
theorem OV {b g:Bool} (ho:ops[i]?=some ⟨some d,op,ty,pos,af,some (j,g)⟩) (hg:gv ops e j=some g) (hv:yv e op=some (.bool b)) (hp:b=false) (hd:Nat.blt d n=true) (k:WT ops Q S K n ds bb t ((d,.bool false)::e) w):WT ops Q S K n ds bb (.q i t) e w:=nF ho hg (by rw [hv,hp]) hd k
theorem OW {p:Prop} [Decidable p] {g:Bool} (ho:ops[i]?=some ⟨some d,op,ty,pos,af,some (j,g)⟩) (hg:gv ops e j=some g) (hv:yv e op=some (.bool (decide p))) (hp:p) (hd:Nat.blt d n=true) (k:WT ops Q S K n ds bb t ((d,.bool true)::e) w):WT ops Q S K n ds bb (.q i t) e w:=nF ho hg (by rw [hv];simp [hp]) hd k
theorem OX {p:Prop} [Decidable p] {g:Bool} (ho:ops[i]?=some ⟨some d,op,ty,pos,af,some (j,g)⟩) (hg:gv ops e j=some g) (hv:yv e op=some (.bool (decide p))) (hp:¬ p) (hd:Nat.blt d n=true) (k:WT ops Q S K n ds bb t ((d,.bool false)::e) w):WT ops Q S K n ds bb (.q i t) e w:=nF ho hg (by rw [hv];simp [hp]) hd k
end
theorem gy {G G':Prop} (k:G') (h:zr G'→G:=by
 (intro k
  repeat (first
   | (refine OJ ?_
      first
       | refine rH ?_
       | refine eP (op:=.fieldAddr _ _ _) rfl rfl ?_
       | refine eP (op:=.nilCheck _) rfl rfl ?_
       | (refine ON ?_
          first
           | refine eF (by assumption) rfl rfl (by repeat (first|exact Take.here|apply Take.there)) (by first|rfl|assumption) rfl ?_
           | refine OR (by assumption) rfl rfl (by assumption) rfl ?_
           | refine dF [_,_] (by assumption) rfl rfl rfl (by repeat (first|exact Take.here|apply Take.there)) (by first|exact ⟨rfl,rfl,trivial⟩|assumption) rfl ?_
           | refine dF [_,_,_] (by assumption) rfl rfl rfl (by repeat (first|exact Take.here|apply Take.there)) (by first|exact ⟨rfl,rfl,rfl,trivial⟩|assumption) rfl ?_
           | refine dF [_,_,_,_] (by assumption) rfl rfl rfl (by repeat (first|exact Take.here|apply Take.there)) (by first|exact ⟨rfl,rfl,rfl,rfl,trivial⟩|assumption) rfl ?_
           | refine dF [_,_,_,_,_,_] (by assumption) rfl rfl rfl (by repeat (first|exact Take.here|apply Take.there)) (by first|exact ⟨rfl,rfl,rfl,rfl,rfl,rfl,trivial⟩|assumption) rfl ?_)
       | (refine Ko ?_
          first
           | refine AR rfl (by omega) (by omega) rfl ?_
           | refine nV rfl (by omega) (by omega) rfl ?_
           | refine AX rfl (by first|assumption|omega) rfl ?_
           | refine AY rfl (by first|assumption|omega) rfl ?_
           | refine AZ rfl (by assumption) rfl ?_
           | refine A0 rfl (by assumption) rfl ?_
           | refine eP rfl rfl ?_)
       | (refine Kq ?_
          first
           | refine AR rfl (by omega) (by omega) rfl ?_
           | refine nV rfl (by omega) (by omega) rfl ?_
           | refine eP rfl rfl ?_)
       | (refine OM ?_
          first
           | refine sM rfl ?_
           | refine uH rfl rfl rfl ?_
           | refine Ks rfl rfl ?_)
       | (refine Kr ?_
          refine eP rfl rfl ?_)
       | refine cN rfl rfl (by first|rfl|assumption) rfl rfl (by first|assumption|omega) rfl ?_
       | refine eP (op:=.move _) (ty:=4) rfl rfl ?_
       | refine eP (op:=.move _) rfl rfl ?_
       | refine eP (op:=.assign _) rfl rfl ?_
       | refine eP (op:=.extract _ _) rfl rfl ?_
       | refine eP (op:=.unOp _ _ _) rfl rfl ?_
       | refine eP (op:=.pick _ _ _) rfl rfl ?_
       | refine eP (op:=.makeInterface _ _) rfl rfl ?_)
   | (refine OK ?_
      first
       | refine dV ?_
       | refine me rfl ?_
       | refine nS rfl ?_
       | refine nT rfl ?_
       | refine gW ?_
       | refine qk ?_
       | refine uD ?_
       | refine ql ?_)
   | (refine OL ?_
      first
       | refine cV rfl ?_
       | refine jj ?_
       | refine jX ?_
       | refine uE ?_
       | refine kL ?_
       | refine kM ?_
       | refine jY rfl ?_
       | refine jk ?_
       | refine jZ ?_))
  exact k.out)):G:=h ⟨k⟩
theorem gj {G G':Prop} (k:G') (h:zr G'→G:=by
 (intro k
  repeat (refine PX ?_
          first
   | refine dQ (op:=.fieldAddr _ _ _) rfl rfl rfl ?_
   | refine dQ (op:=.nilCheck _) rfl rfl rfl ?_
   | refine dQ (op:=.move _) rfl rfl rfl ?_
   | refine dQ (op:=.assign _) rfl rfl rfl ?_
   | refine dQ (op:=.extract _ _) rfl rfl rfl ?_
   | refine fO rfl rfl rfl (by first|rfl|assumption) rfl rfl (by first|assumption|omega) rfl ?_
   | refine lS rfl rfl rfl rfl (by first|rfl|assumption) rfl rfl (by first|assumption|omega) rfl ?_
   | refine sT rfl rfl rfl (by repeat (first|exact Take.here|apply Take.there)) (by first|rfl|assumption) rfl ?_
   | refine oh rfl rfl rfl rfl (by repeat (first|exact Take.here|apply Take.there)) (by first|rfl|assumption) rfl ?_
   | refine OS rfl rfl rfl (by assumption) rfl ?_
   | refine iz rfl ?_
   | refine fC ?_
   | refine og rfl rfl (by omega) (by omega) rfl ?_
   | refine Ky rfl rfl (by omega) (by omega) rfl ?_
   | refine J2 rfl rfl (by first|assumption|omega) rfl ?_
   | refine J3 rfl rfl (by first|assumption|omega) rfl ?_
   | refine P4 rfl rfl (by assumption) rfl ?_
   | refine P5 rfl rfl (by assumption) rfl ?_
   | refine dQ rfl rfl rfl ?_
   | refine OW rfl rfl rfl (by first|assumption|omega) rfl ?_
   | refine OX rfl rfl rfl (by first|assumption|omega) rfl ?_
   | refine OU rfl rfl rfl (by assumption) rfl ?_
   | refine OV rfl rfl rfl (by assumption) rfl ?_
   | refine J4 rfl rfl rfl (by omega) (by omega) rfl ?_
   | refine nF rfl rfl rfl rfl ?_
   | refine J5 rfl rfl rfl rfl ?_
   | refine DR rfl rfl rfl rfl ?_)
  exact k.out)):G:=h ⟨k⟩
section
variable {W0 w:World} {F:List ax} {v:Value} {k i:Nat} {rows:List (List Value)}
theorem Sat.KI {a:Option Addr} {c:Nat} {x:List Value} (hs:Sat W0 (gr k (.slice a rows.length c) rows::F) w) (hx:rows[i]?=some x) :
 ∃ z:rO,a=some ⟨z.b,z.o,none⟩∧fS z.all (z.o+i*k) x∧Sat W0 (ob true z.b (.cells z.all.toArray z.E (0,0))::gr k (.slice a rows.length c) rows::F) w:=by
 obtain ⟨z,⟨hz,_,hseg⟩,h2⟩:=hs.kX (fun h=>by rw [h] at hx;simp at hx)
 have hk:=(hs.QP)
 injection hz with h1 _ _
 exact ⟨z,h1,hseg.row hk hx,h2⟩
end
section
open Go.Proofs.YtecibefflhomdaaGreatDoor.Pure (ae aB Rd bH less aR aZ)
attribute [local irreducible] IntKind.wrap
variable {W0 w:World} {F:List ax} {v:Value} {d m p:Nat} {T:bN} {D D':ae} {M:List aB}
def OY:Option aB→aB
 | some e=>e
 | none=>cP
def NL:Except cx (Option aB)→Option aB
 | .ok x=>x
 | .error _=>none
theorem HF {i:Nat} {l:List aB} (h:px D T i=some (.ok l,D')):l.length≤1099511627776:=by
 unfold px at h
 split at h
 ·cases h
 ·split at h
  ·simp at h
  ·rename_i b _ _ _
   simp only [Option.map_eq_some_iff,Prod.mk.injEq] at h
   obtain ⟨x,hx,rfl,-⟩:=h
   unfold rZ at hx
   split at hx
   ·simp at hx
   ·rename_i z hz
    split at hx
    ·rename_i hb
     rw [bI] at hb
     split at hx
     ·simp at hx
     ·simp only [Option.some.injEq,Except.ok.injEq] at hx
      subst hx
      exact Nat.le_trans (vD _ _) (Nat.le_trans (mC hz) hb)
    ·cases hx
theorem z6 {key:Bs} {seq:Nat} (hs:Sat W0 (aO m M::F) w) (hmx:M.length≤1099511627776) :
 Calls Tryz.prog 275 #[ay m,str key,.int .u64 (seq:Int)] w fun y w'=>y=.returned (.tuple #[.agg (aI (OY (py M key seq))).toArray,.bool (py M key seq).isSome,.nilIface])∧Sat W0 (aO m M::F) w':=by
 refine enter Tryz.func275 rfl Tryz.ntmps275 Tryz.results275 rfl ?_
 refine go ?_
 refine aS hs fun w b3 hs=>?_
 refine go ?_
 refine bz (aI ⟨key,[],false,seq⟩) ?_
 refine ag (met (oa (e:=⟨key,[],false,seq⟩) (hs.take (.there .here)) hmx) ?_)
 rintro _ w ⟨rfl,hs⟩
 refine ⟨_,rfl,?_⟩
 have hle:=Pure.jL M ⟨key,[],false,seq⟩
 unfold py
 generalize aZ M ⟨key,[],false,seq⟩=i at *
 obtain ⟨lv,hs⟩:=hs.qG
 obtain ⟨a,c,rfl,-⟩:=(hs.take (.there .here)).rX
 have fin0:∀ w,Sat W0 (blk m 120 [.slice a M.length c]::jw (.slice a M.length c) M::blk b3 256 (aI cP)::F) w→Sat W0 (aO m M::F) w:=fun w hs=>(Sat.jx (v:=.slice a M.length c) hs).to
 by_cases hlt:i<M.length
 ·have hg:M[i]?=some M[i]:=List.getElem?_eq_getElem hlt
  rw [hg]
  dsimp only
  have hlt':(i:Int)<(M.length:Int):=by omega
  obtain ⟨b,cap,rs,hv,q1,q2,q3,hs⟩:=(hs.take (.there .here)).dw (by omega)
  obtain ⟨rfl,_,rfl⟩:=Value.slice.inj hv
  have hseg:fS ((bg M).flatten++rs) (0+i*4) (aI M[i]):=by rw [Nat.zero_add];exact (ie (gN M) (by simp [bg,hg])).app
  have hcell:=hseg.1
  have fin:∀ e w,Sat W0 (blk b 256 ((bg M).flatten++rs)::blk m 120 [.slice (some ⟨b,0,none⟩) M.length c]::blk b3 256 e::F) w→Sat W0 (aO m M::F) w:=fun e w hs=>by
   have hs:=Sat.dg (k:=4) (len:=M.length) hs q1 q2 q3 (m7 M) (mw M)
   exact (Sat.jx (v:=.slice (some ⟨b,0,none⟩) M.length c) hs.to).to
  by_cases hk:M[i].key=key
  ·rw [if_pos hk]
   refine go ?_
   refine cN (i:=i) rfl rfl rfl rfl rfl hlt rfl ?_
   refine go ?_
   refine eF hs rfl rfl .here hcell rfl ?_
   refine go ?_
   refine cN (i:=i) rfl rfl rfl rfl rfl hlt rfl ?_
   refine dF (aI M[i]) hs rfl rfl rfl .here hseg rfl ?_
   refine da (vs:=aI M[i]) hs fun w hs=>?_
   refine go ?_
   exact eC ⟨_,_,b3,0,rfl,rfl,fM (aI M[i]) hs (.there (.there .here)) rfl rfl (fS.all _),_,_,rfl,rfl,_,_,rfl,rfl,rfl⟩ ⟨rfl,fin _ _ hs⟩
  ·rw [if_neg hk]
   refine go ?_
   refine cN (i:=i) rfl rfl rfl rfl rfl hlt rfl ?_
   refine go ?_
   refine eF hs rfl rfl .here hcell rfl ?_
   refine go ?_
   refine bz (aI cP) ?_
   refine da (vs:=aI cP) hs fun w hs=>?_
   refine go ?_
   exact eC ⟨_,_,b3,0,rfl,rfl,fM (aI cP) hs (.there (.there .here)) rfl rfl (fS.all _),_,_,rfl,rfl,_,_,rfl,rfl,rfl⟩ ⟨rfl,fin _ _ hs⟩
 ·have hg:M[i]?=none:=List.getElem?_eq_none (by omega)
  rw [hg]
  dsimp only
  have hlt':¬ (i:Int)<(M.length:Int):=by omega
  refine go ?_
  refine bz (aI cP) ?_
  refine da (vs:=aI cP) hs fun w hs=>?_
  refine go ?_
  exact eC ⟨_,_,b3,0,rfl,rfl,fM (aI cP) hs (.there (.there .here)) rfl rfl (fS.all _),_,_,rfl,rfl,_,_,rfl,rfl,rfl⟩ ⟨rfl,fin0 _ hs⟩
theorem z7 {key:Bs} {seq:Nat} {x:Except cx (Option aB)} (h:sU D T key seq=some (x,D')) (hs:Sat W0 (cF d p T::aj d D::F) w) :
 Calls Tryz.prog 276 #[ay p,str key,.int .u64 (seq:Int)] w fun y w'=>∃ ve,y=.returned (.tuple #[.agg (aI (OY (NL x))).toArray,.bool (NL x).isSome,ve])∧Sat W0 (cF d p T::aj d D'::aH ve (cU x)::F) w':=by
 unfold sU at h
 refine enter Tryz.func276 rfl Tryz.ntmps276 Tryz.results276 rfl ?_
 refine go ?_
 refine aS hs fun w b3 hs=>?_
 obtain ⟨bv,hs⟩:=(hs.take (.there .here)).lG
 by_cases h1:aR key T.first=true
 ·rw [if_pos (.inl h1)] at h
  simp only [Option.some.injEq,Prod.mk.injEq] at h
  obtain ⟨rfl,rfl⟩:=h
  rw [fI] at h1
  refine go ?_
  refine bz (aI cP) ?_
  refine da (vs:=aI cP) hs fun w hs=>?_
  refine go ?_
  exact eC ⟨_,_,b3,0,rfl,rfl,fM (aI cP) hs (.there (.there (.there .here))) rfl rfl (fS.all _),_,_,rfl,rfl,_,_,rfl,rfl,rfl⟩ ⟨_,rfl,(hs.ej).to⟩
 ·have h1':ma key T.first=false:=by rw [← fI];simpa using h1
  by_cases h2:aR T.last key=true
  ·rw [if_pos (.inr h2)] at h
   simp only [Option.some.injEq,Prod.mk.injEq] at h
   obtain ⟨rfl,rfl⟩:=h
   rw [fI] at h2
   refine go ?_
   refine bz (aI cP) ?_
   refine da (vs:=aI cP) hs fun w hs=>?_
   refine go ?_
   exact eC ⟨_,_,b3,0,rfl,rfl,fM (aI cP) hs (.there (.there (.there .here))) rfl rfl (fS.all _),_,_,rfl,rfl,_,_,rfl,rfl,rfl⟩ ⟨_,rfl,(hs.ej).to⟩
  ·have h2':ma T.last key=false:=by rw [← fI];simpa using h2
   rw [if_neg (by simp [h1,h2])] at h
   cases hr:px D T (ko T key) with
   | none=>rw [hr] at h;cases h
   | some y=>
    obtain ⟨y,D2⟩:=y
    rw [hr] at h
    refine go ?_
    refine ag (met (vC (key:=key) (hs.take (.there (.there .here)))) ?_)
    rintro _ w ⟨rfl,hs⟩
    refine ⟨_,rfl,go ?_⟩
    refine ag (met (x7 (F:=blk b3 256 (aI cP)::F) hr hs.to) ?_)
    rintro _ w ⟨lv,ve,rfl,hs⟩
    refine ⟨_,rfl,?_⟩
    cases y with
    | error e=>
     simp only [Option.some.injEq,Prod.mk.injEq] at h
     obtain ⟨rfl,rfl⟩:=h
     obtain ⟨t,u,rfl⟩:=(hs.take (.there (.there (.there .here)))).aQ
     refine go ?_
     refine bz (aI cP) ?_
     refine go ?_
     refine da (vs:=aI cP) hs fun w hs=>?_
     refine go ?_
     exact eC ⟨_,_,b3,0,rfl,rfl,fM (aI cP) hs (.there (.there (.there (.there .here)))) rfl rfl (fS.all _),_,_,rfl,rfl,_,_,rfl,rfl,rfl⟩ ⟨_,rfl,hs.to⟩
    | ok l=>
     simp only [Option.some.injEq,Prod.mk.injEq] at h
     obtain ⟨rfl,rfl⟩:=h
     have hve:=(hs.take (.there (.there (.there .here)))).cA
     subst hve
     dsimp only [xh] at hs
     obtain ⟨a,c,rfl,hc⟩:=(hs.take (.there (.there .here))).ix
     have hl:(bg l).length=l.length:=jv l
     have hll:=HF hr
     rw [hl] at hs ⊢
     refine go ?_
     refine aJ (α:=Nat) (fun i=>[(0,ay p),(1,str key),(2,.int .u64 (seq:Int)),(6,ay b3),(42,.slice a l.length c),(43,.int .i64 (l.length:Int)),(44,.int .i64 (i:Int))])
      (fun i w=>(i≤l.length∧mA key seq (l.drop i)=mA key seq l)∧Sat W0 (Hr (.slice a l.length c) l::cF d p T::aj d D2::aH .nilIface none::blk b3 256 (aI cP)::F) w) (fun i=>l.length-i) 0 ⟨rfl,rfl,rfl,rfl,rfl,rfl,rfl,trivial⟩ ⟨⟨Nat.zero_le _,rfl⟩,hs.to⟩ ?_
     clear hs
     rintro i w ⟨⟨hi,hp⟩,hs⟩
     by_cases hlt:i<l.length
     ·have hg:l[i]?=some l[i]:=List.getElem?_eq_getElem hlt
      obtain ⟨zz,⟨hv,hzc,hseg⟩,hs2⟩:=hs.kX (by intro h;simp [bg] at h;rw [h] at hlt;simp at hlt)
      rw [hl] at hv
      obtain ⟨rfl,_,rfl⟩:=Value.slice.inj hv
      have hrow:=hseg.row (i:=i) (x:=aI l[i]) (gN _) (by simp [bg,hg])
      have hd:l.drop i=l[i]::l.drop (i+1):=List.drop_eq_getElem_cons hlt
      rw [hd] at hp
      refine go ?_
      refine cN (i:=i) rfl rfl rfl rfl rfl hlt rfl ?_
      refine dF (aI l[i]) hs2 rfl rfl rfl .here hrow rfl ?_
      clear hs
      refine aS hs2 fun w b5 hs=>?_
      refine da (vs:=aI l[i]) hs fun w hs=>?_
      by_cases hk:l[i].key=key
      ·by_cases hq:(l[i].seq:Int)≤(seq:Int)
       ·have hpick:mA key seq l=some l[i]:=by rw [← hp];simp [mA,List.find?,hk,Int.ofNat_le.1 hq]
        rw [hpick]
        refine go ?_
        refine da (vs:=aI l[i]) hs fun w hs=>?_
        refine go ?_
        exact eC ⟨_,_,b3,0,rfl,rfl,fM (aI l[i]) hs (.there (.there (.there (.there (.there (.there .here)))))) rfl rfl (fS.all _),_,_,rfl,rfl,_,_,rfl,rfl,rfl⟩ ⟨_,rfl,hs.to⟩
       ·have hp':mA key seq (l.drop (i+1))=mA key seq l:=by
         have hq2:¬ l[i].seq≤seq:=fun h=>hq (Int.ofNat_le.2 h)
         rw [← hp];simp [mA,List.find?,hk,hq2]
        refine go ?_
        exact az (i+1) ⟨rfl,rfl,rfl,rfl,rfl,rfl,rfl,trivial⟩ ⟨⟨by omega,hp'⟩,hs.to⟩ (by omega)
      ·have hp':mA key seq (l.drop (i+1))=mA key seq l:=by rw [← hp];simp [mA,List.find?,hk]
       refine go ?_
       exact az (i+1) ⟨rfl,rfl,rfl,rfl,rfl,rfl,rfl,trivial⟩ ⟨⟨by omega,hp'⟩,hs.to⟩ (by omega)
     ·have hnone:mA key seq l=none:=by rw [← hp,List.drop_of_length_le (by omega)];rfl
      rw [hnone]
      have he:i=l.length:=by omega
      subst he
      refine go ?_
      refine bz (aI cP) ?_
      refine da (vs:=aI cP) hs fun w hs=>?_
      refine go ?_
      exact eC ⟨_,_,b3,0,rfl,rfl,fM (aI cP) hs (.there (.there (.there (.there .here)))) rfl rfl (fS.all _),_,_,rfl,rfl,_,_,rfl,rfl,rfl⟩ ⟨_,rfl,hs.to⟩
end
end Go.Proofs.YtecibefflhomdaaGreatDoor
