/-
  Part 26: WALKS package levels; The engine 30 'gy', 'gyt'; WALKS Find in memory and in a table.
-/
import Derived.Test.YtecibefflhomdaaGreatDoorY25
set_option maxHeartbeats 8000000
set_option maxRecDepth 100000
set_option linter.all false
namespace Go.Proofs.YtecibefflhomdaaGreatDoor
open Go
section
open Go.Proofs.YtecibefflhomdaaGreatDoor.Pure (ad az Rd bI less aQ aZ bM bE aD cY dec j3 dT bO gH bj aU)
attribute [local irreducible] IntKind.wrap
section
variable {ops:Array Oper} {Q:Exit→Act→World→Prop} {n:Nat} {ds:Md} {e:Env} {w w':World} {rest:List Oper}
variable {op:Op} {ty:TypeId} {pos:String} {af:Array Edge} {d:Nat} {v u:Value} {W0:World} {l l' r r':List ah}
attribute [local semireducible] WL WC WQ
theorem Iz {x y:Operand} {tt bb o k h':Nat} {p:Nat×Nat} {Y:Int} (hx:ev e x=some (.pointer (some ⟨bb,o,none⟩))) (ht:lk vC tt=some p) (hsz:lk df p.2=some k) (hy:ev e y=some (.int .i64 Y)) (hY:Y=(h':Int)) (h1:h'<p.1) (hd:Nat.blt d n=true)
 (kk:WL ops Q n ds rest ((d,.slice (some ⟨bb,o+h'*k,none⟩) (p.1-h') (p.1-h'))::e) w):WL ops Q n ds (⟨some d,.slice tt x (some y) none none,ty,pos,af,none⟩::rest) e w:=by
 subst hY
 refine cj (fun a ha=>?_) hd kk
 have hu:=lM ht
 have h2:h'≤p.1:=by omega
 have h3:¬ p.1=h':=by omega
 simp [execOp,ha.ev hx,ha.ev hy,Instr.sliceAt,Instr.sureAddr,cB hu,dq hsz,Instr.sliceBounds,Instr.sliceBound,asIntOf,h2,h3,add_eq]
end
variable {W0 w:World} {F:List ah} {v:Value} {d m p:Nat} {T:cD} {D D':ad} {M:List az}
theorem An {l:List ah} (h:∀ A∈l,GU A):GU (star l):=uk h
theorem qA (d:Nat):∀ (ps:List Nat) (Ts:List cD),GU (star (List.zipWith (cG d) ps Ts)):=fun ps Ts=>An fun A hA=>by
 obtain ⟨i,hi,rfl⟩:=List.mem_iff_getElem.1 hA
 rw [List.getElem_zipWith];exact qt _ _ _
def Cy (z:SZ) (pss:List (List Nat)):ah:=star (List.zipWith (fun v (ps:List Nat)=>aE 1 v 193 ps.length (ps.map au)) z.vN pss)
abbrev fO (d:Nat) (ps:List Nat) (Ts:List cD):ah:=star (List.zipWith (cG d) ps Ts)
theorem Sat.KB {z:SZ} {t0 t1 t2 t3:List cD} (h:Sat W0 (dQ d z [t0,t1,t2,t3]::F) w):∃ p0 p1 p2 p3:List Nat,(p0.length=t0.length∧p1.length=t1.length∧p2.length=t2.length∧p3.length=t3.length) ∧
 Sat W0 (Cy z [p0,p1,p2,p3]::fO d p0 t0::fO d p1 t1::fO d p2 t2::fO d p3 t3::F) w:=by
 have h:=h.Iw
 obtain ⟨p0,h0,h⟩:=h.ix
 obtain ⟨p1,h1,h⟩:=(h.take (.there (.there .here))).ix
 obtain ⟨p2,h2,h⟩:=(h.take (.there (.there (.there (.there .here))))).ix
 obtain ⟨p3,h3,h⟩:=(h.take (.there (.there (.there (.there (.there (.there .here))))))).ix
 refine ⟨p0,p1,p2,p3,⟨h0,h1,h2,h3⟩,?_⟩
 have hs:Sat W0 (aE 1 z.l0 193 p0.length (p0.map au)::aE 1 z.l1 193 p1.length (p1.map au)::aE 1 z.l2 193 p2.length (p2.map au)::aE 1 z.l3 193 p3.length (p3.map au)::fO d p0 t0::fO d p1 t1::fO d p2 t2::fO d p3 t3::F) w:=h.to
 exact hs.imp fun _ k=>dJ (a:=[aE 1 z.l0 193 p0.length (p0.map au),aE 1 z.l1 193 p1.length (p1.map au),aE 1 z.l2 193 p2.length (p2.map au),aE 1 z.l3 193 p3.length (p3.map au)]) k
theorem Sat.FP {z:SZ} {t0 t1 t2 t3:List cD} {p0 p1 p2 p3:List Nat} (hl:p0.length=t0.length∧p1.length=t1.length∧p2.length=t2.length∧p3.length=t3.length)
 (h:Sat W0 (Cy z [p0,p1,p2,p3]::fO d p0 t0::fO d p1 t1::fO d p2 t2::fO d p3 t3::F) w):Sat W0 (dQ d z [t0,t1,t2,t3]::F) w:=by
 have hs:Sat W0 (aE 1 z.l0 193 p0.length (p0.map au)::aE 1 z.l1 193 p1.length (p1.map au)::aE 1 z.l2 193 p2.length (p2.map au)::aE 1 z.l3 193 p3.length (p3.map au)::fO d p0 t0::fO d p1 t1::fO d p2 t2::fO d p3 t3::F) w:=
  h.imp fun _ k=>dI (a:=[aE 1 z.l0 193 p0.length (p0.map au),aE 1 z.l1 193 p1.length (p1.map au),aE 1 z.l2 193 p2.length (p2.map au),aE 1 z.l3 193 p3.length (p3.map au)]) k
 have h0:=Sat.jj (d:=d) hl.1 (hs.to (a:=aE 1 z.l0 193 p0.length (p0.map au)::fO d p0 t0::aE 1 z.l1 193 p1.length (p1.map au)::aE 1 z.l2 193 p2.length (p2.map au)::aE 1 z.l3 193 p3.length (p3.map au)::fO d p1 t1::fO d p2 t2::fO d p3 t3::F))
 have h1:=Sat.jj (d:=d) hl.2.1 (h0.to (a:=aE 1 z.l1 193 p1.length (p1.map au)::fO d p1 t1::eT d z.l0 t0::aE 1 z.l2 193 p2.length (p2.map au)::aE 1 z.l3 193 p3.length (p3.map au)::fO d p2 t2::fO d p3 t3::F))
 have h2:=Sat.jj (d:=d) hl.2.2.1 (h1.to (a:=aE 1 z.l2 193 p2.length (p2.map au)::fO d p2 t2::eT d z.l0 t0::eT d z.l1 t1::aE 1 z.l3 193 p3.length (p3.map au)::fO d p3 t3::F))
 have h3:=Sat.jj (d:=d) hl.2.2.2 (h2.to (a:=aE 1 z.l3 193 p3.length (p3.map au)::fO d p3 t3::eT d z.l0 t0::eT d z.l1 t1::eT d z.l2 t2::F))
 exact Sat.Cu h3.to
theorem Sat.IA {z:SZ} {pss:List (List Nat)} {i:Nat} {ps:List Nat} (hg:pss[i]?=some ps) (hv:z.vN[i]?=some v) (h:Sat W0 (Cy z pss::F) w):∃ R,Sat W0 (aE 1 v 193 ps.length (ps.map au)::R::F) w:=by
 have hz:=dm (fun v (ps:List Nat)=>aE 1 v 193 ps.length (ps.map au)) hv hg
 refine ⟨star ((List.zipWith (fun v (ps:List Nat)=>aE 1 v 193 ps.length (ps.map au)) z.vN pss).take i++(List.zipWith (fun v (ps:List Nat)=>aE 1 v 193 ps.length (ps.map au)) z.vN pss).drop (i+1)),?_⟩
 unfold Cy at h
 rw [dG hz] at h
 exact h.eS
theorem Sat.Et {z:SZ} {pss:List (List Nat)} {i:Nat} {ps:List Nat} (hg:pss[i]?=some ps) (hv:z.vN[i]?=some v) (h:Sat W0 (Cy z pss::F) w):∃ a c,v=.slice a ps.length c:=by
 obtain ⟨R,h⟩:=h.IA hg hv
 obtain ⟨a,c,rfl,-⟩:=h.ay
 exact ⟨a,c,rfl⟩
theorem Sat.NI {z:SZ} {pss:List (List Nat)} {i j p:Nat} {ps:List Nat} (hg:pss[i]?=some ps) (hv:z.vN[i]?=some v) (hj:ps[j]?=some p) (h:Sat W0 (Cy z pss::F) w):∃ bb c cs E F',v=.slice (some ⟨bb,0,none⟩) ps.length c∧cs[0+j*1]?=some (au p)∧Sat W0 (blk bb E cs::F') w:=by
 obtain ⟨R,h⟩:=h.IA hg hv
 obtain ⟨bb,cap,rs,rfl,q1,q2,q3,hs2⟩:=h.dV (by have:=(List.getElem?_eq_some_iff.1 hj).1;omega)
 refine ⟨bb,cap,_,_,_,rfl,?_,hs2⟩
 have hlt:=(List.getElem?_eq_some_iff.1 hj).1
 rw [Nat.zero_add,Nat.mul_one,List.getElem?_append_left (by simpa using hlt),List.getElem?_map,hj];rfl
abbrev tg (m:Nat):Value:=.iface 117 (au m)
abbrev vz (p:Nat):Value:=.iface 193 (au p)
theorem Sat.IB {a b:List Nat} {A B:List cD} (h1:a.length=A.length) (h:Sat W0 (fO d a A::fO d b B::F) w):Sat W0 (fO d (a++b) (A++B)::F) w:=by
 show Sat W0 (star (List.zipWith (cG d) (a++b) (A++B))::F) w
 rw [List.zipWith_append (by exact h1)]
 refine h.imp fun _ k=>?_
 have k2:=dI k
 refine dJ (a:=List.zipWith (cG d) a A++List.zipWith (cG d) b B) ?_
 rw [List.append_assoc]
 obtain ⟨x1,x2,f,l1,l2,ra,rb⟩:=kv k2
 exact jM f l1 l2 ra (dI rb)
theorem FQ {l l':List ah} (h:l.Perm l'):∀ {hp:Hp},cV l hp→cV l' hp:=by
 induction h with
 | nil=>exact id
 | cons A _ ih=>exact fun k=>dH (fun _=>ih) k
 | swap A B l=>exact ki
 | trans _ _ ih1 ih2=>exact fun k=>ih2 (ih1 k)
theorem Sat.NJ {a:List Nat} {A:List cD} (h1:a.length=A.length) (h:Sat W0 (fO d a A::F) w):Sat W0 (fO d a.reverse A.reverse::F) w:=by
 refine h.head fun _ k=>?_
 show cV (List.zipWith (cG d) a.reverse A.reverse) _
 rw [← List.reverse_zipWith h1]
 exact FQ (List.reverse_perm _).symm k
theorem qB {b:Nat} {K:SK} {z:SZ} {s:St} (hl:s.levels.length=4) (hT:(cI s).length≤1099511627776) (hs:Sat W0 (blk b 133 (aj K z s)::dQ K.d z s.levels::F) w) :
 Calls Tryz.prog 148 #[au b] w fun x w'=>∃ (v:Value) (ps:List Nat),x=.returned v∧ps.length=(cI s).length∧Sat W0 (aE 1 v 261 (1+ps.length) (tg z.m::ps.map vz)::fO K.d ps (cI s)::blk b 133 (aj K z s)::dQ K.d z s.levels::F) w':=by
 obtain ⟨t0,t1,t2,t3,hlv⟩:=four hl
 have htab:cI s=t0.reverse++(t1++(t2++t3)):=by unfold cI;rw [hlv];simp
 rw [hlv] at hs
 rw [htab] at hT
 simp only [List.length_append,List.length_reverse] at hT
 obtain ⟨p0,p1,p2,p3,hp,hs⟩:=(hs.take (.there .here)).KB
 have hs:=hs.to (a:=blk b 133 (aj K z s)::Cy z [p0,p1,p2,p3]::fO K.d p0 t0::fO K.d p1 t1::fO K.d p2 t2::fO K.d p3 t3::F)
 suffices hw:Calls Tryz.prog 148 #[au b] w fun x w'=>∃ v,x=.returned v∧Sat W0 (aE 1 v 261 (1+(p0.reverse++(p1++(p2++p3))).length) (tg z.m::(p0.reverse++(p1++(p2++p3))).map vz)::blk b 133 (aj K z s)::Cy z [p0,p1,p2,p3]::fO K.d p0 t0::fO K.d p1 t1::fO K.d p2 t2::fO K.d p3 t3::F) w' by
  refine met hw ?_
  clear hs hw
  rintro _ w ⟨v,rfl,hs⟩
  refine ⟨v,p0.reverse++(p1++(p2++p3)),rfl,by rw [htab];simp [hp],?_⟩
  have h0:=Sat.qm (qA K.d p0 t0) (hs.take (.there (.there (.there .here))))
  have h1:=Sat.qm (qA K.d p1 t1) (h0.take (.there (.there (.there (.there (.there .here))))))
  have h2:=Sat.qm (qA K.d p2 t2) (h1.take (.there (.there (.there (.there (.there (.there (.there .here))))))))
  have h3:=Sat.qm (qA K.d p3 t3) (h2.take (.there (.there (.there (.there (.there (.there (.there (.there (.there .here))))))))))
  have h4:=Sat.IB hp.2.2.1 (h3.to (a:=fO K.d p2 t2::fO K.d p3 t3::fO K.d p0 t0::fO K.d p0 t0::fO K.d p1 t1::fO K.d p1 t1::fO K.d p2 t2::fO K.d p3 t3::aE 1 v 261 (1+(p0.reverse++(p1++(p2++p3))).length) (tg z.m::(p0.reverse++(p1++(p2++p3))).map vz)::blk b 133 (aj K z s)::Cy z [p0,p1,p2,p3]::F))
  have h5:=Sat.IB hp.2.1 (h4.take (.there (.there (.there .here))))
  have h6:=Sat.NJ hp.1 (h5.take (.there .here))
  have h7:=Sat.IB (by simp [hp.1]) (h6.to (a:=fO K.d p0.reverse t0.reverse::fO K.d (p1++(p2++p3)) (t1++(t2++t3))::Cy z [p0,p1,p2,p3]::fO K.d p0 t0::fO K.d p1 t1::fO K.d p2 t2::fO K.d p3 t3::aE 1 v 261 (1+(p0.reverse++(p1++(p2++p3))).length) (tg z.m::(p0.reverse++(p1++(p2++p3))).map vz)::blk b 133 (aj K z s)::F))
  have h8:=Sat.FP hp (h7.to (a:=Cy z [p0,p1,p2,p3]::fO K.d p0 t0::fO K.d p1 t1::fO K.d p2 t2::fO K.d p3 t3::fO K.d (p0.reverse++(p1++(p2++p3))) (t0.reverse++(t1++(t2++t3)))::aE 1 v 261 (1+(p0.reverse++(p1++(p2++p3))).length) (tg z.m::(p0.reverse++(p1++(p2++p3))).map vz)::blk b 133 (aj K z s)::F))
  rw [htab,hlv]
  exact h8.to
 have hn0:p0.length+(p1.length+(p2.length+p3.length))≤1099511627776:=by omega
 clear hT htab hlv hl
 refine enter Tryz.func148 rfl Tryz.ntmps148 Tryz.results148 rfl ?_
 refine gx ?_
 refine fw hs ?_
 clear hs
 intro w bl hs
 have hs:=Sat.dK (k:=1) (len:=1) (cs:=[tg z.m]) (rest:=[]) (cap:=1) hs (Nat.le_refl _) (by decide) rfl rfl (by simp [dD])
 have hs:=hs.to (a:=aE 1 (.slice (some ⟨bl,0,none⟩) 1 1) 261 1 [tg z.m]::blk b 133 (aj K z s)::Cy z [p0,p1,p2,p3]::fO K.d p0 t0::fO K.d p1 t1::fO K.d p2 t2::fO K.d p3 t3::F)
 obtain ⟨a0,c0,hz0⟩:=(hs.take (.there (.there .here))).Et (i:=0) (ps:=p0) rfl (v:=z.l0) rfl
 refine gx ?_
 refine tF (p:=(4,129)) rfl rfl rfl rfl (by omega) (by show (0:Int)<4;omega) rfl ?_
 refine gx ?_
 rw [hz0]
 refine gx ?_
 refine aL (α:=Nat×Value) (fun q=>[(0,au b),(3,q.2),(4,.int .i64 ((q.1:Int)-1))])
  (fun q w=>q.1≤p0.length∧Sat W0 (aE 1 q.2 261 (1+(p0.drop q.1).reverse.length) (tg z.m::(p0.drop q.1).reverse.map vz)::blk b 133 (aj K z s)::Cy z [p0,p1,p2,p3]::fO K.d p0 t0::fO K.d p1 t1::fO K.d p2 t2::fO K.d p3 t3::F) w) (fun q=>q.1) (p0.length,_) ⟨rfl,rfl,rfl,trivial⟩ ⟨Nat.le_refl _,by simpa using hs⟩ ?_
 clear hs
 rintro ⟨k,v⟩ w ⟨hk,hs⟩
 dsimp only at hk hs ⊢
 cases k with
 | succ k=>
  have hge:((k+1:Nat):Int)-1 ≥ 0:=by omega
  have hg:p0[k]?=some p0[k]:=List.getElem?_eq_getElem (by omega)
  have hdr:p0.drop k=p0[k]::p0.drop (k+1):=List.drop_eq_getElem_cons (by omega)
  generalize p0[k]=q at hg hdr
  refine gx ?_
  refine tF (p:=(4,129)) rfl rfl rfl rfl (by omega) (by show (0:Int)<4;omega) rfl ?_
  refine gx ?_
  obtain ⟨bb,c,cs,E,F',hv,hcell,hs2⟩:=(hs.take (.there (.there .here))).NI (i:=0) (ps:=p0) rfl (v:=z.l0) rfl hg
  rw [hv]
  refine cL (i:=k) rfl rfl (by omega) rfl rfl (by omega) rfl ?_
  refine eC hs2 rfl rfl .here hcell rfl ?_
  clear hs2
  obtain ⟨av,cv,rfl,-⟩:=hs.ay
  have hdl:(p0.drop (k+1)).reverse.length≤p0.length:=by simp
  refine gx ?_
  refine fw hs ?_
  clear hs
  intro w b2 hs
  refine dF hs ?_
  clear hs
  intro v2 w hs
  refine gx ?_
  refine aB (k,v2) ⟨rfl,rfl,?_,trivial⟩ ⟨by omega,?_⟩ (by dsimp only;omega)
  ·show some (Value.int .i64 (((k+1:Nat):Int)-1-1))=some (Value.int .i64 ((k:Int)-1))
   rw [show ((k+1:Nat):Int)-1-1=(k:Int)-1 by omega]
  ·have e1:(p0.drop k).reverse=(p0.drop (k+1)).reverse++[q]:=by rw [hdr,List.reverse_cons]
   dsimp only
   rw [e1,List.length_append,List.map_append]
   exact hs.to
 | zero=>
  have hlt:¬ (((0:Nat):Int)-1 ≥ 0):=by omega
  refine gx ?_
  refine Iz (p:=(4,129)) (h':=1) rfl rfl rfl rfl rfl (by show 1<4;omega) rfl ?_
  refine gx ?_
  rw [List.drop_zero] at hs
  refine aL (α:=Nat×Value) (fun q=>[(0,au b),(3,q.2),(41,.slice (some ⟨b,8,none⟩) 3 3),(42,.int .i64 3),(43,.int .i64 (q.1:Int))])
   (fun q w=>q.1≤3∧Sat W0 (aE 1 q.2 261 (1+(p0.reverse++(([p1,p2,p3].take q.1).flatten)).length) (tg z.m::(p0.reverse++(([p1,p2,p3].take q.1).flatten)).map vz)::blk b 133 (aj K z s)::Cy z [p0,p1,p2,p3]::fO K.d p0 t0::fO K.d p1 t1::fO K.d p2 t2::fO K.d p3 t3::F) w) (fun q=>3-q.1) (0,v) ⟨rfl,rfl,rfl,rfl,rfl,trivial⟩ ⟨by omega,by simpa using hs⟩ ?_
  clear hs
  rintro ⟨i,v⟩ w ⟨hi,hs⟩
  dsimp only at hi hs ⊢
  by_cases hlt3:i<3
  ·have hlt3':(i:Int)<3:=by omega
   obtain ⟨ps,hps⟩:∃ ps,[p0,p1,p2,p3][i+1]?=some ps:=⟨_,List.getElem?_eq_getElem (by simp;omega)⟩
   obtain ⟨vi,hvi⟩:∃ vi,z.vN[i+1]?=some vi:=⟨_,List.getElem?_eq_getElem (by simp [SZ.vN];omega)⟩
   have hcl:(aj K z s)[8+i*1]?=some vi:=by
    match i,hlt3,hvi with
    | 0,_,hvi=>exact hvi
    | 1,_,hvi=>exact hvi
    | 2,_,hvi=>exact hvi
   have htk:([p1,p2,p3].take (i+1)).flatten=([p1,p2,p3].take i).flatten++ps:=by
    match i,hlt3,hps with
    | 0,_,hps=>simp at hps;simp [hps]
    | 1,_,hps=>simp at hps;simp [hps]
    | 2,_,hps=>simp at hps;simp [hps]
   have hle:(p0.reverse++(([p1,p2,p3].take i).flatten)).length+ps.length≤1099511627776:=by
    match i,hlt3,hps with
    | 0,_,hps=>simp at hps;simp [← hps];omega
    | 1,_,hps=>simp at hps;simp [← hps];omega
    | 2,_,hps=>simp at hps;simp [← hps];omega
   obtain ⟨ai,ci,rfl⟩:=(hs.take (.there (.there .here))).Et hps hvi
   generalize hacc:p0.reverse++(([p1,p2,p3].take i).flatten)=acc at hs hle
   refine gx ?_
   refine cL (i:=i) rfl rfl rfl rfl rfl hlt3 rfl ?_
   refine eC hs rfl rfl (.there .here) hcl rfl ?_
   refine gx ?_
   refine aL (α:=Nat×Value) (fun q=>[(0,au b),(3,q.2),(41,.slice (some ⟨b,8,none⟩) 3 3),(42,.int .i64 3),(43,.int .i64 (i:Int)),(47,.slice ai ps.length ci),(48,.int .i64 (ps.length:Int)),(49,.int .i64 (q.1:Int))])
    (fun q w=>q.1≤ps.length∧Sat W0 (aE 1 q.2 261 (1+(acc++ps.take q.1).length) (tg z.m::(acc++ps.take q.1).map vz)::blk b 133 (aj K z s)::Cy z [p0,p1,p2,p3]::fO K.d p0 t0::fO K.d p1 t1::fO K.d p2 t2::fO K.d p3 t3::F) w) (fun q=>ps.length-q.1) (0,v) ⟨rfl,rfl,rfl,rfl,rfl,rfl,rfl,rfl,trivial⟩ ⟨by omega,by simpa using hs⟩ ?_
   clear hs
   rintro ⟨j,v⟩ w ⟨hj,hs⟩
   dsimp only at hj hs ⊢
   by_cases hltj:j<ps.length
   ·have hltj':(j:Int)<(ps.length:Int):=by omega
    have hg:ps[j]?=some ps[j]:=List.getElem?_eq_getElem hltj
    have htj:ps.take (j+1)=ps.take j++[ps[j]]:=by rw [List.take_add_one,hg];rfl
    generalize ps[j]=q at hg htj
    refine gx ?_
    obtain ⟨bb,c,cs,E,F',hv,hcell,hs2⟩:=(hs.take (.there (.there .here))).NI hps hvi hg
    obtain ⟨rfl,_,rfl⟩:=Value.slice.inj hv
    refine cL (i:=j) rfl rfl rfl rfl rfl hltj rfl ?_
    refine eC hs2 rfl rfl .here hcell rfl ?_
    clear hs2
    obtain ⟨av,cv,rfl,-⟩:=hs.ay
    have hdl:(acc++ps.take j).length≤1099511627776:=by rw [List.length_append,List.length_take];omega
    refine gx ?_
    refine fw hs ?_
    clear hs
    intro w b2 hs
    refine dF hs ?_
    clear hs
    intro v2 w hs
    refine gx ?_
    refine aB (j+1,v2) ⟨rfl,rfl,rfl,rfl,rfl,rfl,rfl,rfl,trivial⟩ ⟨by omega,?_⟩ (by dsimp only;omega)
    dsimp only
    rw [htj,← List.append_assoc]
    generalize acc++ps.take j=ac2 at hs
    rw [List.length_append,List.map_append]
    exact hs.to
   ·have hje:j=ps.length:=by omega
    subst hje
    have hltj':¬ ((ps.length:Int)<(ps.length:Int)):=by omega
    rw [List.take_length] at hs
    refine gx ?_
    refine aB (i+1,v) ⟨rfl,rfl,rfl,rfl,rfl,trivial⟩ ⟨by omega,?_⟩ (by dsimp only;omega)
    dsimp only
    rw [htk,← List.append_assoc,hacc]
    exact hs.to
  ·have hie:i=3:=by omega
   subst hie
   have hlt3':¬ (((3:Nat):Int)<3):=by omega
   refine gx ?_
   have e3:([p1,p2,p3].take 3).flatten=p1++(p2++p3):=by simp
   rw [e3] at hs
   exact ak rfl ⟨v,rfl,hs⟩
end
section
variable {ops:Array Oper} {Q:Exit→Act→World→Prop} {S:World→Prop} {K:List Nat} {n:Nat} {ds:Md} {e:Env} {w w':World} {bb:Bool} {t:OT} {rest:List Oper}
variable {op:Op} {ty:TypeId} {pos:String} {af:Array Edge} {d i j:Nat} {v u:Value} {W0:World} {l l0 r:List ah}
theorem Mx {x:Operand} {T b o:Nat} (hs:Sat W0 l w) (hx:ev e x=some (.pointer (some ⟨b,o,none⟩))) (hT:lk kZ T=some false)
 (hc:W0.cell? ⟨b,o,none⟩=some v) (hd:Nat.blt d n=true) (k:WL ops Q n ds rest ((d,v)::e) w) :
 WL ops Q n ds (⟨some d,.load T x,ty,pos,af,none⟩::rest) e w:=
 cj (fun a ha=>by simp [execOp,ha.ev hx,Instr.loadAt,Instr.sureAddr,cK hT (hs.mM hc)]) hd k
theorem Eu (vs:List Value) {x:Operand} {T b o:Nat} (hs:Sat W0 l w) (hx:ev e x=some (.pointer (some ⟨b,o,none⟩))) (hT:lk kZ T=some true) (hz:lk df T=some vs.length)
 (hc:∀ j u,vs[j]?=some u→W0.cell? ⟨b,o+j,none⟩=some u) (hd:Nat.blt d n=true) (k:WL ops Q n ds rest ((d,.agg vs.toArray)::e) w) :
 WL ops Q n ds (⟨some d,.load T x,ty,pos,af,none⟩::rest) e w:=
 yz vs hx hT hz (fun j u hj=>hs.mM (hc j u hj)) hd k
theorem My {x:Operand} {T b o:Nat} (ho:ops[i]?=some ⟨some d,.load T x,ty,pos,af,none⟩) (hx:ev e x=some (.pointer (some ⟨b,o,none⟩))) (hT:lk kZ T=some false)
 (hc:W0.cell? ⟨b,o,none⟩=some v) (hd:Nat.blt d n=true) (k:WT ops Q (Sat W0 l0) K n ds true t ((d,v)::e) w):WT ops Q (Sat W0 l0) K n ds true (.s i t) e w:=
 Ea ho (fun a w' ha hs=>by simp [execOp,ha.ev hx,Instr.loadAt,Instr.sureAddr,cK hT (hs.mM hc)]) hd k
theorem NK {b:Bool} (ho:ops[i]?=some ⟨some d,op,ty,pos,af,none⟩) (hv:yv e op=some (.bool b)) (hp:b=true) (hd:Nat.blt d n=true) (k:WT ops Q S K n ds bb t ((d,.bool true)::e) w):WT ops Q S K n ds bb (.q i t) e w:=dN ho (by rw [hv,hp]) hd k
theorem NL {b:Bool} (ho:ops[i]?=some ⟨some d,op,ty,pos,af,none⟩) (hv:yv e op=some (.bool b)) (hp:b=false) (hd:Nat.blt d n=true) (k:WT ops Q S K n ds bb t ((d,.bool false)::e) w):WT ops Q S K n ds bb (.q i t) e w:=dN ho (by rw [hv,hp]) hd k
theorem Mz {b g:Bool} (ho:ops[i]?=some ⟨some d,op,ty,pos,af,some (j,g)⟩) (hg:gv ops e j=some g) (hv:yv e op=some (.bool b)) (hp:b=true) (hd:Nat.blt d n=true) (k:WT ops Q S K n ds bb t ((d,.bool true)::e) w):WT ops Q S K n ds bb (.q i t) e w:=m9 ho hg (by rw [hv,hp]) hd k
theorem MA {b g:Bool} (ho:ops[i]?=some ⟨some d,op,ty,pos,af,some (j,g)⟩) (hg:gv ops e j=some g) (hv:yv e op=some (.bool b)) (hp:b=false) (hd:Nat.blt d n=true) (k:WT ops Q S K n ds bb t ((d,.bool false)::e) w):WT ops Q S K n ds bb (.q i t) e w:=m9 ho hg (by rw [hv,hp]) hd k
theorem MB {p:Prop} [Decidable p] {g:Bool} (ho:ops[i]?=some ⟨some d,op,ty,pos,af,some (j,g)⟩) (hg:gv ops e j=some g) (hv:yv e op=some (.bool (decide p))) (hp:p) (hd:Nat.blt d n=true) (k:WT ops Q S K n ds bb t ((d,.bool true)::e) w):WT ops Q S K n ds bb (.q i t) e w:=m9 ho hg (by rw [hv];simp [hp]) hd k
theorem MC {p:Prop} [Decidable p] {g:Bool} (ho:ops[i]?=some ⟨some d,op,ty,pos,af,some (j,g)⟩) (hg:gv ops e j=some g) (hv:yv e op=some (.bool (decide p))) (hp:¬ p) (hd:Nat.blt d n=true) (k:WT ops Q S K n ds bb t ((d,.bool false)::e) w):WT ops Q S K n ds bb (.q i t) e w:=m9 ho hg (by rw [hv];simp [hp]) hd k
end
theorem gy {G G':Prop} (k:G') (h:xV G'→G:=by
 (intro k
  repeat (first
   | (refine Mo ?_
      first
       | refine qZ ?_
       | refine eO (op:=.fieldAddr _ _ _) rfl rfl ?_
       | refine eO (op:=.nilCheck _) rfl rfl ?_
       | (refine Ms ?_
          first
           | refine eC (by assumption) rfl rfl (by repeat (first|exact Take.here|apply Take.there)) (by first|rfl|assumption) rfl ?_
           | refine Mx (by assumption) rfl rfl (by assumption) rfl ?_
           | refine dz [_,_] (by assumption) rfl rfl rfl (by repeat (first|exact Take.here|apply Take.there)) (by first|exact ⟨rfl,rfl,trivial⟩|assumption) rfl ?_
           | refine dz [_,_,_] (by assumption) rfl rfl rfl (by repeat (first|exact Take.here|apply Take.there)) (by first|exact ⟨rfl,rfl,rfl,trivial⟩|assumption) rfl ?_
           | refine dz [_,_,_,_] (by assumption) rfl rfl rfl (by repeat (first|exact Take.here|apply Take.there)) (by first|exact ⟨rfl,rfl,rfl,rfl,trivial⟩|assumption) rfl ?_
           | refine dz [_,_,_,_,_,_] (by assumption) rfl rfl rfl (by repeat (first|exact Take.here|apply Take.there)) (by first|exact ⟨rfl,rfl,rfl,rfl,rfl,rfl,trivial⟩|assumption) rfl ?_)
       | (refine Ig ?_
          first
           | refine zh rfl (by omega) (by omega) rfl ?_
           | refine nq rfl (by omega) (by omega) rfl ?_
           | refine zo rfl (by first|assumption|omega) rfl ?_
           | refine zp rfl (by first|assumption|omega) rfl ?_
           | refine zq rfl (by assumption) rfl ?_
           | refine zr rfl (by assumption) rfl ?_
           | refine eO rfl rfl ?_)
       | (refine Ih ?_
          first
           | refine zh rfl (by omega) (by omega) rfl ?_
           | refine nq rfl (by omega) (by omega) rfl ?_
           | refine eO rfl rfl ?_)
       | (refine Mr ?_
          first
           | refine sa rfl ?_
           | refine tw rfl rfl rfl ?_
           | refine Ij rfl rfl ?_)
       | (refine Ii ?_
          refine eO rfl rfl ?_)
       | refine cL rfl rfl (by first|rfl|assumption) rfl rfl (by first|assumption|omega) rfl ?_
       | refine eO (op:=.move _) (ty:=4) rfl rfl ?_
       | refine eO (op:=.move _) rfl rfl ?_
       | refine eO (op:=.assign _) rfl rfl ?_
       | refine eO (op:=.extract _ _) rfl rfl ?_
       | refine eO (op:=.unOp _ _ _) rfl rfl ?_
       | refine eO (op:=.pick _ _ _) rfl rfl ?_
       | refine eO (op:=.makeInterface _ _) rfl rfl ?_)
   | (refine Mp ?_
      first
       | refine dU ?_
       | refine lN rfl ?_
       | refine nk rfl ?_
       | refine np rfl ?_
       | refine ik ?_
       | refine pP ?_
       | refine tp ?_
       | refine pQ ?_)
   | (refine Mq ?_
      first
       | refine db rfl ?_
       | refine iP ?_
       | refine jN ?_
       | refine tq ?_
       | refine kA ?_
       | refine kB ?_
       | refine jO rfl ?_
       | refine iQ ?_
       | refine jP ?_))
  exact k.out)):G:=h ⟨k⟩
theorem gg {G G':Prop} (k:G') (h:xV G'→G:=by
 (intro k
  repeat (refine NC ?_
          first
   | refine dN (op:=.fieldAddr _ _ _) rfl rfl rfl ?_
   | refine dN (op:=.nilCheck _) rfl rfl rfl ?_
   | refine dN (op:=.move _) rfl rfl rfl ?_
   | refine dN (op:=.assign _) rfl rfl rfl ?_
   | refine dN (op:=.extract _ _) rfl rfl rfl ?_
   | refine fI rfl rfl rfl (by first|rfl|assumption) rfl rfl (by first|assumption|omega) rfl ?_
   | refine rn rfl rfl rfl rfl (by first|rfl|assumption) rfl rfl (by first|assumption|omega) rfl ?_
   | refine sk rfl rfl rfl (by repeat (first|exact Take.here|apply Take.there)) (by first|rfl|assumption) rfl ?_
   | refine nN rfl rfl rfl rfl (by repeat (first|exact Take.here|apply Take.there)) (by first|rfl|assumption) rfl ?_
   | refine My rfl rfl rfl (by assumption) rfl ?_
   | refine hJ rfl ?_
   | refine fA ?_
   | refine nM rfl rfl (by omega) (by omega) rfl ?_
   | refine Iq rfl rfl (by omega) (by omega) rfl ?_
   | refine HU rfl rfl (by first|assumption|omega) rfl ?_
   | refine HV rfl rfl (by first|assumption|omega) rfl ?_
   | refine NK rfl rfl (by assumption) rfl ?_
   | refine NL rfl rfl (by assumption) rfl ?_
   | refine dN rfl rfl rfl ?_
   | refine MB rfl rfl rfl (by first|assumption|omega) rfl ?_
   | refine MC rfl rfl rfl (by first|assumption|omega) rfl ?_
   | refine Mz rfl rfl rfl (by assumption) rfl ?_
   | refine MA rfl rfl rfl (by assumption) rfl ?_
   | refine HW rfl rfl rfl (by omega) (by omega) rfl ?_
   | refine m9 rfl rfl rfl rfl ?_
   | refine HX rfl rfl rfl rfl ?_
   | refine B1 rfl rfl rfl rfl ?_)
  exact k.out)):G:=h ⟨k⟩
section
variable {W0 w:World} {F:List ah} {v:Value} {k i:Nat} {rows:List (List Value)}
theorem Sat.Lt {a:Option Addr} {c:Nat} {x:List Value} (hs:Sat W0 (jm k (.slice a rows.length c) rows::F) w) (hx:rows[i]?=some x) :
 ∃ z:vH,a=some ⟨z.b,z.o,none⟩∧gh z.all (z.o+i*k) x∧Sat W0 (ob true z.b (.cells z.all.toArray z.E (0,0))::jm k (.slice a rows.length c) rows::F) w:=by
 obtain ⟨z,⟨hz,_,hseg⟩,h2⟩:=hs.mK (fun h=>by rw [h] at hx;simp at hx)
 have hk:=(hs.OS)
 injection hz with h1 _ _
 exact ⟨z,h1,hseg.row hk hx,h2⟩
end
section
open Go.Proofs.YtecibefflhomdaaGreatDoor.Pure (ad az Rd bI less aQ aZ)
attribute [local irreducible] IntKind.wrap
variable {W0 w:World} {F:List ah} {v:Value} {d m p:Nat} {T:cD} {D D':ad} {M:List az}
def MD:Option az→az
 | some e=>e
 | none=>cN
def Lu:Except cy (Option az)→Option az
 | .ok x=>x
 | .error _=>none
theorem FR {i:Nat} {l:List az} (h:oQ D T i=some (.ok l,D')):l.length≤1099511627776:=by
 unfold oQ at h
 split at h
 ·cases h
 ·split at h
  ·simp at h
  ·rename_i b _ _ _
   simp only [Option.map_eq_some_iff,Prod.mk.injEq] at h
   obtain ⟨x,hx,rfl,-⟩:=h
   unfold rp at hx
   split at hx
   ·simp at hx
   ·rename_i z hz
    split at hx
    ·rename_i hb
     rw [bJ] at hb
     split at hx
     ·simp at hx
     ·simp only [Option.some.injEq,Except.ok.injEq] at hx
      subst hx
      exact Nat.le_trans (uq _ _) (Nat.le_trans (l9 hz) hb)
    ·cases hx
theorem yA {key:Bs} {seq:Nat} (hs:Sat W0 (aR m M::F) w) (hmx:M.length≤1099511627776) :
 Calls Tryz.prog 275 #[au m,str key,.int .u64 (seq:Int)] w fun y w'=>y=.returned (.tuple #[.agg (aF (MD (qo M key seq))).toArray,.bool (qo M key seq).isSome,.nilIface])∧Sat W0 (aR m M::F) w':=by
 refine enter Tryz.func275 rfl Tryz.ntmps275 Tryz.results275 rfl ?_
 refine go ?_
 refine aS hs fun w b3 hs=>?_
 refine go ?_
 refine bA (aF ⟨key,[],false,seq⟩) ?_
 refine ae (met (nJ (e:=⟨key,[],false,seq⟩) (hs.take (.there .here)) hmx) ?_)
 rintro _ w ⟨rfl,hs⟩
 refine ⟨_,rfl,?_⟩
 have hle:=Pure.jy M ⟨key,[],false,seq⟩
 unfold qo
 generalize aZ M ⟨key,[],false,seq⟩=i at *
 obtain ⟨lv,hs⟩:=hs.qj
 obtain ⟨a,c,rfl,-⟩:=(hs.take (.there .here)).rl
 have fin0:∀ w,Sat W0 (blk m 120 [.slice a M.length c]::jc (.slice a M.length c) M::blk b3 256 (aF cN)::F) w→Sat W0 (aR m M::F) w:=fun w hs=>(Sat.jd (v:=.slice a M.length c) hs).to
 by_cases hlt:i<M.length
 ·have hg:M[i]?=some M[i]:=List.getElem?_eq_getElem hlt
  rw [hg]
  dsimp only
  have hlt':(i:Int)<(M.length:Int):=by omega
  obtain ⟨b,cap,rs,hv,q1,q2,q3,hs⟩:=(hs.take (.there .here)).dV (by omega)
  obtain ⟨rfl,_,rfl⟩:=Value.slice.inj hv
  have hseg:gh ((bu M).flatten++rs) (0+i*4) (aF M[i]):=by rw [Nat.zero_add];exact (ja (gE M) (by simp [bu,hg])).app
  have hcell:=hseg.1
  have fin:∀ e w,Sat W0 (blk b 256 ((bu M).flatten++rs)::blk m 120 [.slice (some ⟨b,0,none⟩) M.length c]::blk b3 256 e::F) w→Sat W0 (aR m M::F) w:=fun e w hs=>by
   have hs:=Sat.dK (k:=4) (len:=M.length) hs q1 q2 q3 (mJ M) (lX M)
   exact (Sat.jd (v:=.slice (some ⟨b,0,none⟩) M.length c) hs.to).to
  by_cases hk:M[i].key=key
  ·rw [if_pos hk]
   refine go ?_
   refine cL (i:=i) rfl rfl rfl rfl rfl hlt rfl ?_
   refine go ?_
   refine eC hs rfl rfl .here hcell rfl ?_
   refine go ?_
   refine cL (i:=i) rfl rfl rfl rfl rfl hlt rfl ?_
   refine dz (aF M[i]) hs rfl rfl rfl .here hseg rfl ?_
   refine cZ (vs:=aF M[i]) hs fun w hs=>?_
   refine go ?_
   exact ej ⟨_,_,b3,0,rfl,rfl,fx (aF M[i]) hs (.there (.there .here)) rfl rfl (gh.all _),_,_,rfl,rfl,_,_,rfl,rfl,rfl⟩ ⟨rfl,fin _ _ hs⟩
  ·rw [if_neg hk]
   refine go ?_
   refine cL (i:=i) rfl rfl rfl rfl rfl hlt rfl ?_
   refine go ?_
   refine eC hs rfl rfl .here hcell rfl ?_
   refine go ?_
   refine bA (aF cN) ?_
   refine cZ (vs:=aF cN) hs fun w hs=>?_
   refine go ?_
   exact ej ⟨_,_,b3,0,rfl,rfl,fx (aF cN) hs (.there (.there .here)) rfl rfl (gh.all _),_,_,rfl,rfl,_,_,rfl,rfl,rfl⟩ ⟨rfl,fin _ _ hs⟩
 ·have hg:M[i]?=none:=List.getElem?_eq_none (by omega)
  rw [hg]
  dsimp only
  have hlt':¬ (i:Int)<(M.length:Int):=by omega
  refine go ?_
  refine bA (aF cN) ?_
  refine cZ (vs:=aF cN) hs fun w hs=>?_
  refine go ?_
  exact ej ⟨_,_,b3,0,rfl,rfl,fx (aF cN) hs (.there (.there .here)) rfl rfl (gh.all _),_,_,rfl,rfl,_,_,rfl,rfl,rfl⟩ ⟨rfl,fin0 _ hs⟩
theorem yB {key:Bs} {seq:Nat} {x:Except cy (Option az)} (h:um D T key seq=some (x,D')) (hs:Sat W0 (cG d p T::ag d D::F) w) :
 Calls Tryz.prog 276 #[au p,str key,.int .u64 (seq:Int)] w fun y w'=>∃ ve,y=.returned (.tuple #[.agg (aF (MD (Lu x))).toArray,.bool (Lu x).isSome,ve])∧Sat W0 (cG d p T::ag d D'::ax ve (dk x)::F) w':=by
 unfold um at h
 refine enter Tryz.func276 rfl Tryz.ntmps276 Tryz.results276 rfl ?_
 refine go ?_
 refine aS hs fun w b3 hs=>?_
 obtain ⟨bv,hs⟩:=(hs.take (.there .here)).lr
 by_cases h1:aQ key T.first=true
 ·rw [if_pos (.inl h1)] at h
  simp only [Option.some.injEq,Prod.mk.injEq] at h
  obtain ⟨rfl,rfl⟩:=h
  rw [gZ] at h1
  refine go ?_
  refine bA (aF cN) ?_
  refine cZ (vs:=aF cN) hs fun w hs=>?_
  refine go ?_
  exact ej ⟨_,_,b3,0,rfl,rfl,fx (aF cN) hs (.there (.there (.there .here))) rfl rfl (gh.all _),_,_,rfl,rfl,_,_,rfl,rfl,rfl⟩ ⟨_,rfl,(hs.ei).to⟩
 ·have h1':o8 key T.first=false:=by rw [← gZ];simpa using h1
  by_cases h2:aQ T.last key=true
  ·rw [if_pos (.inr h2)] at h
   simp only [Option.some.injEq,Prod.mk.injEq] at h
   obtain ⟨rfl,rfl⟩:=h
   rw [gZ] at h2
   refine go ?_
   refine bA (aF cN) ?_
   refine cZ (vs:=aF cN) hs fun w hs=>?_
   refine go ?_
   exact ej ⟨_,_,b3,0,rfl,rfl,fx (aF cN) hs (.there (.there (.there .here))) rfl rfl (gh.all _),_,_,rfl,rfl,_,_,rfl,rfl,rfl⟩ ⟨_,rfl,(hs.ei).to⟩
  ·have h2':o8 T.last key=false:=by rw [← gZ];simpa using h2
   rw [if_neg (by simp [h1,h2])] at h
   cases hr:oQ D T (j4 T key) with
   | none=>rw [hr] at h;cases h
   | some y=>
    obtain ⟨y,D2⟩:=y
    rw [hr] at h
    refine go ?_
    refine ae (met (uo (key:=key) (hs.take (.there (.there .here)))) ?_)
    rintro _ w ⟨rfl,hs⟩
    refine ⟨_,rfl,go ?_⟩
    refine ae (met (wJ (F:=blk b3 256 (aF cN)::F) hr hs.to) ?_)
    rintro _ w ⟨lv,ve,rfl,hs⟩
    refine ⟨_,rfl,?_⟩
    cases y with
    | error e=>
     simp only [Option.some.injEq,Prod.mk.injEq] at h
     obtain ⟨rfl,rfl⟩:=h
     obtain ⟨t,u,rfl⟩:=(hs.take (.there (.there (.there .here)))).aW
     refine go ?_
     refine bA (aF cN) ?_
     refine go ?_
     refine cZ (vs:=aF cN) hs fun w hs=>?_
     refine go ?_
     exact ej ⟨_,_,b3,0,rfl,rfl,fx (aF cN) hs (.there (.there (.there (.there .here)))) rfl rfl (gh.all _),_,_,rfl,rfl,_,_,rfl,rfl,rfl⟩ ⟨_,rfl,hs.to⟩
    | ok l=>
     simp only [Option.some.injEq,Prod.mk.injEq] at h
     obtain ⟨rfl,rfl⟩:=h
     have hve:=(hs.take (.there (.there (.there .here)))).cF
     subst hve
     dsimp only [JM] at hs
     obtain ⟨a,c,rfl,hc⟩:=(hs.take (.there (.there .here))).iw
     have hl:(bu l).length=l.length:=jb l
     have hll:=FR hr
     rw [hl] at hs ⊢
     refine go ?_
     refine aL (α:=Nat) (fun i=>[(0,au p),(1,str key),(2,.int .u64 (seq:Int)),(6,au b3),(42,.slice a l.length c),(43,.int .i64 (l.length:Int)),(44,.int .i64 (i:Int))])
      (fun i w=>(i≤l.length∧l7 key seq (l.drop i)=l7 key seq l)∧Sat W0 (FD (.slice a l.length c) l::cG d p T::ag d D2::ax .nilIface none::blk b3 256 (aF cN)::F) w) (fun i=>l.length-i) 0 ⟨rfl,rfl,rfl,rfl,rfl,rfl,rfl,trivial⟩ ⟨⟨Nat.zero_le _,rfl⟩,hs.to⟩ ?_
     clear hs
     rintro i w ⟨⟨hi,hp⟩,hs⟩
     by_cases hlt:i<l.length
     ·have hg:l[i]?=some l[i]:=List.getElem?_eq_getElem hlt
      obtain ⟨zz,⟨hv,hzc,hseg⟩,hs2⟩:=hs.mK (by intro h;simp [bu] at h;rw [h] at hlt;simp at hlt)
      rw [hl] at hv
      obtain ⟨rfl,_,rfl⟩:=Value.slice.inj hv
      have hrow:=hseg.row (i:=i) (x:=aF l[i]) (gE _) (by simp [bu,hg])
      have hd:l.drop i=l[i]::l.drop (i+1):=List.drop_eq_getElem_cons hlt
      rw [hd] at hp
      refine go ?_
      refine cL (i:=i) rfl rfl rfl rfl rfl hlt rfl ?_
      refine dz (aF l[i]) hs2 rfl rfl rfl .here hrow rfl ?_
      clear hs
      refine aS hs2 fun w b5 hs=>?_
      refine cZ (vs:=aF l[i]) hs fun w hs=>?_
      by_cases hk:l[i].key=key
      ·by_cases hq:(l[i].seq:Int)≤(seq:Int)
       ·have hpick:l7 key seq l=some l[i]:=by rw [← hp];simp [l7,List.find?,hk,Int.ofNat_le.1 hq]
        rw [hpick]
        refine go ?_
        refine cZ (vs:=aF l[i]) hs fun w hs=>?_
        refine go ?_
        exact ej ⟨_,_,b3,0,rfl,rfl,fx (aF l[i]) hs (.there (.there (.there (.there (.there (.there .here)))))) rfl rfl (gh.all _),_,_,rfl,rfl,_,_,rfl,rfl,rfl⟩ ⟨_,rfl,hs.to⟩
       ·have hp':l7 key seq (l.drop (i+1))=l7 key seq l:=by
         have hq2:¬ l[i].seq≤seq:=fun h=>hq (Int.ofNat_le.2 h)
         rw [← hp];simp [l7,List.find?,hk,hq2]
        refine go ?_
        exact aB (i+1) ⟨rfl,rfl,rfl,rfl,rfl,rfl,rfl,trivial⟩ ⟨⟨by omega,hp'⟩,hs.to⟩ (by omega)
      ·have hp':l7 key seq (l.drop (i+1))=l7 key seq l:=by rw [← hp];simp [l7,List.find?,hk]
       refine go ?_
       exact aB (i+1) ⟨rfl,rfl,rfl,rfl,rfl,rfl,rfl,trivial⟩ ⟨⟨by omega,hp'⟩,hs.to⟩ (by omega)
     ·have hnone:l7 key seq l=none:=by rw [← hp,List.drop_of_length_le (by omega)];rfl
      rw [hnone]
      have he:i=l.length:=by omega
      subst he
      refine go ?_
      refine bA (aF cN) ?_
      refine cZ (vs:=aF cN) hs fun w hs=>?_
      refine go ?_
      exact ej ⟨_,_,b3,0,rfl,rfl,fx (aF cN) hs (.there (.there (.there (.there .here)))) rfl rfl (gh.all _),_,_,rfl,rfl,_,_,rfl,rfl,rfl⟩ ⟨_,rfl,hs.to⟩
end
end Go.Proofs.YtecibefflhomdaaGreatDoor
