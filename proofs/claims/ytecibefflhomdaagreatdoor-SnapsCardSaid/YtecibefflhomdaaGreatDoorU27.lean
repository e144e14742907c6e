/-
  Part 27: THE MIRROR, PART 5 a store is opened; WALKS package levels; The engine 30 'gy', 'gyt'.
-/
import Derived.Test.YtecibefflhomdaaGreatDoorU26
set_option maxHeartbeats 8000000
set_option maxRecDepth 100000
set_option linter.all false
namespace Go.Proofs.YtecibefflhomdaaGreatDoor
open Go
section
open Go.Proofs.YtecibefflhomdaaGreatDoor.Pure (PDisk Ent Rd openB less bltB searchL numB textB frameB putB dec beN addL aget aput)
def wholeD (D:PDisk) (n:Bs):Except Err Bs×PDisk:=match findE D n with
 | some e=>(.error e,D.tick)
 | none=>match findE D.tick n with
  | some e=>(.error e,(counted D.tick (sizeB D n:Int)).tick)
  | none=>(.ok (readD D.tick n 0 (sizeB D n:Int)),(counted D.tick (sizeB D n:Int)).tick)
def lostE (e:Err):Err:=match e.1 with
 | none=>e
 | some n=>if e.2=10 then (some n,7) else e
def loadTs:Nat→PDisk→Rd→List (List Tab)→Out (List (List Tab)×Rd)
 | 0,_,_,_=>none
 | f+1,D,r,ls=>if r.rest≠[]∧r.bad=false then
  match openT D (r.num 1).2.text.1 with
  | none=>none
  | some (.error e,D')=>some (.error (lostE e),D')
  | some (.ok T,D')=>if 4≤(r.num 1).1 then some (.error (some stateN,7),D') else
   if (ls.getD (r.num 1).1 []).length≤big then loadTs f D' (r.num 1).2.text.2 (ls.set (r.num 1).1 (ls.getD (r.num 1).1 []++[T])) else none
  else some (.ok (ls,r),D)
def replayEs:Nat→Rd→St→Option (St×Bool)
 | 0,_,_=>none
 | f+1,r,s=>if r.rest=[] then some (s,false) else
  if r.entry.2.bad=true then some (s,true) else
  if s.mem.length≤1048576 then replayEs f r.entry.2 { s with seq:=r.entry.1.seq,mem:=addL s.mem r.entry.1 } else none
def replayF:Nat→Bs→St→Option St
 | 0,_,_=>none
 | f+1,b,s=>match openB b with
  | none=>some s
  | some z=>if (Rd.num ⟨z.1,false⟩ 8).1≠s.seq then some s else
   match replayEs (z.1.length+1) (Rd.num ⟨z.1,false⟩ 8).2 s with
   | none=>none
   | some (s',true)=>some s'
   | some (s',false)=>replayF f z.2 s'
def replayS (s:St) (D:PDisk):Out St:=match wholeD D s.log with
 | (.error e,D')=>some (.error (lostE e),D')
 | (.ok b,D')=>(replayF (b.length+1) b s).map fun s'=>(.ok s',D')
def st0:St:=⟨[[],[],[],[]],[],[],0,0,[],0⟩
def loadS (D:PDisk):Out St:=match wholeD D stateN with
 | (.error e,D')=>if e.2=10 then some (.ok st0,D') else some (.error e,D')
 | (.ok f,D')=>match openB f with
  | none=>some (.error (some stateN,7),D')
  | some z=>if z.2≠[] then some (.error (some stateN,7),D') else
   let a:=Rd.num ⟨z.1,false⟩ 8
   let b:=a.2.num 8
   let c:=b.2.text
   match loadTs (z.1.length+1) D' c.2 [[],[],[],[]] with
   | none=>none
   | some (.error e,D2)=>some (.error e,D2)
   | some (.ok x,D2)=>if x.2.bad=true then some (.error (some stateN,7),D2) else replayS { st0 with number:=a.1,seq:=b.1,log:=c.1,levels:=x.1 } D2
def sortB (l:List Bs):List Bs:=l.mergeSort fun x y=>decide (x≤y)
def listD (D:PDisk):List Bs:=sortB (D.now.map (·.1))
def knownS (s:St) (n:Bs):Bool:=decide (n=stateN)||decide (n=s.log)||s.levels.flatten.any fun T=>decide (T.name=n)
def cleanS (s:St) (D:PDisk):Out St:=if D.now.length≤big then match runOps (((listD D).filter fun n=>!knownS s n).map .remove) D with
 | none=>none
 | some (some e,D')=>some (.error e,D')
 | some (none,D')=>some (.ok s,D') else none
def renewS (o:Opt) (s:St) (D:PDisk):Out St:=if 0<s.mem.length then flushS o s D else bindO (commitS s D true) fun s D=>settleS o s D
def openS (o:Opt) (D:PDisk):Out St:=bindO (loadS D) fun s D=>bindO (cleanS s D) fun s D=>renewS o s D
end
section
open Go.Proofs.YtecibefflhomdaaGreatDoor.Pure (PDisk Ent Rd openB less bltB searchL numB textB frameB putB dec beN addL Chg chgE batchE numB_length)
attribute [local irreducible] IntKind.wrap
section
variable {ops:Array Oper} {Q:Exit→Act→World→Prop} {n:Nat} {ds:Md} {e:Env} {w w':World} {rest:List Oper}
variable {op:Op} {ty:TypeId} {pos:String} {af:Array Edge} {d:Nat} {v u:Value} {W0:World} {l l' r r':List HProp}
attribute [local semireducible] WL WC WQ
theorem wl_acutl {x y:Operand} {tt bb o k h':Nat} {p:Nat×Nat} {Y:Int} (hx:ev e x=some (.pointer (some ⟨bb,o,none⟩))) (ht:lk tArr tt=some p) (hsz:lk tSize p.2=some k) (hy:ev e y=some (.int .i64 Y)) (hY:Y=(h':Int)) (h1:h'<p.1) (hd:Nat.blt d n=true)
 (kk:WL ops Q n ds rest ((d,.slice (some ⟨bb,o+h'*k,none⟩) (p.1-h') (p.1-h'))::e) w):WL ops Q n ds (⟨some d,.slice tt x (some y) none none,ty,pos,af,none⟩::rest) e w:=by
 subst hY
 refine wl_run (fun a ha=>?_) hd kk
 have hu:=kArr_und ht
 have h2:h'≤p.1:=by omega
 have h3:¬ p.1=h':=by omega
 simp [execOp,ha.ev hx,ha.ev hy,Instr.sliceAt,Instr.sureAddr,und_of hu,size_of hsz,Instr.sliceBounds,Instr.sliceBound,asIntOf,h2,h3,add_eq]
end
variable {W0 w:World} {F:List HProp} {v:Value} {d m p:Nat} {T:Tab} {D D':PDisk} {M:List Ent}
theorem shd_star {l:List HProp} (h:∀ A∈l,Shd A):Shd (star l):=shd_sepL h
theorem shd_tabs (d:Nat):∀ (ps:List Nat) (Ts:List Tab),Shd (star (List.zipWith (tabC d) ps Ts)):=fun ps Ts=>shd_star fun A hA=>by
 obtain ⟨i,hi,rfl⟩:=List.mem_iff_getElem.1 hA
 rw [List.getElem_zipWith];exact shd_tabC _ _ _
def owS (z:SZ) (pss:List (List Nat)):HProp:=star (List.zipWith (fun v (ps:List Nat)=>ownS 1 v 193 ps.length (ps.map idV)) z.lvs pss)
abbrev tbS (d:Nat) (ps:List Nat) (Ts:List Tab):HProp:=star (List.zipWith (tabC d) ps Ts)
theorem Sat.lvSplit {z:SZ} {t0 t1 t2 t3:List Tab} (h:Sat W0 (lvS d z [t0,t1,t2,t3]::F) w):∃ p0 p1 p2 p3:List Nat,(p0.length=t0.length∧p1.length=t1.length∧p2.length=t2.length∧p3.length=t3.length) ∧
 Sat W0 (owS z [p0,p1,p2,p3]::tbS d p0 t0::tbS d p1 t1::tbS d p2 t2::tbS d p3 t3::F) w:=by
 have h:=h.lvPart
 obtain ⟨p0,h0,h⟩:=h.lvOpen
 obtain ⟨p1,h1,h⟩:=(h.take (.there (.there .here))).lvOpen
 obtain ⟨p2,h2,h⟩:=(h.take (.there (.there (.there (.there .here))))).lvOpen
 obtain ⟨p3,h3,h⟩:=(h.take (.there (.there (.there (.there (.there (.there .here))))))).lvOpen
 refine ⟨p0,p1,p2,p3,⟨h0,h1,h2,h3⟩,?_⟩
 have hs:Sat W0 (ownS 1 z.l0 193 p0.length (p0.map idV)::ownS 1 z.l1 193 p1.length (p1.map idV)::ownS 1 z.l2 193 p2.length (p2.map idV)::ownS 1 z.l3 193 p3.length (p3.map idV)::tbS d p0 t0::tbS d p1 t1::tbS d p2 t2::tbS d p3 t3::F) w:=h.to
 exact hs.imp fun _ k=>sepL_unstar (a:=[ownS 1 z.l0 193 p0.length (p0.map idV),ownS 1 z.l1 193 p1.length (p1.map idV),ownS 1 z.l2 193 p2.length (p2.map idV),ownS 1 z.l3 193 p3.length (p3.map idV)]) k
theorem Sat.lvUnsplit {z:SZ} {t0 t1 t2 t3:List Tab} {p0 p1 p2 p3:List Nat} (hl:p0.length=t0.length∧p1.length=t1.length∧p2.length=t2.length∧p3.length=t3.length)
 (h:Sat W0 (owS z [p0,p1,p2,p3]::tbS d p0 t0::tbS d p1 t1::tbS d p2 t2::tbS d p3 t3::F) w):Sat W0 (lvS d z [t0,t1,t2,t3]::F) w:=by
 have hs:Sat W0 (ownS 1 z.l0 193 p0.length (p0.map idV)::ownS 1 z.l1 193 p1.length (p1.map idV)::ownS 1 z.l2 193 p2.length (p2.map idV)::ownS 1 z.l3 193 p3.length (p3.map idV)::tbS d p0 t0::tbS d p1 t1::tbS d p2 t2::tbS d p3 t3::F) w:=
  h.imp fun _ k=>sepL_star (a:=[ownS 1 z.l0 193 p0.length (p0.map idV),ownS 1 z.l1 193 p1.length (p1.map idV),ownS 1 z.l2 193 p2.length (p2.map idV),ownS 1 z.l3 193 p3.length (p3.map idV)]) k
 have h0:=Sat.lvClose (d:=d) hl.1 (hs.to (a:=ownS 1 z.l0 193 p0.length (p0.map idV)::tbS d p0 t0::ownS 1 z.l1 193 p1.length (p1.map idV)::ownS 1 z.l2 193 p2.length (p2.map idV)::ownS 1 z.l3 193 p3.length (p3.map idV)::tbS d p1 t1::tbS d p2 t2::tbS d p3 t3::F))
 have h1:=Sat.lvClose (d:=d) hl.2.1 (h0.to (a:=ownS 1 z.l1 193 p1.length (p1.map idV)::tbS d p1 t1::lvC d z.l0 t0::ownS 1 z.l2 193 p2.length (p2.map idV)::ownS 1 z.l3 193 p3.length (p3.map idV)::tbS d p2 t2::tbS d p3 t3::F))
 have h2:=Sat.lvClose (d:=d) hl.2.2.1 (h1.to (a:=ownS 1 z.l2 193 p2.length (p2.map idV)::tbS d p2 t2::lvC d z.l0 t0::lvC d z.l1 t1::ownS 1 z.l3 193 p3.length (p3.map idV)::tbS d p3 t3::F))
 have h3:=Sat.lvClose (d:=d) hl.2.2.2 (h2.to (a:=ownS 1 z.l3 193 p3.length (p3.map idV)::tbS d p3 t3::lvC d z.l0 t0::lvC d z.l1 t1::lvC d z.l2 t2::F))
 exact Sat.lvJoin h3.to
theorem Sat.owTake {z:SZ} {pss:List (List Nat)} {i:Nat} {ps:List Nat} (hg:pss[i]?=some ps) (hv:z.lvs[i]?=some v) (h:Sat W0 (owS z pss::F) w):∃ R,Sat W0 (ownS 1 v 193 ps.length (ps.map idV)::R::F) w:=by
 have hz:=zipWith_at (fun v (ps:List Nat)=>ownS 1 v 193 ps.length (ps.map idV)) hv hg
 refine ⟨star ((List.zipWith (fun v (ps:List Nat)=>ownS 1 v 193 ps.length (ps.map idV)) z.lvs pss).take i++(List.zipWith (fun v (ps:List Nat)=>ownS 1 v 193 ps.length (ps.map idV)) z.lvs pss).drop (i+1)),?_⟩
 unfold owS at h
 rw [list_split hz] at h
 exact h.starTake
theorem Sat.owShape {z:SZ} {pss:List (List Nat)} {i:Nat} {ps:List Nat} (hg:pss[i]?=some ps) (hv:z.lvs[i]?=some v) (h:Sat W0 (owS z pss::F) w):∃ a c,v=.slice a ps.length c:=by
 obtain ⟨R,h⟩:=h.owTake hg hv
 obtain ⟨a,c,rfl,-⟩:=h.ownShape
 exact ⟨a,c,rfl⟩
theorem Sat.owAt {z:SZ} {pss:List (List Nat)} {i j p:Nat} {ps:List Nat} (hg:pss[i]?=some ps) (hv:z.lvs[i]?=some v) (hj:ps[j]?=some p) (h:Sat W0 (owS z pss::F) w):∃ bb c cs E F',v=.slice (some ⟨bb,0,none⟩) ps.length c∧cs[0+j*1]?=some (idV p)∧Sat W0 (blk bb E cs::F') w:=by
 obtain ⟨R,h⟩:=h.owTake hg hv
 obtain ⟨bb,cap,rs,rfl,q1,q2,q3,hs2⟩:=h.ownPos (by have:=(List.getElem?_eq_some_iff.1 hj).1;omega)
 refine ⟨bb,cap,_,_,_,rfl,?_,hs2⟩
 have hlt:=(List.getElem?_eq_some_iff.1 hj).1
 rw [Nat.zero_add,Nat.mul_one,List.getElem?_append_left (by simpa using hlt),List.getElem?_map,hj];rfl
abbrev ifM (m:Nat):Value:=.iface 117 (idV m)
abbrev ifT (p:Nat):Value:=.iface 193 (idV p)
theorem Sat.tbCat {a b:List Nat} {A B:List Tab} (h1:a.length=A.length) (h:Sat W0 (tbS d a A::tbS d b B::F) w):Sat W0 (tbS d (a++b) (A++B)::F) w:=by
 show Sat W0 (star (List.zipWith (tabC d) (a++b) (A++B))::F) w
 rw [List.zipWith_append (by exact h1)]
 refine h.imp fun _ k=>?_
 have k2:=sepL_star k
 refine sepL_unstar (a:=List.zipWith (tabC d) a A++List.zipWith (tabC d) b B) ?_
 rw [List.append_assoc]
 obtain ⟨x1,x2,f,l1,l2,ra,rb⟩:=sepL_split k2
 exact sepL_append f l1 l2 ra (sepL_star rb)
theorem sepL_perm {l l':List HProp} (h:l.Perm l'):∀ {hp:Hp},sepL l hp→sepL l' hp:=by
 induction h with
 | nil=>exact id
 | cons A _ ih=>exact fun k=>sepL_tail (fun _=>ih) k
 | swap A B l=>exact sepL_swap
 | trans _ _ ih1 ih2=>exact fun k=>ih2 (ih1 k)
theorem Sat.tbRev {a:List Nat} {A:List Tab} (h1:a.length=A.length) (h:Sat W0 (tbS d a A::F) w):Sat W0 (tbS d a.reverse A.reverse::F) w:=by
 refine h.head fun _ k=>?_
 show sepL (List.zipWith (tabC d) a.reverse A.reverse) _
 rw [← List.reverse_zipWith h1]
 exact sepL_perm (List.reverse_perm _).symm k
theorem sources_spec {b:Nat} {K:SK} {z:SZ} {s:St} (hl:s.levels.length=4) (hT:(tabsS s).length≤1099511627776) (hs:Sat W0 (blk b 133 (stCells K z s)::lvS K.d z s.levels::F) w) :
 Calls Tryz.prog 148 #[idV b] w fun x w'=>∃ (v:Value) (ps:List Nat),x=.returned v∧ps.length=(tabsS s).length∧Sat W0 (ownS 1 v 261 (1+ps.length) (ifM z.m::ps.map ifT)::tbS K.d ps (tabsS s)::blk b 133 (stCells K z s)::lvS K.d z s.levels::F) w':=by
 obtain ⟨t0,t1,t2,t3,hlv⟩:=four hl
 have htab:tabsS s=t0.reverse++(t1++(t2++t3)):=by unfold tabsS;rw [hlv];simp
 rw [hlv] at hs
 rw [htab] at hT
 simp only [List.length_append,List.length_reverse] at hT
 obtain ⟨p0,p1,p2,p3,hp,hs⟩:=(hs.take (.there .here)).lvSplit
 have hs:=hs.to (a:=blk b 133 (stCells K z s)::owS z [p0,p1,p2,p3]::tbS K.d p0 t0::tbS K.d p1 t1::tbS K.d p2 t2::tbS K.d p3 t3::F)
 suffices hw:Calls Tryz.prog 148 #[idV b] w fun x w'=>∃ v,x=.returned v∧Sat W0 (ownS 1 v 261 (1+(p0.reverse++(p1++(p2++p3))).length) (ifM z.m::(p0.reverse++(p1++(p2++p3))).map ifT)::blk b 133 (stCells K z s)::owS z [p0,p1,p2,p3]::tbS K.d p0 t0::tbS K.d p1 t1::tbS K.d p2 t2::tbS K.d p3 t3::F) w' by
  refine met hw ?_
  clear hs hw
  rintro _ w ⟨v,rfl,hs⟩
  refine ⟨v,p0.reverse++(p1++(p2++p3)),rfl,by rw [htab];simp [hp],?_⟩
  have h0:=Sat.shDup (shd_tabs K.d p0 t0) (hs.take (.there (.there (.there .here))))
  have h1:=Sat.shDup (shd_tabs K.d p1 t1) (h0.take (.there (.there (.there (.there (.there .here))))))
  have h2:=Sat.shDup (shd_tabs K.d p2 t2) (h1.take (.there (.there (.there (.there (.there (.there (.there .here))))))))
  have h3:=Sat.shDup (shd_tabs K.d p3 t3) (h2.take (.there (.there (.there (.there (.there (.there (.there (.there (.there .here))))))))))
  have h4:=Sat.tbCat hp.2.2.1 (h3.to (a:=tbS K.d p2 t2::tbS K.d p3 t3::tbS K.d p0 t0::tbS K.d p0 t0::tbS K.d p1 t1::tbS K.d p1 t1::tbS K.d p2 t2::tbS K.d p3 t3::ownS 1 v 261 (1+(p0.reverse++(p1++(p2++p3))).length) (ifM z.m::(p0.reverse++(p1++(p2++p3))).map ifT)::blk b 133 (stCells K z s)::owS z [p0,p1,p2,p3]::F))
  have h5:=Sat.tbCat hp.2.1 (h4.take (.there (.there (.there .here))))
  have h6:=Sat.tbRev hp.1 (h5.take (.there .here))
  have h7:=Sat.tbCat (by simp [hp.1]) (h6.to (a:=tbS K.d p0.reverse t0.reverse::tbS K.d (p1++(p2++p3)) (t1++(t2++t3))::owS z [p0,p1,p2,p3]::tbS K.d p0 t0::tbS K.d p1 t1::tbS K.d p2 t2::tbS K.d p3 t3::ownS 1 v 261 (1+(p0.reverse++(p1++(p2++p3))).length) (ifM z.m::(p0.reverse++(p1++(p2++p3))).map ifT)::blk b 133 (stCells K z s)::F))
  have h8:=Sat.lvUnsplit hp (h7.to (a:=owS z [p0,p1,p2,p3]::tbS K.d p0 t0::tbS K.d p1 t1::tbS K.d p2 t2::tbS K.d p3 t3::tbS K.d (p0.reverse++(p1++(p2++p3))) (t0.reverse++(t1++(t2++t3)))::ownS 1 v 261 (1+(p0.reverse++(p1++(p2++p3))).length) (ifM z.m::(p0.reverse++(p1++(p2++p3))).map ifT)::blk b 133 (stCells K z s)::F))
  rw [htab,hlv]
  exact h8.to
 have hn0:p0.length+(p1.length+(p2.length+p3.length))≤1099511627776:=by omega
 clear hT htab hlv hl
 refine enter Tryz.func148 rfl Tryz.ntmps148 Tryz.results148 rfl ?_
 refine gx ?_
 refine w_lit1 hs ?_
 clear hs
 intro w bl hs
 have hs:=Sat.ownClose (k:=1) (len:=1) (cs:=[ifM z.m]) (rest:=[]) (cap:=1) hs (Nat.le_refl _) (by decide) rfl rfl (by simp [isOne])
 have hs:=hs.to (a:=ownS 1 (.slice (some ⟨bl,0,none⟩) 1 1) 261 1 [ifM z.m]::blk b 133 (stCells K z s)::owS z [p0,p1,p2,p3]::tbS K.d p0 t0::tbS K.d p1 t1::tbS K.d p2 t2::tbS K.d p3 t3::F)
 obtain ⟨a0,c0,hz0⟩:=(hs.take (.there (.there .here))).owShape (i:=0) (ps:=p0) rfl (v:=z.l0) rfl
 refine gx ?_
 refine wl_ixa (p:=(4,129)) rfl rfl rfl rfl (by omega) (by show (0:Int)<4;omega) rfl ?_
 refine gx ?_
 rw [hz0]
 refine gx ?_
 refine wc_loop (α:=Nat×Value) (fun q=>[(0,idV b),(3,q.2),(4,.int .i64 ((q.1:Int)-1))])
  (fun q w=>q.1≤p0.length∧Sat W0 (ownS 1 q.2 261 (1+(p0.drop q.1).reverse.length) (ifM z.m::(p0.drop q.1).reverse.map ifT)::blk b 133 (stCells K z s)::owS z [p0,p1,p2,p3]::tbS K.d p0 t0::tbS K.d p1 t1::tbS K.d p2 t2::tbS K.d p3 t3::F) w) (fun q=>q.1) (p0.length,_) ⟨rfl,rfl,rfl,trivial⟩ ⟨Nat.le_refl _,by simpa using hs⟩ ?_
 clear hs
 rintro ⟨k,v⟩ w ⟨hk,hs⟩
 dsimp only at hk hs ⊢
 cases k with
 | succ k=>
  have hge:((k+1:Nat):Int)-1 ≥ 0:=by omega
  have hg:p0[k]?=some p0[k]:=List.getElem?_eq_getElem (by omega)
  have hdr:p0.drop k=p0[k]::p0.drop (k+1):=List.drop_eq_getElem_cons (by omega)
  generalize p0[k]=q at hg hdr
  refine gx ?_
  refine wl_ixa (p:=(4,129)) rfl rfl rfl rfl (by omega) (by show (0:Int)<4;omega) rfl ?_
  refine gx ?_
  obtain ⟨bb,c,cs,E,F',hv,hcell,hs2⟩:=(hs.take (.there (.there .here))).owAt (i:=0) (ps:=p0) rfl (v:=z.l0) rfl hg
  rw [hv]
  refine wl_ixn (i:=k) rfl rfl (by omega) rfl rfl (by omega) rfl ?_
  refine wl_ld hs2 rfl rfl .here hcell rfl ?_
  clear hs2
  obtain ⟨av,cv,rfl,-⟩:=hs.ownShape
  have hdl:(p0.drop (k+1)).reverse.length≤p0.length:=by simp
  refine gx ?_
  refine w_lit1 hs ?_
  clear hs
  intro w b2 hs
  refine w_app1 hs ?_
  clear hs
  intro v2 w hs
  refine gx ?_
  refine wq_round (k,v2) ⟨rfl,rfl,?_,trivial⟩ ⟨by omega,?_⟩ (by dsimp only;omega)
  ·show some (Value.int .i64 (((k+1:Nat):Int)-1-1))=some (Value.int .i64 ((k:Int)-1))
   rw [show ((k+1:Nat):Int)-1-1=(k:Int)-1 by omega]
  ·have e1:(p0.drop k).reverse=(p0.drop (k+1)).reverse++[q]:=by rw [hdr,List.reverse_cons]
   dsimp only
   rw [e1,List.length_append,List.map_append]
   exact hs.to
 | zero=>
  have hlt:¬ (((0:Nat):Int)-1 ≥ 0):=by omega
  refine gx ?_
  refine wl_acutl (p:=(4,129)) (h':=1) rfl rfl rfl rfl rfl (by show 1<4;omega) rfl ?_
  refine gx ?_
  rw [List.drop_zero] at hs
  refine wc_loop (α:=Nat×Value) (fun q=>[(0,idV b),(3,q.2),(41,.slice (some ⟨b,8,none⟩) 3 3),(42,.int .i64 3),(43,.int .i64 (q.1:Int))])
   (fun q w=>q.1≤3∧Sat W0 (ownS 1 q.2 261 (1+(p0.reverse++(([p1,p2,p3].take q.1).flatten)).length) (ifM z.m::(p0.reverse++(([p1,p2,p3].take q.1).flatten)).map ifT)::blk b 133 (stCells K z s)::owS z [p0,p1,p2,p3]::tbS K.d p0 t0::tbS K.d p1 t1::tbS K.d p2 t2::tbS K.d p3 t3::F) w) (fun q=>3-q.1) (0,v) ⟨rfl,rfl,rfl,rfl,rfl,trivial⟩ ⟨by omega,by simpa using hs⟩ ?_
  clear hs
  rintro ⟨i,v⟩ w ⟨hi,hs⟩
  dsimp only at hi hs ⊢
  by_cases hlt3:i<3
  ·have hlt3':(i:Int)<3:=by omega
   obtain ⟨ps,hps⟩:∃ ps,[p0,p1,p2,p3][i+1]?=some ps:=⟨_,List.getElem?_eq_getElem (by simp;omega)⟩
   obtain ⟨vi,hvi⟩:∃ vi,z.lvs[i+1]?=some vi:=⟨_,List.getElem?_eq_getElem (by simp [SZ.lvs];omega)⟩
   have hcl:(stCells K z s)[8+i*1]?=some vi:=by
    match i,hlt3,hvi with
    | 0,_,hvi=>exact hvi
    | 1,_,hvi=>exact hvi
    | 2,_,hvi=>exact hvi
   have htk:([p1,p2,p3].take (i+1)).flatten=([p1,p2,p3].take i).flatten++ps:=by
    match i,hlt3,hps with
    | 0,_,hps=>simp at hps;simp [hps]
    | 1,_,hps=>simp at hps;simp [hps]
    | 2,_,hps=>simp at hps;simp [hps]
   have hle:(p0.reverse++(([p1,p2,p3].take i).flatten)).length+ps.length≤1099511627776:=by
    match i,hlt3,hps with
    | 0,_,hps=>simp at hps;simp [← hps];omega
    | 1,_,hps=>simp at hps;simp [← hps];omega
    | 2,_,hps=>simp at hps;simp [← hps];omega
   obtain ⟨ai,ci,rfl⟩:=(hs.take (.there (.there .here))).owShape hps hvi
   generalize hacc:p0.reverse++(([p1,p2,p3].take i).flatten)=acc at hs hle
   refine gx ?_
   refine wl_ixn (i:=i) rfl rfl rfl rfl rfl hlt3 rfl ?_
   refine wl_ld hs rfl rfl (.there .here) hcl rfl ?_
   refine gx ?_
   refine wc_loop (α:=Nat×Value) (fun q=>[(0,idV b),(3,q.2),(41,.slice (some ⟨b,8,none⟩) 3 3),(42,.int .i64 3),(43,.int .i64 (i:Int)),(47,.slice ai ps.length ci),(48,.int .i64 (ps.length:Int)),(49,.int .i64 (q.1:Int))])
    (fun q w=>q.1≤ps.length∧Sat W0 (ownS 1 q.2 261 (1+(acc++ps.take q.1).length) (ifM z.m::(acc++ps.take q.1).map ifT)::blk b 133 (stCells K z s)::owS z [p0,p1,p2,p3]::tbS K.d p0 t0::tbS K.d p1 t1::tbS K.d p2 t2::tbS K.d p3 t3::F) w) (fun q=>ps.length-q.1) (0,v) ⟨rfl,rfl,rfl,rfl,rfl,rfl,rfl,rfl,trivial⟩ ⟨by omega,by simpa using hs⟩ ?_
   clear hs
   rintro ⟨j,v⟩ w ⟨hj,hs⟩
   dsimp only at hj hs ⊢
   by_cases hltj:j<ps.length
   ·have hltj':(j:Int)<(ps.length:Int):=by omega
    have hg:ps[j]?=some ps[j]:=List.getElem?_eq_getElem hltj
    have htj:ps.take (j+1)=ps.take j++[ps[j]]:=by rw [List.take_add_one,hg];rfl
    generalize ps[j]=q at hg htj
    refine gx ?_
    obtain ⟨bb,c,cs,E,F',hv,hcell,hs2⟩:=(hs.take (.there (.there .here))).owAt hps hvi hg
    obtain ⟨rfl,_,rfl⟩:=Value.slice.inj hv
    refine wl_ixn (i:=j) rfl rfl rfl rfl rfl hltj rfl ?_
    refine wl_ld hs2 rfl rfl .here hcell rfl ?_
    clear hs2
    obtain ⟨av,cv,rfl,-⟩:=hs.ownShape
    have hdl:(acc++ps.take j).length≤1099511627776:=by rw [List.length_append,List.length_take];omega
    refine gx ?_
    refine w_lit1 hs ?_
    clear hs
    intro w b2 hs
    refine w_app1 hs ?_
    clear hs
    intro v2 w hs
    refine gx ?_
    refine wq_round (j+1,v2) ⟨rfl,rfl,rfl,rfl,rfl,rfl,rfl,rfl,trivial⟩ ⟨by omega,?_⟩ (by dsimp only;omega)
    dsimp only
    rw [htj,← List.append_assoc]
    generalize acc++ps.take j=ac2 at hs
    rw [List.length_append,List.map_append]
    exact hs.to
   ·have hje:j=ps.length:=by omega
    subst hje
    have hltj':¬ ((ps.length:Int)<(ps.length:Int)):=by omega
    rw [List.take_length] at hs
    refine gx ?_
    refine wq_round (i+1,v) ⟨rfl,rfl,rfl,rfl,rfl,trivial⟩ ⟨by omega,?_⟩ (by dsimp only;omega)
    dsimp only
    rw [htk,← List.append_assoc,hacc]
    exact hs.to
  ·have hie:i=3:=by omega
   subst hie
   have hlt3':¬ (((3:Nat):Int)<3):=by omega
   refine gx ?_
   have e3:([p1,p2,p3].take 3).flatten=p1++(p2++p3):=by simp
   rw [e3] at hs
   exact wq_ret rfl ⟨v,rfl,hs⟩
end
section
variable {ops:Array Oper} {Q:Exit→Act→World→Prop} {S:World→Prop} {K:List Nat} {n:Nat} {ds:Md} {e:Env} {w w':World} {bb:Bool} {t:OT} {rest:List Oper}
variable {op:Op} {ty:TypeId} {pos:String} {af:Array Edge} {d i j:Nat} {v u:Value} {W0:World} {l l0 r:List HProp}
theorem wl_ldo {x:Operand} {T b o:Nat} (hs:Sat W0 l w) (hx:ev e x=some (.pointer (some ⟨b,o,none⟩))) (hT:lk tAgg T=some false)
 (hc:W0.cell? ⟨b,o,none⟩=some v) (hd:Nat.blt d n=true) (k:WL ops Q n ds rest ((d,v)::e) w) :
 WL ops Q n ds (⟨some d,.load T x,ty,pos,af,none⟩::rest) e w:=
 wl_run (fun a ha=>by simp [execOp,ha.ev hx,Instr.loadAt,Instr.sureAddr,loadVar1_run hT (hs.oldCell hc)]) hd k
theorem wl_ldoN (vs:List Value) {x:Operand} {T b o:Nat} (hs:Sat W0 l w) (hx:ev e x=some (.pointer (some ⟨b,o,none⟩))) (hT:lk tAgg T=some true) (hz:lk tSize T=some vs.length)
 (hc:∀ j u,vs[j]?=some u→W0.cell? ⟨b,o+j,none⟩=some u) (hd:Nat.blt d n=true) (k:WL ops Q n ds rest ((d,.agg vs.toArray)::e) w) :
 WL ops Q n ds (⟨some d,.load T x,ty,pos,af,none⟩::rest) e w:=
 wl_ldA vs hx hT hz (fun j u hj=>hs.oldCell (hc j u hj)) hd k
theorem wt_ldo {x:Operand} {T b o:Nat} (ho:ops[i]?=some ⟨some d,.load T x,ty,pos,af,none⟩) (hx:ev e x=some (.pointer (some ⟨b,o,none⟩))) (hT:lk tAgg T=some false)
 (hc:W0.cell? ⟨b,o,none⟩=some v) (hd:Nat.blt d n=true) (k:WT ops Q (Sat W0 l0) K n ds true t ((d,v)::e) w):WT ops Q (Sat W0 l0) K n ds true (.s i t) e w:=
 wt_sy ho (fun a w' ha hs=>by simp [execOp,ha.ev hx,Instr.loadAt,Instr.sureAddr,loadVar1_run hT (hs.oldCell hc)]) hd k
theorem wt_ldoN (vs:List Value) {x:Operand} {T b o:Nat} (ho:ops[i]?=some ⟨some d,.load T x,ty,pos,af,none⟩) (hx:ev e x=some (.pointer (some ⟨b,o,none⟩))) (hT:lk tAgg T=some true) (hz:lk tSize T=some vs.length)
 (hc:∀ j u,vs[j]?=some u→W0.cell? ⟨b,o+j,none⟩=some u) (hd:Nat.blt d n=true) (k:WT ops Q (Sat W0 l0) K n ds true t ((d,.agg vs.toArray)::e) w):WT ops Q (Sat W0 l0) K n ds true (.s i t) e w:=
 wt_sy ho (fun a w' ha hs=>by
  have:=run_loadCells_list (P:=Tryz.prog) w' ⟨b,o,none⟩ vs (fun j v hj=>by rw [add_eq];exact hs.oldCell (hc j v hj))
  simp [execOp,ha.ev hx,Instr.loadAt,Instr.sureAddr,loadVar,agg_of hT,size_of hz,this]) hd k
theorem wt_tr {b:Bool} (ho:ops[i]?=some ⟨some d,op,ty,pos,af,none⟩) (hv:yv e op=some (.bool b)) (hp:b=true) (hd:Nat.blt d n=true) (k:WT ops Q S K n ds bb t ((d,.bool true)::e) w):WT ops Q S K n ds bb (.q i t) e w:=wt_p ho (by rw [hv,hp]) hd k
theorem wt_fa {b:Bool} (ho:ops[i]?=some ⟨some d,op,ty,pos,af,none⟩) (hv:yv e op=some (.bool b)) (hp:b=false) (hd:Nat.blt d n=true) (k:WT ops Q S K n ds bb t ((d,.bool false)::e) w):WT ops Q S K n ds bb (.q i t) e w:=wt_p ho (by rw [hv,hp]) hd k
theorem wt_trg {b g:Bool} (ho:ops[i]?=some ⟨some d,op,ty,pos,af,some (j,g)⟩) (hg:gv ops e j=some g) (hv:yv e op=some (.bool b)) (hp:b=true) (hd:Nat.blt d n=true) (k:WT ops Q S K n ds bb t ((d,.bool true)::e) w):WT ops Q S K n ds bb (.q i t) e w:=wt_pg ho hg (by rw [hv,hp]) hd k
theorem wt_fag {b g:Bool} (ho:ops[i]?=some ⟨some d,op,ty,pos,af,some (j,g)⟩) (hg:gv ops e j=some g) (hv:yv e op=some (.bool b)) (hp:b=false) (hd:Nat.blt d n=true) (k:WT ops Q S K n ds bb t ((d,.bool false)::e) w):WT ops Q S K n ds bb (.q i t) e w:=wt_pg ho hg (by rw [hv,hp]) hd k
theorem wt_bTg {p:Prop} [Decidable p] {g:Bool} (ho:ops[i]?=some ⟨some d,op,ty,pos,af,some (j,g)⟩) (hg:gv ops e j=some g) (hv:yv e op=some (.bool (decide p))) (hp:p) (hd:Nat.blt d n=true) (k:WT ops Q S K n ds bb t ((d,.bool true)::e) w):WT ops Q S K n ds bb (.q i t) e w:=wt_pg ho hg (by rw [hv];simp [hp]) hd k
theorem wt_bFg {p:Prop} [Decidable p] {g:Bool} (ho:ops[i]?=some ⟨some d,op,ty,pos,af,some (j,g)⟩) (hg:gv ops e j=some g) (hv:yv e op=some (.bool (decide p))) (hp:¬ p) (hd:Nat.blt d n=true) (k:WT ops Q S K n ds bb t ((d,.bool false)::e) w):WT ops Q S K n ds bb (.q i t) e w:=wt_pg ho hg (by rw [hv];simp [hp]) hd k
end
theorem gy {G G':Prop} (k:G') (h:Hold G'→G:=by
 (intro k
  repeat (first
   | (refine isWL ?_
      first
       | refine wl_nil ?_
       | refine wl_p (op:=.fieldAddr _ _ _) rfl rfl ?_
       | refine wl_p (op:=.nilCheck _) rfl rfl ?_
       | (refine isLd ?_
          first
           | refine wl_ld (by assumption) rfl rfl (by repeat (first|exact Take.here|apply Take.there)) (by first|rfl|assumption) rfl ?_
           | refine wl_ldo (by assumption) rfl rfl (by assumption) rfl ?_
           | refine wl_ldN [_,_] (by assumption) rfl rfl rfl (by repeat (first|exact Take.here|apply Take.there)) (by first|exact ⟨rfl,rfl,trivial⟩|assumption) rfl ?_
           | refine wl_ldN [_,_,_] (by assumption) rfl rfl rfl (by repeat (first|exact Take.here|apply Take.there)) (by first|exact ⟨rfl,rfl,rfl,trivial⟩|assumption) rfl ?_
           | refine wl_ldN [_,_,_,_] (by assumption) rfl rfl rfl (by repeat (first|exact Take.here|apply Take.there)) (by first|exact ⟨rfl,rfl,rfl,rfl,trivial⟩|assumption) rfl ?_
           | refine wl_ldN [_,_,_,_,_,_] (by assumption) rfl rfl rfl (by repeat (first|exact Take.here|apply Take.there)) (by first|exact ⟨rfl,rfl,rfl,rfl,rfl,rfl,trivial⟩|assumption) rfl ?_)
       | (refine isBin ?_
          first
           | refine wl_i rfl (by omega) (by omega) rfl ?_
           | refine wl_u64 rfl (by omega) (by omega) rfl ?_
           | refine wl_bT rfl (by first|assumption|omega) rfl ?_
           | refine wl_bF rfl (by first|assumption|omega) rfl ?_
           | refine wl_tr rfl (by assumption) rfl ?_
           | refine wl_fa rfl (by assumption) rfl ?_
           | refine wl_p rfl rfl ?_)
       | (refine isCon ?_
          first
           | refine wl_i rfl (by omega) (by omega) rfl ?_
           | refine wl_u64 rfl (by omega) (by omega) rfl ?_
           | refine wl_p rfl rfl ?_)
       | (refine isGu ?_
          first
           | refine wl_gT rfl ?_
           | refine wl_gF rfl rfl rfl ?_
           | refine wl_gU rfl rfl ?_)
       | (refine isBlt ?_
          refine wl_p rfl rfl ?_)
       | refine wl_ixn rfl rfl (by first|rfl|assumption) rfl rfl (by first|assumption|omega) rfl ?_
       | refine wl_p (op:=.move _) (ty:=4) rfl rfl ?_
       | refine wl_p (op:=.move _) rfl rfl ?_
       | refine wl_p (op:=.assign _) rfl rfl ?_
       | refine wl_p (op:=.extract _ _) rfl rfl ?_
       | refine wl_p (op:=.unOp _ _ _) rfl rfl ?_
       | refine wl_p (op:=.pick _ _ _) rfl rfl ?_
       | refine wl_p (op:=.makeInterface _ _) rfl rfl ?_)
   | (refine isWC ?_
      first
       | refine wc_seq ?_
       | refine wc_region rfl ?_
       | refine wc_condT rfl ?_
       | refine wc_condF rfl ?_
       | refine wc_block ?_
       | refine wc_skip ?_
       | refine wc_ret ?_
       | refine wc_exit ?_)
   | (refine isWQ ?_
      first
       | refine wq_then rfl ?_
       | refine wq_then_exit ?_
       | refine wq_then_ret ?_
       | refine wq_blk ?_
       | refine wq_blk_ret ?_
       | refine wq_blk_hit ?_
       | refine wq_blk_miss rfl ?_
       | refine wq_loop_exit ?_
       | refine wq_loop_ret ?_))
  exact k.out)):G:=h ⟨k⟩
theorem gyt {G G':Prop} (k:G') (h:Hold G'→G:=by
 (intro k
  repeat (refine isWT ?_
          first
   | refine wt_p (op:=.fieldAddr _ _ _) rfl rfl rfl ?_
   | refine wt_p (op:=.nilCheck _) rfl rfl rfl ?_
   | refine wt_p (op:=.move _) rfl rfl rfl ?_
   | refine wt_p (op:=.assign _) rfl rfl rfl ?_
   | refine wt_p (op:=.extract _ _) rfl rfl rfl ?_
   | refine wt_ixn rfl rfl rfl (by first|rfl|assumption) rfl rfl (by first|assumption|omega) rfl ?_
   | refine wt_ixg rfl rfl rfl rfl (by first|rfl|assumption) rfl rfl (by first|assumption|omega) rfl ?_
   | refine wt_ld rfl rfl rfl (by repeat (first|exact Take.here|apply Take.there)) (by first|rfl|assumption) rfl ?_
   | refine wt_ldg rfl rfl rfl rfl (by repeat (first|exact Take.here|apply Take.there)) (by first|rfl|assumption) rfl ?_
   | refine wt_ldo rfl rfl rfl (by assumption) rfl ?_
   | refine wt_l rfl ?_
   | refine wt_nil ?_
   | refine wt_i rfl rfl (by omega) (by omega) rfl ?_
   | refine wt_u64 rfl rfl (by omega) (by omega) rfl ?_
   | refine wt_bT rfl rfl (by first|assumption|omega) rfl ?_
   | refine wt_bF rfl rfl (by first|assumption|omega) rfl ?_
   | refine wt_tr rfl rfl (by assumption) rfl ?_
   | refine wt_fa rfl rfl (by assumption) rfl ?_
   | refine wt_p rfl rfl rfl ?_
   | refine wt_bTg rfl rfl rfl (by first|assumption|omega) rfl ?_
   | refine wt_bFg rfl rfl rfl (by first|assumption|omega) rfl ?_
   | refine wt_trg rfl rfl rfl (by assumption) rfl ?_
   | refine wt_fag rfl rfl rfl (by assumption) rfl ?_
   | refine wt_ig rfl rfl rfl (by omega) (by omega) rfl ?_
   | refine wt_pg rfl rfl rfl rfl ?_
   | refine wt_gF rfl rfl rfl rfl ?_
   | refine wt_gFs rfl rfl rfl rfl ?_)
  exact k.out)):G:=h ⟨k⟩
section
variable {W0 w:World} {F:List HProp} {v:Value} {k i:Nat} {rows:List (List Value)}
theorem Sat.rvRow {a:Option Addr} {c:Nat} {x:List Value} (hs:Sat W0 (rvw k (.slice a rows.length c) rows::F) w) (hx:rows[i]?=some x) :
 ∃ z:VwAt,a=some ⟨z.b,z.o,none⟩∧Seg z.all (z.o+i*k) x∧Sat W0 (ob true z.b (.cells z.all.toArray z.E (0,0))::rvw k (.slice a rows.length c) rows::F) w:=by
 obtain ⟨z,⟨hz,_,hseg⟩,h2⟩:=hs.rvOpen (fun h=>by rw [h] at hx;simp at hx)
 have hk:=(hs.rvK)
 injection hz with h1 _ _
 exact ⟨z,h1,hseg.row hk hx,h2⟩
end
end Go.Proofs.YtecibefflhomdaaGreatDoor
