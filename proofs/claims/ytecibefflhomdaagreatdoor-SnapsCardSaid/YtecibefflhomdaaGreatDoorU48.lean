/-
  Part 48: WALKS the statements' world; WALKS the statements' world.
-/
import Derived.Test.YtecibefflhomdaaGreatDoorU47
import Derived.Laws.StructEq
set_option maxHeartbeats 8000000
set_option maxRecDepth 100000
set_option linter.all false
namespace Go.Proofs.YtecibefflhomdaaGreatDoor
open Go
section
open Go.Proofs.YtecibefflhomdaaGreatDoor.Pure (PDisk Chg bltB lookP betweenP inLo inHi)
attribute [local irreducible] IntKind.wrap
variable {W0 w:World} {F:List HProp} {p:Nat} {X:WS} {E B N:Nat}
def detC:Option (Nat×PDisk)→HProp
 | none=>fun _=>True
 | some q=>DiskA q.1 q.2
def WS.disk (X:WS):Nat:=match X.det with
 | none=>X.d
 | some q=>q.1
def WS.cur (X:WS):PDisk:=match X.det with
 | none=>X.D
 | some q=>q.2
abbrev wCells (X:WS):List Value:=[idV X.disk,idV X.b,idV X.rb,.int .i64 (X.o.memory:Int),.int .i64 (X.o.tables:Int),X.vo,X.vw]
abbrev wL (p:Nat) (X:WS) (F:List HProp):List HProp:=blk p 91 (wCells X)::srC X.b X.d X.o X.r.closed none X.s::DiskA X.d X.D::refC X.rb X.r::detC X.det::pairV X.vo X.out::pairV X.vw X.out::F
def StepR (W0:World) (p:Nat) (F:List HProp) (E B N:Nat):Ending→World→Prop:=fun x w'=>∃ X',WOk X' E B N∧x=.returned (.bool true)∧Sat W0 (wL p X' F) w'
theorem Sat.trueC (h:Sat W0 F w):Sat W0 ((fun _=>True)::F) w:=h.imp fun hp r=>⟨fun _=>none,hp,fun _ _ _ hx=>(by cases hx),fun _ _ hx=>(by cases hx),Hp.le_refl _,trivial,r⟩
theorem wbegin_spec {mm tt:Int} (hW:PowW W0) (hE:ErrW W0) (hs:Sat W0 F w) :
 Calls Tryz.prog 35 #[.int .i64 mm,.int .i64 tt] w fun x w'=>∃ p X,x=.returned (.tuple #[idV p,.bool true])∧WOk X 0 0 1∧X.r=⟨[],[],false⟩∧X.out=[]∧Sat W0 (wL p X F) w':=by
 obtain ⟨m,hm⟩:∃ m,1+rawN mm 32=m:=⟨_,rfl⟩
 obtain ⟨t,ht⟩:∃ t,2+rawN tt 5=t:=⟨_,rfl⟩
 have hm2:=rawN_lt mm (k:=32) (by decide)
 have ht2:=rawN_lt tt (k:=5) (by decide)
 have hok:okO m t=true:=by simp [okO];omega
 refine enter Tryz.func35 rfl Tryz.ntmps35 Tryz.results35 rfl ?_
 refine gy ?_
 refine w_call (met (newDisk_a (room:=1099511627776) hs (by decide) (by decide)) ?_)
 clear hs
 rintro _ w ⟨dd,rfl,hs⟩
 refine ⟨_,rfl,?_⟩
 refine gy ?_
 refine w_build [.slice none 0 0,.slice none 0 0,.bool false] ?_
 refine w_box hs ?_
 clear hs
 intro w rb hs
 refine w_build [idV dd,.pointer none,idV rb,.int .i64 0,.int .i64 0,.slice none 0 0,.slice none 0 0] ?_
 refine w_box hs ?_
 clear hs
 intro w p hs
 have h1:=Sat.ownNil (k:=2) (E:=177) hs
 have h2:=Sat.rvEmp (k:=2) h1 (a:=none) (c:=0) (.inl rfl) (fun _=>rfl)
 have h3:Sat W0 (snT [] []::pairV (.slice none 0 0) []::ownS 2 (.slice none 0 0) 177 0 []::blk p 91 [idV dd,.pointer none,idV rb,.int .i64 0,.int .i64 0,.slice none 0 0,.slice none 0 0]::blk rb 88 [.slice none 0 0,.slice none 0 0,.bool false]::DiskA dd (newDisk 1099511627776)::F) w:=h2.imp fun hp k=>sepL_unstar (a:=[]) k
 clear hs h1 h2
 have h4:=Sat.rfClose (rb:=rb) (r:=⟨[],[],false⟩) (us:=[]) (vp:=.slice none 0 0) (vs:=.slice none 0 0) (F:=blk p 91 [idV dd,.pointer none,idV rb,.int .i64 0,.int .i64 0,.slice none 0 0,.slice none 0 0]::DiskA dd (newDisk 1099511627776)::F) ⟨rfl,by simp⟩ h3.to
 clear h3
 have hs:Sat W0 (blk p 91 [idV dd,.pointer none,idV rb,.int .i64 0,.int .i64 0,.slice none 0 0,.slice none 0 0]::DiskA dd (newDisk 1099511627776)::refC rb ⟨[],[],false⟩::F) w:=h4.to
 clear h4
 refine gy ?_
 refine wl_rem (N:=(IntKind.u64.wrap mm).toNat) (M:=32) rfl rfl (u64_nn mm) rfl (by decide) rfl ?_
 show WL _ _ _ _ _ ((_,.int .u64 (rawN mm 32:Int))::_) _
 refine gy ?_
 refine wl_rem (N:=(IntKind.u64.wrap tt).toNat) (M:=5) rfl rfl (u64_nn tt) rfl (by decide) rfl ?_
 show WL _ _ _ _ _ ((_,.int .u64 (rawN tt 5:Int))::_) _
 refine gy ?_
 have em:(1:Int)+(rawN mm 32:Int)=(m:Int):=by omega
 have et:(2:Int)+(rawN tt 5:Int)=(t:Int):=by omega
 rw [em,et]
 have hd0:=newDisk_ok (room:=1099511627776) (by decide) (by decide)
 have hcalm:Calm (newDisk 1099511627776):=⟨rfl,rfl⟩
 have hop:∃ s D',openS ⟨m,t⟩ (newDisk 1099511627776)=some (.ok s,D')∧Later (newDisk 1099511627776) D'∧Inv False (OkP ⟨m,t⟩) s D' ⟨[],[],false⟩ 0 0∧s.number≤1:=by
  obtain ⟨x,D',e1,e2,e3⟩:=open0_inv (o:=⟨m,t⟩) (by show 1≤t;omega) (by show 1≤m;omega) hd0 (fun _=>rfl) rfl rfl
  rcases e3 with ⟨e,rfl,hf⟩|⟨s,rfl,hi,hn⟩
  ·exact (hcalm.noFlt hf).elim
  ·exact ⟨s,D',e1,e2,hi,hn⟩
 obtain ⟨s,D',e1,e2,hi,hn⟩:=hop
 refine w_call (met (wopen_spec (m:=m) (t:=t) (rawN_small (by omega) (by omega)) (rawN_small (by omega) (by omega)) hW hE (fun _=>⟨s,D',e1⟩) hs) ?_)
 clear hs
 rintro _ w ⟨rfl,hh,-⟩
 obtain ⟨s2,D2,b,rb',e3,hs⟩:=hh hok
 rw [e1] at e3
 injection e3 with e3
 injection e3 with e3 e4
 injection e3 with e3
 subst e3;subst e4
 refine ⟨_,rfl,?_⟩
 refine gy ?_
 refine wc_tree [blk p 91 [idV dd,idV b,idV rb',.int .i64 (m:Int),.int .i64 (t:Int),.slice none 0 0,.slice none 0 0]] [6] (.q 0 (.q 1 (.q 2 (.q 3 (.q 4 (.q 5 (.s 6 (.q 7 (.q 8 (.q 9 (.q 10 .nil))))))))))) hs (by kernel_rfl) ?_
 clear hs
 intro w hs
 refine gyt ?_
 refine gy ?_
 refine wq_ret rfl ⟨p,⟨b,dd,rb',.slice none 0 0,.slice none 0 0,⟨m,t⟩,s,D',⟨[],[],false⟩,none,[]⟩,rfl,?_,rfl,rfl,?_⟩
 ·exact ⟨hok,fun _=>⟨hi,hcalm.later e2,hn⟩,fun q hq=>(by cases hq),Nat.le_refl _,fun ps hp=>(by cases hp),Nat.le_refl _,Nat.le_refl _,by rw [hi.snap];exact Nat.le_refl _⟩
 ·have h1:=Sat.rvEmp (k:=2) hs (a:=none) (c:=0) (.inl rfl) (fun _=>rfl)
  have h2:=Sat.rvEmp (k:=2) h1 (a:=none) (c:=0) (.inl rfl) (fun _=>rfl)
  have h3:=h2.trueC
  exact Sat.to (h3.take (.there (.there (.there .here))))
theorem Sat.wMk (X':WS) {cl:Bool} (hcl:X'.r.closed=cl) (h:Sat W0 (blk p 91 (wCells X')::srC X'.b X'.d X'.o cl none X'.s::DiskA X'.d X'.D::refC X'.rb X'.r::detC X'.det::pairV X'.vo X'.out::pairV X'.vw X'.out::F) w):Sat W0 (wL p X' F) w:=by
 subst hcl;exact h
theorem rSnap_cl (r:RSt):(rSnap r).closed=r.closed:=by unfold rSnap;split<;>rfl
theorem rRel_cl (r:RSt) (n:Int):(rRel r n).closed=r.closed:=by unfold rRel;split<;>rfl
theorem rWrite_cl (r:RSt) (l:List Chg):(rWrite r l).closed=r.closed:=by
 unfold rWrite
 split
 ·rfl
 ·split<;>rfl
structure OpV where
 kind:Int
 a:Int
 b:Int
 s:Bs
 t:Bs
 lv:Value
 l:List Chg
abbrev opC (o:OpV):List Value:=[.int .i64 o.kind,.int .i64 o.a,.int .i64 o.b,str o.s,str o.t,o.lv]
theorem step_snap {o:OpV} (hk:o.kind=7) (hE:ErrW W0) (hB:B≤16777216) (h:WOk X E B N) (hs:Sat W0 (wL p X F) w) :
 Calls Tryz.prog 38 #[idV p,.agg (opC o).toArray] w (StepR W0 p F E (B+1) N):=by
 obtain ⟨k,a,b,ss,tt,lv,l⟩:=o
 dsimp only at hk
 subst hk
 obtain ⟨e1,e2,hok⟩:=wSnap h
 refine enter Tryz.func38 rfl Tryz.ntmps38 Tryz.results38 rfl ?_
 refine gy ?_
 refine w_box (z:=[.int .i64 7,.int .i64 a,.int .i64 b,str ss,str tt,lv]) hs ?_
 clear hs
 intro w b3 hs
 refine gy ?_
 refine w_call (met (snapP_spec (by have:=h.ssn;omega) (hs.take2 (.there (.there .here)) (.there (.there .here)))) ?_)
 clear hs
 rintro _ w ⟨ve,rfl,hs⟩
 refine ⟨_,rfl,?_⟩
 rw [e2]
 refine gy ?_
 refine w_call (met (rsnap_spec (by have:=h.sn;omega) (hs.take (.there (.there (.there (.there (.there .here))))))) ?_)
 clear hs
 rintro _ w ⟨rfl,hs⟩
 refine ⟨_,rfl,?_⟩
 refine gy ?_
 refine w_call (met (tell_spec hE (hs.take (.there (.there (.there .here))))) ?_)
 clear hs
 rintro _ w ⟨rfl,hs⟩
 refine ⟨_,rfl,?_⟩
 rw [e1]
 refine gy ?_
 refine w_call (met (num_spec hs) ?_)
 clear hs
 rintro _ w ⟨rfl,hs⟩
 refine ⟨_,rfl,?_⟩
 refine gy ?_
 exact wq_ret rfl ⟨_,hok,rfl,Sat.wMk _ (rSnap_cl _) hs.to⟩
theorem step_rel {o:OpV} (hk:o.kind=10) (hE:ErrW W0) (h:WOk X E B N) (hs:Sat W0 (wL p X F) w) :
 Calls Tryz.prog 38 #[idV p,.agg (opC o).toArray] w (StepR W0 p F E B N):=by
 obtain ⟨k,a,b,ss,tt,lv,l⟩:=o
 dsimp only at hk
 subst hk
 obtain ⟨e1,hok⟩:=wRel h a
 refine enter Tryz.func38 rfl Tryz.ntmps38 Tryz.results38 rfl ?_
 refine gy ?_
 refine w_box (z:=[.int .i64 10,.int .i64 a,.int .i64 b,str ss,str tt,lv]) hs ?_
 clear hs
 intro w b3 hs
 refine gy ?_
 refine wc_tree [blk b3 84 [.int .i64 10,.int .i64 a,.int .i64 b,str ss,str tt,lv],blk p 91 (wCells X)] [3,5] (.q 0 (.q 1 (.q 2 (.s 3 (.q 4 (.s 5 (.l 6 (.q 7 .nil)))))))) hs (by kernel_rfl) ?_
 clear hs
 intro w hs
 refine gyt ?_
 refine w_call (met (relP_spec (n:=a) (hs.take2 (.there (.there .here)) (.there (.there .here)))) ?_)
 clear hs
 rintro _ w ⟨ve,rfl,hs⟩
 refine ⟨_,rfl,?_⟩
 refine gy ?_
 refine wq_wt hs.to ?_
 refine gyt ?_
 refine gy ?_
 refine wc_tree [blk b3 84 [.int .i64 10,.int .i64 a,.int .i64 b,str ss,str tt,lv],blk p 91 (wCells X)] [3,5] (.q 0 (.q 1 (.q 2 (.s 3 (.q 4 (.s 5 (.l 6 (.q 7 .nil)))))))) hs (by kernel_rfl) ?_
 clear hs
 intro w hs
 refine gyt ?_
 refine w_call (met (rrel_spec (n:=a) (hs.take (.there (.there (.there (.there (.there .here))))))) ?_)
 clear hs
 rintro _ w ⟨rfl,hs⟩
 refine ⟨_,rfl,?_⟩
 refine gy ?_
 refine wq_wt hs.to ?_
 refine gyt ?_
 refine gy ?_
 refine w_call (met (tell_spec hE (hs.take (.there (.there (.there .here))))) ?_)
 clear hs
 rintro _ w ⟨rfl,hs⟩
 refine ⟨_,rfl,?_⟩
 rw [e1]
 refine gy ?_
 refine w_call (met (num_spec hs) ?_)
 clear hs
 rintro _ w ⟨rfl,hs⟩
 refine ⟨_,rfl,?_⟩
 refine gy ?_
 exact wq_ret rfl ⟨_,hok,rfl,Sat.wMk _ (rRel_cl _ _) hs.to⟩
theorem step_close {o:OpV} (hk:o.kind=5) (hE:ErrW W0) (h:WOk X E B N) (hs:Sat W0 (wL p X F) w) :
 Calls Tryz.prog 38 #[idV p,.agg (opC o).toArray] w (StepR W0 p F E B N):=by
 obtain ⟨k,a,b,ss,tt,lv,l⟩:=o
 dsimp only at hk
 subst hk
 obtain ⟨e1,hok⟩:=wClose h
 refine enter Tryz.func38 rfl Tryz.ntmps38 Tryz.results38 rfl ?_
 refine gy ?_
 refine w_box (z:=[.int .i64 5,.int .i64 a,.int .i64 b,str ss,str tt,lv]) hs ?_
 clear hs
 intro w b3 hs
 refine gy ?_
 refine w_call (met (closeP_spec (hs.take2 (.there (.there .here)) (.there (.there .here)))) ?_)
 clear hs
 rintro _ w ⟨ve,rfl,hs⟩
 refine ⟨_,rfl,?_⟩
 refine gy ?_
 refine w_call (met (rclose_spec (hs.take (.there (.there (.there (.there (.there .here))))))) ?_)
 clear hs
 rintro _ w ⟨rfl,hs⟩
 refine ⟨_,rfl,?_⟩
 refine gy ?_
 refine w_call (met (tell_spec hE (hs.take (.there (.there (.there .here))))) ?_)
 clear hs
 rintro _ w ⟨rfl,hs⟩
 refine ⟨_,rfl,?_⟩
 have e1':(numE (closeP X.r.closed none X.s X.D).1:Int)=if X.r.closed=true then 6 else 0:=by rw [e1];split<;>rfl
 rw [e1']
 refine gy ?_
 refine w_call (met (num_spec hs) ?_)
 clear hs
 rintro _ w ⟨rfl,hs⟩
 refine ⟨_,rfl,?_⟩
 have hrfl:(if X.r.closed=true then (6:Int) else 0)=(if X.r.closed=true then 6 else 0):=rfl
 refine gy ?_
 exact wq_ret rfl ⟨_,hok,rfl,hs.to⟩
theorem step_compact {o:OpV} (hk:o.kind=11) (hW:PowW W0) (hE:ErrW W0) (h:WOk X E B N) (hEE:E≤1048576) (hB:B≤16777216) (hN:N+8388608≤4611686018427387904) (hs:Sat W0 (wL p X F) w) :
 Calls Tryz.prog 38 #[idV p,.agg (opC o).toArray] w (StepR W0 p F E (B+1) (N+8388608)):=by
 obtain ⟨k,a,b,ss,tt,lv,l⟩:=o
 dsimp only at hk
 subst hk
 refine enter Tryz.func38 rfl Tryz.ntmps38 Tryz.results38 rfl ?_
 refine gy ?_
 refine w_box (z:=[.int .i64 11,.int .i64 a,.int .i64 b,str ss,str tt,lv]) hs ?_
 clear hs
 intro w b3 hs
 refine gy ?_
 have hs:Sat W0 (blk b3 84 [.int .i64 11,.int .i64 a,.int .i64 b,str ss,str tt,lv]::blk p 91 (wCells X)::srC X.b X.d X.o X.r.closed none X.s::DiskA X.d X.D::refC X.rb X.r::detC X.det::pairV X.vo X.out::pairV X.vw X.out::F) w:=hs
 cases hc:X.r.closed with
 | true=>
  rw [hc] at hs
  refine w_call (met (compP_refused (e:=(none,6)) rfl (hs.take2 (.there (.there .here)) (.there (.there .here)))) ?_)
  clear hs
  rintro _ w ⟨ve,rfl,hs⟩
  refine ⟨_,rfl,?_⟩
  refine gy ?_
  refine w_call (met (tell_spec hE (hs.take (.there (.there .here)))) ?_)
  clear hs
  rintro _ w ⟨rfl,hs⟩
  refine ⟨_,rfl,?_⟩
  have hn:¬ ((numE (some (none,6)):Nat):Int)=0:=by simp [numE]
  have hn2:((numE (some (none,6)):Nat):Int)=6:=rfl
  refine gy ?_
  refine w_call (met (num_spec hs) ?_)
  clear hs
  rintro _ w ⟨rfl,hs⟩
  refine ⟨_,rfl,?_⟩
  refine gy ?_
  refine w_call (met (num_spec hs) ?_)
  clear hs
  rintro _ w ⟨rfl,hs⟩
  refine ⟨_,rfl,?_⟩
  obtain ⟨vp,vs,us,hu,hs⟩:=(hs.take (.there (.there (.there (.there (.there .here)))))).rfOpen
  rw [hc] at hs
  refine gy ?_
  refine wq_ret rfl ⟨X,h.more (Nat.le_refl _) (by omega) (by omega),rfl,?_⟩
  have h2:=Sat.rfClose (rb:=X.rb) (r:=X.r) hu (by rw [hc];exact hs)
  exact Sat.wMk _ hc h2.to
 | false=>
  obtain ⟨s',D',e1,-,hok⟩:=wCompact h hc hEE hB hN
  rw [hc] at hs
  refine w_call (met (compP_spec rfl e1 hW (hs.take2 (.there (.there .here)) (.there (.there .here)))) ?_)
  clear hs
  rintro _ w ⟨ve,rfl,hs⟩
  refine ⟨_,rfl,?_⟩
  have hs:Sat W0 (srC X.b X.d X.o false none s'::DiskA X.d D'::errC ve none::blk b3 84 [.int .i64 11,.int .i64 a,.int .i64 b,str ss,str tt,lv]::blk p 91 (wCells X)::refC X.rb X.r::detC X.det::pairV X.vo X.out::pairV X.vw X.out::F) w:=hs
  refine gy ?_
  refine w_call (met (tell_spec hE (hs.take (.there (.there .here)))) ?_)
  clear hs
  rintro _ w ⟨rfl,hs⟩
  refine ⟨_,rfl,?_⟩
  have hn:((numE none:Nat):Int)=0:=rfl
  refine gy ?_
  refine w_call (met (num_spec hs) ?_)
  clear hs
  rintro _ w ⟨rfl,hs⟩
  refine ⟨_,rfl,?_⟩
  obtain ⟨vp,vs,us,hu,hs⟩:=(hs.take (.there (.there (.there (.there (.there .here)))))).rfOpen
  rw [hc] at hs
  refine gy ?_
  refine wq_ret rfl ⟨_,hok,rfl,?_⟩
  have h2:=Sat.rfClose (rb:=X.rb) (r:=X.r) hu (by rw [hc];exact hs)
  exact Sat.wMk _ hc h2.to
end
section
open Go.Proofs.YtecibefflhomdaaGreatDoor.Pure (PDisk Chg bltB lookP betweenP inLo inHi)
attribute [local irreducible] IntKind.wrap
section
variable {ops:Array Oper} {Q:Exit→Act→World→Prop} {S:World→Prop} {K:List Nat} {n:Nat} {ds:Md} {e:Env} {w w':World} {bb:Bool} {t:OT} {rest:List Oper}
variable {op:Op} {ty:TypeId} {pos:String} {af:Array Edge} {d i:Nat} {v u:Value}
attribute [local semireducible] WL WC WQ WT
theorem wt_bin {bo:BinOp} {tt t2:TypeId} {x y:Operand} {vx vy z:Value} (ho:ops[i]?=some ⟨some d,.binOp bo tt x y t2,ty,pos,af,none⟩) (hx:ev e x=some vx) (hy:ev e y=some vy) (hg:∀ w,(eqGuard bo tt x y vx vy).run Tryz.prog w=.ok () w) (hr:∀ w,(Go.binOp bo tt vx vy).run Tryz.prog w=.ok z w) (hd:Nat.blt d n=true)
 (k:WT ops Q S K n ds bb t ((d,z)::e) w):WT ops Q S K n ds bb (.q i t) e w:=
 wt_y ho (fun a w' ha=>by simp [execOp,ha.ev hx,ha.ev hy,hg,hr]) hd k
theorem rem2_run (X:Int) (w:World):(Go.binOp .rem 3 (.int .i64 X) (.int .i64 2)).run Tryz.prog w=.ok (.int .i64 (X.tmod 2)) w:=by
 simp [Go.binOp,Op.intDiv]
theorem eqi_str (k:Nat) (a:Bs) (w:World):(Op.equalIn (k+1) 9 (str a) (str a)).run Tryz.prog w=.ok true w:=by
 unfold Op.equalIn
 simp only [Sem.run_bind,und_of Tryz.underlying9,Result.andThen_ok]
 have:((⟨a.toArray⟩:ByteArray)==⟨a.toArray⟩)=true:=by rw [ba_beq];simp
 rw [this];rfl
theorem part_of {t off:Nat} {xs:Array Value} {v:Value} (hT:lk tAgg t=some false) (hx:xs[off]?=some v) (w:World):(part t xs off).run Tryz.prog w=.ok v w:=by
 unfold part
 simp [agg_of hT,hx]
theorem eq_chg (x:Chg) (w:World):(Op.equal 100 (.agg (chgC x).toArray) (.agg (chgC x).toArray)).run Tryz.prog w=.ok true w:=by
 have hf:Tryz.prog.fieldsOf 100=#[{ name := "Key",type:=9,offset:=0,embedded:=false,tag := "",pkgPath := "",byteOffset:=0 },{ name := "Value",type:=9,offset:=1,embedded:=false,tag := "",pkgPath := "",byteOffset:=16 },{ name := "Delete",type:=4,offset:=2,embedded:=false,tag := "",pkgPath := "",byteOffset:=32 }]:=by
  unfold Program.fieldsOf;rw [Tryz.underlying100]
 unfold Op.equal
 refine (run_equalIn_struct w 9999 100 _ _ (by rw [hf];exact Tryz.underlying100) (by kernel_rfl)).trans ?_
 rw [hf]
 have p0:(part 9 (chgC x).toArray 0).run Tryz.prog w=.ok (str x.key) w:=part_of rfl rfl w
 have p1:(part 9 (chgC x).toArray 1).run Tryz.prog w=.ok (str x.val) w:=part_of rfl rfl w
 have p2:(part 4 (chgC x).toArray 2).run Tryz.prog w=.ok (.bool x.del) w:=part_of rfl rfl w
 have q0:(Op.equalIn 9999 9 (str x.key) (str x.key)).run Tryz.prog w=.ok true w:=eqi_str 9998 x.key w
 have q1:(Op.equalIn 9999 9 (str x.val) (str x.val)).run Tryz.prog w=.ok true w:=eqi_str 9998 x.val w
 have q2:(Op.equalIn 9999 4 (.bool x.del) (.bool x.del)).run Tryz.prog w=.ok true w:=by
  have:=eqi_bool 9998 x.del x.del w
  rw [beq_self_eq_true] at this;exact this
 have s0:("Key" : String) ≠ "_" := by decide
 have s1:("Value" : String) ≠ "_" := by decide
 have s2:("Delete" : String) ≠ "_" := by decide
 simp only [Op.eqFields,Sem.run_bind,p0,p1,p2,q0,q1,q2,s0,s1,s2,ne_eq,not_false_eq_true,if_true,Result.andThen_ok,Bool.not_true,Bool.false_eq_true,if_false]
 rfl
theorem neq_chg (x:Chg) (w:World):(Go.binOp .neq 100 (.agg (chgC x).toArray) (.agg (chgC x).toArray)).run Tryz.prog w=.ok (.bool false) w:=by
 simp [Go.binOp,eq_chg]
theorem guard_chg (x:Chg) (a b:Operand) (w:World):(eqGuard .neq 100 a b (.agg (chgC x).toArray) (.agg (chgC x).toArray)).run Tryz.prog w=.ok () w:=by
 have:Tryz.prog.eqGuardType Tryz.prog.depth 100=false:=by kernel_rfl
 simp [eqGuard,this]
end
variable {W0 w:World} {F l:List HProp} {p k:Nat} {X:WS} {E B N:Nat} {v:Value} {rows:List (List Value)}
def rdC (b o:Nat) (cs:List Value):HProp:=fun h=>∃ c E fr,h b=some (true,.cells c E fr)∧∀ j u,cs[j]?=some u→c[o+j]?=some u
theorem Sat.rdCell {b o j:Nat} {cs:List Value} {u:Value} (h:Sat W0 (rdC b o cs::l) w) (hu:cs[j]?=some u):w.cell? ⟨b,o+j,none⟩=some u:=by
 obtain ⟨_,_,_,_,hp,h1,_,k⟩:=h
 obtain ⟨x1,x2,_,l1,_,⟨c,E,fr,hb,hc⟩,_⟩:=k
 have:=h1 _ _ (l1 _ _ hb)
 unfold World.cell?
 rw [this]
 exact hc j u hu
theorem RdW.chunk (h:RdW W0 k v rows) (hne:rows≠[]) (hk:0<k):∃ b o c,v=.slice (some ⟨b,o,none⟩) rows.length c∧∀ {l:List HProp} {w:World},Sat W0 l w→Sat W0 (rdC b o rows.flatten::l) w:=by
 obtain ⟨b,o,c,h1,h2⟩:=h.2.2 hne
 refine ⟨b,o,c,h1,fun {l w} hs=>?_⟩
 have hlen:0<rows.flatten.length:=by
  rw [flat_len h.2.1]
  have:0<rows.length:=by cases rows with|nil=>exact absurd rfl hne|cons _ _=>simp
  exact Nat.mul_pos this hk
 have h3:=h2 0 _ (List.getElem?_eq_getElem hlen)
 unfold World.cell? at h3
 cases hb:W0.heap[b]? with
 | none=>rw [show W0.heap[(⟨b,o+0,none⟩:Addr).block]?=_ from hb] at h3;cases h3
 | some ob0=>
  rw [show W0.heap[(⟨b,o+0,none⟩:Addr).block]?=_ from hb] at h3
  cases ob0 with
  | cells cc EE fr=>
   have h4:=hs.old hb
   refine h4.head fun hp k=>⟨cc,EE,fr,k,fun j u hu=>?_⟩
   have h5:=h2 j u hu
   unfold World.cell? at h5
   rw [show W0.heap[(⟨b,o+j,none⟩:Addr).block]?=_ from hb] at h5
   exact h5
  | _=>cases h3
theorem srcRdC {b o c tx e' m:Nat} {news:List Value} (hk:lk tSlice tx=some e') (hl:news.length=m*k) (h1:∀ u∈news,isOne u=true):SrcL k tx (.slice (some ⟨b,o,none⟩) m c) m news (rdC b o news::l):=fun _ w h=>
 Src.ofSlice w (kSlice_und hk) _ _ _ _ hl (fun j u hu=>by rw [add_eq];exact h.rdCell hu) (fun u hu=>one_ok (h1 u hu))
theorem srcRdW {tx e':Nat} (hk:lk tSlice tx=some e') (h:RdW W0 k v rows) (hk0:0<k) (h1:∀ u∈rows.flatten,isOne u=true) (hs:Sat W0 l w):∃ A:HProp,Sat W0 (A::l) w∧∀ r,SrcL k tx v rows.length rows.flatten (A::r):=by
 by_cases hne:rows=[]
 ·subst hne
  obtain ⟨a,c,rfl⟩:=h.1
  refine ⟨fun _=>True,hs.trueC,fun r=>?_⟩
  cases a with
  | none=>exact srcNil hk
  | some ad=>exact fun _ w _=>Src.ofSlice w (kSlice_und hk) _ _ _ _ (by simp) (fun j u hu=>by simp at hu) (fun u hu=>by simp at hu)
 ·obtain ⟨b,o,c,rfl,h2⟩:=h.chunk hne hk0
  exact ⟨_,h2 hs,fun r=>srcRdC hk (flat_len h.2.1) h1⟩
theorem chgs_one (l:List Chg):∀ u∈(chgsC l).flatten,isOne u=true:=fun u hu=>by
 obtain ⟨r,hr,hu⟩:=List.mem_flatten.1 hu
 obtain ⟨c,_,rfl⟩:=List.mem_map.1 hr
 simp [chgC] at hu
 rcases hu with rfl|rfl|rfl<;>rfl
theorem chgs_k (l:List Chg):∀ r∈chgsC l,r.length=3:=fun r hr=>by
 obtain ⟨c,_,rfl⟩:=List.mem_map.1 hr
 rfl
def mineR:List Value:=[str [109,105,110,101],str [109,105,110,101],.bool false]
def mineRows (l:List Chg) (i:Nat):List (List Value):=List.replicate i mineR++(chgsC l).drop i
theorem mineRows_k (l:List Chg) (i:Nat):∀ r∈mineRows l i,r.length=3:=fun r hr=>by
 rcases List.mem_append.1 hr with h|h
 ·rw [(List.mem_replicate.1 h).2];rfl
 ·exact chgs_k l r (List.mem_of_mem_drop h)
theorem mineRows_len {l:List Chg} {i:Nat} (h:i≤l.length):(mineRows l i).length=l.length:=by simp [mineRows];omega
theorem mineRows_at {l:List Chg} {i:Nat} {c:Chg} (h:l[i]?=some c):(mineRows l i)[i]?=some (chgC c):=by
 unfold mineRows
 rw [List.getElem?_append_right (by simp),List.length_replicate,Nat.sub_self,List.getElem?_drop,Nat.add_zero]
 exact chgsC_at h
theorem mineRows_set {l:List Chg} {i:Nat} (h:i<l.length):(mineRows l i).set i mineR=mineRows l (i+1):=by
 unfold mineRows
 rw [List.set_append_right _ _ (by simp),List.length_replicate,Nat.sub_self]
 have hd:(chgsC l).drop i=(chgsC l)[i]'(by simpa using h)::(chgsC l).drop (i+1):=List.drop_eq_getElem_cons (by simpa using h)
 rw [hd,List.set_cons_zero,List.replicate_succ']
 simp
theorem mineRows_0 (l:List Chg):mineRows l 0=chgsC l:=by simp [mineRows]
theorem Seg.appR {cs r:List Value}:∀ {vs:List Value} {o:Nat},Seg cs o vs→Seg (cs++r) o vs
 | [],_,_=>trivial
 | _::_,_,h=>⟨by rw [List.getElem?_append_left (List.getElem?_eq_some_iff.1 h.1).1];exact h.1,Seg.appR h.2⟩
theorem splice_app {A r x:List Value} {o:Nat} (h:o+x.length≤A.length):splice (A++r) o x=splice A o x++r:=by
 unfold splice
 rw [List.take_append_of_le_length (by omega),List.drop_append_of_le_length (by omega)]
 simp
theorem rem_guard (a b:Operand) (x y:Value) (w:World):(eqGuard .rem 3 a b x y).run Tryz.prog w=.ok () w:=by simp [eqGuard]
theorem step_write {o:OpV} (hk:o.kind=1) (hW:PowW W0) (hE:ErrW W0) (hl:RdW W0 3 o.lv (chgsC o.l)) (h:WOk X E B N) (hEE:E+o.l.length≤1048576) (hB:B<16777216) (hN:N+8388608≤4611686018427387904) (hs:Sat W0 (wL p X F) w) :
 Calls Tryz.prog 38 #[idV p,.agg (opC o).toArray] w (StepR W0 p F (E+o.l.length) (B+1) (N+8388608)):=by
 obtain ⟨kk,a,b,ss,tt,lv,l⟩:=o
 dsimp only at hk hl hEE
 subst hk
 obtain ⟨al,cl,rfl⟩:=hl.chgLen
 have hs:Sat W0 (blk p 91 (wCells X)::srC X.b X.d X.o X.r.closed none X.s::DiskA X.d X.D::refC X.rb X.r::detC X.det::pairV X.vo X.out::pairV X.vw X.out::F) w:=hs
 refine enter Tryz.func38 rfl Tryz.ntmps38 Tryz.results38 rfl ?_
 refine gy ?_
 refine w_box (z:=[.int .i64 1,.int .i64 a,.int .i64 b,str ss,str tt,.slice al l.length cl]) hs ?_
 clear hs
 intro w b3 hs
 refine gy ?_
 have hs:=Sat.ownNil (k:=3) (E:=100) hs
 obtain ⟨A,hs2,hsrc⟩:=srcRdW (tx:=73) rfl hl (by decide) (chgs_one l) hs
 clear hs
 rw [chgsC_length] at hsrc
 refine wl_append (x:=.tmp 40) (y:=.tmp 42) (len:=0) (m:=l.length) (cs:=[]) (z:=[.string ⟨#[]⟩,.string ⟨#[]⟩,.bool false]) hs2 rfl rfl (.there .here) (hsrc _) rfl rfl rfl rfl rfl (by simp only [maxLen];omega) (by omega) rfl ?_
 clear hs2 hsrc
 intro v5 w hs
 rw [Nat.zero_add,List.nil_append] at hs
 have hs:Sat W0 (ownS 3 v5 100 (chgsC l).length (chgsC l).flatten::blk b3 84 [.int .i64 1,.int .i64 a,.int .i64 b,str ss,str tt,.slice al l.length cl]::blk p 91 (wCells X)::srC X.b X.d X.o X.r.closed none X.s::DiskA X.d X.D::refC X.rb X.r::detC X.det::pairV X.vo X.out::pairV X.vw X.out::F) w:=by
  rw [chgsC_length];exact hs.to
 have hrd:=Sat.rdA_own (chgs_k l) hs
 obtain ⟨x,s',D',D'',er,e1,e2,e3,hok⟩:=wWrite h l (decide (a.tmod 2≠0)) hEE hB hN
 refine gy ?_
 refine wc_tree [blk b3 84 [.int .i64 1,.int .i64 a,.int .i64 b,str ss,str tt,.slice al l.length cl],blk p 91 (wCells X)] [3,6] (.q 0 (.q 1 (.q 2 (.s 3 (.q 4 (.q 5 (.s 6 (.q 7 (.q 8 (.l 9 (.q 10 .nil))))))))))) hs (by kernel_rfl) ?_
 clear hs
 intro w hs
 refine gyt ?_
 refine wt_bin (z:=.int .i64 (a.tmod 2)) rfl rfl rfl (rem_guard _ _ _ _) (rem2_run a) rfl ?_
 refine gyt ?_
 refine w_call (met (writeP_spec (x:=x) e1 hrd (by omega) hW (hs.take3 (.there (.there (.there .here))) (.there (.there (.there .here))) .here)) ?_)
 clear hs
 rintro _ w ⟨ve,rfl,hs⟩
 refine ⟨_,rfl,?_⟩
 rw [e3] at hs
 refine gy ?_
 refine wq_wt hs.to ?_
 refine gyt ?_
 refine gy ?_
 refine w_call (met (theirs_spec hl (by omega) hs) ?_)
 clear hs
 rintro _ w ⟨u,rfl,hs⟩
 refine ⟨_,rfl,?_⟩
 have hs:=hs.cgShare
 refine gy ?_
 refine w_call (met (rwrite_spec (by have:=h.plen;omega) (hs.take2 (.there (.there (.there (.there (.there (.there (.there .here))))))) .here)) ?_)
 clear hs
 rintro _ w ⟨rfl,hs⟩
 refine ⟨_,rfl,?_⟩
 refine gy ?_
 refine w_call (met (tell_spec hE (hs.take (.there (.there (.there .here))))) ?_)
 clear hs
 rintro _ w ⟨rfl,hs⟩
 refine ⟨_,rfl,?_⟩
 rw [e2]
 obtain ⟨a5,c5,rfl,-⟩:=(hs.take (.there (.there (.there (.there .here))))).ownShape
 rw [chgsC_length] at hs ⊢
 have hs:Sat W0 (ownS 3 (.slice a5 l.length c5) 100 l.length (mineRows l 0).flatten::blk b3 84 [.int .i64 1,.int .i64 a,.int .i64 b,str ss,str tt,.slice al l.length cl]::blk p 91 (wCells X)::srC X.b X.d X.o X.r.closed none s'::DiskA X.d D''::refC X.rb (rWrite X.r l)::detC X.det::pairV X.vo X.out::pairV X.vw X.out::F) w:=by
  rw [mineRows_0];exact hs.to
 refine gy ?_
 refine wc_loop (α:=Nat) (fun i=>[(3,idV b3),(5,.slice a5 l.length c5),(8,.int .i64 (rWriteN X.r l:Int)),(9,.int .i64 (rWriteN X.r l:Int)),(10,.int .i64 (i:Int))])
  (fun i w=>i≤l.length∧Sat W0 (ownS 3 (.slice a5 l.length c5) 100 l.length (mineRows l i).flatten::blk b3 84 [.int .i64 1,.int .i64 a,.int .i64 b,str ss,str tt,.slice al l.length cl]::blk p 91 (wCells X)::srC X.b X.d X.o X.r.closed none s'::DiskA X.d D''::refC X.rb (rWrite X.r l)::detC X.det::pairV X.vo X.out::pairV X.vw X.out::F) w) (fun i=>l.length-i) 0 ⟨rfl,rfl,rfl,rfl,rfl,trivial⟩ ⟨Nat.zero_le _,hs⟩ ?_
 clear hs
 rintro i w ⟨hi,hs⟩
 by_cases hlt:i<l.length
 ·have hlt':(i:Int)<(l.length:Int):=by omega
  obtain ⟨bw,ow,c,hg,hd,rfl,hcW,-⟩:=hl.chg hlt
  obtain ⟨b5,cap,rest,hv,q1,q2,q3,h3⟩:=hs.ownPos (by omega)
  clear hs
  obtain ⟨rfl,_,rfl⟩:=Value.slice.inj hv
  rename_i hs
  have hfl:(mineRows l i).flatten.length=l.length*3:=by rw [flat_len (mineRows_k l i),mineRows_len hi]
  have hseg:Seg ((mineRows l i).flatten++rest) (0+i*3) (chgC c):=by
   rw [Nat.zero_add];exact (rows_seg (mineRows_k l i) (mineRows_at hg)).appR
  have hs:=h3
  clear h3
  refine gy ?_
  refine wc_tree [blk b5 100 ((mineRows l i).flatten++rest),blk b3 84 [.int .i64 1,.int .i64 a,.int .i64 b,str ss,str tt,.slice (some ⟨bw,ow,none⟩) l.length cl]] [3,5,8] (.q 0 (.q 1 (.q 2 (.s 3 (.q 4 (.s 5 (.q 6 (.q 7 (.s 8 (.q 9 .nil)))))))))) hs (by kernel_rfl) ?_
  clear hs
  intro w hs
  refine gyt ?_
  refine wt_ldN (chgC c) rfl rfl rfl rfl .here hseg rfl ?_
  refine gyt ?_
  refine wt_ldoN (chgC c) rfl rfl rfl rfl hcW rfl ?_
  refine wt_bin (z:=.bool false) rfl rfl rfl (guard_chg c _ _) (neq_chg c) rfl ?_
  refine gyt ?_
  refine gy ?_
  refine w_build mineR ?_
  refine gy ?_
  have e7:splice ((mineRows l i).flatten++rest) (0+i*3) mineR=(mineRows l (i+1)).flatten++rest:=by
   rw [Nat.zero_add,splice_app (by rw [hfl];show i*3+3≤_;omega),splice_rows (k:=3) rfl _ _ (mineRows_k l i) (by rw [mineRows_len hi];exact hlt),mineRows_set hlt]
  refine wl_stN (o:=0+i*3) hs rfl rfl rfl rfl (by rw [e7];exact Repl.here) (by rw [List.length_append,hfl];show 0+i*3+3≤_;omega) ?_
  clear hs
  intro w hs
  have hs:=Sat.ownClose (k:=3) (len:=l.length) hs q1 q2 q3 (by rw [flat_len (mineRows_k l (i+1)),mineRows_len hlt]) (fun y hy=>by
   obtain ⟨r,hr,hy⟩:=List.mem_flatten.1 hy
   rcases List.mem_append.1 hr with h4|h4
   ·rw [(List.mem_replicate.1 h4).2] at hy
    simp [mineR] at hy
    rcases hy with rfl|rfl<;>rfl
   ·exact chgs_one l y (List.mem_flatten.2 ⟨r,List.mem_of_mem_drop h4,hy⟩))
  refine gy ?_
  exact wq_round (i+1) ⟨rfl,rfl,rfl,rfl,rfl,trivial⟩ ⟨hlt,hs⟩ (by show l.length-(i+1)<l.length-i;omega)
 ·have hie:i=l.length:=by omega
  subst hie
  have hlt':¬ (l.length:Int)<(l.length:Int):=by omega
  refine gy ?_
  refine w_call (met (num_spec hs) ?_)
  clear hs
  rintro _ w ⟨rfl,hs⟩
  refine ⟨_,rfl,?_⟩
  refine gy ?_
  exact wq_ret rfl ⟨_,hok,rfl,Sat.wMk _ (rWrite_cl _ _) hs.to⟩
end
end Go.Proofs.YtecibefflhomdaaGreatDoor
