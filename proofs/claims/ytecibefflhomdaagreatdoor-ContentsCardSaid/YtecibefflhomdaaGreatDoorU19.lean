/-
  Part 19: WALKS package rows; THE MIRROR, PART 2 tables that are written and opened; THE MIRROR, PART 3 tables written to the disk; THE MIRROR, PART 4 tables opened; WALKS package levels.
-/
import Derived.Test.YtecibefflhomdaaGreatDoorU16
import Derived.Test.YtecibefflhomdaaGreatDoorU18
set_option maxHeartbeats 8000000
set_option maxRecDepth 100000
set_option linter.all false
namespace Go.Proofs.YtecibefflhomdaaGreatDoor
open Go
section
open Go.Proofs.YtecibefflhomdaaGreatDoor.Pure (PDisk Ent Rd openB less bltB searchL)
attribute [local irreducible] IntKind.wrap
variable {W0 w:World} {F:List HProp} {v:Value} {d m p:Nat} {T:Tab} {D D':PDisk} {M:List Ent} {nx:Nx}
def nxC (d m:Nat) (v:Value):Nx→HProp
 | .one it=>itC d m v it
 | .mg g=>mgC d m v g
theorem nxNext_spec {x:Except Err (Option Ent×Nx)} (h:nextN M D nx=some (x,D')) (hs:Sat W0 (nxC d m v nx::memC m M::DiskA d D::F) w) (hmx:M.length≤1099511627776) :
 ∃ f q,v=.func (.func f) #[] q∧lk tFun f=some ()∧Calls Tryz.prog f (#[].toList++[]++q.toList).toArray w (nextR W0 (nxC d m v) m d M x D' F):=by
 cases nx with
 | one it=>
  unfold nextN at h
  simp only [Option.map_eq_some_iff,Prod.mk.injEq] at h
  obtain ⟨⟨y,D2⟩,hn,rfl,rfl⟩:=h
  obtain ⟨f,q,rfl,hf,hc⟩:=itNext_spec hn hs hmx
  refine ⟨f,q,rfl,hf,hc.mono ?_⟩
  rintro _ w' ⟨ve,rfl,hs⟩
  refine ⟨ve,?_,?_⟩
  ·cases y with
   | error e=>rfl
   | ok z=>obtain ⟨o,it'⟩:=z;cases o<;>rfl
  ·cases y with
   | error e=>exact hs
   | ok z=>obtain ⟨o,it'⟩:=z;exact hs
 | mg g=>
  unfold nextN at h
  simp only [Option.map_eq_some_iff,Prod.mk.injEq] at h
  obtain ⟨⟨y,D2⟩,hn,rfl,rfl⟩:=h
  obtain ⟨hg,z,rfl,hs2⟩:=Sat.mgOpen hs
  refine ⟨214,_,rfl,rfl,(mgNext_spec hn hg hmx hs2).mono ?_⟩
  rintro _ w' ⟨ve,rfl,hs⟩
  refine ⟨ve,?_,?_⟩
  ·cases y with
   | error e=>rfl
   | ok z=>obtain ⟨o,it'⟩:=z;cases o<;>rfl
  ·cases y with
   | error e=>exact hs
   | ok z=>obtain ⟨o,it'⟩:=z;exact hs
theorem each_spec {f:Nat} {q:Array Value} {eb:Nat} (hs:Sat W0 F w) :
 Calls Tryz.prog 183 #[.func (.func f) #[] q,idV eb] w fun y w'=>∃ bn be,y=.returned (.func (.func 211) #[] #[idV bn,idV be])∧Sat W0 (blk bn 288 [.func (.func f) #[] q]::blk be 312 [idV eb]::F) w':=by
 refine enter Tryz.func183 rfl Tryz.ntmps183 Tryz.results183 rfl ?_
 refine go ?_
 refine w_box hs fun w bn hs=>?_
 refine w_box hs fun w be hs=>?_
 refine go ?_
 exact wq_ret rfl ⟨_,_,rfl,hs.to⟩
theorem Sat.swapApp {X Y:List HProp} (h:Sat W0 (X++(Y++F)) w):Sat W0 (Y++(X++F)) w:=h.imp fun hp k=>sepL_star (sepL_tail (fun _=>sepL_star) (sepL_swap (sepL_tail (fun _=>sepL_unstar) (sepL_unstar k))))
theorem wc_each {Q:Exit→Act→World→Prop} {n:Nat} {ds:Md} {e:Env} {g:Operand} {pt:Tmp} {asg bd:Code} {σ:Type} {body:σ→Ent→Option (σ×Bool)} {C:σ→List HProp} {ff id:Nat} {s0 s1:σ} {oe:Option Err} {bn be eb:Nat}
 (hr:ds.round=none) (hpt:Nat.blt pt n=true) (hg:ev e g=some (.func (.func 211) #[] #[idV bn,idV be])) (h:eachN M body ff nx D s0=some (s1,oe,D')) (hmx:M.length≤1099511627776)
 (hs:Sat W0 (blk bn 288 [v]::blk be 312 [idV eb]::blk eb 41 [.nilIface]::nxC d m v nx::memC m M::DiskA d D::(C s0++F)) w)
 (kb:∀ s ent s' c L rc G w,body s ent=some (s',c)→rc.state=.ready→Sat W0 (ob false L (.loop rc)::(C s++G)) w →
   WC asg (BegQ L bd fun y w'=>(c=true∧y=.returned (.bool true)∧Sat W0 (ob false L (.loop { rc with state:=.ready,pending:=none })::(C s'++G)) w') ∨
    (c=false∧y=.returned (.bool false)∧Sat W0 (ob false L (.loop { rc with state:=.done,pending:=some (.exit id) })::(C s'++G)) w')) n ⟨some L,[]⟩ ((pt,.agg (entC ent).toArray)::e) w)
 (ke:∀ x Dk ve w,x=.normal∨x=.exit id→Sat W0 (ob false Dk (.deferred (some []))::blk eb 41 [ve]::errC ve oe::memC m M::DiskA d D'::(C s1++F)) w→WQ Q x n ⟨none,markOf Dk::ds.ds⟩ e w) :
 WC (.rangeFunc g #[pt] asg bd) Q n ds e w:=by
 refine wc_range (uu:=()) hr hs hg rfl fun fn tm L Dk w1 hsz hget hs=>?_
 refine enter (args:=[.func (.yield L) #[] #[],idV bn,idV be]) Tryz.func211 rfl Tryz.ntmps211 Tryz.results211 rfl ?_
 generalize hrc:({ state:=.ready,pending:=none,fn:=fn,tmps:=tm,params:=#[pt],assign:=asg,body:=bd,defers:=Dk }:Loop)=rc at *
 refine go ?_
 refine wc_loop (α:=σ×Nx×PDisk×Nat) (fun z=>[(0,.func (.yield L) #[] #[]),(1,idV bn),(2,idV be)])
  (fun z w=>eachN M body z.2.2.2 z.2.1 z.2.2.1 z.1=some (s1,oe,D')∧Sat W0 (ob false L (.loop rc)::ob false Dk (.deferred (some []))::blk bn 288 [v]::blk be 312 [idV eb]::blk eb 41 [.nilIface]::nxC d m v z.2.1::memC m M::DiskA d z.2.2.1::(C z.1++F)) w) (fun z=>z.2.2.2) (s0,nx,D,ff) ⟨rfl,rfl,rfl,trivial⟩ ⟨h,hs⟩ ?_
 clear hs h
 rintro ⟨s,nx,D,f⟩ w ⟨h,hs⟩
 dsimp only at h hs ⊢
 cases f with
 | zero=>cases h
 | succ f=>
  unfold eachN at h
  cases hn:nextN M D nx with
  | none=>rw [hn] at h;cases h
  | some y=>
   obtain ⟨y,D2⟩:=y
   rw [hn] at h
   have hs:=hs.to (a:=nxC d m v nx::memC m M::DiskA d D::ob false L (.loop rc)::ob false Dk (.deferred (some []))::blk bn 288 [v]::blk be 312 [idV eb]::blk eb 41 [.nilIface]::(C s++F))
   obtain ⟨cf,cq,rfl,hcf,hcall⟩:=nxNext_spec hn hs hmx
   refine go ?_
   refine wl_callv rfl hcf rfl rfl (hcall.mono ?_)
   rintro _ w ⟨ve,rfl,hs⟩
   refine ⟨_,rfl,go ?_⟩
   refine w_alloc hs fun w b4 hs=>?_
   refine w_stN (vs:=entC (entOf y)) hs fun w hs=>?_
   cases y with
   | error er=>
    simp only [Option.some.injEq,Prod.mk.injEq] at h
    obtain ⟨rfl,rfl,rfl⟩:=h
    obtain ⟨t,u,rfl⟩:=(hs.take (.there (.there .here))).errIface
    refine go ?_
    refine w_st hs fun w hs=>?_
    refine go ?_
    refine wq_ret rfl ⟨_,rfl,rc,_,hs.to (a:=ob false L (.loop rc)::ob false Dk (.deferred (some []))::blk eb 41 [.iface t u]::errC (.iface t u) (some er)::memC m M::DiskA d D2::(C s++F)),by rw [← hrc];rfl,.inl ⟨by rw [← hrc],fun w4 h4=>ke .normal Dk _ w4 (.inl rfl) h4.drop⟩⟩
   | ok z=>
    obtain ⟨o,nx'⟩:=z
    have hve:=(hs.take (.there (.there .here))).errIs
    subst hve
    cases o with
    | none=>
     simp only [Option.some.injEq,Prod.mk.injEq] at h
     obtain ⟨rfl,rfl,rfl⟩:=h
     refine go ?_
     refine wq_ret rfl ⟨_,rfl,rc,_,hs.to (a:=ob false L (.loop rc)::ob false Dk (.deferred (some []))::blk eb 41 [.nilIface]::errC .nilIface none::memC m M::DiskA d D2::(C s++F)),by rw [← hrc];rfl,.inl ⟨by rw [← hrc],fun w4 h4=>ke .normal Dk _ w4 (.inl rfl) h4.drop⟩⟩
    | some ent=>
     dsimp only at h
     cases hbd:body s ent with
     | none=>rw [hbd] at h;cases h
     | some y=>
      obtain ⟨s',c⟩:=y
      rw [hbd] at h
      refine gos ?_
      refine wq_then rfl ?_
      refine wc_seq ?_
      refine wc_seq ?_
      refine gos ?_
      refine wq_then rfl ?_
      refine gos ?_
      refine wq_then rfl ?_
      refine wc_seq ?_
      refine wc_regionI rfl ?_
      refine goi ?_
      refine wli_gT rfl ?_
      have hs:=Sat.swapApp (X:=[blk b4 256 (entC ent),nxC d m (.func (.func cf) #[] cq) nx',errC .nilIface none,memC m M,DiskA d D2,ob false Dk (.deferred (some [])),blk bn 288 [.func (.func cf) #[] cq],blk be 312 [idV eb],blk eb 41 [.nilIface]]) (Y:=ob false L (.loop rc)::C s) (F:=F) (hs.to (a:=blk b4 256 (entC ent)::nxC d m (.func (.func cf) #[] cq) nx'::errC .nilIface none::memC m M::DiskA d D2::ob false Dk (.deferred (some []))::blk bn 288 [.func (.func cf) #[] cq]::blk be 312 [idV eb]::blk eb 41 [.nilIface]::ob false L (.loop rc)::(C s++F)))
      have hst:rc.state=.ready:=by rw [← hrc]
      have hk:=kb s ent s' c L rc _ w hbd hst hs
      refine wli_yield hs rfl rfl (by rw [← hrc];rfl) rfl ?_
      have hround:=round_go (n:=n) (e:=(pt,.agg (entC ent).toArray)::e) (tm:=tm.setIfInBounds pt (.agg (entC ent).toArray)) (fn:=fn) (by simp [hsz]) (fun t v hv=>by
       have hd':pt<n:=by simpa [Nat.blt_eq] using hpt
       unfold lk at hv
       cases hk:Nat.beq pt t with
       | true=>
        rw [hk] at hv
        simp only [cond_true,Option.some.injEq] at hv
        subst hv
        have:=Nat.eq_of_beq_eq_true hk
        subst this
        simp [hsz,hd']
       | false=>
        rw [hk] at hv
        have hne:pt≠t:=Nat.ne_of_beq_eq_false hk
        rw [Array.getElem?_setIfInBounds_ne hne]
        exact hget t v hv) hk
      have efold:(rc.params.zip ([Value.agg (entC ent).toArray]:List Value).toArray).foldl (fun tmps (t,a)=>tmps.setIfInBounds t a) rc.tmps=tm.setIfInBounds pt (.agg (entC ent).toArray):=by rw [← hrc];simp
      have e1:rc.fn=fn:=by rw [← hrc]
      have e2:rc.assign=asg:=by rw [← hrc]
      have e3:rc.body=bd:=by rw [← hrc]
      have e4:({ rc with state:=.ready,pending:=none }:Loop)=rc:=by rw [← hrc]
      show RoundIn Fence.wide 0 Tryz.prog L rc.fn ((rc.params.zip ([Value.agg (entC ent).toArray]:List Value).toArray).foldl (fun tmps (t,a)=>tmps.setIfInBounds t a) rc.tmps) rc.assign rc.body w _
      rw [efold,e1,e2,e3]
      refine hround.mono ?_
      rintro y w' (⟨rfl,rfl,hs⟩|⟨rfl,rfl,hs⟩)
      ·refine ⟨_,rfl,?_⟩
       rw [e4] at hs
       have hs:=Sat.swapApp (X:=ob false L (.loop rc)::C s') (F:=F) hs
       refine goi ?_
       refine go ?_
       exact wq_round (s',nx',D2,f) ⟨rfl,rfl,rfl,trivial⟩ ⟨h,hs.to⟩ (by show f<f+1;omega)
      ·refine ⟨_,rfl,?_⟩
       simp only [Option.some.injEq,Prod.mk.injEq] at h
       obtain ⟨rfl,rfl,rfl⟩:=h
       have hs:=Sat.swapApp (X:=ob false L (.loop { rc with state:=.done,pending:=some (.exit id) })::C s') (F:=F) hs
       refine goi ?_
       refine go ?_
       refine wq_ret rfl ⟨_,rfl,{ rc with state:=.done,pending:=some (.exit id) },_,hs.to (a:=ob false L (.loop { rc with state:=.done,pending:=some (.exit id) })::ob false Dk (.deferred (some []))::blk eb 41 [.nilIface]::errC .nilIface none::memC m M::DiskA d D2::(C s'++F)),rfl,.inr ⟨id,rfl,fun w4 h4=>ke (.exit id) Dk _ w4 (.inr rfl) h4.drop⟩⟩
end
section
open Go.Proofs.YtecibefflhomdaaGreatDoor.Pure (PDisk Ent Rd openB less bltB searchL numB textB frameB putB dec)
structure Wr where
 file:Bs
 inb:Bs
 first:Bs
 blocks:List (Bs×Nat×Nat)
def flushW (s:Wr):Option Wr:=if s.inb.length≤1048576∧s.file.length≤big∧s.blocks.length≤big then some ⟨s.file++frameB s.inb,[],s.first,s.blocks++[(s.first,s.file.length,(frameB s.inb).length)]⟩ else none
def entOk (e:Ent):Bool:=Nat.ble e.key.length 1000&&(e.del||Nat.ble e.val.length 1000)
def stepW (l:List Ent) (i:Nat) (e:Ent) (s:Wr):Option Wr:=
 if s.inb.length≤1048576∧entOk e=true then
  (if 300≤s.inb.length then match l[i-1]? with
    | none=>none
    | some p=>if e.key=p.key then some s else (flushW s).map fun s=>{ s with first:=e.key }
  else some s).map fun s=>{ s with inb:=s.inb++putB e }
 else none
def stepsW (l:List Ent):Nat→List Ent→Wr→Option Wr
 | _,[],s=>some s
 | i,e::r,s=>match stepW l i e s with
  | none=>none
  | some s=>stepsW l (i+1) r s
def listB (first last:Bs) (count:Nat) (bs:List (Bs×Nat×Nat)):Bs:=
 textB first++textB last++numB count 4++(bs.map fun b=>textB b.1++numB b.2.1 4++numB b.2.2 4).flatten
def tabB (l:List Ent):Option (Bs×List (Bs×Nat×Nat)):=match l,l.getLast? with
 | e::_,some z=>match (stepsW l 0 l ⟨[],[],e.key,[]⟩).bind flushW with
  | none=>none
  | some s=>if s.file.length≤big∧s.blocks.length≤1048576∧l.length≤1048576∧(s.blocks.all fun b=>Nat.ble b.1.length 255&&Nat.ble b.2.1 big&&Nat.ble b.2.2 big)=true∧e.key.length≤255∧z.key.length≤255 then
   some (s.file++frameB (listB e.key z.key l.length s.blocks)++frameB (numB s.file.length 8),s.blocks) else none
 | _,_=>none
end
section
open Go.Proofs.YtecibefflhomdaaGreatDoor.Pure (PDisk Ent Rd openB less bltB searchL numB textB frameB putB dec)
def firstK:List Ent→Bs
 | []=>[]
 | e::_=>e.key
def lastK (l:List Ent):Bs:=match l.getLast? with
 | none=>[]
 | some e=>e.key
def writeT (D:PDisk) (name:Bs) (l:List Ent):Option (Except Err Tab×PDisk):=match tabB l with
 | none=>none
 | some z=>if D.moves.length≤big then (match createE D name with
  | some e=>some (.error e,createD D name)
  | none=>match appendE (createD D name) name z.1 with
   | some e=>some (.error e,appended (createD D name) name z.1)
   | none=>match findE (appended (createD D name) name z.1) name with
    | some e=>some (.error e,syncD (appended (createD D name) name z.1) name)
    | none=>some (.ok ⟨name,firstK l,lastK l,l.length,z.2⟩,syncD (appended (createD D name) name z.1) name)) else none
end
section
open Go.Proofs.YtecibefflhomdaaGreatDoor.Pure (PDisk Ent Rd openB less bltB searchL numB textB frameB putB dec beN addL aget Kp kp0 doneK keepP Chg chgE batchE valE Sc sc0 scanP)
abbrev Out (α:Type):=Option (Except Err α×PDisk)
def parseB:Nat→Rd→List (Bs×Nat×Nat)×Bool
 | 0,r=>([],r.bad)
 | f+1,r=>if r.rest≠[]∧r.bad=false then ((r.text.1,(r.text.2.num 4).1,((r.text.2.num 4).2.num 4).1)::(parseB f ((r.text.2.num 4).2.num 4).2).1,(parseB f ((r.text.2.num 4).2.num 4).2).2) else ([],r.bad)
def headT (nm y:Bs):Except Err Tab:=
 let a:=Rd.text ⟨y,false⟩
 let b:=a.2.text
 let c:=b.2.num 4
 let p:=parseB y.length c.2
 if p.2=true∨p.1=[] then .error (some nm,7) else .ok ⟨nm,a.1,b.1,c.1,p.1⟩
def openT2 (D:PDisk) (nm:Bs) (at_:Nat) (m:Int):Out Tab:=match findE D nm with
 | some e=>some (.error e,(counted D m).tick)
 | none=>match openB (readD D nm at_ m) with
  | none=>some (.error (some nm,7),(counted D m).tick)
  | some y=>if (readD D nm at_ m).length≤big then some (headT nm y.1,(counted D m).tick) else none
def openT (D:PDisk) (nm:Bs):Out Tab:=match findE D nm with
 | some e=>some (.error e,D.tick)
 | none=>match findE D.tick nm with
  | some e=>some (.error e,(counted D.tick 20).tick)
  | none=>match openB (readD D.tick nm ((sizeB D nm:Int)-20) 20) with
   | none=>some (.error (some nm,7),(counted D.tick 20).tick)
   | some z=>if z.1.length≠8 then some (.error (some nm,7),(counted D.tick 20).tick) else
    if sizeB D nm<beN z.1 then some (.error (some nm,7),(counted D.tick 20).tick) else
    openT2 (counted D.tick 20).tick nm (beN z.1) ((sizeB D nm:Int)-20-(beN z.1:Int))
structure Opt where
 memory:Nat
 tables:Nat
deriving DecidableEq
structure St where
 levels:List (List Tab)
 mem:List Ent
 log:Bs
 seq:Nat
 number:Nat
 snaps:List (Int×Nat)
 snap:Nat
def stateN:Bs:=[115,116,97,116,101]
def freshN:Bs:=[115,116,97,116,101,46,110,101,119]
def tableN (n:Nat):Bs:=[116,97,98,108,101]++dec n
def logN (n:Nat):Bs:=[108,111,103]++dec n
def keepB (ms:List Nat) (bottom:Bool) (s:Kp) (e:Ent):Option (Kp×Bool):=if s.out.length+s.same.length≤big then some (keepP ms bottom s e,true) else none
def momentsS (s:St):List Nat:=latestN::s.snaps.map (·.2)
def keptS (s:St) (D:PDisk) (nx:Nx) (bottom:Bool):Out (List Ent):=if 8<s.snaps.length then none else match eachN s.mem (keepB (momentsS s) bottom) big nx D kp0 with
 | none=>none
 | some (k,some e,D')=>if k.out.length+k.same.length≤big then some (.error e,D') else none
 | some (k,none,D')=>if k.out.length+k.same.length≤big then some (.ok (doneK bottom k).out,D') else none
def cutN (l:List Ent):Nat→Nat→Nat
 | 0,n=>n
 | f+1,n=>if n<l.length∧(l.getD n default).key=(l.getD (n-1) default).key then cutN l f (n+1) else n
def cutL (l:List Ent):Nat:=cutN l l.length (min l.length 95)
def splitS:Nat→Nat→PDisk→List Ent→List Tab→Out (List Tab×Nat)
 | _,num,D,[],acc=>some (.ok (acc,num),D)
 | 0,_,_,_::_,_=>none
 | f+1,num,D,e::r,acc=>if num≤4611686018427387904∧(e::r).length≤big∧acc.length≤big then match writeT D (tableN (num+1)) ((e::r).take (cutL (e::r))) with
  | none=>none
  | some (.error x,D')=>some (.error x,D')
  | some (.ok T,D')=>splitS f (num+1) D' ((e::r).drop (cutL (e::r))) (acc++[T]) else none
inductive DOp where
 | create (n:Bs)
 | append (n b:Bs)
 | sync (n:Bs)
 | rename (a b:Bs)
 | syncdir
 | remove (n:Bs)
def runOp (D:PDisk):DOp→Option (Option Err×PDisk)
 | .create n=>if D.moves.length≤big then some (createE D n,createD D n) else none
 | .append n b=>some (appendE D n b,appended D n b)
 | .sync n=>some (findE D n,syncD D n)
 | .rename a b=>if D.moves.length≤big then some (findE D a,renameD D a b) else none
 | .syncdir=>some (if D.trips=true then some (some [],8) else none,syncdirR D)
 | .remove n=>if D.moves.length≤big then some (findE D n,removeD D n) else none
def runOps:List DOp→PDisk→Option (Option Err×PDisk)
 | [],D=>some (none,D)
 | o::r,D=>match runOp D o with
  | none=>none
  | some (some e,D')=>some (some e,D')
  | some (none,D')=>runOps r D'
def tabsB:Nat→List (List Tab)→Bs
 | _,[]=>[]
 | i,l::r=>(l.map fun T=>UInt8.ofNat i::textB T.name).flatten++tabsB (i+1) r
def stateB (s:St):Bs:=numB s.number 8++numB s.seq 8++textB s.log++tabsB 0 s.levels
def fitsB (s:St):Bool:=decide (s.number≤4611686018427387904)&&decide (s.seq≤4611686018427387904)&&Nat.ble s.log.length 255&&(s.levels.all fun l=>decide (l.length≤1048576)&&l.all fun T=>Nat.ble T.name.length 255)
def stepsS (s:St) (old:Option Bs):List DOp:=[.create freshN,.append freshN (frameB (stateB s)),.sync freshN,.rename freshN stateN,.syncdir]++(match old with|none=>[]|some o=>[.remove o])
def commitS (s:St) (D:PDisk) (newLog:Bool):Out St:=
 if newLog=true then (if s.number≤4611686018427387904 then match runOp D (.create (logN (s.number+1))) with
  | none=>none
  | some (some e,D')=>some (.error e,D')
  | some (none,D')=>
   let s':={ s with number:=s.number+1,log:=logN (s.number+1) }
   if fitsB s'=true then match runOps (stepsS s' (if s.log=[] then none else some s.log)) D' with
    | none=>none
    | some (some e,D2)=>some (.error e,D2)
    | some (none,D2)=>some (.ok s',D2) else none else none)
 else (if fitsB s=true then match runOps (stepsS s none) D with
  | none=>none
  | some (some e,D2)=>some (.error e,D2)
  | some (none,D2)=>some (.ok s,D2) else none)
def bindO {α β:Type} (x:Out α) (k:α→PDisk→Out β):Out β:=match x with
 | none=>none
 | some (.error e,D)=>some (.error e,D)
 | some (.ok a,D)=>k a D
def midT (s:St) (a b:Nat):List Tab:=((s.levels.take (b+1)).drop a).flatten
def bottomT (s:St) (b:Nat):Bool:=(s.levels.drop (b+1)).all List.isEmpty
def mergeS (s:St) (D:PDisk) (a b:Nat):Out St:=
 if (midT s a b).length≤big∧s.mem.length≤big then
 bindO (keptS s D (.mg ⟨false,(midT s a b).map fun T=>fromT T [],[]⟩) (bottomT s b)) fun l D=>
 bindO (splitS big s.number D l []) fun ts D=>
 bindO (commitS { s with number:=ts.2,levels:=s.levels.take a++List.replicate (b-a) []++ts.1::s.levels.drop (b+1) } D false) fun s' D=>
 match runOps ((midT s a b).map fun T=>.remove T.name) D with
  | none=>none
  | some (some e,D')=>some (.error e,D')
  | some (none,D')=>some (.ok s',D')
 else none
def stepS (o:Opt) (i:Nat) (s:St) (D:PDisk):Out St:=if o.tables<(s.levels.getD i []).length then mergeS s D i (i+1) else some (.ok s,D)
def settleF (o:Opt):Nat→Nat→St→PDisk→Out St
 | 0,_,s,D=>some (.ok s,D)
 | f+1,i,s,D=>bindO (stepS o i s D) fun s D=>settleF o f (i+1) s D
def settleS (o:Opt) (s:St) (D:PDisk):Out St:=
 bindO (if o.tables≤(s.levels.getD 0 []).length then mergeS s D 0 1 else some (.ok s,D)) fun s D=>settleF o 2 1 s D
def flushS (o:Opt) (s:St) (D:PDisk):Out St:=if big<s.mem.length then none else
 bindO (keptS s D (.one (fromM s.mem [])) false) fun l D=>
 bindO (splitS big s.number D l []) fun ts D=>
 if (s.levels.getD 0 []).length+ts.1.length≤big then
 bindO (commitS { s with number:=ts.2,levels:=(s.levels.getD 0 []++ts.1)::s.levels.drop 1,mem:=[] } D true) fun s D=>
 settleS o s D else none
def compactS (o:Opt) (s:St) (D:PDisk):Out St:=
 bindO (if 0<s.mem.length then flushS o s D else some (.ok s,D)) fun s D=>mergeS s D 0 3
def logB (q:Nat) (l:List Chg):Bs:=numB q 8++((batchE q l).map putB).flatten
def addsS (s:St) (l:List Chg):St:={ s with seq:=s.seq+l.length,mem:=(batchE s.seq l).foldl addL s.mem }
def writeS (o:Opt) (s:St) (D:PDisk) (l:List Chg) (sync:Bool):Out St:=
 if s.seq≤4611686018427387904∧s.mem.length≤1048576 then
 match runOp D (.append s.log (frameB (logB s.seq l))) with
 | none=>none
 | some (some e,D')=>some (.error e,D')
 | some (none,D1)=>match (if sync=true then runOp D1 (.sync s.log) else some (none,D1)) with
  | none=>none
  | some (some e,D')=>some (.error e,D')
  | some (none,D2)=>if o.memory≤(addsS s l).mem.length then flushS o (addsS s l) D2 else some (.ok (addsS s l),D2)
 else none
def tabsS (s:St):List Tab:=(s.levels.getD 0 []).reverse++(s.levels.drop 1).flatten
def getTs (key:Bs) (seq:Nat):List Tab→PDisk→Out (Option Ent)
 | [],D=>some (.ok none,D)
 | T::r,D=>match findT D T key seq with
  | none=>none
  | some (.error e,D')=>some (.error e,D')
  | some (.ok (some x),D')=>some (.ok (some x),D')
  | some (.ok none,D')=>getTs key seq r D'
def getS (s:St) (D:PDisk) (key:Bs) (seq:Nat):Out (Option Bs):=
 if key.length=0∨8<key.length then some (.error (none,3),D) else match findM s.mem key seq with
 | some e=>some (.ok (valE (some e)),D)
 | none=>match getTs key seq (tabsS s) D with
  | none=>none
  | some (.error e,D')=>some (.error e,D')
  | some (.ok x,D')=>some (.ok (valE x),D')
def scanB (hi:Bs) (limit:Int) (seq:Nat) (s:Sc) (e:Ent):Option (Sc×Bool):=if s.out.length≤big then some (scanP hi limit seq s e) else none
def scanS (s:St) (D:PDisk) (lo hi:Bs) (limit:Int) (seq:Nat):Out (List (Bs×Bs)):=
 if (tabsS s).length+1≤big then
 match eachN s.mem (scanB hi limit seq) big (.mg ⟨false,fromM s.mem lo::(tabsS s).map fun T=>fromT T lo,[]⟩) D sc0 with
 | none=>none
 | some (_,some e,D')=>some (.error e,D')
 | some (k,none,D')=>some (.ok k.out,D') else none
end
section
open Go.Proofs.YtecibefflhomdaaGreatDoor.Pure (PDisk Ent Rd openB less bltB searchL numB textB frameB putB dec beN Kp kp0 doneK keepP trimL isFst keeps)
attribute [local irreducible] IntKind.wrap
section
variable {ops:Array Oper} {Q:Exit→Act→World→Prop} {n:Nat} {ds:Md} {e:Env} {w w':World} {rest:List Oper}
variable {op:Op} {ty:TypeId} {pos:String} {af:Array Edge} {d:Nat} {v u:Value} {W0:World} {l l' r r':List HProp}
theorem wl_cat {x y:Operand} {t ty2:TypeId} {a b:Bs} (hx:ev e x=some (str a)) (hy:ev e y=some (str b)) (hl:a.length+b.length≤4611686018427387904) (hd:Nat.blt d n=true)
 (kk:WL ops Q n ds rest ((d,str (a++b))::e) w):WL ops Q n ds (⟨some d,.binOp .add t x y ty2,ty,pos,af,none⟩::rest) e w:=by
 refine wl_run (w':=w) (fun act ha=>?_) hd kk
 have h1:=ha.ev hx
 have h2:=ha.ev hy
 have hsz:¬ ((((⟨a.toArray⟩:ByteArray).size+(⟨b.toArray⟩:ByteArray).size:Nat):Int) > IntKind.i64.max):=by
  show ¬ (((a.toArray.size+b.toArray.size:Nat):Int) > 9223372036854775807)
  simp;omega
 have happ:(⟨a.toArray⟩:ByteArray)++⟨b.toArray⟩=⟨(a++b).toArray⟩:=by
  apply ByteArray.ext;simp
 have hg:(eqGuard .add t x y (str a) (str b)).run Tryz.prog w=.ok () w:=by simp only [eqGuard];split<;>simp
 have hb:(Go.binOp .add t (str a) (str b)).run Tryz.prog w=.ok (str (a++b)) w:=by
  simp only [Go.binOp,Op.stringOp]
  rw [if_neg hsz,happ];rfl
 simp [execOp,h1,h2,hg,hb]
end
variable {W0 w:World} {F:List HProp} {v:Value} {d m p:Nat} {T:Tab} {D D':PDisk} {M:List Ent}
def lvC (d:Nat) (v:Value) (Ts:List Tab):HProp:=fun h=>∃ ps:List Nat,ps.length=Ts.length∧sepL [ownS 1 v 193 ps.length (ps.map idV),star (List.zipWith (tabC d) ps Ts)] h
theorem Sat.lvOpen {Ts:List Tab} (h:Sat W0 (lvC d v Ts::F) w):∃ ps:List Nat,ps.length=Ts.length∧Sat W0 (ownS 1 v 193 ps.length (ps.map idV)::star (List.zipWith (tabC d) ps Ts)::F) w:=
 h.open1 fun _ ⟨ps,h1,k⟩=>⟨ps,h1,k⟩
theorem Sat.lvClose {Ts:List Tab} {ps:List Nat} (h1:ps.length=Ts.length) (h:Sat W0 (ownS 1 v 193 ps.length (ps.map idV)::star (List.zipWith (tabC d) ps Ts)::F) w):Sat W0 (lvC d v Ts::F) w:=
 Sat.close (B:=[ownS 1 v 193 ps.length (ps.map idV),star (List.zipWith (tabC d) ps Ts)]) h fun _ k=>⟨ps,h1,k⟩
theorem Sat.lvNil (h:Sat W0 F w):Sat W0 (lvC d (.slice none 0 0) []::F) w:=by
 refine Sat.lvClose (ps:=[]) rfl (Sat.ownNil (h.imp fun hp k=>?_))
 exact ⟨fun _=>none,hp,fun _ _ _ hx=>(by cases hx),fun _ _ hx=>(by cases hx),Hp.le_refl _,trivial,k⟩
structure SZ where
 m:Nat
 l0:Value
 l1:Value
 l2:Value
 l3:Value
 sn:Nat
structure SK where
 d:Nat
 o:Opt
 cl:Bool
 br:Value
 mu:Value
def snapsV (l:List (Int×Nat)):List (Int×Value):=l.map fun p=>(p.1,uV p.2)
abbrev stCells (K:SK) (z:SZ) (s:St):List Value:=
 [K.mu,.int .u32 0,idV K.d,.int .i64 (K.o.memory:Int),.int .i64 (K.o.tables:Int),.bool K.cl,K.br,z.l0,z.l1,z.l2,z.l3,idV z.m,str s.log,uV s.seq,uV s.number,.map (some z.sn),.int .i64 (s.snap:Int)]
abbrev stL (b:Nat) (K:SK) (z:SZ) (s:St):List HProp:=
 [blk b 133 (stCells K z s),lvC K.d z.l0 (s.levels.getD 0 []),lvC K.d z.l1 (s.levels.getD 1 []),lvC K.d z.l2 (s.levels.getD 2 []),lvC K.d z.l3 (s.levels.getD 3 []),memC z.m s.mem,mapH keyI z.sn (snapsV s.snaps)]
def stC (b:Nat) (K:SK) (s:St):HProp:=fun h=>s.levels.length=4∧∃ z,sepL (stL b K z s) h
theorem nDig_le1:∀ (f n:Nat),Pure.nDig f n≤f+1
 | 0,_=>Nat.le_refl _
 | f+1,n=>by
  unfold Pure.nDig
  have:=nDig_le1 f (n / 10)
  split<;>omega
theorem shd_errC (v:Value) (o:Option Err):Shd (errC v o):=fun h k=>by
 match o,k with
 | none,k=>exact k
 | some (none,_),k=>exact k
 | some (some _,_),⟨b,h1,h2⟩=>exact ⟨b,h1,by simp [Hp.sh,h2]⟩
theorem sname_spec {b:Nat} {K:SK} {z:SZ} {s:St} {kind:Bs} (hs:Sat W0 (blk b 133 (stCells K z s)::F) w) (hk:kind.length≤1000) (hn:s.number≤4611686018427387904) (hW:PowW W0) :
 Calls Tryz.prog 171 #[idV b,str kind] w fun x w'=>x=.returned (str (kind++dec (s.number+1)))∧Sat W0 (blk b 133 (stCells K z { s with number:=s.number+1 })::F) w':=by
 refine enter Tryz.func171 rfl Tryz.ntmps171 Tryz.results171 rfl ?_
 refine go ?_
 refine w_st hs fun w hs=>?_
 have hs:Sat W0 (blk b 133 (stCells K z { s with number:=s.number+1 })::F) w:=hs
 refine go ?_
 refine w_call (met (fmtU_spec (n:=s.number+1) (by omega) hW hs) ?_)
 rintro _ w ⟨rfl,hs⟩
 refine ⟨_,rfl,?_⟩
 have hdl:(dec (s.number+1)).length≤1000:=by
  unfold Pure.dec
  rw [Pure.D_len]
  have:=nDig_le1 20 (s.number+1);omega
 refine wl_cat rfl rfl (by omega) rfl ?_
 refine go ?_
 exact wq_ret rfl ⟨rfl,hs⟩
def begE (K:SK) (be:Option Err):Option Err:=if K.cl=true then some (none,6) else be
theorem Sat.errNum {k:Nat} (h:Sat W0 F w):Sat W0 (errC (.iface 44 (.int .i64 (k:Int))) (some (none,k))::F) w:=h.imp fun hp r=>⟨fun _=>none,hp,fun _ _ _ hx=>(by cases hx),fun _ _ hx=>(by cases hx),Hp.le_refl _,rfl,r⟩
theorem begin_spec {b:Nat} {K:SK} {z:SZ} {s:St} {be:Option Err} (hs:Sat W0 (blk b 133 (stCells K z s)::errC K.br be::F) w) :
 Calls Tryz.prog 82 #[idV b] w fun x w'=>∃ ve,x=.returned ve∧Sat W0 (errC ve (begE K be)::blk b 133 (stCells K z s)::errC K.br be::F) w':=by
 refine enter Tryz.func82 rfl Tryz.ntmps82 Tryz.results82 rfl ?_
 obtain ⟨d,o,cl,br,mu⟩:=K
 dsimp only at hs ⊢
 unfold begE
 cases cl with
 | true=>
  refine go ?_
  exact wq_ret rfl ⟨_,rfl,Sat.errNum (k:=6) hs⟩
 | false=>
  refine go ?_
  exact wq_ret rfl ⟨_,rfl,(Sat.shDup (shd_errC _ _) (hs.take (.there .here))).to⟩
theorem moments_spec {b:Nat} {K:SK} {z:SZ} {s:St} (hs:Sat W0 (blk b 133 (stCells K z s)::mapH keyI z.sn (snapsV s.snaps)::F) w) (hl:s.snaps.length≤8) :
 Calls Tryz.prog 205 #[idV b] w fun x w'=>∃ (mv:Value) (us:List Nat),x=.returned mv∧us.Perm (momentsS s)∧Sat W0 (ownS 1 mv 131 us.length (us.map uV)::blk b 133 (stCells K z s)::mapH keyI z.sn (snapsV s.snaps)::F) w':=by
 refine enter Tryz.func205 rfl Tryz.ntmps205 Tryz.results205 rfl ?_
 refine go ?_
 refine w_lit1 hs fun w b0 hs=>?_
 refine go ?_
 refine wl_range keyI hs (.there (.there .here)) rfl rfl rfl fun w it hs=>?_
 refine go ?_
 have hs0:=Sat.ownClose (k:=1) (cap:=1) (len:=1) (cs:=[latestN].map uV) (rest:=[]) (E:=131) (hs.take (.there .here)) (Nat.le_refl _) (by simp [maxLen]) rfl rfl (by simp [isOne])
 refine wc_loop (α:=List Nat×List (Int×Nat)×Option (Int×Value)×Value) (fun z'=>[(0,idV b),(3,z'.2.2.2),(11,.pointer (some ⟨it,0,none⟩))])
  (fun z' w=>(z'.1++z'.2.1.map (·.2)).Perm (momentsS s)∧Sat W0 (ownS 1 z'.2.2.2 131 z'.1.length (z'.1.map uV)::rangeH keyI z.sn it (snapsV s.snaps) (snapsV z'.2.1) z'.2.2.1::blk b 133 (stCells K z s)::F) w) (fun z'=>z'.2.1.length) ([latestN],s.snaps,none,.slice (some ⟨b0,0,none⟩) 1 1) ⟨rfl,rfl,rfl,trivial⟩ ⟨.refl _,hs0.to⟩ ?_
 clear hs hs0
 rintro ⟨us,left,last,mv⟩ w ⟨hp,hs⟩
 dsimp only at hp hs ⊢
 have hlen:us.length+left.length=s.snaps.length+1:=by
  have:=hp.length_eq
  simpa [momentsS] using this
 refine go ?_
 refine wl_next keyI hs (.there .here) rfl rfl (fun h0=>?_) (fun l1 x l2 w hl' hs=>?_)
 ·have hl0:left=[]:=by unfold snapsV at h0;simpa using h0
  subst hl0
  simp only [List.map_nil,List.append_nil] at hp
  have hs:=(hs.take (.there .here)).rangeDone
  refine go ?_
  refine w_call (met (sortU_spec (hs.take (.there .here)) (by have:=hp.length_eq;simp [momentsS] at this;omega) (by have:=hp.length_eq;simp [momentsS] at this;omega)) ?_)
  rintro _ w ⟨u,us',rfl,hp2,hs⟩
  refine ⟨_,rfl,go ?_⟩
  exact wq_ret rfl ⟨_,us',rfl,hp2.trans hp,hs.to⟩
 ·unfold snapsV at hl'
  obtain ⟨n1,nr,rfl,rfl,hnr⟩:=List.map_eq_append_iff.1 hl'
  obtain ⟨y,n2,rfl,rfl,rfl⟩:=List.map_eq_cons_iff.1 hnr
  have e1:(n1.map fun p:Int×Nat=>(p.1,uV p.2))++(n2.map fun p=>(p.1,uV p.2))=snapsV (n1++n2):=by simp [snapsV]
  rw [e1] at hs
  refine go ?_
  refine wl_entry keyI hs .here rfl rfl ?_
  refine go ?_
  refine w_lit1 hs fun w b2 hs=>?_
  simp only [List.length_append,List.length_cons] at hlen
  refine w_app1 hs fun v2 w hs=>?_
  refine go ?_
  refine wq_round (us++[y.2],n1++n2,some (y.1,uV y.2),v2) ⟨rfl,rfl,rfl,trivial⟩ ⟨?_,?_⟩ (by dsimp only;simp)
  ·refine List.Perm.trans ?_ hp
   dsimp only
   simp only [List.map_append,List.map_cons,List.append_assoc,List.cons_append,List.nil_append]
   refine List.Perm.append_left _ ?_
   exact (List.perm_middle).symm
  ·dsimp only
   rw [List.map_append,List.length_append]
   exact hs.to
end
end Go.Proofs.YtecibefflhomdaaGreatDoor
