/-
  Part 19: WALKS package rows; THE MIRROR, PART 2 tables that are written and opened; THE MIRROR, PART 3 tables written to the disk; THE MIRROR, PART 4 tables opened; WALKS package levels.
-/
import Derived.Test.YtecibefflhomdaaGreatDoorV16
import Derived.Test.YtecibefflhomdaaGreatDoorV18
set_option maxHeartbeats 8000000
set_option maxRecDepth 100000
set_option linter.all false
namespace Go.Proofs.YtecibefflhomdaaGreatDoor
open Go
section
open Go.Proofs.YtecibefflhomdaaGreatDoor.Pure (ae aB Rd bH less aR aZ)
attribute [local irreducible] IntKind.wrap
variable {W0 w:World} {F:List ax} {v:Value} {d m p:Nat} {T:bN} {D D':ae} {M:List aB} {nx:Nx}
def Ge (d m:Nat) (v:Value):Nx→ax
 | .one it=>mb d m v it
 | .mg g=>OH d m v g
theorem BE {x:Except cx (Option aB×Nx)} (h:sV M D nx=some (x,D')) (hs:Sat W0 (Ge d m v nx::aO m M::aj d D::F) w) (hmx:M.length≤1099511627776) :
 ∃ f q,v=.func (.func f) #[] q∧lk uG f=some ()∧Calls Tryz.prog f (#[].toList++[]++q.toList).toArray w (Kj W0 (Ge d m v) m d M x D' F):=by
 cases nx with
 | one it=>
  unfold sV at h
  simp only [Option.map_eq_some_iff,Prod.mk.injEq] at h
  obtain ⟨⟨y,D2⟩,hn,rfl,rfl⟩:=h
  obtain ⟨f,q,rfl,hf,hc⟩:=sW hn hs hmx
  refine ⟨f,q,rfl,hf,hc.mono ?_⟩
  rintro _ w' ⟨ve,rfl,hs⟩
  refine ⟨ve,?_,?_⟩
  ·cases y with
   | error e=>rfl
   | ok z=>obtain ⟨o,it'⟩:=z;cases o<;>rfl
  ·cases y with
   | error e=>exact hs
   | ok z=>obtain ⟨o,it'⟩:=z;exact hs
 | mg g=>
  unfold sV at h
  simp only [Option.map_eq_some_iff,Prod.mk.injEq] at h
  obtain ⟨⟨y,D2⟩,hn,rfl,rfl⟩:=h
  obtain ⟨hg,z,rfl,hs2⟩:=Sat.Kl hs
  refine ⟨214,_,rfl,rfl,(BD hn hg hmx hs2).mono ?_⟩
  rintro _ w' ⟨ve,rfl,hs⟩
  refine ⟨ve,?_,?_⟩
  ·cases y with
   | error e=>rfl
   | ok z=>obtain ⟨o,it'⟩:=z;cases o<;>rfl
  ·cases y with
   | error e=>exact hs
   | ok z=>obtain ⟨o,it'⟩:=z;exact hs
theorem yb {f:Nat} {q:Array Value} {eb:Nat} (hs:Sat W0 F w) :
 Calls Tryz.prog 183 #[.func (.func f) #[] q,ay eb] w fun y w'=>∃ bn be,y=.returned (.func (.func 211) #[] #[ay bn,ay be])∧Sat W0 (blk bn 288 [.func (.func f) #[] q]::blk be 312 [ay eb]::F) w':=by
 refine enter Tryz.func183 rfl Tryz.ntmps183 Tryz.results183 rfl ?_
 refine go ?_
 refine bR hs fun w bn hs=>?_
 refine bR hs fun w be hs=>?_
 refine go ?_
 exact ah rfl ⟨_,_,rfl,hs.to⟩
theorem Sat.o5 {X Y:List ax} (h:Sat W0 (X++(Y++F)) w):Sat W0 (Y++(X++F)) w:=h.imp fun hp k=>dD (cZ (fun _=>dD) (kA (cZ (fun _=>cT) (cT k))))
theorem Gf {Q:Exit→Act→World→Prop} {n:Nat} {ds:Md} {e:Env} {g:Operand} {pt:Tmp} {asg bd:Code} {σ:Type} {body:σ→aB→Option (σ×Bool)} {C:σ→List ax} {ff id:Nat} {s0 s1:σ} {oe:Option cx} {bn be eb:Nat}
 (hr:ds.round=none) (hpt:Nat.blt pt n=true) (hg:ev e g=some (.func (.func 211) #[] #[ay bn,ay be])) (h:pz M body ff nx D s0=some (s1,oe,D')) (hmx:M.length≤1099511627776)
 (hs:Sat W0 (blk bn 288 [v]::blk be 312 [ay eb]::blk eb 41 [.nilIface]::Ge d m v nx::aO m M::aj d D::(C s0++F)) w)
 (kb:∀ s ent s' c L rc G w,body s ent=some (s',c)→rc.state=.ready→Sat W0 (ob false L (.loop rc)::(C s++G)) w →
   WC asg (Hs L bd fun y w'=>(c=true∧y=.returned (.bool true)∧Sat W0 (ob false L (.loop { rc with state:=.ready,pending:=none })::(C s'++G)) w') ∨
    (c=false∧y=.returned (.bool false)∧Sat W0 (ob false L (.loop { rc with state:=.done,pending:=some (.exit id) })::(C s'++G)) w')) n ⟨some L,[]⟩ ((pt,.agg (aI ent).toArray)::e) w)
 (ke:∀ x Dk ve w,x=.normal∨x=.exit id→Sat W0 (ob false Dk (.deferred (some []))::blk eb 41 [ve]::aH ve oe::aO m M::aj d D'::(C s1++F)) w→WQ Q x n ⟨none,jy Dk::ds.ds⟩ e w) :
 WC (.rangeFunc g #[pt] asg bd) Q n ds e w:=by
 refine Bo (uu:=()) hr hs hg rfl fun fn tm L Dk w1 hsz hget hs=>?_
 refine enter (args:=[.func (.yield L) #[] #[],ay bn,ay be]) Tryz.func211 rfl Tryz.ntmps211 Tryz.results211 rfl ?_
 generalize hrc:({ state:=.ready,pending:=none,fn:=fn,tmps:=tm,params:=#[pt],assign:=asg,body:=bd,defers:=Dk }:Loop)=rc at *
 refine go ?_
 refine aJ (α:=σ×Nx×ae×Nat) (fun z=>[(0,.func (.yield L) #[] #[]),(1,ay bn),(2,ay be)])
  (fun z w=>pz M body z.2.2.2 z.2.1 z.2.2.1 z.1=some (s1,oe,D')∧Sat W0 (ob false L (.loop rc)::ob false Dk (.deferred (some []))::blk bn 288 [v]::blk be 312 [ay eb]::blk eb 41 [.nilIface]::Ge d m v z.2.1::aO m M::aj d z.2.2.1::(C z.1++F)) w) (fun z=>z.2.2.2) (s0,nx,D,ff) ⟨rfl,rfl,rfl,trivial⟩ ⟨h,hs⟩ ?_
 clear hs h
 rintro ⟨s,nx,D,f⟩ w ⟨h,hs⟩
 dsimp only at h hs ⊢
 cases f with
 | zero=>cases h
 | succ f=>
  unfold pz at h
  cases hn:sV M D nx with
  | none=>rw [hn] at h;cases h
  | some y=>
   obtain ⟨y,D2⟩:=y
   rw [hn] at h
   have hs:=hs.to (a:=Ge d m v nx::aO m M::aj d D::ob false L (.loop rc)::ob false Dk (.deferred (some []))::blk bn 288 [v]::blk be 312 [ay eb]::blk eb 41 [.nilIface]::(C s++F))
   obtain ⟨cf,cq,rfl,hcf,hcall⟩:=BE hn hs hmx
   refine go ?_
   refine iM rfl hcf rfl rfl (hcall.mono ?_)
   rintro _ w ⟨ve,rfl,hs⟩
   refine ⟨_,rfl,go ?_⟩
   refine aS hs fun w b4 hs=>?_
   refine da (vs:=aI (x8 y)) hs fun w hs=>?_
   cases y with
   | error er=>
    simp only [Option.some.injEq,Prod.mk.injEq] at h
    obtain ⟨rfl,rfl,rfl⟩:=h
    obtain ⟨t,u,rfl⟩:=(hs.take (.there (.there .here))).aQ
    refine go ?_
    refine bK hs fun w hs=>?_
    refine go ?_
    refine ah rfl ⟨_,rfl,rc,_,hs.to (a:=ob false L (.loop rc)::ob false Dk (.deferred (some []))::blk eb 41 [.iface t u]::aH (.iface t u) (some er)::aO m M::aj d D2::(C s++F)),by rw [← hrc];rfl,.inl ⟨by rw [← hrc],fun w4 h4=>ke .normal Dk _ w4 (.inl rfl) h4.drop⟩⟩
   | ok z=>
    obtain ⟨o,nx'⟩:=z
    have hve:=(hs.take (.there (.there .here))).cA
    subst hve
    cases o with
    | none=>
     simp only [Option.some.injEq,Prod.mk.injEq] at h
     obtain ⟨rfl,rfl,rfl⟩:=h
     refine go ?_
     refine ah rfl ⟨_,rfl,rc,_,hs.to (a:=ob false L (.loop rc)::ob false Dk (.deferred (some []))::blk eb 41 [.nilIface]::aH .nilIface none::aO m M::aj d D2::(C s++F)),by rw [← hrc];rfl,.inl ⟨by rw [← hrc],fun w4 h4=>ke .normal Dk _ w4 (.inl rfl) h4.drop⟩⟩
    | some ent=>
     dsimp only at h
     cases hbd:body s ent with
     | none=>rw [hbd] at h;cases h
     | some y=>
      obtain ⟨s',c⟩:=y
      rw [hbd] at h
      refine qL ?_
      refine cV rfl ?_
      refine dV ?_
      refine dV ?_
      refine qL ?_
      refine cV rfl ?_
      refine qL ?_
      refine cV rfl ?_
      refine dV ?_
      refine vA rfl ?_
      refine MH ?_
      refine JS rfl ?_
      have hs:=Sat.o5 (X:=[blk b4 256 (aI ent),Ge d m (.func (.func cf) #[] cq) nx',aH .nilIface none,aO m M,aj d D2,ob false Dk (.deferred (some [])),blk bn 288 [.func (.func cf) #[] cq],blk be 312 [ay eb],blk eb 41 [.nilIface]]) (Y:=ob false L (.loop rc)::C s) (F:=F) (hs.to (a:=blk b4 256 (aI ent)::Ge d m (.func (.func cf) #[] cq) nx'::aH .nilIface none::aO m M::aj d D2::ob false Dk (.deferred (some []))::blk bn 288 [.func (.func cf) #[] cq]::blk be 312 [ay eb]::blk eb 41 [.nilIface]::ob false L (.loop rc)::(C s++F)))
      have hst:rc.state=.ready:=by rw [← hrc]
      have hk:=kb s ent s' c L rc _ w hbd hst hs
      refine xW hs rfl rfl (by rw [← hrc];rfl) rfl ?_
      have hround:=Bn (n:=n) (e:=(pt,.agg (aI ent).toArray)::e) (tm:=tm.setIfInBounds pt (.agg (aI ent).toArray)) (fn:=fn) (by simp [hsz]) (fun t v hv=>by
       have hd':pt<n:=by simpa [Nat.blt_eq] using hpt
       unfold lk at hv
       cases hk:Nat.beq pt t with
       | true=>
        rw [hk] at hv
        simp only [cond_true,Option.some.injEq] at hv
        subst hv
        have:=Nat.eq_of_beq_eq_true hk
        subst this
        simp [hsz,hd']
       | false=>
        rw [hk] at hv
        have hne:pt≠t:=Nat.ne_of_beq_eq_false hk
        rw [Array.getElem?_setIfInBounds_ne hne]
        exact hget t v hv) hk
      have efold:(rc.params.zip ([Value.agg (aI ent).toArray]:List Value).toArray).foldl (fun tmps (t,a)=>tmps.setIfInBounds t a) rc.tmps=tm.setIfInBounds pt (.agg (aI ent).toArray):=by rw [← hrc];simp
      have e1:rc.fn=fn:=by rw [← hrc]
      have e2:rc.assign=asg:=by rw [← hrc]
      have e3:rc.body=bd:=by rw [← hrc]
      have e4:({ rc with state:=.ready,pending:=none }:Loop)=rc:=by rw [← hrc]
      show RoundIn Fence.wide 0 Tryz.prog L rc.fn ((rc.params.zip ([Value.agg (aI ent).toArray]:List Value).toArray).foldl (fun tmps (t,a)=>tmps.setIfInBounds t a) rc.tmps) rc.assign rc.body w _
      rw [efold,e1,e2,e3]
      refine hround.mono ?_
      rintro y w' (⟨rfl,rfl,hs⟩|⟨rfl,rfl,hs⟩)
      ·refine ⟨_,rfl,?_⟩
       rw [e4] at hs
       have hs:=Sat.o5 (X:=ob false L (.loop rc)::C s') (F:=F) hs
       refine MH ?_
       refine go ?_
       exact az (s',nx',D2,f) ⟨rfl,rfl,rfl,trivial⟩ ⟨h,hs.to⟩ (by show f<f+1;omega)
      ·refine ⟨_,rfl,?_⟩
       simp only [Option.some.injEq,Prod.mk.injEq] at h
       obtain ⟨rfl,rfl,rfl⟩:=h
       have hs:=Sat.o5 (X:=ob false L (.loop { rc with state:=.done,pending:=some (.exit id) })::C s') (F:=F) hs
       refine MH ?_
       refine go ?_
       refine ah rfl ⟨_,rfl,{ rc with state:=.done,pending:=some (.exit id) },_,hs.to (a:=ob false L (.loop { rc with state:=.done,pending:=some (.exit id) })::ob false Dk (.deferred (some []))::blk eb 41 [.nilIface]::aH .nilIface none::aO m M::aj d D2::(C s'++F)),rfl,.inr ⟨id,rfl,fun w4 h4=>ke (.exit id) Dk _ w4 (.inr rfl) h4.drop⟩⟩
end
section
open Go.Proofs.YtecibefflhomdaaGreatDoor.Pure (ae aB Rd bH less aR aZ bL bC aF dj dec)
structure Wr where
 file:Bs
 inb:Bs
 first:Bs
 blocks:List (Bs×Nat×Nat)
def kZ (s:Wr):Option Wr:=if s.inb.length≤1048576∧s.file.length≤iq∧s.blocks.length≤iq then some ⟨s.file++aF s.inb,[],s.first,s.blocks++[(s.first,s.file.length,(aF s.inb).length)]⟩ else none
def BF (e:aB):Bool:=Nat.ble e.key.length 1000&&(e.del||Nat.ble e.val.length 1000)
def stepW (l:List aB) (i:Nat) (e:aB) (s:Wr):Option Wr:=
 if s.inb.length≤1048576∧BF e=true then
  (if 300≤s.inb.length then match l[i-1]? with
    | none=>none
    | some p=>if e.key=p.key then some s else (kZ s).map fun s=>{ s with first:=e.key }
  else some s).map fun s=>{ s with inb:=s.inb++dj e }
 else none
def lU (l:List aB):Nat→List aB→Wr→Option Wr
 | _,[],s=>some s
 | i,e::r,s=>match stepW l i e s with
  | none=>none
  | some s=>lU l (i+1) r s
def iP (first last:Bs) (count:Nat) (bs:List (Bs×Nat×Nat)):Bs:=
 bC first++bC last++bL count 4++(bs.map fun b=>bC b.1++bL b.2.1 4++bL b.2.2 4).flatten
def HA (l:List aB):Option (Bs×List (Bs×Nat×Nat)):=match l,l.getLast? with
 | e::_,some z=>match (lU l 0 l ⟨[],[],e.key,[]⟩).bind kZ with
  | none=>none
  | some s=>if s.file.length≤iq∧s.blocks.length≤1048576∧l.length≤1048576∧(s.blocks.all fun b=>Nat.ble b.1.length 255&&Nat.ble b.2.1 iq&&Nat.ble b.2.2 iq)=true∧e.key.length≤255∧z.key.length≤255 then
   some (s.file++aF (iP e.key z.key l.length s.blocks)++aF (bL s.file.length 8),s.blocks) else none
 | _,_=>none
end
section
open Go.Proofs.YtecibefflhomdaaGreatDoor.Pure (ae aB Rd bH less aR aZ bL bC aF dj dec)
def dP:List aB→Bs
 | []=>[]
 | e::_=>e.key
def fJ (l:List aB):Bs:=match l.getLast? with
 | none=>[]
 | some e=>e.key
def om (D:ae) (name:Bs) (l:List aB):Option (Except cx bN×ae):=match HA l with
 | none=>none
 | some z=>if D.moves.length≤iq then (match gA D name with
  | some e=>some (.error e,cR D name)
  | none=>match dW (cR D name) name z.1 with
   | some e=>some (.error e,cg (cR D name) name z.1)
   | none=>match bx (cg (cR D name) name z.1) name with
    | some e=>some (.error e,gz (cg (cR D name) name z.1) name)
    | none=>some (.ok ⟨name,dP l,fJ l,l.length,z.2⟩,gz (cg (cR D name) name z.1) name)) else none
end
section
open Go.Proofs.YtecibefflhomdaaGreatDoor.Pure (ae aB Rd bH less aR aZ bL bC aF dj dec kj dU aD Kp I1 gw kU cG gR bc eg Sc I2 mo)
abbrev Out (α:Type):=Option (Except cx α×ae)
def fD:Nat→Rd→List (Bs×Nat×Nat)×Bool
 | 0,r=>([],r.bad)
 | f+1,r=>if r.rest≠[]∧r.bad=false then ((r.text.1,(r.text.2.num 4).1,((r.text.2.num 4).2.num 4).1)::(fD f ((r.text.2.num 4).2.num 4).2).1,(fD f ((r.text.2.num 4).2.num 4).2).2) else ([],r.bad)
def BG (nm y:Bs):Except cx bN:=
 let a:=Rd.text ⟨y,false⟩
 let b:=a.2.text
 let c:=b.2.num 4
 let p:=fD y.length c.2
 if p.2=true∨p.1=[] then .error (some nm,7) else .ok ⟨nm,a.1,b.1,c.1,p.1⟩
def D7 (D:ae) (nm:Bs) (at_:Nat) (m:Int):Out bN:=match bx D nm with
 | some e=>some (.error e,(counted D m).tick)
 | none=>match bH (iZ D nm at_ m) with
  | none=>some (.error (some nm,7),(counted D m).tick)
  | some y=>if (iZ D nm at_ m).length≤iq then some (BG nm y.1,(counted D m).tick) else none
def yc (D:ae) (nm:Bs):Out bN:=match bx D nm with
 | some e=>some (.error e,D.tick)
 | none=>match bx D.tick nm with
  | some e=>some (.error e,(counted D.tick 20).tick)
  | none=>match bH (iZ D.tick nm ((j6 D nm:Int)-20) 20) with
   | none=>some (.error (some nm,7),(counted D.tick 20).tick)
   | some z=>if z.1.length≠8 then some (.error (some nm,7),(counted D.tick 20).tick) else
    if j6 D nm<kj z.1 then some (.error (some nm,7),(counted D.tick 20).tick) else
    D7 (counted D.tick 20).tick nm (kj z.1) ((j6 D nm:Int)-20-(kj z.1:Int))
structure nH where
 memory:Nat
 tables:Nat
deriving DecidableEq
structure St where
 levels:List (List bN)
 mem:List aB
 log:Bs
 seq:Nat
 number:Nat
 snaps:List (Int×Nat)
 snap:Nat
def aU:Bs:=[115,116,97,116,101]
def bj:Bs:=[115,116,97,116,101,46,110,101,119]
def dZ (n:Nat):Bs:=[116,97,98,108,101]++dec n
def cj (n:Nat):Bs:=[108,111,103]++dec n
def BH (ms:List Nat) (bottom:Bool) (s:Kp) (e:aB):Option (Kp×Bool):=if s.out.length+s.same.length≤iq then some (kU ms bottom s e,true) else none
def aN (s:St):List Nat:=aE::s.snaps.map (·.2)
def sZ (s:St) (D:ae) (nx:Nx) (bottom:Bool):Out (List aB):=if 8<s.snaps.length then none else match pz s.mem (BH (aN s) bottom) iq nx D I1 with
 | none=>none
 | some (k,some e,D')=>if k.out.length+k.same.length≤iq then some (.error e,D') else none
 | some (k,none,D')=>if k.out.length+k.same.length≤iq then some (.ok (gw bottom k).out,D') else none
def nL (l:List aB):Nat→Nat→Nat
 | 0,n=>n
 | f+1,n=>if n<l.length∧(l.getD n default).key=(l.getD (n-1) default).key then nL l f (n+1) else n
def lV (l:List aB):Nat:=nL l l.length (min l.length 95)
def lf:Nat→Nat→ae→List aB→List bN→Out (List bN×Nat)
 | _,num,D,[],acc=>some (.ok (acc,num),D)
 | 0,_,_,_::_,_=>none
 | f+1,num,D,e::r,acc=>if num≤4611686018427387904∧(e::r).length≤iq∧acc.length≤iq then match om D (dZ (num+1)) ((e::r).take (lV (e::r))) with
  | none=>none
  | some (.error x,D')=>some (.error x,D')
  | some (.ok T,D')=>lf f (num+1) D' ((e::r).drop (lV (e::r))) (acc++[T]) else none
inductive L7 where
 | create (n:Bs)
 | append (n b:Bs)
 | sync (n:Bs)
 | rename (a b:Bs)
 | zU
 | remove (n:Bs)
def eM (D:ae):L7→Option (Option cx×ae)
 | .create n=>if D.moves.length≤iq then some (gA D n,cR D n) else none
 | .append n b=>some (dW D n b,cg D n b)
 | .sync n=>some (bx D n,gz D n)
 | .rename a b=>if D.moves.length≤iq then some (bx D a,fW D a b) else none
 | .zU=>some (if D.eh=true then some (some [],8) else none,fj D)
 | .remove n=>if D.moves.length≤iq then some (bx D n,fx D n) else none
def eZ:List L7→ae→Option (Option cx×ae)
 | [],D=>some (none,D)
 | o::r,D=>match eM D o with
  | none=>none
  | some (some e,D')=>some (some e,D')
  | some (none,D')=>eZ r D'
def eN:Nat→List (List bN)→Bs
 | _,[]=>[]
 | i,l::r=>(l.map fun T=>UInt8.ofNat i::bC T.name).flatten++eN (i+1) r
def cw (s:St):Bs:=bL s.number 8++bL s.seq 8++bC s.log++eN 0 s.levels
def s8 (s:St):Bool:=decide (s.number≤4611686018427387904)&&decide (s.seq≤4611686018427387904)&&Nat.ble s.log.length 255&&(s.levels.all fun l=>decide (l.length≤1048576)&&l.all fun T=>Nat.ble T.name.length 255)
def p7 (s:St) (old:Option Bs):List L7:=[.create bj,.append bj (aF (cw s)),.sync bj,.rename bj aU,.zU]++(match old with|none=>[]|some o=>[.remove o])
def gP (s:St) (D:ae) (newLog:Bool):Out St:=
 if newLog=true then (if s.number≤4611686018427387904 then match eM D (.create (cj (s.number+1))) with
  | none=>none
  | some (some e,D')=>some (.error e,D')
  | some (none,D')=>
   let s':={ s with number:=s.number+1,log:=cj (s.number+1) }
   if s8 s'=true then match eZ (p7 s' (if s.log=[] then none else some s.log)) D' with
    | none=>none
    | some (some e,D2)=>some (.error e,D2)
    | some (none,D2)=>some (.ok s',D2) else none else none)
 else (if s8 s=true then match eZ (p7 s none) D with
  | none=>none
  | some (some e,D2)=>some (.error e,D2)
  | some (none,D2)=>some (.ok s,D2) else none)
def ei {α β:Type} (x:Out α) (k:α→ae→Out β):Out β:=match x with
 | none=>none
 | some (.error e,D)=>some (.error e,D)
 | some (.ok a,D)=>k a D
def jG (s:St) (a b:Nat):List bN:=((s.levels.take (b+1)).drop a).flatten
def m9 (s:St) (b:Nat):Bool:=(s.levels.drop (b+1)).all List.isEmpty
def lh (s:St) (D:ae) (a b:Nat):Out St:=
 if (jG s a b).length≤iq∧s.mem.length≤iq then
 ei (sZ s D (.mg ⟨false,(jG s a b).map fun T=>eH T [],[]⟩) (m9 s b)) fun l D=>
 ei (lf iq s.number D l []) fun ts D=>
 ei (gP { s with number:=ts.2,levels:=s.levels.take a++List.replicate (b-a) []++ts.1::s.levels.drop (b+1) } D false) fun s' D=>
 match eZ ((jG s a b).map fun T=>.remove T.name) D with
  | none=>none
  | some (some e,D')=>some (.error e,D')
  | some (none,D')=>some (.ok s',D')
 else none
def Gg (o:nH) (i:Nat) (s:St) (D:ae):Out St:=if o.tables<(s.levels.getD i []).length then lh s D i (i+1) else some (.ok s,D)
def iA (o:nH):Nat→Nat→St→ae→Out St
 | 0,_,s,D=>some (.ok s,D)
 | f+1,i,s,D=>ei (Gg o i s D) fun s D=>iA o f (i+1) s D
def nc (o:nH) (s:St) (D:ae):Out St:=
 ei (if o.tables≤(s.levels.getD 0 []).length then lh s D 0 1 else some (.ok s,D)) fun s D=>iA o 2 1 s D
def nd (o:nH) (s:St) (D:ae):Out St:=if iq<s.mem.length then none else
 ei (sZ s D (.one (iO s.mem [])) false) fun l D=>
 ei (lf iq s.number D l []) fun ts D=>
 if (s.levels.getD 0 []).length+ts.1.length≤iq then
 ei (gP { s with number:=ts.2,levels:=(s.levels.getD 0 []++ts.1)::s.levels.drop 1,mem:=[] } D true) fun s D=>
 nc o s D else none
def lj (o:nH) (s:St) (D:ae):Out St:=
 ei (if 0<s.mem.length then nd o s D else some (.ok s,D)) fun s D=>lh s D 0 3
def lB (q:Nat) (l:List cG):Bs:=bL q 8++((bc q l).map dj).flatten
def eI (s:St) (l:List cG):St:={ s with seq:=s.seq+l.length,mem:=(bc s.seq l).foldl dU s.mem }
def oo (o:nH) (s:St) (D:ae) (l:List cG) (sync:Bool):Out St:=
 if s.seq≤4611686018427387904∧s.mem.length≤1048576 then
 match eM D (.append s.log (aF (lB s.seq l))) with
 | none=>none
 | some (some e,D')=>some (.error e,D')
 | some (none,D1)=>match (if sync=true then eM D1 (.sync s.log) else some (none,D1)) with
  | none=>none
  | some (some e,D')=>some (.error e,D')
  | some (none,D2)=>if o.memory≤(eI s l).mem.length then nd o (eI s l) D2 else some (.ok (eI s l),D2)
 else none
def cJ (s:St):List bN:=(s.levels.getD 0 []).reverse++(s.levels.drop 1).flatten
def kq (key:Bs) (seq:Nat):List bN→ae→Out (Option aB)
 | [],D=>some (.ok none,D)
 | T::r,D=>match sU D T key seq with
  | none=>none
  | some (.error e,D')=>some (.error e,D')
  | some (.ok (some x),D')=>some (.ok (some x),D')
  | some (.ok none,D')=>kq key seq r D'
def vM (s:St) (D:ae) (key:Bs) (seq:Nat):Out (Option Bs):=
 if key.length=0∨8<key.length then some (.error (none,3),D) else match py s.mem key seq with
 | some e=>some (.ok (eg (some e)),D)
 | none=>match kq key seq (cJ s) D with
  | none=>none
  | some (.error e,D')=>some (.error e,D')
  | some (.ok x,D')=>some (.ok (eg x),D')
def BI (hi:Bs) (limit:Int) (seq:Nat) (s:Sc) (e:aB):Option (Sc×Bool):=if s.out.length≤iq then some (mo hi limit seq s e) else none
def yd (s:St) (D:ae) (lo hi:Bs) (limit:Int) (seq:Nat):Out (List (Bs×Bs)):=
 if (cJ s).length+1≤iq then
 match pz s.mem (BI hi limit seq) iq (.mg ⟨false,iO s.mem lo::(cJ s).map fun T=>eH T lo,[]⟩) D I2 with
 | none=>none
 | some (_,some e,D')=>some (.error e,D')
 | some (k,none,D')=>some (.ok k.out,D') else none
end
section
open Go.Proofs.YtecibefflhomdaaGreatDoor.Pure (ae aB Rd bH less aR aZ bL bC aF dj dec kj Kp I1 gw kU js gG keeps)
attribute [local irreducible] IntKind.wrap
section
variable {ops:Array Oper} {Q:Exit→Act→World→Prop} {n:Nat} {ds:Md} {e:Env} {w w':World} {rest:List Oper}
variable {op:Op} {ty:TypeId} {pos:String} {af:Array Edge} {d:Nat} {v u:Value} {W0:World} {l l' r r':List ax}
theorem OI {x y:Operand} {t ty2:TypeId} {a b:Bs} (hx:ev e x=some (str a)) (hy:ev e y=some (str b)) (hl:a.length+b.length≤4611686018427387904) (hd:Nat.blt d n=true)
 (kk:WL ops Q n ds rest ((d,str (a++b))::e) w):WL ops Q n ds (⟨some d,.binOp .add t x y ty2,ty,pos,af,none⟩::rest) e w:=by
 refine bX (w':=w) (fun act ha=>?_) hd kk
 have h1:=ha.ev hx
 have h2:=ha.ev hy
 have hsz:¬ ((((⟨a.toArray⟩:ByteArray).size+(⟨b.toArray⟩:ByteArray).size:Nat):Int) > IntKind.i64.max):=by
  show ¬ (((a.toArray.size+b.toArray.size:Nat):Int) > 9223372036854775807)
  simp;omega
 have happ:(⟨a.toArray⟩:ByteArray)++⟨b.toArray⟩=⟨(a++b).toArray⟩:=by
  apply ByteArray.ext;simp
 have hg:(eqGuard .add t x y (str a) (str b)).run Tryz.prog w=.ok () w:=by simp only [eqGuard];split<;>simp
 have hb:(Go.binOp .add t (str a) (str b)).run Tryz.prog w=.ok (str (a++b)) w:=by
  simp only [Go.binOp,Op.stringOp]
  rw [if_neg hsz,happ];rfl
 simp [execOp,h1,h2,hg,hb]
end
variable {W0 w:World} {F:List ax} {v:Value} {d m p:Nat} {T:bN} {D D':ae} {M:List aB}
def eV (d:Nat) (v:Value) (Ts:List bN):ax:=fun h=>∃ ps:List Nat,ps.length=Ts.length∧cL [aL 1 v 193 ps.length (ps.map ay),star (List.zipWith (cF d) ps Ts)] h
theorem Sat.iW {Ts:List bN} (h:Sat W0 (eV d v Ts::F) w):∃ ps:List Nat,ps.length=Ts.length∧Sat W0 (aL 1 v 193 ps.length (ps.map ay)::star (List.zipWith (cF d) ps Ts)::F) w:=
 h.e9 fun _ ⟨ps,h1,k⟩=>⟨ps,h1,k⟩
theorem Sat.jA {Ts:List bN} {ps:List Nat} (h1:ps.length=Ts.length) (h:Sat W0 (aL 1 v 193 ps.length (ps.map ay)::star (List.zipWith (cF d) ps Ts)::F) w):Sat W0 (eV d v Ts::F) w:=
 Sat.close (B:=[aL 1 v 193 ps.length (ps.map ay),star (List.zipWith (cF d) ps Ts)]) h fun _ k=>⟨ps,h1,k⟩
theorem Sat.ye (h:Sat W0 F w):Sat W0 (eV d (.slice none 0 0) []::F) w:=by
 refine Sat.jA (ps:=[]) rfl (Sat.cH (h.imp fun hp k=>?_))
 exact ⟨fun _=>none,hp,fun _ _ _ hx=>(by cases hx),fun _ _ hx=>(by cases hx),Hp.le_refl _,trivial,k⟩
structure SZ where
 m:Nat
 l0:Value
 l1:Value
 l2:Value
 l3:Value
 sn:Nat
structure SK where
 d:Nat
 o:nH
 cl:Bool
 br:Value
 mu:Value
def aA (l:List (Int×Nat)):List (Int×Value):=l.map fun p=>(p.1,uV p.2)
abbrev ak (K:SK) (z:SZ) (s:St):List Value:=
 [K.mu,.int .u32 0,ay K.d,.int .i64 (K.o.memory:Int),.int .i64 (K.o.tables:Int),.bool K.cl,K.br,z.l0,z.l1,z.l2,z.l3,ay z.m,str s.log,uV s.seq,uV s.number,.map (some z.sn),.int .i64 (s.snap:Int)]
abbrev Re (b:Nat) (K:SK) (z:SZ) (s:St):List ax:=
 [blk b 133 (ak K z s),eV K.d z.l0 (s.levels.getD 0 []),eV K.d z.l1 (s.levels.getD 1 []),eV K.d z.l2 (s.levels.getD 2 []),eV K.d z.l3 (s.levels.getD 3 []),aO z.m s.mem,aM aY z.sn (aA s.snaps)]
def Q8 (b:Nat) (K:SK) (s:St):ax:=fun h=>s.levels.length=4∧∃ z,cL (Re b K z s) h
theorem BJ:∀ (f n:Nat),Pure.jM f n≤f+1
 | 0,_=>Nat.le_refl _
 | f+1,n=>by
  unfold Pure.jM
  have:=BJ f (n / 10)
  split<;>omega
theorem BK (v:Value) (o:Option cx):F6 (aH v o):=fun h k=>by
 match o,k with
 | none,k=>exact k
 | some (none,_),k=>exact k
 | some (some _,_),⟨b,h1,h2⟩=>exact ⟨b,h1,by simp [Hp.sh,h2]⟩
theorem p8 {b:Nat} {K:SK} {z:SZ} {s:St} {kind:Bs} (hs:Sat W0 (blk b 133 (ak K z s)::F) w) (hk:kind.length≤1000) (hn:s.number≤4611686018427387904) (hW:jF W0) :
 Calls Tryz.prog 171 #[ay b,str kind] w fun x w'=>x=.returned (str (kind++dec (s.number+1)))∧Sat W0 (blk b 133 (ak K z { s with number:=s.number+1 })::F) w':=by
 refine enter Tryz.func171 rfl Tryz.ntmps171 Tryz.results171 rfl ?_
 refine go ?_
 refine bK hs fun w hs=>?_
 have hs:Sat W0 (blk b 133 (ak K z { s with number:=s.number+1 })::F) w:=hs
 refine go ?_
 refine ag (met (Hy (n:=s.number+1) (by omega) hW hs) ?_)
 rintro _ w ⟨rfl,hs⟩
 refine ⟨_,rfl,?_⟩
 have hdl:(dec (s.number+1)).length≤1000:=by
  unfold Pure.dec
  rw [Pure.FV]
  have:=BJ 20 (s.number+1);omega
 refine OI rfl rfl (by omega) rfl ?_
 refine go ?_
 exact ah rfl ⟨rfl,hs⟩
def tO (K:SK) (be:Option cx):Option cx:=if K.cl=true then some (none,6) else be
theorem Sat.jN {k:Nat} (h:Sat W0 F w):Sat W0 (aH (.iface 44 (.int .i64 (k:Int))) (some (none,k))::F) w:=h.imp fun hp r=>⟨fun _=>none,hp,fun _ _ _ hx=>(by cases hx),fun _ _ hx=>(by cases hx),Hp.le_refl _,rfl,r⟩
theorem fP {b:Nat} {K:SK} {z:SZ} {s:St} {be:Option cx} (hs:Sat W0 (blk b 133 (ak K z s)::aH K.br be::F) w) :
 Calls Tryz.prog 82 #[ay b] w fun x w'=>∃ ve,x=.returned ve∧Sat W0 (aH ve (tO K be)::blk b 133 (ak K z s)::aH K.br be::F) w':=by
 refine enter Tryz.func82 rfl Tryz.ntmps82 Tryz.results82 rfl ?_
 obtain ⟨d,o,cl,br,mu⟩:=K
 dsimp only at hs ⊢
 unfold tO
 cases cl with
 | true=>
  refine go ?_
  exact ah rfl ⟨_,rfl,Sat.jN (k:=6) hs⟩
 | false=>
  refine go ?_
  exact ah rfl ⟨_,rfl,(Sat.od (BK _ _) (hs.take (.there .here))).to⟩
theorem zV {b:Nat} {K:SK} {z:SZ} {s:St} (hs:Sat W0 (blk b 133 (ak K z s)::aM aY z.sn (aA s.snaps)::F) w) (hl:s.snaps.length≤8) :
 Calls Tryz.prog 205 #[ay b] w fun x w'=>∃ (mv:Value) (us:List Nat),x=.returned mv∧us.Perm (aN s)∧Sat W0 (aL 1 mv 131 us.length (us.map uV)::blk b 133 (ak K z s)::aM aY z.sn (aA s.snaps)::F) w':=by
 refine enter Tryz.func205 rfl Tryz.ntmps205 Tryz.results205 rfl ?_
 refine go ?_
 refine fL hs fun w b0 hs=>?_
 refine go ?_
 refine qu aY hs (.there (.there .here)) rfl rfl rfl fun w it hs=>?_
 refine go ?_
 have hs0:=Sat.dg (k:=1) (cap:=1) (len:=1) (cs:=[aE].map uV) (rest:=[]) (E:=131) (hs.take (.there .here)) (Nat.le_refl _) (by simp [maxLen]) rfl rfl (by simp [df])
 refine aJ (α:=List Nat×List (Int×Nat)×Option (Int×Value)×Value) (fun z'=>[(0,ay b),(3,z'.2.2.2),(11,.pointer (some ⟨it,0,none⟩))])
  (fun z' w=>(z'.1++z'.2.1.map (·.2)).Perm (aN s)∧Sat W0 (aL 1 z'.2.2.2 131 z'.1.length (z'.1.map uV)::gL aY z.sn it (aA s.snaps) (aA z'.2.1) z'.2.2.1::blk b 133 (ak K z s)::F) w) (fun z'=>z'.2.1.length) ([aE],s.snaps,none,.slice (some ⟨b0,0,none⟩) 1 1) ⟨rfl,rfl,rfl,trivial⟩ ⟨.refl _,hs0.to⟩ ?_
 clear hs hs0
 rintro ⟨us,left,last,mv⟩ w ⟨hp,hs⟩
 dsimp only at hp hs ⊢
 have hlen:us.length+left.length=s.snaps.length+1:=by
  have:=hp.length_eq
  simpa [aN] using this
 refine go ?_
 refine uf aY hs (.there .here) rfl rfl (fun h0=>?_) (fun l1 x l2 w hl' hs=>?_)
 ·have hl0:left=[]:=by unfold aA at h0;simpa using h0
  subst hl0
  simp only [List.map_nil,List.append_nil] at hp
  have hs:=(hs.take (.there .here)).oQ
  refine go ?_
  refine ag (met (DU (hs.take (.there .here)) (by have:=hp.length_eq;simp [aN] at this;omega) (by have:=hp.length_eq;simp [aN] at this;omega)) ?_)
  rintro _ w ⟨u,us',rfl,hp2,hs⟩
  refine ⟨_,rfl,go ?_⟩
  exact ah rfl ⟨_,us',rfl,hp2.trans hp,hs.to⟩
 ·unfold aA at hl'
  obtain ⟨n1,nr,rfl,rfl,hnr⟩:=List.map_eq_append_iff.1 hl'
  obtain ⟨y,n2,rfl,rfl,rfl⟩:=List.map_eq_cons_iff.1 hnr
  have e1:(n1.map fun p:Int×Nat=>(p.1,uV p.2))++(n2.map fun p=>(p.1,uV p.2))=aA (n1++n2):=by simp [aA]
  rw [e1] at hs
  refine go ?_
  refine qv aY hs .here rfl rfl ?_
  refine go ?_
  refine fL hs fun w b2 hs=>?_
  simp only [List.length_append,List.length_cons] at hlen
  refine dM hs fun v2 w hs=>?_
  refine go ?_
  refine az (us++[y.2],n1++n2,some (y.1,uV y.2),v2) ⟨rfl,rfl,rfl,trivial⟩ ⟨?_,?_⟩ (by dsimp only;simp)
  ·refine List.Perm.trans ?_ hp
   dsimp only
   simp only [List.map_append,List.map_cons,List.append_assoc,List.cons_append,List.nil_append]
   refine List.Perm.append_left _ ?_
   exact (List.perm_middle).symm
  ·dsimp only
   rw [List.map_append,List.length_append]
   exact hs.to
end
end Go.Proofs.YtecibefflhomdaaGreatDoor
