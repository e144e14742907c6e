/-
  Part 19: WALKS package rows; THE MIRROR, PART 2 tables that are written and opened; THE MIRROR, PART 3 tables written to the disk; THE MIRROR, PART 4 tables opened; WALKS package levels.
-/
import Derived.Test.YtecibefflhomdaaGreatDoorY16
import Derived.Test.YtecibefflhomdaaGreatDoorY18
set_option maxHeartbeats 8000000
set_option maxRecDepth 100000
set_option linter.all false
namespace Go.Proofs.YtecibefflhomdaaGreatDoor
open Go
section
open Go.Proofs.YtecibefflhomdaaGreatDoor.Pure (ad az Rd bI less aQ aZ)
attribute [local irreducible] IntKind.wrap
variable {W0 w:World} {F:List ah} {v:Value} {d m p:Nat} {T:cD} {D D':ad} {M:List az} {nx:Nx}
def Ej (d m:Nat) (v:Value):Nx→ah
 | .one it=>lL d m v it
 | .mg g=>Mm d m v g
theorem z8 {x:Except cy (Option az×Nx)} (h:so M D nx=some (x,D')) (hs:Sat W0 (Ej d m v nx::aR m M::ag d D::F) w) (hmx:M.length≤1099511627776) :
 ∃ f q,v=.func (.func f) #[] q∧lk tu f=some ()∧Calls Tryz.prog f (#[].toList++[]++q.toList).toArray w (Ia W0 (Ej d m v) m d M x D' F):=by
 cases nx with
 | one it=>
  unfold so at h
  simp only [Option.map_eq_some_iff,Prod.mk.injEq] at h
  obtain ⟨⟨y,D2⟩,hn,rfl,rfl⟩:=h
  obtain ⟨f,q,rfl,hf,hc⟩:=sr hn hs hmx
  refine ⟨f,q,rfl,hf,hc.mono ?_⟩
  rintro _ w' ⟨ve,rfl,hs⟩
  refine ⟨ve,?_,?_⟩
  ·cases y with
   | error e=>rfl
   | ok z=>obtain ⟨o,it'⟩:=z;cases o<;>rfl
  ·cases y with
   | error e=>exact hs
   | ok z=>obtain ⟨o,it'⟩:=z;exact hs
 | mg g=>
  unfold so at h
  simp only [Option.map_eq_some_iff,Prod.mk.injEq] at h
  obtain ⟨⟨y,D2⟩,hn,rfl,rfl⟩:=h
  obtain ⟨hg,z,rfl,hs2⟩:=Sat.Ic hs
  refine ⟨214,_,rfl,rfl,(z7 hn hg hmx hs2).mono ?_⟩
  rintro _ w' ⟨ve,rfl,hs⟩
  refine ⟨ve,?_,?_⟩
  ·cases y with
   | error e=>rfl
   | ok z=>obtain ⟨o,it'⟩:=z;cases o<;>rfl
  ·cases y with
   | error e=>exact hs
   | ok z=>obtain ⟨o,it'⟩:=z;exact hs
theorem wN {f:Nat} {q:Array Value} {eb:Nat} (hs:Sat W0 F w) :
 Calls Tryz.prog 183 #[.func (.func f) #[] q,au eb] w fun y w'=>∃ bn be,y=.returned (.func (.func 211) #[] #[au bn,au be])∧Sat W0 (blk bn 288 [.func (.func f) #[] q]::blk be 312 [au eb]::F) w':=by
 refine enter Tryz.func183 rfl Tryz.ntmps183 Tryz.results183 rfl ?_
 refine go ?_
 refine cE hs fun w bn hs=>?_
 refine cE hs fun w be hs=>?_
 refine go ?_
 exact ak rfl ⟨_,_,rfl,hs.to⟩
theorem Sat.oz {X Y:List ah} (h:Sat W0 (X++(Y++F)) w):Sat W0 (Y++(X++F)) w:=h.imp fun hp k=>dI (dH (fun _=>dI) (ki (dH (fun _=>dJ) (dJ k))))
theorem Ek {Q:Exit→Act→World→Prop} {n:Nat} {ds:Md} {e:Env} {g:Operand} {pt:Tmp} {asg bd:Code} {σ:Type} {body:σ→az→Option (σ×Bool)} {C:σ→List ah} {ff id:Nat} {s0 s1:σ} {oe:Option cy} {bn be eb:Nat}
 (hr:ds.round=none) (hpt:Nat.blt pt n=true) (hg:ev e g=some (.func (.func 211) #[] #[au bn,au be])) (h:oR M body ff nx D s0=some (s1,oe,D')) (hmx:M.length≤1099511627776)
 (hs:Sat W0 (blk bn 288 [v]::blk be 312 [au eb]::blk eb 41 [.nilIface]::Ej d m v nx::aR m M::ag d D::(C s0++F)) w)
 (kb:∀ s ent s' c L rc G w,body s ent=some (s',c)→rc.state=.ready→Sat W0 (ob false L (.loop rc)::(C s++G)) w →
   WC asg (FE L bd fun y w'=>(c=true∧y=.returned (.bool true)∧Sat W0 (ob false L (.loop { rc with state:=.ready,pending:=none })::(C s'++G)) w') ∨
    (c=false∧y=.returned (.bool false)∧Sat W0 (ob false L (.loop { rc with state:=.done,pending:=some (.exit id) })::(C s'++G)) w')) n ⟨some L,[]⟩ ((pt,.agg (aF ent).toArray)::e) w)
 (ke:∀ x Dk ve w,x=.normal∨x=.exit id→Sat W0 (ob false Dk (.deferred (some []))::blk eb 41 [ve]::ax ve oe::aR m M::ag d D'::(C s1++F)) w→WQ Q x n ⟨none,jf Dk::ds.ds⟩ e w) :
 WC (.rangeFunc g #[pt] asg bd) Q n ds e w:=by
 refine zO (uu:=()) hr hs hg rfl fun fn tm L Dk w1 hsz hget hs=>?_
 refine enter (args:=[.func (.yield L) #[] #[],au bn,au be]) Tryz.func211 rfl Tryz.ntmps211 Tryz.results211 rfl ?_
 generalize hrc:({ state:=.ready,pending:=none,fn:=fn,tmps:=tm,params:=#[pt],assign:=asg,body:=bd,defers:=Dk }:Loop)=rc at *
 refine go ?_
 refine aL (α:=σ×Nx×ad×Nat) (fun z=>[(0,.func (.yield L) #[] #[]),(1,au bn),(2,au be)])
  (fun z w=>oR M body z.2.2.2 z.2.1 z.2.2.1 z.1=some (s1,oe,D')∧Sat W0 (ob false L (.loop rc)::ob false Dk (.deferred (some []))::blk bn 288 [v]::blk be 312 [au eb]::blk eb 41 [.nilIface]::Ej d m v z.2.1::aR m M::ag d z.2.2.1::(C z.1++F)) w) (fun z=>z.2.2.2) (s0,nx,D,ff) ⟨rfl,rfl,rfl,trivial⟩ ⟨h,hs⟩ ?_
 clear hs h
 rintro ⟨s,nx,D,f⟩ w ⟨h,hs⟩
 dsimp only at h hs ⊢
 cases f with
 | zero=>cases h
 | succ f=>
  unfold oR at h
  cases hn:so M D nx with
  | none=>rw [hn] at h;cases h
  | some y=>
   obtain ⟨y,D2⟩:=y
   rw [hn] at h
   have hs:=hs.to (a:=Ej d m v nx::aR m M::ag d D::ob false L (.loop rc)::ob false Dk (.deferred (some []))::blk bn 288 [v]::blk be 312 [au eb]::blk eb 41 [.nilIface]::(C s++F))
   obtain ⟨cf,cq,rfl,hcf,hcall⟩:=z8 hn hs hmx
   refine go ?_
   refine il rfl hcf rfl rfl (hcall.mono ?_)
   rintro _ w ⟨ve,rfl,hs⟩
   refine ⟨_,rfl,go ?_⟩
   refine aS hs fun w b4 hs=>?_
   refine cZ (vs:=aF (wK y)) hs fun w hs=>?_
   cases y with
   | error er=>
    simp only [Option.some.injEq,Prod.mk.injEq] at h
    obtain ⟨rfl,rfl,rfl⟩:=h
    obtain ⟨t,u,rfl⟩:=(hs.take (.there (.there .here))).aW
    refine go ?_
    refine bD hs fun w hs=>?_
    refine go ?_
    refine ak rfl ⟨_,rfl,rc,_,hs.to (a:=ob false L (.loop rc)::ob false Dk (.deferred (some []))::blk eb 41 [.iface t u]::ax (.iface t u) (some er)::aR m M::ag d D2::(C s++F)),by rw [← hrc];rfl,.inl ⟨by rw [← hrc],fun w4 h4=>ke .normal Dk _ w4 (.inl rfl) h4.drop⟩⟩
   | ok z=>
    obtain ⟨o,nx'⟩:=z
    have hve:=(hs.take (.there (.there .here))).cF
    subst hve
    cases o with
    | none=>
     simp only [Option.some.injEq,Prod.mk.injEq] at h
     obtain ⟨rfl,rfl,rfl⟩:=h
     refine go ?_
     refine ak rfl ⟨_,rfl,rc,_,hs.to (a:=ob false L (.loop rc)::ob false Dk (.deferred (some []))::blk eb 41 [.nilIface]::ax .nilIface none::aR m M::ag d D2::(C s++F)),by rw [← hrc];rfl,.inl ⟨by rw [← hrc],fun w4 h4=>ke .normal Dk _ w4 (.inl rfl) h4.drop⟩⟩
    | some ent=>
     dsimp only at h
     cases hbd:body s ent with
     | none=>rw [hbd] at h;cases h
     | some y=>
      obtain ⟨s',c⟩:=y
      rw [hbd] at h
      refine pr ?_
      refine db rfl ?_
      refine dU ?_
      refine dU ?_
      refine pr ?_
      refine db rfl ?_
      refine pr ?_
      refine db rfl ?_
      refine dU ?_
      refine ui rfl ?_
      refine Kt ?_
      refine HN rfl ?_
      have hs:=Sat.oz (X:=[blk b4 256 (aF ent),Ej d m (.func (.func cf) #[] cq) nx',ax .nilIface none,aR m M,ag d D2,ob false Dk (.deferred (some [])),blk bn 288 [.func (.func cf) #[] cq],blk be 312 [au eb],blk eb 41 [.nilIface]]) (Y:=ob false L (.loop rc)::C s) (F:=F) (hs.to (a:=blk b4 256 (aF ent)::Ej d m (.func (.func cf) #[] cq) nx'::ax .nilIface none::aR m M::ag d D2::ob false Dk (.deferred (some []))::blk bn 288 [.func (.func cf) #[] cq]::blk be 312 [au eb]::blk eb 41 [.nilIface]::ob false L (.loop rc)::(C s++F)))
      have hst:rc.state=.ready:=by rw [← hrc]
      have hk:=kb s ent s' c L rc _ w hbd hst hs
      refine wE hs rfl rfl (by rw [← hrc];rfl) rfl ?_
      have hround:=zN (n:=n) (e:=(pt,.agg (aF ent).toArray)::e) (tm:=tm.setIfInBounds pt (.agg (aF ent).toArray)) (fn:=fn) (by simp [hsz]) (fun t v hv=>by
       have hd':pt<n:=by simpa [Nat.blt_eq] using hpt
       unfold lk at hv
       cases hk:Nat.beq pt t with
       | true=>
        rw [hk] at hv
        simp only [cond_true,Option.some.injEq] at hv
        subst hv
        have:=Nat.eq_of_beq_eq_true hk
        subst this
        simp [hsz,hd']
       | false=>
        rw [hk] at hv
        have hne:pt≠t:=Nat.ne_of_beq_eq_false hk
        rw [Array.getElem?_setIfInBounds_ne hne]
        exact hget t v hv) hk
      have efold:(rc.params.zip ([Value.agg (aF ent).toArray]:List Value).toArray).foldl (fun tmps (t,a)=>tmps.setIfInBounds t a) rc.tmps=tm.setIfInBounds pt (.agg (aF ent).toArray):=by rw [← hrc];simp
      have e1:rc.fn=fn:=by rw [← hrc]
      have e2:rc.assign=asg:=by rw [← hrc]
      have e3:rc.body=bd:=by rw [← hrc]
      have e4:({ rc with state:=.ready,pending:=none }:Loop)=rc:=by rw [← hrc]
      show RoundIn Fence.wide 0 Tryz.prog L rc.fn ((rc.params.zip ([Value.agg (aF ent).toArray]:List Value).toArray).foldl (fun tmps (t,a)=>tmps.setIfInBounds t a) rc.tmps) rc.assign rc.body w _
      rw [efold,e1,e2,e3]
      refine hround.mono ?_
      rintro y w' (⟨rfl,rfl,hs⟩|⟨rfl,rfl,hs⟩)
      ·refine ⟨_,rfl,?_⟩
       rw [e4] at hs
       have hs:=Sat.oz (X:=ob false L (.loop rc)::C s') (F:=F) hs
       refine Kt ?_
       refine go ?_
       exact aB (s',nx',D2,f) ⟨rfl,rfl,rfl,trivial⟩ ⟨h,hs.to⟩ (by show f<f+1;omega)
      ·refine ⟨_,rfl,?_⟩
       simp only [Option.some.injEq,Prod.mk.injEq] at h
       obtain ⟨rfl,rfl,rfl⟩:=h
       have hs:=Sat.oz (X:=ob false L (.loop { rc with state:=.done,pending:=some (.exit id) })::C s') (F:=F) hs
       refine Kt ?_
       refine go ?_
       refine ak rfl ⟨_,rfl,{ rc with state:=.done,pending:=some (.exit id) },_,hs.to (a:=ob false L (.loop { rc with state:=.done,pending:=some (.exit id) })::ob false Dk (.deferred (some []))::blk eb 41 [.nilIface]::ax .nilIface none::aR m M::ag d D2::(C s'++F)),rfl,.inr ⟨id,rfl,fun w4 h4=>ke (.exit id) Dk _ w4 (.inr rfl) h4.drop⟩⟩
end
section
open Go.Proofs.YtecibefflhomdaaGreatDoor.Pure (ad az Rd bI less aQ aZ bM bE aD cY dec)
structure Wr where
 file:Bs
 inb:Bs
 first:Bs
 blocks:List (Bs×Nat×Nat)
def kN (s:Wr):Option Wr:=if s.inb.length≤1048576∧s.file.length≤gW∧s.blocks.length≤gW then some ⟨s.file++aD s.inb,[],s.first,s.blocks++[(s.first,s.file.length,(aD s.inb).length)]⟩ else none
def Aa (e:az):Bool:=Nat.ble e.key.length 1000&&(e.del||Nat.ble e.val.length 1000)
def stepW (l:List az) (i:Nat) (e:az) (s:Wr):Option Wr:=
 if s.inb.length≤1048576∧Aa e=true then
  (if 300≤s.inb.length then match l[i-1]? with
    | none=>none
    | some p=>if e.key=p.key then some s else (kN s).map fun s=>{ s with first:=e.key }
  else some s).map fun s=>{ s with inb:=s.inb++cY e }
 else none
def lG (l:List az):Nat→List az→Wr→Option Wr
 | _,[],s=>some s
 | i,e::r,s=>match stepW l i e s with
  | none=>none
  | some s=>lG l (i+1) r s
def ir (first last:Bs) (count:Nat) (bs:List (Bs×Nat×Nat)):Bs:=
 bE first++bE last++bM count 4++(bs.map fun b=>bE b.1++bM b.2.1 4++bM b.2.2 4).flatten
def FM (l:List az):Option (Bs×List (Bs×Nat×Nat)):=match l,l.getLast? with
 | e::_,some z=>match (lG l 0 l ⟨[],[],e.key,[]⟩).bind kN with
  | none=>none
  | some s=>if s.file.length≤gW∧s.blocks.length≤1048576∧l.length≤1048576∧(s.blocks.all fun b=>Nat.ble b.1.length 255&&Nat.ble b.2.1 gW&&Nat.ble b.2.2 gW)=true∧e.key.length≤255∧z.key.length≤255 then
   some (s.file++aD (ir e.key z.key l.length s.blocks)++aD (bM s.file.length 8),s.blocks) else none
 | _,_=>none
end
section
open Go.Proofs.YtecibefflhomdaaGreatDoor.Pure (ad az Rd bI less aQ aZ bM bE aD cY dec)
def dZ:List az→Bs
 | []=>[]
 | e::_=>e.key
def gl (l:List az):Bs:=match l.getLast? with
 | none=>[]
 | some e=>e.key
def nO (D:ad) (name:Bs) (l:List az):Option (Except cy cD×ad):=match FM l with
 | none=>none
 | some z=>if D.moves.length≤gW then (match gm D name with
  | some e=>some (.error e,cT D name)
  | none=>match dX (cT D name) name z.1 with
   | some e=>some (.error e,bZ (cT D name) name z.1)
   | none=>match bz (bZ (cT D name) name z.1) name with
    | some e=>some (.error e,dR (bZ (cT D name) name z.1) name)
    | none=>some (.ok ⟨name,dZ l,gl l,l.length,z.2⟩,dR (bZ (cT D name) name z.1) name)) else none
end
section
open Go.Proofs.YtecibefflhomdaaGreatDoor.Pure (ad az Rd bI less aQ aZ bM bE aD cY dec j3 dT aA Kp GQ gk kK bO gH bj dP Sc GR lV)
abbrev Out (α:Type):=Option (Except cy α×ad)
def fB:Nat→Rd→List (Bs×Nat×Nat)×Bool
 | 0,r=>([],r.bad)
 | f+1,r=>if r.rest≠[]∧r.bad=false then ((r.text.1,(r.text.2.num 4).1,((r.text.2.num 4).2.num 4).1)::(fB f ((r.text.2.num 4).2.num 4).2).1,(fB f ((r.text.2.num 4).2.num 4).2).2) else ([],r.bad)
def Ab (nm y:Bs):Except cy cD:=
 let a:=Rd.text ⟨y,false⟩
 let b:=a.2.text
 let c:=b.2.num 4
 let p:=fB y.length c.2
 if p.2=true∨p.1=[] then .error (some nm,7) else .ok ⟨nm,a.1,b.1,c.1,p.1⟩
def Cc (D:ad) (nm:Bs) (at_:Nat) (m:Int):Out cD:=match bz D nm with
 | some e=>some (.error e,(counted D m).tick)
 | none=>match bI (iC D nm at_ m) with
  | none=>some (.error (some nm,7),(counted D m).tick)
  | some y=>if (iC D nm at_ m).length≤gW then some (Ab nm y.1,(counted D m).tick) else none
def wO (D:ad) (nm:Bs):Out cD:=match bz D nm with
 | some e=>some (.error e,D.tick)
 | none=>match bz D.tick nm with
  | some e=>some (.error e,(counted D.tick 20).tick)
  | none=>match bI (iC D.tick nm ((jU D nm:Int)-20) 20) with
   | none=>some (.error (some nm,7),(counted D.tick 20).tick)
   | some z=>if z.1.length≠8 then some (.error (some nm,7),(counted D.tick 20).tick) else
    if jU D nm<j3 z.1 then some (.error (some nm,7),(counted D.tick 20).tick) else
    Cc (counted D.tick 20).tick nm (j3 z.1) ((jU D nm:Int)-20-(j3 z.1:Int))
structure ji where
 memory:Nat
 tables:Nat
deriving DecidableEq
structure St where
 levels:List (List cD)
 mem:List az
 log:Bs
 seq:Nat
 number:Nat
 snaps:List (Int×Nat)
 snap:Nat
def aP:Bs:=[115,116,97,116,101]
def aY:Bs:=[115,116,97,116,101,46,110,101,119]
def dp (n:Nat):Bs:=[116,97,98,108,101]++dec n
def bR (n:Nat):Bs:=[108,111,103]++dec n
def Ac (ms:List Nat) (bottom:Bool) (s:Kp) (e:az):Option (Kp×Bool):=if s.out.length+s.same.length≤gW then some (kK ms bottom s e,true) else none
def aK (s:St):List Nat:=aG::s.snaps.map (·.2)
def sx (s:St) (D:ad) (nx:Nx) (bottom:Bool):Out (List az):=if 8<s.snaps.length then none else match oR s.mem (Ac (aK s) bottom) gW nx D GQ with
 | none=>none
 | some (k,some e,D')=>if k.out.length+k.same.length≤gW then some (.error e,D') else none
 | some (k,none,D')=>if k.out.length+k.same.length≤gW then some (.ok (gk bottom k).out,D') else none
def nh (l:List az):Nat→Nat→Nat
 | 0,n=>n
 | f+1,n=>if n<l.length∧(l.getD n default).key=(l.getD (n-1) default).key then nh l f (n+1) else n
def lH (l:List az):Nat:=nh l l.length (min l.length 95)
def kO:Nat→Nat→ad→List az→List cD→Out (List cD×Nat)
 | _,num,D,[],acc=>some (.ok (acc,num),D)
 | 0,_,_,_::_,_=>none
 | f+1,num,D,e::r,acc=>if num≤4611686018427387904∧(e::r).length≤gW∧acc.length≤gW then match nO D (dp (num+1)) ((e::r).take (lH (e::r))) with
  | none=>none
  | some (.error x,D')=>some (.error x,D')
  | some (.ok T,D')=>kO f (num+1) D' ((e::r).drop (lH (e::r))) (acc++[T]) else none
inductive JO where
 | create (n:Bs)
 | append (n b:Bs)
 | sync (n:Bs)
 | rename (a b:Bs)
 | yr
 | remove (n:Bs)
def eL (D:ad):JO→Option (Option cy×ad)
 | .create n=>if D.moves.length≤gW then some (gm D n,cT D n) else none
 | .append n b=>some (dX D n b,bZ D n b)
 | .sync n=>some (bz D n,dR D n)
 | .rename a b=>if D.moves.length≤gW then some (bz D a,fM D a b) else none
 | .yr=>some (if D.eg=true then some (some [],8) else none,fh D)
 | .remove n=>if D.moves.length≤gW then some (bz D n,fq D n) else none
def eW:List JO→ad→Option (Option cy×ad)
 | [],D=>some (none,D)
 | o::r,D=>match eL D o with
  | none=>none
  | some (some e,D')=>some (some e,D')
  | some (none,D')=>eW r D'
def eM:Nat→List (List cD)→Bs
 | _,[]=>[]
 | i,l::r=>(l.map fun T=>UInt8.ofNat i::bE T.name).flatten++eM (i+1) r
def bT (s:St):Bs:=bM s.number 8++bM s.seq 8++bE s.log++eM 0 s.levels
def sy (s:St):Bool:=decide (s.number≤4611686018427387904)&&decide (s.seq≤4611686018427387904)&&Nat.ble s.log.length 255&&(s.levels.all fun l=>decide (l.length≤1048576)&&l.all fun T=>Nat.ble T.name.length 255)
def py (s:St) (old:Option Bs):List JO:=[.create aY,.append aY (aD (bT s)),.sync aY,.rename aY aP,.yr]++(match old with|none=>[]|some o=>[.remove o])
def gG (s:St) (D:ad) (newLog:Bool):Out St:=
 if newLog=true then (if s.number≤4611686018427387904 then match eL D (.create (bR (s.number+1))) with
  | none=>none
  | some (some e,D')=>some (.error e,D')
  | some (none,D')=>
   let s':={ s with number:=s.number+1,log:=bR (s.number+1) }
   if sy s'=true then match eW (py s' (if s.log=[] then none else some s.log)) D' with
    | none=>none
    | some (some e,D2)=>some (.error e,D2)
    | some (none,D2)=>some (.ok s',D2) else none else none)
 else (if sy s=true then match eW (py s none) D with
  | none=>none
  | some (some e,D2)=>some (.error e,D2)
  | some (none,D2)=>some (.ok s,D2) else none)
def dS {α β:Type} (x:Out α) (k:α→ad→Out β):Out β:=match x with
 | none=>none
 | some (.error e,D)=>some (.error e,D)
 | some (.ok a,D)=>k a D
def jq (s:St) (a b:Nat):List cD:=((s.levels.take (b+1)).drop a).flatten
def mN (s:St) (b:Nat):Bool:=(s.levels.drop (b+1)).all List.isEmpty
def kP (s:St) (D:ad) (a b:Nat):Out St:=
 if (jq s a b).length≤gW∧s.mem.length≤gW then
 dS (sx s D (.mg ⟨false,(jq s a b).map fun T=>eF T [],[]⟩) (mN s b)) fun l D=>
 dS (kO gW s.number D l []) fun ts D=>
 dS (gG { s with number:=ts.2,levels:=s.levels.take a++List.replicate (b-a) []++ts.1::s.levels.drop (b+1) } D false) fun s' D=>
 match eW ((jq s a b).map fun T=>.remove T.name) D with
  | none=>none
  | some (some e,D')=>some (.error e,D')
  | some (none,D')=>some (.ok s',D')
 else none
def El (o:ji) (i:Nat) (s:St) (D:ad):Out St:=if o.tables<(s.levels.getD i []).length then kP s D i (i+1) else some (.ok s,D)
def hO (o:ji):Nat→Nat→St→ad→Out St
 | 0,_,s,D=>some (.ok s,D)
 | f+1,i,s,D=>dS (El o i s D) fun s D=>hO o f (i+1) s D
def mO (o:ji) (s:St) (D:ad):Out St:=
 dS (if o.tables≤(s.levels.getD 0 []).length then kP s D 0 1 else some (.ok s,D)) fun s D=>hO o 2 1 s D
def mP (o:ji) (s:St) (D:ad):Out St:=if gW<s.mem.length then none else
 dS (sx s D (.one (iq s.mem [])) false) fun l D=>
 dS (kO gW s.number D l []) fun ts D=>
 if (s.levels.getD 0 []).length+ts.1.length≤gW then
 dS (gG { s with number:=ts.2,levels:=(s.levels.getD 0 []++ts.1)::s.levels.drop 1,mem:=[] } D true) fun s D=>
 mO o s D else none
def me (o:ji) (s:St) (D:ad):Out St:=
 dS (if 0<s.mem.length then mP o s D else some (.ok s,D)) fun s D=>kP s D 0 3
def kQ (q:Nat) (l:List bO):Bs:=bM q 8++((bj q l).map cY).flatten
def eG (s:St) (l:List bO):St:={ s with seq:=s.seq+l.length,mem:=(bj s.seq l).foldl dT s.mem }
def kR (o:ji) (s:St) (D:ad) (l:List bO) (sync:Bool):Out St:=
 if s.seq≤4611686018427387904∧s.mem.length≤1048576 then
 match eL D (.append s.log (aD (kQ s.seq l))) with
 | none=>none
 | some (some e,D')=>some (.error e,D')
 | some (none,D1)=>match (if sync=true then eL D1 (.sync s.log) else some (none,D1)) with
  | none=>none
  | some (some e,D')=>some (.error e,D')
  | some (none,D2)=>if o.memory≤(eG s l).mem.length then mP o (eG s l) D2 else some (.ok (eG s l),D2)
 else none
def cI (s:St):List cD:=(s.levels.getD 0 []).reverse++(s.levels.drop 1).flatten
def nd (key:Bs) (seq:Nat):List cD→ad→Out (Option az)
 | [],D=>some (.ok none,D)
 | T::r,D=>match um D T key seq with
  | none=>none
  | some (.error e,D')=>some (.error e,D')
  | some (.ok (some x),D')=>some (.ok (some x),D')
  | some (.ok none,D')=>nd key seq r D'
def vL (s:St) (D:ad) (key:Bs) (seq:Nat):Out (Option Bs):=
 if key.length=0∨8<key.length then some (.error (none,3),D) else match qo s.mem key seq with
 | some e=>some (.ok (dP (some e)),D)
 | none=>match nd key seq (cI s) D with
  | none=>none
  | some (.error e,D')=>some (.error e,D')
  | some (.ok x,D')=>some (.ok (dP x),D')
def Ad (hi:Bs) (limit:Int) (seq:Nat) (s:Sc) (e:az):Option (Sc×Bool):=if s.out.length≤gW then some (lV hi limit seq s e) else none
def Ae (s:St) (D:ad) (lo hi:Bs) (limit:Int) (seq:Nat):Out (List (Bs×Bs)):=
 if (cI s).length+1≤gW then
 match oR s.mem (Ad hi limit seq) gW (.mg ⟨false,iq s.mem lo::(cI s).map fun T=>eF T lo,[]⟩) D GR with
 | none=>none
 | some (_,some e,D')=>some (.error e,D')
 | some (k,none,D')=>some (.ok k.out,D') else none
end
section
open Go.Proofs.YtecibefflhomdaaGreatDoor.Pure (ad az Rd bI less aQ aZ bM bE aD cY dec j3 Kp GQ gk kK iX gr keeps)
attribute [local irreducible] IntKind.wrap
section
variable {ops:Array Oper} {Q:Exit→Act→World→Prop} {n:Nat} {ds:Md} {e:Env} {w w':World} {rest:List Oper}
variable {op:Op} {ty:TypeId} {pos:String} {af:Array Edge} {d:Nat} {v u:Value} {W0:World} {l l' r r':List ah}
theorem Mn {x y:Operand} {t ty2:TypeId} {a b:Bs} (hx:ev e x=some (str a)) (hy:ev e y=some (str b)) (hl:a.length+b.length≤4611686018427387904) (hd:Nat.blt d n=true)
 (kk:WL ops Q n ds rest ((d,str (a++b))::e) w):WL ops Q n ds (⟨some d,.binOp .add t x y ty2,ty,pos,af,none⟩::rest) e w:=by
 refine cj (w':=w) (fun act ha=>?_) hd kk
 have h1:=ha.ev hx
 have h2:=ha.ev hy
 have hsz:¬ ((((⟨a.toArray⟩:ByteArray).size+(⟨b.toArray⟩:ByteArray).size:Nat):Int) > IntKind.i64.max):=by
  show ¬ (((a.toArray.size+b.toArray.size:Nat):Int) > 9223372036854775807)
  simp;omega
 have happ:(⟨a.toArray⟩:ByteArray)++⟨b.toArray⟩=⟨(a++b).toArray⟩:=by
  apply ByteArray.ext;simp
 have hg:(eqGuard .add t x y (str a) (str b)).run Tryz.prog w=.ok () w:=by simp only [eqGuard];split<;>simp
 have hb:(Go.binOp .add t (str a) (str b)).run Tryz.prog w=.ok (str (a++b)) w:=by
  simp only [Go.binOp,Op.stringOp]
  rw [if_neg hsz,happ];rfl
 simp [execOp,h1,h2,hg,hb]
end
variable {W0 w:World} {F:List ah} {v:Value} {d m p:Nat} {T:cD} {D D':ad} {M:List az}
def eT (d:Nat) (v:Value) (Ts:List cD):ah:=fun h=>∃ ps:List Nat,ps.length=Ts.length∧cV [aE 1 v 193 ps.length (ps.map au),star (List.zipWith (cG d) ps Ts)] h
theorem Sat.ix {Ts:List cD} (h:Sat W0 (eT d v Ts::F) w):∃ ps:List Nat,ps.length=Ts.length∧Sat W0 (aE 1 v 193 ps.length (ps.map au)::star (List.zipWith (cG d) ps Ts)::F) w:=
 h.eI fun _ ⟨ps,h1,k⟩=>⟨ps,h1,k⟩
theorem Sat.jj {Ts:List cD} {ps:List Nat} (h1:ps.length=Ts.length) (h:Sat W0 (aE 1 v 193 ps.length (ps.map au)::star (List.zipWith (cG d) ps Ts)::F) w):Sat W0 (eT d v Ts::F) w:=
 Sat.close (B:=[aE 1 v 193 ps.length (ps.map au),star (List.zipWith (cG d) ps Ts)]) h fun _ k=>⟨ps,h1,k⟩
theorem Sat.wP (h:Sat W0 F w):Sat W0 (eT d (.slice none 0 0) []::F) w:=by
 refine Sat.jj (ps:=[]) rfl (Sat.cP (h.imp fun hp k=>?_))
 exact ⟨fun _=>none,hp,fun _ _ _ hx=>(by cases hx),fun _ _ hx=>(by cases hx),Hp.le_refl _,trivial,k⟩
structure SZ where
 m:Nat
 l0:Value
 l1:Value
 l2:Value
 l3:Value
 sn:Nat
structure SK where
 d:Nat
 o:ji
 cl:Bool
 br:Value
 mu:Value
def aC (l:List (Int×Nat)):List (Int×Value):=l.map fun p=>(p.1,uV p.2)
abbrev aj (K:SK) (z:SZ) (s:St):List Value:=
 [K.mu,.int .u32 0,au K.d,.int .i64 (K.o.memory:Int),.int .i64 (K.o.tables:Int),.bool K.cl,K.br,z.l0,z.l1,z.l2,z.l3,au z.m,str s.log,uV s.seq,uV s.number,.map (some z.sn),.int .i64 (s.snap:Int)]
abbrev OZ (b:Nat) (K:SK) (z:SZ) (s:St):List ah:=
 [blk b 133 (aj K z s),eT K.d z.l0 (s.levels.getD 0 []),eT K.d z.l1 (s.levels.getD 1 []),eT K.d z.l2 (s.levels.getD 2 []),eT K.d z.l3 (s.levels.getD 3 []),aR z.m s.mem,aO bB z.sn (aC s.snaps)]
def OU (b:Nat) (K:SK) (s:St):ah:=fun h=>s.levels.length=4∧∃ z,cV (OZ b K z s) h
theorem Af:∀ (f n:Nat),Pure.jz f n≤f+1
 | 0,_=>Nat.le_refl _
 | f+1,n=>by
  unfold Pure.jz
  have:=Af f (n / 10)
  split<;>omega
theorem Ag (v:Value) (o:Option cy):GU (ax v o):=fun h k=>by
 match o,k with
 | none,k=>exact k
 | some (none,_),k=>exact k
 | some (some _,_),⟨b,h1,h2⟩=>exact ⟨b,h1,by simp [Hp.sh,h2]⟩
theorem pz {b:Nat} {K:SK} {z:SZ} {s:St} {kind:Bs} (hs:Sat W0 (blk b 133 (aj K z s)::F) w) (hk:kind.length≤1000) (hn:s.number≤4611686018427387904) (hW:jB W0) :
 Calls Tryz.prog 171 #[au b,str kind] w fun x w'=>x=.returned (str (kind++dec (s.number+1)))∧Sat W0 (blk b 133 (aj K z { s with number:=s.number+1 })::F) w':=by
 refine enter Tryz.func171 rfl Tryz.ntmps171 Tryz.results171 rfl ?_
 refine go ?_
 refine bD hs fun w hs=>?_
 have hs:Sat W0 (blk b 133 (aj K z { s with number:=s.number+1 })::F) w:=hs
 refine go ?_
 refine ae (met (FK (n:=s.number+1) (by omega) hW hs) ?_)
 rintro _ w ⟨rfl,hs⟩
 refine ⟨_,rfl,?_⟩
 have hdl:(dec (s.number+1)).length≤1000:=by
  unfold Pure.dec
  rw [Pure.DT]
  have:=Af 20 (s.number+1);omega
 refine Mn rfl rfl (by omega) rfl ?_
 refine go ?_
 exact ak rfl ⟨rfl,hs⟩
def vM (K:SK) (be:Option cy):Option cy:=if K.cl=true then some (none,6) else be
theorem Sat.pA {k:Nat} (h:Sat W0 F w):Sat W0 (ax (.iface 44 (.int .i64 (k:Int))) (some (none,k))::F) w:=h.imp fun hp r=>⟨fun _=>none,hp,fun _ _ _ hx=>(by cases hx),fun _ _ hx=>(by cases hx),Hp.le_refl _,rfl,r⟩
theorem gP {b:Nat} {K:SK} {z:SZ} {s:St} {be:Option cy} (hs:Sat W0 (blk b 133 (aj K z s)::ax K.br be::F) w) :
 Calls Tryz.prog 82 #[au b] w fun x w'=>∃ ve,x=.returned ve∧Sat W0 (ax ve (vM K be)::blk b 133 (aj K z s)::ax K.br be::F) w':=by
 refine enter Tryz.func82 rfl Tryz.ntmps82 Tryz.results82 rfl ?_
 obtain ⟨d,o,cl,br,mu⟩:=K
 dsimp only at hs ⊢
 unfold vM
 cases cl with
 | true=>
  refine go ?_
  exact ak rfl ⟨_,rfl,Sat.pA (k:=6) hs⟩
 | false=>
  refine go ?_
  exact ak rfl ⟨_,rfl,(Sat.qm (Ag _ _) (hs.take (.there .here))).to⟩
theorem yt {b:Nat} {K:SK} {z:SZ} {s:St} (hs:Sat W0 (blk b 133 (aj K z s)::aO bB z.sn (aC s.snaps)::F) w) (hl:s.snaps.length≤8) :
 Calls Tryz.prog 205 #[au b] w fun x w'=>∃ (mv:Value) (us:List Nat),x=.returned mv∧us.Perm (aK s)∧Sat W0 (aE 1 mv 131 us.length (us.map uV)::blk b 133 (aj K z s)::aO bB z.sn (aC s.snaps)::F) w':=by
 refine enter Tryz.func205 rfl Tryz.ntmps205 Tryz.results205 rfl ?_
 refine go ?_
 refine fw hs fun w b0 hs=>?_
 refine go ?_
 refine nA bB hs (.there (.there .here)) rfl rfl rfl fun w it hs=>?_
 refine go ?_
 have hs0:=Sat.dK (k:=1) (cap:=1) (len:=1) (cs:=[aG].map uV) (rest:=[]) (E:=131) (hs.take (.there .here)) (Nat.le_refl _) (by simp [maxLen]) rfl rfl (by simp [dD])
 refine aL (α:=List Nat×List (Int×Nat)×Option (Int×Value)×Value) (fun z'=>[(0,au b),(3,z'.2.2.2),(11,.pointer (some ⟨it,0,none⟩))])
  (fun z' w=>(z'.1++z'.2.1.map (·.2)).Perm (aK s)∧Sat W0 (aE 1 z'.2.2.2 131 z'.1.length (z'.1.map uV)::fy bB z.sn it (aC s.snaps) (aC z'.2.1) z'.2.2.1::blk b 133 (aj K z s)::F) w) (fun z'=>z'.2.1.length) ([aG],s.snaps,none,.slice (some ⟨b0,0,none⟩) 1 1) ⟨rfl,rfl,rfl,trivial⟩ ⟨.refl _,hs0.to⟩ ?_
 clear hs hs0
 rintro ⟨us,left,last,mv⟩ w ⟨hp,hs⟩
 dsimp only at hp hs ⊢
 have hlen:us.length+left.length=s.snaps.length+1:=by
  have:=hp.length_eq
  simpa [aK] using this
 refine go ?_
 refine pZ bB hs (.there .here) rfl rfl (fun h0=>?_) (fun l1 x l2 w hl' hs=>?_)
 ·have hl0:left=[]:=by unfold aC at h0;simpa using h0
  subst hl0
  simp only [List.map_nil,List.append_nil] at hp
  have hs:=(hs.take (.there .here)).lP
  refine go ?_
  refine ae (met (B6 (hs.take (.there .here)) (by have:=hp.length_eq;simp [aK] at this;omega) (by have:=hp.length_eq;simp [aK] at this;omega)) ?_)
  rintro _ w ⟨u,us',rfl,hp2,hs⟩
  refine ⟨_,rfl,go ?_⟩
  exact ak rfl ⟨_,us',rfl,hp2.trans hp,hs.to⟩
 ·unfold aC at hl'
  obtain ⟨n1,nr,rfl,rfl,hnr⟩:=List.map_eq_append_iff.1 hl'
  obtain ⟨y,n2,rfl,rfl,rfl⟩:=List.map_eq_cons_iff.1 hnr
  have e1:(n1.map fun p:Int×Nat=>(p.1,uV p.2))++(n2.map fun p=>(p.1,uV p.2))=aC (n1++n2):=by simp [aC]
  rw [e1] at hs
  refine go ?_
  refine nB bB hs .here rfl rfl ?_
  refine go ?_
  refine fw hs fun w b2 hs=>?_
  simp only [List.length_append,List.length_cons] at hlen
  refine dF hs fun v2 w hs=>?_
  refine go ?_
  refine aB (us++[y.2],n1++n2,some (y.1,uV y.2),v2) ⟨rfl,rfl,rfl,trivial⟩ ⟨?_,?_⟩ (by dsimp only;simp)
  ·refine List.Perm.trans ?_ hp
   dsimp only
   simp only [List.map_append,List.map_cons,List.append_assoc,List.cons_append,List.nil_append]
   refine List.Perm.append_left _ ?_
   exact (List.perm_middle).symm
  ·dsimp only
   rw [List.map_append,List.length_append]
   exact hs.to
end
end Go.Proofs.YtecibefflhomdaaGreatDoor
