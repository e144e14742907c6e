/-
  Part 13: The engine 17 ranges over functions; The engine 19 what is wholly shared may be taken twice; The engine 20 'gos'; The engine 21 append in place, out of the same block; The engine 22 'goi'.
-/
import Derived.Test.YtecibefflhomdaaGreatDoorW12
import Derived.RangeFuncLeaves
set_option maxHeartbeats 8000000
set_option maxRecDepth 100000
set_option linter.all false
namespace Go.Proofs.YtecibefflhomdaaGreatDoor
open Go
section
attribute [local semireducible] WL WC WQ
section
variable {ops:Array Oper} {Q:Exit→Act→World→Prop} {n:Nat} {ds:Md} {e:Env} {w w':World} {rest:List Oper}
variable {op:Op} {ty:TypeId} {pos:String} {af:Array Edge} {d:Nat} {v u:Value} {W0:World} {l l' r r':List ah}
def J0 (ops:Array Oper) (Q:Exit→Act→World→Prop) (n:Nat) (ds:Md) (rest:List Oper) (e:Env) (w:World):Prop:=
 ∀ a,Fr n ds e a→wpListIn Fence.wide 0 Tryz.prog ops Q rest a w
theorem BL {id:Nat} {l:List Oper} (hr:ds.round=none) (k:J0 l.toArray Q n ds l e w):WC (.region id l.toArray false) Q n ds e w:=fun a ha=>by
 rw [hr];exact wpIn_region_lit (k a ha)
theorem J1 (k:WQ Q .normal n ds e w):J0 ops Q n ds [] e w:=fun a ha=>k a ha
theorem J2 [kT Q] {o:Oper} (k:WL ops (Exit.then (fun a w=>wpListIn Fence.wide 0 Tryz.prog ops Q rest a w) Q) n ds [o] e w):J0 ops Q n ds (o::rest) e w:=fun a ha=>by
 have h:=k a ha
 simp only [wpList] at h
 simp only [wpListIn]
 split
 ·rename_i hw
  rw [if_pos hw] at h
  rcases h with h|⟨_,h⟩
  ·refine ⟨fun _ _=>trivial,?_⟩
   have h2:=C7 (n:=0) none (next':=fun a w=>wpListIn Fence.wide 0 Tryz.prog ops Q rest a w) (fun _ _ h=>h) _ h
   revert h2
   show Oper.uponIn Fence.wide 0 Tryz.prog o a _ (Exit.then _ Q) _→Oper.uponIn Fence.wide 0 Tryz.prog o a _ Q _
   show _→Oper.uponIn Fence.wide 0 Tryz.prog o a _ Q ((execOp a.eval o).run Tryz.prog w)
   generalize (execOp a.eval o).run Tryz.prog w=x
   intro h2
   cases x with
   | ok x w'=>
    cases x<;>simp only [Oper.uponIn] at h2 ⊢<;>first
     | exact h2
     | exact ⟨h2.1,CallsIn.mono h2.2 (fun e w'' he=>by cases e<;>exact he)⟩
     | exact ⟨h2.1,RoundIn.mono h2.2 (fun e w'' he=>by cases e<;>exact he)⟩
   | halt x w'=>cases x<;>simp only [Oper.uponIn] at h2 ⊢<;>exact h2
  ·exact (kT.lets (Q:=Exit.then _ Q) h).elim
 ·rename_i hw
  rw [if_neg hw] at h
  exact ⟨fun _ _=>trivial,h⟩
theorem Lw (k:J0 ops Q n ds rest e w):WQ (Exit.then (fun a w=>wpListIn Fence.wide 0 Tryz.prog ops Q rest a w) Q) .normal n ds e w:=fun a ha=>k a ha
theorem Lx {dst:Option Nat} {j:Nat} {b:Bool} (h:gv ops e j=some b) (k:J0 ops Q n ds (⟨dst,op,ty,pos,af,none⟩::rest) e w):J0 ops Q n ds (⟨dst,op,ty,pos,af,some (j,b)⟩::rest) e w:=fun a ha=>by
 have hy:=eV ha h
 have:=k a ha
 simp only [wpListIn,Region.wanted,hy,beq_self_eq_true,if_true] at this ⊢
 exact this
theorem E6 {x:Operand} {xs:Array Operand} {at_:Array TypeId} {vs:List Value} {L:Nat} {rc:Loop} (hs:Sat W0 (ob false L (.loop rc)::l) w) (hx:ev e x=some (.func (.yield L) #[] #[])) (hxs:sR e xs.toList=some vs) (hlen:vs.length=rc.params.size) (hd:Nat.blt d n=true)
 (k:RoundIn Fence.wide 0 Tryz.prog L rc.fn ((rc.params.zip vs.toArray).foldl (fun tmps (t,a)=>tmps.setIfInBounds t a) rc.tmps) rc.assign rc.body w fun x w'=>∃ v,x=.returned v∧J0 ops Q n ds rest ((d,v)::e) w') :
 J0 ops Q n ds (⟨some d,.call { callee:=.value x,args:=xs,argTypes:=at_ },ty,pos,af,none⟩::rest) e w:=fun a ha=>by
 have e1:xs.map a.eval=vs.toArray:=by rw [← ha.sR hxs];cases xs;simp
 have hg:(getObj L).run Tryz.prog w=.ok (.loop rc) w:=by simp [getObj,Sem.run,hs.fq]
 have hr:(execOp a.eval ⟨some d,.call { callee:=.value x,args:=xs,argTypes:=at_ },ty,pos,af,none⟩).run Tryz.prog w=.ok (.round L rc.fn ((rc.params.zip vs.toArray).foldl (fun tmps (t,a)=>tmps.setIfInBounds t a) rc.tmps) rc.assign rc.body) w:=by
  have hne:¬ (vs.toArray.size≠rc.params.size):=by simpa using hlen
  simp only [execOp,resolve,ha.ev hx,Deferred.ofValue,e1,Sem.run_bind,Sem.run_pure,Result.andThen_ok,invoke,Instr.yield,Instr.getLoop,hg]
  simp [hlen]
 simp only [wpListIn,Region.wanted,if_true]
 refine ⟨fun _ _=>trivial,?_⟩
 have hsem:Oper.semAt Fence.wide.round a.eval ⟨some d,.call { callee:=.value x,args:=xs,argTypes:=at_ },ty,pos,af,none⟩=execOp a.eval ⟨some d,.call { callee:=.value x,args:=xs,argTypes:=at_ },ty,pos,af,none⟩:=rfl
 rw [hsem,hr,Oper.uponIn_round]
 refine ⟨fun h=>(by cases h),?_⟩
 refine RoundIn.mono k fun x w' hh=>?_
 obtain ⟨v,rfl,hk⟩:=hh
 exact hk _ (ha.put hd)
instance {L:Nat} {R:Ending→World→Prop}:kT (roundPost Tryz.prog L R):=⟨fun _ _ h=>h⟩
instance {L:Nat} {R:Ending→World→Prop}:pO (roundPost Tryz.prog L R):=⟨fun _ _ _ _ _ h=>h⟩
def Hl (L:Nat) (bd:Code) (R:Ending→World→Prop):Exit→Act→World→Prop:=
 Exit.then (fun a₁ w₁=>∃ w₂,(Instr.beginRound L).run Tryz.prog w₁=.ok () w₂∧bd.wpIn (Fence.wide.inRound L) 0 Tryz.prog (roundPost Tryz.prog L R) a₁ w₂) (fun _ _ _=>False)
instance {L:Nat} {bd:Code} {R:Ending→World→Prop}:kT (Hl L bd R):=⟨fun _ _ h=>h⟩
instance {L:Nat} {bd:Code} {R:Ending→World→Prop}:pO (Hl L bd R):=⟨fun _ _ _ _ _ h=>h⟩
theorem Hm {L:Nat} {fn:FuncId} {tm:Array Value} {asg bd:Code} {R:Ending→World→Prop} (hn:tm.size=n) (he:∀ t v,lk e t=some v→tm[t]?=some v)
 (k:WC asg (Hl L bd R) n ⟨some L,[]⟩ e w):RoundIn Fence.wide 0 Tryz.prog L fn tm asg bd w R:=
 roundIn_of_wpIn trivial (k _ ⟨hn,rfl,he⟩)
theorem mJ {o o':Obj} {b:Nat} (hs:Sat W0 (ob false b o::l) w) (hc:∀ c t f,o≠.cells c t f):(setObj b o').run Tryz.prog w=.ok () { w with heap:=w.heap.setIfInBounds b o' }∧Sat W0 (ob false b o'::l) { w with heap:=w.heap.setIfInBounds b o' }:=by
 have hb:=hs.fq
 have hlt:b<w.heap.size:=(Array.getElem?_eq_some_iff.1 hb).1
 refine ⟨?_,Sat.kn hs rfl rfl rfl (by simp) (by simp [hlt]) fun i hi=>by simp [Array.getElem?_setIfInBounds,Ne.symm hi]⟩
 cases o<;>first|exact (hc _ _ _ rfl).elim|simp [setObj,Sem.run,hb]
theorem nH {L:Nat} {rc:Loop} (hs:Sat W0 (ob false L (.loop rc)::l) w):(Instr.getLoop L).run Tryz.prog w=.ok rc w:=by
 have hg:(getObj L).run Tryz.prog w=.ok (.loop rc) w:=by simp [getObj,Sem.run,hs.fq]
 simp [Instr.getLoop,Sem.run_bind,hg]
theorem zE {L:Nat} {bd:Code} {R:Ending→World→Prop} {rc:Loop} (hs:Sat W0 (ob false L (.loop rc)::l) w) (hr:rc.state=.ready)
 (k:∀ w',Sat W0 (ob false L (.loop { rc with state:=.busy })::l) w'→WC bd (roundPost Tryz.prog L R) n ⟨some L,[]⟩ e w'):WQ (Hl L bd R) .normal n ⟨some L,[]⟩ e w:=fun a ha=>by
 obtain ⟨h1,h2⟩:=mJ (o':=.loop { rc with state:=.busy }) hs (fun _ _ _ h=>by cases h)
 refine ⟨_,?_,k _ h2 a ha⟩
 simp only [Instr.beginRound,Sem.run_bind,nH hs,Result.andThen_ok,h1,hr,Sem.run_pure]
theorem qg {L:Nat} {rc:Loop} (hs:Sat W0 (ob false L (.loop rc)::l) w) (j:Option Code) :
 ∃ w',(Instr.endRound L j).run Tryz.prog w=.ok (.bool j.isNone) w'∧Sat W0 (ob false L (.loop { rc with state:=if j.isNone then .ready else .done,pending:=j })::l) w':=by
 obtain ⟨h1,h2⟩:=mJ (o':=.loop { rc with state:=if j.isNone then .ready else .done,pending:=j }) hs (fun _ _ _ h=>by cases h)
 exact ⟨_,by simp only [Instr.endRound,Sem.run_bind,nH hs,Result.andThen_ok,h1,Sem.run_pure],h2⟩
theorem jZ {L:Nat} {R:Ending→World→Prop} {rc:Loop} (hs:Sat W0 (ob false L (.loop rc)::l) w)
 (k:∀ w',Sat W0 (ob false L (.loop { rc with state:=.ready,pending:=none })::l) w'→R (.returned (.bool true)) w'):WQ (roundPost Tryz.prog L R) .normal n ds e w:=fun a ha=>by
 obtain ⟨w',h1,h2⟩:=qg hs none
 exact ⟨_,w',h1,k _ h2⟩
theorem vI {L id:Nat} {R:Ending→World→Prop} {rc:Loop} (hs:Sat W0 (ob false L (.loop rc)::l) w)
 (k:∀ w',Sat W0 (ob false L (.loop { rc with state:=.done,pending:=some (.exit id) })::l) w'→R (.returned (.bool false)) w'):WQ (roundPost Tryz.prog L R) (.exit id) n ds e w:=fun a ha=>by
 obtain ⟨w',h1,h2⟩:=qg hs (some (.exit id))
 exact ⟨_,w',h1,k _ h2⟩
def kE (D:Nat):Deferred:={ target:=.collected D,args:=#[] }
theorem vJ (hs:Sat W0 l w) (fn:FuncId) (tm:Array Value) (ps:Array Tmp) (asg bd:Code):∃ L D W,(Instr.enterLoop fn tm ps asg bd none).run Tryz.prog w=.ok (L,[kE D]) W ∧
 Sat W0 (ob false L (.loop { state:=.ready,pending:=none,fn:=fn,tmps:=tm,params:=ps,assign:=asg,body:=bd,defers:=D })::ob false D (.deferred (some []))::l) W:=by
 have hs1:=hs.new (.deferred (some [])) false
 have hs2:=hs1.new (.loop { state:=.ready,pending:=none,fn:=fn,tmps:=tm,params:=ps,assign:=asg,body:=bd,defers:=w.heap.size }) false
 refine ⟨_,_,_,?_,hs2⟩
 simp [Instr.enterLoop,kE]
 rfl
theorem Hn {g:Operand} {ps:Array Tmp} {asg bd:Code} {gf:Nat} {p q:Array Value} {uu:Unit} (hr:ds.round=none) (hs:Sat W0 l w) (hg:ev e g=some (.func (.func gf) p q)) (hf:lk tp gf=some uu)
 (k:∀ fn tm L D w1,tm.size=n→(∀ t v,lk e t=some v→tm[t]?=some v) →
   Sat W0 (ob false L (.loop { state:=.ready,pending:=none,fn:=fn,tmps:=tm,params:=ps,assign:=asg,body:=bd,defers:=D })::ob false D (.deferred (some []))::l) w1 →
   Calls Tryz.prog gf (p++#[.func (.yield L) #[] #[]]++q) w1 fun x w3=>∃ v,x=.returned v∧∃ (rc:Loop) (l3:List ah),Sat W0 (ob false L (.loop rc)::l3) w3∧(rc.state==.busy)=false ∧
    ((rc.pending=none∧∀ w4,Sat W0 (ob false L (.loop { rc with state:=.exhausted })::l3) w4→WQ Q .normal n ⟨none,kE D::ds.ds⟩ e w4) ∨
     ∃ id,rc.pending=some (.exit id)∧∀ w4,Sat W0 (ob false L (.loop { rc with state:=.exhausted })::l3) w4→WQ Q (.exit id) n ⟨none,kE D::ds.ds⟩ e w4)) :
 WC (.rangeFunc g ps asg bd) Q n ds e w:=fun a ha=>by
 rw [hr]
 refine wpIn_rangeFunc fun fn _=>?_
 obtain ⟨L,D,W,hen,hs2⟩:=vJ hs fn a.tmps ps asg bd
 have hk:=k fn a.tmps _ _ _ ha.size ha.get hs2
 refine ⟨L,[kE D],W,{ target:=.fn (.func gf) q,args:=p++#[.func (.yield L) #[] #[]] },W,gf,p++#[.func (.yield L) #[] #[]]++q,W,hen,?_,fun f _=>Bv none f,?_,th,?_⟩
 ·have h1:=ha.ev hg
  have h2:a.eval (.const (.func (.yield L) #[] #[]))=.func (.yield L) #[] #[]:=rfl
  simp only [rangeCall,resolve,h1,Deferred.ofValue,Sem.run_pure,List.map_toArray,List.map_cons,List.map_nil,h2]
 ·simp only [invoke]
  exact oc hf
 ·refine vS none (hk.mono ?_)
  rintro x w3 ⟨v,rfl,rc,l3,h3,hb,hk⟩
  obtain ⟨h1,h2⟩:=mJ (o':=.loop { rc with state:=.exhausted }) h3 (fun _ _ _ h=>by cases h)
  have hrun:(Instr.endLoop L).run Tryz.prog w3=.ok rc.pending { w3 with heap:=w3.heap.setIfInBounds L (.loop { rc with state:=.exhausted }) }:=by
   simp only [Instr.endLoop,Sem.run_bind,nH h3,Result.andThen_ok,hb,Bool.false_eq_true,if_false,Sem.run_pure,h1]
  have hfr:Fr n ⟨none,kE D::ds.ds⟩ e { a with defers:=[kE D]++a.defers }:=⟨ha.size,by simp [ha.defers],ha.get⟩
  refine ⟨_,_,hrun,?_⟩
  rcases hk with ⟨hp,hk⟩|⟨id,hp,hk⟩
  ·have hq:=hk _ h2 _ hfr
   revert hq
   generalize ({ w3 with heap:=w3.heap.setIfInBounds L (.loop { rc with state:=.exhausted }) }:World)=w4
   rw [hp];exact id
  ·have hq:=hk _ h2 _ hfr
   revert hq
   generalize ({ w3 with heap:=w3.heap.setIfInBounds L (.loop { rc with state:=.exhausted }) }:World)=w4
   rw [hp];exact wpIn_exit
def J3 (rs:List ResultVar) (R:Ending→World→Prop):Exit→Act→World→Prop
 | .normal,a,w | .ret,a,w=>∃ fn:Func,fn.results=rs.toArray∧(∀ d∈a.defers,∃ r,d=kE r)∧LeavesInM Fence.wide 0 Tryz.prog fn a.tmps R a.defers .returning w
 | _,_,_=>False
instance {rs:List ResultVar} {R:Ending→World→Prop}:kT (J3 rs R):=⟨fun _ _ h=>h⟩
instance {rs:List ResultVar} {R:Ending→World→Prop}:pO (J3 rs R):=⟨fun _ _ _ _ _ h=>h⟩
end
theorem Ho {f:FuncId} {fn:Func} {body:Code} {n:Nat} {rs:List ResultVar} {args:List Value} {R:Ending→World→Prop} {w:World}
 (hf:Tryz.prog.funcs[f]?=some fn) (hb:fn.body=some body) (hn:fn.ntmps=n) (hr:fn.results=rs.toArray) (hle:Nat.ble args.length n=true)
 (k:WC body (J3 rs R) n Li (y5 0 args) w):Calls Tryz.prog f args.toArray w R:=by
 refine (callsIn_wide (n:=0)).1 (callsIn_of_wp_marks hf hb trivial ?_)
 rw [hn]
 refine wpIn_mono (k _ (Bw hle)) ?_
 have key:∀ {fn':Func} {a:Act} {w:World},fn'.results=rs.toArray→∀ ds,LeavesInM Fence.wide 0 Tryz.prog fn' a.tmps R ds .returning w→(∀ d∈ds,∃ r,d=kE r)→LeavesInM Fence.wide 0 Tryz.prog fn a.tmps R ds .returning w:=by
  intro fn' a w hr' ds
  revert w
  induction ds with
  | nil=>intro w ⟨v,h1,h2⟩ _;exact ⟨v,by rw [← jA (hr'.trans hr.symm)];exact h1,h2⟩
  | cons d ds ih=>
   intro w ⟨hu,h⟩ hm
   obtain ⟨r,rfl⟩:=hm d List.mem_cons_self
   refine ⟨hu,?_⟩
   rcases h with ⟨r',w',h1,h2,h3⟩|⟨_,fv,cap,f',args',h1,_⟩
   ·exact .inl ⟨r',w',h1,h2,ih h3 fun d hd=>hm d (List.mem_cons_of_mem _ hd)⟩
   ·cases h1
 intro ex a w h
 cases ex with
 | normal=>obtain ⟨fn',hr',hm,h⟩:=h;exact key hr' _ h hm
 | ret=>obtain ⟨fn',hr',hm,h⟩:=h;exact key hr' _ h hm
 | panic chain=>exact h.elim
 | exit id=>exact h.elim
 | goto l=>exact h.elim
 | outgrown=>exact h.elim
section
variable {n:Nat} {e:Env} {w:World} {W0:World} {l l' r:List ah}
theorem x9 {rs:List ResultVar} {R:Ending→World→Prop} {vs:List Value} {D:Nat} (hs:Sat W0 (ob false D (.deferred (some []))::l) w) (h:vD e rs=some vs)
 (k:∀ w',Sat W0 l w'→R (.returned (tn vs)) w'):WQ (J3 rs R) .ret n ⟨none,[kE D]⟩ e w:=by
 unfold WQ
 intro a ha
 obtain ⟨h1,h2⟩:=mJ (o':=.deferred none) hs (fun _ _ _ h=>by cases h)
 refine ⟨{ (default:Func) with results:=rs.toArray },rfl,?_,?_⟩
 ·rw [ha.defers];intro d hd;exact ⟨D,by simpa using hd⟩
 ·rw [ha.defers]
  refine ⟨by simp,.inl ⟨D,_,rfl,?_,⟨_,pJ ha rfl h _,k _ h2.drop⟩⟩⟩
  have hg:(getObj D).run Tryz.prog w=.ok (.deferred (some [])) w:=by simp [getObj,Sem.run,hs.fq]
  simp only [Instr.takeDeferred,Sem.run_bind,hg,Result.andThen_ok,h1,Sem.run_pure]
end
end
section
def Hp.sh (h:Hp):Hp:=fun i=>match h i with|some (true,o)=>some (true,o)|_=>none
theorem Hp.Hq (h:Hp):Hp.le h.sh h:=fun i x hx=>by
 unfold Hp.sh at hx
 split at hx
 ·rename_i o ho;cases hx;exact ho
 ·cases hx
theorem Hp.Dw {a b:Hp} (h:Hp.le a b):Hp.le a.sh b.sh:=fun i x hx=>by
 unfold Hp.sh at hx ⊢
 split at hx
 ·rename_i o ho;cases hx;rw [h i _ ho]
 ·cases hx
theorem Hp.J4 {h:Hp} {i:Nat} {x:Bool×Obj} (hx:h.sh i=some x):x.1=true:=by
 unfold Hp.sh at hx
 split at hx
 ·cases hx;rfl
 ·cases hx
def Gs (A:ah):Prop:=∀ h,A h→A h.sh
theorem Ly (b:Nat) (o:Obj):Gs (ob true b o):=fun h k=>by simp only [ob] at k ⊢;simp [Hp.sh,k]
theorem Dx (k:Nat) (v:Value) (rows:List (List Value)):Gs (kD k v rows):=fun h ⟨hk,q⟩=>by
 refine ⟨hk,?_⟩
 rcases q with q|⟨b,o,c,h1,h2,h3⟩
 ·exact .inl q
 ·refine .inr ⟨b,o,c,h1,h2,h3.imp id ?_⟩
  rintro ⟨all,E,h4,h5⟩
  exact ⟨all,E,by simp [Hp.sh,h4],h5⟩
theorem ug:∀ {l:List ah},(∀ A∈l,Gs A)→Gs (cR l)
 | [],_=>fun _ _=>trivial
 | A::l,hl=>fun h ⟨h1,h2,f,l1,l2,a,r⟩=>⟨h1.sh,h2.sh,Hp.ji f h1.Hq h2.Hq,Hp.Dw l1,Hp.Dw l2,hl A List.mem_cons_self h1 a,ug (fun B hB=>hl B (List.mem_cons_of_mem _ hB)) h2 r⟩
section
variable {W0 w:World} {A:ah} {l:List ah}
theorem Sat.qh (hA:Gs A) (h:Sat W0 (A::l) w):Sat W0 (A::A::l) w:=
 h.zj fun hp k=>⟨hp.sh,hp.Hq,fun i x hx=>Hp.J4 hx,hA hp k⟩
end
def Hr:List (Nat×Unit):=[(275,()),(276,()),(281,())]
theorem E7:Hr.map (fun p=>JH Tryz.prog p.1)=Hr.map (fun p=>some p.2):=by kernel_rfl
theorem qi {f:Nat} {u:Unit} {w:World} {args:Array Value} (h:lk Hr f=some u):(callFunc f args).run Tryz.prog w=.ok (.enter f args) w:=by
 have:=ic E7 h
 unfold JH at this
 split at this
 ·rename_i fn hfn
  split at this
  ·rename_i hc
   simp only [Bool.and_eq_true,Bool.not_eq_true'] at hc
   obtain ⟨h1,h2⟩:=hc
   have h3:fn.body.isNone=false:=by cases hb:fn.body<;>simp_all
   simp only [callFunc,Sem.run_bind,run_program,Result.andThen_ok,hfn,h2,h3]
   rfl
  ·cases this
 ·cases this
theorem Lz (v:Value) (w:World):(Go.method (Tryz.prog.types.size+Made.depth) 117 v "Find").run Tryz.prog w=.ok (275,v) w:=by kernel_rfl
theorem LA (v:Value) (w:World):(Go.method (Tryz.prog.types.size+Made.depth) 193 v "Find").run Tryz.prog w=.ok (276,v) w:=by kernel_rfl
theorem LB (v:Value) (w:World):(Go.method (Tryz.prog.types.size+Made.depth) 117 v "From").run Tryz.prog w=.ok (169,v) w:=by kernel_rfl
theorem LC (v:Value) (w:World):(Go.method (Tryz.prog.types.size+Made.depth) 193 v "From").run Tryz.prog w=.ok (210,v) w:=by kernel_rfl
attribute [local semireducible] WL WC WQ
section
variable {ops:Array Oper} {Q:Exit→Act→World→Prop} {n:Nat} {ds:Md} {e:Env} {w w':World} {rest:List Oper}
variable {op:Op} {ty:TypeId} {pos:String} {af:Array Edge} {d:Nat} {v u:Value} {W0:World}
theorem kg {x:Operand} {xs:Array Operand} {at_:Array TypeId} {vs:List Value} {T f:Nat} {name:String} (hx:ev e x=some (.iface T v)) (hm:∀ w,(Go.method (Tryz.prog.types.size+Made.depth) T v name).run Tryz.prog w=.ok (f,v) w)
 (hf:∀ w args,(callFunc f args).run Tryz.prog w=.ok (.enter f args) w) (hxs:sR e xs.toList=some vs) (hd:Nat.blt d n=true)
 (h:Calls Tryz.prog f (v::vs).toArray w fun x w'=>∃ v,x=.returned v∧WL ops Q n ds rest ((d,v)::e) w') :
 WL ops Q n ds (⟨some d,.call { callee:=.invoke x name,args:=xs,argTypes:=at_ },ty,pos,af,none⟩::rest) e w:=fun a ha=>by
 refine wpList_plain rfl fun K hK=>?_
 have e1:xs.map a.eval=vs.toArray:=by rw [← ha.sR hxs];cases xs;simp
 have hr:(execOp a.eval ⟨some d,.call { callee:=.invoke x name,args:=xs,argTypes:=at_ },ty,pos,af,none⟩).run Tryz.prog w=.ok (.enter f (v::vs).toArray) w:=by
  have e2:(#[Value.iface T v]++vs.toArray).extract 1 (#[Value.iface T v]++vs.toArray).size=vs.toArray:=by apply Array.ext';simp
  have e3:(#[Value.iface T v]++vs.toArray)[0]?=some (.iface T v):=by simp
  have e4:(#[v]++vs.toArray:Array Value)=(v::vs).toArray:=by apply Array.ext';simp
  simp only [execOp,resolve,ha.ev hx,e1,Sem.run_bind,Sem.run_pure,Result.andThen_ok,invoke,e2,e3,callMethod,run_program,hm,hf,e4]
 unfold Oper.wp
 rw [hr,Oper.upon_enter]
 refine h.mono fun x w' hh=>?_
 obtain ⟨v,rfl,hk⟩:=hh
 exact hK _ _ (hk _ (ha.put hd))
end
end
theorem qj {G G':Prop} (k:G') (h:xP G'→G:=by
 (intro k
  repeat (first
   | refine y7 rfl (by omega) (by omega) rfl ?_
   | refine nj rfl (by omega) (by omega) rfl ?_
   | refine qX rfl (by omega) (by omega) rfl ?_
   | refine Da rfl rfl ?_
   | refine zd rfl (by first|assumption|omega) rfl ?_
   | refine ze rfl (by first|assumption|omega) rfl ?_
   | refine zf rfl (by assumption) rfl ?_
   | refine zg rfl (by assumption) rfl ?_
   | refine eJ rfl rfl ?_
   | refine eE (by assumption) rfl rfl (by repeat (first|exact Take.here|apply Take.there)) (by rfl) rfl ?_
   | refine lJ rfl ?_
   | refine qV ?_
   | refine ng rfl ?_
   | refine nh rfl ?_
   | refine iG ?_
   | refine pH ?_
   | refine tj ?_
   | refine pI ?_
   | refine iH ?_
   | refine jG ?_
   | refine tl ?_
   | refine kp ?_
   | refine kq ?_
   | refine jH rfl ?_
   | refine iI ?_
   | refine jI ?_
   | refine tq rfl ?_
   | refine vW rfl rfl rfl ?_
   | refine JL rfl rfl (by omega) (by omega) rfl ?_
   | refine Dd rfl rfl (by first|assumption|omega) rfl ?_
   | refine De rfl rfl (by first|assumption|omega) rfl ?_
   | refine m8 rfl rfl rfl ?_
   | refine pP rfl rfl rfl (by repeat (first|exact Take.here|apply Take.there)) (by rfl) rfl ?_
   | refine Df rfl rfl rfl rfl ?_
   | refine Dg rfl rfl rfl rfl ?_
   | refine xN rfl rfl rfl rfl (by repeat (first|exact Take.here|apply Take.there)) (by rfl) rfl ?_
   | refine xM ?_
   | refine sU rfl ?_
   | refine xO rfl ?_
   | refine Dh (Sat.to (by assumption)) ?_
   | refine fI [_,_] rfl rfl rfl rfl (by repeat (first|exact Take.here|apply Take.there)) (by exact ⟨rfl,rfl,trivial⟩) rfl ?_
   | refine fI [_,_,_] rfl rfl rfl rfl (by repeat (first|exact Take.here|apply Take.there)) (by exact ⟨rfl,rfl,rfl,trivial⟩) rfl ?_
   | refine fI [_,_,_,_] rfl rfl rfl rfl (by repeat (first|exact Take.here|apply Take.there)) (by exact ⟨rfl,rfl,rfl,rfl,trivial⟩) rfl ?_
   | refine fI [_,_,_,_,_] rfl rfl rfl rfl (by repeat (first|exact Take.here|apply Take.there)) (by exact ⟨rfl,rfl,rfl,rfl,rfl,trivial⟩) rfl ?_
   | refine fI [_,_,_,_,_,_] rfl rfl rfl rfl (by repeat (first|exact Take.here|apply Take.there)) (by exact ⟨rfl,rfl,rfl,rfl,rfl,rfl,trivial⟩) rfl ?_
   | refine dq [_,_] (by assumption) rfl rfl rfl (by repeat (first|exact Take.here|apply Take.there)) (by exact ⟨rfl,rfl,trivial⟩) rfl ?_
   | refine dq [_,_,_] (by assumption) rfl rfl rfl (by repeat (first|exact Take.here|apply Take.there)) (by exact ⟨rfl,rfl,rfl,trivial⟩) rfl ?_
   | refine dq [_,_,_,_] (by assumption) rfl rfl rfl (by repeat (first|exact Take.here|apply Take.there)) (by exact ⟨rfl,rfl,rfl,rfl,trivial⟩) rfl ?_
   | refine dq [_,_,_,_,_] (by assumption) rfl rfl rfl (by repeat (first|exact Take.here|apply Take.there)) (by exact ⟨rfl,rfl,rfl,rfl,rfl,trivial⟩) rfl ?_
   | refine dq [_,_,_,_,_,_] (by assumption) rfl rfl rfl (by repeat (first|exact Take.here|apply Take.there)) (by exact ⟨rfl,rfl,rfl,rfl,rfl,rfl,trivial⟩) rfl ?_)
  exact k.out)):G:=h ⟨k⟩
section
variable {ops:Array Oper} {Q:Exit→Act→World→Prop} {n:Nat} {ds:Md} {e:Env} {w w':World} {rest:List Oper} {ord:List (Nat×Bool)}
variable {op:Op} {ty:TypeId} {pos:String} {af:Array Edge} {d i:Nat} {v u:Value} {W0:World} {l l' r r':List ah}
theorem Hs {x y:Operand} {t tx E k b o len cap m c2:Nat} {cs news:List Value} (hs:Sat W0 (blk b E cs::l) w) (hx:ev e x=some (.slice (some ⟨b,0,none⟩) len cap)) (hy:ev e y=some (.slice (some ⟨b,o,none⟩) m c2))
 (ht:lk cY t=some E) (htx:lk cY tx=some E) (hsz:lk cS E=some k) (hcs:cs.length=cap*k) (hsrc:fX cs o news) (hn:news.length=m*k) (h1:∀ u∈news,ej u=true) (hroom:len+m≤cap) (hd:Nat.blt d n=true)
 (kk:∀ w',Sat W0 (blk b E (eN cs (len*k) news)::l) w'→WL ops Q n ds rest ((d,.slice (some ⟨b,0,none⟩) (len+m) cap)::e) w') :
 WL ops Q n ds (⟨some d,.call { callee:=.builtin .append,args:=#[x,y],argTypes:=#[t,tx] },ty,pos,af,none⟩::rest) e w:=by
 obtain ⟨i,hi,rfl⟩:=mq hsz
 have hsrc':Src Tryz.prog i.size tx (.slice (some ⟨b,o,none⟩) m c2) m news w:=Src.ofSlice w (bQ htx) _ _ _ _ hn (fun j u hu=>by rw [add_eq,hs.cell .here];exact hsrc.at j u hu) (fun u hu=>Bz (h1 u hu))
 have hcell:=fun j=>hs.cell (.here) j
 have hle:len*i.size+news.length≤cs.length:=by rw [hn,hcs,← Nat.add_mul];exact Nat.mul_le_mul_right _ hroom
 have hrun:=run_append_room_src (P:=Tryz.prog) w t tx ty E i (bQ ht) hi b 0 len cap _ m news hsrc' hroom
  (fun j hj=>by rw [hcell,Nat.zero_add,List.getElem?_eq_getElem (by omega)];rfl) (fun j hj=>hs.free .here _)
 have hst:=run_storeCells_at Tryz.prog b (0+len*i.size) E news 0 cs.toArray w hs.fq (by simp;omega) hsrc'.one
 have hst2:=run_storeCells_cells (P:=Tryz.prog) b (0+len*i.size) news 0 w (fun j hj=>by rw [hcell,Nat.zero_add,Nat.add_zero,List.getElem?_eq_getElem (by omega)];rfl) (fun j hj=>hs.free .here _) hsrc'.one
 rw [hst] at hst2
 simp only [Nat.add_zero,Nat.zero_add,Result.ok.injEq,true_and] at hst2
 rw [Nat.zero_add,← hst2] at hrun
 refine bW (fun a ha=>?_) hd (kk _ (oW hs .here))
 simp [execOp,resolve,invoke,Go.builtin,ha.ev hx,ha.ev hy,hrun,eN]
theorem dM {α:Type}:∀ {Z:List α} {i:Nat} {a:α},Z[i]?=some a→Z=Z.take i++a::Z.drop (i+1)
 | z::Z,0,a,h=>by simp at h;subst h;rfl
 | z::Z,i+1,a,h=>by simp at h;have:=dM h;simp only [List.take_succ_cons,List.drop_succ_cons,List.cons_append];rw [← this]
end
def MU (o:Oper):Bool:=match o.op with
 | .call { callee:=.value (.tmp _),.. }=>true
 | _=>false
section
variable {ops:Array Oper} {Q:Exit→Act→World→Prop} {n:Nat} {ds:Md} {e:Env} {w:World} {rest:List Oper}
theorem Ht [kT Q] {o:Oper} (_h:MU o=false) (k:WL ops (Exit.then (fun a w=>wpListIn Fence.wide 0 Tryz.prog ops Q rest a w) Q) n ds [o] e w):J0 ops Q n ds (o::rest) e w:=J2 k
end
theorem NV {G G':Prop} (k:G') (h:xP G'→G:=by
 (intro k
  repeat (first
   | refine tq rfl ?_
   | refine vW rfl rfl rfl ?_
   | refine eJ rfl rfl ?_
   | refine eE (by assumption) rfl rfl (by repeat (first|exact Take.here|apply Take.there)) (by rfl) rfl ?_
   | refine dq [_,_,_,_] (by assumption) rfl rfl rfl (by repeat (first|exact Take.here|apply Take.there)) (by exact ⟨rfl,rfl,rfl,rfl,trivial⟩) rfl ?_
   | refine qV ?_
   | refine Lw ?_
   | refine J1 ?_
   | refine Ht rfl ?_)
  exact k.out)):G:=h ⟨k⟩
end Go.Proofs.YtecibefflhomdaaGreatDoor
