/-
  Part 13: The engine 17 ranges over functions; The engine 19 what is wholly shared may be taken twice; The engine 20 'gos'; The engine 21 append in place, out of the same block; The engine 22 'goi'.
-/
import Derived.Test.YtecibefflhomdaaGreatDoorY12
import Derived.RangeFuncLeaves
set_option maxHeartbeats 8000000
set_option maxRecDepth 100000
set_option linter.all false
namespace Go.Proofs.YtecibefflhomdaaGreatDoor
open Go
section
attribute [local semireducible] WL WC WQ
section
variable {ops:Array Oper} {Q:Exit→Act→World→Prop} {n:Nat} {ds:Md} {e:Env} {w w':World} {rest:List Oper}
variable {op:Op} {ty:TypeId} {pos:String} {af:Array Edge} {d:Nat} {v u:Value} {W0:World} {l l' r r':List ah}
def Ko (ops:Array Oper) (Q:Exit→Act→World→Prop) (n:Nat) (ds:Md) (rest:List Oper) (e:Env) (w:World):Prop:=
 ∀ a,Fr n ds e a→wpListIn Fence.wide 0 Tryz.prog ops Q rest a w
theorem ui {id:Nat} {l:List Oper} (hr:ds.round=none) (k:Ko l.toArray Q n ds l e w):WC (.region id l.toArray false) Q n ds e w:=fun a ha=>by
 rw [hr];exact wpIn_region_lit (k a ha)
theorem Kq (k:WQ Q .normal n ds e w):Ko ops Q n ds [] e w:=fun a ha=>k a ha
theorem yj [k8 Q] {o:Oper} (k:WL ops (Exit.then (fun a w=>wpListIn Fence.wide 0 Tryz.prog ops Q rest a w) Q) n ds [o] e w):Ko ops Q n ds (o::rest) e w:=fun a ha=>by
 have h:=k a ha
 simp only [wpList] at h
 simp only [wpListIn]
 split
 ·rename_i hw
  rw [if_pos hw] at h
  rcases h with h|⟨_,h⟩
  ·refine ⟨fun _ _=>trivial,?_⟩
   have h2:=Dy (n:=0) none (next':=fun a w=>wpListIn Fence.wide 0 Tryz.prog ops Q rest a w) (fun _ _ h=>h) _ h
   revert h2
   show Oper.uponIn Fence.wide 0 Tryz.prog o a _ (Exit.then _ Q) _→Oper.uponIn Fence.wide 0 Tryz.prog o a _ Q _
   show _→Oper.uponIn Fence.wide 0 Tryz.prog o a _ Q ((execOp a.eval o).run Tryz.prog w)
   generalize (execOp a.eval o).run Tryz.prog w=x
   intro h2
   cases x with
   | ok x w'=>
    cases x<;>simp only [Oper.uponIn] at h2 ⊢<;>first
     | exact h2
     | exact ⟨h2.1,CallsIn.mono h2.2 (fun e w'' he=>by cases e<;>exact he)⟩
     | exact ⟨h2.1,RoundIn.mono h2.2 (fun e w'' he=>by cases e<;>exact he)⟩
   | halt x w'=>cases x<;>simp only [Oper.uponIn] at h2 ⊢<;>exact h2
  ·exact (k8.lets (Q:=Exit.then _ Q) h).elim
 ·rename_i hw
  rw [if_neg hw] at h
  exact ⟨fun _ _=>trivial,h⟩
theorem L8 (k:Ko ops Q n ds rest e w):WQ (Exit.then (fun a w=>wpListIn Fence.wide 0 Tryz.prog ops Q rest a w) Q) .normal n ds e w:=fun a ha=>k a ha
theorem HN {dst:Option Nat} {j:Nat} {b:Bool} (h:gv ops e j=some b) (k:Ko ops Q n ds (⟨dst,op,ty,pos,af,none⟩::rest) e w):Ko ops Q n ds (⟨dst,op,ty,pos,af,some (j,b)⟩::rest) e w:=fun a ha=>by
 have hy:=fg ha h
 have:=k a ha
 simp only [wpListIn,Region.wanted,hy,beq_self_eq_true,if_true] at this ⊢
 exact this
theorem wE {x:Operand} {xs:Array Operand} {at_:Array TypeId} {vs:List Value} {L:Nat} {rc:Loop} (hs:Sat W0 (ob false L (.loop rc)::l) w) (hx:ev e x=some (.func (.yield L) #[] #[])) (hxs:sZ e xs.toList=some vs) (hlen:vs.length=rc.params.size) (hd:Nat.blt d n=true)
 (k:RoundIn Fence.wide 0 Tryz.prog L rc.fn ((rc.params.zip vs.toArray).foldl (fun tmps (t,a)=>tmps.setIfInBounds t a) rc.tmps) rc.assign rc.body w fun x w'=>∃ v,x=.returned v∧Ko ops Q n ds rest ((d,v)::e) w') :
 Ko ops Q n ds (⟨some d,.call { callee:=.value x,args:=xs,argTypes:=at_ },ty,pos,af,none⟩::rest) e w:=fun a ha=>by
 have e1:xs.map a.eval=vs.toArray:=by rw [← ha.sZ hxs];cases xs;simp
 have hg:(getObj L).run Tryz.prog w=.ok (.loop rc) w:=by simp [getObj,Sem.run,hs.fC]
 have hr:(execOp a.eval ⟨some d,.call { callee:=.value x,args:=xs,argTypes:=at_ },ty,pos,af,none⟩).run Tryz.prog w=.ok (.round L rc.fn ((rc.params.zip vs.toArray).foldl (fun tmps (t,a)=>tmps.setIfInBounds t a) rc.tmps) rc.assign rc.body) w:=by
  have hne:¬ (vs.toArray.size≠rc.params.size):=by simpa using hlen
  simp only [execOp,resolve,ha.ev hx,Deferred.ofValue,e1,Sem.run_bind,Sem.run_pure,Result.andThen_ok,invoke,Instr.yield,Instr.getLoop,hg]
  simp [hlen]
 simp only [wpListIn,Region.wanted,if_true]
 refine ⟨fun _ _=>trivial,?_⟩
 have hsem:Oper.semAt Fence.wide.round a.eval ⟨some d,.call { callee:=.value x,args:=xs,argTypes:=at_ },ty,pos,af,none⟩=execOp a.eval ⟨some d,.call { callee:=.value x,args:=xs,argTypes:=at_ },ty,pos,af,none⟩:=rfl
 rw [hsem,hr,Oper.uponIn_round]
 refine ⟨fun h=>(by cases h),?_⟩
 refine RoundIn.mono k fun x w' hh=>?_
 obtain ⟨v,rfl,hk⟩:=hh
 exact hk _ (ha.put hd)
instance {L:Nat} {R:Ending→World→Prop}:k8 (roundPost Tryz.prog L R):=⟨fun _ _ h=>h⟩
instance {L:Nat} {R:Ending→World→Prop}:pV (roundPost Tryz.prog L R):=⟨fun _ _ _ _ _ h=>h⟩
def FE (L:Nat) (bd:Code) (R:Ending→World→Prop):Exit→Act→World→Prop:=
 Exit.then (fun a₁ w₁=>∃ w₂,(Instr.beginRound L).run Tryz.prog w₁=.ok () w₂∧bd.wpIn (Fence.wide.inRound L) 0 Tryz.prog (roundPost Tryz.prog L R) a₁ w₂) (fun _ _ _=>False)
instance {L:Nat} {bd:Code} {R:Ending→World→Prop}:k8 (FE L bd R):=⟨fun _ _ h=>h⟩
instance {L:Nat} {bd:Code} {R:Ending→World→Prop}:pV (FE L bd R):=⟨fun _ _ _ _ _ h=>h⟩
theorem zN {L:Nat} {fn:FuncId} {tm:Array Value} {asg bd:Code} {R:Ending→World→Prop} (hn:tm.size=n) (he:∀ t v,lk e t=some v→tm[t]?=some v)
 (k:WC asg (FE L bd R) n ⟨some L,[]⟩ e w):RoundIn Fence.wide 0 Tryz.prog L fn tm asg bd w R:=
 roundIn_of_wpIn trivial (k _ ⟨hn,rfl,he⟩)
theorem mL {o o':Obj} {b:Nat} (hs:Sat W0 (ob false b o::l) w) (hc:∀ c t f,o≠.cells c t f):(setObj b o').run Tryz.prog w=.ok () { w with heap:=w.heap.setIfInBounds b o' }∧Sat W0 (ob false b o'::l) { w with heap:=w.heap.setIfInBounds b o' }:=by
 have hb:=hs.fC
 have hlt:b<w.heap.size:=(Array.getElem?_eq_some_iff.1 hb).1
 refine ⟨?_,Sat.kx hs rfl rfl rfl (by simp) (by simp [hlt]) fun i hi=>by simp [Array.getElem?_setIfInBounds,Ne.symm hi]⟩
 cases o<;>first|exact (hc _ _ _ rfl).elim|simp [setObj,Sem.run,hb]
theorem nL {L:Nat} {rc:Loop} (hs:Sat W0 (ob false L (.loop rc)::l) w):(Instr.getLoop L).run Tryz.prog w=.ok rc w:=by
 have hg:(getObj L).run Tryz.prog w=.ok (.loop rc) w:=by simp [getObj,Sem.run,hs.fC]
 simp [Instr.getLoop,Sem.run_bind,hg]
theorem uj {L:Nat} {bd:Code} {R:Ending→World→Prop} {rc:Loop} (hs:Sat W0 (ob false L (.loop rc)::l) w) (hr:rc.state=.ready)
 (k:∀ w',Sat W0 (ob false L (.loop { rc with state:=.busy })::l) w'→WC bd (roundPost Tryz.prog L R) n ⟨some L,[]⟩ e w'):WQ (FE L bd R) .normal n ⟨some L,[]⟩ e w:=fun a ha=>by
 obtain ⟨h1,h2⟩:=mL (o':=.loop { rc with state:=.busy }) hs (fun _ _ _ h=>by cases h)
 refine ⟨_,?_,k _ h2 a ha⟩
 simp only [Instr.beginRound,Sem.run_bind,nL hs,Result.andThen_ok,h1,hr,Sem.run_pure]
theorem qk {L:Nat} {rc:Loop} (hs:Sat W0 (ob false L (.loop rc)::l) w) (j:Option Code) :
 ∃ w',(Instr.endRound L j).run Tryz.prog w=.ok (.bool j.isNone) w'∧Sat W0 (ob false L (.loop { rc with state:=if j.isNone then .ready else .done,pending:=j })::l) w':=by
 obtain ⟨h1,h2⟩:=mL (o':=.loop { rc with state:=if j.isNone then .ready else .done,pending:=j }) hs (fun _ _ _ h=>by cases h)
 exact ⟨_,by simp only [Instr.endRound,Sem.run_bind,nL hs,Result.andThen_ok,h1,Sem.run_pure],h2⟩
theorem je {L:Nat} {R:Ending→World→Prop} {rc:Loop} (hs:Sat W0 (ob false L (.loop rc)::l) w)
 (k:∀ w',Sat W0 (ob false L (.loop { rc with state:=.ready,pending:=none })::l) w'→R (.returned (.bool true)) w'):WQ (roundPost Tryz.prog L R) .normal n ds e w:=fun a ha=>by
 obtain ⟨w',h1,h2⟩:=qk hs none
 exact ⟨_,w',h1,k _ h2⟩
theorem oO {L id:Nat} {R:Ending→World→Prop} {rc:Loop} (hs:Sat W0 (ob false L (.loop rc)::l) w)
 (k:∀ w',Sat W0 (ob false L (.loop { rc with state:=.done,pending:=some (.exit id) })::l) w'→R (.returned (.bool false)) w'):WQ (roundPost Tryz.prog L R) (.exit id) n ds e w:=fun a ha=>by
 obtain ⟨w',h1,h2⟩:=qk hs (some (.exit id))
 exact ⟨_,w',h1,k _ h2⟩
def jf (D:Nat):Deferred:={ target:=.collected D,args:=#[] }
theorem vK (hs:Sat W0 l w) (fn:FuncId) (tm:Array Value) (ps:Array Tmp) (asg bd:Code):∃ L D W,(Instr.enterLoop fn tm ps asg bd none).run Tryz.prog w=.ok (L,[jf D]) W ∧
 Sat W0 (ob false L (.loop { state:=.ready,pending:=none,fn:=fn,tmps:=tm,params:=ps,assign:=asg,body:=bd,defers:=D })::ob false D (.deferred (some []))::l) W:=by
 have hs1:=hs.new (.deferred (some [])) false
 have hs2:=hs1.new (.loop { state:=.ready,pending:=none,fn:=fn,tmps:=tm,params:=ps,assign:=asg,body:=bd,defers:=w.heap.size }) false
 refine ⟨_,_,_,?_,hs2⟩
 simp [Instr.enterLoop,jf]
 rfl
theorem zO {g:Operand} {ps:Array Tmp} {asg bd:Code} {gf:Nat} {p q:Array Value} {uu:Unit} (hr:ds.round=none) (hs:Sat W0 l w) (hg:ev e g=some (.func (.func gf) p q)) (hf:lk tu gf=some uu)
 (k:∀ fn tm L D w1,tm.size=n→(∀ t v,lk e t=some v→tm[t]?=some v) →
   Sat W0 (ob false L (.loop { state:=.ready,pending:=none,fn:=fn,tmps:=tm,params:=ps,assign:=asg,body:=bd,defers:=D })::ob false D (.deferred (some []))::l) w1 →
   Calls Tryz.prog gf (p++#[.func (.yield L) #[] #[]]++q) w1 fun x w3=>∃ v,x=.returned v∧∃ (rc:Loop) (l3:List ah),Sat W0 (ob false L (.loop rc)::l3) w3∧(rc.state==.busy)=false ∧
    ((rc.pending=none∧∀ w4,Sat W0 (ob false L (.loop { rc with state:=.exhausted })::l3) w4→WQ Q .normal n ⟨none,jf D::ds.ds⟩ e w4) ∨
     ∃ id,rc.pending=some (.exit id)∧∀ w4,Sat W0 (ob false L (.loop { rc with state:=.exhausted })::l3) w4→WQ Q (.exit id) n ⟨none,jf D::ds.ds⟩ e w4)) :
 WC (.rangeFunc g ps asg bd) Q n ds e w:=fun a ha=>by
 rw [hr]
 refine wpIn_rangeFunc fun fn _=>?_
 obtain ⟨L,D,W,hen,hs2⟩:=vK hs fn a.tmps ps asg bd
 have hk:=k fn a.tmps _ _ _ ha.size ha.get hs2
 refine ⟨L,[jf D],W,{ target:=.fn (.func gf) q,args:=p++#[.func (.yield L) #[] #[]] },W,gf,p++#[.func (.yield L) #[] #[]]++q,W,hen,?_,fun f _=>BI none f,?_,tl,?_⟩
 ·have h1:=ha.ev hg
  have h2:a.eval (.const (.func (.yield L) #[] #[]))=.func (.yield L) #[] #[]:=rfl
  simp only [rangeCall,resolve,h1,Deferred.ofValue,Sem.run_pure,List.map_toArray,List.map_cons,List.map_nil,h2]
 ·simp only [invoke]
  exact og hf
 ·refine vY none (hk.mono ?_)
  rintro x w3 ⟨v,rfl,rc,l3,h3,hb,hk⟩
  obtain ⟨h1,h2⟩:=mL (o':=.loop { rc with state:=.exhausted }) h3 (fun _ _ _ h=>by cases h)
  have hrun:(Instr.endLoop L).run Tryz.prog w3=.ok rc.pending { w3 with heap:=w3.heap.setIfInBounds L (.loop { rc with state:=.exhausted }) }:=by
   simp only [Instr.endLoop,Sem.run_bind,nL h3,Result.andThen_ok,hb,Bool.false_eq_true,if_false,Sem.run_pure,h1]
  have hfr:Fr n ⟨none,jf D::ds.ds⟩ e { a with defers:=[jf D]++a.defers }:=⟨ha.size,by simp [ha.defers],ha.get⟩
  refine ⟨_,_,hrun,?_⟩
  rcases hk with ⟨hp,hk⟩|⟨id,hp,hk⟩
  ·have hq:=hk _ h2 _ hfr
   revert hq
   generalize ({ w3 with heap:=w3.heap.setIfInBounds L (.loop { rc with state:=.exhausted }) }:World)=w4
   rw [hp];exact id
  ·have hq:=hk _ h2 _ hfr
   revert hq
   generalize ({ w3 with heap:=w3.heap.setIfInBounds L (.loop { rc with state:=.exhausted }) }:World)=w4
   rw [hp];exact wpIn_exit
def Kr (rs:List ResultVar) (R:Ending→World→Prop):Exit→Act→World→Prop
 | .normal,a,w | .ret,a,w=>∃ fn:Func,fn.results=rs.toArray∧(∀ d∈a.defers,∃ r,d=jf r)∧LeavesInM Fence.wide 0 Tryz.prog fn a.tmps R a.defers .returning w
 | _,_,_=>False
instance {rs:List ResultVar} {R:Ending→World→Prop}:k8 (Kr rs R):=⟨fun _ _ h=>h⟩
instance {rs:List ResultVar} {R:Ending→World→Prop}:pV (Kr rs R):=⟨fun _ _ _ _ _ h=>h⟩
end
theorem B0 {f:FuncId} {fn:Func} {body:Code} {n:Nat} {rs:List ResultVar} {args:List Value} {R:Ending→World→Prop} {w:World}
 (hf:Tryz.prog.funcs[f]?=some fn) (hb:fn.body=some body) (hn:fn.ntmps=n) (hr:fn.results=rs.toArray) (hle:Nat.ble args.length n=true)
 (k:WC body (Kr rs R) n LP (zf 0 args) w):Calls Tryz.prog f args.toArray w R:=by
 refine (callsIn_wide (n:=0)).1 (callsIn_of_wp_marks hf hb trivial ?_)
 rw [hn]
 refine wpIn_mono (k _ (BJ hle)) ?_
 have key:∀ {fn':Func} {a:Act} {w:World},fn'.results=rs.toArray→∀ ds,LeavesInM Fence.wide 0 Tryz.prog fn' a.tmps R ds .returning w→(∀ d∈ds,∃ r,d=jf r)→LeavesInM Fence.wide 0 Tryz.prog fn a.tmps R ds .returning w:=by
  intro fn' a w hr' ds
  revert w
  induction ds with
  | nil=>intro w ⟨v,h1,h2⟩ _;exact ⟨v,by rw [← jI (hr'.trans hr.symm)];exact h1,h2⟩
  | cons d ds ih=>
   intro w ⟨hu,h⟩ hm
   obtain ⟨r,rfl⟩:=hm d List.mem_cons_self
   refine ⟨hu,?_⟩
   rcases h with ⟨r',w',h1,h2,h3⟩|⟨_,fv,cap,f',args',h1,_⟩
   ·exact .inl ⟨r',w',h1,h2,ih h3 fun d hd=>hm d (List.mem_cons_of_mem _ hd)⟩
   ·cases h1
 intro ex a w h
 cases ex with
 | normal=>obtain ⟨fn',hr',hm,h⟩:=h;exact key hr' _ h hm
 | ret=>obtain ⟨fn',hr',hm,h⟩:=h;exact key hr' _ h hm
 | panic chain=>exact h.elim
 | exit id=>exact h.elim
 | goto l=>exact h.elim
 | outgrown=>exact h.elim
section
variable {n:Nat} {e:Env} {w:World} {W0:World} {l l' r:List ah}
theorem ql {rs:List ResultVar} {R:Ending→World→Prop} {vs:List Value} {D:Nat} (hs:Sat W0 (ob false D (.deferred (some []))::l) w) (h:vF e rs=some vs)
 (k:∀ w',Sat W0 l w'→R (.returned (tr vs)) w'):WQ (Kr rs R) .ret n ⟨none,[jf D]⟩ e w:=by
 unfold WQ
 intro a ha
 obtain ⟨h1,h2⟩:=mL (o':=.deferred none) hs (fun _ _ _ h=>by cases h)
 refine ⟨{ (default:Func) with results:=rs.toArray },rfl,?_,?_⟩
 ·rw [ha.defers];intro d hd;exact ⟨D,by simpa using hd⟩
 ·rw [ha.defers]
  refine ⟨by simp,.inl ⟨D,_,rfl,?_,⟨_,pR ha rfl h _,k _ h2.drop⟩⟩⟩
  have hg:(getObj D).run Tryz.prog w=.ok (.deferred (some [])) w:=by simp [getObj,Sem.run,hs.fC]
  simp only [Instr.takeDeferred,Sem.run_bind,hg,Result.andThen_ok,h1,Sem.run_pure]
end
end
section
def Hp.sh (h:Hp):Hp:=fun i=>match h i with|some (true,o)=>some (true,o)|_=>none
theorem Hp.HO (h:Hp):Hp.le h.sh h:=fun i x hx=>by
 unfold Hp.sh at hx
 split at hx
 ·rename_i o ho;cases hx;exact ho
 ·cases hx
theorem Hp.D8 {a b:Hp} (h:Hp.le a b):Hp.le a.sh b.sh:=fun i x hx=>by
 unfold Hp.sh at hx ⊢
 split at hx
 ·rename_i o ho;cases hx;rw [h i _ ho]
 ·cases hx
theorem Hp.Ks {h:Hp} {i:Nat} {x:Bool×Obj} (hx:h.sh i=some x):x.1=true:=by
 unfold Hp.sh at hx
 split at hx
 ·cases hx;rfl
 ·cases hx
def GU (A:ah):Prop:=∀ h,A h→A h.sh
theorem L9 (b:Nat) (o:Obj):GU (ob true b o):=fun h k=>by simp only [ob] at k ⊢;simp [Hp.sh,k]
theorem D9 (k:Nat) (v:Value) (rows:List (List Value)):GU (jm k v rows):=fun h ⟨hk,q⟩=>by
 refine ⟨hk,?_⟩
 rcases q with q|⟨b,o,c,h1,h2,h3⟩
 ·exact .inl q
 ·refine .inr ⟨b,o,c,h1,h2,h3.imp id ?_⟩
  rintro ⟨all,E,h4,h5⟩
  exact ⟨all,E,by simp [Hp.sh,h4],h5⟩
theorem uk:∀ {l:List ah},(∀ A∈l,GU A)→GU (cV l)
 | [],_=>fun _ _=>trivial
 | A::l,hl=>fun h ⟨h1,h2,f,l1,l2,a,r⟩=>⟨h1.sh,h2.sh,Hp.ju f h1.HO h2.HO,Hp.D8 l1,Hp.D8 l2,hl A List.mem_cons_self h1 a,uk (fun B hB=>hl B (List.mem_cons_of_mem _ hB)) h2 r⟩
section
variable {W0 w:World} {A:ah} {l:List ah}
theorem Sat.qm (hA:GU A) (h:Sat W0 (A::l) w):Sat W0 (A::A::l) w:=
 h.zt fun hp k=>⟨hp.sh,hp.HO,fun i x hx=>Hp.Ks hx,hA hp k⟩
end
def HP:List (Nat×Unit):=[(275,()),(276,()),(281,())]
theorem FF:HP.map (fun p=>J5 Tryz.prog p.1)=HP.map (fun p=>some p.2):=by kernel_rfl
theorem qn {f:Nat} {u:Unit} {w:World} {args:Array Value} (h:lk HP f=some u):(callFunc f args).run Tryz.prog w=.ok (.enter f args) w:=by
 have:=ie FF h
 unfold J5 at this
 split at this
 ·rename_i fn hfn
  split at this
  ·rename_i hc
   simp only [Bool.and_eq_true,Bool.not_eq_true'] at hc
   obtain ⟨h1,h2⟩:=hc
   have h3:fn.body.isNone=false:=by cases hb:fn.body<;>simp_all
   simp only [callFunc,Sem.run_bind,run_program,Result.andThen_ok,hfn,h2,h3]
   rfl
  ·cases this
 ·cases this
theorem Ma (v:Value) (w:World):(Go.method (Tryz.prog.types.size+Made.depth) 117 v "Find").run Tryz.prog w=.ok (275,v) w:=by kernel_rfl
theorem Mb (v:Value) (w:World):(Go.method (Tryz.prog.types.size+Made.depth) 193 v "Find").run Tryz.prog w=.ok (276,v) w:=by kernel_rfl
theorem Mc (v:Value) (w:World):(Go.method (Tryz.prog.types.size+Made.depth) 117 v "From").run Tryz.prog w=.ok (169,v) w:=by kernel_rfl
theorem Me (v:Value) (w:World):(Go.method (Tryz.prog.types.size+Made.depth) 193 v "From").run Tryz.prog w=.ok (210,v) w:=by kernel_rfl
attribute [local semireducible] WL WC WQ
section
variable {ops:Array Oper} {Q:Exit→Act→World→Prop} {n:Nat} {ds:Md} {e:Env} {w w':World} {rest:List Oper}
variable {op:Op} {ty:TypeId} {pos:String} {af:Array Edge} {d:Nat} {v u:Value} {W0:World}
theorem kq {x:Operand} {xs:Array Operand} {at_:Array TypeId} {vs:List Value} {T f:Nat} {name:String} (hx:ev e x=some (.iface T v)) (hm:∀ w,(Go.method (Tryz.prog.types.size+Made.depth) T v name).run Tryz.prog w=.ok (f,v) w)
 (hf:∀ w args,(callFunc f args).run Tryz.prog w=.ok (.enter f args) w) (hxs:sZ e xs.toList=some vs) (hd:Nat.blt d n=true)
 (h:Calls Tryz.prog f (v::vs).toArray w fun x w'=>∃ v,x=.returned v∧WL ops Q n ds rest ((d,v)::e) w') :
 WL ops Q n ds (⟨some d,.call { callee:=.invoke x name,args:=xs,argTypes:=at_ },ty,pos,af,none⟩::rest) e w:=fun a ha=>by
 refine wpList_plain rfl fun K hK=>?_
 have e1:xs.map a.eval=vs.toArray:=by rw [← ha.sZ hxs];cases xs;simp
 have hr:(execOp a.eval ⟨some d,.call { callee:=.invoke x name,args:=xs,argTypes:=at_ },ty,pos,af,none⟩).run Tryz.prog w=.ok (.enter f (v::vs).toArray) w:=by
  have e2:(#[Value.iface T v]++vs.toArray).extract 1 (#[Value.iface T v]++vs.toArray).size=vs.toArray:=by apply Array.ext';simp
  have e3:(#[Value.iface T v]++vs.toArray)[0]?=some (.iface T v):=by simp
  have e4:(#[v]++vs.toArray:Array Value)=(v::vs).toArray:=by apply Array.ext';simp
  simp only [execOp,resolve,ha.ev hx,e1,Sem.run_bind,Sem.run_pure,Result.andThen_ok,invoke,e2,e3,callMethod,run_program,hm,hf,e4]
 unfold Oper.wp
 rw [hr,Oper.upon_enter]
 refine h.mono fun x w' hh=>?_
 obtain ⟨v,rfl,hk⟩:=hh
 exact hK _ _ (hk _ (ha.put hd))
end
end
theorem pr {G G':Prop} (k:G') (h:xV G'→G:=by
 (intro k
  repeat (first
   | refine zh rfl (by omega) (by omega) rfl ?_
   | refine nq rfl (by omega) (by omega) rfl ?_
   | refine q5 rfl (by omega) (by omega) rfl ?_
   | refine DD rfl rfl ?_
   | refine zo rfl (by first|assumption|omega) rfl ?_
   | refine zp rfl (by first|assumption|omega) rfl ?_
   | refine zq rfl (by assumption) rfl ?_
   | refine zr rfl (by assumption) rfl ?_
   | refine eO rfl rfl ?_
   | refine eC (by assumption) rfl rfl (by repeat (first|exact Take.here|apply Take.there)) (by rfl) rfl ?_
   | refine lN rfl ?_
   | refine qZ ?_
   | refine nk rfl ?_
   | refine np rfl ?_
   | refine ik ?_
   | refine pP ?_
   | refine tp ?_
   | refine pQ ?_
   | refine iP ?_
   | refine jN ?_
   | refine tq ?_
   | refine kA ?_
   | refine kB ?_
   | refine jO rfl ?_
   | refine iQ ?_
   | refine jP ?_
   | refine sa rfl ?_
   | refine tw rfl rfl rfl ?_
   | refine J9 rfl rfl (by omega) (by omega) rfl ?_
   | refine DH rfl rfl (by first|assumption|omega) rfl ?_
   | refine DI rfl rfl (by first|assumption|omega) rfl ?_
   | refine ng rfl rfl rfl ?_
   | refine pW rfl rfl rfl (by repeat (first|exact Take.here|apply Take.there)) (by rfl) rfl ?_
   | refine DJ rfl rfl rfl rfl ?_
   | refine DK rfl rfl rfl rfl ?_
   | refine xT rfl rfl rfl rfl (by repeat (first|exact Take.here|apply Take.there)) (by rfl) rfl ?_
   | refine xS ?_
   | refine tc rfl ?_
   | refine xU rfl ?_
   | refine DL (Sat.to (by assumption)) ?_
   | refine fR [_,_] rfl rfl rfl rfl (by repeat (first|exact Take.here|apply Take.there)) (by exact ⟨rfl,rfl,trivial⟩) rfl ?_
   | refine fR [_,_,_] rfl rfl rfl rfl (by repeat (first|exact Take.here|apply Take.there)) (by exact ⟨rfl,rfl,rfl,trivial⟩) rfl ?_
   | refine fR [_,_,_,_] rfl rfl rfl rfl (by repeat (first|exact Take.here|apply Take.there)) (by exact ⟨rfl,rfl,rfl,rfl,trivial⟩) rfl ?_
   | refine fR [_,_,_,_,_] rfl rfl rfl rfl (by repeat (first|exact Take.here|apply Take.there)) (by exact ⟨rfl,rfl,rfl,rfl,rfl,trivial⟩) rfl ?_
   | refine fR [_,_,_,_,_,_] rfl rfl rfl rfl (by repeat (first|exact Take.here|apply Take.there)) (by exact ⟨rfl,rfl,rfl,rfl,rfl,rfl,trivial⟩) rfl ?_
   | refine dz [_,_] (by assumption) rfl rfl rfl (by repeat (first|exact Take.here|apply Take.there)) (by exact ⟨rfl,rfl,trivial⟩) rfl ?_
   | refine dz [_,_,_] (by assumption) rfl rfl rfl (by repeat (first|exact Take.here|apply Take.there)) (by exact ⟨rfl,rfl,rfl,trivial⟩) rfl ?_
   | refine dz [_,_,_,_] (by assumption) rfl rfl rfl (by repeat (first|exact Take.here|apply Take.there)) (by exact ⟨rfl,rfl,rfl,rfl,trivial⟩) rfl ?_
   | refine dz [_,_,_,_,_] (by assumption) rfl rfl rfl (by repeat (first|exact Take.here|apply Take.there)) (by exact ⟨rfl,rfl,rfl,rfl,rfl,trivial⟩) rfl ?_
   | refine dz [_,_,_,_,_,_] (by assumption) rfl rfl rfl (by repeat (first|exact Take.here|apply Take.there)) (by exact ⟨rfl,rfl,rfl,rfl,rfl,rfl,trivial⟩) rfl ?_)
  exact k.out)):G:=h ⟨k⟩
section
variable {ops:Array Oper} {Q:Exit→Act→World→Prop} {n:Nat} {ds:Md} {e:Env} {w w':World} {rest:List Oper} {ord:List (Nat×Bool)}
variable {op:Op} {ty:TypeId} {pos:String} {af:Array Edge} {d i:Nat} {v u:Value} {W0:World} {l l' r r':List ah}
theorem HQ {x y:Operand} {t tx E k b o len cap m c2:Nat} {cs news:List Value} (hs:Sat W0 (blk b E cs::l) w) (hx:ev e x=some (.slice (some ⟨b,0,none⟩) len cap)) (hy:ev e y=some (.slice (some ⟨b,o,none⟩) m c2))
 (ht:lk dy t=some E) (htx:lk dy tx=some E) (hsz:lk df E=some k) (hcs:cs.length=cap*k) (hsrc:gh cs o news) (hn:news.length=m*k) (h1:∀ u∈news,dD u=true) (hroom:len+m≤cap) (hd:Nat.blt d n=true)
 (kk:∀ w',Sat W0 (blk b E (eV cs (len*k) news)::l) w'→WL ops Q n ds rest ((d,.slice (some ⟨b,0,none⟩) (len+m) cap)::e) w') :
 WL ops Q n ds (⟨some d,.call { callee:=.builtin .append,args:=#[x,y],argTypes:=#[t,tx] },ty,pos,af,none⟩::rest) e w:=by
 obtain ⟨i,hi,rfl⟩:=mw hsz
 have hsrc':Src Tryz.prog i.size tx (.slice (some ⟨b,o,none⟩) m c2) m news w:=Src.ofSlice w (bX htx) _ _ _ _ hn (fun j u hu=>by rw [add_eq,hs.cell .here];exact hsrc.at j u hu) (fun u hu=>BM (h1 u hu))
 have hcell:=fun j=>hs.cell (.here) j
 have hle:len*i.size+news.length≤cs.length:=by rw [hn,hcs,← Nat.add_mul];exact Nat.mul_le_mul_right _ hroom
 have hrun:=run_append_room_src (P:=Tryz.prog) w t tx ty E i (bX ht) hi b 0 len cap _ m news hsrc' hroom
  (fun j hj=>by rw [hcell,Nat.zero_add,List.getElem?_eq_getElem (by omega)];rfl) (fun j hj=>hs.free .here _)
 have hst:=run_storeCells_at Tryz.prog b (0+len*i.size) E news 0 cs.toArray w hs.fC (by simp;omega) hsrc'.one
 have hst2:=run_storeCells_cells (P:=Tryz.prog) b (0+len*i.size) news 0 w (fun j hj=>by rw [hcell,Nat.zero_add,Nat.add_zero,List.getElem?_eq_getElem (by omega)];rfl) (fun j hj=>hs.free .here _) hsrc'.one
 rw [hst] at hst2
 simp only [Nat.add_zero,Nat.zero_add,Result.ok.injEq,true_and] at hst2
 rw [Nat.zero_add,← hst2] at hrun
 refine cj (fun a ha=>?_) hd (kk _ (o9 hs .here))
 simp [execOp,resolve,invoke,Go.builtin,ha.ev hx,ha.ev hy,hrun,eV]
theorem dG {α:Type}:∀ {Z:List α} {i:Nat} {a:α},Z[i]?=some a→Z=Z.take i++a::Z.drop (i+1)
 | z::Z,0,a,h=>by simp at h;subst h;rfl
 | z::Z,i+1,a,h=>by simp at h;have:=dG h;simp only [List.take_succ_cons,List.drop_succ_cons,List.cons_append];rw [← this]
end
def Ns (o:Oper):Bool:=match o.op with
 | .call { callee:=.value (.tmp _),.. }=>true
 | _=>false
section
variable {ops:Array Oper} {Q:Exit→Act→World→Prop} {n:Nat} {ds:Md} {e:Env} {w:World} {rest:List Oper}
theorem HR [k8 Q] {o:Oper} (_h:Ns o=false) (k:WL ops (Exit.then (fun a w=>wpListIn Fence.wide 0 Tryz.prog ops Q rest a w) Q) n ds [o] e w):Ko ops Q n ds (o::rest) e w:=yj k
end
theorem Kt {G G':Prop} (k:G') (h:xV G'→G:=by
 (intro k
  repeat (first
   | refine sa rfl ?_
   | refine tw rfl rfl rfl ?_
   | refine eO rfl rfl ?_
   | refine eC (by assumption) rfl rfl (by repeat (first|exact Take.here|apply Take.there)) (by rfl) rfl ?_
   | refine dz [_,_,_,_] (by assumption) rfl rfl rfl (by repeat (first|exact Take.here|apply Take.there)) (by exact ⟨rfl,rfl,rfl,rfl,trivial⟩) rfl ?_
   | refine qZ ?_
   | refine L8 ?_
   | refine Kq ?_
   | refine HR rfl ?_)
  exact k.out)):G:=h ⟨k⟩
end Go.Proofs.YtecibefflhomdaaGreatDoor
