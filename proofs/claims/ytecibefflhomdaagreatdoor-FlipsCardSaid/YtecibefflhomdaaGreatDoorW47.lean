/-
  Part 47: THE FRAME laws over deeds, two numbers, a number and a bit; THE TIED CARD, its goroutines told no builder of the kit has.
-/
import Derived.Test.YtecibefflhomdaaGreatDoorW46
import Derived.Carry
import Derived.SevenTiedAt
set_option maxHeartbeats 8000000
set_option maxRecDepth 100000
set_option linter.all false
namespace Go.Proofs.YtecibefflhomdaaGreatDoor
open Go
section
open Go Go.ChangeShapes Go.WideShapes Go.RowKit
theorem C3:(22:Nat)<Tryz.prog.types.size∧(3:Nat)<Tryz.prog.types.size∧(23:Nat)<Tryz.prog.types.size:=⟨of_decide_eq_true (by kernel_rfl),of_decide_eq_true (by kernel_rfl),of_decide_eq_true (by kernel_rfl)⟩
section
variable {H:Type} {enc:TypeId×Value→H} {w:World} {base fuel:Nat} {sp:Nat→Bool} {held:Bool}
theorem KN {cs:List Value} {x:DataW H×List MemPlace} (h:DataW.trod enc Tryz.prog w base sp held fuel 104 cs=some x) (hw:Wt 104 x.1) :
 ∃ o:tc,cs=F9 o∧xn w 3 o.lv (dF o.l)∧∀ c∈o.l,c.key.length≤140737488355328∧c.val.length≤140737488355328:=by
 obtain ⟨xs,n,rfl,rfl,hl,hx,hf⟩:=DataW.trod_struct Tryz.underlying104 h
 have c104:Tryz.prog.cellsOf 104=2:=by kernel_rfl
 have c3:Tryz.prog.cellsOf 3=1:=by kernel_rfl
 have c73:Tryz.prog.cellsOf 73=1:=by kernel_rfl
 have c100:Tryz.prog.cellsOf 100=3:=by kernel_rfl
 rw [c104] at hl
 match cs,hl with
 | [v0,v1],_=>
  match xs,hx with
  | [x0,x1],_=>
   have f0:DataW.trod enc Tryz.prog w base sp held n 3 (([v0,v1].drop 0).take (Tryz.prog.cellsOf 3))=some x0:=hf 0 _ rfl
   have f1:DataW.trod enc Tryz.prog w base sp held n 73 (([v0,v1].drop 1).take (Tryz.prog.cellsOf 73))=some x1:=hf 1 _ rfl
   rw [c3] at f0
   rw [c73] at f1
   unfold Wt DataW.weights at hw
   rw [Tryz.underlying104] at hw
   simp only [List.map_cons,List.map_nil,DataW.weightsEach] at hw
   obtain ⟨i0,e0,d0,g0⟩:=DataW.trod_int Tryz.underlying3 f0
   obtain ⟨v,l,e5,hrd,hok,hcap⟩:=xr (α:=Pure.bX) (k:=3) (rowOf:=lC) (R:=fun c=>c.key.length≤140737488355328∧c.val.length≤140737488355328) Tryz.underlying73 c100 (by decide) (fun _=>rfl)
    (fun n cs y hy hwy=>I8 hy hwy) f1 (fun z hz=>hw z (by simp [hz]))
   simp at e0 e5
   subst e0 e5
   exact ⟨⟨i0,v1,l⟩,rfl,hrd,hok⟩
theorem Jn {cs:List Value} {x:DataW H×List MemPlace} (h:DataW.trod enc Tryz.prog w base sp held fuel 22 cs=some x) (hw:Wt 22 x.1) :
 ∃ (v:Value) (ops:List tc),cs=[v]∧yK w v ops:=by
 have c104:Tryz.prog.cellsOf 104=2:=by kernel_rfl
 obtain ⟨v,l,e5,hrd,hok,hcap⟩:=xr (α:=tc) (k:=2) (rowOf:=F9) (R:=fun o=>xn w 3 o.lv (dF o.l)∧∀ c∈o.l,c.key.length≤140737488355328∧c.val.length≤140737488355328) Tryz.underlying22 c104 (by decide) (fun _=>rfl)
  (fun n cs y hy hwy=>KN hy hwy) h hw
 exact ⟨v,l,e5,hrd,hok⟩
theorem yT {t t' t'' t3 t4:TypeId} {args:Array Value} {ds:List (DataW H)} {ps:List MemPlace} {P:Program} (h:DataW.TrodAll enc P w base sp held [t,t',t'',t3,t4] args.toList ds ps) :
 ∃ v v' v'' v3 v4 d d' d'' d3 d4 p p' p'' p3 p4,args=#[v,v',v'',v3,v4]∧ds=[d,d',d'',d3,d4]∧ps=p++p'++p''++p3++p4∧DataW.Trod enc P w base sp held t v d p∧DataW.Trod enc P w base sp held t' v' d' p'∧DataW.Trod enc P w base sp held t'' v'' d'' p''∧DataW.Trod enc P w base sp held t3 v3 d3 p3∧DataW.Trod enc P w base sp held t4 v4 d4 p4:=by
 obtain ⟨v,vs,d,ds',p,q,hargs,rfl,rfl,hd,hrest⟩:=trodAll_cons h
 obtain ⟨v',vs',d',ds'',p',q',rfl,rfl,rfl,hd',hrest'⟩:=trodAll_cons hrest
 obtain ⟨v'',vs'',d'',ds''',p'',q'',rfl,rfl,rfl,hd'',hrest''⟩:=trodAll_cons hrest'
 obtain ⟨v3,vs3,d3,ds3,p3,q3,rfl,rfl,rfl,hd3,hrest3⟩:=trodAll_cons hrest''
 obtain ⟨v4,vs4,d4,ds4,p4,q4,rfl,rfl,rfl,hd4,hrest4⟩:=trodAll_cons hrest3
 obtain ⟨rfl,rfl,rfl⟩:=trodAll_nil hrest4
 exact ⟨v,v',v'',v3,v4,d,d',d'',d3,d4,p,p',p'',p3,p4,by cases args;simp_all,rfl,by simp,hd,hd',hd'',hd3,hd4⟩
end
section
variable {H:Type} {enc:TypeId×Value→H}
theorem Of {f:FuncId} {fn:Func} {s:ChangeSpec} (hpar:fn.params=#[22,3,3,3,23]) (hres:fn.resultTypes=#[4]) (hvars:s.vars=[]) (hs:∀ d1 d2 d3 d4 d5:DataW H,s.fn H [d1,d2,d3,d4,d5]={ results:=[.lit (.bool true)],args:=[d1,d2,d3,d4,d5] })
 (walk:∀ (W:World) (v:Value) (ops:List tc) (a b c:Int) (bit:Nat),yK W v ops→jP W→kP W→Calls Tryz.prog f #[v,.int .i64 a,.int .i64 b,.int .i64 c,.int .u64 (bit:Int)] W fun x w'=>x=.returned (.bool true)∧Sat W [] w')
 (W:World) (base:Nat) (args:Array Value) (ds gs:List (DataW H)) (before:List MemPlace)
 (hval:∀ (j:Nat) t v,fn.params[j]?=some t→args[j]?=some v→Value.okWide Tryz.prog W .any base t v)
 (hW:DataW.Whole enc Tryz.prog fn.params.toList s.vars false W args.toList ds gs before)
 (hwt:(DataW.weightsEach Tryz.prog (fn.params.toList++s.plain.varTypes Tryz.prog) (ds++gs)).all (· ≤ reachBytes)=true) (hX:laidMetH Tryz.prog oT W) (fresh:Bool) :
 Calls Tryz.prog f args W fun
  | .returned v,W'=>W'.os=W.os∧s.post enc Tryz.prog fn false fresh false false W args v W'
  | _,_=>False:=by
 have hW':=hW
 obtain ⟨p,q,hA,hV,rfl,hfz,hnd⟩:=hW
 have hA0:=hA
 rw [hpar] at hA hval hwt
 rw [hvars] at hV
 obtain ⟨v0,v1,v2,v3,v4,d0,d1,d2,d3,d4,p0,p1,p2,p3,p4,rfl,rfl,rfl,h0,h1,h2,h3,h4⟩:=yT hA
 obtain ⟨rfl,rfl⟩:gs=[]∧q=[]:=by
  cases gs with
  | nil=>exact ⟨rfl,hV⟩
  | cons g r=>exact absurd hV (by intro h;cases h)
 obtain ⟨n1,rfl,rfl,rfl,_⟩:=open_int Tryz.underlying3 (hval 1 3 v1 rfl rfl) h1
 obtain ⟨n2,rfl,rfl,rfl,_⟩:=open_int Tryz.underlying3 (hval 2 3 v2 rfl rfl) h2
 obtain ⟨n3,rfl,rfl,rfl,_⟩:=open_int Tryz.underlying3 (hval 3 3 v3 rfl rfl) h3
 obtain ⟨n4,rfl,rfl,rfl,hwf⟩:=open_int Tryz.underlying23 (hval 4 23 v4 rfl rfl) h4
 have hn4:0≤n4:=by
  simp only [Lit.wf,Bool.and_eq_true,decide_eq_true_eq] at hwf
  exact hwf.1
 obtain ⟨bit,rfl⟩:∃ bit:Nat,n4=(bit:Int):=⟨n4.toNat,by omega⟩
 obtain ⟨al,len,cap,rfl⟩:=okWide_slice Tryz.underlying22 (hval 0 22 v0 rfl rfl)
 obtain ⟨fuel,hf⟩:=h0
 have hw0:Wt 22 d0:=fun x hx=>by
  have h3:=List.all_eq_true.1 hwt x (by
   show x∈DataW.weightsEach Tryz.prog (22::_) (d0::_)
   unfold DataW.weightsEach
   exact List.mem_append_left _ hx)
  have h4:x≤reachBytes:=by simpa using h3
  unfold reachBytes at h4
  omega
 obtain ⟨v,ops,e1,ho⟩:=Jn hf hw0
 have e1:Value.slice al len cap=v:=by simpa [Value.cells] using e1
 subst e1
 refine (walk W _ ops n1 n2 n3 bit ho (KD hX) (KC hX)).mono ?_
 rintro x W' ⟨rfl,hsat⟩
 show W'.os=W.os∧s.post enc Tryz.prog fn false fresh false false W _ _ W'
 refine ⟨hsat.os,_,_,_,[],p0++[]++[]++[]++[],[],hW',?_,?_,?_,A3 hsat _,?_⟩
 ·rw [List.append_nil,hs,hres]
  exact trodAll_mk1 (shut_bool Tryz.underlying4 true)
 ·rw [List.append_nil,hs]
  exact CV (by
   rw [hpar]
   intro t ht
   simp at ht
   rcases ht with rfl|rfl|rfl
   ·exact C3.1
   ·exact C3.2.1
   ·exact C3.2.2) hA0 hsat
 ·rw [List.append_nil,hs,hvars]
  exact rfl
 ·intro h
  cases h
theorem Jo {os:Os} {f:FuncId} {fn:Func} {s:ChangeSpec}
 (hok:Input.okWideB Tryz.prog ((World.doorLaid Tryz.prog 400 os).forCall (fun _ _=>0) ⟨#[],#[.slice none 0 0,.int .i64 0,.int .i64 0,.int .i64 0,.int .u64 0],[]⟩) f ⟨#[],#[.slice none 0 0,.int .i64 0,.int .i64 0,.int .i64 0,.int .u64 0],[]⟩=true)
 (hpre:s.preB enc Tryz.prog fn [] false ((World.doorLaid Tryz.prog 400 os).forCall (fun _ _=>0) ⟨#[],#[.slice none 0 0,.int .i64 0,.int .i64 0,.int .i64 0,.int .u64 0],[]⟩).memory #[.slice none 0 0,.int .i64 0,.int .i64 0,.int .i64 0,.int .u64 0] 8=true)
 (hsz:s.sizedB enc Tryz.prog fn false ((World.doorLaid Tryz.prog 400 os).forCall (fun _ _=>0) ⟨#[],#[.slice none 0 0,.int .i64 0,.int .i64 0,.int .i64 0,.int .u64 0],[]⟩).memory #[.slice none 0 0,.int .i64 0,.int .i64 0,.int .i64 0,.int .u64 0] 8=true) :
 ∃ (w:World) (tape:Tape) (i:Input),w.os=os∧(w.forCall tape i).Shaped Tryz.prog∧i.vars=[]∧Input.okWide Tryz.prog (w.forCall tape i) .any w.heap.size f i ∧
  ((s.pre enc Tryz.prog fn [] false (w.forCall tape i).memory i.args∧laidMetH Tryz.prog oT (w.forCall tape i).memory)∧sizedMet enc Tryz.prog fn (OpenSpec.ofChange s) false (w.forCall tape i).memory i.args)∧({ calm:=true }:Assume).holds Tryz.prog (lone (Frame.enter Tryz.prog f i.args .normal) [] (w.forCall tape i)):=
 ⟨World.doorLaid Tryz.prog 400 os,fun _ _=>0,⟨#[],#[.slice none 0 0,.int .i64 0,.int .i64 0,.int .i64 0,.int .u64 0],[]⟩,rfl,A4 os _,(Input.okWide_of_okWideB (base:=0) hok).1,(Input.okWide_of_okWideB hok).2,⟨⟨ChangeSpec.pre_of_preB hpre,F8 os _⟩,sizedMet_of_sizedB hsz⟩,by
   simp only [Assume.holds]
   exact ⟨by simp,fun _ _ _ _=>rfl,by simp,by simp,by simp⟩⟩
end
end
theorem Gp {p:Pinned} {s:OpenSpec} {c:OpenClaim} {kinds:List LaidKind} {har:Bool×String} (hc:c.holds p s) (hw:c.wfByText s=true) (htie:c.laidByTextAt .later p kinds true)
 (hst:c.start=.entering) (hnb:c.noBlocks=false∧c.again=false) (hm:p.checked.prog.mainIs=some (har.1,har.2.toList))
 {f:FuncId} {fn:Func} (hf:p.checked.prog.funcNamed c.func=some f) (hfn:p.checked.prog.funcs[f]?=some fn) (hlook:true=p.checked.prog.looks []) (hps:(fn.params.toList.all fun t=>!p.checked.prog.wantsStandIn t)=true)
 (hg:true=c.goesBy p.checked.prog) :
 Claim7.holds p (.plain s) { stood:={ row:=c,standIns:=[],harness:=har,looks:=true },kinds:=[],alts:=[],goes:=true,laidByText:=true,laidKinds:=kinds,laidTests:=true,laidLooks:=.later }:=by
 have h6:Claim7.isSixth { stood:={ row:=c,standIns:=[],harness:=har,looks:=true },kinds:=[] }=false:=by simp [Claim7.isSixth]
 have hl:∀ f' fn',p.checked.prog.funcNamed c.func=some f'→p.checked.prog.funcs[f']?=some fn'→true=p.checked.prog.looks []∧∀ (j:Nat) t,fn'.params[j]?=some t→p.checked.prog.wantsStandIn t=false:=by
  intro f' fn' h1 h2
  obtain rfl:f=f':=Option.some.inj (hf.symm.trans h1)
  obtain rfl:fn=fn':=Option.some.inj (hfn.symm.trans h2)
  refine ⟨hlook,fun j t ht=>?_⟩
  have:=List.all_eq_true.1 hps t (List.mem_of_getElem? (by simpa using ht))
  simpa using this
 exact ⟨Claim7.tied_new_at .later kinds true (Claim7.new_of_sixth hc har true hst hnb hm h6 hl) hw,(fun D hD=>by cases hD),htie,(fun h=>by cases h),hg⟩
end Go.Proofs.YtecibefflhomdaaGreatDoor
