/-
  Part 52: THE FRAME from a walk of a law's function to the card; WALKS plays; THE FRAME laws over a script and two numbers; THE TIED CARD, its goroutines told no builder of the kit has.
-/
import Derived.Test.YtecibefflhomdaaGreatDoorU51
import Derived.SevenTiedAt
set_option maxHeartbeats 8000000
set_option maxRecDepth 100000
set_option linter.all false
namespace Go.Proofs.YtecibefflhomdaaGreatDoor
open Go
section
open Go Go.ChangeShapes Go.WideShapes
section
variable {H:Type} {enc:TypeId×Value→H}
theorem leaving_laid {C:Checked} {os:Os} {f:FuncId} {fn:Func} {s:ChangeSpec} {F:Stop.Interp} {conds:List PathCond} {apart fresh handsOn:Bool} {Xp:World→Prop}
 (hXp:∀ w w':World,w.heap=w'.heap→Xp w→Xp w') (own:ownKnob C.prog.godebug=none) (started:os.Started) (noInit:C.prog.inits.idxOf? f=none) (hfn:C.prog.funcs[f]?=some fn)
 (witness:∃ (w:World) (tape:Tape) (i:Input),w.os=os∧(w.forCall tape i).Shaped C.prog∧i.vars=[]∧Input.okWide C.prog (w.forCall tape i) .any w.heap.size f i ∧
   ((s.pre enc C.prog fn conds apart (w.forCall tape i).memory i.args∧Xp (w.forCall tape i).memory)∧sizedMet enc C.prog fn (OpenSpec.ofChange s) apart (w.forCall tape i).memory i.args)∧({ calm:=true }:Assume).holds C.prog (lone (Frame.enter C.prog f i.args .normal) [] (w.forCall tape i)))
 (contract:∀ (W:World) (base:Nat) (args:Array Value) (ds gs:List (DataW H)) (before:List MemPlace),
   (∀ (j:Nat) t v,fn.params[j]?=some t→args[j]?=some v→Value.okWide C.prog W .any base t v) →
   DataW.Whole enc C.prog fn.params.toList s.vars apart W args.toList ds gs before →
   (DataW.weightsEach C.prog (fn.params.toList++s.plain.varTypes C.prog) (ds++gs)).all (· ≤ reachBytes)=true→Xp W →
   Calls C.prog f args W fun
    | .returned v,W'=>W'.os=W.os∧s.post enc C.prog fn apart fresh handsOn false W args v W'
    | _,_=>False) :
 ReturnsInLeavingWide { calm:=true } C os f .any (fun w args=>(s.pre enc C.prog fn conds apart w args∧Xp w)∧sizedMet enc C.prog fn (OpenSpec.ofChange s) apart w args) ((OpenSpec.ofChange s).postWith enc C.prog fn F (outsideKept [.timePasses]) apart fresh handsOn):=by
 refine returnsInLeavingWide_of_good own started witness ?_
 intro w tape i _ _ _ hok hpre _
 obtain ⟨_,_,_,fn',hfn',_,_,_,_,hval⟩:=hok
 have e:fn'=fn:=Option.some.inj (hfn'.symm.trans hfn)
 subst e
 obtain ⟨⟨⟨ds,gs,before,hw,hc⟩,hx⟩,hz⟩:=hpre
 have hw':=DataW.Whole.of_heap (w':=w.forCall tape i) (by rfl) hw
 obtain ⟨n,v,w',fr,hn,hend,hp⟩:=(contract (w.forCall tape i) w.heap.size i.args ds gs before hval hw' (hz.weights hw) (hXp (w.forCall tape i).memory (w.forCall tape i) (by rfl) hx)).done_lone noInit
 have hrun:runNT C.prog (n+1) (lone (Frame.enter C.prog f i.args .normal) [] (w.forCall tape i)) #[]=(.ended (.done v) w',(runNT C.prog (n+1) (lone (Frame.enter C.prog f i.args .normal) [] (w.forCall tape i)) #[]).2):=Prod.ext (by rw [runNT_fst,hend]) rfl
 have heq:({ w' with os:=(w.forCall tape i).os }:World)=w':=by rw [← hp.1]
 exact ⟨n,_,.done v,w',_,hrun,hn,step_of_runs hn hend,v,rfl,postWith_blind (postWith_of_post (by rw [heq];exact hp.2) (by rw [hp.1];exact .refl _)),fun said=>(no_race_of_lone C.prog n _ _ hn (by simp [lone]) rfl).2,handedOver_of_lone hn,⟨fun g hg=>by simp [lone] at hg,rfl⟩,fun i g hg hi=>by
  cases i with
  | zero=>exact absurd rfl hi
  | succ k=>simp [lone] at hg⟩
end
end
section
open Go.Proofs.YtecibefflhomdaaGreatDoor.Pure (PDisk Chg bltB lookP betweenP inLo inHi limT)
attribute [local irreducible] IntKind.wrap
variable {W0 w:World} {F:List HProp} {p:Nat} {X:WS} {E B N:Nat} {v:Value}
def lenSum (ops:List OpV):Nat:=(ops.map fun o=>o.l.length).sum
theorem len_le_cost (o:OpV):o.l.length≤opCost o:=by
 have:=len_sum chgCost (fun x=>by unfold chgCost;omega) o.l
 unfold opCost;omega
theorem lenSum_le:∀ ops:List OpV,lenSum ops≤(ops.map opCost).sum
 | []=>Nat.le_refl _
 | o::r=>by
  have h1:=lenSum_le r
  have h2:=len_le_cost o
  unfold lenSum at h1 ⊢
  simp only [List.map_cons,List.sum_cons]
  omega
theorem lenSum_take {ops:List OpV} {i:Nat} {o:OpV} (h:ops[i]?=some o):lenSum (ops.take (i+1))=lenSum (ops.take i)+o.l.length:=sum_take (fun o:OpV=>o.l.length) h
theorem lenSum_part (ops:List OpV) (i:Nat):lenSum (ops.take i)≤lenSum ops:=by
 have h:lenSum ops=lenSum (ops.take i)+lenSum (ops.drop i):=by
  unfold lenSum
  rw [← List.sum_append,← List.map_append,List.take_append_drop]
 omega
theorem plays_spec {ops:List OpV} {mm tt:Int} {most:Int} (hm:most≤11) (ho:OpsW W0 v ops) (hW:PowW W0) (hE:ErrW W0) (hs:Sat W0 F w) :
 Calls Tryz.prog 28 #[v,.int .i64 mm,.int .i64 tt,.int .i64 most,.int .i64 0] w fun x w'=>x=.returned (.bool true)∧Sat W0 F w':=by
 obtain ⟨al,cl,rfl⟩:=ho.len
 refine enter Tryz.func28 rfl Tryz.ntmps28 Tryz.results28 rfl ?_
 refine gy ?_
 refine w_call (met (small_spec ho hs) ?_)
 clear hs
 rintro _ w ⟨b,rfl,hb,hs⟩
 refine ⟨_,rfl,?_⟩
 cases b with
 | false=>
  refine gy ?_
  exact wq_ret rfl ⟨rfl,hs⟩
 | true=>
  have hb:=hb rfl
  refine gy ?_
  refine w_call (met (wbegin_spec hW hE hs) ?_)
  clear hs
  rintro _ w ⟨p,X,rfl,hok,-,-,hs⟩
  refine ⟨_,rfl,?_⟩
  refine gy ?_
  refine wc_loop (α:=Nat) (fun i=>[(0,.slice al ops.length cl),(3,.int .i64 most),(4,.int .i64 0),(12,idV p),(14,.int .i64 (i:Int))])
   (fun i w=>i≤ops.length∧∃ X,WOk X (lenSum (ops.take i)) i (1+i*8388608)∧Sat W0 (wL p X F) w) (fun i=>ops.length-i) 0 ⟨rfl,rfl,rfl,rfl,rfl,trivial⟩ ⟨Nat.zero_le _,X,hok,hs⟩ ?_
  clear hs hok X
  rintro i w ⟨hi,X,hok,hs⟩
  by_cases hlt:i<ops.length
  ·have hlt':(i:Int)<(ops.length:Int):=by omega
   obtain ⟨bq,q,o,hg,hmem,rfl,hrow,-⟩:=ho.row hlt
   obtain ⟨hoo,-⟩:=ho.ok o hmem
   have hls:=lenSum_take hg
   have hE1:lenSum (ops.take i)+o.l.length≤1048576:=by
    have h1:=lenSum_part ops (i+1)
    have h2:=lenSum_le ops
    omega
   have hs:Sat W0 (blk p 91 (wCells X)::srC X.b X.d X.o X.r.closed none X.s::DiskA X.d X.D::refC X.rb X.r::detC X.det::pairV X.vo X.out::pairV X.vw X.out::F) w:=hs
   refine gy ?_
   refine wl_ldoN (opC o) hs rfl rfl rfl hrow rfl ?_
   refine w_alloc hs ?_
   clear hs
   intro w b15 hs
   have hlv:isOne o.lv=true:=by obtain ⟨a2,c2,h2⟩:=hoo.rd.1;rw [h2];rfl
   refine w_stN (vs:=opC o) hs ?_ (h1:=by show (true&&(true&&(true&&(true&&(true&&(isOne o.lv&&true))))))=true;rw [hlv];rfl)
   clear hs
   intro w hs
   have hnext:∀ {X':WS} {w:World},WOk X' (lenSum (ops.take i)) i (1+i*8388608)→WOk X' (lenSum (ops.take (i+1))) (i+1) (1+(i+1)*8388608):=fun h=>h.more (by omega) (by omega) (by omega)
   by_cases k1:o.kind<1
   ·refine gy ?_
    exact wq_round (i+1) ⟨rfl,rfl,rfl,rfl,rfl,trivial⟩ ⟨hlt,X,hnext (w:=w) hok,Sat.wMk _ rfl hs.to⟩ (by show ops.length-(i+1)<ops.length-i;omega)
   ·by_cases k2:o.kind > most
    ·have k3:o.kind≠0:=by omega
     refine gy ?_
     exact wq_round (i+1) ⟨rfl,rfl,rfl,rfl,rfl,trivial⟩ ⟨hlt,X,hnext (w:=w) hok,Sat.wMk _ rfl hs.to⟩ (by show ops.length-(i+1)<ops.length-i;omega)
    ·refine gy ?_
     refine w_call (met (wstep_spec (o:=o) (F:=blk b15 84 (opC o)::F) (by omega) (by omega) hoo hW hE hok hE1 (by omega) (by omega) hs.to) ?_)
     clear hs hok
     rintro _ w ⟨X,hok,rfl,hs⟩
     refine ⟨_,rfl,?_⟩
     have hs:Sat W0 (blk p 91 (wCells X)::srC X.b X.d X.o X.r.closed none X.s::DiskA X.d X.D::refC X.rb X.r::detC X.det::pairV X.vo X.out::pairV X.vw X.out::blk b15 84 (opC o)::F) w:=hs
     refine gy ?_
     refine wc_tree [blk p 91 (wCells X)] [3,7] (.q 0 (.q 1 (.q 2 (.s 3 (.q 4 (.q 5 (.q 6 (.s 7 (.l 8 (.q 9 .nil)))))))))) hs (by kernel_rfl) ?_
     clear hs
     intro w hs
     refine gyt ?_
     refine w_call (met (same_spec (by have:=hok.olen;omega) (hs.take2 (.there (.there (.there (.there (.there .here))))) (.there (.there (.there (.there (.there .here))))))) ?_)
     clear hs
     rintro _ w ⟨rfl,hs⟩
     refine ⟨_,rfl,?_⟩
     rw [decide_eq_true rfl]
     refine gy ?_
     refine wq_wt hs.to ?_
     refine gyt ?_
     refine gy ?_
     exact wq_round (i+1) ⟨rfl,rfl,rfl,rfl,rfl,trivial⟩ ⟨hlt,X,hok.more (by omega) (Nat.le_refl _) (by omega),Sat.wMk _ rfl hs.to⟩ (by show ops.length-(i+1)<ops.length-i;omega)
  ·have hie:i=ops.length:=by omega
   subst hie
   have hlt':¬ (ops.length:Int)<(ops.length:Int):=by omega
   refine gy ?_
   have hs:Sat W0 (blk p 91 (wCells X)::srC X.b X.d X.o X.r.closed none X.s::DiskA X.d X.D::refC X.rb X.r::detC X.det::pairV X.vo X.out::pairV X.vw X.out::F) w:=hs
   exact wq_ret rfl ⟨rfl,hs.drop.drop.drop.drop.drop.drop.drop⟩
theorem contents_spec {ops:List OpV} {mm tt:Int} (ho:OpsW W0 v ops) (hW:PowW W0) (hE:ErrW W0) (hs:Sat W0 F w) :
 Calls Tryz.prog 6 #[v,.int .i64 mm,.int .i64 tt] w fun x w'=>x=.returned (.bool true)∧Sat W0 F w':=by
 refine enter Tryz.func6 rfl Tryz.ntmps6 Tryz.results6 rfl ?_
 refine gy ?_
 refine w_call (met (plays_spec (most:=6) (by decide) ho hW hE hs) ?_)
 rintro _ w ⟨rfl,hs⟩
 refine ⟨_,rfl,?_⟩
 refine gy ?_
 exact wq_ret rfl ⟨rfl,hs⟩
theorem snaps_spec {ops:List OpV} {mm tt:Int} (ho:OpsW W0 v ops) (hW:PowW W0) (hE:ErrW W0) (hs:Sat W0 F w) :
 Calls Tryz.prog 7 #[v,.int .i64 mm,.int .i64 tt] w fun x w'=>x=.returned (.bool true)∧Sat W0 F w':=by
 refine enter Tryz.func7 rfl Tryz.ntmps7 Tryz.results7 rfl ?_
 refine gy ?_
 refine w_call (met (plays_spec (most:=10) (by decide) ho hW hE hs) ?_)
 rintro _ w ⟨rfl,hs⟩
 refine ⟨_,rfl,?_⟩
 refine gy ?_
 exact wq_ret rfl ⟨rfl,hs⟩
theorem all_law {ops:List OpV} {mm tt:Int} (ho:OpsW W0 v ops) (hW:PowW W0) (hE:ErrW W0) (hs:Sat W0 F w) :
 Calls Tryz.prog 8 #[v,.int .i64 mm,.int .i64 tt] w fun x w'=>x=.returned (.bool true)∧Sat W0 F w':=by
 refine enter Tryz.func8 rfl Tryz.ntmps8 Tryz.results8 rfl ?_
 refine gy ?_
 refine w_call (met (plays_spec (most:=11) (by decide) ho hW hE hs) ?_)
 rintro _ w ⟨rfl,hs⟩
 refine ⟨_,rfl,?_⟩
 refine gy ?_
 exact wq_ret rfl ⟨rfl,hs⟩
end
section
open Go Go.ChangeShapes Go.WideShapes Go.RowKit
theorem size65:400 ≥ 0∧(65:Nat)<Tryz.prog.types.size∧(3:Nat)<Tryz.prog.types.size:=⟨by decide,of_decide_eq_true (by kernel_rfl),of_decide_eq_true (by kernel_rfl)⟩
section
variable {H:Type} {enc:TypeId×Value→H}
theorem law3 {f:FuncId} {fn:Func} {s:ChangeSpec} (hpar:fn.params=#[65,3,3]) (hres:fn.resultTypes=#[4]) (hvars:s.vars=[]) (hs:∀ d1 d2 d3:DataW H,s.fn H [d1,d2,d3]={ results:=[.lit (.bool true)],args:=[d1,d2,d3] })
 (walk:∀ (W:World) (v:Value) (ops:List OpV) (a b:Int),OpsW W v ops→PowW W→ErrW W→Calls Tryz.prog f #[v,.int .i64 a,.int .i64 b] W fun x w'=>x=.returned (.bool true)∧Sat W [] w')
 (W:World) (base:Nat) (args:Array Value) (ds gs:List (DataW H)) (before:List MemPlace)
 (hval:∀ (j:Nat) t v,fn.params[j]?=some t→args[j]?=some v→Value.okWide Tryz.prog W .any base t v)
 (hW:DataW.Whole enc Tryz.prog fn.params.toList s.vars false W args.toList ds gs before)
 (hwt:(DataW.weightsEach Tryz.prog (fn.params.toList++s.plain.varTypes Tryz.prog) (ds++gs)).all (· ≤ reachBytes)=true) (hX:laidMetH Tryz.prog laid4 W) (fresh:Bool) :
 Calls Tryz.prog f args W fun
  | .returned v,W'=>W'.os=W.os∧s.post enc Tryz.prog fn false fresh false false W args v W'
  | _,_=>False:=by
 have hW':=hW
 obtain ⟨p,q,hA,hV,rfl,hfz,hnd⟩:=hW
 have hA0:=hA
 rw [hpar] at hA hval hwt
 rw [hvars] at hV
 obtain ⟨v0,v1,v2,d0,d1,d2,p0,p1,p2,rfl,rfl,rfl,h0,h1,h2⟩:=trodAll_three hA
 obtain ⟨rfl,rfl⟩:gs=[]∧q=[]:=by
  cases gs with
  | nil=>exact ⟨rfl,hV⟩
  | cons g r=>exact absurd hV (by intro h;cases h)
 obtain ⟨n1,rfl,rfl,rfl,_⟩:=open_int Tryz.underlying3 (hval 1 3 v1 rfl rfl) h1
 obtain ⟨n2,rfl,rfl,rfl,_⟩:=open_int Tryz.underlying3 (hval 2 3 v2 rfl rfl) h2
 obtain ⟨al,len,cap,rfl⟩:=okWide_slice Tryz.underlying65 (hval 0 65 v0 rfl rfl)
 obtain ⟨fuel,hf⟩:=h0
 have hw0:Wt 65 d0:=fun x hx=>by
  have h3:=List.all_eq_true.1 hwt x (by
   show x∈DataW.weightsEach Tryz.prog (65::_) (d0::_)
   unfold DataW.weightsEach
   exact List.mem_append_left _ hx)
  have h4:x≤reachBytes:=by simpa using h3
  unfold reachBytes at h4
  omega
 obtain ⟨v,ops,e1,ho⟩:=open_ops hf hw0
 have e1:Value.slice al len cap=v:=by simpa [Value.cells] using e1
 subst e1
 refine (walk W _ ops n1 n2 ho (powW_of hX) (errW_of hX)).mono ?_
 rintro x W' ⟨rfl,hsat⟩
 show W'.os=W.os∧s.post enc Tryz.prog fn false fresh false false W _ _ W'
 refine ⟨hsat.os,_,_,_,[],p0++[]++[],[],hW',?_,?_,?_,kept_of_sat hsat _,?_⟩
 ·rw [List.append_nil,hs,hres]
  exact trodAll_mk1 (shut_bool Tryz.underlying4 true)
 ·rw [List.append_nil,hs]
  exact args_again (by
   rw [hpar]
   intro t ht
   simp at ht
   rcases ht with rfl|rfl
   ·exact size65.2.1
   ·exact size65.2.2) hA0 hsat
 ·rw [List.append_nil,hs,hvars]
  exact rfl
 ·intro h
  cases h
theorem witness3 {os:Os} {f:FuncId} {fn:Func} {s:ChangeSpec}
 (hok:Input.okWideB Tryz.prog ((World.doorLaid Tryz.prog 400 os).forCall (fun _ _=>0) ⟨#[],#[.slice none 0 0,.int .i64 0,.int .i64 0],[]⟩) f ⟨#[],#[.slice none 0 0,.int .i64 0,.int .i64 0],[]⟩=true)
 (hpre:s.preB enc Tryz.prog fn [] false ((World.doorLaid Tryz.prog 400 os).forCall (fun _ _=>0) ⟨#[],#[.slice none 0 0,.int .i64 0,.int .i64 0],[]⟩).memory #[.slice none 0 0,.int .i64 0,.int .i64 0] 8=true)
 (hsz:s.sizedB enc Tryz.prog fn false ((World.doorLaid Tryz.prog 400 os).forCall (fun _ _=>0) ⟨#[],#[.slice none 0 0,.int .i64 0,.int .i64 0],[]⟩).memory #[.slice none 0 0,.int .i64 0,.int .i64 0] 8=true) :
 ∃ (w:World) (tape:Tape) (i:Input),w.os=os∧(w.forCall tape i).Shaped Tryz.prog∧i.vars=[]∧Input.okWide Tryz.prog (w.forCall tape i) .any w.heap.size f i ∧
  ((s.pre enc Tryz.prog fn [] false (w.forCall tape i).memory i.args∧laidMetH Tryz.prog laid4 (w.forCall tape i).memory)∧sizedMet enc Tryz.prog fn (OpenSpec.ofChange s) false (w.forCall tape i).memory i.args)∧({ calm:=true }:Assume).holds Tryz.prog (lone (Frame.enter Tryz.prog f i.args .normal) [] (w.forCall tape i)):=
 ⟨World.doorLaid Tryz.prog 400 os,fun _ _=>0,⟨#[],#[.slice none 0 0,.int .i64 0,.int .i64 0],[]⟩,rfl,shaped_door os _,(Input.okWide_of_okWideB (base:=0) hok).1,(Input.okWide_of_okWideB hok).2,⟨⟨ChangeSpec.pre_of_preB hpre,laid_door os _⟩,sizedMet_of_sizedB hsz⟩,by
   simp only [Assume.holds]
   exact ⟨by simp,fun _ _ _ _=>rfl,by simp,by simp,by simp⟩⟩
end
end
theorem card_goes {p:Pinned} {s:OpenSpec} {c:OpenClaim} {kinds:List LaidKind} {har:Bool×String} (hc:c.holds p s) (hw:c.wfByText s=true) (htie:c.laidByTextAt .later p kinds true)
 (hst:c.start=.entering) (hnb:c.noBlocks=false∧c.again=false) (hm:p.checked.prog.mainIs=some (har.1,har.2.toList))
 {f:FuncId} {fn:Func} (hf:p.checked.prog.funcNamed c.func=some f) (hfn:p.checked.prog.funcs[f]?=some fn) (hlook:true=p.checked.prog.looks []) (hps:(fn.params.toList.all fun t=>!p.checked.prog.wantsStandIn t)=true)
 (hg:true=c.goesBy p.checked.prog) :
 Claim7.holds p (.plain s) { stood:={ row:=c,standIns:=[],harness:=har,looks:=true },kinds:=[],alts:=[],goes:=true,laidByText:=true,laidKinds:=kinds,laidTests:=true,laidLooks:=.later }:=by
 have h6:Claim7.isSixth { stood:={ row:=c,standIns:=[],harness:=har,looks:=true },kinds:=[] }=false:=by simp [Claim7.isSixth]
 have hl:∀ f' fn',p.checked.prog.funcNamed c.func=some f'→p.checked.prog.funcs[f']?=some fn'→true=p.checked.prog.looks []∧∀ (j:Nat) t,fn'.params[j]?=some t→p.checked.prog.wantsStandIn t=false:=by
  intro f' fn' h1 h2
  obtain rfl:f=f':=Option.some.inj (hf.symm.trans h1)
  obtain rfl:fn=fn':=Option.some.inj (hfn.symm.trans h2)
  refine ⟨hlook,fun j t ht=>?_⟩
  have:=List.all_eq_true.1 hps t (List.mem_of_getElem? (by simpa using ht))
  simpa using this
 exact ⟨Claim7.tied_new_at .later kinds true (Claim7.new_of_sixth hc har true hst hnb hm h6 hl) hw,(fun D hD=>by cases hD),htie,(fun h=>by cases h),hg⟩
end Go.Proofs.YtecibefflhomdaaGreatDoor
