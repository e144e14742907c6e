/-
  Part 3: The engine 4 the judgements over frames; The engine 5 rules for operations; THE PURE MIRROR, PART 1 bytes, numbers, texts, sums, frames.
-/
import Derived.Test.YtecibefflhomdaaGreatDoorU02
import Derived.Laws.Cells
import Derived.Laws.CopyRow
import Derived.Laws.Tables
import Derived.Defers
import Derived.Orders
import Derived.OrdersHeld
import Derived.TacticsIn
import Derived.CallsIn
import Derived.RangeFuncIn
set_option maxHeartbeats 8000000
set_option maxRecDepth 100000
set_option linter.all false
namespace Go.Proofs.YtecibefflhomdaaGreatDoor
open Go
section
def fnc:Option Nat→Fence
 | none=>Fence.wide
 | some l=>Fence.wide.inRound l
theorem fnc_fn (ro:Option Nat) (f:FuncId):(fnc ro).fn f:=by cases ro<;>trivial
theorem fnc_round (ro:Option Nat):(fnc ro).round=ro:=by cases ro<;>rfl
theorem fnc_depth (ro:Option Nat):(fnc ro).depth=none:=by cases ro<;>rfl
theorem fnc_calls {P:Program} {f:FuncId} {args:Array Value} {w:World} {R:Ending→World→Prop} {n:Nat} (ro:Option Nat) (h:Calls P f args w R):CallsIn (fnc ro) n P f args w R:=by
 have:=(callsIn_wide (n:=n)).2 h
 cases ro
 ·exact this
 ·exact ⟨trivial,this.2⟩
theorem fnc_rows {P:Program} {row:String} {args:Array Value} {w:World} {R:Value→World→Prop} {n:Nat} (ro:Option Nat) (h:Rows P row args w R):RowsIn (fnc ro) n P row args w R:=fun c cs _=>by
 obtain ⟨v,w',hR,hs⟩:=h c cs
 refine ⟨v,w',hR,?_⟩
 have:=(stepsIn_wide (P:=P)).2 hs
 cases ro<;>exact this
def noDef (l:List Oper):Bool:=l.all fun o=>match o.op with | .defer _=>false|_=>true
theorem depth_no {ro:Option Nat} {q:Prop}:(fnc ro).depth.isSome=true→q:=fun h=>by rw [fnc_depth] at h;cases h
theorem upon_in {P:Program} {o:Oper} {a:Act} {next next':Act→World→Prop} {Q:Exit→Act→World→Prop} {n:Nat} (ro:Option Nat) (hn:∀ a w,next a w→next' a w) (x:Result Next) (h:o.upon P a next Q x):o.uponIn (fnc ro) n P a next' Q x:=by
 cases x with
 | ok x w'=>
  cases x<;>simp only [Oper.upon,Oper.uponIn] at h ⊢ <;>
   first
    | exact hn _ _ h
    | exact ⟨depth_no,fnc_calls ro (Calls.mono h fun e w'' he=>by cases e<;>first|exact hn _ _ he|exact he)⟩
    | exact ⟨depth_no,fnc_rows ro (Rows.mono h fun _ _ he=>hn _ _ he)⟩
 | halt x w'=>cases x<;>simp only [Oper.upon,Oper.uponIn] at h ⊢<;>exact h
class NOut (Q:Exit→Act→World→Prop):Prop where
 no:∀ a w,¬ Q .outgrown a w
theorem NOut.lets {Q:Exit→Act→World→Prop} [h:NOut Q]:¬ LetsOut Q:=fun ⟨a,w,k⟩=>h.no a w k
theorem opsIn {P:Program} {ops:Array Oper} {Q:Exit→Act→World→Prop} [NOut Q] {n:Nat} (ro:Option Nat) (hd:(ro.isNone||noDef ops.toList)=true):∀ (l:List Nat) (a:Act) (w:World),wpOps P ops Q l a w→wpOpsIn (fnc ro) n P ops Q l a w
 | [],_,_,h=>h
 | i::rest,a,w,h=>by
  simp only [wpOps] at h
  simp only [wpOpsIn]
  cases ho:ops[i]? with
  | none=>simp only [ho] at h ⊢;exact opsIn ro hd rest a w h
  | some o=>
   simp only [ho] at h ⊢
   have hs:o.semAt (fnc ro).round a.eval=execOp a.eval o:=by
    rw [fnc_round]
    cases ro with
    | none=>rfl
    | some l=>
     refine Oper.semAt_eq _ _ _ fun c hc=>?_
     simp only [Option.isNone_some,Bool.false_or,noDef,List.all_eq_true] at hd
     have:=hd o (Array.mem_toList_iff.2 (Array.mem_of_getElem? ho))
     rw [hc] at this;cases this
   split
   ·rename_i hw
    rw [if_pos hw] at h
    rcases h with h|⟨_,h⟩
    ·refine ⟨fun f _=>fnc_fn ro f,?_⟩
     rw [hs]
     exact upon_in ro (fun a w=>opsIn ro hd rest a w) _ h
    ·exact (NOut.lets h).elim
   ·rename_i hw
    rw [if_neg hw] at h
    exact ⟨fun f _=>fnc_fn ro f,opsIn ro hd rest _ w h⟩
instance {K:Act→World→Prop} {Q:Exit→Act→World→Prop} [h:NOut Q]:NOut (Exit.then K Q):=⟨h.no⟩
instance {id:Nat} {Q:Exit→Act→World→Prop} [h:NOut Q]:NOut (Exit.inBlock id Q):=⟨h.no⟩
def WL (ops:Array Oper) (Q:Exit→Act→World→Prop) (n:Nat) (ds:Md) (rest:List Oper) (e:Env) (w:World):Prop:=
 ∀ a,Fr n ds e a→wpList Tryz.prog ops Q rest a w
def WC (c:Code) (Q:Exit→Act→World→Prop) (n:Nat) (ds:Md) (e:Env) (w:World):Prop:=
 ∀ a,Fr n ds e a→c.wpIn (fnc ds.round) 0 Tryz.prog Q a w
def WQ (Q:Exit→Act→World→Prop) (x:Exit) (n:Nat) (ds:Md) (e:Env) (w:World):Prop:=
 ∀ a,Fr n ds e a→Q x a w
section
variable {Q:Exit→Act→World→Prop} {n:Nat} {ds:Md} {e e':Env} {w:World} {c x y:Code}
theorem WC.sub (hs:Sub e' e) (k:WC c Q n ds e' w):WC c Q n ds e w:=fun a ha=>k a (ha.sub hs)
theorem wc_seq (k:WC x (Exit.then (fun a w=>y.wpIn (fnc ds.round) 0 Tryz.prog Q a w) Q) n ds e w):WC (.seq x y) Q n ds e w:=fun a ha=>wpIn_seq (k a ha)
theorem wc_block {id:Nat} (k:WC c (Exit.inBlock id Q) n ds e w):WC (.block id c) Q n ds e w:=fun a ha=>wpIn_block (k a ha)
theorem wc_skip (k:WQ Q .normal n ds e w):WC .skip Q n ds e w:=fun a ha=>wpIn_skip (k a ha)
theorem wc_ret (k:WQ Q .ret n ds e w):WC .ret Q n ds e w:=fun a ha=>wpIn_ret (k a ha)
theorem wc_exit {id:Nat} (k:WQ Q (.exit id) n ds e w):WC (.exit id) Q n ds e w:=fun a ha=>wpIn_exit (k a ha)
theorem wc_cond {o:Operand} {b:Bool} (hc:ev e o=some (.bool b)) (ht:b=true→WC x Q n ds e w) (hf:b=false→WC y Q n ds e w):WC (.cond o x y) Q n ds e w:=
 fun a ha=>wpIn_cond_split (ha.ev hc) (fun h=>ht h a ha) (fun h=>hf h a ha)
theorem wc_condT {o:Operand} (hc:ev e o=some (.bool true)) (k:WC x Q n ds e w):WC (.cond o x y) Q n ds e w:=wc_cond hc (fun _=>k) (fun h=>by cases h)
theorem wc_condF {o:Operand} (hc:ev e o=some (.bool false)) (k:WC y Q n ds e w):WC (.cond o x y) Q n ds e w:=wc_cond hc (fun h=>by cases h) (fun _=>k)
theorem wc_if {o:Operand} {p:Prop} [Decidable p] (hc:ev e o=some (.bool (decide p))) (ht:p→WC x Q n ds e w) (hf:¬ p→WC y Q n ds e w):WC (.cond o x y) Q n ds e w:=
 wc_cond hc (fun h=>ht (by simpa using h)) (fun h=>hf (by simpa using h))
theorem wc_region {id:Nat} {l:List Oper} [NOut Q] (hd:(ds.round.isNone||noDef l)=true) (k:WL l.toArray Q n ds l e w):WC (.region id l.toArray false) Q n ds e w:=fun a ha=>by
 refine wpIn_region (opsIn _ (by simpa using hd) _ _ _ ?_)
 rw [List.range_eq_range',← Array.length_toList,wpOps_eq_wpList l.toArray.toList 0 (by simp)]
 simpa using k a ha
theorem wc_cut {α:Type} (E:α→Env) (I:α→World→Prop) (k1:WC x (Exit.then (fun a w=>∃ z,Fr n ds (E z) a∧I z w) Q) n ds e w)
 (k2:∀ z w,I z w→WC y Q n ds (E z) w):WC (.seq x y) Q n ds e w:=fun a ha=>
 wpIn_seq (Go.wpIn_mono (k1 a ha) fun ex a w h=>by
  cases ex with
  | normal=>obtain ⟨z,hz,hi⟩:=h;exact k2 z w hi a hz
  | _=>exact h)
theorem wq_cut {α:Type} {E:α→Env} {I:α→World→Prop} (z:α) (hs:Sub (E z) e) (hi:I z w):WQ (Exit.then (fun a w=>∃ z,Fr n ds (E z) a∧I z w) Q) .normal n ds e w:=
 fun _ ha=>⟨z,ha.sub hs,hi⟩
theorem wq_then {ro:Option Nat} (hr:ds.round=ro) (k:WC y Q n ds e w):WQ (Exit.then (fun a w=>y.wpIn (fnc ro) 0 Tryz.prog Q a w) Q) .normal n ds e w:=by subst hr;exact k
theorem wq_then_exit {K:Act→World→Prop} {id:Nat} (k:WQ Q (.exit id) n ds e w):WQ (Exit.then K Q) (.exit id) n ds e w:=k
theorem wq_then_ret {K:Act→World→Prop} (k:WQ Q .ret n ds e w):WQ (Exit.then K Q) .ret n ds e w:=k
theorem wq_blk {id:Nat} (k:WQ Q .normal n ds e w):WQ (Exit.inBlock id Q) .normal n ds e w:=k
theorem wq_blk_ret {id:Nat} (k:WQ Q .ret n ds e w):WQ (Exit.inBlock id Q) .ret n ds e w:=k
theorem wq_blk_hit {id:Nat} (k:WQ Q .normal n ds e w):WQ (Exit.inBlock id Q) (.exit id) n ds e w:=fun a ha=>by simp only [Exit.inBlock,if_true];exact k a ha
theorem wq_blk_miss {id id':Nat} (h:Nat.beq id' id=false) (k:WQ Q (.exit id') n ds e w):WQ (Exit.inBlock id Q) (.exit id') n ds e w:=fun a ha=>by
 simp only [Exit.inBlock,if_neg (Nat.ne_of_beq_eq_false h)];exact k a ha
def LoopQ {α:Type} (E:α→Env) (I:α→World→Prop) (μ:α→Nat) (z:α) (n:Nat) (ds:Md) (Q:Exit→Act→World→Prop):Exit→Act→World→Prop:=
 Exit.then (fun a w=>∃ y,Fr n ds (E y) a∧I y w∧μ y<μ z) Q
instance {α:Type} {E:α→Env} {I:α→World→Prop} {μ:α→Nat} {z:α} {n:Nat} {ds:Md} {Q:Exit→Act→World→Prop} [h:NOut Q]:NOut (LoopQ E I μ z n ds Q):=⟨h.no⟩
theorem wc_loop {α:Type} (E:α→Env) (I:α→World→Prop) (μ:α→Nat) (z0:α) (hs:Sub (E z0) e) (hI:I z0 w)
 (round:∀ z w,I z w→WC c (LoopQ E I μ z n ds Q) n ds (E z) w):WC (.loop c) Q n ds e w:=by
 intro a ha
 intro b k cs hro hb hr
 have key:∀ m z a w,μ z=m→Fr n ds (E z) a→I z w →
  ∃ e a' w',Q e a' w'∧ArrivesIn (Machine.fenced Tryz.prog (fnc ds.round)) Tryz.prog (lone (b.atR a (.code c::.inLoop c::k)) cs w) b k cs e a' w':=by
  intro m
  induction m using Nat.strongRecOn with
  | _ m ih=>
   intro z a w hm hz hI
   obtain ⟨e,a₁,w₁,hq,harr⟩:=round z w hI a hz b (.inLoop c::k) cs hro hb hr
   cases e with
   | normal=>
    obtain ⟨y,hy,hI₁,hlt⟩:=hq
    obtain ⟨e₂,a₂,w₂,hq₂,harr₂⟩:=ih (μ y) (hm▸hlt) y a₁ w₁ rfl hy hI₁
    exact ⟨e₂,a₂,w₂,hq₂,.of_steps (StepsIn.trans harr (.one (fenced_calm hb hr rfl) stepR_inLoop)) harr₂⟩
   | exit id=>exact ⟨_,a₁,w₁,hq,.pass (x:=.inLoop c) rfl (fun _ _=>.inl (by simp)) harr⟩
   | goto l=>exact ⟨_,a₁,w₁,hq,.pass (x:=.inLoop c) rfl (fun _ _=>.inl (by simp)) harr⟩
   | ret=>exact ⟨_,a₁,w₁,hq,.pass (x:=.inLoop c) rfl (fun _ _=>.inl (by simp)) harr⟩
   | panic ch=>exact ⟨_,a₁,w₁,hq,.pass (x:=.inLoop c) rfl (fun _ _=>.inl (by simp)) harr⟩
   | outgrown=>exact ⟨_,a₁,w₁,hq,.pass (x:=.inLoop c) rfl (fun _ _=>.inl (by simp)) harr⟩
 obtain ⟨e',a',w',hq,harr⟩:=key _ z0 a w rfl (ha.sub hs) hI
 exact ⟨e',a',w',hq,.of_steps (.one (fenced_calm hb hr rfl) stepR_loop) harr⟩
section
variable {α:Type} {E:α→Env} {I:α→World→Prop} {μ:α→Nat} {z:α}
theorem wq_round (y:α) (hs:Sub (E y) e) (hI:I y w) (hμ:μ y<μ z):WQ (LoopQ E I μ z n ds Q) .normal n ds e w:=fun _ ha=>⟨y,ha.sub hs,hI,hμ⟩
theorem wq_loop_exit {id:Nat} (k:WQ Q (.exit id) n ds e w):WQ (LoopQ E I μ z n ds Q) (.exit id) n ds e w:=k
theorem wq_loop_ret (k:WQ Q .ret n ds e w):WQ (LoopQ E I μ z n ds Q) .ret n ds e w:=k
end
def resV (e:Env):List ResultVar→Option (List Value)
 | []=>some []
 | .tmp t::r=>match lk e t with
  | some v=>match resV e r with
   | some vs=>some (v::vs)
   | none=>none
  | none=>none
 | _::_=>none
def tupV:List Value→Value
 | [v]=>v
 | vs=>.tuple vs.toArray
theorem resV_run {fn:Func} {rs:List ResultVar} {a:Act} (ha:Fr n ds e a) (hr:fn.results=rs.toArray) {vs:List Value} (h:resV e rs=some vs) (w:World) :
 (results fn a.tmps).run Tryz.prog w=.ok (tupV vs) w:=by
 have key:∀ (rs:List ResultVar) (vs:List Value),resV e rs=some vs →
  (List.mapM (fun x=>match x with|ResultVar.tmp t=>(pure (a.tmps.getD t undef):Sem Value)|ResultVar.cell a' t=>do loadVar t (← asAddr (a.tmps.getD a' undef))) rs).run Tryz.prog w=.ok vs w:=by
  intro rs
  induction rs with
  | nil=>intro vs h;simp only [resV,Option.some.injEq] at h;subst h;rfl
  | cons x r ih=>
   intro vs h
   cases x with
   | cell a' t=>simp [resV] at h
   | tmp t=>
    simp only [resV] at h
    split at h
    ·rename_i v hv
     split at h
     ·rename_i us hu
      simp only [Option.some.injEq] at h;subst h
      have:=ih us hu
      rw [List.mapM_cons]
      have hg:a.tmps.getD t undef=v:=by simp [ha.get t v hv]
      simp only [Sem.run_bind,Sem.run_pure,Result.andThen_ok,hg,this]
     ·cases h
    ·cases h
 unfold results
 rw [hr,List.mapM_toArray]
 simp only [Sem.run_bind,Sem.run_map]
 erw [key rs vs h]
 simp only [Result.andThen_ok,Sem.run_pure]
 cases vs with
 | nil=>rfl
 | cons v r=>cases r<;>rfl
def RetQ (rs:List ResultVar) (R:Ending→World→Prop):Exit→Act→World→Prop
 | .normal,a,w | .ret,a,w=>a.defers=[]∧∃ fn:Func,fn.results=rs.toArray∧∃ v,(results fn a.tmps).run Tryz.prog w=.ok v w∧R (.returned v) w
 | .panic chain,a,w=>a.defers=[]∧R (.panicked chain) w
 | _,_,_=>False
instance {rs:List ResultVar} {R:Ending→World→Prop}:NOut (RetQ rs R):=⟨fun _ _ h=>h⟩
theorem wq_ret {rs:List ResultVar} {R:Ending→World→Prop} {vs:List Value} (h:resV e rs=some vs) (k:R (.returned (tupV vs)) w):WQ (RetQ rs R) .ret n md0 e w:=
 fun a ha=>⟨ha.defers,{ (default:Func) with results:=rs.toArray },rfl,_,resV_run ha rfl h w,k⟩
theorem wq_end {rs:List ResultVar} {R:Ending→World→Prop} {vs:List Value} (h:resV e rs=some vs) (k:R (.returned (tupV vs)) w):WQ (RetQ rs R) .normal n md0 e w:=
 fun a ha=>⟨ha.defers,{ (default:Func) with results:=rs.toArray },rfl,_,resV_run ha rfl h w,k⟩
def resW (w:World) (e:Env):List ResultVar→List Value→Prop
 | [],vs=>vs=[]
 | .tmp t::r,vs=>∃ v us,vs=v::us∧lk e t=some v∧resW w e r us
 | .cell t T::r,vs=>∃ v us b o,vs=v::us∧lk e t=some (.pointer (some ⟨b,o,none⟩))∧(loadVar T ⟨b,o,none⟩).run Tryz.prog w=.ok v w∧resW w e r us
theorem resW_run {fn:Func} {rs:List ResultVar} {a:Act} (ha:Fr n ds e a) (hr:fn.results=rs.toArray) {vs:List Value} (h:resW w e rs vs) :
 (results fn a.tmps).run Tryz.prog w=.ok (tupV vs) w:=by
 have key:∀ (rs:List ResultVar) (vs:List Value),resW w e rs vs →
  (List.mapM (fun x=>match x with|ResultVar.tmp t=>(pure (a.tmps.getD t undef):Sem Value)|ResultVar.cell a' t=>do loadVar t (← asAddr (a.tmps.getD a' undef))) rs).run Tryz.prog w=.ok vs w:=by
  intro rs
  induction rs with
  | nil=>intro vs h;simp only [resW] at h;subst h;rfl
  | cons x r ih=>
   intro vs h
   cases x with
   | cell t T=>
    obtain ⟨v,us,b,o,rfl,hv,hl,hu⟩:=h
    have:=ih us hu
    rw [List.mapM_cons]
    have hg:a.tmps.getD t undef=.pointer (some ⟨b,o,none⟩):=by simp [ha.get t _ hv]
    have h0:(asAddr (.pointer (some ⟨b,o,none⟩))).run Tryz.prog w=.ok ⟨b,o,none⟩ w:=rfl
    simp only [Sem.run_bind,Sem.run_pure,Result.andThen_ok,hg,h0,hl,this]
   | tmp t=>
    obtain ⟨v,us,rfl,hv,hu⟩:=h
    have:=ih us hu
    rw [List.mapM_cons]
    have hg:a.tmps.getD t undef=v:=by simp [ha.get t v hv]
    simp only [Sem.run_bind,Sem.run_pure,Result.andThen_ok,hg,this]
 unfold results
 rw [hr,List.mapM_toArray]
 simp only [Sem.run_bind,Sem.run_map]
 erw [key rs vs h]
 simp only [Result.andThen_ok,Sem.run_pure]
 cases vs with
 | nil=>rfl
 | cons v r=>cases r<;>rfl
theorem wq_retw {rs:List ResultVar} {R:Ending→World→Prop} {vs:List Value} (h:resW w e rs vs) (k:R (.returned (tupV vs)) w):WQ (RetQ rs R) .ret n md0 e w:=
 fun a ha=>⟨ha.defers,{ (default:Func) with results:=rs.toArray },rfl,_,resW_run ha rfl h,k⟩
def argE:Nat→List Value→Env
 | _,[]=>[]
 | i,v::r=>(i,v)::argE (i+1) r
theorem argE_get:∀ (vs:List Value) (i:Nat) (t:Nat) (v:Value),lk (argE i vs) t=some v→∃ j,t=i+j∧vs[j]?=some v
 | [],_,_,_,h=>by simp [argE,lk] at h
 | u::r,i,t,v,h=>by
  unfold argE lk at h
  cases hk:Nat.beq i t with
  | true=>rw [hk] at h;simp at h;subst h;exact ⟨0,(Nat.eq_of_beq_eq_true hk).symm,rfl⟩
  | false=>
   rw [hk] at h
   obtain ⟨j,rfl,hj⟩:=argE_get r (i+1) t v h
   exact ⟨j+1,by omega,hj⟩
theorem results_congr {fn fn':Func} (h:fn.results=fn'.results) (tmps:Array Value):results fn tmps=results fn' tmps:=by unfold results;rw [h]
theorem frArgs {args:List Value} {n:Nat} (hle:Nat.ble args.length n=true):Fr n md0 (argE 0 args) { tmps:=args.toArray++Array.replicate (n-args.toArray.size) undef,defers:=[] }:=by
 have hle':args.length≤n:=by simpa using hle
 refine ⟨by simp;omega,rfl,fun t v h=>?_⟩
 obtain ⟨j,rfl,hj⟩:=argE_get args 0 t v h
 have hlt:=(List.getElem?_eq_some_iff.1 hj).1
 simp only [Nat.zero_add]
 rw [Array.getElem?_append_left (by simpa using hlt)]
 simpa using hj
theorem enter {f:FuncId} {fn:Func} {body:Code} {n:Nat} {rs:List ResultVar} {args:List Value} {R:Ending→World→Prop}
 (hf:Tryz.prog.funcs[f]?=some fn) (hb:fn.body=some body) (hn:fn.ntmps=n) (hr:fn.results=rs.toArray) (hle:Nat.ble args.length n=true)
 (k:WC body (RetQ rs R) n md0 (argE 0 args) w):Calls Tryz.prog f args.toArray w R:=by
 refine calls_of_wp hf hb ?_
 rw [hn]
 refine wp_mono (wpIn_wide.1 (k _ (frArgs hle))) ?_
 intro ex a w h
 cases ex with
 | normal=>obtain ⟨hd,fn',hr',v,hv,hR⟩:=h;exact ⟨hd,v,by rw [results_congr (hr.trans hr'.symm)];exact hv,hR⟩
 | ret=>obtain ⟨hd,fn',hr',v,hv,hR⟩:=h;exact ⟨hd,v,by rw [results_congr (hr.trans hr'.symm)];exact hv,hR⟩
 | panic chain=>exact h
 | exit id=>exact h
 | goto l=>exact h
 | outgrown=>exact h.elim
end
attribute [irreducible] WL WC WQ
end
section
attribute [local semireducible] WL WC WQ
def tFun:List (Nat×Unit):=[(3,()),(4,()),(5,()),(6,()),(7,()),(8,()),(9,()),(10,()),(11,()),(12,()),(13,()),(14,()),(15,()),(16,()),(17,()),(18,()),(19,()),(20,()),(21,()),(22,()),(23,()),(24,()),(25,()),(26,()),(27,()),(28,()),(29,()),(30,()),(31,()),(32,()),(33,()),(34,()),(35,()),(36,()),(37,()),(38,()),(39,()),(40,()),(41,()),(42,()),(43,()),(44,()),(45,()),(46,()),(47,()),(48,()),(49,()),(50,()),(51,()),(52,()),(53,()),(54,()),(55,()),(56,()),(57,()),(58,()),(59,()),(60,()),(61,()),(62,()),(63,()),(64,()),(65,()),(66,()),(67,()),(68,()),(69,()),(70,()),(71,()),(72,()),(73,()),(74,()),(75,()),(76,()),(77,()),(78,()),(79,()),(80,()),(81,()),(82,()),(83,()),(84,()),(85,()),(86,()),(87,()),(88,()),(89,()),(90,()),(91,()),(92,()),(93,()),(94,()),(95,()),(96,()),(97,()),(98,()),(99,()),(100,()),(101,()),(105,()),(106,()),(107,()),(114,()),(115,()),(117,()),(118,()),(123,()),(126,()),(127,()),(128,()),(129,()),(130,()),(131,()),(132,()),(133,()),(134,()),(135,()),(136,()),(137,()),(138,()),(139,()),(140,()),(141,()),(142,()),(143,()),(144,()),(145,()),(146,()),(147,()),(148,()),(149,()),(150,()),(151,()),(152,()),(153,()),(154,()),(155,()),(156,()),(157,()),(158,()),(159,()),(160,()),(161,()),(163,()),(164,()),(165,()),(166,()),(167,()),(168,()),(169,()),(170,()),(171,()),(172,()),(173,()),(174,()),(175,()),(176,()),(177,()),(178,()),(179,()),(180,()),(183,()),(184,()),(185,()),(191,()),(192,()),(193,()),(195,()),(197,()),(198,()),(199,()),(200,()),(201,()),(202,()),(203,()),(204,()),(205,()),(206,()),(207,()),(208,()),(209,()),(210,()),(211,()),(212,()),(213,()),(214,()),(215,()),(216,()),(217,()),(225,()),(226,()),(227,()),(228,()),(229,()),(230,()),(231,()),(232,()),(233,()),(234,()),(235,()),(236,()),(237,()),(238,()),(239,()),(240,()),(241,()),(242,()),(243,()),(244,()),(245,()),(246,()),(247,()),(248,()),(249,()),(250,()),(251,()),(252,()),(253,()),(254,()),(255,()),(256,())]
def kFun (p:Program) (f:Nat):Option Unit:=match p.funcs[f]? with
 | some fn=>if fn.body.isSome&&!(fn.name == "runtime.NumGoroutine") then some () else none
 | none=>none
theorem tFun_tab:tFun.map (fun p=>kFun Tryz.prog p.1)=tFun.map (fun p=>some p.2):=by kernel_rfl
theorem call_of {f:Nat} {u:Unit} {w:World} {args:Array Value} (h:lk tFun f=some u):(callFunc f args).run Tryz.prog w=.ok (.enter f args) w:=by
 have:=tab_of tFun_tab h
 unfold kFun at this
 split at this
 ·rename_i fn hfn
  split at this
  ·rename_i hc
   simp only [Bool.and_eq_true,Bool.not_eq_true'] at hc
   obtain ⟨h1,h2⟩:=hc
   have h3:fn.body.isNone=false:=by cases hb:fn.body<;>simp_all
   simp only [callFunc,Sem.run_bind,run_program,Result.andThen_ok,hfn,h2,h3]
   rfl
  ·cases this
 ·cases this
section
variable {ops:Array Oper} {Q:Exit→Act→World→Prop} {n:Nat} {ds:Md} {e:Env} {w w':World} {rest:List Oper}
variable {op:Op} {ty:TypeId} {pos:String} {af:Array Edge} {d:Nat} {v:Value} {W0:World} {l l' r:List HProp}
theorem wl_nil (k:WQ Q .normal n ds e w):WL ops Q n ds [] e w:=fun a ha=>wpList_nil (k a ha)
theorem wl_run {v:Value} (h:∀ a,Fr n ds e a→(execOp a.eval ⟨some d,op,ty,pos,af,none⟩).run Tryz.prog w=.ok (.value v) w') (hd:Nat.blt d n=true)
 (k:WL ops Q n ds rest ((d,v)::e) w'):WL ops Q n ds (⟨some d,op,ty,pos,af,none⟩::rest) e w:=fun a ha=>by
 refine wpList_plain rfl fun K hK=>?_
 unfold Oper.wp
 rw [h a ha,Oper.upon_value]
 exact hK _ _ (k _ (ha.put hd))
theorem wl_run0 {v:Value} (h:∀ a,Fr n ds e a→(execOp a.eval ⟨none,op,ty,pos,af,none⟩).run Tryz.prog w=.ok (.value v) w')
 (k:WL ops Q n ds rest e w'):WL ops Q n ds (⟨none,op,ty,pos,af,none⟩::rest) e w:=fun a ha=>by
 refine wpList_plain rfl fun K hK=>?_
 unfold Oper.wp
 rw [h a ha,Oper.upon_value]
 exact hK _ _ (k _ ha)
theorem wl_do (h:∀ a,Fr n ds e a→(execOp a.eval ⟨none,op,ty,pos,af,none⟩).run Tryz.prog w=.ok .skip w')
 (k:WL ops Q n ds rest e w'):WL ops Q n ds (⟨none,op,ty,pos,af,none⟩::rest) e w:=fun a ha=>by
 refine wpList_plain rfl fun K hK=>?_
 unfold Oper.wp
 rw [h a ha,Oper.upon_skip]
 exact hK _ _ (k _ ha)
theorem wl_p (hv:yv e op=some v) (hd:Nat.blt d n=true) (k:WL ops Q n ds rest ((d,v)::e) w):WL ops Q n ds (⟨some d,op,ty,pos,af,none⟩::rest) e w:=
 wl_run (fun _ ha=>yv_sound ha hv) hd k
theorem wrap_i64 {x:Int} (h1:-9223372036854775808≤x) (h2:x≤9223372036854775807):IntKind.i64.wrap x=x:=by
 have e:IntKind.i64.wrap x=if 9223372036854775808≤x%18446744073709551616 then x%18446744073709551616-18446744073709551616 else x%18446744073709551616:=by
  simp [IntKind.wrap,IntKind.bits,IntKind.signed]
 rw [e];split<;>omega
theorem wl_i {x:Int} (hv:yv e op=some (.int .i64 (IntKind.i64.wrap x))) (h1:-9223372036854775808≤x) (h2:x≤9223372036854775807) (hd:Nat.blt d n=true)
 (k:WL ops Q n ds rest ((d,.int .i64 x)::e) w):WL ops Q n ds (⟨some d,op,ty,pos,af,none⟩::rest) e w:=
 wl_p (by rw [hv,wrap_i64 h1 h2]) hd k
def gv (ops:Array Oper) (e:Env) (j:Nat):Option Bool:=match ops[j]? with
 | some ⟨some t,_,_,_,_,_⟩=>match lk e t with
  | some (.bool b)=>some b
  | _=>none
 | _=>none
theorem gv_yielded {a:Act} {j:Nat} {b:Bool} (ha:Fr n ds e a) (h:gv ops e j=some b):yielded ops a.tmps j=some b:=by
 unfold gv at h
 split at h
 ·rename_i t _ _ _ _ _ ho
  split at h
  ·rename_i c hc
   simp only [Option.some.injEq] at h;subst h
   simp [yielded,ho,ha.get t _ hc]
  ·cases h
 ·cases h
theorem wl_gT {dst:Option Nat} {j:Nat} {b:Bool} (h:gv ops e j=some b) (k:WL ops Q n ds (⟨dst,op,ty,pos,af,none⟩::rest) e w):WL ops Q n ds (⟨dst,op,ty,pos,af,some (j,b)⟩::rest) e w:=fun a ha=>by
 have hy:=gv_yielded ha h
 have:=k a ha
 simp only [wpList,Region.wanted,hy,beq_self_eq_true,if_true] at this ⊢
 exact this
theorem wl_gF {j:Nat} {b b':Bool} (h:gv ops e j=some b) (hne:b'=!b) (hd:Nat.blt d n=true) (k:WL ops Q n ds rest ((d,undef)::e) w):WL ops Q n ds (⟨some d,op,ty,pos,af,some (j,b')⟩::rest) e w:=fun a ha=>by
 have hy:=gv_yielded ha h
 subst hne
 have:(some b==some (!b))=false:=by cases b<;>rfl
 simp only [wpList,Region.wanted,hy,this,Bool.false_eq_true,if_false]
 exact k _ (ha.put hd)
theorem add_eq (b o k:Nat):(⟨b,o,none⟩:Addr).add k=⟨b,o+k,none⟩:=by unfold Addr.add;split<;>simp_all
theorem agg_of {t:Nat} {b:Bool} (h:lk tAgg t=some b):(isAgg t).run Tryz.prog w=.ok b w:=by
 have:=tAgg_ok h
 unfold kAgg at this
 split at this
 ·rename_i hu;simp only [Option.some.injEq] at this;subst this;simp [isAgg,und_of hu]
 ·rename_i hu;simp only [Option.some.injEq] at this;subst this;simp [isAgg,und_of hu]
 ·rename_i d h1 h2 hu
  simp only [Option.some.injEq] at this;subst this
  simp only [isAgg,Sem.run_bind,und_of hu,Result.andThen_ok]
  rfl
 ·cases this
theorem loadVar1_run {t b o:Nat} (hT:lk tAgg t=some false) (h:w.cell? ⟨b,o,none⟩=some v):(loadVar t ⟨b,o,none⟩).run Tryz.prog w=.ok v w:=by
 simp [loadVar,agg_of hT,h]
def Seg:List Value→Nat→List Value→Prop
 | _,_,[]=>True
 | cs,o,v::vs=>cs[o]?=some v∧Seg cs (o+1) vs
theorem Seg.at:∀ {vs cs:List Value} {o:Nat},Seg cs o vs→∀ j v,vs[j]?=some v→cs[o+j]?=some v
 | v::vs,cs,o,⟨h,hr⟩,j,u,hj=>by
  cases j with
  | zero=>simp at hj;subst hj;simpa using h
  | succ j=>simp at hj;have:=hr.at j u hj;rw [show o+(j+1)=o+1+j from by omega];exact this
theorem loadVarN_run {t b o:Nat} {vs cs:List Value} (hT:lk tAgg t=some true) (hs:lk tSize t=some vs.length) (h:∀ j,w.cell? ⟨b,j,none⟩=cs[j]?) (hseg:Seg cs o vs) :
 (loadVar t ⟨b,o,none⟩).run Tryz.prog w=.ok (.agg vs.toArray) w:=by
 have:=run_loadCells_list (P:=Tryz.prog) w ⟨b,o,none⟩ vs (fun j v hj=>by rw [add_eq,h];exact hseg.at j v hj)
 simp [loadVar,agg_of hT,size_of hs,this]
theorem wl_ld {x:Operand} {T b o E:Nat} {sh:Bool} {cs:List Value} (hs:Sat W0 l w) (hx:ev e x=some (.pointer (some ⟨b,o,none⟩))) (hT:lk tAgg T=some false)
 (t:Take (ob sh b (.cells cs.toArray E (0,0))) l r) (hc:cs[o]?=some v) (hd:Nat.blt d n=true) (k:WL ops Q n ds rest ((d,v)::e) w) :
 WL ops Q n ds (⟨some d,.load T x,ty,pos,af,none⟩::rest) e w:=
 wl_run (fun a ha=>by simp [execOp,ha.ev hx,Instr.loadAt,Instr.sureAddr,loadVar1_run hT ((hs.cell t o).trans hc)]) hd k
theorem wl_ldN (vs:List Value) {x:Operand} {T b o E:Nat} {sh:Bool} {cs:List Value} (hs:Sat W0 l w) (hx:ev e x=some (.pointer (some ⟨b,o,none⟩))) (hT:lk tAgg T=some true) (hz:lk tSize T=some vs.length)
 (t:Take (ob sh b (.cells cs.toArray E (0,0))) l r) (hc:Seg cs o vs) (hd:Nat.blt d n=true) (k:WL ops Q n ds rest ((d,.agg vs.toArray)::e) w) :
 WL ops Q n ds (⟨some d,.load T x,ty,pos,af,none⟩::rest) e w:=
 wl_run (fun a ha=>by simp [execOp,ha.ev hx,Instr.loadAt,Instr.sureAddr,loadVarN_run hT hz (hs.cell t) hc]) hd k
theorem storeVar1_run {t b o:Nat} {u:Value} (hz:lk tSize t=some 1) (hv:v.cells=#[v]) (h1:v.oneCell'=true) (h:w.cell? ⟨b,o,none⟩=some u) (hf:w.frozen? ⟨b,o,none⟩=false) :
 (storeVar t ⟨b,o,none⟩ v).run Tryz.prog w=.ok () (w.setCell ⟨b,o,none⟩ v):=by
 have hst:=run_store Tryz.prog w ⟨b,o,none⟩ v .plain h1
 simp only [h,hf] at hst
 simp only [storeVar,hv,Sem.run_bind,size_of hz,Result.andThen_ok,storeCells,add_eq,Nat.add_zero]
 simp [hst]
def isOne:Value→Bool
 | .agg _ | .tuple _=>false
 | _=>true
theorem isOne_cells (h:isOne v=true):v.cells=#[v]∧v.oneCell'=true:=by cases v<;>simp [isOne] at h<;>exact ⟨rfl,rfl⟩
theorem wl_st {x y:Operand} {T b o E:Nat} {cs:List Value} (hs:Sat W0 l w) (hx:ev e x=some (.pointer (some ⟨b,o,none⟩))) (hy:ev e y=some v) (hz:lk tSize T=some 1) (h1:isOne v=true)
 (t:Repl l (blk b E cs) (blk b E (cs.set o v)) l') (hlt:Nat.blt o cs.length=true) (k:∀ w',Sat W0 l' w'→WL ops Q n ds rest e w') :
 WL ops Q n ds (⟨none,.store T x y,ty,pos,af,none⟩::rest) e w:=by
 obtain ⟨r,t1,t2⟩:=t.take
 have hlt':o<cs.length:=by simpa [Nat.blt_eq] using hlt
 obtain ⟨c1,c2⟩:=isOne_cells h1
 refine wl_do (w':=w.setCell ⟨b,o,none⟩ v) (fun a ha=>?_) (k _ (hs.setCell t))
 have hc:=hs.cell t1 o
 rw [List.getElem?_eq_getElem hlt'] at hc
 simp [execOp,ha.ev hx,ha.ev hy,Instr.storeAt,Instr.sureAddr,storeVar1_run hz c1 c2 hc (hs.free t1 o)]
def splice (cs:List Value) (o:Nat) (vs:List Value):List Value:=cs.take o++vs++cs.drop (o+vs.length)
theorem setRow_sat {b E:Nat} {cs cs':List Value} (hs:Sat W0 l w) (t:Repl l (blk b E cs) (blk b E cs') l'):Sat W0 l' (w.setRow b cs'.toArray):=by
 obtain ⟨r,t1,t2⟩:=t.take
 have k:=hs.take t1
 have hb:=k.at_head
 refine Sat.untake (Sat.set_head k rfl rfl rfl ?_ (setRow_heap w b _ _ _ _ hb) fun i hi=>setRow_other w b i _ hi) t2
 simp [World.setRow]
theorem wl_stN {x y:Operand} {T b o E:Nat} {cs vs:List Value} (hs:Sat W0 l w) (hx:ev e x=some (.pointer (some ⟨b,o,none⟩))) (hy:ev e y=some (.agg vs.toArray)) (hz:lk tSize T=some vs.length)
 (h1:vs.all isOne=true) (t:Repl l (blk b E cs) (blk b E (splice cs o vs)) l') (hlt:o+vs.length≤cs.length) (k:∀ w',Sat W0 l' w'→WL ops Q n ds rest e w') :
 WL ops Q n ds (⟨none,.store T x y,ty,pos,af,none⟩::rest) e w:=by
 obtain ⟨r,t1,t2⟩:=t.take
 refine wl_do (w':=w.setRow b (splice cs o vs).toArray) (fun a ha=>?_) (k _ (setRow_sat hs t))
 have hb:=hs.at t1
 have:=run_storeCells_at Tryz.prog b o E vs 0 cs.toArray w hb (by simpa using hlt) (fun v hv=>(isOne_cells (List.all_eq_true.1 h1 v hv)).2)
 simp only [Nat.add_zero] at this
 simp only [execOp,ha.ev hx,ha.ev hy,Instr.storeAt,Instr.sureAddr,storeVar,Value.cells,Sem.run_bind,Sem.run_pure,Result.andThen_ok,size_of hz,List.size_toArray,ne_eq,not_true_eq_false,if_false,this]
 rfl
theorem zero_of {t:Nat} {z:List Value} (h:lk tZero t=some z):∃ v,(zeroValue t).run Tryz.prog w=.ok v w∧v.cells=z.toArray:=by
 have:=tZero_ok h
 unfold kZero at this
 simp only [Option.map_eq_some_iff,Option.bind_eq_some_iff] at this
 obtain ⟨v,⟨i,hi,hv⟩,rfl⟩:=this
 exact ⟨v,by simp [zeroValue,typeInfo,hi,hv],by simp⟩
theorem wl_alloc {T:Nat} {z:List Value} (hs:Sat W0 l w) (hz:lk tZero T=some z) (hd:Nat.blt d n=true)
 (k:∀ w' b,Sat W0 (blk b T z::l) w'→WL ops Q n ds rest ((d,.pointer (some ⟨b,0,none⟩))::e) w'):WL ops Q n ds (⟨some d,.alloc T,ty,pos,af,none⟩::rest) e w:=by
 obtain ⟨v,hv,hc⟩:=zero_of (w:=w) hz
 refine wl_run (w':={ w with heap:=w.heap.push (.cells z.toArray T) }) (v:=.pointer (some ⟨w.heap.size,0,none⟩)) (fun a ha=>?_) hd (k _ _ (hs.new _ false))
 simp [execOp,Instr.alloc,hv,newVar,newRow,hc]
theorem wl_box {T:Nat} {x:Operand} {z:List Value} (hs:Sat W0 l w) (hx:ev e x=some v) (hz:v.cells=z.toArray) (hd:Nat.blt d n=true)
 (k:∀ w' b,Sat W0 (blk b T z::l) w'→WL ops Q n ds rest ((d,.pointer (some ⟨b,0,none⟩))::e) w'):WL ops Q n ds (⟨some d,.box T x,ty,pos,af,none⟩::rest) e w:=by
 refine wl_run (w':={ w with heap:=w.heap.push (.cells z.toArray T) }) (v:=.pointer (some ⟨w.heap.size,0,none⟩)) (fun a ha=>?_) hd (k _ _ (hs.new _ false))
 simp [execOp,ha.ev hx,Instr.box,newVar,newRow,hz]
theorem wl_makeMap {T:Nat} (hs:Sat W0 l w) (hd:Nat.blt d n=true)
 (k:∀ w' b,Sat W0 (ob false b (.map #[] 0)::l) w'→WL ops Q n ds rest ((d,.map (some b))::e) w'):WL ops Q n ds (⟨some d,.makeMap T none,ty,pos,af,none⟩::rest) e w:=by
 refine wl_run (w':={ w with heap:=w.heap.push (.map #[] 0) }) (v:=.map (some w.heap.size)) (fun a ha=>?_) hd (k _ _ (hs.new _ false))
 simp [execOp,Instr.makeMap]
theorem wl_call {f:FuncId} {xs:Array Operand} {at_:Array TypeId} {vs:List Value} {u:Unit} (hf:lk tFun f=some u) (hx:evs e xs.toList=some vs) (hd:Nat.blt d n=true)
 (h:Calls Tryz.prog f vs.toArray w fun x w'=>∃ v,x=.returned v∧WL ops Q n ds rest ((d,v)::e) w') :
 WL ops Q n ds (⟨some d,.call { callee:=.value (.func f),args:=xs,argTypes:=at_ },ty,pos,af,none⟩::rest) e w:=fun a ha=>by
 refine wpList_plain rfl fun K hK=>?_
 have e1:xs.map a.eval=vs.toArray:=by rw [← ha.evs hx];cases xs;simp
 have hr:(execOp a.eval ⟨some d,.call { callee:=.value (.func f),args:=xs,argTypes:=at_ },ty,pos,af,none⟩).run Tryz.prog w=.ok (.enter f vs.toArray) w:=by
  simp [execOp,resolve,Act.eval,Deferred.ofValue,invoke,e1,call_of hf]
 unfold Oper.wp
 rw [hr,Oper.upon_enter]
 refine h.mono fun x w' hh=>?_
 obtain ⟨v,rfl,hk⟩:=hh
 exact hK _ _ (hk _ (ha.put hd))
theorem wl_callv {f:FuncId} {fo:Operand} {p q:Array Value} {xs:Array Operand} {at_:Array TypeId} {vs:List Value} {u:Unit} (hfo:ev e fo=some (.func (.func f) p q)) (hf:lk tFun f=some u) (hx:evs e xs.toList=some vs) (hd:Nat.blt d n=true)
 (h:Calls Tryz.prog f (p.toList++vs++q.toList).toArray w fun x w'=>∃ v,x=.returned v∧WL ops Q n ds rest ((d,v)::e) w') :
 WL ops Q n ds (⟨some d,.call { callee:=.value fo,args:=xs,argTypes:=at_ },ty,pos,af,none⟩::rest) e w:=fun a ha=>by
 refine wpList_plain rfl fun K hK=>?_
 have e1:xs.map a.eval=vs.toArray:=by rw [← ha.evs hx];cases xs;simp
 have hr:(execOp a.eval ⟨some d,.call { callee:=.value fo,args:=xs,argTypes:=at_ },ty,pos,af,none⟩).run Tryz.prog w=.ok (.enter f (p.toList++vs++q.toList).toArray) w:=by
  simp only [execOp,resolve,ha.ev hfo,Deferred.ofValue,e1,Sem.run_bind,Sem.run_pure,Result.andThen_ok,invoke]
  rw [call_of hf]
  simp
 unfold Oper.wp
 rw [hr,Oper.upon_enter]
 refine h.mono fun x w' hh=>?_
 obtain ⟨v,rfl,hk⟩:=hh
 exact hK _ _ (hk _ (ha.put hd))
end
end
end Go.Proofs.YtecibefflhomdaaGreatDoor
abbrev Go.Proofs.YtecibefflhomdaaGreatDoor.Bs:=List UInt8
namespace Go.Proofs.YtecibefflhomdaaGreatDoor.Pure
open Go
def numB (N:Nat):Nat→Bs
 | 0=>[]
 | k+1=>UInt8.ofNat (N / 2^(8*k))::numB N k
@[simp] theorem numB_length (N:Nat):∀ k,(numB N k).length=k
 | 0=>rfl
 | k+1=>by simp [numB,numB_length N k]
def textB (s:Bs):Bs:=UInt8.ofNat s.length::s
@[simp] theorem textB_length (s:Bs):(textB s).length=s.length+1:=rfl
def crcBit (c:Nat):Nat:=(c / 2^1) ^^^ ((c &&& 1)*3988292384%4294967296)
def iter (f:Nat→Nat):Nat→Nat→Nat
 | 0,c=>c
 | k+1,c=>iter f k (f c)
def crcUp (c:Nat) (x:UInt8):Nat:=iter crcBit 8 (c ^^^ x.toNat)
def crcFrom (c:Nat) (bs:Bs):Nat:=bs.foldl crcUp c
def crc (bs:Bs):Nat:=4294967295-crcFrom 4294967295 bs
theorem crcBit_lt {c:Nat} (h:c<4294967296):crcBit c<4294967296:=by
 unfold crcBit
 have h1:c / 2^1<2^32:=by omega
 have h2:(c &&& 1)*3988292384%4294967296<2^32:=Nat.mod_lt _ (by decide)
 exact Nat.xor_lt_two_pow h1 h2
theorem iter_lt:∀ (k c:Nat),c<4294967296→iter crcBit k c<4294967296
 | 0,_,h=>h
 | k+1,c,h=>iter_lt k _ (crcBit_lt h)
theorem iter_succ (f:Nat→Nat):∀ (k c:Nat),iter f (k+1) c=f (iter f k c)
 | 0,_=>rfl
 | k+1,c=>by show iter f (k+1) (f c)=_;rw [iter_succ f k (f c)];rfl
theorem xor_byte_lt {c:Nat} (h:c<4294967296) (x:UInt8):c ^^^ x.toNat<4294967296:=
 Nat.xor_lt_two_pow (n:=32) h (Nat.lt_of_lt_of_le x.toNat_lt (by decide))
theorem crcUp_lt {c:Nat} (h:c<4294967296) (x:UInt8):crcUp c x<4294967296:=iter_lt 8 _ (xor_byte_lt h x)
theorem crcFrom_lt:∀ (bs:Bs) {c:Nat},c<4294967296→crcFrom c bs<4294967296
 | [],_,h=>h
 | x::r,_,h=>crcFrom_lt r (crcUp_lt h x)
theorem crcFrom_append (c:Nat) (a b:Bs):crcFrom c (a++b)=crcFrom (crcFrom c a) b:=by simp [crcFrom]
theorem crc_lt (bs:Bs):crc bs<4294967296:=by unfold crc;omega
def frameB (b:Bs):Bs:=numB b.length 4++numB (4294967295-b.length) 4++numB (crc b) 4++b
@[simp] theorem frameB_length (b:Bs):(frameB b).length=12+b.length:=by simp [frameB,numB_length];omega
structure Ent where
 key:Bs
 val:Bs
 del:Bool
 seq:Nat
deriving DecidableEq,Inhabited
def putB (e:Ent):Bs:=textB e.key++numB e.seq 8++(if e.del then [255] else textB e.val)
structure Rd where
 rest:Bs
 bad:Bool
def Rd.bytes (r:Rd) (n:Int):Bs×Rd:=
 if r.bad=true∨n<0∨(r.rest.length:Int)<n then ([],⟨r.rest,true⟩) else (r.rest.take n.toNat,⟨r.rest.drop n.toNat,false⟩)
def beN (bs:Bs):Nat:=bs.foldl (fun n x=>n*256+x.toNat) 0
def Rd.num (r:Rd) (k:Nat):Nat×Rd:=(beN (r.bytes k).1,(r.bytes k).2)
def Rd.text (r:Rd):Bs×Rd:=(r.num 1).2.bytes ((r.num 1).1:Int)
def Rd.entry (r:Rd):Ent×Rd:=
 let a:=r.text
 let b:=a.2.num 8
 if b.2.rest.head?=some 255 then (⟨a.1,[],true,b.1⟩,(b.2.bytes 1).2)
 else (⟨a.1,b.2.text.1,false,b.1⟩,b.2.text.2)
def openB (b:Bs):Option (Bs×Bs):=
 let n:=Rd.num ⟨b,false⟩ 4
 let t:=n.2.num 4
 let s:=t.2.num 4
 if n.1≠4294967295-t.1 then none else
 let i:=s.2.bytes (n.1:Int)
 if i.2.bad=true∨crc i.1≠s.1 then none else some (i.1,i.2.rest)
theorem beN_append (a:Bs) (x:UInt8):beN (a++[x])=beN a*256+x.toNat:=by simp [beN]
theorem beN_from:∀ (bs:Bs) (n k:Nat),n<256^k→bs.foldl (fun n x=>n*256+x.toNat) n<256^(k+bs.length)
 | [],n,k,h=>h
 | x::r,n,k,h=>by
  have hx:=x.toNat_lt
  have h2:n*256+x.toNat<256^(k+1):=by rw [Nat.pow_succ];omega
  have:=beN_from r (n*256+x.toNat) (k+1) h2
  rw [List.length_cons,show k+(r.length+1)=k+1+r.length from by omega]
  exact this
theorem beN_lt (bs:Bs):beN bs<256^bs.length:=by
 have:=beN_from bs 0 0 (by decide)
 rwa [Nat.zero_add] at this
theorem Rd.bytes_len (r:Rd) (n:Int):(r.bytes n).1.length≤n.toNat:=by
 unfold Rd.bytes;split
 ·simp
 ·simp;omega
theorem Rd.bytes_rest (r:Rd) (n:Int):(r.bytes n).2.rest.length≤r.rest.length:=by
 unfold Rd.bytes;split
 ·exact Nat.le_refl _
 ·simp
theorem Rd.num_lt (r:Rd) (k:Nat):(r.num k).1<256^k:=by
 have h1:=r.bytes_len k
 have h2:=beN_lt (r.bytes k).1
 exact Nat.lt_of_lt_of_le h2 (Nat.pow_le_pow_right (by decide) (by simpa using h1))
theorem Rd.num_rest (r:Rd) (k:Nat):(r.num k).2.rest.length≤r.rest.length:=r.bytes_rest k
theorem Rd.text_rest (r:Rd):r.text.2.rest.length≤r.rest.length:=Nat.le_trans (Rd.bytes_rest _ _) (r.num_rest 1)
end Go.Proofs.YtecibefflhomdaaGreatDoor.Pure
