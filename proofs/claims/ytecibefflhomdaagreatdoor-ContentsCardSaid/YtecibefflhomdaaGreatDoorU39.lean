/-
  Part 39: THE ENGINE functions without a body; WALKS errors; WALKS errors.
-/
import Derived.Test.YtecibefflhomdaaGreatDoorU20
import Derived.Laws.Externs
import Derived.Stop.Asserts
set_option maxHeartbeats 8000000
set_option maxRecDepth 100000
set_option linter.all false
namespace Go.Proofs.YtecibefflhomdaaGreatDoor
open Go
section
open Go Go.Extern
section
variable {ops:Array Oper} {Q:Exit→Act→World→Prop} {n:Nat} {ds:Md} {e:Env} {w w':World} {rest:List Oper}
variable {op:Op} {ty:TypeId} {pos:String} {af:Array Edge} {d:Nat} {v u:Value} {W0:World} {l l' r r':List HProp}
attribute [local semireducible] WL WC WQ
def Ext (f:FuncId) (g:Array Value→Sem Value):Prop:=∀ (args:Array Value) (w:World),(callFunc f args).run Tryz.prog w=((g args).run Tryz.prog w).andThen fun v w'=>.ok (.value v) w'
theorem wl_ext {f:FuncId} {g:Array Value→Sem Value} {xs:Array Operand} {at_:Array TypeId} {vs:List Value} {y:Value} (hf:Ext f g) (hxs:evs e xs.toList=some vs) (hr:(g vs.toArray).run Tryz.prog w=.ok y w') (hd:Nat.blt d n=true)
 (k:WL ops Q n ds rest ((d,y)::e) w'):WL ops Q n ds (⟨some d,.call { callee:=.value (.func f),args:=xs,argTypes:=at_ },ty,pos,af,none⟩::rest) e w:=
 wl_run (fun a ha=>by
  have e1:xs.map a.eval=vs.toArray:=by rw [← ha.evs hxs];cases xs;simp
  simp [execOp,resolve,Act.eval,Deferred.ofValue,invoke,e1,hf vs.toArray w,hr]) hd k
theorem wl_invx {x:Operand} {xs:Array Operand} {at_:Array TypeId} {vs:List Value} {T f:Nat} {name:String} {v' y:Value} {g:Array Value→Sem Value} (hx:ev e x=some (.iface T v)) (hm:∀ w,(Go.method (Tryz.prog.types.size+Made.depth) T v name).run Tryz.prog w=.ok (f,v') w)
 (hf:Ext f g) (hxs:evs e xs.toList=some vs) (hr:(g (v'::vs).toArray).run Tryz.prog w=.ok y w') (hd:Nat.blt d n=true) (k:WL ops Q n ds rest ((d,y)::e) w') :
 WL ops Q n ds (⟨some d,.call { callee:=.invoke x name,args:=xs,argTypes:=at_ },ty,pos,af,none⟩::rest) e w:=
 wl_run (fun a ha=>by
  have e1:xs.map a.eval=vs.toArray:=by rw [← ha.evs hxs];cases xs;simp
  have e2:(#[Value.iface T v]++vs.toArray).extract 1 (#[Value.iface T v]++vs.toArray).size=vs.toArray:=by apply Array.ext';simp
  have e3:(#[Value.iface T v]++vs.toArray)[0]?=some (.iface T v):=by simp
  have e4:(#[v']++vs.toArray:Array Value)=(v'::vs).toArray:=by apply Array.ext';simp
  simp only [execOp,resolve,ha.ev hx,e1,Sem.run_bind,Sem.run_pure,Result.andThen_ok,invoke,e2,e3,callMethod,run_program,hm,e4,hf (v'::vs).toArray w,hr]) hd k
theorem wl_ta {x:Operand} {xt t:TypeId} {ok:Bool} {y:Value} (hx:ev e x=some v) (hr:(Instr.typeAssert v xt t ok).run Tryz.prog w=.ok y w) (hd:Nat.blt d n=true)
 (k:WL ops Q n ds rest ((d,y)::e) w):WL ops Q n ds (⟨some d,.typeAssert x xt t ok,ty,pos,af,none⟩::rest) e w:=
 wl_run (fun a ha=>by simp [execOp,ha.ev hx,hr]) hd k
end
theorem x102:Ext 102 (fun args=>ReflectliteValue.unpack (args.getD 0 (.tuple #[]))):=@run_callFunc_extern Tryz.prog 102 _ _ Tryz.func102 (by kernel_rfl) (by kernel_rfl) (by kernel_rfl) (by kernel_rfl)
theorem x103:Ext 103 (ReflectliteValue.methodAny (ReflectliteValue.valueError "reflectlite.Value.Type" 0) (fun t _ _ _=>ReflectliteType.toType t)):=@run_callFunc_extern Tryz.prog 103 _ _ Tryz.func103 (by kernel_rfl) (by kernel_rfl) (by kernel_rfl) (by kernel_rfl)
theorem x104:Ext 104 (ReflectliteValue.method (ReflectliteValue.valueError "reflectlite.Value.IsNil" 0) ReflectliteValue.isNil):=@run_callFunc_extern Tryz.prog 104 _ _ Tryz.func104 (by kernel_rfl) (by kernel_rfl) (by kernel_rfl) (by kernel_rfl)
theorem x162:Ext 162 ReflectliteType.typeOf:=@run_callFunc_extern Tryz.prog 162 _ _ Tryz.func162 (by kernel_rfl) (by kernel_rfl) (by kernel_rfl) (by kernel_rfl)
theorem x181:Ext 181 (ReflectliteValue.method (ReflectliteValue.valueError "reflectlite.Value.Elem" 0) ReflectliteValue.elem):=@run_callFunc_extern Tryz.prog 181 _ _ Tryz.func181 (by kernel_rfl) (by kernel_rfl) (by kernel_rfl) (by kernel_rfl)
theorem x182:Ext 182 ReflectliteValue.set:=@run_callFunc_extern Tryz.prog 182 _ _ Tryz.func182 (by kernel_rfl) (by kernel_rfl) (by kernel_rfl) (by kernel_rfl)
theorem x271:Ext 271 (ReflectliteType.abiMethod fun t=>do pure (.int .u8 (← Rtype.kind t))):=@run_callFunc_extern Tryz.prog 271 _ _ Tryz.func271 (by kernel_rfl) (by kernel_rfl) (by kernel_rfl) (by kernel_rfl)
theorem x285:Ext 285 (ReflectliteType.method ReflectliteType.elem):=@run_callFunc_extern Tryz.prog 285 _ _ Tryz.func285 (by kernel_rfl) (by kernel_rfl) (by kernel_rfl) (by kernel_rfl)
theorem x286:Ext 286 (ReflectliteType.relation "Implements" ReflectliteType.implements_):=@run_callFunc_extern Tryz.prog 286 _ _ Tryz.func286 (by kernel_rfl) (by kernel_rfl) (by kernel_rfl) (by kernel_rfl)
theorem x283:Ext 283 (ReflectliteType.relation "AssignableTo" ReflectliteType.assignableTo):=@run_callFunc_extern Tryz.prog 283 _ _ Tryz.func283 (by kernel_rfl) (by kernel_rfl) (by kernel_rfl) (by kernel_rfl)
abbrev rty (t:Nat):Value:=.iface 297 (.agg #[.pointer (some ⟨4,t,none⟩)])
abbrev rv (t b fl:Nat):Value:=.agg #[.pointer (some ⟨4,t,none⟩),.pointer (some ⟨b,0,none⟩),.int .u64 (fl:Int)]
theorem tyOf44 (v:Value) (w:World):(ReflectliteType.typeOf #[.iface 44 v]).run Tryz.prog w=.ok (rty 44) w:=by kernel_rfl
theorem tyOf249 (v:Value) (w:World):(ReflectliteType.typeOf #[.iface 249 v]).run Tryz.prog w=.ok (rty 249) w:=by kernel_rfl
theorem mthKind (h:Value) (w:World):(Go.method (Tryz.prog.types.size+Made.depth) 297 (.agg #[h]) "Kind").run Tryz.prog w=.ok (271,h) w:=by kernel_rfl
theorem mthElem (h:Value) (w:World):(Go.method (Tryz.prog.types.size+Made.depth) 297 (.agg #[h]) "Elem").run Tryz.prog w=.ok (285,.agg #[h]) w:=by kernel_rfl
theorem mthImpl (h:Value) (w:World):(Go.method (Tryz.prog.types.size+Made.depth) 297 (.agg #[h]) "Implements").run Tryz.prog w=.ok (286,.agg #[h]) w:=by kernel_rfl
theorem mthAssg (h:Value) (w:World):(Go.method (Tryz.prog.types.size+Made.depth) 297 (.agg #[h]) "AssignableTo").run Tryz.prog w=.ok (283,.agg #[h]) w:=by kernel_rfl
theorem mthComp (h:Value) (w:World):(Go.method (Tryz.prog.types.size+Made.depth) 297 (.agg #[h]) "Comparable").run Tryz.prog w=.ok (284,.agg #[h]) w:=by kernel_rfl
theorem unp136 (t:Addr) (w:World):(ReflectliteValue.unpack (.iface 136 (.pointer (some t)))).run Tryz.prog w=.ok (rv 136 w.heap.size 150) { w with heap:=w.heap.push (.cells #[.pointer (some t)] 136) }:=by kernel_rfl
theorem unp283 (t:Addr) (w:World):(ReflectliteValue.unpack (.iface 283 (.pointer (some t)))).run Tryz.prog w=.ok (rv 283 w.heap.size 150) { w with heap:=w.heap.push (.cells #[.pointer (some t)] 283) }:=by kernel_rfl
theorem unp44 (k:Int) (w:World):(ReflectliteValue.unpack (.iface 44 (.int .i64 k))).run Tryz.prog w=.ok (rv 44 w.heap.size 130) { w with heap:=w.heap.push (.cells #[.int .i64 k] 44) }:=by kernel_rfl
theorem unp249 (t:Addr) (w:World):(ReflectliteValue.unpack (.iface 249 (.pointer (some t)))).run Tryz.prog w=.ok (rv 249 w.heap.size 150) { w with heap:=w.heap.push (.cells #[.pointer (some t)] 249) }:=by kernel_rfl
theorem ty136 (b:Nat) (w:World):(ReflectliteValue.methodAny (ReflectliteValue.valueError "reflectlite.Value.Type" 0) (fun t _ _ _=>ReflectliteType.toType t) #[rv 136 b 150]).run Tryz.prog w=.ok (rty 136) w:=by kernel_rfl
theorem ty283 (b:Nat) (w:World):(ReflectliteValue.methodAny (ReflectliteValue.valueError "reflectlite.Value.Type" 0) (fun t _ _ _=>ReflectliteType.toType t) #[rv 283 b 150]).run Tryz.prog w=.ok (rty 283) w:=by kernel_rfl
theorem kd136 (w:World):((ReflectliteType.abiMethod fun t=>(fun a:Nat=>Value.int IntKind.u8 (a:Int)) <$> Rtype.kind t) #[.pointer (some ⟨4,136,none⟩)]).run Tryz.prog w=.ok (.int .u8 22) w:=by kernel_rfl
theorem kd283 (w:World):((ReflectliteType.abiMethod fun t=>(fun a:Nat=>Value.int IntKind.u8 (a:Int)) <$> Rtype.kind t) #[.pointer (some ⟨4,283,none⟩)]).run Tryz.prog w=.ok (.int .u8 22) w:=by kernel_rfl
theorem kd44 (w:World):((ReflectliteType.abiMethod fun t=>(fun a:Nat=>Value.int IntKind.u8 (a:Int)) <$> Rtype.kind t) #[.pointer (some ⟨4,44,none⟩)]).run Tryz.prog w=.ok (.int .u8 2) w:=by kernel_rfl
theorem kd249 (w:World):((ReflectliteType.abiMethod fun t=>(fun a:Nat=>Value.int IntKind.u8 (a:Int)) <$> Rtype.kind t) #[.pointer (some ⟨4,249,none⟩)]).run Tryz.prog w=.ok (.int .u8 22) w:=by kernel_rfl
theorem el136 (w:World):(ReflectliteType.method ReflectliteType.elem #[.agg #[.pointer (some ⟨4,136,none⟩)]]).run Tryz.prog w=.ok (rty 44) w:=by kernel_rfl
theorem el283 (w:World):(ReflectliteType.method ReflectliteType.elem #[.agg #[.pointer (some ⟨4,283,none⟩)]]).run Tryz.prog w=.ok (rty 249) w:=by kernel_rfl
theorem im44 (w:World):(ReflectliteType.relation "Implements" ReflectliteType.implements_ #[.agg #[.pointer (some ⟨4,44,none⟩)],rty 41]).run Tryz.prog w=.ok (.bool true) w:=by kernel_rfl
theorem im249 (w:World):(ReflectliteType.relation "Implements" ReflectliteType.implements_ #[.agg #[.pointer (some ⟨4,249,none⟩)],rty 41]).run Tryz.prog w=.ok (.bool true) w:=by kernel_rfl
theorem as44_44 (w:World):(ReflectliteType.relation "AssignableTo" ReflectliteType.assignableTo #[.agg #[.pointer (some ⟨4,44,none⟩)],rty 44]).run Tryz.prog w=.ok (.bool true) w:=by kernel_rfl
theorem as44_249 (w:World):(ReflectliteType.relation "AssignableTo" ReflectliteType.assignableTo #[.agg #[.pointer (some ⟨4,44,none⟩)],rty 249]).run Tryz.prog w=.ok (.bool false) w:=by kernel_rfl
theorem as249_44 (w:World):(ReflectliteType.relation "AssignableTo" ReflectliteType.assignableTo #[.agg #[.pointer (some ⟨4,249,none⟩)],rty 44]).run Tryz.prog w=.ok (.bool false) w:=by kernel_rfl
theorem as249_249 (w:World):(ReflectliteType.relation "AssignableTo" ReflectliteType.assignableTo #[.agg #[.pointer (some ⟨4,249,none⟩)],rty 249]).run Tryz.prog w=.ok (.bool true) w:=by kernel_rfl
end
section
open Go Go.Extern
attribute [local irreducible] IntKind.wrap
theorem rlm (z:Sem Value) (f:TypeId→Addr→Nat→Nat→Sem Value) (v:Value) :
 ReflectliteValue.method z f #[v]=(do match ← ReflectliteValue.parts v with|none=>z|some (t,a,fl)=>f t a fl (fl%32)):=rfl
theorem rls:∃ m1 m2 m3 m4 m5:String,∀ v x:Value,ReflectliteValue.set #[v,x]=(do
 let (some (dst,a,fl),some (src,b,_)):=(← ReflectliteValue.parts v,← ReflectliteValue.parts x)
  | unsupported (.noEntry m1)
 if fl / ReflectliteValue.flagAddr%2==0 then unsupported (.noEntry m2)
 let val ← loadVar src b
 if ← Rtype.directlyAssignable dst src then storeVar dst a val
 else if ← Rtype.implements dst src then
  if (← Rtype.kind src)==20 then
   match val with
   | .nilIface=>unsupported (.noEntry m3)
   | _=>storeVar dst a val
  else storeVar dst a (.iface src val)
 else panicString (m4++(← Rtype.spelt src)++m5++(← Rtype.spelt dst))
 pure (.tuple #[])):=⟨_,_,_,_,_,fun _ _=>rfl⟩
theorem pt136 (b:Nat) (w:World):(ReflectliteValue.parts (rv 136 b 150)).run Tryz.prog w=.ok (some (136,⟨b,0,none⟩,150)) w:=by kernel_rfl
theorem pt283 (b:Nat) (w:World):(ReflectliteValue.parts (rv 283 b 150)).run Tryz.prog w=.ok (some (283,⟨b,0,none⟩,150)) w:=by kernel_rfl
theorem pt44 (b:Nat) (w:World):(ReflectliteValue.parts (rv 44 b 130)).run Tryz.prog w=.ok (some (44,⟨b,0,none⟩,130)) w:=by kernel_rfl
theorem pt44a (b:Nat) (w:World):(ReflectliteValue.parts (rv 44 b 386)).run Tryz.prog w=.ok (some (44,⟨b,0,none⟩,386)) w:=by kernel_rfl
theorem pt249 (b:Nat) (w:World):(ReflectliteValue.parts (rv 249 b 150)).run Tryz.prog w=.ok (some (249,⟨b,0,none⟩,150)) w:=by kernel_rfl
theorem pt249a (b:Nat) (w:World):(ReflectliteValue.parts (rv 249 b 406)).run Tryz.prog w=.ok (some (249,⟨b,0,none⟩,406)) w:=by kernel_rfl
theorem eo136 (w:World):(Rtype.elem? 136).run Tryz.prog w=.ok (some 44) w:=by kernel_rfl
theorem eo283 (w:World):(Rtype.elem? 283).run Tryz.prog w=.ok (some 249) w:=by kernel_rfl
theorem mk44 (b:Nat) (w:World):(ReflectliteValue.mk 44 ⟨b,0,none⟩ ReflectliteValue.flagAddr).run Tryz.prog w=.ok (rv 44 b 386) w:=by kernel_rfl
theorem mk249 (b:Nat) (w:World):(ReflectliteValue.mk 249 ⟨b,0,none⟩ ReflectliteValue.flagAddr).run Tryz.prog w=.ok (rv 249 b 406) w:=by kernel_rfl
theorem da44 (w:World):(Rtype.directlyAssignable 44 44).run Tryz.prog w=.ok true w:=by kernel_rfl
theorem da249 (w:World):(Rtype.directlyAssignable 249 249).run Tryz.prog w=.ok true w:=by kernel_rfl
section
variable {w:World} {b p:Nat}
theorem nil136 (h:w.cell? ⟨b,0,none⟩=some (.pointer (some ⟨p,0,none⟩))):(ReflectliteValue.method (ReflectliteValue.valueError "reflectlite.Value.IsNil" 0) ReflectliteValue.isNil #[rv 136 b 150]).run Tryz.prog w=.ok (.bool false) w:=by
 rw [rlm]
 simp only [Sem.run_bind,pt136,Result.andThen]
 simp [ReflectliteValue.isNil,loadVar1_run (t:=136) rfl h,Result.andThen]
theorem nil283 (h:w.cell? ⟨b,0,none⟩=some (.pointer (some ⟨p,0,none⟩))):(ReflectliteValue.method (ReflectliteValue.valueError "reflectlite.Value.IsNil" 0) ReflectliteValue.isNil #[rv 283 b 150]).run Tryz.prog w=.ok (.bool false) w:=by
 rw [rlm]
 simp only [Sem.run_bind,pt283,Result.andThen]
 simp [ReflectliteValue.isNil,loadVar1_run (t:=283) rfl h,Result.andThen]
theorem elem136 (h:w.cell? ⟨b,0,none⟩=some (.pointer (some ⟨p,0,none⟩))):(ReflectliteValue.method (ReflectliteValue.valueError "reflectlite.Value.Elem" 0) ReflectliteValue.elem #[rv 136 b 150]).run Tryz.prog w=.ok (rv 44 p 386) w:=by
 rw [rlm]
 simp only [Sem.run_bind,pt136,Result.andThen]
 simp [ReflectliteValue.elem,loadVar1_run (t:=136) rfl h,Result.andThen,eo136,mk44]
theorem elem283 (h:w.cell? ⟨b,0,none⟩=some (.pointer (some ⟨p,0,none⟩))):(ReflectliteValue.method (ReflectliteValue.valueError "reflectlite.Value.Elem" 0) ReflectliteValue.elem #[rv 283 b 150]).run Tryz.prog w=.ok (rv 249 p 406) w:=by
 rw [rlm]
 simp only [Sem.run_bind,pt283,Result.andThen]
 simp [ReflectliteValue.elem,loadVar1_run (t:=283) rfl h,Result.andThen,eo283,mk249]
theorem set44 {ta:Nat} {k:Int} {u:Value} (hb:w.cell? ⟨b,0,none⟩=some (.int .i64 k)) (ht:w.cell? ⟨ta,0,none⟩=some u) (hf:w.frozen? ⟨ta,0,none⟩=false) :
 (ReflectliteValue.set #[rv 44 ta 386,rv 44 b 130]).run Tryz.prog w=.ok (.tuple #[]) (w.setCell ⟨ta,0,none⟩ (.int .i64 k)):=by
 obtain ⟨m1,m2,m3,m4,m5,rls⟩:=rls
 rw [rls]
 simp only [Sem.run_bind,pt44,pt44a,Result.andThen]
 simp [ReflectliteValue.flagAddr,loadVar1_run (t:=44) rfl hb,Result.andThen,da44,storeVar1_run (t:=44) rfl (v:=.int .i64 k) rfl rfl ht hf]
theorem set249 {ta:Nat} {q u:Value} (hb:w.cell? ⟨b,0,none⟩=some q) (h1:isOne q=true) (ht:w.cell? ⟨ta,0,none⟩=some u) (hf:w.frozen? ⟨ta,0,none⟩=false) :
 (ReflectliteValue.set #[rv 249 ta 406,rv 249 b 150]).run Tryz.prog w=.ok (.tuple #[]) (w.setCell ⟨ta,0,none⟩ q):=by
 obtain ⟨m1,m2,m3,m4,m5,rls⟩:=rls
 rw [rls]
 simp only [Sem.run_bind,pt249,pt249a,Result.andThen]
 simp [ReflectliteValue.flagAddr,loadVar1_run (t:=249) rfl hb,Result.andThen,da249,storeVar1_run (t:=249) rfl (isOne_cells h1).1 (isOne_cells h1).2 ht hf]
end
def ErrW (W0:World):Prop:=W0.cell? ⟨0,0,none⟩=some (rty 41)
variable {W0 w:World} {F:List HProp}
theorem ta301_44 (v:Value) (w:World):(Instr.typeAssert (.iface 44 v) 41 301 true).run Tryz.prog w=.ok (.tuple #[.nilIface,.bool false]) w:=run_typeAssert_lacksB Tryz.underlying301 (by kernel_rfl) (by kernel_rfl) v 41 w
theorem ta301_249 (v:Value) (w:World):(Instr.typeAssert (.iface 249 v) 41 301 true).run Tryz.prog w=.ok (.tuple #[.nilIface,.bool false]) w:=run_typeAssert_lacksB Tryz.underlying301 (by kernel_rfl) (by kernel_rfl) v 41 w
theorem ta304_44 (v:Value) (w:World):(Instr.typeAssert (.iface 44 v) 41 304 true).run Tryz.prog w=.ok (.tuple #[.nilIface,.bool false]) w:=run_typeAssert_lacksB Tryz.underlying304 (by kernel_rfl) (by kernel_rfl) v 41 w
theorem ta304_249 (v:Value) (w:World):(Instr.typeAssert (.iface 249 v) 41 304 true).run Tryz.prog w=.ok (.tuple #[.iface 249 v,.bool true]) w:=run_typeAssert_hasB Tryz.underlying304 (by kernel_rfl) v 41 w
theorem ta305_44 (v:Value) (w:World):(Instr.typeAssert (.iface 44 v) 41 305 true).run Tryz.prog w=.ok (.tuple #[.nilIface,.bool false]) w:=run_typeAssert_lacksB Tryz.underlying305 (by kernel_rfl) (by kernel_rfl) v 41 w
theorem ta338_44 (v:Value) (w:World):(Instr.typeAssert (.iface 44 v) 41 338 true).run Tryz.prog w=.ok (.tuple #[.nilIface,.bool false]) w:=run_typeAssert_lacksB Tryz.underlying338 (by kernel_rfl) (by kernel_rfl) v 41 w
theorem ta338_249 (v:Value) (w:World):(Instr.typeAssert (.iface 249 v) 41 338 true).run Tryz.prog w=.ok (.tuple #[.nilIface,.bool false]) w:=run_typeAssert_lacksB Tryz.underlying338 (by kernel_rfl) (by kernel_rfl) v 41 w
theorem mthUnwrap (v:Value) (w:World):(Go.method (Tryz.prog.types.size+Made.depth) 249 v "Unwrap").run Tryz.prog w=.ok (281,v) w:=by kernel_rfl
theorem unwrap_spec {s:Bs} {k:Nat} {b:Nat} (hs:Sat W0 (imm b 251 [str s,.int .i64 (k:Int)]::F) w) :
 Calls Tryz.prog 281 #[idV b] w fun x w'=>x=.returned (.iface 44 (.int .i64 (k:Int)))∧Sat W0 (imm b 251 [str s,.int .i64 (k:Int)]::F) w':=by
 refine enter Tryz.func281 rfl Tryz.ntmps281 Tryz.results281 rfl ?_
 refine gx ?_
 exact wq_ret rfl ⟨rfl,hs⟩
theorem Sat.errNumIs {v:Value} {k:Nat} (h:Sat W0 (errC v (some (none,k))::F) w):v=.iface 44 (.int .i64 (k:Int)):=h.pure1 fun _ q=>q
theorem Sat.errAt {v:Value} {s:Bs} {k:Nat} (h:Sat W0 (errC v (some (some s,k))::F) w):∃ b,v=.iface 249 (idV b)∧Sat W0 (imm b 251 [str s,.int .i64 (k:Int)]::F) w:=by
 obtain ⟨b,hb,hs⟩:=h.open1 (φ:=fun b=>v=.iface 249 (idV b)) (B:=fun b=>[imm b 251 [str s,.int .i64 (k:Int)]]) fun hp ⟨b,e,q⟩=>⟨b,e,hp,fun _=>none,fun _ _ _ _ hy=>(by cases hy),Hp.le_refl _,fun _ _ hx=>(by cases hx),q,trivial⟩
 exact ⟨b,hb,hs⟩
theorem Sat.errAtShut {s:Bs} {k:Nat} {b:Nat} (h:Sat W0 (imm b 251 [str s,.int .i64 (k:Int)]::F) w):Sat W0 (errC (.iface 249 (idV b)) (some (some s,k))::F) w:=h.head fun _ q=>⟨b,rfl,q⟩
theorem Sat.boxed {v:Value} {T:TypeId} (h:Sat W0 F w):Sat W0 (blk w.heap.size T [v]::F) { w with heap:=w.heap.push (.cells #[v] T) }:=h.new (.cells #[v] T) false
end
section
open Go Go.Extern
attribute [local irreducible] IntKind.wrap
variable {W0 w:World} {F:List HProp}
def errZ (ve:Value) (k:Nat):Bool→Value
 | true=>ve
 | false=>.iface 44 (.int .i64 (k:Int))
theorem Sat.errStart {v:Value} {e:Err} (h:Sat W0 (errC v (some e)::F) w):v=errZ v e.2 e.1.isSome∧(e.1.isSome=true→e.1≠none):=by
 obtain ⟨o,k⟩:=e
 cases o with
 | none=>exact ⟨h.errNumIs,fun hh=>by cases hh⟩
 | some s=>exact ⟨rfl,fun _ hh=>by cases hh⟩
theorem as105_136 {e:Err} {ve u tgt:Value} {bt bv:Nat} (hs:Sat W0 (blk bv 136 [idV bt]::blk bt 44 [u]::errC ve (some e)::F) w) :
 Calls Tryz.prog 105 #[ve,tgt,rv 136 bv 150,rty 44] w fun x w'=>x=.returned (.bool true)∧Sat W0 (blk bt 44 [.int .i64 (e.2:Int)]::errC ve (some e)::F) w':=by
 obtain ⟨hv,hn⟩:=(hs.take (.there (.there .here))).errStart
 refine enter Tryz.func105 rfl Tryz.ntmps105 Tryz.results105 rfl ?_
 refine gx ?_
 refine w_box hs fun w b6 hs=>?_
 refine gx ?_
 refine wc_loop (α:=Bool) (fun z=>[(0,errZ ve e.2 z),(1,tgt),(3,rty 44),(6,idV b6)])
  (fun z w=>(z=true→e.1≠none)∧Sat W0 (blk b6 205 [.pointer (some ⟨4,136,none⟩),.pointer (some ⟨bv,0,none⟩),.int .u64 150]::blk bv 136 [idV bt]::blk bt 44 [u]::errC ve (some e)::F) w) (fun z=>if z=true then 1 else 0) e.1.isSome ⟨by rw [← hv];rfl,rfl,rfl,rfl,trivial⟩ ⟨hn,hs⟩ ?_
 clear hs hv hn
 rintro z w ⟨hz,hs⟩
 cases z with
 | false=>
  refine gx ?_
  refine wl_ext x162 rfl (tyOf44 _ _) rfl ?_
  refine gx ?_
  refine wl_invx rfl (mthAssg _) x283 rfl (as44_44 _) rfl ?_
  refine gx ?_
  refine wl_ext x181 rfl (elem136 (hs.cell (.there .here) 0)) rfl ?_
  refine gx ?_
  refine wl_ext x102 rfl (unp44 _ _) rfl ?_
  have hs:=hs.boxed (v:=.int .i64 (e.2:Int)) (T:=44)
  generalize w.heap.size=b2 at *
  generalize { w with heap:=w.heap.push _ }=w at hs ⊢
  refine gx ?_
  refine wl_ext x182 rfl (set44 (hs.cell .here 0) (hs.cell (.there (.there (.there .here))) 0) (hs.free (.there (.there (.there .here))) 0)) rfl ?_
  have hs:=hs.setCell (b:=bt) (o:=0) (v:=.int .i64 (e.2:Int)) (.there (.there (.there .here)))
  refine gx ?_
  exact wq_ret rfl ⟨rfl,hs.drop.drop.drop⟩
 | true=>
  obtain ⟨o,k⟩:=e
  cases o with
  | none=>exact absurd rfl (hz rfl)
  | some s=>
   obtain ⟨b,rfl,h2⟩:=(hs.take (.there (.there (.there .here)))).errAt
   clear hs
   refine gx ?_
   refine wl_ext x162 rfl (tyOf249 _ _) rfl ?_
   refine gx ?_
   refine wl_invx rfl (mthAssg _) x283 rfl (as249_44 _) rfl ?_
   refine gx ?_
   refine wl_ta rfl (ta301_249 _ _) rfl ?_
   refine gx ?_
   refine wl_ta rfl (ta304_249 _ _) rfl ?_
   refine gx ?_
   refine wl_invoke rfl (mthUnwrap _) (fun _ _=>call_of2 rfl) rfl rfl (met (unwrap_spec h2) ?_)
   clear h2
   rintro _ w ⟨rfl,hs⟩
   refine ⟨_,rfl,?_⟩
   refine gx ?_
   refine wq_round false ⟨rfl,rfl,rfl,rfl,trivial⟩ ⟨fun hh=>(by cases hh),?_⟩ (by decide)
   exact hs.errAtShut.to
theorem as105_283n {k:Nat} {u tgt:Value} {bt bv:Nat} (hs:Sat W0 (blk bv 283 [idV bt]::blk bt 249 [u]::F) w) :
 Calls Tryz.prog 105 #[.iface 44 (.int .i64 (k:Int)),tgt,rv 283 bv 150,rty 249] w fun x w'=>x=.returned (.bool false)∧Sat W0 (blk bt 249 [u]::F) w':=by
 refine enter Tryz.func105 rfl Tryz.ntmps105 Tryz.results105 rfl ?_
 refine gx ?_
 refine w_box hs fun w b6 hs=>?_
 refine gx ?_
 refine wc_loop (α:=Unit) (fun z=>[(0,.iface 44 (.int .i64 (k:Int))),(1,tgt),(3,rty 249),(6,idV b6)])
  (fun z w=>Sat W0 (blk b6 205 [.pointer (some ⟨4,283,none⟩),.pointer (some ⟨bv,0,none⟩),.int .u64 150]::blk bv 283 [idV bt]::blk bt 249 [u]::F) w) (fun z=>0) () ⟨rfl,rfl,rfl,rfl,trivial⟩ hs ?_
 clear hs
 rintro z w hs
 refine gx ?_
 refine wl_ext x162 rfl (tyOf44 _ _) rfl ?_
 refine gx ?_
 refine wl_invx rfl (mthAssg _) x283 rfl (as44_249 _) rfl ?_
 refine gx ?_
 refine wl_ta rfl (ta301_44 _ _) rfl ?_
 refine gx ?_
 refine wl_ta rfl (ta304_44 _ _) rfl ?_
 refine gx ?_
 refine wl_ta rfl (ta305_44 _ _) rfl ?_
 refine gx ?_
 exact wq_ret rfl ⟨rfl,hs.drop.drop⟩
theorem as105_283f {b:Nat} {u tgt:Value} {bt bv:Nat} (hs:Sat W0 (blk bv 283 [idV bt]::blk bt 249 [u]::F) w) :
 Calls Tryz.prog 105 #[.iface 249 (idV b),tgt,rv 283 bv 150,rty 249] w fun x w'=>x=.returned (.bool true)∧Sat W0 (blk bt 249 [idV b]::F) w':=by
 refine enter Tryz.func105 rfl Tryz.ntmps105 Tryz.results105 rfl ?_
 refine gx ?_
 refine w_box hs fun w b6 hs=>?_
 refine gx ?_
 refine wc_loop (α:=Unit) (fun z=>[(0,.iface 249 (idV b)),(1,tgt),(3,rty 249),(6,idV b6)])
  (fun z w=>Sat W0 (blk b6 205 [.pointer (some ⟨4,283,none⟩),.pointer (some ⟨bv,0,none⟩),.int .u64 150]::blk bv 283 [idV bt]::blk bt 249 [u]::F) w) (fun z=>0) () ⟨rfl,rfl,rfl,rfl,trivial⟩ hs ?_
 clear hs
 rintro z w hs
 refine gx ?_
 refine wl_ext x162 rfl (tyOf249 _ _) rfl ?_
 refine gx ?_
 refine wl_invx rfl (mthAssg _) x283 rfl (as249_249 _) rfl ?_
 refine gx ?_
 refine wl_ext x181 rfl (elem283 (hs.cell (.there .here) 0)) rfl ?_
 refine gx ?_
 refine wl_ext x102 rfl (unp249 _ _) rfl ?_
 have hs:=hs.boxed (v:=idV b) (T:=249)
 generalize w.heap.size=b2 at *
 generalize { w with heap:=w.heap.push _ }=w at hs ⊢
 refine gx ?_
 refine wl_ext x182 rfl (set249 (hs.cell .here 0) rfl (hs.cell (.there (.there (.there .here))) 0) (hs.free (.there (.there (.there .here))) 0)) rfl ?_
 have hs:=hs.setCell (b:=bt) (o:=0) (v:=idV b) (.there (.there (.there .here)))
 refine gx ?_
 exact wq_ret rfl ⟨rfl,hs.drop.drop.drop⟩
theorem as50_136 {e:Err} {ve u:Value} {bt:Nat} (hE:ErrW W0) (hs:Sat W0 (blk bt 44 [u]::errC ve (some e)::F) w) :
 Calls Tryz.prog 50 #[ve,.iface 136 (idV bt)] w fun x w'=>x=.returned (.bool true)∧Sat W0 (blk bt 44 [.int .i64 (e.2:Int)]::errC ve (some e)::F) w':=by
 obtain ⟨t,vv,rfl⟩:=(hs.take (.there .here)).errIface
 refine enter Tryz.func50 rfl Tryz.ntmps50 Tryz.results50 rfl ?_
 refine gx ?_
 refine wl_ext x102 rfl (unp136 _ _) rfl ?_
 have hs:=hs.boxed (v:=idV bt) (T:=136)
 generalize w.heap.size=bv at *
 generalize { w with heap:=w.heap.push _ }=w at hs ⊢
 refine gx ?_
 refine w_alloc hs fun w b5 hs=>?_
 refine gx ?_
 refine w_stN hs fun w hs=>?_
 refine gx ?_
 refine wl_ext x103 rfl (ty136 _ _) rfl ?_
 refine gx ?_
 refine wl_invx rfl (mthKind _) x271 rfl (kd136 _) rfl ?_
 refine gx ?_
 refine wl_ext x104 rfl (nil136 (hs.cell (.there .here) 0)) rfl ?_
 refine gx ?_
 refine wl_invx rfl (mthElem _) x285 rfl (el136 _) rfl ?_
 refine gx ?_
 refine wl_invx rfl (mthKind _) x271 rfl (kd44 _) rfl ?_
 refine gx ?_
 refine wl_ldc rfl rfl (hs.oldCell hE) rfl ?_
 refine gx ?_
 refine wl_invx rfl (mthImpl _) x286 rfl (im44 _) rfl ?_
 refine gx ?_
 refine w_call (met (as105_136 hs.drop) ?_)
 clear hs
 rintro _ w ⟨rfl,hs⟩
 refine ⟨_,rfl,?_⟩
 refine gx ?_
 exact wq_ret rfl ⟨rfl,hs⟩
theorem as50_283n {k:Nat} {u:Value} {bt:Nat} (hE:ErrW W0) (hs:Sat W0 (blk bt 249 [u]::F) w) :
 Calls Tryz.prog 50 #[.iface 44 (.int .i64 (k:Int)),.iface 283 (idV bt)] w fun x w'=>x=.returned (.bool false)∧Sat W0 (blk bt 249 [u]::F) w':=by
 refine enter Tryz.func50 rfl Tryz.ntmps50 Tryz.results50 rfl ?_
 refine gx ?_
 refine wl_ext x102 rfl (unp283 _ _) rfl ?_
 have hs:=hs.boxed (v:=idV bt) (T:=283)
 generalize w.heap.size=bv at *
 generalize { w with heap:=w.heap.push _ }=w at hs ⊢
 refine gx ?_
 refine w_alloc hs fun w b5 hs=>?_
 refine gx ?_
 refine w_stN hs fun w hs=>?_
 refine gx ?_
 refine wl_ext x103 rfl (ty283 _ _) rfl ?_
 refine gx ?_
 refine wl_invx rfl (mthKind _) x271 rfl (kd283 _) rfl ?_
 refine gx ?_
 refine wl_ext x104 rfl (nil283 (hs.cell (.there .here) 0)) rfl ?_
 refine gx ?_
 refine wl_invx rfl (mthElem _) x285 rfl (el283 _) rfl ?_
 refine gx ?_
 refine wl_invx rfl (mthKind _) x271 rfl (kd249 _) rfl ?_
 refine gx ?_
 refine wl_ldc rfl rfl (hs.oldCell hE) rfl ?_
 refine gx ?_
 refine wl_invx rfl (mthImpl _) x286 rfl (im249 _) rfl ?_
 refine gx ?_
 refine w_call (met (as105_283n hs.drop) ?_)
 clear hs
 rintro _ w ⟨rfl,hs⟩
 refine ⟨_,rfl,?_⟩
 refine gx ?_
 exact wq_ret rfl ⟨rfl,hs⟩
theorem as50_283f {b:Nat} {u:Value} {bt:Nat} (hE:ErrW W0) (hs:Sat W0 (blk bt 249 [u]::F) w) :
 Calls Tryz.prog 50 #[.iface 249 (idV b),.iface 283 (idV bt)] w fun x w'=>x=.returned (.bool true)∧Sat W0 (blk bt 249 [idV b]::F) w':=by
 refine enter Tryz.func50 rfl Tryz.ntmps50 Tryz.results50 rfl ?_
 refine gx ?_
 refine wl_ext x102 rfl (unp283 _ _) rfl ?_
 have hs:=hs.boxed (v:=idV bt) (T:=283)
 generalize w.heap.size=bv at *
 generalize { w with heap:=w.heap.push _ }=w at hs ⊢
 refine gx ?_
 refine w_alloc hs fun w b5 hs=>?_
 refine gx ?_
 refine w_stN hs fun w hs=>?_
 refine gx ?_
 refine wl_ext x103 rfl (ty283 _ _) rfl ?_
 refine gx ?_
 refine wl_invx rfl (mthKind _) x271 rfl (kd283 _) rfl ?_
 refine gx ?_
 refine wl_ext x104 rfl (nil283 (hs.cell (.there .here) 0)) rfl ?_
 refine gx ?_
 refine wl_invx rfl (mthElem _) x285 rfl (el283 _) rfl ?_
 refine gx ?_
 refine wl_invx rfl (mthKind _) x271 rfl (kd249 _) rfl ?_
 refine gx ?_
 refine wl_ldc rfl rfl (hs.oldCell hE) rfl ?_
 refine gx ?_
 refine wl_invx rfl (mthImpl _) x286 rfl (im249 _) rfl ?_
 refine gx ?_
 refine w_call (met (as105_283f hs.drop) ?_)
 clear hs
 rintro _ w ⟨rfl,hs⟩
 refine ⟨_,rfl,?_⟩
 refine gx ?_
 exact wq_ret rfl ⟨rfl,hs⟩
def numE:Option Err→Nat
 | none=>0
 | some e=>e.2
theorem tell_spec {oe:Option Err} {ve:Value} (hE:ErrW W0) (hs:Sat W0 (errC ve oe::F) w) :
 Calls Tryz.prog 19 #[ve] w fun x w'=>x=.returned (.int .i64 (numE oe:Int))∧Sat W0 (errC ve oe::F) w':=by
 refine enter Tryz.func19 rfl Tryz.ntmps19 Tryz.results19 rfl ?_
 cases oe with
 | none=>
  have hve:=hs.errIs
  subst hve
  refine gx ?_
  refine w_alloc hs fun w b3 hs=>?_
  refine gx ?_
  exact wq_ret rfl ⟨rfl,hs.drop⟩
 | some e=>
  obtain ⟨t,vv,rfl⟩:=hs.errIface
  refine gx ?_
  refine w_alloc hs fun w b3 hs=>?_
  refine gx ?_
  refine w_call (met (as50_136 hE hs) ?_)
  clear hs
  rintro _ w ⟨rfl,hs⟩
  refine ⟨_,rfl,?_⟩
  refine gx ?_
  exact wq_ret rfl ⟨rfl,hs.drop⟩
theorem eq4149 (v:Value) (k:Int) (w:World):(binOp .eql 41 (.iface 249 v) (.iface 44 (.int .i64 k))).run Tryz.prog w=.ok (.bool false) w:=run_eql_iface_types 249 44 v (.int .i64 k) Tryz.underlying41 (by decide) w
theorem eq4144 (a b:Int) (w:World):(binOp .eql 41 (.iface 44 (.int .i64 a)) (.iface 44 (.int .i64 b))).run Tryz.prog w=.ok (.bool (decide (a=b))) w:=by
 have hc:Tryz.t44.comparable=true:=rfl
 have h:∀ d:Nat,(Op.equalIn (d+2) 41 (.iface 44 (.int .i64 a)) (.iface 44 (.int .i64 b))).run Tryz.prog w=.ok (decide (a=b)) w:=fun d=>by
  simp [Op.equalIn,run_underlying Tryz.underlying41,run_underlying Tryz.underlying44,hc]
  rfl
 simp only [binOp]
 simp [Op.equal,Op.maxDepth,h 9998]
section
variable {ops:Array Oper} {Q:Exit→Act→World→Prop} {n:Nat} {ds:Md} {e:Env} {w w':World} {rest:List Oper}
variable {op:Op} {ty:TypeId} {pos:String} {af:Array Edge} {d:Nat} {v u:Value}
attribute [local semireducible] WL WC WQ
theorem wl_bin {bo:BinOp} {t t2:TypeId} {x y:Operand} {vx vy z:Value} (hx:ev e x=some vx) (hy:ev e y=some vy) (hg:(eqGuard bo t x y vx vy).run Tryz.prog w=.ok () w) (hr:(Go.binOp bo t vx vy).run Tryz.prog w=.ok z w) (hd:Nat.blt d n=true)
 (k:WL ops Q n ds rest ((d,z)::e) w):WL ops Q n ds (⟨some d,.binOp bo t x y t2,ty,pos,af,none⟩::rest) e w:=
 wl_run (fun a ha=>by simp [execOp,ha.ev hx,ha.ev hy,hg,hr]) hd k
end
theorem x284:Ext 284 (ReflectliteType.method fun t=>do Rtype.noPackHeld "Comparable" t;pure (.bool (← typeInfo t).comparable)):=@run_callFunc_extern Tryz.prog 284 _ _ Tryz.func284 (by kernel_rfl) (by kernel_rfl) (by kernel_rfl) (by kernel_rfl)
theorem cmp44 (w:World):(ReflectliteType.method (fun t=>do Rtype.noPackHeld "Comparable" t;pure (.bool (← typeInfo t).comparable)) #[.agg #[.pointer (some ⟨4,44,none⟩)]]).run Tryz.prog w=.ok (.bool true) w:=by kernel_rfl
theorem is163 {e:Err} {ve:Value} {m:Nat} (hs:Sat W0 (errC ve (some e)::F) w) :
 Calls Tryz.prog 163 #[ve,.iface 44 (.int .i64 (m:Int)),.bool true] w fun x w'=>x=.returned (.bool (decide (e.2=m)))∧Sat W0 (errC ve (some e)::F) w':=by
 obtain ⟨hv,hn⟩:=hs.errStart
 refine enter Tryz.func163 rfl Tryz.ntmps163 Tryz.results163 rfl ?_
 refine gx ?_
 refine wc_loop (α:=Bool) (fun z=>[(0,errZ ve e.2 z),(1,.iface 44 (.int .i64 (m:Int))),(2,.bool true)])
  (fun z w=>(z=true→e.1≠none)∧Sat W0 (errC ve (some e)::F) w) (fun z=>if z=true then 1 else 0) e.1.isSome ⟨by rw [← hv];rfl,rfl,rfl,trivial⟩ ⟨hn,hs⟩ ?_
 clear hs hv hn
 rintro z w ⟨hz,hs⟩
 cases z with
 | false=>
  refine gx ?_
  refine wl_bin rfl rfl rfl (eq4144 _ _ _) rfl ?_
  by_cases h:e.2=m
  ·have h':((e.2:Nat):Int)=(m:Int):=by omega
   rw [decide_eq_true h',decide_eq_true h]
   refine gx ?_
   exact wq_ret rfl ⟨rfl,hs⟩
  ·have h':¬ ((e.2:Nat):Int)=(m:Int):=by omega
   rw [decide_eq_false h',decide_eq_false h]
   refine gx ?_
   refine wl_ta rfl (ta338_44 _ _) rfl ?_
   refine gx ?_
   refine wl_ta rfl (ta304_44 _ _) rfl ?_
   refine gx ?_
   refine wl_ta rfl (ta305_44 _ _) rfl ?_
   refine gx ?_
   exact wq_ret rfl ⟨rfl,hs⟩
 | true=>
  obtain ⟨o,k⟩:=e
  cases o with
  | none=>exact absurd rfl (hz rfl)
  | some s=>
   obtain ⟨b,rfl,h2⟩:=hs.errAt
   clear hs
   refine gx ?_
   refine wl_bin rfl rfl rfl (eq4149 _ _ _) rfl ?_
   refine gx ?_
   refine wl_ta rfl (ta338_249 _ _) rfl ?_
   refine gx ?_
   refine wl_ta rfl (ta304_249 _ _) rfl ?_
   refine gx ?_
   refine wl_invoke rfl (mthUnwrap _) (fun _ _=>call_of2 rfl) rfl rfl (met (unwrap_spec h2) ?_)
   clear h2
   rintro _ w ⟨rfl,hs⟩
   refine ⟨_,rfl,?_⟩
   refine gx ?_
   refine wq_round false ⟨rfl,rfl,rfl,trivial⟩ ⟨fun hh=>(by cases hh),?_⟩ (by decide)
   exact hs.errAtShut.to
theorem is_spec {e:Err} {ve:Value} {m:Nat} (hs:Sat W0 (errC ve (some e)::F) w) :
 Calls Tryz.prog 90 #[ve,.iface 44 (.int .i64 (m:Int))] w fun x w'=>x=.returned (.bool (decide (e.2=m)))∧Sat W0 (errC ve (some e)::F) w':=by
 obtain ⟨t,vv,rfl⟩:=hs.errIface
 refine enter Tryz.func90 rfl Tryz.ntmps90 Tryz.results90 rfl ?_
 refine gx ?_
 refine wl_ext x162 rfl (tyOf44 _ _) rfl ?_
 refine gx ?_
 refine wl_invx rfl (mthComp _) x284 rfl (cmp44 _) rfl ?_
 refine gx ?_
 refine w_call (met (is163 hs) ?_)
 clear hs
 rintro _ w ⟨rfl,hs⟩
 refine ⟨_,rfl,?_⟩
 refine gx ?_
 exact wq_ret rfl ⟨rfl,hs⟩
end
end Go.Proofs.YtecibefflhomdaaGreatDoor
