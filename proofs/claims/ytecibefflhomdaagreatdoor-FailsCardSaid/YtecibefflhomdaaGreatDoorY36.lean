/-
  Part 36: PLAIN the document's functions as they are written; THE ENGINE functions without a body; WALKS errors; WALKS errors.
-/
import Derived.Test.YtecibefflhomdaaGreatDoorY35
import Derived.Laws.Externs
import Derived.Stop.Asserts
set_option maxHeartbeats 8000000
set_option maxRecDepth 100000
set_option linter.all false
namespace Go.Proofs.YtecibefflhomdaaGreatDoor
open Go
section
open Go.Proofs.YtecibefflhomdaaGreatDoor.Pure
def iY (k v:Bs):Bool→List (Bs×Bs)→List (Bs×Bs)
 | put,[]=>if put=true then [] else [(k,v)]
 | put,p::r=>(if put=false∧aQ p.1 k=false then [(k,v)] else [])++(if p.1=k then [] else [p])++iY k v (put||!aQ p.1 k) r
theorem qQ {k v:Bs}:∀ {l:List (Bs×Bs)},jS l→iY k v true l=(l.filter fun p=>aQ p.1 k)++l.filter fun p=>aQ k p.1
 | [],_=>rfl
 | p::r,h=>by
  have ih:=qQ (k:=k) (v:=v) (List.pairwise_cons.1 h).2
  unfold iY
  rw [if_neg (by simp),List.nil_append,Bool.true_or,ih]
  rcases ew p.1 k with h1|h1|h1
  ·rw [if_neg (fun e=>by rw [e,aN] at h1;cases h1),List.filter_cons,if_pos h1,List.filter_cons,if_neg (by rw [cz h1];simp)];rfl
  ·rw [if_pos h1,List.filter_cons,if_neg (by rw [h1,aN];simp),List.filter_cons,if_neg (by rw [h1,aN];simp)];rfl
  ·have h2:r.filter (fun p=>aQ p.1 k)=[]:=List.filter_eq_nil_iff.2 fun x hx=>by
    have:=(List.pairwise_cons.1 h).1 x hx
    rw [cz (dj h1 this)];simp
   rw [if_neg (fun e=>by rw [e,aN] at h1;cases h1),List.filter_cons,if_neg (by rw [cz h1];simp),List.filter_cons,if_pos h1,h2];rfl
theorem AV {k v:Bs}:∀ {l:List (Bs×Bs)},jS l→iY k v false l=(l.filter fun p=>aQ p.1 k)++[(k,v)]++l.filter fun p=>aQ k p.1
 | [],_=>rfl
 | p::r,h=>by
  have hr:=(List.pairwise_cons.1 h).2
  unfold iY
  rcases ew p.1 k with h1|h1|h1
  ·have ih:=AV (k:=k) (v:=v) hr
   rw [if_neg (by rw [h1];simp),if_neg (fun e=>by rw [e,aN] at h1;cases h1),h1]
   rw [List.filter_cons,if_pos h1,List.filter_cons,if_neg (by rw [cz h1];simp)]
   show []++[p]++iY k v false r=_
   rw [ih];simp
  ·have h2:r.filter (fun p=>aQ p.1 k)=[]:=List.filter_eq_nil_iff.2 fun x hx=>by
    have:=(List.pairwise_cons.1 h).1 x hx
    rw [← h1,cz this];simp
   have h3:aQ p.1 k=false:=by rw [h1,aN]
   rw [if_pos ⟨rfl,h3⟩,if_pos h1,h3]
   show [(k,v)]++[]++iY k v true r=_
   rw [qQ hr,h2,List.filter_cons,if_neg (by rw [h3];simp),List.filter_cons,if_neg (by rw [h1,aN];simp),h2];simp
  ·have h2:r.filter (fun p=>aQ p.1 k)=[]:=List.filter_eq_nil_iff.2 fun x hx=>by
    have:=(List.pairwise_cons.1 h).1 x hx
    rw [cz (dj h1 this)];simp
   have h3:aQ p.1 k=false:=cz h1
   rw [if_pos ⟨rfl,h3⟩,if_neg (fun e=>by rw [e,aN] at h1;cases h1),h3]
   show [(k,v)]++[p]++iY k v true r=_
   rw [qQ hr,h2,List.filter_cons,if_neg (by rw [h3];simp),List.filter_cons,if_pos h1,h2];simp
theorem ya {l:List (Bs×Bs)} (h:jS l) (k v:Bs) (del:Bool):iY k v del l=ph l k v del:=by
 unfold ph
 cases del with
 | true=>rw [qQ h];simp
 | false=>rw [AV h];simp
theorem vd (k v:Bs):∀ (l:List (Bs×Bs)) (put:Bool),(iY k v put l).length≤l.length+(if put=true then 0 else 1)
 | [],put=>by unfold iY;cases put<;>simp
 | p::r,put=>by
  have ih:=vd k v r (put||!aQ p.1 k)
  have h2:(if p.1=k then [] else [p]).length≤1:=by split<;>simp
  unfold iY
  simp only [List.length_append,List.length_cons]
  cases put with
  | true=>simp only [Bool.true_or,if_true] at ih;simp;omega
  | false=>
   cases hb:aQ p.1 k with
   | true=>rw [hb] at ih;simp at ih;simp;omega
   | false=>rw [hb] at ih;simp at ih;simp;omega
def Lx (l:List (Bs×Bs)) (b:List bO):List (Bs×Bs):=b.foldl (fun l c=>iY c.key c.val c.del l) l
theorem rT:∀ (b:List bO) {l:List (Bs×Bs)},jS l→Lx l b=mZ l b
 | [],_,_=>rfl
 | c::b,l,h=>by
  unfold Lx mZ
  rw [List.foldl_cons,List.foldl_cons,ya h]
  exact rT b (zD h c.key c.val c.del)
theorem EB:∀ (b:List bO) (l:List (Bs×Bs)),(Lx l b).length≤l.length+b.length
 | [],l=>Nat.le_refl _
 | c::b,l=>by
  have h1:=EB b (iY c.key c.val c.del l)
  have h2:=vd c.key c.val l c.del
  have:(if c.del=true then 0 else 1)≤1:=by split<;>omega
  unfold Lx at h1 ⊢
  rw [List.foldl_cons]
  simp only [List.length_cons];omega
def rU:List bO→Nat
 | []=>0
 | c::r=>if c.key.length=0∨8<c.key.length then 3 else if c.del=false∧16<c.val.length then 4 else rU r
def fY (l:List bO):Nat:=if 8<l.length then 2 else rU l
theorem MH {l:List bO} (h:fY l=0):JR l:=by
 unfold fY at h
 by_cases h8:8<l.length
 ·rw [if_pos h8] at h;omega
 ·rw [if_neg h8] at h
  have key:∀ l:List bO,rU l=0→∀ c∈l,(c.key.length≤8∧c.key≠[])∧(c.del=false→c.val.length≤16):=by
   intro l
   induction l with
   | nil=>intro _ c hc;cases hc
   | cons x r ih=>
    intro hh c hc
    unfold rU at hh
    split at hh
    ·omega
    ·rename_i h1
     split at hh
     ·omega
     ·rename_i h2
      rcases List.mem_cons.1 hc with rfl|hc
      ·refine ⟨⟨by omega,fun e=>h1 (.inl (by rw [e];rfl))⟩,fun hd=>?_⟩
       cases Nat.lt_or_ge 16 c.val.length with
       | inl h=>exact absurd ⟨hd,h⟩ h2
       | inr h=>exact h
      ·exact ih hh c hc
  exact ⟨by omega,fun c hc=>(key l h c hc).1,fun c hc=>(key l h c hc).2⟩
end
section
open Go Go.Extern
section
variable {ops:Array Oper} {Q:Exit→Act→World→Prop} {n:Nat} {ds:Md} {e:Env} {w w':World} {rest:List Oper}
variable {op:Op} {ty:TypeId} {pos:String} {af:Array Edge} {d:Nat} {v u:Value} {W0:World} {l l' r r':List ah}
attribute [local semireducible] WL WC WQ
def Ext (f:FuncId) (g:Array Value→Sem Value):Prop:=∀ (args:Array Value) (w:World),(callFunc f args).run Tryz.prog w=((g args).run Tryz.prog w).andThen fun v w'=>.ok (.value v) w'
theorem fZ {f:FuncId} {g:Array Value→Sem Value} {xs:Array Operand} {at_:Array TypeId} {vs:List Value} {y:Value} (hf:Ext f g) (hxs:sZ e xs.toList=some vs) (hr:(g vs.toArray).run Tryz.prog w=.ok y w') (hd:Nat.blt d n=true)
 (k:WL ops Q n ds rest ((d,y)::e) w'):WL ops Q n ds (⟨some d,.call { callee:=.value (.func f),args:=xs,argTypes:=at_ },ty,pos,af,none⟩::rest) e w:=
 cj (fun a ha=>by
  have e1:xs.map a.eval=vs.toArray:=by rw [← ha.sZ hxs];cases xs;simp
  simp [execOp,resolve,Act.eval,Deferred.ofValue,invoke,e1,hf vs.toArray w,hr]) hd k
theorem fG {x:Operand} {xs:Array Operand} {at_:Array TypeId} {vs:List Value} {T f:Nat} {name:String} {v' y:Value} {g:Array Value→Sem Value} (hx:ev e x=some (.iface T v)) (hm:∀ w,(Go.method (Tryz.prog.types.size+Made.depth) T v name).run Tryz.prog w=.ok (f,v') w)
 (hf:Ext f g) (hxs:sZ e xs.toList=some vs) (hr:(g (v'::vs).toArray).run Tryz.prog w=.ok y w') (hd:Nat.blt d n=true) (k:WL ops Q n ds rest ((d,y)::e) w') :
 WL ops Q n ds (⟨some d,.call { callee:=.invoke x name,args:=xs,argTypes:=at_ },ty,pos,af,none⟩::rest) e w:=
 cj (fun a ha=>by
  have e1:xs.map a.eval=vs.toArray:=by rw [← ha.sZ hxs];cases xs;simp
  have e2:(#[Value.iface T v]++vs.toArray).extract 1 (#[Value.iface T v]++vs.toArray).size=vs.toArray:=by apply Array.ext';simp
  have e3:(#[Value.iface T v]++vs.toArray)[0]?=some (.iface T v):=by simp
  have e4:(#[v']++vs.toArray:Array Value)=(v'::vs).toArray:=by apply Array.ext';simp
  simp only [execOp,resolve,ha.ev hx,e1,Sem.run_bind,Sem.run_pure,Result.andThen_ok,invoke,e2,e3,callMethod,run_program,hm,e4,hf (v'::vs).toArray w,hr]) hd k
theorem oY {x:Operand} {xt t:TypeId} {ok:Bool} {y:Value} (hx:ev e x=some v) (hr:(Instr.typeAssert v xt t ok).run Tryz.prog w=.ok y w) (hd:Nat.blt d n=true)
 (k:WL ops Q n ds rest ((d,y)::e) w):WL ops Q n ds (⟨some d,.typeAssert x xt t ok,ty,pos,af,none⟩::rest) e w:=
 cj (fun a ha=>by simp [execOp,ha.ev hx,hr]) hd k
end
theorem I0:Ext 102 (fun args=>ReflectliteValue.unpack (args.getD 0 (.tuple #[]))):=@run_callFunc_extern Tryz.prog 102 _ _ Tryz.func102 (by kernel_rfl) (by kernel_rfl) (by kernel_rfl) (by kernel_rfl)
theorem MI:Ext 103 (ReflectliteValue.methodAny (ReflectliteValue.valueError "reflectlite.Value.Type" 0) (fun t _ _ _=>ReflectliteType.toType t)):=@run_callFunc_extern Tryz.prog 103 _ _ Tryz.func103 (by kernel_rfl) (by kernel_rfl) (by kernel_rfl) (by kernel_rfl)
theorem MJ:Ext 104 (ReflectliteValue.method (ReflectliteValue.valueError "reflectlite.Value.IsNil" 0) ReflectliteValue.isNil):=@run_callFunc_extern Tryz.prog 104 _ _ Tryz.func104 (by kernel_rfl) (by kernel_rfl) (by kernel_rfl) (by kernel_rfl)
theorem I1:Ext 162 ReflectliteType.typeOf:=@run_callFunc_extern Tryz.prog 162 _ _ Tryz.func162 (by kernel_rfl) (by kernel_rfl) (by kernel_rfl) (by kernel_rfl)
theorem NP:Ext 181 (ReflectliteValue.method (ReflectliteValue.valueError "reflectlite.Value.Elem" 0) ReflectliteValue.elem):=@run_callFunc_extern Tryz.prog 181 _ _ Tryz.func181 (by kernel_rfl) (by kernel_rfl) (by kernel_rfl) (by kernel_rfl)
theorem NQ:Ext 182 ReflectliteValue.set:=@run_callFunc_extern Tryz.prog 182 _ _ Tryz.func182 (by kernel_rfl) (by kernel_rfl) (by kernel_rfl) (by kernel_rfl)
theorem Gm:Ext 271 (ReflectliteType.abiMethod fun t=>do pure (.int .u8 (← Rtype.kind t))):=@run_callFunc_extern Tryz.prog 271 _ _ Tryz.func271 (by kernel_rfl) (by kernel_rfl) (by kernel_rfl) (by kernel_rfl)
theorem MK:Ext 285 (ReflectliteType.method ReflectliteType.elem):=@run_callFunc_extern Tryz.prog 285 _ _ Tryz.func285 (by kernel_rfl) (by kernel_rfl) (by kernel_rfl) (by kernel_rfl)
theorem ML:Ext 286 (ReflectliteType.relation "Implements" ReflectliteType.implements_):=@run_callFunc_extern Tryz.prog 286 _ _ Tryz.func286 (by kernel_rfl) (by kernel_rfl) (by kernel_rfl) (by kernel_rfl)
theorem KH:Ext 283 (ReflectliteType.relation "AssignableTo" ReflectliteType.assignableTo):=@run_callFunc_extern Tryz.prog 283 _ _ Tryz.func283 (by kernel_rfl) (by kernel_rfl) (by kernel_rfl) (by kernel_rfl)
abbrev yJ (t:Nat):Value:=.iface 297 (.agg #[.pointer (some ⟨4,t,none⟩)])
abbrev rv (t b fl:Nat):Value:=.agg #[.pointer (some ⟨4,t,none⟩),.pointer (some ⟨b,0,none⟩),.int .u64 (fl:Int)]
theorem CW (v:Value) (w:World):(ReflectliteType.typeOf #[.iface 44 v]).run Tryz.prog w=.ok (yJ 44) w:=by kernel_rfl
theorem EC (v:Value) (w:World):(ReflectliteType.typeOf #[.iface 249 v]).run Tryz.prog w=.ok (yJ 249) w:=by kernel_rfl
theorem oG (h:Value) (w:World):(Go.method (Tryz.prog.types.size+Made.depth) 297 (.agg #[h]) "Kind").run Tryz.prog w=.ok (271,h) w:=by kernel_rfl
theorem yK (h:Value) (w:World):(Go.method (Tryz.prog.types.size+Made.depth) 297 (.agg #[h]) "Elem").run Tryz.prog w=.ok (285,.agg #[h]) w:=by kernel_rfl
theorem yL (h:Value) (w:World):(Go.method (Tryz.prog.types.size+Made.depth) 297 (.agg #[h]) "Implements").run Tryz.prog w=.ok (286,.agg #[h]) w:=by kernel_rfl
theorem th (h:Value) (w:World):(Go.method (Tryz.prog.types.size+Made.depth) 297 (.agg #[h]) "AssignableTo").run Tryz.prog w=.ok (283,.agg #[h]) w:=by kernel_rfl
theorem KI (h:Value) (w:World):(Go.method (Tryz.prog.types.size+Made.depth) 297 (.agg #[h]) "Comparable").run Tryz.prog w=.ok (284,.agg #[h]) w:=by kernel_rfl
theorem MM (t:Addr) (w:World):(ReflectliteValue.unpack (.iface 136 (.pointer (some t)))).run Tryz.prog w=.ok (rv 136 w.heap.size 150) { w with heap:=w.heap.push (.cells #[.pointer (some t)] 136) }:=by kernel_rfl
theorem I2 (t:Addr) (w:World):(ReflectliteValue.unpack (.iface 283 (.pointer (some t)))).run Tryz.prog w=.ok (rv 283 w.heap.size 150) { w with heap:=w.heap.push (.cells #[.pointer (some t)] 283) }:=by kernel_rfl
theorem NR (k:Int) (w:World):(ReflectliteValue.unpack (.iface 44 (.int .i64 k))).run Tryz.prog w=.ok (rv 44 w.heap.size 130) { w with heap:=w.heap.push (.cells #[.int .i64 k] 44) }:=by kernel_rfl
theorem MN (t:Addr) (w:World):(ReflectliteValue.unpack (.iface 249 (.pointer (some t)))).run Tryz.prog w=.ok (rv 249 w.heap.size 150) { w with heap:=w.heap.push (.cells #[.pointer (some t)] 249) }:=by kernel_rfl
theorem NS (b:Nat) (w:World):(ReflectliteValue.methodAny (ReflectliteValue.valueError "reflectlite.Value.Type" 0) (fun t _ _ _=>ReflectliteType.toType t) #[rv 136 b 150]).run Tryz.prog w=.ok (yJ 136) w:=by kernel_rfl
theorem Ly (b:Nat) (w:World):(ReflectliteValue.methodAny (ReflectliteValue.valueError "reflectlite.Value.Type" 0) (fun t _ _ _=>ReflectliteType.toType t) #[rv 283 b 150]).run Tryz.prog w=.ok (yJ 283) w:=by kernel_rfl
theorem NT (w:World):((ReflectliteType.abiMethod fun t=>(fun a:Nat=>Value.int IntKind.u8 (a:Int)) <$> Rtype.kind t) #[.pointer (some ⟨4,136,none⟩)]).run Tryz.prog w=.ok (.int .u8 22) w:=by kernel_rfl
theorem Lz (w:World):((ReflectliteType.abiMethod fun t=>(fun a:Nat=>Value.int IntKind.u8 (a:Int)) <$> Rtype.kind t) #[.pointer (some ⟨4,283,none⟩)]).run Tryz.prog w=.ok (.int .u8 22) w:=by kernel_rfl
theorem OC (w:World):((ReflectliteType.abiMethod fun t=>(fun a:Nat=>Value.int IntKind.u8 (a:Int)) <$> Rtype.kind t) #[.pointer (some ⟨4,44,none⟩)]).run Tryz.prog w=.ok (.int .u8 2) w:=by kernel_rfl
theorem LA (w:World):((ReflectliteType.abiMethod fun t=>(fun a:Nat=>Value.int IntKind.u8 (a:Int)) <$> Rtype.kind t) #[.pointer (some ⟨4,249,none⟩)]).run Tryz.prog w=.ok (.int .u8 22) w:=by kernel_rfl
theorem NU (w:World):(ReflectliteType.method ReflectliteType.elem #[.agg #[.pointer (some ⟨4,136,none⟩)]]).run Tryz.prog w=.ok (yJ 44) w:=by kernel_rfl
theorem LB (w:World):(ReflectliteType.method ReflectliteType.elem #[.agg #[.pointer (some ⟨4,283,none⟩)]]).run Tryz.prog w=.ok (yJ 249) w:=by kernel_rfl
theorem OD (w:World):(ReflectliteType.relation "Implements" ReflectliteType.implements_ #[.agg #[.pointer (some ⟨4,44,none⟩)],yJ 41]).run Tryz.prog w=.ok (.bool true) w:=by kernel_rfl
theorem LC (w:World):(ReflectliteType.relation "Implements" ReflectliteType.implements_ #[.agg #[.pointer (some ⟨4,249,none⟩)],yJ 41]).run Tryz.prog w=.ok (.bool true) w:=by kernel_rfl
theorem KJ (w:World):(ReflectliteType.relation "AssignableTo" ReflectliteType.assignableTo #[.agg #[.pointer (some ⟨4,44,none⟩)],yJ 44]).run Tryz.prog w=.ok (.bool true) w:=by kernel_rfl
theorem I3 (w:World):(ReflectliteType.relation "AssignableTo" ReflectliteType.assignableTo #[.agg #[.pointer (some ⟨4,44,none⟩)],yJ 249]).run Tryz.prog w=.ok (.bool false) w:=by kernel_rfl
theorem I4 (w:World):(ReflectliteType.relation "AssignableTo" ReflectliteType.assignableTo #[.agg #[.pointer (some ⟨4,249,none⟩)],yJ 44]).run Tryz.prog w=.ok (.bool false) w:=by kernel_rfl
theorem Gn (w:World):(ReflectliteType.relation "AssignableTo" ReflectliteType.assignableTo #[.agg #[.pointer (some ⟨4,249,none⟩)],yJ 249]).run Tryz.prog w=.ok (.bool true) w:=by kernel_rfl
end
section
open Go Go.Extern
attribute [local irreducible] IntKind.wrap
theorem Ou (z:Sem Value) (f:TypeId→Addr→Nat→Nat→Sem Value) (v:Value) :
 ReflectliteValue.method z f #[v]=(do match ← ReflectliteValue.parts v with|none=>z|some (t,a,fl)=>f t a fl (fl%32)):=rfl
theorem Ng:∃ m1 m2 m3 m4 m5:String,∀ v x:Value,ReflectliteValue.set #[v,x]=(do
 let (some (dst,a,fl),some (src,b,_)):=(← ReflectliteValue.parts v,← ReflectliteValue.parts x)
  | unsupported (.noEntry m1)
 if fl / ReflectliteValue.flagAddr%2==0 then unsupported (.noEntry m2)
 let val ← loadVar src b
 if ← Rtype.directlyAssignable dst src then storeVar dst a val
 else if ← Rtype.implements dst src then
  if (← Rtype.kind src)==20 then
   match val with
   | .nilIface=>unsupported (.noEntry m3)
   | _=>storeVar dst a val
  else storeVar dst a (.iface src val)
 else panicString (m4++(← Rtype.spelt src)++m5++(← Rtype.spelt dst))
 pure (.tuple #[])):=⟨_,_,_,_,_,fun _ _=>rfl⟩
theorem LD (b:Nat) (w:World):(ReflectliteValue.parts (rv 136 b 150)).run Tryz.prog w=.ok (some (136,⟨b,0,none⟩,150)) w:=by kernel_rfl
theorem LF (b:Nat) (w:World):(ReflectliteValue.parts (rv 283 b 150)).run Tryz.prog w=.ok (some (283,⟨b,0,none⟩,150)) w:=by kernel_rfl
theorem OE (b:Nat) (w:World):(ReflectliteValue.parts (rv 44 b 130)).run Tryz.prog w=.ok (some (44,⟨b,0,none⟩,130)) w:=by kernel_rfl
theorem NV (b:Nat) (w:World):(ReflectliteValue.parts (rv 44 b 386)).run Tryz.prog w=.ok (some (44,⟨b,0,none⟩,386)) w:=by kernel_rfl
theorem NW (b:Nat) (w:World):(ReflectliteValue.parts (rv 249 b 150)).run Tryz.prog w=.ok (some (249,⟨b,0,none⟩,150)) w:=by kernel_rfl
theorem MO (b:Nat) (w:World):(ReflectliteValue.parts (rv 249 b 406)).run Tryz.prog w=.ok (some (249,⟨b,0,none⟩,406)) w:=by kernel_rfl
theorem NX (w:World):(Rtype.elem? 136).run Tryz.prog w=.ok (some 44) w:=by kernel_rfl
theorem NY (w:World):(Rtype.elem? 283).run Tryz.prog w=.ok (some 249) w:=by kernel_rfl
theorem OF (b:Nat) (w:World):(ReflectliteValue.mk 44 ⟨b,0,none⟩ ReflectliteValue.flagAddr).run Tryz.prog w=.ok (rv 44 b 386) w:=by kernel_rfl
theorem NZ (b:Nat) (w:World):(ReflectliteValue.mk 249 ⟨b,0,none⟩ ReflectliteValue.flagAddr).run Tryz.prog w=.ok (rv 249 b 406) w:=by kernel_rfl
theorem OG (w:World):(Rtype.directlyAssignable 44 44).run Tryz.prog w=.ok true w:=by kernel_rfl
theorem N0 (w:World):(Rtype.directlyAssignable 249 249).run Tryz.prog w=.ok true w:=by kernel_rfl
section
variable {w:World} {b p:Nat}
theorem MP (h:w.cell? ⟨b,0,none⟩=some (.pointer (some ⟨p,0,none⟩))):(ReflectliteValue.method (ReflectliteValue.valueError "reflectlite.Value.IsNil" 0) ReflectliteValue.isNil #[rv 136 b 150]).run Tryz.prog w=.ok (.bool false) w:=by
 rw [Ou]
 simp only [Sem.run_bind,LD,Result.andThen]
 simp [ReflectliteValue.isNil,cK (t:=136) rfl h,Result.andThen]
theorem I5 (h:w.cell? ⟨b,0,none⟩=some (.pointer (some ⟨p,0,none⟩))):(ReflectliteValue.method (ReflectliteValue.valueError "reflectlite.Value.IsNil" 0) ReflectliteValue.isNil #[rv 283 b 150]).run Tryz.prog w=.ok (.bool false) w:=by
 rw [Ou]
 simp only [Sem.run_bind,LF,Result.andThen]
 simp [ReflectliteValue.isNil,cK (t:=283) rfl h,Result.andThen]
theorem KL (h:w.cell? ⟨b,0,none⟩=some (.pointer (some ⟨p,0,none⟩))):(ReflectliteValue.method (ReflectliteValue.valueError "reflectlite.Value.Elem" 0) ReflectliteValue.elem #[rv 136 b 150]).run Tryz.prog w=.ok (rv 44 p 386) w:=by
 rw [Ou]
 simp only [Sem.run_bind,LD,Result.andThen]
 simp [ReflectliteValue.elem,cK (t:=136) rfl h,Result.andThen,NX,OF]
theorem KM (h:w.cell? ⟨b,0,none⟩=some (.pointer (some ⟨p,0,none⟩))):(ReflectliteValue.method (ReflectliteValue.valueError "reflectlite.Value.Elem" 0) ReflectliteValue.elem #[rv 283 b 150]).run Tryz.prog w=.ok (rv 249 p 406) w:=by
 rw [Ou]
 simp only [Sem.run_bind,LF,Result.andThen]
 simp [ReflectliteValue.elem,cK (t:=283) rfl h,Result.andThen,NY,NZ]
theorem N3 {ta:Nat} {k:Int} {u:Value} (hb:w.cell? ⟨b,0,none⟩=some (.int .i64 k)) (ht:w.cell? ⟨ta,0,none⟩=some u) (hf:w.frozen? ⟨ta,0,none⟩=false) :
 (ReflectliteValue.set #[rv 44 ta 386,rv 44 b 130]).run Tryz.prog w=.ok (.tuple #[]) (w.setCell ⟨ta,0,none⟩ (.int .i64 k)):=by
 obtain ⟨m1,m2,m3,m4,m5,Ng⟩:=Ng
 rw [Ng]
 simp only [Sem.run_bind,OE,NV,Result.andThen]
 simp [ReflectliteValue.flagAddr,cK (t:=44) rfl hb,Result.andThen,OG,lD (t:=44) rfl (v:=.int .i64 k) rfl rfl ht hf]
theorem MQ {ta:Nat} {q u:Value} (hb:w.cell? ⟨b,0,none⟩=some q) (h1:dD q=true) (ht:w.cell? ⟨ta,0,none⟩=some u) (hf:w.frozen? ⟨ta,0,none⟩=false) :
 (ReflectliteValue.set #[rv 249 ta 406,rv 249 b 150]).run Tryz.prog w=.ok (.tuple #[]) (w.setCell ⟨ta,0,none⟩ q):=by
 obtain ⟨m1,m2,m3,m4,m5,Ng⟩:=Ng
 rw [Ng]
 simp only [Sem.run_bind,NW,MO,Result.andThen]
 simp [ReflectliteValue.flagAddr,cK (t:=249) rfl hb,Result.andThen,N0,lD (t:=249) rfl (gJ h1).1 (gJ h1).2 ht hf]
end
def kY (W0:World):Prop:=W0.cell? ⟨0,0,none⟩=some (yJ 41)
variable {W0 w:World} {F:List ah}
theorem I6 (v:Value) (w:World):(Instr.typeAssert (.iface 44 v) 41 301 true).run Tryz.prog w=.ok (.tuple #[.nilIface,.bool false]) w:=run_typeAssert_lacksB Tryz.underlying301 (by kernel_rfl) (by kernel_rfl) v 41 w
theorem Gp (v:Value) (w:World):(Instr.typeAssert (.iface 249 v) 41 301 true).run Tryz.prog w=.ok (.tuple #[.nilIface,.bool false]) w:=run_typeAssert_lacksB Tryz.underlying301 (by kernel_rfl) (by kernel_rfl) v 41 w
theorem AW (v:Value) (w:World):(Instr.typeAssert (.iface 44 v) 41 304 true).run Tryz.prog w=.ok (.tuple #[.nilIface,.bool false]) w:=run_typeAssert_lacksB Tryz.underlying304 (by kernel_rfl) (by kernel_rfl) v 41 w
theorem xz (v:Value) (w:World):(Instr.typeAssert (.iface 249 v) 41 304 true).run Tryz.prog w=.ok (.tuple #[.iface 249 v,.bool true]) w:=run_typeAssert_hasB Tryz.underlying304 (by kernel_rfl) v 41 w
theorem AX (v:Value) (w:World):(Instr.typeAssert (.iface 44 v) 41 305 true).run Tryz.prog w=.ok (.tuple #[.nilIface,.bool false]) w:=run_typeAssert_lacksB Tryz.underlying305 (by kernel_rfl) (by kernel_rfl) v 41 w
theorem I7 (v:Value) (w:World):(Instr.typeAssert (.iface 44 v) 41 338 true).run Tryz.prog w=.ok (.tuple #[.nilIface,.bool false]) w:=run_typeAssert_lacksB Tryz.underlying338 (by kernel_rfl) (by kernel_rfl) v 41 w
theorem Gq (v:Value) (w:World):(Instr.typeAssert (.iface 249 v) 41 338 true).run Tryz.prog w=.ok (.tuple #[.nilIface,.bool false]) w:=run_typeAssert_lacksB Tryz.underlying338 (by kernel_rfl) (by kernel_rfl) v 41 w
theorem xA (v:Value) (w:World):(Go.method (Tryz.prog.types.size+Made.depth) 249 v "Unwrap").run Tryz.prog w=.ok (281,v) w:=by kernel_rfl
theorem sK {s:Bs} {k:Nat} {b:Nat} (hs:Sat W0 (sT b 251 [str s,.int .i64 (k:Int)]::F) w) :
 Calls Tryz.prog 281 #[au b] w fun x w'=>x=.returned (.iface 44 (.int .i64 (k:Int)))∧Sat W0 (sT b 251 [str s,.int .i64 (k:Int)]::F) w':=by
 refine enter Tryz.func281 rfl Tryz.ntmps281 Tryz.results281 rfl ?_
 refine gx ?_
 exact ak rfl ⟨rfl,hs⟩
theorem Sat.AY {v:Value} {k:Nat} (h:Sat W0 (ax v (some (none,k))::F) w):v=.iface 44 (.int .i64 (k:Int)):=h.fQ fun _ q=>q
theorem Sat.I8 {v:Value} {s:Bs} {k:Nat} (h:Sat W0 (ax v (some (some s,k))::F) w):∃ b,v=.iface 249 (au b)∧Sat W0 (sT b 251 [str s,.int .i64 (k:Int)]::F) w:=by
 obtain ⟨b,hb,hs⟩:=h.eI (φ:=fun b=>v=.iface 249 (au b)) (B:=fun b=>[sT b 251 [str s,.int .i64 (k:Int)]]) fun hp ⟨b,e,q⟩=>⟨b,e,hp,fun _=>none,fun _ _ _ _ hy=>(by cases hy),Hp.le_refl _,fun _ _ hx=>(by cases hx),q,trivial⟩
 exact ⟨b,hb,hs⟩
theorem Sat.rV {s:Bs} {k:Nat} {b:Nat} (h:Sat W0 (sT b 251 [str s,.int .i64 (k:Int)]::F) w):Sat W0 (ax (.iface 249 (au b)) (some (some s,k))::F) w:=h.head fun _ q=>⟨b,rfl,q⟩
theorem Sat.boxed {v:Value} {T:TypeId} (h:Sat W0 F w):Sat W0 (blk w.heap.size T [v]::F) { w with heap:=w.heap.push (.cells #[v] T) }:=h.new (.cells #[v] T) false
end
section
open Go Go.Extern
attribute [local irreducible] IntKind.wrap
variable {W0 w:World} {F:List ah}
def MR (ve:Value) (k:Nat):Bool→Value
 | true=>ve
 | false=>.iface 44 (.int .i64 (k:Int))
theorem Sat.AZ {v:Value} {e:cy} (h:Sat W0 (ax v (some e)::F) w):v=MR v e.2 e.1.isSome∧(e.1.isSome=true→e.1≠none):=by
 obtain ⟨o,k⟩:=e
 cases o with
 | none=>exact ⟨h.AY,fun hh=>by cases hh⟩
 | some s=>exact ⟨rfl,fun _ hh=>by cases hh⟩
theorem Gr {e:cy} {ve u tgt:Value} {bt bv:Nat} (hs:Sat W0 (blk bv 136 [au bt]::blk bt 44 [u]::ax ve (some e)::F) w) :
 Calls Tryz.prog 105 #[ve,tgt,rv 136 bv 150,yJ 44] w fun x w'=>x=.returned (.bool true)∧Sat W0 (blk bt 44 [.int .i64 (e.2:Int)]::ax ve (some e)::F) w':=by
 obtain ⟨hv,hn⟩:=(hs.take (.there (.there .here))).AZ
 refine enter Tryz.func105 rfl Tryz.ntmps105 Tryz.results105 rfl ?_
 refine gx ?_
 refine cE hs fun w b6 hs=>?_
 refine gx ?_
 refine aL (α:=Bool) (fun z=>[(0,MR ve e.2 z),(1,tgt),(3,yJ 44),(6,au b6)])
  (fun z w=>(z=true→e.1≠none)∧Sat W0 (blk b6 205 [.pointer (some ⟨4,136,none⟩),.pointer (some ⟨bv,0,none⟩),.int .u64 150]::blk bv 136 [au bt]::blk bt 44 [u]::ax ve (some e)::F) w) (fun z=>if z=true then 1 else 0) e.1.isSome ⟨by rw [← hv];rfl,rfl,rfl,rfl,trivial⟩ ⟨hn,hs⟩ ?_
 clear hs hv hn
 rintro z w ⟨hz,hs⟩
 cases z with
 | false=>
  refine gx ?_
  refine fZ I1 rfl (CW _ _) rfl ?_
  refine gx ?_
  refine fG rfl (th _) KH rfl (KJ _) rfl ?_
  refine gx ?_
  refine fZ NP rfl (KL (hs.cell (.there .here) 0)) rfl ?_
  refine gx ?_
  refine fZ I0 rfl (NR _ _) rfl ?_
  have hs:=hs.boxed (v:=.int .i64 (e.2:Int)) (T:=44)
  generalize w.heap.size=b2 at *
  generalize { w with heap:=w.heap.push _ }=w at hs ⊢
  refine gx ?_
  refine fZ NQ rfl (N3 (hs.cell .here 0) (hs.cell (.there (.there (.there .here))) 0) (hs.free (.there (.there (.there .here))) 0)) rfl ?_
  have hs:=hs.setCell (b:=bt) (o:=0) (v:=.int .i64 (e.2:Int)) (.there (.there (.there .here)))
  refine gx ?_
  exact ak rfl ⟨rfl,hs.drop.drop.drop⟩
 | true=>
  obtain ⟨o,k⟩:=e
  cases o with
  | none=>exact absurd rfl (hz rfl)
  | some s=>
   obtain ⟨b,rfl,h2⟩:=(hs.take (.there (.there (.there .here)))).I8
   clear hs
   refine gx ?_
   refine fZ I1 rfl (EC _ _) rfl ?_
   refine gx ?_
   refine fG rfl (th _) KH rfl (I4 _) rfl ?_
   refine gx ?_
   refine oY rfl (Gp _ _) rfl ?_
   refine gx ?_
   refine oY rfl (xz _ _) rfl ?_
   refine gx ?_
   refine kq rfl (xA _) (fun _ _=>qn rfl) rfl rfl (met (sK h2) ?_)
   clear h2
   rintro _ w ⟨rfl,hs⟩
   refine ⟨_,rfl,?_⟩
   refine gx ?_
   refine aB false ⟨rfl,rfl,rfl,rfl,trivial⟩ ⟨fun hh=>(by cases hh),?_⟩ (by decide)
   exact hs.rV.to
theorem CX {k:Nat} {u tgt:Value} {bt bv:Nat} (hs:Sat W0 (blk bv 283 [au bt]::blk bt 249 [u]::F) w) :
 Calls Tryz.prog 105 #[.iface 44 (.int .i64 (k:Int)),tgt,rv 283 bv 150,yJ 249] w fun x w'=>x=.returned (.bool false)∧Sat W0 (blk bt 249 [u]::F) w':=by
 refine enter Tryz.func105 rfl Tryz.ntmps105 Tryz.results105 rfl ?_
 refine gx ?_
 refine cE hs fun w b6 hs=>?_
 refine gx ?_
 refine aL (α:=Unit) (fun z=>[(0,.iface 44 (.int .i64 (k:Int))),(1,tgt),(3,yJ 249),(6,au b6)])
  (fun z w=>Sat W0 (blk b6 205 [.pointer (some ⟨4,283,none⟩),.pointer (some ⟨bv,0,none⟩),.int .u64 150]::blk bv 283 [au bt]::blk bt 249 [u]::F) w) (fun z=>0) () ⟨rfl,rfl,rfl,rfl,trivial⟩ hs ?_
 clear hs
 rintro z w hs
 refine gx ?_
 refine fZ I1 rfl (CW _ _) rfl ?_
 refine gx ?_
 refine fG rfl (th _) KH rfl (I3 _) rfl ?_
 refine gx ?_
 refine oY rfl (I6 _ _) rfl ?_
 refine gx ?_
 refine oY rfl (AW _ _) rfl ?_
 refine gx ?_
 refine oY rfl (AX _ _) rfl ?_
 refine gx ?_
 exact ak rfl ⟨rfl,hs.drop.drop⟩
theorem CY {b:Nat} {u tgt:Value} {bt bv:Nat} (hs:Sat W0 (blk bv 283 [au bt]::blk bt 249 [u]::F) w) :
 Calls Tryz.prog 105 #[.iface 249 (au b),tgt,rv 283 bv 150,yJ 249] w fun x w'=>x=.returned (.bool true)∧Sat W0 (blk bt 249 [au b]::F) w':=by
 refine enter Tryz.func105 rfl Tryz.ntmps105 Tryz.results105 rfl ?_
 refine gx ?_
 refine cE hs fun w b6 hs=>?_
 refine gx ?_
 refine aL (α:=Unit) (fun z=>[(0,.iface 249 (au b)),(1,tgt),(3,yJ 249),(6,au b6)])
  (fun z w=>Sat W0 (blk b6 205 [.pointer (some ⟨4,283,none⟩),.pointer (some ⟨bv,0,none⟩),.int .u64 150]::blk bv 283 [au bt]::blk bt 249 [u]::F) w) (fun z=>0) () ⟨rfl,rfl,rfl,rfl,trivial⟩ hs ?_
 clear hs
 rintro z w hs
 refine gx ?_
 refine fZ I1 rfl (EC _ _) rfl ?_
 refine gx ?_
 refine fG rfl (th _) KH rfl (Gn _) rfl ?_
 refine gx ?_
 refine fZ NP rfl (KM (hs.cell (.there .here) 0)) rfl ?_
 refine gx ?_
 refine fZ I0 rfl (MN _ _) rfl ?_
 have hs:=hs.boxed (v:=au b) (T:=249)
 generalize w.heap.size=b2 at *
 generalize { w with heap:=w.heap.push _ }=w at hs ⊢
 refine gx ?_
 refine fZ NQ rfl (MQ (hs.cell .here 0) rfl (hs.cell (.there (.there (.there .here))) 0) (hs.free (.there (.there (.there .here))) 0)) rfl ?_
 have hs:=hs.setCell (b:=bt) (o:=0) (v:=au b) (.there (.there (.there .here)))
 refine gx ?_
 exact ak rfl ⟨rfl,hs.drop.drop.drop⟩
theorem I9 {e:cy} {ve u:Value} {bt:Nat} (hE:kY W0) (hs:Sat W0 (blk bt 44 [u]::ax ve (some e)::F) w) :
 Calls Tryz.prog 50 #[ve,.iface 136 (au bt)] w fun x w'=>x=.returned (.bool true)∧Sat W0 (blk bt 44 [.int .i64 (e.2:Int)]::ax ve (some e)::F) w':=by
 obtain ⟨t,vv,rfl⟩:=(hs.take (.there .here)).aW
 refine enter Tryz.func50 rfl Tryz.ntmps50 Tryz.results50 rfl ?_
 refine gx ?_
 refine fZ I0 rfl (MM _ _) rfl ?_
 have hs:=hs.boxed (v:=au bt) (T:=136)
 generalize w.heap.size=bv at *
 generalize { w with heap:=w.heap.push _ }=w at hs ⊢
 refine gx ?_
 refine aS hs fun w b5 hs=>?_
 refine gx ?_
 refine cZ hs fun w hs=>?_
 refine gx ?_
 refine fZ MI rfl (NS _ _) rfl ?_
 refine gx ?_
 refine fG rfl (oG _) Gm rfl (NT _) rfl ?_
 refine gx ?_
 refine fZ MJ rfl (MP (hs.cell (.there .here) 0)) rfl ?_
 refine gx ?_
 refine fG rfl (yK _) MK rfl (NU _) rfl ?_
 refine gx ?_
 refine fG rfl (oG _) Gm rfl (OC _) rfl ?_
 refine gx ?_
 refine yn rfl rfl (hs.mM hE) rfl ?_
 refine gx ?_
 refine fG rfl (yL _) ML rfl (OD _) rfl ?_
 refine gx ?_
 refine ae (met (Gr hs.drop) ?_)
 clear hs
 rintro _ w ⟨rfl,hs⟩
 refine ⟨_,rfl,?_⟩
 refine gx ?_
 exact ak rfl ⟨rfl,hs⟩
theorem Gs {k:Nat} {u:Value} {bt:Nat} (hE:kY W0) (hs:Sat W0 (blk bt 249 [u]::F) w) :
 Calls Tryz.prog 50 #[.iface 44 (.int .i64 (k:Int)),.iface 283 (au bt)] w fun x w'=>x=.returned (.bool false)∧Sat W0 (blk bt 249 [u]::F) w':=by
 refine enter Tryz.func50 rfl Tryz.ntmps50 Tryz.results50 rfl ?_
 refine gx ?_
 refine fZ I0 rfl (I2 _ _) rfl ?_
 have hs:=hs.boxed (v:=au bt) (T:=283)
 generalize w.heap.size=bv at *
 generalize { w with heap:=w.heap.push _ }=w at hs ⊢
 refine gx ?_
 refine aS hs fun w b5 hs=>?_
 refine gx ?_
 refine cZ hs fun w hs=>?_
 refine gx ?_
 refine fZ MI rfl (Ly _ _) rfl ?_
 refine gx ?_
 refine fG rfl (oG _) Gm rfl (Lz _) rfl ?_
 refine gx ?_
 refine fZ MJ rfl (I5 (hs.cell (.there .here) 0)) rfl ?_
 refine gx ?_
 refine fG rfl (yK _) MK rfl (LB _) rfl ?_
 refine gx ?_
 refine fG rfl (oG _) Gm rfl (LA _) rfl ?_
 refine gx ?_
 refine yn rfl rfl (hs.mM hE) rfl ?_
 refine gx ?_
 refine fG rfl (yL _) ML rfl (LC _) rfl ?_
 refine gx ?_
 refine ae (met (CX hs.drop) ?_)
 clear hs
 rintro _ w ⟨rfl,hs⟩
 refine ⟨_,rfl,?_⟩
 refine gx ?_
 exact ak rfl ⟨rfl,hs⟩
theorem Gt {b:Nat} {u:Value} {bt:Nat} (hE:kY W0) (hs:Sat W0 (blk bt 249 [u]::F) w) :
 Calls Tryz.prog 50 #[.iface 249 (au b),.iface 283 (au bt)] w fun x w'=>x=.returned (.bool true)∧Sat W0 (blk bt 249 [au b]::F) w':=by
 refine enter Tryz.func50 rfl Tryz.ntmps50 Tryz.results50 rfl ?_
 refine gx ?_
 refine fZ I0 rfl (I2 _ _) rfl ?_
 have hs:=hs.boxed (v:=au bt) (T:=283)
 generalize w.heap.size=bv at *
 generalize { w with heap:=w.heap.push _ }=w at hs ⊢
 refine gx ?_
 refine aS hs fun w b5 hs=>?_
 refine gx ?_
 refine cZ hs fun w hs=>?_
 refine gx ?_
 refine fZ MI rfl (Ly _ _) rfl ?_
 refine gx ?_
 refine fG rfl (oG _) Gm rfl (Lz _) rfl ?_
 refine gx ?_
 refine fZ MJ rfl (I5 (hs.cell (.there .here) 0)) rfl ?_
 refine gx ?_
 refine fG rfl (yK _) MK rfl (LB _) rfl ?_
 refine gx ?_
 refine fG rfl (oG _) Gm rfl (LA _) rfl ?_
 refine gx ?_
 refine yn rfl rfl (hs.mM hE) rfl ?_
 refine gx ?_
 refine fG rfl (yL _) ML rfl (LC _) rfl ?_
 refine gx ?_
 refine ae (met (CY hs.drop) ?_)
 clear hs
 rintro _ w ⟨rfl,hs⟩
 refine ⟨_,rfl,?_⟩
 refine gx ?_
 exact ak rfl ⟨rfl,hs⟩
def gn:Option cy→Nat
 | none=>0
 | some e=>e.2
theorem bK {oe:Option cy} {ve:Value} (hE:kY W0) (hs:Sat W0 (ax ve oe::F) w) :
 Calls Tryz.prog 19 #[ve] w fun x w'=>x=.returned (.int .i64 (gn oe:Int))∧Sat W0 (ax ve oe::F) w':=by
 refine enter Tryz.func19 rfl Tryz.ntmps19 Tryz.results19 rfl ?_
 cases oe with
 | none=>
  have hve:=hs.cF
  subst hve
  refine gx ?_
  refine aS hs fun w b3 hs=>?_
  refine gx ?_
  exact ak rfl ⟨rfl,hs.drop⟩
 | some e=>
  obtain ⟨t,vv,rfl⟩:=hs.aW
  refine gx ?_
  refine aS hs fun w b3 hs=>?_
  refine gx ?_
  refine ae (met (I9 hE hs) ?_)
  clear hs
  rintro _ w ⟨rfl,hs⟩
  refine ⟨_,rfl,?_⟩
  refine gx ?_
  exact ak rfl ⟨rfl,hs.drop⟩
theorem MS (v:Value) (k:Int) (w:World):(binOp .eql 41 (.iface 249 v) (.iface 44 (.int .i64 k))).run Tryz.prog w=.ok (.bool false) w:=run_eql_iface_types 249 44 v (.int .i64 k) Tryz.underlying41 (by decide) w
theorem MT (a b:Int) (w:World):(binOp .eql 41 (.iface 44 (.int .i64 a)) (.iface 44 (.int .i64 b))).run Tryz.prog w=.ok (.bool (decide (a=b))) w:=by
 have hc:Tryz.t44.comparable=true:=rfl
 have h:∀ d:Nat,(Op.equalIn (d+2) 41 (.iface 44 (.int .i64 a)) (.iface 44 (.int .i64 b))).run Tryz.prog w=.ok (decide (a=b)) w:=fun d=>by
  simp [Op.equalIn,run_underlying Tryz.underlying41,run_underlying Tryz.underlying44,hc]
  rfl
 simp only [binOp]
 simp [Op.equal,Op.maxDepth,h 9998]
section
variable {ops:Array Oper} {Q:Exit→Act→World→Prop} {n:Nat} {ds:Md} {e:Env} {w w':World} {rest:List Oper}
variable {op:Op} {ty:TypeId} {pos:String} {af:Array Edge} {d:Nat} {v u:Value}
attribute [local semireducible] WL WC WQ
theorem yM {bo:BinOp} {t t2:TypeId} {x y:Operand} {vx vy z:Value} (hx:ev e x=some vx) (hy:ev e y=some vy) (hg:(eqGuard bo t x y vx vy).run Tryz.prog w=.ok () w) (hr:(Go.binOp bo t vx vy).run Tryz.prog w=.ok z w) (hd:Nat.blt d n=true)
 (k:WL ops Q n ds rest ((d,z)::e) w):WL ops Q n ds (⟨some d,.binOp bo t x y t2,ty,pos,af,none⟩::rest) e w:=
 cj (fun a ha=>by simp [execOp,ha.ev hx,ha.ev hy,hg,hr]) hd k
end
theorem OH:Ext 284 (ReflectliteType.method fun t=>do Rtype.noPackHeld "Comparable" t;pure (.bool (← typeInfo t).comparable)):=@run_callFunc_extern Tryz.prog 284 _ _ Tryz.func284 (by kernel_rfl) (by kernel_rfl) (by kernel_rfl) (by kernel_rfl)
theorem N4 (w:World):(ReflectliteType.method (fun t=>do Rtype.noPackHeld "Comparable" t;pure (.bool (← typeInfo t).comparable)) #[.agg #[.pointer (some ⟨4,44,none⟩)]]).run Tryz.prog w=.ok (.bool true) w:=by kernel_rfl
theorem N5 {e:cy} {ve:Value} {m:Nat} (hs:Sat W0 (ax ve (some e)::F) w) :
 Calls Tryz.prog 163 #[ve,.iface 44 (.int .i64 (m:Int)),.bool true] w fun x w'=>x=.returned (.bool (decide (e.2=m)))∧Sat W0 (ax ve (some e)::F) w':=by
 obtain ⟨hv,hn⟩:=hs.AZ
 refine enter Tryz.func163 rfl Tryz.ntmps163 Tryz.results163 rfl ?_
 refine gx ?_
 refine aL (α:=Bool) (fun z=>[(0,MR ve e.2 z),(1,.iface 44 (.int .i64 (m:Int))),(2,.bool true)])
  (fun z w=>(z=true→e.1≠none)∧Sat W0 (ax ve (some e)::F) w) (fun z=>if z=true then 1 else 0) e.1.isSome ⟨by rw [← hv];rfl,rfl,rfl,trivial⟩ ⟨hn,hs⟩ ?_
 clear hs hv hn
 rintro z w ⟨hz,hs⟩
 cases z with
 | false=>
  refine gx ?_
  refine yM rfl rfl rfl (MT _ _ _) rfl ?_
  by_cases h:e.2=m
  ·have h':((e.2:Nat):Int)=(m:Int):=by omega
   rw [decide_eq_true h',decide_eq_true h]
   refine gx ?_
   exact ak rfl ⟨rfl,hs⟩
  ·have h':¬ ((e.2:Nat):Int)=(m:Int):=by omega
   rw [decide_eq_false h',decide_eq_false h]
   refine gx ?_
   refine oY rfl (I7 _ _) rfl ?_
   refine gx ?_
   refine oY rfl (AW _ _) rfl ?_
   refine gx ?_
   refine oY rfl (AX _ _) rfl ?_
   refine gx ?_
   exact ak rfl ⟨rfl,hs⟩
 | true=>
  obtain ⟨o,k⟩:=e
  cases o with
  | none=>exact absurd rfl (hz rfl)
  | some s=>
   obtain ⟨b,rfl,h2⟩:=hs.I8
   clear hs
   refine gx ?_
   refine yM rfl rfl rfl (MS _ _ _) rfl ?_
   refine gx ?_
   refine oY rfl (Gq _ _) rfl ?_
   refine gx ?_
   refine oY rfl (xz _ _) rfl ?_
   refine gx ?_
   refine kq rfl (xA _) (fun _ _=>qn rfl) rfl rfl (met (sK h2) ?_)
   clear h2
   rintro _ w ⟨rfl,hs⟩
   refine ⟨_,rfl,?_⟩
   refine gx ?_
   refine aB false ⟨rfl,rfl,rfl,trivial⟩ ⟨fun hh=>(by cases hh),?_⟩ (by decide)
   exact hs.rV.to
theorem KN {e:cy} {ve:Value} {m:Nat} (hs:Sat W0 (ax ve (some e)::F) w) :
 Calls Tryz.prog 90 #[ve,.iface 44 (.int .i64 (m:Int))] w fun x w'=>x=.returned (.bool (decide (e.2=m)))∧Sat W0 (ax ve (some e)::F) w':=by
 obtain ⟨t,vv,rfl⟩:=hs.aW
 refine enter Tryz.func90 rfl Tryz.ntmps90 Tryz.results90 rfl ?_
 refine gx ?_
 refine fZ I1 rfl (CW _ _) rfl ?_
 refine gx ?_
 refine fG rfl (KI _) OH rfl (N4 _) rfl ?_
 refine gx ?_
 refine ae (met (N5 hs) ?_)
 clear hs
 rintro _ w ⟨rfl,hs⟩
 refine ⟨_,rfl,?_⟩
 refine gx ?_
 exact ak rfl ⟨rfl,hs⟩
end
end Go.Proofs.YtecibefflhomdaaGreatDoor
