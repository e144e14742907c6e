/-
  Part 37: WALKS errors; WALKS errors; WALKS the document's functions on pairs; WALKS the document's functions on pairs.
-/
import Derived.Test.YtecibefflhomdaaGreatDoorV36
import Derived.Stop.Asserts
set_option maxHeartbeats 8000000
set_option maxRecDepth 100000
set_option linter.all false
namespace Go.Proofs.YtecibefflhomdaaGreatDoor
open Go
section
open Go Go.Extern
attribute [local irreducible] IntKind.wrap
theorem QK (z:Sem Value) (f:TypeId→Addr→Nat→Nat→Sem Value) (v:Value) :
 ReflectliteValue.method z f #[v]=(do match ← ReflectliteValue.parts v with|none=>z|some (t,a,fl)=>f t a fl (fl%32)):=rfl
theorem PA:∃ m1 m2 m3 m4 m5:String,∀ v x:Value,ReflectliteValue.set #[v,x]=(do
 let (some (dst,a,fl),some (src,b,_)):=(← ReflectliteValue.parts v,← ReflectliteValue.parts x)
  | unsupported (.noEntry m1)
 if fl / ReflectliteValue.flagAddr%2==0 then unsupported (.noEntry m2)
 let val ← loadVar src b
 if ← Rtype.directlyAssignable dst src then storeVar dst a val
 else if ← Rtype.implements dst src then
  if (← Rtype.kind src)==20 then
   match val with
   | .nilIface=>unsupported (.noEntry m3)
   | _=>storeVar dst a val
  else storeVar dst a (.iface src val)
 else panicString (m4++(← Rtype.spelt src)++m5++(← Rtype.spelt dst))
 pure (.tuple #[])):=⟨_,_,_,_,_,fun _ _=>rfl⟩
theorem NT (b:Nat) (w:World):(ReflectliteValue.parts (rv 136 b 150)).run Tryz.prog w=.ok (some (136,⟨b,0,none⟩,150)) w:=by kernel_rfl
theorem NU (b:Nat) (w:World):(ReflectliteValue.parts (rv 283 b 150)).run Tryz.prog w=.ok (some (283,⟨b,0,none⟩,150)) w:=by kernel_rfl
theorem QV (b:Nat) (w:World):(ReflectliteValue.parts (rv 44 b 130)).run Tryz.prog w=.ok (some (44,⟨b,0,none⟩,130)) w:=by kernel_rfl
theorem Qe (b:Nat) (w:World):(ReflectliteValue.parts (rv 44 b 386)).run Tryz.prog w=.ok (some (44,⟨b,0,none⟩,386)) w:=by kernel_rfl
theorem Qf (b:Nat) (w:World):(ReflectliteValue.parts (rv 249 b 150)).run Tryz.prog w=.ok (some (249,⟨b,0,none⟩,150)) w:=by kernel_rfl
theorem O9 (b:Nat) (w:World):(ReflectliteValue.parts (rv 249 b 406)).run Tryz.prog w=.ok (some (249,⟨b,0,none⟩,406)) w:=by kernel_rfl
theorem Qg (w:World):(Rtype.elem? 136).run Tryz.prog w=.ok (some 44) w:=by kernel_rfl
theorem Qh (w:World):(Rtype.elem? 283).run Tryz.prog w=.ok (some 249) w:=by kernel_rfl
theorem QW (b:Nat) (w:World):(ReflectliteValue.mk 44 ⟨b,0,none⟩ ReflectliteValue.flagAddr).run Tryz.prog w=.ok (rv 44 b 386) w:=by kernel_rfl
theorem Qi (b:Nat) (w:World):(ReflectliteValue.mk 249 ⟨b,0,none⟩ ReflectliteValue.flagAddr).run Tryz.prog w=.ok (rv 249 b 406) w:=by kernel_rfl
theorem QX (w:World):(Rtype.directlyAssignable 44 44).run Tryz.prog w=.ok true w:=by kernel_rfl
theorem Qj (w:World):(Rtype.directlyAssignable 249 249).run Tryz.prog w=.ok true w:=by kernel_rfl
section
variable {w:World} {b p:Nat}
theorem Pa (h:w.cell? ⟨b,0,none⟩=some (.pointer (some ⟨p,0,none⟩))):(ReflectliteValue.method (ReflectliteValue.valueError "reflectlite.Value.IsNil" 0) ReflectliteValue.isNil #[rv 136 b 150]).run Tryz.prog w=.ok (.bool false) w:=by
 rw [QK]
 simp only [Sem.run_bind,NT,Result.andThen]
 simp [ReflectliteValue.isNil,cM (t:=136) rfl h,Result.andThen]
theorem La (h:w.cell? ⟨b,0,none⟩=some (.pointer (some ⟨p,0,none⟩))):(ReflectliteValue.method (ReflectliteValue.valueError "reflectlite.Value.IsNil" 0) ReflectliteValue.isNil #[rv 283 b 150]).run Tryz.prog w=.ok (.bool false) w:=by
 rw [QK]
 simp only [Sem.run_bind,NU,Result.andThen]
 simp [ReflectliteValue.isNil,cM (t:=283) rfl h,Result.andThen]
theorem M3 (h:w.cell? ⟨b,0,none⟩=some (.pointer (some ⟨p,0,none⟩))):(ReflectliteValue.method (ReflectliteValue.valueError "reflectlite.Value.Elem" 0) ReflectliteValue.elem #[rv 136 b 150]).run Tryz.prog w=.ok (rv 44 p 386) w:=by
 rw [QK]
 simp only [Sem.run_bind,NT,Result.andThen]
 simp [ReflectliteValue.elem,cM (t:=136) rfl h,Result.andThen,Qg,QW]
theorem M4 (h:w.cell? ⟨b,0,none⟩=some (.pointer (some ⟨p,0,none⟩))):(ReflectliteValue.method (ReflectliteValue.valueError "reflectlite.Value.Elem" 0) ReflectliteValue.elem #[rv 283 b 150]).run Tryz.prog w=.ok (rv 249 p 406) w:=by
 rw [QK]
 simp only [Sem.run_bind,NU,Result.andThen]
 simp [ReflectliteValue.elem,cM (t:=283) rfl h,Result.andThen,Qh,Qi]
theorem Qk {ta:Nat} {k:Int} {u:Value} (hb:w.cell? ⟨b,0,none⟩=some (.int .i64 k)) (ht:w.cell? ⟨ta,0,none⟩=some u) (hf:w.frozen? ⟨ta,0,none⟩=false) :
 (ReflectliteValue.set #[rv 44 ta 386,rv 44 b 130]).run Tryz.prog w=.ok (.tuple #[]) (w.setCell ⟨ta,0,none⟩ (.int .i64 k)):=by
 obtain ⟨m1,m2,m3,m4,m5,PA⟩:=PA
 rw [PA]
 simp only [Sem.run_bind,QV,Qe,Result.andThen]
 simp [ReflectliteValue.flagAddr,cM (t:=44) rfl hb,Result.andThen,QX,lP (t:=44) rfl (v:=.int .i64 k) rfl rfl ht hf]
theorem Pb {ta:Nat} {q u:Value} (hb:w.cell? ⟨b,0,none⟩=some q) (h1:df q=true) (ht:w.cell? ⟨ta,0,none⟩=some u) (hf:w.frozen? ⟨ta,0,none⟩=false) :
 (ReflectliteValue.set #[rv 249 ta 406,rv 249 b 150]).run Tryz.prog w=.ok (.tuple #[]) (w.setCell ⟨ta,0,none⟩ q):=by
 obtain ⟨m1,m2,m3,m4,m5,PA⟩:=PA
 rw [PA]
 simp only [Sem.run_bind,Qf,O9,Result.andThen]
 simp [ReflectliteValue.flagAddr,cM (t:=249) rfl hb,Result.andThen,Qj,lP (t:=249) rfl (gX h1).1 (gX h1).2 ht hf]
end
def iD (W0:World):Prop:=W0.cell? ⟨0,0,none⟩=some (Aj 41)
variable {W0 w:World} {F:List ax}
theorem Lb (v:Value) (w:World):(Instr.typeAssert (.iface 44 v) 41 301 true).run Tryz.prog w=.ok (.tuple #[.nilIface,.bool false]) w:=run_typeAssert_lacksB Tryz.underlying301 (by kernel_rfl) (by kernel_rfl) v 41 w
theorem Ie (v:Value) (w:World):(Instr.typeAssert (.iface 249 v) 41 301 true).run Tryz.prog w=.ok (.tuple #[.nilIface,.bool false]) w:=run_typeAssert_lacksB Tryz.underlying301 (by kernel_rfl) (by kernel_rfl) v 41 w
theorem Cw (v:Value) (w:World):(Instr.typeAssert (.iface 44 v) 41 304 true).run Tryz.prog w=.ok (.tuple #[.nilIface,.bool false]) w:=run_typeAssert_lacksB Tryz.underlying304 (by kernel_rfl) (by kernel_rfl) v 41 w
theorem yP (v:Value) (w:World):(Instr.typeAssert (.iface 249 v) 41 304 true).run Tryz.prog w=.ok (.tuple #[.iface 249 v,.bool true]) w:=run_typeAssert_hasB Tryz.underlying304 (by kernel_rfl) v 41 w
theorem Cx (v:Value) (w:World):(Instr.typeAssert (.iface 44 v) 41 305 true).run Tryz.prog w=.ok (.tuple #[.nilIface,.bool false]) w:=run_typeAssert_lacksB Tryz.underlying305 (by kernel_rfl) (by kernel_rfl) v 41 w
theorem Lc (v:Value) (w:World):(Instr.typeAssert (.iface 44 v) 41 338 true).run Tryz.prog w=.ok (.tuple #[.nilIface,.bool false]) w:=run_typeAssert_lacksB Tryz.underlying338 (by kernel_rfl) (by kernel_rfl) v 41 w
theorem Ig (v:Value) (w:World):(Instr.typeAssert (.iface 249 v) 41 338 true).run Tryz.prog w=.ok (.tuple #[.nilIface,.bool false]) w:=run_typeAssert_lacksB Tryz.underlying338 (by kernel_rfl) (by kernel_rfl) v 41 w
theorem yQ (v:Value) (w:World):(Go.method (Tryz.prog.types.size+Made.depth) 249 v "Unwrap").run Tryz.prog w=.ok (281,v) w:=by kernel_rfl
theorem tp {s:Bs} {k:Nat} {b:Nat} (hs:Sat W0 (tI b 251 [str s,.int .i64 (k:Int)]::F) w) :
 Calls Tryz.prog 281 #[ay b] w fun x w'=>x=.returned (.iface 44 (.int .i64 (k:Int)))∧Sat W0 (tI b 251 [str s,.int .i64 (k:Int)]::F) w':=by
 refine enter Tryz.func281 rfl Tryz.ntmps281 Tryz.results281 rfl ?_
 refine gx ?_
 exact ah rfl ⟨rfl,hs⟩
theorem Sat.Cy {v:Value} {k:Nat} (h:Sat W0 (aH v (some (none,k))::F) w):v=.iface 44 (.int .i64 (k:Int)):=h.fT fun _ q=>q
theorem Sat.Ld {v:Value} {s:Bs} {k:Nat} (h:Sat W0 (aH v (some (some s,k))::F) w):∃ b,v=.iface 249 (ay b)∧Sat W0 (tI b 251 [str s,.int .i64 (k:Int)]::F) w:=by
 obtain ⟨b,hb,hs⟩:=h.e9 (φ:=fun b=>v=.iface 249 (ay b)) (B:=fun b=>[tI b 251 [str s,.int .i64 (k:Int)]]) fun hp ⟨b,e,q⟩=>⟨b,e,hp,fun _=>none,fun _ _ _ _ hy=>(by cases hy),Hp.le_refl _,fun _ _ hx=>(by cases hx),q,trivial⟩
 exact ⟨b,hb,hs⟩
theorem Sat.sE {s:Bs} {k:Nat} {b:Nat} (h:Sat W0 (tI b 251 [str s,.int .i64 (k:Int)]::F) w):Sat W0 (aH (.iface 249 (ay b)) (some (some s,k))::F) w:=h.head fun _ q=>⟨b,rfl,q⟩
theorem Sat.boxed {v:Value} {T:TypeId} (h:Sat W0 F w):Sat W0 (blk w.heap.size T [v]::F) { w with heap:=w.heap.push (.cells #[v] T) }:=h.new (.cells #[v] T) false
end
section
open Go Go.Extern
attribute [local irreducible] IntKind.wrap
variable {W0 w:World} {F:List ax}
def Pd (ve:Value) (k:Nat):Bool→Value
 | true=>ve
 | false=>.iface 44 (.int .i64 (k:Int))
theorem Sat.Cz {v:Value} {e:cx} (h:Sat W0 (aH v (some e)::F) w):v=Pd v e.2 e.1.isSome∧(e.1.isSome=true→e.1≠none):=by
 obtain ⟨o,k⟩:=e
 cases o with
 | none=>exact ⟨h.Cy,fun hh=>by cases hh⟩
 | some s=>exact ⟨rfl,fun _ hh=>by cases hh⟩
theorem Ih {e:cx} {ve u tgt:Value} {bt bv:Nat} (hs:Sat W0 (blk bv 136 [ay bt]::blk bt 44 [u]::aH ve (some e)::F) w) :
 Calls Tryz.prog 105 #[ve,tgt,rv 136 bv 150,Aj 44] w fun x w'=>x=.returned (.bool true)∧Sat W0 (blk bt 44 [.int .i64 (e.2:Int)]::aH ve (some e)::F) w':=by
 obtain ⟨hv,hn⟩:=(hs.take (.there (.there .here))).Cz
 refine enter Tryz.func105 rfl Tryz.ntmps105 Tryz.results105 rfl ?_
 refine gx ?_
 refine bR hs fun w b6 hs=>?_
 refine gx ?_
 refine aJ (α:=Bool) (fun z=>[(0,Pd ve e.2 z),(1,tgt),(3,Aj 44),(6,ay b6)])
  (fun z w=>(z=true→e.1≠none)∧Sat W0 (blk b6 205 [.pointer (some ⟨4,136,none⟩),.pointer (some ⟨bv,0,none⟩),.int .u64 150]::blk bv 136 [ay bt]::blk bt 44 [u]::aH ve (some e)::F) w) (fun z=>if z=true then 1 else 0) e.1.isSome ⟨by rw [← hv];rfl,rfl,rfl,rfl,trivial⟩ ⟨hn,hs⟩ ?_
 clear hs hv hn
 rintro z w ⟨hz,hs⟩
 cases z with
 | false=>
  refine gx ?_
  refine gn K6 rfl (ES _ _) rfl ?_
  refine gx ?_
  refine fK rfl (uq _) MZ rfl (M1 _) rfl ?_
  refine gx ?_
  refine gn P8 rfl (M3 (hs.cell (.there .here) 0)) rfl ?_
  refine gx ?_
  refine gn K5 rfl (Qa _ _) rfl ?_
  have hs:=hs.boxed (v:=.int .i64 (e.2:Int)) (T:=44)
  generalize w.heap.size=b2 at *
  generalize { w with heap:=w.heap.push _ }=w at hs ⊢
  refine gx ?_
  refine gn P9 rfl (Qk (hs.cell .here 0) (hs.cell (.there (.there (.there .here))) 0) (hs.free (.there (.there (.there .here))) 0)) rfl ?_
  have hs:=hs.setCell (b:=bt) (o:=0) (v:=.int .i64 (e.2:Int)) (.there (.there (.there .here)))
  refine gx ?_
  exact ah rfl ⟨rfl,hs.drop.drop.drop⟩
 | true=>
  obtain ⟨o,k⟩:=e
  cases o with
  | none=>exact absurd rfl (hz rfl)
  | some s=>
   obtain ⟨b,rfl,h2⟩:=(hs.take (.there (.there (.there .here)))).Ld
   clear hs
   refine gx ?_
   refine gn K6 rfl (GB _ _) rfl ?_
   refine gx ?_
   refine fK rfl (uq _) MZ rfl (K9 _) rfl ?_
   refine gx ?_
   refine pH rfl (Ie _ _) rfl ?_
   refine gx ?_
   refine pH rfl (yP _ _) rfl ?_
   refine gx ?_
   refine kG rfl (yQ _) (fun _ _=>qK rfl) rfl rfl (met (tp h2) ?_)
   clear h2
   rintro _ w ⟨rfl,hs⟩
   refine ⟨_,rfl,?_⟩
   refine gx ?_
   refine az false ⟨rfl,rfl,rfl,rfl,trivial⟩ ⟨fun hh=>(by cases hh),?_⟩ (by decide)
   exact hs.sE.to
theorem ET {k:Nat} {u tgt:Value} {bt bv:Nat} (hs:Sat W0 (blk bv 283 [ay bt]::blk bt 249 [u]::F) w) :
 Calls Tryz.prog 105 #[.iface 44 (.int .i64 (k:Int)),tgt,rv 283 bv 150,Aj 249] w fun x w'=>x=.returned (.bool false)∧Sat W0 (blk bt 249 [u]::F) w':=by
 refine enter Tryz.func105 rfl Tryz.ntmps105 Tryz.results105 rfl ?_
 refine gx ?_
 refine bR hs fun w b6 hs=>?_
 refine gx ?_
 refine aJ (α:=Unit) (fun z=>[(0,.iface 44 (.int .i64 (k:Int))),(1,tgt),(3,Aj 249),(6,ay b6)])
  (fun z w=>Sat W0 (blk b6 205 [.pointer (some ⟨4,283,none⟩),.pointer (some ⟨bv,0,none⟩),.int .u64 150]::blk bv 283 [ay bt]::blk bt 249 [u]::F) w) (fun z=>0) () ⟨rfl,rfl,rfl,rfl,trivial⟩ hs ?_
 clear hs
 rintro z w hs
 refine gx ?_
 refine gn K6 rfl (ES _ _) rfl ?_
 refine gx ?_
 refine fK rfl (uq _) MZ rfl (K8 _) rfl ?_
 refine gx ?_
 refine pH rfl (Lb _ _) rfl ?_
 refine gx ?_
 refine pH rfl (Cw _ _) rfl ?_
 refine gx ?_
 refine pH rfl (Cx _ _) rfl ?_
 refine gx ?_
 exact ah rfl ⟨rfl,hs.drop.drop⟩
theorem EU {b:Nat} {u tgt:Value} {bt bv:Nat} (hs:Sat W0 (blk bv 283 [ay bt]::blk bt 249 [u]::F) w) :
 Calls Tryz.prog 105 #[.iface 249 (ay b),tgt,rv 283 bv 150,Aj 249] w fun x w'=>x=.returned (.bool true)∧Sat W0 (blk bt 249 [ay b]::F) w':=by
 refine enter Tryz.func105 rfl Tryz.ntmps105 Tryz.results105 rfl ?_
 refine gx ?_
 refine bR hs fun w b6 hs=>?_
 refine gx ?_
 refine aJ (α:=Unit) (fun z=>[(0,.iface 249 (ay b)),(1,tgt),(3,Aj 249),(6,ay b6)])
  (fun z w=>Sat W0 (blk b6 205 [.pointer (some ⟨4,283,none⟩),.pointer (some ⟨bv,0,none⟩),.int .u64 150]::blk bv 283 [ay bt]::blk bt 249 [u]::F) w) (fun z=>0) () ⟨rfl,rfl,rfl,rfl,trivial⟩ hs ?_
 clear hs
 rintro z w hs
 refine gx ?_
 refine gn K6 rfl (GB _ _) rfl ?_
 refine gx ?_
 refine fK rfl (uq _) MZ rfl (Ic _) rfl ?_
 refine gx ?_
 refine gn P8 rfl (M4 (hs.cell (.there .here) 0)) rfl ?_
 refine gx ?_
 refine gn K5 rfl (O8 _ _) rfl ?_
 have hs:=hs.boxed (v:=ay b) (T:=249)
 generalize w.heap.size=b2 at *
 generalize { w with heap:=w.heap.push _ }=w at hs ⊢
 refine gx ?_
 refine gn P9 rfl (Pb (hs.cell .here 0) rfl (hs.cell (.there (.there (.there .here))) 0) (hs.free (.there (.there (.there .here))) 0)) rfl ?_
 have hs:=hs.setCell (b:=bt) (o:=0) (v:=ay b) (.there (.there (.there .here)))
 refine gx ?_
 exact ah rfl ⟨rfl,hs.drop.drop.drop⟩
theorem Le {e:cx} {ve u:Value} {bt:Nat} (hE:iD W0) (hs:Sat W0 (blk bt 44 [u]::aH ve (some e)::F) w) :
 Calls Tryz.prog 50 #[ve,.iface 136 (ay bt)] w fun x w'=>x=.returned (.bool true)∧Sat W0 (blk bt 44 [.int .i64 (e.2:Int)]::aH ve (some e)::F) w':=by
 obtain ⟨t,vv,rfl⟩:=(hs.take (.there .here)).aQ
 refine enter Tryz.func50 rfl Tryz.ntmps50 Tryz.results50 rfl ?_
 refine gx ?_
 refine gn K5 rfl (O7 _ _) rfl ?_
 have hs:=hs.boxed (v:=ay bt) (T:=136)
 generalize w.heap.size=bv at *
 generalize { w with heap:=w.heap.push _ }=w at hs ⊢
 refine gx ?_
 refine aS hs fun w b5 hs=>?_
 refine gx ?_
 refine da hs fun w hs=>?_
 refine gx ?_
 refine gn O3 rfl (Qb _ _) rfl ?_
 refine gx ?_
 refine fK rfl (pf _) Ib rfl (Qc _) rfl ?_
 refine gx ?_
 refine gn O4 rfl (Pa (hs.cell (.there .here) 0)) rfl ?_
 refine gx ?_
 refine fK rfl (Ak _) O5 rfl (Qd _) rfl ?_
 refine gx ?_
 refine fK rfl (pf _) Ib rfl (QT _) rfl ?_
 refine gx ?_
 refine zQ rfl rfl (hs.lH hE) rfl ?_
 refine gx ?_
 refine fK rfl (Al _) O6 rfl (QU _) rfl ?_
 refine gx ?_
 refine ag (met (Ih hs.drop) ?_)
 clear hs
 rintro _ w ⟨rfl,hs⟩
 refine ⟨_,rfl,?_⟩
 refine gx ?_
 exact ah rfl ⟨rfl,hs⟩
theorem Ii {k:Nat} {u:Value} {bt:Nat} (hE:iD W0) (hs:Sat W0 (blk bt 249 [u]::F) w) :
 Calls Tryz.prog 50 #[.iface 44 (.int .i64 (k:Int)),.iface 283 (ay bt)] w fun x w'=>x=.returned (.bool false)∧Sat W0 (blk bt 249 [u]::F) w':=by
 refine enter Tryz.func50 rfl Tryz.ntmps50 Tryz.results50 rfl ?_
 refine gx ?_
 refine gn K5 rfl (K7 _ _) rfl ?_
 have hs:=hs.boxed (v:=ay bt) (T:=283)
 generalize w.heap.size=bv at *
 generalize { w with heap:=w.heap.push _ }=w at hs ⊢
 refine gx ?_
 refine aS hs fun w b5 hs=>?_
 refine gx ?_
 refine da hs fun w hs=>?_
 refine gx ?_
 refine gn O3 rfl (NO _ _) rfl ?_
 refine gx ?_
 refine fK rfl (pf _) Ib rfl (NP _) rfl ?_
 refine gx ?_
 refine gn O4 rfl (La (hs.cell (.there .here) 0)) rfl ?_
 refine gx ?_
 refine fK rfl (Ak _) O5 rfl (NR _) rfl ?_
 refine gx ?_
 refine fK rfl (pf _) Ib rfl (NQ _) rfl ?_
 refine gx ?_
 refine zQ rfl rfl (hs.lH hE) rfl ?_
 refine gx ?_
 refine fK rfl (Al _) O6 rfl (NS _) rfl ?_
 refine gx ?_
 refine ag (met (ET hs.drop) ?_)
 clear hs
 rintro _ w ⟨rfl,hs⟩
 refine ⟨_,rfl,?_⟩
 refine gx ?_
 exact ah rfl ⟨rfl,hs⟩
theorem Ij {b:Nat} {u:Value} {bt:Nat} (hE:iD W0) (hs:Sat W0 (blk bt 249 [u]::F) w) :
 Calls Tryz.prog 50 #[.iface 249 (ay b),.iface 283 (ay bt)] w fun x w'=>x=.returned (.bool true)∧Sat W0 (blk bt 249 [ay b]::F) w':=by
 refine enter Tryz.func50 rfl Tryz.ntmps50 Tryz.results50 rfl ?_
 refine gx ?_
 refine gn K5 rfl (K7 _ _) rfl ?_
 have hs:=hs.boxed (v:=ay bt) (T:=283)
 generalize w.heap.size=bv at *
 generalize { w with heap:=w.heap.push _ }=w at hs ⊢
 refine gx ?_
 refine aS hs fun w b5 hs=>?_
 refine gx ?_
 refine da hs fun w hs=>?_
 refine gx ?_
 refine gn O3 rfl (NO _ _) rfl ?_
 refine gx ?_
 refine fK rfl (pf _) Ib rfl (NP _) rfl ?_
 refine gx ?_
 refine gn O4 rfl (La (hs.cell (.there .here) 0)) rfl ?_
 refine gx ?_
 refine fK rfl (Ak _) O5 rfl (NR _) rfl ?_
 refine gx ?_
 refine fK rfl (pf _) Ib rfl (NQ _) rfl ?_
 refine gx ?_
 refine zQ rfl rfl (hs.lH hE) rfl ?_
 refine gx ?_
 refine fK rfl (Al _) O6 rfl (NS _) rfl ?_
 refine gx ?_
 refine ag (met (EU hs.drop) ?_)
 clear hs
 rintro _ w ⟨rfl,hs⟩
 refine ⟨_,rfl,?_⟩
 refine gx ?_
 exact ah rfl ⟨rfl,hs⟩
def gC:Option cx→Nat
 | none=>0
 | some e=>e.2
theorem eA {oe:Option cx} {ve:Value} (hE:iD W0) (hs:Sat W0 (aH ve oe::F) w) :
 Calls Tryz.prog 19 #[ve] w fun x w'=>x=.returned (.int .i64 (gC oe:Int))∧Sat W0 (aH ve oe::F) w':=by
 refine enter Tryz.func19 rfl Tryz.ntmps19 Tryz.results19 rfl ?_
 cases oe with
 | none=>
  have hve:=hs.cA
  subst hve
  refine gx ?_
  refine aS hs fun w b3 hs=>?_
  refine gx ?_
  exact ah rfl ⟨rfl,hs.drop⟩
 | some e=>
  obtain ⟨t,vv,rfl⟩:=hs.aQ
  refine gx ?_
  refine aS hs fun w b3 hs=>?_
  refine gx ?_
  refine ag (met (Le hE hs) ?_)
  clear hs
  rintro _ w ⟨rfl,hs⟩
  refine ⟨_,rfl,?_⟩
  refine gx ?_
  exact ah rfl ⟨rfl,hs.drop⟩
theorem Pe (v:Value) (k:Int) (w:World):(binOp .eql 41 (.iface 249 v) (.iface 44 (.int .i64 k))).run Tryz.prog w=.ok (.bool false) w:=run_eql_iface_types 249 44 v (.int .i64 k) Tryz.underlying41 (by decide) w
theorem Pf (a b:Int) (w:World):(binOp .eql 41 (.iface 44 (.int .i64 a)) (.iface 44 (.int .i64 b))).run Tryz.prog w=.ok (.bool (decide (a=b))) w:=by
 have hc:Tryz.t44.comparable=true:=rfl
 have h:∀ d:Nat,(Op.equalIn (d+2) 41 (.iface 44 (.int .i64 a)) (.iface 44 (.int .i64 b))).run Tryz.prog w=.ok (decide (a=b)) w:=fun d=>by
  simp [Op.equalIn,run_underlying Tryz.underlying41,run_underlying Tryz.underlying44,hc]
  rfl
 simp only [binOp]
 simp [Op.equal,Op.maxDepth,h 9998]
section
variable {ops:Array Oper} {Q:Exit→Act→World→Prop} {n:Nat} {ds:Md} {e:Env} {w w':World} {rest:List Oper}
variable {op:Op} {ty:TypeId} {pos:String} {af:Array Edge} {d:Nat} {v u:Value}
attribute [local semireducible] WL WC WQ
theorem wE {bo:BinOp} {t t2:TypeId} {x y:Operand} {vx vy z:Value} (hx:ev e x=some vx) (hy:ev e y=some vy) (hg:(eqGuard bo t x y vx vy).run Tryz.prog w=.ok () w) (hr:(Go.binOp bo t vx vy).run Tryz.prog w=.ok z w) (hd:Nat.blt d n=true)
 (k:WL ops Q n ds rest ((d,z)::e) w):WL ops Q n ds (⟨some d,.binOp bo t x y t2,ty,pos,af,none⟩::rest) e w:=
 bX (fun a ha=>by simp [execOp,ha.ev hx,ha.ev hy,hg,hr]) hd k
end
theorem QY:Ext 284 (ReflectliteType.method fun t=>do Rtype.noPackHeld "Comparable" t;pure (.bool (← typeInfo t).comparable)):=@run_callFunc_extern Tryz.prog 284 _ _ Tryz.func284 (by kernel_rfl) (by kernel_rfl) (by kernel_rfl) (by kernel_rfl)
theorem Ql (w:World):(ReflectliteType.method (fun t=>do Rtype.noPackHeld "Comparable" t;pure (.bool (← typeInfo t).comparable)) #[.agg #[.pointer (some ⟨4,44,none⟩)]]).run Tryz.prog w=.ok (.bool true) w:=by kernel_rfl
theorem Qm {e:cx} {ve:Value} {m:Nat} (hs:Sat W0 (aH ve (some e)::F) w) :
 Calls Tryz.prog 163 #[ve,.iface 44 (.int .i64 (m:Int)),.bool true] w fun x w'=>x=.returned (.bool (decide (e.2=m)))∧Sat W0 (aH ve (some e)::F) w':=by
 obtain ⟨hv,hn⟩:=hs.Cz
 refine enter Tryz.func163 rfl Tryz.ntmps163 Tryz.results163 rfl ?_
 refine gx ?_
 refine aJ (α:=Bool) (fun z=>[(0,Pd ve e.2 z),(1,.iface 44 (.int .i64 (m:Int))),(2,.bool true)])
  (fun z w=>(z=true→e.1≠none)∧Sat W0 (aH ve (some e)::F) w) (fun z=>if z=true then 1 else 0) e.1.isSome ⟨by rw [← hv];rfl,rfl,rfl,trivial⟩ ⟨hn,hs⟩ ?_
 clear hs hv hn
 rintro z w ⟨hz,hs⟩
 cases z with
 | false=>
  refine gx ?_
  refine wE rfl rfl rfl (Pf _ _ _) rfl ?_
  by_cases h:e.2=m
  ·have h':((e.2:Nat):Int)=(m:Int):=by omega
   rw [decide_eq_true h',decide_eq_true h]
   refine gx ?_
   exact ah rfl ⟨rfl,hs⟩
  ·have h':¬ ((e.2:Nat):Int)=(m:Int):=by omega
   rw [decide_eq_false h',decide_eq_false h]
   refine gx ?_
   refine pH rfl (Lc _ _) rfl ?_
   refine gx ?_
   refine pH rfl (Cw _ _) rfl ?_
   refine gx ?_
   refine pH rfl (Cx _ _) rfl ?_
   refine gx ?_
   exact ah rfl ⟨rfl,hs⟩
 | true=>
  obtain ⟨o,k⟩:=e
  cases o with
  | none=>exact absurd rfl (hz rfl)
  | some s=>
   obtain ⟨b,rfl,h2⟩:=hs.Ld
   clear hs
   refine gx ?_
   refine wE rfl rfl rfl (Pe _ _ _) rfl ?_
   refine gx ?_
   refine pH rfl (Ig _ _) rfl ?_
   refine gx ?_
   refine pH rfl (yP _ _) rfl ?_
   refine gx ?_
   refine kG rfl (yQ _) (fun _ _=>qK rfl) rfl rfl (met (tp h2) ?_)
   clear h2
   rintro _ w ⟨rfl,hs⟩
   refine ⟨_,rfl,?_⟩
   refine gx ?_
   refine az false ⟨rfl,rfl,rfl,trivial⟩ ⟨fun hh=>(by cases hh),?_⟩ (by decide)
   exact hs.sE.to
theorem M5 {e:cx} {ve:Value} {m:Nat} (hs:Sat W0 (aH ve (some e)::F) w) :
 Calls Tryz.prog 90 #[ve,.iface 44 (.int .i64 (m:Int))] w fun x w'=>x=.returned (.bool (decide (e.2=m)))∧Sat W0 (aH ve (some e)::F) w':=by
 obtain ⟨t,vv,rfl⟩:=hs.aQ
 refine enter Tryz.func90 rfl Tryz.ntmps90 Tryz.results90 rfl ?_
 refine gx ?_
 refine gn K6 rfl (ES _ _) rfl ?_
 refine gx ?_
 refine fK rfl (M0 _) QY rfl (Ql _) rfl ?_
 refine gx ?_
 refine ag (met (Qm hs) ?_)
 clear hs
 rintro _ w ⟨rfl,hs⟩
 refine ⟨_,rfl,?_⟩
 refine gx ?_
 exact ah rfl ⟨rfl,hs⟩
end
section
open Go.Proofs.YtecibefflhomdaaGreatDoor.Pure (ae cG aR bE bB jh jf)
attribute [local irreducible] IntKind.wrap
variable {W0 w:World} {F:List ax} {v:Value} {ps:List (Bs×Bs)}
@[simp] theorem iR (l:List (Bs×Bs)):(eQ l).length=l.length:=List.length_map _
theorem Ik {i:Nat} {p:Bs×Bs} (h:ps[i]?=some p):(eQ ps)[i]?=some (gk p):=by unfold eQ;rw [List.getElem?_map,h];rfl
abbrev aG (v:Value) (l:List (Bs×Bs)):ax:=gr 2 v (eQ l)
theorem Sat.iU (h:Sat W0 (aG v ps::F) w):∃ a c,v=.slice a ps.length c∧ps.length≤c:=by
 obtain ⟨a,c,h1,h2⟩:=h.ix
 rw [iR] at h1 h2
 exact ⟨a,c,h1,h2⟩
theorem Sat.CA {a:Option Addr} {c i:Nat} (hs:Sat W0 (aG (.slice a ps.length c) ps::F) w) (hi:i<ps.length) :
 ∃ (z:rO) (p:Bs×Bs),ps[i]?=some p∧ps.drop i=p::ps.drop (i+1)∧a=some ⟨z.b,z.o,none⟩∧fS z.all (z.o+i*2) (gk p)∧z.all[z.o+i*2]?=some (str p.1)∧z.all[z.o+i*2+1]?=some (str p.2) ∧
  Sat W0 (ob true z.b (.cells z.all.toArray z.E (0,0))::aG (.slice a ps.length c) ps::F) w:=by
 have hg:ps[i]?=some ps[i]:=List.getElem?_eq_getElem hi
 have hs':Sat W0 (gr 2 (.slice a (eQ ps).length c) (eQ ps)::F) w:=by rw [iR];exact hs
 obtain ⟨z,h1,h2,h3⟩:=hs'.KI (Ik hg)
 rw [iR] at h3
 exact ⟨z,ps[i],hg,List.drop_eq_getElem_cons hi,h1,h2,h2.1,h2.2.1,h3⟩
theorem Sat.uv (h:Sat W0 (gI v ps::F) w):Sat W0 (aG v ps::F) w:=by
 have h1:Sat W0 (aL 2 v 147 (eQ ps).length (eQ ps).flatten::F) w:=by rw [iR];exact h
 exact h1.ku fun r hr=>by obtain ⟨x,_,rfl⟩:=List.mem_map.1 hr;rfl
def QZ:Option Bs→Bs
 | some v=>v
 | none=>[]
theorem Il {key:Bs} (hs:Sat W0 (aG v ps::F) w) (hp:ps.length≤1099511627776) :
 Calls Tryz.prog 51 #[v,str key] w fun x w'=>x=.returned (.tuple #[str (QZ (bE ps key)),.bool (bE ps key).isSome])∧Sat W0 (aG v ps::F) w':=by
 obtain ⟨a,c,rfl,hc⟩:=hs.iU
 refine enter Tryz.func51 rfl Tryz.ntmps51 Tryz.results51 rfl ?_
 refine gy ?_
 refine aJ (α:=Nat) (fun i=>[(0,.slice a ps.length c),(1,str key),(6,.int .i64 (i:Int))])
  (fun i w=>(i≤ps.length∧bE (ps.drop i) key=bE ps key)∧Sat W0 (aG (.slice a ps.length c) ps::F) w) (fun i=>ps.length-i) 0 ⟨rfl,rfl,rfl,trivial⟩ ⟨⟨Nat.zero_le _,by rw [List.drop_zero]⟩,hs⟩ ?_
 clear hs
 rintro i w ⟨⟨hi,hl⟩,hs⟩
 by_cases hlt:i<ps.length
 ·have hlt':(i:Int)<(ps.length:Int):=by omega
  obtain ⟨z,p,hg,hd,rfl,hseg,c0,c1,h2⟩:=hs.CA hlt
  clear hs
  rw [hd] at hl
  have hl:(if p.1=key then some p.2 else bE (ps.drop (i+1)) key)=bE ps key:=hl
  by_cases hk:p.1=key
  ·rw [if_pos hk] at hl
   refine gy ?_
   refine ah rfl ⟨?_,h2.drop⟩
   rw [← hl];rfl
  ·rw [if_neg hk] at hl
   refine gy ?_
   exact az (i+1) ⟨rfl,rfl,rfl,trivial⟩ ⟨⟨hlt,hl⟩,h2.drop⟩ (by show ps.length-(i+1)<ps.length-i;omega)
 ·have hie:i=ps.length:=by omega
  subst hie
  have hlt':¬ (ps.length:Int)<(ps.length:Int):=by omega
  rw [List.drop_length] at hl
  refine gy ?_
  refine ah rfl ⟨?_,hs⟩
  rw [← hl];rfl
theorem tq {key:Bs} (hs:Sat W0 (aG v ps::F) w) (hp:ps.length≤1099511627776) :
 Calls Tryz.prog 191 #[v,str key] w fun x w'=>x=.returned (.tuple #[str (MR (lZ ps key)),.bool (P7 (lZ ps key)),.int .i64 (gC (cU (lZ ps key)):Int)])∧Sat W0 (aG v ps::F) w':=by
 refine enter Tryz.func191 rfl Tryz.ntmps191 Tryz.results191 rfl ?_
 unfold lZ
 by_cases h1:(key.length:Int)=0
 ·rw [if_pos (.inl (by omega))]
  refine gy ?_
  exact ah rfl ⟨rfl,hs⟩
 ·by_cases h2:(key.length:Int) > 8
  ·rw [if_pos (.inr (by omega))]
   refine gy ?_
   exact ah rfl ⟨rfl,hs⟩
  ·rw [if_neg (by omega)]
   refine gy ?_
   refine ag (met (Il hs hp) ?_)
   clear hs
   rintro _ w ⟨rfl,hs⟩
   refine ⟨_,rfl,?_⟩
   refine gy ?_
   refine ah rfl ⟨?_,hs⟩
   cases bE ps key<;>rfl
abbrev tr (v:Value) (l:List (Bs×Bs)):ax:=aL 2 v 158 l.length (eQ l).flatten
theorem rl (E:Nat) (l:List (Bs×Bs)) (p:Bs×Bs):aL 2 v E (l.length+1) ((eQ l).flatten++gk p)=aL 2 v E (l++[p]).length (eQ (l++[p])).flatten:=by
 rw [ng,List.length_append];rfl
theorem Sat.Am (h:Sat W0 (tr v ps::F) w):Sat W0 (aG v ps::F) w:=by
 have h1:Sat W0 (aL 2 v 158 (eQ ps).length (eQ ps).flatten::F) w:=by rw [iR];exact h
 exact h1.ku fun r hr=>by obtain ⟨x,_,rfl⟩:=List.mem_map.1 hr;rfl
theorem rm {lo hi:Bs} {limit:Int} (hs:Sat W0 (aG v ps::F) w) (hp:ps.length≤1099511627776) :
 Calls Tryz.prog 192 #[v,str lo,str hi,.int .i64 limit] w fun x w'=>∃ u,x=.returned u∧Sat W0 (tr u (bB ps lo hi limit)::aG v ps::F) w':=by
 obtain ⟨a,c,rfl,hc⟩:=hs.iU
 refine enter Tryz.func192 rfl Tryz.ntmps192 Tryz.results192 rfl ?_
 refine gy ?_
 refine aJ (α:=Nat×List (Bs×Bs)×Value) (fun z=>[(0,.slice a ps.length c),(1,str lo),(2,str hi),(3,.int .i64 limit),(9,z.2.2),(10,.int .i64 (z.1:Int))])
  (fun z w=>(z.1≤ps.length∧z.2.1.length≤z.1∧(ps.drop z.1).foldl (Ai lo hi limit) z.2.1=bB ps lo hi limit)∧Sat W0 (tr z.2.2 z.2.1::aG (.slice a ps.length c) ps::F) w) (fun z=>ps.length-z.1) (0,[],.slice none 0 0) ⟨rfl,rfl,rfl,rfl,rfl,rfl,trivial⟩
  ⟨⟨Nat.zero_le _,Nat.le_refl _,by rw [List.drop_zero];exact MY lo hi limit ps⟩,Sat.cH (k:=2) (E:=158) hs⟩ ?_
 clear hs
 rintro ⟨i,out,vo⟩ w ⟨⟨hib,ho,hl⟩,hs⟩
 dsimp only at hib ho hl hs ⊢
 obtain ⟨ao,co,rfl,-⟩:=hs.aC
 by_cases hlt:i<ps.length
 ·have hlt':(i:Int)<(ps.length:Int):=by omega
  obtain ⟨z,p,hg,hd,rfl,hseg,c0,c1,h2⟩:=(hs.take (.there .here)).CA hlt
  clear hs
  rw [hd,List.foldl_cons] at hl
  have hno:¬ (jh lo p.1=true∧jf hi p.1=true∧(limit≤0∨(out.length:Int)<limit))→(ps.drop (i+1)).foldl (Ai lo hi limit) out=bB ps lo hi limit:=by
   intro hn
   have e:Ai lo hi limit out p=out:=if_neg hn
   rw [e] at hl;exact hl
  have hyes:(jh lo p.1=true∧jf hi p.1=true∧(limit≤0∨(out.length:Int)<limit))→(ps.drop (i+1)).foldl (Ai lo hi limit) (out++[p])=bB ps lo hi limit:=by
   intro hn
   have e:Ai lo hi limit out p=out++[p]:=if_pos hn
   rw [e] at hl;exact hl
  clear hl
  unfold jh jf at hno hyes
  rw [fI,fI] at hno hyes
  have hs:Sat W0 (tr (.slice ao out.length co) out::ob true z.b (.cells z.all.toArray z.E (0,0))::aG (.slice (some ⟨z.b,z.o,none⟩) ps.length c) ps::F) w:=h2.to
  clear h2
  by_cases hY:(!ma p.1 lo)=true∧(decide (hi=[])||ma p.1 hi)=true∧(limit≤0∨(out.length:Int)<limit)
  ·have hl:=hyes hY
   obtain ⟨a1,a2,a3⟩:=hY
   have b2:hi=[]∨(¬ hi=[]∧ma p.1 hi=true):=by
    by_cases h:hi=[]
    ·exact .inl h
    ·exact .inr ⟨h,by simpa [h] using a2⟩
   have b3:limit≤0∨(¬ limit≤0∧(out.length:Int)<limit):=by omega
   clear hno hyes a2 a3
   rcases b2 with b2|⟨b2,b2'⟩<;>rcases b3 with b3|⟨b3,b3'⟩
   all_goals
    refine gy ?_
    refine ia (gk p) hs ?_
    clear hs
    intro w b8 hs
    refine dM hs ?_
    clear hs
    intro v2 w hs
    rw [rl] at hs
    refine gy ?_
    exact az (i+1,out++[p],v2) ⟨rfl,rfl,rfl,rfl,rfl,rfl,trivial⟩ ⟨⟨hlt,by simp;omega,hl⟩,hs.to⟩ (by show ps.length-(i+1)<ps.length-i;omega)
  ·have hl:=hno hY
   have b:(!ma p.1 lo)=false∨((!ma p.1 lo)=true∧((¬ hi=[]∧ma p.1 hi=false)∨((hi=[]∨(¬ hi=[]∧ma p.1 hi=true))∧¬ limit≤0∧¬ (out.length:Int)<limit))):=by
    cases h1:(!ma p.1 lo) with
    | false=>exact .inl rfl
    | true=>
     refine .inr ⟨rfl,?_⟩
     by_cases h2:hi=[]
     ·refine .inr ⟨.inl h2,?_⟩
      refine Decidable.byContradiction fun h3=>?_
      exact hY ⟨h1,by simp [h2],by omega⟩
     ·cases h3:ma p.1 hi with
      | false=>exact .inl ⟨h2,rfl⟩
      | true=>
       refine .inr ⟨.inr ⟨h2,rfl⟩,?_⟩
       refine Decidable.byContradiction fun h4=>?_
       exact hY ⟨h1,by simp [h3],by omega⟩
   clear hno hyes hY
   rcases b with b1|⟨b1,⟨b2,b3⟩|⟨b2|⟨b2,b2'⟩,b3,b4⟩⟩
   all_goals
    refine gy ?_
    exact az (i+1,out,_) ⟨rfl,rfl,rfl,rfl,rfl,rfl,trivial⟩ ⟨⟨hlt,by show out.length≤_;omega,hl⟩,hs.to⟩ (by show ps.length-(i+1)<ps.length-i;omega)
 ·have hie:i=ps.length:=by omega
  subst hie
  have hlt':¬ (ps.length:Int)<(ps.length:Int):=by omega
  rw [List.drop_length] at hl
  have hl:out=bB ps lo hi limit:=hl
  subst hl
  refine gy ?_
  exact ah rfl ⟨_,rfl,hs⟩
end
section
open Go.Proofs.YtecibefflhomdaaGreatDoor.Pure (ae cG aR bE bB jh jf)
attribute [local irreducible] IntKind.wrap
variable {W0 w:World} {F:List ax} {v:Value} {ps:List (Bs×Bs)}
theorem Im {c:cG} (hs:Sat W0 (aG v ps::F) w) (hp:ps.length≤1099511627776) :
 Calls Tryz.prog 53 #[v,.agg (fQ c).toArray] w fun x w'=>∃ u,x=.returned u∧Sat W0 (tr u (ju c.key c.val c.del ps)::aG v ps::F) w':=by
 obtain ⟨a,cc,rfl,hc⟩:=hs.iU
 refine enter Tryz.func53 rfl Tryz.ntmps53 Tryz.results53 rfl ?_
 refine gy ?_
 refine bR (z:=fQ c) hs ?_
 clear hs
 intro w b3 hs
 have hs:Sat W0 (blk b3 137 [str c.key,str c.val,.bool c.del]::aG (.slice a ps.length cc) ps::F) w:=hs
 generalize hR:ju c.key c.val c.del ps=R
 refine gy ?_
 refine aJ (α:=Nat×List (Bs×Bs)×Value×Bool) (fun z=>[(0,.slice a ps.length cc),(3,ay b3),(5,z.2.2.1),(6,.bool z.2.2.2),(7,.int .i64 (z.1:Int))])
  (fun z w=>(z.1≤ps.length∧z.2.1.length≤2*z.1∧z.2.1++ju c.key c.val z.2.2.2 (ps.drop z.1)=R)∧Sat W0 (tr z.2.2.1 z.2.1::blk b3 137 [str c.key,str c.val,.bool c.del]::aG (.slice a ps.length cc) ps::F) w) (fun z=>ps.length-z.1) (0,[],.slice none 0 0,c.del) ⟨rfl,rfl,rfl,rfl,rfl,trivial⟩
  ⟨⟨Nat.zero_le _,Nat.le_refl _,by rw [List.drop_zero];exact hR⟩,Sat.cH (k:=2) (E:=158) hs⟩ ?_
 clear hs hR
 rintro ⟨i,out,vo,put⟩ w ⟨⟨hi,ho,hl⟩,hs⟩
 dsimp only at hi ho hl hs ⊢
 obtain ⟨ao,co,rfl,-⟩:=hs.aC
 by_cases hlt:i<ps.length
 ·have hlt':(i:Int)<(ps.length:Int):=by omega
  obtain ⟨z,p,hg,hd,rfl,hseg,c0,c1,h2⟩:=(hs.take (.there (.there .here))).CA hlt
  clear hs
  rw [hd] at hl
  unfold ju at hl
  rw [fI] at hl
  have hs:Sat W0 (tr (.slice ao out.length co) out::ob true z.b (.cells z.all.toArray z.E (0,0))::blk b3 137 [str c.key,str c.val,.bool c.del]::aG (.slice (some ⟨z.b,z.o,none⟩) ps.length cc) ps::F) w:=h2.to
  clear h2
  refine dV ?_
  refine dV ?_
  refine gE ?_
  refine cV rfl ?_
  refine gE ?_
  refine cV rfl ?_
  refine dV ?_
  refine gW ?_
  refine fh (α:=List (Bs×Bs)×Value) (fun y=>[(0,.slice (some ⟨z.b,z.o,none⟩) ps.length cc),(3,ay b3),(5,y.2),(6,.bool (put||!ma p.1 c.key)),(7,.int .i64 (i:Int))])
   (fun y w=>(y.1.length≤2*i+1∧y.1++((if p.1=c.key then [] else [p])++ju c.key c.val (put||!ma p.1 c.key) (ps.drop (i+1)))=R)∧Sat W0 (tr y.2 y.1::ob true z.b (.cells z.all.toArray z.E (0,0))::blk b3 137 [str c.key,str c.val,.bool c.del]::aG (.slice (some ⟨z.b,z.o,none⟩) ps.length cc) ps::F) w) ?_ ?_
  ·refine dV ?_
   refine bu [ob true z.b (.cells z.all.toArray z.E (0,0)),blk b3 137 [str c.key,str c.val,.bool c.del]] [7,9] (.q 0 (.q 1 (.q 2 (.q 3 (.q 4 (.q 5 (.q 6 (.s 7 (.q 8 (.s 9 (.q 10 (.q 11 .nil)))))))))))) hs (by kernel_rfl) ?_
   clear hs
   intro w hs
   cases put with
   | true=>
    refine gj ?_
    refine gy ?_
    exact bG (out,.slice ao out.length co) ⟨rfl,rfl,rfl,rfl,rfl,trivial⟩ ⟨⟨by show out.length≤_;omega,by simpa using hl⟩,hs⟩
   | false=>
    by_cases hb:ma p.1 c.key=true
    ·have hb':(!ma p.1 c.key)=false:=by rw [hb];rfl
     refine gj ?_
     refine gy ?_
     exact bG (out,.slice ao out.length co) ⟨rfl,rfl,rfl,by rw [hb];rfl,rfl,trivial⟩ ⟨⟨by show out.length≤_;omega,by simpa [hb] using hl⟩,hs⟩
    ·have hb':(!ma p.1 c.key)=true:=by simpa using hb
     refine gj ?_
     refine gy ?_
     refine bz (gk (c.key,c.val)) ?_
     refine ia (gk (c.key,c.val)) hs ?_
     clear hs
     intro w b8 hs
     refine dM hs ?_
     clear hs
     intro v2 w hs
     rw [rl] at hs
     refine gy ?_
     exact bG (out++[(c.key,c.val)],v2) ⟨rfl,rfl,rfl,by rw [hb'];rfl,rfl,trivial⟩ ⟨⟨by simp;omega,by simpa [hb] using hl⟩,hs⟩
  ·clear hs hl
   rintro ⟨out,vo⟩ w ⟨⟨ho,hl⟩,hs⟩
   dsimp only at ho hl hs ⊢
   obtain ⟨ao,co,rfl,-⟩:=hs.aC
   refine dV ?_
   refine bu [ob true z.b (.cells z.all.toArray z.E (0,0)),blk b3 137 [str c.key,str c.val,.bool c.del]] [4,6] (.q 0 (.q 1 (.q 2 (.q 3 (.s 4 (.q 5 (.s 6 (.q 7 .nil)))))))) hs (by kernel_rfl) ?_
   clear hs
   intro w hs
   by_cases hk:p.1=c.key
   ·have hk':¬ (p.1≠c.key):=by simpa using hk
    rw [if_pos hk] at hl
    refine gj ?_
    refine gy ?_
    exact az (i+1,out,_,_) ⟨rfl,rfl,rfl,rfl,rfl,trivial⟩ ⟨⟨hlt,by show out.length≤_;omega,hl⟩,hs.to⟩ (by show ps.length-(i+1)<ps.length-i;omega)
   ·have hk':p.1≠c.key:=hk
    rw [if_neg hk] at hl
    refine gj ?_
    refine gy ?_
    refine ia (gk p) hs ?_
    clear hs
    intro w b8 hs
    refine dM hs ?_
    clear hs
    intro v2 w hs
    rw [rl] at hs
    refine gy ?_
    exact az (i+1,out++[p],v2,(put||!ma p.1 c.key)) ⟨rfl,rfl,rfl,rfl,rfl,trivial⟩ ⟨⟨hlt,by simp;omega,by rw [List.append_assoc];exact hl⟩,hs.to⟩ (by show ps.length-(i+1)<ps.length-i;omega)
 ·have hie:i=ps.length:=by omega
  subst hie
  have hlt':¬ (ps.length:Int)<(ps.length:Int):=by omega
  rw [List.drop_length] at hl
  unfold ju at hl
  cases put with
  | true=>
   rw [if_pos rfl,List.append_nil] at hl
   subst hl
   refine gy ?_
   exact ah rfl ⟨_,rfl,hs.to⟩
  | false=>
   rw [if_neg (by simp)] at hl
   subst hl
   refine gy ?_
   refine bz (gk (c.key,c.val)) ?_
   refine ia (gk (c.key,c.val)) hs ?_
   clear hs
   intro w b8 hs
   refine dM hs ?_
   clear hs
   intro v2 w hs
   rw [rl] at hs
   refine gy ?_
   exact ah rfl ⟨_,rfl,hs.to⟩
end
end Go.Proofs.YtecibefflhomdaaGreatDoor
