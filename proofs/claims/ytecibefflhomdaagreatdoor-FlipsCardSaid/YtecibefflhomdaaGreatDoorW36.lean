/-
  Part 36: WALKS errors; WALKS errors; WALKS the document's functions on pairs; WALKS the document's functions on pairs.
-/
import Derived.Test.YtecibefflhomdaaGreatDoorW35
import Derived.Stop.Asserts
set_option maxHeartbeats 8000000
set_option maxRecDepth 100000
set_option linter.all false
namespace Go.Proofs.YtecibefflhomdaaGreatDoor
open Go
section
open Go Go.Extern
attribute [local irreducible] IntKind.wrap
theorem NR (z:Sem Value) (f:TypeId→Addr→Nat→Nat→Sem Value) (v:Value) :
 ReflectliteValue.method z f #[v]=(do match ← ReflectliteValue.parts v with|none=>z|some (t,a,fl)=>f t a fl (fl%32)):=rfl
theorem MK:∃ m1 m2 m3 m4 m5:String,∀ v x:Value,ReflectliteValue.set #[v,x]=(do
 let (some (dst,a,fl),some (src,b,_)):=(← ReflectliteValue.parts v,← ReflectliteValue.parts x)
  | unsupported (.noEntry m1)
 if fl / ReflectliteValue.flagAddr%2==0 then unsupported (.noEntry m2)
 let val ← loadVar src b
 if ← Rtype.directlyAssignable dst src then storeVar dst a val
 else if ← Rtype.implements dst src then
  if (← Rtype.kind src)==20 then
   match val with
   | .nilIface=>unsupported (.noEntry m3)
   | _=>storeVar dst a val
  else storeVar dst a (.iface src val)
 else panicString (m4++(← Rtype.spelt src)++m5++(← Rtype.spelt dst))
 pure (.tuple #[])):=⟨_,_,_,_,_,fun _ _=>rfl⟩
theorem K5 (b:Nat) (w:World):(ReflectliteValue.parts (rv 136 b 150)).run Tryz.prog w=.ok (some (136,⟨b,0,none⟩,150)) w:=by kernel_rfl
theorem K6 (b:Nat) (w:World):(ReflectliteValue.parts (rv 283 b 150)).run Tryz.prog w=.ok (some (283,⟨b,0,none⟩,150)) w:=by kernel_rfl
theorem N0 (b:Nat) (w:World):(ReflectliteValue.parts (rv 44 b 130)).run Tryz.prog w=.ok (some (44,⟨b,0,none⟩,130)) w:=by kernel_rfl
theorem Nn (b:Nat) (w:World):(ReflectliteValue.parts (rv 44 b 386)).run Tryz.prog w=.ok (some (44,⟨b,0,none⟩,386)) w:=by kernel_rfl
theorem No (b:Nat) (w:World):(ReflectliteValue.parts (rv 249 b 150)).run Tryz.prog w=.ok (some (249,⟨b,0,none⟩,150)) w:=by kernel_rfl
theorem Mj (b:Nat) (w:World):(ReflectliteValue.parts (rv 249 b 406)).run Tryz.prog w=.ok (some (249,⟨b,0,none⟩,406)) w:=by kernel_rfl
theorem Np (w:World):(Rtype.elem? 136).run Tryz.prog w=.ok (some 44) w:=by kernel_rfl
theorem Nq (w:World):(Rtype.elem? 283).run Tryz.prog w=.ok (some 249) w:=by kernel_rfl
theorem N3 (b:Nat) (w:World):(ReflectliteValue.mk 44 ⟨b,0,none⟩ ReflectliteValue.flagAddr).run Tryz.prog w=.ok (rv 44 b 386) w:=by kernel_rfl
theorem Nr (b:Nat) (w:World):(ReflectliteValue.mk 249 ⟨b,0,none⟩ ReflectliteValue.flagAddr).run Tryz.prog w=.ok (rv 249 b 406) w:=by kernel_rfl
theorem N4 (w:World):(Rtype.directlyAssignable 44 44).run Tryz.prog w=.ok true w:=by kernel_rfl
theorem Ns (w:World):(Rtype.directlyAssignable 249 249).run Tryz.prog w=.ok true w:=by kernel_rfl
section
variable {w:World} {b p:Nat}
theorem Mk (h:w.cell? ⟨b,0,none⟩=some (.pointer (some ⟨p,0,none⟩))):(ReflectliteValue.method (ReflectliteValue.valueError "reflectlite.Value.IsNil" 0) ReflectliteValue.isNil #[rv 136 b 150]).run Tryz.prog w=.ok (.bool false) w:=by
 rw [NR]
 simp only [Sem.run_bind,K5,Result.andThen]
 simp [ReflectliteValue.isNil,cG (t:=136) rfl h,Result.andThen]
theorem IM (h:w.cell? ⟨b,0,none⟩=some (.pointer (some ⟨p,0,none⟩))):(ReflectliteValue.method (ReflectliteValue.valueError "reflectlite.Value.IsNil" 0) ReflectliteValue.isNil #[rv 283 b 150]).run Tryz.prog w=.ok (.bool false) w:=by
 rw [NR]
 simp only [Sem.run_bind,K6,Result.andThen]
 simp [ReflectliteValue.isNil,cG (t:=283) rfl h,Result.andThen]
theorem Km (h:w.cell? ⟨b,0,none⟩=some (.pointer (some ⟨p,0,none⟩))):(ReflectliteValue.method (ReflectliteValue.valueError "reflectlite.Value.Elem" 0) ReflectliteValue.elem #[rv 136 b 150]).run Tryz.prog w=.ok (rv 44 p 386) w:=by
 rw [NR]
 simp only [Sem.run_bind,K5,Result.andThen]
 simp [ReflectliteValue.elem,cG (t:=136) rfl h,Result.andThen,Np,N3]
theorem Ko (h:w.cell? ⟨b,0,none⟩=some (.pointer (some ⟨p,0,none⟩))):(ReflectliteValue.method (ReflectliteValue.valueError "reflectlite.Value.Elem" 0) ReflectliteValue.elem #[rv 283 b 150]).run Tryz.prog w=.ok (rv 249 p 406) w:=by
 rw [NR]
 simp only [Sem.run_bind,K6,Result.andThen]
 simp [ReflectliteValue.elem,cG (t:=283) rfl h,Result.andThen,Nq,Nr]
theorem Nt {ta:Nat} {k:Int} {u:Value} (hb:w.cell? ⟨b,0,none⟩=some (.int .i64 k)) (ht:w.cell? ⟨ta,0,none⟩=some u) (hf:w.frozen? ⟨ta,0,none⟩=false) :
 (ReflectliteValue.set #[rv 44 ta 386,rv 44 b 130]).run Tryz.prog w=.ok (.tuple #[]) (w.setCell ⟨ta,0,none⟩ (.int .i64 k)):=by
 obtain ⟨m1,m2,m3,m4,m5,MK⟩:=MK
 rw [MK]
 simp only [Sem.run_bind,N0,Nn,Result.andThen]
 simp [ReflectliteValue.flagAddr,cG (t:=44) rfl hb,Result.andThen,N4,lu (t:=44) rfl (v:=.int .i64 k) rfl rfl ht hf]
theorem Ml {ta:Nat} {q u:Value} (hb:w.cell? ⟨b,0,none⟩=some q) (h1:ej q=true) (ht:w.cell? ⟨ta,0,none⟩=some u) (hf:w.frozen? ⟨ta,0,none⟩=false) :
 (ReflectliteValue.set #[rv 249 ta 406,rv 249 b 150]).run Tryz.prog w=.ok (.tuple #[]) (w.setCell ⟨ta,0,none⟩ q):=by
 obtain ⟨m1,m2,m3,m4,m5,MK⟩:=MK
 rw [MK]
 simp only [Sem.run_bind,No,Mj,Result.andThen]
 simp [ReflectliteValue.flagAddr,cG (t:=249) rfl hb,Result.andThen,Ns,lu (t:=249) rfl (gF h1).1 (gF h1).2 ht hf]
end
def kP (W0:World):Prop:=W0.cell? ⟨0,0,none⟩=some (yB 41)
variable {W0 w:World} {F:List ah}
theorem IP (v:Value) (w:World):(Instr.typeAssert (.iface 44 v) 41 301 true).run Tryz.prog w=.ok (.tuple #[.nilIface,.bool false]) w:=run_typeAssert_lacksB Tryz.underlying301 (by kernel_rfl) (by kernel_rfl) v 41 w
theorem FV (v:Value) (w:World):(Instr.typeAssert (.iface 249 v) 41 301 true).run Tryz.prog w=.ok (.tuple #[.nilIface,.bool false]) w:=run_typeAssert_lacksB Tryz.underlying301 (by kernel_rfl) (by kernel_rfl) v 41 w
theorem AL (v:Value) (w:World):(Instr.typeAssert (.iface 44 v) 41 304 true).run Tryz.prog w=.ok (.tuple #[.nilIface,.bool false]) w:=run_typeAssert_lacksB Tryz.underlying304 (by kernel_rfl) (by kernel_rfl) v 41 w
theorem xl (v:Value) (w:World):(Instr.typeAssert (.iface 249 v) 41 304 true).run Tryz.prog w=.ok (.tuple #[.iface 249 v,.bool true]) w:=run_typeAssert_hasB Tryz.underlying304 (by kernel_rfl) v 41 w
theorem AM (v:Value) (w:World):(Instr.typeAssert (.iface 44 v) 41 305 true).run Tryz.prog w=.ok (.tuple #[.nilIface,.bool false]) w:=run_typeAssert_lacksB Tryz.underlying305 (by kernel_rfl) (by kernel_rfl) v 41 w
theorem IQ (v:Value) (w:World):(Instr.typeAssert (.iface 44 v) 41 338 true).run Tryz.prog w=.ok (.tuple #[.nilIface,.bool false]) w:=run_typeAssert_lacksB Tryz.underlying338 (by kernel_rfl) (by kernel_rfl) v 41 w
theorem FW (v:Value) (w:World):(Instr.typeAssert (.iface 249 v) 41 338 true).run Tryz.prog w=.ok (.tuple #[.nilIface,.bool false]) w:=run_typeAssert_lacksB Tryz.underlying338 (by kernel_rfl) (by kernel_rfl) v 41 w
theorem xm (v:Value) (w:World):(Go.method (Tryz.prog.types.size+Made.depth) 249 v "Unwrap").run Tryz.prog w=.ok (281,v) w:=by kernel_rfl
theorem sC {s:Bs} {k:Nat} {b:Nat} (hs:Sat W0 (tf b 251 [str s,.int .i64 (k:Int)]::F) w) :
 Calls Tryz.prog 281 #[au b] w fun x w'=>x=.returned (.iface 44 (.int .i64 (k:Int)))∧Sat W0 (tf b 251 [str s,.int .i64 (k:Int)]::F) w':=by
 refine enter Tryz.func281 rfl Tryz.ntmps281 Tryz.results281 rfl ?_
 refine gx ?_
 exact ak rfl ⟨rfl,hs⟩
theorem Sat.AN {v:Value} {k:Nat} (h:Sat W0 (aL v (some (none,k))::F) w):v=.iface 44 (.int .i64 (k:Int)):=h.fT fun _ q=>q
theorem Sat.IS {v:Value} {s:Bs} {k:Nat} (h:Sat W0 (aL v (some (some s,k))::F) w):∃ b,v=.iface 249 (au b)∧Sat W0 (tf b 251 [str s,.int .i64 (k:Int)]::F) w:=by
 obtain ⟨b,hb,hs⟩:=h.fg (φ:=fun b=>v=.iface 249 (au b)) (B:=fun b=>[tf b 251 [str s,.int .i64 (k:Int)]]) fun hp ⟨b,e,q⟩=>⟨b,e,hp,fun _=>none,fun _ _ _ _ hy=>(by cases hy),Hp.le_refl _,fun _ _ hx=>(by cases hx),q,trivial⟩
 exact ⟨b,hb,hs⟩
theorem Sat.rR {s:Bs} {k:Nat} {b:Nat} (h:Sat W0 (tf b 251 [str s,.int .i64 (k:Int)]::F) w):Sat W0 (aL (.iface 249 (au b)) (some (some s,k))::F) w:=h.head fun _ q=>⟨b,rfl,q⟩
theorem Sat.boxed {v:Value} {T:TypeId} (h:Sat W0 F w):Sat W0 (blk w.heap.size T [v]::F) { w with heap:=w.heap.push (.cells #[v] T) }:=h.new (.cells #[v] T) false
end
section
open Go Go.Extern
attribute [local irreducible] IntKind.wrap
variable {W0 w:World} {F:List ah}
def Mm (ve:Value) (k:Nat):Bool→Value
 | true=>ve
 | false=>.iface 44 (.int .i64 (k:Int))
theorem Sat.AO {v:Value} {e:cy} (h:Sat W0 (aL v (some e)::F) w):v=Mm v e.2 e.1.isSome∧(e.1.isSome=true→e.1≠none):=by
 obtain ⟨o,k⟩:=e
 cases o with
 | none=>exact ⟨h.AN,fun hh=>by cases hh⟩
 | some s=>exact ⟨rfl,fun _ hh=>by cases hh⟩
theorem FX {e:cy} {ve u tgt:Value} {bt bv:Nat} (hs:Sat W0 (blk bv 136 [au bt]::blk bt 44 [u]::aL ve (some e)::F) w) :
 Calls Tryz.prog 105 #[ve,tgt,rv 136 bv 150,yB 44] w fun x w'=>x=.returned (.bool true)∧Sat W0 (blk bt 44 [.int .i64 (e.2:Int)]::aL ve (some e)::F) w':=by
 obtain ⟨hv,hn⟩:=(hs.take (.there (.there .here))).AO
 refine enter Tryz.func105 rfl Tryz.ntmps105 Tryz.results105 rfl ?_
 refine gx ?_
 refine cC hs fun w b6 hs=>?_
 refine gx ?_
 refine aK (α:=Bool) (fun z=>[(0,Mm ve e.2 z),(1,tgt),(3,yB 44),(6,au b6)])
  (fun z w=>(z=true→e.1≠none)∧Sat W0 (blk b6 205 [.pointer (some ⟨4,136,none⟩),.pointer (some ⟨bv,0,none⟩),.int .u64 150]::blk bv 136 [au bt]::blk bt 44 [u]::aL ve (some e)::F) w) (fun z=>if z=true then 1 else 0) e.1.isSome ⟨by rw [← hv];rfl,rfl,rfl,rfl,trivial⟩ ⟨hn,hs⟩ ?_
 clear hs hv hn
 rintro z w ⟨hz,hs⟩
 cases z with
 | false=>
  refine gx ?_
  refine fR II rfl (CF _ _) rfl ?_
  refine gx ?_
  refine fw rfl (s8 _) Kj rfl (Kl _) rfl ?_
  refine gx ?_
  refine fR Ng rfl (Km (hs.cell (.there .here) 0)) rfl ?_
  refine gx ?_
  refine fR IH rfl (Ni _ _) rfl ?_
  have hs:=hs.boxed (v:=.int .i64 (e.2:Int)) (T:=44)
  generalize w.heap.size=b2 at *
  generalize { w with heap:=w.heap.push _ }=w at hs ⊢
  refine gx ?_
  refine fR Nh rfl (Nt (hs.cell .here 0) (hs.cell (.there (.there (.there .here))) 0) (hs.free (.there (.there (.there .here))) 0)) rfl ?_
  have hs:=hs.setCell (b:=bt) (o:=0) (v:=.int .i64 (e.2:Int)) (.there (.there (.there .here)))
  refine gx ?_
  exact ak rfl ⟨rfl,hs.drop.drop.drop⟩
 | true=>
  obtain ⟨o,k⟩:=e
  cases o with
  | none=>exact absurd rfl (hz rfl)
  | some s=>
   obtain ⟨b,rfl,h2⟩:=(hs.take (.there (.there (.there .here)))).IS
   clear hs
   refine gx ?_
   refine fR II rfl (Ea _ _) rfl ?_
   refine gx ?_
   refine fw rfl (s8 _) Kj rfl (IL _) rfl ?_
   refine gx ?_
   refine oR rfl (FV _ _) rfl ?_
   refine gx ?_
   refine oR rfl (xl _ _) rfl ?_
   refine gx ?_
   refine kg rfl (xm _) (fun _ _=>qi rfl) rfl rfl (met (sC h2) ?_)
   clear h2
   rintro _ w ⟨rfl,hs⟩
   refine ⟨_,rfl,?_⟩
   refine gx ?_
   refine aA false ⟨rfl,rfl,rfl,rfl,trivial⟩ ⟨fun hh=>(by cases hh),?_⟩ (by decide)
   exact hs.rR.to
theorem CG {k:Nat} {u tgt:Value} {bt bv:Nat} (hs:Sat W0 (blk bv 283 [au bt]::blk bt 249 [u]::F) w) :
 Calls Tryz.prog 105 #[.iface 44 (.int .i64 (k:Int)),tgt,rv 283 bv 150,yB 249] w fun x w'=>x=.returned (.bool false)∧Sat W0 (blk bt 249 [u]::F) w':=by
 refine enter Tryz.func105 rfl Tryz.ntmps105 Tryz.results105 rfl ?_
 refine gx ?_
 refine cC hs fun w b6 hs=>?_
 refine gx ?_
 refine aK (α:=Unit) (fun z=>[(0,.iface 44 (.int .i64 (k:Int))),(1,tgt),(3,yB 249),(6,au b6)])
  (fun z w=>Sat W0 (blk b6 205 [.pointer (some ⟨4,283,none⟩),.pointer (some ⟨bv,0,none⟩),.int .u64 150]::blk bv 283 [au bt]::blk bt 249 [u]::F) w) (fun z=>0) () ⟨rfl,rfl,rfl,rfl,trivial⟩ hs ?_
 clear hs
 rintro z w hs
 refine gx ?_
 refine fR II rfl (CF _ _) rfl ?_
 refine gx ?_
 refine fw rfl (s8 _) Kj rfl (IK _) rfl ?_
 refine gx ?_
 refine oR rfl (IP _ _) rfl ?_
 refine gx ?_
 refine oR rfl (AL _ _) rfl ?_
 refine gx ?_
 refine oR rfl (AM _ _) rfl ?_
 refine gx ?_
 exact ak rfl ⟨rfl,hs.drop.drop⟩
theorem CH {b:Nat} {u tgt:Value} {bt bv:Nat} (hs:Sat W0 (blk bv 283 [au bt]::blk bt 249 [u]::F) w) :
 Calls Tryz.prog 105 #[.iface 249 (au b),tgt,rv 283 bv 150,yB 249] w fun x w'=>x=.returned (.bool true)∧Sat W0 (blk bt 249 [au b]::F) w':=by
 refine enter Tryz.func105 rfl Tryz.ntmps105 Tryz.results105 rfl ?_
 refine gx ?_
 refine cC hs fun w b6 hs=>?_
 refine gx ?_
 refine aK (α:=Unit) (fun z=>[(0,.iface 249 (au b)),(1,tgt),(3,yB 249),(6,au b6)])
  (fun z w=>Sat W0 (blk b6 205 [.pointer (some ⟨4,283,none⟩),.pointer (some ⟨bv,0,none⟩),.int .u64 150]::blk bv 283 [au bt]::blk bt 249 [u]::F) w) (fun z=>0) () ⟨rfl,rfl,rfl,rfl,trivial⟩ hs ?_
 clear hs
 rintro z w hs
 refine gx ?_
 refine fR II rfl (Ea _ _) rfl ?_
 refine gx ?_
 refine fw rfl (s8 _) Kj rfl (FU _) rfl ?_
 refine gx ?_
 refine fR Ng rfl (Ko (hs.cell (.there .here) 0)) rfl ?_
 refine gx ?_
 refine fR IH rfl (Mi _ _) rfl ?_
 have hs:=hs.boxed (v:=au b) (T:=249)
 generalize w.heap.size=b2 at *
 generalize { w with heap:=w.heap.push _ }=w at hs ⊢
 refine gx ?_
 refine fR Nh rfl (Ml (hs.cell .here 0) rfl (hs.cell (.there (.there (.there .here))) 0) (hs.free (.there (.there (.there .here))) 0)) rfl ?_
 have hs:=hs.setCell (b:=bt) (o:=0) (v:=au b) (.there (.there (.there .here)))
 refine gx ?_
 exact ak rfl ⟨rfl,hs.drop.drop.drop⟩
theorem IT {e:cy} {ve u:Value} {bt:Nat} (hE:kP W0) (hs:Sat W0 (blk bt 44 [u]::aL ve (some e)::F) w) :
 Calls Tryz.prog 50 #[ve,.iface 136 (au bt)] w fun x w'=>x=.returned (.bool true)∧Sat W0 (blk bt 44 [.int .i64 (e.2:Int)]::aL ve (some e)::F) w':=by
 obtain ⟨t,vv,rfl⟩:=(hs.take (.there .here)).aV
 refine enter Tryz.func50 rfl Tryz.ntmps50 Tryz.results50 rfl ?_
 refine gx ?_
 refine fR IH rfl (Mh _ _) rfl ?_
 have hs:=hs.boxed (v:=au bt) (T:=136)
 generalize w.heap.size=bv at *
 generalize { w with heap:=w.heap.push _ }=w at hs ⊢
 refine gx ?_
 refine aW hs fun w b5 hs=>?_
 refine gx ?_
 refine cV hs fun w hs=>?_
 refine gx ?_
 refine fR Mb rfl (Nj _ _) rfl ?_
 refine gx ?_
 refine fw rfl (oC _) FT rfl (Nk _) rfl ?_
 refine gx ?_
 refine fR Mc rfl (Mk (hs.cell (.there .here) 0)) rfl ?_
 refine gx ?_
 refine fw rfl (yC _) Me rfl (Nl _) rfl ?_
 refine gx ?_
 refine fw rfl (oC _) FT rfl (NY _) rfl ?_
 refine gx ?_
 refine yd rfl rfl (hs.mL hE) rfl ?_
 refine gx ?_
 refine fw rfl (yD _) Mf rfl (NZ _) rfl ?_
 refine gx ?_
 refine ae (met (FX hs.drop) ?_)
 clear hs
 rintro _ w ⟨rfl,hs⟩
 refine ⟨_,rfl,?_⟩
 refine gx ?_
 exact ak rfl ⟨rfl,hs⟩
theorem FY {k:Nat} {u:Value} {bt:Nat} (hE:kP W0) (hs:Sat W0 (blk bt 249 [u]::F) w) :
 Calls Tryz.prog 50 #[.iface 44 (.int .i64 (k:Int)),.iface 283 (au bt)] w fun x w'=>x=.returned (.bool false)∧Sat W0 (blk bt 249 [u]::F) w':=by
 refine enter Tryz.func50 rfl Tryz.ntmps50 Tryz.results50 rfl ?_
 refine gx ?_
 refine fR IH rfl (IJ _ _) rfl ?_
 have hs:=hs.boxed (v:=au bt) (T:=283)
 generalize w.heap.size=bv at *
 generalize { w with heap:=w.heap.push _ }=w at hs ⊢
 refine gx ?_
 refine aW hs fun w b5 hs=>?_
 refine gx ?_
 refine cV hs fun w hs=>?_
 refine gx ?_
 refine fR Mb rfl (K0 _ _) rfl ?_
 refine gx ?_
 refine fw rfl (oC _) FT rfl (K1 _) rfl ?_
 refine gx ?_
 refine fR Mc rfl (IM (hs.cell (.there .here) 0)) rfl ?_
 refine gx ?_
 refine fw rfl (yC _) Me rfl (K3 _) rfl ?_
 refine gx ?_
 refine fw rfl (oC _) FT rfl (K2 _) rfl ?_
 refine gx ?_
 refine yd rfl rfl (hs.mL hE) rfl ?_
 refine gx ?_
 refine fw rfl (yD _) Mf rfl (K4 _) rfl ?_
 refine gx ?_
 refine ae (met (CG hs.drop) ?_)
 clear hs
 rintro _ w ⟨rfl,hs⟩
 refine ⟨_,rfl,?_⟩
 refine gx ?_
 exact ak rfl ⟨rfl,hs⟩
theorem FZ {b:Nat} {u:Value} {bt:Nat} (hE:kP W0) (hs:Sat W0 (blk bt 249 [u]::F) w) :
 Calls Tryz.prog 50 #[.iface 249 (au b),.iface 283 (au bt)] w fun x w'=>x=.returned (.bool true)∧Sat W0 (blk bt 249 [au b]::F) w':=by
 refine enter Tryz.func50 rfl Tryz.ntmps50 Tryz.results50 rfl ?_
 refine gx ?_
 refine fR IH rfl (IJ _ _) rfl ?_
 have hs:=hs.boxed (v:=au bt) (T:=283)
 generalize w.heap.size=bv at *
 generalize { w with heap:=w.heap.push _ }=w at hs ⊢
 refine gx ?_
 refine aW hs fun w b5 hs=>?_
 refine gx ?_
 refine cV hs fun w hs=>?_
 refine gx ?_
 refine fR Mb rfl (K0 _ _) rfl ?_
 refine gx ?_
 refine fw rfl (oC _) FT rfl (K1 _) rfl ?_
 refine gx ?_
 refine fR Mc rfl (IM (hs.cell (.there .here) 0)) rfl ?_
 refine gx ?_
 refine fw rfl (yC _) Me rfl (K3 _) rfl ?_
 refine gx ?_
 refine fw rfl (oC _) FT rfl (K2 _) rfl ?_
 refine gx ?_
 refine yd rfl rfl (hs.mL hE) rfl ?_
 refine gx ?_
 refine fw rfl (yD _) Mf rfl (K4 _) rfl ?_
 refine gx ?_
 refine ae (met (CH hs.drop) ?_)
 clear hs
 rintro _ w ⟨rfl,hs⟩
 refine ⟨_,rfl,?_⟩
 refine gx ?_
 exact ak rfl ⟨rfl,hs⟩
def ir:Option cy→Nat
 | none=>0
 | some e=>e.2
theorem cF {oe:Option cy} {ve:Value} (hE:kP W0) (hs:Sat W0 (aL ve oe::F) w) :
 Calls Tryz.prog 19 #[ve] w fun x w'=>x=.returned (.int .i64 (ir oe:Int))∧Sat W0 (aL ve oe::F) w':=by
 refine enter Tryz.func19 rfl Tryz.ntmps19 Tryz.results19 rfl ?_
 cases oe with
 | none=>
  have hve:=hs.cD
  subst hve
  refine gx ?_
  refine aW hs fun w b3 hs=>?_
  refine gx ?_
  exact ak rfl ⟨rfl,hs.drop⟩
 | some e=>
  obtain ⟨t,vv,rfl⟩:=hs.aV
  refine gx ?_
  refine aW hs fun w b3 hs=>?_
  refine gx ?_
  refine ae (met (IT hE hs) ?_)
  clear hs
  rintro _ w ⟨rfl,hs⟩
  refine ⟨_,rfl,?_⟩
  refine gx ?_
  exact ak rfl ⟨rfl,hs.drop⟩
theorem Mn (v:Value) (k:Int) (w:World):(binOp .eql 41 (.iface 249 v) (.iface 44 (.int .i64 k))).run Tryz.prog w=.ok (.bool false) w:=run_eql_iface_types 249 44 v (.int .i64 k) Tryz.underlying41 (by decide) w
theorem Mo (a b:Int) (w:World):(binOp .eql 41 (.iface 44 (.int .i64 a)) (.iface 44 (.int .i64 b))).run Tryz.prog w=.ok (.bool (decide (a=b))) w:=by
 have hc:Tryz.t44.comparable=true:=rfl
 have h:∀ d:Nat,(Op.equalIn (d+2) 41 (.iface 44 (.int .i64 a)) (.iface 44 (.int .i64 b))).run Tryz.prog w=.ok (decide (a=b)) w:=fun d=>by
  simp [Op.equalIn,run_underlying Tryz.underlying41,run_underlying Tryz.underlying44,hc]
  rfl
 simp only [binOp]
 simp [Op.equal,Op.maxDepth,h 9998]
section
variable {ops:Array Oper} {Q:Exit→Act→World→Prop} {n:Nat} {ds:Md} {e:Env} {w w':World} {rest:List Oper}
variable {op:Op} {ty:TypeId} {pos:String} {af:Array Edge} {d:Nat} {v u:Value}
attribute [local semireducible] WL WC WQ
theorem yE {bo:BinOp} {t t2:TypeId} {x y:Operand} {vx vy z:Value} (hx:ev e x=some vx) (hy:ev e y=some vy) (hg:(eqGuard bo t x y vx vy).run Tryz.prog w=.ok () w) (hr:(Go.binOp bo t vx vy).run Tryz.prog w=.ok z w) (hd:Nat.blt d n=true)
 (k:WL ops Q n ds rest ((d,z)::e) w):WL ops Q n ds (⟨some d,.binOp bo t x y t2,ty,pos,af,none⟩::rest) e w:=
 bW (fun a ha=>by simp [execOp,ha.ev hx,ha.ev hy,hg,hr]) hd k
end
theorem N5:Ext 284 (ReflectliteType.method fun t=>do Rtype.noPackHeld "Comparable" t;pure (.bool (← typeInfo t).comparable)):=@run_callFunc_extern Tryz.prog 284 _ _ Tryz.func284 (by kernel_rfl) (by kernel_rfl) (by kernel_rfl) (by kernel_rfl)
theorem Nu (w:World):(ReflectliteType.method (fun t=>do Rtype.noPackHeld "Comparable" t;pure (.bool (← typeInfo t).comparable)) #[.agg #[.pointer (some ⟨4,44,none⟩)]]).run Tryz.prog w=.ok (.bool true) w:=by kernel_rfl
theorem Nv {e:cy} {ve:Value} {m:Nat} (hs:Sat W0 (aL ve (some e)::F) w) :
 Calls Tryz.prog 163 #[ve,.iface 44 (.int .i64 (m:Int)),.bool true] w fun x w'=>x=.returned (.bool (decide (e.2=m)))∧Sat W0 (aL ve (some e)::F) w':=by
 obtain ⟨hv,hn⟩:=hs.AO
 refine enter Tryz.func163 rfl Tryz.ntmps163 Tryz.results163 rfl ?_
 refine gx ?_
 refine aK (α:=Bool) (fun z=>[(0,Mm ve e.2 z),(1,.iface 44 (.int .i64 (m:Int))),(2,.bool true)])
  (fun z w=>(z=true→e.1≠none)∧Sat W0 (aL ve (some e)::F) w) (fun z=>if z=true then 1 else 0) e.1.isSome ⟨by rw [← hv];rfl,rfl,rfl,trivial⟩ ⟨hn,hs⟩ ?_
 clear hs hv hn
 rintro z w ⟨hz,hs⟩
 cases z with
 | false=>
  refine gx ?_
  refine yE rfl rfl rfl (Mo _ _ _) rfl ?_
  by_cases h:e.2=m
  ·have h':((e.2:Nat):Int)=(m:Int):=by omega
   rw [decide_eq_true h',decide_eq_true h]
   refine gx ?_
   exact ak rfl ⟨rfl,hs⟩
  ·have h':¬ ((e.2:Nat):Int)=(m:Int):=by omega
   rw [decide_eq_false h',decide_eq_false h]
   refine gx ?_
   refine oR rfl (IQ _ _) rfl ?_
   refine gx ?_
   refine oR rfl (AL _ _) rfl ?_
   refine gx ?_
   refine oR rfl (AM _ _) rfl ?_
   refine gx ?_
   exact ak rfl ⟨rfl,hs⟩
 | true=>
  obtain ⟨o,k⟩:=e
  cases o with
  | none=>exact absurd rfl (hz rfl)
  | some s=>
   obtain ⟨b,rfl,h2⟩:=hs.IS
   clear hs
   refine gx ?_
   refine yE rfl rfl rfl (Mn _ _ _) rfl ?_
   refine gx ?_
   refine oR rfl (FW _ _) rfl ?_
   refine gx ?_
   refine oR rfl (xl _ _) rfl ?_
   refine gx ?_
   refine kg rfl (xm _) (fun _ _=>qi rfl) rfl rfl (met (sC h2) ?_)
   clear h2
   rintro _ w ⟨rfl,hs⟩
   refine ⟨_,rfl,?_⟩
   refine gx ?_
   refine aA false ⟨rfl,rfl,rfl,trivial⟩ ⟨fun hh=>(by cases hh),?_⟩ (by decide)
   exact hs.rR.to
theorem Kq {e:cy} {ve:Value} {m:Nat} (hs:Sat W0 (aL ve (some e)::F) w) :
 Calls Tryz.prog 90 #[ve,.iface 44 (.int .i64 (m:Int))] w fun x w'=>x=.returned (.bool (decide (e.2=m)))∧Sat W0 (aL ve (some e)::F) w':=by
 obtain ⟨t,vv,rfl⟩:=hs.aV
 refine enter Tryz.func90 rfl Tryz.ntmps90 Tryz.results90 rfl ?_
 refine gx ?_
 refine fR II rfl (CF _ _) rfl ?_
 refine gx ?_
 refine fw rfl (Kk _) N5 rfl (Nu _) rfl ?_
 refine gx ?_
 refine ae (met (Nv hs) ?_)
 clear hs
 rintro _ w ⟨rfl,hs⟩
 refine ⟨_,rfl,?_⟩
 refine gx ?_
 exact ak rfl ⟨rfl,hs⟩
end
section
open Go.Proofs.YtecibefflhomdaaGreatDoor.Pure (ad bX aQ aR dJ kW kV)
attribute [local irreducible] IntKind.wrap
variable {W0 w:World} {F:List ah} {v:Value} {ps:List (Bs×Bs)}
@[simp] theorem il (l:List (Bs×Bs)):(gn l).length=l.length:=List.length_map _
theorem F0 {i:Nat} {p:Bs×Bs} (h:ps[i]?=some p):(gn ps)[i]?=some (l6 p):=by unfold gn;rw [List.getElem?_map,h];rfl
abbrev aX (v:Value) (l:List (Bs×Bs)):ah:=kD 2 v (gn l)
theorem Sat.fZ (h:Sat W0 (aX v ps::F) w):∃ a c,v=.slice a ps.length c∧ps.length≤c:=by
 obtain ⟨a,c,h1,h2⟩:=h.im
 rw [il] at h1 h2
 exact ⟨a,c,h1,h2⟩
theorem Sat.Eb {a:Option Addr} {c i:Nat} (hs:Sat W0 (aX (.slice a ps.length c) ps::F) w) (hi:i<ps.length) :
 ∃ (z:vF) (p:Bs×Bs),ps[i]?=some p∧ps.drop i=p::ps.drop (i+1)∧a=some ⟨z.b,z.o,none⟩∧fX z.all (z.o+i*2) (l6 p)∧z.all[z.o+i*2]?=some (str p.1)∧z.all[z.o+i*2+1]?=some (str p.2) ∧
  Sat W0 (ob true z.b (.cells z.all.toArray z.E (0,0))::aX (.slice a ps.length c) ps::F) w:=by
 have hg:ps[i]?=some ps[i]:=List.getElem?_eq_getElem hi
 have hs':Sat W0 (kD 2 (.slice a (gn ps).length c) (gn ps)::F) w:=by rw [il];exact hs
 obtain ⟨z,h1,h2,h3⟩:=hs'.KV (F0 hg)
 rw [il] at h3
 exact ⟨z,ps[i],hg,List.drop_eq_getElem_cons hi,h1,h2,h2.1,h2.2.1,h3⟩
theorem Sat.Kr (h:Sat W0 (Ae v ps::F) w):Sat W0 (aX v ps::F) w:=by
 have h1:Sat W0 (aI 2 v 147 (gn ps).length (gn ps).flatten::F) w:=by rw [il];exact h
 exact h1.mI fun r hr=>by obtain ⟨x,_,rfl⟩:=List.mem_map.1 hr;rfl
def sQ:Option Bs→Bs
 | some v=>v
 | none=>[]
theorem rS {key:Bs} (hs:Sat W0 (aX v ps::F) w) (hp:ps.length≤1099511627776) :
 Calls Tryz.prog 51 #[v,str key] w fun x w'=>x=.returned (.tuple #[str (sQ (aR ps key)),.bool (aR ps key).isSome])∧Sat W0 (aX v ps::F) w':=by
 obtain ⟨a,c,rfl,hc⟩:=hs.fZ
 refine enter Tryz.func51 rfl Tryz.ntmps51 Tryz.results51 rfl ?_
 refine gy ?_
 refine aK (α:=Nat) (fun i=>[(0,.slice a ps.length c),(1,str key),(6,.int .i64 (i:Int))])
  (fun i w=>(i≤ps.length∧aR (ps.drop i) key=aR ps key)∧Sat W0 (aX (.slice a ps.length c) ps::F) w) (fun i=>ps.length-i) 0 ⟨rfl,rfl,rfl,trivial⟩ ⟨⟨Nat.zero_le _,by rw [List.drop_zero]⟩,hs⟩ ?_
 clear hs
 rintro i w ⟨⟨hi,hl⟩,hs⟩
 by_cases hlt:i<ps.length
 ·have hlt':(i:Int)<(ps.length:Int):=by omega
  obtain ⟨z,p,hg,hd,rfl,hseg,c0,c1,h2⟩:=hs.Eb hlt
  clear hs
  rw [hd] at hl
  have hl:(if p.1=key then some p.2 else aR (ps.drop (i+1)) key)=aR ps key:=hl
  by_cases hk:p.1=key
  ·rw [if_pos hk] at hl
   refine gy ?_
   refine ak rfl ⟨?_,h2.drop⟩
   rw [← hl];rfl
  ·rw [if_neg hk] at hl
   refine gy ?_
   exact aA (i+1) ⟨rfl,rfl,rfl,trivial⟩ ⟨⟨hlt,hl⟩,h2.drop⟩ (by show ps.length-(i+1)<ps.length-i;omega)
 ·have hie:i=ps.length:=by omega
  subst hie
  have hlt':¬ (ps.length:Int)<(ps.length:Int):=by omega
  rw [List.drop_length] at hl
  refine gy ?_
  refine ak rfl ⟨?_,hs⟩
  rw [← hl];rfl
abbrev AP (v:Value) (l:List (Bs×Bs)):ah:=aI 2 v 158 l.length (gn l).flatten
theorem u7 (E:Nat) (l:List (Bs×Bs)) (p:Bs×Bs):aI 2 v E (l.length+1) ((gn l).flatten++l6 p)=aI 2 v E (l++[p]).length (gn (l++[p])).flatten:=by
 rw [uJ,List.length_append];rfl
theorem Sat.Ks (h:Sat W0 (AP v ps::F) w):Sat W0 (aX v ps::F) w:=by
 have h1:Sat W0 (aI 2 v 158 (gn ps).length (gn ps).flatten::F) w:=by rw [il];exact h
 exact h1.mI fun r hr=>by obtain ⟨x,_,rfl⟩:=List.mem_map.1 hr;rfl
end
section
open Go.Proofs.YtecibefflhomdaaGreatDoor.Pure (ad bX aQ aR dJ kW kV)
attribute [local irreducible] IntKind.wrap
variable {W0 w:World} {F:List ah} {v:Value} {ps:List (Bs×Bs)}
theorem F1 {c:bX} (hs:Sat W0 (aX v ps::F) w) (hp:ps.length≤1099511627776) :
 Calls Tryz.prog 53 #[v,.agg (lC c).toArray] w fun x w'=>∃ u,x=.returned u∧Sat W0 (AP u (iS c.key c.val c.del ps)::aX v ps::F) w':=by
 obtain ⟨a,cc,rfl,hc⟩:=hs.fZ
 refine enter Tryz.func53 rfl Tryz.ntmps53 Tryz.results53 rfl ?_
 refine gy ?_
 refine cC (z:=lC c) hs ?_
 clear hs
 intro w b3 hs
 have hs:Sat W0 (blk b3 137 [str c.key,str c.val,.bool c.del]::aX (.slice a ps.length cc) ps::F) w:=hs
 generalize hR:iS c.key c.val c.del ps=R
 refine gy ?_
 refine aK (α:=Nat×List (Bs×Bs)×Value×Bool) (fun z=>[(0,.slice a ps.length cc),(3,au b3),(5,z.2.2.1),(6,.bool z.2.2.2),(7,.int .i64 (z.1:Int))])
  (fun z w=>(z.1≤ps.length∧z.2.1.length≤2*z.1∧z.2.1++iS c.key c.val z.2.2.2 (ps.drop z.1)=R)∧Sat W0 (AP z.2.2.1 z.2.1::blk b3 137 [str c.key,str c.val,.bool c.del]::aX (.slice a ps.length cc) ps::F) w) (fun z=>ps.length-z.1) (0,[],.slice none 0 0,c.del) ⟨rfl,rfl,rfl,rfl,rfl,trivial⟩
  ⟨⟨Nat.zero_le _,Nat.le_refl _,by rw [List.drop_zero];exact hR⟩,Sat.dA (k:=2) (E:=158) hs⟩ ?_
 clear hs hR
 rintro ⟨i,out,vo,put⟩ w ⟨⟨hi,ho,hl⟩,hs⟩
 dsimp only at hi ho hl hs ⊢
 obtain ⟨ao,co,rfl,-⟩:=hs.aB
 by_cases hlt:i<ps.length
 ·have hlt':(i:Int)<(ps.length:Int):=by omega
  obtain ⟨z,p,hg,hd,rfl,hseg,c0,c1,h2⟩:=(hs.take (.there (.there .here))).Eb hlt
  clear hs
  rw [hd] at hl
  unfold iS at hl
  rw [gV] at hl
  have hs:Sat W0 (AP (.slice ao out.length co) out::ob true z.b (.cells z.all.toArray z.E (0,0))::blk b3 137 [str c.key,str c.val,.bool c.del]::aX (.slice (some ⟨z.b,z.o,none⟩) ps.length cc) ps::F) w:=h2.to
  clear h2
  refine et ?_
  refine et ?_
  refine gB ?_
  refine dk rfl ?_
  refine gB ?_
  refine dk rfl ?_
  refine et ?_
  refine iG ?_
  refine eU (α:=List (Bs×Bs)×Value) (fun y=>[(0,.slice (some ⟨z.b,z.o,none⟩) ps.length cc),(3,au b3),(5,y.2),(6,.bool (put||!oV p.1 c.key)),(7,.int .i64 (i:Int))])
   (fun y w=>(y.1.length≤2*i+1∧y.1++((if p.1=c.key then [] else [p])++iS c.key c.val (put||!oV p.1 c.key) (ps.drop (i+1)))=R)∧Sat W0 (AP y.2 y.1::ob true z.b (.cells z.all.toArray z.E (0,0))::blk b3 137 [str c.key,str c.val,.bool c.del]::aX (.slice (some ⟨z.b,z.o,none⟩) ps.length cc) ps::F) w) ?_ ?_
  ·refine et ?_
   refine cx [ob true z.b (.cells z.all.toArray z.E (0,0)),blk b3 137 [str c.key,str c.val,.bool c.del]] [7,9] (.q 0 (.q 1 (.q 2 (.q 3 (.q 4 (.q 5 (.q 6 (.s 7 (.q 8 (.s 9 (.q 10 (.q 11 .nil)))))))))))) hs (by kernel_rfl) ?_
   clear hs
   intro w hs
   cases put with
   | true=>
    refine kR ?_
    refine gy ?_
    exact bE (out,.slice ao out.length co) ⟨rfl,rfl,rfl,rfl,rfl,trivial⟩ ⟨⟨by show out.length≤_;omega,by simpa using hl⟩,hs⟩
   | false=>
    by_cases hb:oV p.1 c.key=true
    ·have hb':(!oV p.1 c.key)=false:=by rw [hb];rfl
     refine kR ?_
     refine gy ?_
     exact bE (out,.slice ao out.length co) ⟨rfl,rfl,rfl,by rw [hb];rfl,rfl,trivial⟩ ⟨⟨by show out.length≤_;omega,by simpa [hb] using hl⟩,hs⟩
    ·have hb':(!oV p.1 c.key)=true:=by simpa using hb
     refine kR ?_
     refine gy ?_
     refine bw (l6 (c.key,c.val)) ?_
     refine iT (l6 (c.key,c.val)) hs ?_
     clear hs
     intro w b8 hs
     refine eA hs ?_
     clear hs
     intro v2 w hs
     rw [u7] at hs
     refine gy ?_
     exact bE (out++[(c.key,c.val)],v2) ⟨rfl,rfl,rfl,by rw [hb'];rfl,rfl,trivial⟩ ⟨⟨by simp;omega,by simpa [hb] using hl⟩,hs⟩
  ·clear hs hl
   rintro ⟨out,vo⟩ w ⟨⟨ho,hl⟩,hs⟩
   dsimp only at ho hl hs ⊢
   obtain ⟨ao,co,rfl,-⟩:=hs.aB
   refine et ?_
   refine cx [ob true z.b (.cells z.all.toArray z.E (0,0)),blk b3 137 [str c.key,str c.val,.bool c.del]] [4,6] (.q 0 (.q 1 (.q 2 (.q 3 (.s 4 (.q 5 (.s 6 (.q 7 .nil)))))))) hs (by kernel_rfl) ?_
   clear hs
   intro w hs
   by_cases hk:p.1=c.key
   ·have hk':¬ (p.1≠c.key):=by simpa using hk
    rw [if_pos hk] at hl
    refine kR ?_
    refine gy ?_
    exact aA (i+1,out,_,_) ⟨rfl,rfl,rfl,rfl,rfl,trivial⟩ ⟨⟨hlt,by show out.length≤_;omega,hl⟩,hs.to⟩ (by show ps.length-(i+1)<ps.length-i;omega)
   ·have hk':p.1≠c.key:=hk
    rw [if_neg hk] at hl
    refine kR ?_
    refine gy ?_
    refine iT (l6 p) hs ?_
    clear hs
    intro w b8 hs
    refine eA hs ?_
    clear hs
    intro v2 w hs
    rw [u7] at hs
    refine gy ?_
    exact aA (i+1,out++[p],v2,(put||!oV p.1 c.key)) ⟨rfl,rfl,rfl,rfl,rfl,trivial⟩ ⟨⟨hlt,by simp;omega,by rw [List.append_assoc];exact hl⟩,hs.to⟩ (by show ps.length-(i+1)<ps.length-i;omega)
 ·have hie:i=ps.length:=by omega
  subst hie
  have hlt':¬ (ps.length:Int)<(ps.length:Int):=by omega
  rw [List.drop_length] at hl
  unfold iS at hl
  cases put with
  | true=>
   rw [if_pos rfl,List.append_nil] at hl
   subst hl
   refine gy ?_
   exact ak rfl ⟨_,rfl,hs.to⟩
  | false=>
   rw [if_neg (by simp)] at hl
   subst hl
   refine gy ?_
   refine bw (l6 (c.key,c.val)) ?_
   refine iT (l6 (c.key,c.val)) hs ?_
   clear hs
   intro w b8 hs
   refine eA hs ?_
   clear hs
   intro v2 w hs
   rw [u7] at hs
   refine gy ?_
   exact ak rfl ⟨_,rfl,hs.to⟩
end
end Go.Proofs.YtecibefflhomdaaGreatDoor
