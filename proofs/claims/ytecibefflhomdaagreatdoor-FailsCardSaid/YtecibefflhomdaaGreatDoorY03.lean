/-
  Part 3: The engine 5 rules for operations; THE PURE MIRROR, PART 1 bytes, numbers, texts, sums, frames; The engine 6 numbers of fixed width; The engine 7 slices that one owns and appends to.
-/
import Derived.Test.YtecibefflhomdaaGreatDoorY02
import Derived.IntWalk
import Derived.Deep.AppendSrc
set_option maxHeartbeats 8000000
set_option maxRecDepth 100000
set_option linter.all false
namespace Go.Proofs.YtecibefflhomdaaGreatDoor
open Go
section
attribute [local semireducible] WL WC WQ
def tu:List (Nat×Unit):=[(3,()),(4,()),(5,()),(6,()),(7,()),(8,()),(9,()),(10,()),(11,()),(12,()),(13,()),(14,()),(15,()),(16,()),(17,()),(18,()),(19,()),(20,()),(21,()),(22,()),(23,()),(24,()),(25,()),(26,()),(27,()),(28,()),(29,()),(30,()),(31,()),(32,()),(33,()),(34,()),(35,()),(36,()),(37,()),(38,()),(39,()),(40,()),(41,()),(42,()),(43,()),(44,()),(45,()),(46,()),(47,()),(48,()),(49,()),(50,()),(51,()),(52,()),(53,()),(54,()),(55,()),(56,()),(57,()),(58,()),(59,()),(60,()),(61,()),(62,()),(63,()),(64,()),(65,()),(66,()),(67,()),(68,()),(69,()),(70,()),(71,()),(72,()),(73,()),(74,()),(75,()),(76,()),(77,()),(78,()),(79,()),(80,()),(81,()),(82,()),(83,()),(84,()),(85,()),(86,()),(87,()),(88,()),(89,()),(90,()),(91,()),(92,()),(93,()),(94,()),(95,()),(96,()),(97,()),(98,()),(99,()),(100,()),(101,()),(105,()),(106,()),(107,()),(114,()),(115,()),(117,()),(118,()),(123,()),(126,()),(127,()),(128,()),(129,()),(130,()),(131,()),(132,()),(133,()),(134,()),(135,()),(136,()),(137,()),(138,()),(139,()),(140,()),(141,()),(142,()),(143,()),(144,()),(145,()),(146,()),(147,()),(148,()),(149,()),(150,()),(151,()),(152,()),(153,()),(154,()),(155,()),(156,()),(157,()),(158,()),(159,()),(160,()),(161,()),(163,()),(164,()),(165,()),(166,()),(167,()),(168,()),(169,()),(170,()),(171,()),(172,()),(173,()),(174,()),(175,()),(176,()),(177,()),(178,()),(179,()),(180,()),(183,()),(184,()),(185,()),(191,()),(192,()),(193,()),(195,()),(197,()),(198,()),(199,()),(200,()),(201,()),(202,()),(203,()),(204,()),(205,()),(206,()),(207,()),(208,()),(209,()),(210,()),(211,()),(212,()),(213,()),(214,()),(215,()),(216,()),(217,()),(225,()),(226,()),(227,()),(228,()),(229,()),(230,()),(231,()),(232,()),(233,()),(234,()),(235,()),(236,()),(237,()),(238,()),(239,()),(240,()),(241,()),(242,()),(243,()),(244,()),(245,()),(246,()),(247,()),(248,()),(249,()),(250,()),(251,()),(252,()),(253,()),(254,()),(255,()),(256,())]
def J5 (p:Program) (f:Nat):Option Unit:=match p.funcs[f]? with
 | some fn=>if fn.body.isSome&&!(fn.name == "runtime.NumGoroutine") then some () else none
 | none=>none
theorem Hm:tu.map (fun p=>J5 Tryz.prog p.1)=tu.map (fun p=>some p.2):=by kernel_rfl
theorem og {f:Nat} {u:Unit} {w:World} {args:Array Value} (h:lk tu f=some u):(callFunc f args).run Tryz.prog w=.ok (.enter f args) w:=by
 have:=ie Hm h
 unfold J5 at this
 split at this
 ·rename_i fn hfn
  split at this
  ·rename_i hc
   simp only [Bool.and_eq_true,Bool.not_eq_true'] at hc
   obtain ⟨h1,h2⟩:=hc
   have h3:fn.body.isNone=false:=by cases hb:fn.body<;>simp_all
   simp only [callFunc,Sem.run_bind,run_program,Result.andThen_ok,hfn,h2,h3]
   rfl
  ·cases this
 ·cases this
section
variable {ops:Array Oper} {Q:Exit→Act→World→Prop} {n:Nat} {ds:Md} {e:Env} {w w':World} {rest:List Oper}
variable {op:Op} {ty:TypeId} {pos:String} {af:Array Edge} {d:Nat} {v:Value} {W0:World} {l l' r:List ah}
theorem qZ (k:WQ Q .normal n ds e w):WL ops Q n ds [] e w:=fun a ha=>wpList_nil (k a ha)
theorem cj {v:Value} (h:∀ a,Fr n ds e a→(execOp a.eval ⟨some d,op,ty,pos,af,none⟩).run Tryz.prog w=.ok (.value v) w') (hd:Nat.blt d n=true)
 (k:WL ops Q n ds rest ((d,v)::e) w'):WL ops Q n ds (⟨some d,op,ty,pos,af,none⟩::rest) e w:=fun a ha=>by
 refine wpList_plain rfl fun K hK=>?_
 unfold Oper.wp
 rw [h a ha,Oper.upon_value]
 exact hK _ _ (k _ (ha.put hd))
theorem Dz {v:Value} (h:∀ a,Fr n ds e a→(execOp a.eval ⟨none,op,ty,pos,af,none⟩).run Tryz.prog w=.ok (.value v) w')
 (k:WL ops Q n ds rest e w'):WL ops Q n ds (⟨none,op,ty,pos,af,none⟩::rest) e w:=fun a ha=>by
 refine wpList_plain rfl fun K hK=>?_
 unfold Oper.wp
 rw [h a ha,Oper.upon_value]
 exact hK _ _ (k _ ha)
theorem wb (h:∀ a,Fr n ds e a→(execOp a.eval ⟨none,op,ty,pos,af,none⟩).run Tryz.prog w=.ok .skip w')
 (k:WL ops Q n ds rest e w'):WL ops Q n ds (⟨none,op,ty,pos,af,none⟩::rest) e w:=fun a ha=>by
 refine wpList_plain rfl fun K hK=>?_
 unfold Oper.wp
 rw [h a ha,Oper.upon_skip]
 exact hK _ _ (k _ ha)
theorem eO (hv:yv e op=some v) (hd:Nat.blt d n=true) (k:WL ops Q n ds rest ((d,v)::e) w):WL ops Q n ds (⟨some d,op,ty,pos,af,none⟩::rest) e w:=
 cj (fun _ ha=>nj ha hv) hd k
theorem wrap_i64 {x:Int} (h1:-9223372036854775808≤x) (h2:x≤9223372036854775807):IntKind.i64.wrap x=x:=by
 have e:IntKind.i64.wrap x=if 9223372036854775808≤x%18446744073709551616 then x%18446744073709551616-18446744073709551616 else x%18446744073709551616:=by
  simp [IntKind.wrap,IntKind.bits,IntKind.signed]
 rw [e];split<;>omega
theorem zh {x:Int} (hv:yv e op=some (.int .i64 (IntKind.i64.wrap x))) (h1:-9223372036854775808≤x) (h2:x≤9223372036854775807) (hd:Nat.blt d n=true)
 (k:WL ops Q n ds rest ((d,.int .i64 x)::e) w):WL ops Q n ds (⟨some d,op,ty,pos,af,none⟩::rest) e w:=
 eO (by rw [hv,wrap_i64 h1 h2]) hd k
def gv (ops:Array Oper) (e:Env) (j:Nat):Option Bool:=match ops[j]? with
 | some ⟨some t,_,_,_,_,_⟩=>match lk e t with
  | some (.bool b)=>some b
  | _=>none
 | _=>none
theorem fg {a:Act} {j:Nat} {b:Bool} (ha:Fr n ds e a) (h:gv ops e j=some b):yielded ops a.tmps j=some b:=by
 unfold gv at h
 split at h
 ·rename_i t _ _ _ _ _ ho
  split at h
  ·rename_i c hc
   simp only [Option.some.injEq] at h;subst h
   simp [yielded,ho,ha.get t _ hc]
  ·cases h
 ·cases h
theorem sa {dst:Option Nat} {j:Nat} {b:Bool} (h:gv ops e j=some b) (k:WL ops Q n ds (⟨dst,op,ty,pos,af,none⟩::rest) e w):WL ops Q n ds (⟨dst,op,ty,pos,af,some (j,b)⟩::rest) e w:=fun a ha=>by
 have hy:=fg ha h
 have:=k a ha
 simp only [wpList,Region.wanted,hy,beq_self_eq_true,if_true] at this ⊢
 exact this
theorem tw {j:Nat} {b b':Bool} (h:gv ops e j=some b) (hne:b'=!b) (hd:Nat.blt d n=true) (k:WL ops Q n ds rest ((d,undef)::e) w):WL ops Q n ds (⟨some d,op,ty,pos,af,some (j,b')⟩::rest) e w:=fun a ha=>by
 have hy:=fg ha h
 subst hne
 have:(some b==some (!b))=false:=by cases b<;>rfl
 simp only [wpList,Region.wanted,hy,this,Bool.false_eq_true,if_false]
 exact k _ (ha.put hd)
theorem add_eq (b o k:Nat):(⟨b,o,none⟩:Addr).add k=⟨b,o+k,none⟩:=by unfold Addr.add;split<;>simp_all
theorem xK {t:Nat} {b:Bool} (h:lk kZ t=some b):(isAgg t).run Tryz.prog w=.ok b w:=by
 have:=JW h
 unfold LI at this
 split at this
 ·rename_i hu;simp only [Option.some.injEq] at this;subst this;simp [isAgg,cB hu]
 ·rename_i hu;simp only [Option.some.injEq] at this;subst this;simp [isAgg,cB hu]
 ·rename_i d h1 h2 hu
  simp only [Option.some.injEq] at this;subst this
  simp only [isAgg,Sem.run_bind,cB hu,Result.andThen_ok]
  rfl
 ·cases this
theorem cK {t b o:Nat} (hT:lk kZ t=some false) (h:w.cell? ⟨b,o,none⟩=some v):(loadVar t ⟨b,o,none⟩).run Tryz.prog w=.ok v w:=by
 simp [loadVar,xK hT,h]
def gh:List Value→Nat→List Value→Prop
 | _,_,[]=>True
 | cs,o,v::vs=>cs[o]?=some v∧gh cs (o+1) vs
theorem gh.at:∀ {vs cs:List Value} {o:Nat},gh cs o vs→∀ j v,vs[j]?=some v→cs[o+j]?=some v
 | v::vs,cs,o,⟨h,hr⟩,j,u,hj=>by
  cases j with
  | zero=>simp at hj;subst hj;simpa using h
  | succ j=>simp at hj;have:=hr.at j u hj;rw [show o+(j+1)=o+1+j from by omega];exact this
theorem iR {t b o:Nat} {vs cs:List Value} (hT:lk kZ t=some true) (hs:lk df t=some vs.length) (h:∀ j,w.cell? ⟨b,j,none⟩=cs[j]?) (hseg:gh cs o vs) :
 (loadVar t ⟨b,o,none⟩).run Tryz.prog w=.ok (.agg vs.toArray) w:=by
 have:=run_loadCells_list (P:=Tryz.prog) w ⟨b,o,none⟩ vs (fun j v hj=>by rw [add_eq,h];exact hseg.at j v hj)
 simp [loadVar,xK hT,dq hs,this]
theorem eC {x:Operand} {T b o E:Nat} {sh:Bool} {cs:List Value} (hs:Sat W0 l w) (hx:ev e x=some (.pointer (some ⟨b,o,none⟩))) (hT:lk kZ T=some false)
 (t:Take (ob sh b (.cells cs.toArray E (0,0))) l r) (hc:cs[o]?=some v) (hd:Nat.blt d n=true) (k:WL ops Q n ds rest ((d,v)::e) w) :
 WL ops Q n ds (⟨some d,.load T x,ty,pos,af,none⟩::rest) e w:=
 cj (fun a ha=>by simp [execOp,ha.ev hx,Instr.loadAt,Instr.sureAddr,cK hT ((hs.cell t o).trans hc)]) hd k
theorem dz (vs:List Value) {x:Operand} {T b o E:Nat} {sh:Bool} {cs:List Value} (hs:Sat W0 l w) (hx:ev e x=some (.pointer (some ⟨b,o,none⟩))) (hT:lk kZ T=some true) (hz:lk df T=some vs.length)
 (t:Take (ob sh b (.cells cs.toArray E (0,0))) l r) (hc:gh cs o vs) (hd:Nat.blt d n=true) (k:WL ops Q n ds rest ((d,.agg vs.toArray)::e) w) :
 WL ops Q n ds (⟨some d,.load T x,ty,pos,af,none⟩::rest) e w:=
 cj (fun a ha=>by simp [execOp,ha.ev hx,Instr.loadAt,Instr.sureAddr,iR hT hz (hs.cell t) hc]) hd k
theorem lD {t b o:Nat} {u:Value} (hz:lk df t=some 1) (hv:v.cells=#[v]) (h1:v.oneCell'=true) (h:w.cell? ⟨b,o,none⟩=some u) (hf:w.frozen? ⟨b,o,none⟩=false) :
 (storeVar t ⟨b,o,none⟩ v).run Tryz.prog w=.ok () (w.setCell ⟨b,o,none⟩ v):=by
 have hst:=run_store Tryz.prog w ⟨b,o,none⟩ v .plain h1
 simp only [h,hf] at hst
 simp only [storeVar,hv,Sem.run_bind,dq hz,Result.andThen_ok,storeCells,add_eq,Nat.add_zero]
 simp [hst]
def dD:Value→Bool
 | .agg _ | .tuple _=>false
 | _=>true
theorem gJ (h:dD v=true):v.cells=#[v]∧v.oneCell'=true:=by cases v<;>simp [dD] at h<;>exact ⟨rfl,rfl⟩
theorem zj {x y:Operand} {T b o E:Nat} {cs:List Value} (hs:Sat W0 l w) (hx:ev e x=some (.pointer (some ⟨b,o,none⟩))) (hy:ev e y=some v) (hz:lk df T=some 1) (h1:dD v=true)
 (t:ic l (blk b E cs) (blk b E (cs.set o v)) l') (hlt:Nat.blt o cs.length=true) (k:∀ w',Sat W0 l' w'→WL ops Q n ds rest e w') :
 WL ops Q n ds (⟨none,.store T x y,ty,pos,af,none⟩::rest) e w:=by
 obtain ⟨r,t1,t2⟩:=t.take
 have hlt':o<cs.length:=by simpa [Nat.blt_eq] using hlt
 obtain ⟨c1,c2⟩:=gJ h1
 refine wb (w':=w.setCell ⟨b,o,none⟩ v) (fun a ha=>?_) (k _ (hs.setCell t))
 have hc:=hs.cell t1 o
 rw [List.getElem?_eq_getElem hlt'] at hc
 simp [execOp,ha.ev hx,ha.ev hy,Instr.storeAt,Instr.sureAddr,lD hz c1 c2 hc (hs.free t1 o)]
def eV (cs:List Value) (o:Nat) (vs:List Value):List Value:=cs.take o++vs++cs.drop (o+vs.length)
theorem o9 {b E:Nat} {cs cs':List Value} (hs:Sat W0 l w) (t:ic l (blk b E cs) (blk b E cs') l'):Sat W0 l' (w.setRow b cs'.toArray):=by
 obtain ⟨r,t1,t2⟩:=t.take
 have k:=hs.take t1
 have hb:=k.fC
 refine Sat.mr (Sat.kx k rfl rfl rfl ?_ (setRow_heap w b _ _ _ _ hb) fun i hi=>setRow_other w b i _ hi) t2
 simp [World.setRow]
theorem BK {x y:Operand} {T b o E:Nat} {cs vs:List Value} (hs:Sat W0 l w) (hx:ev e x=some (.pointer (some ⟨b,o,none⟩))) (hy:ev e y=some (.agg vs.toArray)) (hz:lk df T=some vs.length)
 (h1:vs.all dD=true) (t:ic l (blk b E cs) (blk b E (eV cs o vs)) l') (hlt:o+vs.length≤cs.length) (k:∀ w',Sat W0 l' w'→WL ops Q n ds rest e w') :
 WL ops Q n ds (⟨none,.store T x y,ty,pos,af,none⟩::rest) e w:=by
 obtain ⟨r,t1,t2⟩:=t.take
 refine wb (w':=w.setRow b (eV cs o vs).toArray) (fun a ha=>?_) (k _ (o9 hs t))
 have hb:=hs.at t1
 have:=run_storeCells_at Tryz.prog b o E vs 0 cs.toArray w hb (by simpa using hlt) (fun v hv=>(gJ (List.all_eq_true.1 h1 v hv)).2)
 simp only [Nat.add_zero] at this
 simp only [execOp,ha.ev hx,ha.ev hy,Instr.storeAt,Instr.sureAddr,storeVar,Value.cells,Sem.run_bind,Sem.run_pure,Result.andThen_ok,dq hz,List.size_toArray,ne_eq,not_true_eq_false,if_false,this]
 rfl
theorem s9 {t:Nat} {z:List Value} (h:lk js t=some z):∃ v,(zeroValue t).run Tryz.prog w=.ok v w∧v.cells=z.toArray:=by
 have:=zd h
 unfold Dx at this
 simp only [Option.map_eq_some_iff,Option.bind_eq_some_iff] at this
 obtain ⟨v,⟨i,hi,hv⟩,rfl⟩:=this
 exact ⟨v,by simp [zeroValue,typeInfo,hi,hv],by simp⟩
theorem Hn {T:Nat} {z:List Value} (hs:Sat W0 l w) (hz:lk js T=some z) (hd:Nat.blt d n=true)
 (k:∀ w' b,Sat W0 (blk b T z::l) w'→WL ops Q n ds rest ((d,.pointer (some ⟨b,0,none⟩))::e) w'):WL ops Q n ds (⟨some d,.alloc T,ty,pos,af,none⟩::rest) e w:=by
 obtain ⟨v,hv,hc⟩:=s9 (w:=w) hz
 refine cj (w':={ w with heap:=w.heap.push (.cells z.toArray T) }) (v:=.pointer (some ⟨w.heap.size,0,none⟩)) (fun a ha=>?_) hd (k _ _ (hs.new _ false))
 simp [execOp,Instr.alloc,hv,newVar,newRow,hc]
theorem LQ {T:Nat} {x:Operand} {z:List Value} (hs:Sat W0 l w) (hx:ev e x=some v) (hz:v.cells=z.toArray) (hd:Nat.blt d n=true)
 (k:∀ w' b,Sat W0 (blk b T z::l) w'→WL ops Q n ds rest ((d,.pointer (some ⟨b,0,none⟩))::e) w'):WL ops Q n ds (⟨some d,.box T x,ty,pos,af,none⟩::rest) e w:=by
 refine cj (w':={ w with heap:=w.heap.push (.cells z.toArray T) }) (v:=.pointer (some ⟨w.heap.size,0,none⟩)) (fun a ha=>?_) hd (k _ _ (hs.new _ false))
 simp [execOp,ha.ev hx,Instr.box,newVar,newRow,hz]
theorem kC {T:Nat} (hs:Sat W0 l w) (hd:Nat.blt d n=true)
 (k:∀ w' b,Sat W0 (ob false b (.map #[] 0)::l) w'→WL ops Q n ds rest ((d,.map (some b))::e) w'):WL ops Q n ds (⟨some d,.makeMap T none,ty,pos,af,none⟩::rest) e w:=by
 refine cj (w':={ w with heap:=w.heap.push (.map #[] 0) }) (v:=.map (some w.heap.size)) (fun a ha=>?_) hd (k _ _ (hs.new _ false))
 simp [execOp,Instr.makeMap]
theorem DC {f:FuncId} {xs:Array Operand} {at_:Array TypeId} {vs:List Value} {u:Unit} (hf:lk tu f=some u) (hx:sZ e xs.toList=some vs) (hd:Nat.blt d n=true)
 (h:Calls Tryz.prog f vs.toArray w fun x w'=>∃ v,x=.returned v∧WL ops Q n ds rest ((d,v)::e) w') :
 WL ops Q n ds (⟨some d,.call { callee:=.value (.func f),args:=xs,argTypes:=at_ },ty,pos,af,none⟩::rest) e w:=fun a ha=>by
 refine wpList_plain rfl fun K hK=>?_
 have e1:xs.map a.eval=vs.toArray:=by rw [← ha.sZ hx];cases xs;simp
 have hr:(execOp a.eval ⟨some d,.call { callee:=.value (.func f),args:=xs,argTypes:=at_ },ty,pos,af,none⟩).run Tryz.prog w=.ok (.enter f vs.toArray) w:=by
  simp [execOp,resolve,Act.eval,Deferred.ofValue,invoke,e1,og hf]
 unfold Oper.wp
 rw [hr,Oper.upon_enter]
 refine h.mono fun x w' hh=>?_
 obtain ⟨v,rfl,hk⟩:=hh
 exact hK _ _ (hk _ (ha.put hd))
theorem il {f:FuncId} {fo:Operand} {p q:Array Value} {xs:Array Operand} {at_:Array TypeId} {vs:List Value} {u:Unit} (hfo:ev e fo=some (.func (.func f) p q)) (hf:lk tu f=some u) (hx:sZ e xs.toList=some vs) (hd:Nat.blt d n=true)
 (h:Calls Tryz.prog f (p.toList++vs++q.toList).toArray w fun x w'=>∃ v,x=.returned v∧WL ops Q n ds rest ((d,v)::e) w') :
 WL ops Q n ds (⟨some d,.call { callee:=.value fo,args:=xs,argTypes:=at_ },ty,pos,af,none⟩::rest) e w:=fun a ha=>by
 refine wpList_plain rfl fun K hK=>?_
 have e1:xs.map a.eval=vs.toArray:=by rw [← ha.sZ hx];cases xs;simp
 have hr:(execOp a.eval ⟨some d,.call { callee:=.value fo,args:=xs,argTypes:=at_ },ty,pos,af,none⟩).run Tryz.prog w=.ok (.enter f (p.toList++vs++q.toList).toArray) w:=by
  simp only [execOp,resolve,ha.ev hfo,Deferred.ofValue,e1,Sem.run_bind,Sem.run_pure,Result.andThen_ok,invoke]
  rw [og hf]
  simp
 unfold Oper.wp
 rw [hr,Oper.upon_enter]
 refine h.mono fun x w' hh=>?_
 obtain ⟨v,rfl,hk⟩:=hh
 exact hK _ _ (hk _ (ha.put hd))
end
end
end Go.Proofs.YtecibefflhomdaaGreatDoor
abbrev Go.Proofs.YtecibefflhomdaaGreatDoor.Bs:=List UInt8
namespace Go.Proofs.YtecibefflhomdaaGreatDoor.Pure
open Go
def bM (N:Nat):Nat→Bs
 | 0=>[]
 | k+1=>UInt8.ofNat (N / 2^(8*k))::bM N k
@[simp] theorem aU (N:Nat):∀ k,(bM N k).length=k
 | 0=>rfl
 | k+1=>by simp [bM,aU N k]
def bE (s:Bs):Bs:=UInt8.ofNat s.length::s
@[simp] theorem dg (s:Bs):(bE s).length=s.length+1:=rfl
def kD (c:Nat):Nat:=(c / 2^1) ^^^ ((c &&& 1)*3988292384%4294967296)
def iter (f:Nat→Nat):Nat→Nat→Nat
 | 0,c=>c
 | k+1,c=>iter f k (f c)
def wc (c:Nat) (x:UInt8):Nat:=iter kD 8 (c ^^^ x.toNat)
def iS (c:Nat) (bs:Bs):Nat:=bs.foldl wc c
def we (bs:Bs):Nat:=4294967295-iS 4294967295 bs
theorem Fe {c:Nat} (h:c<4294967296):kD c<4294967296:=by
 unfold kD
 have h1:c / 2^1<2^32:=by omega
 have h2:(c &&& 1)*3988292384%4294967296<2^32:=Nat.mod_lt _ (by decide)
 exact Nat.xor_lt_two_pow h1 h2
theorem xL:∀ (k c:Nat),c<4294967296→iter kD k c<4294967296
 | 0,_,h=>h
 | k+1,c,h=>xL k _ (Fe h)
theorem wh (f:Nat→Nat):∀ (k c:Nat),iter f (k+1) c=f (iter f k c)
 | 0,_=>rfl
 | k+1,c=>by show iter f (k+1) (f c)=_;rw [wh f k (f c)];rfl
theorem sb {c:Nat} (h:c<4294967296) (x:UInt8):c ^^^ x.toNat<4294967296:=
 Nat.xor_lt_two_pow (n:=32) h (Nat.lt_of_lt_of_le x.toNat_lt (by decide))
theorem Ho {c:Nat} (h:c<4294967296) (x:UInt8):wc c x<4294967296:=xL 8 _ (sb h x)
theorem tz:∀ (bs:Bs) {c:Nat},c<4294967296→iS c bs<4294967296
 | [],_,h=>h
 | x::r,_,h=>tz r (Ho h x)
theorem tA (c:Nat) (a b:Bs):iS c (a++b)=iS (iS c a) b:=by simp [iS]
theorem BL (bs:Bs):we bs<4294967296:=by unfold we;omega
def aD (b:Bs):Bs:=bM b.length 4++bM (4294967295-b.length) 4++bM (we b) 4++b
@[simp] theorem bL (b:Bs):(aD b).length=12+b.length:=by simp [aD,aU];omega
structure az where
 key:Bs
 val:Bs
 del:Bool
 seq:Nat
deriving DecidableEq,Inhabited
def cY (e:az):Bs:=bE e.key++bM e.seq 8++(if e.del then [255] else bE e.val)
structure Rd where
 rest:Bs
 bad:Bool
def Rd.bytes (r:Rd) (n:Int):Bs×Rd:=
 if r.bad=true∨n<0∨(r.rest.length:Int)<n then ([],⟨r.rest,true⟩) else (r.rest.take n.toNat,⟨r.rest.drop n.toNat,false⟩)
def j3 (bs:Bs):Nat:=bs.foldl (fun n x=>n*256+x.toNat) 0
def Rd.num (r:Rd) (k:Nat):Nat×Rd:=(j3 (r.bytes k).1,(r.bytes k).2)
def Rd.text (r:Rd):Bs×Rd:=(r.num 1).2.bytes ((r.num 1).1:Int)
def Rd.entry (r:Rd):az×Rd:=
 let a:=r.text
 let b:=a.2.num 8
 if b.2.rest.head?=some 255 then (⟨a.1,[],true,b.1⟩,(b.2.bytes 1).2)
 else (⟨a.1,b.2.text.1,false,b.1⟩,b.2.text.2)
def bI (b:Bs):Option (Bs×Bs):=
 let n:=Rd.num ⟨b,false⟩ 4
 let t:=n.2.num 4
 let s:=t.2.num 4
 if n.1≠4294967295-t.1 then none else
 let i:=s.2.bytes (n.1:Int)
 if i.2.bad=true∨we i.1≠s.1 then none else some (i.1,i.2.rest)
theorem pd (a:Bs) (x:UInt8):j3 (a++[x])=j3 a*256+x.toNat:=by simp [j3]
theorem zk:∀ (bs:Bs) (n k:Nat),n<256^k→bs.foldl (fun n x=>n*256+x.toNat) n<256^(k+bs.length)
 | [],n,k,h=>h
 | x::r,n,k,h=>by
  have hx:=x.toNat_lt
  have h2:n*256+x.toNat<256^(k+1):=by rw [Nat.pow_succ];omega
  have:=zk r (n*256+x.toNat) (k+1) h2
  rw [List.length_cons,show k+(r.length+1)=k+1+r.length from by omega]
  exact this
theorem xM (bs:Bs):j3 bs<256^bs.length:=by
 have:=zk bs 0 0 (by decide)
 rwa [Nat.zero_add] at this
theorem Rd.oh (r:Rd) (n:Int):(r.bytes n).1.length≤n.toNat:=by
 unfold Rd.bytes;split
 ·simp
 ·simp;omega
theorem Rd.gK (r:Rd) (n:Int):(r.bytes n).2.rest.length≤r.rest.length:=by
 unfold Rd.bytes;split
 ·exact Nat.le_refl _
 ·simp
theorem Rd.kE (r:Rd) (k:Nat):(r.num k).1<256^k:=by
 have h1:=r.oh k
 have h2:=xM (r.bytes k).1
 exact Nat.lt_of_lt_of_le h2 (Nat.pow_le_pow_right (by decide) (by simpa using h1))
theorem Rd.di (r:Rd) (k:Nat):(r.num k).2.rest.length≤r.rest.length:=r.gK k
theorem Rd.iA (r:Rd):r.text.2.rest.length≤r.rest.length:=Nat.le_trans (Rd.gK _ _) (r.di 1)
end Go.Proofs.YtecibefflhomdaaGreatDoor.Pure
namespace Go.Proofs.YtecibefflhomdaaGreatDoor
open Go
section
attribute [local semireducible] WL WC WQ
abbrev bV (x:UInt8):Value:=.int .u8 x.toNat
theorem wrap_u8 (n:Nat):(.int .u8 (IntKind.u8.wrap (n:Int)):Value)=bV (UInt8.ofNat n):=by
 rw [IntKind.wrap_u8]
 simp [bV]
section
variable {ops:Array Oper} {Q:Exit→Act→World→Prop} {n:Nat} {ds:Md} {e:Env} {w w':World} {rest:List Oper}
variable {op:Op} {ty:TypeId} {pos:String} {af:Array Edge} {d:Nat}
theorem nq {x:Int} (hv:yv e op=some (.int .u64 (IntKind.u64.wrap x))) (h1:0≤x) (h2:x≤18446744073709551615) (hd:Nat.blt d n=true)
 (k:WL ops Q n ds rest ((d,.int .u64 x)::e) w):WL ops Q n ds (⟨some d,op,ty,pos,af,none⟩::rest) e w:=
 eO (by rw [hv,IntWalk.u64_in _ ⟨h1,h2⟩]) hd k
theorem q5 {x:Int} (hv:yv e op=some (.int .u32 (IntKind.u32.wrap x))) (h1:0≤x) (h2:x≤4294967295) (hd:Nat.blt d n=true)
 (k:WL ops Q n ds rest ((d,.int .u32 x)::e) w):WL ops Q n ds (⟨some d,op,ty,pos,af,none⟩::rest) e w:=
 eO (by rw [hv,IntWalk.u32_in _ ⟨h1,h2⟩]) hd k
theorem DD {m:Nat} (hv:yv e op=some (.int .u8 (IntKind.u8.wrap (m:Int)))) (hd:Nat.blt d n=true)
 (k:WL ops Q n ds rest ((d,bV (UInt8.ofNat m))::e) w):WL ops Q n ds (⟨some d,op,ty,pos,af,none⟩::rest) e w:=
 eO (by rw [hv,wrap_u8]) hd k
end
attribute [local irreducible] WL WC WQ
end
section
attribute [local semireducible] WL WC WQ
def aE (k:Nat) (v:Value) (E len:Nat) (cs:List Value):ah:=fun h=>
 cs.length=len*k∧(∀ u∈cs,dD u=true)∧((v=.slice none 0 0∧len=0) ∨
  ∃ b cap rest,v=.slice (some ⟨b,0,none⟩) len cap∧len≤cap∧cap≤maxLen∧rest.length=(cap-len)*k∧h b=some (false,.cells (cs++rest).toArray E (0,0)))
section
variable {W0 w w':World} {l r l':List ah} {k E len:Nat} {v:Value} {cs:List Value}
theorem Hq (h:Hp):aE k (.slice none 0 0) E 0 [] h:=⟨by simp,by simp,.inl ⟨rfl,rfl⟩⟩
theorem Sat.cP (h:Sat W0 l w):Sat W0 (aE k (.slice none 0 0) E 0 []::l) w:=
 h.imp fun hp r=>⟨fun _=>none,hp,fun _ _ _ hx=>(by cases hx),fun _ _ hx=>(by cases hx),Hp.le_refl _,Hq _,r⟩
theorem Sat.fQ {A:ah} {φ:Prop} (h:Sat W0 (A::l) w) (k:∀ h,A h→φ):φ:=by
 obtain ⟨_,_,_,_,hp,_,_,h1,_,_,_,_,ha,_⟩:=h
 exact k _ ha
theorem Sat.tB (h:Sat W0 (aE k v E len cs::l) w):cs.length=len*k:=h.fQ fun _ a=>a.1
theorem Sat.tC (h:Sat W0 (aE k v E len cs::l) w):∀ u∈cs,dD u=true:=h.fQ fun _ a=>a.2.1
theorem Sat.ay (h:Sat W0 (aE k v E len cs::l) w):∃ a cap,v=.slice a len cap∧len≤cap∧cap≤maxLen:=h.fQ fun _ a=>by
 rcases a.2.2 with ⟨rfl,rfl⟩|⟨b,cap,rest,rfl,h1,h2,_⟩
 ·exact ⟨none,0,rfl,Nat.le_refl _,by decide⟩
 ·exact ⟨_,cap,rfl,h1,h2⟩
theorem Sat.iT (h:Sat W0 (aE k v E len cs::l) w) (hn:v≠.slice none 0 0) :
 ∃ b cap rest,v=.slice (some ⟨b,0,none⟩) len cap∧len≤cap∧cap≤maxLen∧rest.length=(cap-len)*k∧Sat W0 (blk b E (cs++rest)::l) w:=by
 obtain ⟨a,b,c,d,hp,e,f,h1,h2,ff,l1,l2,ha,r⟩:=h
 rcases ha.2.2 with ⟨rfl,_⟩|⟨g,cap,rest,rfl,k1,k2,k3,k4⟩
 ·exact (hn rfl).elim
 ·exact ⟨g,cap,rest,rfl,k1,k2,k3,a,b,c,d,hp,e,f,h1,h2,ff,l1,l2,k4,r⟩
theorem Sat.dV (h:Sat W0 (aE k v E len cs::l) w) (hn:0<len) :
 ∃ b cap rest,v=.slice (some ⟨b,0,none⟩) len cap∧len≤cap∧cap≤maxLen∧rest.length=(cap-len)*k∧Sat W0 (blk b E (cs++rest)::l) w:=by
 refine h.iT fun hv=>?_
 subst hv
 obtain ⟨a,cap,h1,_⟩:=h.ay
 simp at h1;omega
theorem Sat.dK {b cap:Nat} {rest:List Value} (h:Sat W0 (blk b E (cs++rest)::l) w) (h1:len≤cap) (h2:cap≤maxLen) (h3:rest.length=(cap-len)*k) (h4:cs.length=len*k)
 (h5:∀ u∈cs,dD u=true):Sat W0 (aE k (.slice (some ⟨b,0,none⟩) len cap) E len cs::l) w:=
 h.head fun _ ha=>⟨h4,h5,.inr ⟨b,cap,rest,rfl,h1,h2,h3,ha⟩⟩
theorem Sat.Ow {g':Nat} {o':Obj} (h:Sat W0 l w) (hos:w'.os=w.os) (ht:w'.tape=w.tape) (ho:w'.output=w.output) (hsz:w.heap.size≤w'.heap.size)
 (hb:∀ i,i<w.heap.size→w'.heap[i]?=w.heap[i]?) (hg:w'.heap[g']?=some o') (hnew:w.heap.size≤g'):Sat W0 (ob false g' o'::l) w':=by
 obtain ⟨a,bb,c,d,hp,e,f,r⟩:=h
 have hlt:∀ i x,hp i=some x→i<w.heap.size:=fun i x hx=>(Array.getElem?_eq_some_iff.1 (e i x hx)).1
 have hfree:hp g'=none:=by
  cases hx:hp g' with
  | none=>rfl
  | some x=>have:=hlt _ _ hx;omega
 refine ⟨hos.trans a,ht.trans bb,ho.trans c,Nat.le_trans d hsz,fun i=>if i=g' then some (false,o') else hp i,?_,?_,fun i=>if i=g' then some (false,o') else none,hp,?_,?_,?_,by simp [ob],r⟩
 ·intro i x hx
  by_cases hi:i=g'
  ·subst hi;simp at hx;subst hx;exact hg
  ·simp [hi] at hx;rw [hb i (hlt _ _ hx)];exact e i x hx
 ·intro i o'' hi'
  have hlt':i<W0.heap.size:=(Array.getElem?_eq_some_iff.1 hi').1
  have h2:i≠g':=by omega
  simp [h2,f i o'' hi']
 ·intro i x y hx hy
  by_cases hi:i=g'
  ·subst hi;rw [hfree] at hy;cases hy
  ·simp [hi] at hx
 ·intro i x hx
  by_cases hi:i=g'
  ·simpa [hi] using hx
  ·simp [hi] at hx
 ·intro i x hx
  by_cases hi:i=g'
  ·subst hi;rw [hfree] at hx;cases hx
  ·simp [hi];exact hx
def xN (k:Nat) (tx:TypeId) (x:Value) (m:Nat) (news:List Value) (l:List ah):Prop:=∀ W0 w,Sat W0 l w→Src Tryz.prog k tx x m news w
theorem BM {u:Value} (h:dD u=true):u.oneCell'=true:=(gJ h).2
theorem BN {sh:Bool} {tx e' b o m c E':Nat} {all news:List Value} (hk:lk dy tx=some e') (t:Take (ob sh b (.cells all.toArray E' (0,0))) l r) (hl:news.length=m*k)
 (hn:∀ j u,news[j]?=some u→all[o+j]?=some u) (h1:∀ u∈news,dD u=true):xN k tx (.slice (some ⟨b,o,none⟩) m c) m news l:=fun _ w h=>
 Src.ofSlice w (bX hk) _ _ _ _ hl (fun j u hu=>by rw [add_eq,h.cell t];exact hn j u hu) (fun u hu=>BM (h1 u hu))
theorem q6 {tx e' m:Nat} {x:Value} {news:List Value} {E':Nat} (hk:lk dy tx=some e') (t:Take (aE k x E' m news) l r):xN k tx x m news l:=fun W0 w h=>by
 have h':=h.take t
 have hlen:=h'.tB
 have hone:=h'.tC
 by_cases hv:x=.slice none 0 0
 ·subst hv
  obtain ⟨a,cap,e,_⟩:=h'.ay
  simp at e;obtain ⟨_,rfl,_⟩:=e
  have:news=[]:=List.eq_nil_of_length_eq_zero (by simpa using hlen)
  subst this
  exact Src.ofNil w (bX hk) 0
 ·obtain ⟨b,cap,rest,rfl,k1,k2,k3,hs⟩:=h'.iT hv
  refine Src.ofSlice w (bX hk) _ _ _ _ hlen (fun j u hu=>?_) (fun u hu=>BM (hone u hu))
  have hj:=(List.getElem?_eq_some_iff.1 hu).1
  rw [add_eq,hs.cell .here,Nat.zero_add,List.getElem?_append_left hj];exact hu
theorem LR {tx:Nat} {u:Unit} {s:List UInt8} (hk:lk vE tx=some u):xN 1 tx (str s) s.length (s.map fun b=>.int .u8 b.toNat) l:=fun _ w _=>Src.ofString w (iO hk) ⟨s.toArray⟩
set_option maxRecDepth 100000 in
theorem Sat.append {t tx ty m by_:Nat} {x:Value} {news:List Value} (h:Sat W0 l w) (tk:Take (aE k v E len cs) l r) (src:xN k tx x m news l) (ht:lk dy t=some E) (hsz:lk df E=some k) (hby:lk qY E=some by_)
 {z:List Value} (hz:lk js E=some z) (hzl:z.length=k) (hm:len+m≤maxLen) (hb:(len+m)*by_≤140737488355328) :
 ∃ v' w',(Builtin.append_ #[t,tx] ty #[v,x]).run Tryz.prog w=.ok v' w'∧Sat W0 (aE k v' E (len+m) (cs++news)::r) w':=by
 have hsrc:=src W0 w h
 have h':=h.take tk
 have hlen:=h'.tB
 have hone:=h'.tC
 obtain ⟨i,hi,rfl⟩:=mw hsz
 have hby':i.bytes=by_:=by have:=EW hby;unfold Bx at this;rw [hi] at this;simpa using this
 obtain ⟨zv,hzv,hzc⟩:∃ zv,i.zero=some zv∧zv.cells=z.toArray:=by
  have:=zd hz
  unfold Dx at this
  simp only [Option.map_eq_some_iff,Option.bind_eq_some_iff] at this
  obtain ⟨v,⟨j,hj,hv⟩,rfl⟩:=this
  rw [hi] at hj;cases hj
  exact ⟨v,hv,by simp⟩
 subst hby'
 have honen:∀ u∈news,dD u=true:=fun u hu=>by
  have:=hsrc.one u hu
  cases u<;>first|rfl|simp [Value.oneCell'] at this
 have honea:∀ u∈cs++news,dD u=true:=fun u hu=>by
  rcases List.mem_append.1 hu with h|h
  ·exact hone u h
  ·exact honen u h
 have hlena:(cs++news).length=(len+m)*i.size:=by rw [List.length_append,hlen,hsrc.newsLen,Nat.add_mul]
 have hu:=bX ht
 have hsmall:((len+m:Nat):Int)≤9223372036854775807:=by simp only [maxLen] at hm;omega
 have hcap:=fun old=>grownCap_ge w (len+m) old E
 have hcapm:=fun old=>grownCap_le_maxLen w (len+m) old E hm
 have hzz:∀ N,(Builtin.zeroCells zv.cells N).toList.length=N*i.size:=fun N=>by
  rw [Array.length_toList,size_zeroCells,hzc,List.size_toArray,hzl]
 have grown:∀ old,∀ w'',w''=w.drew.alloc (.cells ((cs++news).toArray++Builtin.zeroCells zv.cells (grownCap w (len+m) old E-(len+m))) E)→∀ l',Sat W0 l' w →
  Sat W0 (aE i.size (.slice (some ⟨w.heap.size,0,none⟩) (len+m) (grownCap w (len+m) old E)) E (len+m) (cs++news)::l') w'':=by
  rintro old _ rfl l' hs
  refine Sat.dK (b:=w.heap.size) (rest:=(Builtin.zeroCells zv.cells (grownCap w (len+m) old E-(len+m))).toList) ?_ (hcap old) (hcapm old) (hzz _) hlena honea
  have e:((cs++news)++(Builtin.zeroCells zv.cells (grownCap w (len+m) old E-(len+m))).toList).toArray=(cs++news).toArray++Builtin.zeroCells zv.cells (grownCap w (len+m) old E-(len+m)):=by
   apply Array.ext';simp
  refine hs.Ow rfl rfl rfl (by simp) (fun j hj=>heap_alloc_old w.drew _ j hj) ?_ (Nat.le_refl _)
  rw [e]
  exact heap_alloc_new w.drew _
 by_cases hv:v=.slice none 0 0
 ·subst hv
  obtain ⟨a,cap,e,_⟩:=h'.ay
  simp only [Value.slice.injEq] at e;obtain ⟨_,rfl,rfl⟩:=e
  have hcs:cs=[]:=List.eq_nil_of_length_eq_zero (by simpa using hlen)
  subst hcs
  by_cases hm0:m=0
  ·subst hm0
   have hn:news=[]:=List.eq_nil_of_length_eq_zero (by simpa using hsrc.newsLen)
   subst hn
   refine ⟨.slice none 0 0,w,?_,by simpa using h'⟩
   rcases hsrc.kind with ⟨e',hk⟩|hk<;>simp [Builtin.append_,run_underlying hu,run_underlying hk,sizeOf,typeInfo,hi,hsrc.len,hsrc.cells]
  ·have hrun:=run_append_grow_src (P:=Tryz.prog) w t tx ty E i zv hu hi hzv none 0 0 [] (run_firstCells_none w.drew i.size 0 0 0) x m news hsrc (by omega) hsmall (by
    have:=growslice_fits (need:=0+m) (old:=0) (bytes:=i.bytes) (by omega) hb;exact this)
   refine ⟨_,_,hrun,?_⟩
   have:=grown 0 _ rfl r h'.drop
   simpa using this
 ·obtain ⟨b,cap,rest,rfl,k1,k2,k3,hs⟩:=h'.iT hv
  have hcell:=fun j=>hs.cell (.here) j
  by_cases hroom:len+m≤cap
  ·have hrl:news.length≤rest.length:=by
    rw [hsrc.newsLen,k3];exact Nat.mul_le_mul_right _ (by omega)
   have hrun:=run_append_room_src (P:=Tryz.prog) w t tx ty E i hu hi b 0 len cap x m news hsrc hroom
    (fun j hj=>by rw [hcell,Nat.zero_add,← hlen,List.getElem?_append_right (by omega),Nat.add_sub_cancel_left,List.getElem?_eq_getElem (by omega)];rfl)
    (fun j hj=>hs.free .here _)
   refine ⟨_,_,hrun,?_⟩
   have hst:=run_storeCells_at Tryz.prog b (0+len*i.size) E news 0 (cs++rest).toArray w hs.fC (by simp [hlen];omega) hsrc.one
   have hst2:=run_storeCells_cells (P:=Tryz.prog) b (0+len*i.size) news 0 w (fun j hj=>by rw [hcell,Nat.zero_add,← hlen,Nat.add_zero,List.getElem?_append_right (by omega),Nat.add_sub_cancel_left,List.getElem?_eq_getElem (by omega)];rfl)
    (fun j hj=>hs.free .here _) hsrc.one
   rw [hst] at hst2
   simp only [Nat.add_zero,Nat.zero_add,Result.ok.injEq,true_and] at hst2
   rw [Nat.zero_add,← hst2]
   have e2:(List.take (len*i.size) (cs++rest).toArray.toList++news++List.drop (len*i.size+news.length) (cs++rest).toArray.toList)=(cs++news)++rest.drop news.length:=by
    simp only [← hlen]
    rw [List.take_left,List.drop_append,List.drop_of_length_le (by omega),Nat.add_sub_cancel_left,List.nil_append]
   rw [e2]
   refine Sat.dK (rest:=rest.drop news.length) ?_ hroom k2 (by rw [List.length_drop,k3,hsrc.newsLen,← Nat.sub_mul];congr 1;omega) hlena honea
   exact Sat.kx hs rfl rfl rfl (by simp [World.setRow]) (setRow_heap w b _ _ _ _ hs.fC) fun i hi=>setRow_other w b i _ hi
  ·have hfc:=run_firstCells_some (P:=Tryz.prog) w.drew i.size len ⟨b,0,none⟩ len cap cs hlen (fun j u hu=>by
    have hj:=(List.getElem?_eq_some_iff.1 hu).1
    show w.cell? _=_
    rw [add_eq,hcell,Nat.zero_add,List.getElem?_append_left hj];exact hu)
   have hrun:=run_append_grow_src (P:=Tryz.prog) w t tx ty E i zv hu hi hzv (some ⟨b,0,none⟩) len cap cs hfc x m news hsrc (by omega) hsmall (growslice_fits (by omega) hb)
   exact ⟨_,_,hrun,grown cap _ rfl r h'.drop⟩
end
end
end Go.Proofs.YtecibefflhomdaaGreatDoor
