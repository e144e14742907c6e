/-
  Part 2: The engine 2 frames as lists of known slots; The engine 3 'yv' is right; The engine 4 the judgements over frames.
-/
import Derived.Test.YtecibefflhomdaaGreatDoorY01
import Derived.Laws.Entries
import Derived.Laws.Strings
import Derived.Laws.Sem
import Derived.Laws.Unary
import Derived.Laws.Cells
import Derived.Laws.CopyRow
import Derived.Laws.Tables
import Derived.Defers
import Derived.Orders
import Derived.OrdersHeld
import Derived.TacticsIn
import Derived.CallsIn
import Derived.RangeFuncIn
set_option maxHeartbeats 8000000
set_option maxRecDepth 100000
set_option linter.all false
namespace Go.Proofs.YtecibefflhomdaaGreatDoor
open Go
abbrev Env:=List (Nat×Value)
structure Md where
 round:Option Nat
 ds:List Deferred
abbrev LP:Md:=⟨none,[]⟩
structure Fr (n:Nat) (ds:Md) (e:Env) (a:Act):Prop where
 size:a.tmps.size=n
 defers:a.defers=ds.ds
 get:∀ t v,lk e t=some v→a.tmps[t]?=some v
theorem Fr.put {n:Nat} {ds:Md} {e:Env} {a:Act} (h:Fr n ds e a) {d:Nat} {v:Value} (hd:Nat.blt d n=true):Fr n ds ((d,v)::e) (a.put (some d) v):=by
 have hd':d<n:=by simpa [Nat.blt_eq] using hd
 refine ⟨by simpa [Act.put] using h.size,h.defers,fun t u hu=>?_⟩
 unfold lk at hu
 simp only [Act.put]
 cases hk:Nat.beq d t with
 | true=>
  rw [hk] at hu
  simp only [cond_true,Option.some.injEq] at hu
  subst hu
  have:=Nat.eq_of_beq_eq_true hk
  subst this
  simp [h.size,hd']
 | false=>
  rw [hk] at hu
  have hne:d≠t:=Nat.ne_of_beq_eq_false hk
  rw [Array.getElem?_setIfInBounds_ne hne]
  exact h.get t u hu
def Sub:Env→Env→Prop
 | [],_=>True
 | (t,v)::r,e=>lk e t=some v∧Sub r e
theorem Sub.get:∀ {r e:Env},Sub r e→∀ t v,lk r t=some v→lk e t=some v
 | (k,u)::r,e,⟨h,hr⟩,t,v,hv=>by
  unfold lk at hv
  cases hk:Nat.beq k t with
  | true=>rw [hk] at hv;simp at hv;subst hv;have:=Nat.eq_of_beq_eq_true hk;subst this;exact h
  | false=>rw [hk] at hv;exact hr.get t v hv
theorem Fr.sub {n:Nat} {ds:Md} {e r:Env} {a:Act} (h:Fr n ds e a) (hs:Sub r e):Fr n ds r a:=
 ⟨h.size,h.defers,fun t v hv=>h.get t v (hs.get t v hv)⟩
def ev (e:Env):Operand→Option Value
 | .tmp t=>lk e t
 | .const v=>some v
 | .global g=>some (.pointer (some ⟨g,0,none⟩))
 | .func f=>some (.func (.func f) #[] #[])
theorem Fr.ev {n:Nat} {ds:Md} {e:Env} {a:Act} (h:Fr n ds e a) {x:Operand} {v:Value} (k:ev e x=some v):a.eval x=v:=by
 cases x with
 | tmp t=>simp only [YtecibefflhomdaaGreatDoor.ev] at k;simp [Act.eval,h.get t v k]
 | const u=>simpa [YtecibefflhomdaaGreatDoor.ev,Act.eval] using k
 | global g=>simpa [YtecibefflhomdaaGreatDoor.ev,Act.eval] using k
 | func f=>simpa [YtecibefflhomdaaGreatDoor.ev,Act.eval] using k
def sZ (e:Env):List Operand→Option (List Value)
 | []=>some []
 | x::r=>match ev e x with
  | some v=>match sZ e r with
   | some vs=>some (v::vs)
   | none=>none
  | none=>none
theorem Fr.sZ {n:Nat} {ds:Md} {e:Env} {a:Act} (h:Fr n ds e a):∀ {xs:List Operand} {vs:List Value},sZ e xs=some vs→xs.map a.eval=vs
 | [],vs,k=>by simpa [YtecibefflhomdaaGreatDoor.sZ] using k
 | x::r,vs,k=>by
  unfold YtecibefflhomdaaGreatDoor.sZ at k
  split at k
  ·rename_i v hv
   split at k
   ·rename_i us hu
    simp only [Option.some.injEq] at k
    subst k
    simp [h.ev hv,h.sZ hu]
   ·cases k
  ·cases k
abbrev str (l:List UInt8):Value:=.string ⟨l.toArray⟩
def r9:IntKind→IntKind→Bool
 | .i8,.i8 | .i16,.i16 | .i32,.i32 | .i64,.i64 | .u8,.u8 | .u16,.u16 | .u32,.u32 | .u64,.u64=>true
 | _,_=>false
theorem He {a b:IntKind} (h:r9 a b=true):a=b:=by cases a<;>cases b<;>simp [r9] at h<;>rfl
def o8:List UInt8→List UInt8→Bool
 | _,[]=>false
 | [],_::_=>true
 | a::x,b::y=>decide (a<b)||(decide (a=b)&&o8 x y)
theorem Hf:∀ x y,Op.bytesLess x y=o8 x y
 | [],[]=>rfl
 | _::_,[]=>rfl
 | [],_::_=>rfl
 | a::x,b::y=>by
  simp only [Op.bytesLess,o8,Hf x y];rfl
theorem xJ (a:UInt8):¬ a<a:=by simp
theorem vX:∀ x y:List UInt8,(o8 x y||decide (x=y))=!o8 y x
 | [],[]=>by simp [o8]
 | _::_,[]=>by simp [o8]
 | [],_::_=>by simp [o8]
 | a::x,b::y=>by
  have ih:=vX x y
  have hlt:decide (a<b)=(!decide (b<a)&&!decide (b=a)):=by
   rw [Bool.eq_iff_iff];simp only [Bool.and_eq_true,Bool.not_eq_true',decide_eq_true_eq,decide_eq_false_iff_not,UInt8.lt_iff_toNat_lt,← UInt8.toNat_inj];omega
  by_cases e:a=b
  ·subst e
   simp only [o8,List.cons.injEq,true_and,decide_true,Bool.true_and,xJ,decide_false,Bool.false_or]
   exact ih
  ·have e':¬ b=a:=fun h=>e h.symm
   simp [o8,hlt,e,e']
def bv (op:BinOp):Value→Value→Option Value
 | .int k a,.int k' b=>bif r9 k k' then
  match op with
  | .add=>some (.int k (k.wrap (a+b)))
  | .sub=>some (.int k (k.wrap (a-b)))
  | .mul=>some (.int k (k.wrap (a*b)))
  | .eql=>some (.bool (decide (a=b)))
  | .neq=>some (.bool (decide (a≠b)))
  | .lss=>some (.bool (decide (a<b)))
  | .leq=>some (.bool (decide (a≤b)))
  | .gtr=>some (.bool (decide (b<a)))
  | .geq=>some (.bool (decide (b≤a)))
  | _=>none
  else none
 | .string ⟨⟨x⟩⟩,.string ⟨⟨y⟩⟩=>match op with
  | .eql=>some (.bool (decide (x=y)))
  | .neq=>some (.bool (decide (x≠y)))
  | .lss=>some (.bool (o8 x y))
  | .leq=>some (.bool (!o8 y x))
  | .gtr=>some (.bool (o8 y x))
  | .geq=>some (.bool (!o8 x y))
  | _=>none
 | _,_=>none
def nv (op:BinOp) (t:TypeId) (x:Value):Value→Option Value
 | .nilIface=>match lk tj t with
  | some _=>match x,op with
   | .nilIface,.eql=>some (.bool true) | .nilIface,.neq=>some (.bool false)
   | .iface _ _,.eql=>some (.bool false) | .iface _ _,.neq=>some (.bool true)
   | _,_=>none
  | none=>none
 | .pointer none=>match lk G2 t with
  | some _=>match x,op with
   | .pointer none,.eql=>some (.bool true) | .pointer none,.neq=>some (.bool false)
   | .pointer (some _),.eql=>some (.bool false) | .pointer (some _),.neq=>some (.bool true)
   | _,_=>none
  | none=>none
 | .slice none _ _=>match lk dy t with
  | some _=>match x,op with
   | .slice none _ _,.eql=>some (.bool true) | .slice none _ _,.neq=>some (.bool false)
   | .slice (some _) _ _,.eql=>some (.bool false) | .slice (some _) _ _,.neq=>some (.bool true)
   | _,_=>none
  | none=>none
 | _=>none
def J3 (s f:Nat):Option Nat:=match lk JV s with
 | some l=>match l[f]? with
  | some (some o)=>some o
  | _=>none
 | none=>none
def yv (e:Env):Op→Option Value
 | .move x | .assign x=>ev e x
 | .pick c a b=>match ev e c with
  | some (.bool true)=>ev e a
  | some (.bool false)=>ev e b
  | _=>none
 | .nilCheck x=>match ev e x with
  | some (.pointer (some a))=>some (.pointer (some a))
  | some (.iface t v)=>some (.iface t v)
  | some (.func (.func f) p q)=>some (.func (.func f) p q)
  | _=>none
 | .binOp op t x y _=>match ev e x,ev e y with
  | some a,some b=>match bv op a b with
   | some v=>some v
   | none=>match y with
    | .const c=>nv op t a c
    | _=>none
  | _,_=>none
 | .unOp .not _ x=>match ev e x with
  | some (.bool b)=>some (.bool (!b))
  | _=>none
 | .convert s d x=>match lk EU s,lk EU d,ev e x with
  | some _,some k,some (.int _ n)=>some (.int k (k.wrap n))
  | _,_,_=>none
 | .makeInterface t x=>match lk za t,ev e x with
  | some _,some v=>some (.iface t v)
  | _,_=>none
 | .makeFunc (.func f) first cap=>match sZ e first.toList,sZ e cap.toList with
  | some p,some q=>some (.func (.func f) p.toArray q.toArray)
  | _,_=>none
 | .fieldAddr s x f=>match J3 s f,ev e x with
  | some off,some (.pointer (some ⟨b,o,none⟩))=>some (.pointer (some ⟨b,o+off,none⟩))
  | _,_=>none
 | .extract x i=>match ev e x with
  | some (.tuple vs)=>vs.toList[i]?
  | _=>none
 | .call { callee:=.builtin .len,args,argTypes }=>match args.toList,argTypes.toList with
  | [x],[t]=>match ev e x with
   | some (.slice _ n _)=>match lk dy t with
    | some _=>some (.int .i64 n)
    | none=>none
   | some (.string ⟨⟨l⟩⟩)=>match lk vE t with
    | some _=>some (.int .i64 l.length)
    | none=>none
   | _=>none
  | _,_=>none
 | .call { callee:=.builtin .min,args,.. }=>match args.toList with
  | [x,y]=>match ev e x,ev e y with
   | some (.int k a),some (.int k' b)=>bif r9 k k' then some (.int k (min a b)) else none
   | _,_=>none
  | _=>none
 | .call { callee:=.builtin .max,args,.. }=>match args.toList with
  | [x,y]=>match ev e x,ev e y with
   | some (.int k a),some (.int k' b)=>bif r9 k k' then some (.int k (max a b)) else none
   | _,_=>none
  | _=>none
 | _=>none
section
variable {n:Nat} {ds:Md} {e:Env} {a:Act} {w:World}
theorem cB {t:Nat} {d:TypeDesc} (h:Tryz.prog.underlying t=some d):(underlying t).run Tryz.prog w=.ok d w:=run_underlying h w
theorem kz {t:Nat} {k:IntKind} (h:lk EU t=some k):Tryz.prog.underlying t=some (.int k):=by
 have:=JY h;unfold LK at this;split at this<;>simp_all
theorem bX {t:Nat} {k:Nat} (h:lk dy t=some k):Tryz.prog.underlying t=some (.slice k):=by
 have:=EZ h;unfold BA at this;split at this<;>simp_all
theorem Hg {t:Nat} {k:Nat} (h:lk G2 t=some k):Tryz.prog.underlying t=some (.pointer k):=by
 have:=J0 h;unfold LM at this;split at this<;>simp_all
theorem iM {t:Nat} {k:Nat×Nat} (h:lk vD t=some k):Tryz.prog.underlying t=some (.map k.1 k.2):=by
 have:=J1 h;unfold LN at this;split at this
 ·rename_i hx;simp only [Option.some.injEq] at this;subst this;exact hx
 ·cases this
theorem lM {t:Nat} {k:Nat×Nat} (h:lk vC t=some k):Tryz.prog.underlying t=some (.array k.1 k.2):=by
 have:=JZ h;unfold LL at this;split at this
 ·rename_i hx;simp only [Option.some.injEq] at this;subst this;exact hx
 ·cases this
theorem iO {t:Nat} {k:Unit} (h:lk vE t=some k):Tryz.prog.underlying t=some .string:=by
 have:=J2 h;unfold LO at this;split at this<;>simp_all
theorem BG {t:Nat} {k:Unit} (h:lk tj t=some k):∃ ms,Tryz.prog.underlying t=some (.interface ms):=by
 have:=E1 h;unfold BB at this;split at this<;>simp_all
theorem mw {t:Nat} {k:Nat} (h:lk df t=some k):∃ i,Tryz.prog.info? t=some i∧i.size=k:=by
 have:=G5 h;unfold G4 at this;simpa using this
theorem E4 {t:Nat} {k:Unit} (h:lk za t=some k):∃ d,Tryz.prog.underlying t=some d∧∀ ms,d≠.interface ms:=by
 have:=Hd h;unfold G3 at this;split at this
 ·cases this
 ·rename_i d hne hd;exact ⟨d,hd,fun ms hm=>hne ms hm⟩
 ·cases this
theorem E5 {s f off:Nat} (h:J3 s f=some off):∃ fs fd,Tryz.prog.underlying s=some (.struct fs)∧fs[f]?=some fd∧fd.offset=off∧Tryz.prog.cellsOf fd.type≠0:=by
 unfold J3 at h
 split at h
 ·rename_i l hl
  have hk:=JX hl
  unfold LJ at hk
  split at hk
  ·rename_i fs hfs
   simp only [Option.some.injEq] at hk
   subst hk
   split at h
   ·rename_i o ho
    simp only [Option.some.injEq] at h
    subst h
    simp only [List.getElem?_map,Option.map_eq_some_iff,Array.getElem?_toList] at ho
    obtain ⟨fd,hfd,hx⟩:=ho
    split at hx
    ·cases hx
    ·rename_i hne
     simp only [Option.some.injEq] at hx
     exact ⟨fs,fd,hfs,hfd,hx,hne⟩
   ·cases h
  ·cases hk
 ·cases h
theorem dq {t:Nat} {k:Nat} (h:lk df t=some k):(sizeOf t).run Tryz.prog w=.ok k w:=by
 obtain ⟨i,hi,rfl⟩:=mw h;simp [sizeOf,typeInfo,hi]
end
theorem J4 (p q:List UInt8):(p==q)=decide (p=q):=by rw [Bool.eq_iff_iff];simp
theorem Hh {op:BinOp} {t:TypeId} {x y v:Value} {w:World} (h:bv op x y=some v):(Go.binOp op t x y).run Tryz.prog w=.ok v w:=by
 unfold bv at h
 split at h
 ·rename_i k p k' q
  cases hk:r9 k k' with
  | false=>rw [hk] at h;cases h
  | true=>
   rw [hk] at h
   have:=He hk
   subst this
   cases op<;>simp only [cond_true,Option.some.injEq,reduceCtorEq] at h<;>subst h<;>simp [Go.binOp,Op.intArith,Op.intCmp,bne]<;>rfl
 ·rename_i p q
  have ht:=vX p q
  cases op<;>simp only [Option.some.injEq,reduceCtorEq] at h<;>subst h<;>simp [Go.binOp,Op.stringOp,Hf,J4,ht]
 ·cases h
theorem BH (k:Nat) {t:TypeId} {x y:Value} {w:World} {d:TypeDesc} (hu:Tryz.prog.underlying t=some d) {b:Bool}
 (h:(match d,x,y with
   | .interface _,.nilIface,.nilIface=>some true
   | .interface _,.nilIface,.iface _ _=>some false
   | .interface _,.iface _ _,.nilIface=>some false
   | .pointer _,.pointer none,.pointer b=>some b.isNone
   | .pointer _,.pointer (some _),.pointer none=>some false
   | .slice _,.slice none _ _,.slice b _ _=>some b.isNone
   | .slice _,.slice (some _) _ _,.slice none _ _=>some false
   | _,_,_=>none)=some b):(Op.equalIn (k+1) t x y).run Tryz.prog w=.ok b w:=by
 unfold Op.equalIn
 simp only [Sem.run_bind,cB hu,Result.andThen_ok]
 split at h<;>simp only [Option.some.injEq,reduceCtorEq] at h<;>subst h<;>rfl
theorem gq {t:TypeId} {x y:Value} {w:World} {d:TypeDesc} (hu:Tryz.prog.underlying t=some d) {b:Bool}
 (h:(match d,x,y with
   | .interface _,.nilIface,.nilIface=>some true
   | .interface _,.nilIface,.iface _ _=>some false
   | .interface _,.iface _ _,.nilIface=>some false
   | .pointer _,.pointer none,.pointer b=>some b.isNone
   | .pointer _,.pointer (some _),.pointer none=>some false
   | .slice _,.slice none _ _,.slice b _ _=>some b.isNone
   | .slice _,.slice (some _) _ _,.slice none _ _=>some false
   | _,_,_=>none)=some b):(Op.equal t x y).run Tryz.prog w=.ok b w:=BH 9999 hu h
theorem binOp_eql {t:TypeId} {x y:Value} {w:World} {b:Bool} (h:(Op.equal t x y).run Tryz.prog w=.ok b w) (hx:(∃ u,x=.pointer u)∨(∃ a l c,x=.slice a l c)∨x=.nilIface∨∃ u v,x=.iface u v) :
 (Go.binOp .eql t x y).run Tryz.prog w=.ok (.bool b) w:=by
 rcases hx with ⟨u,rfl⟩|⟨u,l,c,rfl⟩|rfl|⟨u,v,rfl⟩<;>simp [Go.binOp,h]
theorem binOp_neq {t:TypeId} {x y:Value} {w:World} {b:Bool} (h:(Op.equal t x y).run Tryz.prog w=.ok b w) (hx:(∃ u,x=.pointer u)∨(∃ a l c,x=.slice a l c)∨x=.nilIface∨∃ u v,x=.iface u v) :
 (Go.binOp .neq t x y).run Tryz.prog w=.ok (.bool (!b)) w:=by
 rcases hx with ⟨u,rfl⟩|⟨u,l,c,rfl⟩|rfl|⟨u,v,rfl⟩<;>simp [Go.binOp,h]
theorem Hi {op:BinOp} {t:TypeId} {x y v:Value} {w:World} (h:nv op t x y=some v):(Go.binOp op t x y).run Tryz.prog w=.ok v w:=by
 unfold nv at h
 split at h
 ·split at h
  ·rename_i hk
   obtain ⟨ms,hu⟩:=BG hk
   split at h<;>simp only [Option.some.injEq,reduceCtorEq] at h<;>subst h
   ·exact binOp_eql (b:=true) (gq hu rfl) (by simp)
   ·exact binOp_neq (b:=true) (gq hu rfl) (by simp)
   ·exact binOp_eql (b:=false) (gq hu rfl) (by simp)
   ·exact binOp_neq (b:=false) (gq hu rfl) (by simp)
  ·cases h
 ·split at h
  ·rename_i hk
   have hu:=Hg hk
   split at h<;>simp only [Option.some.injEq,reduceCtorEq] at h<;>subst h
   ·exact binOp_eql (b:=true) (gq hu rfl) (by simp)
   ·exact binOp_neq (b:=true) (gq hu rfl) (by simp)
   ·exact binOp_eql (b:=false) (gq hu rfl) (by simp)
   ·exact binOp_neq (b:=false) (gq hu rfl) (by simp)
  ·cases h
 ·split at h
  ·rename_i hk
   have hu:=bX hk
   split at h<;>simp only [Option.some.injEq,reduceCtorEq] at h<;>subst h
   ·exact binOp_eql (b:=true) (gq hu rfl) (by simp)
   ·exact binOp_neq (b:=true) (gq hu rfl) (by simp)
   ·exact binOp_eql (b:=false) (gq hu rfl) (by simp)
   ·exact binOp_neq (b:=false) (gq hu rfl) (by simp)
  ·cases h
 ·cases h
theorem E6 {op:BinOp} {t:TypeId} {x y:Operand} {p q v:Value} {w:World} (h:bv op p q=some v):(eqGuard op t x y p q).run Tryz.prog w=.ok () w:=by
 unfold bv at h
 split at h
 ·simp only [eqGuard];split<;>simp
 ·simp only [eqGuard];split<;>simp
 ·cases h
theorem E7 {op:BinOp} {t:TypeId} {x:Operand} {p q v:Value} {w:World} (h:nv op t p q=some v):(eqGuard op t x (.const q) p q).run Tryz.prog w=.ok () w:=by
 unfold nv at h
 split at h
 ·cases p<;>simp only [eqGuard]<;>split<;>simp
 ·cases p<;>simp only [eqGuard]<;>split<;>simp
 ·cases p<;>simp only [eqGuard]<;>split<;>simp
 ·cases h
section
variable {n:Nat} {ds:Md} {e:Env} {a:Act} {w:World}
theorem ze {s f off:Nat} {b o:Nat} (h:J3 s f=some off):(Instr.fieldAt s (.pointer (some ⟨b,o,none⟩)) f).run Tryz.prog w=.ok (.pointer (some ⟨b,o+off,none⟩)) w:=by
 obtain ⟨fs,fd,hu,hf,rfl,hc⟩:=E5 h
 have hr:=cB (w:=w) hu
 have hsz:(sizeOf fd.type).run Tryz.prog w=.ok (Tryz.prog.cellsOf fd.type) w:=by
  unfold Program.cellsOf at hc ⊢
  cases hi:Tryz.prog.info? fd.type with
  | none=>rw [hi] at hc;simp at hc
  | some i=>simp [sizeOf,typeInfo,hi]
 have hadd:∀ k:Nat,(⟨b,o,none⟩:Addr).add k=⟨b,o+k,none⟩:=by intro k;unfold Addr.add;split<;>simp_all
 simp [Instr.fieldAt,hr,hf,Instr.sureAddr,fieldPlace,hsz,hc,hadd]
theorem nj {o:Oper} {v:Value} (hf:Fr n ds e a) (h:yv e o.op=some v):(execOp a.eval o).run Tryz.prog w=.ok (.value v) w:=by
 obtain ⟨dst,op,ty,pos,after,guard⟩:=o
 simp only at h
 unfold yv at h
 split at h
 ·have:=hf.ev h;simp [execOp,this]
 ·have:=hf.ev h;simp [execOp,this]
 ·
  split at h
  ·rename_i hc;have:=hf.ev hc;have h2:=hf.ev h;simp [execOp,this,h2,asBool]
  ·rename_i hc;have:=hf.ev hc;have h2:=hf.ev h;simp [execOp,this,h2,asBool]
  ·cases h
 ·
  split at h
  ·rename_i hc;have:=hf.ev hc;simp only [Option.some.injEq] at h;subst h;simp [execOp,this]
  ·rename_i hc;have:=hf.ev hc;simp only [Option.some.injEq] at h;subst h;simp [execOp,this]
  ·rename_i hc;have:=hf.ev hc;simp only [Option.some.injEq] at h;subst h;simp [execOp,this]
  ·cases h
 ·
  split at h
  ·rename_i p q hp hq
   have h1:=hf.ev hp
   have h2:=hf.ev hq
   split at h
   ·rename_i u hu
    simp only [Option.some.injEq] at h;subst h
    simp [execOp,h1,h2,E6 hu,Hh hu]
   ·split at h
    ·rename_i c
     have e2:q=c:=by simpa [ev] using hq.symm
     subst e2
     simp [execOp,h1,h2,E7 h,Hi h]
    ·cases h
  ·cases h
 ·
  split at h
  ·rename_i hc;have:=hf.ev hc;simp only [Option.some.injEq] at h;subst h;simp [execOp,this,Op.unary]
  ·cases h
 ·
  split at h
  ·rename_i k1 k2 m hs hd hx
   have h1:=hf.ev hx
   simp only [Option.some.injEq] at h;subst h
   simp [execOp,h1,convert,cB (kz hs),cB (kz hd),Conv.intToInt]
  ·cases h
 ·
  split at h
  ·rename_i hs hx
   have h1:=hf.ev hx
   simp only [Option.some.injEq] at h;subst h
   obtain ⟨d,hd,hne⟩:=E4 hs
   have hr:=cB (w:=w) hd
   simp only [execOp,h1,Instr.makeInterface]
   simp only [bind_pure_comp,Sem.run_map,Sem.run_bind,hr,Result.andThen_ok]
   simp
  ·cases h
 ·
  split at h
  ·rename_i p q hp hq
   have h1:=hf.sZ hp
   have h2:=hf.sZ hq
   simp only [Option.some.injEq] at h;subst h
   have e1:∀ (xs:Array Operand) (vs:List Value),xs.toList.map a.eval=vs→xs.map a.eval=vs.toArray:=fun xs vs h=>by rw [← h];cases xs;simp
   simp [execOp,Instr.makeFunc,e1 _ _ h1,e1 _ _ h2]
  ·cases h
 ·
  split at h
  ·rename_i off b o hs hx
   have h1:=hf.ev hx
   simp only [Option.some.injEq] at h;subst h
   simp [execOp,h1,ze hs]
  ·cases h
 ·
  split at h
  ·rename_i vs hx
   have h1:=hf.ev hx
   simp only [Array.getElem?_toList] at h
   simp [execOp,h1,Instr.extract,h]
  ·cases h
 ·
  rename_i args argTypes
  split at h
  ·rename_i x t hx ht
   obtain rfl:args=#[x]:=by cases args;simp_all
   obtain rfl:argTypes=#[t]:=by cases argTypes;simp_all
   split at h
   ·rename_i b m c hv
    have h1:=hf.ev hv
    split at h
    ·rename_i hs
     simp only [Option.some.injEq] at h;subst h
     simp [execOp,resolve,invoke,Go.builtin,Builtin.len_,h1,cB (bX hs),goInt]
    ·cases h
   ·rename_i l hv
    have h1:=hf.ev hv
    split at h
    ·rename_i hs
     simp only [Option.some.injEq] at h;subst h
     simp [execOp,resolve,invoke,Go.builtin,Builtin.len_,h1,cB (iO hs),goInt]
     rfl
    ·cases h
   ·cases h
  ·cases h
 ·
  rename_i args argTypes
  split at h
  ·rename_i x y hx
   obtain rfl:args=#[x,y]:=by cases args;simp_all
   split at h
   ·rename_i k p k' q hp hq
    have h1:=hf.ev hp
    have h2:=hf.ev hq
    cases hk:r9 k k' with
    | false=>rw [hk] at h;cases h
    | true=>
     rw [hk] at h
     simp only [cond_true,Option.some.injEq] at h;subst h
     have:min p q=if q<p then q else p:=by omega
     simp [execOp,resolve,invoke,Go.builtin,Builtin.min_,Builtin.min2,h1,h2,this]
   ·cases h
  ·cases h
 ·
  rename_i args argTypes
  split at h
  ·rename_i x y hx
   obtain rfl:args=#[x,y]:=by cases args;simp_all
   split at h
   ·rename_i k p k' q hp hq
    have h1:=hf.ev hp
    have h2:=hf.ev hq
    cases hk:r9 k k' with
    | false=>rw [hk] at h;cases h
    | true=>
     rw [hk] at h
     simp only [cond_true,Option.some.injEq] at h;subst h
     have:max p q=if q > p then q else p:=by omega
     simp [execOp,resolve,invoke,Go.builtin,Builtin.max_,Builtin.max2,h1,h2,this]
   ·cases h
  ·cases h
 ·cases h
end
section
def E8:Option Nat→Fence
 | none=>Fence.wide
 | some l=>Fence.wide.inRound l
theorem BI (ro:Option Nat) (f:FuncId):(E8 ro).fn f:=by cases ro<;>trivial
theorem E9 (ro:Option Nat):(E8 ro).round=ro:=by cases ro<;>rfl
theorem Fa (ro:Option Nat):(E8 ro).depth=none:=by cases ro<;>rfl
theorem vY {P:Program} {f:FuncId} {args:Array Value} {w:World} {R:Ending→World→Prop} {n:Nat} (ro:Option Nat) (h:Calls P f args w R):CallsIn (E8 ro) n P f args w R:=by
 have:=(callsIn_wide (n:=n)).2 h
 cases ro
 ·exact this
 ·exact ⟨trivial,this.2⟩
theorem Hj {P:Program} {row:String} {args:Array Value} {w:World} {R:Value→World→Prop} {n:Nat} (ro:Option Nat) (h:Rows P row args w R):RowsIn (E8 ro) n P row args w R:=fun c cs _=>by
 obtain ⟨v,w',hR,hs⟩:=h c cs
 refine ⟨v,w',hR,?_⟩
 have:=(stepsIn_wide (P:=P)).2 hs
 cases ro<;>exact this
def vZ (l:List Oper):Bool:=l.all fun o=>match o.op with | .defer _=>false|_=>true
theorem tl {ro:Option Nat} {q:Prop}:(E8 ro).depth.isSome=true→q:=fun h=>by rw [Fa] at h;cases h
theorem Dy {P:Program} {o:Oper} {a:Act} {next next':Act→World→Prop} {Q:Exit→Act→World→Prop} {n:Nat} (ro:Option Nat) (hn:∀ a w,next a w→next' a w) (x:Result Next) (h:o.upon P a next Q x):o.uponIn (E8 ro) n P a next' Q x:=by
 cases x with
 | ok x w'=>
  cases x<;>simp only [Oper.upon,Oper.uponIn] at h ⊢ <;>
   first
    | exact hn _ _ h
    | exact ⟨tl,vY ro (Calls.mono h fun e w'' he=>by cases e<;>first|exact hn _ _ he|exact he)⟩
    | exact ⟨tl,Hj ro (Rows.mono h fun _ _ he=>hn _ _ he)⟩
 | halt x w'=>cases x<;>simp only [Oper.upon,Oper.uponIn] at h ⊢<;>exact h
class k8 (Q:Exit→Act→World→Prop):Prop where
 no:∀ a w,¬ Q .outgrown a w
theorem k8.lets {Q:Exit→Act→World→Prop} [h:k8 Q]:¬ LetsOut Q:=fun ⟨a,w,k⟩=>h.no a w k
theorem tn {P:Program} {ops:Array Oper} {Q:Exit→Act→World→Prop} [k8 Q] {n:Nat} (ro:Option Nat) (hd:(ro.isNone||vZ ops.toList)=true):∀ (l:List Nat) (a:Act) (w:World),wpOps P ops Q l a w→wpOpsIn (E8 ro) n P ops Q l a w
 | [],_,_,h=>h
 | i::rest,a,w,h=>by
  simp only [wpOps] at h
  simp only [wpOpsIn]
  cases ho:ops[i]? with
  | none=>simp only [ho] at h ⊢;exact tn ro hd rest a w h
  | some o=>
   simp only [ho] at h ⊢
   have hs:o.semAt (E8 ro).round a.eval=execOp a.eval o:=by
    rw [E9]
    cases ro with
    | none=>rfl
    | some l=>
     refine Oper.semAt_eq _ _ _ fun c hc=>?_
     simp only [Option.isNone_some,Bool.false_or,vZ,List.all_eq_true] at hd
     have:=hd o (Array.mem_toList_iff.2 (Array.mem_of_getElem? ho))
     rw [hc] at this;cases this
   split
   ·rename_i hw
    rw [if_pos hw] at h
    rcases h with h|⟨_,h⟩
    ·refine ⟨fun f _=>BI ro f,?_⟩
     rw [hs]
     exact Dy ro (fun a w=>tn ro hd rest a w) _ h
    ·exact (k8.lets h).elim
   ·rename_i hw
    rw [if_neg hw] at h
    exact ⟨fun f _=>BI ro f,tn ro hd rest _ w h⟩
instance {K:Act→World→Prop} {Q:Exit→Act→World→Prop} [h:k8 Q]:k8 (Exit.then K Q):=⟨h.no⟩
instance {id:Nat} {Q:Exit→Act→World→Prop} [h:k8 Q]:k8 (Exit.inBlock id Q):=⟨h.no⟩
def WL (ops:Array Oper) (Q:Exit→Act→World→Prop) (n:Nat) (ds:Md) (rest:List Oper) (e:Env) (w:World):Prop:=
 ∀ a,Fr n ds e a→wpList Tryz.prog ops Q rest a w
def WC (c:Code) (Q:Exit→Act→World→Prop) (n:Nat) (ds:Md) (e:Env) (w:World):Prop:=
 ∀ a,Fr n ds e a→c.wpIn (E8 ds.round) 0 Tryz.prog Q a w
def WQ (Q:Exit→Act→World→Prop) (x:Exit) (n:Nat) (ds:Md) (e:Env) (w:World):Prop:=
 ∀ a,Fr n ds e a→Q x a w
section
variable {Q:Exit→Act→World→Prop} {n:Nat} {ds:Md} {e e':Env} {w:World} {c x y:Code}
theorem WC.sub (hs:Sub e' e) (k:WC c Q n ds e' w):WC c Q n ds e w:=fun a ha=>k a (ha.sub hs)
theorem dU (k:WC x (Exit.then (fun a w=>y.wpIn (E8 ds.round) 0 Tryz.prog Q a w) Q) n ds e w):WC (.seq x y) Q n ds e w:=fun a ha=>wpIn_seq (k a ha)
theorem ik {id:Nat} (k:WC c (Exit.inBlock id Q) n ds e w):WC (.block id c) Q n ds e w:=fun a ha=>wpIn_block (k a ha)
theorem pP (k:WQ Q .normal n ds e w):WC .skip Q n ds e w:=fun a ha=>wpIn_skip (k a ha)
theorem tp (k:WQ Q .ret n ds e w):WC .ret Q n ds e w:=fun a ha=>wpIn_ret (k a ha)
theorem pQ {id:Nat} (k:WQ Q (.exit id) n ds e w):WC (.exit id) Q n ds e w:=fun a ha=>wpIn_exit (k a ha)
theorem s8 {o:Operand} {b:Bool} (hc:ev e o=some (.bool b)) (ht:b=true→WC x Q n ds e w) (hf:b=false→WC y Q n ds e w):WC (.cond o x y) Q n ds e w:=
 fun a ha=>wpIn_cond_split (ha.ev hc) (fun h=>ht h a ha) (fun h=>hf h a ha)
theorem nk {o:Operand} (hc:ev e o=some (.bool true)) (k:WC x Q n ds e w):WC (.cond o x y) Q n ds e w:=s8 hc (fun _=>k) (fun h=>by cases h)
theorem np {o:Operand} (hc:ev e o=some (.bool false)) (k:WC y Q n ds e w):WC (.cond o x y) Q n ds e w:=s8 hc (fun h=>by cases h) (fun _=>k)
theorem Hk {o:Operand} {p:Prop} [Decidable p] (hc:ev e o=some (.bool (decide p))) (ht:p→WC x Q n ds e w) (hf:¬ p→WC y Q n ds e w):WC (.cond o x y) Q n ds e w:=
 s8 hc (fun h=>ht (by simpa using h)) (fun h=>hf (by simpa using h))
theorem lN {id:Nat} {l:List Oper} [k8 Q] (hd:(ds.round.isNone||vZ l)=true) (k:WL l.toArray Q n ds l e w):WC (.region id l.toArray false) Q n ds e w:=fun a ha=>by
 refine wpIn_region (tn _ (by simpa using hd) _ _ _ ?_)
 rw [List.range_eq_range',← Array.length_toList,wpOps_eq_wpList l.toArray.toList 0 (by simp)]
 simpa using k a ha
theorem eB {α:Type} (E:α→Env) (I:α→World→Prop) (k1:WC x (Exit.then (fun a w=>∃ z,Fr n ds (E z) a∧I z w) Q) n ds e w)
 (k2:∀ z w,I z w→WC y Q n ds (E z) w):WC (.seq x y) Q n ds e w:=fun a ha=>
 wpIn_seq (Go.wpIn_mono (k1 a ha) fun ex a w h=>by
  cases ex with
  | normal=>obtain ⟨z,hz,hi⟩:=h;exact k2 z w hi a hz
  | _=>exact h)
theorem bg {α:Type} {E:α→Env} {I:α→World→Prop} (z:α) (hs:Sub (E z) e) (hi:I z w):WQ (Exit.then (fun a w=>∃ z,Fr n ds (E z) a∧I z w) Q) .normal n ds e w:=
 fun _ ha=>⟨z,ha.sub hs,hi⟩
theorem db {ro:Option Nat} (hr:ds.round=ro) (k:WC y Q n ds e w):WQ (Exit.then (fun a w=>y.wpIn (E8 ro) 0 Tryz.prog Q a w) Q) .normal n ds e w:=by subst hr;exact k
theorem iP {K:Act→World→Prop} {id:Nat} (k:WQ Q (.exit id) n ds e w):WQ (Exit.then K Q) (.exit id) n ds e w:=k
theorem jN {K:Act→World→Prop} (k:WQ Q .ret n ds e w):WQ (Exit.then K Q) .ret n ds e w:=k
theorem tq {id:Nat} (k:WQ Q .normal n ds e w):WQ (Exit.inBlock id Q) .normal n ds e w:=k
theorem kA {id:Nat} (k:WQ Q .ret n ds e w):WQ (Exit.inBlock id Q) .ret n ds e w:=k
theorem kB {id:Nat} (k:WQ Q .normal n ds e w):WQ (Exit.inBlock id Q) (.exit id) n ds e w:=fun a ha=>by simp only [Exit.inBlock,if_true];exact k a ha
theorem jO {id id':Nat} (h:Nat.beq id' id=false) (k:WQ Q (.exit id') n ds e w):WQ (Exit.inBlock id Q) (.exit id') n ds e w:=fun a ha=>by
 simp only [Exit.inBlock,if_neg (Nat.ne_of_beq_eq_false h)];exact k a ha
def wa {α:Type} (E:α→Env) (I:α→World→Prop) (μ:α→Nat) (z:α) (n:Nat) (ds:Md) (Q:Exit→Act→World→Prop):Exit→Act→World→Prop:=
 Exit.then (fun a w=>∃ y,Fr n ds (E y) a∧I y w∧μ y<μ z) Q
instance {α:Type} {E:α→Env} {I:α→World→Prop} {μ:α→Nat} {z:α} {n:Nat} {ds:Md} {Q:Exit→Act→World→Prop} [h:k8 Q]:k8 (wa E I μ z n ds Q):=⟨h.no⟩
theorem aL {α:Type} (E:α→Env) (I:α→World→Prop) (μ:α→Nat) (z0:α) (hs:Sub (E z0) e) (hI:I z0 w)
 (round:∀ z w,I z w→WC c (wa E I μ z n ds Q) n ds (E z) w):WC (.loop c) Q n ds e w:=by
 intro a ha
 intro b k cs hro hb hr
 have key:∀ m z a w,μ z=m→Fr n ds (E z) a→I z w →
  ∃ e a' w',Q e a' w'∧ArrivesIn (Machine.fenced Tryz.prog (E8 ds.round)) Tryz.prog (lone (b.atR a (.code c::.inLoop c::k)) cs w) b k cs e a' w':=by
  intro m
  induction m using Nat.strongRecOn with
  | _ m ih=>
   intro z a w hm hz hI
   obtain ⟨e,a₁,w₁,hq,harr⟩:=round z w hI a hz b (.inLoop c::k) cs hro hb hr
   cases e with
   | normal=>
    obtain ⟨y,hy,hI₁,hlt⟩:=hq
    obtain ⟨e₂,a₂,w₂,hq₂,harr₂⟩:=ih (μ y) (hm▸hlt) y a₁ w₁ rfl hy hI₁
    exact ⟨e₂,a₂,w₂,hq₂,.of_steps (StepsIn.trans harr (.one (fenced_calm hb hr rfl) stepR_inLoop)) harr₂⟩
   | exit id=>exact ⟨_,a₁,w₁,hq,.pass (x:=.inLoop c) rfl (fun _ _=>.inl (by simp)) harr⟩
   | goto l=>exact ⟨_,a₁,w₁,hq,.pass (x:=.inLoop c) rfl (fun _ _=>.inl (by simp)) harr⟩
   | ret=>exact ⟨_,a₁,w₁,hq,.pass (x:=.inLoop c) rfl (fun _ _=>.inl (by simp)) harr⟩
   | panic ch=>exact ⟨_,a₁,w₁,hq,.pass (x:=.inLoop c) rfl (fun _ _=>.inl (by simp)) harr⟩
   | outgrown=>exact ⟨_,a₁,w₁,hq,.pass (x:=.inLoop c) rfl (fun _ _=>.inl (by simp)) harr⟩
 obtain ⟨e',a',w',hq,harr⟩:=key _ z0 a w rfl (ha.sub hs) hI
 exact ⟨e',a',w',hq,.of_steps (.one (fenced_calm hb hr rfl) stepR_loop) harr⟩
section
variable {α:Type} {E:α→Env} {I:α→World→Prop} {μ:α→Nat} {z:α}
theorem aB (y:α) (hs:Sub (E y) e) (hI:I y w) (hμ:μ y<μ z):WQ (wa E I μ z n ds Q) .normal n ds e w:=fun _ ha=>⟨y,ha.sub hs,hI,hμ⟩
theorem iQ {id:Nat} (k:WQ Q (.exit id) n ds e w):WQ (wa E I μ z n ds Q) (.exit id) n ds e w:=k
theorem jP (k:WQ Q .ret n ds e w):WQ (wa E I μ z n ds Q) .ret n ds e w:=k
end
def vF (e:Env):List ResultVar→Option (List Value)
 | []=>some []
 | .tmp t::r=>match lk e t with
  | some v=>match vF e r with
   | some vs=>some (v::vs)
   | none=>none
  | none=>none
 | _::_=>none
def tr:List Value→Value
 | [v]=>v
 | vs=>.tuple vs.toArray
theorem pR {fn:Func} {rs:List ResultVar} {a:Act} (ha:Fr n ds e a) (hr:fn.results=rs.toArray) {vs:List Value} (h:vF e rs=some vs) (w:World) :
 (results fn a.tmps).run Tryz.prog w=.ok (tr vs) w:=by
 have key:∀ (rs:List ResultVar) (vs:List Value),vF e rs=some vs →
  (List.mapM (fun x=>match x with|ResultVar.tmp t=>(pure (a.tmps.getD t undef):Sem Value)|ResultVar.cell a' t=>do loadVar t (← asAddr (a.tmps.getD a' undef))) rs).run Tryz.prog w=.ok vs w:=by
  intro rs
  induction rs with
  | nil=>intro vs h;simp only [vF,Option.some.injEq] at h;subst h;rfl
  | cons x r ih=>
   intro vs h
   cases x with
   | cell a' t=>simp [vF] at h
   | tmp t=>
    simp only [vF] at h
    split at h
    ·rename_i v hv
     split at h
     ·rename_i us hu
      simp only [Option.some.injEq] at h;subst h
      have:=ih us hu
      rw [List.mapM_cons]
      have hg:a.tmps.getD t undef=v:=by simp [ha.get t v hv]
      simp only [Sem.run_bind,Sem.run_pure,Result.andThen_ok,hg,this]
     ·cases h
    ·cases h
 unfold results
 rw [hr,List.mapM_toArray]
 simp only [Sem.run_bind,Sem.run_map]
 erw [key rs vs h]
 simp only [Result.andThen_ok,Sem.run_pure]
 cases vs with
 | nil=>rfl
 | cons v r=>cases r<;>rfl
def Fb (rs:List ResultVar) (R:Ending→World→Prop):Exit→Act→World→Prop
 | .normal,a,w | .ret,a,w=>a.defers=[]∧∃ fn:Func,fn.results=rs.toArray∧∃ v,(results fn a.tmps).run Tryz.prog w=.ok v w∧R (.returned v) w
 | .panic chain,a,w=>a.defers=[]∧R (.panicked chain) w
 | _,_,_=>False
instance {rs:List ResultVar} {R:Ending→World→Prop}:k8 (Fb rs R):=⟨fun _ _ h=>h⟩
theorem ak {rs:List ResultVar} {R:Ending→World→Prop} {vs:List Value} (h:vF e rs=some vs) (k:R (.returned (tr vs)) w):WQ (Fb rs R) .ret n LP e w:=
 fun a ha=>⟨ha.defers,{ (default:Func) with results:=rs.toArray },rfl,_,pR ha rfl h w,k⟩
theorem gB {rs:List ResultVar} {R:Ending→World→Prop} {vs:List Value} (h:vF e rs=some vs) (k:R (.returned (tr vs)) w):WQ (Fb rs R) .normal n LP e w:=
 fun a ha=>⟨ha.defers,{ (default:Func) with results:=rs.toArray },rfl,_,pR ha rfl h w,k⟩
def Fc (w:World) (e:Env):List ResultVar→List Value→Prop
 | [],vs=>vs=[]
 | .tmp t::r,vs=>∃ v us,vs=v::us∧lk e t=some v∧Fc w e r us
 | .cell t T::r,vs=>∃ v us b o,vs=v::us∧lk e t=some (.pointer (some ⟨b,o,none⟩))∧(loadVar T ⟨b,o,none⟩).run Tryz.prog w=.ok v w∧Fc w e r us
theorem Hl {fn:Func} {rs:List ResultVar} {a:Act} (ha:Fr n ds e a) (hr:fn.results=rs.toArray) {vs:List Value} (h:Fc w e rs vs) :
 (results fn a.tmps).run Tryz.prog w=.ok (tr vs) w:=by
 have key:∀ (rs:List ResultVar) (vs:List Value),Fc w e rs vs →
  (List.mapM (fun x=>match x with|ResultVar.tmp t=>(pure (a.tmps.getD t undef):Sem Value)|ResultVar.cell a' t=>do loadVar t (← asAddr (a.tmps.getD a' undef))) rs).run Tryz.prog w=.ok vs w:=by
  intro rs
  induction rs with
  | nil=>intro vs h;simp only [Fc] at h;subst h;rfl
  | cons x r ih=>
   intro vs h
   cases x with
   | cell t T=>
    obtain ⟨v,us,b,o,rfl,hv,hl,hu⟩:=h
    have:=ih us hu
    rw [List.mapM_cons]
    have hg:a.tmps.getD t undef=.pointer (some ⟨b,o,none⟩):=by simp [ha.get t _ hv]
    have h0:(asAddr (.pointer (some ⟨b,o,none⟩))).run Tryz.prog w=.ok ⟨b,o,none⟩ w:=rfl
    simp only [Sem.run_bind,Sem.run_pure,Result.andThen_ok,hg,h0,hl,this]
   | tmp t=>
    obtain ⟨v,us,rfl,hv,hu⟩:=h
    have:=ih us hu
    rw [List.mapM_cons]
    have hg:a.tmps.getD t undef=v:=by simp [ha.get t v hv]
    simp only [Sem.run_bind,Sem.run_pure,Result.andThen_ok,hg,this]
 unfold results
 rw [hr,List.mapM_toArray]
 simp only [Sem.run_bind,Sem.run_map]
 erw [key rs vs h]
 simp only [Result.andThen_ok,Sem.run_pure]
 cases vs with
 | nil=>rfl
 | cons v r=>cases r<;>rfl
theorem ej {rs:List ResultVar} {R:Ending→World→Prop} {vs:List Value} (h:Fc w e rs vs) (k:R (.returned (tr vs)) w):WQ (Fb rs R) .ret n LP e w:=
 fun a ha=>⟨ha.defers,{ (default:Func) with results:=rs.toArray },rfl,_,Hl ha rfl h,k⟩
def zf:Nat→List Value→Env
 | _,[]=>[]
 | i,v::r=>(i,v)::zf (i+1) r
theorem zg:∀ (vs:List Value) (i:Nat) (t:Nat) (v:Value),lk (zf i vs) t=some v→∃ j,t=i+j∧vs[j]?=some v
 | [],_,_,_,h=>by simp [zf,lk] at h
 | u::r,i,t,v,h=>by
  unfold zf lk at h
  cases hk:Nat.beq i t with
  | true=>rw [hk] at h;simp at h;subst h;exact ⟨0,(Nat.eq_of_beq_eq_true hk).symm,rfl⟩
  | false=>
   rw [hk] at h
   obtain ⟨j,rfl,hj⟩:=zg r (i+1) t v h
   exact ⟨j+1,by omega,hj⟩
theorem jI {fn fn':Func} (h:fn.results=fn'.results) (tmps:Array Value):results fn tmps=results fn' tmps:=by unfold results;rw [h]
theorem BJ {args:List Value} {n:Nat} (hle:Nat.ble args.length n=true):Fr n LP (zf 0 args) { tmps:=args.toArray++Array.replicate (n-args.toArray.size) undef,defers:=[] }:=by
 have hle':args.length≤n:=by simpa using hle
 refine ⟨by simp;omega,rfl,fun t v h=>?_⟩
 obtain ⟨j,rfl,hj⟩:=zg args 0 t v h
 have hlt:=(List.getElem?_eq_some_iff.1 hj).1
 simp only [Nat.zero_add]
 rw [Array.getElem?_append_left (by simpa using hlt)]
 simpa using hj
theorem enter {f:FuncId} {fn:Func} {body:Code} {n:Nat} {rs:List ResultVar} {args:List Value} {R:Ending→World→Prop}
 (hf:Tryz.prog.funcs[f]?=some fn) (hb:fn.body=some body) (hn:fn.ntmps=n) (hr:fn.results=rs.toArray) (hle:Nat.ble args.length n=true)
 (k:WC body (Fb rs R) n LP (zf 0 args) w):Calls Tryz.prog f args.toArray w R:=by
 refine calls_of_wp hf hb ?_
 rw [hn]
 refine wp_mono (wpIn_wide.1 (k _ (BJ hle))) ?_
 intro ex a w h
 cases ex with
 | normal=>obtain ⟨hd,fn',hr',v,hv,hR⟩:=h;exact ⟨hd,v,by rw [jI (hr.trans hr'.symm)];exact hv,hR⟩
 | ret=>obtain ⟨hd,fn',hr',v,hv,hR⟩:=h;exact ⟨hd,v,by rw [jI (hr.trans hr'.symm)];exact hv,hR⟩
 | panic chain=>exact h
 | exit id=>exact h
 | goto l=>exact h
 | outgrown=>exact h.elim
end
attribute [irreducible] WL WC WQ
end
end Go.Proofs.YtecibefflhomdaaGreatDoor
