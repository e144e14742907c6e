/-
  Part 2: The engine 2 frames as lists of known slots; The engine 3 'yv' is right.
-/
import Derived.Test.YtecibefflhomdaaGreatDoorU01
import Derived.Laws.Entries
import Derived.Laws.Strings
import Derived.Laws.Sem
import Derived.Laws.Unary
set_option maxHeartbeats 8000000
set_option maxRecDepth 100000
set_option linter.all false
namespace Go.Proofs.YtecibefflhomdaaGreatDoor
open Go
abbrev Env:=List (Nat×Value)
structure Md where
 round:Option Nat
 ds:List Deferred
abbrev md0:Md:=⟨none,[]⟩
structure Fr (n:Nat) (ds:Md) (e:Env) (a:Act):Prop where
 size:a.tmps.size=n
 defers:a.defers=ds.ds
 get:∀ t v,lk e t=some v→a.tmps[t]?=some v
theorem Fr.put {n:Nat} {ds:Md} {e:Env} {a:Act} (h:Fr n ds e a) {d:Nat} {v:Value} (hd:Nat.blt d n=true):Fr n ds ((d,v)::e) (a.put (some d) v):=by
 have hd':d<n:=by simpa [Nat.blt_eq] using hd
 refine ⟨by simpa [Act.put] using h.size,h.defers,fun t u hu=>?_⟩
 unfold lk at hu
 simp only [Act.put]
 cases hk:Nat.beq d t with
 | true=>
  rw [hk] at hu
  simp only [cond_true,Option.some.injEq] at hu
  subst hu
  have:=Nat.eq_of_beq_eq_true hk
  subst this
  simp [h.size,hd']
 | false=>
  rw [hk] at hu
  have hne:d≠t:=Nat.ne_of_beq_eq_false hk
  rw [Array.getElem?_setIfInBounds_ne hne]
  exact h.get t u hu
def Sub:Env→Env→Prop
 | [],_=>True
 | (t,v)::r,e=>lk e t=some v∧Sub r e
theorem Sub.get:∀ {r e:Env},Sub r e→∀ t v,lk r t=some v→lk e t=some v
 | (k,u)::r,e,⟨h,hr⟩,t,v,hv=>by
  unfold lk at hv
  cases hk:Nat.beq k t with
  | true=>rw [hk] at hv;simp at hv;subst hv;have:=Nat.eq_of_beq_eq_true hk;subst this;exact h
  | false=>rw [hk] at hv;exact hr.get t v hv
theorem Fr.sub {n:Nat} {ds:Md} {e r:Env} {a:Act} (h:Fr n ds e a) (hs:Sub r e):Fr n ds r a:=
 ⟨h.size,h.defers,fun t v hv=>h.get t v (hs.get t v hv)⟩
def ev (e:Env):Operand→Option Value
 | .tmp t=>lk e t
 | .const v=>some v
 | .global g=>some (.pointer (some ⟨g,0,none⟩))
 | .func f=>some (.func (.func f) #[] #[])
theorem Fr.ev {n:Nat} {ds:Md} {e:Env} {a:Act} (h:Fr n ds e a) {x:Operand} {v:Value} (k:ev e x=some v):a.eval x=v:=by
 cases x with
 | tmp t=>simp only [YtecibefflhomdaaGreatDoor.ev] at k;simp [Act.eval,h.get t v k]
 | const u=>simpa [YtecibefflhomdaaGreatDoor.ev,Act.eval] using k
 | global g=>simpa [YtecibefflhomdaaGreatDoor.ev,Act.eval] using k
 | func f=>simpa [YtecibefflhomdaaGreatDoor.ev,Act.eval] using k
def evs (e:Env):List Operand→Option (List Value)
 | []=>some []
 | x::r=>match ev e x with
  | some v=>match evs e r with
   | some vs=>some (v::vs)
   | none=>none
  | none=>none
theorem Fr.evs {n:Nat} {ds:Md} {e:Env} {a:Act} (h:Fr n ds e a):∀ {xs:List Operand} {vs:List Value},evs e xs=some vs→xs.map a.eval=vs
 | [],vs,k=>by simpa [YtecibefflhomdaaGreatDoor.evs] using k
 | x::r,vs,k=>by
  unfold YtecibefflhomdaaGreatDoor.evs at k
  split at k
  ·rename_i v hv
   split at k
   ·rename_i us hu
    simp only [Option.some.injEq] at k
    subst k
    simp [h.ev hv,h.evs hu]
   ·cases k
  ·cases k
abbrev str (l:List UInt8):Value:=.string ⟨l.toArray⟩
def sameK:IntKind→IntKind→Bool
 | .i8,.i8 | .i16,.i16 | .i32,.i32 | .i64,.i64 | .u8,.u8 | .u16,.u16 | .u32,.u32 | .u64,.u64=>true
 | _,_=>false
theorem sameK_eq {a b:IntKind} (h:sameK a b=true):a=b:=by cases a<;>cases b<;>simp [sameK] at h<;>rfl
def ltb:List UInt8→List UInt8→Bool
 | _,[]=>false
 | [],_::_=>true
 | a::x,b::y=>decide (a<b)||(decide (a=b)&&ltb x y)
theorem ltb_eq:∀ x y,Op.bytesLess x y=ltb x y
 | [],[]=>rfl
 | _::_,[]=>rfl
 | [],_::_=>rfl
 | a::x,b::y=>by
  simp only [Op.bytesLess,ltb,ltb_eq x y];rfl
theorem u8_lt_irrefl (a:UInt8):¬ a<a:=by simp
theorem ltb_total:∀ x y:List UInt8,(ltb x y||decide (x=y))=!ltb y x
 | [],[]=>by simp [ltb]
 | _::_,[]=>by simp [ltb]
 | [],_::_=>by simp [ltb]
 | a::x,b::y=>by
  have ih:=ltb_total x y
  have hlt:decide (a<b)=(!decide (b<a)&&!decide (b=a)):=by
   rw [Bool.eq_iff_iff];simp only [Bool.and_eq_true,Bool.not_eq_true',decide_eq_true_eq,decide_eq_false_iff_not,UInt8.lt_iff_toNat_lt,← UInt8.toNat_inj];omega
  by_cases e:a=b
  ·subst e
   simp only [ltb,List.cons.injEq,true_and,decide_true,Bool.true_and,u8_lt_irrefl,decide_false,Bool.false_or]
   exact ih
  ·have e':¬ b=a:=fun h=>e h.symm
   simp [ltb,hlt,e,e']
def bv (op:BinOp):Value→Value→Option Value
 | .int k a,.int k' b=>bif sameK k k' then
  match op with
  | .add=>some (.int k (k.wrap (a+b)))
  | .sub=>some (.int k (k.wrap (a-b)))
  | .mul=>some (.int k (k.wrap (a*b)))
  | .eql=>some (.bool (decide (a=b)))
  | .neq=>some (.bool (decide (a≠b)))
  | .lss=>some (.bool (decide (a<b)))
  | .leq=>some (.bool (decide (a≤b)))
  | .gtr=>some (.bool (decide (b<a)))
  | .geq=>some (.bool (decide (b≤a)))
  | _=>none
  else none
 | .string ⟨⟨x⟩⟩,.string ⟨⟨y⟩⟩=>match op with
  | .eql=>some (.bool (decide (x=y)))
  | .neq=>some (.bool (decide (x≠y)))
  | .lss=>some (.bool (ltb x y))
  | .leq=>some (.bool (!ltb y x))
  | .gtr=>some (.bool (ltb y x))
  | .geq=>some (.bool (!ltb x y))
  | _=>none
 | _,_=>none
def nv (op:BinOp) (t:TypeId) (x:Value):Value→Option Value
 | .nilIface=>match lk tIface t with
  | some _=>match x,op with
   | .nilIface,.eql=>some (.bool true) | .nilIface,.neq=>some (.bool false)
   | .iface _ _,.eql=>some (.bool false) | .iface _ _,.neq=>some (.bool true)
   | _,_=>none
  | none=>none
 | .pointer none=>match lk tPtr t with
  | some _=>match x,op with
   | .pointer none,.eql=>some (.bool true) | .pointer none,.neq=>some (.bool false)
   | .pointer (some _),.eql=>some (.bool false) | .pointer (some _),.neq=>some (.bool true)
   | _,_=>none
  | none=>none
 | .slice none _ _=>match lk tSlice t with
  | some _=>match x,op with
   | .slice none _ _,.eql=>some (.bool true) | .slice none _ _,.neq=>some (.bool false)
   | .slice (some _) _ _,.eql=>some (.bool false) | .slice (some _) _ _,.neq=>some (.bool true)
   | _,_=>none
  | none=>none
 | _=>none
def offT (s f:Nat):Option Nat:=match lk tOff s with
 | some l=>match l[f]? with
  | some (some o)=>some o
  | _=>none
 | none=>none
def yv (e:Env):Op→Option Value
 | .move x | .assign x=>ev e x
 | .pick c a b=>match ev e c with
  | some (.bool true)=>ev e a
  | some (.bool false)=>ev e b
  | _=>none
 | .nilCheck x=>match ev e x with
  | some (.pointer (some a))=>some (.pointer (some a))
  | some (.iface t v)=>some (.iface t v)
  | some (.func (.func f) p q)=>some (.func (.func f) p q)
  | _=>none
 | .binOp op t x y _=>match ev e x,ev e y with
  | some a,some b=>match bv op a b with
   | some v=>some v
   | none=>match y with
    | .const c=>nv op t a c
    | _=>none
  | _,_=>none
 | .unOp .not _ x=>match ev e x with
  | some (.bool b)=>some (.bool (!b))
  | _=>none
 | .convert s d x=>match lk tInt s,lk tInt d,ev e x with
  | some _,some k,some (.int _ n)=>some (.int k (k.wrap n))
  | _,_,_=>none
 | .makeInterface t x=>match lk tConc t,ev e x with
  | some _,some v=>some (.iface t v)
  | _,_=>none
 | .makeFunc (.func f) first cap=>match evs e first.toList,evs e cap.toList with
  | some p,some q=>some (.func (.func f) p.toArray q.toArray)
  | _,_=>none
 | .fieldAddr s x f=>match offT s f,ev e x with
  | some off,some (.pointer (some ⟨b,o,none⟩))=>some (.pointer (some ⟨b,o+off,none⟩))
  | _,_=>none
 | .extract x i=>match ev e x with
  | some (.tuple vs)=>vs.toList[i]?
  | _=>none
 | .call { callee:=.builtin .len,args,argTypes }=>match args.toList,argTypes.toList with
  | [x],[t]=>match ev e x with
   | some (.slice _ n _)=>match lk tSlice t with
    | some _=>some (.int .i64 n)
    | none=>none
   | some (.string ⟨⟨l⟩⟩)=>match lk tStr t with
    | some _=>some (.int .i64 l.length)
    | none=>none
   | _=>none
  | _,_=>none
 | .call { callee:=.builtin .min,args,.. }=>match args.toList with
  | [x,y]=>match ev e x,ev e y with
   | some (.int k a),some (.int k' b)=>bif sameK k k' then some (.int k (min a b)) else none
   | _,_=>none
  | _=>none
 | .call { callee:=.builtin .max,args,.. }=>match args.toList with
  | [x,y]=>match ev e x,ev e y with
   | some (.int k a),some (.int k' b)=>bif sameK k k' then some (.int k (max a b)) else none
   | _,_=>none
  | _=>none
 | _=>none
section
variable {n:Nat} {ds:Md} {e:Env} {a:Act} {w:World}
theorem und_of {t:Nat} {d:TypeDesc} (h:Tryz.prog.underlying t=some d):(underlying t).run Tryz.prog w=.ok d w:=run_underlying h w
theorem kInt_und {t:Nat} {k:IntKind} (h:lk tInt t=some k):Tryz.prog.underlying t=some (.int k):=by
 have:=tInt_ok h;unfold kInt at this;split at this<;>simp_all
theorem kSlice_und {t:Nat} {k:Nat} (h:lk tSlice t=some k):Tryz.prog.underlying t=some (.slice k):=by
 have:=tSlice_ok h;unfold kSlice at this;split at this<;>simp_all
theorem kPtr_und {t:Nat} {k:Nat} (h:lk tPtr t=some k):Tryz.prog.underlying t=some (.pointer k):=by
 have:=tPtr_ok h;unfold kPtr at this;split at this<;>simp_all
theorem kMap_und {t:Nat} {k:Nat×Nat} (h:lk tMap t=some k):Tryz.prog.underlying t=some (.map k.1 k.2):=by
 have:=tMap_ok h;unfold kMap at this;split at this
 ·rename_i hx;simp only [Option.some.injEq] at this;subst this;exact hx
 ·cases this
theorem kArr_und {t:Nat} {k:Nat×Nat} (h:lk tArr t=some k):Tryz.prog.underlying t=some (.array k.1 k.2):=by
 have:=tArr_ok h;unfold kArr at this;split at this
 ·rename_i hx;simp only [Option.some.injEq] at this;subst this;exact hx
 ·cases this
theorem kStr_und {t:Nat} {k:Unit} (h:lk tStr t=some k):Tryz.prog.underlying t=some .string:=by
 have:=tStr_ok h;unfold kStr at this;split at this<;>simp_all
theorem kIface_und {t:Nat} {k:Unit} (h:lk tIface t=some k):∃ ms,Tryz.prog.underlying t=some (.interface ms):=by
 have:=tIface_ok h;unfold kIface at this;split at this<;>simp_all
theorem kSize_info {t:Nat} {k:Nat} (h:lk tSize t=some k):∃ i,Tryz.prog.info? t=some i∧i.size=k:=by
 have:=tSize_ok h;unfold kSize at this;simpa using this
theorem kConc_und {t:Nat} {k:Unit} (h:lk tConc t=some k):∃ d,Tryz.prog.underlying t=some d∧∀ ms,d≠.interface ms:=by
 have:=tConc_ok h;unfold kConc at this;split at this
 ·cases this
 ·rename_i d hne hd;exact ⟨d,hd,fun ms hm=>hne ms hm⟩
 ·cases this
theorem offT_spec {s f off:Nat} (h:offT s f=some off):∃ fs fd,Tryz.prog.underlying s=some (.struct fs)∧fs[f]?=some fd∧fd.offset=off∧Tryz.prog.cellsOf fd.type≠0:=by
 unfold offT at h
 split at h
 ·rename_i l hl
  have hk:=tOff_ok hl
  unfold kOff at hk
  split at hk
  ·rename_i fs hfs
   simp only [Option.some.injEq] at hk
   subst hk
   split at h
   ·rename_i o ho
    simp only [Option.some.injEq] at h
    subst h
    simp only [List.getElem?_map,Option.map_eq_some_iff,Array.getElem?_toList] at ho
    obtain ⟨fd,hfd,hx⟩:=ho
    split at hx
    ·cases hx
    ·rename_i hne
     simp only [Option.some.injEq] at hx
     exact ⟨fs,fd,hfs,hfd,hx,hne⟩
   ·cases h
  ·cases hk
 ·cases h
theorem size_of {t:Nat} {k:Nat} (h:lk tSize t=some k):(sizeOf t).run Tryz.prog w=.ok k w:=by
 obtain ⟨i,hi,rfl⟩:=kSize_info h;simp [sizeOf,typeInfo,hi]
end
theorem beq_dec (p q:List UInt8):(p==q)=decide (p=q):=by rw [Bool.eq_iff_iff];simp
theorem bv_sound {op:BinOp} {t:TypeId} {x y v:Value} {w:World} (h:bv op x y=some v):(Go.binOp op t x y).run Tryz.prog w=.ok v w:=by
 unfold bv at h
 split at h
 ·rename_i k p k' q
  cases hk:sameK k k' with
  | false=>rw [hk] at h;cases h
  | true=>
   rw [hk] at h
   have:=sameK_eq hk
   subst this
   cases op<;>simp only [cond_true,Option.some.injEq,reduceCtorEq] at h<;>subst h<;>simp [Go.binOp,Op.intArith,Op.intCmp,bne]<;>rfl
 ·rename_i p q
  have ht:=ltb_total p q
  cases op<;>simp only [Option.some.injEq,reduceCtorEq] at h<;>subst h<;>simp [Go.binOp,Op.stringOp,ltb_eq,beq_dec,ht]
 ·cases h
theorem equalIn_of (k:Nat) {t:TypeId} {x y:Value} {w:World} {d:TypeDesc} (hu:Tryz.prog.underlying t=some d) {b:Bool}
 (h:(match d,x,y with
   | .interface _,.nilIface,.nilIface=>some true
   | .interface _,.nilIface,.iface _ _=>some false
   | .interface _,.iface _ _,.nilIface=>some false
   | .pointer _,.pointer none,.pointer b=>some b.isNone
   | .pointer _,.pointer (some _),.pointer none=>some false
   | .slice _,.slice none _ _,.slice b _ _=>some b.isNone
   | .slice _,.slice (some _) _ _,.slice none _ _=>some false
   | _,_,_=>none)=some b):(Op.equalIn (k+1) t x y).run Tryz.prog w=.ok b w:=by
 unfold Op.equalIn
 simp only [Sem.run_bind,und_of hu,Result.andThen_ok]
 split at h<;>simp only [Option.some.injEq,reduceCtorEq] at h<;>subst h<;>rfl
theorem equal_of {t:TypeId} {x y:Value} {w:World} {d:TypeDesc} (hu:Tryz.prog.underlying t=some d) {b:Bool}
 (h:(match d,x,y with
   | .interface _,.nilIface,.nilIface=>some true
   | .interface _,.nilIface,.iface _ _=>some false
   | .interface _,.iface _ _,.nilIface=>some false
   | .pointer _,.pointer none,.pointer b=>some b.isNone
   | .pointer _,.pointer (some _),.pointer none=>some false
   | .slice _,.slice none _ _,.slice b _ _=>some b.isNone
   | .slice _,.slice (some _) _ _,.slice none _ _=>some false
   | _,_,_=>none)=some b):(Op.equal t x y).run Tryz.prog w=.ok b w:=equalIn_of 9999 hu h
theorem binOp_eql {t:TypeId} {x y:Value} {w:World} {b:Bool} (h:(Op.equal t x y).run Tryz.prog w=.ok b w) (hx:(∃ u,x=.pointer u)∨(∃ a l c,x=.slice a l c)∨x=.nilIface∨∃ u v,x=.iface u v) :
 (Go.binOp .eql t x y).run Tryz.prog w=.ok (.bool b) w:=by
 rcases hx with ⟨u,rfl⟩|⟨u,l,c,rfl⟩|rfl|⟨u,v,rfl⟩<;>simp [Go.binOp,h]
theorem binOp_neq {t:TypeId} {x y:Value} {w:World} {b:Bool} (h:(Op.equal t x y).run Tryz.prog w=.ok b w) (hx:(∃ u,x=.pointer u)∨(∃ a l c,x=.slice a l c)∨x=.nilIface∨∃ u v,x=.iface u v) :
 (Go.binOp .neq t x y).run Tryz.prog w=.ok (.bool (!b)) w:=by
 rcases hx with ⟨u,rfl⟩|⟨u,l,c,rfl⟩|rfl|⟨u,v,rfl⟩<;>simp [Go.binOp,h]
theorem nv_sound {op:BinOp} {t:TypeId} {x y v:Value} {w:World} (h:nv op t x y=some v):(Go.binOp op t x y).run Tryz.prog w=.ok v w:=by
 unfold nv at h
 split at h
 ·split at h
  ·rename_i hk
   obtain ⟨ms,hu⟩:=kIface_und hk
   split at h<;>simp only [Option.some.injEq,reduceCtorEq] at h<;>subst h
   ·exact binOp_eql (b:=true) (equal_of hu rfl) (by simp)
   ·exact binOp_neq (b:=true) (equal_of hu rfl) (by simp)
   ·exact binOp_eql (b:=false) (equal_of hu rfl) (by simp)
   ·exact binOp_neq (b:=false) (equal_of hu rfl) (by simp)
  ·cases h
 ·split at h
  ·rename_i hk
   have hu:=kPtr_und hk
   split at h<;>simp only [Option.some.injEq,reduceCtorEq] at h<;>subst h
   ·exact binOp_eql (b:=true) (equal_of hu rfl) (by simp)
   ·exact binOp_neq (b:=true) (equal_of hu rfl) (by simp)
   ·exact binOp_eql (b:=false) (equal_of hu rfl) (by simp)
   ·exact binOp_neq (b:=false) (equal_of hu rfl) (by simp)
  ·cases h
 ·split at h
  ·rename_i hk
   have hu:=kSlice_und hk
   split at h<;>simp only [Option.some.injEq,reduceCtorEq] at h<;>subst h
   ·exact binOp_eql (b:=true) (equal_of hu rfl) (by simp)
   ·exact binOp_neq (b:=true) (equal_of hu rfl) (by simp)
   ·exact binOp_eql (b:=false) (equal_of hu rfl) (by simp)
   ·exact binOp_neq (b:=false) (equal_of hu rfl) (by simp)
  ·cases h
 ·cases h
theorem guard_int {op:BinOp} {t:TypeId} {x y:Operand} {p q v:Value} {w:World} (h:bv op p q=some v):(eqGuard op t x y p q).run Tryz.prog w=.ok () w:=by
 unfold bv at h
 split at h
 ·simp only [eqGuard];split<;>simp
 ·simp only [eqGuard];split<;>simp
 ·cases h
theorem guard_nil {op:BinOp} {t:TypeId} {x:Operand} {p q v:Value} {w:World} (h:nv op t p q=some v):(eqGuard op t x (.const q) p q).run Tryz.prog w=.ok () w:=by
 unfold nv at h
 split at h
 ·cases p<;>simp only [eqGuard]<;>split<;>simp
 ·cases p<;>simp only [eqGuard]<;>split<;>simp
 ·cases p<;>simp only [eqGuard]<;>split<;>simp
 ·cases h
section
variable {n:Nat} {ds:Md} {e:Env} {a:Act} {w:World}
theorem fieldAt_run {s f off:Nat} {b o:Nat} (h:offT s f=some off):(Instr.fieldAt s (.pointer (some ⟨b,o,none⟩)) f).run Tryz.prog w=.ok (.pointer (some ⟨b,o+off,none⟩)) w:=by
 obtain ⟨fs,fd,hu,hf,rfl,hc⟩:=offT_spec h
 have hr:=und_of (w:=w) hu
 have hsz:(sizeOf fd.type).run Tryz.prog w=.ok (Tryz.prog.cellsOf fd.type) w:=by
  unfold Program.cellsOf at hc ⊢
  cases hi:Tryz.prog.info? fd.type with
  | none=>rw [hi] at hc;simp at hc
  | some i=>simp [sizeOf,typeInfo,hi]
 have hadd:∀ k:Nat,(⟨b,o,none⟩:Addr).add k=⟨b,o+k,none⟩:=by intro k;unfold Addr.add;split<;>simp_all
 simp [Instr.fieldAt,hr,hf,Instr.sureAddr,fieldPlace,hsz,hc,hadd]
theorem yv_sound {o:Oper} {v:Value} (hf:Fr n ds e a) (h:yv e o.op=some v):(execOp a.eval o).run Tryz.prog w=.ok (.value v) w:=by
 obtain ⟨dst,op,ty,pos,after,guard⟩:=o
 simp only at h
 unfold yv at h
 split at h
 ·have:=hf.ev h;simp [execOp,this]
 ·have:=hf.ev h;simp [execOp,this]
 ·
  split at h
  ·rename_i hc;have:=hf.ev hc;have h2:=hf.ev h;simp [execOp,this,h2,asBool]
  ·rename_i hc;have:=hf.ev hc;have h2:=hf.ev h;simp [execOp,this,h2,asBool]
  ·cases h
 ·
  split at h
  ·rename_i hc;have:=hf.ev hc;simp only [Option.some.injEq] at h;subst h;simp [execOp,this]
  ·rename_i hc;have:=hf.ev hc;simp only [Option.some.injEq] at h;subst h;simp [execOp,this]
  ·rename_i hc;have:=hf.ev hc;simp only [Option.some.injEq] at h;subst h;simp [execOp,this]
  ·cases h
 ·
  split at h
  ·rename_i p q hp hq
   have h1:=hf.ev hp
   have h2:=hf.ev hq
   split at h
   ·rename_i u hu
    simp only [Option.some.injEq] at h;subst h
    simp [execOp,h1,h2,guard_int hu,bv_sound hu]
   ·split at h
    ·rename_i c
     have e2:q=c:=by simpa [ev] using hq.symm
     subst e2
     simp [execOp,h1,h2,guard_nil h,nv_sound h]
    ·cases h
  ·cases h
 ·
  split at h
  ·rename_i hc;have:=hf.ev hc;simp only [Option.some.injEq] at h;subst h;simp [execOp,this,Op.unary]
  ·cases h
 ·
  split at h
  ·rename_i k1 k2 m hs hd hx
   have h1:=hf.ev hx
   simp only [Option.some.injEq] at h;subst h
   simp [execOp,h1,convert,und_of (kInt_und hs),und_of (kInt_und hd),Conv.intToInt]
  ·cases h
 ·
  split at h
  ·rename_i hs hx
   have h1:=hf.ev hx
   simp only [Option.some.injEq] at h;subst h
   obtain ⟨d,hd,hne⟩:=kConc_und hs
   have hr:=und_of (w:=w) hd
   simp only [execOp,h1,Instr.makeInterface]
   simp only [bind_pure_comp,Sem.run_map,Sem.run_bind,hr,Result.andThen_ok]
   simp
  ·cases h
 ·
  split at h
  ·rename_i p q hp hq
   have h1:=hf.evs hp
   have h2:=hf.evs hq
   simp only [Option.some.injEq] at h;subst h
   have e1:∀ (xs:Array Operand) (vs:List Value),xs.toList.map a.eval=vs→xs.map a.eval=vs.toArray:=fun xs vs h=>by rw [← h];cases xs;simp
   simp [execOp,Instr.makeFunc,e1 _ _ h1,e1 _ _ h2]
  ·cases h
 ·
  split at h
  ·rename_i off b o hs hx
   have h1:=hf.ev hx
   simp only [Option.some.injEq] at h;subst h
   simp [execOp,h1,fieldAt_run hs]
  ·cases h
 ·
  split at h
  ·rename_i vs hx
   have h1:=hf.ev hx
   simp only [Array.getElem?_toList] at h
   simp [execOp,h1,Instr.extract,h]
  ·cases h
 ·
  rename_i args argTypes
  split at h
  ·rename_i x t hx ht
   obtain rfl:args=#[x]:=by cases args;simp_all
   obtain rfl:argTypes=#[t]:=by cases argTypes;simp_all
   split at h
   ·rename_i b m c hv
    have h1:=hf.ev hv
    split at h
    ·rename_i hs
     simp only [Option.some.injEq] at h;subst h
     simp [execOp,resolve,invoke,Go.builtin,Builtin.len_,h1,und_of (kSlice_und hs),goInt]
    ·cases h
   ·rename_i l hv
    have h1:=hf.ev hv
    split at h
    ·rename_i hs
     simp only [Option.some.injEq] at h;subst h
     simp [execOp,resolve,invoke,Go.builtin,Builtin.len_,h1,und_of (kStr_und hs),goInt]
     rfl
    ·cases h
   ·cases h
  ·cases h
 ·
  rename_i args argTypes
  split at h
  ·rename_i x y hx
   obtain rfl:args=#[x,y]:=by cases args;simp_all
   split at h
   ·rename_i k p k' q hp hq
    have h1:=hf.ev hp
    have h2:=hf.ev hq
    cases hk:sameK k k' with
    | false=>rw [hk] at h;cases h
    | true=>
     rw [hk] at h
     simp only [cond_true,Option.some.injEq] at h;subst h
     have:min p q=if q<p then q else p:=by omega
     simp [execOp,resolve,invoke,Go.builtin,Builtin.min_,Builtin.min2,h1,h2,this]
   ·cases h
  ·cases h
 ·
  rename_i args argTypes
  split at h
  ·rename_i x y hx
   obtain rfl:args=#[x,y]:=by cases args;simp_all
   split at h
   ·rename_i k p k' q hp hq
    have h1:=hf.ev hp
    have h2:=hf.ev hq
    cases hk:sameK k k' with
    | false=>rw [hk] at h;cases h
    | true=>
     rw [hk] at h
     simp only [cond_true,Option.some.injEq] at h;subst h
     have:max p q=if q > p then q else p:=by omega
     simp [execOp,resolve,invoke,Go.builtin,Builtin.max_,Builtin.max2,h1,h2,this]
   ·cases h
  ·cases h
 ·cases h
end
end Go.Proofs.YtecibefflhomdaaGreatDoor
