/-
  Part 13: ; ; .
-/
import Derived.Test.YtecibefflhomdaaGreatDoorZ12
import Derived.Laws.Entries
import Derived.Laws.Strings
import Derived.Laws.Sem
import Derived.Laws.Unary
import Derived.Laws.Cells
import Derived.Laws.CopyRow
import Derived.Laws.Tables
import Derived.Defers
import Derived.Orders
import Derived.OrdersHeld
import Derived.TacticsIn
set_option maxRecDepth 100000
set_option maxHeartbeats 8000000
set_option linter.all false
namespace Go.Proofs.YtecibefflhomdaaGreatDoor
open Go Proofs.Tryz
def XU:=@Result.andThen_ok
def X6:=@run_underlying
def Yn:=@Sem.run_bind
def Yo:=@Sem.runT_eq
def Yq:=@Result.evThen_ok
def Yz:=@Sem.events_bind
def aal:=@events_underlying
def abE:=@Sem.events_map
section
variable[Bs0:Base]
abbrev Env:=Xn (Nat×Xp)
abbrev look(e:Env)(t:Nat):XB Xp:=lk e t
structure Md where
 round:XB Nat
 ds:Xn Deferred
abbrev P6:Md:=⟨none,[]⟩
structure Fr(n:Nat)(ds:Md)(e:Env)(a:Act):Prop where
 size:a.tmps.size=n
 defers:a.defers=ds.ds
 get:∀t v,lk e t=some v->a.tmps[t]?=some v
variable {n:Nat} {ds:Md} {e:Env} {a:Act} {v:Xp}
theorem Fr.put (h:Fr n ds e a) {d:Nat} (f:Nat.blt d n=true):Fr n ds ((d,v)::e) (a.put (some d) v):=by
 have c:d<n:=by simpa using f
 refine⟨by simpa[Act.put]using h.size,h.defers,λt u H=>?_⟩;unfold lk at H;simp[Act.put];cases b:Nat.beq d t with
 | true=>
  rw[b]at H;simp at H;subst H;cases YX b;simp[h.size,c]
 | false=>
  rw[b]at H;rw[XJ (ZS b)];exact h.get t u H
def Sub:Env->Env->Prop
 | [],_=>True
 | (t,v)::r,e=>lk e t=some v/\Sub r e
theorem Sub.get:∀{r e:Env},Sub r e->∀t v,lk r t=some v->lk e t=some v
 | (k,u)::r,e,⟨h,c⟩,t,v,H=>by
  unfold lk at H;cases b:Nat.beq k t with
  | true=>rw[b]at H;simp at H;subst H;have:=YX b;subst this;exact h
  | false=>rw[b]at H;exact c.get t v H
def Fr.sub {r:Env} (h:Fr n ds e a) (H:Sub r e):Fr n ds r a:=
 ⟨h.size,h.defers,λt v b=>h.get t v (H.get t v b)⟩
def ev(e:Env):XZ->XB Xp
 | .tmp t=>lk e t
 | .const v=>some v
 | .global g=>some (.pointer (some ⟨g,0,none⟩))
 | .func f=>some (.func (.func f) #[] #[])
theorem Fr.ev (h:Fr n ds e a) {x:XZ} (k:ev e x=some v):a.eval x=v:=by
 cases x with
 | tmp t=>simp[YtecibefflhomdaaGreatDoor.ev]at k;simp[Act.eval,h.get t v k]
 | const u=>simpa[YtecibefflhomdaaGreatDoor.ev,Act.eval]using k
 | global g=>simpa[YtecibefflhomdaaGreatDoor.ev,Act.eval]using k
 | func f=>simpa[YtecibefflhomdaaGreatDoor.ev,Act.eval]using k
def evs(e:Env):Xn XZ->XB (Xn Xp)
 | []=>some []
 | x::r=>match ev e x with
  | some v=>match evs e r with
   | some V=>some (v::V)
   | none=>none
  | none=>none
def Fr.evs (h:Fr n ds e a):∀{xs:Xn XZ} {vs:Xn Xp},evs e xs=some vs->xs.map a.eval=vs
 | [],vs,k=>by simpa[YtecibefflhomdaaGreatDoor.evs]using k
 | x::r,vs,k=>by
  unfold YtecibefflhomdaaGreatDoor.evs at k;split at k
  .rename_i v H;split at k
   .rename_i u b;cases k;simp[h.ev H,h.evs b]
   grind
  grind
abbrev str(l:Xn UInt8):Xp:=.string ⟨l.toArray⟩
def qA:IntKind->IntKind->XN
 | .i8,.i8 | .i16,.i16 | .i32,.i32 | .i64,.i64 | .u8,.u8 | .u16,.u16 | .u32,.u32 | .u64,.u64=>true
 | _,_=>false
theorem EU{a b:IntKind}(h:qA a b=true):a=b:=by cases a<;>cases b<;>simp[qA]at h<;>rfl
def wZ:Xn UInt8->Xn UInt8->XN
 | _,[]=>false
 | [],_::_=>true
 | a::x,b::y=>decide (a<b)||(decide (a=b)&&wZ x y)
theorem No:∀x y,Op.bytesLess x y=wZ x y
 | [],[]=>rfl
 | _::_,[]=>rfl
 | [],_::_=>rfl
 | a::x,b::y=>by
  simp[Op.bytesLess,No x y];rfl
theorem QG(a:UInt8):¬a<a:=by simp
theorem Bo:∀x y:Xn UInt8,(wZ x y||decide (x=y))=!wZ y x
 | [],[]=>rfl
 | _::_,[]=>rfl
 | [],_::_=>rfl
 | a::x,b::y=>by
  have i:=Bo x y;have H:decide (a<b)=(!decide (b<a)&&!decide (b=a)):=by
   grind
  by_cases e:a=b
  .subst e;simpa[wZ]using i
  .have E:¬b=a:=λh=>e h.symm;simp[wZ,H,e,E]
def bv(op:BinOp):Xp->Xp->XB Xp
 | .int k a,.int K b=>bif qA k K then
  match op with
  | .add=>some (.int k (k.wrap (a+b)))
  | .sub=>some (.int k (k.wrap (a-b)))
  | .mul=>some (.int k (k.wrap (a*b)))
  | .eql=>some (.bool (decide (a=b)))
  | .neq=>some (.bool (decide (a≠b)))
  | .lss=>some (.bool (decide (a<b)))
  | .leq=>some (.bool (decide (a<=b)))
  | .gtr=>some (.bool (decide (b<a)))
  | .geq=>some (.bool (decide (b<=a)))
  | _=>none
  else none
 | .string ⟨⟨x⟩⟩,.string ⟨⟨y⟩⟩=>match op with
  | .eql=>some (.bool (decide (x=y)))
  | .neq=>some (.bool (decide (x≠y)))
  | .lss=>some (.bool (wZ x y))
  | .leq=>some (.bool (!wZ y x))
  | .gtr=>some (.bool (wZ y x))
  | .geq=>some (.bool (!wZ x y))
  | _=>none
 | _,_=>none
def nv(op:BinOp)(t:XO)(x:Xp):Xp->XB Xp
 | .nilIface=>match lk yy t with
  | some _=>match x,op with
   | .nilIface,.eql=>some (.bool true) | .nilIface,.neq=>some (.bool false)
   | .iface _ _,.eql=>some (.bool false) | .iface _ _,.neq=>some (.bool true)
   | _,_=>none
  | none=>none
 | .pointer none=>match lk M9 t with
  | some _=>match x,op with
   | .pointer none,.eql=>some (.bool true) | .pointer none,.neq=>some (.bool false)
   | .pointer (some _),.eql=>some (.bool false) | .pointer (some _),.neq=>some (.bool true)
   | _,_=>none
  | none=>none
 | .slice none _ _=>match lk dK t with
  | some _=>match x,op with
   | .slice none _ _,.eql=>some (.bool true) | .slice none _ _,.neq=>some (.bool false)
   | .slice (some _) _ _,.eql=>some (.bool false) | .slice (some _) _ _,.neq=>some (.bool true)
   | _,_=>none
  | none=>none
 | _=>none
def Np(s f:Nat):XB Nat:=match lk Qy s with
 | some l=>match l[f]? with
  | some (some o)=>some o
  | _=>none
 | none=>none
def yv(e:Env):Op->XB Xp
 | .move x | .assign x=>ev e x
 | .pick c a b=>match ev e c with
  | some (.bool true)=>ev e a
  | some (.bool false)=>ev e b
  | _=>none
 | .nilCheck x=>match ev e x with
  | some (.pointer (some a))=>some (.pointer (some a))
  | some (.iface t v)=>some (.iface t v)
  | some (.func (.func f) p q)=>some (.func (.func f) p q)
  | _=>none
 | .binOp O t x y _=>match ev e x,ev e y with
  | some a,some b=>match bv O a b with
   | some v=>some v
   | none=>match y with
    | .const c=>nv O t a c
    | _=>none
  | _,_=>none
 | .unOp .not _ x=>match ev e x with
  | some (.bool b)=>some (.bool (!b))
  | _=>none
 | .convert s d x=>match lk KA s,lk KA d,ev e x with
  | some _,some k,some (.int _ n)=>some (.int k (k.wrap n))
  | _,_,_=>none
 | .makeInterface t x=>match lk ES t,ev e x with
  | some _,some v=>some (.iface t v)
  | _,_=>none
 | .makeFunc (.func f) first cap=>match evs e first.toList,evs e cap.toList with
  | some p,some q=>some (.func (.func f) p.toArray q.toArray)
  | _,_=>none
 | .fieldAddr s x f=>match Np s f,ev e x with
  | some off,some (.pointer (some ⟨b,o,none⟩))=>some (.pointer (some ⟨b,o+off,none⟩))
  | _,_=>none
 | .extract x i=>match ev e x with
  | some (.tuple V)=>V.toList[i]?
  | _=>none
 | .call { callee:=.builtin .len,args,argTypes }=>match args.toList,argTypes.toList with
  | [x],[t]=>match ev e x with
   | some (.slice _ n _)=>match lk dK t with
    | some _=>some (.int .i64 n)
    | none=>none
   | some (.string ⟨⟨l⟩⟩)=>match lk Ao t with
    | some _=>some (.int .i64 l.length)
    | none=>none
   | _=>none
  | _,_=>none
 | .call { callee:=.builtin .min,args,.. }=>match args.toList with
  | [x,y]=>match ev e x,ev e y with
   | some (.int k a),some (.int K b)=>bif qA k K then some (.int k (min a b))else none
   | _,_=>none
  | _=>none
 | .call { callee:=.builtin .max,args,.. }=>match args.toList with
  | [x,y]=>match ev e x,ev e y with
   | some (.int k a),some (.int K b)=>bif qA k K then some (.int k (max a b))else none
   | _,_=>none
  | _=>none
 | _=>none
section
variable{n:Nat}{ds:Md}{e:Env}{a:Act}{w:Xo}
variable {t:Nat}
theorem bx {d:TypeDesc} (h:prog.underlying t=some d):(underlying t).run prog w=.ok d w:=X6 h w
theorem lP {k:IntKind} (h:lk KA t=some k):prog.underlying t=some (.int k):=by
 have:=QB h;unfold SR at this;split at this<;>simp_all
variable {k:Nat}
theorem bw (h:lk dK t=some k):prog.underlying t=some (.slice k):=by
 have:=KF h;unfold G5 at this;split at this<;>simp_all
theorem EV (h:lk M9 t=some k):prog.underlying t=some (.pointer k):=by
 have:=QD h;unfold SU at this;split at this<;>simp_all
theorem ew {k:Nat×Nat} (h:lk yx t=some k):prog.underlying t=some (.map k.1 k.2):=by
 have:=QE h;unfold SV at this;split at this
 .grind
 simp_all
theorem oJ {k:Nat×Nat} (h:lk An t=some k):prog.underlying t=some (.array k.1 k.2):=by
 have:=QC h;unfold SS at this;split at this
 .grind
 simp_all
theorem kI {k:Unit} (h:lk Ao t=some k):prog.underlying t=some .string:=by
 have:=QF h;unfold SW at this;split at this<;>simp_all
theorem yz {k:Unit} (h:lk yy t=some k):∃m,prog.underlying t=some (.interface m):=by
 have:=KG h;unfold G6 at this;split at this<;>simp_all
theorem pq (h:lk cY t=some k):∃i,prog.info? t=some i/\i.size=k:=by
 have:=Nd h;unfold Nc at this;simpa using this
theorem Bp {k:Unit} (h:lk ES t=some k):∃d,prog.underlying t=some d/\∀ms,d≠.interface ms:=by
 have:=Nn h;unfold Na at this;split at this
 .grind
 .grind
 grind
theorem Bq{s f off:Nat}(h:Np s f=some off):∃b F,prog.underlying s=some (.struct b)/\b[f]?=some F/\F.offset=off/\prog.cellsOf F.type≠0:=by
 unfold Np at h;split at h
 .rename_i l H;have c:=QA H;unfold SQ at c
  grind
 grind
def db (h:lk cY t=some k):(sizeOf t).run prog w=.ok k w:=by
 obtain⟨i,H,rfl⟩:=pq h;simp[sizeOf,typeInfo,H]
end
theorem QH(p q:Xn UInt8):(p==q)=decide (p=q):=by grind
variable {op:BinOp} {t:XO} {x y:Xp} {w:Xo}
def EW (h:bv op x y=some v):(Go.binOp op t x y).run prog w=.ok v w:=by
 unfold bv at h;split at h
 .rename_i k p K q;cases H:qA k K with
  | false=>rw[H]at h;cases h
  | true=>
   rw[H]at h;cases EU H;cases op<;>simp at h<;>subst h<;>simp[Go.binOp]<;>rfl
 .rename_i p q;cases op<;>simp at h<;>subst h<;>simp[Go.binOp,Op.stringOp,No,QH,(Bo p q)]
 grind
variable {d:TypeDesc} {b:XN}
def Hb (k:Nat) (H:prog.underlying t=some d) (h:(match d,x,y with
   | .interface _,.nilIface,.nilIface=>some true
   | .interface _,.nilIface,.iface _ _=>some false
   | .interface _,.iface _ _,.nilIface=>some false
   | .pointer _,.pointer none,.pointer b=>some b.isNone
   | .pointer _,.pointer (some _),.pointer none=>some false
   | .slice _,.slice none _ _,.slice b _ _=>some b.isNone
   | .slice _,.slice (some _) _ _,.slice none _ _=>some false
   | _,_,_=>none)=some b):(Op.equalIn (k+1) t x y).run prog w=.ok b w:=by
 unfold Op.equalIn;simp only[Yn,bx H,XU];split at h<;>simp only[Xs,reduceCtorEq]at h<;>subst h<;>rfl
def cN (H:prog.underlying t=some d) (h:(match d,x,y with
   | .interface _,.nilIface,.nilIface=>some true
   | .interface _,.nilIface,.iface _ _=>some false
   | .interface _,.iface _ _,.nilIface=>some false
   | .pointer _,.pointer none,.pointer b=>some b.isNone
   | .pointer _,.pointer (some _),.pointer none=>some false
   | .slice _,.slice none _ _,.slice b _ _=>some b.isNone
   | .slice _,.slice (some _) _ _,.slice none _ _=>some false
   | _,_,_=>none)=some b):(Op.equal t x y).run prog w=.ok b w:=Hb 9999 H h
theorem binOp_eql (h:(Op.equal t x y).run prog w=.ok b w) (H:(∃u,x=.pointer u)\/(∃a l c,x=.slice a l c)\/x=.nilIface\/∃u v,x=.iface u v):
 (Go.binOp .eql t x y).run prog w=.ok (.bool b) w:=by
 rcases H with⟨u,rfl⟩|⟨u,l,c,rfl⟩|rfl|⟨u,v,rfl⟩<;>simp[Go.binOp,h]
theorem binOp_neq (h:(Op.equal t x y).run prog w=.ok b w) (H:(∃u,x=.pointer u)\/(∃a l c,x=.slice a l c)\/x=.nilIface\/∃u v,x=.iface u v):
 (Go.binOp .neq t x y).run prog w=.ok (.bool (!b)) w:=by
 rcases H with⟨u,rfl⟩|⟨u,l,c,rfl⟩|rfl|⟨u,v,rfl⟩<;>simp[Go.binOp,h]
def EX (h:nv op t x y=some v):(Go.binOp op t x y).run prog w=.ok v w:=by
 unfold nv at h;split at h
 .split at h
  .rename_i c;have⟨m,H⟩:=yz c;split at h<;>simp at h<;>subst h
   .exact binOp_eql (cN H rfl) (by simp)
   .exact binOp_neq (b:=true) (cN H rfl) (by simp)
   .exact binOp_eql (cN H rfl) (by simp)
   .exact binOp_neq (b:=false) (cN H rfl) (by simp)
  grind
 .split at h
  .rename_i c;have H:=EV c;split at h<;>simp at h<;>subst h
   .exact binOp_eql (cN H rfl) (by simp)
   .exact binOp_neq (b:=true) (cN H rfl) (by simp)
   .exact binOp_eql (cN H rfl) (by simp)
   .exact binOp_neq (b:=false) (cN H rfl) (by simp)
  grind
 .split at h
  .rename_i c;have H:=bw c;split at h<;>simp at h<;>subst h
   .exact binOp_eql (cN H rfl) (by simp)
   .exact binOp_neq (b:=true) (cN H rfl) (by simp)
   .exact binOp_eql (cN H rfl) (by simp)
   .exact binOp_neq (b:=false) (cN H rfl) (by simp)
  grind
 grind
variable {p q:Xp}
theorem Br {x y:XZ} (h:bv op p q=some v):(eqGuard op t x y p q).run prog w=.ok () w:=by
 unfold bv at h;split at h
 .simp only[eqGuard];split<;>simp
 .simp only[eqGuard];split<;>simp
 grind
theorem Bt {x:XZ} (h:nv op t p q=some v):(eqGuard op t x (.const q) p q).run prog w=.ok () w:=by
 unfold nv at h;split at h
 .cases p<;>simp[eqGuard]<;>split<;>simp
 .cases p<;>simp[eqGuard]<;>split<;>simp
 .cases p<;>simp[eqGuard]<;>split<;>simp
 grind
section
variable{n:Nat}{ds:Md}{e:Env}{a:Act}{w:Xo}
def wE{s f off:Nat}{b o:Nat}(h:Np s f=some off):(Instr.fieldAt s (.pointer (some ⟨b,o,none⟩)) f).run prog w=.ok (.pointer (some ⟨b,o+off,none⟩)) w:=by
 obtain⟨u,F,l,m,rfl,c⟩:=Bq h;have r:=bx (w:=w) l;have g:(sizeOf F.type).run prog w=.ok (prog.cellsOf F.type) w:=by
  unfold Program.cellsOf at c |-;cases j:prog.info? F.type with
  | none=>rw[j]at c;simp at c
  | some i=>simp[sizeOf,typeInfo,j]
 have H:∀k:Nat,(⟨b,o,none⟩:YO).add k=⟨b,o+k,none⟩:=by intro k;unfold Addr.add;split<;>simp_all
 simp[Instr.fieldAt,r,m,Instr.sureAddr,fieldPlace,g,c,H]
def qC{o:Yf}{v:Xp}(H:Fr n ds e a)(h:yv e o.op=some v):(execOp a.eval o).run prog w=.ok (.value v) w:=by
 obtain⟨dst,op,T,pos,after,guard⟩:=o;simp only at h;unfold yv at h;split at h
 .have:=H.ev h;simp[execOp,this]
 .have:=H.ev h;simp[execOp,this]
 .split at h
  .rename_i i;have:=H.ev i;have g:=H.ev h;simp[execOp,this,g,asBool]
  .rename_i i;have:=H.ev i;have g:=H.ev h;simp[execOp,this,g,asBool]
  .cases h
 .split at h
  .rename_i i;have:=H.ev i;simp only[Xs]at h;subst h;simp[execOp,this]
  .rename_i i;have:=H.ev i;simp only[Xs]at h;subst h;simp[execOp,this]
  .rename_i i;have:=H.ev i;simp only[Xs]at h;subst h;simp[execOp,this]
  .cases h
 .split at h
  .rename_i p q z s;have f:=H.ev z;have g:=H.ev s;split at h
   .rename_i u D;simp only[Xs]at h;subst h;simp[execOp,f,g,Br D,EW D]
   .split at h
    .rename_i c;have F:q=c:=by simpa[ev]using s.symm
     subst F;simp[execOp,f,g,Bt h,EX h]
    .cases h
  .cases h
 .split at h
  .rename_i i;have:=H.ev i;simp only[Xs]at h;subst h;simp[execOp,this,Op.unary]
  .cases h
 .split at h
  .rename_i I J m r B j;have f:=H.ev j;simp only[Xs]at h;subst h;simp[execOp,f,convert,bx (lP r),bx (lP B),Conv.intToInt]
  .cases h
 .split at h
  .rename_i r j;have f:=H.ev j;simp only[Xs]at h;subst h;obtain⟨d,B,hne⟩:=Bp r;have G:=bx (w:=w) B;simp only[execOp,f,Instr.makeInterface];simp only[bind_pure_comp,Sem.run_map,Yn,G,XU];simp
  .cases h
 .split at h
  .rename_i p q z s;have f:=H.evs z;have g:=H.evs s;simp only[Xs]at h;subst h;have E:∀(X:Xv XZ) (V:Xn Xp),X.toList.map a.eval=V->X.map a.eval=V.toArray:=λX V h=>by rw[<- h];cases X;simp
   simp[execOp,Instr.makeFunc,E _ _ f,E _ _ g]
  .cases h
 .split at h
  .rename_i off b o r j;have f:=H.ev j;simp only[Xs]at h;subst h;simp[execOp,f,wE r]
  .cases h
 .split at h
  .rename_i V j;have f:=H.ev j;simp only[aat]at h;simp[execOp,f,Instr.extract,h]
  .cases h
 .rename_i args argTypes;split at h
  .rename_i x t j L;obtain rfl:args=#[x]:=by cases args;simp_all
   obtain rfl:argTypes=#[t]:=by cases argTypes;simp_all
   split at h
   .rename_i b m c C;have f:=H.ev C;split at h
    .rename_i r;simp only[Xs]at h;subst h;simp[execOp,resolve,invoke,Go.builtin,Builtin.len_,f,bx (bw r),goInt]
    .cases h
   .rename_i l C;have f:=H.ev C;split at h
    .rename_i r;simp only[Xs]at h;subst h;simp[execOp,resolve,invoke,Go.builtin,Builtin.len_,f,bx (kI r),goInt];rfl
    .cases h
   .cases h
  .cases h
 .rename_i args argTypes;split at h
  .rename_i x y j;obtain rfl:args=#[x,y]:=by cases args;simp_all
   split at h
   .rename_i k p K q z s;have f:=H.ev z;have g:=H.ev s;cases A:qA k K with
    | false=>rw[A]at h;cases h
    | true=>
     rw[A]at h;simp only[abK,Xs]at h;subst h;have:min p q=if q<p then q else p:=by omega
     simp[execOp,resolve,invoke,Go.builtin,Builtin.min_,Builtin.min2,f,g,this]
   .cases h
  .cases h
 .rename_i args argTypes;split at h
  .rename_i x y j;obtain rfl:args=#[x,y]:=by cases args;simp_all
   split at h
   .rename_i k p K q z s;have f:=H.ev z;have g:=H.ev s;cases A:qA k K with
    | false=>rw[A]at h;cases h
    | true=>
     rw[A]at h;simp only[abK,Xs]at h;subst h;have:max p q=if q > p then q else p:=by omega
     simp[execOp,resolve,invoke,Go.builtin,Builtin.max_,Builtin.max2,f,g,this]
   .cases h
  .cases h
 .cases h
end
variable {es:Xv Ys}
def Nq (h:bv op x y=some v):(Go.binOp op t x y).events prog w es=es:=by
 unfold bv at h;split at h
 .rename_i k p K q;cases H:qA k K with
  | false=>rw[H]at h;cases h
  | true=>
   rw[H]at h;cases EU H;cases op<;>simp at h<;>subst h<;>simp[Go.binOp,Op.intArith,Op.intCmp]
 .cases op<;>simp at h<;>subst h<;>simp[Go.binOp,Op.stringOp]
 grind
def Ap (k:Nat) (H:prog.underlying t=some d) (h:(match d,x,y with
   | .interface _,.nilIface,.nilIface=>some true
   | .interface _,.nilIface,.iface _ _=>some false
   | .interface _,.iface _ _,.nilIface=>some false
   | .pointer _,.pointer none,.pointer b=>some b.isNone
   | .pointer _,.pointer (some _),.pointer none=>some false
   | .slice _,.slice none _ _,.slice b _ _=>some b.isNone
   | .slice _,.slice (some _) _ _,.slice none _ _=>some false
   | _,_,_=>none)=some b):(Op.equalIn (k+1) t x y).events prog w es=es:=by
 unfold Op.equalIn;simp[bx H];split at h<;>simp at h<;>subst h<;>rfl
def ej (H:prog.underlying t=some d) (h:(match d,x,y with
   | .interface _,.nilIface,.nilIface=>some true
   | .interface _,.nilIface,.iface _ _=>some false
   | .interface _,.iface _ _,.nilIface=>some false
   | .pointer _,.pointer none,.pointer b=>some b.isNone
   | .pointer _,.pointer (some _),.pointer none=>some false
   | .slice _,.slice none _ _,.slice b _ _=>some b.isNone
   | .slice _,.slice (some _) _ _,.slice none _ _=>some false
   | _,_,_=>none)=some b):(Op.equal t x y).events prog w es=es:=Ap 9999 H h
theorem eR (H:op=.eql\/op=.neq) (g:(Op.equal t x y).run prog w=.ok b w) (h:(Op.equal t x y).events prog w es=es) (f:(∃u,x=.pointer u)\/(∃a l c,x=.slice a l c)\/x=.nilIface\/∃u v,x=.iface u v):
 (Go.binOp op t x y).events prog w es=es:=by
 rcases H with rfl|rfl<;>rcases f with⟨u,rfl⟩|⟨u,l,c,rfl⟩|rfl|⟨u,v,rfl⟩<;>simp[Go.binOp,h]
def Nr (h:nv op t x y=some v):(Go.binOp op t x y).events prog w es=es:=by
 unfold nv at h;split at h
 .split at h
  .rename_i c;have⟨m,H⟩:=yz c;split at h<;>simp at h<;>subst h
   .exact eR (by simp) (cN H rfl) (ej H rfl) (by simp)
   .exact eR (by simp) (cN H rfl) (ej H rfl) (by simp)
   .exact eR (by simp) (cN H rfl) (ej H rfl) (by simp)
   .exact eR (by simp) (cN H rfl) (ej H rfl) (by simp)
  grind
 .split at h
  .rename_i c;have H:=EV c;split at h<;>simp at h<;>subst h
   .exact eR (by simp) (cN H rfl) (ej H rfl) (by simp)
   .exact eR (by simp) (cN H rfl) (ej H rfl) (by simp)
   .exact eR (by simp) (cN H rfl) (ej H rfl) (by simp)
   .exact eR (by simp) (cN H rfl) (ej H rfl) (by simp)
  grind
 .split at h
  .rename_i c;have H:=bw c;split at h<;>simp at h<;>subst h
   .exact eR (by simp) (cN H rfl) (ej H rfl) (by simp)
   .exact eR (by simp) (cN H rfl) (ej H rfl) (by simp)
   .exact eR (by simp) (cN H rfl) (ej H rfl) (by simp)
   .exact eR (by simp) (cN H rfl) (ej H rfl) (by simp)
  grind
 grind
theorem Hc {x y:XZ} (h:bv op p q=some v):(eqGuard op t x y p q).events prog w es=es:=by
 unfold bv at h;split at h
 .simp only[eqGuard];split<;>simp
 .simp only[eqGuard];split<;>simp
 grind
theorem Hd {x:XZ} (h:nv op t p q=some v):(eqGuard op t x (.const q) p q).events prog w es=es:=by
 unfold nv at h;split at h
 .cases p<;>simp[eqGuard]<;>split<;>simp
 .cases p<;>simp[eqGuard]<;>split<;>simp
 .cases p<;>simp[eqGuard]<;>split<;>simp
 grind
section
variable{n:Nat}{ds:Md}{e:Env}{a:Act}{w:Xo}{es:Xv Ys}
def Aq{s f off:Nat}{b o:Nat}(h:Np s f=some off):(Instr.fieldAt s (.pointer (some ⟨b,o,none⟩)) f).events prog w es=es:=by
 obtain⟨u,F,l,m,rfl,H⟩:=Bq h;have r:=bx (w:=w) l;have c:(sizeOf F.type).run prog w=.ok (prog.cellsOf F.type) w:=by
  unfold Program.cellsOf at H |-;cases g:prog.info? F.type with
  | none=>rw[g]at H;simp at H
  | some i=>simp[sizeOf,typeInfo,g]
 have j:∀k:Nat,(⟨b,o,none⟩:YO).add k=⟨b,o+k,none⟩:=by intro k;unfold Addr.add;split<;>simp_all
 simp[Instr.fieldAt,r,m,Instr.sureAddr,fieldPlace,c,H]
def qD{o:Yf}{v:Xp}(H:Fr n ds e a)(h:yv e o.op=some v):(execOp a.eval o).events prog w es=es:=by
 obtain⟨dst,op,T,pos,after,guard⟩:=o;simp only at h;unfold yv at h;split at h
 .have:=H.ev h;simp[execOp,this]
 .have:=H.ev h;simp[execOp,this]
 .split at h
  .rename_i i;have:=H.ev i;have g:=H.ev h;simp[execOp,this,g,asBool]
  .rename_i i;have:=H.ev i;have g:=H.ev h;simp[execOp,this,g,asBool]
  .cases h
 .split at h
  .rename_i i;have:=H.ev i;simp only[Xs]at h;subst h;simp[execOp,this]
  .rename_i i;have:=H.ev i;simp only[Xs]at h;subst h;simp[execOp,this]
  .rename_i i;have:=H.ev i;simp only[Xs]at h;subst h;simp[execOp,this]
  .cases h
 .split at h
  .rename_i p q z s;have f:=H.ev z;have g:=H.ev s;split at h
   .rename_i u B;simp only[Xs]at h;subst h;simp[execOp,f,g,Br B,EW B,Hc B,Nq B]
   .split at h
    .rename_i c;have F:q=c:=by simpa[ev]using s.symm
     subst F;simp[execOp,f,g,Bt h,EX h,Hd h,Nr h]
    .cases h
  .cases h
 .split at h
  .rename_i i;have:=H.ev i;simp only[Xs]at h;subst h;simp[execOp,this,Op.unary]
  .cases h
 .split at h
  .rename_i I J m j C r;have f:=H.ev r;simp only[Xs]at h;subst h;simp[execOp,f,convert,bx (lP j),bx (lP C),Conv.intToInt]
  .cases h
 .split at h
  .rename_i j r;have f:=H.ev r;simp only[Xs]at h;subst h;obtain⟨d,C,hne⟩:=Bp j;have G:=bx (w:=w) C;simp only[execOp,f,Instr.makeInterface];simp only[bind_pure_comp,abE,Yz,G,aal,Yq];simp
  .cases h
 .split at h
  .rename_i p q z s;have f:=H.evs z;have g:=H.evs s;simp only[Xs]at h;subst h;have E:∀(X:Xv XZ) (V:Xn Xp),X.toList.map a.eval=V->X.map a.eval=V.toArray:=λX V h=>by rw[<- h];cases X;simp
   simp[execOp,Instr.makeFunc,E _ _ f,E _ _ g]
  .cases h
 .split at h
  .rename_i off b o j r;have f:=H.ev r;simp only[Xs]at h;subst h;simp[execOp,f,wE j,Aq j]
  .cases h
 .split at h
  .rename_i V r;have f:=H.ev r;simp only[aat]at h;simp[execOp,f,Instr.extract,h]
  .cases h
 .rename_i args argTypes;split at h
  .rename_i x t r L;obtain rfl:args=#[x]:=by cases args;simp_all
   obtain rfl:argTypes=#[t]:=by cases argTypes;simp_all
   split at h
   .rename_i b m c D;have f:=H.ev D;split at h
    .rename_i j;simp only[Xs]at h;subst h;simp[execOp,resolve,invoke,Go.builtin,Builtin.len_,f,bx (bw j),goInt]
    .cases h
   .rename_i l D;have f:=H.ev D;split at h
    .rename_i j;simp only[Xs]at h;subst h;simp[execOp,resolve,invoke,Go.builtin,Builtin.len_,f,bx (kI j),goInt]
    .cases h
   .cases h
  .cases h
 .rename_i args argTypes;split at h
  .rename_i x y r;obtain rfl:args=#[x,y]:=by cases args;simp_all
   split at h
   .rename_i k p K q z s;have f:=H.ev z;have g:=H.ev s;cases A:qA k K with
    | false=>rw[A]at h;cases h
    | true=>
     rw[A]at h;simp only[abK,Xs]at h;subst h;have:min p q=if q<p then q else p:=by omega
     simp[execOp,resolve,invoke,Go.builtin,Builtin.min_,Builtin.min2,f,g,this]
   .cases h
  .cases h
 .rename_i args argTypes;split at h
  .rename_i x y r;obtain rfl:args=#[x,y]:=by cases args;simp_all
   split at h
   .rename_i k p K q z s;have f:=H.ev z;have g:=H.ev s;cases A:qA k K with
    | false=>rw[A]at h;cases h
    | true=>
     rw[A]at h;simp only[abK,Xs]at h;subst h;have:max p q=if q > p then q else p:=by omega
     simp[execOp,resolve,invoke,Go.builtin,Builtin.max_,Builtin.max2,f,g,this]
   .cases h
  .cases h
 .cases h
end
def Calls(_:YW)(f:FuncId)(args:Xv Xp)(w:Xo)(R:Ending->Xo->Prop):Prop:=dJ f args w R
def Calls.mono {P:YW} {f:FuncId} {args:Xv Xp} {R R':Ending->Xo->Prop} (h:Calls P f args w R) (k:∀e W,R e W->R' e W):Calls P f args w R':=dJ.mono h k
def IU(l:Xn Yf):XN:=l.all λo=>match o.op with | .defer _=>false|_=>true
class pr(Q:YL->Act->Xo->Prop):Prop where
 no:∀a w,¬Q .outgrown a w
instance{K:Act->Xo->Prop}{Q:YL->Act->Xo->Prop}[h:pr Q]:pr (Exit.then K Q):=⟨h.no⟩
instance{id:Nat}{Q:YL->Act->Xo->Prop}[h:pr Q]:pr (Exit.inBlock id Q):=⟨h.no⟩
def WL(ops:Xv Yf)(Q:YL->Act->Xo->Prop)(n:Nat)(ds:Md)(rest:Xn Yf)(e:Env)(w:Xo):Prop:=
 ∀a,Fr n ds e a->rX ds.round ops Q rest a w
def WC(c:Code)(Q:YL->Act->Xo->Prop)(n:Nat)(ds:Md)(e:Env)(w:Xo):Prop:=
 ∀a,Fr n ds e a->uI ds.round c Q a w
def WQ(Q:YL->Act->Xo->Prop)(x:YL)(n:Nat)(ds:Md)(e:Env)(w:Xo):Prop:=
 ∀a,Fr n ds e a->Cl (Q x) a w
section
variable{main:XN}{Stop:XF->Xo->Prop}{b:Y5}{k:Xn Item}{cs:Xn Y5}{ex:YL}{a:Act}{v v1:Xo}{ro:XB Nat}{Q:YL->Act->Xo->Prop}
def lZ.rely(h:lZ main Stop b k cs ex a v)(H:Ry v v1):lZ main Stop b k cs ex a v1:=by
 cases ex with
 | normal=>exact jM.rely h H
 | exit id=>rcases h with⟨K,c,f⟩|⟨c,f⟩
            .exact .inl ⟨K,c,f.rely H⟩
            .exact .inr ⟨c,λk g=>(f k g).rely H⟩
 | ret=>exact λk g=>(h k g).rely H
 | goto l=>exact h
 | panic C=>exact h
 | outgrown=>exact h
def Cl.after(h:Cl (Q ex) a v)(H:∀e A V,Q e A V->lZ main Stop b k cs e A V):lZ main Stop b k cs ex a v:=let ⟨_,c,q⟩:=h;(H _ _ _ q).rely c
def CF{c:Code}(h:uI ro c (λx a v=>Cl (Q x) a v) a v):uI ro c Q a v:=λmain b k cs Stop H f g=>h main b k cs Stop H f λe A V q=>q.after g
end
section
variable{Q:YL->Act->Xo->Prop}{n:Nat}{ds:Md}{e e':Env}{w w1:Xo}{c x y:Code}
def WL.rely{ops:Xv Yf}{rest:Xn Yf}(k:WL ops Q n ds rest e w)(h:Ry w w1):WL ops Q n ds rest e w1:=λa H=>yp (k a H) h
def WC.sub(h:Sub e' e)(k:WC c Q n ds e' w):WC c Q n ds e w:=λa H=>k a (H.sub h)
def dW(k:WC x (Exit.then (λa w=>uI ds.round y Q a w) Q) n ds e w):WC (.seq x y) Q n ds e w:=λa h=>IM (k a h)
variable {id:Nat}
def jR (k:WC c (Exit.inBlock id Q) n ds e w):WC (.block id c) Q n ds e w:=λa h=>Ko (k a h)
def px(k:WQ Q .normal n ds e w):WC .skip Q n ds e w:=λa h=>CF (MY (k a h))
def yA(k:WQ Q .ret n ds e w):WC .ret Q n ds e w:=λa h=>CF (Qs (k a h))
def tM (k:WQ Q (.exit id) n ds e w):WC (.exit id) Q n ds e w:=λa h=>CF (EA (k a h))
variable {o:XZ}
def xj {b:XN} (H:ev e o=some (.bool b)) (f:b=true->WC x Q n ds e w) (g:b=false->WC y Q n ds e w):WC (.cond o x y) Q n ds e w:=
 λa h=>MZ (h.ev H) (by cases b with|true=>exact f rfl a h|false=>exact g rfl a h)
def oK (H:ev e o=some (.bool true)) (k:WC x Q n ds e w):WC (.cond o x y) Q n ds e w:=xj H (λ_=>k) (λh=>by grind)
def mS (H:ev e o=some (.bool false)) (k:WC y Q n ds e w):WC (.cond o x y) Q n ds e w:=xj H (λh=>by grind) (λ_=>k)
variable {p:Prop}
def Ns [Decidable p] (H:ev e o=some (.bool (decide p))) (f:p->WC x Q n ds e w) (g:¬p->WC y Q n ds e w):WC (.cond o x y) Q n ds e w:=
 xj H (λh=>f (by grind)) (λh=>g (by grind))
def kj {l:Xn Yf} [pr Q] (H:(ds.round.isNone||IU l)=true) (k:WL l.toArray Q n ds l e w):WC (.region id l.toArray false) Q n ds e w:=λa h=>
 yr (k a h)
variable {α:Type}
def dx (E:α->Env) (I:α->Xo->Prop) (k:WC x (Exit.then (λa w=>∃z,Fr n ds (E z) a/\I z w) Q) n ds e w) (K:∀z w,I z w->WC y Q n ds (E z) w):WC (.seq x y) Q n ds e w:=λa H=>
 IM (tI (k a H) λf a w h=>by
  cases f with
  | normal=>obtain⟨z,g,i⟩:=h;exact K z w i a g
  | _=>exact h)
def aH {E:α->Env} {I:α->Xo->Prop} (z:α) (h:Sub (E z) e) (H:I z w):WQ (Exit.then (λa w=>∃z,Fr n ds (E z) a/\I z w) Q) .normal n ds e w:=
 λ_ f=>.of ⟨z,f.sub h,H⟩
def bT{r:XB Nat}(h:ds.round=r)(k:WC y Q n ds e w):WQ (Exit.then (λa w=>uI r y Q a w) Q) .normal n ds e w:=by subst h;exact λa H=>.of (k a H)
variable {K:Act->Xo->Prop}
theorem kJ (k:WQ Q (.exit id) n ds e w):WQ (Exit.then K Q) (.exit id) n ds e w:=k
theorem lQ (k:WQ Q .ret n ds e w):WQ (Exit.then K Q) .ret n ds e w:=k
theorem yB (k:WQ Q .normal n ds e w):WQ (Exit.inBlock id Q) .normal n ds e w:=k
theorem mT (k:WQ Q .ret n ds e w):WQ (Exit.inBlock id Q) .ret n ds e w:=k
theorem mU (k:WQ Q .normal n ds e w):WQ (Exit.inBlock id Q) (.exit id) n ds e w:=λa h=>by
 have⟨V,H,q⟩:=k a h;exact⟨V,H,by simp[Exit.inBlock];exact q⟩
theorem lR {i:Nat} (h:Nat.beq i id=false) (k:WQ Q (.exit i) n ds e w):WQ (Exit.inBlock id Q) (.exit i) n ds e w:=λa H=>by
 have⟨V,f,q⟩:=k a H;exact⟨V,f,by simp[Exit.inBlock,Xx (ZS h)];exact q⟩
def Bu (E:α->Env) (I:α->Xo->Prop) (μ:α->Nat) (z:α) (n:Nat) (ds:Md) (Q:YL->Act->Xo->Prop):YL->Act->Xo->Prop:=
 Exit.then (λa w=>∃y,Fr n ds (E y) a/\I y w/\μ y<μ z) Q
instance{α:Type}{E:α->Env}{I:α->Xo->Prop}{μ:α->Nat}{z:α}{n:Nat}{ds:Md}{Q:YL->Act->Xo->Prop}[h:pr Q]:pr (Bu E I μ z n ds Q):=⟨h.no⟩
def aL (E:α->Env) (I:α->Xo->Prop) (μ:α->Nat) (Z:α) (f:Sub (E Z) e) (g:I Z w) (r:∀z w,I z w->WC c (Bu E I μ z n ds Q) n ds (E z) w):WC (.loop c) Q n ds e w:=λa i=>
 M0 (λz a v=>Fr n ds (E z) a/\I z v) μ Z ⟨i.sub f,g⟩ λz a v ⟨j,H⟩=>tI (r z v H a j) λk a w h=>by
  cases k with
  | normal=>obtain⟨y,m,H,l⟩:=h;exact⟨y,by grind,l⟩
  | _=>exact h
section
variable{α:Type}{E:α->Env}{I:α->Xo->Prop}{μ:α->Nat}{z:α}
def az(y:α)(h:Sub (E y) e)(H:I y w)(f:μ y<μ z):WQ (Bu E I μ z n ds Q) .normal n ds e w:=λ_ g=>.of ⟨y,g.sub h,H,f⟩
theorem kK{id:Nat}(k:WQ Q (.exit id) n ds e w):WQ (Bu E I μ z n ds Q) (.exit id) n ds e w:=k
theorem lS(k:WQ Q .ret n ds e w):WQ (Bu E I μ z n ds Q) .ret n ds e w:=k
end
def yC(e:Env):Xn ResultVar->XB (Xn Xp)
 | []=>some []
 | .tmp t::r=>match lk e t with
  | some v=>match yC e r with
   | some V=>some (v::V)
   | none=>none
  | none=>none
 | _::_=>none
def tN:Xn Xp->Xp
 | [v]=>v
 | vs=>.tuple vs.toArray
def Still (s:Sem α) (w:Xo) (x:α):Prop:=∀es:Xv Ys,s.runT prog w es=(.ok x w,es)
theorem Still.of {s:Sem α} {x:α} (h1:s.run prog w=.ok x w) (h:∀es:Xv Ys,s.events prog w es=es):Still s w x:=λes=>by rw[Yo,h1,h]
def Still.oL {s:Sem α} {x:α} (h:Still s w x):dr s w x w:=⟨#[],h #[],λe H=>by grind,.refl w⟩
def aR (s:Sem α) (w:Xo) (x:α):Prop:=∀es:Xv Ys,∃E,s.runT prog w es=(.ok x w,E)/\∀e∈E,e∈es\/iM w e
theorem aR.oL {s:Sem α} {x:α} (h:aR s w x):dr s w x w:=by
 have⟨E,H,f⟩:=h #[];exact⟨E,H,λe g=>(f e g).elim (λh=>by grind) id,.refl w⟩
def Still.look {s:Sem α} {x:α} (h:Still s w x):aR s w x:=λes=>⟨es,h es,λe H=>.inl H⟩
def aR.bind {β:Type} {s:Sem α} {f:α->Sem β} {x:α} {y:β} (h:aR s w x) (k:aR (f x) w y):aR (s >>= f) w y:=λes=>by
 have⟨E,H,i⟩:=h es;have⟨g,j,l⟩:=k E;refine⟨g,?_,λe m=>?_⟩
 .simp_all
 grind
def aR.pure (x:α):aR (Pure.pure x:Sem α) w x:=λes=>⟨es,rfl,λe h=>.inl h⟩
def KI(a:Act):Xn ResultVar->Sem (Xn Xp):=List.mapM (λx=>match x with|ResultVar.tmp t=>(pure (a.tmps.getD t undef):Sem Xp)|ResultVar.cell A t=>do loadVar t (<- asAddr (a.tmps.getD A undef)))
variable {fn:Func} {rs:Xn ResultVar} {a:Act} {vs:Xn Xp}
def tO (H:fn.results=rs.toArray) (h:aR (KI a rs) w vs):aR (results fn a.tmps) w (tN vs):=by
 rw[results,H,aam];refine aR.bind (x:=vs.toArray) ?_ ?_
 .apply aR.bind h;exact aR.pure _
 .cases vs with
  | nil=>exact aR.pure _
  | cons v r=>cases r<;>exact aR.pure _
def Bv (H:Fr n ds e a):∀{rs:Xn ResultVar} {vs:Xn Xp},yC e rs=some vs->aR (KI a rs) w vs
 | [],vs,h=>by simp[yC]at h;subst h;exact aR.pure _
 | .cell A t::r,vs,h=>by simp[yC]at h
 | .tmp t::r,vs,h=>by
  simp[yC]at h;split at h
  .rename_i v f;split at h
   .rename_i u g;simp at h;subst h;have i:a.tmps.getD t undef=v:=by simp[H.get t v f]
    have:=Bv H g;unfold KI at this |-;rw[abF];refine aR.bind (by show aR (pure _) _ _;rw[i];exact aR.pure _) (aR.bind this (aR.pure _))
   grind
  grind
def qE (H:Fr n ds e a) (f:fn.results=rs.toArray) (h:yC e rs=some vs) (w:Xo):dr (results fn a.tmps) w (tN vs) w:=
 (tO f (Bv H h)).oL
def KJ(rs:Xn ResultVar)(R:Ending->Xo->Prop):YL->Act->Xo->Prop
 | .normal,a,w | .ret,a,w=>a.defers=[]/\∃fn:Func,fn.results=rs.toArray/\∃v,(∀w1,Ry w w1->dr (results fn a.tmps) w1 v w1)/\R (.returned v) w
 | _,_,_=>False
instance{rs:Xn ResultVar}{R:Ending->Xo->Prop}:pr (KJ rs R):=⟨λ_ _ h=>h⟩
variable {R:Ending->Xo->Prop}
def an (h:yC e rs=some vs) (k:R (.returned (tN vs)) w):WQ (KJ rs R) .ret n P6 e w:=
 λa H=>.of ⟨H.defers,{ (default:Func)with results:=rs.toArray },rfl,_,λw1 _=>qE H rfl h w1,k⟩
def fE (h:yC e rs=some vs) (k:R (.returned (tN vs)) w):WQ (KJ rs R) .normal n P6 e w:=
 λa H=>.of ⟨H.defers,{ (default:Func)with results:=rs.toArray },rfl,_,λw1 _=>qE H rfl h w1,k⟩
def Nt(w:Xo)(e:Env):Xn ResultVar->Xn Xp->Prop
 | [],vs=>vs=[]
 | .tmp t::r,vs=>∃v u,vs=v::u/\lk e t=some v/\Nt w e r u
 | .cell t T::r,vs=>∃v u b o,vs=v::u/\lk e t=some (.pointer (some ⟨b,o,none⟩))/\(∀w1,Ry w w1->aR (loadVar T ⟨b,o,none⟩) w1 v)/\Nt w e r u
def vB (H:Fr n ds e a) (f:Ry w w1):∀{rs:Xn ResultVar} {vs:Xn Xp},Nt w e rs vs->aR (KI a rs) w1 vs
 | [],vs,h=>by simp[Nt]at h;subst h;exact aR.pure _
 | .cell t T::r,vs,h=>by
  obtain⟨v,u,b,o,rfl,g,k,i⟩:=h;have j:a.tmps.getD t undef=.pointer (some ⟨b,o,none⟩):=by simp[H.get t _ g]
  have:=vB H f i;unfold KI at this |-;rw[abF];refine aR.bind (aR.bind ?_ (k w1 f)) (aR.bind this (aR.pure _));rw[j];exact aR.pure _
 | .tmp t::r,vs,h=>by
  obtain⟨v,u,rfl,g,i⟩:=h;have j:a.tmps.getD t undef=v:=by simp[H.get t v g]
  have:=vB H f i;unfold KI at this |-;rw[abF];refine aR.bind (by show aR (pure _) _ _;rw[j];exact aR.pure _) (aR.bind this (aR.pure _))
def iW (h:Nt w e rs vs) (k:R (.returned (tN vs)) w):WQ (KJ rs R) .ret n P6 e w:=
 λa H=>.of ⟨H.defers,{ (default:Func)with results:=rs.toArray },rfl,_,λw1 f=>(tO rfl (vB H f h)).oL,k⟩
def Ar:Nat->Xn Xp->Env
 | _,[]=>[]
 | i,v::r=>(i,v)::Ar (i+1) r
theorem EY:∀(vs:Xn Xp) (i:Nat) (t:Nat) (v:Xp),lk (Ar i vs) t=some v->∃j,t=i+j/\vs[j]?=some v
 | [],_,_,_,h=>by simp[Ar,lk]at h
 | u::r,i,t,v,h=>by
  unfold Ar lk at h;cases H:Nat.beq i t with
  | true=>rw[H]at h;simp at h;subst h;exact⟨0,(YX H).symm,rfl⟩
  | false=>
   rw[H]at h;obtain⟨j,rfl,f⟩:=EY r _ t v h
   grind
theorem sj {f:Func} (h:fn.results=f.results) (tmps:Xv Xp):results fn tmps=results f tmps:=by unfold results;rw[h]
variable {args:Xn Xp}
def CG {n:Nat} (H:Nat.ble args.length n=true):Fr n P6 (Ar 0 args) { tmps:=args.toArray++Array.replicate (n-args.toArray.size) undef,defers:=[] }:=by
 have f:args.length<=n:=by simpa using H
 refine⟨by grind,rfl,λt v h=>?_⟩;obtain⟨j,rfl,g⟩:=EY args 0 t v h
 grind
def yD [NQ]:Bs0.quiet=true->p:=λh=>by rw[NQ.no]at h;cases h
def enter {f:FuncId} {body:Code} {n:Nat} (j:prog.funcs[f]?=some fn) (m:fn.body=some body) (r:fn.ntmps=n) (s:fn.results=rs.toArray) (H:Nat.ble args.length n=true) (k:WC body (KJ rs R) n P6 (Ar 0 args) w) (u:Bs0.quiet=true->(prog.funcs[f]?).any (·.norace)=true:=by first|exact yD|exact λ_=>by kernel_rfl):Calls prog f args.toArray w R:=by
 apply Bl j m u;rw[r];apply tI (k _ (CG H));intro E a w h;have g:(a.defers=[]/\∃F:Func,F.results=rs.toArray/\∃v,(∀w1,Ry w w1->dr (results F a.tmps) w1 v w1)/\R (.returned v) w)->DC fn a.tmps R a.defers w:=by
  rintro⟨z,F,i,v,A,B⟩;rw[z];exact⟨v,λw1 D=>by rw[sj (s.trans i.symm)];exact A w1 D,B⟩
 cases E with
 | normal=>exact g h
 | ret=>exact g h
 | panic C=>exact h
 | exit id=>exact h
 | goto l=>exact h
 | outgrown=>exact h.elim
end
attribute [irreducible] WL WC WQ
