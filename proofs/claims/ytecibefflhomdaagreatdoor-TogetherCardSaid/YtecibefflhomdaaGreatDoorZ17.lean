/-
  Part 17: ; ; .
-/
import Derived.Test.YtecibefflhomdaaGreatDoorZ16
import Derived.Conc.SmallLaws
import Derived.Laws.LoneSync
set_option maxHeartbeats 8000000
set_option maxRecDepth 100000
set_option linter.all false
namespace Go.Proofs.YtecibefflhomdaaGreatDoor
open Go Proofs.Tryz
def Y3:=@run_callFunc_extern
def abH:=@events_load
section
open Go Go.Conc
def xp{w W:Xo}{a:YO}{z:Xp}(h:w.cell? a=some z)(b:Ry w W):W.cell? a=some z:=by
 unfold World.cell? at h |-;cases H:w.heap[a.block]? with
 | none=>rw[H]at h;cases h
 | some o=>rw[b.heap _ (Xz.1 H).1,H];rw[H]at h;exact h
section
variable{q:XN}{r r':Xo}{f:FuncId}{fn:Func}{e:Xv Xp->Sem Xp}{args:Xv Xp}{u:Xp}{es:Xv Ys}
def bW(b:prog.funcs[f]?=some fn)(h:(fn.name == "runtime.NumGoroutine")=false)(c:fn.body.isNone=true)(d:Extern.findNext fn=none)(i:Extern.find fn=some e)
 (H:(e args).run prog r=.ok u r') (a:(e args).events prog r #[⟨.mark (.extern f),false,true⟩]=#[⟨.mark (.extern f),false,true⟩]++es) (j:∀x∈es,x.sync=true/\∀g,x.loc≠.mark (.extern g)):Yields q (callFunc f args) r u r' es:=by
 refine⟨#[⟨.mark _,false,true⟩]++es,.inl ?_,λg _=>seen_entry g f es j⟩;rw[Yo,Y3 b h c d i,H,events_callFunc_extern b h c d i];simp only[List.push_toArray,List.nil_append];rw[a];rfl
variable {op:Nat} {a:YO}
def qL {q:XN} {x y:Int}:(Rq.cas a .i32 x y).jj op q (callFunc 194 #[.pointer (some a),.int .i32 x,.int .i32 y]):=λr z H b=>
 ⟨λh=>by
   subst h;exact bW func194 (by kernel_rfl) (by kernel_rfl) (by kernel_rfl) (e:=Extern.Atomic.casT (.int .i32)) (by kernel_rfl) (by rw[casT_eq];exact run_cas_hit_entry H b) (by rw[casT_eq,events_cas_hit_entry H b];rfl) (sync_rw a),
 λh=>bW func194 (by kernel_rfl) (by kernel_rfl) (by kernel_rfl) (e:=Extern.Atomic.casT (.int .i32)) (by kernel_rfl) (by rw[casT_eq];exact run_cas_miss_entry H b h) (by rw[casT_eq,events_cas_miss_entry H b h];rfl) (sync_r a)⟩
def Fb {q:XN} {d:Int}:(Rq.add a .i32 d).jj op q (callFunc 196 #[.pointer (some a),.int .i32 d]):=λr z h H=>
 bW func196 (by kernel_rfl) (by kernel_rfl) (by kernel_rfl) (by kernel_rfl) (run_add_entry h H) (by rw[events_add_entry h H];rfl) (sync_rw a)
def rG{m:Mark}(hm:∀g,m≠.extern g):∀x∈(#[⟨.mark m,false,true⟩]:Xv Ys),x.sync=true/\∀g,x.loc≠.mark (.extern g):=by
 grind
def kN {q:XN}:(Rq.mk .disable).jj op q (callFunc 109 #[]):=λr=>
 bW func109 (by kernel_rfl) (by kernel_rfl) (by kernel_rfl) (e:=λ_=>do mark .disable;pure Extern.Race.none_) (by kernel_rfl) (by simp[Extern.Race.none_]) (by simp) (rG (by simp))
def fg {q:XN}:(Rq.mk .enable).jj op q (callFunc 110 #[]):=λr=>
 bW func110 (by kernel_rfl) (by kernel_rfl) (by kernel_rfl) (e:=λ_=>do mark .enable;pure Extern.Race.none_) (by kernel_rfl) (by simp[Extern.Race.none_]) (by simp) (rG (by simp))
def iw {q:XN}:(Rq.mk (.acquire a)).jj op q (callFunc 121 #[.pointer (some a)]):=λr=>
 bW func121 (by kernel_rfl) (by kernel_rfl) (by kernel_rfl) (e:=Extern.Race.marked .acquire) (by kernel_rfl) (by simp[Extern.Race.marked,Extern.Race.at_,Extern.Race.none_]) (by simp[Extern.Race.marked,Extern.Race.at_]) (rG (by simp))
def Av {q:XN}:(Rq.mk (.releaseMerge a)).jj op q (callFunc 108 #[.pointer (some a)]):=λr=>
 bW func108 (by kernel_rfl) (by kernel_rfl) (by kernel_rfl) (e:=Extern.Race.marked .releaseMerge) (by kernel_rfl) (by simp[Extern.Race.marked,Extern.Race.at_,Extern.Race.none_]) (by simp[Extern.Race.marked,Extern.Race.at_]) (rG (by simp))
def Fc {q:XN}:Rq.clk.jj op q (callFunc 221 #[]):=λr=>by
 refine⟨((r.os.mono+r.tick:Nat):Int),#[⟨.mark (.extern 221),false,true⟩,⟨.output,true,false⟩],.inl ?_,λg _=>?_⟩
 .have h:(Extern.OsHooks.nano #[]).run prog r=.ok (.int .i64 ((r.os.mono+r.tick:Nat):Int)) r.later:=rfl;have H:Extern.find f221=some Extern.OsHooks.nano:=by kernel_rfl
  rw[Yo,Y3 func221 (by kernel_rfl) (by kernel_rfl) (by kernel_rfl) H,h,events_callFunc_extern func221 (by kernel_rfl) (by kernel_rfl) (by kernel_rfl) H];rfl
 .exact seen_entry_out g 221 (by kernel_rfl)
variable {x y:Xp}
def NI {q:XN}:(Rq.acq a).jj op q (callFunc 222 #[.pointer (some a),x,y]):=λr z H b=>by
 have c:Extern.find f222=some Extern.Sync.semacquire:=by kernel_rfl
 refine⟨λh=>?_,λh=>?_⟩
 .subst h;have d:(callFunc 222 #[.pointer (some a),x,y]).run prog r=.halt .blocked r:=by
   rw[Y3 func222 (by kernel_rfl) (by kernel_rfl) (by kernel_rfl) c];simp[Extern.Sync.semacquire,Extern.Sync.count,H]
  exact⟨(callFunc 222 #[.pointer (some a),x,y]).events prog r #[],by rw[Yo,d]⟩
 .exact bW func222 (by kernel_rfl) (by kernel_rfl) (by kernel_rfl) c (by simp[Extern.Sync.semacquire,Extern.Sync.count,H,h,b,Extern.Sync.none_,aai prog r a (.int .u32 (z-1)) .atomic rfl,Result.andThen])
   (by simp[Extern.Sync.semacquire,Extern.Sync.count,H,h,b,semEvents,abH,aaJ prog r _ a (.int .u32 (z-1)) .atomic rfl,aai prog r a (.int .u32 (z-1)) .atomic rfl,Result.evThen]) (semEvents_sync a)
def Fe {q:XN}:(Rq.rel a).jj 2 q (callFunc 224 #[.pointer (some a),x,y]):=⟨rfl,λr z h H=>
 bW func224 (by kernel_rfl) (by kernel_rfl) (by kernel_rfl) (e:=Extern.Sync.semrelease) (by kernel_rfl)
  (by simp[Extern.Sync.semrelease,Extern.Sync.count,h,H,Extern.Sync.none_,Op.intArith,aai prog r a (.int .u32 (IntKind.u32.wrap (z+1))) .atomic rfl,Result.andThen])
  (by simp[Extern.Sync.semrelease,Extern.Sync.count,h,H,semEvents,Op.intArith,abH,aaJ prog r _ a (.int .u32 (IntKind.u32.wrap (z+1))) .atomic rfl,aai prog r a (.int .u32 (IntKind.u32.wrap (z+1))) .atomic rfl,Result.evThen]) (semEvents_sync a)⟩
end
section
variable[Bs0:Base]{ops:Xv Yf}{Q:YL->Act->Xo->Prop}{n:Nat}{ds:Md}{e:Env}{w:Xo}{rest:Xn Yf}
variable{ty:XO}{pos:YG}{af:Xv Edge}{d:Nat}
attribute [local semireducible] WL WC WQ
noncomputable abbrev Sb(f:FuncId):Nat:=if(prog.funcs[f]?).any (·.body.isSome)then 1 else 2
def bE{f:FuncId}{xs:Xv XZ}{at_:Xv XO}{vs:Xn Xp}(g:evs e xs.toList=some vs)(h:∀W,Ry w W->Bs0.ask (Sb f) Bs0.quiet (callFunc f vs.toArray) W λv b=>WL ops Q n ds rest ((d,v)::e) b)(i:Nat.blt d n=true:=by rfl) :
 WL ops Q n ds (⟨some d,.call { callee:=.value (.func f),args:=xs,argTypes:=at_ },ty,pos,af,none⟩::rest) e w:=
 He (m:=Sb f) (λa H=>rfl) (λa H=>by
  rw[aad _ _ _ λc h=>by grind,execOp_call_func rfl];rw[<- H.evs g];cases xs;simp) h i λv b j=>j
def p9(T:XO)(a:YO):Sem Next:=do let u <- Instr.loadAt T (.pointer (some a));pure (.value u)
variable {T:XO} {a:YO}
def pG {op:Nat} (h:lk kV T=some false):(Rq.ld a).jj op true (p9 T a):=λr k x H=>by
 refine⟨#[⟨.cell a,false,false⟩],.inl ?_,λf b=>by simp[seen,b rfl]⟩;have c:(p9 T a).run prog r=.ok (.value (.int k x)) r:=by
  simp[p9,Instr.loadAt,Instr.sureAddr,loadVar,vD h,H]
 have g:(p9 T a).events prog r #[]=#[⟨.cell a,false,false⟩]:=by
  simp[p9,Instr.loadAt,Instr.sureAddr,loadVar,vD h,H]
 simp_all
variable {x:XZ}
def nJ (g:ev e x=some (.pointer (some a))) (h:∀W,Ry w W->Bs0.ask 1 Bs0.quiet (p9 T a) W λv f=>WL ops Q n ds rest ((d,v)::e) f) (i:Nat.blt d n=true:=by rfl):
 WL ops Q n ds (⟨some d,.load T x,ty,pos,af,none⟩::rest) e w:=
 He (λb H=>rfl) (λb H=>by
  rw[aad _ _ _ λc h=>by grind];simp[execOp,H.ev g];rfl) h i λv f j=>j
def nK {s t:XO} {z:Xp} (h:w.cell? a=some z) (H:prog.underlying s=some (.pointer t)) (c:prog.underlying 202=some .unsafePointer) (f:(prog.info? t).map (λi=>decide (i.size=0))=some false) (g:ev e x=some (.pointer (some a))) (k:WL ops Q n ds rest ((d,.pointer (some a))::e) w) (m:Nat.blt d n=true:=by rfl):
 WL ops Q n ds (⟨some d,.convert s 202 x,ty,pos,af,none⟩::rest) e w:=
 fY (λW j b l=>Still.look (Still.of (by simp[execOp,l.ev g,run_convert_to_unsafe H c f (xp h j)]) λE=>by simp[execOp,l.ev g,Conc.events_convert_to_unsafe H c f (xp h j)])) m k
end
end
section
open Go Go.Conc
def Hm(x:Nat):x=2^3*(x / 8)+x%8:=by omega
def qM(q r:Nat)(h:r<8)(j:Nat):(2^3*q+r).testBit j=if j<3 then r.testBit j else q.testBit (j-3):=Nat.testBit_two_pow_mul_add q h j
def CU{m j:Nat}(hm:m<8)(H:¬j<3):m.testBit j=false:=by
 have h:3<=j:=by omega
 have:2^3<=2^j:=Zn (by simp) h;exact abp (by omega)
def NJ(x m:Nat)(hm:m<8):x &&& m=(x%8) &&& m:=by
 apply aaB;intro j;simp_all
 conv=>lhs;rw[Hm x,qM _ _ (by grind)]
 by_cases h:j<3
 .grind
 .simp[CU hm h]
def Wd(x m:Nat)(hm:m<8):x ||| m=8*(x / 8)+((x%8) ||| m):=by
 apply aaB;intro j;rw[show 8*(x / 8)+((x%8) ||| m)=2^3*(x / 8)+((x%8) ||| m)from rfl,qM _ _ (aa1 (n:=3) (by grind) hm),Nat.testBit_or]
 conv=>lhs;rw[Hm x,qM _ _ (by grind)]
 by_cases h:j<3
 .grind
 .simp[CU hm h]
def QP(x m:Nat)(c:x<2147483648)(hm:m<8):x &&& (4294967295-m)=8*(x / 8)+((x%8) &&& (7-m)):=by
 apply aaB;intro j;rw[show 8*(x / 8)+((x%8) &&& (7-m))=2^3*(x / 8)+((x%8) &&& (7-m))from rfl,qM _ _ (Za abw (by grind)),Nat.testBit_and,show 4294967295-m=2^32-(m+1)from by omega,aaG (by omega)];have h:x.testBit j=if j<3 then(x%8).testBit j else(x / 8).testBit (j-3):=by
  conv=>lhs;rw[Hm x,qM _ _ (by grind)]
 by_cases H:j<3
 .rw[XE H,Nat.testBit_and,show 7-m=2^3-(m+1)from by omega,aaG hm,h,XE H]
  grind
 .rw[Xx H,CU hm H];rw[Xx H]at h;by_cases b:j<32
  .grind
  .have a:31<=j:=by omega
   have d:2^31<=2^j:=Zn (by simp) a;rw[<- h,(abp (by omega))];rfl
def QQ(x:Nat):x &&& 5=x%2+4*(x / 4%2):=by
 rw[NJ x 5 (by omega)];have:∀y,y<8->y &&& 5=y%2+4*(y / 4%2):=by decide
 grind
def QR(x:Nat):x &&& 4=4*(x / 4%2):=by
 rw[NJ x 4 (by omega)];have:∀y,y<8->y &&& 4=4*(y / 4%2):=by decide
 grind
def UU(x:Nat):x &&& 2=2*(x / 2%2):=by
 rw[NJ x 2 (by omega)];have:∀y,y<8->y &&& 2=2*(y / 2%2):=by decide
 grind
def We(x:Nat):x &&& 3=x%4:=by
 rw[NJ x 3 (by omega)];have:∀y,y<8->y &&& 3=y%4:=by decide
 grind
def Wf(x:Nat):x &&& 7=x%8:=by
 rw[NJ x 7 (by omega)];have:∀y,y<8->y &&& 7=y:=by decide
 grind
def UW(x:Nat):x &&& 1=x%2:=by
 grind
def Xc(x:Nat):x ||| 1=x+1-x%2:=by
 rw[Wd x 1 (by omega)];have:∀y,y<8->y ||| 1=y+1-y%2:=by decide
 grind
def WZ(x:Nat):x ||| 2=x+2-2*(x / 2%2):=by
 rw[Wd x 2 (by omega)];have:∀y,y<8->y ||| 2=y+2-2*(y / 2%2):=by decide
 grind
def Xd(x:Nat):x ||| 4=x+4-4*(x / 4%2):=by
 rw[Wd x 4 (by omega)];have:∀y,y<8->y ||| 4=y+4-4*(y / 4%2):=by decide
 grind
def Wh(x:Nat)(h:x<2147483648):x &&& (4294967295-2)=x-2*(x / 2%2):=by
 rw[QP x 2 h (by omega)];have:∀y,y<8->y &&& (7-2)=y-2*(y / 2%2):=by decide
 grind
def Sd:BinOp->Nat->Nat->XB Nat
 | .and,a,b=>some (a &&& b)
 | .or,a,b=>some (a ||| b)
 | .andNot,a,b=>some (a &&& (4294967295-b))
 | _,_,_=>none
section
variable[Bs0:Base]{ops:Xv Yf}{Q:YL->Act->Xo->Prop}{n:Nat}{ds:Md}{e:Env}{w:Xo}{rest:Xn Yf}
variable{ty:XO}{pos:YG}{af:Xv Edge}{d:Nat}
theorem wrap32{m:Nat}(h:m<2147483648):IntKind.i32.wrap (m:Int)=m:=IntWalk.i32_in _ ⟨by omega,by omega⟩
variable {x:XZ}
def ix {bo:BinOp} {y:XZ} {t T N M R:Nat} (j:Sd bo N M=some R) (k:N<2147483648) (hM:M<2147483648) (kk:WL ops Q n ds rest ((d,.int .i32 (R:Int))::e) w) (c:ev e x=some (.int .i32 (N:Int)):=by rfl) (f:ev e y=some (.int .i32 (M:Int)):=by rfl) (l:Nat.blt d n=true:=by rfl):
 WL ops Q n ds (⟨some d,.binOp bo t x y T,ty,pos,af,none⟩::rest) e w:=by
 refine ey (λw a H E=>?_) l kk;have h:∀m:Nat,BitVec.ofInt 32 (m:Int)=BitVec.ofNat 32 m:=λm=>rfl;have g:N%2^32=N:=YY (by omega);have i:M%2^32=M:=YY (by omega);cases bo<;>simp[Sd]at j<;>subst j
 .have b:(BitVec.ofNat 32 N &&& BitVec.ofNat 32 M).toNat=N &&& M:=by grind
  simp[execOp,H.ev c,H.ev f,eqGuard,Go.binOp,Op.intBits,h];exact(Zu (λm:Nat=>IntKind.i32.wrap (m:Int)) b).trans (wrap32 (Za (abw) k))
 .have b:(BitVec.ofNat 32 N ||| BitVec.ofNat 32 M).toNat=N ||| M:=by rw[BitVec.toNat_or,aaS,aaS,g,i]
  simp[execOp,H.ev c,H.ev f,eqGuard,Go.binOp,Op.intBits,IntKind.bits,h];exact(Zu (λm:Nat=>IntKind.i32.wrap (m:Int)) b).trans (wrap32 (aa1 (n:=31) (by omega) (by omega)))
 .have o:=wrap32 (Za (abw (m:=4294967295-M)) k);have b:(BitVec.ofNat 32 N &&& ~~~BitVec.ofNat 32 M).toNat=N &&& (4294967295-M):=by
   grind
  simp[execOp,H.ev c,H.ev f,eqGuard,Go.binOp,Op.intBits,IntKind.bits,h];exact(Zu (λm:Nat=>IntKind.i32.wrap (m:Int)) b).trans o
def Hn {at_:Xv XO} {z:Int} (k:∀b W,(b=true->z<4)->Ry w W->WL ops Q n ds rest ((d,.bool b)::e) W) (l:ev e x=some (.int .i64 z):=by rfl) (m:Nat.blt d n=true:=by rfl):
 WL ops Q n ds (⟨some d,.call { callee:=.value (.func 218),args:=#[x],argTypes:=at_ },ty,pos,af,none⟩::rest) e w:=jk (λw1 j=>by
 have g:Extern.find f218=some Extern.Sync.canSpin:=by kernel_rfl
 have E:∀a,Fr n ds e a->execOp a.eval ⟨some d,.call { callee:=.value (.func 218),args:=#[x],argTypes:=at_ },ty,pos,af,none⟩=callFunc 218 #[.int .i64 z]:=λa f=>by
  rw[execOp_call_func rfl];simp[f.ev l]
 by_cases o:z<4
 .have H:¬(z >= 4):=by omega
  have i:(callFunc 218 #[.int .i64 z]).run prog w1=.ok (.value (.bool w1.spins)) w1.asked:=by
   rw[Y3 func218 (by kernel_rfl) (by kernel_rfl) (by kernel_rfl) g,canSpin_eq,Xx H];rfl
  have c:(callFunc 218 #[.int .i64 z]).events prog w1 #[]=#[⟨.mark (.extern 218),false,true⟩]:=by
   rw[events_callFunc_extern func218 (by kernel_rfl) (by kernel_rfl) (by kernel_rfl) g,canSpin_eq,Xx H];rfl
  refine⟨.bool w1.spins,w1.asked,λa f=>by rw[E a f];exact .of i (λev h=>by rw[c]at h;simp at h;subst h;exact .inr ⟨_,rfl⟩) .drawn,k _ _ (λ_=>o) (j.trans ⟨XD _,λ_ _=>rfl,rfl,rfl,rfl⟩)⟩
 .have H:z >= 4:=by omega
  have i:(callFunc 218 #[.int .i64 z]).run prog w1=.ok (.value (.bool false)) w1:=by
   rw[Y3 func218 (by kernel_rfl) (by kernel_rfl) (by kernel_rfl) g,canSpin_eq,XE H];rfl
  have c:(callFunc 218 #[.int .i64 z]).events prog w1 #[]=#[⟨.mark (.extern 218),false,true⟩]:=by
   rw[events_callFunc_extern func218 (by kernel_rfl) (by kernel_rfl) (by kernel_rfl) g,canSpin_eq,XE H];rfl
  exact⟨.bool false,w1,λa f=>by rw[E a f];exact .of i (λev h=>by rw[c]at h;simp at h;subst h;exact .inr ⟨_,rfl⟩) (.refl _),k _ _ (λh=>by cases h) j⟩) m
def KQ{at_:Xv XO}(k:∀W,Ry w W->WL ops Q n ds rest ((d,eI)::e) W)(c:Nat.blt d n=true:=by rfl) :
 WL ops Q n ds (⟨some d,.call { callee:=.value (.func 219),args:=#[],argTypes:=at_ },ty,pos,af,none⟩::rest) e w:=jk (λw1 f=>by
 have b:Extern.find f219=some Extern.Sync.nothing:=by kernel_rfl
 have E:∀a:Act,execOp a.eval ⟨some d,.call { callee:=.value (.func 219),args:=#[],argTypes:=at_ },ty,pos,af,none⟩=callFunc 219 #[]:=λa=>by
  rw[execOp_call_func rfl];simp
 have g:(callFunc 219 #[]).run prog w1=.ok (.value eI) w1:=by
  rw[Y3 func219 (by kernel_rfl) (by kernel_rfl) (by kernel_rfl) b];rfl
 have H:(callFunc 219 #[]).events prog w1 #[]=#[⟨.mark (.extern 219),false,true⟩]:=by
  rw[events_callFunc_extern func219 (by kernel_rfl) (by kernel_rfl) (by kernel_rfl) b];rfl
 exact⟨eI,w1,λa i=>by rw[E a];exact .of g (λev h=>by rw[H]at h;simp at h;subst h;exact .inr ⟨_,rfl⟩) (.refl _),k _ f⟩) c
end
class I7(F:Xn Nat->cn)[B:Base]:Prop where
 ask:∀{op:Nat} {q:XN} {s:Sem Next} {v:Xo} {K:Xp->Xo->Prop} {rq:Rq},rq.jj op q s->jB (F v.os.sigPending) B.old rq v K->B.ask op q s v K
structure At(F:Xn Nat->cn)(p:cn)(s:Ps)(w:Xo):Prop where
 par:F w.os.sigPending=p
 st:dN w=s
 mem:∃z,w.cell? ⟨p.mu,0,none⟩=some z
structure yN(F:Xn Nat->cn)(p:cn)(s:Ps)(w:Xo):Prop where
 par:F w.os.sigPending=p
 st:dN w=s
variable {F:Xn Nat->cn} {p:cn} {s:Ps} {w:Xo}
def At.UX (h:At F p s w):yN F p s w:=⟨h.par,h.st⟩
variable {w1:Xo}
def yN.on (h:yN F p s w) (H:w1.os=w.os):yN F p s w1:=⟨by rw[H];exact h.par,by have:=h.st;unfold dN at this |-;rw[H];exact this⟩
def yN.ry (h:yN F p s w) (k:Ry w w1):yN F p s w1:=h.on k.os
structure Fl(w w':Xo):Prop where
 size:w.heap.size<=w'.heap.size
 heap:∀k,k<w.heap.size->w'.heap[k]?=w.heap[k]?
 tape:w'.tape=w.tape
 out:w'.output=w.output
 os:{ w'.os with sigLate:=[] }={ w.os with sigLate:=[] }
def Fl.refl(w:Xo):Fl w w:=⟨by grind,λ_ _=>rfl,rfl,rfl,rfl⟩
variable {a b c:Xo}
def Fl.trans (h:Fl a b) (k:Fl b c):Fl a c:=
 ⟨Yh h.size k.size,λi H=>(k.heap i (YT H h.size)).trans (h.heap i H),k.tape.trans h.tape,k.out.trans h.out,k.os.trans h.os⟩
def Fl.ry (h:Fl a b) (k:Ry b c):Fl a c:=h.trans ⟨k.size,k.heap,k.tape,k.out,by rw[k.os]⟩
def Fl.nb (h:Fl a b) (k:Nb b c s):Fl a c:=h.trans ⟨by rw[k.heap];exact XD _,λ_ _=>by rw[k.heap],k.tape,k.out,by rw[k.os];rfl⟩
section
variable{F:Xn Nat->cn}{p:cn}{s s':Ps}{w w1 w2:Xo}
def At.ry(h:At F p s w)(k:Ry w w1):At F p s w1:=⟨by rw[k.os];exact h.par,(vt k).trans h.st,let ⟨z,H⟩:=h.mem;⟨z,xp H k⟩⟩
def At.nb(h:At F p s w)(k:Nb w w1 s'):At F p s' w1:=⟨by rw[k.os];exact h.par,k.dN,by have:=h.mem;unfold World.cell? at this |-;rw[k.heap];exact this⟩
def At.put(h:At F p s w)(k:w1.os=ji w.os s')(hm:∃z,w1.cell? ⟨p.mu,0,none⟩=some z):At F p s' w1:=⟨by rw[k];exact h.par,kH k,hm⟩
def QS{a:YO}{z:Xp}(h:w.cell? a=some z):∃c e f,w.heap[a.block]?=some (.cells c e f)/\a.off<c.size/\a.spot=none:=by
 unfold World.cell? at h;cases H:w.heap[a.block]? with
 | none=>rw[H]at h;cases h
 | some o=>
  rw[H]at h;cases o with
  | cells c e f=>
   simp only at h;split at h
   .grind
   .rename_i d;exact⟨c,e,f,rfl,(Xz.1 h).1,by simpa using d⟩
  | _=>cases h
variable {k o:Nat}
def cell_of {c:Xv Xp} {e:XO} {f:Nat×Nat} (h:w.heap[k]?=some (.cells c e f)) (H:o<c.size):∃z,w.cell? ⟨k,o,none⟩=some z:=by
 simp[World.cell?,h,H]
def rY.cell {old:Nat->Prop} {n:Hp} (h:rY old n w w1) (r:∃z,w.cell? ⟨k,o,none⟩=some z):∃z,w1.cell? ⟨k,o,none⟩=some z:=by
 have⟨z,t⟩:=r;have⟨c,e,f,H,j,_⟩:=QS t;have j:o<c.size:=j;cases d:n k with
 | none=>rw[<- h.off k d]at H;exact cell_of H j
 | some x=>
  by_cases q:old k
  .have g:=(h.olds k x d q).2;rw[<- h.on k x d]at g;exact cell_of (g.symm.trans H) j
  .have l:=h.on k x d;rcases((h.hid k x d q).2)with g|⟨v,y,f9,g,u,A⟩
   rotate_left
   .rw[u]at l;rw[g]at H;cases H;exact cell_of l (by omega)
   have m:gZ x.2=.cells c e f:=by
    grind
   cases i:x.2 with
   | cells C E B=>
    rw[i]at l m;simp[gZ]at m;have:c.size=C.size:=by grind
    exact cell_of l (by omega)
   | _=>rw[i]at m;cases m
end
def Sat.fl [B:Base] {W0 w':Xo} {l:Xn ae} (h:Sat W0 l w) (k:Fl w w'):Sat { W0 with os:=w'.os } l w':=by
 have⟨a,b,c,d,g,e,f,r⟩:=h;exact⟨rfl,k.tape.trans b,k.out.trans c,⟨d.1,Yh d.2 k.size⟩,g,λi x H=>by
  rw[k.heap i (Xz.1 (e i x H)).1];exact e i x H,f,r⟩
section
variable[Bs0:Base]{F:Xn Nat->cn}[hM:I7 F]{p:cn}{w:Xo}{i c n:Nat}{K:Xp->Xo->Prop}{q:XN}
variable {op:Nat} {s:Sem Next} {rq:Rq} {st:Ps} {w1:Xo}
def S8 {q:XN} (H:yN F p st w) (h1:Ry w w1) (d:rq.jj op q s) (k:yN F p st w1->jB p Bs0.old rq w1 K):Bs0.ask op q s w1 K:=by
 have h:=H.ry h1;apply hM.ask d;rw[h.par];exact k h
def fh {q:XN} (H:At F p st w) (h1:Ry w w1) (d:rq.jj op q s) (k:At F p st w1->jB p Bs0.old rq w1 K):Bs0.ask op q s w1 K:=by
 have h:=H.ry h1;apply hM.ask d;rw[h.par];exact k h
end
section
variable[Bs0:Base]{F:Xn Nat->cn}[hM:I7 F]{p:cn}{w:Xo}{i c n:Nat}
def NK(F:Xn Nat->cn)(p:cn)(i c n:Nat)(w:Xo):Ending->Xo->Prop:=λx W=>∃u,x=.returned u/\∃N d,N<=n/\Fl w d /\
 ((i<p.n/\∃s h,At F p ⟨i,c,N,.hold s⟩ W/\s.count i=c/\p.LI s h/\rY Bs0.old h d W/\W.os=ji d.os ⟨i,c,N,.hold s⟩)\/(i=p.n/\Nb d W ⟨i,c,N,.hold []⟩/\At F p ⟨i,c,N,.hold []⟩ W))
structure LS where
 n:Nat
 x:Nat
 k:Nat
 aw:XN
 st:XN
 wt:Int
 it:Int
def S9(p:cn)(z:LS):Env:=[(0,.pointer (some ⟨p.mu,0,none⟩)),(2,.int .i64 z.wt),(3,.bool z.st),(4,.bool z.aw),(5,.int .i64 z.it),(6,.int .i32 z.x)]
structure W2(F:Xn Nat->cn)(p:cn)(i c n0:Nat)(w0:Xo)(z:LS)(w:Xo):Prop where
 at_:At F p ⟨i,c,z.n,.act z.x z.aw z.st z.k⟩ w
 fl:Fl w0 w
 le:z.n<=n0
 x:z.x<1000000
 aw:z.aw=true->z.x / 2%2=1
 st:z.st=true->z.aw=true
 it:5<=z.it+z.k/\0<=z.it/\z.it<=9
def QT(hq:Bs0.quiet=true)(ha:At F p ⟨i,c,n,.slow false false 5⟩ w)(hi:i<=p.n):Calls prog 195 #[.pointer (some ⟨p.mu,0,none⟩)] w (NK F p i c n w):=by
 refine enter func195 rfl ntmps195 results195 rfl ?_;refine go ?_;refine nJ rfl (λw1 h1=>fh ha h1 (by rw[hq];exact pG rfl) λha=>.Qw ha.st λw2 n' x hn hx haw h2=>?_) rfl;have f2:=((Fl.refl w).ry h1).nb h2;replace ha:=ha.nb h2;clear h2 h1 w1;refine go ?_;refine aL (S9 p) (W2 F p i c n w) (λz=>z.n*20+z.k) ⟨n',x,5,false,false,0,0⟩ ⟨rfl,rfl,rfl,rfl,rfl,rfl,Xr⟩ ⟨ha,f2,hn,hx,haw,(λh=>by cases h),show(5:Int)<=0+((5:Nat):Int)/\(0:Int)<=0/\(0:Int)<=9 from by omega⟩ ?_;clear ha f2 hn hx haw;rintro⟨n',x,k,aw,st,wt,it⟩ w1 hI;refine jR ?_;refine dx (α:=Unit) (λ_=>S9 p ⟨n',x,k,aw,st,wt,it⟩) (λ_ w'=>W2 F p i c n w ⟨n',x,k,aw,st,wt,it⟩ w') ?_ ?_
 .obtain⟨ha,f2,hn,hx,haw,hst,hit⟩:=hI;simp only[S9]at *;refine go ?_;refine ix (N:=x) (M:=5) (R:=x%2+4*(x / 4%2)) (by show some (x &&& 5)=_;rw[QQ]) (by omega) (by omega) ?_;by_cases hr:x%2+4*(x / 4%2)=1
  .rw[hr];refine go ?_;refine Hn λb w2 hb h2=>?_;have f3:=f2.ry h2;have ha2:=ha.ry h2;cases b with
   | false=>
    refine go ?_;exact aH () ⟨rfl,rfl,rfl,rfl,rfl,rfl,Xr⟩ ⟨ha2,f3,hn,hx,haw,hst,hit⟩
   | true=>
    have h4:=hb rfl;have hk:∃k',k=k'+1:=⟨k-1,by omega⟩;obtain⟨k',rfl⟩:=hk;clear ha f2 h2;refine dE rfl rfl ?_;refine lz ?_;refine bT rfl ?_;refine oK rfl ?_;refine dx (α:=Nat×XN×XN) (λz=>[(0,.pointer (some ⟨p.mu,0,none⟩)),(2,.int .i64 wt),(3,.bool st),(4,.bool z.2.1),(5,.int .i64 it)])
     (λz w'=>At F p ⟨i,c,z.1,if z.2.2 then .slow z.2.1 st (k'+1)else .act x z.2.1 st (k'+1)⟩ w'/\Fl w w'/\z.1<=n'/\(z.2.2=true->z.1<n')/\(st=true->z.2.1=true)) ?_ ?_
    .cases aw with
     | true=>
      refine go ?_;exact aH (n',true,false) ⟨rfl,rfl,rfl,rfl,rfl,Xr⟩ ⟨ha2,f3,XD _,(λh=>by cases h),λ_=>rfl⟩
     | false=>
      have nost:st=true->False:=λh=>by have:=hst h;cases this
      refine go ?_;refine ix (N:=x) (M:=2) (R:=2*(x / 2%2)) (by show some (x &&& 2)=_;rw[UU]) (by omega) (by omega) ?_;by_cases hw:x / 2%2=0
      .rw[hw];refine go ?_;refine l7 (N:=x) (m:=3) rfl rfl rfl (by decide) rfl ?_;cases h8:x / 2^3 with
       | zero=>
        refine go ?_;exact aH (n',false,false) ⟨rfl,rfl,rfl,rfl,rfl,Xr⟩ ⟨ha2,f3,XD _,(λh=>by cases h),λh=>(nost h).elim⟩
       | succ m8=>
        refine go ?_;refine ix (N:=x) (M:=2) (R:=x+2) (by show some (x ||| 2)=_;rw[WZ];congr 1;omega) (by omega) (by omega) ?_;refine go ?_;refine bE rfl (λw1 h1=>fh ha2 h1 qL λha=>.tL ha.st ⟨by omega,by omega⟩ (by simp) (λw5 n5 hn5 h5=>?_) λw5 n5 hn5 h5=>?_) rfl
        .refine go ?_;exact aH (n5,true,true) ⟨rfl,rfl,rfl,rfl,rfl,Xr⟩ ⟨ha.nb h5,(f3.ry h1).nb h5,by omega,λ_=>hn5,λ_=>rfl⟩
        .refine go ?_;exact aH (n5,false,true) ⟨rfl,rfl,rfl,rfl,rfl,Xr⟩ ⟨ha.nb h5,(f3.ry h1).nb h5,by omega,λ_=>hn5,λh=>(nost h).elim⟩
      .have hw1:x / 2%2=1:=by omega
       rw[hw1];refine go ?_;exact aH (n',false,false) ⟨rfl,rfl,rfl,rfl,rfl,Xr⟩ ⟨ha2,f3,XD _,(λh=>by cases h),λh=>(nost h).elim⟩
    .clear ha2 f3;rintro⟨n1,aw1,sl⟩ w3 ⟨ha,f3,hn1,hsl,hst1⟩;simp only at ha hn1 hsl hst1;refine go ?_;refine KQ λw4 h4=>?_;replace f3:=f3.ry h4;replace ha:=ha.ry h4;refine go ?_;refine nJ rfl (λw1 h1=>fh ha h1 (by rw[hq];exact pG rfl) λha=>?_) rfl;cases sl with
     | true=>
      refine .Qw ha.st λw5 n5 x5 hn5 hx5 haw5 h5=>?_;refine go ?_;exact az ⟨n5,x5,k'+1,aw1,st,wt,it+1⟩ ⟨rfl,rfl,rfl,rfl,rfl,rfl,Xr⟩ ⟨ha.nb h5,(f3.ry h1).nb h5,by show n5<=n;omega,hx5,haw5,hst1,by show(5:Int)<=it+1+((k'+1:Nat):Int)/\0<=it+1/\it+1<=9;omega⟩ (by have:=hsl rfl;show n5*20+(k'+1)<n'*20+(k'+1);omega)
     | false=>
      refine .Ul ha.st λw5 n5 x5 hn5 hx5 haw5 h5=>?_;refine go ?_;exact az ⟨n5,x5,k',aw1,st,wt,it+1⟩ ⟨rfl,rfl,rfl,rfl,rfl,rfl,Xr⟩ ⟨ha.nb h5,(f3.ry h1).nb h5,by show n5<=n;omega,hx5,haw5,hst1,by show(5:Int)<=it+1+((k':Nat):Int)/\0<=it+1/\it+1<=9;omega⟩ (by show n5*20+k'<n'*20+(k'+1);omega)
  .refine go ?_;exact aH () ⟨rfl,rfl,rfl,rfl,rfl,rfl,Xr⟩ ⟨ha,f2,hn,hx,haw,hst,hit⟩
 .clear hI;rintro _ w1 ⟨ha,f2,hn,hx,haw,hst,hit⟩;simp only at ha hn hx haw hst hit;have hL:x%2=0\/x%2=1:=by omega
  have hS:x / 4%2=0\/x / 4%2=1:=by omega
  refine dW ?_;refine kj rfl ?_;refine dE rfl rfl ?_;refine dE rfl rfl ?_;refine lz ?_;refine bT rfl ?_;refine dx (α:=Nat) (λy=>(7,.int .i32 (y:Int))::S9 p ⟨n',x,k,aw,st,wt,it⟩) (λy w'=>y=(if x / 4%2=0 then x+1-x%2 else x)/\At F p ⟨i,c,n',.act x aw st k⟩ w'/\Fl w w') ?_ ?_
  .refine go ?_;refine ix (N:=x) (M:=4) (R:=4*(x / 4%2)) (by show some (x &&& 4)=_;rw[QR]) (by omega) (by omega) ?_;rcases hS with hS|hS
   .rw[hS];refine go ?_;refine ix (N:=x) (M:=1) (R:=x+1-x%2) (by show some (x ||| 1)=_;rw[Xc]) (by omega) (by omega) ?_;refine go ?_;exact aH _ ⟨rfl,rfl,rfl,rfl,rfl,rfl,rfl,Xr⟩ ⟨by simp[hS],ha,f2⟩
   .rw[hS];refine go ?_;exact aH _ ⟨rfl,rfl,rfl,rfl,rfl,rfl,rfl,Xr⟩ ⟨by simp[hS],ha,f2⟩
  clear ha f2;rintro y1 w1 ⟨hy1,ha,f2⟩;have hb1:y1<1000001:=by rw[hy1];split<;>omega
  have hw8:IntKind.i32.wrap ((y1:Int)+8)=((y1+8:Nat):Int):=by
   rw[show(y1:Int)+8=((y1+8:Nat):Int)from by omega];exact wrap32 (by omega)
  refine dx (α:=Nat) (λy=>(7,.int .i32 (y:Int))::S9 p ⟨n',x,k,aw,st,wt,it⟩) (λy w'=>y=(if x%2=1\/x / 4%2=1 then x+8 else x+1)/\At F p ⟨i,c,n',.act x aw st k⟩ w'/\Fl w w') ?_ ?_
  .refine go ?_;refine ix (N:=x) (M:=5) (R:=x%2+4*(x / 4%2)) (by show some (x &&& 5)=_;rw[QQ]) (by omega) (by omega) ?_;by_cases h0:x%2+4*(x / 4%2)=0
   .rw[h0];refine go ?_;exact aH _ ⟨rfl,rfl,rfl,rfl,rfl,rfl,rfl,Xr⟩ ⟨by rw[hy1,XE (by omega),Xx (by omega)];omega,ha,f2⟩
   .have h5:x%2+4*(x / 4%2)=1\/x%2+4*(x / 4%2)=4\/x%2+4*(x / 4%2)=5:=by omega
    have e8:y1+8=(if x%2=1\/x / 4%2=1 then x+8 else x+1):=by
     rw[hy1,XE (show x%2=1\/x / 4%2=1 from by omega)];split<;>omega
    rcases h5 with h5|h5|h5<;>rw[h5]
    all_goals
     refine go ?_;rw[hw8];exact aH _ ⟨rfl,rfl,rfl,rfl,rfl,rfl,rfl,Xr⟩ ⟨e8,ha,f2⟩
  clear ha f2 hw8;rintro y2 w1 ⟨hy2,ha,f2⟩;have hb2:y2<1000010:=by rw[hy2];split<;>omega
  refine dx (α:=Nat) (λy=>(7,.int .i32 (y:Int))::S9 p ⟨n',x,k,aw,st,wt,it⟩) (λy w'=>y=y2+(if st=true/\x%2=1/\x / 4%2=0 then 4 else 0)/\At F p ⟨i,c,n',.act x aw st k⟩ w'/\Fl w w') ?_ ?_
  .cases st with
   | false=>
    refine go ?_;exact aH _ ⟨rfl,rfl,rfl,rfl,rfl,rfl,rfl,Xr⟩ ⟨by simp,ha,f2⟩
   | true=>
    refine go ?_;refine ix (N:=x) (M:=1) (R:=x%2) (by show some (x &&& 1)=_;rw[UW]) (by omega) (by omega) ?_;rcases hL with hL|hL
    .rw[hL];refine go ?_;exact aH _ ⟨rfl,rfl,rfl,rfl,rfl,rfl,rfl,Xr⟩ ⟨by simp[hL],ha,f2⟩
    .rw[hL];refine go ?_;refine ix (N:=y2) (M:=4) (R:=y2+(if x / 4%2=0 then 4 else 0)) (by show some (y2 ||| 4)=_;rw[Xd,hy2];congr 1;rw[XE (.inl hL)];split<;>omega) (by omega) (by omega) ?_;refine go ?_;exact aH _ ⟨rfl,rfl,rfl,rfl,rfl,rfl,rfl,Xr⟩ ⟨by simp[hL],ha,f2⟩
  clear ha f2;rintro y3 w1 ⟨hy3,ha,f2⟩;have hb3:y3<1000020:=by rw[hy3];split<;>omega
  have hW3:aw=true->y3 / 2%2=1:=λh=>by
   have:=haw h;rw[hy3,hy2]
   repeat' split
   all_goals omega
  refine dx (α:=Nat) (λy=>(7,.int .i32 (y:Int))::S9 p ⟨n',x,k,aw,st,wt,it⟩) (λy w'=>(y:Int)=(y3:Int)-(if aw then 2 else 0)/\At F p ⟨i,c,n',.act x aw st k⟩ w'/\Fl w w') ?_ ?_
  .cases aw with
   | false=>
    refine go ?_;exact aH y3 ⟨rfl,rfl,rfl,rfl,rfl,rfl,rfl,Xr⟩ ⟨by simp,ha,f2⟩
   | true=>
    have hW:=hW3 rfl;refine go ?_;refine ix (N:=y3) (M:=2) (R:=2*(y3 / 2%2)) (by show some (y3 &&& 2)=_;rw[UU]) (by omega) (by omega) ?_;rw[hW];refine go ?_;refine ix (N:=y3) (M:=2) (R:=y3-2) (by show some (y3 &&& (4294967295-2))=_;rw[Wh _ (by omega),hW]) (by omega) (by omega) ?_;refine go ?_;exact aH (y3-2) ⟨rfl,rfl,rfl,rfl,rfl,rfl,rfl,Xr⟩ ⟨by simp;omega,ha,f2⟩
  clear ha f2;rintro y4 w1 ⟨hy4,ha,f2⟩;refine go ?_;by_cases h0:x%2=0/\x / 4%2=0
  .have e4:(y4:Int)=(x:Int)+1-(if aw then 2 else 0):=by
    rw[hy4,hy3,hy2,Xx (by omega),Xx (by omega)];simp
   refine bE rfl (λw1 h1=>fh ha h1 qL λha=>.EH ha.st h0 e4 (λw5 n5 hn5 h5=>?_) λw5 n5 hn5 h5=>?_) rfl
   .replace f2:=(f2.ry h1).nb h5;replace ha:=ha.nb h5;clear h5 h1;refine go ?_;refine ix (N:=x) (M:=5) (R:=x%2+4*(x / 4%2)) (by show some (x &&& 5)=_;rw[QQ]) (by omega) (by omega) ?_;rw[h0.1,h0.2];refine go ?_;refine bE rfl (λw1 h1=>fh ha h1 fg λha=>.en ha.st λw4 h2=>?_) rfl;replace f2:=(f2.ry h1).nb h2;replace ha:=ha.nb h2;clear h2 h1;refine go ?_;obtain⟨z,hz⟩:=ha.mem;refine nK hz underlying325 underlying202 (by kernel_rfl) rfl ?_ rfl;rcases X8 i p.n with hlt|hge
    .refine bE rfl (λw1 h1=>fh ha h1 iw λha=>.Ma ha.st hlt λw5 s hL hs hL1 hg hos=>?_) rfl;refine go ?_;exact fE rfl ⟨_,rfl,_,w1,by omega,f2.ry h1,.inl ⟨hlt,s,hL,ha.put hos (hg.cell ha.mem),hs,hL1,hg,hos⟩⟩
    .have hin:i=p.n:=by omega
     refine bE rfl (λw1 h1=>fh ha h1 iw λha=>.Ky ha.st hin λw5 h2=>?_) rfl;refine go ?_;exact fE rfl ⟨_,rfl,_,w1,by omega,f2.ry h1,.inr ⟨hin,h2,ha.nb h2⟩⟩
   .replace f2:=(f2.ry h1).nb h5;replace ha:=ha.nb h5;clear h5 h1;refine go ?_;refine nJ rfl (λw1 h1=>fh ha h1 (by rw[hq];exact pG rfl) λha=>.Qw ha.st λw6 n6 x6 hn6 hx6 haw6 h6=>?_) rfl;refine go ?_;exact az ⟨n6,x6,5,aw,st,wt,it⟩ ⟨rfl,rfl,rfl,rfl,rfl,rfl,Xr⟩ ⟨ha.nb h6,(f2.ry h1).nb h6,by show n6<=n;omega,hx6,haw6,hst,by show(5:Int)<=it+((5:Nat):Int)/\0<=it/\it<=9;omega⟩ (by show n6*20+5<n'*20+k;omega)
  .have e4:(y4:Int)=(x:Int)+8+(if st=true/\x%2=1/\x / 4%2=0 then 4 else 0)-(if aw then 2 else 0):=by
    rw[hy4,hy3,hy2,XE (show x%2=1\/x / 4%2=1 from by omega)];split<;>simp
   refine bE rfl (λw1 h1=>fh ha h1 qL λha=>.EI ha.st (show x%2=1\/x / 4%2=1 from by omega) hst e4 (λw5 n5 hn5 h5=>?_) λw5 n5 hn5 h5=>?_) rfl
   .replace f2:=(f2.ry h1).nb h5;replace ha:=ha.nb h5;clear h5 h1;refine go ?_;refine ix (N:=x) (M:=5) (R:=x%2+4*(x / 4%2)) (by show some (x &&& 5)=_;rw[QQ]) (by omega) (by omega) ?_;have h5:x%2+4*(x / 4%2)=1\/x%2+4*(x / 4%2)=4\/x%2+4*(x / 4%2)=5:=by omega
    refine dE (v:=.bool false) (by rcases h5 with h5|h5|h5<;>rw[h5]<;>rfl) rfl ?_;refine lz ?_;refine bT rfl ?_;refine mS rfl ?_;refine px ?_;refine bT rfl ?_;refine dW ?_;refine kj rfl ?_;refine dE rfl rfl ?_;refine dE rfl rfl ?_;refine dE rfl rfl ?_;refine lz ?_;refine bT rfl ?_;refine dx (α:=Nat×XN×Int) (λz=>[(0,.pointer (some ⟨p.mu,0,none⟩)),(2,.int .i64 z.2.2),(3,.bool st),(8,.bool z.2.1)]) (λz w'=>At F p ⟨i,c,n5,.queued z.1⟩ w'/\Fl w w') ?_ ?_
    .by_cases hwt:wt=0
     .refine go ?_;refine bE rfl (λw1 h1=>fh ha h1 Fc λha=>.Kw ha.st λw6 y h6=>?_) rfl;refine go ?_;exact aH (1,_,y) ⟨rfl,rfl,rfl,rfl,Xr⟩ ⟨ha.nb h6,(f2.ry h1).nb h6⟩
     .refine go ?_;exact aH (2,_,wt) ⟨rfl,rfl,rfl,rfl,Xr⟩ ⟨ha,f2⟩
    clear ha f2;rintro⟨jq,lifo,wt2⟩ w1 ⟨ha,f2⟩;simp only at ha;refine go ?_;refine bE rfl (λw1 h1=>fh ha h1 NI λha=>.acq ha.st λw6 n6 hn6 h6=>?_) rfl;replace f2:=(f2.ry h1).nb h6;replace ha:=ha.nb h6;clear h6 h1;refine lz ?_;refine bT rfl ?_;refine dx (α:=Nat×XN) (λz=>[(0,.pointer (some ⟨p.mu,0,none⟩)),(2,.int .i64 wt2),(3,.bool z.2)]) (λz w'=>At F p ⟨i,c,n6,.woken z.1⟩ w'/\Fl w w') ?_ ?_
    .have hA:=ha;have hF:=f2;cases st with
     | true=>
      refine go ?_;exact aH (2,true) ⟨rfl,rfl,rfl,Xr⟩ ⟨hA,hF⟩
     | false=>
      refine go ?_;refine bE rfl (λw1 h1=>fh hA h1 Fc λhA=>.Kx hA.st λw7 y h7=>?_) rfl;refine go ?_;exact aH (1,_) ⟨rfl,rfl,rfl,Xr⟩ ⟨hA.nb h7,(hF.ry h1).nb h7⟩
    clear ha f2;rintro⟨jw,st2⟩ w1 ⟨ha,f2⟩;simp only at ha;refine go ?_;refine nJ rfl (λw1 h1=>fh ha h1 (by rw[hq];exact pG rfl) λha=>.IS st2 ha.st (λw7 n7 x7 hn7 hx7 hS7 hW7 h7=>?_) λw7 x7 hx7 h47 h87 h7=>?_) rfl
    .replace f2:=(f2.ry h1).nb h7;replace ha:=ha.nb h7;clear h7 h1;refine go ?_;refine ix (N:=x7) (M:=4) (R:=4*(x7 / 4%2)) (by show some (x7 &&& 4)=_;rw[QR]) (by omega) (by omega) ?_;rw[hS7];refine go ?_;exact az ⟨n7,x7,5,true,st2,wt2,0⟩ ⟨rfl,rfl,rfl,rfl,rfl,rfl,Xr⟩ ⟨ha,f2,by show n7<=n;omega,hx7,λ_=>hW7,λ_=>rfl,show(5:Int)<=0+((5:Nat):Int)/\(0:Int)<=0/\(0:Int)<=9 from by omega⟩ (by show n7*20+5<n'*20+k;omega)
    .replace f2:=(f2.ry h1).nb h7;replace ha:=ha.nb h7;clear h7 h1;refine go ?_;refine ix (N:=x7) (M:=4) (R:=4*(x7 / 4%2)) (by show some (x7 &&& 4)=_;rw[QR]) (by omega) (by omega) ?_;rw[show x7 / 4%2=1 from by omega];refine go ?_;refine ix (N:=x7) (M:=3) (R:=x7%4) (by show some (x7 &&& 3)=_;rw[We]) (by omega) (by omega) ?_;rw[show x7%4=0 from by omega];refine go ?_;refine l7 (N:=x7) (m:=3) rfl rfl rfl (by decide) rfl ?_;have hm:∃m,x7 / 2^3=m+1:=⟨x7 / 8-1,by omega⟩;obtain⟨m,hm⟩:=hm;rw[hm];refine sk rfl ?_;refine dE (v:=.bool false) rfl rfl ?_;refine dE rfl rfl ?_;refine lz ?_;refine bT rfl ?_;refine mS rfl ?_;refine px ?_;refine bT rfl ?_;refine dW ?_;refine kj rfl ?_;refine dE rfl rfl ?_;refine lz ?_;refine bT rfl ?_;refine dx (α:=Int) (λd=>[(0,.pointer (some ⟨p.mu,0,none⟩)),(9,.int .i32 d)]) (λd w'=>((d=-7/\16<=x7)\/d=-11)/\At F p ⟨i,c,n6,.hand x7⟩ w'/\Fl w w') ?_ ?_
     .cases st2 with
      | false=>
       refine go ?_;exact aH (-11) ⟨rfl,rfl,Xr⟩ ⟨.inr rfl,ha,f2⟩
      | true=>
       refine go ?_;refine l7 (N:=x7) (m:=3) rfl rfl rfl (by decide) rfl ?_;rw[hm];cases m with
       | zero=>
        refine go ?_;exact aH (-11) ⟨rfl,rfl,Xr⟩ ⟨.inr rfl,ha,f2⟩
       | succ m=>
        refine sk rfl ?_;refine dE (v:=.bool false) (by show some (Value.bool (decide (((m+1+1:Nat):Int)=1)))=_;rw[Zj (by omega)]) rfl ?_;refine go ?_;exact aH (-7) ⟨rfl,rfl,Xr⟩ ⟨.inl ⟨rfl,by omega⟩,ha,f2⟩
     clear ha f2;rintro d w1 ⟨hd,ha,f2⟩;refine go ?_;refine bE rfl (λw1 h1=>fh ha h1 Fb λha=>.EJ ha.st hd λw7 n7 z hn7 h7=>?_) rfl;replace f2:=(f2.ry h1).nb h7;replace ha:=ha.nb h7;clear h7 h1;refine go ?_;refine bE rfl (λw1 h1=>fh ha h1 fg λha=>.en ha.st λw4 h2=>?_) rfl;replace f2:=(f2.ry h1).nb h2;replace ha:=ha.nb h2;clear h2 h1;refine go ?_;obtain⟨z,hz⟩:=ha.mem;refine nK hz underlying325 underlying202 (by kernel_rfl) rfl ?_ rfl;rcases X8 i p.n with hlt|hge
     .refine bE rfl (λw1 h1=>fh ha h1 iw λha=>.Ma ha.st hlt λw5 s hL hs hL1 hg hos=>?_) rfl;refine go ?_;exact fE rfl ⟨_,rfl,_,w1,by omega,f2.ry h1,.inl ⟨hlt,s,hL,ha.put hos (hg.cell ha.mem),hs,hL1,hg,hos⟩⟩
     .have hin:i=p.n:=by omega
      refine bE rfl (λw1 h1=>fh ha h1 iw λha=>.Ky ha.st hin λw5 h2=>?_) rfl;refine go ?_;exact fE rfl ⟨_,rfl,_,w1,by omega,f2.ry h1,.inr ⟨hin,h2,ha.nb h2⟩⟩
   .replace f2:=(f2.ry h1).nb h5;replace ha:=ha.nb h5;clear h5 h1;refine go ?_;refine nJ rfl (λw1 h1=>fh ha h1 (by rw[hq];exact pG rfl) λha=>.Qw ha.st λw6 n6 x6 hn6 hx6 haw6 h6=>?_) rfl;refine go ?_;exact az ⟨n6,x6,5,aw,st,wt,it⟩ ⟨rfl,rfl,rfl,rfl,rfl,rfl,Xr⟩ ⟨ha.nb h6,(f2.ry h1).nb h6,by show n6<=n;omega,hx6,haw6,hst,by show(5:Int)<=it+((5:Nat):Int)/\0<=it/\it<=9;omega⟩ (by show n6*20+5<n'*20+k;omega)
