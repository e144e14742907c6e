/-
  Part 45: THE ENGINE functions without a body; WALKS errors; WALKS errors; WALKS the document's functions on pairs; WALKS the document's functions on pairs; WALKS the statements' small functions; .
-/
import Derived.Test.YtecibefflhomdaaGreatDoorZ08
import Derived.Test.YtecibefflhomdaaGreatDoorZ44
import Derived.Laws.Externs
import Derived.Conc.AtomicLaws
import Derived.Stop.Asserts
set_option maxHeartbeats 8000000
set_option maxRecDepth 100000
set_option linter.all false
namespace Go.Proofs.YtecibefflhomdaaGreatDoor
open Go Proofs.Tryz
def Z1:=@run_typeAssert_lacksB
section
open Go Go.Extern
variable[Bs0:Base][NQ]
section
variable{ops:Xv Yf}{Q:YL->Act->Xo->Prop}{n:Nat}{ds:Md}{e:Env}{w w':Xo}{rest:Xn Yf}
variable{op:Op}{ty:XO}{pos:YG}{af:Xv Edge}{d:Nat}{v u:Xp}{W0:Xo}{l l' r r':Xn ae}
attribute [local semireducible] WL WC WQ
structure Ext(f:FuncId)(g:Xv Xp->Sem Xp):Prop where
 run:∀(args:Xv Xp) (w:Xo),(callFunc f args).run prog w=((g args).run prog w).andThen λv w'=>.ok (.value v) w'
 ev:∀(args:Xv Xp) (w:Xo) (es:Xv Ys),(callFunc f args).events prog w es=(g args).events prog w (es.push ⟨.mark (.extern f),false,true⟩)
variable {f:FuncId} {g:Xv Xp->Sem Xp}
theorem Ext.of {fn:Func} (H:prog.funcs[f]?=some fn) (h:(fn.name == "runtime.NumGoroutine")=false) (b:fn.body.isNone=true) (c:Extern.findNext fn=none) (i:Extern.find fn=some g):Ext f g:=
 ⟨λa w=>Y3 H h b c i a w,λa w E=>Go.Conc.events_callFunc_extern H h b c i a E⟩
variable {y:Xp}
theorem Ext.oL (h:Ext f g) {args:Xv Xp} {w w':Xo} (k:dr (g args) w y w'):dr (callFunc f args) w (.value y) w':=by
 have K:=k.run;obtain⟨es,a,b,c⟩:=k;have E:(g args).events prog w #[]=es:=by rw[Yo]at a;exact(Zz a).2
 refine⟨(g args).events prog w (#[].push ⟨.mark (.extern f),false,true⟩),?_,λe i=>?_,c⟩
 .rw[Yo,h.run,h.ev,K];rfl
 .rcases wF _ _ _ e i with H|H
  .have:e=⟨.mark (.extern f),false,true⟩:=by simpa using H
   subst this;exact .inr ⟨f,rfl⟩
  .rw[E]at H;exact b e H
def lW(s:Sem Xp)(y:Xp)(w:Xo):Prop:=∀W,Ry w W->aR s W y
theorem lW.still {s:Sem Xp} {w:Xo} (h:∀W E,s.runT prog W E=(.ok y W,E)):lW s y w:=λW _=>Still.look λE=>h W E
variable {xs:Xv XZ} {vs:Xn Xp}
def RH {at_:Xv XO} (b:Ext f g) (h:evs e xs.toList=some vs) (c:∀W,Ry w W->∃y w',dr (g vs.toArray) W y w'/\WL ops Q n ds rest ((d,y)::e) w') (i:Nat.blt d n=true):
 WL ops Q n ds (⟨some d,.call { callee:=.value (.func f),args:=xs,argTypes:=at_ },ty,pos,af,none⟩::rest) e w:=
 jk (λW j=>by
  obtain⟨y,w',k,m⟩:=c W j;refine⟨y,w',λa o=>?_,m⟩;have E:xs.map a.eval=vs.toArray:=by rw[<- o.evs h];cases xs;simp
  have H:=b.oL k;have p:=H.run;obtain⟨es,G,q,s⟩:=H;have t:(callFunc f vs.toArray).events prog W #[]=es:=by rw[Yo]at G;exact(Zz G).2
  refine⟨es,?_,q,s⟩;rw[Yo];simp[execOp,resolve,Act.eval,Deferred.ofValue,invoke,E,p,t]) i
def Ua {at_:Xv XO} (a:Ext f g) (h:evs e xs.toList=some vs) (b:lW (g vs.toArray) y w) (c:Nat.blt d n=true) (k:WL ops Q n ds rest ((d,y)::e) w):WL ops Q n ds (⟨some d,.call { callee:=.value (.func f),args:=xs,argTypes:=at_ },ty,pos,af,none⟩::rest) e w:=
 RH a h (λW H=>⟨y,W,(b W H).oL,k.rely H⟩) c
variable {x:XZ}
def RI {at_:Xv XO} {T f:Nat} {name:YG} {v':Xp} (i:ev e x=some (.iface T v)) (hm:∀w,(Go.method (prog.types.size+Made.depth) T v name).run prog w=.ok (f,v') w) (j:Ext f g) (h:evs e xs.toList=some vs) (m:lW (g (v'::vs).toArray) y w) (o:Nat.blt d n=true) (k:WL ops Q n ds rest ((d,y)::e) w) (hmq:∀w es,(Go.method (prog.types.size+Made.depth) T v name).events prog w es=es:=by intro w es;kernel_rfl):
 WL ops Q n ds (⟨some d,.call { callee:=.invoke x name,args:=xs,argTypes:=at_ },ty,pos,af,none⟩::rest) e w:=
 jk (λW H=>⟨y,W,λa b=>by
  have E:xs.map a.eval=vs.toArray:=by rw[<- b.evs h];cases xs;simp
  have p:(#[Value.iface T v]++vs.toArray).extract 1 (#[Value.iface T v]++vs.toArray).size=vs.toArray:=by apply aag;simp
  have q:(#[Value.iface T v]++vs.toArray)[0]?=some (.iface T v):=by simp
  have s:(#[v']++vs.toArray:Xv Xp)=(v'::vs).toArray:=by apply aag;simp
  have c:=j.oL (m W H).oL;have t:=c.run;obtain⟨es,G,z,A⟩:=c;have B:(callFunc f (v'::vs).toArray).events prog W #[]=es:=by rw[Yo]at G;exact(Zz G).2
  refine⟨es,?_,z,A⟩;rw[Yo];simp only[execOp,resolve,b.ev i,E,Yn,Yz,Zm,Zs,XU,Yq,invoke,p,q,callMethod,aah,events_program,hm,hmq,s,t,B],k.rely H⟩) o
theorem Gd {X t:XO} {o:XN} (h:ev e x=some v) (H:lW (Instr.typeAssert v X t o) y w) (b:Nat.blt d n=true) (k:WL ops Q n ds rest ((d,y)::e) w):WL ops Q n ds (⟨some d,.typeAssert x X t o,ty,pos,af,none⟩::rest) e w:=
 fY (λW c a i=>by
  simp only[execOp,i.ev h];exact aR.bind (H W c) (aR.pure _)) b k
end
def WJ:Ext 162 ReflectliteType.typeOf:=Ext.of func162 (by kernel_rfl) (by kernel_rfl) (by kernel_rfl) (by kernel_rfl)
abbrev W8(t:Nat):Xp:=.iface 297 (.agg #[.pointer (some ⟨4,t,none⟩)])
abbrev rv(t b fl:Nat):Xp:=.agg #[.pointer (some ⟨4,t,none⟩),.pointer (some ⟨b,0,none⟩),.int .u64 (fl:Int)]
def Ub(v:Xp)(w:Xo):lW (ReflectliteType.typeOf #[.iface 44 v]) (W8 44) w:=lW.still λw e=>by kernel_rfl
theorem RJ(h:Xp)(w:Xo):(Go.method (prog.types.size+Made.depth) 297 (.agg #[h]) "Comparable").run prog w=.ok (284,.agg #[h]) w:=by kernel_rfl
end
section
open Go Go.Extern
variable[Bs0:Base][NQ]
attribute [local irreducible] IntKind.wrap
theorem vu(z:Sem Xp)(f:XO->YO->Nat->Nat->Sem Xp)(v:Xp) :
 ReflectliteValue.method z f #[v]=(do match <- ReflectliteValue.parts v with|none=>z|some (t,a,fl)=>f t a fl (fl%32)):=rfl
theorem rU{t a:XO}{W:Xv (YG×XO)}{z:Xp}(c:prog.underlying a=some (.interface W))(h:(prog.info? t).map (λi=>(lacking W i.methods).isEmpty)=some false)(d:(prog.info? a).map (·.zero)=some (some z))
 (v:Xp) (x:XO) (w:Xo) (es:Xv Ys):(Instr.typeAssert (.iface t v) x a true).events prog w es=es:=by
 obtain⟨i,f,b⟩:=Yw.1 h;obtain⟨j,g,H⟩:=Yw.1 d;obtain⟨m,k⟩:=missingMethod_some (show lacking W i.methods≠[]from λe=>by rw[e]at b;cases b);simp[Instr.typeAssert,X6 c,typeInfo,f,k,zeroValue,g,H]
section
variable{w:Xo}{b p:Nat}
def SO{t b:Nat}{w:Xo}{v:Xp}(H:lk kV t=some false)(h:w.cell? ⟨b,0,none⟩=some v)(hv:v≠hole):aR (loadVar t ⟨b,0,none⟩) w v:=lF H h (HA h hv)
end
def LJ(W0:Xo):Prop:=W0.cell? ⟨0,0,none⟩=some (W8 41)
variable{W0 w:Xo}{F:Xn ae}
def PD(v:Xp)(w:Xo):lW (Instr.typeAssert (.iface 44 v) 41 304 true) (.tuple #[.nilIface,.bool false]) w:=λw _=>(Still.of (Z1 underlying304 (by kernel_rfl) (by kernel_rfl) v 41 w) (rU (z:=.nilIface) underlying304 (by kernel_rfl) (by kernel_rfl) v 41 w)).look
theorem LK(v:Xp)(w:Xo):lW (Instr.typeAssert (.iface 249 v) 41 304 true) (.tuple #[.iface 249 v,.bool true]) w:=λw _=>(Still.of (run_typeAssert_hasB underlying304 (by kernel_rfl) v 41 w) λe=>by kernel_rfl).look
def PE(v:Xp)(w:Xo):lW (Instr.typeAssert (.iface 44 v) 41 305 true) (.tuple #[.nilIface,.bool false]) w:=λw _=>(Still.of (Z1 underlying305 (by kernel_rfl) (by kernel_rfl) v 41 w) (rU (z:=.nilIface) underlying305 (by kernel_rfl) (by kernel_rfl) v 41 w)).look
def PF(v:Xp)(w:Xo):lW (Instr.typeAssert (.iface 44 v) 41 338 true) (.tuple #[.nilIface,.bool false]) w:=λw _=>(Still.of (Z1 underlying338 (by kernel_rfl) (by kernel_rfl) v 41 w) (rU (z:=.nilIface) underlying338 (by kernel_rfl) (by kernel_rfl) v 41 w)).look
def LL(v:Xp)(w:Xo):lW (Instr.typeAssert (.iface 249 v) 41 338 true) (.tuple #[.nilIface,.bool false]) w:=λw _=>(Still.of (Z1 underlying338 (by kernel_rfl) (by kernel_rfl) v 41 w) (rU (z:=.nilIface) underlying338 (by kernel_rfl) (by kernel_rfl) v 41 w)).look
theorem LM(v:Xp)(w:Xo):(Go.method (prog.types.size+Made.depth) 249 v "Unwrap").run prog w=.ok (281,v) w:=by kernel_rfl
variable {s:Bs} {k b:Nat}
def Ge (h:Sat W0 (Ae b 251 [str s,.int .i64 (k:Int)]::F) w):
 Calls prog 281 #[ax b] w λx w'=>x=.returned (.iface 44 (.int .i64 (k:Int)))/\Sat W0 (Ae b 251 [str s,.int .i64 (k:Int)]::F) w':=by
 refine enter func281 rfl ntmps281 results281 rfl ?_;refine gx ?_;exact an rfl ⟨rfl,h⟩
variable {v:Xp}
theorem Sat.PG (h:Sat W0 (aW v (some (none,k))::F) w):v=.iface 44 (.int .i64 (k:Int)):=h.jm λ_ q=>q
theorem Sat.VM (h:Sat W0 (aW v (some (some s,k))::F) w):∃b,v=.iface 249 (ax b)/\Sat W0 (Ae b 251 [str s,.int .i64 (k:Int)]::F) w:=by
 obtain⟨b,H,a⟩:=h.gD (φ:=λb=>v=.iface 249 (ax b)) (B:=λb=>[Ae b 251 [str s,.int .i64 (k:Int)]]) λc ⟨b,e,q⟩=>⟨b,e,c,λ_=>none,λ_ _ _ _ d=>(by cases d),Hp.le_refl _,λ_ _ f=>(by cases f),q,Xr⟩;exact⟨b,H,a⟩
theorem Sat.LN (h:Sat W0 (Ae b 251 [str s,.int .i64 (k:Int)]::F) w):Sat W0 (aW (.iface 249 (ax b)) (some (some s,k))::F) w:=h.head λ_ q=>⟨b,rfl,q⟩
end
section
open Go Go.Extern
variable[Bs0:Base][NQ]
attribute [local irreducible] IntKind.wrap
variable{W0 w:Xo}{F:Xn ae}
def VN(v:Xp)(k:Nat):XN->Xp
 | true=>v
 | false=>.iface 44 (.int .i64 (k:Int))
variable {e:eX}
def Sat.PH {v:Xp} (h:Sat W0 (aW v (some e)::F) w):v=VN v e.2 e.1.isSome/\(e.1.isSome=true->e.1≠none):=by
 obtain⟨o,k⟩:=e;cases o with
 | none=>exact⟨h.PG,λH=>by cases H⟩
 | some s=>exact⟨rfl,λ_ H=>by cases H⟩
theorem Uc(v:Xp)(k:Int)(w:Xo):lW (binOp .eql 41 (.iface 249 v) (.iface 44 (.int .i64 k))) (.bool false) w:=λw _=>(Still.of (run_eql_iface_types 249 44 v (.int .i64 k) underlying41 (by decide) w) λE=>by kernel_rfl).look
theorem Ud(a b:Int)(w:Xo):lW (binOp .eql 41 (.iface 44 (.int .i64 a)) (.iface 44 (.int .i64 b))) (.bool (decide (a=b))) w:=λw _=>Still.look λE=>by
 have c:t44.comparable=true:=rfl;have h:∀d:Nat,(Op.equalIn (d+2) 41 (.iface 44 (.int .i64 a)) (.iface 44 (.int .i64 b))).runT prog w E=(.ok (decide (a=b)) w,E):=λd=>by
  simp[Yo,Op.equalIn,X6 underlying41,X6 underlying44,c];rfl
 have H:=h 9998;rw[Yo]at H;obtain⟨f,g⟩:=Zz H;simp only[binOp];simp[Yo,Op.equal,Op.maxDepth,f,g]
section
variable{ops:Xv Yf}{Q:YL->Act->Xo->Prop}{n:Nat}{ds:Md}{e:Env}{w w':Xo}{rest:Xn Yf}
variable{op:Op}{ty:XO}{pos:YG}{af:Xv Edge}{d:Nat}{v u:Xp}
attribute [local semireducible] WL WC WQ
theorem PI{bo:BinOp}{t t2:XO}{x y:XZ}{V b z:Xp}(c:ev e x=some V)(f:ev e y=some b)(l:(eqGuard bo t x y V b).run prog w=.ok () w)(g:lW (Go.binOp bo t V b) z w)(i:Nat.blt d n=true)
 (k:WL ops Q n ds rest ((d,z)::e) w) (h:∀w,Still (eqGuard bo t x y V b) w ():=by intro w E;rfl):WL ops Q n ds (⟨some d,.binOp bo t x y t2,ty,pos,af,none⟩::rest) e w:=
 fY (λW j a H=>by
  simp only[execOp,H.ev c,H.ev f];exact aR.bind (aR.bind (h W).look (g W j)) (aR.pure _)) i k
end
def WK:Ext 284 (ReflectliteType.method λt=>do Rtype.noPackHeld "Comparable" t;pure (.bool (<- typeInfo t).comparable)):=Ext.of func284 (by kernel_rfl) (by kernel_rfl) (by kernel_rfl) (by kernel_rfl)
def VO(w:Xo):lW (ReflectliteType.method (λt=>do Rtype.noPackHeld "Comparable" t;pure (.bool (<- typeInfo t).comparable)) #[.agg #[.pointer (some ⟨4,44,none⟩)]]) (.bool true) w:=lW.still λw E=>by kernel_rfl
variable {ve:Xp} {m:Nat}
theorem VP (H:Sat W0 (aW ve (some e)::F) w):
 Calls Tryz.prog 163 #[ve,.iface 44 (.int .i64 (m:Int)),.bool true] w fun x w'=>x=.returned (.bool (decide (e.2=m)))/\Sat W0 (aW ve (some e)::F) w':=by
 obtain⟨c,d⟩:=H.PH;refine enter Tryz.func163 rfl Tryz.ntmps163 Tryz.results163 rfl ?_;refine gx ?_;refine aL (α:=Bool) (fun z=>[(0,VN ve e.2 z),(1,.iface 44 (.int .i64 (m:Int))),(2,.bool true)])
  (fun z w=>(z=true->e.1≠none)/\Sat W0 (aW ve (some e)::F) w) (fun z=>if z=true then 1 else 0) e.1.isSome ⟨by rw[<- c];rfl,rfl,rfl,trivial⟩ ⟨d,H⟩ ?_
 clear H c d;rintro z w ⟨g,H⟩;cases z with
 | false=>
  refine gx ?_;refine PI rfl rfl rfl (Ud _ _ _) rfl ?_;by_cases h:e.2=m
  ·have a:((e.2:Nat):Int)=(m:Int):=by omega
   rw[decide_eq_true a,decide_eq_true h];refine gx ?_;exact an rfl ⟨rfl,H⟩
  ·have a:¬ ((e.2:Nat):Int)=(m:Int):=by omega
   rw[decide_eq_false a,decide_eq_false h];refine gx ?_;refine Gd rfl (PF _ _) rfl ?_;refine gx ?_;refine Gd rfl (PD _ _) rfl ?_;refine gx ?_;refine Gd rfl (PE _ _) rfl ?_;refine gx ?_;exact an rfl ⟨rfl,H⟩
 | true=>
  obtain⟨o,k⟩:=e;cases o with
  | none=>exact absurd rfl (g rfl)
  | some s=>
   obtain⟨b,rfl,f⟩:=H.VM;clear H;refine gx ?_;refine PI rfl rfl rfl (Uc _ _ _) rfl ?_;refine gx ?_;refine Gd rfl (LL _ _) rfl ?_;refine gx ?_;refine Gd rfl (LK _ _) rfl ?_;refine gx ?_;refine vS rfl (LM _) (fun _ _=>Oo rfl) rfl rfl (met (Ge f) ?_) (fun w E=>by kernel_rfl);clear f;rintro _ w ⟨rfl,H⟩;refine⟨_,rfl,?_⟩;refine gx ?_;refine az false ⟨rfl,rfl,rfl,trivial⟩ ⟨fun i=>(by cases i),?_⟩ (by decide);exact H.LN.to
theorem RK (h:Sat W0 (aW ve (some e)::F) w):
 Calls Tryz.prog 90 #[ve,.iface 44 (.int .i64 (m:Int))] w fun x w'=>x=.returned (.bool (decide (e.2=m)))/\Sat W0 (aW ve (some e)::F) w':=by
 obtain⟨t,v,rfl⟩:=h.bp;refine enter Tryz.func90 rfl Tryz.ntmps90 Tryz.results90 rfl ?_;refine gx ?_;refine Ua WJ rfl (Ub _ _) rfl ?_;refine gx ?_;refine RI rfl (RJ _) WK rfl (VO _) rfl ?_ (fun w E=>by kernel_rfl);refine gx ?_;refine ak (met (VP h) ?_);clear h;rintro _ w ⟨rfl,h⟩;refine⟨_,rfl,?_⟩;refine gx ?_;exact an rfl ⟨rfl,h⟩
end
section
variable[Bs0:Base][NQ]
open Pure (ad cC aO bD gB tg tf)
attribute [local irreducible] IntKind.wrap
variable{W0 w:Xo}{F:Xn ae}{v:Xp}{ps:Xn (Bs×Bs)}
@[simp] theorem jU(l:Xn (Bs×Bs)):(iR l).length=l.length:=XT _
variable {i:Nat}
theorem LO {p:Bs×Bs} (h:ps[i]?=some p):(iR ps)[i]?=some (oY p):=by unfold iR;rw[Yy,h];rfl
abbrev ij(v:Xp)(l:Xn (Bs×Bs)):ae:=nj 2 v (iR l)
def Sat.xE(h:Sat W0 (ij v ps::F) w):∃a c,v=.slice a ps.length c/\ps.length<=c:=by
 obtain⟨a,c,H,b⟩:=h.kQ;rw[jU]at H b;exact⟨a,c,H,b⟩
variable {a:XB YO} {c:Nat}
def Sat.PK (g:Sat W0 (ij (.slice a ps.length c) ps::F) w) (d:i<ps.length):
 ∃(z:Ay) (p:Bs×Bs),ps[i]?=some p/\ps.drop i=p::ps.drop (i+1)/\a=some ⟨z.b,z.o,none⟩/\iZ z.all (z.o+i*2) (oY p)/\z.all[z.o+i*2]?=some (str p.1)/\z.all[z.o+i*2+1]?=some (str p.2) /\
  Sat W0 (ob true z.b (.cells z.all.toArray z.E (0,0))::ij (.slice a ps.length c) ps::F) w:=by
 have e:ps[i]?=some ps[i]:=Xq d;have h:Sat W0 (nj 2 (.slice a (iR ps).length c) (iR ps)::F) w:=by rw[jU];exact g
 obtain⟨z,j,H,f⟩:=h.Sw (LO e);rw[jU]at f;exact⟨z,ps[i],e,XX d,j,H,H.1,H.2.1,f⟩
def Sat.RL(h:Sat W0 (Ca v ps::F) w):Sat W0 (ij v ps::F) w:=by
 have H:Sat W0 (aE 2 v 147 (iR ps).length (iR ps).flatten::F) w:=by rw[jU];exact h
 exact H.rR λr b=>by obtain⟨x,_,rfl⟩:=XA.1 b;rfl
abbrev Gf(v:Xp)(l:Xn (Bs×Bs)):ae:=aE 2 v 158 l.length (iR l).flatten
def zU(E:Nat)(l:Xn (Bs×Bs))(p:Bs×Bs):aE 2 v E (l.length+1) ((iR l).flatten++oY p)=aE 2 v E (l++[p]).length (iR (l++[p])).flatten:=by
 rw[zO,Xu];rfl
def Sat.RN(h:Sat W0 (Gf v ps::F) w):Sat W0 (ij v ps::F) w:=by
 have H:Sat W0 (aE 2 v 158 (iR ps).length (iR ps).flatten::F) w:=by rw[jU];exact h
 exact H.rR λr b=>by obtain⟨x,_,rfl⟩:=XA.1 b;rfl
def LP{c:cC}(h:Sat W0 (ij v ps::F) w)(L:ps.length<=1099511627776) :
 Calls prog 53 #[v,.agg (iQ c).toArray] w λx w'=>∃u,x=.returned u/\Sat W0 (Gf u (kS c.key c.val c.del ps)::ij v ps::F) w':=by
 obtain⟨a,C,rfl,M⟩:=h.xE;refine enter func53 rfl ntmps53 results53 rfl ?_;refine gy ?_;refine eB (z:=iQ c) h ?_;clear h;intro w B h;have h:Sat W0 (blk B 137 [str c.key,str c.val,.bool c.del]::ij (.slice a ps.length C) ps::F) w:=h;generalize r:kS c.key c.val c.del ps=R;refine gy ?_;refine aL (α:=Nat×Xn (Bs×Bs)×Xp×XN) (λz=>[(0,.slice a ps.length C),(3,ax B),(5,z.2.2.1),(6,.bool z.2.2.2),(7,.int .i64 (z.1:Int))])
  (λz w=>(z.1<=ps.length/\z.2.1.length<=2*z.1/\z.2.1++kS c.key c.val z.2.2.2 (ps.drop z.1)=R)/\Sat W0 (Gf z.2.2.1 z.2.1::blk B 137 [str c.key,str c.val,.bool c.del]::ij (.slice a ps.length C) ps::F) w) (λz=>ps.length-z.1) (0,[],.slice none 0 0,c.del) ⟨rfl,rfl,rfl,rfl,rfl,Xr⟩
  ⟨⟨XR _,XD _,by rw[ZE];exact r⟩,Sat.ep (k:=2) (E:=158) h⟩ ?_
 clear h r;rintro⟨i,O,I,put⟩ w ⟨⟨J,l,H⟩,h⟩;dsimp only at J l H h |-;obtain⟨A,co,rfl,-⟩:=h.aC;by_cases d:i<ps.length
 .have e:(i:Int)<(ps.length:Int):=by omega
  obtain⟨z,p,N,K,rfl,t,P,Q,D⟩:=(h.take iB).PK d;clear h;rw[K]at H;unfold kS at H;rw[mr]at H;have h:Sat W0 (Gf (.slice A O.length co) O::ob true z.b (.cells z.all.toArray z.E (0,0))::blk B 137 [str c.key,str c.val,.bool c.del]::ij (.slice (some ⟨z.b,z.o,none⟩) ps.length C) ps::F) w:=D.to;clear D;refine dW ?_;refine dW ?_;refine jv ?_;refine bT rfl ?_;refine jv ?_;refine bT rfl ?_;refine dW ?_;refine jR ?_;refine dx (α:=Xn (Bs×Bs)×Xp) (λy=>[(0,.slice (some ⟨z.b,z.o,none⟩) ps.length C),(3,ax B),(5,y.2),(6,.bool (put||!wZ p.1 c.key)),(7,.int .i64 (i:Int))])
   (λy w=>(y.1.length<=2*i+1/\y.1++((if p.1=c.key then[]else[p])++kS c.key c.val (put||!wZ p.1 c.key) (ps.drop (i+1)))=R)/\Sat W0 (Gf y.2 y.1::ob true z.b (.cells z.all.toArray z.E (0,0))::blk B 137 [str c.key,str c.val,.bool c.del]::ij (.slice (some ⟨z.b,z.o,none⟩) ps.length C) ps::F) w) ?_ ?_
  .refine dW ?_;refine eM [ob true z.b (.cells z.all.toArray z.E (0,0)),blk B 137 [str c.key,str c.val,.bool c.del]] [7,9] (.q 0 (.q 1 (.q 2 (.q 3 (.q 4 (.q 5 (.q 6 (.s 7 (.q 8 (.s 9 (.q 10 (.q 11 .nil)))))))))))) h (by kernel_rfl) ?_;clear h;intro w h;cases put with
   | true=>
    refine Mh ?_;refine gy ?_;exact aH (O,.slice A O.length co) ⟨rfl,rfl,rfl,rfl,rfl,Xr⟩ ⟨⟨by show O.length<=_;omega,by simpa using H⟩,h⟩
   | false=>
    by_cases f:wZ p.1 c.key=true
    .have g:(!wZ p.1 c.key)=false:=by rw[f];rfl
     refine Mh ?_;refine gy ?_;exact aH (O,.slice A O.length co) ⟨rfl,rfl,rfl,by rw[f];rfl,rfl,Xr⟩ ⟨⟨by show O.length<=_;omega,by simpa[f]using H⟩,h⟩
    .have g:(!wZ p.1 c.key)=true:=by simpa using f
     refine Mh ?_;refine gy ?_;refine cx (oY (c.key,c.val)) ?_;refine jT (oY (c.key,c.val)) h ?_;clear h;intro w G h;refine dZ h ?_;clear h;intro V w h;rw[zU]at h;refine gy ?_;exact aH (O++[(c.key,c.val)],V) ⟨rfl,rfl,rfl,by rw[g];rfl,rfl,Xr⟩ ⟨⟨by simp;omega,by simpa[f]using H⟩,h⟩
  .clear h H;rintro⟨O,I⟩ w ⟨⟨l,H⟩,h⟩;dsimp only at l H h |-;obtain⟨A,co,rfl,-⟩:=h.aC;refine dW ?_;refine eM [ob true z.b (.cells z.all.toArray z.E (0,0)),blk B 137 [str c.key,str c.val,.bool c.del]] [4,6] (.q 0 (.q 1 (.q 2 (.q 3 (.s 4 (.q 5 (.s 6 (.q 7 .nil)))))))) h (by kernel_rfl) ?_;clear h;intro w h;by_cases j:p.1=c.key
   .have m:¬(p.1≠c.key):=by simpa using j
    rw[XE j]at H;refine Mh ?_;refine gy ?_;exact az (i+1,O,_,_) ⟨rfl,rfl,rfl,rfl,rfl,Xr⟩ ⟨⟨d,by show O.length<=_;omega,H⟩,h.to⟩ (by show ps.length-(i+1)<ps.length-i;omega)
   .have m:p.1≠c.key:=j;rw[Xx j]at H;refine Mh ?_;refine gy ?_;refine jT (oY p) h ?_;clear h;intro w G h;refine dZ h ?_;clear h;intro V w h;rw[zU]at h;refine gy ?_;exact az (i+1,O++[p],V,(put||!wZ p.1 c.key)) ⟨rfl,rfl,rfl,rfl,rfl,Xr⟩ ⟨⟨d,by simp;omega,by rw[XS];exact H⟩,h.to⟩ (by show ps.length-(i+1)<ps.length-i;omega)
 .have n:i=ps.length:=by omega
  subst n;have e:¬(ps.length:Int)<(ps.length:Int):=by omega
  rw[ZP]at H;unfold kS at H;cases put with
  | true=>
   rw[XE rfl,Yj]at H;subst H;refine gy ?_;exact an rfl ⟨_,rfl,h.to⟩
  | false=>
   rw[Xx (by simp)]at H;subst H;refine gy ?_;refine cx (oY (c.key,c.val)) ?_;refine jT (oY (c.key,c.val)) h ?_;clear h;intro w G h;refine dZ h ?_;clear h;intro V w h;rw[zU]at h;refine gy ?_;exact an rfl ⟨_,rfl,h.to⟩
def DG(W0:Xo)(k:Nat)(v:Xp)(rows:Xn (Xn Xp)):Prop:=
 (∃a c,v=.slice a rows.length c)/\(∀r∈rows,r.length=k)/\(rows≠[]->∃b o c,v=.slice (some ⟨b,o,none⟩) rows.length c/\∀j u,rows.flatten[j]?=some u->W0.cell? ⟨b,o+j,none⟩=some u)
theorem DG.row {k:Nat} {rows:List (List Value)} (h:DG W0 k v rows) {x:List Value} (H:rows[i]?=some x):∃ b o c,v=.slice (some ⟨b,o,none⟩) rows.length c/\∀ j u,x[j]?=some u->W0.cell? ⟨b,o+i*k+j,none⟩=some u:=by
 obtain⟨b,o,c,d,e⟩:=h.2.2 (fun h=>by rw[h] at H;simp at H);refine⟨b,o,c,d,fun j u f=>?_⟩;have:=(ng h.2.1 H).at j u f;rw[Nat.add_assoc];exact e _ _ this
variable {l:Xn cC}
def DG.Jb {n:Nat} (h:DG W0 3 (.slice a n c) (cZ l)) (d:i<l.length):∃b o x,l[i]?=some x/\l.drop i=x::l.drop (i+1)/\a=some ⟨b,o,none⟩ /\
 (∀j u,(iQ x)[j]?=some u->W0.cell? ⟨b,o+i*3+j,none⟩=some u)/\W0.cell? ⟨b,o+i*3,none⟩=some (str x.key)/\W0.cell? ⟨b,o+i*3+1,none⟩=some (str x.val)/\W0.cell? ⟨b,o+i*3+2,none⟩=some (.bool x.del):=by
 have e:l[i]?=some l[i]:=Xq d;obtain⟨b,o,c,f,H⟩:=h.row (uB e);injection f with g _ _;exact⟨b,o,l[i],e,XX d,g,H,H 0 _ rfl,H 1 _ rfl,H 2 _ rfl⟩
def DG.PL (h:DG W0 3 v (cZ l)):∃a c,v=.slice a l.length c:=by
 obtain⟨a,c,H⟩:=h.1;rw[gI]at H;exact⟨a,c,H⟩
abbrev RO(v:Xp)(l:Xn cC):ae:=aE 3 v 137 l.length (cZ l).flatten
theorem uE(E:Nat)(l:Xn cC)(p:cC):aE 3 v E (l.length+1) ((cZ l).flatten++iQ p)=aE 3 v E (l++[p]).length (cZ (l++[p])).flatten:=by
 rw[Xu];simp[cZ]
abbrev iS(v:Xp)(l:Xn cC):ae:=nj 3 v (cZ l)
def Sat.RP (h:Sat W0 (RO v l::F) w):Sat W0 (iS v l::F) w:=by
 have H:Sat W0 (aE 3 v 137 (cZ l).length (cZ l).flatten::F) w:=by rw[gI];exact h
 exact H.rR λr b=>by obtain⟨x,_,rfl⟩:=XA.1 b;rfl
def Sat.JH (h:Sat W0 (iS v l::F) w):∃a c,v=.slice a l.length c/\l.length<=c:=by
 obtain⟨a,c,H,b⟩:=h.kQ;rw[gI]at H b;exact⟨a,c,H,b⟩
def Sat.Sx (g:Sat W0 (iS (.slice a l.length c) l::F) w) (d:i<l.length):
 ∃(z:Ay) (x:cC),l[i]?=some x/\l.drop i=x::l.drop (i+1)/\a=some ⟨z.b,z.o,none⟩/\iZ z.all (z.o+i*3) (iQ x)/\z.all[z.o+i*3]?=some (str x.key)/\z.all[z.o+i*3+1]?=some (str x.val)/\z.all[z.o+i*3+2]?=some (.bool x.del) /\
  Sat W0 (ob true z.b (.cells z.all.toArray z.E (0,0))::iS (.slice a l.length c) l::F) w:=by
 have e:l[i]?=some l[i]:=Xq d;have H:Sat W0 (nj 3 (.slice a (cZ l).length c) (cZ l)::F) w:=by rw[gI];exact g
 obtain⟨z,j,h,f⟩:=H.Sw (uB e);rw[gI]at f;exact⟨z,l[i],e,XX d,j,h,h.1,h.2.1,h.2.2.1,f⟩
def LQ{V t:Xp}{a b:Xn (Bs×Bs)}(Q:a.length<=1099511627776)(h:Sat W0 (ij V a::ij t b::F) w) :
 Calls prog 33 #[V,t] w λx w'=>x=.returned (.bool (decide (a=b)))/\Sat W0 (ij V a::ij t b::F) w':=by
 obtain⟨J,C,rfl,-⟩:=h.xE;obtain⟨K,u,rfl,-⟩:=(h.take dt).xE;refine enter func33 rfl ntmps33 results33 rfl ?_;by_cases f:a.length=b.length
 .have g:¬((a.length:Int)≠(b.length:Int)):=by omega
  refine gy ?_;refine aL (α:=Nat) (λi=>[(0,.slice J a.length C),(1,.slice K b.length u),(5,.int .i64 (i:Int))])
   (λi w=>(i<=a.length/\decide (a.drop i=b.drop i)=decide (a=b))/\Sat W0 (ij (.slice J a.length C) a::ij (.slice K b.length u) b::F) w) (λi=>a.length-i) 0 ⟨rfl,rfl,rfl,Xr⟩ ⟨⟨XR _,by rw[ZE,ZE]⟩,h⟩ ?_
  clear h;rintro i w ⟨⟨R,y⟩,h⟩;by_cases k:i<a.length
  .have m:(i:Int)<(a.length:Int):=by omega
   have n:i<b.length:=by omega
   obtain⟨z,p,L,O,rfl,M,S,T,j⟩:=h.PK k;clear h;obtain⟨Z,p2,d,A,rfl,B,U,W,N⟩:=(j.take iB).PK n;clear j;rw[O,A]at y;have h:Sat W0 (ob true z.b (.cells z.all.toArray z.E (0,0))::ob true Z.b (.cells Z.all.toArray Z.E (0,0))::ij (.slice (some ⟨z.b,z.o,none⟩) a.length C) a::ij (.slice (some ⟨Z.b,Z.o,none⟩) b.length u) b::F) w:=N.to;clear N;refine gy ?_;refine eM [ob true z.b (.cells z.all.toArray z.E (0,0)),ob true Z.b (.cells Z.all.toArray Z.E (0,0))] [4,9,16,21] (.q 0 (.q 1 (.q 2 (.q 3 (.s 4 (.q 5 (.q 6 (.q 7 (.q 8 (.s 9 (.q 10 (.q 11 (.q 12 (.q 13 (.q 14 (.q 15 (.s 16 (.q 17 (.q 18 (.q 19 (.q 20 (.s 21 (.q 22 (.q 23 .nil)))))))))))))))))))))))) h (by kernel_rfl) ?_;clear h;intro w h;by_cases r:p.1=p2.1
   .have D:¬(p.1≠p2.1):=by simpa using r
    by_cases j:p.2=p2.2
    .have G:¬(p.2≠p2.2):=by simpa using j
     have P:p=p2:=Prod.ext r j;subst P;refine Mh ?_;refine gy ?_;exact az (i+1) ⟨rfl,rfl,rfl,Xr⟩ ⟨⟨k,by rw[<- y];simp⟩,h.to⟩ (by show a.length-(i+1)<a.length-i;omega)
    .have G:p.2≠p2.2:=j;refine Mh ?_;refine gy ?_;have H:a≠b:=λe=>by
      subst e;rw[L]at d;exact j (by rw[Xt d])
     exact an rfl ⟨by rw[Zj H];rfl,h.to⟩
   .have D:p.1≠p2.1:=r;refine Mh ?_;refine gy ?_;have H:a≠b:=λe=>by
     subst e;rw[L]at d;exact r (by rw[Xt d])
    exact an rfl ⟨by rw[Zj H];rfl,h.to⟩
  .have I:i=a.length:=by omega
   subst I;have m:¬(a.length:Int)<(a.length:Int):=by omega
   refine gy ?_;refine an rfl ⟨?_,h⟩;rw[<- y,ZP,f,ZP];rfl
 .have g:((a.length:Int)≠(b.length:Int)):=by omega
  refine gy ?_;have H:a≠b:=λe=>f (by rw[e]);exact an rfl ⟨by rw[Zj H];rfl,h⟩
end
section
open Pure (ad ay Rd bF less aO aU bA aX aA dz dec my gq cC kD bB aI ik Sc Ix mJ)
class RQ(F:Xn Nat->cn)[B:Base]:Prop where
 ask:∀{op:Nat} {q:XN} {s:Sem Next} {v:Xo} {K:Xp->Xo->Prop} {rq:Rq},rq.jj op q s->ER (F v.os.sigPending) rq v K->B.ask op q s v K
variable {F:Xn Nat->cn} {old:Nat->Prop}
theorem W9:@NQ (fN F old):=@NQ.mk (fN F old) rfl
theorem Xa:@I7 F (fN F old):=@I7.mk F (fN F old) λh H=>⟨_,h,.inl H⟩
theorem VQ:@zS F (fN F old):=@zS.mk F (fN F old) (λh H=>⟨_,h,by grind⟩) λh H=>⟨_,h,by grind⟩
theorem WM:@RQ F (fN F old):=@RQ.mk F (fN F old) λh H=>⟨_,h,by grind⟩
variable[Bs0:Base][NQ]
variable{W0 w:Xo}{v:Xp}{b d:Nat}{o:pX}
variable {p:cn}
theorem Ue [H:RQ F] {op:Nat} {q:XN} {s:Sem Next} {r:Rq} {st:Ps} {W:Xo} {K:Xp->Xo->Prop} (a:At F p st w) (h1:Ry w W) (c:r.jj op q s) (k:At F p st W->ER p r W K):Bs0.ask op q s W K:=by
 have h:=a.ry h1;apply H.ask c;rw[h.par];exact k h
def Gg {Fm:Xn Nat->cn} [hM:I7 Fm] [hN:RQ Fm] {W:Xo} {i n t2 t5 t6 B q:Nat} {U:Xp} {l:Xn cC} {Inv:Xn Nat->St->ad->Prop} {R:Xo->Prop} {body:Code} (hb:f60.body=some body) (J:p.mu=b) (K:p.LI=Qg Inv b d o) (a:At Fm p ⟨i,0,n,.new⟩ w) (hi:i<p.n) (z:p.len i=l.length) (aa:l.length<=1099511627776) (H:Sat W (cy [(B,.cells #[.int .i64 (i:Int)] 3 (0,0)),(q,.cells #[U] 73 (0,0))]) w) (hW:ou W) (A:DG W 3 U (cZ l)) (h6:W.heap[t6]?=some (.cells #[.chan (some p.ch)] 150 (0,0))) (h2:W.heap[t2]?=some (.cells #[ax b] 31 (0,0))) (E:∀j x,l[j]?=some x->∀st s D,st.count i=j->Inv st s D->F8 [x]=none/\∃V X,mM o s D [x] false=some (.ok V,X)/\Inv (st++[i]) V X) (hR:∀w N l',yN Fm p ⟨i,l.length,N,.out⟩ w->Sat { W with os:=w.os } l' w->R w):
 WC body (LH p.wg R) 36 P6 (Ar 0 [.pointer (some ⟨p.wg,0,none⟩),.pointer (some ⟨t6,0,none⟩),.pointer (some ⟨q,0,none⟩),.pointer (some ⟨t2,0,none⟩),.pointer (some ⟨t5,0,none⟩),.pointer (some ⟨B,0,none⟩)]) w:=by
 obtain rfl:f60.body.getD .skip=body:=by rw[hb];rfl
 refine gx ?_;refine zQ rfl ?_;have L:=H.old h6;refine gx ?_;refine RG rfl (λw1 M=>Ue a M LF λa=>.recv a.st λu w2 r=>?_) rfl;have G:=(a.nb r).UX;have g:=H.fl (((Fl.refl _).ry M).nb r);clear H L a M r;obtain⟨O,C,rfl⟩:=A.PL;have g:Sat { W with os:=w2.os } (blk B 3 [.int .i64 (i:Int)]::blk q 73 [.slice O l.length C]::[]) w2:=g;refine gx ?_;refine aL (α:=Nat) (λj=>[(0,.pointer (some ⟨p.wg,0,none⟩)),(1,.pointer (some ⟨t6,0,none⟩)),(2,.pointer (some ⟨q,0,none⟩)),(3,.pointer (some ⟨t2,0,none⟩)),(4,.pointer (some ⟨t5,0,none⟩)),(5,.pointer (some ⟨B,0,none⟩)),(11,.slice O l.length C),(12,.int .i64 (l.length:Int)),(13,.int .i64 (j:Int))])
  (λj w=>∃N,j<=l.length/\yN Fm p ⟨i,j,N,.out⟩ w/\Sat { W with os:=w.os } (blk B 3 [.int .i64 (i:Int)]::blk q 73 [.slice O l.length C]::[]) w) (λj=>l.length-j) 0 ⟨rfl,rfl,rfl,rfl,rfl,rfl,rfl,rfl,rfl,Xr⟩ ⟨n,XR _,G,g⟩ ?_
 clear G g;rintro j Y ⟨N,hj,a,H⟩;by_cases m:j<l.length
 .have Z:(j:Int)<(l.length:Int):=by omega
  obtain⟨P,Q,x,hx,_,rfl,t,ab,ac,af⟩:=A.Jb m;refine gx ?_;refine de (i:=j) rfl rfl rfl rfl rfl m rfl ?_;refine zN (iQ x) rfl rfl rfl (λk u hu=>H.rT (t k u hu)) rfl ?_;refine gx ?_;refine aS H ?_;clear H;intro w4 b7 H;refine gx ?_;refine fG (vs:=iQ x) H ?_;clear H;intro w5 H;have H:=H.old (W0:={ W with os:=Y.os }) h2;refine gx ?_;refine jT (iQ x) H ?_;clear H;intro w6 S H;refine gx ?_;have I:yN Fm p ⟨i,j,N,.out⟩ w6:=a.on H.os;have H:Sat { W with os:=Y.os } (blk S 100 (cZ [x]).flatten::blk B 3 [.int .i64 (i:Int)]::blk q 73 [.slice (some ⟨P,Q,none⟩) l.length C]::[]) w6:=by
   have e:(cZ [x]).flatten=iQ x:=by simp[cZ]
   rw[e];exact H.to
  refine ak (met (F9 (f0:=(0,0)) (p:=p) (bl:=[(B,.cells #[.int .i64 (i:Int)] 3 (0,0)),(q,.cells #[.slice (some ⟨P,Q,none⟩) l.length C] 73 (0,0))]) (Inv:=Inv) (d:=d) (o:=o) (b:=b) J K I (by rw[z];exact m) hi H ?_ (XD 1) (E j x hx) hW) ?_)
  .intro y hy;simp only[XW,ZO,abI]at hy;rcases hy with rfl|rfl|rfl
   .refine⟨λ⟨_,_,h⟩=>?_,λc f h=>by cases h⟩;have:=Zu (λo=>match o with|Obj.cells c _ _=>c.size|_=>0) h;simp[cZ,iQ]at this
   .exact⟨λ⟨_,_,h⟩=>(by cases h),λc f h=>by cases h⟩
   .exact⟨λ⟨_,_,h⟩=>(by cases h),λc f h=>by cases h⟩
  clear H a I;rintro _ w7 ⟨rfl,n7,ag,a,H⟩;refine⟨_,rfl,?_⟩;have H:Sat { W with os:=w7.os } (blk B 3 [.int .i64 (i:Int)]::blk q 73 [.slice (some ⟨P,Q,none⟩) l.length C]::[]) w7:=H.drop;refine gy ?_;exact az (j+1) ⟨rfl,rfl,rfl,rfl,rfl,rfl,rfl,rfl,rfl,Xr⟩ ⟨n7,m,a.UX,H⟩ (by omega)
 .have T:j=l.length:=by omega
  subst T;have ai:¬((l.length:Int)<(l.length:Int)):=by omega
  refine gx ?_;exact T3 (.inr rfl) (hR _ _ _ a H)
