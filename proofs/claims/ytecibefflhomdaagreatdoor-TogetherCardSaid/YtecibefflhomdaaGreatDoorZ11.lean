/-
  Part 11: ; .
-/
import Derived.Test.YtecibefflhomdaaGreatDoorZ10
import Derived.Calls
import Derived.Tactics
import Derived.Laws.World
set_option maxHeartbeats 8000000
set_option maxRecDepth 100000
set_option linter.all false
namespace Go.Proofs.YtecibefflhomdaaGreatDoor
open Go Proofs.Tryz
section
open Go Go.Conc
variable[B:Base]
section
variable{main:XN}{b c:Y5}{a:Act}{k todo:Xn Item}{cs:Xn Y5}{r r':Xo}
variable {es:Xv Ys}
def Kq {fn:Func} {u:Xp} {kd:XN} (d:b.kind=Cy kd) (e:kd=true->IP c) (h:a.defers=[]) (f:prog.funcs[b.fn]?=some fn) (g:(results fn a.tmps).runT prog r #[]=(.ok u r',es)):
 stepG prog main (G { b.atR a todo with mode:=.returning } (c::cs)) r=.go (bk kd c u cs) r' (seen prog b.fn es):=by
 have H:=EB (main:=main) (fr:={ b.atR a todo with mode:=.returning }) (u:=u) (r:=r') (cs:=cs) d e;simp[Frame.atR,h]at H;simp only[G,stepG,unwind,Frame.atR,h,f,g,GStep.after,H];simp
variable {ds:Xn Deferred}
theorem Kr {d:Deferred} {f:FuncId} {args:Xv Xp} (h:a.defers=d::ds) (H:∀D,d.target≠.collected D) (e:(invoke d.target d.args).runT prog r #[]=(.ok (.enter f args) r,#[])):
 stepG prog main (G { b.atR a todo with mode:=.returning } cs) r=.go (G (Frame.enter prog f args (Cy true)) ({ b.atR { a with defers:=ds } todo with mode:=.returning }::cs)) r #[]:=by
 have⟨t,A⟩:=d;cases t with
 | collected D=>exact XG rfl (H D)
 | _=>simp only[G,stepG,unwind,Frame.atR,h,callDeferred,e,GStep.after,Cy];simp[tJ]
theorem M3{D:Nat}{ds C:Xn Deferred}{es:Xv Ys}(h:a.defers={ target:=.collected D,args:=#[] }::ds)(H:(Instr.takeDeferred D).runT prog r #[]=(.ok C r',es)) :
 stepG prog main (G { b.atR a todo with mode:=.returning } cs) r=.go (G { b.atR { a with defers:=C++ds } todo with mode:=.returning } cs) r' (seen prog b.fn es):=by
 simp only[G,stepG,unwind,Frame.atR,h,H];rfl
end
def DC(fn:Func)(t:Xv Xp)(R:Ending->Xo->Prop):Xn Deferred->Xo->Prop
 | [],v=>∃u,(∀V,Ry v V->dr (results fn t) V u V)/\R (.returned u) v
 | d::b,v=>(∃D,d={ target:=.collected D,args:=#[] }/\∀V,Ry v V->∃a,dr (Instr.takeDeferred D) V [] a/\DC fn t R b a) \/
  ((∀D,d.target≠.collected D)/\((∃f args,(∀r:Xo,(invoke d.target d.args).runT prog r #[]=(.ok (.enter f args) r,#[]))/\dJ f args v λx a=>(∃u,x=.returned u)/\DC fn t R b a) \/
    ∃K,(∀V,Ry v V->B.ask 0 false (invoke d.target d.args) V K)/\∀u a,K u a->DC fn t R b a))
variable {fn:Func} {tmps:Xv Xp} {R:Ending->Xo->Prop} {main:XN} {Stop:XF->Xo->Prop}
def DC.go {kd:XN} {b c:Y5} {cs:Xn Y5} {todo:Xn Item} (p:b.kind=Cy kd) (q:kd=true->IP c) (s:prog.funcs[b.fn]?=some fn) (w:∀u V,R (.returned u) V->jM main Stop (bk kd c u cs) V):∀(a:Xn Deferred) (v:Xo),DC fn tmps R a v->jM main Stop (G { b.atR ⟨tmps,a⟩ todo with mode:=.returning } (c::cs)) v
 | [],v,⟨u,i,j⟩=>.Bh rfl λx H=>by
  have⟨E,k,l,y⟩:=(i x H).true;refine⟨_,x,⟨seen prog b.fn E,λe z=>k e (oG _ _ _ e z),l,λr g=>?_⟩,(w u v j).rely H⟩;have⟨n,t1,t2,t3⟩:=y r g;exact⟨n,Kq p q rfl s t1,t2,t3⟩
 | d::a,v,.inl ⟨D,J,h⟩=>.Bh rfl λx H=>by
  have⟨V,o,L⟩:=h x H;have⟨E,k,l,y⟩:=o.true;refine⟨_,V,⟨seen prog b.fn E,λe z=>k e (oG _ _ _ e z),l,λr g=>?_⟩,DC.go (todo:=todo) p q s w a V L⟩;have⟨n,t1,t2,t3⟩:=y r g;exact⟨n,M3 (by rw[J]) t1,t2,t3⟩
 | d::a,v,.inr ⟨A,.inl ⟨f,I,i,j⟩⟩=>.idle rfl (λr=>Kr rfl A (i r)) (j main true _ (c::cs) Stop (λ_=>.inl rfl) λu V C=>DC.go p q s w a V C.2)
 | d::a,v,.inr ⟨A,.inr ⟨K,i,j⟩⟩=>by
  have m:∀F:Y5,∀cs:Xn Y5,∀r,F.defers=d::a->F.mode=.returning->stepG prog main (G F cs) r=callDeferred prog { F with defers:=a } cs none d r:=λF cs r i j=>by
   have⟨t,M⟩:=d;cases t with
   | collected D=>exact XG rfl (A D)
   | _=>simp[G,stepG,unwind,i,j]
  exact .ask 0 false (invoke d.target d.args) (λ_=>G { b.atR ⟨tmps,a⟩ todo with mode:=.returning } (c::cs)) ⟨rfl,(λh=>by grind),λ_=>rfl,λr n E u g=>by rw[m _ _ _ rfl rfl];simp only[callDeferred,g,GStep.after,G,Frame.atR,aaP,XM,XV,Yu],λr n E g=>by rw[m _ _ _ rfl rfl];simp only[callDeferred,g,GStep.after,G,Frame.atR,aaP,XM,XV,Yu],λr n E g=>by rw[m _ _ _ rfl rfl];simp only[callDeferred,g,GStep.after,G,Frame.atR,aaP,XM,XV,Yu,tJ],(λh=>XG rfl h),(λh=>XG rfl h),(λh=>rfl),rfl,(λh=>XG rfl h)⟩ K i λu V C=>DC.go p q s w a V (j u V C)
def UK(fn:Func)(R:Ending->Xo->Prop):YL->Act->Xo->Prop
 | .normal,a,v | .ret,a,v=>DC fn a.tmps R a.defers v
 | _,_,_=>False
variable {f:FuncId}
def Bl {body:Code} {args:Xv Xp} {v:Xo} (d:prog.funcs[f]?=some fn) (g:fn.body=some body) (i:B.quiet=true->(prog.funcs[f]?).any (·.norace)=true) (h:uI none body (UK fn R) { tmps:=args++Array.replicate (fn.ntmps-args.size) undef,defers:=[] } v):dJ f args v R:=λmain K c C Stop j m=>by
 let b:Y5:={ (default:Y5)with fn:=f,kind:=Cy K }
 have H:Frame.enter prog f args (Cy K)=b.atR { tmps:=args++Array.replicate (fn.ntmps-args.size) undef,defers:=[] } [.code body]:=by
  simp[Frame.enter,d,g];rfl
 rw[H];have L:∀(a:Act) (v':Xo) (t:Xn Item),DC fn a.tmps R a.defers v'->jM main Stop (G { b.atR a t with mode:=.returning } (c::C)) v':=λa v' t q=>DC.go (b:=b) rfl j d m a.defers v' q;refine h main b [] (c::C) Stop rfl ⟨by cases K<;>simp[b,Cy],i⟩ λe a v' q=>?_;cases e with
 | normal=>exact .idle rfl (λr=>IL rfl) (L a v' _ q)
 | ret=>exact λk _=>.idle rfl (λr=>IK rfl) (L a v' _ q)
 | exit id=>exact q.elim
 | goto l=>exact q.elim
 | panic n=>exact q.elim
 | outgrown=>exact q.elim
section
variable{main:XN}{b c:Y5}{a:Act}{k todo:Xn Item}{cs:Xn Y5}{r r':Xo}{es:Xv Ys}
variable {l:Nat}
theorem Ks (d:b.roundOf=some l) (e:b.kind≠.early) (g:(Instr.beginRound l).runT prog r #[]=(.ok () r',es)):
 stepG prog main (G (b.atR a (.beginRound::k)) cs) r=.go (G (b.atR a k) cs) r' (seen prog b.fn es):=by
 have h:(b.kind==CallKind.early)=false:=by grind
 have H:(do b.roundOf.elim (stuck "beginRound: no round") Instr.beginRound;pure .skip:Sem Next).runT prog r #[]=(.ok .skip r',es):=by
  simp_all
 simp only[G,stepG,stepG.exec,Frame.atR];simp only[stepG.apply,YB,H,h,GStep.after,XM,XV,Frame.finish,Yu]
variable {u:Xp}
theorem M4 (h:b.roundOf=some l) (H:b.kind=.normal) (d:(Instr.endRound l none).runT prog r #[]=(.ok u r',es)):
 stepG prog main (G (b.atR a []) (c::cs)) r=.go (G (c.finish u) cs) r' (seen prog b.fn es):=by
 simp only[G,stepG,stepG.exec,Frame.atR,h,H,d];rfl
theorem M5 (h:b.roundOf=some l) (H:b.kind=.normal) (d:(Instr.endRound l (some .ret)).runT prog r #[]=(.ok u r',es)):
 stepG prog main (G (b.atR a (.code .ret::k)) (c::cs)) r=.go (G (c.finish u) cs) r' (seen prog b.fn es):=by
 simp only[G,stepG,stepG.exec,Frame.atR,h,H,d];rfl
theorem Kt {id:Nat} (h:b.roundOf=some l) (H:b.kind=.normal) (d:exitTo id k=none) (e:(Instr.endRound l (some (.exit id))).runT prog r #[]=(.ok u r',es)):
 stepG prog main (G (b.atR a (.code (.exit id)::k)) (c::cs)) r=.go (G (c.finish u) cs) r' (seen prog b.fn es):=by
 simp only[G,stepG,stepG.exec,Frame.atR,h,H,d,e];rfl
theorem ED {j:XB Code} (h:(Instr.endLoop l).runT prog r #[]=(.ok j r',es)):
 stepG prog main (G (b.atR a (.endRangeFunc l::k)) cs) r=.go (G (b.atR a ((j.map Item.code).toList++k)) cs) r' (seen prog b.fn es):=by
 simp only[G,stepG,stepG.exec,Frame.atR,h,GStep.after,Yu]
theorem Al {g:XZ} {ps:Xv Tmp} {A j:Code} {mark:Xn Deferred} {f:FuncId} {args:Xv Xp} {d:Deferred} (o:b.kind≠.early) (m:(Instr.enterLoop b.fn a.tmps ps A j b.roundOf).runT prog r #[]=(.ok (l,mark) r',es)) (h:resolve a.eval (rangeCall g l) 0=.pure d) (H:(invoke d.target d.args).runT prog r' #[]=(.ok (.enter f args) r',#[])):
 stepG prog main (G (b.atR a (.code (.rangeFunc g ps A j)::k)) cs) r =
  .go (G (Frame.enter prog f args .normal) (b.atR { a with defers:=mark++a.defers } (.inRangeFunc l::k)::cs)) r' (seen prog b.fn es++seen prog b.fn #[]):=by
 have i:(b.kind==CallKind.early)=false:=by grind
 have e:=aaO b { a with defers:=mark++a.defers } (.inRangeFunc l::k);simp[Frame.atR]at e;have n:(do let d <- resolve ({ tmps:=a.tmps,defers:=mark++a.defers }:Act).eval { callee:=.value g,args:=#[.const (.func (.yield l) #[] #[])],argTypes:=#[] } 0;invoke d.target d.args:Sem Next).runT prog r' #[]=(.ok (.enter f args) r',#[]):=by
  show(Sem.bind (resolve a.eval _ 0) _).runT prog r' #[]=_;rw[h];exact H
 simp only[G,stepG,stepG.exec,Frame.atR,m];simp only[stepG.apply,YB,e,n,i,GStep.after,XM,XV,Yu]
end
def yu(l:Nat)(R:Ending->Xo->Prop):YL->Act->Xo->Prop
 | .normal,_,v=>∀V,Ry v V->∃u a,dr (Instr.endRound l none) V u a/\R (.returned u) a
 | .ret,_,v=>∀V,Ry v V->∃u a,dr (Instr.endRound l (some .ret)) V u a/\R (.returned u) a
 | .exit id,_,v=>∀V,Ry v V->∃u a,dr (Instr.endRound l (some (.exit id))) V u a/\R (.returned u) a
 | _,_,_=>False
variable {v:Xo}
def qz {g:XF} {α:Type} (s:Sem α) (fn:FuncId) (i:g.status=.running) (h:∀V,Ry v V->∃x a,dr s V x a/\∃G,(∀r b E,s.runT prog r #[]=(.ok x b,E)->stepG prog main g r=.go G b (seen prog fn E))/\jM main Stop G a):jM main Stop g v:=.Bh i λV j=>by
 have⟨x,a,H,G,o,k⟩:=h V j;have⟨E,c,d,l⟩:=H.true;refine⟨G,a,⟨seen prog fn E,λe m=>c e (oG _ _ _ e m),d,λr n=>?_⟩,k⟩;have⟨b,t1,t2,t3⟩:=l r n;exact⟨b,by grind,t2,t3⟩
variable {asg bd:Code}
def Ku {l:Nat} (p:B.quiet=true->(prog.funcs[f]?).any (·.norace)=true) (h:uI (some l) asg (Exit.then (λa v=>∀j,Ry v j->∃m,dr (Instr.beginRound l) j () m/\uI (some l) bd (yu l R) a m) λ_ _ _=>False) { tmps:=tmps,defers:=[] } v):iO l f tmps asg bd v R:=λmain c C Stop D=>by
 let b:Y5:={ (default:Y5)with fn:=f,kind:=.normal,roundOf:=some l }
 have n:Frame.round l f tmps asg bd .normal=b.atR { tmps:=tmps,defers:=[] } [.code asg,.beginRound,.code bd]:=rfl;rw[n];refine h main b [.beginRound,.code bd] (c::C) Stop rfl ⟨by simp,p⟩ λe F m q=>?_;cases e with
 | normal=>
  refine qz (Instr.beginRound l) f rfl λj t=>?_;have⟨w,x,y⟩:=q j t;refine⟨(),w,x,_,λr o E d=>Ks rfl (by simp) d,y main b [] (c::C) Stop rfl ⟨by simp,p⟩ λe G I Q=>?_⟩;cases e with
  | normal=>
   refine qz (Instr.endRound l none) f rfl λV g=>?_;have⟨u,i,H,s⟩:=Q V g;exact⟨u,i,H,_,λr o E d=>M4 rfl rfl d,by grind⟩
  | ret=>
   refine λk _=>qz (Instr.endRound l (some .ret)) f rfl λV g=>?_;have⟨u,i,H,s⟩:=Q V g;exact⟨u,i,H,_,λr o E d=>M5 rfl rfl d,by grind⟩
  | exit id=>
   refine .inr ⟨rfl,λk z=>qz (Instr.endRound l (some (.exit id))) f rfl λV g=>?_⟩;have⟨u,i,H,s⟩:=Q V g;exact⟨u,i,H,_,λr o E d=>Kt rfl rfl (z id rfl) d,by grind⟩
  | goto l=>exact Q.elim
  | panic A=>exact Q.elim
  | outgrown=>exact Q.elim
 | ret=>exact q.elim
 | exit id=>exact q.elim
 | goto l=>exact q.elim
 | panic A=>exact q.elim
 | outgrown=>exact q.elim
def SG(l:Nat)(Q:YL->Act->Xo->Prop)(r:XB Nat)(a:Act):Ending->Xo->Prop
 | .returned _,v=>∀b,Ry v b->∃j V,dr (Instr.endLoop l) b j V/\(match j with|none=>Cl (Q .normal) a V|some c=>uI r c Q a V)
 | _,_=>False
def Am {s:XB Nat} {g:XZ} {ps:Xv Tmp} {Q:YL->Act->Xo->Prop} {a:Act} (h:∀fn V,Ry v V->∃l mark p d f A,dr (Instr.enterLoop fn a.tmps ps asg bd s) V (l,mark) p/\resolve a.eval (rangeCall g l) 0=.pure d /\
   (∀r,(invoke d.target d.args).runT prog r #[]=(.ok (.enter f A) r,#[]))/\dJ f A p (SG l Q s { a with defers:=mark++a.defers })):
 uI s (.rangeFunc g ps asg bd) Q a v:=λmain b k C Stop I z D=>.Bh rfl λV J=>by
 have⟨l,mark,p,d,f,A,m,n,o,H⟩:=h b.fn V J;have⟨E,t,w,K⟩:=m.true;refine⟨G _ (b.atR { a with defers:=mark++a.defers } (.inRangeFunc l::k)::C),p,⟨seen prog b.fn E++seen prog b.fn #[],λe i=>?_,w,λr L=>?_⟩,H main false _ C Stop (λh=>by grind) λu T M=>?_⟩
 .rcases abe.1 i with i|i
  .exact t e (oG _ _ _ e i)
  .have:=oG _ _ _ e i;simp at this
 .have⟨x,t1,t2,t3⟩:=K r L;exact⟨x,Al z.1 (by grind) n (o x),t2,t3⟩
 .show jM _ _ (G _ _) _;rw[finish_atR_inRangeFunc];refine qz (Instr.endLoop l) b.fn rfl λN O=>?_;have⟨j,P,y,F⟩:=M N O;refine⟨j,P,y,_,λr x E i=>ED i,?_⟩;cases j with
  | none=>
   have⟨U,S,q⟩:=F;exact jM.rely (D _ _ _ q) S
  | some c=>exact F main b k C Stop I z D
end
section
variable[Bs0:Base]
abbrev Hp:=Nat->XB (XN×Obj)
abbrev ae:=Hp->Prop
def Qv(o:Obj):Prop:=∃e f,o=.cells #[] e f
variable {T:XO} {f:Nat×Nat}
theorem vn {v:Xp} {vs:Xn Xp}:¬Qv (.cells (v::vs).toArray T f):=λ⟨_,_,h⟩=>by grind
def Hp.fits(a b:Hp):Prop:=∀i x y,a i=some x->b i=some y->x=y/\(x.1=true\/Qv x.2)
def Hp.le(a b:Hp):Prop:=∀i x,a i=some x->b i=some x
def Hp.un(a b:Hp):Hp:=λi=>match a i with|some x=>some x|none=>b i
theorem Hp.le_refl(a:Hp):Hp.le a a:=λ_ _ h=>h
variable {a b c:Hp}
theorem Hp.le_trans (h:Hp.le a b) (k:Hp.le b c):Hp.le a c:=λi x H=>k i x (h i x H)
theorem Hp.ru (h:Hp.fits a b):Hp.fits b a:=λi x y H d=>by
 have⟨e,s⟩:=h i y x d H;subst e;exact⟨rfl,s⟩
theorem Hp.kh {A b':Hp} (h:Hp.fits a b) (H:Hp.le A a) (d:Hp.le b' b):Hp.fits A b':=
 λi x y e g=>h i x y (H i x e) (d i y g)
theorem Hp.lx(a b:Hp):Hp.le a (Hp.un a b):=λi x h=>by simp[Hp.un,h]
theorem Hp.ki (h:Hp.fits a b):Hp.le b (Hp.un a b):=λi x H=>by
 unfold Hp.un;cases d:a i with
 | none=>simpa using H
 | some y=>simp;rw[(h i y x d H).1]
theorem Hp.EE (d:Hp.le a c) (e:Hp.le b c):Hp.le (Hp.un a b) c:=λi x H=>by
 unfold Hp.un at H;cases h:a i with
 | none=>rw[h]at H;exact e i x H
 | some y=>rw[h]at H;simp at H;subst H;exact d i y h
theorem Hp.Cz (h1:Hp.fits a b) (e:Hp.fits a c):Hp.fits a (Hp.un b c):=λi x y d H=>by
 unfold Hp.un at H;cases h:b i with
 | none=>rw[h]at H;exact e i x y d H
 | some z=>rw[h]at H;simp at H;subst H;exact h1 i x z d h
def cj:Xn ae->ae
 | [],_=>True
 | A::l,h=>∃H d,Hp.fits H d/\Hp.le H h/\Hp.le d h/\A H/\cj l d
def oH:∀{l:Xn ae} {h h':Hp},Hp.le h h'->cj l h->cj l h'
 | [],_,_,_,_=>Xr
 | _::_,_,_,H,⟨d,e,f,L,g,a,r⟩=>⟨d,e,f,Hp.le_trans L H,Hp.le_trans g H,a,r⟩
variable {A B:ae} {l:Xn ae} {h:Hp}
def ft (H:cj (A::B::l) h):cj (B::A::l) h:=by
 have⟨d,m,f,j,L,a,k,e,F,g,i,b,r⟩:=H;have f14:=Hp.kh f (Hp.le_refl _) i;refine⟨k,Hp.un d e,Hp.Cz (Hp.ru (Hp.kh f (Hp.le_refl _) g)) F,Hp.le_trans g L,Hp.EE j (Hp.le_trans i L),b,d,e,f14,Hp.lx _ _,Hp.ki f14,a,r⟩
variable {l':Xn ae}
theorem bH (H:∀h,cj l h->cj l' h) (k:cj (A::l) h):cj (A::l') h:=by
 have⟨d,e,f,L,g,a,r⟩:=k;exact⟨d,e,f,L,g,a,H _ r⟩
theorem Bm {A':ae} (H:∀h,A h->A' h) (k:cj (A::l) h):cj (A'::l) h:=by
 have⟨d,e,f,L,g,a,r⟩:=k;exact⟨d,e,f,L,g,H _ a,r⟩
def rz (k:cj (A::l) h):cj l h:=by
 have⟨H,d,f,e,L,a,r⟩:=k;exact oH L r
def jh:∀{a b:Xn ae} {h1 H h:Hp},Hp.fits h1 H->Hp.le h1 h->Hp.le H h->cj a h1->cj b H->cj (a++b) h
 | [],_,_,_,_,_,_,L,_,r=>oH L r
 | A::a,b,h1,H,h,f,d,L,⟨k,K,F,m,M,e,r⟩,R=>by
  have f2:=Hp.kh f M (Hp.le_refl _);exact⟨k,Hp.un K H,Hp.Cz F (Hp.kh f m (Hp.le_refl _)),Hp.le_trans m d,Hp.EE (Hp.le_trans M d) L,e,jh f2 (Hp.lx _ _) (Hp.ki f2) r R⟩
def dV:∀{a b:Xn ae} {h:Hp},cj (a++b) h->∃H d,Hp.fits H d/\Hp.le H h/\Hp.le d h/\cj a H/\cj b d
 | [],b,h,r=>⟨λ_=>none,h,λ_ _ _ e=>(by grind),λ_ _ e=>(by grind),Hp.le_refl _,Xr,r⟩
 | A::a,b,h,⟨k,K,f,i,L,j,r⟩=>by
  have⟨H,d,F,m,M,R,n⟩:=dV r;have g:=Hp.kh f (Hp.le_refl _) m;refine⟨Hp.un k H,d,Hp.ru (Hp.Cz (Hp.ru (Hp.kh f (Hp.le_refl _) M)) (Hp.ru F)),Hp.EE i (Hp.le_trans m L),Hp.le_trans M L,⟨k,H,g,Hp.lx _ _,Hp.ki g,j,R⟩,n⟩
def star(l:Xn ae):ae:=cj l
def cD {a b:Xn ae} (k:cj (star a::b) h):cj (a++b) h:=by
 have⟨H,e,f,L,d,r,R⟩:=k;exact jh f L d r R
def cu {a b:Xn ae} (k:cj (a++b) h):cj (star a::b) h:=by
 have⟨H,d,f,L,e,r,R⟩:=dV k;exact⟨H,d,f,L,e,r,R⟩
inductive Take:ae->Xn ae->Xn ae->Prop
 | here {A:ae} {l:Xn ae}:Take A (A::l) l
 | there {A B:ae} {l r:Xn ae}:Take A l r->Take A (B::l) (B::r)
variable {x0:ae}
theorem dt:Take A (x0::A::l) (x0::l):=.there .here
variable {x1:ae}
def iB:Take A (x0::x1::A::l) (x0::x1::l):=.there dt
variable {x2:ae}
def IQ:Take A (x0::x1::x2::A::l) (x0::x1::x2::l):=.there iB
variable {x3:ae}
def yw:Take A (x0::x1::x2::x3::A::l) (x0::x1::x2::x3::l):=.there IQ
variable {x4:ae}
def EF:Take A (x0::x1::x2::x3::x4::A::l) (x0::x1::x2::x3::x4::l):=.there yw
variable {x5:ae}
def L9:Take A (x0::x1::x2::x3::x4::x5::A::l) (x0::x1::x2::x3::x4::x5::l):=.there EF
variable {x6:ae}
def Uk:Take A (x0::x1::x2::x3::x4::x5::x6::A::l) (x0::x1::x2::x3::x4::x5::x6::l):=.there L9
variable {x7:ae}
def SH:Take A (x0::x1::x2::x3::x4::x5::x6::x7::A::l) (x0::x1::x2::x3::x4::x5::x6::x7::l):=.there Uk
variable {x8:ae}
def VW:Take A (x0::x1::x2::x3::x4::x5::x6::x7::x8::A::l) (x0::x1::x2::x3::x4::x5::x6::x7::x8::l):=.there SH
variable {x9:ae}
def UL:Take A (x0::x1::x2::x3::x4::x5::x6::x7::x8::x9::A::l) (x0::x1::x2::x3::x4::x5::x6::x7::x8::x9::l):=.there VW
def Wa {x:ae}:Take A (x0::x1::x2::x3::x4::x5::x6::x7::x8::x9::x::A::l) (x0::x1::x2::x3::x4::x5::x6::x7::x8::x9::x::l):=.there UL
variable {r:Xn ae}
def Take.to (t:Take A l r):∀{h:Hp},cj l h->cj (A::r) h:=by
 induction t with
 | here=>exact λk=>k
 | there _ i=>exact λk=>ft (bH (λh=>i) k)
def Take.back (t:Take A l r):∀{h:Hp},cj (A::r) h->cj l h:=by
 induction t with
 | here=>exact λk=>k
 | there _ i=>exact λk=>bH (λh=>i) (ft k)
inductive mR:Xn ae->ae->ae->Xn ae->Prop
 | here {A B:ae} {l:Xn ae}:mR (A::l) A B (B::l)
 | there {A B C:ae} {l l':Xn ae}:mR l A B l'->mR (C::l) A B (C::l')
theorem mR.take (t:mR l A B l'):∃r,Take A l r/\Take B l' r:=by
 induction t with
 | here=>exact⟨_,.here,.here⟩
 | there _ i=>obtain⟨r,H,d⟩:=i;exact⟨_,.there H,.there d⟩
def ob(sh:XN)(b:Nat)(o:Obj):ae:=λh=>h b=some (sh,o)
abbrev blk(b:Nat)(T:XO)(cs:Xn Xp):ae:=ob false b (.cells cs.toArray T (0,0))
abbrev Ae(b:Nat)(T:XO)(cs:Xn Xp):ae:=ob true b (.cells cs.toArray T (0,0))
def Af:Obj->Prop
 | .cells c T _=>∀(i:Nat) (x:Xp),c[i]?=some x->x=hole->T=133/\i<2
 | .coro none=>False
 | _=>True
theorem mD {cs:Xn Xp} (h:∀x∈cs,x≠hole):Af (.cells cs.toArray T f):=λi x d H=>XG H (by grind)
def UM(W0:Xo):Prop:=∀i:Nat,(Bs0.old i->∃o:Obj,W0.heap[i]?=some o/\True)/\((∃o:Obj,W0.heap[i]?=some o/\o≠Obj.coro none)->Bs0.old i)
structure Sat(W0:Xo)(l:Xn ae)(w:Xo):Prop where
 os:w.os=W0.os
 tape:w.tape=W0.tape
 output:w.output=W0.output
 size:UM W0/\W0.heap.size<=w.heap.size
 mem:∃h:Hp,(∀i x,h i=some x->w.heap[i]?=some x.2)/\((∀i o,Bs0.old i->W0.heap[i]?=some o->h i=some (true,o))/\∀i x,h i=some x->¬Bs0.old i->Af x.2)/\cj l h
section
variable{W0 w:Xo}{l l':Xn ae}
def Sat.imp(h:Sat W0 l w)(k:∀h,cj l h->cj l' h):Sat W0 l' w:=by
 have⟨a,b,c,d,H,e,f,g⟩:=h;exact⟨a,b,c,d,H,e,f,k _ g⟩
def Sat.drew(h:Sat W0 l w):Sat W0 l { w with drawn:=w.drawn+1 }:=⟨h.1,h.2,h.3,h.4,h.5⟩
open Classical in
def Sat.refl(W:Xo)(hb:UM W):Sat W [] W:=by
 refine⟨rfl,rfl,rfl,⟨hb,XD _⟩,λi=>if Bs0.old i then(W.heap[i]?).map λo=>(true,o)else none,λi x hx=>?_,⟨λi o hold ho=>?_,λi x hx hi=>?_⟩,Xr⟩
 .have hx:(if Bs0.old i then(W.heap[i]?).map λo=>(true,o)else none)=some x:=hx;split at hx
  .simp only[Yw]at hx;obtain⟨o,ho,rfl⟩:=hx;exact ho
  .cases hx
 .show(if Bs0.old i then(W.heap[i]?).map λo=>(true,o)else none)=some (true,o);rw[XE hold,ho];rfl
 .have hx:(if Bs0.old i then(W.heap[i]?).map λo=>(true,o)else none)=some x:=hx;rw[Xx hi]at hx;cases hx
variable {A:ae} {r:Xn ae}
def Sat.take (h:Sat W0 l w) (t:Take A l r):Sat W0 (A::r) w:=h.imp λ_=>t.to
def Sat.jZ (h:Sat W0 (A::r) w) (t:Take A l r):Sat W0 l w:=h.imp λ_=>t.back
def Sat.p7 {B:ae} {r':Xn ae} (h:Sat W0 l w) (t:Take A l r) (t':Take B r r'):Sat W0 (A::B::r') w:=
 h.imp λ_ k=>bH (λ_=>t'.to) (t.to k)
def Sat.drop (h:Sat W0 (A::l) w):Sat W0 l w:=h.imp λ_=>rz
def Sat.gD {α:Sort _} {φ:α->Prop} {B:α->Xn ae} (h:Sat W0 (A::l) w) (k:∀h,A h->∃x,φ x/\cj (B x) h):∃x,φ x/\Sat W0 (B x++l) w:=by
 have⟨a,b,c,d,H,e,f,n,o,F,L,g,i,r⟩:=h;have⟨x,j,m⟩:=k _ i;exact⟨x,j,a,b,c,d,H,e,f,jh F L g m r⟩
def Sat.close {B:Xn ae} (h:Sat W0 (B++l) w) (k:∀h,cj B h->A h):Sat W0 (A::l) w:=
 h.imp λ_ r=>by
  have⟨H,d,f,L,e,R,g⟩:=dV r;exact⟨H,d,f,L,e,k _ R,g⟩
def Sat.head {A':ae} (h:Sat W0 (A::l) w) (k:∀h,A h->A' h):Sat W0 (A'::l) w:=h.imp λ_=>Bm k
variable {sh:XN} {b:Nat} {o:Obj}
def Sat.dA (h:Sat W0 (ob sh b o::l) w):w.heap[b]?=some o:=by
 have⟨_,_,_,_,d,e,_,g,i,_,L,_,H,_⟩:=h;exact e b _ (L b _ H)
def Sat.at (h:Sat W0 l w) (t:Take (ob sh b o) l r):w.heap[b]?=some o:=(h.take t).dA
def Sat.vq (h:Sat W0 (ob false b o::l) w):¬Bs0.old b:=λH=>by
 have⟨_,_,_,_,i,e,f,j,k,_,L,_,g,_⟩:=h;have⟨O,d,_⟩:=(h.size.1 b).1 H;have:=f.1 b _ H d;rw[L b _ g]at this
 grind
def Sat.clean (h:Sat W0 (ob false b o::l) w):Af o:=by
 have:=h.vq;have⟨_,_,_,_,d,e,f,g,i,_,L,_,H,_⟩:=h;exact f.2 b _ (L b _ H) this
variable {w':Xo}
theorem Sat.oI {o':Obj} (h:Sat W0 (ob false b o::l) w) (n:Af o') (p:w'.os=w.os) (u:w'.tape=w.tape) (v:w'.output=w.output) (q:w'.heap.size=w.heap.size) (M:w'.heap[b]?=some o') (z:∀i,i≠b->w'.heap[i]?=w.heap[i]?) (C:Qv o->o'=o:=by exact λ⟨_,_,h⟩=>by cases h):Sat W0 (ob false b o'::l) w':=by
 have k:=h.vq;have⟨a,D,c,d,E,e,f,N,G,F,P,L,t,r⟩:=h;refine⟨p.trans a,u.trans D,v.trans c,q▸d,λi=>if i=b then some (false,o')else E i,?_,⟨?_,λi x g j=>by
  by_cases m:i=b
  .simp[m]at g;subst g;exact n
  .simp[m]at g;exact f.2 i x g j⟩,λi=>if i=b then some (false,o')else none,G,?_,?_,?_,by simp[ob],r⟩
 .grind
 .intro i O H s;have:i≠b:=λI=>k (I▸H);simp[this,f.1 i O H s]
 .intro i x y g J;by_cases j:i=b
  .subst j;obtain⟨K,h|h⟩:=F i _ _ t J
   .cases h
   grind
  grind
 .intro i x g
  grind
 .intro i x g;by_cases j:i=b
  .subst j;obtain⟨K,h|h⟩:=F i _ _ t g
   .cases h
   grind
  .simp[j];exact L i x g
theorem Sat.new(h:Sat W0 l w)(o:Obj)(sh:XN)(k:Af o):Sat W0 (ob sh w.heap.size o::l) { w with heap:=w.heap.push o }:=by
 have⟨a,b,c,d,j,e,f,r⟩:=h;have m:j w.heap.size=none:=by
  cases H:j w.heap.size with
  | none=>rfl
  | some x=>
   grind
 refine⟨a,b,c,⟨d.1,by have:=d.2;simp;omega⟩,λi=>if i=w.heap.size then some (sh,o)else j i,?_,⟨?_,λi x H n=>by
  by_cases g:i=w.heap.size
  .simp[g]at H;subst H;exact k
  .simp[g]at H;exact f.2 i x H n⟩,λi=>if i=w.heap.size then some (sh,o)else none,j,?_,?_,?_,by simp[ob],r⟩
 .grind
 .grind
 .intro i x y H p
  grind
 .intro i x H
  grind
 .intro i x H
  grind
def Sat.old (h:Sat W0 l w) (k:W0.heap[b]?=some o) (p:o≠Obj.coro none:=by intro h;cases h):Sat W0 (ob true b o::l) w:=by
 obtain⟨a,q,c,d,m,e,f,r⟩:=h;have H:=(d.1 b).2 ⟨o,k,p⟩;refine⟨a,q,c,d,m,e,f,λi=>if i=b then some (true,o)else none,m,?_,?_,Hp.le_refl _,by simp[ob],r⟩
 .intro i x y g n;by_cases j:i=b
  .subst j;simp at g;subst g;rw[f.1 _ _ H k]at n;cases n;exact⟨rfl,.inl rfl⟩
  .simp[j]at g
 .intro i x g;by_cases j:i=b
  .subst j;simp at g;subst g;exact f.1 _ _ H k
  .simp[j]at g
def Sat.dup (h:Sat W0 (ob true b o::l) w):Sat W0 (ob true b o::ob true b o::l) w:=by
 have⟨a,p,c,d,q,e,f,k,m,F,L,n,H,r⟩:=h;refine⟨a,p,c,d,q,e,f,λi=>if i=b then some (true,o)else none,Hp.un k m,?_,?_,Hp.EE L n,by simp[ob],k,m,F,Hp.lx _ _,Hp.ki F,H,r⟩
 .intro i x y g s;by_cases j:i=b
  .subst j;have:=Hp.EE L n i y s;rw[L i _ H]at this
   grind
  grind
 .intro i x g;by_cases j:i=b
  .subst j;simp at g;subst g;exact L i _ H
  grind
theorem Sat.share (h:Sat W0 (ob false b o::l) w) (p:¬Qv o:=by exact vn):Sat W0 (ob true b o::l) w:=by
 have⟨a,q,c,d,s,e,f,C,t,F,L,u,m,r⟩:=h;refine⟨a,q,c,d,λi=>if i=b then some (true,o)else s i,?_,⟨?_,λi x H j=>by
  by_cases k:i=b
  .simp[k]at H;subst H;subst k;exact f.2 _ (false,o) (L _ _ m) j
  .simp[k]at H;exact f.2 i x H j⟩,λi=>if i=b then some (true,o)else none,t,?_,?_,?_,by simp[ob],r⟩
 .intro i x H;by_cases j:i=b
  .subst j;simp at H;subst H;exact e _ (false,o) (L _ _ m)
  grind
 .intro i O g n;have:i≠b:=λv=>h.vq (v▸g);simp[this,f.1 i O g n]
 .intro i x y H z;by_cases j:i=b
  .subst j;rcases(F i _ _ m z).2 with h|h
   .cases h
   grind
  grind
 .intro i x H
  grind
 .intro i x H;by_cases j:i=b
  .subst j;rcases(F i _ _ m H).2 with h|h
   .cases h
   grind
  .simp[j];exact u i x H
variable {T:XO} {cs:Xn Xp}
def Sat.cell (h:Sat W0 l w) (t:Take (ob sh b (.cells cs.toArray T (0,0))) l r) (o:Nat):
 w.cell? ⟨b,o,none⟩=cs[o]?:=by
 simp[World.cell?,h.at t]
def Sat.free (h:Sat W0 l w) (t:Take (ob sh b (.cells cs.toArray T (0,0))) l r) (o:Nat):
 w.frozen? ⟨b,o,none⟩=false:=by
 simp only[World.frozen?,h.at t];simp
def Sat.setCell (h:Sat W0 l w) {l':Xn ae} {o:Nat} {v:Xp} (t:mR l (blk b T cs) (blk b T (cs.set o v)) l') (hv:v≠hole):Sat W0 l' (w.setCell ⟨b,o,none⟩ v):=by
 have⟨r,t1,t2⟩:=t.take;have k:=h.take t1;have d:=k.dA;have e:=(Xz.1 d).1;have H:=k.clean;refine Sat.jZ (Sat.oI k (o':=.cells (cs.set o v).toArray T _) (λi x m g=>?_) rfl rfl rfl ?_ ?_ ?_ λ⟨_,_,h⟩=>by grind) t2
 .by_cases j:o=i
  .grind
  .exact H i x (by grind) g
 .simp_all
 .simp[World.setCell,Array.getElem?_modify,d]
 .intro i j;simp[World.setCell]
  grind
def Sat.ry{w1:Xo}(h:Sat W0 l w)(H:Ry w w1):Sat W0 l w1:=by
 have⟨a,b,c,d,j,e,f,r⟩:=h;exact⟨H.os.trans a,H.tape.trans b,H.out.trans c,⟨d.1,Yh d.2 H.size⟩,j,λi x g=>by
  rw[H.heap i (Xz.1 (e i x g)).1];exact e i x g,f,r⟩
def Sat.R8(h:Sat W0 l w){k:Nat}(H:Bs0.old k):w.heap[k]?=W0.heap[k]?:=by
 have⟨a,b,c,d,g,e,f,r⟩:=h;have⟨o,i,_⟩:=(d.1 k).1 H
 grind
def Sat.kU (h:Sat W0 l w) (h':Sat W0 l' w') (F:G0 w.heap w'.heap):Cx w w':=
 ⟨λk H=>by rw[h.R8 H,h'.R8 H],F⟩
def DD(T o:Nat):XN:=!(Nat.beq T 133)||Nat.ble 2 o
theorem SI{T o:Nat}(h:DD T o=true):¬(T=133/\o<2):=by
 intro⟨H,e⟩;subst H;have:Nat.ble 2 o=false:=by
  cases d:Nat.ble 2 o with
  | false=>rfl
  | true=>have:=abz d;omega
 simp[DD,this]at h
variable {c:Xv Xp} {f:Nat×Nat} {wr sy:XN}
def Sat.SJ (h:Sat W0 l w) (t:Take (ob sh b (.cells c T f)) l r) {o:Nat} (n:wr=true->sh=false) (d:DD T o=true\/∀x,c[o]?=some x->x≠hole) {s:YO} (p:s.block=b) (g:s.off=o):
 iM w ⟨.cell s,wr,sy⟩:=by
 have k:=h.take t;have i:=k.dA;subst p;subst g;refine⟨λj=>?_,λC el F H x q=>?_⟩
 .cases wr with
  | false=>rfl
  | true=>
   cases n rfl;exact XG j k.vq
 .rw[i]at H;obtain⟨rfl,rfl,rfl⟩:=H;by_cases m:Bs0.old s.block
  .exact .inl m
  .refine .inr ?_;rcases d with d|d
   .intro u;have⟨_,_,_,_,y,e,f,z,D,_,L,_,v,_⟩:=k;exact SI d (f.2 _ _ (L _ _ v) m s.off x q u)
   grind
def Sat.UN (h:Sat W0 l w) (t:Take (ob sh b (.cells c T f)) l r) {o:Nat} (H:DD T o=true):iM w ⟨.cell ⟨b,o,none⟩,false,sy⟩:=
 h.SJ t (λh=>by grind) (.inl H) rfl rfl
def Sat.UO (h:Sat W0 l w) (t:Take (ob sh b (.cells c T f)) l r) {o:Nat} {x:Xp} (H:c[o]?=some x) (d:x≠hole):iM w ⟨.cell ⟨b,o,none⟩,false,sy⟩:=
 h.SJ t (λh=>by grind) (by grind) rfl rfl
def Sat.UP (h:Sat W0 l w) (t:Take (ob false b (.cells c T f)) l r) {o:Nat} (H:DD T o=true):iM w ⟨.cell ⟨b,o,none⟩,wr,sy⟩:=
 h.SJ t (λ_=>rfl) (.inl H) rfl rfl
def Sat.mf (h:Sat W0 l w) (t:Take (ob sh b o) l r) (g:wr=true->sh=false):iM w ⟨.obj b,wr,sy⟩:=by
 have k:=h.take t;refine⟨λH=>?_,λd=>?_⟩
 .cases wr with
  | false=>rfl
  | true=>
   cases g rfl;exact XG H k.vq
 .have:=d.2;rw[k.dA]at this;cases this;have⟨_,_,_,_,j,e,f,m,n,_,L,_,i,_⟩:=k;exact f.2 _ _ (L _ _ i) d.1
