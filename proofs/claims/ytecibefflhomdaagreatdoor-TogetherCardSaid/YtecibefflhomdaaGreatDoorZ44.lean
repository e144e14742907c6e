/-
  Part 44: ; ; ; The engine 30 'gy', 'gyt'.
-/
import Derived.Test.YtecibefflhomdaaGreatDoorZ26
import Derived.Test.YtecibefflhomdaaGreatDoorZ43
import Derived.Conc.WgArith
set_option maxHeartbeats 8000000
set_option maxRecDepth 100000
set_option linter.all false
namespace Go.Proofs.YtecibefflhomdaaGreatDoor
open Go Proofs.Tryz
section
open Go Go.Conc
section
variable{op:Nat}{q:XN}{a:YO}
def H6{d:Int}:(Rq.add a .u64 d).jj op q (callFunc 187 #[.pointer (some a),.int .u64 d]):=λr z h H=>
 bW func187 (by kernel_rfl) (by kernel_rfl) (by kernel_rfl) (by kernel_rfl) (run_add_entry h H) (by rw[events_add_entry h H];rfl) (sync_rw a)
def H7{x y:Int}:(Rq.cas a .u64 x y).jj op q (callFunc 190 #[.pointer (some a),.int .u64 x,.int .u64 y]):=λr z H b=>
 ⟨λh=>by
   subst h;exact bW func190 (by kernel_rfl) (by kernel_rfl) (by kernel_rfl) (e:=Extern.Atomic.casT (.int .u64)) (by kernel_rfl) (by rw[casT_eq];exact run_cas_hit_entry H b) (by rw[casT_eq,events_cas_hit_entry H b];rfl) (sync_rw a),
 λh=>bW func190 (by kernel_rfl) (by kernel_rfl) (by kernel_rfl) (e:=Extern.Atomic.casT (.int .u64)) (by kernel_rfl) (by rw[casT_eq];exact run_cas_miss_entry H b h) (by rw[casT_eq,events_cas_miss_entry H b h];rfl) (sync_r a)⟩
def zR:(Rq.ald a).jj op q (callFunc 188 #[.pointer (some a)]):=λr x h=>by
 refine bW func188 (by kernel_rfl) (by kernel_rfl) (by kernel_rfl) (e:=Extern.Atomic.loadT (.int .u64)) (by kernel_rfl) ?_ ?_ (sync_r a)
 .change Sem.run prog (do Extern.Atomic.read (.int .u64) (<- asAddr (.pointer (some a)))) r=_;simp[Extern.Atomic.read,asAddr,h]
 .change Sem.events prog (do Extern.Atomic.read (.int .u64) (<- asAddr (.pointer (some a)))) r _=_;simp[Extern.Atomic.read,asAddr,h,abH]
def Lz{x:Xp}:(Rq.acq a).jj op q (callFunc 125 #[.pointer (some a),x]):=λr z H b=>by
 have c:Extern.find f125=some Extern.Sync.semacquire:=by kernel_rfl
 refine⟨λh=>?_,λh=>?_⟩
 .subst h;have d:(callFunc 125 #[.pointer (some a),x]).run prog r=.halt .blocked r:=by
   rw[Y3 func125 (by kernel_rfl) (by kernel_rfl) (by kernel_rfl) c];simp[Extern.Sync.semacquire,Extern.Sync.count,H]
  exact⟨(callFunc 125 #[.pointer (some a),x]).events prog r #[],by rw[Yo,d]⟩
 .exact bW func125 (by kernel_rfl) (by kernel_rfl) (by kernel_rfl) c (by simp[Extern.Sync.semacquire,Extern.Sync.count,H,h,b,Extern.Sync.none_,aai prog r a (.int .u32 (z-1)) .atomic rfl,Result.andThen])
   (by simp[Extern.Sync.semacquire,Extern.Sync.count,H,h,b,semEvents,abH,aaJ prog r _ a (.int .u32 (z-1)) .atomic rfl,aai prog r a (.int .u32 (z-1)) .atomic rfl,Result.evThen]) (semEvents_sync a)
def LA[B:Base]{ops:Xv Yf}{Q:YL->Act->Xo->Prop}{n:Nat}{D:Md}{e:Env}{w:Xo}{rest:Xn Yf}{ty:XO}{pos:YG}{A:Xv Edge}{d:Nat}{f:FuncId}{fn:Func}{en:Xv Xp->Sem Xp}{xs:Xv XZ}{at_:Xv XO}{vs:Xn Xp}{u:Xp}
 (i:prog.funcs[f]?=some fn) (H:(fn.name == "runtime.NumGoroutine")=false) (j:fn.body.isNone=true) (l:Extern.findNext fn=none) (m:Extern.find fn=some en) (o:evs e xs.toList=some vs)
 (b:∀w,(en vs.toArray).run prog w=.ok u w) (c:∀w E,(en vs.toArray).events prog w E=E) (k:WL ops Q n D rest ((d,u)::e) w) (p:Nat.blt d n=true:=by rfl) :
 WL ops Q n D (⟨some d,.call { callee:=.value (.func f),args:=xs,argTypes:=at_ },ty,pos,A,none⟩::rest) e w:=jk (λw1 r=>by
 have s:∀a,Fr n D e a->execOp a.eval ⟨some d,.call { callee:=.value (.func f),args:=xs,argTypes:=at_ },ty,pos,A,none⟩=callFunc f vs.toArray:=λa g=>by
  rw[execOp_call_func rfl];rw[<- g.evs o];cases xs;simp
 have t:(callFunc f vs.toArray).run prog w1=.ok (.value u) w1:=by
  rw[Y3 i H j l m,b];rfl
 have v:(callFunc f vs.toArray).events prog w1 #[]=#[⟨.mark (.extern f),false,true⟩]:=by
  rw[events_callFunc_extern i H j l m,c];rfl
 exact⟨u,w1,λa g=>by rw[s a g];exact .of t (λev h=>by rw[v]at h;simp at h;subst h;exact .inr ⟨_,rfl⟩) (.refl _),k.rely r⟩) p
def LB:(Rq.mk (.read a)).jj op q (callFunc 116 #[.pointer (some a)]):=λr=>
 bW func116 (by kernel_rfl) (by kernel_rfl) (by kernel_rfl) (e:=Extern.Race.marked .read) (by kernel_rfl) (by simp[Extern.Race.marked,Extern.Race.at_,Extern.Race.none_]) (by simp[Extern.Race.marked,Extern.Race.at_]) (rG (by simp))
def H8:(Rq.mk (.write a)).jj op q (callFunc 124 #[.pointer (some a)]):=λr=>
 bW func124 (by kernel_rfl) (by kernel_rfl) (by kernel_rfl) (e:=Extern.Race.marked .write) (by kernel_rfl) (by simp[Extern.Race.marked,Extern.Race.at_,Extern.Race.none_]) (by simp[Extern.Race.marked,Extern.Race.at_]) (rG (by simp))
end
class zS(F:Xn Nat->cn)[B:Base]:Prop where
 ask:∀{op:Nat} {q:XN} {s:Sem Next} {v:Xo} {K:Xp->Xo->Prop} {rq:Rq},rq.jj op q s->gJ (F v.os.sigPending) B.old rq v K->B.ask op q s v K
 set:∀{op:Nat} {q:XN} {s:Sem Next} {v:Xo} {K:Xp->Xo->Prop},∀{rq:Rq},rq.jj op q s->M7 F B.old rq v K->B.ask op q s v K
section
variable[Bs0:Base][NQ]{F:Xn Nat->cn}[hM:zS F]{p:cn}{w:Xo}{c n:Nat}
theorem gV{op:Nat}{q:XN}{s:Sem Next}{r:Rq}{st:Ps}{W:Xo}{K:Xp->Xo->Prop}(H:At F p st w)(h1:Ry w W)(a:r.jj op q s)(k:At F p st W->gJ p Bs0.old r W K):Bs0.ask op q s W K:=by
 have h:=H.ry h1;apply hM.ask a;rw[h.par];exact k h
end
section
variable[Bs0:Base][NQ]{ops:Xv Yf}{Q:YL->Act->Xo->Prop}{n:Nat}{ds:Md}{e:Env}{w:Xo}{rest:Xn Yf}{ty:XO}{pos:YG}{af:Xv Edge}
attribute [local semireducible] WL WC WQ
theorem LC{at_:Xv XO}{f:Nat}(k:WL ops Q n ⟨none,{ target:=.fn (.func f) #[],args:=#[] }::ds.ds⟩ rest e w)(H:ds.round=none:=by rfl) :
 WL ops Q n ds (⟨none,.defer { callee:=.value (.func f),args:=#[],argTypes:=at_ },ty,pos,af,none⟩::rest) e w:=λa h=>by
 refine pA rfl λW b=>⟨.defer { target:=.fn (.func f) #[],args:=#[] },W,?_,?_⟩
 .refine Still.oL λE=>?_;have q:a.eval (.func f)=.func _ #[] #[]:=rfl;rw[H,Oper.semAt_none];simp[execOp,resolve,q,Deferred.ofValue]
 .have:=(k.rely b) { a with defers:={ target:=.fn (.func f) #[],args:=#[] }::a.defers } ⟨h.size,by simp[h.defers],h.get⟩;rw[H];exact this
variable {f:Nat}
theorem JE {x:YL} (d:x=.ret\/x=.normal) {rs:Xn ResultVar} {R:Ending->Xo->Prop} {vs:Xn Xp} {args:Xv Xp} (H:∀b,Ry w b->Bs0.ask 0 false (callFunc f args) b λ_ W=>R (.returned (tN vs)) W) (h:yC e rs=some vs:=by rfl):WQ (Li rs R) x n ⟨none,[{ target:=.fn (.func f) #[],args:=args }]⟩ e w:=λa c=>by
 have k:∃F:Func,F.results=rs.toArray/\DC F a.tmps R a.defers w:=by
  refine⟨{ (default:Func)with results:=rs.toArray },rfl,?_⟩;rw[c.defers];refine .inr ⟨by grind,.inr ⟨λ_ W=>R _ W,λv i=>?_,λu V g=>⟨tN vs,λv _=>qE c rfl h v,g⟩⟩⟩;show Bs0.ask 0 false (callFunc f _) v _
  grind
 rcases d with rfl|rfl<;>exact .of k
end
section
variable[Bs0:Base][NQ]{F:Xn Nat->cn}[hM:zS F]{p:cn}{w:Xo}{c n:Nat}
theorem Ds{v w1:Xo}(h:p.Mem v)(d:Fl v w1):p.Mem w1:=by
 have k:∀b:YO,(∃z,v.cell? b=some z)->∃z,w1.cell? b=some z:=λb ⟨z,H⟩=>by
  refine⟨z,?_⟩;unfold World.cell? at H |-;cases a:v.heap[b.block]? with
  | none=>rw[a]at H;cases H
  | some o=>rw[d.heap _ (Xz.1 a).1,a];rw[a]at H;exact H
 exact⟨k _ h.1,k _ h.2.1,k _ h.2.2⟩
variable {G:Xp->Xo->Prop}
def RD {d:Int} (h:∀W,Ry w W->∀K:Xp->Xo->Prop,(∀v a,G v a->K v a)->Bs0.ask (Sb 187) Bs0.quiet (callFunc 187 #[.pointer (some ⟨p.wg,0,none⟩),.int .u64 d]) W K):
 Calls prog 115 #[.pointer (some ⟨p.wg,0,none⟩),.int .u64 d] w λx w'=>∃v,x=.returned v/\G v w':=by
 apply enter func115 rfl ntmps115 results115 rfl;refine gx ?_;refine bE rfl (λW H=>h W H _ λv a b=>?_) rfl;refine gx ?_;exact an rfl ⟨_,rfl,b⟩
def Ga (h:∀W,Ry w W->∀K:Xp->Xo->Prop,(∀v a,G v a->K v a)->Bs0.ask (Sb 188) Bs0.quiet (callFunc 188 #[.pointer (some ⟨p.wg,0,none⟩)]) W K):
 Calls prog 117 #[.pointer (some ⟨p.wg,0,none⟩)] w λx w'=>∃v,x=.returned v/\G v w':=by
 apply enter func117 rfl ntmps117 results117 rfl;refine gx ?_;refine bE rfl (λW H=>h W H _ λv a b=>?_) rfl;refine gx ?_;exact an rfl ⟨_,rfl,b⟩
def RE {x y:Int} (h:∀W,Ry w W->∀K:Xp->Xo->Prop,(∀v a,G v a->K v a)->Bs0.ask (Sb 190) Bs0.quiet (callFunc 190 #[.pointer (some ⟨p.wg,0,none⟩),.int .u64 x,.int .u64 y]) W K):
 Calls prog 123 #[.pointer (some ⟨p.wg,0,none⟩),.int .u64 x,.int .u64 y] w λx w'=>∃v,x=.returned v/\G v w':=by
 apply enter func123 rfl ntmps123 results123 rfl;refine gx ?_;refine bE rfl (λW H=>h W H _ λv a b=>?_) rfl;refine gx ?_;exact an rfl ⟨_,rfl,b⟩
def VF{G:Xo->Prop}(j:∀a b,G a->Fl a b->G b)(l:∀a,G a->p.Mem a)(S:p.n<=10000)
 (f:∀W,Ry w W->∀K:Xp->Xo->Prop,(∀k g,At F p ⟨p.n,c,g,.ad1⟩ k->G k->K eI k)->Bs0.ask (Sb 109) Bs0.quiet (callFunc 109 #[]) W K) :
 Calls prog 59 #[.pointer (some ⟨p.wg,0,none⟩),.int .i64 1] w λx w'=>∃u g,x=.returned u/\At F p ⟨p.n,c,g,.ad4⟩ w'/\G w':=by
 refine zj func59 rfl ntmps59 results59 rfl ?_;refine gx ?_;refine bE rfl (λW A=>f W A _ λk T H d=>?_) rfl;refine gx ?_;refine LC ?_;refine gx ?_;refine LA func111 (by kernel_rfl) (by kernel_rfl) (by kernel_rfl) (en:=λ_=>pure (.bool false)) (u:=.bool false) (by kernel_rfl) rfl (λw=>by simp) (λw U=>by simp) ?_;refine gx ?_;refine NC (N:=1) (m:=32) (M:=4294967296) rfl rfl rfl (by decide) (by decide) rfl ?_;refine gx ?_;refine ak (met (RD (p:=p) (G:=λv w'=>∃m g,1<=m/\m<=p.n/\v=.int .u64 ((m*4294967296:Nat):Int)/\At F p ⟨p.n,c,g,.ad2⟩ w'/\G w') λV s K B=>gV H s H6 λH=>.add H.st λX m C D h=>B _ _ ⟨m,_,C,D,rfl,H.nb h,j _ _ d (((Fl.refl _).ry s).nb h)⟩) ?_);clear d H;rintro _ Y ⟨v,rfl,m,Z,E,I,rfl,H,d⟩;refine⟨_,rfl,?_⟩;have i:m*4294967296%4294967296=0:=by omega
 refine gx ?_;refine mj (N:=m*4294967296) (M:=2147483648) (R:=0) rfl rfl rfl (by show _<18446744073709551616;omega) (by decide) (by show some (m*4294967296 &&& 2147483648)=some 0;rw[ConcN.and_bit31 _ 0 i (by omega)]) rfl ?_;refine gx ?_;refine l7 (N:=m*4294967296) (m:=32) rfl rfl rfl (by decide) rfl ?_;rw[show m*4294967296 / 2^32=m by omega];refine gx ?_;rw[wrap32 (show m<2147483648 by omega)];refine mj (N:=m*4294967296) (M:=2147483647) (R:=0) rfl rfl rfl (by show _<18446744073709551616;omega) (by decide) (by show some (m*4294967296 &&& (2^31-1))=some 0;rw[aax];congr 1;omega) rfl ?_;by_cases o:m=1
 .subst o;refine gx ?_;obtain⟨z,t⟩:=(l _ d).2.2;refine nK t underlying224 underlying202 (by kernel_rfl) rfl ?_ rfl;refine bE rfl (λJ e=>gV H e LB λH=>.rd H.st λL h=>?_) rfl;have q:=j _ _ d (((Fl.refl _).ry e).nb h);have r:=H.nb h;clear d H t h e;refine gx ?_;exact JE (.inl rfl) (λw8 y=>gV r y fg λH=>.en H.st (.inr rfl) λw9 h=>⟨_,_,rfl,H.nb h,j _ _ q (((Fl.refl _).ry y).nb h)⟩) rfl
 .have O:¬((m:Int)=1):=by omega
  have P:¬((m:Int)<0):=by omega
  have Q:(m:Int) > 0:=by omega
  refine gx ?_;exact JE (.inl rfl) (λJ e=>gV H e fg λH=>.en H.st (.inl rfl) λL h=>⟨_,_,rfl,H.nb h,j _ _ d (((Fl.refl _).ry e).nb h)⟩) rfl
def TY{G:Xo->Prop}{R:Ending->Xo->Prop}(g:∀a b,G a->Fl a b->G b)(r:∀a,G a->p.Mem a)(hp:p.n<=10000)(H:At F p ⟨p.n,c,n,.wt0⟩ w)(d:G w)
 (y:∀T W e s A y,G T->p.Whole s->p.LI s A->p.R y->Hp.fits A y->rY Bs0.old (Hp.un A y) T W->W.os=ji T.os ⟨p.n,c,e,.out⟩->At F p ⟨p.n,c,e,.out⟩ W->R (.returned (.tuple #[])) W) :
 Calls prog 62 #[.pointer (some ⟨p.wg,0,none⟩)] w R:=by
 refine enter func62 rfl ntmps62 results62 rfl ?_;refine gx ?_;refine bE rfl (λT V=>gV H V kN λH=>.M6 H.st λw2 h=>?_) rfl;have B:=g _ _ d (((Fl.refl _).ry V).nb h);have C:=H.nb h;clear d H h V;refine gx ?_;refine aL (α:=Nat) (λ_=>[(0,.pointer (some ⟨p.wg,0,none⟩))]) (λk w=>At F p ⟨p.n,c,k,.wt1⟩ w/\G w) (λk=>k) n ⟨rfl,Xr⟩ ⟨C,B⟩ ?_;clear C B;rintro k w3 ⟨H,d⟩;refine gx ?_;refine ak (met (Ga (p:=p) (G:=λv W=>∃m e,e<=k/\m<=p.n/\v=.int .u64 ((m*4294967296:Nat):Int)/\At F p ⟨p.n,c,e,.wt2 m⟩ W/\G W) λw4 D K o=>gV H D zR λH=>.IS H.st λj e m l q h=>o _ _ ⟨m,e,l,q,rfl,H.nb h,g _ _ d (((Fl.refl _).ry D).nb h)⟩) ?_);clear d H;rintro _ w4 ⟨v,rfl,m,X,ab,hm,rfl,H,d⟩;refine⟨_,rfl,?_⟩;have join:∀(j:Xo) (Y:Nat),At F p ⟨p.n,c,Y,.wt7⟩ j->G j->∀i,Ry j i->∀K:Xp->Xo->Prop,(∀W,R (.returned (.tuple #[])) W->K eI W)->Bs0.ask (Sb 121) Bs0.quiet (callFunc 121 #[.pointer (some ⟨p.wg,0,none⟩)]) i K:=λj Y H d i q K o=>
  gV H q iw λf=>.join f.st λu s A Z a1 a2 a3 a4 a5 a6=>o u (y i u Y s A Z (g _ _ d ((Fl.refl _).ry q)) a1 a2 a3 a4 a5 a6 (f.put a6 (a5.cell f.mem)))
 refine gx ?_;refine l7 (N:=m*4294967296) (m:=32) rfl rfl rfl (by decide) rfl ?_;rw[show m*4294967296 / 2^32=m by omega];refine gx ?_;rw[wrap32 (show m<2147483648 by omega)];refine mj (N:=m*4294967296) (M:=2147483647) (R:=0) rfl rfl rfl (by show _<18446744073709551616;omega) (by decide) (by show some (m*4294967296 &&& (2^31-1))=some 0;rw[aax];congr 1;omega) rfl ?_;by_cases E:m=0
 .subst E;refine gx ?_;refine bE rfl (λj l=>gV H l fg λH=>.Uo H.st (.inl rfl) λi h=>?_) rfl;have I:=g _ _ d (((Fl.refl _).ry l).nb h);have f:=H.nb h;clear d H h l;refine gx ?_;obtain⟨z,x⟩:=(r _ I).2.1;refine nK x underlying218 underlying202 (by kernel_rfl) rfl ?_ rfl;refine bE rfl (λu J=>join i _ f I u J _ λw8 hr=>?_) rfl;refine gx ?_;refine mj (N:=0*4294967296) (M:=2147483648) (R:=0) rfl rfl rfl (by decide) (by decide) (by decide) rfl ?_;refine gx ?_;exact an (rs:=[]) (vs:=[]) rfl hr
 .have ac:¬((m:Int)=0):=by omega
  have e1:((m*4294967296:Nat):Int)+1=((m*4294967296+1:Nat):Int):=by omega
  refine gx ?_;rw[e1];refine ak (met (RE (p:=p) (G:=λv W=>(v=.bool true/\At F p ⟨p.n,c,X,.wt3⟩ W/\G W)\/∃e,e<X/\v=.bool false/\At F p ⟨p.n,c,e,.wt1⟩ W/\G W) λj l K o=>gV H l H7 λH=>.tL H.st E (λi h=>o _ _ (.inl ⟨rfl,H.nb h,g _ _ d (((Fl.refl _).ry l).nb h)⟩)) λi e L h=>o _ _ (.inr ⟨e,L,rfl,H.nb h,g _ _ d (((Fl.refl _).ry l).nb h)⟩)) ?_);clear d H;rintro _ j ⟨v,rfl,⟨rfl,H,d⟩|⟨e,L,rfl,H,d⟩⟩
  .refine⟨_,rfl,?_⟩;refine gx ?_;obtain⟨z,x⟩:=(r _ d).2.2;refine nK x underlying224 underlying202 (by kernel_rfl) rfl ?_ rfl;refine bE rfl (λi q=>gV H q H8 λH=>.wr H.st λu h=>?_) rfl;have O:=g _ _ d (((Fl.refl _).ry q).nb h);have t:=H.nb h;clear d H h q x;refine gx ?_;refine mj (N:=m*4294967296) (M:=2147483648) (R:=0) rfl rfl rfl (by show _<18446744073709551616;omega) (by decide) (by show some (m*4294967296 &&& 2147483648)=some 0;rw[ConcN.and_bit31 _ 0 (by omega) (by omega)]) rfl ?_;refine gx ?_;refine bE rfl (λw8 U=>gV t U Lz λH=>.acq H.st λw9 h=>?_) rfl;have P:=g _ _ O (((Fl.refl _).ry U).nb h);have Q:=(t.ry U).nb h;clear O t h U;refine gx ?_;refine ak (met (Ga (p:=p) (G:=λv W=>v=.int .u64 0/\At F p ⟨p.n,c,X,.wt6⟩ W/\G W) λw4 D K o=>gV Q D zR λH=>.UR H.st λj h=>o _ _ ⟨rfl,H.nb h,g _ _ P (((Fl.refl _).ry D).nb h)⟩) ?_);clear P Q;rintro _ i ⟨v,rfl,rfl,H,d⟩;refine⟨_,rfl,?_⟩;refine gx ?_;refine bE rfl (λu J=>gV H J fg λH=>.Uo H.st (.inr rfl) λw8 h=>?_) rfl;have S:=g _ _ d (((Fl.refl _).ry J).nb h);have aa:=H.nb h;clear d H h J;refine gx ?_;obtain⟨z,x⟩:=(r _ S).2.1;refine nK x underlying218 underlying202 (by kernel_rfl) rfl ?_ rfl;refine bE rfl (λw9 h9=>join w8 _ aa S w9 h9 _ λaf hr=>?_) rfl;refine gx ?_;exact an (rs:=[]) (vs:=[]) rfl hr
  .refine⟨_,rfl,?_⟩;refine gx ?_;exact az e ⟨rfl,Xr⟩ ⟨H,d⟩ (by omega)
end
end
section
open Go Go.Conc Go.ConcN Go.RowKit Go.Conc.Lib Go.ConcN.Gen Go.ConcR.Gen
open Go.ConcR (KK wgBlock WgAt stA smA rd wr mk Payload Aside2 DC0)
attribute [local instance] pay
abbrev JF:Go.Conc.Lib.WgLink:={ add:=59,done:=61,wait:=62,relMerge:=108,disable:=109,enable:=110,inBubble:=111,associate:=112,fatal:=113,uOr:=114,uAdd:=115,raceRead:=116,uLoad:=117,uStore:=118,disassociate:=119,semrelease:=120,acquire:=121,isAssociated:=122,uCas:=123,raceWrite:=124,semacquire:=125,orU64:=186,addU64:=187,loadU64:=188,storeU64:=189,casU64:=190,tWgP:=218,tUP:=202,tAssoc:=220,tWg:=156,tAU:=154,tU64:=131,tUint:=23,tU32:=124,tPU32:=224,tPAU:=315,tPU64:=317,tNoCopy:=123,tANoCopy:=151,tAlign64:=152 }
def Sv:Go.Conc.Lib.WgLib prog JF:=
 ⟨func59,func61,func62,func108,func109,func110,func111,func112,func113,func114,func115,func116,func117,func118,func119,func120,func121,func122,func123,func124,func125,func186,func187,func188,func189,func190,by simp,by simp,sizeOf218,isAgg218,zeroValue218,underlying202,runUnderlying202,sizeOf202,isAgg202,zeroValue202,underlying220,runUnderlying220,sizeOf220,isAgg220,zeroValue220,underlying156,runUnderlying156,sizeOf156,isAgg156,zeroValue156,underlying154,runUnderlying154,sizeOf154,isAgg154,zeroValue154,underlying131,runUnderlying131,sizeOf131,isAgg131,zeroValue131,underlying23,runUnderlying23,sizeOf23,isAgg23,zeroValue23,underlying124,runUnderlying124,sizeOf124,isAgg124,zeroValue124,underlying224,runUnderlying224,sizeOf224,isAgg224,zeroValue224,underlying315,runUnderlying315,sizeOf315,isAgg315,zeroValue315,underlying317,runUnderlying317,sizeOf317,isAgg317,zeroValue317,underlying0,runUnderlying0,sizeOf0,isAgg0,zeroValue0,underlying3,runUnderlying3,sizeOf3,isAgg3,zeroValue3,underlying4,runUnderlying4,sizeOf4,isAgg4,zeroValue4,underlying9,runUnderlying9,sizeOf9,isAgg9,zeroValue9,underlying20,runUnderlying20,sizeOf20,isAgg20,zeroValue20,underlying21,runUnderlying21,sizeOf21,isAgg21,zeroValue21,(by kernel_rfl),(by kernel_rfl)⟩
noncomputable def Dt:Y5:={ (default:Y5)with fn:=prog.funcs.size,mode:=.panicking [goexitEntry] }
def Pt:Y5:={ (default:Y5)with fn:=60,kind:=.deferred }
def RF(T:Xv Xp)(todo:Xn Item):QuitsD prog 2 0 (G { Pt.at ⟨T,[]⟩ todo with mode:=.returning } [Dt]):=by
 refine QuitsD.ctl (g':=G Dt []) rfl (λw=>by simp[G,stepG,unwind,doReturn,results,Frame.at,Pt,Dt,seen,GStep.after,goexitEntry]) (QuitsD.ctl (g':={ G Dt []with status:=.finished }) rfl (λw=>?_) ⟨rfl,rfl⟩);simp[G,stepG,unwind,Dt,goexitEntry,Frame.catches];rfl
def VG(P:YW)(g:XF)(w:Xo):Prop:=g.status=.running/\∃G,stepG P false g w=.go G w #[mk .disable]
def TZ(P:YW)(W C:Nat)(g:XF)(w:Xo):Prop:=g.status=.running/\∃G,stepG P false g w=.go G w #[mk (.releaseMerge (stA W))]/\Goes P false (RW 156 W C 1 0 0) DC0 (VG P) 8 G w
variable {m:Mark}
def Pu {m':Mark} (h:(#[mk m]:Xv Ys)=#[mk m']):m=m':=by
 have H:mk m∈(#[mk m']:Xv Ys):=by grind
 simp[mk]at H
 grind
def WG (h:(#[]:Xv Ys)=#[mk m]):False:=by
 grind
abbrev Pv(Wg C:Nat)(z:Xp):Nat->XF->Xo->Prop:=Goes prog false (RW 156 Wg C 1 0 0) (DWs Wg Up Up C 1 1) (AtR0 prog 156 Wg C 1 0 1 z)
variable {Wg C:Nat} {w:Xo}
def zT:RW 156 Wg C 1 0 0 w w:=⟨λb h=>by omega,id,id,rfl⟩
def VH:∀a b c,RW 156 Wg C 1 0 0 a b->RW 156 Wg C 1 0 0 b c->RW 156 Wg C 1 0 0 a c:=λa b c h k=>⟨λb H=>by omega,λx=>k.live (h.live x),λx=>k.pay (h.pay x),k.cell.trans h.cell⟩
variable {z:Xp}
def T2:∀(n m:Nat) (g:XF) (w:Xo),Goes prog false (RW 156 Wg C 1 0 0) DC0 (VG prog) n g w->Pv Wg C z m g w->False:=by
 have kit:∀{m:Nat} {g G:XF} {w:Xo} {E:Xv Ys},Pv Wg C z m g w->stepG prog false g w=.go G w E->(E=#[mk (.releaseMerge (stA Wg))]\/((∀e∈E,EvW Wg Up Up 1 e)/\∃M,Pv Wg C z M G w)):=λ{m g G w E} h a=>by
  rcases Goes.cases h with K|⟨M,e,K⟩
  .have⟨_,_,c,H,_⟩:=K w zT
   grind
  .subst e;have⟨c,W,b,H,⟨_,i⟩,d⟩:=K w zT
   grind
 intro n
 induction n with
 | zero=>
  intro m g w h k;have⟨_,G,a⟩:=h w zT;rcases kit k a with H|⟨H,_⟩
  .cases Pu H
  .exact(H (mk .disable) (by simp)).2.1 rfl
 | succ n I=>
  intro m g w h k;rcases Goes.cases h with j|⟨N,e,j⟩
  .have⟨_,G,a⟩:=j w zT;rcases kit k a with H|⟨H,_⟩
   .cases Pu H
   .exact(H (mk .disable) (by simp)).2.1 rfl
  .obtain rfl:N=n:=by omega
   obtain⟨c,W,b,H,⟨rfl,rfl⟩,d⟩:=j w zT;rcases kit k H with f|⟨_,M,f⟩
   .grind
   simp_all
def LD:∀(n m:Nat) (g:XF) (w:Xo),Goes prog false (RW 156 Wg C 1 0 0) DC0 (TZ prog Wg C) n g w->Pv Wg C z m g w->Goes prog false (RW 156 Wg C 1 0 0) DC0 (AtR0 prog 156 Wg C 1 0 1 z) n g w:=by
 have atS:∀(m:Nat) (g:XF) (w:Xo),(∀w1,RW 156 Wg C 1 0 0 w w1->TZ prog Wg C g w1)->Pv Wg C z m g w->∀w1,RW 156 Wg C 1 0 0 w w1->AtR0 prog 156 Wg C 1 0 1 z g w1:=λm g w h k w1 H=>by
  have⟨_,r,d,f⟩:=h w1 H;rcases Goes.cases (Goes.rely VH k H)with b|⟨M,e,b⟩
  .exact b w1 zT
  .exfalso;have⟨G,W,E,a,_,c⟩:=b w1 zT;rw[d]at a;cases a;exact T2 _ _ _ _ f c
 intro n
 induction n with
 | zero=>exact λm g w h k=>atS m g w h k
 | succ n I=>
  intro m g w h k;rcases Goes.cases h with j|⟨N,e,j⟩
  .exact .inl (atS m g w j k)
  .obtain rfl:N=n:=by omega
   refine Goes.step ?_ λw1 H=>?_
   .rcases Goes.cases k with k|⟨M,e,s⟩
    .exact(k w zT).1
    .subst e;rcases k with k|⟨k,_⟩
     .exact(k w zT).1
     omega
   .have⟨G,W,E,a,⟨i,l⟩,c⟩:=j w1 H;subst i l;rw[a];refine⟨by grind,?_⟩;rcases Goes.cases (Goes.rely VH k H)with K|⟨M,e,K⟩
    .have⟨_,_,o,p,_⟩:=K _ zT
     grind
    .have⟨o,t,q,p,_,u⟩:=K _ zT
     grind
def eN {v:Xp} {w₁:Xo} (h:WgLive 156 Wg w/\Has C 0 v w) (r:RW 156 Wg C 1 0 0 w w₁):WgLive 156 Wg w₁/\Has C 0 v w₁:=⟨r.live h.1,r.cell.trans h.2⟩
def Pw {P:YW} (H:WgLib P JF) {c:Y5} {cs:Xn Y5} (w:Xo) (h:WgLive 156 Wg w/\Has C 0 z w):
 Goes P false (RW 156 Wg C 1 0 0) DC0 (TZ P Wg C) 23 (G ((baseD 61).at ⟨#[.pointer (some ⟨Wg,0,none⟩),undef,undef,undef],[]⟩ [.code (body_done JF)]) (c::cs)) w:=by
 lib_facts
 simp only[body_done,body_add,doneFn,addFn,Z8]
 u_reg eN h
 u_op eN h
 u_in eN h
 refine goes_call rfl rfl (by k_ne) rfl H.f_add (nm_add JF) rfl ⟨by u_nil,?_⟩
 walk_nrmf addFn
 u_c stepG_seq eN h
 u_cond true eN h
 u_c stepG_seq eN h
 u_c stepG_seq eN h
 u_reg eN h
 u_op eN h
 u_op eN h
 u_c stepG_region_end eN h
 u_cond true eN h
 u_reg eN h
 u_op eN h
 u_conv H.underlying_tWgP H.room_tWg (WgLive.cell0 h.1).choose_spec eN h
 refine Goes.stop λw₁ h₁=>?_;replace h:=eN h h₁;clear h₁;refine⟨rfl,_,stepG_markAt .releaseMerge (by simp) rfl rfl (by k_ne) rfl H.f_relMerge (x_relMerge_n JF) (x_relMerge_b JF) (x_relMerge_x JF) (x_relMerge_f JF) (by simp[Act.eval,stA]),?_⟩
 walk_nrm
 u_c stepG_region_end eN h
 u_c stepG_seq eN h
 u_reg eN h
 refine Goes.stop λw₁ h₁=>?_;exact⟨rfl,_,stepG_mark0 .disable (by simp) rfl rfl (by k_ne) rfl H.f_disable (x_disable_n JF) (x_disable_b JF) (x_disable_x JF) (x_disable_f JF)⟩
def VI {T:Xv Xp} {todo:Xn Item} (w:Xo) (h:WgLive 156 Wg w/\Has C 0 z w):
 Goes prog false (RW 156 Wg C 1 0 0) DC0 (AtR0 prog 156 Wg C 1 0 1 z) 24 (G { Pt.at ⟨T,[{ target:=.fn (.func 61) #[],args:=#[.pointer (some ⟨Wg,0,none⟩)] }]⟩ todo with mode:=.returning } [Dt]) w:=by
 refine Goes.step rfl λw₁ h₁=>?_;replace h:=eN h h₁;clear h₁;rw[stepG_unwind_enter rfl func61 (nm_done JF) rfl];simp;refine⟨⟨rfl,rfl⟩,?_⟩;have H:=Pw Sv (c:={ Pt.at ⟨T,[]⟩ todo with mode:=.returning }) (cs:=[Dt]) w₁ h;have a:=@doneN _ JF prog Sv Up Up Wg C 1 0 1 z { Pt.at ⟨T,[]⟩ todo with mode:=.returning } [Dt] 2 rfl (RF T todo) w₁ h;exact LD 23 23 _ _ H a
end
section
open Go Go.Conc
def Px(T:XO)(v:Xp):Sem Next:=do
 let .chan _ e <- underlying T|stuck "receive: channel type expected"
 pure (.comm #[{ chan:=v,send:=none,zero:=<- zeroValue e }] true (.recv false))
def Py:∃d,prog.underlying 150=some (.chan d 122):=by
 simp_all
def JG:∃i z,prog.info? 122=some i/\i.zero=some z:=by
 have h:((prog.info? 122).bind (·.zero)).isSome=true:=by kernel_rfl
 have⟨z,H⟩:=YU.1 h;have⟨i,a,b⟩:=Zr.1 H
 grind
variable {q:XN} {c:Nat}
def LF:(Rq.recv c).jj 1 q (Px 150 (.chan (some c))):=by
 refine⟨by simp,?_⟩;have⟨d,b⟩:=Py;have⟨i,z,h,H⟩:=JG;refine⟨z,λr=>?_⟩;have a:(zeroValue 122).run prog r=.ok z r:=by simp[zeroValue,typeInfo,h,H]
 .simp[Px,a]
def WH(v:Xp):Sem Next:=do let d <- Deferred.ofValue v #[];pure (.spawn d)
def LG{q:XN}{f:Nat}{cap:Xv Xp}:(Rq.fork { target:=.fn (.func f) cap,args:=#[] }).jj 1 q (WH (.func (.func f) #[] cap)):=⟨by simp,(λh=>by grind),λr=>by
 rw[Yo];simp[WH,Deferred.ofValue]⟩
def H9 {ty:XO} {a:Xv XO}:(Rq.close c).jj 2 q (do let d <- (pure (.value (<- Builtin.close_ a ty #[.chan (some c)])):Sem Next);pure d):=by
 refine⟨rfl,λr s R t h=>⟨#[⟨.obj c,false,true⟩,⟨.obj c,true,true⟩],.inl ?_,λf _=>by simp[seen]⟩⟩;rw[Yo];simp only[Yn,Yz,run_close_open a ty h,events_close_open a ty h];rfl
section
variable[Bs0:Base]{ops:Xv Yf}{Q:YL->Act->Xo->Prop}{n:Nat}{ds:Md}{e:Env}{w:Xo}{rest:Xn Yf}
variable{ty:XO}{pos:YG}{af:Xv Edge}{d:Nat}
attribute [local semireducible] WL WC WQ
variable {T:XO}
def Gb {op:Nat} {q:XN} {a:YO} (h:lk kV T=some false):(Rq.ldp a).jj op q (p9 T a):=λr u H=>by
 have b:(p9 T a).run prog r=.ok (.value u) r:=by
  simp[p9,Instr.loadAt,Instr.sureAddr,loadVar,vD h,H]
 have f:(p9 T a).events prog r #[]=#[⟨.cell a,false,false⟩]:=by
  simp[p9,Instr.loadAt,Instr.sureAddr,loadVar,vD h,H]
 simp_all
variable {x:XZ} {v:Xp}
def RG (f:ev e x=some v) (h:∀W,Ry w W->Bs0.ask 1 Bs0.quiet (Px T v) W λu b=>WL ops Q n ds rest ((d,u)::e) b) (g:Nat.blt d n=true:=by rfl):
 WL ops Q n ds (⟨some d,.recv T x false,ty,pos,af,none⟩::rest) e w:=
 He (λa H=>rfl) (λa H=>by
  rw[aad _ _ _ λc h=>by grind];simp[execOp,H.ev f];rfl) h g λv b i=>i
def VJ {at_:Xv XO} (f:ev e x=some v) (h:∀W,Ry w W->Bs0.ask 1 Bs0.quiet (WH v) W λ_ b=>WL ops Q n ds rest e b):
 WL ops Q n ds (⟨none,.go { callee:=.value x,args:=#[],argTypes:=at_ },ty,pos,af,none⟩::rest) e w:=
 IV (λa H=>rfl) (λa H=>by
  rw[aad _ _ _ λc h=>by grind];simp[execOp,resolve,H.ev f];rfl) h λv b g=>g
variable {at_:Xv XO}
def Pz {c:Nat} (f:ev e x=some (.chan (some c))) (h:∀W,Ry w W->Bs0.ask 2 Bs0.quiet (do let d <- (pure (.value (<- Builtin.close_ at_ ty #[.chan (some c)])):Sem Next);pure d) W λ_ b=>WL ops Q n ds rest e b):
 WL ops Q n ds (⟨none,.call { callee:=.builtin .close,args:=#[x],argTypes:=at_ },ty,pos,af,none⟩::rest) e w:=
 IV (λa H=>rfl) (λa H=>by
  rw[aad _ _ _ λc h=>by grind];simp[execOp,resolve,H.ev f];rfl) h λv b g=>g
def Gc{f:FuncId}{fn:Func}{body:Code}{args:Xv Xp}{v:Xo}{main kd:XN}{cs:Xn Y5}{Stop:XF->Xo->Prop}{Q':YL->Act->Xo->Prop}(i:prog.funcs[f]?=some fn)(j:fn.body=some body)(l:Bs0.quiet=true->(prog.funcs[f]?).any (·.norace)=true)
 (h:uI none body Q' { tmps:=args++Array.replicate (fn.ntmps-args.size) undef,defers:=[] } v)
 (m:∀e a V,Q' e a V->(e=.normal\/e=.ret)/\∀t,jM main Stop (G { ({ (default:Y5)with fn:=f,kind:=Cy kd }:Y5).atR a t with mode:=.returning } cs) V):jM main Stop (G (Frame.enter prog f args (Cy kd)) cs) v:=by
 let b:Y5:={ (default:Y5)with fn:=f,kind:=Cy kd }
 have H:Frame.enter prog f args (Cy kd)=b.atR { tmps:=args++Array.replicate (fn.ntmps-args.size) undef,defers:=[] } [.code body]:=by
  simp[Frame.enter,i,j];rfl
 rw[H];refine h main b [] cs Stop rfl ⟨by cases kd<;>simp[b,Cy],l⟩ λe a V q=>?_;have⟨o,g⟩:=m e a V q;rcases o with rfl|rfl
 .exact .idle rfl (λr=>IL rfl) (g _)
 .exact λk _=>.idle rfl (λr=>IK rfl) (g _)
def LH(W:Nat)(R:Xo->Prop):YL->Act->Xo->Prop:=λe a v=>(e=.normal\/e=.ret)/\a.defers=[{ target:=.fn (.func 61) #[],args:=#[.pointer (some ⟨W,0,none⟩)] }]/\R v
instance{wg:Nat}{R:Xo->Prop}:pr (LH wg R):=⟨λ_ _ h=>by rcases h.1 with h|h<;>cases h⟩
instance{wg:Nat}{R:Xo->Prop}:rZ (LH wg R):=⟨λ_ _ _ _ _ h=>by rcases h.1 with h|h<;>cases h⟩
def T3{W:Nat}{R:Xo->Prop}{x:YL}(h:x=.ret\/x=.normal)(H:R w):WQ (LH W R) x n ⟨none,[{ target:=.fn (.func 61) #[],args:=#[.pointer (some ⟨W,0,none⟩)] }]⟩ e w:=λa b=>
 .of ⟨h.symm,b.defers,H⟩
end
section
attribute [local semireducible] WL WC WQ
def PC{F:Xn Nat->cn}{p:cn}{old:Nat->Prop}{v:Xo}{args:Xn Xp}{body:Code}(d:f60.body=some body)(b:Nat.ble args.length 36=true)
 (h:@WC (fN F old) body (LH p.wg λW=>(dN W).th=.out/\(dN W).c=p.len (dN W).i/\∃C z,old C/\W.cell? ⟨C,0,none⟩=some z) 36 P6 (Ar 0 args) v) :
 @jM (fN F old) false (BG p old) (pM { target:=.fn (.func 60) args.toArray,args:=#[] }) v:=by
 letI:Base:=fN F old
 refine .idle (g':=G (Frame.enter prog 60 args.toArray (Cy true)) [Dt]) rfl (λr=>?_) ?_
 .have f:(invoke (.fn (.func 60) args.toArray) #[]).runT prog r #[]=(.ok (.enter 60 args.toArray) r,#[]):=by
   show(callFunc 60 _).runT prog r #[]=_;rw[aaW,Yo,py (rfl),ly (rfl)]
  simp only[pM,stepG,unwind,callDeferred,f];simp;rfl
 .refine Gc func60 d (λh=>by cases h) (Q':=LH p.wg λW=>(dN W).th=.out/\(dN W).c=p.len (dN W).i/\∃C z,old C/\W.cell? ⟨C,0,none⟩=some z) ?_ ?_
  .exact h _ (CG b)
  .rintro e a V ⟨g,j,k,l,C,z,m,n⟩;refine⟨g,λtodo=>.stop λs H=>⟨rfl,by rw[(vt H)];exact⟨k,l⟩,C,z,24,m,xp n H,λw o=>?_⟩⟩;have:=VI (T:=a.tmps) (todo:=todo) w o;have⟨T,D⟩:=a;subst j;exact this
end
end
section
variable[Bs0:Base][NQ]
section
variable{ops:Xv Yf}{Q:YL->Act->Xo->Prop}{S:Xo->Prop}{K:Xn Nat}{n:Nat}{ds:Md}{e:Env}{w w':Xo}{bb:XN}{t:OT}{rest:Xn Yf}
variable{op:Op}{ty:XO}{pos:YG}{af:Xv Edge}{d i j:Nat}{v u:Xp}{W0:Xo}{l l0 r:Xn ae}
variable {x:XZ} {T o:Nat}
def T4 {b:Nat} (h:Sat W0 l w) (H:ev e x=some (.pointer (some ⟨b,o,none⟩))) (c:lk kV T=some false) (f:W0.cell? ⟨b,o,none⟩=some v) (g:Nat.blt d n=true) (k:WL ops Q n ds rest ((d,v)::e) w) (hv:v≠hole:=by exact cE rfl):
 WL ops Q n ds (⟨some d,.load T x,ty,pos,af,none⟩::rest) e w:=
 fY (λW m a p=>um p H c (m.cell (h.rT f)) hv) g k
def T5 {b:Nat} (h:ops[i]?=some ⟨some d,.load T x,ty,pos,af,none⟩) (H:ev e x=some (.pointer (some ⟨b,o,none⟩))) (c:lk kV T=some false) (f:W0.cell? ⟨b,o,none⟩=some v) (g:Nat.blt d n=true) (k:WT ops Q (Sat W0 l0) K n ds true t ((d,v)::e) w) (hv:v≠hole:=by exact cE rfl):WT ops Q (Sat W0 l0) K n ds true (.s i t) e w:=
 OA h (λa w' m p=>um m H c (p.rT f) hv) g k
variable {b:XN}
def VK (h:ops[i]?=some ⟨some d,op,ty,pos,af,none⟩) (hv:yv e op=some (.bool b)) (H:b=true) (a:Nat.blt d n=true) (k:WT ops Q S K n ds bb t ((d,.bool true)::e) w):WT ops Q S K n ds bb (.q i t) e w:=dH h (by rw[hv,H]) a k
def VL (h:ops[i]?=some ⟨some d,op,ty,pos,af,none⟩) (hv:yv e op=some (.bool b)) (H:b=false) (a:Nat.blt d n=true) (k:WT ops Q S K n ds bb t ((d,.bool false)::e) w):WT ops Q S K n ds bb (.q i t) e w:=dH h (by rw[hv,H]) a k
variable {g:XN}
def T6 (h:ops[i]?=some ⟨some d,op,ty,pos,af,some (j,g)⟩) (H:gv ops e j=some g) (hv:yv e op=some (.bool b)) (a:b=true) (c:Nat.blt d n=true) (k:WT ops Q S K n ds bb t ((d,.bool true)::e) w):WT ops Q S K n ds bb (.q i t) e w:=qb h H (by rw[hv,a]) c k
def T7 (h:ops[i]?=some ⟨some d,op,ty,pos,af,some (j,g)⟩) (H:gv ops e j=some g) (hv:yv e op=some (.bool b)) (a:b=false) (c:Nat.blt d n=true) (k:WT ops Q S K n ds bb t ((d,.bool false)::e) w):WT ops Q S K n ds bb (.q i t) e w:=qb h H (by rw[hv,a]) c k
variable {p:Prop}
def T8 [Decidable p] (h:ops[i]?=some ⟨some d,op,ty,pos,af,some (j,g)⟩) (H:gv ops e j=some g) (hv:yv e op=some (.bool (decide p))) (a:p) (c:Nat.blt d n=true) (k:WT ops Q S K n ds bb t ((d,.bool true)::e) w):WT ops Q S K n ds bb (.q i t) e w:=qb h H (by rw[hv];simp[a]) c k
def T9 [Decidable p] (h:ops[i]?=some ⟨some d,op,ty,pos,af,some (j,g)⟩) (H:gv ops e j=some g) (hv:yv e op=some (.bool (decide p))) (a:¬p) (c:Nat.blt d n=true) (k:WT ops Q S K n ds bb t ((d,.bool false)::e) w):WT ops Q S K n ds bb (.q i t) e w:=qb h H (by rw[hv];simp[a]) c k
end
variable {G G':Prop}
theorem gy (k:G') (h:CS G'->G:=by
 (intro k
  repeat (first
   | (refine TM ?_
      first
       | refine lz ?_
       | refine dE (op:=.fieldAddr _ _ _) rfl rfl ?_
       | refine dE (op:=.nilCheck _) rfl rfl ?_
       | (refine TQ ?_
          first
           | refine fF (by assumption) rfl rfl (by repeat constructor) (by first|rfl|assumption) rfl ?_
           | refine T4 (by assumption) rfl rfl (by assumption) rfl ?_
           | refine dX [_,_] (by assumption) rfl rfl rfl (by repeat constructor) (by first|exact⟨rfl,rfl,Xr⟩|assumption) rfl ?_
           | refine dX [_,_,_] (by assumption) rfl rfl rfl (by repeat constructor) (by first|exact⟨rfl,rfl,rfl,Xr⟩|assumption) rfl ?_
           | refine dX [_,_,_,_] (by assumption) rfl rfl rfl (by repeat constructor) (by first|exact⟨rfl,rfl,rfl,rfl,Xr⟩|assumption) rfl ?_
           | refine dX [_,_,_,_,_,_] (by assumption) rfl rfl rfl (by repeat constructor) (by first|exact⟨rfl,rfl,rfl,rfl,rfl,rfl,Xr⟩|assumption) rfl ?_)
       | (refine OR ?_
          first
           | refine E1 rfl (by omega) (by omega) rfl ?_
           | refine qG rfl (by omega) (by omega) rfl ?_
           | refine E6 rfl (by first|assumption|omega) rfl ?_
           | refine E7 rfl (by first|assumption|omega) rfl ?_
           | refine E8 rfl (by assumption) rfl ?_
           | refine E9 rfl (by assumption) rfl ?_
           | refine dE rfl rfl ?_)
       | (refine OS ?_
          first
           | refine E1 rfl (by omega) (by omega) rfl ?_
           | refine qG rfl (by omega) (by omega) rfl ?_
           | refine dE rfl rfl ?_)
       | (refine TP ?_
          first
           | refine sk rfl ?_
           | refine Bw rfl rfl rfl ?_
           | refine OV rfl rfl ?_)
       | (refine OU ?_
          refine dE rfl rfl ?_)
       | refine de rfl rfl (by first|rfl|assumption) rfl rfl (by first|assumption|omega) rfl ?_
       | refine dE (op:=.move _) (ty:=4) rfl rfl ?_
       | refine dE (op:=.move _) rfl rfl ?_
       | refine dE (op:=.assign _) rfl rfl ?_
       | refine dE (op:=.extract _ _) rfl rfl ?_
       | refine dE (op:=.unOp _ _ _) rfl rfl ?_
       | refine dE (op:=.pick _ _ _) rfl rfl ?_
       | refine dE (op:=.makeInterface _ _) rfl rfl ?_)
   | (refine TN ?_
      first
       | refine dW ?_
       | refine kj rfl ?_
       | refine oK rfl ?_
       | refine mS rfl ?_
       | refine jR ?_
       | refine px ?_
       | refine yA ?_
       | refine tM ?_)
   | (refine TO ?_
      first
       | refine bT rfl ?_
       | refine kJ ?_
       | refine lQ ?_
       | refine yB ?_
       | refine mT ?_
       | refine mU ?_
       | refine lR rfl ?_
       | refine kK ?_
       | refine lS ?_))
  exact k.out)):G:=h ⟨k⟩
theorem Mh (k:G') (h:CS G'->G:=by
 (intro k
  repeat (refine Vy ?_
          first
   | refine dH (op:=.fieldAddr _ _ _) rfl rfl rfl ?_
   | refine dH (op:=.nilCheck _) rfl rfl rfl ?_
   | refine dH (op:=.move _) rfl rfl rfl ?_
   | refine dH (op:=.assign _) rfl rfl rfl ?_
   | refine dH (op:=.extract _ _) rfl rfl rfl ?_
   | refine gM rfl rfl rfl (by first|rfl|assumption) rfl rfl (by first|assumption|omega) rfl ?_
   | refine vU rfl rfl rfl rfl (by first|rfl|assumption) rfl rfl (by first|assumption|omega) rfl ?_
   | refine zo rfl rfl rfl (by repeat constructor) (by first|rfl|assumption) rfl ?_
   | refine re rfl rfl rfl rfl (by repeat constructor) (by first|rfl|assumption) rfl ?_
   | refine T5 rfl rfl rfl (by assumption) rfl ?_
   | refine ju rfl ?_
   | refine gL ?_
   | refine q9 rfl rfl (by omega) (by omega) rfl ?_
   | refine O1 rfl rfl (by omega) (by omega) rfl ?_
   | refine Ow rfl rfl (by first|assumption|omega) rfl ?_
   | refine Ox rfl rfl (by first|assumption|omega) rfl ?_
   | refine VK rfl rfl (by assumption) rfl ?_
   | refine VL rfl rfl (by assumption) rfl ?_
   | refine dH rfl rfl rfl ?_
   | refine T8 rfl rfl rfl (by first|assumption|omega) rfl ?_
   | refine T9 rfl rfl rfl (by first|assumption|omega) rfl ?_
   | refine T6 rfl rfl rfl (by assumption) rfl ?_
   | refine T7 rfl rfl rfl (by assumption) rfl ?_
   | refine Oy rfl rfl rfl (by omega) (by omega) rfl ?_
   | refine qb rfl rfl rfl rfl ?_
   | refine Oz rfl rfl rfl rfl ?_
   | refine HB rfl rfl rfl rfl ?_)
  exact k.out)):G:=h ⟨k⟩
section
variable{W0 w:Xo}{F:Xn ae}{v:Xp}{k i:Nat}{rows:Xn (Xn Xp)}
theorem Sat.Sw{a:Option Addr}{c:Nat}{x:List Value}(d:Sat W0 (nj k (.slice a rows.length c) rows::F) w)(H:rows[i]?=some x) :
 ∃ z:Ay,a=some ⟨z.b,z.o,none⟩/\iZ z.all (z.o+i*k) x/\Sat W0 (ob true z.b (.cells z.all.toArray z.E (0,0))::nj k (.slice a rows.length c) rows::F) w:=by
 obtain⟨z,⟨e,_,hseg⟩,f⟩:=d.qY (fun h=>by rw[h] at H;simp at H);have g:=(d.W5);injection e with j _ _;exact⟨z,j,hseg.row g H,f⟩
