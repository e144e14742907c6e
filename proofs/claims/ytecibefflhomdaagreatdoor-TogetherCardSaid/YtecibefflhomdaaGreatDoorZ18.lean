/-
  Part 18: ; .
-/
import Derived.Test.YtecibefflhomdaaGreatDoorZ17
set_option maxHeartbeats 8000000
set_option maxRecDepth 100000
set_option linter.all false
namespace Go.Proofs.YtecibefflhomdaaGreatDoor
open Go Proofs.Tryz
section
open Go Go.Conc
section
variable[Bs0:Base]{F:Xn Nat->cn}[hM:I7 F]{p:cn}{w:Xo}{i c n:Nat}
def QU(l:Bs0.quiet=true)(h:yN F p ⟨i,c,n,.out⟩ w)(m:c<p.len i)(o:i<=p.n):Calls prog 142 #[.pointer (some ⟨p.mu,0,none⟩)] w (NK F p i c n w):=by
 refine enter func142 rfl ntmps142 results142 rfl ?_;refine go ?_;refine bE rfl (λW H=>S8 h H kN λh=>.Kv h.st m λw2 j a=>?_) rfl;have f2:=(Fl.refl w).ry H |>.nb a;replace h:At F p ⟨i,c,n,.lk0⟩ w2:=⟨by rw[a.os];exact h.par,a.dN,j⟩;clear j;clear a H;refine go ?_;refine bE rfl (λW H=>fh h H qL λh=>.EG h.st (λq N E a=>?_) λq a=>?_) rfl
 .replace f2:=(f2.ry H).nb a;replace h:=h.nb a;clear a H;refine go ?_;refine bE rfl (λW H=>fh h H fg λh=>.en h.st λr a=>?_) rfl;replace f2:=(f2.ry H).nb a;replace h:=h.nb a;clear a H;refine go ?_;obtain⟨z,t⟩:=h.mem;refine nK t underlying325 underlying202 (by kernel_rfl) rfl ?_ rfl;rcases X8 i p.n with b|v
  .refine bE rfl (λW H=>fh h H iw λh=>.Ma h.st b λx s y A f k d=>?_) rfl;refine go ?_;exact an rfl ⟨_,rfl,N,W,by omega,f2.ry H,.inl ⟨b,s,y,h.put d (k.cell h.mem),A,f,k,d⟩⟩
  .have e:i=p.n:=by omega
   refine bE rfl (λW H=>fh h H iw λh=>.Ky h.st e λx a=>?_) rfl;refine go ?_;exact an rfl ⟨_,rfl,N,W,by omega,f2.ry H,.inr ⟨e,a,h.nb a⟩⟩
 .replace f2:=(f2.ry H).nb a;replace h:=h.nb a;clear a H;refine go ?_;refine ak (met (QT l h o) ?_);rintro _ r ⟨u,rfl,B,C,g,f4,D⟩;refine⟨_,rfl,?_⟩;refine go ?_;exact fE rfl ⟨_,rfl,B,C,g,f2.trans f4,D⟩
def NL(H:Bs0.quiet=true)(a:yN F p ⟨i,c,n,.out⟩ w)(b:c<p.len i)(d:i<=p.n):Calls prog 80 #[.pointer (some ⟨p.mu,0,none⟩)] w (NK F p i c n w):=by
 apply enter func80 rfl ntmps80 results80 rfl;refine go ?_;refine ak (met (QU H a b d) ?_);rintro _ W ⟨u,rfl,h⟩;refine⟨_,rfl,go ?_⟩;exact fE rfl ⟨_,rfl,h⟩
def KR{y:Nat}(G:Bs0.quiet=true)(H:At F p ⟨i,c,n,.unl y true⟩ w)(I:y<1000000)(O:y%2=0):Calls prog 197 #[.pointer (some ⟨p.mu,0,none⟩),.int .i32 (y:Int)] w
 λx W=>∃u,x=.returned u/\∃q,q<=n/\Fl w W/\(At F p ⟨i,c,q,.fin⟩ W\/∃y f,At F p ⟨i,c,q,.unl y f⟩ W/\(y<8\/y%8≠0)/\(f=true->y / 4%2=0)):=by
 refine enter func197 rfl ntmps197 results197 rfl ?_;have f2:=Fl.refl w;have r:IntKind.i32.wrap ((y:Int)+1)=((y+1:Nat):Int):=by
  rw[show(y:Int)+1=((y+1:Nat):Int)from by omega];exact wrap32 (by omega)
 refine go ?_;rw[r];refine ix (N:=y+1) (M:=1) (R:=1) (by show some ((y+1) &&& 1)=_;rw[UW];congr 1;omega) (by omega) (by omega) ?_;refine go ?_;refine ix (N:=y) (M:=4) (R:=4*(y / 4%2)) (by show some (y &&& 4)=_;rw[QR]) (by omega) (by omega) ?_;by_cases D:y / 4%2=0
 .rw[D];refine go ?_;refine aL (α:=Nat×Nat×XN) (λz=>[(0,.pointer (some ⟨p.mu,0,none⟩)),(4,.int .i32 (z.2.1:Int))]) (λz W=>At F p ⟨i,c,z.1,.unl z.2.1 z.2.2⟩ W/\Fl w W/\z.1<=n/\z.2.1<1000000/\(z.2.2=true->z.2.1 / 4%2=0)) (λz=>z.1) (n,y,true) ⟨rfl,rfl,Xr⟩ ⟨H,f2,XD _,I,λ_=>D⟩ ?_;clear H f2;rintro⟨s,Y,f1⟩ o ⟨H,f2,d,t,e⟩;simp only at H d t e;refine go ?_;refine l7 (N:=Y) (m:=3) rfl rfl rfl (by decide) rfl ?_;cases P:Y / 2^3 with
  | zero=>
   refine go ?_;exact an rfl ⟨_,rfl,s,d,f2,.inr ⟨Y,f1,H,.inl (by omega),e⟩⟩
  | succ m=>
   refine dE (v:=.bool false) rfl rfl ?_;refine go ?_;refine ix (N:=Y) (M:=7) (R:=Y%8) (by show some (Y &&& 7)=_;rw[Wf]) (by omega) (by omega) ?_;cases J:Y%8 with
   | zero=>
    have A:IntKind.i32.wrap ((Y:Int)-8)=((Y-8:Nat):Int):=by
     rw[show(Y:Int)-8=((Y-8:Nat):Int)from by omega];exact wrap32 (by omega)
    refine go ?_;rw[A];refine ix (N:=Y-8) (M:=2) (R:=Y-6) (by show some ((Y-8) ||| 2)=_;rw[WZ];congr 1;omega) (by omega) (by omega) ?_;refine go ?_;refine bE rfl (λo a=>fh H a qL λH=>.EL H.st (show Y%8=0/\8<=Y from⟨J,by omega⟩) (show((Y-6:Nat):Int)=(Y:Int)-6 from by omega) (λK L B g=>?_) λK L B g=>?_) rfl
    .replace f2:=(f2.ry a).nb g;replace H:=H.nb g;clear g a;refine go ?_;refine bE rfl (λo a=>fh H a Fe λH=>.EN H.st λE j k b=>?_) rfl;refine go ?_;exact an rfl ⟨_,rfl,j,by omega,(f2.ry a).nb b,.inl (H.nb b)⟩
    .replace f2:=(f2.ry a).nb g;replace H:=H.nb g;clear g a;refine go ?_;refine nJ rfl (λo a=>fh H a (by rw[G];exact pG rfl) λH=>.EM H.st λE j X k C b=>?_) rfl;refine go ?_;exact az (j,X,false) ⟨rfl,rfl,Xr⟩ ⟨H.nb b,(f2.ry a).nb b,by show j<=n;omega,C,λh=>by cases h⟩ (by show j<s;omega)
   | succ Q=>
    refine go ?_;exact an rfl ⟨_,rfl,s,d,f2,.inr ⟨Y,f1,H,.inr (by omega),e⟩⟩
 .have l:y / 4%2=1:=by omega
  rw[l];refine go ?_;refine bE rfl (λo a=>fh H a Fe λH=>.EO H.st l λE j k b=>?_) rfl;refine go ?_;exact fE rfl ⟨_,rfl,j,by omega,(f2.ry a).nb b,.inl (H.nb b)⟩
def BB{st:Xn Nat}{R:Ending->Xo->Prop}(r:Bs0.quiet=true)(h:At F p ⟨i,c,n,.hold st⟩ w)
 (f:∀W,At F p ⟨i,c,n,.rel0 st⟩ W->Fl w W->∀K:Xp->Xo->Prop,(∀d,At F p ⟨i,c+1,n,.rel1⟩ d->(∀j N,Fl d j->N<=n->At F p ⟨i,c+1,N,.out⟩ j->R (.returned (.tuple #[])) j)->K eI d)->∀e,Ry W e->jB p Bs0.old (.mk (.releaseMerge ⟨p.mu,0,none⟩)) e K) :
 Calls prog 143 #[.pointer (some ⟨p.mu,0,none⟩)] w R:=by
 refine enter func143 rfl ntmps143 results143 rfl ?_;refine go ?_;refine nJ rfl (λW H=>fh h H (by rw[r];exact pG rfl) λh=>.Um h.st λe x a=>?_) rfl;have f2:=((Fl.refl w).ry H).nb a;replace h:=h.nb a;clear a H;refine go ?_;obtain⟨z,s⟩:=h.mem;refine nK s underlying325 underlying202 (by kernel_rfl) rfl ?_ rfl;refine bE rfl (λW H=>hM.ask Av ?_) rfl;rw[(h.ry H).par];refine f e h f2 _ (λv h k=>?_) W H;clear f2 s;refine go ?_;refine bE rfl (λW H=>fh h H kN λh=>.Kz h.st λe a=>?_) rfl;have f2:=((Fl.refl v).ry H).nb a;replace h:=h.nb a;clear a H;refine go ?_;refine bE rfl (λW H=>fh h H Fb λh=>.EK h.st λe A y B C l a=>?_) rfl;replace f2:=(f2.ry H).nb a;replace h:=h.nb a;clear a H;cases g:y with
 | zero=>
  subst g;refine go ?_;refine bE rfl (λW H=>fh h H fg λh=>.SN h.st ⟨.inl (by omega),λ_=>rfl⟩ λd b=>?_) rfl;refine go ?_;exact fE rfl (k _ A ((f2.ry H).nb b) (by omega) (h.nb b))
 | succ m=>
  subst g;refine go ?_;refine ak (met (KR r h C l) ?_);rintro _ j ⟨u,rfl,t,D,f4,E⟩;refine⟨_,rfl,?_⟩;refine go ?_;rcases E with h|⟨Y,G,h,o,q⟩
  .refine bE rfl (λW H=>fh h H fg λh=>.Un h.st λd b=>?_) rfl;refine go ?_;exact fE rfl (k _ t (((f2.trans f4).ry H).nb b) (by omega) (h.nb b))
  .refine bE rfl (λW H=>fh h H fg λh=>.SN h.st ⟨o,q⟩ λd b=>?_) rfl;refine go ?_;exact fE rfl (k _ t (((f2.trans f4).ry H).nb b) (by omega) (h.nb b))
def NM{st:Xn Nat}{W0:Xo}{bl:Xn (Nat×Obj)}(j:Bs0.quiet=true)(a:At F p ⟨i,c,n,.hold st⟩ w)(k:i<p.n)(l:Sat W0 (p.LI (st++[i])::cy bl) w)(b:iC bl) :
 Calls prog 81 #[.pointer (some ⟨p.mu,0,none⟩)] w λx w'=>∃u,x=.returned u/\∃N,N<=n/\At F p ⟨i,c+1,N,.out⟩ w'/\Sat { W0 with os:=w'.os } (cy bl) w':=by
 apply enter func81 rfl ntmps81 results81 rfl;refine go ?_;refine ak (met (BB (R:=λx w'=>∃u,x=.returned u/\∃N,N<=n/\At F p ⟨i,c+1,N,.out⟩ w'/\Sat { W0 with os:=w'.os } (cy bl) w') j a ?_) ?_)
 .exact λW a f1 K m s d=>.vu { W0 with os:=W.os } bl (a.ry d).st k (CB.1 ((l.fl f1).ry d)) b λo q e H=>m o ((a.ry d).put e q) λr N f4 f g=>⟨_,rfl,N,f,g,(CB.2 H).fl f4⟩
 rintro _ r ⟨u,rfl,h⟩;refine⟨_,rfl,?_⟩;refine go ?_;exact fE rfl ⟨_,rfl,h⟩
def KT{st:Xn Nat}(f:Bs0.quiet=true)(H:At F p ⟨i,c,n,.hold st⟩ w)(g:i=p.n) :
 Calls prog 81 #[.pointer (some ⟨p.mu,0,none⟩)] w λx w'=>∃u,x=.returned u/\∃N,N<=n/\At F p ⟨i,c+1,N,.out⟩ w'/\Fl w w':=by
 apply enter func81 rfl ntmps81 results81 rfl;refine go ?_;refine ak (met (BB (R:=λx w'=>∃u,x=.returned u/\∃N,N<=n/\At F p ⟨i,c+1,N,.out⟩ w'/\Fl w w') f H ?_) ?_)
 .exact λl H f1 K j m a=>.Qx (H.ry a).st g λW e=>j W ((H.ry a).nb e) λk N f4 b d=>⟨_,rfl,N,b,d,((f1.ry a).nb e).trans f4⟩
 rintro _ k ⟨u,rfl,h⟩;refine⟨_,rfl,?_⟩;refine go ?_;exact fE rfl ⟨_,rfl,h⟩
end
section
variable[B:Base]{W0 w w':Xo}
def rY.sat{A:ae}{bl:Xn (Nat×Obj)}{j:Hp}(h:rY B.old j w w')(J:A j)(K:Sat W0 (cy bl) w)(m:iC bl):Sat { W0 with os:=w'.os } (A::cy bl) w':=by
 have⟨a,b,c,d,D,e,f,r⟩:=K;let P:Nat->Prop:=λi=>B.old i\/∃x∈bl,x.1=i
 have R:=rA (P:=P) r λx H=>.inr ⟨x,H,rfl⟩;have k:Hp.fits j (D.trim P):=λi x y H F=>by
  have n:=Hp.nH _ _ i y F;by_cases s:B.old i
  .have⟨t,u⟩:=h.olds i x H s;have⟨o,L,_⟩:=(d.1 i).1 s
   grind
  .exfalso;have G:P i:=by
    unfold Hp.trim at F
    grind
   rcases G with G|⟨z,v,E⟩
   .grind
   .have t:=jV r z v;rw[E,n]at t;have u:=Xt t;have⟨_,p⟩:=h.hid i x H s;have q:=e i y n;rw[u]at q;rcases p with p|⟨M,_,f9,p,_⟩
    .rw[p]at q;have N:=Xt q;have I:=f.2 i y n s;rw[u]at I;exact M8 N.symm I (m z v).1 (m z v).2
    .rw[p]at q;exact(m z v).2 M f9 (Xt q).symm
 refine⟨rfl,h.tape.trans b,h.out.trans c,⟨d.1,by rw[h.size];exact d.2⟩,Hp.un j (D.trim P),λi x H=>?_,⟨λi o l C=>?_,λi x H C=>?_⟩,j,D.trim P,k,Hp.lx _ _,Hp.ki k,J,R⟩
 .unfold Hp.un at H;cases g:j i with
  | some y=>rw[g]at H;cases H;exact h.on i _ g
  | none=>rw[g]at H;rw[h.off i g];exact e i x (Hp.nH _ _ i x H)
 .unfold Hp.un;have p:=f.1 i o l C;cases g:j i with
  | some y=>
   have⟨t,u⟩:=h.olds i y g l
   grind
  | none=>
   simp only[Hp.trim]
   grind
 .unfold Hp.un at H;cases g:j i with
  | some y=>rw[g]at H;cases H;exact(h.hid i _ g C).1
  | none=>rw[g]at H;exact f.2 i x (Hp.nH _ _ i x H) C
end
abbrev qB(B:Base):Base:={ old:=B.old,ask:=B.ask,quiet:=true }
variable {B:Base} {main:XN} {Stop:XF->Xo->Prop} {g:XF} {v:Xo}
def jM.Xe (h:@jM (qB B) main Stop g v):@jM B main Stop g v:=by
 induction h with
 | stop h=>exact @jM.stop B main Stop _ _ h
 | step H G V a _ i=>exact @jM.step B main Stop _ _ H G V (λb c=>nG.conv (B:=qB B) (B':=B) rfl (a b c)) i
 | ask o q s f d K h _ i=>exact @jM.ask B main Stop _ _ o q s f d K h i
def jM.Xf (h:@jM B main Stop g v):@jM (qB B) main Stop g v:=by
 induction h with
 | stop h=>exact @jM.stop (qB B) main Stop _ _ h
 | step H G V a _ i=>exact @jM.step (qB B) main Stop _ _ H G V (λb c=>nG.conv (B:=B) (B':=qB B) rfl (a b c)) i
 | ask o q s f d K h _ i=>exact @jM.ask (qB B) main Stop _ _ o q s f d K h i
def rH {P:YW} {f:FuncId} {args:Xv Xp} {R:Ending->Xo->Prop} (h:@Calls (qB B) P f args v R):@Calls B P f args v R:=
 λmain k c C Stop H a=>jM.Xe (h main k c C Stop H λu V b=>jM.Xf (by grind))
section
variable[B:Base]{F:Xn Nat->cn}[hM:I7 F]{p:cn}{w:Xo}{i c n:Nat}
theorem VX:@I7 F (qB B):=@I7.mk F (qB B) (λ{o q s v K r} h H=>@I7.ask F B hM o q s v K r h H)
variable {W0:Xo} {bl:Xn (Nat×Obj)}
def KU (e:yN F p ⟨i,c,n,.out⟩ w) (f:c<p.len i) (o:i<p.n) (j:Sat W0 (cy bl) w) (H:iC bl):
 Calls prog 80 #[.pointer (some ⟨p.mu,0,none⟩)] w λx w'=>∃u,x=.returned u/\∃N s,N<=n/\s.count i=c/\At F p ⟨i,c,N,.hold s⟩ w'/\Sat { W0 with os:=w'.os } (p.LI s::cy bl) w':=by
 apply Calls.mono (rH (@NL (qB B) F VX p w i c n rfl e f (by grind)));rintro _ w' ⟨u,rfl,N,W,k,l,⟨_,s,q,a,b,d,m,_⟩|⟨h,_⟩⟩
 .exact⟨u,rfl,N,s,k,b,a,rY.sat (W0:={ W0 with os:=W.os }) m d (j.fl l) H⟩
 .omega
def Ho(a:yN F p ⟨i,c,n,.out⟩ w)(b:c<p.len i)(j:i=p.n) :
 Calls prog 80 #[.pointer (some ⟨p.mu,0,none⟩)] w λx w'=>∃u,x=.returned u/\∃N,N<=n/\At F p ⟨i,c,N,.hold []⟩ w'/\Fl w w':=by
 apply Calls.mono (rH (@NL (qB B) F VX p w i c n rfl a b (by grind)));rintro _ w' ⟨u,rfl,N,W,d,e,⟨h,_⟩|⟨_,f,H⟩⟩
 .omega
 .exact⟨u,rfl,N,d,H,e.nb f⟩
variable {st:Xn Nat}
def Ff (b:At F p ⟨i,c,n,.hold st⟩ w) (d:i<p.n) (e:Sat W0 (p.LI (st++[i])::cy bl) w) (h:iC bl):
 Calls prog 81 #[.pointer (some ⟨p.mu,0,none⟩)] w λx w'=>∃u,x=.returned u/\∃N,N<=n/\At F p ⟨i,c+1,N,.out⟩ w'/\Sat { W0 with os:=w'.os } (cy bl) w':=by
 apply Calls.mono (rH (@NM (qB B) F VX p w i c n st W0 bl rfl b d (xh (B:=B) (B':=qB B) rfl e) h));rintro _ w' ⟨u,rfl,N,f,H,a⟩;exact⟨u,rfl,N,f,H,xh (B:=qB B) (B':=B) rfl a⟩
def CV (h:At F p ⟨i,c,n,.hold st⟩ w) (H:i=p.n):
 Calls prog 81 #[.pointer (some ⟨p.mu,0,none⟩)] w λx w'=>∃u,x=.returned u/\∃N,N<=n/\At F p ⟨i,c+1,N,.out⟩ w'/\Fl w w':=
 rH (@KT (qB B) F VX p w i c n st rfl h H)
