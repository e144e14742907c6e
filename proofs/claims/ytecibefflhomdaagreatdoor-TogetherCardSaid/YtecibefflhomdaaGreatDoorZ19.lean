/-
  Part 19: ; ; .
-/
import Derived.Test.YtecibefflhomdaaGreatDoorZ12
set_option maxHeartbeats 8000000
set_option maxRecDepth 100000
set_option linter.all false
namespace Go.Proofs.YtecibefflhomdaaGreatDoor
open Go
section
open Go Go.Conc
inductive Tr where
 | leaf
 | node (f:Xo->Tr)
def Tr.Lt(a b:Tr):Prop:=∃f v,b=.node f/\a=f v
def Tr.acc:∀t:Tr,Acc Tr.Lt t
 | .leaf=>⟨_,λy h=>by obtain⟨_,_,h,_⟩:=h;cases h⟩
 | .node f=>⟨_,λy h=>by
  have⟨g,v,H,a⟩:=h;cases H;rw[a];exact Tr.acc _⟩
inductive kZ:Xn Tr->Xn Tr->Prop
 | here {a b:Tr} {l:Xn Tr}:Tr.Lt a b->kZ (a::l) (b::l)
 | there {a:Tr} {l l':Xn Tr}:kZ l l'->kZ (a::l) (a::l')
def kZ.NN{a:Tr}(b:Acc Tr.Lt a):∀{l:Xn Tr},Acc kZ l->Acc kZ (a::l):=by
 induction b with
 | intro a _ i=>
  intro l H
  induction H with
  | intro l H I=>
   refine⟨_,λy c=>?_⟩;cases c with
   | here h=>exact i _ h ⟨l,H⟩
   | there h=>exact I _ h
def kZ.acc:∀l:Xn Tr,Acc kZ l
 | []=>⟨_,λy h=>by cases h⟩
 | a::l=>kZ.NN (Tr.acc a) (kZ.acc l)
def kZ.wf:WellFounded kZ:=⟨kZ.acc⟩
def kZ.set:∀{l:Xn Tr} {i:Nat} {a b:Tr},l[i]?=some b->Tr.Lt a b->kZ (l.set i a) l
 | b::l,0,a,B,h,k=>by simp at h;subst h;exact .here k
 | c::l,i+1,a,B,h,k=>by simp at h;exact .there (kZ.set h k)
section
variable[B:Base]
def UY(main:XN)(Stop:XF->Xo->Prop)(g:XF)(v:Xo):Prop:=
 (∀V,Ry v V->Stop g V)\/∃(o:Nat) (q:XN) (s:Sem Next) (f:Xp->XF) (K:Xp->Xo->Prop),Does main o q g s f/\(∀V,Ry v V->B.ask o q s V K)/\∀u a,K u a->jM main Stop (f u) a
def P7(main:XN)(Stop:XF->Xo->Prop):Tr->XF->Xo->Prop
 | .leaf,g,v=>UY main Stop g v
 | .node f,g,v=>g.status=.running/\∀V,Ry v V->∃G a,nG main g V G a/\P7 main Stop (f V) G a
variable {main:XN} {Stop:XF->Xo->Prop} {g:XF} {v:Xo}
def jM.tree (h:jM main Stop g v):∃t,P7 main Stop t g v:=by
 classical
 induction h with
 | stop h=>exact⟨.leaf,.inl h⟩
 | @step g v b G c d a i=>exact⟨.node λV=>if H:Ry v V then(i V H).choose else .leaf,b,λV H=>⟨G V,c V,d V H,by grind⟩⟩
 | ask o q s f e K h a _=>exact⟨.leaf,.inr ⟨o,q,s,f,K,e,h,a⟩⟩
def P7.rely {v1:Xo} {t:Tr} (h:P7 main Stop t g v) (a:Ry v v1):P7 main Stop t g v1:=by
 cases t with
 | leaf=>
  rcases h with h|⟨o,q,s,F,K,b,h,c⟩
  .exact .inl λV H=>h V (a.trans H)
  .exact .inr ⟨o,q,s,F,K,b,λV H=>h V (a.trans H),c⟩
 | node f=>exact⟨h.1,λV H=>h.2 V (a.trans H)⟩
end
def ext(v r':Xo):Xo:={ v with heap:=v.heap++(r'.heap.extract v.heap.size r'.heap.size).map gZ,drawn:=r'.drawn }
section
variable{v r':Xo}
def yO(h:v.heap.size<=r'.heap.size):(ext v r').heap.size=r'.heap.size:=by simp[ext];omega
variable {k:Nat}
def fZ (h:k<v.heap.size):(ext v r').heap[k]?=v.heap[k]?:=by simp[ext,Array.getElem?_append,h]
def lH (h:v.heap.size<=k):(ext v r').heap[k]?=(r'.heap[k]?).map gZ:=by
 simp[ext]
 grind
def Ta(h:v.heap.size<=r'.heap.size):Ry v (ext v r'):=⟨by rw[yO h];exact h,λk H=>fZ H,rfl,rfl,rfl⟩
end
def ml(v:Xo)(k:Nat):Prop:=(∃c e f,v.heap[k]?=some (Obj.cells c e f)/\∀(i:Nat) (x:Xp),c[i]?=some x->x=hole)\/v.heap[k]?=some (Obj.coro none)
structure Sep(o1:Nat->Prop)(v1:Xo)(o2:Nat->Prop)(v2:Xo):Prop where
 cells:∀(k:Nat) (c1 c2:Xv Xp) (e1 e2:XO) (f1 f2:Nat×Nat),¬o1 k->¬o2 k->v1.heap[k]?=some (Obj.cells c1 e1 f1)->v2.heap[k]?=some (Obj.cells c2 e2 f2)->∀(i:Nat) (x1 x2:Xp),c1[i]?=some x1->c2[i]?=some x2->x1=hole\/x2=hole
 obj:∀(k:Nat) (x1 x2:Obj),¬o1 k->¬o2 k->v1.heap[k]?=some x1->v2.heap[k]?=some x2->(∀c e f,x1≠Obj.cells c e f)->(∀c e f,x2≠Obj.cells c e f)->x1=Obj.coro none\/x2=Obj.coro none
 left:∀k,o1 k->¬o2 k->ml v2 k
 right:∀k,o2 k->¬o1 k->ml v1 k
def Vw.ext{E B:Base}{V v r r':Xo}(hi:@Vw E V r)(hj:@Vw B v r)(H:@Kept E V r r')(s:Sep E.old V B.old v)(W:∀k,B.old k->k<v.heap.size):@Vw B (ext v r') r':=by
 obtain⟨i1,i2,i3,K,i5,i6⟩:=hi;obtain⟨j1,j2,j3,j4,j5,j6⟩:=hj;obtain⟨k1,k2,k3,k4,X,k6,k7,k8⟩:=H;have L:v.heap.size<=r'.heap.size:=by omega
 have aa:V.heap.size=v.heap.size:=by omega
 have A:∀k,k<v.heap.size->∃o,V.heap[k]?=some o:=λk H=>⟨_,XL (by omega)⟩;have w:∀(k:Nat) (c:Xv Xp) (e:XO) (f:Nat×Nat),k<v.heap.size->r.heap[k]?=some (Obj.cells c e f)->∃C,V.heap[k]?=some (Obj.cells C e f)/\C.size=c.size:=λk c e f b l=>by
  have⟨o,q⟩:=A k b;cases o with
  | cells C M N=>
   have⟨y,j,F,_⟩:=K k C M N q;rw[l]at j;cases j;exact⟨C,q,F.symm⟩
  | _=>
   exfalso;by_cases I:@Blank E V k
   .have⟨o,j,F⟩:=i5 k I;rw[l]at j;exact F _ _ _ (Xt j).symm
   .have:=i6 k _ q (λ_ _ _ h=>by cases h) I;rw[l]at this;cases this
 refine @Vw.mk B _ _ (yO L).symm (by show r'.tape=v.tape;rw[k1,j2]) rfl (λk c e f H=>?_) (λk H=>?_) (λk o H q J=>?_)
 .rcases X8 k v.heap.size with b|m
  .rw[fZ b]at H;have⟨y,j,F,h3⟩:=j4 k c e f H;have⟨C,G,g2⟩:=w k y e f b j;have⟨c1,c2,Y,Z,q3,q4,q5⟩:=k6 k C e f G;rw[j]at Y;cases Y;refine⟨c2,Z,by omega,λi x z t=>?_⟩;have P:=h3 i x z t;by_cases a:E.old k
   .have:=X k a;rw[Z,j]at this;cases this;exact P
   .have Q:i<C.size:=by rw[g2];exact(Xz.1 P).1
    have D:=XL Q;have hh:C[i]=hole:=by
     by_cases d:B.old k
     .rcases s.right k d a with⟨c9,e9,f9,n,R⟩|n
      .rw[G]at n;cases n;exact R i _ D
      .rw[G]at n;cases n
     .rcases s.cells k C c e e f f a d G H i _ x D z with h|h
      .exact h
      .exact XG h (t.resolve_left d)
    rw[q5 i _ D λS=>(S.resolve_left a) hh];exact P
  .rw[lH m]at H;cases l:r'.heap[k]? with
   | none=>rw[l]at H;cases H
   | some o=>
    rw[l]at H;simp only[Option.map_some,Xs]at H;cases o with
    | cells y e' f'=>
     simp only[gZ,Obj.cells.injEq]at H;obtain⟨rfl,rfl,rfl⟩:=H;refine⟨y,rfl,by simp,λi x z t=>?_⟩;rcases t with t|t
     .have:=W k t;omega
     .rw[aa9]at z;split at z
      .cases z;exact XG rfl t
      .cases z
    | _=>simp[gZ]at H
 .rcases X8 k v.heap.size with b|m
  .have⟨o,j,F⟩:=j5 k ⟨H.1,by rw[<- fZ b];exact H.2⟩;have⟨O,g⟩:=A k b;cases O with
   | cells C M N=>
    have⟨y,G,_⟩:=K k C M N g;rw[j]at G;exact XG (Xt G) (F _ _ _)
   | _=>exact k8 k _ g (λ_ _ _ h=>by cases h)
  .have p:=H.2;rw[lH m]at p;cases l:r'.heap[k]? with
   | none=>rw[l]at p;cases p
   | some o=>
    rw[l]at p;refine⟨o,rfl,λc e f h=>?_⟩;subst h;simp[gZ]at p
 .rcases X8 k v.heap.size with b|m
  .rw[fZ b]at H;have u:¬@Blank B v k:=λh=>J ⟨h.1,by rw[fZ b];exact h.2⟩;have j:=j6 k o H q u;have⟨O,g⟩:=A k b;by_cases a:E.old k
   .rw[X k a];exact j
   .have hn:∀c e f,O≠Obj.cells c e f:=λc e f h=>by
     subst h;have⟨y,G,_⟩:=K k c e f g;rw[j]at G;exact q _ _ _ (Xt G)
    have T:O=Obj.coro none:=by
     by_cases d:B.old k
     .rcases s.right k d a with⟨c9,e9,f9,n,_⟩|n
      .rw[g]at n;exact XG (Xt n) (hn _ _ _)
      .rw[g]at n;exact Xt n
     .rcases s.obj k O o a d g H hn q with h|h
      .exact h
      .exact XG ⟨d,by rw[H,h]⟩ u
    rw[k7 k ⟨a,by rw[g,T]⟩];exact j
  .rw[lH m]at H;cases l:r'.heap[k]? with
   | none=>rw[l]at H;cases H
   | some o'=>
    rw[l]at H;simp only[Option.map_some,Xs]at H;cases o' with
    | cells y e' f'=>subst H;exact XG rfl (q _ _ _)
    | _=>
     have U:o=Obj.coro none:=H.symm;by_cases d:B.old k
     .have:=W k d;omega
     .exact XG ⟨d,by rw[lH m,l];exact Zu some H |>.trans (by rw[U])⟩ J
end
def iI(f:Ps->Nat):Xn Ps->Nat
 | []=>0
 | s::l=>f s+iI f l
variable {f:Ps->Nat}
theorem gF{f:Ps->Nat}:∀ {l:List Ps} {i:Nat} {s:Ps} (s':Ps),l[i]?=some s->iI f (l.set i s')+f s=iI f l+f s'
 | a::l,0,s,s',h=>by simp at h;subst h;simp[iI];omega
 | a::l,i+1,s,s',h=>by
  simp at h;have:=gF (f:=f) s' h;simp[iI];omega
theorem jW{f:Ps->Nat}:∀ {l:List Ps} {i:Nat} {s:Ps},l[i]?=some s->f s<=iI f l
 | a::l,0,s,h=>by simp at h;subst h;simp[iI]
 | a::l,i+1,s,h=>by
  simp at h;have:=jW (f:=f) h;simp[iI];omega
def I8:∀{l:Xn Ps},0<iI f l->∃(i:Nat) (s:Ps),l[i]?=some s/\0<f s
 | [],h=>by simp[iI]at h
 | a::l,h=>by
  rcases ZR (f a)with H|H
  .simp[iI,H]at h;have⟨i,s,c,b⟩:=I8 h;exact⟨i+1,s,by grind,b⟩
  .exact⟨0,a,rfl,H⟩
def CW {b:Nat} (h:∀s,f s<=b):∀l:Xn Ps,iI f l<=b*l.length
 | []=>by simp[iI]
 | a::l=>by have:=CW h l;have:=h a;simp[iI,Nat.mul_succ];omega
def fL(s:Ps):Nat:=match s.th with | .nk | .got1 | .hold _ | .rel0 _ | .rel1 | .rel2=>1|_=>0
def fA(s:Ps):Nat:=match s.th with | .slow true _ _ | .act _ true _ _=>1|_=>0
def fK(s:Ps):Nat:=match s.th with | .nq=>1|_=>0
def fU(s:Ps):Nat:=match s.th with | .unl y true=>if y / 4%2=1 then 1 else 0|_=>0
def fO(s:Ps):Nat:=match s.th with | .woken _=>1|_=>0
def fH(s:Ps):Nat:=match s.th with | .hand _=>1|_=>0
def fQ(s:Ps):Nat:=match s.th with | .queued _=>1|_=>0
def fR(s:Ps):Nat:=match s.th with | .unl y _=>if y%8=0/\8<=y then 1 else 0 | .unl0=>1|_=>0
structure Se(l:Xn Ps)(x bu W S n:Nat):Prop where
 word:x=iI fL l+2*W+4*S+8*n
 L1:iI fL l<=1
 S1:S<=1
 W1:W<=1
 s0:S=0->W=iI fA l+iI fK l+bu+iI fO l/\n+iI fK l+bu=iI fQ l/\iI fH l=0/\iI fU l=0
 s1:S=1->W=0/\iI fA l=0/\iI fK l=0/\iI fL l+iI fU l+bu+iI fO l+iI fH l=1/\n=iI fQ l+iI fO l+iI fH l/\1<=n
 resp:iI fL l=0->S=0->W=0->1<=n->1<=iI fR l
def jX(l:Xn Ps)(x bu:Nat):Prop:=(∃W S n,Se l x bu W S n)/\∀(i:Nat) (s:Ps) (y:Nat),l[i]?=some s->s.th=.hand y->y<=x
def QV{l:Xn Ps}(h:iI fH l=0){i:Nat}{s:Ps}{y:Nat}(H:l[i]?=some s)(a:s.th=.hand y):False:=by
 have:=jW (f:=fH) H;simp[fH,a]at this;omega
section
variable{l:Xn Ps}{x bu i:Nat}{s s':Ps}
def jX.move{x' sem':Nat}(h:jX l x bu)(g:l[i]?=some s)
 (k:∀W S n,Se l x bu W S n->∃w a N,Se (l.set i s') x' sem' w a N) (b:(x<=x'\/iI fH (l.set i s')=0)/\∀y,s'.th=.hand y->y<=x'):jX (l.set i s') x' sem':=by
 have⟨⟨W,S,n,m⟩,o⟩:=h;refine⟨by grind,λj t y c d=>?_⟩;by_cases e:i=j
 .grind
 .rcases b.1 with H|H
  .grind
  .exact(QV H c d).elim
structure BC(l l':Xn Ps)(s s':Ps):Prop where
 cL:iI fL l'+fL s=iI fL l+fL s'
 cA:iI fA l'+fA s=iI fA l+fA s'
 cK:iI fK l'+fK s=iI fK l+fK s'
 cU:iI fU l'+fU s=iI fU l+fU s'
 cO:iI fO l'+fO s=iI fO l+fO s'
 cH:iI fH l'+fH s=iI fH l+fH s'
 cQ:iI fQ l'+fQ s=iI fQ l+fQ s'
 cR:iI fR l'+fR s=iI fR l+fR s'
def BC.of(h:l[i]?=some s)(s':Ps):BC l (l.set i s') s s':=⟨gF s' h,gF s' h,gF s' h,gF s' h,gF s' h,gF s' h,gF s' h,gF s' h⟩
def jX.same(h:jX l x bu)(H:l[i]?=some s)(E:fL s'=fL s)(m:fA s'=fA s)(o:fK s'=fK s)(p:fU s'=fU s)(q:fO s'=fO s)(r:fH s'=fH s)(t:fQ s'=fQ s)(u:fR s<=fR s')(a:∀y,s'.th=.hand y->y<=x):jX (l.set i s') x bu:=by
 refine h.move H (λW S n b=>⟨W,S,n,?_⟩) ⟨.inl (XD _),a⟩;have c:=BC.of H s';obtain⟨C,v,w,z,B,D,F,G⟩:=c;obtain⟨I,J,A,d,K,L,e⟩:=b;exact⟨by omega,by omega,A,d,by omega,by omega,λM g j k=>by have:=e (by omega) g j k;omega⟩
def Se.bits{W S n:Nat}(h:Se l x bu W S n):x%2=iI fL l/\x / 2%2=W/\x / 4%2=S/\x / 8=n/\x%8=iI fL l+2*W+4*S:=by
 obtain⟨a,A,b,c,_⟩:=h;omega
section
variable{c n0 n1:Nat}
def jX.EG(h:jX l 0 bu)(a:l[i]?=some s)(b:s.th=.lk0)(H:s'.th=.nk):jX (l.set i s') 1 bu:=by
 refine h.move a (λW S n d=>⟨0,0,0,?_⟩) ⟨.inl (by omega),λy q=>by grind⟩;have⟨C,e,g,j,k,m,o,p⟩:=BC.of a s';have⟨A,r,t,u,v,w,z⟩:=d;simp only[fL,fA,fK,fU,fO,fH,fQ,fR,b,H]at C e g j k m o p;exact⟨by omega,by omega,by omega,by omega,by omega,by omega,by omega⟩
variable {k:Nat} {st:XN}
def jX.tL (h:jX l x bu) (a:l[i]?=some s) (e:s.th=.act x false st k) (H:s'.th=.slow true st k) (t:x%8=1):jX (l.set i s') (x+2) bu:=by
 refine h.move a (λW S n b=>⟨1,0,n,?_⟩) ⟨.inl (by omega),λy d=>by rw[H]at d;cases d⟩;obtain⟨B,u,v,w,z⟩:=b.bits;obtain⟨C,g,j,m,o,p,q,r⟩:=BC.of a s';obtain⟨A,D,E,F,G,I,J⟩:=b;simp only[fL,fA,fK,fU,fO,fH,fQ,fR,e,H]at C g j m o p q r;exact⟨by omega,by omega,by omega,by omega,by omega,by omega,by omega⟩
variable {aw:XN} {x':Nat}
def jX.EH (h:jX l x bu) (b:l[i]?=some s) (e:s.th=.act x aw st k) (H:s'.th=.nk) (A:x%2=0/\x / 4%2=0) (d:(x':Int)=(x:Int)+1-(if aw then 2 else 0)):jX (l.set i s') x' bu:=by
 refine h.move b (λW S n a=>⟨if aw then 0 else W,0,n,?_⟩) ?_
 .obtain⟨B,j,m,o,p⟩:=a.bits;obtain⟨q,r,t,u,v,C,w,z⟩:=BC.of b s';obtain⟨D,E,F,G,I,J,K⟩:=a;cases aw<;>simp only[fL,fA,fK,fU,fO,fH,fQ,fR,e,H,YB,XV,XM]at q r t u v C w z d |-<;>exact⟨by omega,by omega,by omega,by omega,by omega,by omega,by omega⟩
 .refine⟨.inr ?_,λy g=>by rw[H]at g;cases g⟩;obtain⟨⟨W,S,n,a⟩,_⟩:=h;obtain⟨B,j,m,o,p⟩:=a.bits;have C:=(BC.of b s').cH;simp only[fH,e,H]at C;have:=a.s0 (by omega);omega
variable {j:Nat}
def jX.EI (h:jX l x bu) (e:l[i]?=some s) (g:s.th=.act x aw st k) (b:s'.th=.queued j) (A:x%2=1\/x / 4%2=1) (d:st=true->aw=true) (H:(x':Int)=(x:Int)+8+(if st=true/\x%2=1/\x / 4%2=0 then 4 else 0)-(if aw then 2 else 0)):jX (l.set i s') x' bu:=by
 refine h.move e (λW S n m=>⟨if aw then 0 else W,if st=true/\x%2=1/\x / 4%2=0 then 1 else S,n+1,?_⟩) ?_
 .obtain⟨B,D,E,F,G⟩:=m.bits;obtain⟨C,o,p,q,r,t,u,v⟩:=BC.of e s';obtain⟨I,J,K,L,M,N,O⟩:=m;by_cases a:st=true/\x%2=1/\x / 4%2=0
  .have z:=d a.1;rw[XE a]at H |-;cases aw<;>simp only[fL,fA,fK,fU,fO,fH,fQ,fR,g,b,YB,XV,XM]at C o p q r t u v H z |-;exact⟨by omega,by omega,by omega,by omega,by omega,by omega,by omega⟩
  .rw[Xx a]at H |-;cases aw<;>simp only[fL,fA,fK,fU,fO,fH,fQ,fR,g,b,YB,XV,XM]at C o p q r t u v H |-<;>exact⟨by omega,by omega,by omega,by omega,by omega,by omega,by omega⟩
 .refine⟨.inl ?_,λy w=>by rw[b]at w;cases w⟩;split at H<;>split at H<;>omega
def jX.acq {J:Nat} (h:jX l x (bu+1)) (a:l[i]?=some s) (b:s.th=.queued j) (H:s'.th=.woken J):jX (l.set i s') x bu:=by
 refine h.move a (λW S n d=>⟨W,S,n,?_⟩) ⟨.inl (XD _),λy t=>by grind⟩;have⟨C,e,g,m,o,p,q,r⟩:=BC.of a s';have⟨A,u,v,w,z,B,D⟩:=d;simp[fL,fA,fK,fU,fO,fH,fQ,b,H]at C e g m o p q r;exact⟨by omega,by omega,by omega,by omega,by omega,by omega,by omega⟩
def jX.IS (h:jX l x bu) (a:l[i]?=some s) (b:s.th=.woken j) (H:s'.th=.act x true st k) (t:x / 4%2=0):jX (l.set i s') x bu:=by
 refine h.move a (λW S n d=>⟨W,S,n,?_⟩) ⟨.inl (XD _),λy u=>by grind⟩;have⟨C,e,g,m,o,p,q,r⟩:=BC.of a s';have⟨A,v,w,z,B,D,E⟩:=d;simp[fL,fA,fK,fU,fO,fH,fQ,b,H]at C e g m o p q r;exact⟨by omega,by omega,by omega,by omega,by omega,by omega,by omega⟩
def jX.Wi (h:jX l x bu) (b:l[i]?=some s) (d:s.th=.woken j) (a:s'.th=.hand x) (E:x / 4%2=1):jX (l.set i s') x bu/\x%8=4/\8<=x:=by
 have K:∀W S n,Se l x bu W S n->S=1/\W=0/\iI fL l=0/\1<=n:=λW S n H=>by
  have⟨B,e,g,m,o⟩:=H.bits;have q:=H.s1 (by omega);have r:=jW (f:=fO) b;simp only[fO,d]at r;omega
 refine⟨h.move b (λW S n H=>⟨W,S,n,?_⟩) ⟨.inl (XD _),λy p=>by rw[a]at p;cases p;exact XD _⟩,?_⟩
 .have⟨B,e,g,m,o⟩:=H.bits;have⟨C,t,u,v,w,z,A,D⟩:=BC.of b s';have⟨F,G,I,J,L,M,N⟩:=H;simp only[fL,fA,fK,fU,fO,fH,fQ,fR,d,a]at C t u v w z A D;exact⟨by omega,by omega,by omega,by omega,by omega,by omega,by omega⟩
 .have⟨⟨W,S,n,H⟩,_⟩:=h;have q:=K W S n H;have⟨B,e,g,m,o⟩:=H.bits;omega
variable {y:Nat}
def jX.EJ {d:Int} (h:jX l x bu) (b:l[i]?=some s) (e:s.th=.hand y) (a:s'.th=.nk) (g:(d=-7/\16<=y)\/d=-11) (p:(x':Int)=(x:Int)+d):jX (l.set i s') x' bu/\11<=x:=by
 have q:=h.2 i s y b e;have K:∀W S n,Se l x bu W S n->S=1/\W=0/\iI fL l=0/\1<=n/\iI fH l=1:=λW S n H=>by
  have r:=jW (f:=fH) b;simp only[fH,e]at r;have t:S=1:=by
   rcases X8 S 1 with u|u
   .have:=H.s0 (by omega);omega
   .have:=H.S1;omega
  have m:=H.s1 t;omega
 refine⟨h.move b (λW S n H=>⟨0,if d=-7 then 1 else 0,n-1,?_⟩) ?_,?_⟩
 .have m:=K W S n H;have⟨F,G,I,J,L⟩:=H.bits;have⟨v,w,z,A,B,C,D,E⟩:=BC.of b s';have⟨M,N,O,P,Q,R,T⟩:=H;simp only[fL,fA,fK,fU,fO,fH,fQ,fR,e,a]at v w z A B C D E;rcases g with⟨rfl,g⟩|rfl
  .rw[XE rfl];exact⟨by omega,by omega,by omega,by omega,by omega,by omega,by omega⟩
  .rw[Xx (by decide)];exact⟨by omega,by omega,by omega,by omega,by omega,by omega,by omega⟩
 .refine⟨.inr ?_,λy o=>by rw[a]at o;cases o⟩;have⟨⟨W,S,n,H⟩,_⟩:=h;have m:=K W S n H;have C:=(BC.of b s').cH;simp only[fH,e,a]at C;omega
 omega
def jX.EK (h:jX l x bu) (b:l[i]?=some s) (d:s.th=.rel2) (a:s'.th=.unl x' true) (p:(x':Int)=(x:Int)-1):jX (l.set i s') x' bu/\1<=x/\x'%2=0:=by
 have K:∀W S n,Se l x bu W S n->iI fL l=1:=λW S n H=>by
  have g:=jW (f:=fL) b;simp only[fL,d]at g;have:=H.L1;omega
 refine⟨h.move b (λW S n H=>⟨W,S,n,?_⟩) ?_,?_⟩
 .have e:=K W S n H;obtain⟨B,q,r,t,u⟩:=H.bits;obtain⟨v,w,z,m,A,C,D,L⟩:=BC.of b s';obtain⟨M,N,O,P,R,T,U⟩:=H;have E:fU s'=S:=by
   simp only[fU,a];have:x' / 4%2=S:=by omega
   rw[this];rcases X8 S 1 with F|F
   .rw[Xx (by omega)];omega
   .rw[XE (by omega)];omega
  have G:(W=0->S=0->1<=n->fR s'=1):=λe g V=>by
   simp only[fR,a];rw[XE (by omega)]
  rw[E]at m;simp only[fL,fA,fK,fU,fO,fH,fQ,d,a]at v w z m A C D;have X:fR s=0:=by simp only[fR,d]
  refine⟨by omega,by omega,by omega,by omega,by omega,by omega,λ_ Q I J=>?_⟩;have:=G I Q J;omega
 .refine⟨.inr ?_,λy o=>by rw[a]at o;cases o⟩;obtain⟨⟨W,S,n,H⟩,_⟩:=h;have e:=K W S n H;have C:=(BC.of b s').cH;simp only[fH,d,a]at C;have Y:=H.s0;have Z:=H.s1;have:=H.S1;omega
 .obtain⟨⟨W,S,n,H⟩,_⟩:=h;have e:=K W S n H;obtain⟨B,q,r,t,u⟩:=H.bits;omega
def jX.EL {f:XN} (h:jX l x bu) (b:l[i]?=some s) (d:s.th=.unl x f) (H:s'.th=.nq) (D:x%8=0/\8<=x) (m:(x':Int)=(x:Int)-6):jX (l.set i s') x' bu:=by
 have o:fU s=0:=by
  simp only[fU,d];cases f
  .rfl
  .simp only;rw[Xx (by omega)]
 refine h.move b (λW S n a=>⟨1,0,n-1,?_⟩) ?_
 .obtain⟨B,p,q,r,t⟩:=a.bits;obtain⟨u,v,w,e,z,C,A,E⟩:=BC.of b s';obtain⟨F,G,I,J,K,L,M⟩:=a;rw[o]at e;simp only[fL,fA,fK,fU,fO,fH,fQ,d,H]at u v w e z C A;exact⟨by omega,by omega,by omega,by omega,by omega,by omega,by omega⟩
 .refine⟨.inr ?_,λy g=>by rw[H]at g;cases g⟩;obtain⟨⟨W,S,n,a⟩,_⟩:=h;obtain⟨B,p,q,r,t⟩:=a.bits;have C:=(BC.of b s').cH;simp only[fH,d,H]at C;have:=a.s0 (by omega);omega
def jX.EN(h:jX l x bu)(a:l[i]?=some s)(b:s.th=.nq)(H:s'.th=.fin):jX (l.set i s') x (bu+1):=by
 refine h.move a (λW S n d=>⟨W,S,n,?_⟩) ⟨.inl (XD _),λy t=>by grind⟩;have⟨C,e,g,m,o,p,q,r⟩:=BC.of a s';have⟨A,u,v,w,z,B,D⟩:=d;simp[fL,fA,fK,fU,fO,fH,fQ,fR,b,H]at C e g m o p q r;exact⟨by omega,by omega,by omega,by omega,by omega,by omega,by omega⟩
def jX.EO (h:jX l x bu) (b:l[i]?=some s) (d:s.th=.unl y true) (a:y / 4%2=1) (H:s'.th=.fin):jX (l.set i s') x (bu+1):=by
 refine h.move b (λW S n e=>⟨W,S,n,?_⟩) ⟨.inl (XD _),λy a=>by rw[H]at a;cases a⟩;have E:fU s=1:=by simp only[fU,d];rw[XE a]
 have g:=jW (f:=fU) b;have⟨m,o,p,C,q,r,t,u⟩:=BC.of b s';have⟨A,v,w,z,B,D,F⟩:=e;rw[E]at C g;simp only[fL,fA,fK,fU,fO,fH,fQ,fR,d,H]at m o p C q r t u;exact⟨by omega,by omega,by omega,by omega,by omega,by omega,by omega⟩
def jX.EM(h:jX l x bu)(a:l[i]?=some s)(b:s.th=.unl0)(H:s'.th=.unl x false):jX (l.set i s') x bu:=by
 refine h.move a (λW S n d=>⟨W,S,n,?_⟩) ⟨.inl (XD _),λy e=>by rw[H]at e;cases e⟩;obtain⟨B,w,z,D,E⟩:=d.bits;obtain⟨C,g,m,o,p,q,r,F⟩:=BC.of a s';obtain⟨G,I,J,K,L,M,A⟩:=d;simp only[fL,fA,fK,fU,fO,fH,fQ,b,H]at C g m o p q r;refine⟨by omega,by omega,by omega,by omega,by omega,by omega,λN t u v=>?_⟩;have O:fR s'=1:=by simp only[fR,H];rw[XE (by omega)]
 have P:fR s=1:=by simp only[fR,b]
 have:=A (by omega) t u v;omega
def jX.alive (h:jX l x 0) (a:l[i]?=some s) (b:s.th=.queued j):∃(k:Nat) (t:Ps),l[k]?=some t/\(0<fL t\/0<fA t\/0<fK t\/0<fU t\/0<fO t\/0<fH t\/0<fR t):=by
 have⟨⟨W,S,n,d⟩,_⟩:=h;have H:=jW (f:=fQ) a;simp[fQ,b]at H;have⟨A,g,m,o,p,q,r⟩:=d;have K:0<iI fL l\/0<iI fA l\/0<iI fK l\/0<iI fU l\/0<iI fO l\/0<iI fH l\/0<iI fR l:=by omega
 rcases K with h|h|h|h|h|h|h<;>obtain⟨k,t,e,H⟩:=I8 h<;>exact⟨k,t,e,by omega⟩
end
open Go Go.Conc
structure mZ(old:Nat->Nat->Prop)(vs:Nat->Xo)(r:Xo):Prop where
 vw:∀j,@Vw (bI (old j)) (vs j) r
 lt:∀j k,old j k->k<r.heap.size
 sep:∀j k,j≠k->Sep (old j) (vs j) (old k) (vs k)
variable {old:Nat->Nat->Prop} {vs:Nat->Xo} {r:Xo}
def mZ.size (h:mZ old vs r) (j:Nat):(vs j).heap.size=r.heap.size:=by
 obtain⟨a,_⟩:=h.vw j;omega
variable {o1 o2:Nat->Prop} {v1 v2:Xo}
def Sep.symm (h:Sep o1 v1 o2 v2):Sep o2 v2 o1 v1:=
 ⟨λk C j E m f1 f2 H a b c i X d e g=>(h.cells k j C m E f2 f1 a H c b i d X g e).symm,λk X d H a b c e g=>(h.obj k d X a H c b g e).symm,λk H a=>h.right k H a,λk H a=>h.left k H a⟩
variable {r':Xo} {k:Nat}
def ml.ext {v:Xo} (h:ml v k):ml (ext v r') k:=by
 have H:k<v.heap.size:=by
  rcases h with⟨c,e,f,h,_⟩|h<;>exact(Xz.1 h).1
 unfold ml at h |-;rw[fZ H];exact h
variable {o:Obj}
def kp {c:Xv Xp} {e:XO} {f:Nat×Nat} (h:gZ o=Obj.cells c e f) {i:Nat} {x:Xp} (H:c[i]?=some x):x=hole:=by
 cases o with
 | cells C E F=>
  simp[gZ]at h
  grind
 | _=>simp[gZ]at h
def rI {x:Obj} (h:gZ o=x) (H:∀c e f,x≠Obj.cells c e f):x=Obj.coro none:=by
 cases o with
 | cells C E F=>exact XG h.symm (H _ _ _)
 | _=>exact h.symm
def Sep.step{O J:Nat->Prop}{V v r r' v':Xo}(h:Sep O V J v)(U:@Vw (bI O) V r)(y:@Vw (bI J) v r)(hv:@Vw (bI O) v' r')(W:@po (bI O) V v')(Y:r.heap.size<=r'.heap.size):Sep O v' J (YtecibefflhomdaaGreatDoor.ext v r'):=by
 obtain⟨j1,j2,j3,Z,j5,j6⟩:=U;obtain⟨k1,k2,k3,k4,k5,k6⟩:=y;obtain⟨q1,q2,q3,q4,q5,q6⟩:=hv;obtain⟨P,Q⟩:=W;have z:∀k,k<v.heap.size->∃o,V.heap[k]?=some o:=λk y=>⟨_,XL (by omega)⟩;have m:∀(k:Nat) (c:Xv Xp) (e:XO) (f:Nat×Nat),v.heap[k]?=some (Obj.cells c e f)->∃C,V.heap[k]?=some (Obj.cells C e f)/\C.size=c.size:=λk c e f y=>by
  have⟨E,a,d,_⟩:=k4 k c e f y;have⟨o,n⟩:=z k (Xz.1 y).1;cases o with
  | cells C ei fi=>
   have⟨aa,g,G,_⟩:=Z k C ei fi n;rw[a]at g;cases g;exact⟨C,n,by omega⟩
  | _=>
   exfalso;by_cases B:@Blank (bI O) V k
   .have⟨o,g,G⟩:=j5 k B;rw[a]at g;exact G _ _ _ (Xt g).symm
   .have:=j6 k _ n (λ_ _ _ h=>by cases h) B;rw[a]at this;cases this
 refine⟨λk c1 R e1 F f1 f2 a d I H i x1 X K t=>?_,λk x1 X a d I H K t=>?_,λk a d=>(h.left k a d).ext,λk a d=>?_⟩
 .rcases X8 k v.heap.size with j|p
  .rw[fZ j]at H;have⟨C,g,G⟩:=m k R F f2 H;have q:i<C.size:=by rw[G];exact(Xz.1 t).1
   have b:=XL q;rcases h.cells k C R F F f2 f2 a d g H i _ X b t with u|u
   .have⟨E,L,A,S,M⟩:=P k C F f2 g;rw[I]at A;cases A;have:=M i _ b λN=>N.elim a λw=>w u;rw[K]at this;exact .inl ((Xt this).trans u)
   grind
  .rw[lH p]at H;cases D:r'.heap[k]? with
   | none=>rw[D]at H;cases H
   | some o=>rw[D]at H;exact .inr (kp (Xt H) t)
 .rcases X8 k v.heap.size with j|p
  .rw[fZ j]at H;have⟨o,n⟩:=z k j;have hn:∀c e f,o≠Obj.cells c e f:=λc e f hc=>by
    subst hc;have⟨E,L,A,_⟩:=P k c e f n;rw[I]at A;exact K _ _ _ (Xt A)
   rcases h.obj k o X a d n H hn t with u|u
   .subst u;have:=Q k ⟨a,n⟩;rw[I]at this;exact .inl (Xt this)
   grind
  .rw[lH p]at H;cases D:r'.heap[k]? with
   | none=>rw[D]at H;cases H
   | some o=>rw[D]at H;exact .inr (rI (Xt H) t)
 .rcases h.right k a d with⟨c,e,f,g,G⟩|g
  .have⟨E,L,A,S,M⟩:=P k c e f g;refine .inl ⟨E,e,L,A,λi x w=>?_⟩;have q:i<c.size:=by rw[<- S];exact(Xz.1 w).1
   have b:=XL q;have T:=G i _ b;have:=M i _ b λN=>N.elim d λw=>w T;rw[w]at this;exact(Xt this).trans T
  .exact .inr (Q k ⟨d,g⟩)
def Sep.ext (h:Sep o1 v1 o2 v2) (t:v1.heap.size=v2.heap.size):Sep o1 (YtecibefflhomdaaGreatDoor.ext v1 r') o2 (YtecibefflhomdaaGreatDoor.ext v2 r'):=by
 refine⟨λk C p E q f1 f2 a b H e i X m g n=>?_,λk X m a b H e g n=>?_,λk a b=>(h.left k a b).ext,λk a b=>(h.right k a b).ext⟩
 .rcases X8 k v1.heap.size with c|d
  .rw[fZ c]at H;rw[fZ (by omega)]at e;exact h.cells k C p E q f1 f2 a b H e i X m g n
  .rw[lH d]at H;cases j:r'.heap[k]? with
   | none=>rw[j]at H;cases H
   | some o=>rw[j]at H;exact .inl (kp (Xt H) g)
 .rcases X8 k v1.heap.size with c|d
  .rw[fZ c]at H;rw[fZ (by omega)]at e;exact h.obj k X m a b H e g n
  .rw[lH d]at H;cases j:r'.heap[k]? with
   | none=>rw[j]at H;cases H
   | some o=>rw[j]at H;exact .inl (rI (Xt H) g)
def k9(vs:Nat->Xo)(j:Nat)(v' r':Xo):Nat->Xo:=λk=>if k=j then v' else YtecibefflhomdaaGreatDoor.ext (vs k) r'
def mZ.step{old:Nat->Nat->Prop}{vs:Nat->Xo}{r r' v':Xo}{j:Nat}(h:mZ old vs r)(hv:@Vw (bI (old j)) v' r')(g:@Kept (bI (old j)) (vs j) r r')(m:@po (bI (old j)) (vs j) v'):mZ old (k9 vs j v' r') r':=by
 have H:r.heap.size<=r'.heap.size:=by
  obtain⟨_,_,_,p,_⟩:=g;omega
 refine⟨λk=>?_,λk b c=>YT (h.lt k b c) H,λa b d=>?_⟩
 .unfold k9;by_cases e:k=j
  .grind
  .rw[Xx e];exact Vw.ext (h.vw j) (h.vw k) g (h.sep j k (by grind)) λb c=>by rw[h.size k];exact h.lt k b c
 .unfold k9;by_cases n:a=j
  .subst n;rw[XE rfl,Xx (by grind)];exact(h.sep a b d).step (h.vw a) (h.vw b) hv m H
  .rw[Xx n];by_cases c:b=j
   .subst c;rw[XE rfl];exact((h.sep b a (by grind)).step (h.vw b) (h.vw a) hv m H).symm
   .rw[Xx c];exact(h.sep a b d).ext (by rw[h.size a,h.size b])
def NO {v':Xo} {j:Nat} (h:mZ old vs r) (H:r.heap.size<=r'.heap.size) (a:k≠j):Ry (vs k) (k9 vs j v' r' k):=by
 rw[k9,Xx a];exact Ta (by rw[h.size k];exact H)
