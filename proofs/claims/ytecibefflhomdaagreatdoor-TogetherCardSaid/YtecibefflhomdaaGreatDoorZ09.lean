/-
  Part 9: .
-/
import Derived.Test.YtecibefflhomdaaGreatDoorZ00
import Derived.Conc.Events
set_option maxHeartbeats 8000000
set_option maxRecDepth 100000
set_option linter.all false
namespace Go.Proofs.YtecibefflhomdaaGreatDoor
open Go
section
def hole:Xp:=.tuple #[]
class Base where
 old:Nat->Prop
 ask:Nat->XN->Sem Next->Xo->(Xp->Xo->Prop)->Prop
 quiet:XN
class NQ[B:Base]:Prop where
 no:B.quiet=false
variable[B:Base]
def Seen(k e i:Nat)(x:Xp):Prop:=B.old k\/x≠hole
def Blank(v:Xo)(k:Nat):Prop:=¬B.old k/\v.heap[k]?=some (Obj.coro none)
def iM(v:Xo)(e:Ys):Prop:=match e.loc with
 | .cell a=>(B.old a.block->e.write=false)/\∀c el f,v.heap[a.block]?=some (Obj.cells c el f)->∀x,c[a.off]?=some x->Seen a.block el a.off x
 | .obj k=>(B.old k->e.write=false)/\¬Blank v k
 | .mark m=>m=Mark.noRoom\/∃f,m=Mark.extern f
 | _=>False
def GZ(v:Xo)(e:Ys):Prop:=match e.loc with
 | .cell a=>(∀c el f,v.heap[a.block]?=some (Obj.cells c el f)->a.off<c.size)/\¬Blank v a.block
 | .obj k=>∀c el f,v.heap[k]?≠some (Obj.cells c el f)
 | _=>True
structure Row(k:Nat)(e:XO)(c0 c c' c1:Xv Xp):Prop where
 size:c.size=c0.size
 size':c'.size=c0.size
 size1:c1.size=c0.size
 seen:∀(i:Nat) (x0:Xp),c0[i]?=some x0->Seen k e i x0->c'[i]?=c[i]?
 hid:∀(i:Nat) (x0:Xp),c0[i]?=some x0->¬Seen k e i x0->c'[i]?=c1[i]?/\c[i]?=c0[i]?
structure kz(v0 r0 v r:Xo):Prop where
 size:r.heap.size=v.heap.size
 le:v0.heap.size<=v.heap.size
 tape:r.tape=v.tape
 drawn:r.drawn=v.drawn
 rtape:r.tape=r0.tape
 os:r.os=r0.os
 out:r.output=r0.output
 cells:∀(k:Nat) (c0:Xv Xp) (e:XO) (f0:Nat×Nat),v0.heap[k]?=some (Obj.cells c0 e f0)->∃(c c':Xv Xp) (f:Nat×Nat) (c1:Xv Xp) (f1:Nat×Nat),
  v.heap[k]?=some (Obj.cells c e f)/\r.heap[k]?=some (Obj.cells c' e f)/\r0.heap[k]?=some (Obj.cells c1 e f1)/\Row k e c0 c c' c1
 blank:∀k:Nat,Blank v0 k->v.heap[k]?=some (Obj.coro none)/\r.heap[k]?=r0.heap[k]?/\∃o,r0.heap[k]?=some o/\∀c e f,o≠Obj.cells c e f
 other:∀(k:Nat) (o:Obj),v.heap[k]?=some o->(∀c e f,v0.heap[k]?≠some (Obj.cells c e f))->¬Blank v0 k->r.heap[k]?=some o
section
variable{v0 r0 v r:Xo}
variable {k:Nat} {o:Obj}
def kz.at (h:kz v0 r0 v r) (b:v.heap[k]?=some o):
 (∃C e f0,v0.heap[k]?=some (Obj.cells C e f0))\/Blank v0 k\/((∀c e f,v0.heap[k]?≠some (Obj.cells c e f))/\¬Blank v0 k/\r.heap[k]?=some o):=by
 by_cases d:∃C e f0,v0.heap[k]?=some (Obj.cells C e f0)
 .grind
 .by_cases H:Blank v0 k
  .grind
  .have a:=λc e f g=>d ⟨c,e,f,g⟩;exact .inr (.inr ⟨a,H,h.other k o b a H⟩)
def kz.gone (h:kz v0 r0 v r) (H:v.heap[k]?=none):r.heap[k]?=none:=by
 rw[Array.getElem?_eq_none_iff]at H |-;rw[h.size];exact H
def kz.shape(h:kz v0 r0 v r)(k:Nat):r.shape? k=v.shape? k:=by
 unfold World.shape?;cases H:v.heap[k]? with
 | none=>rw[h.gone H]
 | some o=>
  rcases h.at H with⟨C,e,f0,a⟩|a|⟨_,_,a⟩
  .have⟨c,m,f,n,f1,A,g,_,b⟩:=h.cells k C e f0 a;rw[H]at A;cases A;simp[g,b.size,b.size']
  .have⟨d,i,O,j,l⟩:=h.blank k a;rw[H]at d;cases d;rw[i,j];cases O with
   | cells c e f=>exact XG rfl (l c e f)
   | _=>rfl
  grind
def kz.frozen(h:kz v0 r0 v r)(a:YO):r.frozen? a=v.frozen? a:=by
 unfold World.frozen?;cases b:v.heap[a.block]? with
 | none=>rw[h.gone b]
 | some o=>
  rcases h.at b with⟨C,e,f0,H⟩|H|⟨_,_,H⟩
  .have⟨c,l,f,m,f1,A,n,_,p⟩:=h.cells _ C e f0 H
   grind
  .have⟨d,g,O,i,j⟩:=h.blank _ H;rw[b]at d;cases d;rw[g,i];cases O with
   | cells c e f=>exact XG rfl (j c e f)
   | _=>rfl
  grind
abbrev Ok0(v0:Xo)(k i:Nat):Prop:=∀(c0:Xv Xp) (e:XO) (f:Nat×Nat),v0.heap[k]?=some (Obj.cells c0 e f)->∀x,c0[i]?=some x->Seen k e i x
variable {c:Xv Xp} {e:XO} {f:Nat×Nat}
def kz.row (h:kz v0 r0 v r) (g:v.heap[k]?=some (Obj.cells c e f)):
 ∃C,r.heap[k]?=some (Obj.cells C e f)/\C.size=c.size/\∀i,Ok0 v0 k i->C[i]?=c[i]?:=by
 rcases h.at g with⟨j,e,f0,H⟩|H|⟨n,_,H⟩
 .have⟨c,C,f,p,f1,A,l,_,a⟩:=h.cells _ j e f0 H;rw[g]at A;cases A;refine⟨C,l,a.size'.trans a.size.symm,λi m=>?_⟩;rcases X8 i j.size with b|d
  .exact a.seen i _ (XL b) (m _ _ _ H _ (XL b))
  .rw[Ze (by rw[a.size'];exact d),Ze (by rw[a.size];exact d)]
 .have⟨q,_⟩:=h.blank _ H
  grind
 .grind
variable {a:YO} {x:Xp}
theorem kz.cell (h:kz v0 r0 v r) (H:v.cell? a=some x) (d:Ok0 v0 a.block a.off):r.cell? a=some x:=by
 unfold World.cell? at H |-;cases b:v.heap[a.block]? with
 | none=>rw[b]at H;cases H
 | some o=>
  rw[b]at H;cases o with
  | cells c e f=>
   have⟨C,g,_,i⟩:=h.row b
   grind
  | _=>cases H
theorem kz.MR (h:kz v0 r0 v r) (d:v.cell? a=none):r.cell? a=none:=by
 unfold World.cell? at d |-;cases H:v.heap[a.block]? with
 | none=>rw[h.gone H]
 | some o=>
  rw[H]at d;cases o with
  | cells c e f=>
   have⟨l,m,n,_⟩:=h.row H
   grind
  | _=>
   rcases h.at H with⟨C,e,f0,b⟩|b|⟨_,_,b⟩
   .have⟨_,_,_,_,_,A,_⟩:=h.cells _ C e f0 b;rw[H]at A;cases A
   .have⟨p,g,O,i,j⟩:=h.blank _ b;rw[g,i];cases O with
    | cells c e f=>exact XG rfl (j c e f)
    | _=>rfl
   .rw[b]
variable {F:Obj->Obj}
theorem oE {H:Xv Obj} {j:Nat}:(H.modify k F)[j]?=if j=k then(H[j]?).map F else H[j]?:=by
 grind
def kz.modify (h:kz v0 r0 v r) (G:∀(c c':Xv Xp) (e:XO) (f:Nat×Nat),v.heap[k]?=some (Obj.cells c e f)->r.heap[k]?=some (Obj.cells c' e f)->∃(d D:Xv Xp) (g:Nat×Nat),F (.cells c e f)=.cells d e g/\F (.cells c' e f)=.cells D e g /\
   d.size=c.size/\D.size=c'.size/\∀i,(d[i]?=c[i]?/\D[i]?=c'[i]?)\/(Ok0 v0 k i/\(c'[i]?=c[i]?->D[i]?=d[i]?))) (t:∀o,(∀c e f,o≠Obj.cells c e f)->F o=o):
 kz v0 r0 { v with heap:=v.heap.modify k F } { r with heap:=r.heap.modify k F }:=by
 refine⟨by simp[h.size],by simpa using h.le,h.tape,h.drawn,h.rtape,h.os,h.out,?_,?_,?_⟩
 .intro j I e f0 p;have⟨c,c',f,J,f1,A,u,K,b⟩:=h.cells j I e f0 p;by_cases l:j=k
  .subst l;have⟨d,D,g,L,M,S,N,w⟩:=G c c' e f A u;refine⟨d,D,g,J,f1,by simp[oE,A,L],by simp[oE,u,M],K,S.trans b.size,N.trans b.size',b.size1,λi X m n=>?_,λi X m n=>?_⟩
   .rcases w i with⟨q,Q⟩|⟨_,Q⟩
    .rw[q,Q];exact b.seen i X m n
    .exact Q (b.seen i X m n)
   .rcases w i with⟨q,Q⟩|⟨q,_⟩
    .rw[q,Q];exact b.hid i X m n
    .exact XG (q _ _ _ p _ m) n
  grind
 .intro j p;have⟨O,P,o,y,z⟩:=h.blank j p;by_cases l:j=k
  .subst l;refine⟨by simp[oE,O,t (.coro none) (by simp)],by simp[oE,P,y,t o z],o,y,z⟩
  grind
 .intro j o H C E;simp only[oE]at H |-;by_cases l:j=k
  .subst l;simp only[YB]at H |-;cases s:v.heap[j]? with
   | none=>rw[s]at H;cases H
   | some R=>rw[s]at H;rw[h.other j R s C E];exact H
  .simp only[l,XV]at H |-;exact h.other j o H C E
variable {c':Xv Xp}
def kz.setRow (h:kz v0 r0 v r) {d D:Xv Xp} (h1:v.heap[k]?=some (Obj.cells c e f)) (t:r.heap[k]?=some (Obj.cells c' e f)) (s1:d.size=c.size) (S:D.size=c'.size) (u:∀i,(d[i]?=c[i]?/\D[i]?=c'[i]?)\/(Ok0 v0 k i/\(c'[i]?=c[i]?->D[i]?=d[i]?))):
 kz v0 r0 { v with heap:=v.heap.setIfInBounds k (.cells d e f) } { r with heap:=r.heap.setIfInBounds k (.cells D e f) }:=by
 have w:=(Xz.1 h1).1;have n:k<r.heap.size:=by rw[h.size];exact w
 refine⟨by simp[h.size],by simpa using h.le,h.tape,h.drawn,h.rtape,h.os,h.out,?_,?_,?_⟩
 .intro j I J f0 p;have⟨x,T,g,K,f1,A,y,L,b⟩:=h.cells j I J f0 p;by_cases H:k=j
  .subst H;rw[h1]at A;cases A;rw[t]at y;cases y;refine⟨d,D,f,K,f1,by simp[w],by simp[n],L,s1.trans b.size,S.trans b.size',b.size1,λi X l m=>?_,λi X l m=>?_⟩
   .rcases u i with⟨Q,q⟩|⟨_,q⟩
    .rw[Q,q];exact b.seen i X l m
    .exact q (b.seen i X l m)
   .rcases u i with⟨Q,q⟩|⟨Q,_⟩
    .rw[Q,q];exact b.hid i X l m
    grind
  grind
 .intro j p;have⟨s,M,o,N,O⟩:=h.blank j p;have H:k≠j:=λP=>by subst P;rw[h1]at s;cases s
  exact⟨by simp[XJ H,s],by simp[XJ H,M],o,N,O⟩
 .intro j o z C E;by_cases H:k=j
  .subst H;have G:=h.other k _ h1 C E;rw[t]at G;have U:c'=c:=by simpa using G
   have R:D=d:=by
    apply Y9
    grind
   grind
  .simp only[XJ H]at z |-;exact h.other j o z C E
variable {y:Xp}
theorem kz.setCell (h:kz v0 r0 v r) (H:Ok0 v0 a.block a.off):kz v0 r0 (v.setCell a y) (r.setCell a y):=by
 refine h.modify (λc c' e f b d=>?_) (λo g=>?_)
 .refine⟨_,_,f,rfl,rfl,?_,?_,λi=>?_⟩
  .grind
  .split<;>simp
  grind
 grind
def kz.freeze(h:kz v0 r0 v r)(a:YO)(n:Nat):kz v0 r0 (v.freeze a n) (r.freeze a n):=by
 unfold World.freeze;split
 .omega
 .refine h.modify (λc c' e f b d=>⟨c,c',_,rfl,rfl,rfl,rfl,λi=>.inl ⟨rfl,rfl⟩⟩) λo H=>?_;cases o with
  | cells c e f=>exact XG rfl (H c e f)
  | _=>rfl
def kz.drew(h:kz v0 r0 v r):kz v0 r0 { v with drawn:=v.drawn+1 } { r with drawn:=r.drawn+1 }:=
 ⟨h.size,h.le,h.tape,by simp[h.drawn],h.rtape,h.os,h.out,h.cells,h.blank,h.other⟩
def kz.push(h:kz v0 r0 v r)(o:Obj):kz v0 r0 { v with heap:=v.heap.push o } { r with heap:=r.heap.push o }:=by
 have g:=h.size;have i:=h.le;have old:∀{j:Nat} {o:Obj},v0.heap[j]?=some o->j<v.heap.size:=λH=>YT (Xz.1 H).1 i;refine⟨by simp[g],by simp;omega,h.tape,h.drawn,h.rtape,h.os,h.out,?_,?_,?_⟩
 .intro j C e f0 b;have⟨c,c',f,n,f1,A,p,q,s⟩:=h.cells j C e f0 b
  grind
 .intro j b;have⟨t,u,O,w,z⟩:=h.blank j b
  grind
 .intro j O d l m;simp only[aac,g]at d |-;split at d
  .grind
  .rename_i H;rw[Xx H];exact h.other j O d l m
def kz.obj (h:kz v0 r0 v r) (b:v.heap[k]?=some o) (g:∀c e f,o≠Obj.cells c e f) (d:¬Blank v0 k):
 r.heap[k]?=some o/\∀c e f,v0.heap[k]?≠some (Obj.cells c e f):=by
 rcases h.at b with⟨C,e,f0,H⟩|H|⟨i,_,H⟩
 .have⟨c,_,f,_,_,A,_⟩:=h.cells _ C e f0 H
  grind
 .grind
 .grind
theorem kz.setObj (h:kz v0 r0 v r) (o:Obj) (l:∀c e f,v0.heap[k]?≠some (Obj.cells c e f)) (m:¬Blank v0 k):
 kz v0 r0 { v with heap:=v.heap.setIfInBounds k o } { r with heap:=r.heap.setIfInBounds k o }:=by
 refine⟨by simp[h.size],by simpa using h.le,h.tape,h.drawn,h.rtape,h.os,h.out,?_,?_,?_⟩
 .intro j C e f0 H;have⟨c,c',f,n,f1,A,p,q,s⟩:=h.cells j C e f0 H
  grind
 .intro j H;have⟨t,u,O,w,z⟩:=h.blank j H
  grind
 .intro j O b g i;by_cases d:k=j
  .subst d;simp only[Array.getElem?_setIfInBounds_self,h.size]at b |-;omega
  .simp only[XJ d]at b |-;exact h.other j O b g i
variable {p:YW}
theorem pZ:∀(fuel x S:Nat) {l:Xn (Nat×Nat×Xn UInt8)},seenCells p c e fuel x S=.ok l->(∀q∈l,c'[q.1]?=c[q.1]?)->seenCells p c' e fuel x S=.ok l
 | 0,_,_,_,h,_=>by simp[seenCells]at h
 | f+1,x,S,l,h,k=>by
  unfold seenCells at h |-;split at h
  .grind
  .rename_i t;rw[Xx t];simp only at h |-;split at h
   .grind
   .rename_i u;rw[Xx u];split at h
    .omega
    .rename_i i s A;split at h
     .cases h
     .rename_i v w;split at h
      .cases h
      .cases h
      .rename_i d H g;cases j:seenCells p c e f (s+d.length) S with
       | error m=>rw[j]at h;cases h
       | ok L=>
        rw[j]at h;simp only[Except.map,aaF]at h;subst h;have n:=k (i,s,d) (by simp);simp only at n;rw[n,w];simp only[g];rw[pZ f _ _ j λq z=>k q (by simp[z])];cases d with
        | nil=>exact XG rfl H
        | cons b d=>rfl
variable {at_:YO} {u:XO} {atm:XN} {fz:Nat×Nat} {first:Nat} {like:Xp} {cells:Xn (Nat×Nat×Xn UInt8)}
theorem kz.R7 (h:kz v0 r0 v r) {k:YO} (H:v.seen p at_ u k atm=.ok (c,e,fz,first,like,cells)) (t:∀q∈cells,Ok0 v0 at_.block q.1):
 v.heap[at_.block]?=some (Obj.cells c e fz)/\∃c',r.heap[at_.block]?=some (Obj.cells c' e fz)/\r.seen p at_ u k atm=.ok (c',e,fz,first,like,cells):=by
 cases j:v.heap[at_.block]? with
 | none=>
  rw[World.seen,j]at H;simp only[bind,Except.bind,throw,throwThe,MonadExcept.throw,MonadExceptOf.throw,pure,Except.pure]at H
  repeat' split at H
  all_goals cases H
 | some o=>
  cases o with
  | cells C E f2=>
   have⟨c',z,G,A⟩:=h.row j;unfold World.seen at H |-;rw[j]at H;rw[z];simp only[bind,Except.bind,throw,throwThe,MonadExcept.throw,MonadExceptOf.throw,pure,Except.pure]at H |-;cases Q:(k.spot.isSome||at_.spot.isSome)with
   | true=>simp only[Q,YB]at H;cases H
   | false=>
    cases b:plainCell p p.depth u k.off with
    | none=>simp only[Q,b]at H;cases H
    | some L=>
     cases d:Option.map (λx=>x.length) L.bytes? with
     | none=>simp only[Q,b,d]at H;cases H
     | some size=>
      cases g:byteOfCell p p.depth u k.off with
      | none=>simp only[Q,b,d,g]at H;cases H
      | some β=>
       by_cases i:p.cellsOf E=0
       .simp only[Q,b,d,g,i,YB]at H;cases H
       .cases n:byteOfCell p p.depth E (at_.off%p.cellsOf E)with
        | none=>simp only[Q,b,d,g,i,n,XV,YB]at H;cases H
        | some w=>
         cases s:seenCells p C E (size+1) (at_.off / p.cellsOf E*p.bytesOf E+w+β) (at_.off / p.cellsOf E*p.bytesOf E+w+β+size)with
         | error m=>simp only[Q,b,d,g,i,n,s,XV,YB]at H;cases H
         | ok l=>
          have K:(C,E,f2,at_.off / p.cellsOf E*p.bytesOf E+w+β,L,l)=(c,e,fz,first,like,cells):=by
           simp only[Q,b,d,g,i,n,s,XV,YB]at H
           repeat' split at H
           all_goals first|exact Except.ok.inj H|cases H
          have kl:l=cells:=by cases K;rfl
          simp only[Q,b,d,g,i,n,s,pZ (c':=c') _ _ _ s λq D=>A _ (t q (kl▸D)),XV,YB]at H |-
          grind
  | _=>
   rw[World.seen,j]at H;simp only[bind,Except.bind,throw,throwThe,MonadExcept.throw,MonadExceptOf.throw,pure,Except.pure]at H
   repeat' split at H
   all_goals cases H
variable {l:Xn YO}
theorem kz.viewLoad (h:kz v0 r0 v r) {k:YO} (H:v.viewLoad p at_ u k atm=.ok (x,l)) (b:∀a∈l,Ok0 v0 a.block a.off):r.viewLoad p at_ u k atm=.ok (x,l):=by
 unfold World.viewLoad at H |-;cases q:v.seen p at_ u k atm with
 | error m=>rw[q]at H;cases H
 | ok z=>
  have⟨c,e,fz,first,like,cells⟩:=z;rw[q]at H;have d:l=cells.map λq=>({ block:=at_.block,off:=q.1 }:YO):=by
   simp[bind,Except.bind,throwThe,MonadExcept.throw,MonadExceptOf.throw,pure,Except.pure]at H
   grind
  have⟨_,c',_,g⟩:=h.R7 q λq i=>b { block:=at_.block,off:=q.1 } (d▸XA.2 ⟨q,i,rfl⟩);rwa[g]
def UI(bytes:Xn UInt8)(first:Nat)(frozen:Nat×Nat)(c:Xv Xp)(q:Nat×Nat×Xn UInt8):YH YG (Xv Xp):=match q with
 | (i,s,b)=>do
  if s<first||s+b.length > first+bytes.length then MonadExcept.throw "memory seen as another type: a part of a cell written"
  if frozen.1<=i&&i<frozen.2 then MonadExcept.throw "a write to bytes that a string shares"
  let some old:=c[i]? | MonadExcept.throw "memory seen as another type: no such cell"
  let some new:=old.ofBytes ((bytes.drop (s-first)).take b.length)|MonadExcept.throw "memory seen as another type: a bool from a byte other than 0 or 1"
  pure (c.setIfInBounds i new)
theorem Bg {bytes:Xn UInt8} {frozen:Nat×Nat}:∀(cells:Xn (Nat×Nat×Xn UInt8)) (c c':Xv Xp) {d:Xv Xp},
 (cells.foldlM (UI bytes first frozen) c)=.ok d->c'.size=c.size->(∀q∈cells,c'[q.1]?=c[q.1]?) ->
 ∃D,(cells.foldlM (UI bytes first frozen) c')=.ok D/\d.size=c.size/\D.size=c'.size /\
  (∀i,(c'[i]?=c[i]?->D[i]?=d[i]?)/\((∀q∈cells,q.1≠i)->d[i]?=c[i]?/\D[i]?=c'[i]?))
 | [],c,c',d,h,w,_=>by
  simp only[List.foldlM,pure,Except.pure,aaF]at h |-;subst h;exact⟨c',rfl,rfl,rfl,λi=>⟨id,λ_=>⟨rfl,rfl⟩⟩⟩
 | (j,s,m)::l,c,c',d,h,w,A=>by
  have n:=A (j,s,m) (by simp);simp only at n;simp only[List.foldlM]at h |-;simp only[UI,bind,Except.bind,throw,throwThe,MonadExcept.throw,MonadExceptOf.throw,pure,Except.pure]at h |-;by_cases t1:(decide (s<first)||decide (s+m.length > first+bytes.length))=true
  .simp only[t1,YB]at h;cases h
  .by_cases t2:(decide (frozen.1<=j)&&decide (j<frozen.2))=true
   .simp only[t1,t2,YB,XV]at h;cases h
   .simp only[t1,t2,XV]at h |-;cases t3:c[j]? with
    | none=>simp only[t3]at h;cases h
    | some old=>
     rw[t3]at n;simp only[t3]at h;simp only[n];cases t4:old.ofBytes ((bytes.drop (s-first)).take m.length)with
     | none=>simp only[t4]at h;cases h
     | some new=>
      simp only[t4]at h |-;have g:j<c.size:=(Xz.1 t3).1;have b:j<c'.size:=by omega
      obtain⟨D,I,J,K,E⟩:=Bg l (c.setIfInBounds j new) (c'.setIfInBounds j new) h (by simpa using w) λz t=>by
       by_cases H:j=z.1
       .rw[<- H];simp[g,b]
       .rw[XJ H,XJ H];exact A z (by simp[t])
      refine⟨D,I,by simpa using J,by simpa using K,λi=>⟨λL=>(E i).1 ?_,λC=>?_⟩⟩
      .by_cases H:j=i
       .rw[<- H];simp[g,b]
       .rw[XJ H,XJ H];exact L
      .have H:j≠i:=C (j,s,m) (by simp);obtain⟨Y,G⟩:=(E i).2 λz t=>C z (by simp[t]);rw[XJ H]at Y G;exact⟨Y,G⟩
theorem Cw(p:YW)(w:Xo)(at_:YO)(u:XO)(k:YO)(v:Xp)(A:XN):w.viewStore p at_ u k v A=(do
 if !tight p p.depth u then MonadExcept.throw "memory seen as another type: a store through a type with padding"
 let (c,e,frozen,first,like,cells) <- w.seen p at_ u k A
 let some bytes:=v.bytes? | MonadExcept.throw "memory seen as another type: a value that is no plain data"
 if some bytes.length≠like.bytes?.map (·.length)then MonadExcept.throw "memory seen as another type: a value of another size"
 let c <- cells.foldlM (UI bytes first frozen) c
 pure ({ w with heap:=w.heap.setIfInBounds at_.block (.cells c e frozen) },cells.map λ(i,_,_)=>{ block:=at_.block,off:=i }):YH YG (Xo×Xn YO)):=rfl
def kz.viewStore (h:kz v0 r0 v r) {k:YO} {v':Xo} (H:v.viewStore p at_ u k x atm=.ok (v',l)) (j:∀a∈l,Ok0 v0 a.block a.off):∃r',r.viewStore p at_ u k x atm=.ok (r',l)/\kz v0 r0 v' r':=by
 rw[Cw]at H |-;cases n:tight p p.depth u with
 | false=>rw[n]at H;cases H
 | true=>
  cases q:v.seen p at_ u k atm with
  | error m=>rw[n,q]at H;cases H
  | ok z=>
   obtain⟨c,e,fz,first,like,cells⟩:=z;rw[n,q]at H;cases t:x.bytes? with
   | none=>rw[t]at H;cases H
   | some bytes=>
    rw[t]at H;by_cases Q:some bytes.length≠like.bytes?.map (·.length)
    .simp only[bind,Except.bind,throw,throwThe,MonadExcept.throw,MonadExceptOf.throw,pure,Except.pure,Q,YB,ne_eq,Z2,ZX,XM,XV,ZJ]at H;cases H
    .cases s:cells.foldlM (UI bytes first fz) c with
     | error m=>
      exfalso;simp only[bind,Except.bind,throw,throwThe,MonadExcept.throw,MonadExceptOf.throw,pure,Except.pure,Q,YB,ne_eq,Z2,ZX,XM,XV,ZJ,s]at H;cases H
     | ok d=>
      simp only[bind,Except.bind,throw,throwThe,MonadExcept.throw,MonadExceptOf.throw,pure,Except.pure,Q,YB,ne_eq,Z2,ZX,XM,XV,ZJ,s,aaF,XI]at H;obtain⟨rfl,rfl⟩:=H;have b:∀q∈cells,Ok0 v0 at_.block q.1:=λq g=>j { block:=at_.block,off:=q.1 } (XA.2 ⟨q,g,rfl⟩);obtain⟨w,c',A,D⟩:=h.R7 q b;obtain⟨I,G,J,K⟩:=h.row w;rw[A]at G;cases G;obtain⟨L,M,N,O,E⟩:=Bg cells c c' s J λq g=>K _ (b q g);rw[D];refine⟨{ r with heap:=r.heap.setIfInBounds at_.block (.cells L e fz) },?_,?_⟩
      .simp only[bind,Except.bind,throw,throwThe,MonadExcept.throw,MonadExceptOf.throw,pure,Except.pure,Q,YB,ne_eq,Z2,ZX,XM,XV,ZJ,M]
      .exact h.setRow w A N O λi=>by
        by_cases C:∀q∈cells,q.1≠i
        .exact .inl ((E i).2 C)
        .refine .inr ⟨?_,(E i).1⟩;have:∃q∈cells,q.1=i:=YQ λP=>C λq g R=>P ⟨q,g,R⟩;obtain⟨q,g,rfl⟩:=this;exact b q g
variable {α:Type}
theorem kg (P:YW) (s:Sem α) (w:Xo) (es:Xv Ys):∀e∈es,e∈(s.runT P w es).2:=by
 induction s generalizing w es with
 | pure a=>exact λe h=>h
 | load m a k i=>
  intro e h;simp only[Sem.runT]
  grind
 | store m a v k i=>
  intro e h;cases v<;>simp only[Sem.runT]<;>first
   | exact h
   | (split
      .grind
      .split
       .exact i _ _ e (by simp[h])
       .exact h)
 | new o k i=>exact λe h=>i _ _ _ e h
 | shape r k i=>exact λe h=>i _ _ _ e h
 | freeze a n k i=>exact λe h=>i _ _ e h
 | frozen a k i=>exact λe h=>i _ _ _ e h
 | getObj r k i=>
  intro e h;simp only[Sem.runT]
  grind
 | setObj r o k i=>
  intro e h;simp only[Sem.runT]
  grind
 | choose q k i=>
  intro e h;simp only[Sem.runT]
  grind
 | sys c k i=>exact λe h=>i _ _ _ e (by simp[h])
 | program k i=>exact λe h=>i _ _ _ e h
 | mark m k i=>exact λe h=>i _ _ e (by simp[h])
 | halt H=>exact λe h=>h
theorem tE:∀(fuel x S:Nat) {l:Xn (Nat×Nat×Xn UInt8)},seenCells p c e fuel x S=.ok l->∀q∈l,q.1<c.size
 | 0,_,_,_,h=>by simp[seenCells]at h
 | f+1,x,S,l,h=>by
  unfold seenCells at h;split at h
  .grind
  .simp only at h;split at h
   .grind
   .split at h
    .grind
    .rename_i i s n;split at h
     .grind
     .split at h
      .grind
      .cases h
      .rename_i d g j;cases H:seenCells p c e f (s+d.length) S with
       | error m=>rw[H]at h;cases h
       | ok L=>
        rw[H]at h;simp only[Except.map,aaF]at h;subst h;intro q b;rcases XW.1 b with rfl|b
        .grind
        .exact tE f _ _ H q b
variable {w:Xo}
def Ex {k:YO} (h:w.seen p at_ u k atm=.ok (c,e,fz,first,like,cells)):w.heap[at_.block]?=some (Obj.cells c e fz)/\∀q∈cells,q.1<c.size:=by
 unfold World.seen at h;simp[bind,Except.bind,throwThe,MonadExcept.throw,MonadExceptOf.throw,pure,Except.pure]at h
 repeat' split at h
 all_goals first|(cases h;done)|skip
 all_goals
  simp at h;obtain⟨rfl,rfl,rfl,_,_,rfl⟩:=h;rename_i H _;refine⟨by grind,?_⟩;exact tE _ _ _ (by assumption)
theorem wD {k:YO} (h:w.viewLoad p at_ u k atm=.ok (x,l)):
 ∃c e f,w.heap[at_.block]?=some (Obj.cells c e f)/\∀a∈l,a.block=at_.block/\a.off<c.size:=by
 unfold World.viewLoad at h;cases q:w.seen p at_ u k atm with
 | error m=>rw[q]at h;cases h
 | ok z=>
  have⟨c,e,fz,first,like,cells⟩:=z;have H:l=cells.map λq=>({ block:=at_.block,off:=q.1 }:YO):=by
   simp[bind,Except.bind,throwThe,MonadExcept.throw,MonadExceptOf.throw,pure,Except.pure]at h
   grind
  have⟨b,d⟩:=Ex q
  grind
theorem tF {w':Xo} {k:YO} (h:w.viewStore p at_ u k x atm=.ok (w',l)):
 ∃c e f,w.heap[at_.block]?=some (Obj.cells c e f)/\∀a∈l,a.block=at_.block/\a.off<c.size:=by
 unfold World.viewStore at h;cases q:w.seen p at_ u k atm with
 | error m=>
  simp only[bind,Except.bind,throw,throwThe,MonadExcept.throw,MonadExceptOf.throw,pure,Except.pure]at h
  grind
 | ok z=>
  have⟨c,e,fz,first,like,cells⟩:=z;have H:l=cells.map λq=>({ block:=at_.block,off:=q.1 }:YO):=by
   simp only[bind,Except.bind,throw,throwThe,MonadExcept.throw,MonadExceptOf.throw,pure,Except.pure]at h
   grind
  have⟨b,d⟩:=Ex q
  grind
theorem tG (h:w.cell? a=some y):∃c e f,w.heap[a.block]?=some (Obj.cells c e f)/\a.off<c.size:=by
 unfold World.cell? at h;cases H:w.heap[a.block]? with
 | none=>rw[H]at h;cases h
 | some o=>
  rw[H]at h;cases o with
  | cells c e f=>
   grind
  | _=>cases h
variable {wr sy:XN}
def kz.inr (h:kz v0 r0 v r) (H:v.heap[a.block]?=some (Obj.cells c e f)) (b:a.off<c.size):GZ v0 ⟨.cell a,wr,sy⟩:=by
 refine⟨λC E f0 d=>?_,λg=>?_⟩
 .have⟨j,_,_,_,_,A,_,_,i⟩:=h.cells _ C E f0 d;rw[H]at A;cases A;rw[<- i.size];exact b
 .have:=(h.blank _ g).1
  grind
def kz.UJ (h:kz v0 r0 v r) (b:v.heap[k]?=some o) (d:∀c e f,o≠Obj.cells c e f):GZ v0 ⟨.obj k,wr,sy⟩:=λC E f0 H=>by
 have⟨g,_,_,_,_,A,_⟩:=h.cells _ C E f0 H
 grind
variable {es:Xv Ys}
def pn {A M:Xo->Prop} {E es':Xv Ys} (h:∃R,A R/\M R/\∀e∈es',e∈E\/GZ v0 e) (k:∀e∈E,e∈es\/GZ v0 e):∃R,A R/\M R/\∀e∈es',e∈es\/GZ v0 e:=
 let ⟨R,a,b,c⟩:=h;⟨R,a,b,λe H=>(c e H).elim (k e) .inr⟩
def tH {x:Ys} (h:GZ v0 x):∀e∈es.push x,e∈es\/GZ v0 e:=λe H=>(aaN.1 H).imp id λH=>by grind
theorem MS {F:YO->Ys} (h:∀a∈l,GZ v0 (F a)):∀e∈es++l.toArray.map F,e∈es\/GZ v0 e:=λe H=>(abe.1 H).imp id λH=>by
 grind
def kz.runs (P:YW) (s:Sem α):∀{v r:Xo},kz v0 r0 v r->∀{es es':Xv Ys} {x:α} {v':Xo},s.runT P v es=(.ok x v',es')->(∀e∈es',iM v0 e) ->
 ∃R,s.runT P r es=(.ok x R,es')/\kz v0 r0 v' R/\∀e∈es',e∈es\/GZ v0 e:=by
 induction s with
 | pure a=>
  intro v r h es es' x v' H _;simp only[Sem.runT,XI,abv]at H;obtain⟨⟨rfl,rfl⟩,rfl⟩:=H;exact⟨r,rfl,h,λe Z=>.inl Z⟩
 | load m a k i=>
  intro v r h es es' x v' H d;simp only[Sem.runT]at H |-;cases t:v.cell? a with
  | some y=>
   rw[t]at H;simp only at H;have j:=d ⟨.cell a,false,m==.atomic⟩ (by have:=kg P (k y) v (es.push ⟨.cell a,false,m==.atomic⟩) ⟨.cell a,false,m==.atomic⟩ (by simp);rw[H]at this;exact this);rw[h.cell t j.2];obtain⟨_,_,_,E,I⟩:=tG t;exact pn (i _ h H d) (tH (h.inr E I))
  | none=>
   rw[t]at H;rw[h.MR t];simp only at H |-;unfold World.farLoad at H |-;cases g:v.heap[a.block]? with
   | none=>rw[g]at H;simp at H
   | some o=>
    rw[g]at H;cases o with
    | view at_ u=>
     simp only at H;cases C:v.viewLoad P at_ u a (m==.atomic)with
     | error e=>rw[C]at H;simp at H
     | ok z=>
      obtain⟨y,l⟩:=z;rw[C]at H;simp only at H;have G:r.heap[a.block]?=some (Obj.view at_ u):=by
       rcases h.at g with⟨O,e,f0,A⟩|A|⟨_,_,A⟩
       .obtain⟨_,_,_,_,_,J,_⟩:=h.cells _ O e f0 A;rw[g]at J;cases J
       .obtain⟨K,_⟩:=h.blank _ A;rw[g]at K;cases K
       .exact A
      have Q:∀b∈l,Ok0 v0 b.block b.off:=λb G=>by
       have:=d ⟨.cell b,false,m==.atomic⟩ (by
        have:=kg P (k y) v (es++l.toArray.map (⟨.cell ·,false,m==.atomic⟩)) ⟨.cell b,false,m==.atomic⟩ (by simp[G]);rw[H]at this;exact this)
       exact this.2
      rw[G];simp only;rw[h.viewLoad C Q];obtain⟨_,_,_,E,I⟩:=wD C;exact pn (i _ h H d) (MS λa L=>h.inr (by rw[(I a L).1];exact E) (I a L).2)
    | _=>simp at H
 | store m a y k i=>
  intro v r h es es' x v' H d;by_cases S:(∃u,y=.agg u)\/∃u,y=.tuple u
  .rcases S with⟨u,rfl⟩|⟨u,rfl⟩<;>simp[Sem.runT]at H
  .have e1:∀w,(Sem.store m a y k).runT P w es=match w.cell? a with
    | some _=>if w.frozen? a then(.halt (.unsupported (.unsafePointer "a write to bytes that a string shares")) w,es)else k.runT P (w.setCell a y) (es.push ⟨.cell a,true,m==.atomic⟩)
    | none=>match w.farStore P a y (m==.atomic)with
     | .ok (w,T)=>k.runT P w (es++T.toArray.map (⟨.cell ·,true,m==.atomic⟩))
     | .error h=>(.halt h w,es):=by
    intro w;cases y<;>first|(exact XG (.inl ⟨_,rfl⟩) S)|(exact XG (.inr ⟨_,rfl⟩) S)|rfl
   rw[e1]at H |-;cases t:v.cell? a with
   | some z=>
    rw[t]at H;simp only at H;split at H
    .simp at H
    .rename_i hf;have j:=d ⟨.cell a,true,m==.atomic⟩ (by have:=kg P k (v.setCell a y) (es.push ⟨.cell a,true,m==.atomic⟩) ⟨.cell a,true,m==.atomic⟩ (by simp);rw[H]at this;exact this);rw[h.cell t j.2];simp only[h.frozen,hf];obtain⟨_,_,_,E,I⟩:=tG t;exact pn (i (h.setCell j.2) H d) (tH (h.inr E I))
   | none=>
    rw[t]at H;rw[h.MR t];simp only at H |-;unfold World.farStore at H |-;cases g:v.heap[a.block]? with
    | none=>rw[g]at H;simp at H
    | some o=>
     rw[g]at H;cases o with
     | view at_ u=>
      simp only at H;cases C:v.viewStore P at_ u a y (m==.atomic)with
      | error e=>rw[C]at H;simp at H
      | ok z=>
       obtain⟨w',l⟩:=z;rw[C]at H;simp only at H;have G:r.heap[a.block]?=some (Obj.view at_ u):=by
        rcases h.at g with⟨O,e,f0,A⟩|A|⟨_,_,A⟩
        .obtain⟨_,_,_,_,_,J,_⟩:=h.cells _ O e f0 A;rw[g]at J;cases J
        .obtain⟨K,_⟩:=h.blank _ A;rw[g]at K;cases K
        .exact A
       have Q:∀b∈l,Ok0 v0 b.block b.off:=λb G=>by
        have:=d ⟨.cell b,true,m==.atomic⟩ (by
         have:=kg P k w' (es++l.toArray.map (⟨.cell ·,true,m==.atomic⟩)) ⟨.cell b,true,m==.atomic⟩ (by simp[G]);rw[H]at this;exact this)
        exact this.2
       rw[G];simp only;obtain⟨R,M,U⟩:=h.viewStore C Q;rw[M];obtain⟨_,_,_,E,I⟩:=tF C;exact pn (i U H d) (MS λa L=>h.inr (by rw[(I a L).1];exact E) (I a L).2)
     | _=>simp at H
 | new o k i=>
  intro v r h es es' x v' H d;simp only[Sem.runT]at H |-;rw[h.size];exact i _ (h.push o) H d
 | shape b k i=>
  intro v r h es es' x v' H d;simp only[Sem.runT]at H |-;rw[h.shape];exact i _ h H d
 | freeze a n k i=>
  intro v r h es es' x v' H d;simp only[Sem.runT]at H |-;exact i (h.freeze a n) H d
 | frozen a k i=>
  intro v r h es es' x v' H d;simp only[Sem.runT]at H |-;rw[h.frozen];exact i _ h H d
 | getObj b k i=>
  intro v r h es es' x v' H d;cases g:v.heap[b]? with
  | none=>simp only[Sem.runT]at H;rw[g]at H;simp at H
  | some o=>
   by_cases D:∀c e f,o≠Obj.cells c e f
   .have N:∀w:Xo,w.heap[b]?=some o->(Sem.getObj b k).runT P w es=(k o).runT P w (es.push ⟨.obj b,false,o.isChan⟩):=λw V=>by
     cases o<;>first|(exact XG rfl (D _ _ _))|simp only[Sem.runT,V]
    rw[N v g]at H;have j:=d ⟨.obj b,false,o.isChan⟩ (by have:=kg P (k o) v (es.push ⟨.obj b,false,o.isChan⟩) ⟨.obj b,false,o.isChan⟩ (by simp);rw[H]at this;exact this);obtain⟨M,_⟩:=h.obj g D j.2;rw[N r M];exact pn (i _ h H d) (tH (h.UJ g D))
   .exfalso;apply D;intro c e f W;subst W;simp only[Sem.runT]at H;rw[g]at H;simp at H
 | setObj b o k i=>
  intro v r h es es' x v' H d;cases g:v.heap[b]? with
  | none=>simp only[Sem.runT]at H;rw[g]at H;simp at H
  | some X=>
   by_cases D:∀c e f,X≠Obj.cells c e f
   .have N:∀w:Xo,w.heap[b]?=some X->(Sem.setObj b o k).runT P w es=k.runT P { w with heap:=w.heap.setIfInBounds b o } (es.push ⟨.obj b,true,o.isChan⟩):=λw V=>by
     cases X<;>first|(exact XG rfl (D _ _ _))|simp only[Sem.runT,V]
    rw[N v g]at H;have j:=d ⟨.obj b,true,o.isChan⟩ (by have:=kg P k { v with heap:=v.heap.setIfInBounds b o } (es.push ⟨.obj b,true,o.isChan⟩) ⟨.obj b,true,o.isChan⟩ (by simp);rw[H]at this;exact this);obtain⟨M,U⟩:=h.obj g D j.2;rw[N r M];exact pn (i (h.setObj o U j.2) H d) (tH (h.UJ g D))
   .exfalso;apply D;intro c e f W;subst W;simp only[Sem.runT]at H;rw[g]at H;simp at H
 | choose q k i=>
  intro v r h es es' x v' H d;simp only[Sem.runT]at H |-;split at H
  .rename_i Y;rw[XE Y];exact i _ h H d
  .rename_i Y;rw[Xx Y,h.drawn,h.tape];have:=h.drew;rw[h.drawn,h.tape]at this;exact i _ this H d
 | sys c k i=>
  intro v r h es es' x v' H d;simp only[Sem.runT]at H;have:=kg P (k (v.sys c).1) (v.sys c).2 (es.push ⟨.output,true,false⟩) ⟨.output,true,false⟩ (by simp);rw[H]at this;exact(d _ this).elim
 | program k i=>
  intro v r h es es' x v' H d;simp only[Sem.runT]at H |-;exact i _ h H d
 | mark m k i=>
  intro v r h es es' x v' H d;simp only[Sem.runT]at H |-;exact pn (i h H d) (tH Xr)
 | halt h'=>
  intro v r h es es' x v' H d;simp[Sem.runT]at H
