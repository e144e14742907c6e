/-
  Part 20: ; .
-/
import Derived.Test.YtecibefflhomdaaGreatDoorZ19
import Derived.Conc.LockTrace
set_option maxHeartbeats 8000000
set_option maxRecDepth 100000
set_option linter.all false
namespace Go.Proofs.YtecibefflhomdaaGreatDoor
open Go
section
open Go Go.Conc Go.ConcN
def j7:Loc->Nat
 | .cell a=>a.block
 | .obj k=>k
 | _=>0
def Com(t:Trace)(j i:Nat):Prop:=∀g,g<=j->Knows t g i
variable {t:Trace} {i:Nat}
def Com.app {j:Nat} (u:Trace) (h:Com t j i):Com (t++u) j i:=λg H=>(h g H).app u
structure Dj(n:Nat)(See:Nat->Loc->Prop)(SL Rd Sh:Loc->Prop):Prop where
 ss:∀k k' l,See k l->See k' l->k=k'
 sl:∀k l,See k l->¬SL l
 sr:∀k l,See k l->¬Rd l
 sh:∀k l,See k l->¬Sh l
 lr:∀l,SL l->¬Rd l
 lh:∀l,SL l->¬Sh l
 rh:∀l,Rd l->¬Sh l
 ltS:∀k l,See k l->j7 l<n
 ltL:∀l,SL l->j7 l<n
 ltR:∀l,Rd l->j7 l<n
 ltH:∀l,Sh l->j7 l<n
structure TI(t:Trace)(j n:Nat)(See:Nat->Loc->Prop)(SL Rd Sh:Loc->Prop)(a:YO):Prop where
 own:∀g l,See g l->Perm t g l
 free:∀l,SL l->∀i x,touchAt t i=some x->x.loc=l->Com t j i\/∃p,t.act? p=some (.mark (.releaseMerge a))/\t.heard p/\Before t i p
 rd:∀i x,touchAt t i=some x->Rd x.loc->Com t j i\/x.write=false
 sh:∀i op x,t[i]?=some op->op.act.touch?=some x->Sh x.loc->Com t j i\/(x.kind≠.plain/\(x.kind=.said->op.g=0))
 norel:∀i b,t.act? i≠some (.mark (.release b))
 nr:∀said,¬Race said t
 gs:∀(i:Nat) (op:MemOp),t[i]?=some op->op.g<=j
 fresh:∀i x,touchAt t i=some x->j7 x.loc<n
def P8(n n':Nat)(See:Nat->Loc->Prop)(Rd Sh:Loc->Prop)(g:Nat)(op:MemOp):Prop:=
 op.g=g/\(∀b,op.act≠.mark (.release b))/\∀x,op.act.touch?=some x->j7 x.loc<n'/\(See g x.loc\/n<=j7 x.loc\/(Rd x.loc/\x.write=false)\/(Sh x.loc/\x.kind≠.plain/\(x.kind=.said->g=0)))
section
variable{t u:Trace}{j n n' g:Nat}{See See':Nat->Loc->Prop}{SL Rd Sh:Loc->Prop}{a:YO}
def BD(h:∀i b,t.act? i≠some (.mark (.release b)))(k:∀o∈u,∀b,o.act≠.mark (.release b)):∀i b,(t++u).act? i≠some (.mark (.release b)):=λi b e=>by
 have⟨o,d,H⟩:=Yw.1 e;rcases getElem?_append_cases d with⟨l,c⟩|⟨_,f⟩
 .exact h i b (by rw[act?_of c,H])
 grind
def TI.app(d:Dj n See SL Rd Sh)(h:TI t j n See SL Rd Sh a)(M:g<=j)(Q:n<=n')(q:∀o∈u,P8 n n' See Rd Sh g o)(R:∀k l,k≠g->See' k l->See k l)(T:∀l,See' g l->See g l\/n<=j7 l):TI (t++u) j n' See' SL Rd Sh a:=by
 refine⟨λk l y=>?_,λl y i x m e=>?_,λi x m G=>?_,λi o x D m I=>?_,BD h.norel λo f=>(q o f).2.1,λS=>?_,λi o D=>?_,λi x m=>?_⟩
 .by_cases F:k=g
  .subst F;have U:Perm t k l:=by
    rcases T l y with r|r
    .exact h.own k l r
    .exact λi x m e=>XG (h.fresh i x m) (by rw[e];omega)
   exact U.app λo f _ _ _=>(q o f).1
  .have r:=R k l F y;refine(h.own k l r).app λo f b N e=>?_;have⟨_,_,O⟩:=q o f;rcases(O b N).2 with H|H|⟨H,_⟩|⟨H,_⟩
   .exact XG (d.ss k g l r (e▸H)) F
   .have:=d.ltS k l r;rw[e]at H;omega
   .exact XG (e▸H) (d.sr k l r)
   .exact XG (e▸H) (d.sh k l r)
 .have⟨z,A,c⟩:=touch_of m;rcases getElem?_append_cases A with⟨D,s⟩|⟨_,v⟩
  .rcases h.free l y i x (by rw[touchAt_of s];exact c) e with F|⟨p,r,V,O⟩
   .exact .inl (F.app u)
   .have P:=lt_of_act? r;exact .inr ⟨p,by rw[act?_old P];exact r,(heard_old P).2 V,O.app u⟩
  .exfalso;subst e;rcases((q z v).2.2 x c).2 with H|H|⟨H,_⟩|⟨H,_⟩
   .exact d.sl g _ H y
   .have:=d.ltL _ y;omega
   .exact d.lr _ y H
   .exact d.lh _ y H
 .have⟨z,A,c⟩:=touch_of m;rcases getElem?_append_cases A with⟨D,s⟩|⟨_,v⟩
  .exact(h.rd i x (by rw[touchAt_of s];exact c) G).imp (λh=>h.app u) id
  .rcases((q z v).2.2 x c).2 with H|H|⟨_,H⟩|⟨H,_⟩
   .exact XG G (d.sr g _ H)
   .have:=d.ltR _ G;omega
   .grind
   .exact XG H (d.rh _ G)
 .rcases getElem?_append_cases D with⟨_,B⟩|⟨_,w⟩
  .exact(h.sh i o x B m I).imp (λh=>h.app u) id
  .rcases((q o w).2.2 x m).2 with H|H|⟨H,_⟩|⟨_,H,J⟩
   .exact XG I (d.sh g _ H)
   .have:=d.ltH _ I;omega
   .exact XG I (d.rh _ H)
   .exact .inr ⟨H,λe=>by rw[(q o w).1];exact J e⟩
 .refine noRace_append (h.nr S) (λo f=>(q o f).1) λi x m o f b N E=>?_;rcases((q o f).2.2 b N).2 with H|H|⟨H,J⟩|⟨H,J,X⟩
  .exact h.own g _ H i x m E.1
  .have:=h.fresh i x m;rw[E.1]at this;omega
  .rcases h.rd i x m (by rw[E.1];exact H)with C|C
   .exact C g M
   .rcases E.2.2.1 with K|K
    .rw[C]at K;cases K
    grind
  .have⟨z,A,c⟩:=touch_of m;rcases h.sh i z x A c (by rw[E.1];exact H)with C|⟨C,K⟩
   .exact C g M
   .rcases E.2.2.2 with L|L|⟨_,L,W⟩
    .exact XG L C
    .exact XG L J
    .have:=knows_own A
     grind
 .rcases getElem?_append_cases D with⟨_,B⟩|⟨_,w⟩
  .exact h.gs i o B
  .rw[(q o w).1];exact M
 .have⟨z,A,c⟩:=touch_of m;rcases getElem?_append_cases A with⟨D,s⟩|⟨_,v⟩
  .exact YT (h.fresh i x (by rw[touchAt_of s];exact c)) Q
  .exact((q z v).2.2 x c).1
variable {z:MemOp}
def Tb (e:z.act.touch?=none) {i:Nat} {x:Touch} (b:touchAt (t++#[z]) i=some x):touchAt t i=some x:=by
 have⟨y,c,h⟩:=touch_of b;rcases getElem?_append_cases c with⟨_,H⟩|⟨_,d⟩
 .rw[touchAt_of H];exact h
 grind
def TI.still (d:Dj n See SL Rd Sh) (h:TI t j n See SL Rd Sh a) (c:z.g<=j) (f:z.act.touch?=none) (e:∀b,z.act≠.mark (.release b)):TI (t++#[z]) j n See SL Rd Sh a:=
 h.app d c (by grind) (λo H=>by simp at H;subst H;exact⟨rfl,e,λx k=>by grind⟩) (λ_ _ _ h=>h) λ_ h=>.inl h
variable {SL':Loc->Prop}
def TI.acquire (d:Dj n See SL Rd Sh) (h:TI t j n See SL Rd Sh a) (q:z.g<=j) (f:z.act=.mark (.acquire a)) (s:Deaf t z.g=0) (K:∀l,¬SL' l) (v:∀k l,k≠z.g->See' k l->See k l) (w:∀l,See' z.g l->See z.g l\/SL l):TI (t++#[z]) j n See' SL' Rd Sh a:=by
 have y:z.act.touch?=none:=by rw[f];rfl
 have H:=h.still d q y (by grind);have m:(t++#[z])[t.size]?=some z:=by simp
 refine⟨λk l c=>?_,λl c=>XG c (K l),H.rd,H.sh,H.norel,H.nr,H.gs,H.fresh⟩;by_cases r:k=z.g
 .subst r;rcases w l c with o|o
  .exact H.own _ l o
  .intro i x A e;rcases H.free l o i x A e with b|⟨p,b,B,C⟩
   .exact b _ q
   .have D:p<t.size:=by
     rcases X8 p t.size with E|E
     .omega
     .have:=lt_of_act? b;simp at this;have F:p=t.size:=by omega
      subst F;rw[act?_of m,f]at b
      grind
    exact⟨t.size,z,m,rfl,.inr (C.hb (.single (.inr ⟨.marked D (.inr b) (by rw[act?_of m,f]) λk _ _=>H.norel k a,B,⟨z.g,by simp[Trace.g?],by rw[deaf_old (XD _)];exact s⟩⟩)))⟩
 .exact H.own k l (v k l r c)
variable {y:MemOp}
def TI.release (d:Dj n See SL Rd Sh) (h:TI t j n See SL Rd Sh a) (o:y.g<=j) (c:y.act=.mark (.releaseMerge a)) (p:Deaf t y.g=0) (K:∀l,SL' l->See y.g l) (q:∀k l,See' k l->See k l):TI (t++#[y]) j n See' SL' Rd Sh a:=by
 have f:y.act.touch?=none:=by rw[c];rfl
 have H:=h.still d o f (by grind);have m:(t++#[y])[t.size]?=some y:=by simp
 exact⟨λk l b=>H.own k l (q k l b),λl b i x r e=>.inr ⟨t.size,by rw[act?_of m,c],⟨y.g,by simp[Trace.g?],by rw[deaf_old (by grind)];exact p⟩,.inr ((h.own y.g l (K l b) i x (Tb f r) e).hb_new (by grind) m rfl)⟩,H.rd,H.sh,H.norel,H.nr,H.gs,H.fresh⟩
def TI.lone{s:Nat->Loc->Prop}{S r b:Loc->Prop}{A:YO}(h:TI t 0 n s S r b A)(k:∀k l,See k l->k=0):TI t 0 n See SL Rd Sh a:=by
 have K:∀i x,touchAt t i=some x->Knows t 0 i:=λi x H=>by
  have⟨z,d,_⟩:=touch_of H;have:=knows_own d;rwa[Nat.le_zero.1 (h.gs i z d)]at this
 have c:∀i x,touchAt t i=some x->Com t 0 i:=λi x H g f=>by grind
 exact⟨λg l m i x H _=>by grind,λl _ i x H _=>.inl (by grind),λi x H _=>.inl (by grind),λi o x e H _=>.inl (c i x (by rw[touchAt_of e];exact H)),h.norel,h.nr,h.gs,h.fresh⟩
def TI.fork (h:TI t j n See SL Rd Sh a) {x:MemOp} (q:x.g=0/\x.act=.go (j+1)) (r:y.g=j+1/\y.act=.start) (A:Deaf t 0=0) (K:∀k l,k≠j+1->See' k l->See k l) (D:∀l,See' (j+1) l->See 0 l):TI (t++#[x,y]) (j+1) n See' SL Rd Sh a:=by
 have B:Deaf t (j+1)=0:=Deaf_absent λi o m e=>by have:=h.gs i o m;omega
 have E:∀o∈#[x,y],o=x\/o=y:=by intro o hop;simpa using hop
 have hnt:∀o∈#[x,y],∀b,o.act.touch?=some b->False:=by
  intro o hop b H;rcases E o hop with rfl|rfl
  .rw[q.2]at H;cases H
  .rw[r.2]at H;cases H
 have old:∀{i:Nat} {b:Touch},touchAt (t++#[x,y]) i=some b->touchAt t i=some b:=by
  intro i b H;have⟨z,F,hzb⟩:=touch_of H;rcases getElem?_append_cases F with⟨_,w⟩|⟨_,hzu⟩
  .rw[touchAt_of w];exact hzb
  grind
 have com:∀{i:Nat},Com t j i->Com (t++#[x,y]) (j+1) i:=λ{i} f g M=>by
  rcases X8 j g with hlt|hge
  .obtain rfl:g=j+1:=by omega
   exact fork_knows q r A B (f 0 (XR _))
  .exact(f g hge).app _
 refine⟨λk l s=>?_,λl s i b H e=>?_,λi b H G=>(h.rd i b (old H) G).imp com id,λi o b m H I=>?_,BD h.norel λo hop b=>?_,λsaid=>?_,λi o m=>?_,λi b H=>h.fresh i b (old H)⟩
 .by_cases hkj:k=j+1
  .subst hkj;exact λi b H e=>fork_knows q r A B (h.own 0 l (D l s) i b (old H) e)
  .exact(h.own k l (K k l hkj s)).app λo hop b H _=>(hnt o hop b H).elim
 .rcases h.free l s i b (old H) e with v|⟨p,v,J,L⟩
  .exact .inl (com v)
  .have C:=lt_of_act? v;exact .inr ⟨p,by rw[act?_old C];exact v,(heard_old C).2 J,L.app _⟩
 .rcases getElem?_append_cases m with⟨_,d⟩|⟨_,hiu⟩
  .exact(h.sh i o b d H I).imp com id
  grind
 .grind
 .have e:t++#[x,y]=(t++#[x])++#[y]:=by apply aag;simp
  rw[e];refine noRace_append (g:=j+1) (noRace_append (g:=0) (h.nr said) (λo hop=>by simp at hop;rw[hop];exact q.1) λi b _ o hop c f _=>(hnt o (by simp at hop |-;exact .inl hop) c f).elim)
   (λo hop=>by simp at hop;rw[hop];exact r.1) (λi b _ o hop c f _=>(hnt o (by simp at hop |-;exact .inr hop) c f).elim)
 .rcases getElem?_append_cases m with⟨_,d⟩|⟨_,hiu⟩
  .exact Nat.le_succ_of_le (h.gs i o d)
  grind
end
structure Rl(b:YO)(Sh:Loc->Prop)(t:Trace)(g r:Nat):Prop where
 act:t.act? r=some (.mark (.releaseMerge b))
 who:t.g? r=some g
 heard:t.heard r
 after:∀i op x,r<i->t[i]?=some op->op.g=g->op.act.touch?=some x->Sh x.loc/\x.kind=.atomic/\¬t.heard i
def wH {op:MemOp} (h:t[i]?=some op):t.g? i=some op.g:=by simp[Trace.g?,h]
variable {g:Nat}
def lt_of_g? (h:t.g? i=some g):i<t.size:=by
 unfold Trace.g? at h
 grind
variable {u:Trace}
def g?_old (h:i<t.size):(t++u).g? i=t.g? i:=by simp[Trace.g?,getElem?_append_old h]
def Rl.app {b:YO} {Sh:Loc->Prop} {r:Nat} (h:Rl b Sh t g r) (p:∀o∈u,o.g=g->∀x,o.act.touch?=some x->Sh x.loc/\x.kind=.atomic) (q:(∃o∈u,o.g=g/\o.act.touch?≠none)->∀i,t.size<=i->i<(t++u).size->(t++u).deaf g i≠0):Rl b Sh (t++u) g r:=by
 have f:=lt_of_act? h.act;refine⟨by rw[act?_old f];exact h.act,by rw[g?_old f];exact h.who,(heard_old f).2 h.heard,λi o x s c j m=>?_⟩;rcases getElem?_append_cases c with⟨a,d⟩|⟨a,H⟩
 .have⟨k,l,e⟩:=h.after i o x s d j m;exact⟨k,l,λn=>e ((heard_old a).1 n)⟩
 .have⟨k,l⟩:=p o H j x m;refine⟨k,l,λ⟨g',e,n⟩=>?_⟩;rw[wH c]at e;have:o.g=g':=Xt e;subst this;exact q ⟨o,H,j,by grind⟩ i a (by grind) (by grind)
section
variable{t:Trace}{j n:Nat}{See See':Nat->Loc->Prop}{SL SL' Rd Sh:Loc->Prop}{a b:YO}
def TI.join(d:Dj n See SL Rd Sh)(h:TI t j n See SL Rd Sh a){z:MemOp}(D:z.g=0)(L:z.act=.mark (.acquire b))(P:Deaf t 0=0)(all:∀g,1<=g->g<=j->∃r,Rl b Sh t g r)(Q:∀l,¬SL' l)(R:∀k l,See' k l->k=0/\¬Sh l) :
 TI (t++#[z]) j n See' SL' Rd Sh a/\(t++#[z]).HandedOver:=by
 have F:z.act.touch?=none:=by rw[L];rfl
 have m:=h.still d (by omega) F (by grind);have C:(t++#[z])[t.size]?=some z:=by simp
 have S:(t++#[z]).heard t.size:=⟨0,by rw[wH C,D],by rw[deaf_old (XD _)];exact P⟩;have E:∀g,1<=g->g<=j->∃r,Rl b Sh t g r/\HappensBefore (t++#[z]) r t.size:=λg T U=>by
  have⟨r,c⟩:=all g T U;have G:=lt_of_act? c.act;exact⟨r,c,.single (.inr ⟨.marked G (.inr (by rw[act?_old G];exact c.act)) (by rw[act?_of C,L]) λk _ _=>m.norel k b,(heard_old G).2 c.heard,S⟩)⟩
 have s:∀i o,t[i]?=some o->1<=o.g->∀r,Rl b Sh t o.g r->i<=r->HappensBefore (t++#[z]) r t.size->HappensBefore (t++#[z]) i t.size:=λi o v _ r c w y=>by
  rcases X8 i r with M|M
  .exact .trans (.single (.inl ⟨M,o.g,by rw[g?_old (lt_size_of_getElem? v)];exact wH v,by rw[g?_old (lt_of_g? c.who)];exact c.who⟩)) y
  grind
 refine⟨⟨λk l I i x J e=>?_,λl I=>XG I (Q l),m.rd,m.sh,m.norel,m.nr,m.gs,m.fresh⟩,λi g A V W=>?_⟩
 .obtain⟨rfl,K⟩:=R k l I;have⟨o,H,f⟩:=touch_of (Tb F J);rcases ZR o.g with p|p
  .have:=knows_own H;rw[p]at this;exact this.app _
  .have⟨r,c,y⟩:=E o.g p (h.gs i o H);exact⟨t.size,z,C,D,.inr (s i o H p r c (Nat.le_of_not_lt λq=>K (e▸(c.after i o x q H rfl f).1)) y)⟩
 .have⟨x,J,N,B⟩:=W;have⟨o,H,f⟩:=touch_of (Tb F J);have v:=lt_size_of_getElem? H;rw[g?_old v,wH H]at A;have X:=Xt A;have p:1<=o.g:=by omega
  have⟨r,c,y⟩:=E o.g p (h.gs i o H);have w:=Nat.le_of_not_lt λq=>by
   have⟨_,Z,Y⟩:=c.after i o x q H rfl f;rcases B with O|O
   .grind
   .exact Y ((heard_old v).1 O)
  exact⟨t.size,by rw[wH C,D],s i o H p r c w y⟩
def m9{u:Trace}(h:t.HandedOver)(y:∀o∈u,o.g=0\/o.act.touch?=none):(t++u).HandedOver:=λi g H l s=>by
 have⟨x,v,c,d⟩:=s;have⟨o,e,f⟩:=touch_of v;rcases getElem?_append_cases e with⟨m,k⟩|⟨_,p⟩
 .have⟨q,r,w⟩:=h i g (by rw[<- g?_old m];exact H) l ⟨x,by rw[<- touchAt] ;exact(touchAt_of k).trans f,c,d.imp id λh=>(heard_old m).1 h⟩;exact⟨q,by rw[g?_old (lt_of_g? r)];exact r,hb_app u w⟩
 .rw[wH e]at H
  grind
end
end
section
open Go Go.Conc Go.ConcN
variable {H:Xv Obj} {k:Nat}
def kq {o:Obj} (h:H[k]?=some o):k<H.size:=(Xz.1 h).1
def CX {F:Obj->Obj} {j:Nat}:(H.modify k F)[j]?=if j=k then(H[j]?).map F else H[j]?:=by
 grind
abbrev pH(old:Nat->Prop)(v r:Xo):Prop:=@Vw (bI old) v r
open Classical in
noncomputable def jo(old:Nat->Prop)(r:Xo):Xo:={ r with heap:=r.heap.mapIdx λk o=>if old k then o else gZ o }
section
variable{old o1 o2:Nat->Prop}{r r' v v1 v2 w:Xo}{k:Nat}
def I9:(jo old r).heap[k]?=(r.heap[k]?).map λo=>open Classical in if old k then o else gZ o:=by simp[jo]
def oN(h:old k):(jo old r).heap[k]?=r.heap[k]?:=by
 rw[I9]
 grind
def ib(h:¬old k):(jo old r).heap[k]?=(r.heap[k]?).map gZ:=by
 rw[I9]
 grind
variable {o:Obj}
def Fg {c:Xv Xp} {e:XO} {f:Nat×Nat} (h:gZ o=Obj.cells c e f):∃C,o=Obj.cells C e f/\c=Array.replicate C.size hole:=by
 cases o with
 | cells C E F=>
  simp[gZ]at h
  grind
 | _=>simp[gZ]at h
def vJ (h:v.heap[k]?=some (gZ o)):ml v k:=by
 cases o with
 | cells c e f=>exact .inl ⟨_,_,_,h,λi x a=>kp (o:=.cells c e f) rfl a⟩
 | _=>exact .inr h
def xq(old:Nat->Prop)(r:Xo):pH old (jo old r) r:=by
 refine @Vw.mk (bI old) _ _ (by simp[jo]) rfl rfl (λk c e f h=>?_) (λk h=>?_) (λk o h g j=>?_)
 .by_cases a:old k
  .rw[oN a]at h
   grind
  .rw[ib a]at h;cases b:r.heap[k]? with
   | none=>rw[b]at h;cases h
   | some o=>
    rw[b]at h;obtain⟨C,rfl,rfl⟩:=Fg (Xt h);refine⟨C,rfl,by simp,λi x m d=>?_⟩;rcases d with d|d
    .exact XG d a
    grind
 .have⟨a,h⟩:=h;have a:¬old k:=a;rw[ib a]at h;cases b:r.heap[k]? with
  | none=>rw[b]at h;cases h
  | some o=>
   rw[b]at h;refine⟨o,rfl,λc e f l=>?_⟩;subst l;simp[gZ]at h
 .by_cases a:old k
  .rw[oN a]at h;exact h
  .rw[ib a]at h;cases b:r.heap[k]? with
   | none=>rw[b]at h;cases h
   | some O=>
    rw[b]at h;have:=rI (Xt h) g;exact XG ⟨a,by rw[ib a,b];exact h.trans (by grind)⟩ j
def jr(h:¬old k)(a:k<r.heap.size):ml (jo old r) k:=by
 have:=ib (r:=r) h;rw[XL a]at this;exact vJ this
def ic(d:∀k,o2 k->k<r.heap.size)(hl:∀k,o1 k->¬o2 k->ml w k):Sep o1 (jo o1 r) o2 w:=by
 refine⟨λk C f E g f1 f2 a _ h _ i x X c _=>?_,λk x X a _ h _ c _=>?_,hl,λk a e=>jr e (d k a)⟩
 .rw[ib a]at h;cases b:r.heap[k]? with
  | none=>rw[b]at h;cases h
  | some o=>rw[b]at h;exact .inl (kp (Xt h) c)
 .rw[ib a]at h;cases b:r.heap[k]? with
  | none=>rw[b]at h;cases h
  | some o=>rw[b]at h;exact .inl (rI (Xt h) c)
def kO(h:v.heap[k]?=v1.heap[k]?)(a:ml v1 k):ml v k:=by
 unfold ml at *
 grind
def pI(v:Xo)(a:YO):Prop:=∃c e f,v.heap[a.block]?=some (Obj.cells c e f)/\c[a.off]?=some hole
def NP{d:Nat}(h:pH old v r):pH old { v with drawn:=d } { r with drawn:=d }:=by
 obtain⟨q,Q,e,a,b,c⟩:=h;exact @Vw.mk (bI old) _ _ q Q rfl a b c
def Sf{o:Os}(h:pH old v r):pH old { v with os:=o } r:=by
 obtain⟨q,Q,a,b,c,d⟩:=h;exact @Vw.mk (bI old) _ _ q Q a b c d
def yP(v:Xo):Loc->Prop
 | .cell a=>∃o,v.heap[a.block]?=some o/\(∀c e f,o=Obj.cells c e f->∃x,c[a.off]?=some x/\x≠hole)/\o≠Obj.coro none
 | .obj k=>∃o,v.heap[k]?=some o/\(∀c e f,o≠Obj.cells c e f)/\o≠Obj.coro none
 | _=>False
def dY(old:Nat->Prop)(v:Xo)(l:Loc):Prop:=¬old (j7 l)/\yP v l
variable {l:Loc}
def yP.lt (h:yP v l):j7 l<v.heap.size:=by
 cases l with
 | cell a=>obtain⟨o,h,_⟩:=h;exact kq h
 | obj k=>obtain⟨o,h,_⟩:=h;exact kq h
 | _=>exact h.elim
def yP.of_eq (h:yP v l) (d:w.heap[j7 l]?=v.heap[j7 l]?):yP w l:=by
 cases l with
 | cell a=>obtain⟨o,b,c⟩:=h;exact⟨o,d.trans b,c⟩
 | obj k=>obtain⟨o,b,c⟩:=h;exact⟨o,d.trans b,c⟩
 | _=>exact h.elim
def lT (h:ml v (j7 l)):¬yP v l:=λd=>by
 cases l with
 | cell a=>
  have⟨o,b,i,j⟩:=d;rcases h with⟨c,e,f,g,G⟩|g
  .rw[show j7 _=a.block from rfl,b]at g
   grind
  .rw[show j7 _=a.block from rfl,b]at g
   grind
 | obj k=>
  have⟨o,b,i,j⟩:=d;rcases h with⟨c,e,f,g,G⟩|g
  .rw[show j7 _=k from rfl,b]at g
   grind
  .rw[show j7 _=k from rfl,b]at g
   grind
 | _=>exact d.elim
def Sep.nn (h:Sep o1 v1 o2 v2) (h1:pH o1 v1 r) (z:pH o2 v2 r) (s1:dY o1 v1 l) (s:dY o2 v2 l):False:=by
 have⟨n,s1⟩:=s1;have⟨N,s⟩:=s;obtain⟨_,_,_,A,M,B⟩:=h1;obtain⟨_,_,_,D,O,I⟩:=z;cases l with
 | cell a=>
  have⟨X,p,i,P⟩:=s1;have⟨x,q,Q,y⟩:=s;by_cases g:∃c e f,X=Obj.cells c e f
  .obtain⟨c,e,f,rfl⟩:=g;have⟨J,G,_⟩:=A _ _ _ _ p;by_cases C:∃c e f,x=Obj.cells c e f
   .obtain⟨d,E,F,rfl⟩:=C;have⟨Y,j,m⟩:=i _ _ _ rfl;have⟨R,t,K⟩:=Q _ _ _ rfl;rcases h.cells _ c d e E f F n N p q _ _ _ j t with h|h
    .exact m h
    grind
   .have:=I _ x q (λc e f b=>C ⟨c,e,f,b⟩) λu=>y (by have:=u.2;rw[q]at this;exact Xt this);rw[G]at this;exact C ⟨_,_,_,(Xt this).symm⟩
  .have L:=B _ X p (λc e f b=>g ⟨c,e,f,b⟩) λu=>P (by have:=u.2;rw[p]at this;exact Xt this);by_cases C:∃c e f,x=Obj.cells c e f
   .obtain⟨d,E,F,rfl⟩:=C;have⟨J,G,_⟩:=D _ _ _ _ q;rw[L]at G;exact g ⟨_,_,_,Xt G⟩
   .rcases h.obj _ X x n N p q (λc e f b=>g ⟨c,e,f,b⟩) (λc e f b=>C ⟨c,e,f,b⟩)with h|h
    .exact P h
    grind
 | obj k=>
  have⟨X,p,i,P⟩:=s1;have⟨x,q,Q,y⟩:=s;rcases h.obj _ X x n N p q i Q with h|h
  .exact P h
  grind
 | _=>exact s1.elim
def BE (h:@po (bI old) v v1) (s:dY old v1 l):dY old v l\/v.heap.size<=j7 l:=by
 obtain⟨j,m⟩:=h;obtain⟨n,s⟩:=s;by_cases i:j7 l<v.heap.size
 rotate_left
 .omega
 refine .inl ⟨n,?_⟩;have b:=XL i;cases l with
 | cell a=>
  have⟨x,p,P,q⟩:=s;refine⟨_,b,λc e f g=>?_,λg=>?_⟩
  .rw[g]at b
   have⟨C,F,G,D,t⟩:=j _ _ _ _ b
   have⟨y,E,u⟩:=P _ _ _ (Xt (p.symm.trans G));have d:a.off<c.size:=by grind
   refine⟨_,XL d,λz=>?_⟩;have:=t _ _ (XL d) λA=>A.elim n λB=>B z
   grind
  .have:=m _ ⟨n,by grind⟩;rw[show j7 (.cell a)=a.block from rfl]at this
   grind
 | obj k=>
  have⟨x,p,P,q⟩:=s;refine⟨_,b,λc e f g=>?_,λg=>?_⟩
  .rw[g]at b
   have⟨C,F,G,_⟩:=j _ _ _ _ b
   exact P _ _ _ (Xt (p.symm.trans G))
  .have:=m _ ⟨n,by grind⟩;rw[show j7 (.obj k)=k from rfl]at this
   grind
 | _=>exact s.elim
def Fh (s:dY old (ext v r') l) (a:v.heap.size<=r'.heap.size):dY old v l:=by
 have⟨n,s⟩:=s;rcases X8 (j7 l) v.heap.size with h|b
 .exact⟨n,s.of_eq (fZ h).symm⟩
 .exfalso;have h:=s.lt;rw[yO a]at h;refine lT ?_ s;have:=lH (r':=r') b;rw[XL h]at this;exact vJ this
end
def oO(old:Nat->Prop):Loc->Prop
 | .cell a=>old a.block
 | .obj k=>old k
 | _=>False
variable {g:Nat}
def Fi {fn:FuncId} {pos:YG} {e:Ys} {x:Touch} (h:({ g:=g,fn:=fn,pos:=pos,act:=.ofEvent e }:MemOp).act.touch?=some x):
 (x.loc=e.loc/\x.write=e.write/\x.kind=(if e.sync then .atomic else .plain))\/∃a,(e.loc=.mark (.read a)/\x=⟨.cell a,false,.said⟩)\/(e.loc=.mark (.write a)/\x=⟨.cell a,true,.said⟩):=by
 have⟨l,w,s⟩:=e;cases l with
 | mark m=>
  cases m with
  | read a=>exact .inr ⟨a,.inl ⟨rfl,(Xt h).symm⟩⟩
  | write a=>exact .inr ⟨a,.inr ⟨rfl,(Xt h).symm⟩⟩
  | _=>cases h
 | obj r=>
  cases w<;>cases s<;>first|(exact .inl (by have:=(Xt h).symm;subst this;exact⟨rfl,rfl,rfl⟩))|(cases h)
 | _=>exact .inl (by have:=(Xt h).symm;subst this;exact⟨rfl,rfl,rfl⟩)
variable {fn:FuncId} {pos:YG}
def mn {es:Xv Ys} {op:MemOp} (h:op∈MemOp.ofEvents g fn pos es):∃e∈es,op={ g,fn,pos,act:=.ofEvent e }:=by
 unfold MemOp.ofEvents at h
 grind
variable {e:Ys}
def od {b:YO} (h:MemAct.ofEvent e=.mark (.release b)):e.loc=.mark (.release b):=by
 have⟨l,w,s⟩:=e;cases l with
 | mark m=>simp[MemAct.ofEvent]at h;rw[h]
 | obj r=>cases w<;>cases s<;>cases h
 | _=>cases h
section
variable{old:Nat->Prop}{v v' r r':Xo}{See:Nat->Loc->Prop}{Rd Sh:Loc->Prop}
variable {es:Xv Ys}
def yQ {g:Nat} {fn:FuncId} {pos:YG} (u:∀e∈es,@iM (bI old) v e/\@GZ (bI old) v e/\Dy v' e) (A:∀l,dY old v l->See g l) (B:∀l,oO old l->Rd l):∀op∈MemOp.ofEvents g fn pos es,P8 v.heap.size v'.heap.size See Rd Sh g op:=by
 intro op y;obtain⟨⟨l,w,s⟩,F,rfl⟩:=mn y;have⟨o,C,D⟩:=u _ F;refine⟨rfl,λb G=>?_,λx t=>?_⟩
 .have:=od G;subst this;rcases o with h|⟨_,h⟩<;>cases h
 .rcases Fi t with⟨q,Q,_⟩|⟨a,⟨q,_⟩|⟨q,_⟩⟩
  .rw[q,Q];cases l with
   | cell a=>
    refine⟨D,?_⟩;have⟨E,z⟩:=o;have⟨I,J⟩:=C;by_cases j:old a.block
    .exact .inr (.inr (.inl ⟨B _ j,E j⟩))
    .by_cases i:a.block<v.heap.size
     .refine .inl (A _ ⟨j,_,XL i,λc e f p=>?_,λp=>J ⟨j,by grind⟩⟩);have d:=XL i;rw[p]at d
      have n:=I c e f d
      exact⟨_,XL n,λt=>((z c e f d _ (XL n)).resolve_left j) t⟩
     .exact .inr (.inl (by show _<=a.block;omega))
   | obj k=>
    refine⟨D,?_⟩;have⟨E,z⟩:=o;by_cases j:old k
    .exact .inr (.inr (.inl ⟨B _ j,E j⟩))
    .by_cases i:k<v.heap.size
     .refine .inl (A _ ⟨j,_,XL i,λc e f p=>?_,λp=>z ⟨j,by grind⟩⟩);have d:=XL i;rw[p]at d
      exact C c e f d
     .exact .inr (.inl (by show _<=k;omega))
   | mark m=>
    rcases o with h|⟨f,h⟩<;>subst h<;>cases t
   | _=>exact o.elim
  .subst q;rcases o with h|⟨_,h⟩<;>cases h
  .subst q;rcases o with h|⟨_,h⟩<;>cases h
def vK (a:∀e∈es,@iM (bI old) v e) (d:Nat):deafBehind d es=d:=by
 refine Array.foldl_induction (motive:=λ_ (x:Nat)=>x=d) rfl λi x b=>?_;subst b;have h:=a es[i] (Array.getElem_mem _);unfold iM at h;split<;>rename_i c
 .grind
 .rw[c]at h;rcases h with h|⟨_,h⟩<;>cases h
 .rfl
