/-
  Part 34: ; ; ; ; ; WALKS package table; WALKS slices.
-/
import Derived.Test.YtecibefflhomdaaGreatDoorZ33
set_option maxHeartbeats 8000000
set_option maxRecDepth 100000
set_option linter.all false
namespace Go.Proofs.YtecibefflhomdaaGreatDoor
open Go Proofs.Tryz
section
variable[Bs0:Base][NQ]
variable {G G':Prop}
theorem uk (k:G') (h:CS G'->G:=by
 (intro k
  repeat (first
   | refine E1 rfl (by omega) (by omega) rfl ?_
   | refine qG rfl (by omega) (by omega) rfl ?_
   | refine vF rfl (by omega) (by omega) rfl ?_
   | refine IY rfl rfl ?_
   | refine E6 rfl (by first|assumption|omega) rfl ?_
   | refine E7 rfl (by first|assumption|omega) rfl ?_
   | refine E8 rfl (by assumption) rfl ?_
   | refine E9 rfl (by assumption) rfl ?_
   | refine dE rfl rfl ?_
   | refine fF (by assumption) rfl rfl (by repeat constructor) (by rfl) rfl ?_
   | refine kj rfl ?_
   | refine lz ?_
   | refine oK rfl ?_
   | refine mS rfl ?_
   | refine jR ?_
   | refine px ?_
   | refine yA ?_
   | refine tM ?_
   | refine kJ ?_
   | refine lQ ?_
   | refine yB ?_
   | refine mT ?_
   | refine mU ?_
   | refine lR rfl ?_
   | refine kK ?_
   | refine lS ?_
   | refine sk rfl ?_
   | refine Bw rfl rfl rfl ?_
   | refine QO rfl rfl (by omega) (by omega) rfl ?_
   | refine I2 rfl rfl (by first|assumption|omega) rfl ?_
   | refine I3 rfl rfl (by first|assumption|omega) rfl ?_
   | refine qh rfl rfl rfl ?_
   | refine tR rfl rfl rfl (by repeat constructor) (by rfl) rfl ?_
   | refine I4 rfl rfl rfl rfl ?_
   | refine I5 rfl rfl rfl rfl ?_
   | refine CQ rfl rfl rfl rfl (by repeat constructor) (by rfl) rfl ?_
   | refine CP ?_
   | refine xo rfl ?_
   | refine CR rfl ?_
   | refine I6 (Sat.to (by assumption)) ?_
   | refine ia [_,_] rfl rfl rfl rfl (by repeat constructor) (by exact⟨rfl,rfl,Xr⟩) rfl ?_
   | refine ia [_,_,_] rfl rfl rfl rfl (by repeat constructor) (by exact⟨rfl,rfl,rfl,Xr⟩) rfl ?_
   | refine ia [_,_,_,_] rfl rfl rfl rfl (by repeat constructor) (by exact⟨rfl,rfl,rfl,rfl,Xr⟩) rfl ?_
   | refine ia [_,_,_,_,_] rfl rfl rfl rfl (by repeat constructor) (by exact⟨rfl,rfl,rfl,rfl,rfl,Xr⟩) rfl ?_
   | refine ia [_,_,_,_,_,_] rfl rfl rfl rfl (by repeat constructor) (by exact⟨rfl,rfl,rfl,rfl,rfl,rfl,Xr⟩) rfl ?_
   | refine dX [_,_] (by assumption) rfl rfl rfl (by repeat constructor) (by exact⟨rfl,rfl,Xr⟩) rfl ?_
   | refine dX [_,_,_] (by assumption) rfl rfl rfl (by repeat constructor) (by exact⟨rfl,rfl,rfl,Xr⟩) rfl ?_
   | refine dX [_,_,_,_] (by assumption) rfl rfl rfl (by repeat constructor) (by exact⟨rfl,rfl,rfl,rfl,Xr⟩) rfl ?_
   | refine dX [_,_,_,_,_] (by assumption) rfl rfl rfl (by repeat constructor) (by exact⟨rfl,rfl,rfl,rfl,rfl,Xr⟩) rfl ?_
   | refine dX [_,_,_,_,_,_] (by assumption) rfl rfl rfl (by repeat constructor) (by exact⟨rfl,rfl,rfl,rfl,rfl,rfl,Xr⟩) rfl ?_)
  exact k.out)):G:=h ⟨k⟩
section
variable{ops:Xv Yf}{Q:YL->Act->Xo->Prop}{n:Nat}{ds:Md}{e:Env}{w w':Xo}{rest:Xn Yf}{ord:Xn (Nat×XN)}
variable{op:Op}{ty:XO}{pos:YG}{af:Xv Edge}{d i:Nat}{v u:Xp}{W0:Xo}{l l' r r':Xn ae}
theorem Oq{x y:XZ}{t T E k b o len cap m F:Nat}{cs news:Xn Xp}(c:Sat W0 (blk b E cs::l) w)(S:ev e x=some (.slice (some ⟨b,0,none⟩) len cap))(U:ev e y=some (.slice (some ⟨b,o,none⟩) m F))
 (V:lk dK t=some E) (I:lk dK T=some E) (J:lk cY E=some k) (K:cs.length=cap*k) (p:iZ cs o news) (L:news.length=m*k) (h1:∀u∈news,dk u=true) (H:len+m<=cap) (Y:Nat.blt d n=true)
 (kk:∀w',Sat W0 (blk b E (dL cs (len*k) news)::l) w'->WL ops Q n ds rest ((d,.slice (some ⟨b,0,none⟩) (len+m) cap)::e) w') (W:Nat.beq E 133=false:=by rfl) :
 WL ops Q n ds (⟨some d,.call { callee:=.builtin .append,args:=#[x,y],argTypes:=#[t,T] },ty,pos,af,none⟩::rest) e w:=jk (λw M=>by
 have c:=c.ry M;obtain⟨i,X,rfl⟩:=pq J;have h:Src prog i.size T (.slice (some ⟨b,o,none⟩) m F) m news w:=abG w (bw I) _ _ _ _ L (λj u s=>by rw[add_eq,c.cell .here];exact p.at j u s) λu s=>Hh (h1 u s);have N:=λj=>c.cell (.here) j;have z:len*i.size+news.length<=cs.length:=by rw[L,K,<- aa0];exact ZL _ H
 have f:=run_append_room_src w t T ty E i (bw V) X b 0 len cap _ m news h H
  (λj O=>by grind) (λj O=>c.free .here _)
 have R:=aan prog b (0+len*i.size) E news 0 cs.toArray w c.dA (by grind) h.one;have g:=run_storeCells_cells (P:=prog) b (0+len*i.size) news 0 w (λj O=>by grind) (λj O=>c.free .here _) h.one;rw[R]at g;simp at g;rw[X0,<- g]at f;have q:aR (Builtin.firstCells i.size m (.slice (some ⟨b,o,none⟩) m F)) w news.toArray:=mW L λj u s=>by
  rw[add_eq,c.cell .here];exact⟨p.at j u s,c.UN .here (rC W _)⟩
 have A:=qH (ty:=ty) (bw V) X (off:=0) h q H c.dA (by simp;omega) λj=>c.UP .here (rC W _);have B:=sN c (cs':=dL cs (len*i.size) news) .here (sO c .here (X4.2 h1) z) (sM z);refine⟨_,_,λa D=>.of ?_ (λev C=>?_) (c.kU B rB),kk _ B⟩
 .simp[execOp,resolve,invoke,Go.builtin,D.ev S,D.ev U,f,dL]
 .simp[execOp,resolve,invoke,Go.builtin,D.ev S,D.ev U,f]at C;exact A ev C) Y
theorem eT{α:Type}:∀{Z:Xn α} {i:Nat} {a:α},Z[i]?=some a->Z=Z.take i++a::Z.drop (i+1)
 | z::Z,0,a,h=>by grind
 | z::Z,i+1,a,h=>by simp at h;have:=eT h;simp;rw[<- this]
end
def Vo(o:Yf):XN:=match o.op with
 | .call { callee:=.value (.tmp _),.. }=>true
 | _=>false
section
variable{ops:Xv Yf}{Q:YL->Act->Xo->Prop}{n:Nat}{ds:Md}{e:Env}{w:Xo}{rest:Xn Yf}
def Ot[pr Q]{o:Yf}(h:Vo o=false)(k:WL ops (Exit.then (λa w=>rX ds.round ops Q rest a w) Q) n ds [o] e w):Qb ops Q n ds (o::rest) e w:=Ri k
end
theorem Wz (k:G') (h:CS G'->G:=by
 (intro k
  repeat (first
   | refine sk rfl ?_
   | refine Bw rfl rfl rfl ?_
   | refine dE rfl rfl ?_
   | refine fF (by assumption) rfl rfl (by repeat constructor) (by rfl) rfl ?_
   | refine dX [_,_,_,_] (by assumption) rfl rfl rfl (by repeat constructor) (by exact⟨rfl,rfl,rfl,rfl,Xr⟩) rfl ?_
   | refine lz ?_
   | refine Tw ?_
   | refine Rh ?_
   | refine Ot rfl ?_)
  exact k.out)):G:=h ⟨k⟩
end
section
variable[Bs0:Base][NQ]
attribute [local semireducible] WL WC WQ
def qa(ops:Xv Yf)(K:Xn Nat)(i:Nat):XN:=K.all λk=>CN ops i k
section
variable{n:Nat}{ds:Md}{e:Env}{w:Xo}{op:Op}{ty:XO}{pos:YG}{af:Xv Edge}{d:Nat}{v:Xp}
variable {b o:Nat}
theorem HA {s:XN} (h:w.cell? ⟨b,o,none⟩=some v) (hv:v≠hole):iM w ⟨.cell ⟨b,o,none⟩,false,s⟩:=by
 refine⟨λ_=>rfl,λc el f H x a=>.inr ?_⟩;simp[World.cell?]at h
 grind
theorem Ry.cell{W:Xo}{a:YO}(c:Ry w W)(h:w.cell? a=some v):W.cell? a=some v:=by
 unfold World.cell? at h |-;cases H:w.heap[a.block]? with
 | none=>rw[H]at h;cases h
 | some o=>rw[c.heap _ (Xz.1 H).1];exact h
variable {x:XZ} {T:Nat} {g:XB (Nat×XN)} {a:Act}
def um (H:Fr n ds e a) (c:ev e x=some (.pointer (some ⟨b,o,none⟩))) (f:lk kV T=some false) (h:w.cell? ⟨b,o,none⟩=some v) (hv:v≠hole):
 aR (execOp a.eval ⟨some d,.load T x,ty,pos,af,g⟩) w (.value v):=by
 simp[execOp,H.ev c];exact aR.bind (aR.bind (aR.pure _) (lF f h (HA h hv))) (aR.pure _)
def Lj {vs:Xn Xp} (c:Fr n ds e a) (f:ev e x=some (.pointer (some ⟨b,o,none⟩))) (i:lk kV T=some true) (k:lk cY T=some vs.length) (h:∀j u,vs[j]?=some u->w.cell? ⟨b,o+j,none⟩=some u) (hv:vs.all dk=true):
 aR (execOp a.eval ⟨some d,.load T x,ty,pos,af,g⟩) w (.value (.agg vs.toArray)):=by
 simp[execOp,c.ev f];refine aR.bind (aR.bind (aR.pure _) ?_) (aR.pure _);unfold loadVar;refine(yE i).bind ((Bz k).bind ((jl λj v H=>?_).bind (aR.pure _)));rw[add_eq];exact⟨h j v H,HA (h j v H) (cE (by grind))⟩
end
section
variable{ro:XB Nat}{ops:Xv Yf}{Q:YL->Act->Xo->Prop}{S:Xo->Prop}{K:Xn Nat}
def TB(ro:XB Nat)(ops:Xv Yf)(Q:YL->Act->Xo->Prop)(S:Xo->Prop)(K:Xn Nat):Nat->Prop->Xv XN->Act->Xo->Prop
 | 0,_,listed,a,w=>Region.ready .any ops listed=[]/\Cl (Q .normal) a w
 | fuel+1,H,listed,a,w=>
  (Region.ready .any ops listed=[]->Cl (Q .normal) a w) /\
  ∀i∈Region.ready .any ops listed,j0 ro ops i (λA W=>∃h:Prop,(qa ops K i=false->H->h)/\(h->S W)/\TB ro ops Q S K fuel h (listed.setIfInBounds i true) A W) a w
theorem Dh:∀(fuel:Nat) (H:Prop) (listed:Xv XN) (a:Act) (w:Xo),TB ro ops Q S K fuel H listed a w->I0 ro ops Q fuel listed a w
 | 0,_,_,_,_,h=>h
 | fuel+1,_,_,_,_,h=>⟨h.1,λi b=>jD (λA W k=>by obtain⟨c,_,_,k⟩:=k;exact Dh fuel c _ A W k) (h.2 i b)⟩
theorem zn(c:∀w W,S w->Ry w W->S W):∀(fuel:Nat) (H:Prop) (listed:Xv XN) (a:Act) (w W:Xo),TB ro ops Q S K fuel H listed a w->Ry w W->TB ro ops Q S K fuel H listed a W
 | 0,_,_,_,_,_,h,b=>⟨h.1,h.2.rely b⟩
 | fuel+1,_,_,_,_,_,h,b=>⟨λd=>(h.1 d).rely b,λi e=>rE (λa w W f b=>by
  have⟨g,j,k,l⟩:=f;exact⟨g,j,λh=>c _ _ (k h) b,zn c fuel _ _ _ _ _ l b⟩) (h.2 i e) b⟩
variable {i:Nat} {listed:Xv XN}
theorem Ou {j:Nat} (b:i∈K) (c:jC ops listed) (d:i∈Region.ready .any ops listed) (f:j∈Region.ready .any ops listed):qa ops K j=false:=by
 cases h:qa ops K j with
 | false=>rfl
 | true=>
  have⟨a,o,g,H⟩:=ZN.1 f;have m:=tQ c g (λe k l=>H e k l) (X4.1 h i b);have n:=(ZN.1 d).1
  grind
theorem Lk {o:Yf} (H:i∈Region.ready .any ops listed) (h:∀e∈o.after,Region.binds .any e=true->listed.getD e.on false=true):∀e∈o.after,Region.binds .any e=true->e.on≠i:=λe b c a=>by
 have d:=(ZN.1 H).1
 grind
def BT (l:∀w w1,S w->Ry w w1->S w1) {u:Yf} {v:Xp} {s:Xo->Prop} (I:ops[i]?=some u) (n:∀(j:Nat) (o:Yf) C b,ops[j]?=some o->o.op≠.select C b):∀(fuel:Nat) (H:Prop) (listed:Xv XN) (a:Act) (w:Xo),jC ops listed ->
 (∀j O,ops[j]?=some O->j≠i->listed.getD j true=false->(∀e∈O.after,Region.binds .any e=true->e.on≠i)->u.apart ops O=true) ->
 i∈Region.ready .any ops listed->qg ro ops s u v a->(H->S w)->(s=(λ_=>True))\/(s=S/\i∈K/\H) ->
 TB ro ops Q S K fuel H (listed.setIfInBounds i true) (a.put u.dst v) w->TB ro ops Q S K (fuel+1) H listed a w:=by
 have p:∀{H:Prop},(s=(λ_=>True))\/(s=S/\i∈K/\H)->∀w w1,s w->Ry w w1->s w1:=λh w w1=>by
  grind
 have x:∀{H:Prop} {w:Xo},(s=(λ_=>True))\/(s=S/\i∈K/\H)->(H->S w)->s w:=λh r=>by
  grind
 intro fuel
 induction fuel with
 | zero=>
  intro H listed a w _ _ g G r c y;refine⟨λh=>(by grind),λj z=>?_⟩;rcases aap (j=i)with rfl|d
  .exact G.j0 I (p c) (λa w w1 A g=>by
    have⟨t,J,L,B⟩:=A;exact⟨t,J,λh=>l _ _ (L h) g,zn l _ _ _ _ _ _ B g⟩) (x c r) ⟨H,λ_ h=>h,r,y⟩
  .have:=aaT z d;rw[y.1]at this;cases this
 | succ fuel W=>
  intro H listed a w D f g G r c y;refine⟨λh=>(by grind),λj z=>?_⟩;rcases aap (j=i)with rfl|d
  .exact G.j0 I (p c) (λa w w1 A g=>by
    have⟨t,J,L,B⟩:=A;exact⟨t,J,λh=>l _ _ (L h) g,zn l _ _ _ _ _ _ B g⟩) (x c r) ⟨H,λ_ h=>h,r,y⟩
  have⟨E,O,m,q⟩:=ZN.1 z;refine jD (λX Y B=>?_) (Fa m (f j O m d E (Lk g q)) (λC b=>n i u C b I) (λC b=>n j O C b m) G (y.2 j (aaT z d)));have⟨M,t,T,U,Z⟩:=B;refine⟨t,T,U,W t _ X Y (mX D m q) (λk ok A N F P=>?_) (aaT g (YP d)) M U ?_ (by rw[aa8 _ _ d];exact Z)⟩
  .refine f k ok A N ?_ P;rcases aap (j=k)with rfl|R
   .omega
   .rw[getD_set_ne true R]at F;exact F
  .rcases c with h|⟨h,V,hH⟩
   .grind
   .exact .inr ⟨h,V,T (Ou V D g z) hH⟩
end
inductive OT where
 | nil
 | q (i:Nat) (r:OT)
 | s (i:Nat) (r:OT)
 | l (i:Nat) (r:OT)
 | l2 (i:Nat) (r:OT) (j:Nat) (r':OT)
section
variable{ro:XB Nat}{ops:Xv Yf}{Q:YL->Act->Xo->Prop}{S:Xo->Prop}{K:Xn Nat}
def wt(ro:XB Nat)(ops:Xv Yf)(Q:YL->Act->Xo->Prop)(S:Xo->Prop)(K:Xn Nat):OT->Prop->Act->Xo->Prop
 | .nil,_,a,w=>Cl (Q .normal) a w
 | .q i r,H,a,w=>∃o v,ops[i]?=some o/\qg ro ops (λ_=>True) o v a/\wt ro ops Q S K r H (a.put o.dst v) w
 | .s i r,H,a,w=>∃o v,ops[i]?=some o/\qg ro ops S o v a/\H/\wt ro ops Q S K r H (a.put o.dst v) w
 | .l i r,H,a,w=>j0 ro ops i (λA W=>∃h:Prop,(qa ops K i=false->H->h)/\(h->S W)/\wt ro ops Q S K r h A W) a w
 | .l2 i r j R,H,a,w=>j0 ro ops i (λA W=>∃h:Prop,(qa ops K i=false->H->h)/\(h->S W)/\wt ro ops Q S K r h A W) a w/\j0 ro ops j (λA W=>∃h:Prop,(qa ops K j=false->H->h)/\(h->S W)/\wt ro ops Q S K R h A W) a w
def vT(ops:Xv Yf)(K:Xn Nat):OT->Nat->Xv XN->XN
 | .nil,0,listed=>(Region.ready .any ops listed).isEmpty
 | .q i r,f+1,listed=>Region.free .any ops listed i&&(Region.ready .any ops listed).contains i&&vT ops K r f (listed.setIfInBounds i true)
 | .s i r,f+1,listed=>K.contains i&&Region.free .any ops listed i&&(Region.ready .any ops listed).contains i&&vT ops K r f (listed.setIfInBounds i true)
 | .l i r,f+1,listed=>(Region.ready .any ops listed==[i])&&vT ops K r f (listed.setIfInBounds i true)
 | .l2 i r j R,f+1,listed=>(Region.ready .any ops listed==[i,j])&&vT ops K r f (listed.setIfInBounds i true)&&vT ops K R f (listed.setIfInBounds j true)
 | _,_,_=>false
theorem Rn(d:∀w w1,S w->Ry w w1->S w1):∀(t:OT) (H:Prop) (a:Act) (w w1:Xo),wt ro ops Q S K t H a w->Ry w w1->wt ro ops Q S K t H a w1:=by
 have k:∀{r:OT} {i:Nat} {H:Prop},(∀(H:Prop) (a:Act) (w w1:Xo),wt ro ops Q S K r H a w->Ry w w1->wt ro ops Q S K r H a w1)->∀{a:Act} {w w1:Xo},
  j0 ro ops i (λA W=>∃c:Prop,(qa ops K i=false->H->c)/\(c->S W)/\wt ro ops Q S K r c A W) a w->Ry w w1 ->
  j0 ro ops i (λA W=>∃c:Prop,(qa ops K i=false->H->c)/\(c->S W)/\wt ro ops Q S K r c A W) a w1:=λI _ _ _ h b=>
  rE (λa w w1 n b=>by
   have⟨c,p,u,y⟩:=n;exact⟨c,p,λh=>d _ _ (u h) b,by grind⟩) h b
 intro t
 induction t with
 | nil=>intro H a w w1 h b;exact Cl.rely h b
 | q i r I=>intro H a w w1 h b;obtain⟨o,v,e,f,h⟩:=h;exact⟨o,v,e,f,by grind⟩
 | s i r I=>intro H a w w1 h b;obtain⟨o,v,e,f,x,h⟩:=h;exact⟨o,v,e,f,x,by grind⟩
 | l i r I=>intro H a w w1 h b;exact k I h b
 | l2 i r j R g m=>intro H a w w1 h b;exact⟨k g h.1 b,k m h.2 b⟩
def Ov(p:∀w T,S w->Ry w T->S T)(g:Region.noSelect ops=true) :
 ∀(t:OT) (f:Nat) (H:Prop) (listed:Xv XN) (a:Act) (w:Xo),jC ops listed->vT ops K t f listed=true->(H->S w)->wt ro ops Q S K t H a w->TB ro ops Q S K f H listed a w:=by
 have C:∀{listed:Xv XN} {i:Nat},jC ops listed->i∈Region.ready .any ops listed->jC ops (listed.setIfInBounds i true):=λU V=>by
  have⟨_,Y,F,u⟩:=ZN.1 V;exact mX U F u
 intro t
 induction t with
 | nil=>intro f H listed a w _ b _ h;cases f with
  | zero=>exact⟨by simpa[vT]using b,h⟩
  | succ f=>cases b
 | q i r I=>intro f H listed a w c b m h;cases f with
  | zero=>cases b
  | succ f=>
   have⟨o,v,x,G,h⟩:=h;simp[vT]at b;have⟨⟨J,n⟩,b⟩:=b;have d:i∈Region.ready .any ops listed:=by omega
   exact BT p x (aaA g) f H listed a w c (abg x J) d G m (.inl rfl) (I f _ _ _ w (C c d) b m h)
 | s i r I=>intro f H listed a w c b m h;cases f with
  | zero=>cases b
  | succ f=>
   have⟨o,v,x,G,X,h⟩:=h;simp[vT]at b;have⟨⟨⟨Z,J⟩,n⟩,b⟩:=b;have d:i∈Region.ready .any ops listed:=by omega
   exact BT p x (aaA g) f H listed a w c (abg x J) d G m (.inr ⟨rfl,by omega,X⟩) (I f _ _ _ w (C c d) b m h)
 | l i r I=>intro f H listed a w c b m h;cases f with
  | zero=>cases b
  | succ f=>
   simp[vT]at b;have⟨n,b⟩:=b;refine⟨λL=>(by grind),λj B=>?_⟩;have e:=C c B;rw[n]at B;simp at B;subst B;exact jD (λD W k=>by grind) h
 | l2 i r j r' M N=>intro f H listed a w c b m h;cases f with
  | zero=>cases b
  | succ f=>
   simp[vT]at b;have⟨⟨n,y⟩,z⟩:=b;refine⟨λL=>(by rw[n]at L;cases L),λk E=>?_⟩;have e:=C c E;rw[n]at E;simp only[XW,ZO,abI]at E;rcases E with rfl|rfl
   .exact jD (λD W k=>by obtain⟨O,P,A,R⟩:=k;exact⟨O,P,A,M f _ _ D W e y A R⟩) h.1
   .exact jD (λD W k=>by obtain⟨O,P,A,R⟩:=k;exact⟨O,P,A,N f _ _ D W e z A R⟩) h.2
end
def WT(ops:Xv Yf)(Q:YL->Act->Xo->Prop)(S:Xo->Prop)(K:Xn Nat)(n:Nat)(d:Md)(b:XN)(t:OT)(e:Env)(w:Xo):Prop:=
 ∀a,Fr n d e a->(b=true->S w)->wt d.round ops Q S K t (b=true) a w
section
variable{ops:Xv Yf}{Q:YL->Act->Xo->Prop}{S:Xo->Prop}{K:Xn Nat}{n:Nat}{ds:Md}{e:Env}{w w':Xo}{b:XN}{t t':OT}
variable{op:Op}{ty:XO}{pos:YG}{af:Xv Edge}{d i j:Nat}{v u:Xp}{W0:Xo}{l l' r r':Xn ae}
def eM{id:Nat}{O:Xn Yf}[x:rZ Q][pr Q](L:Xn ae)(K:Xn Nat)(t:OT)(c:Sat W0 l w)
 (H:(vT O.toArray K t O.length (Array.replicate O.length false)&&Region.noSelect O.toArray&&(ds.round.isNone||IU O))=true)
 (k:∀w,Sat W0 l w->WT O.toArray Q (Sat W0 L) K n ds true t e w) (sub:mY L l:=by repeat (first|exact mY.refl|exact mY.nil|refine mY.cons (by repeat constructor) ?_|refine mY.skip ?_)):WC (.region id O.toArray true) Q n ds e w:=λa f=>by
 simp at H;have⟨⟨g,m⟩,y⟩:=H;refine yt λT=>?_;simp[mixed];refine qK O.toArray.size T _ _ _ (Dh (S:=Sat W0 L) (K:=K) _ (true=true) _ _ _ ?_);have E:O.toArray.size=O.length:=rfl;rw[E];exact Ov (λw W h p=>Sat.ry h p) m t O.length _ _ a _ (λj o z q=>by
  have s:j<O.length:=by grind
  simp[s]at q) g (λ_=>c.sub sub) (k _ c a f λ_=>c.sub sub)
theorem gL(k:WQ Q .normal n ds e w):WT ops Q S K n ds b .nil e w:=λa h _=>k a h
theorem Ll(c:ops[i]?=some ⟨some d,op,ty,pos,af,none⟩)(h:∀a w',Fr n ds e a->aR (execOp a.eval ⟨some d,op,ty,pos,af,none⟩) w' (.value v))(f:Nat.blt d n=true)
 (k:WT ops Q S K n ds b t ((d,v)::e) w):WT ops Q S K n ds b (.q i t) e w:=λa H g=>⟨_,v,c,.inl ⟨rfl,λw' _=>(h a w' H).oL.bu (λ_ h=>by grind) _⟩,k _ (H.put f) g⟩
def dH(H:ops[i]?=some ⟨some d,op,ty,pos,af,none⟩)(hv:yv e op=some v)(a:Nat.blt d n=true)(k:WT ops Q S K n ds b t ((d,v)::e) w):WT ops Q S K n ds b (.q i t) e w:=
 Ll H (λ_ _ h=>(Still.of (qC h hv) λE=>qD h hv).look) a k
def q9{x:Int}(h:ops[i]?=some ⟨some d,op,ty,pos,af,none⟩)(hv:yv e op=some (.int .i64 (IntKind.i64.wrap x)))(h1:-9223372036854775808<=x)(H:x<=9223372036854775807)(a:Nat.blt d n=true)
 (k:WT ops Q S K n ds b t ((d,.int .i64 x)::e) w):WT ops Q S K n ds b (.q i t) e w:=dH h (by rw[hv,wrap_i64 h1 H]) a k
variable {p:Prop}
def Ow [Decidable p] (h:ops[i]?=some ⟨some d,op,ty,pos,af,none⟩) (hv:yv e op=some (.bool (decide p))) (a:p) (H:Nat.blt d n=true) (k:WT ops Q S K n ds b t ((d,.bool true)::e) w):WT ops Q S K n ds b (.q i t) e w:=dH h (by grind) H k
def Ox [Decidable p] (h:ops[i]?=some ⟨some d,op,ty,pos,af,none⟩) (hv:yv e op=some (.bool (decide p))) (a:¬p) (H:Nat.blt d n=true) (k:WT ops Q S K n ds b t ((d,.bool false)::e) w):WT ops Q S K n ds b (.q i t) e w:=dH h (by grind) H k
variable {g:XN}
theorem qb {j:Nat} (c:ops[i]?=some ⟨some d,op,ty,pos,af,some (j,g)⟩) (h:gv ops e j=some g) (hv:yv e op=some v) (f:Nat.blt d n=true) (k:WT ops Q S K n ds b t ((d,v)::e) w):WT ops Q S K n ds b (.q i t) e w:=λa H m=>by
 exact⟨_,v,c,.inl ⟨by simp[Region.wanted,(gK H h)],λw' _=>((Still.of (qC H hv) λE=>qD H hv).look).oL.bu (λ_ h=>by grind) _⟩,k _ (H.put f) m⟩
def Oy {j:Nat} {x:Int} (H:ops[i]?=some ⟨some d,op,ty,pos,af,some (j,g)⟩) (h:gv ops e j=some g) (hv:yv e op=some (.int .i64 (IntKind.i64.wrap x))) (h1:-9223372036854775808<=x) (a:x<=9223372036854775807) (c:Nat.blt d n=true) (k:WT ops Q S K n ds b t ((d,.int .i64 x)::e) w):WT ops Q S K n ds b (.q i t) e w:=qb H h (by rw[hv,wrap_i64 h1 a]) c k
theorem Vp {j:Nat} (c:ops[i]?=some ⟨some d,op,ty,pos,af,some (j,g)⟩) (f:gv ops e j=some g) (h:∀a w',Fr n ds e a->aR (execOp a.eval ⟨some d,op,ty,pos,af,some (j,g)⟩) w' (.value v)) (m:Nat.blt d n=true) (k:WT ops Q S K n ds b t ((d,v)::e) w):WT ops Q S K n ds b (.q i t) e w:=λa H o=>by
 have s:=gK H f;exact⟨_,v,c,.inl ⟨by simp[Region.wanted,s],λw' _=>(h a w' H).oL.bu (λ_ h=>by grind) _⟩,k _ (H.put m) o⟩
variable {g':XN}
theorem Oz {j:Nat} (f:ops[i]?=some ⟨some d,op,ty,pos,af,some (j,g')⟩) (h:gv ops e j=some g) (H:g'=!g) (m:Nat.blt d n=true) (k:WT ops Q S K n ds b t ((d,undef)::e) w):WT ops Q S K n ds b (.q i t) e w:=λa c o=>by
 subst H;have:(some g==some (!g))=false:=by simp
 exact⟨_,undef,f,.inr ⟨by simp[Region.wanted,gK c h],rfl⟩,k _ (c.put m) o⟩
theorem HB {j:Nat} (f:ops[i]?=some ⟨some d,op,ty,pos,af,some (j,g')⟩) (h:gv ops e j=some g) (H:g'=!g) (m:Nat.blt d n=true) (k:WT ops Q S K n ds true t ((d,undef)::e) w):WT ops Q S K n ds true (.s i t) e w:=λa c o=>by
 subst H;have:(some g==some (!g))=false:=by simp
 exact⟨_,undef,f,.inr ⟨by simp[Region.wanted,gK c h],rfl⟩,rfl,k _ (c.put m) o⟩
theorem OA(c:ops[i]?=some ⟨some d,op,ty,pos,af,none⟩)(h:∀a w',Fr n ds e a->S w'->aR (execOp a.eval ⟨some d,op,ty,pos,af,none⟩) w' (.value v))(f:Nat.blt d n=true)
 (k:WT ops Q S K n ds true t ((d,v)::e) w):WT ops Q S K n ds true (.s i t) e w:=λa H m=>⟨_,v,c,.inl ⟨rfl,λw' o=>(h a w' H o).oL.bu (λ_ h=>by grind) _⟩,rfl,k _ (H.put f) m⟩
theorem TC {j:Nat} (c:ops[i]?=some ⟨some d,op,ty,pos,af,some (j,g)⟩) (f:gv ops e j=some g) (h:∀a w',Fr n ds e a->S w'->aR (execOp a.eval ⟨some d,op,ty,pos,af,some (j,g)⟩) w' (.value v)) (m:Nat.blt d n=true) (k:WT ops Q S K n ds true t ((d,v)::e) w):WT ops Q S K n ds true (.s i t) e w:=λa H o=>by
 have q:=gK H f;exact⟨_,v,c,.inl ⟨by simp[Region.wanted,q],λw' x=>(h a w' H x).oL.bu (λ_ h=>by grind) _⟩,rfl,k _ (H.put m) o⟩
variable {x:XZ} {T bb o E:Nat} {sh:XN} {cs:Xn Xp} {l0:Xn ae}
def zo (H:ops[i]?=some ⟨some d,.load T x,ty,pos,af,none⟩) (c:ev e x=some (.pointer (some ⟨bb,o,none⟩))) (f:lk kV T=some false) (m:Take (ob sh bb (.cells cs.toArray E (0,0))) l0 r) (q:cs[o]?=some v) (y:Nat.blt d n=true) (k:WT ops Q (Sat W0 l0) K n ds true t ((d,v)::e) w) (h:SX E o v:=by first|exact .inl rfl|exact .inr rfl|exact .inl (by assumption)):WT ops Q (Sat W0 l0) K n ds true (.s i t) e w:=
 OA H (λa w' z A=>xn z A c f m q h) y k
def re {j:Nat} (H:ops[i]?=some ⟨some d,.load T x,ty,pos,af,some (j,g)⟩) (c:gv ops e j=some g) (f:ev e x=some (.pointer (some ⟨bb,o,none⟩))) (m:lk kV T=some false) (q:Take (ob sh bb (.cells cs.toArray E (0,0))) l0 r) (y:cs[o]?=some v) (z:Nat.blt d n=true) (k:WT ops Q (Sat W0 l0) K n ds true t ((d,v)::e) w) (h:SX E o v:=by first|exact .inl rfl|exact .inr rfl|exact .inl (by assumption)):WT ops Q (Sat W0 l0) K n ds true (.s i t) e w:=
 TC H c (λa w' A B=>xn A B f m q y h) z k
variable {y:XZ} {tt k len c:Nat} {Y:Int} {a:Act}
theorem Jn {j:Nat} {W:Xo} {g:XB (Nat×XN)} (H:Fr n ds e a) (f:ev e x=some (.slice (some ⟨bb,o,none⟩) len c)) (m:ev e y=some (.int .i64 Y)) (q:Y=(j:Int)) (s:lk dK tt=some E) (h:lk cY E=some k) (h1:j<len):
 aR (execOp a.eval ⟨some d,.indexAddr tt x y,ty,pos,af,g⟩) W (.value (.pointer (some ⟨bb,o+j*k,none⟩))):=Still.look λB=>by
 subst q;have C:(0:Int)<=(j:Int):=by omega
 have z:(j:Int)<(len:Int):=by omega
 have A:¬len<=j:=by omega
 simp[execOp,H.ev f,H.ev m,Instr.indexAt,asIntOf,bx (bw s),db h,A,add_eq]
def gM {j:Nat} (H:ops[i]?=some ⟨some d,.indexAddr tt x y,ty,pos,af,none⟩) (f:ev e x=some (.slice (some ⟨bb,o,none⟩) len c)) (m:ev e y=some (.int .i64 Y)) (s:Y=(j:Int)) (z:lk dK tt=some E) (h:lk cY E=some k) (h1:j<len) (A:Nat.blt d n=true) (kk:WT ops Q S K n ds b t ((d,.pointer (some ⟨bb,o+j*k,none⟩))::e) w):WT ops Q S K n ds b (.q i t) e w:=
 Ll H (λ_ _ B=>Jn B f m s z h h1) A kk
def vU {j J:Nat} (H:ops[i]?=some ⟨some d,.indexAddr tt x y,ty,pos,af,some (J,g)⟩) (f:gv ops e J=some g) (m:ev e x=some (.slice (some ⟨bb,o,none⟩) len c)) (s:ev e y=some (.int .i64 Y)) (z:Y=(j:Int)) (A:lk dK tt=some E) (h:lk cY E=some k) (h1:j<len) (B:Nat.blt d n=true) (kk:WT ops Q S K n ds b t ((d,.pointer (some ⟨bb,o+j*k,none⟩))::e) w):WT ops Q S K n ds b (.q i t) e w:=
 Vp H f (λ_ _ C=>Jn C m s z A h h1) B kk
def OB {L H:XB XZ} {cap:Nat} (l' h':Nat) (f:ops[i]?=some ⟨some d,.slice tt x L H none,ty,pos,af,none⟩) (m:ev e x=some (.slice (some ⟨bb,o,none⟩) len cap)) (s:lk dK tt=some E) (h:lk cY E=some k) (z:match L with|none=>l'=0|some y=>ev e y=some (.int .i64 (l':Int))) (A:match H with|none=>h'=len|some y=>ev e y=some (.int .i64 (h':Int))) (h1:l'<=h') (B:h'<=cap) (C:Nat.blt d n=true) (kk:WT ops Q S K n ds b t ((d,.slice (some (cutAt bb o cap l' k)) (h'-l') (cap-l'))::e) w):WT ops Q S K n ds b (.q i t) e w:=
 Ll f (λa w' D=>Jk l' h' D m s h (by grind) (by grind) h1 B) C kk
abbrev zp(ro:XB Nat)(ops:Xv Yf)(Q:YL->Act->Xo->Prop)(S:Xo->Prop)(K:Xn Nat)(i:Nat)(t:OT)(H:Prop):YL->Act->Xo->Prop:=Exit.then (λa w=>∃H':Prop,(qa ops K i=false->H->H')/\(H'->S w)/\wt ro ops Q S K t H' a w) Q
variable {H:Prop}
def Di {o:Yf} (m:∀w W,S w->Ry w W->S W) (z:ops[i]?=some o) (A:Fr n ds e a) (k:WL ops (zp ds.round ops Q S K i t H) n ds [o] e w):j0 ds.round ops i (λB w'=>∃f:Prop,(qa ops K i=false->H->f)/\(f->S w')/\wt ds.round ops Q S K t f B w') a w:=by
 have h:=k a A;unfold rX at h;simp[j0,z];have q:∀a w,rX ds.round ops (zp ds.round ops Q S K i t H) [] a w->∃f:Prop,(qa ops K i=false->H->f)/\(f->S w)/\wt ds.round ops Q S K t f a w:=by
  exact λa w ⟨V,s,f,C,D,F⟩=>⟨f,C,λh=>m _ _ (D h) s,Rn m t _ a V w F s⟩
 split at h
 .rename_i G;rw[XE G];exact h.mono q
 grind
def ju{o:Yf}(m:ops[i]?=some o)(k:WL ops (zp ds.round ops Q S K i t (b=true)) n ds [o] e w)(f:∀w w1,S w->Ry w w1->S w1:=by exact λ_ _ h q=>Sat.ry h q):WT ops Q S K n ds b (.l i t) e w:=λa s _=>Di f m s k
def FR{o o':Yf}(s:ops[i]?=some o)(m:ops[j]?=some o')(k:WL ops (zp ds.round ops Q S K i t (b=true)) n ds [o] e w)(k':WL ops (zp ds.round ops Q S K j t' (b=true)) n ds [o'] e w)(f:∀w w1,S w->Ry w w1->S w1:=by exact λ_ _ h z=>Sat.ry h z):WT ops Q S K n ds b (.l2 i t j t') e w:=λa q _=>⟨Di f s q k,Di f m q k'⟩
theorem gH (h:S w) (k:WT ops Q S K n ds true t e w):WQ (zp ds.round ops Q S K i t H) .normal n ds e w:=λa f=>.of ⟨true=true,λ_ _=>rfl,λ_=>h,k a f λ_=>h⟩
theorem fa (m:qa ops K i=true) (k:WT ops Q S K n ds false t e w):WQ (zp ds.round ops Q S K i t H) .normal n ds e w:=λa f=>.of ⟨false=true,λh=>(by grind),λh=>(by grind),k a f λh=>by grind⟩
end
attribute [irreducible] WT
end
section
variable[Bs0:Base][NQ]
theorem nk{G g:Prop}(k:g)(h:CS g->G:=by
 (intro k
  repeat (first
   | refine q9 rfl rfl (by omega) (by omega) rfl ?_
   | refine Ow rfl rfl (by first|assumption|omega) rfl ?_
   | refine Ox rfl rfl (by first|assumption|omega) rfl ?_
   | refine dH rfl rfl rfl ?_
   | refine Oy rfl rfl rfl (by omega) (by omega) rfl ?_
   | refine qb rfl rfl rfl rfl ?_
   | refine Oz rfl rfl rfl rfl ?_
   | refine HB rfl rfl rfl rfl ?_
   | refine zo rfl rfl rfl (by repeat constructor) (by rfl) rfl ?_
   | refine re rfl rfl rfl rfl (by repeat constructor) (by rfl) rfl ?_)
  exact k.out)):G:=h ⟨k⟩
end
section
variable[Bs0:Base][NQ]
open Pure (ad ay Rd bF less aO aU)
attribute [local irreducible] IntKind.wrap
def AB(b:Bs×Nat×Nat):Xn Xp:=[str b.1,.int .i64 (b.2.1:Int),.int .i64 (b.2.2:Int)]
def cV(l:Xn (Bs×Nat×Nat)):Xn (Xn Xp):=l.map AB
theorem xC(l:Xn (Bs×Nat×Nat)):∀r∈cV l,r.length=3:=λr h=>by obtain⟨e,_,rfl⟩:=XA.1 h;rfl
structure Jo(T:dB):Prop where
 len:T.blocks.length<=1099511627776
 count:T.count<=4611686018427387904
 nums:∀b∈T.blocks,b.2.1<=4611686018427387904/\b.2.2<=4611686018427387904
def du(d p:Nat)(T:dB):ae:=λh=>Jo T/\∃bv,cj [Ae p 200 [str T.name,str T.first,str T.last,.int .i64 (T.count:Int),ax d,bv],nj 3 bv (cV T.blocks)] h
def zq(d p:Nat)(T:dB):Qc (du d p T):=λh ⟨a,bv,k⟩=>⟨a,bv,zk (l:=[Ae p 200 [str T.name,str T.first,str T.last,.int .i64 (T.count:Int),ax d,bv],nj 3 bv (cV T.blocks)]) (λA H=>by
 simp at H;rcases H with rfl|rfl
 .exact Ty _ _
 .exact Rm _ _ _) h k⟩
variable{W0 w:Xo}{F:Xn ae}{v:Xp}{d p:Nat}{T:dB}{D:ad}
theorem Sat.Jp(h:Sat W0 (du d p T::F) w):Jo T:=h.jm λ_ k=>k.1
def Sat.rS(h:Sat W0 (du d p T::F) w):∃bv,Sat W0 (Ae p 200 [str T.name,str T.first,str T.last,.int .i64 (T.count:Int),ax d,bv]::nj 3 bv (cV T.blocks)::du d p T::F) w:=by
 obtain⟨bv,_,H⟩:=(h.zl (zq d p T)).gD (φ:=λ_:Xp=>True) (B:=λbv=>[Ae p 200 [str T.name,str T.first,str T.last,.int .i64 (T.count:Int),ax d,bv],nj 3 bv (cV T.blocks)]) λa ⟨_,bv,k⟩=>⟨bv,Xr,k⟩;exact⟨bv,H⟩
theorem Jq(key:Bs):∀l:Xn (Bs×Nat×Nat),DW key l<=l.length
 | []=>XD _
 | b::r=>by unfold DW;have:=Jq key r;split<;>simp<;>omega
def HC{key:Bs}(b:Sat W0 (du d p T::F) w):Calls prog 229 #[ax p,str key] w λx w'=>x=.returned (.int .i64 (nT T key:Int))/\Sat W0 (du d p T::F) w':=by
 have o:=b.Jp;obtain⟨bv,b⟩:=b.rS;obtain⟨a,c,rfl,A⟩:=(b.take dt).kQ;have k:(cV T.blocks).length=T.blocks.length:=by simp[cV]
 rw[k]at b;have B:=o.len;refine enter func229 rfl ntmps229 results229 rfl ?_;refine go ?_;refine aL (α:=Nat) (λi=>[(0,ax p),(1,str key),(5,.int .i64 (i:Int))])
  (λi w=>(i<=T.blocks.length/\i+DW key (T.blocks.drop (i+1))=nT T key)/\Sat W0 (Ae p 200 [str T.name,str T.first,str T.last,.int .i64 (T.count:Int),ax d,.slice a T.blocks.length c]::nj 3 (.slice a T.blocks.length c) (cV T.blocks)::du d p T::F) w) (λi=>T.blocks.length-i) 0 ⟨rfl,rfl,rfl,Xr⟩ ⟨⟨XR _,by simp[nT]⟩,b⟩ ?_
 clear b;rintro i w ⟨⟨C,H⟩,b⟩;by_cases e:i+1<T.blocks.length
 .have t:T.blocks[i+1]?=some T.blocks[i+1]:=Xq e;obtain⟨z,⟨u,y,l⟩,q⟩:=(b.take dt).qY (by intro h;simp[cV]at h;rw[h]at e;simp at e);obtain⟨rfl,_,rfl⟩:=Yk u;have m:=l.row (i:=i+1) (x:=AB T.blocks[i+1]) (xC _) (by simp[cV,t]);have g:=m.1;have j:T.blocks.drop (i+1)=T.blocks[i+1]::T.blocks.drop (i+1+1):=XX e;rw[j]at H;unfold DW at H;refine go ?_;refine de (i:=i+1) rfl rfl (by omega) rfl rfl e rfl ?_;refine go ?_;refine fF q rfl rfl .here g rfl ?_;cases n:aO key T.blocks[i+1].1 with
  | true=>
   rw[n,XE rfl,aak]at H;have f:=n;rw[mr]at f;have r:(!wZ key T.blocks[i+1].1)=false:=by rw[f];rfl
   refine go ?_;exact an rfl ⟨by rw[<- H];rfl,b.to⟩
  | false=>
   rw[n,Xx (by simp)]at H;have f:=n;rw[mr]at f;have r:(!wZ key T.blocks[i+1].1)=true:=by rw[f];rfl
   refine go ?_;exact az (i+1) ⟨rfl,rfl,rfl,Xr⟩ ⟨⟨by omega,by omega⟩,b⟩ (by omega)
 .have s:T.blocks.drop (i+1)=[]:=Ym (by omega);rw[s]at H;refine go ?_;exact an rfl ⟨by rw[<- H];rfl,b.to⟩
variable {nm:Bs} {b:Nat}
theorem Sat.Vq {k:Nat} (h:Sat W0 (blk b 251 [str nm,.int .i64 (k:Int)]::F) w):Sat W0 (aW (.iface 249 (.pointer (some ⟨b,0,none⟩))) (some (some nm,k))::F) w:=
 h.share.head λ_ k=>⟨b,rfl,k⟩
def pT (h:Sat W0 F w):Calls prog 166 #[str nm] w λx w'=>∃V,x=.returned V/\Sat W0 (aW V (some (some nm,7))::F) w':=by
 refine enter func166 rfl ntmps166 results166 rfl ?_;refine go ?_;refine cx [str nm,.int .i64 7] ?_;refine eB h λw b h=>?_;refine go ?_;exact an rfl ⟨_,rfl,(h.Vq (k:=7)).to⟩
variable{W0 w:Xo}{F l:Xn ae}
abbrev uV(n:Nat):Xp:=.int .u64 (n:Int)
variable {a:Nat}
def OC (h:Sat W0 l w):Calls prog 253 #[uV a] w λx w'=>x=.returned (.bool false)/\Sat W0 l w':=by
 refine enter func253 rfl ntmps253 results253 rfl ?_;refine go ?_;refine an rfl ⟨?_,h⟩;simp[tN]
def OD (h:Sat W0 l w):Calls prog 243 #[uV a,uV b] w λx w'=>x=.returned (.bool (decide (a<b)))/\Sat W0 l w':=by
 refine enter func243 rfl ntmps243 results243 rfl ?_;refine go ?_;refine ak (met (OC h) ?_);rintro _ w ⟨rfl,h⟩;refine⟨_,rfl,go ?_⟩;refine an rfl ⟨?_,h⟩;simp[tN]
theorem swap_perm{α:Type}(us:Xn α)(j:Nat)(h:j+1<us.length):(((us.set (j+1) us[j])).set j us[j+1]).Perm us:=by
 have e:us=us.take j++us[j]::us[j+1]::us.drop (j+2):=by
  conv=>lhs;rw[<- X9 j us,XX (by omega),XX h]
 generalize c:us[j]=x at *;generalize f:us[j+1]=y at *;have H:(us.take j).length=j:=by simp;omega
 generalize us.take j=A at *;generalize us.drop (j+2)=B at *;subst e;have E:((A++x::y::B).set (j+1) x).set j y=A++y::x::B:=by
  subst H;rw[Z0 _ _ (by omega),Z0 _ _ (by omega)];simp
 rw[E];exact aau _ (List.Perm.swap _ _ _)
def FT {c:Nat} {us:Xn Nat} {rs:Xn Xp} (h:Sat W0 (blk b 131 (us.map uV++rs)::F) w) (t:us.length<=12):
 Calls prog 237 #[.slice (some ⟨b,0,none⟩) us.length c,.int .i64 0,.int .i64 (us.length:Int)] w λx w'=>∃v,∃U:Xn Nat,x=.returned v/\U.Perm us/\Sat W0 (blk b 131 (U.map uV++rs)::F) w':=by
 refine enter func237 rfl ntmps237 results237 rfl ?_;refine go ?_;refine aL (α:=Nat×Xn Nat) (λz=>[(0,.slice (some ⟨b,0,none⟩) us.length c),(1,.int .i64 0),(2,.int .i64 (us.length:Int)),(6,.int .i64 (z.1:Int))])
  (λz w=>(1<=z.1/\z.1<=us.length+1/\z.2.Perm us)/\Sat W0 (blk b 131 (z.2.map uV++rs)::F) w) (λz=>us.length+1-z.1) (1,us) ⟨rfl,rfl,rfl,rfl,Xr⟩ ⟨⟨by simp,by simp,List.Perm.refl _⟩,h⟩ ?_
 clear h;rintro⟨i,e⟩ w ⟨⟨A,y,o⟩,h⟩;simp only at A y o;by_cases hlt:i<us.length
 .refine go ?_;refine aL (α:=Nat×Xn Nat) (λz=>[(0,.slice (some ⟨b,0,none⟩) us.length c),(1,.int .i64 0),(2,.int .i64 (us.length:Int)),(6,.int .i64 (i:Int)),(7,.int .i64 (z.1:Int))])
   (λz w=>(z.1<us.length/\z.2.Perm us)/\Sat W0 (blk b 131 (z.2.map uV++rs)::F) w) (λz=>z.1) (i,e) ⟨rfl,rfl,rfl,rfl,rfl,Xr⟩ ⟨⟨hlt,o⟩,h⟩ ?_
  clear h;rintro⟨j,u⟩ w ⟨⟨B,H⟩,h⟩;simp only at B H;have C:=H.length_eq;by_cases E:0<j
  .obtain⟨j,rfl⟩:∃k,j=k+1:=⟨j-1,by omega⟩;have f:j+1<(u.map uV).length:=by simp;omega
   have g:j<(u.map uV).length:=by simp;omega
   have m:(u.map uV++rs)[0+(j+1)*1]?=some (uV u[j+1]):=by
    rw[X0,YA,XH f,Xq f,List.getElem_map]
   have n:(u.map uV++rs)[0+j*1]?=some (uV u[j]):=by
    rw[X0,YA,XH g,Xq g,List.getElem_map]
   refine go ?_;refine eM [blk b 131 (u.map uV++rs)] [7,12] (.q 0 (.q 1 (.q 2 (.q 3 (.q 4 (.q 5 (.q 6 (.s 7 (.q 8 (.q 9 (.q 10 (.q 11 (.s 12 (.l 13 (.q 14 .nil))))))))))))))) h (by kernel_rfl) λw h=>?_;refine nk ?_;refine vU (j:=j+1) rfl rfl rfl rfl rfl rfl rfl (by omega) rfl ?_;refine re rfl rfl rfl rfl .here m rfl ?_;refine nk ?_;refine vU (j:=j) rfl rfl rfl rfl (by omega) rfl rfl (by omega) rfl ?_;refine re rfl rfl rfl rfl .here n rfl ?_;refine nk ?_;refine ju rfl ?_;refine uk ?_;refine ak (met (OD h) ?_);rintro _ w ⟨rfl,h⟩;refine⟨_,rfl,uk ?_⟩;generalize decide (u[j+1]<u[j])=q;refine fa rfl ?_;refine nk ?_;refine gL ?_;refine go ?_;cases q with
   | true=>
    refine go ?_;have y:j+1+1<=u.length:=by omega
    refine eM [blk b 131 (u.map uV++rs)] [9,13] (.q 0 (.q 1 (.q 5 (.q 6 (.q 7 (.q 8 (.s 9 (.q 10 (.q 11 (.q 12 (.s 13 (.q 14 (.q 2 (.q 3 (.q 4 (.l 15 (.q 16 (.l 17 .nil)))))))))))))))))) h (by kernel_rfl) λw h=>?_;refine nk ?_;refine gM (j:=j) rfl rfl rfl (by omega) rfl rfl (by omega) rfl ?_;refine zo rfl rfl rfl .here n rfl ?_;refine nk ?_;refine gM (j:=j+1) rfl rfl rfl rfl rfl rfl (by omega) rfl ?_;refine zo rfl rfl rfl .here m rfl ?_;refine nk ?_;refine gM (j:=j+1) rfl rfl rfl rfl rfl rfl (by omega) rfl ?_;refine nk ?_;refine ju rfl ?_;refine bJ h (λw h=>?_) (hlt:=by rw[YK];simp;omega);refine uk ?_;refine fa rfl ?_;refine gM (j:=j) rfl rfl rfl (by omega) rfl rfl (by omega) rfl ?_;refine nk ?_;refine ju rfl ?_;refine bJ h (λw h=>?_) (hlt:=by rw[YK];simp;omega);refine uk ?_;refine fa rfl ?_;refine gL ?_;refine go ?_;exact az ⟨j,(u.set (j+1) u[j]).set j u[j+1]⟩ ⟨rfl,rfl,rfl,rfl,by show some (Value.int .i64 _)=some (Value.int .i64 _);congr 2;show((j+1:Nat):Int)-1=(j:Int);omega,Xr⟩ ⟨⟨by show j<us.length;omega,(swap_perm u j (by omega)).trans H⟩,by
     show Sat W0 (blk b 131 (((u.set (j+1) u[j]).set j u[j+1]).map uV++rs)::F) _;rw[List.map_set,List.map_set,<- List.set_append_left _ _ (by simp;omega),<- List.set_append_left _ _ (by simp;omega)];simpa using h⟩ (by show j<j+1;omega)
   | false=>
    refine go ?_;exact az ⟨i+1,u⟩ ⟨rfl,rfl,rfl,rfl,Xr⟩ ⟨⟨by simp,by show i+1<=us.length+1;omega,H⟩,h⟩ (by show us.length+1-(i+1)<us.length+1-i;omega)
  .have r:j=0:=by omega
   subst r;refine go ?_;refine bU (l:=blk b 131 (u.map uV++rs)::F) [] [(0,false),(1,false),(2,false),(3,false),(4,false),(5,false),(6,false),(7,false),(8,false),(9,false),(10,false),(11,false),(12,false),(13,false),(14,false)] h.to (by kernel_rfl) λw h=>?_;refine go ?_;exact az ⟨i+1,u⟩ ⟨rfl,rfl,rfl,rfl,Xr⟩ ⟨⟨by simp,by show i+1<=us.length+1;omega,H⟩,h⟩ (by show us.length+1-(i+1)<us.length+1-i;omega)
 .refine go ?_;exact fE rfl ⟨_,e,rfl,o,h⟩
