/-
  Part 46: ; ; .
-/
import Derived.Test.YtecibefflhomdaaGreatDoorZ28
import Derived.Test.YtecibefflhomdaaGreatDoorZ45
import Derived.Conc.AppendWalk
set_option maxHeartbeats 8000000
set_option maxRecDepth 100000
set_option linter.all false
namespace Go.Proofs.YtecibefflhomdaaGreatDoor
open Go Proofs.Tryz
section
open Go Go.Conc
open Pure (ad cC)
section
variable[Bs0:Base]
variable{ops:Xv Yf}{Q:YL->Act->Xo->Prop}{n:Nat}{ds:Md}{e:Env}{w:Xo}{rest:Xn Yf}
variable{ty:XO}{pos:YG}{af:Xv Edge}{d:Nat}{W0:Xo}{l:Xn ae}
variable {x:XZ}
def PM {y:XZ} {m:Nat} (hm:m<=1000) (c:Sat W0 l w) (f:ev e x=some (.int .i64 (m:Int))) (p:ev e y=some (.int .i64 (m:Int))) (kk:∀q b,Sat W0 (blk b 44 (List.replicate m (.int .i64 0))::l) q->WL ops Q n ds rest ((d,.slice (some ⟨b,0,none⟩) m m)::e) q) (u:Nat.blt d n=true:=by rfl):
 WL ops Q n ds (⟨some d,.makeSlice 70 x y,ty,pos,af,none⟩::rest) e w:=by
 obtain⟨i,r⟩:∃i,prog.info? 44=some i:=by
  cases h:prog.info? 44 with
  | some i=>exact⟨i,rfl⟩
  | none=>
   have:(prog.info? 44).isSome=true:=by kernel_rfl
   grind
 have s:i.zero=some (.int .i64 0):=by
  have:(prog.info? 44).bind (·.zero)=some (.int .i64 0):=by kernel_rfl
  grind
 have k:i.size=1:=by
  have:(prog.info? 44).map (·.size)=some 1:=by kernel_rfl
  grind
 have v:i.bytes=8:=by
  have:(prog.info? 44).map (·.bytes)=some 8:=by kernel_rfl
  grind
 refine jk (λW t=>?_) u;have c:=c.ry t;have H:=c.new (.cells (List.replicate m (.int .i64 0)).toArray 44) false (mD λx f=>by rw[(List.mem_replicate.1 f).2];intro h;cases h);have E:madeCells (Value.int .i64 0).cells (Int.toNat (m:Int)*i.size)=(List.replicate m (Value.int .i64 0)).toArray:=by
  rw[k,Int.toNat_natCast,YA];apply Array.ext
  .simp[madeCells]
  .intro j t A;simp[madeCells,Value.cells]
   grind
 have h:=run_make W 70 44 i _ (bw rfl) r s .i64 .i64 (m:Int) (m:Int) (by omega) (by omega) (by grind) (by omega);have B:=λz=>events_make W 70 44 i _ (bw rfl) r s .i64 .i64 (m:Int) (m:Int) (by omega) (by omega) (by grind) (by omega) (by grind) z;rw[E]at h;refine⟨.slice (some ⟨W.heap.size,0,none⟩) m m,{ W with heap:=W.heap.push (.cells (List.replicate m (.int .i64 0)).toArray 44) },λa g=>.of ?_ (λev o=>?_) (c.kU H mi),kk _ _ H⟩
 .simp only[execOp,g.ev f,g.ev p];simp_all
 .simp only[execOp,g.ev f,g.ev p]at o;simp_all
def LR (c:Sat W0 l w) (j:ev e x=some (.int .i64 0)) (kk:∀k b,Sat W0 (ob false b (.chan 0 #[] false 0 0 false)::l) k->WL ops Q n ds rest ((d,.chan (some b))::e) k) (p:Nat.blt d n=true:=by rfl):
 WL ops Q n ds (⟨some d,.makeChan 150 x,ty,pos,af,none⟩::rest) e w:=by
 have⟨D,H⟩:=Py;have⟨i,z,m,_⟩:=JG;refine jk (λW q=>?_) p;have c:=c.ry q;have f:=c.new (.chan 0 #[] false 0 0 false) false Xr;have h:=run_makeChan (w:=W) H m .i64 0 (by omega) (by omega);have r:=λE=>events_makeChan (w:=W) H m .i64 0 (by omega) (by omega) E;refine⟨.chan (some W.heap.size),{ W with heap:=W.heap.push _ },λa o=>.of ?_ (λev g=>?_) (c.kU f mi),by grind⟩
 .simp[execOp,o.ev j];simp_all
 .simp[execOp,o.ev j]at g;simp_all
def tight(bl:Xn (Nat×Obj)):ae:=λh=>∃H,Hp.le H h/\EP H/\∀x∈bl,H x.1=some (true,x.2)
open Classical in
def LU{bl:Xn (Nat×Obj)}(hbl:iC bl)(h:Sat W0 (cy bl++l) w):Sat W0 (tight bl::l) w:=by
 obtain⟨a,b,c,d,hp,e,f,r⟩:=h;obtain⟨h1,h2,ff,l1,l2,ra,rb⟩:=dV r;let S:Nat->Prop:=λi=>kP bl i
 have hS:∀i,S i->∃o,h1 i=some (false,o)/\(∃x∈bl,x.1=i/\x.2=o):=λi ⟨x,hx,hi⟩=>⟨x.2,by rw[<- hi];exact jV ra x hx,x,hx,hi,rfl⟩;let H:Hp:=λi=>if S i then(hp i).map λx=>(true,x.2)else hp i
 have H1:∀{i},S i->∀{o},h1 i=some (false,o)->H i=some (true,o):=λ{i} hi {o} ho=>by
  show(if S i then _ else _)=_;rw[XE hi,l1 i _ ho];rfl
 have H0:∀{i},¬S i->H i=hp i:=λhi=>Xx hi;have hold:∀i,S i->¬Bs0.old i:=λi hi ho=>by
  obtain⟨o,ho1,_⟩:=hS i hi;obtain⟨o',ho2,_⟩:=(d.1 i).1 ho;have:=f.1 i o' ho ho2;rw[l1 i _ ho1]at this;cases this
 have h2S:∀i,S i->h2 i=none:=λi hi=>by
  cases hx:h2 i with
  | none=>rfl
  | some y=>
   obtain⟨o,ho1,x,hx1,rfl,rfl⟩:=hS i hi;obtain⟨e1,e2⟩:=ff _ _ _ ho1 hx;rcases e2 with e2|e2
   .cases e2
   .exact XG e2 (hbl x hx1).1
 let h1':Hp:=λi=>if S i then H i else none
 have T1:∀{i},S i->h1' i=H i:=λhi=>XE hi;have T0:∀{i},¬S i->h1' i=none:=λhi=>Xx hi;refine⟨a,b,c,d,H,λi x hx=>?_,⟨λi o ho hz=>?_,λi x hx ho=>?_⟩,h1',h2,λi x y hx hy=>?_,λi x hx=>?_,λi x hx=>?_,⟨h1',Hp.le_refl _,λi x hx=>?_,λx hx=>?_⟩,rb⟩
 .by_cases hi:S i
  .obtain⟨o,ho1,_⟩:=hS i hi;rw[H1 hi ho1]at hx;cases hx;exact e i (false,o) (l1 i _ ho1)
  .rw[H0 hi]at hx;exact e i x hx
 .rw[H0 λhi=>hold i hi ho];exact f.1 i o ho hz
 .by_cases hi:S i
  .obtain⟨o,ho1,_⟩:=hS i hi;rw[H1 hi ho1]at hx;cases hx;exact f.2 i (false,o) (l1 i _ ho1) ho
  .rw[H0 hi]at hx;exact f.2 i x hx ho
 .exfalso;by_cases hi:S i
  .rw[h2S i hi]at hy;cases hy
  .rw[T0 hi]at hx;cases hx
 .by_cases hi:S i
  .rw[T1 hi]at hx;exact hx
  .rw[T0 hi]at hx;cases hx
 .by_cases hi:S i
  .rw[h2S i hi]at hx;cases hx
  .rw[H0 hi];exact l2 i x hx
 .by_cases hi:S i
  .rw[T1 hi]at hx;obtain⟨o,ho1,y,hy,rfl,rfl⟩:=hS i hi;rw[H1 hi ho1]at hx;cases hx;exact⟨rfl,f.2 _ (false,y.2) (l1 _ _ ho1) (hold _ hi),(hbl y hy).2⟩
  .rw[T0 hi]at hx;cases hx
 .have hi:S x.1:=⟨x,hx,rfl⟩;rw[T1 hi];exact H1 hi (jV ra x hx)
end
abbrev uF:Base:=bI λ_=>False
theorem V7:@NQ uF:=@NQ.mk uF rfl
def Gh:Xn Nat->Xn (Xn cC)->Xn Xp
 | f::b::c::r,l::m=>(if f=0 then .slice none 0 0 else .slice (some ⟨b,0,none⟩) l.length c)::Gh r m
 | _,_=>[]
def me(m:Xn (Xn cC))(Inv:Xn Nat->St->ad->Prop)(o:pX):Xn Nat->cn
 | b::d::wg::ch::t2::t5::t6::r=>
  { mu:=b,wg:=wg,ch:=ch,n:=m.length,len:=λi=>if i=m.length then m.length+1 else((m[i]?).getD []).length,LI:=@Qg uF V7 Inv b d o,
    R:=λh=>∃H,Hp.le H h/\EP H/\H t6=some (true,.cells #[.chan (some ch)] 150 (0,0))/\H t2=some (true,.cells #[ax b] 31 (0,0))/\∀(i:Nat) (l:Xn cC) (u:Xp),m[i]?=some l->(Gh r m)[i]?=some u->iS u l H,
    go:=λc g D=>∃B a u,(Gh r m)[c]?=some u/\g=[(B,.cells #[.int .i64 (c:Int)] 3 (0,0)),(a,.cells #[u] 73 (0,0))] /\
     D={ target:=.fn (.func 60) #[.pointer (some ⟨wg,0,none⟩),.pointer (some ⟨t6,0,none⟩),.pointer (some ⟨a,0,none⟩),.pointer (some ⟨t2,0,none⟩),.pointer (some ⟨t5,0,none⟩),.pointer (some ⟨B,0,none⟩)],args:=#[] } }
 | _=>{ mu:=0,wg:=0,ch:=0,n:=0,len:=λ_=>1,LI:=λ_ _=>True,R:=λ_=>False,go:=λ_ _ _=>False }
variable {m:Xn (Xn cC)} {o:pX}
def RR {Inv:Xn Nat->St->ad->Prop} (hm:m.length<=10000) (x:Xn Nat):Fx (me m Inv o x):=by
 unfold me;split
 .exact⟨hm,by simp⟩
 .exact⟨by grind,by grind⟩
def RS{u:Xp}{l:Xn cC}{h:Hp}{W:Xo}(f:∀i x,h i=some x->W.heap[i]?=some x.2)(k:iS u l h):DG W 3 u (cZ l):=by
 have⟨a,H⟩:=k;rcases H with⟨rfl,H⟩|⟨b,o,c,rfl,q,d⟩
 .exact⟨by grind,a,λe=>XG H e⟩
 .refine⟨by grind,a,λe=>?_⟩;rcases d with d|⟨all,E,g,n⟩
  .grind
  .refine⟨b,o,c,rfl,λj u p=>?_⟩;rw[World.cell?,f _ _ g];letI:Base:=uF
   have:=n.at j u p;simpa using this
def Ia {Inv:Xn Nat->St->ad->Prop} {O:Nat->Prop} {W:Xo} (M:ou W) (h1:O 1) (f:∀l∈m,l.length<=1099511627776) (g:∀i l j x,m[i]?=some l->l[j]?=some x->∀st s D,st.count i=j->Inv st s D->F8 [x]=none/\∃S J,mM o s D [x] false=some (.ok S,J)/\Inv (st++[i]) S J) (x:Xn Nat):xz (me m Inv o) O W (me m Inv o x):=by
 intro c K d old W1 v n' H t e y z N A B
 match x,H,e,y,z,A,B with
 | b::P::Q::L::t2::t5::t6::r,H,e,y,z,A,B=>
  obtain⟨b8,b9,u,T,rfl,rfl⟩:=e;have⟨U,V,⟨h',C,_,R,X,rv⟩,Y⟩:=y;have E:c<m.length:=H;obtain⟨l,q⟩:∃l,m[c]?=some l:=⟨m[c],Xq E⟩;have F:=rv c l u q T;have a:=λi x G=>(Y i x (C i x G)).2;have I:ou W1:=λi Z=>by
   have:=M i Z;unfold World.cell? at this |-;rw[U 1 h1];exact this
  letI:Base:=fN (me m Inv o) old
  haveI:=@W9 (me m Inv o) old
  haveI:=@Xa (me m Inv o) old
  haveI:=@WM (me m Inv o) old
  apply PC rfl rfl;have k:(me m Inv o (b::P::Q::L::t2::t5::t6::r)).len c=l.length:=by
   show(if c=m.length then _ else _)=_;rw[Xx (by omega),q];rfl
  refine Gg rfl rfl rfl ⟨A,N,B⟩ H k (f l (Ya q)) (CB.2 z).drop I (RS a F) (a _ _ R) (a _ _ X) (λj x G=>g c l j x q G) ?_;intro w n2 l' ha n;have p:=ha.st;refine⟨by rw[p],by rw[p];exact k.symm,t6,.chan (some L),?_,?_⟩
  .exact(n.size.1 t6).2 ⟨_,a _ _ R,λh=>by cases h⟩
  .apply n.rT;unfold World.cell?
   grind
 | [],H,_,_,_,_,_=>exact XG H (Zt _)
 | [_],H,_,_,_,_,_=>exact XG H (Zt _)
 | [_,_],H,_,_,_,_,_=>exact XG H (Zt _)
 | [_,_,_],H,_,_,_,_,_=>exact XG H (Zt _)
 | [_,_,_,_],H,_,_,_,_,_=>exact XG H (Zt _)
 | [_,_,_,_,_],H,_,_,_,_,_=>exact XG H (Zt _)
 | [_,_,_,_,_,_],H,_,_,_,_,_=>exact XG H (Zt _)
end
section
open Go Go.Conc
open Pure (ad cC)
abbrev kx(v:Xp)(l:Xn cC):ae:=aE 3 v 100 l.length (cZ l).flatten
variable {b:Nat} {h:Hp}
def LV [B:Base] {l:Xn ae} {T:Nat} {cs cs':Xn Xp} (d:¬Qv (.cells cs.toArray T (0,0))) (k:cj (blk b T cs::l) h):
 h b=some (false,.cells cs.toArray T (0,0))/\cj (blk b T cs'::l) (λi=>if i=b then some (false,.cells cs'.toArray T (0,0))else h i):=by
 have⟨m,a,f,L,e,c,r⟩:=k;have g:a b=none:=by
  cases H:a b with
  | none=>rfl
  | some y=>
   rcases(f b _ _ c H).2 with E|E
   .grind
   grind
 refine⟨L _ _ c,λi=>if i=b then some (false,.cells cs'.toArray T (0,0))else none,a,λi x y H n=>?_,λi x H=>?_,λi x H=>?_,by simp[ob],r⟩
 .grind
 .grind
 .by_cases j:i=b
  .grind
  .simp[j];exact e i x H
def JI [B:Base] [NQ] {d:Nat} {o:pX} {s:St} {D:ad} {Inv:Xn Nat->St->ad->Prop} (j:Inv [] s D) (k:cj [zP b d o false none s,ah d D] h):
 ∃c,h b=some (false,.cells c 133 (0,0))/\c[0]?=some (.int .i32 0)/\c[1]?=some (.int .u32 0)/\Qg Inv b d o [] (λi=>if i=b then some (false,.cells ((c.setIfInBounds 0 hole).setIfInBounds 1 hole) 133 (0,0))else h i):=by
 have⟨I,J,F,l,L,⟨f,T,U,gg,M,n,⟨p,z,g⟩,H⟩,e⟩:=k;have K:=jh gg M n g H;have q:=jh F l L K e;have⟨E,r⟩:=LV (cs':=aj ⟨d,o,false,f,hole⟩ z s) vn q;refine⟨_,E,rfl,rfl,s,D,j,?_⟩;have t:(((aj (KS d o false f 0) z s).toArray.setIfInBounds 0 hole).setIfInBounds 1 hole)=(aj ⟨d,o,false,f,hole⟩ z s).toArray:=rfl;rw[t];have⟨Q,u,v,N,w,R,x⟩:=dV (a:=[blk b 133 _,jb d z s.levels,aZ z.m s.mem,bg cB z.sn _]++[aW f none]) r;refine⟨Q,u,v,N,w,⟨f,?_⟩,x⟩;have⟨P,y,A,O,C,S,G⟩:=dV R;exact⟨P,y,A,O,C,⟨p,z,S⟩,G⟩
def Cb[B:Base][NQ]{W0 w:Xo}:∀{m:Xn (Xn cC)} {us:Xn Xp} {F:Xn ae},us.length=m.length->Sat W0 (star (List.zipWith kx us m)::F) w ->
 ∃g r,iC g/\Sat W0 (cy g++F) w/\Gh r m=us/\∀n,(∀x∈g,n x.1=some (true,x.2))->∀(i:Nat) (l:Xn cC) (u:Xp),m[i]?=some l->us[i]?=some u->iS u l n
 | [],[],F,_,h=>⟨[],[],λ_ h=>(by cases h),h.drop,rfl,λ_ _ i l u h=>by simp at h⟩
 | l::m,u::us,F,o,h=>by
  have J:Sat W0 (kx u l::star (List.zipWith kx us m)::F) w:=by
   exact h.imp λz k=>bH (λ_=>cu) (cD k)
  have⟨g,r,p,N,O,K⟩:=Cb (m:=m) (us:=us) (Nat.succ.inj o) (J.imp λ_=>ft);have q:(cZ l).length=l.length:=XT _;have M:∀x∈cZ l,x.length=3:=λx s=>by obtain⟨y,_,rfl⟩:=XA.1 s;rfl
  have A:Sat W0 (kx u l::(cy g++F)) w:=by
   refine N.imp λz k=>?_;have⟨J,T,V,W,X,Y,Z,g2,gg,m1,m2,rb,rc⟩:=dV k;exact ft (l:=F) (cu (a:=cy g) k) |> λk=>bH (λ_=>cD) k
  have⟨x,s,d⟩:=A.gD (φ:=λx:XB (Nat×Xn Xp×Nat)=>match x with
   | none=>l=[]/\∃f b c,u=(if f=0 then Value.slice none 0 0 else .slice (some ⟨b,0,none⟩) l.length c)
   | some (b,all,c)=>(∃R,all=(cZ l).flatten++R)/\all≠[]/\u=.slice (some ⟨b,0,none⟩) l.length c/\l.length<=c)
   (B:=λx=>match x with
     | none=>[]
     | some (b,all,c)=>[blk b 100 all]) λz ⟨a1,a2,D⟩=>by
     rcases D with⟨rfl,D⟩|⟨b,C,R,rfl,P,a5,a6,Q⟩
     .exact⟨none,⟨List.length_eq_zero_iff.1 D,0,0,0,rfl⟩,Xr⟩
     .by_cases H:(cZ l).flatten++R=[]
      .have j:l=[]:=by
        cases l with
        | nil=>rfl
        | cons y l=>simp[cZ,iQ]at H
       exact⟨none,⟨j,1,b,C,by rw[Xx (by omega)]⟩,Xr⟩
      .exact⟨some (b,_,C),⟨⟨R,rfl⟩,H,rfl,P⟩,z,λ_=>none,λ_ _ _ _ h=>(by cases h),Hp.le_refl _,λ_ _ h=>(by cases h),Q,Xr⟩
  match x,s,d with
  | none,⟨j,f,b,c,E⟩,d=>
   refine⟨g,f::b::c::r,p,d,?_,λn v i L U t e=>?_⟩
   .show _::Gh r m=_
    grind
   .cases i with
    | succ i=>exact K n v i L U t e
    | zero=>
     cases t;cases e;subst j;refine⟨M,?_⟩
     grind
  | some (b,all,c),⟨⟨R,H⟩,S,E,G⟩,d=>
   refine⟨(b,.cells all.toArray 100 (0,0))::g,1::b::c::r,λy I=>?_,d,?_,λn v i L U t e=>?_⟩
   .rcases XW.1 I with rfl|I
    .refine⟨λ⟨_,_,h⟩=>?_,λc f h=>by cases h⟩
     grind
    .exact p y I
   .show _::Gh r m=_;rw[O,Xx (by omega),<- E]
   .cases i with
    | succ i=>exact K n (λx s=>v x (XQ _ s)) i L U t e
    | zero=>
     cases t;cases e;refine⟨M,.inr ⟨b,0,c,by rw[q];exact E,by rw[q];exact G,.inr ⟨all.toArray,100,v _ XC,?_⟩⟩⟩;rw[H];exact(iZ.all _).app
end
section
open Pure (ad cC)
attribute [local irreducible] IntKind.wrap
variable[Bs0:Base][NQ]
variable{W0 w:Xo}{F:Xn ae}{v:Xp}
def oZ(i:Nat)(c:cC):cC:=⟨UInt8.ofNat (48+i)::c.key.take 7,c.val.take 16,c.del⟩
def dS(i:Nat)(l:Xn cC):Xn cC:=(l.take 60).map (oZ i)
def eU(gs:Xn (Xn cC)):Xn (Xn cC):=(gs.take 6).mapIdx dS
def Ib{gs:Xn (Xp×Xn cC)}(hv:DG W0 1 v (gs.map λg=>[g.1]))(I:∀g∈gs,DG W0 3 g.1 (cZ g.2))(h:Sat W0 F w) :
 Calls prog 29 #[v] w λx w'=>∃u U,x=.returned u/\U.length=(eU (gs.map (·.2))).length/\Sat W0 (aE 1 u 73 (eU (gs.map (·.2))).length U::star (List.zipWith kx U (eU (gs.map (·.2))))::F) w':=by
 obtain⟨a,c,hvv⟩:=hv.1;rw[XT]at hvv;subst hvv;refine enter func29 rfl ntmps29 results29 rfl ?_;refine gy ?_;refine aL (α:=Nat×Xp×Xn Xp) (λz=>[(0,.slice a gs.length c),(3,z.2.1),(4,.int .i64 (z.1:Int))])
  (λz w=>z.1<=gs.length/\z.1<=6/\z.2.2.length=z.1/\Sat W0 (aE 1 z.2.1 73 z.1 z.2.2::star (List.zipWith kx z.2.2 ((eU (gs.map (·.2))).take z.1))::F) w) (λz=>6-z.1) (0,.slice none 0 0,[]) ⟨rfl,rfl,rfl,Xr⟩ ⟨XR _,XR _,rfl,Sat.ep (Sat.nP h)⟩ ?_
 clear h;rintro⟨i,T,U⟩ w ⟨J,p,hul,h⟩;dsimp only at J p hul h |-;obtain⟨r,co,rfl,-⟩:=h.aC;by_cases hlt:i<gs.length
 .have hlt':(i:Int)<(gs.length:Int):=by omega
  by_cases s:i<6
  .have t:(i:Int)<6:=by omega
   obtain⟨g,hgi⟩:∃g,gs[i]?=some g:=⟨gs[i],Xq hlt⟩;obtain⟨E,O,W,k,hrow⟩:=hv.row (i:=i) (x:=[g.1]) (by rw[Yy,hgi];rfl);have hgv:=hrow 0 _ rfl;rw[XT]at k;cases k;obtain⟨gv,l⟩:=g;have hrd:=I _ (Ya hgi);simp only at hrd hgv;obtain⟨K,M,rfl⟩:=hrd.PL;have hgv:W0.cell? ⟨E,O+i*1,none⟩=some (.slice K l.length M):=hgv;refine gy ?_;refine aL (α:=Nat×Xp) (λz=>[(0,.slice (some ⟨E,O,none⟩) gs.length c),(3,.slice r i co),(4,.int .i64 (i:Int)),(5,z.2),(6,.int .i64 (z.1:Int))])
    (λz w=>z.1<=l.length/\z.1<=60/\Sat W0 (kx z.2 ((l.take z.1).map (oZ i))::aE 1 (.slice r i co) 73 i U::star (List.zipWith kx U ((eU (gs.map (·.2))).take i))::F) w) (λz=>60-z.1) (0,.slice none 0 0) ⟨rfl,rfl,rfl,rfl,rfl,Xr⟩ ⟨XR _,XR _,Sat.ep h⟩ ?_
   clear h;have hget:(eU (gs.map (·.2)))[i]?=some (dS i l):=by
    unfold eU;rw[List.getElem?_mapIdx,aa6 s,Yy,hgi];rfl
   have hzip:∀u,List.zipWith kx (U++[u]) ((eU (gs.map (·.2))).take (i+1))=List.zipWith kx U ((eU (gs.map (·.2))).take i)++[kx u (dS i l)]:=λu=>by
    have N:(eU (gs.map (·.2))).length=min 6 gs.length:=by simp[eU]
    rw[YC,hget];exact Zh (by rw[Yb];omega)
   obtain⟨G,f⟩:∃G,G=aE 1 (.slice r i co) 73 i U::star (List.zipWith kx U ((eU (gs.map (·.2))).take i))::F:=⟨_,rfl⟩;rintro⟨j,V⟩ w ⟨P,hj60,h⟩;dsimp only at P hj60 h |-;rw[<- f]at h;have htl:((l.take j).map (oZ i)).length=j:=by simp;omega
   obtain⟨A,ci,rfl,-⟩:=h.aC;by_cases hjl:j<l.length
   .have hjl':(j:Int)<(l.length:Int):=by omega
    by_cases d:j<60
    .have m:(j:Int)<60:=by omega
     obtain⟨Q,R,C,hck,hdk,rfl,hcell,X,Y,Z⟩:=hrd.Jb hjl;have hcw:∀q u,(iQ C)[q]?=some u->w.cell? ⟨Q,R+j*3+q,none⟩=some u:=λq u e=>h.rT (hcell q u e);refine gy ?_;refine zN (iQ C) rfl rfl rfl hcw rfl ?_;refine gy ?_;refine aS h ?_;clear h hcw;intro w B h;refine gy ?_;refine fG (vs:=iQ C) h ?_;clear h;intro w h;obtain⟨kk,hkk⟩:∃kk,kk=C.key.take 7:=⟨_,rfl⟩;obtain⟨vv,hvv⟩:∃vv,vv=C.val.take 16:=⟨_,rfl⟩;obtain⟨L,n⟩:∃L,L=(l.take j).map (oZ i):=⟨_,rfl⟩;rw[<- n]at h htl |-;obtain⟨V,hvi⟩:∃V,V=Value.slice A L.length ci:=⟨_,rfl⟩;rw[<- hvi]at h |-;have htk:(l.take (j+1)).map (oZ i)=(l.take j).map (oZ i)++[oZ i C]:=by rw[YC,hck,XK];rfl
     have hkl:kk.length<=7:=by rw[hkk];simp;omega
     have hvl:vv.length<=16:=by rw[hvv];simp;omega
     by_cases h7:7<C.key.length
     .have y:(C.key.length:Int) > 7:=by omega
      have S:(C.key.drop 0).take (7-0)=kk:=by rw[hkk];rfl
      refine gy ?_;refine uo 0 7 rfl rfl rfl ⟨_,_,rfl,rfl⟩ (XR _) (by omega) rfl ?_;rw[S];refine gy ?_;refine bJ h ?_;clear h;intro w h;have h:Sat W0 (blk B 100 [str kk,str C.val,.bool C.del]::kx V L::G) w:=h;by_cases h16:16<C.val.length
      .have h16':(C.val.length:Int) > 16:=by omega
       have e16:(C.val.drop 0).take (16-0)=vv:=by rw[hvv];rfl
       refine gy ?_;refine uo 0 16 rfl rfl rfl ⟨_,_,rfl,rfl⟩ (XR _) (by omega) rfl ?_;rw[e16];refine gy ?_;refine bJ h ?_;clear h;intro w h;have h:Sat W0 (blk B 100 [str kk,str vv,.bool C.del]::kx V L::G) w:=h;refine gy ?_;have h48:(48:Int)+(i:Int)=((48+i:Nat):Int):=by omega
       refine gx ?_;rw[h48,wrap_u8];refine eS h ?_;clear h;intro w o h;refine gx ?_;refine vH [UInt8.ofNat (48+i)] h rfl .here (λq u e=>by simpa using e) rfl rfl ?_;refine gx ?_;refine zB rfl rfl (by simp;omega) rfl ?_;refine gx ?_;refine bJ h ?_;clear h;intro w h;have h:Sat W0 (blk B 100 (iQ (oZ i C))::kx V L::G) w:=by
        have H:=h.drop;rw[hkk,hvv]at H;exact H
       refine gx ?_;refine jT (iQ (oZ i C)) h ?_;clear h;intro w by_ h;refine gx ?_;refine dZ h ?_;clear h;intro b w h;rw[uE]at h;refine gy ?_;refine az (j+1,b) ⟨rfl,rfl,rfl,rfl,rfl,Xr⟩ ⟨hjl,d,?_⟩ (by show 60-(j+1)<60-j;omega);rw[htk,<- n,<- f];exact h.to
      .have h16':¬(C.val.length:Int) > 16:=by omega
       have h:Sat W0 (blk B 100 [str kk,str vv,.bool C.del]::kx V L::G) w:=by
        rw[hvv,Yt (by omega)];exact h
       refine gy ?_;have h48:(48:Int)+(i:Int)=((48+i:Nat):Int):=by omega
       refine gx ?_;rw[h48,wrap_u8];refine eS h ?_;clear h;intro w o h;refine gx ?_;refine vH [UInt8.ofNat (48+i)] h rfl .here (λq u e=>by simpa using e) rfl rfl ?_;refine gx ?_;refine zB rfl rfl (by simp;omega) rfl ?_;refine gx ?_;refine bJ h ?_;clear h;intro w h;have h:Sat W0 (blk B 100 (iQ (oZ i C))::kx V L::G) w:=by
        have H:=h.drop;rw[hkk,hvv]at H;exact H
       refine gx ?_;refine jT (iQ (oZ i C)) h ?_;clear h;intro w by_ h;refine gx ?_;refine dZ h ?_;clear h;intro b w h;rw[uE]at h;refine gy ?_;refine az (j+1,b) ⟨rfl,rfl,rfl,rfl,rfl,Xr⟩ ⟨hjl,d,?_⟩ (by show 60-(j+1)<60-j;omega);rw[htk,<- n,<- f];exact h.to
     .have y:¬(C.key.length:Int) > 7:=by omega
      have h:Sat W0 (blk B 100 [str kk,str C.val,.bool C.del]::kx V L::G) w:=by
       rw[hkk,Yt (by omega)];exact h
      by_cases h16:16<C.val.length
      .have h16':(C.val.length:Int) > 16:=by omega
       have e16:(C.val.drop 0).take (16-0)=vv:=by rw[hvv];rfl
       refine gy ?_;refine uo 0 16 rfl rfl rfl ⟨_,_,rfl,rfl⟩ (XR _) (by omega) rfl ?_;rw[e16];refine gy ?_;refine bJ h ?_;clear h;intro w h;have h:Sat W0 (blk B 100 [str kk,str vv,.bool C.del]::kx V L::G) w:=h;refine gy ?_;have h48:(48:Int)+(i:Int)=((48+i:Nat):Int):=by omega
       refine gx ?_;rw[h48,wrap_u8];refine eS h ?_;clear h;intro w o h;refine gx ?_;refine vH [UInt8.ofNat (48+i)] h rfl .here (λq u e=>by simpa using e) rfl rfl ?_;refine gx ?_;refine zB rfl rfl (by simp;omega) rfl ?_;refine gx ?_;refine bJ h ?_;clear h;intro w h;have h:Sat W0 (blk B 100 (iQ (oZ i C))::kx V L::G) w:=by
        have H:=h.drop;rw[hkk,hvv]at H;exact H
       refine gx ?_;refine jT (iQ (oZ i C)) h ?_;clear h;intro w by_ h;refine gx ?_;refine dZ h ?_;clear h;intro b w h;rw[uE]at h;refine gy ?_;refine az (j+1,b) ⟨rfl,rfl,rfl,rfl,rfl,Xr⟩ ⟨hjl,d,?_⟩ (by show 60-(j+1)<60-j;omega);rw[htk,<- n,<- f];exact h.to
      .have h16':¬(C.val.length:Int) > 16:=by omega
       have h:Sat W0 (blk B 100 [str kk,str vv,.bool C.del]::kx V L::G) w:=by
        rw[hvv,Yt (by omega)];exact h
       refine gy ?_;have h48:(48:Int)+(i:Int)=((48+i:Nat):Int):=by omega
       refine gx ?_;rw[h48,wrap_u8];refine eS h ?_;clear h;intro w o h;refine gx ?_;refine vH [UInt8.ofNat (48+i)] h rfl .here (λq u e=>by simpa using e) rfl rfl ?_;refine gx ?_;refine zB rfl rfl (by simp;omega) rfl ?_;refine gx ?_;refine bJ h ?_;clear h;intro w h;have h:Sat W0 (blk B 100 (iQ (oZ i C))::kx V L::G) w:=by
        have H:=h.drop;rw[hkk,hvv]at H;exact H
       refine gx ?_;refine jT (iQ (oZ i C)) h ?_;clear h;intro w by_ h;refine gx ?_;refine dZ h ?_;clear h;intro b w h;rw[uE]at h;refine gy ?_;refine az (j+1,b) ⟨rfl,rfl,rfl,rfl,rfl,Xr⟩ ⟨hjl,d,?_⟩ (by show 60-(j+1)<60-j;omega);rw[htk,<- n,<- f];exact h.to
    .have m:¬(j:Int)<60:=by omega
     have D:j=60:=by omega
     have hLe:(l.take j).map (oZ i)=dS i l:=by rw[D];rfl
     refine gy ?_;rw[hLe,f]at h;rw[hLe];refine eS h ?_;clear h;intro w o h;refine gx ?_;refine dZ h ?_;clear h;intro b w h;have h:=Sat.ug (h.to (a:=star (List.zipWith kx U ((eU (gs.map (·.2))).take i))::kx (.slice A (dS i l).length ci) (dS i l)::aE 1 b 73 (i+1) (U++[.slice A (dS i l).length ci])::F));rw[<- hzip (.slice A (dS i l).length ci)]at h;refine gy ?_;exact az (i+1,b,U++[.slice A (dS i l).length ci]) ⟨rfl,rfl,rfl,Xr⟩ ⟨hlt,s,by simp[hul],h.to⟩ (by show 6-(i+1)<6-i;omega)
   .have hjl':¬(j:Int)<(l.length:Int):=by omega
    have hLe:(l.take j).map (oZ i)=dS i l:=by unfold dS;rw[Yt (by omega),Yt (by omega)]
    refine gy ?_;rw[hLe,f]at h;rw[hLe];refine eS h ?_;clear h;intro w o h;refine gx ?_;refine dZ h ?_;clear h;intro b w h;have h:=Sat.ug (h.to (a:=star (List.zipWith kx U ((eU (gs.map (·.2))).take i))::kx (.slice A (dS i l).length ci) (dS i l)::aE 1 b 73 (i+1) (U++[.slice A (dS i l).length ci])::F));rw[<- hzip (.slice A (dS i l).length ci)]at h;refine gy ?_;exact az (i+1,b,U++[.slice A (dS i l).length ci]) ⟨rfl,rfl,rfl,Xr⟩ ⟨hlt,s,by simp[hul],h.to⟩ (by show 6-(i+1)<6-i;omega)
  .have t:¬(i:Int)<6:=by omega
   have k:(eU (gs.map (·.2))).length=i:=by simp[eU];omega
   rw[Yt (by omega)]at h;refine gy ?_;refine an rfl ⟨_,U,rfl,by omega,?_⟩;rw[k];exact h
 .have hlt':¬(i:Int)<(gs.length:Int):=by omega
  have k:(eU (gs.map (·.2))).length=i:=by simp[eU];omega
  rw[Yt (by omega)]at h;refine gy ?_;refine an rfl ⟨_,U,rfl,by omega,?_⟩;rw[k];exact h
