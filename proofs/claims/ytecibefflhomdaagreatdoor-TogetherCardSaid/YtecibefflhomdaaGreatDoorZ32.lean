/-
  Part 32: THE DISK, ABSTRACTLY files by numbers of their own; WALKS package codec; WALKS package codec.
-/
import Derived.Test.YtecibefflhomdaaGreatDoorZ31
set_option maxHeartbeats 8000000
set_option maxRecDepth 100000
set_option linter.all false
namespace Go.Proofs.YtecibefflhomdaaGreatDoor
open Go Proofs.Tryz
section
variable[Bs0:Base][NQ]
open Pure (ad aB da eO gA df kB eD lb lf gz fc)
structure mF(f:Nat->Nat)(D0 D:ad):Prop where
 now:∀n,aB D0.now n=(aB D.now n).map f
 safe:∀n,aB D0.safe n=(aB D.safe n).map f
 moves:D0.moves=D.moves.map (List.map λp=>(p.1,p.2.map f))
 nodes:∀i x,aB D.nodes i=some x->aB D0.nodes (f i)=some x
 inj:∀i j,(aB D.nodes i).isSome=true->(aB D.nodes j).isSome=true->f i=f j->i=j
 ns0:(D0.safe.map (·.1)).Nodup
 ns:(D.safe.map (·.1)).Nodup
 room:D0.room=D.room
 wait:D0.wait=D.wait
 bad:D0.bad=D.bad
 reads:D0.reads=D.reads
 most:D0.most=D.most
 ok:D.Ok
def ah(d:Nat)(D:ad):ae:=λh=>∃D0 f,mF f D0 D/\gn d D0 h
section
variable{f:Nat->Nat}{D0 D:ad}{n:Bs}
theorem mF.eg(h:mF f D0 D):D0.eg=D.eg:=by unfold ad.eg;rw[h.wait,h.bad]
theorem mF.tick(h:mF f D0 D):mF f D0.tick D.tick:=by
 have H:D0.tick.wait=D.tick.wait:=by unfold ad.tick;rw[h.wait,h.bad];split<;>(try split)<;>simp[h.wait,h.bad]
 have a:D0.tick.bad=D.tick.bad:=by unfold ad.tick;rw[h.wait,h.bad];split<;>(try split)<;>simp[h.wait,h.bad]
 refine⟨?_,?_,?_,?_,?_,?_,?_,?_,H,a,?_,?_,h.ok.tick⟩<;>simp only[Pure.ad.dg,Pure.ad.JP,Pure.ad.lg,Pure.ad.fu,Pure.ad.gu,Pure.ad.Gy,Pure.ad.JQ]
 .exact h.now
 .exact h.safe
 .exact h.moves
 .exact h.nodes
 .exact h.inj
 .exact h.ns0
 .exact h.ns
 .exact h.room
 .exact h.reads
 .exact h.most
def mF.qW(h:mF f D0 D)(n:Bs):aY D0 n=aY D n:=by
 unfold YtecibefflhomdaaGreatDoor.aY;rw[h.eg,h.now n];cases aB D.now n<;>rfl
variable {i:Nat}
theorem mF.uh (h:mF f D0 D) (a:(aB D.nodes i).isSome=true):D0.aG (f i)=D.aG i:=by
 obtain⟨x,H⟩:=YU.1 a;unfold ad.aG;rw[H,h.nodes i x H]
theorem mF.Rc (h:mF f D0 D) (a:(aB D.nodes i).isSome=true):o8 D0 (f i)=o8 D i:=by
 obtain⟨x,H⟩:=YU.1 a;unfold YtecibefflhomdaaGreatDoor.o8;rw[H,h.nodes i x H]
theorem mF.has (h:mF f D0 D) (H:aB D.now n=some i):(aB D.nodes i).isSome=true:=h.ok.now _ (eD H)
variable {κ α:Type}
theorem C9 [DecidableEq κ] {a b:Xn (κ×α)} (d:(a.map (·.1)).Nodup) (g:(b.map (·.1)).Nodup) (h:∀x,aB a x=aB b x):a.Perm b:=by
 have na:a.Nodup:=List.Pairwise.of_map _ (λx y H e=>H (by rw[e])) d;have nb:b.Nodup:=List.Pairwise.of_map _ (λx y H e=>H (by rw[e])) g;refine(List.perm_ext_iff_of_nodup na nb).2 λp=>?_;obtain⟨k,v⟩:=p;constructor
 .intro c;have:=gz d c;rw[h]at this;exact eD this
 .intro c;have:=gz g c;rw[<- h]at this;exact eD this
theorem FL {β:Type} [DecidableEq κ] (g:α->β):∀(l:Xn (κ×α)) (x:κ),aB (l.map λp=>(p.1,g p.2)) x=(aB l x).map g
 | [],_=>rfl
 | (k,v)::r,x=>by
  simp only[XP,aB];by_cases h:x=k
  .simp[h]
  .simp[h,FL g r x]
def mF.perm(h:mF f D0 D)(H:D0.Ok):D0.now.Perm (D.now.map λp=>(p.1,f p.2)):=by
 refine C9 H.names ?_ λx=>by rw[h.now,FL]
 rw[Zv];exact h.ok.names
def mF.used(h:mF f D0 D)(H:D0.Ok):D0.used=D.used:=by
 unfold ad.used;rw[((h.perm H).map λp=>(D0.aG p.2).length).sum_nat,Zv];congr 1;exact Y2 λp a=>by simp only[Function.comp];rw[h.uh (h.ok.now p a)]
theorem rP{f:Nat->Nat}:∀(l:Xn (Bs×XB Nat)) (M m:Xn (Bs×Nat)),(M.map (·.1)).Nodup->(m.map (·.1)).Nodup->(∀n,aB M n=(aB m n).map f) ->
 (∀n,aB (gA M (l.map λp=>(p.1,p.2.map f))) n=(aB (gA m l) n).map f)/\((gA M (l.map λp=>(p.1,p.2.map f))).map (·.1)).Nodup/\((gA m l).map (·.1)).Nodup
 | [],M,m,H,a,h=>⟨h,H,a⟩
 | (k,none)::l,M,m,H,a,h=>rP l (eO M k) (eO m k) (lf H k) (lf a k) λn=>by
  rw[kB _ _ H,kB _ _ a,h n];split<;>rfl
 | (k,some i)::l,M,m,H,a,h=>rP l (da M k (f i)) (da m k i) (lb H k _) (lb a k _) λn=>by
  rw[df,df,h n];split<;>rfl
def mF.Of(h:mF f D0 D)(a:D0.Ok)(l:Xn (Bs×XB Nat))(H:(named D l).Ok):mF f (named D0 (l.map λp=>(p.1,p.2.map f))) (named D l):=by
 have:=rP (f:=f) l D0.now D.now a.names h.ok.names h.now;exact⟨this.1,h.safe,by simp[YtecibefflhomdaaGreatDoor.named,h.moves],h.nodes,h.inj,h.ns0,h.ns,h.room,h.wait,h.bad,h.reads,h.most,H⟩
def mF.gS(h:mF f D0 D)(H:D0.Ok)(n:Bs):mF f (D0.gS n) (D.gS n):=h.Of H [(n,none)] (h.ok.gS n)
def mF.renamed (h:mF f D0 D) (c:D0.Ok) {a b:Bs} (H:a≠b) (d:aB D.now a=some i):mF f (D0.renamed a b (f i)) (D.renamed a b i):=h.Of c [(b,some i),(a,none)] (h.ok.renamed H d)
theorem mF.laid (h:mF f D0 D) (g:(aB D.nodes i).isSome=true) (x:Bs×Nat) (c:(D.laid i x).Ok):mF f (D0.laid (f i) x) (D.laid i x):=by
 refine⟨h.now,h.safe,h.moves,λj y a=>?_,λj k H l=>?_,h.ns0,h.ns,h.room,h.wait,h.bad,h.reads,h.most,c⟩
 .simp only[ad.laid,df]at a |-;by_cases H:j=i
  .subst H;simpa using a
  .simp only[H,XV]at a;have d:f j≠f i:=λe=>H (h.inj j i (by rw[a];rfl) g e);simp only[d,XV];exact h.nodes j y a
 .have K:∀j,(aB (D.laid i x).nodes j).isSome=true->(aB D.nodes j).isSome=true:=λj H=>by
   simp only[ad.laid,df]at H;by_cases b:j=i
   .subst b;exact g
   .simpa[b]using H
  exact h.inj j k (K j H) (K k l)
def mF.created(h:mF f D0 D)(G:D0.Ok){i0:Nat}(s:aB D0.nodes i0=none)(v:aB D.now n=none):mF (λj=>if j=fresh D then i0 else f j) (D0.created n i0) (D.created n (fresh D)):=by
 have q:=xP D;have H:∀j,(aB D.nodes j).isSome=true->j≠fresh D:=λj b e=>by rw[e,q]at b;cases b
 have c:∀j,(aB D.nodes j).isSome=true->f j≠i0:=λj b e=>by
  obtain⟨x,z⟩:=YU.1 b;have:=h.nodes j x z;rw[e,s]at this;cases this
 have A:aB D0.now n=none:=by rw[h.now,v];rfl
 refine⟨λm=>?_,λm=>?_,?_,λj y B=>?_,λj k b C a=>?_,h.ns0,h.ns,h.room,h.wait,h.bad,h.reads,h.most,h.ok.created q v⟩
 .show aB (da D0.now n i0) m=(aB (da D.now n (fresh D)) m).map _;rw[df,df];by_cases w:m=n
  .simp[w]
  .simp only[w,XV,h.now];cases t:aB D.now m with
   | none=>rfl
   | some j=>simp[H j (h.has t)]
 .show aB D0.safe m=(aB D.safe m).map _;rw[h.safe];cases t:aB D.safe m with
  | none=>rfl
  | some j=>simp[H j (h.ok.safe _ (eD t))]
 .show D0.moves++[[(n,some i0)]]=(D.moves++[[(n,some (fresh D))]]).map _;rw[h.moves,XK];congr 1
  .refine Y2 λl E=>Y2 λp F=>?_;cases u:p.2 with
   | none=>rfl
   | some j=>simp[H j (h.ok.moves l E p F j u)]
  .simp
 .show aB ((i0,(([]:Bs),0))::D0.nodes) _=_;have d:aB ((fresh D,(([]:Bs),0))::D.nodes) j=some y:=B;simp only[aB]at d |-;by_cases b:j=fresh D
  .simpa[b]using d
  .simp only[b,XV]at d |-;simp only[c j (by rw[d];rfl),XV];exact h.nodes j y d
 .have K:∀j,(aB ((fresh D,(([]:Bs),0))::D.nodes) j).isSome=true->j=fresh D\/(aB D.nodes j).isSome=true:=λj b=>by
   simp only[aB]at b;by_cases r:j=fresh D
   .exact .inl r
   .exact .inr (by simpa[r]using b)
  rcases K j b with g|g<;>rcases K k C with o|o
  .rw[g,o]
  .simp only[g,YB,H k o,XV]at a;exact XG a.symm (c k o)
  .simp only[o,YB,H j g,XV]at a;exact XG a (c j g)
  .simp only[H j g,H k o,XV]at a;exact h.inj j k g o a
def mF.synced(h:mF f D0 D):mF f D0.synced D.synced:=by
 have k:∀(M:Xn (Xn (Bs×XB Nat))) (d m:Xn (Bs×Nat)),(d.map (·.1)).Nodup->(m.map (·.1)).Nodup->(∀n,aB d n=(aB m n).map f) ->
  (∀n,aB ((M.map (List.map λp=>(p.1,p.2.map f))).foldl gA d) n=(aB (M.foldl gA m) n).map f)/\(((M.map (List.map λp=>(p.1,p.2.map f))).foldl gA d).map (·.1)).Nodup/\((M.foldl gA m).map (·.1)).Nodup:=by
  intro M
  induction M with
  | nil=>intro d m H e h;exact⟨h,H,e⟩
  | cons l M I=>
   intro d m H e h;obtain⟨a,b,c⟩:=rP l d m H e h;exact I _ _ b c a
 obtain⟨a,b,c⟩:=k D.moves D0.safe D.safe h.ns0 h.ns h.safe;refine⟨h.now,?_,rfl,h.nodes,h.inj,?_,c,h.room,h.wait,h.bad,h.reads,h.most,h.ok.synced⟩
 .show∀ n,aB (D0.moves.foldl gA D0.safe) n=_;rw[h.moves];exact a
 .show((D0.moves.foldl gA D0.safe).map (·.1)).Nodup;rw[h.moves];exact b
end
section
variable{W0 w:Xo}{F l:Xn ae}{v:Xp}{d:Nat}{D:ad}{n m:Bs}
def Sat.ui(h:Sat W0 (ah d D::F) w):∃D0 f,mF f D0 D/\D0.Ok/\Sat W0 (gn d D0::F) w:=by
 obtain⟨⟨D0,f⟩,H,a⟩:=h.gD (φ:=λz:ad×(Nat->Nat)=>mF z.2 z.1 D) (B:=λz=>[gn d z.1]) λb ⟨D0,f,H,k⟩=>⟨⟨D0,f⟩,H,b,λ_=>none,λ_ _ _ _ c=>(by cases c),Hp.le_refl _,λ_ _ e=>(by cases e),k,Xr⟩;exact⟨D0,f,H,a.jm λ_ k=>k.1,a⟩
variable {D0:ad} {f:Nat->Nat}
def Sat.mb (H:mF f D0 D) (h:Sat W0 (gn d D0::F) w):Sat W0 (ah d D::F) w:=h.head λ_ k=>⟨D0,f,H,k⟩
def Sat.Wx(h:Sat W0 (ah d D::F) w):D.Ok:=h.jm λ_ ⟨_,_,H,_⟩=>H.ok
def zd(a:Sat W0 (ah d D::F) w)(hm:D.moves.length<=1099511627776) :
 Calls prog 78 #[ax d,str n] w λx w'=>∃V,x=.returned V/\Sat W0 (ah d (cI D n)::aW V (iu D n)::F) w':=by
 obtain⟨D0,f,h,k,a⟩:=a.ui;refine(FG (n:=n) a (by rw[h.moves,XT];exact hm)).mono ?_;rintro _ w' ⟨V,e,q,rfl,o,a⟩;refine⟨V,rfl,?_⟩;have b:(aB D0.now n).isSome=(aB D.now n).isSome:=by rw[h.now];cases aB D.now n<;>rfl
 have c:aB D0.now n=none->aB D.now n=none:=λH=>by rw[h.now]at H;cases r:aB D.now n<;>simp_all
 unfold cI iu;rcases o with⟨H,rfl,rfl⟩|⟨H,g,rfl,rfl⟩|⟨H,g,rfl,i,p,rfl⟩
 .rw[h.eg]at H;rw[XE H,XE H];exact a.mb h.tick
 .rw[h.eg]at H;rw[b]at g;simp only[H,g,XM,XV,YB];exact a.mb h.tick
 .rw[h.eg]at H;have j:=c g;simp only[H,j,aaV,XM,XV];exact a.mb (h.tick.created k.tick (by rw[Pure.ad.fu];exact p) (by rw[Pure.ad.dg];exact j))
def Tu(H:Sat W0 (ah d D::F) w) :
 Calls prog 160 #[ax d,str n] w λx w'=>∃V,x=.returned (.tuple #[.int .i64 (pV D n:Int),V])/\Sat W0 (ah d D.tick::aW V (aY D n)::F) w':=by
 obtain⟨D0,f,h,b,H⟩:=H.ui;refine(Lb (n:=n) H).mono ?_;rintro _ w' ⟨V,rfl,H⟩;rw[h.qW]at H |-;refine⟨V,?_,H.mb h.tick⟩;unfold pV fileOf;cases aY D n with
 | some e=>rfl
 | none=>
  simp only[h.now];cases a:aB D.now n with
  | none=>rfl
  | some i=>simp only[Option.map_some,h.uh (h.has a)]
def mF.Da (h:mF f D0 D) {G g:Nat->ad} (k:∀i,aY D n=none->aB D.now n=some i->mF f (G (f i)) (g i)):mF f (jd D0 n G) (jd D n g):=by
 unfold YtecibefflhomdaaGreatDoor.jd;rw[h.qW,h.now];cases H:aY D n with
 | some e=>exact h.tick
 | none=>
  cases a:aB D.now n with
  | none=>exact h.tick
  | some i=>exact k i H a
theorem Db(h:D.Ok)(i:Nat)(x:Bs×Nat)(H:x.1=D.aG i):(D.laid i x).Ok:=h.laid (Yh (Pure.ad.mz (k:=0) h (by rw[H];rfl)) h.used)
def Hw(H:Sat W0 (ah d D::F) w) :
 Calls prog 86 #[ax d,str n] w λx w'=>∃V,x=.returned V/\Sat W0 (ah d (je D n)::aW V (aY D n)::F) w':=by
 obtain⟨D0,f,h,c,H⟩:=H.ui;refine(Lc (n:=n) H).mono ?_;rintro _ w' ⟨V,rfl,H⟩;rw[h.qW]at H;refine⟨V,rfl,H.mb (h.Da λi e b=>?_)⟩;have a:=h.has b;rw[h.uh a];exact h.tick.laid (by rw[Pure.ad.fu];exact a) _ (Db h.ok.tick _ _ (by simp))
def ze(H:Sat W0 (ah d D::F) w)(hm:D.moves.length<=1099511627776) :
 Calls prog 77 #[ax d,str n] w λx w'=>∃V,x=.returned V/\Sat W0 (ah d (fX D n)::aW V (aY D n)::F) w':=by
 obtain⟨D0,f,h,a,H⟩:=H.ui;refine(FH (n:=n) H (by rw[h.moves,XT];exact hm)).mono ?_;rintro _ w' ⟨V,rfl,H⟩;rw[h.qW]at H;exact⟨V,rfl,H.mb (h.Da λi b c=>h.tick.gS a.tick n)⟩
def Og(a:Sat W0 (ah d D::F) w)(hm:D.moves.length<=1099511627776) :
 Calls prog 177 #[ax d,str n,str m] w λx w'=>∃V,x=.returned V/\Sat W0 (ah d (gU D n m)::aW V (aY D n)::F) w':=by
 obtain⟨D0,f,h,b,a⟩:=a.ui;refine(FI (n:=n) (m:=m) a (by rw[h.moves,XT];exact hm)).mono ?_;rintro _ w' ⟨V,rfl,a⟩;rw[h.qW]at a;refine⟨V,rfl,a.mb (h.Da λi e c=>?_)⟩;by_cases H:n=m
 .rw[XE H,XE H];exact h.tick
 .rw[Xx H,Xx H];exact h.tick.renamed b.tick H (by rw[Pure.ad.dg];exact c)
def mF.FM (h:mF f D0 D) (H:D0.Ok) (n bs:Bs):dT D0 n bs=dT D n bs:=by
 unfold YtecibefflhomdaaGreatDoor.dT;rw[h.qW,h.room,h.used H]
variable {bs:Bs}
theorem Dc (h:dT D n bs=none):aY D n=none/\(D.used:Int)+bs.length<=D.room:=by
 unfold dT at h;split at h
 .cases h
 .rename_i H;split at h
  .cases h
  .exact⟨H,by omega⟩
def zf {a:Xp} (H:Sat W0 (ah d D::cP a bs::F) w):
 Calls prog 79 #[ax d,str n,a] w λx w'=>∃V,x=.returned V/\Sat W0 (ah d (bG D n bs)::cP a bs::aW V (dT D n bs)::F) w':=by
 obtain⟨D0,f,h,g,H⟩:=H.ui;refine(FJ (n:=n) H).mono ?_;rintro _ w' ⟨V,rfl,H⟩;rw[h.FM g]at H;refine⟨V,rfl,H.mb (f:=f) ?_⟩;unfold bG;rw[h.FM g];cases j:dT D n bs with
 | some e=>exact h.tick
 | none=>
  rw[h.now];cases o:aB D.now n with
  | none=>exact h.tick
  | some i=>
   simp only[Option.map_some];have b:=h.has o;rw[h.uh b,h.Rc b];obtain⟨_,c⟩:=Dc j;have p:=h.ok.room1;refine h.tick.laid (by rw[Pure.ad.fu];exact b) _ (h.ok.tick.laid (Yh (Pure.ad.mz (k:=bs.length) h.ok.tick (by simp)) ?_));rw[Pure.ad.ow];omega
def Ld(H:Sat W0 (ah d D::F) w) :
 Calls prog 178 #[ax d] w λx w'=>∃V,x=.returned V/\Sat W0 (ah d (fw D)::aW V (if D.eg=true then some (some [],8)else none)::F) w':=by
 obtain⟨D0,f,h,a,H⟩:=H.ui;refine(C7 H).mono ?_;rintro _ w' ⟨V,rfl,H⟩;rw[h.eg]at H;refine⟨V,rfl,H.mb (f:=f) ?_⟩;unfold fw;rw[h.eg];split
 .exact h.tick
 .exact h.tick.synced
def mF.Oh (h:mF f D0 D) (n:Int):mF f (counted D0 n) (counted D n):=
 ⟨h.now,h.safe,h.moves,h.nodes,h.inj,h.ns0,h.ns,h.room,h.wait,h.bad,by simp[YtecibefflhomdaaGreatDoor.counted,h.reads],by simp[YtecibefflhomdaaGreatDoor.counted,h.most],zc h.ok n⟩
def FN{nm:Bs}{at_ n:Int}(H:Sat W0 (ah d D::F) w)(a:-9223372036854775808<=at_)(b:at_<=9223372036854775807)(c:-9223372036854775808<=n)(g:n<=9223372036854775807) :
 Calls prog 161 #[ax d,str nm,.int .i64 at_,.int .i64 n] w λx w'=>∃v V,x=.returned (.tuple #[v,V])/\Sat W0 (ah d (counted D n).tick::cP v (kX D nm at_ n)::aW V (aY D nm)::F) w':=by
 obtain⟨D0,f,h,k,H⟩:=H.ui;refine(FK (nm:=nm) H a b c g).mono ?_;rintro _ w' ⟨v,V,rfl,H⟩;rw[h.qW]at H;have e:Jj D0 nm at_ n=kX D nm at_ n:=by
  unfold Jj kX fileOf;rw[h.qW];cases o:aY D nm with
  | some e=>rfl
  | none=>
   simp only[h.now];cases j:aB D.now nm with
   | none=>simp[iL]
   | some i=>simp only[Option.map_some,h.uh (h.has j)]
 rw[e]at H;exact⟨v,V,rfl,H.mb (h.Oh n).tick⟩
def Le{room:Int}(h:Sat W0 F w)(H:0<=room)(h1:room<=2199023255552) :
 Calls prog 22 #[.int .i64 room] w λx w'=>∃d,x=.returned (ax d)/\Sat W0 (ah d (dI room)::F) w':=by
 refine(C8 h H h1).mono ?_;rintro _ w' ⟨d,rfl,h⟩;refine⟨d,rfl,h.mb (f:=id) ⟨λn=>?_,λn=>?_,rfl,λi x a=>?_,λi j b=>?_,?_,?_,rfl,rfl,rfl,rfl,rfl,sW H h1⟩⟩
 .simp[dI,aB]
 .simp[dI,aB]
 .simp[dI,aB]at a
 .simp[dI,aB]at b
 .simp[dI]
 .simp[dI]
end
end
section
variable[Bs0:Base][NQ]
open Pure (bA aX DH nS AM kA aA aI ay dz Rd my bF sB Ch)
attribute [local irreducible] IntKind.wrap
variable{W0 w:Xo}{F:Xn ae}{v vr:Xp}{bs:Bs}{r:Nat}{rd:Rd}
def Lf(r:Nat)(rd:Rd):ae:=λh=>∃vr,cj [blk r 190 [vr,.bool rd.bad],vw vr rd.rest] h
theorem Sat.Dd(h:Sat W0 (Lf r rd::F) w):∃vr,True/\Sat W0 ([blk r 190 [vr,.bool rd.bad],vw vr rd.rest]++F) w:=h.gD λH ⟨vr,k⟩=>⟨vr,Xr,k⟩
theorem Sat.nQ(h:Sat W0 (blk r 190 [vr,.bool rd.bad]::vw vr rd.rest::F) w):Sat W0 (Lf r rd::F) w:=Sat.close (B:=[blk r 190 [vr,.bool rd.bad],vw vr rd.rest]) h λH k=>⟨vr,k⟩
def pQ{N:Int}(h:Sat W0 (Lf r rd::F) w)(hl:rd.rest.length<=140737488355328)(h1:-9223372036854775808<=N)(l:N<=9223372036854775807) :
 Calls prog 164 #[.pointer (some ⟨r,0,none⟩),.int .i64 N] w λx w'=>∃V,x=.returned V/\Sat W0 (Lf r (rd.bytes N).2::vw V (rd.bytes N).1::F) w':=by
 obtain⟨vr,-,h⟩:=h.Dd;dsimp only[List.cons_append,List.nil_append]at h;obtain⟨R,b⟩:=rd;dsimp only at h hl;obtain⟨a,c,rfl,n⟩:=(h.take dt).mq;refine enter func164 rfl ntmps164 results164 rfl ?_;by_cases H:(b=true\/N<0\/(R.length:Int)<N)
 .have i:Rd.bytes ⟨R,b⟩ N=([],⟨R,true⟩):=by unfold Rd.bytes;rw[XE H]
  rw[i];have f:∀w,Sat W0 (blk r 190 [.slice a R.length c,.bool true]::vw (.slice a R.length c) R::F) w->∃V,Ending.returned (tN [.slice none 0 0])=.returned V/\Sat W0 (Lf r ⟨R,true⟩::vw V []::F) w:=λw h=>
   ⟨_,rfl,Sat.nQ (rd:=⟨R,true⟩) ((h.qR (.inl rfl) λ_=>rfl).to)⟩
  by_cases g:b=true
  .subst g;refine go ?_;refine bJ h λw h=>?_;refine go ?_;exact an rfl (f _ h)
  .have d:b=false:=by simpa using g
   subst d;by_cases j:N<0
   .refine go ?_;refine bJ h λw h=>?_;refine go ?_;exact an rfl (f _ h)
   .have e:(R.length:Int)<N:=by simp at H;omega
    refine go ?_;refine bJ h λw h=>?_;refine go ?_;exact an rfl (f _ h)
 .have i:Rd.bytes ⟨R,b⟩ N=(R.take N.toNat,⟨R.drop N.toNat,false⟩):=by unfold Rd.bytes;rw[Xx H]
  rw[i];simp only[not_or]at H;obtain⟨g,j,e⟩:=H;have d:b=false:=by simpa using g
  subst d;have k:¬N > (R.length:Int):=e;refine go ?_;refine To (m:=N.toNat) h (.there .here) rfl rfl (by omega) (by omega) rfl λo h=>?_;refine go ?_;refine Tp (m:=N.toNat) h (.there (.there .here)) rfl rfl (by omega) (by omega) rfl λp h=>?_;refine go ?_;obtain⟨A,C,rfl,-⟩:=h.mq;refine bJ h λw h=>?_;refine go ?_;exact an rfl ⟨_,rfl,Sat.nQ (rd:=⟨R.drop N.toNat,false⟩) h.to⟩
def oU{K:Nat}(H:Sat W0 (Lf r rd::F) w)(hl:rd.rest.length<=140737488355328)(D:K<=8) :
 Calls prog 93 #[.pointer (some ⟨r,0,none⟩),.int .i64 (K:Int)] w λx w'=>x=.returned (.int .u64 ((rd.num K).1:Int))/\Sat W0 (Lf r (rd.num K).2::F) w':=by
 refine enter func93 rfl ntmps93 results93 rfl ?_;refine go ?_;refine ak (met (pQ (N:=(K:Int)) H hl (by omega) (by omega)) ?_);rintro _ w ⟨v,rfl,H⟩;refine⟨v,rfl,?_⟩;have n:=Rd.uJ rd (K:Int);have e:my (rd.bytes (K:Int)).1=(rd.num K).1:=rfl;have f:(rd.bytes (K:Int)).2=(rd.num K).2:=rfl;generalize y:(rd.bytes (K:Int)).1=bs at H n e;rw[f]at H;rw[<- e];obtain⟨a,c,rfl,G⟩:=(H.take dt).mq;refine go ?_;refine aL (α:=Nat×Nat) (λz=>[(5,.int .u64 (z.2:Int)),(10,.slice a bs.length c),(11,.int .i64 (bs.length:Int)),(12,.int .i64 (z.1:Int))])
  (λz w=>z.1<=bs.length/\z.2=my (bs.take z.1)/\Sat W0 (Lf r (rd.num K).2::vw (.slice a bs.length c) bs::F) w) (λz=>bs.length-z.1) (0,0) ⟨rfl,rfl,rfl,rfl,Xr⟩ ⟨XR _,rfl,H⟩ ?_
 clear H;rintro⟨i,m⟩ w ⟨t,l,H⟩;dsimp only at t l H |-;have p:m<256^i:=by rw[l];have:=Ch (bs.take i);rwa[Yb,Zi t]at this
 by_cases d:i<bs.length
 .have A:i<8:=by omega
  have u:m<72057594037927936:=YT p (Yh (Zn (by decide) (show i<=7 by omega)) (by decide));obtain⟨z,⟨B,C,g⟩,q⟩:=(H.take dt).vM (by intro h;subst h;simp at d);obtain⟨rfl,rfl⟩:a=some ⟨z.b,z.o,none⟩/\c=z.c:=by simpa using B
  have j:=(bs[i]).toNat_lt;have s:z.all[z.o+i*1]?=some (bV bs[i]):=by rw[YA];exact g i _ (by simp[d])
  refine go ?_;refine de (i:=i) rfl rfl rfl rfl rfl d rfl ?_;refine fF q rfl rfl .here s rfl ?_;refine go ?_;have E:(IntKind.u64.wrap ((m*2^8:Nat):Int))=((m*256:Nat):Int):=ZM _ (by omega);refine NC (N:=m) (m:=8) rfl rfl rfl (by decide) E rfl ?_;refine go ?_;refine mj (N:=m*256) (M:=(bs[i]).toNat) (R:=m*256+(bs[i]).toNat) (k:=.u64) rfl rfl rfl (by simp only[IntKind.bits];omega) (by simp only[IntKind.bits];omega) ?_ rfl ?_
  .simp only[S5];congr 1;have:=Nat.two_pow_add_eq_or_of_lt (i:=8) j m;rw[abl m 256];exact this.symm
  refine go ?_;refine az (i+1,m*256+(bs[i]).toNat) ⟨rfl,rfl,rfl,rfl,Xr⟩ ⟨by omega,?_,H⟩ (by simp;omega);dsimp only;rw[Zf d,sB,<- l]
 .have:i=bs.length:=by omega
  subst this;refine go ?_;exact an rfl ⟨by rw[l,YD];rfl,H.to⟩
def sX(h:Sat W0 (Lf r rd::F) w)(hl:rd.rest.length<=140737488355328) :
 Calls prog 94 #[.pointer (some ⟨r,0,none⟩)] w λx w'=>x=.returned (str rd.text.1)/\Sat W0 (Lf r rd.text.2::F) w':=by
 have H:=rd.Ci 1;have a:=rd.jN 1;refine enter func94 rfl ntmps94 results94 rfl ?_;refine go ?_;refine ak (met (oU (K:=1) h hl (by omega)) ?_);rintro _ w ⟨rfl,h⟩;refine⟨_,rfl,go ?_⟩;refine ak (met (pQ (N:=((rd.num 1).1:Int)) h (by omega) (by omega) (by omega)) ?_);rintro _ w ⟨v,rfl,h⟩;refine⟨v,rfl,go ?_⟩;refine Q7 h (.there .here) rfl rfl ?_;refine go ?_;exact an rfl ⟨rfl,h.to⟩
theorem iZ.all(vs:List Value):iZ vs 0 vs:=by
 have key:∀ (vs pre:List Value),iZ (pre++vs) pre.length vs:=by
  intro vs
  induction vs with
  | nil=>intro _;trivial
  | cons v r i=>intro pre;exact⟨by simp,by have:=i (pre++[v]);simpa using this⟩
 exact key vs []
def Hx(H:Sat W0 (Lf r rd::F) w)(hl:rd.rest.length<=140737488355328) :
 Calls prog 167 #[.pointer (some ⟨r,0,none⟩)] w λx w'=>x=.returned (.agg (aD rd.entry.1).toArray)/\Sat W0 (Lf r rd.entry.2::F) w':=by
 have C:=rd.AO;have D:=rd.text.2.jN 8;refine enter func167 rfl ntmps167 results167 rfl ?_;refine go ?_;refine aS H λw k H=>?_;refine go ?_;refine ak (met (sX (H.take dt) hl) ?_);rintro _ w ⟨rfl,H⟩;refine⟨_,rfl,go ?_⟩;refine ak (met (oU (K:=8) H (by omega) (by omega)) ?_);rintro _ w ⟨rfl,H⟩;refine⟨_,rfl,go ?_⟩;refine cx [str rd.text.1,str [],.bool false,.int .u64 ((rd.text.2.num 8).1:Int)] ?_;refine aS H λw E H=>?_;refine fG H λw H=>?_;have p:rd.entry=if(rd.text.2.num 8).2.rest.head?=some 255 then(⟨rd.text.1,[],true,(rd.text.2.num 8).1⟩,((rd.text.2.num 8).2.bytes 1).2)
  else(⟨rd.text.1,(rd.text.2.num 8).2.text.1,false,(rd.text.2.num 8).1⟩,(rd.text.2.num 8).2.text.2):=rfl
 rw[p];clear p;generalize rd.text.1=t at *;generalize (rd.text.2.num 8).1=S at *;generalize (rd.text.2.num 8).2=q at *;have e:q.rest.length<=140737488355328:=by omega
 obtain⟨vr,-,H⟩:=(H.take dt).Dd;dsimp only[List.cons_append,List.nil_append]at H;obtain⟨R,B⟩:=q;dsimp only at H e |-;obtain⟨a,c,rfl,G⟩:=(H.take dt).mq;by_cases u:(R.length:Int) > 0
 .obtain⟨z,⟨y,A,f⟩,l⟩:=(H.take dt).vM (by intro h;subst h;simp at u);obtain⟨rfl,rfl⟩:a=some ⟨z.b,z.o,none⟩/\c=z.c:=by simpa using y
  have g:0<R.length:=by omega
  have m:=(R[0]).toNat_lt;have n:z.all[z.o+0*1]?=some (bV R[0]):=f 0 _ (by simp[g]);have s:R.head?=some R[0]:=by rw[abq,Xq g]
  refine go ?_;refine de (i:=0) rfl rfl rfl rfl rfl g rfl ?_;refine sk rfl ?_;refine fF l rfl rfl .here n rfl ?_;by_cases j:((R[0]).toNat:Int)=255
  .have d:R.head?=some 255:=by rw[s];congr 1;apply abr.1;show(R[0]).toNat=255;omega
   rw[XE d];refine go ?_;refine ak (met (pQ (rd:=⟨R,B⟩) (N:=1) (Sat.nQ (rd:=⟨R,B⟩) H.to) e (by omega) (by omega)) ?_);rintro _ w ⟨v,rfl,H⟩;refine⟨_,rfl,go ?_⟩;refine bJ H λw H=>?_;refine go ?_;refine fG H λw H=>?_;refine go ?_;exact iW ⟨_,_,k,0,rfl,rfl,kM _ H (.there (.there (.there .here))) rfl rfl (iZ.all _),rfl⟩ ⟨rfl,H.to⟩
  .have d:R.head?≠some 255:=by rw[s];intro h;simp only[Xs]at h;exact j (by rw[h];rfl)
   rw[Xx d];refine go ?_;refine ak (met (sX (rd:=⟨R,B⟩) (Sat.nQ (rd:=⟨R,B⟩) H.to) e) ?_);rintro _ w ⟨rfl,H⟩;refine⟨_,rfl,go ?_⟩;refine bJ H λw H=>?_;refine go ?_;refine fG H λw H=>?_;refine go ?_;exact iW ⟨_,_,k,0,rfl,rfl,kM _ H (.there (.there .here)) rfl rfl (iZ.all _),rfl⟩ ⟨rfl,H.to⟩
 .have d:R.head?≠some 255:=by rw[show R=[]from XY (by omega)];simp
  rw[Xx d];refine go ?_;refine ak (met (sX (rd:=⟨R,B⟩) (Sat.nQ (rd:=⟨R,B⟩) H.to) e) ?_);rintro _ w ⟨rfl,H⟩;refine⟨_,rfl,go ?_⟩;refine bJ H λw H=>?_;refine go ?_;refine fG H λw H=>?_;refine go ?_;exact iW ⟨_,_,k,0,rfl,rfl,kM _ H (.there (.there .here)) rfl rfl (iZ.all _),rfl⟩ ⟨rfl,H.to⟩
def Tv(a:Sat W0 (vw v bs::F) w)(b:bs.length<=140737488355328) :
 Calls prog 165 #[v] w λx w'=>x=.returned (.int .u32 (DH bs:Nat))/\Sat W0 (vw v bs::F) w':=by
 obtain⟨l,c,H,d⟩:=a.Ww .here;exact(Fy H c b).mono λx w' h=>⟨h.1,d _ h.2⟩
def Lg(h:Sat W0 (vw v bs::F) w)(hl:bs.length<=140737488355328) :
 Calls prog 91 #[v] w λx w'=>∃V j,x=.returned (.tuple #[V,j,.bool (bF bs).isSome]) /\
  Sat W0 (vw V (match bF bs with|some z=>z.1|none=>[])::vw j (match bF bs with|some z=>z.2|none=>bs)::F) w':=by
 obtain⟨a,c,rfl,y⟩:=h.mq;refine enter func91 rfl ntmps91 results91 rfl ?_;have d:Sat W0 (vw (.slice a bs.length c) bs::vw (.slice a bs.length c) bs::F) w:=h.Fz λ_=>N8;refine go ?_;refine cx [.slice a bs.length c,.bool false] ?_;refine eB d λw r h=>?_;have h:=Sat.nQ (rd:=⟨bs,false⟩) h;have A:(Rd.num ⟨bs,false⟩ 4).2.rest.length<=bs.length:=Rd.jN ⟨bs,false⟩ 4;have C:=(Rd.num ⟨bs,false⟩ 4).2.jN 4;have D:=((Rd.num ⟨bs,false⟩ 4).2.num 4).2.jN 4;have E:=Rd.Ci ⟨bs,false⟩ 4;have G:=(Rd.num ⟨bs,false⟩ 4).2.Ci 4;have I:=((Rd.num ⟨bs,false⟩ 4).2.num 4).2.Ci 4;refine go ?_;refine ak (met (oU (K:=4) h hl (by omega)) ?_);rintro _ w ⟨rfl,h⟩;refine⟨_,rfl,go ?_⟩;refine ak (met (oU (K:=4) h (by omega) (by omega)) ?_);rintro _ w ⟨rfl,h⟩;refine⟨_,rfl,go ?_⟩;refine ak (met (oU (K:=4) h (by omega) (by omega)) ?_);rintro _ w ⟨rfl,k⟩;refine⟨_,rfl,?_⟩;clear h d;have H:bF bs=(let n:=Rd.num ⟨bs,false⟩ 4
  let t:=n.2.num 4
  let s:=t.2.num 4
  if n.1≠4294967295-t.1 then none else
  let i:=s.2.bytes (n.1:Int)
  if i.2.bad=true\/DH i.1≠s.1 then none else some (i.1,i.2.rest)):=rfl
 dsimp only at H;have m:=(((Rd.num ⟨bs,false⟩ 4).2.num 4).2.num 4).2.mG ((Rd.num ⟨bs,false⟩ 4).1:Int);have o:=(((Rd.num ⟨bs,false⟩ 4).2.num 4).2.num 4).2.uJ ((Rd.num ⟨bs,false⟩ 4).1:Int);generalize (((Rd.num ⟨bs,false⟩ 4).2.num 4).2.num 4).1=s at *;generalize (((Rd.num ⟨bs,false⟩ 4).2.num 4).2.num 4).2=R at *;generalize ((Rd.num ⟨bs,false⟩ 4).2.num 4).1=t at *;generalize ((Rd.num ⟨bs,false⟩ 4).2.num 4).2=J at *;generalize (Rd.num ⟨bs,false⟩ 4).1=n at *;generalize (Rd.num ⟨bs,false⟩ 4).2=L at *;refine go ?_;refine yK (N:=t) rfl (by omega) rfl ?_;by_cases p:(n:Int)=((4294967295-t:Nat):Int)
 .have b:¬n≠4294967295-t:=by omega
  have e:¬(n:Int)≠((4294967295-t:Nat):Int):=by omega
  rw[Xx b]at H;refine go ?_;refine ak (met (pQ (N:=(n:Int)) k (by omega) (by omega) (by omega)) ?_);rintro _ w ⟨V,rfl,h⟩;refine⟨_,rfl,?_⟩;generalize R.bytes (n:Int)=q at *;obtain⟨i,M,B⟩:=q;dsimp only at H m o h;obtain⟨O,P,rfl,u⟩:=(h.take dt).mq;obtain⟨vr,-,h⟩:=h.Dd;dsimp only[List.cons_append,List.nil_append]at h;have l:=Pure.Gx i;cases B with
  | true=>
   rw[XE (.inl rfl)]at H;rw[H];refine go ?_;exact an rfl ⟨_,_,rfl,(h.qR (.inl rfl) λ_=>rfl).to⟩
  | false=>
   refine go ?_;refine ak (met (Tv (h.take iB) (by omega)) ?_);rintro _ w ⟨rfl,h⟩;refine⟨_,rfl,?_⟩;by_cases f:((DH i:Nat):Int)=(s:Int)
   .have g:¬((DH i:Nat):Int)≠(s:Int):=by omega
    rw[Xx (by simp;omega)]at H;rw[H];refine go ?_;refine bU [blk r 190 [vr,.bool false]] [(0,false),(1,false),(2,false),(3,false),(4,false),(5,false),(6,false),(7,false)] h.to (by kernel_rfl) λw h=>?_;refine go ?_;exact an rfl ⟨_,_,rfl,h.to⟩
   .have g:((DH i:Nat):Int)≠(s:Int):=f;rw[XE (by simp;omega)]at H;rw[H];refine go ?_;exact an rfl ⟨_,_,rfl,(h.qR (.inl rfl) λ_=>rfl).to⟩
 .have b:n≠4294967295-t:=by omega
  have e:(n:Int)≠((4294967295-t:Nat):Int):=p;rw[XE b]at H;rw[H];refine go ?_;exact an rfl ⟨_,_,rfl,(k.qR (.inl rfl) λ_=>rfl).to⟩
