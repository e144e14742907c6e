/-
  Part 31: WALKS package api; WALKS package api; WALKS package api; WALKS package api; WALKS package api; WALKS package api.
-/
import Derived.Test.YtecibefflhomdaaGreatDoorZ30
set_option maxHeartbeats 8000000
set_option maxRecDepth 100000
set_option linter.all false
namespace Go.Proofs.YtecibefflhomdaaGreatDoor
open Go Proofs.Tryz
section
variable[Bs0:Base][NQ]
open Pure (ad aB da eO gA)
attribute [local irreducible] IntKind.wrap
variable{W0 w:Xo}{F l:Xn ae}{v:Xp}{d:Nat}{D:ad}
variable {ms:Xn (Xn (Bs×XB Nat))}
theorem Sat.BP (h:Sat W0 (ma v ms::F) w):∃V,V.length=ms.length/\Sat W0 ([aE 1 v 143 ms.length V,star (List.zipWith FD V ms)]++F) w:=h.gD λa ⟨V,H,k⟩=>⟨V,H,k⟩
theorem Sat.sV {vs:Xn Xp} (h1:vs.length=ms.length) (h:Sat W0 (aE 1 v 143 ms.length vs::star (List.zipWith FD vs ms)::F) w):Sat W0 (ma v ms::F) w:=Sat.close (B:=[aE 1 v 143 ms.length vs,star (List.zipWith FD vs ms)]) h λH k=>⟨vs,h1,k⟩
abbrev named(D:ad)(mvs:Xn (Bs×XB Nat)):ad:={ D with now:=gA D.now mvs,moves:=D.moves++[mvs] }
def vR{z:DV}{mvs:Xn (Bs×XB Nat)}(H:Sat W0 (FD v mvs::js d z D++F) w)(hl:mvs.length<1000)(hm:D.moves.length<=1099511627776) :
 Calls prog 140 #[ax d,v] w λx w'=>x=.returned (.tuple #[])/\∃m,Sat W0 (js d ⟨z.bn,z.bs,m⟩ (named D mvs)++F) w':=by
 obtain⟨b,C,rfl⟩:∃b c,v=.slice (some ⟨b,0,none⟩) mvs.length c:=H.jm λ_ ⟨b,c,h,_⟩=>⟨b,c,h⟩;dsimp only[js,bK,List.cons_append,List.nil_append]at H;refine enter func140 rfl ntmps140 results140 rfl ?_;refine go ?_;refine ak (met (FE (kvs:=D.now) (mvs:=mvs) (F:=[blk d 111 (bK z D),bg ga z.bs (bM D.safe),ma z.mv D.moves,star (D.nodes.map iD)]++F) H.to hl) ?_);rintro _ w ⟨rfl,H⟩;refine⟨_,rfl,go ?_⟩;dsimp only[List.cons_append,List.nil_append]at H;obtain⟨vs,e,H⟩:=(H.take yw).BP;dsimp only[List.cons_append,List.nil_append]at H;obtain⟨A,j,g,-⟩:=H.aC;refine eS H λw B H=>?_;refine dZ H λm w H=>?_;refine go ?_;obtain⟨a,c,rfl,_⟩:=H.aC;refine bJ H λw H=>?_;refine go ?_;have E:List.zipWith FD (vs++[.slice (some ⟨b,0,none⟩) mvs.length C]) (D.moves++[mvs])=List.zipWith FD vs D.moves++[FD (.slice (some ⟨b,0,none⟩) mvs.length C) mvs]:=by
  rw[Zh e];rfl
 have f:=(H.p7 dt (.there (.there .here))).ug;rw[<- E]at f;have i:Sat W0 (ma (.slice a (D.moves.length+1) c) (D.moves++[mvs])::bg ga z.bn (bM (gA D.now mvs))::blk d 111 ((bK z D).set (0+2) (.slice a (D.moves.length+1) c))::bg ga z.bs (bM D.safe)::star (D.nodes.map iD)::F) w:=
  Sat.sV (vs:=vs++[.slice (some ⟨b,0,none⟩) mvs.length C]) (by simp[e]) (by rw[Xu];exact f.take dt)
 exact fE rfl ⟨rfl,.slice a (D.moves.length+1) c,i.to⟩
theorem Q8{p:Nat×(Bs×Nat)}{h:Hp}(k:iD p h):∃o,h p.1=some (false,o):=by
 obtain⟨v,a,_,_,L,_,H,_⟩:=k;exact⟨_,L _ _ H⟩
def FF:∀{ns:Xn (Nat×(Bs×Nat))} {h:Hp},cj (ns.map iD) h->∀p∈ns,∃o,h p.1=some (false,o)
 | q::ns,h,⟨e,f,_,L,b,c,r⟩,p,H=>by
  rcases XW.1 H with rfl|H
  .obtain⟨o,a⟩:=Q8 c;exact⟨o,L _ _ a⟩
  .obtain⟨o,a⟩:=FF r p H;exact⟨o,b _ _ a⟩
variable {ns:Xn (Nat×(Bs×Nat))}
def Sat.fresh {b:Nat} {o:Obj} (h:Sat W0 (ob false b o::star (ns.map iD)::F) w) (H:¬Qv o:=by exact vn):aB ns b=none:=by
 cases a:aB ns b with
 | none=>rfl
 | some x=>
  obtain⟨_,_,_,_,i,_,_,j,k,f,_,_,c,m,n,_,L,_,e,_⟩:=h;obtain⟨O,g⟩:=FF e _ (Pure.eD a);rcases(f b _ _ c (L _ _ g)).2 with h|h
  .cases h
  .exact XG h H
variable {i:Nat}
def Sat.Q9 (h:Sat W0 (blk i 116 [.slice none 0 0,.int .i64 0]::F) w):Sat W0 (iD (i,([],0))::F) w:=by
 have H:=(Sat.y5 h).take dt;exact Sat.close (B:=[blk i 116 [.slice none 0 0,.int .i64 0],cP (.slice none 0 0) []]) H λa k=>⟨_,k⟩
def Rb(D:ad)(n:Bs)(e:XB (XB Bs×Nat))(D':ad):Prop:=
 (D.eg=true/\e=some (some n,8)/\D'=D.tick)\/(D.eg=false/\(aB D.now n).isSome=true/\e=some (some n,11)/\D'=D.tick) \/
 (D.eg=false/\aB D.now n=none/\e=none/\∃i,aB D.nodes i=none/\D'=D.tick.created n i)
variable {n:Bs}
def FG (h:Sat W0 (gn d D::F) w) (hm:D.moves.length<=1099511627776):
 Calls prog 78 #[ax d,str n] w λx w'=>∃V e D',x=.returned V/\Rb D n e D'/\Sat W0 (gn d D'::aW V e::F) w':=by
 refine enter func78 rfl ntmps78 results78 rfl ?_;refine go ?_;refine ak (met (sU h) ?_);rintro _ w ⟨rfl,h⟩;refine⟨_,rfl,?_⟩;cases f:D.eg with
 | true=>
  refine go ?_;refine cx [str n,.int .i64 8] ?_;refine eB h λw b h=>?_;refine go ?_;exact an rfl ⟨_,_,_,rfl,.inl ⟨f,rfl,rfl⟩,h.vQ.to⟩
 | false=>
  obtain⟨a,z,h⟩:=h.iE;dsimp only[js,bK,List.cons_append,List.nil_append]at h;have o:=qT D.tick.now n;rw[Pure.ad.dg]at o;refine go ?_;refine vN ga (k:=n) h (.there .here) rfl rfl rfl Jh rfl ?_;rw[Pure.ad.dg,o];cases g:aB D.now n with
  | some j=>
   refine go ?_;refine cx [str n,.int .i64 11] ?_;refine eB h λw b h=>?_;refine go ?_;exact an rfl ⟨_,_,_,rfl,.inr (.inl ⟨f,by simp[g],rfl,rfl⟩),Sat.dG (z:=z) a h.vQ.to⟩
  | none=>
   refine go ?_;refine cx [.slice none 0 0,.int .i64 0] ?_;refine eB h λw i h=>?_;refine cx [str n,ax i] ?_;refine jT [str n,ax i] h λw b h=>?_;have H:aB D.tick.nodes i=none:=Sat.fresh ((h.take dt).p7 .here (.there (.there (.there (.there (.there .here))))));have p:Sat W0 (FD (.slice (some ⟨b,0,none⟩) 1 1) [(n,some i)]::blk i 116 [.slice none 0 0,.int .i64 0]::js d z D.tick++F) w:=h.share.head λr k=>⟨b,1,rfl,k⟩;have c:=Pure.ad.Ok.created a H (by rw[Pure.ad.dg];exact g);refine go ?_;refine ak (met (vR (F:=blk i 116 [.slice none 0 0,.int .i64 0]::F) p.to (by simp) (by rw[Pure.ad.lg];omega)) ?_);rintro _ w ⟨rfl,m,h⟩;refine⟨_,rfl,go ?_⟩;dsimp only[js,bK,List.cons_append,List.nil_append]at h;have q:=(((h.take EF).Q9).p7 .here (.there (.there (.there (.there .here))))).za;refine an rfl ⟨_,_,_,rfl,.inr (.inr ⟨f,g,rfl,i,by rw[<- Pure.ad.fu];exact H,rfl⟩),Sat.dG (z:=⟨z.bn,z.bs,m⟩) c ?_⟩;exact q.iy.to
theorem Sat.bp{e:eX}(h:Sat W0 (aW v (some e)::F) w):∃t u,v=.iface t u:=h.jm λ_ k=>by
 obtain⟨s,n⟩:=e;cases s with
 | none=>exact⟨_,_,k⟩
 | some s=>obtain⟨b,k,_⟩:=k;exact⟨_,_,k⟩
theorem Sat.ee{v:Xp}(h:Sat W0 (aW v none::F) w):v=.nilIface:=h.jm λ_ k=>k
theorem wK:∀{ns:Xn (Nat×(Bs×Nat))} {i:Nat} {x:Bs×Nat},aB ns i=some x->∃a b,ns=a++(i,x)::b/\∀y,da ns i y=a++(i,y)::b
 | (k,v)::r,i,x,h=>by
  unfold aB at h;by_cases H:i=k
  .subst H;simp at h;subst h;exact⟨[],r,rfl,λy=>by simp[da]⟩
  .simp only[H,XV]at h;obtain⟨a,b,c,e⟩:=wK h;exact⟨(k,v)::a,b,by rw[c];rfl,λy=>by simp only[da,H,XV,e y];rfl⟩
def Sat.qV {x:Bs×Nat} (H:aB ns i=some x) (h:Sat W0 (star (ns.map iD)::F) w):
 ∃B C v,ns.map iD=B++iD (i,x)::C/\(∀y,(da ns i y).map iD=B++iD (i,y)::C)/\Sat W0 (blk i 116 [v,.int .i64 (x.2:Int)]::cP v x.1::star (B++C)::F) w:=by
 obtain⟨a,b,c,f⟩:=wK H;have e:ns.map iD=a.map iD++iD (i,x)::b.map iD:=by rw[c];simp
 rw[e]at h;obtain⟨v,_,g⟩:=h.ie.gD (φ:=λ_:Xp=>True) (B:=λv=>[blk i 116 [v,.int .i64 (x.2:Int)],cP v x.1]) λj ⟨v,k⟩=>⟨v,Xr,k⟩;exact⟨a.map iD,b.map iD,v,e,λy=>by rw[f];simp,g⟩
def Sat.rO {y:Bs×Nat} {B C:Xn ae} (h:Sat W0 (blk i 116 [v,.int .i64 (y.2:Int)]::cP v y.1::star (B++C)::F) w):Sat W0 (star (B++iD (i,y)::C)::F) w:=
 (Sat.close (B:=[blk i 116 [v,.int .i64 (y.2:Int)],cP v y.1]) h λH k=>⟨v,k⟩).jG
theorem mE (h:aY D n=none):D.eg=false/\∃i,aB D.now n=some i/\qU D n=ax i:=by
 unfold aY at h;split at h
 .cases h
 .rename_i H;split at h
  .cases h
  .rename_i i a;exact⟨by simpa using H,i,a,by simp[qU,H,a]⟩
def Lb (h:Sat W0 (gn d D::F) w):
 Calls prog 160 #[ax d,str n] w λx w'=>∃V,x=.returned (.tuple #[.int .i64 (match aY D n with|some _=>0|none=>match aB D.now n with|some i=>((D.aG i).length:Int)|none=>0),V])/\Sat W0 (gn d D.tick::aW V (aY D n)::F) w':=by
 refine enter func160 rfl ntmps160 results160 rfl ?_;refine go ?_;refine ak (met (find_spec (n:=n) h) ?_);rintro _ w ⟨V,rfl,h⟩;refine⟨_,rfl,?_⟩;cases b:aY D n with
 | some e=>
  rw[b]at h;obtain⟨t,u,rfl⟩:=(h.take dt).bp;refine go ?_;exact an rfl ⟨_,rfl,h⟩
 | none=>
  rw[b]at h;obtain⟨q,i,g,m⟩:=mE b;have f:=(h.take dt).ee;subst f;rw[m,g];obtain⟨H,z,h⟩:=h.iE;dsimp only[js,bK,List.cons_append,List.nil_append]at h;obtain⟨x,j⟩:=H.Ck (n:=n) (by rw[Pure.ad.dg];exact g);obtain⟨B,C,v,E,r,h⟩:=(h.take yw).qV j;obtain⟨a,c,o,-⟩:=(h.take dt).aC;subst o;have p:D.aG i=x.1:=by unfold ad.aG;rw[<- Pure.ad.fu,j]
  dsimp only;rw[p];refine go ?_;refine an rfl ⟨_,rfl,Sat.dG (z:=z) H ?_⟩;have k:=h.rO (y:=x);rw[<- E]at k;exact k.to
def Lc (h:Sat W0 (gn d D::F) w):
 Calls prog 86 #[ax d,str n] w λx w'=>∃V,x=.returned V/\Sat W0 (gn d (jd D n λi=>D.tick.laid i (D.aG i,(D.aG i).length))::aW V (aY D n)::F) w':=by
 refine enter func86 rfl ntmps86 results86 rfl ?_;refine go ?_;refine ak (met (find_spec (n:=n) h) ?_);rintro _ w ⟨V,rfl,h⟩;refine⟨_,rfl,?_⟩;unfold jd;cases f:aY D n with
 | some e=>
  rw[f]at h;obtain⟨t,u,rfl⟩:=(h.take dt).bp;refine go ?_;exact an rfl ⟨_,rfl,h⟩
 | none=>
  rw[f]at h;obtain⟨A,i,m,r⟩:=mE f;have g:=(h.take dt).ee;subst g;rw[r,m];obtain⟨H,z,h⟩:=h.iE;dsimp only[js,bK,List.cons_append,List.nil_append]at h;obtain⟨x,o⟩:=H.Ck (n:=n) (by rw[Pure.ad.dg];exact m);obtain⟨B,C,v,G,E,h⟩:=(h.take yw).qV o;obtain⟨a,c,s,-⟩:=(h.take dt).aC;subst s;have p:D.aG i=x.1:=by unfold ad.aG;rw[<- Pure.ad.fu,o]
  have j:D.tick.aG i=x.1:=by rw[Pure.ad.lK,p]
  dsimp only;rw[p];have b:(D.tick.laid i (x.1,x.1.length)).Ok:=H.laid (Yh (Pure.ad.mz (k:=0) H (by rw[j];rfl)) H.used);refine go ?_;refine bJ h λw h=>?_;refine go ?_;refine an rfl ⟨_,rfl,Sat.dG (z:=z) b ?_⟩;have q:=h.rO (y:=(x.1,x.1.length));rw[<- E]at q;exact q.to
def FH (h:Sat W0 (gn d D::F) w) (hm:D.moves.length<=1099511627776):
 Calls prog 77 #[ax d,str n] w λx w'=>∃V,x=.returned V/\Sat W0 (gn d (jd D n λ_=>D.tick.gS n)::aW V (aY D n)::F) w':=by
 refine enter func77 rfl ntmps77 results77 rfl ?_;refine go ?_;refine ak (met (find_spec (n:=n) h) ?_);rintro _ w ⟨V,rfl,h⟩;refine⟨_,rfl,?_⟩;unfold jd;cases H:aY D n with
 | some e=>
  rw[H]at h;obtain⟨t,u,rfl⟩:=(h.take dt).bp;refine go ?_;exact an rfl ⟨_,rfl,h⟩
 | none=>
  rw[H]at h;obtain⟨o,i,g,f⟩:=mE H;have a:=(h.take dt).ee;subst a;rw[f,g];obtain⟨c,z,h⟩:=h.iE;dsimp only[js,bK,List.cons_append,List.nil_append]at h;refine go ?_;refine cx [str n,.pointer none] ?_;refine jT [str n,.pointer none] h λw b h=>?_;have j:Sat W0 (FD (.slice (some ⟨b,0,none⟩) 1 1) [(n,none)]::js d z D.tick++(aW .nilIface none::F)) w:=h.share.head λf k=>⟨b,1,rfl,k⟩;refine go ?_;refine ak (met (vR j (by simp) (by rw[Pure.ad.lg];omega)) ?_);rintro _ w ⟨rfl,m,h⟩;refine⟨_,rfl,go ?_⟩;exact an rfl ⟨_,rfl,Sat.dG (z:=⟨z.bn,z.bs,m⟩) (c.gS n) h⟩
def FI {m:Bs} (H:Sat W0 (gn d D::F) w) (hm:D.moves.length<=1099511627776):
 Calls prog 177 #[ax d,str n,str m] w λx w'=>∃V,x=.returned V/\Sat W0 (gn d (jd D n λi=>if n=m then D.tick else D.tick.renamed n m i)::aW V (aY D n)::F) w':=by
 refine enter func177 rfl ntmps177 results177 rfl ?_;refine go ?_;refine ak (met (find_spec (n:=n) H) ?_);rintro _ w ⟨V,rfl,H⟩;refine⟨_,rfl,?_⟩;unfold jd;cases c:aY D n with
 | some e=>
  rw[c]at H;obtain⟨t,u,rfl⟩:=(H.take dt).bp;refine go ?_;exact an rfl ⟨_,rfl,H⟩
 | none=>
  rw[c]at H;obtain⟨r,i,o,p⟩:=mE c;have f:=(H.take dt).ee;subst f;rw[p,o];by_cases a:n=m
  .have g:¬n≠m:=λh=>h a;dsimp only;rw[XE a];refine go ?_;exact an rfl ⟨_,rfl,H⟩
  .have g:n≠m:=a;dsimp only;rw[Xx a];obtain⟨j,z,H⟩:=H.iE;dsimp only[js,bK,List.cons_append,List.nil_append]at H;refine go ?_;refine cx [str m,ax i] ?_;refine go ?_;refine cx [str n,.pointer none] ?_;refine jT [str m,ax i,str n,.pointer none] H λw b H=>?_;have q:Sat W0 (FD (.slice (some ⟨b,0,none⟩) 2 2) [(m,some i),(n,none)]::js d z D.tick++(aW .nilIface none::F)) w:=H.share.head λp k=>⟨b,2,rfl,k⟩;refine go ?_;refine ak (met (vR q (by simp) (by rw[Pure.ad.lg];omega)) ?_);rintro _ w ⟨rfl,M,H⟩;refine⟨_,rfl,go ?_⟩;exact an rfl ⟨_,rfl,Sat.dG (z:=⟨z.bn,z.bs,M⟩) (j.renamed a (by rw[Pure.ad.dg];exact o)) H⟩
theorem pP:∀{ns:Xn (Bs×Nat)} {L c:Xn (Bs×Xp)} {x:Bs×Xp},bM ns=L++x::c->∃a p b,ns=a++p::b/\x=(p.1,ax p.2)/\L++c=bM (a++b)
 | [],L,c,x,h=>by cases L<;>simp[bM]at h
 | q::ns,[],c,x,h=>by
  simp only[bM,XP,List.nil_append,abx]at h;exact⟨[],q,ns,rfl,h.1.symm,by simp[bM,<- h.2]⟩
 | q::ns,y::L,c,x,h=>by
  simp only[bM,XP,List.cons_append,abx]at h;obtain⟨a,p,b,H,e,f⟩:=pP (ns:=ns) h.2;exact⟨q::a,p,b,by rw[H];rfl,e,by simp only[List.cons_append,bM,XP];rw[f,<- h.1];rfl⟩
def FJ {bs:Bs} {V:Xp} (H:Sat W0 (gn d D::cP V bs::F) w):
 Calls prog 79 #[ax d,str n,V] w λx w'=>∃K,x=.returned K/\Sat W0 (gn d (bG D n bs)::cP V bs::aW K (dT D n bs)::F) w':=by
 obtain⟨E,G,M,r⟩:=(H.take dt).aC;subst M;have Y:bs.length<=9223372036854775807:=by have:=r.1;have:=r.2;simp only[maxLen]at this;omega
 refine enter func79 rfl ntmps79 results79 rfl ?_;refine go ?_;refine ak (met (find_spec (n:=n) H) ?_);rintro _ w ⟨K,rfl,H⟩;refine⟨_,rfl,?_⟩;unfold bG dT;cases N:aY D n with
 | some e=>
  rw[N]at H;obtain⟨t,u,rfl⟩:=(H.take dt).bp;refine go ?_;exact an rfl ⟨_,rfl,H.to⟩
 | none=>
  rw[N]at H;obtain⟨ht,i,O,I⟩:=mE N;have P:=(H.take dt).ee;subst P;rw[I,O];obtain⟨c,z,H⟩:=H.iE;dsimp only[js,bK,List.cons_append,List.nil_append]at H;refine go ?_;refine y6 ga H (.there .here) rfl rfl rfl λw Z H=>?_;refine go ?_;have aa:=c.room0;have ac:=c.room1;have af:=c.used;refine aL (α:=Xn (Bs×Nat)×Nat) (λy=>[(0,ax d),(1,str n),(2,.slice E bs.length G),(7,ax i),(25,.pointer (some ⟨Z,0,none⟩)),(9,.int .i64 (y.2:Int))])
   (λy w=>(y.2+(y.1.map λp=>(D.tick.aG p.2).length).sum=D.tick.used/\∀p∈y.1,(aB D.tick.nodes p.2).isSome=true)/\∃L,Sat W0 (l9 ga z.bn Z (bM D.tick.now) (bM y.1) L::blk d 111 (bK z D.tick)::bg ga z.bs (bM D.tick.safe)::ma z.mv D.tick.moves::star (D.tick.nodes.map iD)::aW .nilIface none::cP (.slice E bs.length G) bs::F) w) (λy=>y.1.length) (D.tick.now,0) ⟨rfl,rfl,rfl,rfl,rfl,rfl,Xr⟩ ⟨⟨by simp[ad.used],c.now⟩,none,H⟩ ?_
  clear H;rintro⟨left,u⟩ w ⟨⟨f,j⟩,L,H⟩;dsimp only at f j H |-;refine go ?_;refine C6 ga H .here rfl rfl (λh0=>?_) (λl1 x l2 w hl H=>?_)
  .have Q:left=[]:=by simpa[bM]using h0
   subst Q;have:u=D.tick.used:=by simpa using f
   subst this;have H:=H.vP;clear f j h0;obtain⟨x,R⟩:=c.Ck (n:=n) (by rw[Pure.ad.dg];exact O);obtain⟨B,C,v,S,e2,H⟩:=(H.take yw).qV R;obtain⟨a3,c3,T,-⟩:=(H.take dt).aC;subst T;have J:D.aG i=x.1:=by unfold ad.aG;rw[<- Pure.ad.fu,R]
   have s:D.tick.aG i=x.1:=by rw[Pure.ad.lK,J]
   have ag:x.1.length<=D.tick.used:=by rw[<- s];exact Pure.ad.size_le (by rw[Pure.ad.dg];exact O)
   have U:o8 D i=x.2:=by unfold o8;rw[<- Pure.ad.fu,R]
   have er:D.room=D.tick.room:=by simp
   have eu:D.used=D.tick.used:=by simp
   rw[er,eu,J,U];by_cases g:(bs.length:Int) > D.tick.room-D.tick.used
   .rw[XE g];refine go ?_;refine cx [str n,.int .i64 9] ?_;refine eB H λw b H=>?_;refine go ?_;have m:=Sat.rO (i:=i) (y:=x) (B:=B) (C:=C) (v:=.slice a3 x.1.length c3) (F:=aW (.iface 249 (.pointer (some ⟨b,0,none⟩))) (some (some n,9))::blk d 111 (bK z D.tick)::bg ga z.bn (bM D.tick.now)::bg ga z.bs (bM D.tick.safe)::ma z.mv D.tick.moves::cP (.slice E bs.length G) bs::F) H.vQ.to;rw[<- S]at m;exact an rfl ⟨_,rfl,Sat.dG (z:=z) c m.to⟩
   .rw[Xx g];have A:(D.tick.laid i (x.1++bs,x.2)).Ok:=c.laid (Yh (Pure.ad.mz (k:=bs.length) c (by rw[s];simp)) (by omega));refine go ?_;refine IZ (hm:=by omega) H λv' w H=>?_;obtain⟨a4,c4,W,-⟩:=H.aC;subst W;refine go ?_;refine bJ H λw H=>?_;refine go ?_;have m:=Sat.rO (i:=i) (y:=(x.1++bs,x.2)) (B:=B) (C:=C) (F:=aW .nilIface none::blk d 111 (bK z D.tick)::bg ga z.bn (bM D.tick.now)::bg ga z.bs (bM D.tick.safe)::ma z.mv D.tick.moves::cP (.slice E bs.length G) bs::F) H.to;rw[<- e2]at m;exact an rfl ⟨_,rfl,Sat.dG (z:=z) A m.to⟩
  .obtain⟨a,p,b,rfl,rfl,X⟩:=pP hl;rw[X]at H;obtain⟨q,hq⟩:=YU.1 (j p (by simp));refine go ?_;refine y7 ga H .here rfl rfl ?_;obtain⟨B,C,v,S,e2,H⟩:=(H.take yw).qV hq;obtain⟨a2,c2,T,-⟩:=(H.take dt).aC;subst T;have J:D.tick.aG p.2=q.1:=by unfold ad.aG;rw[hq]
   have o:u+q.1.length+((a++b).map λp=>(D.tick.aG p.2).length).sum=D.tick.used:=by
    simp only[XK,XP,ZU,aa4,J]at f |-;omega
   refine go ?_;refine az (a++b,u+q.1.length) ⟨rfl,rfl,rfl,rfl,rfl,rfl,Xr⟩ ⟨⟨o,λp I=>j p (by simp at I |-;rcases I with h|h<;>simp[h])⟩,some (p.1,ax p.2),?_⟩ (by simp);have m:=H.rO (y:=q);rw[<- S]at m;exact m.to
variable{W0 w:Xo}{F l:Xn ae}{v:Xp}{d:Nat}{D:ad}{bs:Bs}
theorem Tq{a:XB YO}{c:Nat}:CJ 1 93 (.slice a 0 c) 0 [] l:=λ_ w _=>by
 cases a with
 | none=>exact⟨Src.ofNil w (bw (t:=93) rfl) c,aR.pure _⟩
 | some a=>exact⟨abG w (bw (t:=93) rfl) _ _ _ _ (by simp) (λj u h=>by simp at h) λu h=>by simp at h,mW (by simp) λj u h=>by simp at h⟩
def Vm{v:Xp}(H:Ut l v bs):CJ 1 93 v bs.length (bs.map bV) l:=by
 rcases H with⟨rfl,a,c,rfl⟩|⟨b,o,c,sh,all,E,r,rfl,t,h⟩
 .exact Tq
 .exact Hi (all:=all.toList) rfl (by simpa using t) (by simp) (λj u e=>by simpa using h j u e) (Hj bs)
def Hv(e:Sat W0 l w)(f:Ut l v bs)(p:bs.length<=140737488355328) :
 Calls prog 46 #[v] w λx w'=>∃v',x=.returned v'/\Sat W0 (cP v' bs::l) w':=by
 obtain⟨a,c,q⟩:∃a c,v=.slice a bs.length c:=by
  rcases f with⟨rfl,a,c,rfl⟩|⟨b,o,c,_,_,_,_,rfl,_⟩<;>exact⟨_,_,rfl⟩
 subst q;refine enter func46 rfl ntmps46 results46 rfl ?_;cases a with
 | none=>
  have g:bs=[]:=by
   rcases f with⟨h,_⟩|⟨b,o,C,_,_,_,_,h,_⟩
   .exact h
   .simp at h
  subst g;refine go ?_;exact an rfl ⟨_,rfl,e.y5⟩
 | some a=>
  refine go ?_;refine jT [] e λw b j=>?_;have H:Sat W0 (cP (.slice (some ⟨b,0,none⟩) 0 0) []::l) w:=Sat.gE (cs:=[]) (len:=0) (rest:=[]) (by simpa using j) (XD _) (by decide) rfl rfl (by simp);have k:CJ 1 93 (.slice (some a) bs.length c) bs.length (bs.map bV) (cP (.slice (some ⟨b,0,none⟩) 0 0) []::l):=λW w h=>Vm f W w h.drop;refine go ?_;refine pD (m:=bs.length) H rfl rfl .here k (by simpa using p) rfl λv' w e=>?_;refine go ?_;exact an rfl ⟨v',rfl,by simpa using e⟩
section
variable{ops:Xv Yf}{Q:YL->Act->Xo->Prop}{n:Nat}{ds:Md}{e:Env}{rest:Xn Yf}
variable{op:Op}{ty:XO}{pos:YG}{af:Xv Edge}{dd:Nat}
theorem Tt{x t y:XZ}(l' h':Nat)(H:Sat W0 (cP v bs::l) w)(z:ev e x=some v)(f:ev e t=some (.int .i64 (l':Int)))(g:ev e y=some (.int .i64 (h':Int)))(h1:l'<=h')(E:h'<=bs.length)(A:Nat.blt dd n=true)
 (kk:∀V L,Ut L V ((bs.drop l').take (h'-l'))->Sat W0 L w->(∀p,cj L p->cj (cP v bs::l) p)->WL ops Q n ds rest ((dd,V)::e) w) :
 WL ops Q n ds (⟨some dd,.slice 93 x (some t) (some y) none,ty,pos,af,none⟩::rest) e w:=by
 by_cases B:v=.slice none 0 0
 .subst B;obtain⟨a,c,G,_⟩:=H.aC;have I:bs=[]:=XY (by simp at G;omega);subst I;have J:h'=0:=by simpa using E
  have K:l'=0:=by omega
  subst J;subst K;exact xm z rfl rfl f g A (kk _ _ (.inl ⟨by simp,none,0,rfl⟩) H λ_ h=>h)
 .have m:=H.CI;have o:=H.yF;obtain⟨b,c,R,rfl,M,N,O,q⟩:=H.nI B;refine qJ l' h' z rfl rfl f g h1 (by omega) A (kk _ (blk b 5 (bs.map bV++R)::l) ?_ q λp k=>Bm (λ_ P=>⟨m,o,.inr ⟨b,c,R,rfl,M,N,O,P⟩⟩) k);by_cases C:h'-l'=0
  .exact .inl ⟨by rw[C];simp,_,_,by rw[C]⟩
  .have r:c≠l':=by omega
   have S:cutAt b 0 c l' 1=⟨b,l',none⟩:=by unfold cutAt;rw[Xx r];simp
   rw[S];have el:((bs.drop l').take (h'-l')).length=h'-l':=by simp;omega
   refine .inr ⟨b,l',c-l',false,_,_,_,by rw[el],.here,λj u s=>?_⟩;simp only[ZZ];have T:j<h'-l':=by have:=(Xw.1 s).1;rw[XT,el]at this;exact this
   rw[XH (by simp;omega)];rw[aa5,aay,ZC,XE T,aaf]at s;exact s
end
theorem zc(h:D.Ok)(n:Int):(counted D n).Ok:=⟨h.now,h.safe,h.moves,h.names,h.ids,h.room0,h.room1,h.wait0,h.wait1,h.bad0,h.bad1,h.used,h.short⟩
def Jj(D:ad)(nm:Bs)(at_ n:Int):Bs:=match aY D nm with
 | some _=>[]
 | none=>match aB D.now nm with
  | some i=>iL (D.aG i) at_ n
  | none=>[]
def FK{nm:Bs}{at_ n:Int}(h:Sat W0 (gn d D::F) w)(r:-9223372036854775808<=at_)(s:at_<=9223372036854775807)(E:-9223372036854775808<=n)(G:n<=9223372036854775807) :
 Calls prog 161 #[ax d,str nm,.int .i64 at_,.int .i64 n] w λx w'=>∃v V,x=.returned (.tuple #[v,V])/\Sat W0 (gn d (counted D n).tick::cP v (Jj D nm at_ n)::aW V (aY D nm)::F) w':=by
 obtain⟨hok,z,h⟩:=h.iE;dsimp only[js,bK,List.cons_append,List.nil_append]at h;have hok1:=zc hok n;have hfe:aY (counted D n) nm=aY D nm:=rfl;have hfp:qU (counted D n) nm=qU D nm:=rfl;refine enter func161 rfl ntmps161 results161 rfl ?_;refine go ?_;refine bJ h λw h=>?_;refine go ?_;refine bJ h λw h=>?_;have h:Sat W0 (gn d (counted D n)::F) w:=Sat.dG (z:=z) hok1 h.to;refine go ?_;refine ak (met (find_spec (n:=nm) h) ?_);rintro _ w ⟨V,rfl,h⟩;refine⟨_,rfl,?_⟩;rw[hfe]at h;rw[hfp];unfold Jj;cases f:aY D nm with
 | some e=>
  rw[f]at h;obtain⟨t,u,rfl⟩:=(h.take dt).bp;refine go ?_;exact an rfl ⟨_,_,rfl,(h.y5).to⟩
 | none=>
  rw[f]at h;obtain⟨Q,i,g,j⟩:=mE f;have hve:=(h.take dt).ee;subst hve;rw[j,g];obtain⟨hok,z,h⟩:=h.iE;dsimp only[js,bK,List.cons_append,List.nil_append]at h;obtain⟨x,H⟩:=hok.Ck (n:=nm) (by rw[Pure.ad.dg];exact g);have m:aB D.nodes i=some x:=by rw[Pure.ad.fu]at H;exact H
  obtain⟨B,C,v,I,R,h⟩:=(h.take yw).qV H;obtain⟨a,c,J,-⟩:=(h.take dt).aC;subst J;have K:D.aG i=x.1:=by unfold ad.aG;rw[m]
  have hsz:x.1.length<=4398046511104:=by
   have L:=Pure.ad.size_le (D:=(counted D n).tick) (n:=nm) (i:=i) (by rw[Pure.ad.dg];exact g);have p:=hok.used;have b:(counted D n).tick.aG i=x.1:=by unfold ad.aG;rw[H]
   rw[b]at L;omega
  dsimp only;rw[K];unfold iL;obtain⟨A,o⟩:∃A:Nat,min (max at_ 0) (x.1.length:Int)=A:=⟨(min (max at_ 0) (x.1.length:Int)).toNat,by omega⟩;obtain⟨M,q⟩:∃M:Nat,min (max n 0) ((x.1.length:Int)-min (max at_ 0) (x.1.length:Int))=M:=⟨(min (max n 0) ((x.1.length:Int)-min (max at_ 0) (x.1.length:Int))).toNat,by omega⟩;rw[q,o];refine go ?_;refine Tt (l':=A) (h':=A+M) (h.take dt) rfl ?_ ?_ (by omega) (by omega) rfl λS T N h O=>?_
  .show some (Value.int .i64 (min (max at_ 0) (x.1.length:Int)))=_;rw[o]
  .show some (Value.int .i64 (min (max at_ 0) (x.1.length:Int)+min (max n 0) ((x.1.length:Int)-min (max at_ 0) (x.1.length:Int))))=_;rw[q,o];simp
  refine go ?_;refine ak (met (Hv h N (by simp;omega)) ?_);rintro _ w ⟨P,rfl,h⟩;refine⟨_,rfl,go ?_⟩;have p:=h.imp λ_ k=>bH (λj=>O j) k;have b:=Sat.rO (i:=i) (y:=x) (B:=B) (C:=C) (F:=cP P ((x.1.drop A).take (A+M-A))::aW .nilIface none::blk d 111 (bK z (counted D n).tick)::bg ga z.bn (bM (counted D n).tick.now)::bg ga z.bs (bM (counted D n).tick.safe)::ma z.mv (counted D n).tick.moves::F) p.to;rw[<- I,Y4]at b;exact an rfl ⟨_,_,rfl,Sat.dG (z:=z) hok b.to⟩
theorem BQ{α β γ:Type}(f:α->β->γ):∀{xs:Xn α} {Y:Xn β} {i:Nat} {x:α} {y:β},xs[i]?=some x->Y[i]?=some y->∃B C,List.zipWith f xs Y=B++f x y::C
 | a::xs,b::Y,0,x,y,H,c=>by simp at H c;subst H;subst c;exact⟨[],_,rfl⟩
 | a::xs,b::Y,i+1,x,y,H,c=>by
  simp at H c;obtain⟨B,C,h⟩:=BQ f H c;exact⟨f a b::B,C,by simp[h]⟩
def C7(h:Sat W0 (gn d D::F) w) :
 Calls prog 178 #[ax d] w λx w'=>∃V,x=.returned V/\Sat W0 (gn d (fw D)::aW V (if D.eg=true then some (some [],8)else none)::F) w':=by
 refine enter func178 rfl ntmps178 results178 rfl ?_;refine go ?_;refine ak (met (sU h) ?_);rintro _ w ⟨rfl,h⟩;refine⟨_,rfl,?_⟩;unfold fw;cases N:D.eg with
 | true=>
  refine go ?_;refine cx [str [],.int .i64 8] ?_;refine eB h λw b h=>?_;refine go ?_;exact an rfl ⟨_,rfl,(h.vQ (s:=[])).to⟩
 | false=>
  obtain⟨j,z,h⟩:=h.iE;dsimp only[js,bK,List.cons_append,List.nil_append]at h;obtain⟨vs,I,h⟩:=(h.take IQ).BP;dsimp only[List.cons_append,List.nil_append]at h;obtain⟨a,c,k,u⟩:=h.aC;have J:D.tick.moves.length<=9223372036854775807:=by have:=u.1;have:=u.2;simp only[maxLen]at this;omega
  have q:=j.short;have o:=j.synced;generalize O:D.tick=E at *;refine go ?_;rw[k];refine go ?_;refine aL (α:=Nat) (λi=>[(0,ax d),(13,.slice a E.moves.length c),(14,.int .i64 (E.moves.length:Int)),(15,.int .i64 (i:Int))])
   (λi w=>i<=E.moves.length/\Sat W0 (aE 1 (.slice a E.moves.length c) 143 E.moves.length vs::star (List.zipWith FD vs E.moves)::blk d 111 (bK z E)::bg ga z.bn (bM E.now)::bg ga z.bs (bM ((E.moves.take i).foldl gA E.safe))::star (E.nodes.map iD)::F) w) (λi=>E.moves.length-i) 0 ⟨rfl,rfl,rfl,rfl,Xr⟩ ⟨XR _,by rw[<- k];exact h⟩ ?_
  clear h;rintro i w ⟨P,h⟩;by_cases H:i<E.moves.length
  .have r:E.moves[i]?=some E.moves[i]:=Xq H;have p:vs[i]?=some vs[i]:=Xq (by omega);have e:=q _ (ZA H);have f:(E.moves.take (i+1)).foldl gA E.safe=gA ((E.moves.take i).foldl gA E.safe) E.moves[i]:=by
    rw[Zf H,Zq];rfl
   generalize E.moves[i]=m at *;generalize vs[i]=v at *;obtain⟨B,C,y⟩:=BQ FD p r;obtain⟨b,K,R,A,Q,S,T,t⟩:=h.iv (by omega);simp only[aao]at A;obtain⟨rfl,_,rfl⟩:=A;have g:(vs++R)[0+i*1]?=some v:=by rw[X0,YA,XH (by omega)];exact p
   refine go ?_;refine de (i:=i) rfl rfl rfl rfl rfl H rfl ?_;refine fF t rfl rfl .here g rfl ?_;rw[y]at h;have L:=(h.take dt).ie;refine go ?_;refine ak (met (FE (m:=z.bs) (kvs:=(E.moves.take i).foldl gA E.safe) (mvs:=m) (v:=v) (F:=star (B++C)::aE 1 (.slice (some ⟨b,0,none⟩) E.moves.length c) 143 E.moves.length vs::blk d 111 (bK z E)::bg ga z.bn (bM E.now)::star (E.nodes.map iD)::F) L.to e) ?_);rintro _ w ⟨rfl,h⟩;refine⟨_,rfl,go ?_⟩;refine az (i+1) ⟨rfl,rfl,rfl,rfl,Xr⟩ ⟨H,?_⟩ (by omega);have G:=(h.p7 dt (.there .here)).jG;rw[<- y]at G;rw[f];exact G.to
  .have:i=E.moves.length:=by omega
   subst this;rw[YD]at h;refine go ?_;refine bJ h λw h=>?_;refine go ?_;have M:Sat W0 (ma (.slice none 0 0) []::blk d 111 ((bK z E).set (0+2) (.slice none 0 0))::bg ga z.bn (bM E.now)::bg ga z.bs (bM (E.moves.foldl gA E.safe))::star (E.nodes.map iD)::F) w:=
    Sat.sV (vs:=[]) rfl (h.drop.drop.nP.ep)
   exact an rfl ⟨_,rfl,Sat.dG (z:=⟨z.bn,z.bs,.slice none 0 0⟩) o (M.iy.to)⟩
variable {room:Int}
theorem sW (a:0<=room) (h1:room<=2199023255552):(dI room).Ok:=
 ⟨λp h=>by simp[dI]at h,λp h=>by simp[dI]at h,λl H=>by simp[dI]at H,by simp[dI],by simp[dI],a,h1,by simp[dI],by simp[dI],by simp[dI],by simp[dI],by simp[dI,ad.used],λl H=>by simp[dI]at H⟩
def C8 (h:Sat W0 F w) (H:0<=room) (h1:room<=2199023255552):
 Calls prog 22 #[.int .i64 room] w λx w'=>∃d,x=.returned (ax d)/\Sat W0 (gn d (dI room)::F) w':=by
 refine enter func22 rfl ntmps22 results22 rfl ?_;refine go ?_;refine pB h rfl λw m h=>?_;refine pB (h.C5 ga) rfl λw M h=>?_;refine go ?_;refine cx [.map (some m),.map (some M),.slice none 0 0,.int .i64 room,.int .i64 0,.int .i64 0,.int .i64 0,.int .i64 0] ?_;refine eB (h.C5 ga) λw d h=>?_;refine go ?_;refine an rfl ⟨d,rfl,Sat.dG (z:=⟨m,M,.slice none 0 0⟩) (sW H h1) ?_⟩;have a:Sat W0 (ma (.slice none 0 0) []::star ((dI room).nodes.map iD)::_) w:=Sat.sV (vs:=[]) rfl (Sat.ep (Sat.nP (Sat.nP h)));exact a.to
