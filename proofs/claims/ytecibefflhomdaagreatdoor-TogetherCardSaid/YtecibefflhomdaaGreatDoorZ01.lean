/-
  Part 1: ; ; ; ; ; ; .
-/
import Derived.Test.YtecibefflhomdaaGreatDoorZ00
set_option maxHeartbeats 8000000
set_option maxRecDepth 100000
set_option linter.all false
abbrev Go.Proofs.YtecibefflhomdaaGreatDoor.Bs:=Xn UInt8
namespace Go.Proofs.YtecibefflhomdaaGreatDoor.Pure
open Go
def bA(N:Nat):Nat->Bs
 | 0=>[]
 | k+1=>UInt8.ofNat (N / 2^(8*k))::bA N k
@[simp] theorem aI(N:Nat):∀k,(bA N k).length=k
 | 0=>rfl
 | k+1=>by simp[bA,aI N k]
def aX(s:Bs):Bs:=UInt8.ofNat s.length::s
@[simp] theorem dP(s:Bs):(aX s).length=s.length+1:=rfl
def nS(c:Nat):Nat:=(c / 2^1) ^^^ ((c &&& 1)*3988292384%4294967296)
def iter(f:Nat->Nat):Nat->Nat->Nat
 | 0,c=>c
 | k+1,c=>iter f k (f c)
def AM(c:Nat)(x:UInt8):Nat:=iter nS 8 (c ^^^ x.toNat)
def kA(c:Nat)(bs:Bs):Nat:=bs.foldl AM c
def DH(bs:Bs):Nat:=4294967295-kA 4294967295 bs
variable {c:Nat}
def JO (h:c<4294967296):nS c<4294967296:=by
 have H:c / 2^1<2^32:=by omega
 exact aaK H (by grind)
def Cg:∀(k c:Nat),c<4294967296->iter nS k c<4294967296
 | 0,_,h=>h
 | k+1,c,h=>Cg k _ (JO h)
def AN(f:Nat->Nat):∀(k c:Nat),iter f (k+1) c=f (iter f k c)
 | 0,_=>rfl
 | k+1,c=>by show iter f _ (f c)=_;rw[AN f k _];rfl
def wc (h:c<4294967296) (x:UInt8):c ^^^ x.toNat<4294967296:=
 aaK (n:=32) h (YT x.toNat_lt (by simp))
def Mi (h:c<4294967296) (x:UInt8):AM c x<4294967296:=Cg 8 _ (wc h x)
def xG:∀(bs:Bs) {c:Nat},c<4294967296->kA c bs<4294967296
 | [],_,h=>h
 | x::r,_,h=>xG r (Mi h x)
def xH(c:Nat)(a b:Bs):kA c (a++b)=kA (kA c a) b:=by simp[kA]
def Gx(bs:Bs):DH bs<4294967296:=by unfold DH;omega
def aA(b:Bs):Bs:=bA b.length 4++bA (4294967295-b.length) 4++bA (DH b) 4++b
@[simp] theorem dM(b:Bs):(aA b).length=12+b.length:=by simp[aA];omega
structure ay where
 key:Bs
 val:Bs
 del:XN
 seq:Nat
deriving DecidableEq,Inhabited
def dz(e:ay):Bs:=aX e.key++bA e.seq 8++(if e.del then[255]else aX e.val)
structure Rd where
 rest:Bs
 bad:XN
def Rd.bytes(r:Rd)(n:Int):Bs×Rd:=
 if r.bad=true\/n<0\/(r.rest.length:Int)<n then([],⟨r.rest,true⟩)else(r.rest.take n.toNat,⟨r.rest.drop n.toNat,false⟩)
def my(bs:Bs):Nat:=bs.foldl (λn x=>n*256+x.toNat) 0
def Rd.num(r:Rd)(k:Nat):Nat×Rd:=(my (r.bytes k).1,(r.bytes k).2)
def Rd.text(r:Rd):Bs×Rd:=(r.num 1).2.bytes ((r.num 1).1:Int)
def Rd.entry(r:Rd):ay×Rd:=
 let a:=r.text
 let b:=a.2.num 8
 if b.2.rest.head?=some 255 then(⟨a.1,[],true,b.1⟩,(b.2.bytes 1).2)
 else(⟨a.1,b.2.text.1,false,b.1⟩,b.2.text.2)
def bF(b:Bs):XB (Bs×Bs):=
 let n:=Rd.num ⟨b,false⟩ 4
 let t:=n.2.num 4
 let s:=t.2.num 4
 if n.1≠4294967295-t.1 then none else
 let i:=s.2.bytes (n.1:Int)
 if i.2.bad=true\/DH i.1≠s.1 then none else some (i.1,i.2.rest)
def sB(a:Bs)(x:UInt8):my (a++[x])=my a*256+x.toNat:=by simp[my]
def DI:∀(bs:Bs) (n k:Nat),n<256^k->bs.foldl (λn x=>n*256+x.toNat) n<256^(k+bs.length)
 | [],n,k,h=>h
 | x::r,n,k,h=>by
  have a:=x.toNat_lt;have H:n*256+x.toNat<256^(k+1):=by omega
  have:=DI r _ _ H
  grind
def Ch(bs:Bs):my bs<256^bs.length:=by
 have:=DI bs 0 0 (by simp);rwa[X0]at this
def Rd.uJ(r:Rd)(n:Int):(r.bytes n).1.length<=n.toNat:=by
 unfold Rd.bytes;split
 .simp
 grind
def Rd.mG(r:Rd)(n:Int):(r.bytes n).2.rest.length<=r.rest.length:=by
 unfold Rd.bytes;split
 .grind
 grind
def Rd.Ci(r:Rd)(k:Nat):(r.num k).1<256^k:=
 YT (Ch (r.bytes k).1) (Zn (by simp) (by simpa using(r.uJ k)))
def Rd.jN(r:Rd)(k:Nat):(r.num k).2.rest.length<=r.rest.length:=r.mG k
def Rd.AO(r:Rd):r.text.2.rest.length<=r.rest.length:=Yh (Rd.mG _ _) (r.jN 1)
variable {κ α:Type}
def aB [DecidableEq κ]:Xn (κ×α)->κ->XB α
 | [],_=>none
 | (k,v)::r,x=>if x=k then some v else aB r x
def da [DecidableEq κ]:Xn (κ×α)->κ->α->Xn (κ×α)
 | [],x,u=>[(x,u)]
 | (k,v)::r,x,u=>if x=k then(x,u)::r else(k,v)::da r x u
def eO [DecidableEq κ]:Xn (κ×α)->κ->Xn (κ×α)
 | [],_=>[]
 | (k,v)::r,x=>if x=k then r else(k,v)::eO r x
section
variable{κ α β:Type}[DecidableEq κ]
def r9:∀(l:Xn (κ×α)) (x:κ) (u:α),aB (da l x u) x=some u
 | [],x,u=>by simp[da,aB]
 | (k,v)::r,x,u=>by
  unfold da;by_cases h:x=k
  .simp[h,aB]
  .simp[h,aB,r9 r x u]
def qj:∀(l:Xn (κ×α)) (x y:κ) (u:α),y≠x->aB (da l x u) y=aB l y
 | [],x,y,u,h=>by simp[da,aB,h]
 | (k,v)::r,x,y,u,h=>by
  unfold da;by_cases H:x=k
  .subst H;simp[aB,h]
  .simp[H,aB,qj r x y u h]
def df(l:Xn (κ×α))(x y:κ)(u:α):aB (da l x u) y=if y=x then some u else aB l y:=by
 by_cases h:y=x
 .subst h;simp[r9]
 .simp[h,qj l x y u h]
def eD:∀{l:Xn (κ×α)} {x:κ} {u:α},aB l x=some u->(x,u)∈l
 | (k,v)::r,x,u,h=>by
  unfold aB at h;by_cases H:x=k
  .grind
  .simp[H]at h;exact XQ _ (eD h)
def fc:∀{l:Xn (κ×α)} {x:κ},aB l x=none↔x ∉ l.map (·.1)
 | [],x=>by simp[aB]
 | (k,v)::r,x=>by
  unfold aB;by_cases h:x=k
  .grind
  .simp only[h,XP,XW,false_or];exact fc
def gz:∀{l:Xn (κ×α)} {x:κ} {u:α},(l.map (·.1)).Nodup->(x,u)∈l->aB l x=some u
 | (k,v)::r,x,u,H,h=>by
  simp only[XP,ZF]at H;unfold aB;rcases XW.1 h with h|h
  .grind
  .have:x≠k:=λe=>H.1 (by grind);simp[this];exact gz H.2 h
def DJ:∀(l:Xn (κ×α)) (x:κ) (u:α),(da l x u).map (·.1)=if x∈l.map (·.1)then l.map (·.1)else l.map (·.1)++[x]
 | [],x,u=>rfl
 | (k,v)::r,x,u=>by
  unfold da;by_cases h:x=k
  .grind
  .simp[h,DJ r x u]
   grind
def lb{l:Xn (κ×α)}(h:(l.map (·.1)).Nodup)(x:κ)(u:α):((da l x u).map (·.1)).Nodup:=by
 rw[DJ]
 grind
def qk:∀(l:Xn (κ×α)) (x:κ),(eO l x).Sublist l
 | [],_=>List.Sublist.refl _
 | (k,v)::r,x=>by
  unfold eO;by_cases h:x=k
  .grind
  .simp only[h];exact(qk r x).cons_cons _
def lf{l:Xn (κ×α)}(h:(l.map (·.1)).Nodup)(x:κ):((eO l x).map (·.1)).Nodup:=h.sublist ((qk l x).map _)
def kB:∀{l:Xn (κ×α)} (x y:κ),(l.map (·.1)).Nodup->aB (eO l x) y=if y=x then none else aB l y
 | [],x,y,_=>by simp[eO,aB]
 | (k,v)::r,x,y,h=>by
  simp only[XP,ZF]at h;unfold eO;by_cases a:x=k
  .subst a;by_cases b:y=x
   .subst b;simp;exact fc.2 h.1
   .simp[aB,b]
  .simp[a];unfold aB;by_cases H:y=k
   .grind
   .simp[H];exact kB x y h.2
def Ip{l:Xn (κ×α)}{x:κ}{u:α}{p:κ×α}(h:p∈da l x u):p=(x,u)\/p∈l:=by
 induction l with
 | nil=>simp[da]at h;exact .inl h
 | cons q r i=>
  unfold da at h
  grind
end
structure ad where
 now:Xn (Bs×Nat)
 safe:Xn (Bs×Nat)
 moves:Xn (Xn (Bs×XB Nat))
 nodes:Xn (Nat×(Bs×Nat))
 room:Int
 wait:Int
 bad:Int
 reads:Int
 most:Int
namespace ad
def aG(D:ad)(i:Nat):Bs:=match aB D.nodes i with|some x=>x.1|none=>[]
def used(D:ad):Nat:=(D.now.map λp=>(D.aG p.2).length).sum
structure Ok(D:ad):Prop where
 now:∀p∈D.now,(aB D.nodes p.2).isSome=true
 safe:∀p∈D.safe,(aB D.nodes p.2).isSome=true
 moves:∀l∈D.moves,∀p∈l,∀i,p.2=some i->(aB D.nodes i).isSome=true
 names:(D.now.map (·.1)).Nodup
 ids:(D.now.map (·.2)).Nodup
 room0:0<=D.room
 room1:D.room<=2199023255552
 wait0:0<=D.wait
 wait1:D.wait<=9223372036854775807
 bad0:0<=D.bad
 bad1:D.bad<=9223372036854775807
 used:D.used<=4398046511104
 short:∀l∈D.moves,l.length<1000
def eg(D:ad):XN:=decide (¬0<D.wait/\0<D.bad)
def tick(D:ad):ad:=if 0<D.wait then{ D with wait:=D.wait-1 }else if 0<D.bad then{ D with bad:=D.bad-1 }else D
def Ok.tick{D:ad}(h:D.Ok):D.tick.Ok:=by
 unfold ad.tick;have:=h.wait1;have:=h.bad1;split
 .exact⟨h.now,h.safe,h.moves,h.names,h.ids,h.room0,h.room1,by grind,by grind,h.bad0,h.bad1,h.used,h.short⟩
 .split
  .exact⟨h.now,h.safe,h.moves,h.names,h.ids,h.room0,h.room1,h.wait0,h.wait1,by grind,by grind,h.used,h.short⟩
  omega
@[simp] theorem dg(D:ad):D.tick.now=D.now:=by unfold tick;split<;>(try split)<;>rfl
@[simp] theorem JP(D:ad):D.tick.safe=D.safe:=by unfold tick;split<;>(try split)<;>rfl
@[simp] theorem lg(D:ad):D.tick.moves=D.moves:=by unfold tick;split<;>(try split)<;>rfl
@[simp] theorem fu(D:ad):D.tick.nodes=D.nodes:=by unfold tick;split<;>(try split)<;>rfl
@[simp] theorem gu(D:ad):D.tick.room=D.room:=by unfold tick;split<;>(try split)<;>rfl
@[simp] theorem Gy(D:ad):D.tick.reads=D.reads:=by unfold tick;split<;>(try split)<;>rfl
@[simp] theorem JQ(D:ad):D.tick.most=D.most:=by unfold tick;split<;>(try split)<;>rfl
@[simp] theorem lK(D:ad)(i:Nat):D.tick.aG i=D.aG i:=by unfold aG;rw[fu]
@[simp] theorem ow(D:ad):D.tick.used=D.used:=by simp[used]
end ad
def gA(m:Xn (Bs×Nat))(l:Xn (Bs×XB Nat)):Xn (Bs×Nat):=l.foldl (λm p=>match p.2 with|none=>eO m p.1|some i=>da m p.1 i) m
section
variable{κ α:Type}[DecidableEq κ]
def opt(f:α->Nat):XB α->Nat
 | none=>0
 | some x=>f x
def Mj:∀{l:Xn Nat} {x:Nat},x∈l->x<=l.sum
 | y::r,x,h=>by
  rw[aa4];rcases XW.1 h with h|h
  .omega
  .have:=Mj h;omega
def Cj(f:α->Nat):∀(l:Xn (κ×α)) (x:κ) (u:α),((da l x u).map λp=>f p.2).sum+opt f (aB l x)=(l.map λp=>f p.2).sum+f u
 | [],x,u=>by simp[da,aB,opt]
 | (k,v)::r,x,u=>by
  unfold da aB;by_cases h:x=k
  .simp[h,opt];omega
  .have:=Cj f r x u
   grind
def tb(f:α->Nat):∀(l:Xn (κ×α)) (x:κ),((eO l x).map λp=>f p.2).sum+opt f (aB l x)=(l.map λp=>f p.2).sum
 | [],x=>rfl
 | (k,v)::r,x=>by
  unfold eO aB;by_cases h:x=k
  .simp[h,opt];omega
  .have:=tb f r x
   grind
def xg[DecidableEq α]:∀{l:Xn (κ×α)},(l.map (·.1)).Nodup->((l.map (·.2)).Nodup↔∀x y i,aB l x=some i->aB l y=some i->x=y)
 | [],_=>by simp[aB]
 | (k,v)::r,b=>by
  simp only[XP,ZF]at b |-;rw[(xg b.2)];constructor
  .rintro⟨d,p⟩ x y i H a;unfold aB at H a;by_cases f:x=k<;>by_cases g:y=k
   .grind
   .simp[f]at H;subst H;simp[g]at a;exact XG (XA.2 ⟨_,eD a,rfl⟩) d
   .simp[g]at a;subst a;simp[f,XV]at H;exact XG (XA.2 ⟨_,eD H,rfl⟩) d
   grind
  .intro h;refine⟨λn=>?_,λx y i H a=>?_⟩
   .have⟨⟨x,u⟩,H,m⟩:=XA.1 n;simp at m;subst m;have j:x≠k:=λe=>b.1 (e▸XA.2 ⟨_,H,rfl⟩);exact j (h x k u (by unfold aB;simp only[j,XV];exact gz b.2 H) (by simp[aB]))
   .have d:∀z,aB r z=some i->z≠k:=λz o e=>b.1 (e▸XA.2 ⟨_,eD o,rfl⟩);exact h x y i (by unfold aB;simp[d x H,H]) (by unfold aB;simp[d y a,a])
def Iq{l:Xn (κ×α)}{x:κ}(h:aB l x=none)(u:α):da l x u=l++[(x,u)]:=by
 induction l with
 | nil=>rfl
 | cons q r i=>
  have⟨k,v⟩:=q;unfold aB at h;by_cases H:x=k
  .grind
  .simp[H]at h;simp[da,H,i h]
end
namespace ad
variable {D:ad} {n:Bs} {i:Nat}
def Ok.Ck (h:D.Ok) (H:aB D.now n=some i):∃x,aB D.nodes i=some x:=by
 have:=h.now _ (eD H);exact YU.1 this
def size_le (h:aB D.now n=some i):(D.aG i).length<=D.used:=by
 have:=eD h;exact Mj (by grind)
def created(D:ad)(n:Bs)(i:Nat):ad:={ D with nodes:=(i,([],0))::D.nodes,now:=gA D.now [(n,some i)],moves:=D.moves++[[(n,some i)]] }
def Ok.created (h:D.Ok) (u:aB D.nodes i=none) (t:aB D.now n=none):(D.created n i).Ok:=by
 have o:∀j,(aB D.nodes j).isSome=true->j≠i:=λj k e=>by grind
 have q:∀j,(aB D.nodes j).isSome=true->aB ((i,(([]:Bs),0))::D.nodes) j=aB D.nodes j:=λj k=>by simp[aB,o j k]
 have d:∀j,(aB D.nodes j).isSome=true->(aB ((i,(([]:Bs),0))::D.nodes) j).isSome=true:=λj k=>by grind
 have f:(D.created n i).now=D.now++[(n,i)]:=by simp[ad.created,gA,Iq t]
 refine⟨?_,λp H=>d _ (h.safe p H),?_,?_,?_,h.room0,h.room1,h.wait0,h.wait1,h.bad0,h.bad1,?_,?_⟩
 .intro p H;rw[f]at H;rcases Xy.1 H with H|H
  .exact d _ (h.now p H)
  .simp at H;subst H;simp[ad.created,aB]
 .intro l g p H j k;rcases Xy.1 g with g|g
  .exact d _ (h.moves l g p H j k)
  .simp at g;subst g;simp at H;subst H;simp at k;subst k;simp[ad.created,aB]
 .rw[f,XK,Yc];refine⟨h.names,by simp,λa s b r m=>?_⟩;simp at r;subst r;subst m;exact fc.1 t s
 .rw[f,XK,Yc];refine⟨h.ids,by simp,λa s b r m=>?_⟩;simp at r;subst r;subst m;obtain⟨p,H,rfl⟩:=XA.1 s;exact o _ (h.now p H) rfl
 .have:(D.created n i).used=D.used:=by
   unfold ad.used;rw[f,XK,ZU];have E:D.now.map (λp=>((D.created n i).aG p.2).length)=D.now.map λp=>(D.aG p.2).length:=by
    refine Y2 λp H=>?_;simp only[aG,ad.created,q _ (h.now p H)]
   rw[E];simp[aG,ad.created,aB]
  rw[this];exact h.used
 .intro l g;rcases Xy.1 g with g|g
  .exact h.short l g
  grind
def gS(D:ad)(n:Bs):ad:={ D with now:=gA D.now [(n,none)],moves:=D.moves++[[(n,none)]] }
def Ok.gS (h:D.Ok) (n:Bs):(D.gS n).Ok:=by
 have a:(D.gS n).now=eO D.now n:=rfl;have d:(eO D.now n).Sublist D.now:=qk _ _;refine⟨λp b=>h.now p (by grind),h.safe,?_,by rw[a];exact lf h.names n,by rw[a];exact h.ids.sublist (d.map _),h.room0,h.room1,h.wait0,h.wait1,h.bad0,h.bad1,?_,?_⟩
 .intro l H p b j f;rcases Xy.1 H with H|H
  .exact h.moves l H p b j f
  grind
 .have:=tb (λi=>(D.aG i).length) D.now n;have e:(D.gS n).used=((eO D.now n).map λp=>(D.aG p.2).length).sum:=rfl;have g:=h.used;unfold ad.used at g;omega
 .intro l H;rcases Xy.1 H with H|H
  .exact h.short l H
  grind
def renamed(D:ad)(a b:Bs)(i:Nat):ad:={ D with now:=gA D.now [(b,some i),(a,none)],moves:=D.moves++[[(b,some i),(a,none)]] }
def Ok.renamed (h:D.Ok) {a b:Bs} (w:a≠b) (v:aB D.now a=some i):(D.renamed a b i).Ok:=by
 have d:(D.renamed a b i).now=eO (da D.now b i) a:=rfl;have A:=h.now _ (eD v);have s:=lb h.names b i;have t:=lf s a;refine⟨?_,h.safe,?_,by rw[d];exact t,?_,h.room0,h.room1,h.wait0,h.wait1,h.bad0,h.bad1,?_,?_⟩
 .intro p g;rcases Ip ((qk _ _).subset g)with rfl|g
  .exact A
  .exact h.now p g
 .intro l H p g j z;rcases Xy.1 H with H|H
  .exact h.moves l H p g j z
  .simp at H;subst H;simp at g;rcases g with rfl|rfl
   .simp at z;subst z;exact A
   grind
 .rw[d,xg t];have f:=(xg h.names).1 h.ids;intro x y j r k;rw[kB _ _ s,df]at r k;by_cases u:x=a
  .grind
  by_cases m:y=a
  .simp[m]at k
  simp only[u,m,XV]at r k;by_cases o:x=b<;>by_cases q:y=b
  .rw[o,q]
  .simp[o]at r;subst r;simp only[q,XV]at k;exact XG (f y a i k v) m
  .simp[q]at k;subst k;simp only[o,XV]at r;exact XG (f x a i r v) u
  grind
 .have F:=Cj (λi=>(D.aG i).length) D.now b i;have B:=tb (λi=>(D.aG i).length) (da D.now b i) a;have C:aB (da D.now b i) a=some i:=by rw[df];simp[w,v]
  rw[C]at B;have e:(D.renamed a b i).used=((eO (da D.now b i) a).map λp=>(D.aG p.2).length).sum:=rfl;have E:=h.used;unfold ad.used at E;simp only[opt]at B;omega
 .intro l H;rcases Xy.1 H with H|H
  .exact h.short l H
  grind
def laid(D:ad)(i:Nat)(x:Bs×Nat):ad:={ D with nodes:=da D.nodes i x }
variable {x:Bs×Nat}
def uK {j:Nat} (h:(aB D.nodes j).isSome=true):(aB (D.laid i x).nodes j).isSome=true:=by
 simp[laid,df];split
 .rfl
 omega
def Ok.laid (h:D.Ok) (a:(D.laid i x).used<=4398046511104):(D.laid i x).Ok:=
 ⟨λp H=>uK (h.now p H),λp H=>uK (h.safe p H),λl b p H j d=>uK (h.moves l b p H j d),h.names,h.ids,h.room0,h.room1,h.wait0,h.wait1,h.bad0,h.bad1,a,h.short⟩
variable {k:Nat}
theorem Ir {f g:Nat->Nat} (H:∀j,j≠i->f j=g j) (a:f i=g i+k):∀{l:Xn (Bs×Nat)},(l.map (·.2)).Nodup->(l.map λp=>f p.2).sum<=(l.map λp=>g p.2).sum+k/\(i ∉ l.map (·.2)->(l.map λp=>f p.2).sum=(l.map λp=>g p.2).sum)
 | [],_=>by simp
 | (n,j)::r,h=>by
  simp at h;have⟨b,d⟩:=Ir H a h.2
  grind
def mz (h:D.Ok) (H:x.1.length=(D.aG i).length+k):(D.laid i x).used<=D.used+k:=
 (Ir (f:=λj=>((D.laid i x).aG j).length) (g:=λj=>(D.aG j).length) (i:=i) (λj a=>by simp[aG,laid,df,Xx a]) (by simp[aG,laid,df];exact H) h.ids).1
def synced(D:ad):ad:={ D with safe:=D.moves.foldl gA D.safe,moves:=[] }
def DK:∀(l:Xn (Bs×XB Nat)) (m:Xn (Bs×Nat)) (p:Bs×Nat),p∈gA m l->p∈m\/∃q∈l,q.2=some p.2
 | [],m,p,h=>.inl h
 | (n,o)::r,m,p,h=>by
  have a:p∈gA (match o with|none=>eO m n|some i=>da m n i) r:=by cases o<;>exact h
  rcases DK r _ p a with H|⟨q,b,d⟩
  .cases o with
   | none=>exact .inl ((qk m n).subset H)
   | some i=>
    rcases Ip H with rfl|H
    .simp_all
    grind
  grind
def Ok.synced (h:D.Ok):D.synced.Ok:=by
 have K:∀(M:Xn _) (m:Xn _),(∀p∈m,(aB D.nodes p.2).isSome=true)->(∀l∈M,∀p∈l,∀i,p.2=some i->(aB D.nodes i).isSome=true)->∀p∈M.foldl gA m,(aB D.nodes p.2).isSome=true:=by
  intro M
  induction M with
  | nil=>intro m a _;exact a
  | cons l e I=>
   intro m a H;refine I _ (λp b=>?_) λL d=>H L (by grind);rcases DK l m p b with f|⟨q,g,j⟩
   .grind
   grind
 exact⟨h.now,K _ _ h.safe h.moves,λl H=>by simp[ad.synced]at H,h.names,h.ids,h.room0,h.room1,h.wait0,h.wait1,h.bad0,h.bad1,h.used,λl H=>by simp[ad.synced]at H⟩
end ad
def aO:Bs->Bs->XN
 | _,[]=>false
 | [],_::_=>true
 | a::x,b::y=>decide (a<b)||(decide (a=b)&&aO x y)
def less(a b:ay):XN:=if a.key≠b.key then aO a.key b.key else decide (b.seq<a.seq)
def dQ(l:Xn ay)(e:ay):Nat->Nat->Nat->Nat
 | 0,L,_=>L
 | f+1,L,h=>if L<h then(if less (l.getD ((L+h) / 2) default) e=true then dQ l e f ((L+h) / 2+1) h else dQ l e f L ((L+h) / 2))else L
def aU(l:Xn ay)(e:ay):Nat:=dQ l e l.length 0 l.length
def sC(l:Xn ay)(e:ay):∀(f L H:Nat),L<=H->dQ l e f L H<=H/\L<=dQ l e f L H
 | 0,L,H,h=>⟨h,XD _⟩
 | f+1,L,H,h=>by
  unfold dQ;split
  .split
   .have:=sC l e f ((L+H) / 2+1) H (by omega);omega
   .have:=sC l e f L ((L+H) / 2) (by omega);omega
  omega
def o4(l:Xn ay)(e:ay):aU l e<=l.length:=(sC l e _ _ _ (by grind)).1
def jx(l:Xn ay)(e:ay):∀(f g L H:Nat),H-L<=f->H-L<=g->dQ l e f L H=dQ l e g L H
 | 0,0,_,_,_,_=>rfl
 | 0,g+1,L,H,h,_=>by unfold dQ;rw[Xx (by omega)]
 | f+1,0,L,H,_,h=>by unfold dQ;rw[Xx (by omega)]
 | f+1,g+1,L,H,h,a=>by
  unfold dQ;split
  .rw[jx l e f g _ H (by omega) (by omega),jx l e f g L _ (by omega) (by omega)]
  .rfl
def gq(l:Xn ay)(e:ay):Xn ay:=l.take (aU l e)++e::l.drop (aU l e)
@[simp] theorem ny(l:Xn ay)(e:ay):(gq l e).length=l.length+1:=by
 simp[gq];omega
def D:Nat->Nat->Xn UInt8
 | 0,_=>[]
 | k+1,n=>D k (n / 10)++[UInt8.ofNat (48+n%10)]
def lX:Nat->Nat->Nat
 | 0,_=>1
 | f+1,n=>if n<10 then 1 else lX f (n / 10)+1
def dec(n:Nat):Xn UInt8:=D (lX 20 n) n
def Is:∀k n,(D k n).length=k
 | 0,_=>rfl
 | k+1,n=>by simp[D,Is k]
def Cm:∀(k f n:Nat),k<=f->(10^k<=n\/k=0)->n<10^(k+1)->lX f n=k+1
 | 0,f,n,_,_,h=>by
  cases f with
  | zero=>rfl
  | succ f=>simp[lX];intro H;omega
 | k+1,f,n,a,b,H=>by
  cases f with
  | zero=>omega
  | succ f=>
   have:¬n<10:=by omega
   simp[lX,Xx this];rw[Cm k f _ (by omega) (by grind) (by omega)]
def Cn:∀(f n:Nat),n<10^(f+1)->n<10^lX f n
 | 0,n,h=>by simpa[lX]using h
 | f+1,n,h=>by
  unfold lX;split
  .simpa
  .have:=Cn f (n / 10) (by omega);omega
def Co:∀(k n:Nat),D (k+1) n=UInt8.ofNat (48+n / 10^k%10)::D k n
 | 0,n=>by simp[D]
 | k+1,n=>by
  show D _ _++[UInt8.ofNat _]=_;rw[(Co k _),YF,show 10*10^k=10^(k+1)by omega];rfl
def UB(k n x:Nat)(h:x=n / 10^k%100):D (k+2) n=UInt8.ofNat (48+x / 10)::UInt8.ofNat (48+x%10)::D k n:=by
 rw[Co _,Co k];have e:n / 10^(k+1)=n / 10^k / 10:=by rw[abk,<- YF]
 grind
def val(l:Xn UInt8):Nat:=l.foldl (λa c=>a*10+(c.toNat-48)) 0
def R3:∀k n,val (D k n)=n%10^k
 | 0,n=>by simp[D,val,Nat.mod_one]
 | k+1,n=>by
  have h:=R3 k (n / 10);unfold val at *;simp[D];have e:(UInt8.ofNat (48+n%10)).toNat=48+n%10:=by simp;omega
  have E:n%10^(k+1)=n / 10%10^k*10+n%10:=by
   rw[abk,abl,Nat.mod_mul];omega
  omega
variable {n:Nat}
def Iu (h:n<10^21):val (dec n)=n:=by
 rw[dec,R3,YY (Cn 20 n h)]
variable {m:Nat}
def Iv (H:n<10^21) (hm:m<10^21) (h:dec n=dec m):n=m:=by
 rw[<- Iu H,h,Iu hm]
def JR(bs:Bs):∀n,bs.foldl (λn x=>n*256+x.toNat) n=n*256^bs.length+my bs:=by
 induction bs with
 | nil=>intro n;simp[my]
 | cons x r i=>
  intro n;simp[my]at *
  grind
def Mk(x:UInt8)(bs:Bs):my (x::bs)=x.toNat*256^bs.length+my bs:=by
 have:=JR bs (0*256+x.toNat);simp[my]at *
 grind
def xI(N:Nat):∀k,my (bA N k)=N%256^k
 | 0=>by simp[bA,my,Nat.mod_one]
 | k+1=>by
  rw[bA,Mk,xI N k,aI];have e:(UInt8.ofNat (N / 2^(8*k))).toNat=N / 256^k%256:=by
   rw[show(2:Nat)^(8*k)=256^k by rw[Nat.pow_mul]];simp
  rw[e,abk,Nat.mod_mul,abl _];omega
variable {a:Bs}
def rj {rest:Bs} {n:Int} (h:n=(a.length:Int)):Rd.bytes ⟨a++rest,false⟩ n=(a,⟨rest,false⟩):=by
 subst h;rw[Rd.bytes,Xx (by grind)];simp
def nz{N k:Nat}(h:N<256^k)(rest:Bs):Rd.num ⟨bA N k++rest,false⟩ k=(N,⟨rest,false⟩):=by
 rw[Rd.num,rj (by simp),xI,YY h]
def ql{s:Bs}(h:s.length<=255)(rest:Bs):Rd.text ⟨aX s++rest,false⟩=(s,⟨rest,false⟩):=by
 unfold Rd.text;have e:aX s++rest=bA s.length 1++(s++rest):=by simp[aX,bA]
 rw[e,nz (by omega)];exact rj rfl
def bX(e:ay):ay:=if e.del=true then{ e with val:=[] }else e
@[simp] theorem mA(e:ay):(bX e).key=e.key:=by unfold bX;split<;>rfl
@[simp] theorem uL(e:ay):(bX e).seq=e.seq:=by unfold bX;split<;>rfl
@[simp] theorem AP(e:ay):(bX e).del=e.del:=by unfold bX;split<;>rfl
@[simp] theorem Gz(e:ay):bX (bX e)=bX e:=by
 unfold bX;split<;>simp_all
@[simp] theorem AQ(e:ay):dz (bX e)=dz e:=by
 unfold bX;split<;>simp_all [dz]
structure qm(e:ay):Prop where
 key:e.key.length<=8
 val:e.del=false->e.val.length<=16
 seq:e.seq<18446744073709551616
 kne:e.key≠[]
variable {e:ay}
def qm.norm (h:qm e):qm (bX e):=⟨by simpa using h.key,λb=>by
 have H:e.del=false:=by simpa using b
 have:bX e=e:=by unfold bX;simp[H]
 rw[this];exact h.val H,by simpa using h.seq,by simpa using h.kne⟩
def JS (h:qm e) (rest:Bs):Rd.entry ⟨dz e++rest,false⟩=(bX e,⟨rest,false⟩):=by
 have f:=h.key;have E:dz e++rest=aX e.key++(bA e.seq 8++((if e.del then[255]else aX e.val)++rest)):=by simp[dz]
 rw[Rd.entry,E];simp only[ql (s:=e.key) (by omega),nz (k:=8) h.seq];cases H:e.del with
 | true=>
  simp;rw[show(255:UInt8)::rest=[255]++rest from rfl,rj (by simp)];simp[bX,H]
 | false=>
  have g:=h.val H;simp only[XM,XV];have b:(aX e.val++rest).head?≠some 255:=by
   simp[aX];intro d;have:(UInt8.ofNat e.val.length).toNat=255:=by rw[d];rfl
   simp at this;omega
  rw[Xx b,ql (by omega)];simp[bX,H,XV];rw[<- H]
variable {b:Bs}
def uM (h:b.length<4294967296) (rest:Bs):bF (aA b++rest)=some (b,rest):=by
 have E:aA b++rest=bA b.length 4++(bA _ 4++(bA _ 4++(b++rest))):=rfl;rw[bF,E];simp only[nz (k:=4) h,nz (N:=4294967295-b.length) (k:=4) (by omega),nz (k:=4) (Gx b)];rw[Xx (by omega),rj rfl];simp
def AR:bF []=none:=by decide
def DL(e:ay):10<=(dz e).length:=by
 unfold dz;split<;>simp<;>omega
def Iw (h:qm e):(dz e).length<=34:=by
 have d:=h.key;unfold dz;cases H:e.del
 .have f:=h.val H;simp;omega
 .simp;omega
def Ml{r:Rd}(e:ay)(rest:Bs)(h:r=⟨dz e++rest,false⟩):r.rest≠[]:=by
 subst h;intro h;have:=DL e;simp at h;rw[h.1]at this;simp at this
def aP:∀a:Bs,aO a a=false
 | []=>rfl
 | a::x=>by simp[aO,aP x]
def dR:∀{a b c:Bs},aO a b=true->aO b c=true->aO a c=true
 | [],[],_,h,_=>by omega
 | [],_::_,[],_,k=>by simp[aO]at k
 | [],_::_,_::_,_,_=>rfl
 | _::_,[],_,h,_=>by simp[aO]at h
 | _::_,_::_,[],_,k=>by simp[aO]at k
 | a::x,b::y,c::z,h,k=>by
  simp[aO,UInt8.lt_iff_toNat_lt,<- abr]at *;rcases h with h|⟨h,H⟩<;>rcases k with k|⟨k,K⟩
  .omega
  .exact .inl (by omega)
  .exact .inl (by omega)
  .exact .inr ⟨by omega,dR H K⟩
def cX (h:aO a b=true):aO b a=false:=by
 cases H:aO b a with
 | false=>rfl
 | true=>have:=dR h H;rw[aP]at this;cases this
def eP:∀(a b:Bs),aO a b=true\/a=b\/aO b a=true
 | [],[]=>.inr (.inl rfl)
 | [],_::_=>.inl rfl
 | _::_,[]=>.inr (.inr rfl)
 | a::x,b::y=>by
  have i:=eP x y;simp[aO]
  grind
def o5 (h:aO a b=true):a≠b:=λe=>by subst e;rw[aP]at h;cases h
def DN(a:Bs):aO a []=false:=by cases a<;>rfl
def sa {c:Bs} (h:aO b a=false) (k:aO b c=true):aO a c=true:=by
 rcases eP a b with H|H|H
 .exact dR H k
 .grind
 grind
def sD {c:Bs} (h:aO a b=true) (k:aO c b=false):aO a c=true:=by
 rcases eP b c with H|H|H
 .exact dR h H
 .grind
 grind
def uN {c:Bs} (h:aO b a=false) (k:aO c b=false):aO c a=false:=by
 cases H:aO c a with
 | false=>rfl
 | true=>have:=sD H h;rw[k]at this;cases this
def tc (h:aO a b=false) (k:aO b a=false):a=b:=by
 rcases eP a b with H|H|H
 .grind
 .omega
 grind
def bZ{a b:ay}:less a b=true↔aO a.key b.key=true\/(a.key=b.key/\b.seq<a.seq):=by
 unfold less;by_cases h:a.key=b.key
 .simp[h,aP]
 grind
def lL(a:ay):less a a=false:=by
 cases h:less a a with
 | false=>rfl
 | true=>rcases bZ.1 h with H|H
         .rw[aP]at H;cases H
         .omega
def mH{a b c:ay}(h:less a b=true)(k:less b c=true):less a c=true:=by
 rw[bZ]at *;rcases h with h|⟨h,H⟩<;>rcases k with k|⟨k,K⟩
 .exact .inl (dR h k)
 .grind
 .grind
 grind
def GA(a b:ay):less a b=true\/(a.key=b.key/\a.seq=b.seq)\/less b a=true:=by
 rw[bZ,bZ];rcases eP a.key b.key with h|h|h
 .grind
 .grind
 grind
def GB{a b:ay}(h:less a b=true):less b a=false:=by
 cases H:less b a with
 | false=>rfl
 | true=>have:=mH h H;rw[lL]at this;cases this
abbrev iz(l:Xn ay):Prop:=l.Pairwise λa b=>less a b=true
variable {l:Xn ay}
def Cp (hl:iz l):∀(f L hi:Nat),hi-L<=f->hi<=l.length->L<=hi ->
 (∀i,i<L->less (l.getD i default) e=true)->(∀i,hi<=i->i<l.length->less (l.getD i default) e=false) ->
 (∀i,i<dQ l e f L hi->less (l.getD i default) e=true)/\(∀i,dQ l e f L hi<=i->i<l.length->less (l.getD i default) e=false):=by
 intro f
 induction f with
 | zero=>
  intro L hi t r u g k;have:L=hi:=by omega
  subst this;exact⟨g,k⟩
 | succ f I=>
  intro L hi t r u g k;unfold dQ;split
  .rename_i v;have w:(L+hi) / 2<l.length:=by omega
   have d:∀i j,i<j->j<l.length->less (l.getD i default) (l.getD j default)=true:=λi j o s=>by
    have:=aaa.1 hl i j (by omega) s o;simpa[List.getD,Xq (show i<l.length by omega),Xq s]using this
   split
   .rename_i H;refine I _ _ (by omega) r (by omega) (λi p=>?_) k;rcases X8 i ((L+hi) / 2)with h|h
    .exact mH (d i _ h w) H
    .have:i=(L+hi) / 2:=by omega
     subst this;exact H
   .rename_i H;have H:less (l.getD ((L+hi) / 2) default) e=false:=by simpa using H
    refine I _ _ (by omega) (by omega) (by omega) g λi p q=>?_;rcases X8 ((L+hi) / 2) i with h|h
    .have x:=d _ i h q;cases y:less (l.getD i default) e with
     | false=>rfl
     | true=>rw[mH x y]at H;cases H
    .have:i=(L+hi) / 2:=by omega
     subst this;exact H
  grind
theorem td (hl:iz l):
 (∀ x∈l.take (aU l e),less x e=true)/\(∀ x∈l.drop (aU l e),less x e=false):=by
 have⟨f,g⟩:=Cp (e:=e) hl l.length 0 l.length (by omega) (by grind) (by grind) (fun i h=>by omega) (fun i h j=>by omega);constructor
 ·intro x d;have⟨i,H⟩:=List.mem_iff_getElem?.1 d;rw[List.getElem?_take] at H;split at H
  ·rename_i hlt;have:=f i hlt
   grind
  grind
 ·intro x d;have⟨i,H⟩:=List.mem_iff_getElem?.1 d;unfold aU at H
  grind
def kC {x:ay}:x∈gq l e↔x=e\/x∈l:=by
 rw[gq,Xy,XW]
 conv=>rhs;rw[<- X9 (aU l e) l,Xy]
 constructor
 .grind
 .grind
def qn (hl:iz l) (d:∀x∈l,¬(x.key=e.key/\x.seq=e.seq)):iz (gq l e):=by
 have⟨f,g⟩:=td (e:=e) hl;rw[<- (X9 (aU l e) l)]at hl;have⟨p,P,i⟩:=X7.1 hl;refine X7.2 ⟨p,X1.2 ⟨λx H=>?_,P⟩,λx H y j=>?_⟩
 .rcases GA e x with h|h|h
  .omega
  .grind
  grind
 grind
def jL(l:Xn ay)(k:Bs)(m:Nat):XB ay:=l.find? λe=>decide (e.key=k)&&decide (e.seq<=m)
variable {k:Bs}
def iA (h:jL l k m=some e):e∈l/\e.key=k/\e.seq<=m:=by
 have H:=List.find?_some h;simp at H;exact⟨List.mem_of_find?_eq_some h,H.1,H.2⟩
def eE:jL l k m=none↔∀e∈l,e.key=k->m<e.seq:=by
 rw[jL,List.find?_eq_none]
 grind
def rk (hl:iz l) (h:jL l k m=some e):∀x∈l,x.key=k->x.seq<=m->x.seq<=e.seq:=by
 induction l with
 | nil=>intro x H;cases H
 | cons a r i=>
  have⟨p,P⟩:=X1.1 hl;intro x H f j;rw[jL,abt]at h;split at h
  .rename_i g;simp at g;cases h;rcases XW.1 H with rfl|H
   .omega
   .rcases bZ.1 (p x H)with d|d
    .rw[f,g.1,aP]at d;cases d
    omega
  .rcases XW.1 H with rfl|H
   .grind
   .exact i P h x H f j
def xJ (hl:iz l) (h1:e∈l) (g:e.key=k) (p:e.seq<=m) (r:∀x∈l,x.key=k->x.seq<=m->x.seq<=e.seq):jL l k m=some e:=by
 cases H:jL l k m with
 | none=>have:=eE.1 H e h1 g;omega
 | some x=>
  have⟨A,s,t⟩:=iA H;have B:=rk hl H e h1 g p;have:x=e:=by
   rcases Zb.1 A with⟨i,o,rfl⟩;rcases Zb.1 h1 with⟨j,d,rfl⟩;have q:∀i j _ (d:j<l.length),i<j->l[i].key=l[j].key->l[i].seq=l[j].seq->False:=λi j o d f E u=>by
    rcases bZ.1 (aaa.1 hl i j o d f)with h|h
    .rw[E,aP]at h;cases h
    omega
   grind
  grind
