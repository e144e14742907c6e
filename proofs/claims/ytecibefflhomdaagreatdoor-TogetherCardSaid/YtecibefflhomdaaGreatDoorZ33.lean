/-
  Part 33: WALKS package rows; ; ; .
-/
import Derived.Test.YtecibefflhomdaaGreatDoorZ32
import Derived.RangeFuncLeaves
set_option maxHeartbeats 8000000
set_option maxRecDepth 100000
set_option linter.all false
namespace Go.Proofs.YtecibefflhomdaaGreatDoor
open Go Proofs.Tryz
section
variable[Bs0:Base][NQ]
open Pure (ay less aO aU dQ gq o4 jx ny)
attribute [local irreducible] IntKind.wrap
section
variable{ops:Xv Yf}{Q:YL->Act->Xo->Prop}{n:Nat}{ds:Md}{e:Env}{w w':Xo}{rest:Xn Yf}{ord:Xn (Nat×XN)}
variable{op:Op}{ty:XO}{pos:YG}{af:Xv Edge}{d i:Nat}{v u:Xp}{W0:Xo}{l l' r r':Xn ae}
variable {x:XZ} {t:Nat}
theorem Re {T N:Nat} {X:Int} (h:ev e x=some (.int .i64 X)) (H:X=(N:Int)) (k:N<=9223372036854775807) (b:Nat.blt d n=true) (kk:WL ops Q n ds rest ((d,.int .i64 ((N / 2:Nat):Int))::e) w):WL ops Q n ds (⟨some d,.binOp .quo t x (.const (.int .i64 2)) T,ty,pos,af,none⟩::rest) e w:=by
 subst H;refine ey (λw a c E=>?_) b kk;have f:IntKind.i64.wrap ((N:Int) / 2)=(N:Int) / 2:=wrap_i64 (by omega) (by omega);have g:=c.ev h;have j:a.eval (.const (.int .i64 2))=.int .i64 2:=rfl;simp[execOp,g,j,eqGuard,Go.binOp,Op.intDiv,f]
variable {y:XZ} {E k b o:Nat}
theorem Rf {F G D I B o2 sl S:Nat} {sh:Bool} {all cs:List Value} (news:List Value) (H:Sat W0 l w) (p:ev e x=some (.slice (some ⟨b,o,none⟩) D I)) (q:ev e y=some (.slice (some ⟨B,o2,none⟩) sl S)) (s:lk dK t=some E) (hsz:lk cY E=some k) (iB:Take (ob sh B (.cells all.toArray G (0,0))) l r) (hsrc:iZ all o2 news) (hlen:news.length=min sl D*k) (h1:∀ u∈news,dk u=true) (T:mR l (blk b E cs) (blk b E (dL cs o news)) l') (hfit:o+news.length<=cs.length) (J:Nat.blt d n=true) (kk:∀ w',Sat W0 l' w'->WL ops Q n ds rest ((d,.int .i64 ((min sl D:Nat):Int))::e) w') (K:Nat.beq E 133=false:=by rfl):
 WL ops Q n ds (⟨some d,.call { callee:=.builtin .copy,args:=#[x,y],argTypes:=#[t,F] },ty,pos,af,none⟩::rest) e w:=jk (fun w hry=>by
 have H:=H.ry hry;obtain⟨R,t1,t2⟩:=T.take;have c:=sN H T (sO H t1 (List.all_eq_true.2 h1) hfit) (sM hfit);refine⟨.int .i64 ((min sl D:Nat):Int),w.setRow b (dL cs o news).toArray,fun a g=>?_,kk _ c⟩;have z:=run_loadCells_list (P:=Tryz.prog) w ⟨B,o2,none⟩ news (fun j v f=>by rw[add_eq,H.cell iB];exact hsrc.at j v f);have hst:=run_storeCells_at Tryz.prog b o E news 0 cs.toArray w (H.at t1) (by simpa using hfit) (fun v m=>(km (h1 v m)).2);obtain⟨i,A,rfl⟩:=pq hsz;have C:Nat.min sl D*i.size=news.length:=hlen.symm;have hlk:=jl (w:=w) (a:=⟨B,o2,none⟩) (vs:=news) (fun j v f=>by rw[add_eq,H.cell iB];exact⟨hsrc.at j v f,H.UO iB (by simpa using hsrc.at j v f) (cE (h1 v (List.mem_of_getElem? f)))⟩);refine .of ?_ (fun ev hev=>?_) (H.kU c rB)
 ·simp only[execOp,resolve,List.map_toArray,List.map_cons,List.map_nil,g.ev p,g.ev q,invoke,Go.builtin,Sem.run_bind,Sem.run_pure,Result.andThen_ok];simp[Builtin.copy_,bx (bw s),Builtin.lenOf,Builtin.firstCells,sizeOf,typeInfo,A,C,z,hst,dL,goInt]
 ·simp only[execOp,resolve,List.map_toArray,List.map_cons,List.map_nil,g.ev p,g.ev q,invoke,Go.builtin,Sem.run_bind,Sem.events_bind,Sem.run_pure,Sem.events_pure,Result.andThen_ok,Result.evThen_ok] at hev;simp[Builtin.copy_,bx (bw s),Builtin.lenOf,Builtin.firstCells,sizeOf,typeInfo,A,C,z,hst,dL,goInt] at hev;rcases iX (b:=b) (o:=o) news 0 cs.toArray w _ (H.at t1) (by simpa using hfit) (fun v m=>(km (h1 v m)).2) ev hev with h|⟨j,_,_,rfl⟩
  ·rcases hlk.events _ ev h with h|h
   ·simp at h
   ·exact h
  ·exact H.UP t1 (rC K _)) J
variable {lo hi:XB XZ} {len cap:Nat}
theorem Jk {D:XB Nat} {a:Act} {W:Xo} (l' h':Nat) (f:Fr n ds e a) (g:ev e x=some (.slice (some ⟨b,o,none⟩) len cap)) (q:lk dK t=some E) (H:lk cY E=some k) (c:match lo with|none=>l'=0|some y=>ev e y=some (.int .i64 (l':Int))) (h:match hi with|none=>h'=len|some y=>ev e y=some (.int .i64 (h':Int))) (h1:l'<=h') (p:h'<=cap):aR (execOp a.eval ⟨D,.slice t x lo hi none,ty,pos,af,none⟩) W (.value (.slice (some (cutAt b o cap l' k)) (h'-l') (cap-l'))):=by
 refine Still.look λs=>?_;have j:=bw q;have m:(if cap=l' then(some ⟨b,o,none⟩:XB YO)else Option.map (λx:YO=>x.add (l'*k)) (some (⟨b,o,none⟩:YO)))=some (cutAt b o cap l' k):=by
  unfold cutAt;split<;>simp[add_eq]
 have C:(l':Int)<=h':=by omega
 have A:(h':Int)<=cap:=by omega
 cases lo with
 | none=>
  simp only at c;subst c;cases hi with
  | none=>simp only at h;subst h;simp[execOp,f.ev g,Instr.sliceAt,Instr.slice,bx j,db H,Instr.sliceBounds,<- m]
  | some y=>simp[execOp,f.ev g,f.ev h,Instr.sliceAt,Instr.slice,bx j,db H,Instr.sliceBounds,Instr.sliceBound,asIntOf,p,<- m]
 | some z=>
  cases hi with
  | none=>simp only at h;subst h;simp[execOp,f.ev g,f.ev c,Instr.sliceAt,Instr.slice,bx j,db H,Instr.sliceBounds,Instr.sliceBound,asIntOf,h1,<- m]
  | some y=>simp[execOp,f.ev g,f.ev c,f.ev h,Instr.sliceAt,Instr.slice,bx j,db H,Instr.sliceBounds,Instr.sliceBound,asIntOf,h1,p,<- m]
variable {S:Xo->Prop}
def De (l' h':Nat) (f:ops[i]?=some ⟨some d,.slice t x lo hi none,ty,pos,af,none⟩) (g:ev e x=some (.slice (some ⟨b,o,none⟩) len cap)) (j:lk dK t=some E) (h:lk cY E=some k) (H:match lo with|none=>l'=0|some y=>ev e y=some (.int .i64 (l':Int))) (c:match hi with|none=>h'=len|some y=>ev e y=some (.int .i64 (h':Int))) (h1:l'<=h') (m:h'<=cap) (p:Nat.blt d n=true) (kk:WO ops Q S n ds ord ((d,.slice (some (cutAt b o cap l' k)) (h'-l') (cap-l'))::e) w):WO ops Q S n ds ((i,false)::ord) e w:=
 KP f (λa w' q _=>Jk l' h' q g j h (by cases lo<;>exact H) (by cases hi<;>exact c) h1 m) p kk
theorem sY {c j:Nat} {Y:Int} (g:ops[i]?=some ⟨some d,.indexAddr t x y,ty,pos,af,none⟩) (m:ev e x=some (.slice (some ⟨b,o,none⟩) len c)) (p:ev e y=some (.int .i64 Y)) (q:Y=(j:Int)) (s:lk dK t=some E) (h:lk cY E=some k) (h1:j<len) (z:Nat.blt d n=true) (kk:WO ops Q S n ds ord ((d,.pointer (some ⟨b,o+j*k,none⟩))::e) w):WO ops Q S n ds ((i,false)::ord) e w:=by
 subst q;refine KP g (λa w' f _=>Still.look λC=>?_) z kk;have A:(0:Int)<=(j:Int):=by omega
 have H:(j:Int)<(len:Int):=by omega
 have B:¬len<=j:=by omega
 simp[execOp,f.ev m,f.ev p,Instr.indexAt,asIntOf,bx (bw s),db h,A,H,B,add_eq]
end
theorem mr:∀a b:Bs,aO a b=wZ a b
 | _,[]=>by simp[aO,wZ]
 | [],_::_=>rfl
 | a::x,b::y=>by simp only[aO,wZ,mr x y]
variable {cs:Xn Xp} {o:Nat}
theorem iZ.app {rest:List Value}:∀ {vs:List Value},iZ cs o vs->iZ (cs++rest) o vs:=by
 intro vs
 induction vs generalizing o with
 | nil=>intro _;trivial
 | cons v r i=>intro⟨h,H⟩;exact⟨by rw[List.getElem?_append_left (List.getElem?_eq_some_iff.1 h).1];exact h,i H⟩
theorem iZ.pre (pre:List Value):∀ {vs:List Value},iZ cs o vs->iZ (pre++cs) (pre.length+o) vs:=by
 intro vs
 induction vs generalizing o with
 | nil=>intro _;trivial
 | cons v r i=>intro⟨h,H⟩;exact⟨by rw[List.getElem?_append_right (by omega),Nat.add_sub_cancel_left];exact h,by have:=i H;rwa[<- Nat.add_assoc] at this⟩
variable {k:Nat}
theorem qX:∀{rows:Xn (Xn Xp)},(∀r∈rows,r.length=k)->rows.flatten.length=rows.length*k
 | [],_=>by simp
 | r::rows,h=>by
  rw[Yd,Xu,h r XC,qX λx H=>h x (XQ _ H),X5,aa0,Nat.one_mul,abn]
def ng:∀{rows:Xn (Xn Xp)} {i:Nat} {r:Xn Xp},(∀r∈rows,r.length=k)->rows[i]?=some r->iZ rows.flatten (i*k) r
 | r0::rows,0,r,_,H=>by
  simp at H;subst H;rw[Yd,Nat.zero_mul];exact(iZ.all r0).app
 | r0::rows,i+1,r,h,H=>by
  have:=ng (i:=i) (λx b=>h x (XQ _ b)) (by simpa using H);have a:=iZ.pre r0 this;rw[h r0 XC]at a;rw[Yd,aa0,Nat.one_mul,abn];exact a
def aV(l:Xn ay):Xn (Xn Xp):=l.map aD
@[simp] theorem mw(l:Xn ay):(aV l).length=l.length:=by simp[aV]
theorem jY(l:Xn ay):∀r∈aV l,r.length=4:=λr h=>by obtain⟨e,_,rfl⟩:=XA.1 h;rfl
abbrev kW(v:Xp)(l:Xn ay):ae:=aE 4 v 256 l.length (aV l).flatten
def aZ(m:Nat)(l:Xn ay):ae:=λh=>∃v,cj [blk m 120 [v],kW v l] h
variable{W0 w:Xo}{F:Xn ae}{v:Xp}{m:Nat}{l:Xn ay}
theorem Sat.xA(h:Sat W0 (aZ m l::F) w):∃v,Sat W0 (blk m 120 [v]::kW v l::F) w:=by
 obtain⟨v,_,H⟩:=h.gD (φ:=λ_:Xp=>True) (B:=λv=>[blk m 120 [v],kW v l]) λa ⟨v,k⟩=>⟨v,Xr,k⟩;exact⟨v,H⟩
theorem Sat.nh(h:Sat W0 (blk m 120 [v]::kW v l::F) w):Sat W0 (aZ m l::F) w:=Sat.close (B:=[blk m 120 [v],kW v l]) h λH k=>⟨v,k⟩
def BR{a b:ay}(c:Sat W0 F w):Calls prog 215 #[.agg (aD a).toArray,.agg (aD b).toArray] w λx w'=>x=.returned (.bool (less a b))/\Sat W0 F w':=by
 refine enter func215 rfl ntmps215 results215 rfl ?_;refine go ?_;refine eB (z:=aD a) c λw B c=>?_;refine eB (z:=aD b) c λw e c=>?_;unfold less;by_cases d:a.key=b.key
 .have H:¬a.key≠b.key:=λh=>h d;rw[Xx H];refine go ?_;exact an rfl ⟨by show Ending.returned (.bool (decide ((b.seq:Int)<(a.seq:Int))))=_;rw[decide_eq_decide.2 (show((b.seq:Int)<(a.seq:Int))↔b.seq<a.seq by omega)],c.to⟩
 .have H:a.key≠b.key:=d;rw[XE H,mr];refine go ?_;exact an rfl ⟨rfl,c.to⟩
theorem Sat.zg(h:Sat W0 (kW v l::F) w):∃a c,v=.slice a l.length c/\l.length<=9223372036854775807:=by
 obtain⟨a,c,H,d,b⟩:=h.aC;exact⟨a,c,H,by simp only[maxLen]at b;omega⟩
def FO(h:Sat W0 (aZ m l::F) w):Calls prog 98 #[ax m] w λx w'=>x=.returned (.int .i64 (l.length:Int))/\Sat W0 (aZ m l::F) w':=by
 obtain⟨v,h⟩:=h.xA;obtain⟨a,c,rfl,-⟩:=(h.take dt).zg;refine enter func98 rfl ntmps98 results98 rfl ?_;refine go ?_;exact an rfl ⟨rfl,h.nh⟩
def wL{e:ay}(H:Sat W0 (aZ m l::F) w)(E:l.length<=1099511627776):Calls prog 198 #[ax m,.agg (aD e).toArray] w λx w'=>x=.returned (.int .i64 (aU l e:Int))/\Sat W0 (aZ m l::F) w':=by
 obtain⟨v,H⟩:=H.xA;obtain⟨a,c,rfl,t⟩:=(H.take dt).zg;refine enter func198 rfl ntmps198 results198 rfl ?_;refine go ?_;refine eB (z:=aD e) H λw B H=>?_;refine go ?_;refine bU [blk m 120 [.slice a l.length c]] [(0,false),(1,false),(2,false),(3,false),(4,false),(5,false),(6,false)] H (by kernel_rfl) λw H=>?_;refine go ?_;refine aL (α:=Nat×Nat) (λz=>[(0,ax m),(3,ax B),(5,.int .i64 (z.1:Int)),(6,.int .i64 (z.2:Int))])
  (λz w=>(z.1<=z.2/\z.2<=l.length/\dQ l e l.length z.1 z.2=aU l e)/\Sat W0 (blk B 256 (aD e)::blk m 120 [.slice a l.length c]::kW (.slice a l.length c) l::F) w) (λz=>z.2-z.1) (0,l.length) ⟨rfl,rfl,rfl,rfl,Xr⟩ ⟨⟨XR _,XD _,rfl⟩,H.to⟩ ?_
 clear H;rintro⟨lo,h⟩ w ⟨⟨G,y,g⟩,H⟩;dsimp only at G y g H |-;by_cases n:lo<h
 .have d:(lo+h) / 2<l.length:=by omega
  have i:dQ l e l.length lo h=if less l[(lo+h) / 2] e=true then dQ l e l.length ((lo+h) / 2+1) h else dQ l e l.length lo ((lo+h) / 2):=by
   obtain⟨f,A⟩:∃f,l.length=f+1:=⟨l.length-1,by omega⟩;rw[A,dQ,XE n,show l.getD ((lo+h) / 2) default=l[(lo+h) / 2]from by simp[List.getD,d]];rw[jx l e f (f+1) ((lo+h) / 2+1) h (by omega) (by omega),jx l e f (f+1) lo ((lo+h) / 2) (by omega) (by omega)]
  refine go ?_;refine Re (N:=lo+h) rfl (by omega) (by omega) rfl ?_;refine go ?_;obtain⟨b,I,R,C,Q,J,K,s⟩:=(H.take iB).iv (by omega);simp only[aao]at C;obtain⟨rfl,_,rfl⟩:=C;have p:iZ ((aV l).flatten++R) (0+(lo+h) / 2*4) (aD l[(lo+h) / 2]):=by
   rw[X0];exact(ng (jY l) (by simp[aV,d])).app
  refine bU (l:=blk b 256 ((aV l).flatten++R)::blk B 256 (aD e)::blk m 120 [.slice (some ⟨b,0,none⟩) l.length c]::F) [blk b 256 ((aV l).flatten++R),blk B 256 (aD e),blk m 120 [.slice (some ⟨b,0,none⟩) l.length c]] [(0,false),(1,false),(2,false),(3,false),(4,false),(5,false),(6,false),(7,false),(8,true)] s (by kernel_rfl) λw H=>?_;refine go ?_;refine sY (j:=(lo+h) / 2) rfl rfl rfl rfl rfl rfl d rfl ?_;refine ia (aD l[(lo+h) / 2]) rfl rfl rfl rfl .here p rfl ?_;refine go ?_;refine ak (met (BR (a:=l[(lo+h) / 2]) (b:=e) H) ?_);rintro _ w ⟨rfl,H⟩;refine⟨_,rfl,?_⟩;have mk:∀w,Sat W0 (blk b 256 ((aV l).flatten++R)::blk B 256 (aD e)::blk m 120 [.slice (some ⟨b,0,none⟩) l.length c]::F) w->Sat W0 (blk B 256 (aD e)::blk m 120 [.slice (some ⟨b,0,none⟩) l.length c]::kW (.slice (some ⟨b,0,none⟩) l.length c) l::F) w:=λw H=>by
   have:=Sat.gE (k:=4) (len:=l.length) H Q J K (by rw[qX (jY l),mw]) (λu L=>by
    obtain⟨r,M,q⟩:=YZ.1 L;obtain⟨x,_,rfl⟩:=XA.1 M;simp[aD]at q;rcases q with rfl|rfl|rfl|rfl<;>rfl)
   exact this.to
  rw[i]at g;cases D:less l[(lo+h) / 2] e with
  | true=>
   rw[D,XE rfl]at g;refine go ?_;exact az ((lo+h) / 2+1,h) ⟨rfl,rfl,rfl,rfl,Xr⟩ ⟨⟨by omega,y,g⟩,mk _ H⟩ (by simp;omega)
  | false=>
   rw[D,Xx (by simp)]at g;refine go ?_;exact az (lo,(lo+h) / 2) ⟨rfl,rfl,rfl,rfl,Xr⟩ ⟨⟨by omega,by omega,g⟩,mk _ H⟩ (by simp;omega)
 .have O:aU l e=lo:=by
   rw[<- g];cases A:l.length with
   | zero=>simp[dQ]
   | succ f=>unfold dQ;rw[Xx n]
  refine go ?_;exact an rfl ⟨by rw[O];rfl,Sat.nh (v:=.slice a l.length c) H.to⟩
theorem zh(e:ay):(aD e).all dk=true:=rfl
def rQ(l:Xn ay):∀u∈(aV l).flatten,dk u=true:=λu H=>by
 obtain⟨r,a,h⟩:=YZ.1 H;obtain⟨x,_,rfl⟩:=XA.1 a;exact X4.1 (zh x) u h
def sZ(l:Xn ay):(aV l).flatten.length=l.length*4:=by rw[qX (jY l),mw]
theorem oV(l:Xn ay)(e:ay):(aV (l++[e])).flatten=(aV l).flatten++aD e:=by simp[aV]
def ef(l:Xn ay):Xn Xp:=(aV l).flatten
theorem oW(a b:Xn ay):ef (a++b)=ef a++ef b:=by simp[ef,aV]
theorem xB(e:ay)(b:Xn ay):ef (e::b)=aD e++ef b:=by simp[ef,aV]
@[simp] theorem Wy:ef []=[]:=rfl
def ot(l:Xn ay):(ef l).length=l.length*4:=sZ l
end
section
variable[Bs0:Base][NQ]
def nj(k:Nat)(v:Xp)(rows:Xn (Xn Xp)):ae:=λh=>(∀r∈rows,r.length=k) /\
 ((v=.slice none 0 0/\rows=[])\/∃b o c,v=.slice (some ⟨b,o,none⟩) rows.length c/\rows.length<=c/\(rows=[]\/∃all E,h b=some (true,.cells all E (0,0))/\iZ all.toList o rows.flatten))
section
variable{ops:Xv Yf}{Q:YL->Act->Xo->Prop}{n:Nat}{ds:Md}{e:Env}{w w':Xo}{rest:Xn Yf}
variable{op:Op}{ty:XO}{pos:YG}{af:Xv Edge}{d:Nat}{v u:Xp}{W0:Xo}{l l' r r':Xn ae}{k:Nat}{rows:Xn (Xn Xp)}
variable {h:Hp}
theorem Rg (q:nj k v rows h):∃h1,Hp.le h1 h/\(∀i x,h1 i=some x->x.1=true)/\nj k v rows h1:=by
 have⟨a,q⟩:=q;rcases q with⟨rfl,rfl⟩|⟨b,o,c,rfl,g,q⟩
 .exact⟨λ_=>none,λ_ _ H=>(by grind),λ_ _ H=>(by grind),a,by grind⟩
 .rcases q with rfl|⟨all,E,j,f⟩
  .exact⟨λ_=>none,λ_ _ H=>(by grind),λ_ _ H=>(by grind),a,by grind⟩
  .refine⟨λi=>if i=b then some (true,.cells all E (0,0))else none,λi x H=>?_,λi x H=>?_,a,by grind⟩
   .grind
   grind
theorem Sat.kQ(h:Sat W0 (nj k v rows::l) w):∃a c,v=.slice a rows.length c/\rows.length<=c:=h.jm λ_ q=>by
 rcases q.2 with⟨rfl,rfl⟩|⟨b,o,c,rfl,H,_⟩
 .grind
 grind
theorem Sat.W5(h:Sat W0 (nj k v rows::l) w):∀r∈rows,r.length=k:=h.jm λ_ q=>q.1
def Sat.qY(h:Sat W0 (nj k v rows::l) w)(H:rows≠[]):∃z:Ay,(v=.slice (some ⟨z.b,z.o,none⟩) rows.length z.c/\rows.length<=z.c/\iZ z.all z.o rows.flatten)/\Sat W0 (ob true z.b (.cells z.all.toArray z.E (0,0))::nj k v rows::l) w:=by
 have⟨z,i,j⟩:=(h.Fz λ_=>Rg).gD (φ:=λz:Ay=>v=.slice (some ⟨z.b,z.o,none⟩) rows.length z.c/\rows.length<=z.c/\iZ z.all z.o rows.flatten) (B:=λz:Ay=>[ob true z.b (.cells z.all.toArray z.E (0,0))]) λf q=>by
  have⟨_,q⟩:=q;rcases q with⟨_,rfl⟩|⟨b,o,c,rfl,m,rfl|⟨all,E,g,a⟩⟩
  .grind
  .exact(H rfl).elim
  .refine⟨⟨b,o,c,all.toList,E⟩,by grind,f,λ_=>none,λ_ _ _ _ p=>(by grind),Hp.le_refl _,λ_ _ s=>(by grind),?_,Xr⟩;simpa[ob]using g
 grind
variable {all:Xn Xp}
theorem iZ.row {o i:Nat} {x:List Value} (H:∀ r∈rows,r.length=k) (h:iZ all o rows.flatten) (a:rows[i]?=some x):iZ all (o+i*k) x:=by
 have c:=ng H a;have key:∀ (vs:List Value) (p:Nat),iZ rows.flatten p vs->iZ all (o+p) vs:=by
  intro vs
  induction vs with
  | nil=>intro _ _;trivial
  | cons v r I=>intro p ⟨b,f⟩;exact⟨h.at p v b,by grind⟩
 grind
theorem iZ.sub:∀{xs y:Xn Xp} {o:Nat},iZ all o (xs++y)->iZ all o xs/\iZ all (o+xs.length) y
 | [],y,o,h=>⟨Xr,h⟩
 | x::xs,y,o,⟨H,c⟩=>by
  have⟨a,b⟩:=iZ.sub c;exact⟨⟨H,a⟩,by grind⟩
variable {c:Nat}
theorem Df {z:Ay} (a:∀r∈rows,r.length=k) (f:rows.length<=c) (H:iZ z.all z.o rows.flatten) (q:ob true z.b (.cells z.all.toArray z.E (0,0)) h):nj k (.slice (some ⟨z.b,z.o,none⟩) rows.length c) rows h:=
 ⟨a,.inr ⟨z.b,z.o,c,rfl,f,.inr ⟨_,_,q,by omega⟩⟩⟩
theorem Sat.qZ {a:XB YO} (h:Sat W0 l w) (H:a=none\/∃b o,a=some ⟨b,o,none⟩) (i:a=none->c=0):Sat W0 (nj k (.slice a 0 c) []::l) w:=
 h.imp λf r=>⟨λ_=>none,f,λ_ _ _ g=>(by grind),λ_ _ g=>(by grind),Hp.le_refl _,(by
  refine⟨by simp,?_⟩;rcases H with rfl|⟨b,o,rfl⟩
  .grind
  .exact .inr ⟨b,o,c,rfl,by grind,.inl rfl⟩),r⟩
theorem Sat.Vn(h:Sat W0 (nj k v []::l) w):v=.slice none 0 0\/∃b o c,v=.slice (some ⟨b,o,none⟩) 0 c:=h.jm λ_ q=>by
 rcases q.2 with⟨rfl,_⟩|⟨b,o,c,rfl,_,_⟩
 .grind
 grind
variable {E:Nat}
def Hy {x y:XZ} {t m:Nat} {Y:Int} (i:Sat W0 (nj k v rows::l) w) (j:ev e x=some v) (p:ev e y=some (.int .i64 Y)) (I:Y=(m:Int)) (s:lk dK t=some E) (g:lk cY E=some k) (hm:m<=rows.length) (A:Nat.blt d n=true) (kk:∀V,Sat W0 (nj k V (rows.drop m)::nj k v rows::l) w->WL ops Q n ds rest ((d,V)::e) w):WL ops Q n ds (⟨some d,.slice t x (some y) none none,ty,pos,af,none⟩::rest) e w:=by
 subst I;have D:=i.W5;by_cases F:rows=[]
 .subst F;cases by simpa using hm
  rcases i.Vn with rfl|⟨b,o,c,rfl⟩
  .exact xm j s g p Xr A (kk _ (i.qZ (.inl rfl) λ_=>rfl))
  .refine qJ 0 0 j s g p rfl (by grind) (by grind) A (kk _ ?_);have:cutAt b o c 0 k=⟨b,o,none⟩:=by unfold cutAt;split<;>simp
   rw[this];exact i.qZ (by grind) (λh=>by grind)
 .obtain⟨z,⟨rfl,J,a⟩,K⟩:=i.qY F;apply qJ m rows.length j s g p rfl hm J A;have G:rows.length-m=(rows.drop m).length:=by simp
  by_cases H:z.c=m
  .have f:rows.drop m=[]:=Ym (by omega);have B:cutAt z.b z.o z.c m k=⟨z.b,z.o,none⟩:=by unfold cutAt;rw[XE H]
   rw[B,G,f];have:=kk (.slice (some ⟨z.b,z.o,none⟩) 0 (z.c-m)) (by rw[f];exact i.qZ (by grind) λh=>by omega);omega
  .have B:cutAt z.b z.o z.c m k=⟨z.b,z.o+m*k,none⟩:=by unfold cutAt;rw[Xx H]
   rw[B,G];refine kk _ (K.head λN q=>Df (z:=⟨z.b,z.o+m*k,z.c,z.all,z.E⟩) (λr C=>D r (Z5 C)) (by omega) ?_ q);have L:rows.flatten=(rows.take m).flatten++(rows.drop m).flatten:=by rw[<- YN,X9]
   rw[L]at a;have M:=a.sub.2;rwa[qX λr C=>D r (Zp C),Yb,Zi hm]at M
def Sat.rR (g:∀r∈rows,r.length=k) (h:Sat W0 (aE k v E rows.length rows.flatten::l) w) (o:0<k:=by first|decide|omega):Sat W0 (nj k v rows::l) w:=by
 by_cases i:v=.slice none 0 0
 .subst i;have⟨a,C,e,_⟩:=h.aC;have H:rows=[]:=XY (by grind);subst H;exact h.drop.qZ (.inl rfl) (λ_=>rfl)
 .obtain⟨b,C,rest,rfl,p,f,j,m⟩:=h.nI i;by_cases H:rows=[]
  .subst H;exact m.drop.qZ (by grind) (λh=>by grind)
  refine(m.share λ⟨_,_,h⟩=>?_).head λs q=>Df (z:=⟨b,0,C,_,E⟩) g p (iZ.all _).app q;have f:=qX g;rw[((ZT.1 (Zu Array.toList (aa7 h).1)).1),List.length_nil]at f;rcases Nat.mul_eq_zero.1 f.symm with j|j
  .grind
  omega
end
abbrev Oi(v:Xp)(l:Xn Pure.ay):ae:=nj 4 v (aV l)
end
section
variable[Bs0:Base][NQ]
attribute [local semireducible] WL WC WQ
section
variable{ops:Xv Yf}{Q:YL->Act->Xo->Prop}{n:Nat}{ds:Md}{e:Env}{w w':Xo}{rest:Xn Yf}
variable{op:Op}{ty:XO}{pos:YG}{af:Xv Edge}{d:Nat}{v u:Xp}{W0:Xo}{l l' r r':Xn ae}
def Qb(ops:Xv Yf)(Q:YL->Act->Xo->Prop)(n:Nat)(ds:Md)(rest:Xn Yf)(e:Env)(w:Xo):Prop:=
 ∀a,Fr n ds e a->rX ds.round ops Q rest a w
variable {id:Nat}
theorem Hz {l:Xn Yf} (H:ds.round=none) (k:Qb l.toArray Q n ds l e w):WC (.region id l.toArray false) Q n ds e w:=λa h=>
 yr (k a h)
theorem Rh(k:WQ Q .normal n ds e w):Qb ops Q n ds [] e w:=λa h=>k a h
theorem Ri[pr Q]{o:Yf}(k:WL ops (Exit.then (λa w=>rX ds.round ops Q rest a w) Q) n ds [o] e w):Qb ops Q n ds (o::rest) e w:=λa H=>by
 have h:=k a H;have K:∀a w,rX ds.round ops (Exit.then (λa w=>rX ds.round ops Q rest a w) Q) [] a w->rX ds.round ops Q rest a w:=by
  exact λa w ⟨V,b,c⟩=>yp c b
 unfold rX at h |-;split at h
 .rename_i f;rw[XE f];exact h.mono K
 grind
theorem Tw(k:Qb ops Q n ds rest e w):WQ (Exit.then (λa w=>rX ds.round ops Q rest a w) Q) .normal n ds e w:=λa h=>.of (k a h)
theorem Tx{D:XB Nat}{j:Nat}{b:XN}(h:gv ops e j=some b)(k:Qb ops Q n ds (⟨D,op,ty,pos,af,none⟩::rest) e w):Qb ops Q n ds (⟨D,op,ty,pos,af,some (j,b)⟩::rest) e w:=sk h k
variable {L:Nat} {rc:Loop}
theorem Lh {x:Operand} {xs:Array Operand} {at_:Array TypeId} {vs:List Value} (H:Sat W0 (ob false L (.loop rc)::l) w) (g:ev e x=some (.func (.yield L) #[] #[])) (hxs:evs e xs.toList=some vs) (hlen:vs.length=rc.params.size) (j:Nat.blt d n=true) (k:iO L rc.fn ((rc.params.zip vs.toArray).foldl (fun tmps (t,a)=>tmps.setIfInBounds t a) rc.tmps) rc.assign rc.body w fun x w'=>∃ v,x=.returned v/\Qb ops Q n ds rest ((d,v)::e) w'):
 Qb ops Q n ds (⟨some d,.call { callee:=.value x,args:=xs,argTypes:=at_ },ty,pos,af,none⟩::rest) e w:=fun a b=>by
 refine pA rfl fun w1 hry=>?_;have H:=H.ry hry;have E:xs.map a.eval=vs.toArray:=by rw[<- b.evs hxs];cases xs;simp
 have i:(getObj L).run Tryz.prog w1=.ok (.loop rc) w1:=by simp[getObj,Sem.run,H.dA]
 have m:∀ evs,(getObj L).events Tryz.prog w1 evs=evs.push ⟨.obj L,false,false⟩:=fun evs=>iH H.dA (fun _ _ _ h=>by grind);have o:(execOp a.eval ⟨some d,.call { callee:=.value x,args:=xs,argTypes:=at_ },ty,pos,af,none⟩).run Tryz.prog w1=.ok (.round L rc.fn ((rc.params.zip vs.toArray).foldl (fun tmps (t,a)=>tmps.setIfInBounds t a) rc.tmps) rc.assign rc.body) w1:=by
  simp[execOp,resolve,b.ev g,Deferred.ofValue,E,Result.andThen_ok,invoke,Instr.yield,Instr.getLoop,i];simp_all
 refine⟨_,w1,dr.bu (.of o (fun ev hev=>?_) (.refl w1)) (fun _ h=>by cases h) _,?_⟩
 ·simp only[execOp,resolve,b.ev g,Deferred.ofValue,E,Sem.run_bind,Sem.events_bind,Sem.run_pure,Sem.events_pure,Result.andThen_ok,Result.evThen_ok,invoke,Instr.yield,Instr.getLoop,i,m] at hev;simp[hlen] at hev;subst hev;exact H.mf .here fun h=>by cases h
 ·show iO L rc.fn _ rc.assign rc.body w1 fun x w=>∃ u,x=.returned u/\rX ds.round ops Q rest (a.put (some d) u) w;have K:iO L rc.fn ((rc.params.zip vs.toArray).foldl (fun tmps (t,a)=>tmps.setIfInBounds t a) rc.tmps) rc.assign rc.body w1 fun x w'=>∃ v,x=.returned v/\Qb ops Q n ds rest ((d,v)::e) w':=fun main c C Stop f=>(k main c C Stop f).rely hry;exact iO.mono K fun x w' p=>by
   obtain⟨v,rfl,f⟩:=p;exact⟨v,rfl,f _ (b.put j)⟩
instance{L:Nat}{R:Ending->Xo->Prop}:pr (yu L R):=⟨λ_ _ h=>h⟩
instance{L:Nat}{R:Ending->Xo->Prop}:rZ (yu L R):=⟨λ_ _ _ _ _ h=>h⟩
def roundPost(_:YW)(L:Nat)(R:Ending->Xo->Prop):YL->Act->Xo->Prop:=yu L R
instance{P:YW}{L:Nat}{R:Ending->Xo->Prop}:pr (roundPost P L R):=⟨λ_ _ h=>h⟩
instance{P:YW}{L:Nat}{R:Ending->Xo->Prop}:rZ (roundPost P L R):=⟨λ_ _ _ _ _ h=>h⟩
def Oj(L:Nat)(b:Code)(R:Ending->Xo->Prop):YL->Act->Xo->Prop:=
 Exit.then (λA c=>∀W,Ry c W->∃a,dr (Instr.beginRound L) W () a/\uI (some L) b (yu L R) A a) (λ_ _ _=>False)
instance{L:Nat}{bd:Code}{R:Ending->Xo->Prop}:pr (Oj L bd R):=⟨λ_ _ h=>h⟩
instance{L:Nat}{bd:Code}{R:Ending->Xo->Prop}:rZ (Oj L bd R):=⟨λ_ _ _ _ _ h=>h⟩
variable {asg bd:Code} {R:Ending->Xo->Prop}
def Ol {fn:FuncId} {tm:Xv Xp} (h:tm.size=n) (H:∀t v,lk e t=some v->tm[t]?=some v) (k:WC asg (Oj L bd R) n ⟨some L,[]⟩ e w):iO L fn tm asg bd w R:=
 Ku yD (k _ ⟨h,rfl,H⟩)
theorem pR{o o':Obj}{b:Nat}(g:Sat W0 (ob false b o::l) w)(j:∀c t f,o≠.cells c t f)(m:Af o')(p:∀c t f,o'≠.cells c t f:=by intro _ _ _ h;cases h):dr (setObj b o') w () { w with heap:=w.heap.setIfInBounds b o' }/\Sat W0 (ob false b o'::l) { w with heap:=w.heap.setIfInBounds b o' }:=by
 have k:=g.dA;have q:b<w.heap.size:=(Xz.1 k).1;have a:Sat W0 (ob false b o'::l) { w with heap:=w.heap.setIfInBounds b o' }:=Sat.oI g m rfl rfl rfl (by simp) (by simp[q]) (λi s=>by simp[Array.getElem?_setIfInBounds,YP s]) λ⟨_,_,h⟩=>XG h (j _ _ _);refine⟨.of ?_ (λev H=>?_) (g.kU a (qF k j p)),a⟩
 .cases o<;>first|exact(j _ _ _ rfl).elim|simp[setObj,Sem.run,k]
 .rw[nZ k j]at H;simp at H;subst H;exact g.mf .here λ_=>rfl
def pS (a:Sat W0 (ob false L (.loop rc)::l) w):aR (Instr.getLoop L) w rc:=by
 have b:(getObj L).run prog w=.ok (.loop rc) w:=by simp[getObj,Sem.run,a.dA]
 refine .of (by simp[Instr.getLoop,b]) λE ev H=>?_;simp[Instr.getLoop,b,iH a.dA λ_ _ _ h=>by grind]at H;rcases H with h|rfl
 .grind
 .exact .inr (a.mf .here λh=>rfl)
variable {α β:Type} {w2:Xo}
theorem dr.look {s:Sem α} {f:α->Sem β} {x:α} {y:β} (h:aR s w x) (k:dr (f x) w y w2):dr (s >>= f) w y w2:=by
 have⟨es1,a,g⟩:=h #[];refine .of ?_ (λev H=>?_) k.kU
 .simp;have:s.run prog w=.ok x w:=by rw[<- Sem.runT_fst prog s w #[],a]
  rw[this];exact k.run
 .have b:s.run prog w=.ok x w:=by rw[<- Sem.runT_fst prog s w #[],a]
  have c:s.events prog w #[]=es1:=by unfold Sem.events;rw[a]
  simp[b,c]at H;rcases wF (f x) w es1 ev H with h|h
  .grind
  .exact k.evs ev h
theorem dr.map {s:Sem α} {g:α->β} {x:α} (h:dr s w x w2):dr (do let a <- s;pure (g a)) w (g x) w2:=
 .of (by simp[h.run]) (λev H=>by
  simp at H;exact h.evs ev H) h.kU
def xd (H:Sat W0 (ob false L (.loop rc)::l) w) (b:rc.state=.ready):∃w',dr (Instr.beginRound L) w () w'/\Sat W0 (ob false L (.loop { rc with state:=.busy })::l) w':=by
 have⟨c,a⟩:=pR (o':=.loop { rc with state:=.busy }) H (λ_ _ _ h=>by grind) Xr;refine⟨_,?_,a⟩;apply dr.look (pS H);simp_all
def FP {bd:Code} {R:Ending->Xo->Prop} (H:Sat W0 (ob false L (.loop rc)::l) w) (b:rc.state=.ready) (k:∀w',Sat W0 (ob false L (.loop { rc with state:=.busy })::l) w'->WC bd (roundPost prog L R) n ⟨some L,[]⟩ e w'):WQ (Oj L bd R) .normal n ⟨some L,[]⟩ e w:=λa c=>.of λW h=>by
 have⟨w',f,g⟩:=xd (H.ry h) b;exact⟨w',f,k _ g a c⟩
def uj (H:Sat W0 (ob false L (.loop rc)::l) w) (j:XB Code):
 ∃w',dr (Instr.endRound L j) w (.bool j.isNone) w'/\Sat W0 (ob false L (.loop { rc with state:=if j.isNone then .ready else .done,pending:=j })::l) w':=by
 have⟨a,b⟩:=pR (o':=.loop { rc with state:=if j.isNone then .ready else .done,pending:=j }) H (λ_ _ _ h=>by grind) Xr;refine⟨_,?_,b⟩;unfold Instr.endRound;apply dr.look (pS H);exact dr.map a
def mx {R:Ending->Xo->Prop} (H:Sat W0 (ob false L (.loop rc)::l) w) (k:∀w',Sat W0 (ob false L (.loop { rc with state:=.ready,pending:=none })::l) w'->R (.returned (.bool true)) w'):WQ (roundPost prog L R) .normal n ds e w:=λa f=>.of λW h=>by
 have⟨w',b,c⟩:=uj (H.ry h) none;exact⟨_,w',b,k _ c⟩
def Az {id:Nat} {R:Ending->Xo->Prop} (H:Sat W0 (ob false L (.loop rc)::l) w) (k:∀w',Sat W0 (ob false L (.loop { rc with state:=.done,pending:=some (.exit id) })::l) w'->R (.returned (.bool false)) w'):WQ (roundPost prog L R) (.exit id) n ds e w:=λa f=>.of λW h=>by
 have⟨w',b,c⟩:=uj (H.ry h) (some (.exit id));exact⟨_,w',b,k _ c⟩
def q8(D:Nat):Deferred:={ target:=.collected D,args:=#[] }
theorem AA(b:Sat W0 l w)(fn:FuncId)(tm:Xv Xp)(ps:Xv Tmp)(asg bd:Code):∃L D W,dr (Instr.enterLoop fn tm ps asg bd none) w (L,[q8 D]) W /\
 Sat W0 (ob false L (.loop { state:=.ready,pending:=none,fn:=fn,tmps:=tm,params:=ps,assign:=asg,body:=bd,defers:=D })::ob false D (.deferred (some []))::l) W:=by
 have H:=b.new (.deferred (some [])) false Xr;have h:=H.new (.loop { state:=.ready,pending:=none,fn:=fn,tmps:=tm,params:=ps,assign:=asg,body:=bd,defers:=w.heap.size }) false Xr;refine⟨_,_,_,.of ?_ (λev a=>?_) (b.kU h ?_),h⟩
 .rfl
 .simp[Instr.enterLoop]at a
 .exact(mi).trans (mi (w:={ w with heap:=w.heap.push _ }))
def Om{g:XZ}{ps:Xv Tmp}{asg bd:Code}{G:Nat}{p q:Xv Xp}{uu:Unit}(K:ds.round=none)(M:Sat W0 l w)(N:ev e g=some (.func (.func G) p q))(F:lk vC G=some uu)
 (k:∀fn T L D A,T.size=n->(∀t v,lk e t=some v->T[t]?=some v) ->
   Sat W0 (ob false L (.loop { state:=.ready,pending:=none,fn:=fn,tmps:=T,params:=ps,assign:=asg,body:=bd,defers:=D })::ob false D (.deferred (some []))::l) A ->
   Calls prog G (p++#[.func (.yield L) #[] #[]]++q) A λx I=>∃v,x=.returned v/\∃(rc:Loop) (o:Xn ae),Sat W0 (ob false L (.loop rc)::o) I/\(rc.state==.busy)=false /\
    ((rc.pending=none/\∀f,Sat W0 (ob false L (.loop { rc with state:=.exhausted })::o) f->WQ Q .normal n ⟨none,q8 D::ds.ds⟩ e f) \/
     ∃id,rc.pending=some (.exit id)/\∀f,Sat W0 (ob false L (.loop { rc with state:=.exhausted })::o) f->WQ Q (.exit id) n ⟨none,q8 D::ds.ds⟩ e f)) :
 WC (.rangeFunc g ps asg bd) Q n ds e w:=λa c=>by
 rw[K];refine Am λfn A B=>?_;have⟨L,D,W,C,E⟩:=AA (M.ry B) fn a.tmps ps asg bd;have H:=k fn a.tmps _ _ _ c.size c.get E;refine⟨L,[q8 D],W,{ target:=.fn (.func G) q,args:=p++#[.func (.yield L) #[] #[]] },G,p++#[.func (.yield L) #[] #[]]++q,C,?_,λr=>?_,?_⟩
 .have s:a.eval (.const (.func (.yield L) #[] #[]))=.func (.yield L) #[] #[]:=rfl;simp[rangeCall,resolve,c.ev N,Deferred.ofValue,ZB,XP,List.map_nil,s];rfl
 .simp only[invoke];rw[Yo,py F,ly F]
 .apply dJ.mono H;rintro x I ⟨v,rfl,rc,o,y,O,H⟩;intro b i;have y:=y.ry i;have⟨P,s⟩:=pR (o':=.loop { rc with state:=.exhausted }) y (λ_ _ _ h=>by cases h) Xr;have j:dr (Instr.endLoop L) b rc.pending { b with heap:=b.heap.setIfInBounds L (.loop { rc with state:=.exhausted }) }:=by
   apply dr.look (pS y);simpa only[O,XM,XV]using dr.map P
  have m:Fr n ⟨none,q8 D::ds.ds⟩ e { a with defers:=[q8 D]++a.defers }:=⟨c.size,by simp[c.defers],c.get⟩;refine⟨_,_,j,?_⟩;rcases H with⟨J,H⟩|⟨id,J,H⟩
  .have z:=H _ s _ m
   grind
  .have z:=H _ s _ m;revert z;rw[J];exact λz=>CF (EA z)
def Li(rs:Xn ResultVar)(R:Ending->Xo->Prop):YL->Act->Xo->Prop
 | .normal,a,w | .ret,a,w=>∃f:Func,f.results=rs.toArray/\DC f a.tmps R a.defers w
 | _,_,_=>False
instance{rs:Xn ResultVar}{R:Ending->Xo->Prop}:pr (Li rs R):=⟨λ_ _ h=>h⟩
instance{rs:Xn ResultVar}{R:Ending->Xo->Prop}:rZ (Li rs R):=⟨λ_ _ _ _ _ h=>h⟩
end
variable {fn:Func} {R:Ending->Xo->Prop}
theorem DC.congr {F:Func} (h:fn.results=F.results) {t:Xv Xp}:∀{a:Xn Deferred} {w:Xo},DC fn t R a w->DC F t R a w
 | [],w,⟨u,H,b⟩=>⟨u,λV c=>by rw[<- sj h];exact H V c,b⟩
 | d::a,w,.inl ⟨D,i,H⟩=>.inl ⟨D,i,λV c=>let ⟨v,j,k⟩:=H V c;⟨v,j,k.congr h⟩⟩
 | d::a,w,.inr ⟨e,.inl ⟨f,A,H,b⟩⟩=>.inr ⟨e,.inl ⟨f,A,H,b.mono λx v g=>⟨g.1,g.2.congr h⟩⟩⟩
 | d::a,w,.inr ⟨e,.inr ⟨K,H,b⟩⟩=>.inr ⟨e,.inr ⟨K,H,λu v l=>(b u v l).congr h⟩⟩
def zj {f:FuncId} {body:Code} {n:Nat} {rs:Xn ResultVar} {args:Xn Xp} {w:Xo} (d:prog.funcs[f]?=some fn) (e:fn.body=some body) (g:fn.ntmps=n) (j:fn.results=rs.toArray) (H:Nat.ble args.length n=true) (k:WC body (Li rs R) n P6 (Ar 0 args) w) (i:Bs0.quiet=true->(prog.funcs[f]?).any (·.norace)=true:=by first|exact yD|exact λ_=>by kernel_rfl):Calls prog f args.toArray w R:=by
 apply Bl d e i;rw[g];apply tI (k _ (CG H));intro E a w h;cases E with
 | normal=>obtain⟨F,b,h⟩:=h;exact h.congr (by grind)
 | ret=>obtain⟨F,b,h⟩:=h;exact h.congr (by grind)
 | panic c=>exact h
 | exit id=>exact h
 | goto l=>exact h
 | outgrown=>exact h.elim
section
variable{n:Nat}{e:Env}{w:Xo}{W0:Xo}{l l' r:Xn ae}
def Dg{rs:Xn ResultVar}{R:Ending->Xo->Prop}{vs:Xn Xp}{D:Nat}(H:Sat W0 (ob false D (.deferred (some []))::l) w)(h:yC e rs=some vs)
 (k:∀W,Sat W0 l W->R (.returned (tN vs)) W):WQ (Li rs R) .ret n ⟨none,[q8 D]⟩ e w:=by
 unfold WQ;intro a f;refine .of ⟨{ (default:Func)with results:=rs.toArray },rfl,?_⟩;rw[f.defers];refine .inl ⟨D,rfl,λv1 c=>?_⟩;have H:=H.ry c;have⟨g,i⟩:=pR (o':=.deferred none) H (λ_ _ _ h=>by grind) Xr;have j:(getObj D).run prog v1=.ok (.deferred (some [])) v1:=by simp[getObj,Sem.run,H.dA]
 have d:aR _ v1 _:=.of j λE ev b=>by
  rw[iH H.dA λ_ _ _ h=>by grind]at b;rcases aaN.1 b with h|rfl
  .grind
  .exact .inr (H.mf .here λh=>rfl)
 refine⟨_,?_,_,λv _=>qE f rfl h v,k _ i.drop⟩;unfold Instr.takeDeferred;apply dr.look d;exact dr.map g
end
end
section
variable[Bs0:Base][NQ]
def Hp.sh(h:Hp):Hp:=λi=>match h i with|some (true,o)=>some (true,o)|_=>none
theorem Hp.On(h:Hp):Hp.le h.sh h:=λi x H=>by
 unfold Hp.sh at H
 grind
theorem Hp.Jl{a b:Hp}(h:Hp.le a b):Hp.le a.sh b.sh:=λi x H=>by
 unfold Hp.sh at H |-;split at H
 .rename_i o c;cases H;rw[h i _ c]
 grind
theorem Hp.Rj{h:Hp}{i:Nat}{x:XN×Obj}(H:h.sh i=some x):x.1=true:=by
 unfold Hp.sh at H
 grind
def Qc(A:ae):Prop:=∀h,A h->A h.sh
theorem Ty(b:Nat)(o:Obj):Qc (ob true b o):=λh k=>by simp[ob]at k |-;simp[Hp.sh,k]
theorem Rm(k:Nat)(v:Xp)(rows:Xn (Xn Xp)):Qc (nj k v rows):=λh ⟨H,q⟩=>by
 refine⟨H,?_⟩;rcases q with q|⟨b,o,c,a,d,e⟩
 .grind
 .exact .inr ⟨b,o,c,a,d,e.imp id λ⟨all,E,f,g⟩=>⟨all,E,by simp[Hp.sh,f],g⟩⟩
def zk:∀{l:Xn ae},(∀A∈l,Qc A)->Qc (cj l)
 | [],_=>λ_ _=>Xr
 | A::l,c=>λh ⟨H,b,f,L,d,a,r⟩=>⟨H.sh,b.sh,Hp.kh f H.On b.On,Hp.Jl L,Hp.Jl d,c A XC H a,zk (λB e=>c B (by grind)) b r⟩
section
variable{W0 w:Xo}{A:ae}{l:Xn ae}
def Sat.zl(a:Qc A)(h:Sat W0 (A::l) w):Sat W0 (A::A::l) w:=
 h.Fz λH k=>⟨H.sh,H.On,λi x b=>Hp.Rj b,a H k⟩
end
def Jm:Xn (Nat×Unit):=[(275,()),(276,()),(281,())]
theorem BS:Jm.map (λp=>KL prog p.1)=Jm.map (λp=>some p.2):=by kernel_rfl
variable {f:Nat} {u:Unit} {w:Xo} {args:Xv Xp}
def Oo (h:lk Jm f=some u):(callFunc f args).run prog w=.ok (.enter f args) w:=by
 have:=iP BS h;unfold KL at this;split at this
 .rename_i F H;split at this
  .rename_i a;simp only[Yp,Zd]at a;have⟨d,b⟩:=a;have c:F.body.isNone=false:=by cases e:F.body<;>simp_all
   simp only[callFunc,Yn,aah,XU,H,b,c];rfl
  grind
 grind
def FQ {es:Xv Ys} (h:lk Jm f=some u):(callFunc f args).events prog w es=es:=by
 have:=iP BS h;unfold KL at this;split at this
 .rename_i F H;split at this
  .rename_i a;simp only[Yp,Zd]at a;have⟨d,b⟩:=a;have c:F.body.isNone=false:=by cases e:F.body<;>simp_all
   simp only[callFunc,Yz,aah,Yq,H,b,c];rfl
  grind
 grind
theorem Tz(v:Xp)(w:Xo):(Go.method (prog.types.size+Made.depth) 117 v "From").run prog w=.ok (169,v) w:=by kernel_rfl
theorem TA(v:Xp)(w:Xo):(Go.method (prog.types.size+Made.depth) 193 v "From").run prog w=.ok (210,v) w:=by kernel_rfl
attribute [local semireducible] WL WC WQ
section
variable{ops:Xv Yf}{Q:YL->Act->Xo->Prop}{n:Nat}{ds:Md}{e:Env}{w w':Xo}{rest:Xn Yf}
variable{op:Op}{ty:XO}{pos:YG}{af:Xv Edge}{d:Nat}{v u:Xp}{W0:Xo}
theorem vS{x:XZ}{xs:Xv XZ}{at_:Xv XO}{vs:Xn Xp}{T f:Nat}{name:YG}(i:ev e x=some (.iface T v))(hm:∀w,(Go.method (prog.types.size+Made.depth) T v name).run prog w=.ok (f,v) w)
 (m:∀w args,(callFunc f args).run prog w=.ok (.enter f args) w) (b:evs e xs.toList=some vs) (o:Nat.blt d n=true)
 (h:Calls prog f (v::vs).toArray w λx w'=>∃v,x=.returned v/\WL ops Q n ds rest ((d,v)::e) w')
 (hmq:∀w es,(Go.method (prog.types.size+Made.depth) T v name).events prog w es=es:=by kernel_rfl)
 (c:∀w args es,(callFunc f args).events prog w es=es:=by first|exact λw args es=>ly (u:=()) rfl|exact λw args es=>FQ (u:=()) rfl) :
 WL ops Q n ds (⟨some d,.call { callee:=.invoke x name,args:=xs,argTypes:=at_ },ty,pos,af,none⟩::rest) e w:=λa H=>by
 refine pA rfl λW g=>?_;have E:xs.map a.eval=vs.toArray:=by rw[<- H.evs b];cases xs;simp
 have p:∀w,dr (execOp a.eval ⟨some d,.call { callee:=.invoke x name,args:=xs,argTypes:=at_ },ty,pos,af,none⟩) w (.enter f (v::vs).toArray) w:=λw=>by
  have j:(#[Value.iface T v]++vs.toArray).extract 1 (#[Value.iface T v]++vs.toArray).size=vs.toArray:=by apply aag;simp
  have k:(#[Value.iface T v]++vs.toArray)[0]?=some (.iface T v):=by simp
  have l:(#[v]++vs.toArray:Xv Xp)=(v::vs).toArray:=by apply aag;simp
  refine(Still.of ?_ λes=>?_).oL
  .simp only[execOp,resolve,H.ev i,E,Yn,Zm,XU,invoke,j,k,callMethod,aah,hm,m,l]
  .simp only[execOp,resolve,H.ev i,E,Yn,Yz,Zm,Zs,XU,Yq,invoke,j,k,callMethod,aah,events_program,hm,hmq,c,l]
 refine⟨_,W,(p W).bu (λ_ h=>by cases h) _,?_⟩;show dJ f (v::vs).toArray W λx w=>∃u,x=.returned u/\rX ds.round ops Q rest (a.put (some d) u) w;exact dJ.mono (dJ.rely (show dJ _ _ _ _ from h) g) λx w' q=>by
  obtain⟨v,rfl,r⟩:=q;exact⟨v,rfl,r _ (H.put o)⟩
