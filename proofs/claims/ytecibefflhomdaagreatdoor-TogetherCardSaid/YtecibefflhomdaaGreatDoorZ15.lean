/-
  Part 15: ; ; .
-/
import Derived.Test.YtecibefflhomdaaGreatDoorZ14
import Derived.Deep.AppendSrc
import Derived.Conc.AppendEvents3
import Derived.Laws.BytesString
set_option maxHeartbeats 8000000
set_option maxRecDepth 100000
set_option linter.all false
namespace Go.Proofs.YtecibefflhomdaaGreatDoor
open Go Proofs.Tryz
def aaR:=@growslice_fits
def abG:=@Src.ofSlice
section
variable[Bs0:Base]
attribute [local semireducible] WL WC WQ
def aE(k:Nat)(v:Xp)(E len:Nat)(cs:Xn Xp):ae:=λh=>
 cs.length=len*k/\(∀u∈cs,dk u=true)/\((v=.slice none 0 0/\len=0) \/
  ∃b c r,v=.slice (some ⟨b,0,none⟩) len c/\len<=c/\c<=maxLen/\r.length=(c-len)*k/\h b=some (false,.cells (cs++r).toArray E (0,0)))
section
variable{W0 w w':Xo}{l r l':Xn ae}{k E len:Nat}{v:Xp}{cs:Xn Xp}
theorem Nz(h:Hp):aE k (.slice none 0 0) E 0 [] h:=⟨by simp,by simp,by grind⟩
def Sat.ep(h:Sat W0 l w):Sat W0 (aE k (.slice none 0 0) E 0 []::l) w:=
 h.imp λH r=>⟨λ_=>none,H,λ_ _ _ a=>(by grind),λ_ _ a=>(by grind),Hp.le_refl _,Nz _,r⟩
def Sat.jm{A:ae}{φ:Prop}(h:Sat W0 (A::l) w)(k:∀h,A h->φ):φ:=by
 have⟨_,_,_,_,H,_,_,a,_,_,_,_,b,_⟩:=h
 grind
def Sat.CI(h:Sat W0 (aE k v E len cs::l) w):cs.length=len*k:=h.jm λ_ a=>a.1
def Sat.yF(h:Sat W0 (aE k v E len cs::l) w):∀u∈cs,dk u=true:=h.jm λ_ a=>a.2.1
def Sat.aC(h:Sat W0 (aE k v E len cs::l) w):∃a c,v=.slice a len c/\len<=c/\c<=maxLen:=h.jm λ_ a=>by
 rcases a.2.2 with⟨rfl,rfl⟩|⟨b,c,R,rfl,H,d,_⟩
 .grind
 grind
def Sat.nI(h:Sat W0 (aE k v E len cs::l) w)(s:v≠.slice none 0 0) :
 ∃b C R,v=.slice (some ⟨b,0,none⟩) len C/\len<=C/\C<=maxLen/\R.length=(C-len)*k/\Sat W0 (blk b E (cs++R)::l) w:=by
 have⟨a,b,c,d,H,e,f,i,j,F,L,m,n,r⟩:=h;rcases n.2.2 with⟨rfl,_⟩|⟨g,C,R,rfl,K,o,p,q⟩
 .grind
 .exact⟨g,C,R,rfl,K,o,p,a,b,c,d,H,e,f,i,j,F,L,m,q,r⟩
def Sat.iv(h:Sat W0 (aE k v E len cs::l) w)(e:0<len) :
 ∃b c R,v=.slice (some ⟨b,0,none⟩) len c/\len<=c/\c<=maxLen/\R.length=(c-len)*k/\Sat W0 (blk b E (cs++R)::l) w:=by
 refine h.nI λH=>?_;subst H;have⟨a,c,d,_⟩:=h.aC;simp at d;omega
variable {b:Nat}
def Sat.gE {cap:Nat} {rest:Xn Xp} (h:Sat W0 (blk b E (cs++rest)::l) w) (h1:len<=cap) (H:cap<=maxLen) (a:rest.length=(cap-len)*k) (c:cs.length=len*k) (d:∀u∈cs,dk u=true):Sat W0 (aE k (.slice (some ⟨b,0,none⟩) len cap) E len cs::l) w:=
 h.head λ_ e=>⟨c,d,.inr ⟨b,cap,rest,rfl,h1,H,a,e⟩⟩
def Sat.Wb{g':Nat}{o':Obj}(h:Sat W0 l w)(o:w'.os=w.os)(B:w'.tape=w.tape)(C:w'.output=w.output)(p:w.heap.size<=w'.heap.size)
 (G:∀i,i<w.heap.size->w'.heap[i]?=w.heap[i]?) (I:w'.heap[g']?=some o') (u:w.heap.size<=g') (q:Af o'):Sat W0 (ob false g' o'::l) w':=by
 have⟨a,D,c,d,n,e,f,r⟩:=h;have s:=λi x H=>(Xz.1 (e i x H)).1;have g:n g'=none:=by
  cases H:n g' with
  | none=>rfl
  | some x=>have:=s _ _ H;omega
 refine⟨o.trans a,B.trans D,C.trans c,⟨d.1,Yh d.2 p⟩,λi=>if i=g' then some (false,o')else n i,?_,⟨?_,λi x H t=>by
  by_cases z:i=g'
  .simp[z]at H;subst H;exact q
  .simp[z]at H;exact f.2 i x H t⟩,λi=>if i=g' then some (false,o')else none,n,?_,?_,?_,by simp[ob],r⟩
 .grind
 .intro i O j m;have A:=(Xz.1 m).1;have F:i≠g':=by have:=d.2;omega
  simp[F,f.1 i O j m]
 .intro i x y H J
  grind
 .intro i x H
  grind
 .intro i x H;by_cases t:i=g'
  .subst t;rw[g]at H;cases H
  grind
def CJ(k:Nat)(t:XO)(x:Xp)(m:Nat)(news:Xn Xp)(l:Xn ae):Prop:=∀W0 w,Sat W0 l w->Src prog k t x m news w/\aR (Builtin.firstCells k m x) w news.toArray
def aR.events{α:Type}{s:Sem α}{x:α}(h:aR s w x)(es:Xv Ys):∀ev∈s.events prog w es,ev∈es\/iM w ev:=λev H=>by
 have⟨e,a,c⟩:=h es;simp_all
theorem rC{E:Nat}(h:Nat.beq E 133=false)(o:Nat):DD E o=true:=by simp[DD,h]
variable {m c:Nat} {news:Xn Xp}
def mW {a:YO} (hl:news.length=m*k) (h:∀j u,news[j]?=some u->w.cell? (a.add j)=some u/\iM w ⟨.cell (a.add j),false,false⟩):aR (Builtin.firstCells k m (.slice (some a) m c)) w news.toArray:=by
 have:=jl h;rwa[hl]at this
def Hh{u:Xp}(h:dk u=true):u.oneCell'=true:=(km h).2
variable {tx e' E':Nat}
def Hi {sh:XN} {o:Nat} {all:Xn Xp} (d:lk dK tx=some e') (t:Take (ob sh b (.cells all.toArray E' (0,0))) l r) (hl:news.length=m*k) (a:∀j u,news[j]?=some u->all[o+j]?=some u) (h1:∀u∈news,dk u=true):CJ k tx (.slice (some ⟨b,o,none⟩) m c) m news l:=λ_ w h=>
 ⟨abG w (bw d) _ _ _ _ hl (λj u H=>by rw[add_eq,h.cell t];exact a j u H) λu H=>Hh (h1 u H),mW hl λj u H=>by rw[add_eq,h.cell t];exact⟨a j u H,h.UO t (by grind) (cE (h1 u (by grind)))⟩⟩
variable {x:Xp}
def vG (g:lk dK tx=some e') (t:Take (aE k x E' m news) l r) (o:Nat.beq E' 133=false:=by rfl):CJ k tx x m news l:=λW0 w h=>by
 have f:=h.take t;have H:=f.CI;by_cases i:x=.slice none 0 0
 .subst i;have⟨a,C,e,_⟩:=f.aC;simp at e;obtain⟨_,rfl,_⟩:=e;have:news=[]:=XY (by omega);subst this;exact⟨Src.ofNil w (bw g) 0,aR.pure _⟩
 .obtain⟨b,C,R,rfl,p,q,s,n⟩:=f.nI i;have K:∀j u,news[j]?=some u->w.cell? ((⟨b,0,none⟩:YO).add j)=some u:=λj u d=>by
   rw[add_eq,n.cell .here,X0,XH ((Xw.1 d).1)];exact d
  exact⟨abG w (bw g) _ _ _ _ H K λu d=>Hh (f.yF u d),mW H λj u d=>⟨by grind,by rw[add_eq];exact n.UN .here (rC o _)⟩⟩
def S4 {u:Unit} {s:Xn UInt8} (h:lk Ao tx=some u):CJ 1 tx (str s) s.length (s.map λb=>.int .u8 b.toNat) l:=λ_ w _=>⟨Src.ofString w (kI h) ⟨s.toArray⟩,(Still.of (firstCells_string ⟨s.toArray⟩ w) λe=>rfl).look⟩
theorem pC(x:Xp)(w:Xo)(es:Xv Ys):(Builtin.lenOf x).events prog w es=es:=by cases x<;>rfl
variable {t ty e:XO} {i:TypeInfo} {sLen sCap n:Nat}
def qH {tx:XO} (q:prog.underlying t=some (.slice e)) (s:prog.info? e=some i) {off:Nat} (f:Src prog i.size tx x n news w) (u:aR (Builtin.firstCells i.size n x) w news.toArray) (H:sLen+n<=sCap) {C:Xv Xp} (y:w.heap[b]?=some (.cells C e (0,0))) (a:off+sLen*i.size+news.length<=C.size) (g:∀j,iM w ⟨.cell ⟨b,j,none⟩,true,false⟩):
 ∀ev∈(Builtin.append_ #[t,tx] ty #[.slice (some ⟨b,off,none⟩) sLen sCap,x]).events prog w #[],iM w ev:=by
 intro ev d;rcases f.kind with⟨e',p⟩|p<;>simp[Builtin.append_,X6 q,X6 p,sizeOf,typeInfo,s,f.len,pC,H,f.cells,Addr.add_lit]at d
 all_goals
  rcases iX (b:=b) (o:=off+sLen*i.size) news 0 C w _ y (by simpa using a) f.one ev d with h|⟨j,_,_,rfl⟩
  .rcases u.events _ ev h with h|h
   .simp at h
   .exact h
  .exact g _
def qI {tx:XO} {z:Xp} (q:prog.underlying t=some (.slice e)) (s:prog.info? e=some i) (u:i.zero=some z) {base:XB YO} {o:Xn Xp} (H:aR (Builtin.firstCells i.size sLen (.slice base sLen sCap)) w.drew o.toArray) (g:Src prog i.size tx x n news w) (y:aR (Builtin.firstCells i.size n x) w.drew news.toArray) (F:sCap<sLen+n) (A:((sLen+n:Nat):Int)<=9223372036854775807) (j:Builtin.nextslicecap (sLen+n) sCap*i.bytes<=281474976710656):
 ∀ev∈(Builtin.append_ #[t,tx] ty #[.slice base sLen sCap,x]).events prog w #[],iM w ev:=by
 have B:¬(sLen+n<=sCap):=by omega
 have a:¬(9223372036854775807<((sLen:Int)+(n:Int))):=by omega
 have d:¬(281474976710656<Builtin.nextslicecap (sLen+n) sCap*i.bytes):=by omega
 have C:=H.oL.run;intro ev f;rcases g.kind with⟨e',p⟩|p<;>simp[Builtin.append_,X6 q,X6 p,sizeOf,typeInfo,zeroValue,s,u,g.len,pC,B,a,d,Question.forced,g.cellsD,C,newRow]at f
 all_goals
  rcases y.events _ ev f with h|h
  .rcases H.events _ ev h with h|h
   .rcases Conc.events_askRoom _ _ _ ev h with h|⟨m,rfl,D⟩
    .simp at h
    .exact Or.inl D
   .exact h
  .exact h
def Sat.append {t ty by_:Nat} (h:Sat W0 l w) (T:Take (aE k v E len cs) l r) (src:CJ k tx x m news l) (L:lk dK t=some E) (hsz:lk cY E=some k) (hby:lk vz E=some by_) {z:Xn Xp} (M:lk kY E=some z) (hzl:z.length=k) (hm:len+m<=maxLen) (A:(len+m)*by_<=140737488355328) (C:Nat.beq E 133=false:=by rfl) (hzo:z.all dk=true:=by rfl):
 ∃V w',dr (Builtin.append_ #[t,tx] ty #[v,x]) w V w'/\Sat W0 (aE k V E (len+m) (cs++news)::r) w':=by
 obtain⟨hsrc,hlk⟩:=src W0 w h;have hlkD:=(src W0 w.drew h.drew).2;have p:=h.take T;have hlen:=p.CI;have hone:=p.yF;obtain⟨i,d,rfl⟩:=pq hsz;have hby':i.bytes=by_:=by have:=KC hby;unfold G3 at this;rw[d]at this;simpa using this
 obtain⟨Z,hzv,hzc⟩:∃Z,i.zero=some Z/\Z.cells=z.toArray:=by
  have:=ET M;unfold IT at this;simp only[Yw,Zr]at this;obtain⟨v,⟨j,f,B⟩,rfl⟩:=this;rw[d]at f;cases f;exact⟨v,B,by simp⟩
 subst hby';have honen:∀u∈news,dk u=true:=λu H=>by
  have:=hsrc.one u H;cases u<;>first|rfl|simp[Value.oneCell']at this
 have honea:∀u∈cs++news,dk u=true:=λu H=>by
  rcases Xy.1 H with h|h
  .exact hone u h
  .exact honen u h
 have hlena:(cs++news).length=(len+m)*i.size:=by rw[Xu,hlen,hsrc.newsLen,aa0]
 have H:=bw L;have hsmall:((len+m:Nat):Int)<=9223372036854775807:=by simp only[maxLen]at hm;omega
 have hcap:=λold=>grownCap_ge w (len+m) old E;have hcapm:=λold=>grownCap_le_maxLen w (len+m) old E hm;have hzz:∀N,(Builtin.zeroCells Z.cells N).toList.length=N*i.size:=λN=>by
  rw[Array.length_toList,size_zeroCells,hzc,Z3,hzl]
 have grown:∀old,∀w'',w''=w.drew.alloc (.cells ((cs++news).toArray++Builtin.zeroCells Z.cells (grownCap w (len+m) old E-(len+m))) E)->∀l',Sat W0 l' w ->
  Sat W0 (aE i.size (.slice (some ⟨w.heap.size,0,none⟩) (len+m) (grownCap w (len+m) old E)) E (len+m) (cs++news)::l') w'':=by
  rintro old _ rfl l' g;refine Sat.gE (b:=w.heap.size) (rest:=(Builtin.zeroCells Z.cells (grownCap w (len+m) old E-(len+m))).toList) ?_ (hcap old) (hcapm old) (hzz _) hlena honea;have e:((cs++news)++(Builtin.zeroCells Z.cells (grownCap w (len+m) old E-(len+m))).toList).toArray=(cs++news).toArray++Builtin.zeroCells Z.cells (grownCap w (len+m) old E-(len+m)):=by
   apply aag;simp
  refine g.Wb rfl rfl rfl (by simp) (λj f=>heap_alloc_old w.drew _ j f) ?_ (XD _) (mD ?_)
  .rw[e];exact heap_alloc_new w.drew _
  .intro x o;rcases Xy.1 o with o|o
   .exact cE (honea x o)
   .have y:x∈Builtin.zeroCells Z.cells (grownCap w (len+m) old E-(len+m)):=Z6.1 o;unfold Builtin.zeroCells at y;obtain⟨q,G,rfl⟩:=Array.mem_map.1 y;have hpos:0<Z.cells.size:=by
     rcases ZR Z.cells.size with D|D
     .rw[D]at G;simp at G
     .exact D
    have hlt:q%Z.cells.size<Z.cells.size:=abo _ hpos;rw[getElem!_pos Z.cells _ hlt];have hall:∀u∈Z.cells,dk u=true:=by rw[hzc];intro u H;exact X4.1 hzo u (by simpa using H)
    exact cE (hall _ (Array.getElem_mem hlt))
 have grownFz:∀old,∀w'',w''=w.drew.alloc (.cells ((cs++news).toArray++Builtin.zeroCells Z.cells (grownCap w (len+m) old E-(len+m))) E)->G0 w.heap w''.heap:=by
  rintro old _ rfl;exact .same λk s=>heap_alloc_old w.drew _ k s
 by_cases B:v=.slice none 0 0
 .subst B;obtain⟨a,cap,e,_⟩:=p.aC;simp only[aao]at e;obtain⟨_,rfl,rfl⟩:=e;have hcs:cs=[]:=XY (by simpa using hlen);subst hcs;by_cases F:m=0
  .subst F;have O:news=[]:=XY (by simpa using hsrc.newsLen);subst O;refine⟨.slice none 0 0,w,.of ?_ (λev hev=>?_) (.refl w),by simpa using p⟩
   .rcases hsrc.kind with⟨e',s⟩|s<;>simp[Builtin.append_,X6 H,X6 s,sizeOf,typeInfo,d,hsrc.len,hsrc.cells]
   .rcases hsrc.kind with⟨e',s⟩|s<;>simp[Builtin.append_,X6 H,X6 s,sizeOf,typeInfo,d,hsrc.len,hsrc.cells,pC]at hev
    all_goals
     rcases hlk.events _ ev hev with h|h
     .simp at h
     .exact h
  .have hrun:=run_append_grow_src (P:=prog) w t tx ty E i Z H d hzv none 0 0 [] (run_firstCells_none w.drew i.size 0 0 0) x m news hsrc (by omega) hsmall (by
    have:=aaR (need:=0+m) (old:=0) (bytes:=i.bytes) (by omega) A;exact this)
   have:=grown 0 _ rfl r p.drop;refine⟨_,_,.of hrun (qI H d hzv (aR.pure _) hsrc hlkD (by omega) hsmall (by have:=aaR (need:=0+m) (old:=0) (bytes:=i.bytes) (by omega) A;exact this)) (h.kU (by simpa using this) (by simpa using grownFz 0 _ rfl)),?_⟩;simpa using this
 .obtain⟨b,cap,rest,rfl,X,Q,K,g⟩:=p.nI B;have hcell:=λj=>g.cell (.here) j;by_cases hroom:len+m<=cap
  .have hrl:news.length<=rest.length:=by
    rw[hsrc.newsLen,K];exact ZL _ (by omega)
   have hrun:=run_append_room_src (P:=prog) w t tx ty E i H d b 0 len cap x m news hsrc hroom
    (λj f=>by rw[hcell,X0,<- hlen,Yr (by omega),Y4,Xq (by omega)];rfl)
    (λj f=>g.free .here _)
   have hevs:=qH (ty:=ty) H d (b:=b) (off:=0) (sLen:=len) (sCap:=cap) hsrc hlk hroom g.dA (by simp[hlen];omega) λj=>g.UP .here (rC C _);suffices hfin:Sat W0 (aE i.size (.slice (some ⟨b,0,none⟩) (len+m) cap) E (len+m) (cs++news)::r) (w.setCells b (0+len*i.size) news)/\G0 w.heap (w.setCells b (0+len*i.size) news).heap from
    ⟨_,_,.of hrun hevs (h.kU hfin.1 hfin.2),hfin.1⟩
   have hst:=aan prog b (0+len*i.size) E news 0 (cs++rest).toArray w g.dA (by simp[hlen];omega) hsrc.one;have hst2:=run_storeCells_cells (P:=prog) b (0+len*i.size) news 0 w (λj f=>by rw[hcell,X0,<- hlen,aak,Yr (by omega),Y4,Xq (by omega)];rfl)
    (λj f=>g.free .here _) hsrc.one
   rw[hst]at hst2;simp only[aak,X0,abv,true_and]at hst2;rw[X0,<- hst2];have I:(List.take (len*i.size) (cs++rest).toArray.toList++news++List.drop (len*i.size+news.length) (cs++rest).toArray.toList)=(cs++news)++rest.drop news.length:=by
    simp only[<- hlen];rw[List.take_left,List.drop_append,Ym (by omega),Y4,List.nil_append]
   rw[I];refine⟨?_,rB⟩;refine Sat.gE (rest:=rest.drop news.length) ?_ hroom Q (by rw[Y1,K,hsrc.newsLen,<- Nat.sub_mul];congr 1;omega) hlena honea;refine Sat.oI g (mD λx o=>?_) rfl rfl rfl (by simp[World.setRow]) (setRow_heap w b _ _ _ _ g.dA) (λi d=>setRow_other w b i _ d) λ⟨_,_,h⟩=>?_
   rotate_left
   .have J:cs++rest=[]:=Zu Array.toList (aa7 h).1;have R:rest=[]:=(ZT.1 J).2;have S:cs=[]:=(ZT.1 J).1;subst R S;have U:news.length=0:=by have Y:=hsrc.newsLen;have I:(0:Nat)=(cap-len)*i.size:=K;have e3:m*i.size<=(cap-len)*i.size:=ZL _ (by omega);omega
    have W:news=[]:=XY U;subst W;rfl
   rcases Xy.1 o with o|o
   .exact cE (honea x o)
   .exact g.SY .here C x (by simp[Z5 o])
  .have hfc:=run_firstCells_some (P:=prog) w.drew i.size len ⟨b,0,none⟩ len cap cs hlen (λj u H=>by
    have f:=(Xw.1 H).1;show w.cell? _=_;rw[add_eq,hcell,X0,XH f];exact H)
   have hrun:=run_append_grow_src (P:=prog) w t tx ty E i Z H d hzv (some ⟨b,0,none⟩) len cap cs hfc x m news hsrc (by omega) hsmall (aaR (by omega) A);have hold:aR (Builtin.firstCells i.size len (.slice (some ⟨b,0,none⟩) len cap)) w.drew cs.toArray:=mW hlen λj u H=>by
    have f:=(Xw.1 H).1;rw[add_eq,X0];exact⟨by show w.cell? _=_;rw[hcell,XH f];exact H,g.UN .here (rC C _)⟩
   exact⟨_,_,.of hrun (qI H d hzv hold hsrc hlkD (by omega) hsmall (aaR (by omega) A)) (h.kU (grown cap _ rfl r p.drop) (grownFz cap _ rfl)),grown cap _ rfl r p.drop⟩
end
abbrev cP(v:Xp)(bs:Bs):ae:=aE 1 v 5 bs.length (bs.map bV)
theorem Hj(bs:Bs):∀u∈bs.map bV,dk u=true:=λu h=>by obtain⟨x,_,rfl⟩:=XA.1 h;rfl
section
variable{ops:Xv Yf}{Q:YL->Act->Xo->Prop}{n:Nat}{ds:Md}{e:Env}{w w':Xo}{rest:Xn Yf}
variable{op:Op}{ty:XO}{pos:YG}{af:Xv Edge}{d:Nat}{v u:Xp}{W0:Xo}{l l' r r':Xn ae}
variable {x y:XZ} {t tx k E len m:Nat} {cs z:Xn Xp}
def rD {b:Nat} {news:Xn Xp} (c:Sat W0 l w) (s:ev e x=some v) (A:ev e y=some u) (T:Take (aE k v E len cs) l r) (src:CJ k tx u m news l) (B:lk dK t=some E) (f:lk cY E=some k) (g:lk vz E=some b) (C:lk kY E=some z) (i:z.length=k) (hm:len+m<=maxLen) (D:(len+m)*b<=140737488355328) (F:Nat.blt d n=true) (kk:∀V w',Sat W0 (aE k V E (len+m) (cs++news)::r) w'->WL ops Q n ds rest ((d,V)::e) w') (G:Nat.beq E 133=false:=by rfl) (j:z.all dk=true:=by rfl):
 WL ops Q n ds (⟨some d,.call { callee:=.builtin .append,args:=#[x,y],argTypes:=#[t,tx] },ty,pos,af,none⟩::rest) e w:=jk (λW o=>by
 have c:=c.ry o;have⟨V,w',p,q⟩:=c.append (ty:=ty) T src B f g C i hm D G j;refine⟨V,w',λa H=>.of ?_ (λev h=>?_) p.kU,kk V w' q⟩
 .simp[execOp,resolve,invoke,Go.builtin,H.ev s,H.ev A,p.run]
 .simp[execOp,resolve,invoke,Go.builtin,H.ev s,H.ev A]at h;exact p.evs ev h) F
variable {bs:Bs}
def pD {m:Nat} {ns:Bs} (H:Sat W0 l w) (a:ev e x=some v) (b:ev e y=some u) (T:Take (cP v bs) l r) (src:CJ 1 tx u ns.length (ns.map bV) l) (hm:bs.length+ns.length<=140737488355328) (c:Nat.blt d n=true) (kk:∀V w',Sat W0 (cP V (bs++ns)::r) w'->WL ops Q n ds rest ((d,V)::e) w'):
 WL ops Q n ds (⟨some d,.call { callee:=.builtin .append,args:=#[x,y],argTypes:=#[93,tx] },ty,pos,af,none⟩::rest) e w:=
 rD H a b T src rfl rfl rfl rfl rfl (by unfold maxLen;omega) (by omega) c λV w' h=>kk V w' (by
  have:cP V (bs++ns)=aE 1 V 5 (bs.length+ns.length) (bs.map bV++ns.map bV):=by grind
  rw[this];exact h)
def E3 {b c:Nat} (z:UInt8) (a:Sat W0 l w) (f:ev e x=some v) (g:ev e y=some (.slice (some ⟨b,0,none⟩) 1 c)) (i:Take (cP v bs) l r) (T:Take (blk b 5 [bV z]) r r') (hm:bs.length+1<=140737488355328) (o:Nat.blt d n=true) (kk:∀V w',Sat W0 (cP V (bs++[z])::r') w'->WL ops Q n ds rest ((d,V)::e) w'):
 WL ops Q n ds (⟨some d,.call { callee:=.builtin .append,args:=#[x,y],argTypes:=#[93,93] },ty,pos,af,none⟩::rest) e w:=by
 have H:=a.p7 i T;refine pD (m:=1) (ns:=[z]) H f g .here (Hi rfl (.there .here) rfl (λj u p=>by grind) (Hj [z])) (by omega) o λV w' h=>kk V w' ?_;exact h.imp λ_ k=>bH (λ_=>rz) k
theorem pE(A:Xn Xp)(x:Xn Xp)(vs B:Xn Xp)(h:x.length=vs.length):dL (A++(x++B)) A.length vs=A++(vs++B):=by
 rw[dL,List.take_left,List.drop_append,Ym (by omega),Y4,List.nil_append,XS]
 grind
theorem US {i:Nat} (h:i+m<=cs.length):∃A x B,cs=A++(x++B)/\A.length=i/\x.length=m:=
 ⟨cs.take i,(cs.drop i).take m,(cs.drop i).drop m,by rw[X9,X9],by grind,by grind⟩
def Hk(cs:Xn Xp)(i:Nat)(v:Xp)(vs:Xn Xp)(h:i+(v::vs).length<=cs.length):dL (cs.set i v) (i+1) vs=dL cs i (v::vs):=by
 obtain⟨A,x,B,rfl,rfl,H⟩:=US h;obtain⟨y,ys,rfl⟩:∃y ys,x=y::ys:=by cases x<;>simp at H;exact⟨_,_,rfl⟩
 rw[pE A _ _ B H];have e:(A++(y::ys++B)).set A.length v=(A++[v])++(ys++B):=by simp
 rw[e,show A.length+1=(A++[v]).length from by simp,pE _ ys vs B (by grind)];simp
def BA:∀(vs:Xn Xp) (j off:Nat) (A:Xv Xp),off+j+vs.length<=A.size ->
 (vs.zipIdx j).foldl (λcs p=>cs.setIfInBounds (off+p.2) p.1) A=(dL A.toList (off+j) vs).toArray
 | [],j,off,A,h=>by apply aag;simp[dL]
 | v::vs,j,off,A,h=>by
  simp at h;rw[List.zipIdx_cons,YI,BA vs _ off _ (by grind)];have e:(A.setIfInBounds (off+j) v).toList=A.toList.set (off+j) v:=by simp
  rw[e,<- Y6,Hk _ _ _ _ (by omega)]
def p8(place:Nat->XB (Nat×Nat))(cells:Xn Xp):Xn (Nat×Xp)->XB (Xn Xp)
 | []=>some cells
 | (i,v)::rest=>match place i with
  | none=>none
  | some (off,size)=>bif Nat.beq v.cells.toList.length size&&Nat.ble (off+v.cells.toList.length) cells.length then p8 place (dL cells off v.cells.toList) rest else none
def tP{p:Nat->XB (Nat×Nat)}:∀{ps:Xn (Nat×Xp)} {C cs:Xn Xp},p8 p C ps=some cs->Instr.fill p C.toArray ps=some cs.toArray
 | [],C,cs,h=>by simp[p8]at h;subst h;rfl
 | (i,v)::rest,C,cs,h=>by
  unfold p8 at h;unfold Instr.fill;split at h
  .grind
  .rename_i o size b;rw[b];cases a:(Nat.beq v.cells.toList.length size&&Nat.ble _ C.length)with
   | false=>rw[a]at h;cases h
   | true=>
    rw[a]at h;simp at a;simp only;rw[Xx (by grind)];have H:Array.foldl (λcs (x:Xp×Nat)=>match x with|(c,j)=>cs.setIfInBounds (o+j) c) C.toArray v.cells.zipIdx=(dL C o v.cells.toList).toArray:=by
     rw[<- Array.foldl_toList];have:=BA v.cells.toList 0 o C.toArray (by grind)
     grind
    rw[H];exact tP h
def E4(e:Env):Xn (Nat×XZ)->XB (Xn (Nat×Xp))
 | []=>some []
 | (i,x)::r=>match ev e x with
  | some v=>match E4 e r with
   | some V=>some ((i,v)::V)
   | none=>none
  | none=>none
def Fr.E4{a:Act}(h:Fr n ds e a):∀{xs:Xn (Nat×XZ)} {vs:Xn (Nat×Xp)},E4 e xs=some vs->xs.map (λp=>(p.1,a.eval p.2))=vs
 | [],vs,k=>by simpa[YtecibefflhomdaaGreatDoor.E4]using k
 | (i,x)::r,vs,k=>by
  unfold YtecibefflhomdaaGreatDoor.E4 at k;split at k
  .rename_i v H;split at k
   .rename_i U b;simp at k;subst k;simp[h.ev H,h.E4 b]
   grind
  grind
variable {pl:Xn (Nat×Nat)}
theorem yG (h:lk nY t=some pl):∃F,prog.underlying t=some (.struct F)/\pl=F.toList.map λf=>(f.offset,prog.cellsOf f.type):=by
 have:=KE h;unfold G4 at this
 grind
def CK(p:YW)(t:Nat):XN:=match p.underlying t with
 | some (.struct F)=>F.toList.all λf=>(p.info? f.type).isSome
 | _=>false
theorem yH:(nY.map λq=>q.1).all (CK prog)=true:=by kernel_rfl
variable {fs:Xn Field}
theorem wG (h:∀f∈fs,∃i,prog.info? f.type=some i):(List.mapM (λf=>do pure (f.offset,<- sizeOf f.type)) fs:Sem (Xn (Nat×Nat))).run prog w=.ok (fs.map λf=>(f.offset,prog.cellsOf f.type)) w:=by
 induction fs with
 | nil=>rfl
 | cons f r I=>
  have⟨i,H⟩:=h f XC;have b:prog.cellsOf f.type=i.size:=by simp[Program.cellsOf,H]
  have a:(sizeOf f.type).run prog w=.ok i.size w:=by simp[sizeOf,typeInfo,H]
  simp_all
theorem yI {es:Xv Ys} (h:∀f∈fs,∃i,prog.info? f.type=some i):(List.mapM (λf=>do pure (f.offset,<- sizeOf f.type)) fs:Sem (Xn (Nat×Nat))).events prog w es=es:=by
 induction fs generalizing es with
 | nil=>rfl
 | cons f r I=>
  have⟨i,H⟩:=h f XC;have hsz:(sizeOf f.type).run prog w=.ok i.size w:=by simp[sizeOf,typeInfo,H]
  simp_all
variable {parts:Xv (Nat×XZ)} {ps:Xn (Nat×Xp)}
theorem NA (H:E4 e parts.toList=some ps) (hpl:lk nY t=some pl) (c:lk kY t=some z) (h:p8 (fun i=>pl[i]?) z ps=some cs) (g:Nat.blt d n=true) (k:WL ops Q n ds rest ((d,.agg cs.toArray)::e) w):WL ops Q n ds (⟨some d,.build t parts,ty,pos,af,none⟩::rest) e w:=by
 refine fY (fun w _ a j=>?_) g k;obtain⟨Z,hzv,hzc⟩:=xl (w:=w) c;obtain⟨fs,hfs,rfl⟩:=yG hpl;have hall:∀ f∈fs.toList,∃ i,Tryz.prog.info? f.type=some i:=by
  have:=List.all_eq_true.1 yH t (List.mem_map.2 ⟨_,CE hpl,rfl⟩);rw[CK,hfs] at this;exact fun f h=>Option.isSome_iff_exists.1 (List.all_eq_true.1 this f h)
 have b:parts.map (fun(i,x)=>(i,a.eval x))=ps.toArray:=by
  rw[<- j.E4 H];cases parts;simp
 have o:=wG (w:=w) hall;have hfl:=tP h;have hpl2:∀ (q:Array (Nat×Nat)),q=(fs.toList.map fun f=>(f.offset,Tryz.prog.cellsOf f.type)).toArray->(fun i:Nat=>q[i]?)=fun i:Nat=>(fs.toList.map fun f=>(f.offset,Tryz.prog.cellsOf f.type))[i]?:=by
  rintro q rfl;funext i;simp
 have hmA:(fs.mapM (fun f=>do pure (f.offset,<- sizeOf f.type)):Sem (Array (Nat×Nat))).run Tryz.prog w=.ok (fs.toList.map fun f=>(f.offset,Tryz.prog.cellsOf f.type)).toArray w:=by
  obtain⟨fl⟩:=fs;simp_all
 have hmQ:∀ es,(fs.mapM (fun f=>do pure (f.offset,<- sizeOf f.type)):Sem (Array (Nat×Nat))).events Tryz.prog w es=es:=fun es=>by
  have⟨fl⟩:=fs;have:=List.mapM_toArray (m:=Sem) (f:=fun f:Field=>do pure (f.offset,<- sizeOf f.type)) (l:=fl);rw[this];simp only[Sem.events_map,yI (w:=w) hall]
 refine(Still.of ?_ fun es=>?_).look
 ·simp only[execOp,b,Instr.build,Sem.run_bind,hzv,Result.andThen_ok,bx hfs,hzc];simp_all
 ·simp only[execOp,b,Instr.build,Sem.events_bind,Sem.run_bind,hzv,sP,Result.andThen_ok,Result.evThen_ok,bx hfs,events_underlying,hzc];simp_all
def NB (j:Sat W0 l w) (F:E4 e parts.toList=some ps) (A:lk dK t=some E) (f:lk cY E=some k) (G:lk kY E=some z) (o:Nat.beq z.length 0=false) (h:Nat.ble (len*k) 1000=true) (I:p8 (λi=>some (i*k,k)) ((List.range (len*k)).map λi=>z.getD (i%z.length) undef) ps=some cs) (J:Nat.blt d n=true) (kk:∀w' b,Sat W0 (blk b E cs::l) w'->WL ops Q n ds rest ((d,.slice (some ⟨b,0,none⟩) len len)::e) w') (p:cs.all dk=true:=by rfl):
 WL ops Q n ds (⟨some d,.buildSlice t len parts,ty,pos,af,none⟩::rest) e w:=jk (λw K=>by
 have j:=j.ry K;have L:len*k<=1000:=by simpa using h
 have M:=ZS o;have⟨Z,q,N⟩:=xl (w:=w) G;have g:=j.new (.cells cs.toArray E) false (mD λx O=>cE (X4.1 p x O));refine⟨.slice (some ⟨w.heap.size,0,none⟩) len len,{ w with heap:=w.heap.push (.cells cs.toArray E) },λa P=>?_,kk _ _ g⟩;have B:parts.map (λ(i,x)=>(i,a.eval x))=ps.toArray:=by
  rw[<- P.E4 F];cases parts;simp
 have s:=tP I;have c:¬(len*k > 2^24):=by omega
 have C:Instr.fill (λi=>some (i*k,k)) ((Array.range (len*k)).map λi=>(if len*k=0 then #[]else Z.cells)[i%(if len*k=0 then #[]else Z.cells).size]!) ps=some cs.toArray:=by
  rw[<- s];congr 1;apply aag;simp only[Array.toList_map,Array.toList_range,List.toList_toArray];refine Y2 λi R=>?_;have:i%z.length<z.length:=abo _ (by omega)
  grind
 refine .of ?_ (λev H=>?_) (j.kU g mi)
 .simp only[execOp,B,Instr.buildSlice,Yn,bx (bw A),db f,XU,Xx c,newRow];by_cases D:len*k=0
  .simp_all
  simp_all
 .simp only[execOp,B,Instr.buildSlice,Yn,Yz,bx (bw A),db f,aal,abN,XU,Yq,Xx c,newRow]at H;by_cases D:len*k=0
  .simp_all
  .simp only[Xx D]at C H;simp only[Yn,Zm,Yz,Zs,XU,Yq,q,sP,C,run_newObj,events_newObj]at H;simp at H) J
def QK {z:Xp} (H:Sat W0 l w) (a:ev e x=some v) (c:lk dK t=some E) (h:lk cY E=some 1) (f:lk kY E=some [z]) (h1:dk v=true) (g:Nat.blt d n=true) (kk:∀w' b,Sat W0 (blk b E [v]::l) w'->WL ops Q n ds rest ((d,.slice (some ⟨b,0,none⟩) 1 1)::e) w'):
 WL ops Q n ds (⟨some d,.buildSlice t 1 #[(0,x)],ty,pos,af,none⟩::rest) e w:=by
 have i:v.cells.toList=[v]:=by rw[(km h1).1]
 refine NB (ps:=[(0,v)]) H ?_ c h f rfl rfl ?_ g kk (by grind)
 .simp[E4,a]
 .simp[p8,i];rfl
end
section
variable{ops:Xv Yf}{Q:YL->Act->Xo->Prop}{n:Nat}{ds:Md}{e:Env}{w w':Xo}{rest:Xn Yf}
variable{op:Op}{ty:XO}{pos:YG}{af:Xv Edge}{d:Nat}{v u:Xp}{W0:Xo}{l l' r r':Xn ae}
variable {x y:XZ} {t E k b o len c:Nat} {i:Int}
def UT (f:ev e x=some (.slice (some ⟨b,o,none⟩) len c)) (g:ev e y=some (.int .i64 i)) (j:lk dK t=some E) (h:lk cY E=some k) (m:0<=i) (h1:i<(len:Int)) (p:Nat.blt d n=true) (kk:WL ops Q n ds rest ((d,.pointer (some ⟨b,o+i.toNat*k,none⟩))::e) w):
 WL ops Q n ds (⟨some d,.indexAddr t x y,ty,pos,af,none⟩::rest) e w:=
 ey (λw a H q=>by simp[execOp,H.ev f,H.ev g,Instr.indexAt,asIntOf,bx (bw j),db h,m,h1,add_eq]) p kk
variable {Y:Int}
def de {i:Nat} (H:ev e x=some (.slice (some ⟨b,o,none⟩) len c)) (a:ev e y=some (.int .i64 Y)) (f:Y=(i:Int)) (g:lk dK t=some E) (h:lk cY E=some k) (h1:i<len) (j:Nat.blt d n=true) (kk:WL ops Q n ds rest ((d,.pointer (some ⟨b,o+i*k,none⟩))::e) w):
 WL ops Q n ds (⟨some d,.indexAddr t x y,ty,pos,af,none⟩::rest) e w:=
 UT H (f▸a) g h (by omega) (by omega) j (by grind)
def yJ {p:Nat×Nat} (f:ev e x=some (.pointer (some ⟨b,o,none⟩))) (g:ev e y=some (.int .i64 i)) (j:lk An t=some p) (h:lk cY p.2=some k) (m:0<=i) (h1:i<(p.1:Int)) (q:Nat.blt d n=true) (kk:WL ops Q n ds rest ((d,.pointer (some ⟨b,o+i.toNat*k,none⟩))::e) w):
 WL ops Q n ds (⟨some d,.indexAddr t x y,ty,pos,af,none⟩::rest) e w:=
 ey (λw a H s=>by simp[execOp,H.ev f,H.ev g,Instr.indexAt,asIntOf,bx (oJ j),db h,m,h1,add_eq,Instr.sureAddr]) q kk
def cutAt(b o:Nat)(cap l k:Nat):YO:=if cap=l then⟨b,o,none⟩else⟨b,o+l*k,none⟩
variable {lo hi:XB XZ}
def qJ {cap:Nat} (l' h':Nat) (j:ev e x=some (.slice (some ⟨b,o,none⟩) len cap)) (s:lk dK t=some E) (H:lk cY E=some k) (f:match lo with|none=>l'=0|some y=>ev e y=some (.int .i64 (l':Int))) (h:match hi with|none=>h'=len|some y=>ev e y=some (.int .i64 (h':Int))) (h1:l'<=h') (q:h'<=cap) (A:Nat.blt d n=true) (kk:WL ops Q n ds rest ((d,.slice (some (cutAt b o cap l' k)) (h'-l') (cap-l'))::e) w):
 WL ops Q n ds (⟨some d,.slice t x lo hi none,ty,pos,af,none⟩::rest) e w:=by
 refine ey (λw a g B=>?_) A kk;have m:=bw s;have p:(if cap=l' then(some ⟨b,o,none⟩:XB YO)else Option.map (λx:YO=>x.add (l'*k)) (some (⟨b,o,none⟩:YO)))=some (cutAt b o cap l' k):=by
  unfold cutAt;split<;>simp[add_eq]
 have C:(l':Int)<=h':=by omega
 have D:(h':Int)<=cap:=by omega
 cases lo with
 | none=>
  simp only at f;subst f;cases hi with
  | none=>simp only at h;subst h;simp[execOp,g.ev j,Instr.sliceAt,Instr.slice,bx m,db H,Instr.sliceBounds,<- p]
  | some y=>simp[execOp,g.ev j,g.ev h,Instr.sliceAt,Instr.slice,bx m,db H,Instr.sliceBounds,Instr.sliceBound,asIntOf,q,<- p]
 | some z=>
  cases hi with
  | none=>simp only at h;subst h;simp[execOp,g.ev j,g.ev f,Instr.sliceAt,Instr.slice,bx m,db H,Instr.sliceBounds,Instr.sliceBound,asIntOf,h1,<- p]
  | some y=>simp[execOp,g.ev j,g.ev f,g.ev h,Instr.sliceAt,Instr.slice,bx m,db H,Instr.sliceBounds,Instr.sliceBound,asIntOf,h1,q,<- p]
def xm (j:ev e x=some (.slice none 0 c)) (m:lk dK t=some E) (f:lk cY E=some k) (h:match lo with|none=>True|some y=>ev e y=some (.int .i64 0)) (H:match hi with|none=>True|some y=>ev e y=some (.int .i64 0)) (p:Nat.blt d n=true) (kk:WL ops Q n ds rest ((d,.slice none 0 c)::e) w):
 WL ops Q n ds (⟨some d,.slice t x lo hi none,ty,pos,af,none⟩::rest) e w:=by
 refine ey (λw a g s=>?_) p kk;have q:=bw m;cases lo<;>cases hi<;>simp only at h H<;>(try have z:=g.ev h)<;>(try have A:=g.ev H)<;>simp_all [execOp,g.ev j,Instr.sliceAt,Instr.slice,bx q,db f,Instr.sliceBounds,Instr.sliceBound,asIntOf]
variable {ky:IntKind} {ty2 N m:Nat}
def l7 {k:IntKind} (H:ev e x=some (.int k (N:Int))) (f:ev e y=some (.int ky Y)) (g:Y=(m:Int)) (hm:m<=k.bits) (j:Nat.blt d n=true) (kk:WL ops Q n ds rest ((d,.int k ((N / 2^m:Nat):Int))::e) w):WL ops Q n ds (⟨some d,.binOp .shr t x y ty2,ty,pos,af,none⟩::rest) e w:=by
 subst g;refine ey (λw a h q=>?_) j kk;have p:¬((m:Int)<0):=by omega
 have hmin:min m k.bits=m:=by omega
 have hdiv:Int.fdiv (N:Int) (2^m)=((N / 2^m:Nat):Int):=by
  grind
 simp[execOp,h.ev H,h.ev f,eqGuard,Go.binOp,Op.shift,p,hmin,hdiv]
variable {M:Nat}
def NC {k:IntKind} (H:ev e x=some (.int k (N:Int))) (f:ev e y=some (.int ky Y)) (g:Y=(m:Int)) (hm:m<=k.bits) (hM:k.wrap ((N*2^m:Nat):Int)=(M:Int)) (j:Nat.blt d n=true) (kk:WL ops Q n ds rest ((d,.int k (M:Int))::e) w):WL ops Q n ds (⟨some d,.binOp .shl t x y ty2,ty,pos,af,none⟩::rest) e w:=by
 subst g;refine ey (λw a h q=>?_) j kk;have p:¬((m:Int)<0):=by omega
 have hmin:min m k.bits=m:=by omega
 rw[<- hM];simp[execOp,h.ev H,h.ev f,eqGuard,Go.binOp,Op.shift,p,hmin]
def S5:BinOp->Nat->Nat->XB Nat
 | .and,a,b=>some (a &&& b)
 | .or,a,b=>some (a ||| b)
 | .xor,a,b=>some (a ^^^ b)
 | _,_,_=>none
def mj {bo:BinOp} {k:IntKind} {R:Nat} (g:ev e x=some (.int k (N:Int))) (j:ev e y=some (.int k (M:Int))) (z:k.signed=false) (H:N<2^k.bits) (hM:M<2^k.bits) (s:S5 bo N M=some R) (A:Nat.blt d n=true) (kk:WL ops Q n ds rest ((d,.int k (R:Int))::e) w):WL ops Q n ds (⟨some d,.binOp bo t x y ty2,ty,pos,af,none⟩::rest) e w:=by
 refine ey (λw a h C=>?_) A kk;have f:∀m:Nat,BitVec.ofInt k.bits (m:Int)=BitVec.ofNat k.bits m:=λm=>rfl;have p:∀m:Nat,m<2^k.bits->k.wrap (m:Int)=m:=λm B=>by
  have q:((m:Int))%(2^k.bits:Int)=m:=Int.emod_eq_of_lt (by omega) (by exact_mod_cast B);simp[IntKind.wrap,z,q]
 cases bo<;>simp[S5]at s<;>subst s
 .have:=p (N &&& M) (Nat.and_lt_two_pow _ hM);simp[execOp,h.ev g,h.ev j,eqGuard,Go.binOp,Op.intBits,YY H,YY hM,this]
 .have:=p (N ||| M) (aa1 H hM);simp[execOp,h.ev g,h.ev j,eqGuard,Go.binOp,Op.intBits,f,BitVec.toNat_or,YY H,YY hM,this]
 .have:=p (N ^^^ M) (aaK H hM);simp[execOp,h.ev g,h.ev j,eqGuard,Go.binOp,Op.intBits,f,BitVec.toNat_xor,YY H,YY hM,this]
def yK (h:ev e x=some (.int .u32 (N:Int))) (q:N<4294967296) (H:Nat.blt d n=true) (kk:WL ops Q n ds rest ((d,.int .u32 ((4294967295-N:Nat):Int))::e) w):WL ops Q n ds (⟨some d,.unOp .xor t x,ty,pos,af,none⟩::rest) e w:=by
 refine ey (λw a f s=>?_) H kk;have g:(4294967295#32 ^^^ BitVec.ofNat 32 N).toNat=4294967295-N:=by
  have j:(4294967295#32)=BitVec.allOnes 32:=rfl;rw[j,BitVec.allOnes_xor,BitVec.toNat_not,aaS,YY (by omega)]
 have p:IntKind.u32.wrap _=((4294967295-N:Nat):Int):=aaQ _ (by omega);simp[execOp,f.ev h,Op.unary,Op.intBits];exact(Zu (λm:Nat=>IntKind.u32.wrap _) g).trans p
theorem S6(bs:Bs):∀s:ByteArray,(bs.map λx=>((x.toNat:Int))).foldl (λr n=>r.push (UInt8.ofNat n.toNat)) s=⟨(s.data.toList++bs).toArray⟩:=by
 induction bs with
 | nil=>intro s;simp
 | cons x r I=>
  simp_all
theorem E5{w:Xo}(f:Xp->ByteArray->Sem (ForInStep ByteArray))(h:∀(n:Int) (r:ByteArray),Still (f (.int .u8 n) r) w (.yield (r.push (UInt8.ofNat n.toNat)))) :
 ∀(ns:Xn Int) (s:ByteArray),Still (forIn (ns.map (Value.int .u8)) s f) w (ns.foldl (λr n=>r.push (UInt8.ofNat n.toNat)) s):=by
 intro ns
 induction ns with
 | nil=>intro s a;rfl
 | cons n ns I=>
  intro s a;simp only[XP,List.forIn_cons];show(Sem.bind _ _).runT prog w a=_;rw[Sem.runT_bind',h n s a];exact I _ a
theorem oM {bs:Bs} (h:∀ j u,(bs.map bV)[j]?=some u->w.cell? ⟨b,o+j,none⟩=some u/\iM w ⟨.cell ⟨b,o+j,none⟩,false,false⟩) (hl:bs.length=len):aR (Conv.bytesToString (.slice (some ⟨b,o,none⟩) len c)) w (str bs):=by
 have H:=jl (fun j u a=>by rw[add_eq];exact h j u a);rw[List.length_map,hl] at H;apply aR.bind H;have f:(bs.map bV)=(bs.map fun x=>((x.toNat:Int))).map (Value.int .u8):=by simp
 rw[f];simp only[List.forIn_toArray];apply aR.bind (Still.look (E5 _ (fun n r g=>rfl) _ _));rw[S6];exact aR.pure _
def pF {a:XB YO} {l:Nat} {z:Xp} (h:aR (Conv.bytesToString (.slice a l c)) w z):aR (convert 93 9 (.slice a l c)) w z:=λes=>by
 have⟨f,j,H⟩:=h es;refine⟨f,?_,H⟩;have p:∀es,(convert 93 9 _).runT prog w es=(Conv.bytesToString _).runT prog w es:=λes=>by
  have q:=kI (t:=9) rfl;have g:(convert 93 9 (.slice a l c)).events prog w es=(Conv.bytesToString (.slice a l c)).events prog w es:=by
   simp[convert]
  rw[Yo,Yo,run_convert_bytes_string w 93 9 5 a l c (bw (t:=93) rfl) (lP (t:=5) rfl) q,g]
 grind
def vH {sh:XN} {all:Xn Xp} (bs:Bs) (h:Sat W0 l w) (f:ev e x=some (.slice (some ⟨b,o,none⟩) len c)) (t:Take (ob sh b (.cells all.toArray E (0,0))) l r) (g:∀j u,(bs.map bV)[j]?=some u->all[o+j]?=some u) (hl:bs.length=len) (p:Nat.blt d n=true) (kk:WL ops Q n ds rest ((d,str bs)::e) w):
 WL ops Q n ds (⟨some d,.convert 93 9 x,ty,pos,af,none⟩::rest) e w:=by
 refine fY (λw H a q=>?_) p kk;have h:=h.ry H;have H:=oM (c:=c) (λj u s=>by rw[h.cell t];exact⟨g j u s,h.UO t (by grind) (cE (Hj bs u (by grind)))⟩) hl;simp[execOp,q.ev f];exact aR.bind (pF H) (aR.pure _)
def QL (h:ev e x=some (.slice none len c)) (H:Nat.blt d n=true) (kk:WL ops Q n ds rest ((d,str [])::e) w):
 WL ops Q n ds (⟨some d,.convert 93 9 x,ty,pos,af,none⟩::rest) e w:=by
 refine fY (λw g a f=>?_) H kk;simp[execOp,f.ev h];refine aR.bind (pF ?_) (aR.pure _);exact aR.pure _
