/-
  Part 14: ; .
-/
import Derived.Test.YtecibefflhomdaaGreatDoorZ01
import Derived.Test.YtecibefflhomdaaGreatDoorZ13
import Derived.Conc.EventLaws
import Derived.IntWalk
set_option maxHeartbeats 8000000
set_option maxRecDepth 100000
set_option linter.all false
namespace Go.Proofs.YtecibefflhomdaaGreatDoor
open Go Proofs.Tryz
def Zm:=@Sem.run_pure
def Zs:=@Sem.events_pure
def ZM:=@IntWalk.u64_in
def aad:=@Oper.semAt_eq
def aah:=@run_program
def aai:=@run_store
def aan:=@run_storeCells_at
def aaJ:=@events_store
def aaQ:=@IntWalk.u32_in
def abN:=@events_sizeOf
section
variable[Bs0:Base]
attribute [local semireducible] WL WC WQ
def vC:Xn (Nat×Unit):=[(3,()),(4,()),(5,()),(6,()),(7,()),(8,()),(9,()),(10,()),(11,()),(12,()),(13,()),(14,()),(15,()),(16,()),(17,()),(18,()),(19,()),(20,()),(21,()),(22,()),(23,()),(24,()),(25,()),(26,()),(27,()),(28,()),(29,()),(30,()),(31,()),(32,()),(33,()),(34,()),(35,()),(36,()),(37,()),(38,()),(39,()),(40,()),(41,()),(42,()),(43,()),(44,()),(45,()),(46,()),(47,()),(48,()),(49,()),(50,()),(51,()),(52,()),(53,()),(54,()),(55,()),(56,()),(57,()),(58,()),(59,()),(60,()),(61,()),(62,()),(63,()),(64,()),(65,()),(66,()),(67,()),(68,()),(69,()),(70,()),(71,()),(72,()),(73,()),(74,()),(75,()),(76,()),(77,()),(78,()),(79,()),(80,()),(81,()),(82,()),(83,()),(84,()),(85,()),(86,()),(87,()),(88,()),(89,()),(90,()),(91,()),(92,()),(93,()),(94,()),(95,()),(96,()),(97,()),(98,()),(99,()),(100,()),(101,()),(105,()),(106,()),(107,()),(114,()),(115,()),(117,()),(118,()),(123,()),(126,()),(127,()),(128,()),(129,()),(130,()),(131,()),(132,()),(133,()),(134,()),(135,()),(136,()),(137,()),(138,()),(139,()),(140,()),(141,()),(142,()),(143,()),(144,()),(145,()),(146,()),(147,()),(148,()),(149,()),(150,()),(151,()),(152,()),(153,()),(154,()),(155,()),(156,()),(157,()),(158,()),(159,()),(160,()),(161,()),(163,()),(164,()),(165,()),(166,()),(167,()),(168,()),(169,()),(170,()),(171,()),(172,()),(173,()),(174,()),(175,()),(176,()),(177,()),(178,()),(179,()),(180,()),(183,()),(184,()),(185,()),(191,()),(192,()),(193,()),(195,()),(197,()),(198,()),(199,()),(200,()),(201,()),(202,()),(203,()),(204,()),(205,()),(206,()),(207,()),(208,()),(209,()),(210,()),(211,()),(212,()),(213,()),(214,()),(215,()),(216,()),(217,()),(225,()),(226,()),(227,()),(228,()),(229,()),(230,()),(231,()),(232,()),(233,()),(234,()),(235,()),(236,()),(237,()),(238,()),(239,()),(240,()),(241,()),(242,()),(243,()),(244,()),(245,()),(246,()),(247,()),(248,()),(249,()),(250,()),(251,()),(252,()),(253,()),(254,()),(255,()),(256,())]
def KL(p:YW)(f:Nat):XB Unit:=match p.funcs[f]? with
 | some F=>if F.body.isSome&&!(F.name == "runtime.NumGoroutine")then some ()else none
 | none=>none
theorem EZ:vC.map (λp=>KL prog p.1)=vC.map (λp=>some p.2):=by kernel_rfl
variable {f:Nat} {u:Unit} {w:Xo} {args:Xv Xp}
def py (h:lk vC f=some u):(callFunc f args).run prog w=.ok (.enter f args) w:=by
 have:=iP EZ h;unfold KL at this;split at this
 .rename_i F H;split at this
  .rename_i a;simp only[Yp,Zd]at a;have⟨d,b⟩:=a;have c:F.body.isNone=false:=by cases e:F.body<;>simp_all
   simp only[callFunc,Yn,aah,XU,H,b,c];rfl
  grind
 grind
def ly {es:Xv Ys} (h:lk vC f=some u):(callFunc f args).events prog w es=es:=by
 have:=iP EZ h;unfold KL at this;split at this
 .rename_i F H;split at this
  .rename_i a;simp only[Yp,Zd]at a;have⟨d,b⟩:=a;have c:F.body.isNone=false:=by cases e:F.body<;>simp_all
   simp only[callFunc,Yz,aah,Yq,H,b,c];rfl
  grind
 grind
variable {α:Type} {w':Xo}
def dr.of {s:Sem α} {x:α} (h1:s.run prog w=.ok x w') (h:∀e∈s.events prog w #[],iM w e) (H:Cx w w'):dr s w x w':=
 ⟨s.events prog w #[],by rw[Yo,h1],h,H⟩
def dr.evs {s:Sem α} {x:α} (h:dr s w x w'):∀e∈s.events prog w #[],iM w e:=by
 have⟨E,H,a,_⟩:=h;simp_all
def dr.kU {s:Sem α} {x:α} (h:dr s w x w'):Cx w w':=let ⟨_,_,_,h⟩:=h;h
theorem KM (s:Sem α):∀(w:Xo) (es es':Xv Ys),(s.runT prog w (es++es')).2=es++(s.runT prog w es').2:=by
 induction s with
 | pure a=>intro w es es';rfl
 | load m a k i=>intro w es es';simp only[Sem.runT];split<;>(try split)<;>simp only[<- ZK,i]<;>(try simp)
 | store m a v k i=>
  intro w es es';cases v<;>simp only[Sem.runT]<;>first|rfl|(split<;>(try split)<;>simp only[<- ZK,i]<;>(try simp))
 | new o k i=>intro w es es';simp only[Sem.runT,i]
 | shape r k i=>intro w es es';simp only[Sem.runT,i]
 | freeze a n k i=>intro w es es';simp only[Sem.runT,i]
 | frozen a k i=>intro w es es';simp only[Sem.runT,i]
 | getObj r k i=>intro w es es';simp only[Sem.runT];split<;>simp only[<- ZK,i]
 | setObj r o k i=>intro w es es';simp only[Sem.runT];split<;>simp only[<- ZK,i]
 | choose q k i=>intro w es es';simp only[Sem.runT];split<;>simp only[i]
 | sys c k i=>intro w es es';simp only[Sem.runT,<- ZK,i]
 | program k i=>intro w es es';simp only[Sem.runT,i]
 | mark m k i=>intro w es es';simp only[Sem.runT,<- ZK,i]
 | halt h=>intro w es es';rfl
def wF (s:Sem α) (w:Xo) (es:Xv Ys):∀ev∈s.events prog w es,ev∈es\/ev∈s.events prog w #[]:=by
 intro ev h;have:=KM s w es #[];simp_all
variable {b:Nat} {o:Obj}
theorem iH {evs:Xv Ys} (h:w.heap[b]?=some o) (H:∀c e f,o≠.cells c e f):(getObj b).events prog w evs=evs.push ⟨.obj b,false,o.isChan⟩:=by
 cases o<;>first|(exact XG rfl (H _ _ _))|simp only[getObj,Sem.events,Sem.runT,h]
theorem nZ {o':Obj} {evs:Xv Ys} (h:w.heap[b]?=some o) (H:∀c e f,o≠.cells c e f):(setObj b o').events prog w evs=evs.push ⟨.obj b,true,o'.isChan⟩:=by
 cases o<;>first|(exact XG rfl (H _ _ _))|simp[setObj,Sem.events,Sem.runT,h]
variable {ρ:XZ->Xp} {x:Next}
theorem Nu {o:Yf} (h:(execOp ρ o).run prog w=.ok x w') (a:∀d,x≠.defer d):∀c,o.op≠.defer c:=by
 intro c e;simp[execOp,e]at h;cases H:(resolve ρ c o.type).run prog w with
 | halt y W=>rw[H]at h;cases h
 | ok d W=>rw[H]at h;simp at h;exact a d h.1.symm
def dr.bu {o:Yf} (h:dr (execOp ρ o) w x w') (H:∀d,x≠.defer d) (r:XB Nat):dr (o.semAt r ρ) w x w':=by
 rw[aad r ρ o (Nu h.run H)];exact h
section
variable{ops:Xv Yf}{Q:YL->Act->Xo->Prop}{n:Nat}{ds:Md}{e:Env}{w w':Xo}{rest:Xn Yf}
variable{op:Op}{ty:XO}{pos:YG}{af:Xv Edge}{d:Nat}{v:Xp}{W0:Xo}{l l' r:Xn ae}
variable{w1:Xo}
def pA{R:XB Nat}{o:Yf}{a:Act}(H:Region.wanted o (yielded ops a.tmps)=true)(h:∀V,Ry w V->∃x c,dr (o.semAt R a.eval) V x c/\EC R o a (rX R ops Q rest) x c):rX R ops Q (o::rest) a w:=by
 unfold rX;rw[XE H];exact .inl h
variable {s:Sem Next} {K:Xp->Xo->Prop} {m:Nat}
def He (hm:∀a,Fr n ds e a->Qt (⟨some d,op,ty,pos,af,none⟩:Yf) a.eval=m) (i:∀a,Fr n ds e a->(⟨some d,op,ty,pos,af,none⟩:Yf).semAt ds.round a.eval=s) (h:∀w1,Ry w w1->Bs0.ask m Bs0.quiet s w1 K) (H:Nat.blt d n=true) (k:∀v w',K v w'->WL ops Q n ds rest ((d,v)::e) w'):WL ops Q n ds (⟨some d,op,ty,pos,af,none⟩::rest) e w:=λa c=>by
 unfold rX;rw[XE (show Region.wanted _ _=true from rfl)];exact .inr ⟨K,λj p=>by grind,λu V g=>k u V g _ (c.put H)⟩
def IV (hm:∀a,Fr n ds e a->Qt (⟨none,op,ty,pos,af,none⟩:Yf) a.eval=m) (g:∀a,Fr n ds e a->(⟨none,op,ty,pos,af,none⟩:Yf).semAt ds.round a.eval=s) (h:∀w1,Ry w w1->Bs0.ask m Bs0.quiet s w1 K) (k:∀v w',K v w'->WL ops Q n ds rest e w'):WL ops Q n ds (⟨none,op,ty,pos,af,none⟩::rest) e w:=λa H=>by
 unfold rX;rw[XE (show Region.wanted _ _=true from rfl)];exact .inr ⟨K,λi j=>by grind,λu V c=>k u V c _ H⟩
def lz(k:WQ Q .normal n ds e w):WL ops Q n ds [] e w:=λa h=>k a h
def jk(h:∀w1,Ry w w1->∃v w',(∀a,Fr n ds e a->dr (execOp a.eval ⟨some d,op,ty,pos,af,none⟩) w1 (.value v) w')/\WL ops Q n ds rest ((d,v)::e) w')(c:Nat.blt d n=true) :
 WL ops Q n ds (⟨some d,op,ty,pos,af,none⟩::rest) e w:=λa H=>by
 apply pA rfl;intro w1 g;have⟨v,w',i,k⟩:=h w1 g;exact⟨_,w',(i a H).bu (λ_ h=>by grind) _,k _ (H.put c)⟩
def QI(h:∀w1,Ry w w1->∃v w',(∀a,Fr n ds e a->dr (execOp a.eval ⟨none,op,ty,pos,af,none⟩) w1 (.value v) w')/\WL ops Q n ds rest e w') :
 WL ops Q n ds (⟨none,op,ty,pos,af,none⟩::rest) e w:=λa H=>by
 apply pA rfl;intro w1 c;have⟨v,w',g,k⟩:=h w1 c;exact⟨_,w',(g a H).bu (λ_ h=>by grind) _,k _ H⟩
def IW(h:∀w1,Ry w w1->∃w',(∀a,Fr n ds e a->dr (execOp a.eval ⟨none,op,ty,pos,af,none⟩) w1 .skip w')/\WL ops Q n ds rest e w') :
 WL ops Q n ds (⟨none,op,ty,pos,af,none⟩::rest) e w:=λa H=>by
 apply pA rfl;intro w1 c;have⟨w',g,k⟩:=h w1 c;exact⟨_,w',(g a H).bu (λ_ h=>by grind) _,k _ H⟩
def fY{v:Xp}(h:∀w1,Ry w w1->∀a,Fr n ds e a->aR (execOp a.eval ⟨some d,op,ty,pos,af,none⟩) w1 (.value v))(c:Nat.blt d n=true)
 (k:WL ops Q n ds rest ((d,v)::e) w):WL ops Q n ds (⟨some d,op,ty,pos,af,none⟩::rest) e w:=
 jk (λw1 H=>⟨v,w1,λa g=>(h w1 H a g).oL,k.rely H⟩) c
def ey{v:Xp}(h:∀w1 a,Fr n ds e a->∀E,(execOp a.eval ⟨some d,op,ty,pos,af,none⟩).runT prog w1 E=(.ok (.value v) w1,E))(H:Nat.blt d n=true)
 (k:WL ops Q n ds rest ((d,v)::e) w):WL ops Q n ds (⟨some d,op,ty,pos,af,none⟩::rest) e w:=
 fY (λw1 _ a c=>Still.look λE=>h w1 a c E) H k
def dE(hv:yv e op=some v)(H:Nat.blt d n=true)(k:WL ops Q n ds rest ((d,v)::e) w):WL ops Q n ds (⟨some d,op,ty,pos,af,none⟩::rest) e w:=
 fY (λw1 _ _ h=>(Still.of (qC h hv) λE=>qD h hv).look) H k
theorem wrap_i64{x:Int}(h1:-9223372036854775808<=x)(h:x<=9223372036854775807):IntKind.i64.wrap x=x:=by
 have e:IntKind.i64.wrap x=if 9223372036854775808<=x%18446744073709551616 then x%18446744073709551616-18446744073709551616 else x%18446744073709551616:=by
  simp[IntKind.wrap,IntKind.bits,IntKind.signed]
 omega
def E1{x:Int}(hv:yv e op=some (.int .i64 (IntKind.i64.wrap x)))(h1:-9223372036854775808<=x)(h:x<=9223372036854775807)(H:Nat.blt d n=true)
 (k:WL ops Q n ds rest ((d,.int .i64 x)::e) w):WL ops Q n ds (⟨some d,op,ty,pos,af,none⟩::rest) e w:=
 dE (by rw[hv,wrap_i64 h1 h]) H k
def gv(ops:Xv Yf)(e:Env)(j:Nat):XB XN:=match ops[j]? with
 | some ⟨some t,_,_,_,_,_⟩=>match lk e t with
  | some (.bool b)=>some b
  | _=>none
 | _=>none
variable {j:Nat}
theorem gK {a:Act} {b:XN} (H:Fr n ds e a) (h:gv ops e j=some b):yielded ops a.tmps j=some b:=by
 unfold gv at h;split at h
 .rename_i t _ _ _ _ _ g;split at h
  .rename_i c i;simp at h;subst h;simp[yielded,g,H.get t _ i]
  grind
 grind
def sk {D:XB Nat} {b:XN} (h:gv ops e j=some b) (k:WL ops Q n ds (⟨D,op,ty,pos,af,none⟩::rest) e w):WL ops Q n ds (⟨D,op,ty,pos,af,some (j,b)⟩::rest) e w:=λa H=>by
 have k:=k a H;unfold rX at k |-;have c:Region.wanted ⟨D,op,ty,pos,af,some (j,b)⟩ (yielded ops a.tmps)=true:=by simp[Region.wanted,(gK H h)]
 rw[XE c];rcases k with k|⟨K,g,i⟩
 rotate_left
 .exact .inr ⟨K,g,i⟩
 refine .inl λw1 p=>?_;have⟨x,w',q,t⟩:=k w1 p;refine⟨x,w',q,?_⟩;cases x<;>exact t
def Bw {b B:XN} (h:gv ops e j=some b) (H:B=!b) (g:Nat.blt d n=true) (k:WL ops Q n ds rest ((d,undef)::e) w):WL ops Q n ds (⟨some d,op,ty,pos,af,some (j,B)⟩::rest) e w:=λa c=>by
 subst H;have i:¬Region.wanted ⟨some d,op,ty,pos,af,some (j,!b)⟩ (yielded ops a.tmps)=true:=by cases b<;>simp[Region.wanted,(gK c h)]
 rw[rX,Xx i];exact k _ (c.put g)
def dk:Xp->XN
 | .agg _ | .tuple _=>false
 | _=>true
theorem km(h:dk v=true):v.cells=#[v]/\v.oneCell'=true:=by cases v<;>simp[dk]at h<;>exact⟨rfl,rfl⟩
theorem cE(h:dk v=true):v≠hole:=λe=>by subst e;cases h
theorem add_eq(b o k:Nat):(⟨b,o,none⟩:YO).add k=⟨b,o+k,none⟩:=by unfold Addr.add;split<;>simp_all
variable {t:Nat}
def vD {b:XN} (h:lk kV t=some b):(isAgg t).run prog w=.ok b w:=by
 have:=Qz h;unfold SP at this;split at this
 .rename_i H;simp at this;subst this;simp[isAgg,bx H]
 .rename_i H;simp at this;subst this;simp[isAgg,bx H]
 .rename_i d a c H;simp at this;subst this;simp only[isAgg,Yn,bx H,XU];rfl
 grind
variable {es:Xv Ys}
theorem KN:(isAgg t).events prog w es=es:=events_isAgg _ _ _ _
variable {a:YO}
def Bx (h:w.cell? a=some v) (H:iM w ⟨.cell a,false,false⟩):aR (load a) w v:=λes=>by
 refine⟨es.push ⟨.cell a,false,false⟩,by simp only[load,Sem.runT,h];rfl,λe c=>?_⟩
 grind
def yE {b:XN} (h:lk kV t=some b):aR (isAgg t) w b:=(Still.of (vD h) λes=>KN).look
def Bz {k:Nat} (h:lk cY t=some k):aR (sizeOf t) w k:=(Still.of (db h) λes=>abN _ _ _ _).look
variable {b o:Nat}
def lF (c:lk kV t=some false) (h:w.cell? ⟨b,o,none⟩=some v) (H:iM w ⟨.cell ⟨b,o,none⟩,false,false⟩):aR (loadVar t ⟨b,o,none⟩) w v:=
 (yE c).bind (Bx h H)
def iZ:Xn Xp->Nat->Xn Xp->Prop
 | _,_,[]=>True
 | cs,o,v::V=>cs[o]?=some v/\iZ cs (o+1) V
theorem iZ.at:∀{vs cs:Xn Xp} {o:Nat},iZ cs o vs->∀j v,vs[j]?=some v->cs[o+j]?=some v
 | v::vs,cs,o,⟨h,c⟩,j,u,H=>by
  cases j with
  | zero=>simp at H;subst H;simpa using h
  | succ j=>simp at H;have:=c.at j u H;rw[show o+(j+1)=o+1+j from by omega];exact this
def mV:∀(vs:Xn Xp) (i:Nat) (acc:Xv Xp),(∀j v,vs[j]?=some v->w.cell? (a.add (i+j))=some v/\iM w ⟨.cell (a.add (i+j)),false,false⟩)->aR (loadCellsFrom a i vs.length acc) w (acc++vs.toArray)
 | [],i,acc,_=>by simpa[loadCellsFrom]using aR.pure acc
 | v::vs,i,acc,h=>by
  have⟨H,c⟩:=h 0 v rfl;have I:=mV vs _ (acc.push v) λj u g=>by
   have:=h (j+1) u (by grind);rwa[show i+(j+1)=i+1+j from by omega]at this
  have E:acc++(v::vs).toArray=acc.push v++vs.toArray:=by simp
  rw[E];exact(Bx (by omega) (by omega)).bind I
variable {vs:Xn Xp}
def jl (h:∀j v,vs[j]?=some v->w.cell? (a.add j)=some v/\iM w ⟨.cell (a.add j),false,false⟩):aR (loadCells a vs.length) w vs.toArray:=by
 have:=mV vs 0 #[] (by simpa using h);simpa[loadCells]using this
variable {cs:Xn Xp}
def lG (i:lk kV t=some true) (k:lk cY t=some vs.length) (h:∀j,w.cell? ⟨b,j,none⟩=cs[j]?) (H:iZ cs o vs) (c:∀j,j<vs.length->iM w ⟨.cell ⟨b,o+j,none⟩,false,false⟩):
 aR (loadVar t ⟨b,o,none⟩) w (.agg vs.toArray):=by
 unfold loadVar;refine(yE i).bind ((Bz k).bind ((jl λj v g=>?_).bind (aR.pure _)));rw[add_eq,h];exact⟨H.at j v g,c j (Xw.1 g).1⟩
variable {T:Nat}
theorem Nv (h:DD T o=true) (j:Nat):DD T (o+j)=true:=by
 unfold DD at h |-;cases H:Nat.beq T 133 with
 | false=>rfl
 | true=>
  rw[H]at h;have c:=abz (by simpa using h);simpa using abA (by omega)
def SX(E o:Nat)(v:Xp):Prop:=dk v=true\/DD E o=true
variable {sh sy:XN} {E:Nat} {f:Nat×Nat}
def Sat.R9 (c:Sat W0 l w) (t:Take (ob sh b (.cells cs.toArray E f)) l r) (g:cs[o]?=some v) (H:SX E o v):iM w ⟨.cell ⟨b,o,none⟩,false,sy⟩:=by
 rcases H with h|h
 .exact c.UO t (by grind) (cE h)
 .exact c.UN t h
def Nw(E o:Nat)(vs:Xn Xp):Prop:=vs.all dk=true\/DD E o=true
def Sat.CH (c:Sat W0 l w) (t:Take (ob sh b (.cells cs.toArray E f)) l r) (g:iZ cs o vs) (H:Nw E o vs) (j:Nat) (i:j<vs.length):iM w ⟨.cell ⟨b,o+j,none⟩,false,sy⟩:=by
 rcases H with h|h
 .exact c.UO t (by simpa using(g.at j _ (Xq i))) (cE (by grind))
 .exact c.UN t (Nv h j)
variable {x:XZ}
def fF (h:Sat W0 l w) (g:ev e x=some (.pointer (some ⟨b,o,none⟩))) (i:lk kV T=some false) (t:Take (ob sh b (.cells cs.toArray E (0,0))) l r) (c:cs[o]?=some v) (p:Nat.blt d n=true) (k:WL ops Q n ds rest ((d,v)::e) w) (H:SX E o v:=by first|exact .inl rfl|exact .inr rfl|exact .inl (by assumption)):
 WL ops Q n ds (⟨some d,.load T x,ty,pos,af,none⟩::rest) e w:=
 fY (λw1 q a y=>by
  have h:=h.ry q;simp[execOp,y.ev g];exact aR.bind (aR.bind (aR.pure _) (lF i ((h.cell t o).trans c) (h.R9 t c H))) (aR.pure _)) p k
def dX (vs:Xn Xp) (h:Sat W0 l w) (g:ev e x=some (.pointer (some ⟨b,o,none⟩))) (i:lk kV T=some true) (p:lk cY T=some vs.length) (t:Take (ob sh b (.cells cs.toArray E (0,0))) l r) (c:iZ cs o vs) (q:Nat.blt d n=true) (k:WL ops Q n ds rest ((d,.agg vs.toArray)::e) w) (H:Nw E o vs:=by first|exact .inl rfl|exact .inr rfl|exact .inl (by assumption)):
 WL ops Q n ds (⟨some d,.load T x,ty,pos,af,none⟩::rest) e w:=
 fY (λw1 y a z=>by
  have h:=h.ry y;simp[execOp,z.ev g];exact aR.bind (aR.bind (aR.pure _) (lG i p (h.cell t) c λj A=>h.CH t c H j A)) (aR.pure _)) q k
variable {u:Xp}
def As (c:lk cY t=some 1) (hv:v.cells=#[v]) (h1:v.oneCell'=true) (h:w.cell? ⟨b,o,none⟩=some u) (g:w.frozen? ⟨b,o,none⟩=false):
 (storeVar t ⟨b,o,none⟩ v).run prog w=.ok () (w.setCell ⟨b,o,none⟩ v):=by
 have H:=aai prog w ⟨b,o,none⟩ v .plain h1;simp[h,g]at H;simp[storeVar,hv,db c,storeCells,add_eq];simp[H]
theorem Sa{h h':Xv Obj}(k:∀j:Nat,h'[j]?=h[j]?\/∃(c c':Xv Xp) (e:XO) (f:Nat×Nat),h[j]?=some (Obj.cells c e f)/\h'[j]?=some (Obj.cells c' e f)):G0 h h':=by
 refine⟨λj c e f H=>?_,λj o H g=>?_⟩
 .grind
 grind
theorem Hf {w:Xo}:G0 w.heap (w.setCell a u).heap:=Sa λj=>by
 simp[World.setCell]
 grind
theorem rB {w:Xo} {cs:Xv Xp}:G0 w.heap (w.setRow b cs).heap:=Sa λj=>by
 simp[World.setRow]
 grind
def mi{w:Xo}{o:Obj}:G0 w.heap (w.heap.push o):=.same λi h=>by grind
theorem qF {w:Xo} {o o':Obj} (i:w.heap[b]?=some o) (k:∀c e f,o≠.cells c e f) (g:∀c e f,o'≠.cells c e f:=by intro _ _ _ h;cases h):G0 w.heap (w.heap.setIfInBounds b o'):=by
 refine⟨λj c e f h=>?_,λj x h p=>?_⟩
 .have H:b≠j:=λq=>by subst q;rw[i]at h;exact k _ _ _ (Xt h)
  exact⟨c,by rw[XJ H];exact h⟩
 .by_cases H:b=j
  .subst H;exact⟨o',by rw[YE (Xz.1 h).1],g⟩
  .exact⟨x,by rw[XJ H];exact h,p⟩
def vE (i:lk cY t=some 1) (hv:v.cells=#[v]) (h1:v.oneCell'=true) (h:w.cell? ⟨b,o,none⟩=some u) (g:w.frozen? ⟨b,o,none⟩=false):
 (storeVar t ⟨b,o,none⟩ v).events prog w es=es.push ⟨.cell ⟨b,o,none⟩,true,false⟩:=by
 have c:=aai prog w ⟨b,o,none⟩ v .plain h1;simp[g]at c;have H:=aaJ prog w es ⟨b,o,none⟩ v .plain h1;simp[h,g]at H;simp[storeVar,hv,db i,storeCells,add_eq];simp[H];rfl
variable {y:XZ}
def IX (h:Sat W0 l w) (q:ev e x=some (.pointer (some ⟨b,o,none⟩))) (z:ev e y=some v) (A:lk cY T=some 1) (h1:dk v=true) (t:mR l (blk b E cs) (blk b E (cs.set o v)) l') (hlt:Nat.blt o cs.length=true) (k:∀w',Sat W0 l' w'->WL ops Q n ds rest e w') (i:DD E o=true:=by rfl):
 WL ops Q n ds (⟨none,.store T x y,ty,pos,af,none⟩::rest) e w:=IW λw1 D=>by
 have h:=h.ry D;have⟨r,t1,t2⟩:=t.take;have H:o<cs.length:=by simpa using hlt
 have⟨C,B⟩:=km h1;have c:=h.setCell t (cE h1);refine⟨w1.setCell ⟨b,o,none⟩ v,λa g=>?_,k _ c⟩;have p:=h.cell t1 o;rw[Xq H]at p;refine .of ?_ ?_ (h.kU c Hf)
 .simp[execOp,g.ev q,g.ev z,Instr.storeAt,Instr.sureAddr,As A C B p (h.free t1 o)]
 .simpa[execOp,g.ev q,g.ev z,Instr.storeAt,Instr.sureAddr,vE A C B p (h.free t1 o)]using h.UP t1 i
def dL(cs:Xn Xp)(o:Nat)(vs:Xn Xp):Xn Xp:=cs.take o++vs++cs.drop (o+vs.length)
theorem sM (h:o+vs.length<=cs.length) (H:cs=[]):dL cs o vs=[]:=by
 subst H;have:vs=[]:=XY (by grind);subst this;simp[dL]
def sN {cs':Xn Xp} (c:Sat W0 l w) (t:mR l (blk b E cs) (blk b E cs') l') (H:Af (.cells cs'.toArray E (0,0))) (g:cs=[]->cs'=[]):Sat W0 l' (w.setRow b cs'.toArray):=by
 have⟨r,t1,t2⟩:=t.take;have k:=c.take t1;refine Sat.jZ (Sat.oI k H rfl rfl rfl ?_ (setRow_heap w b _ _ _ _ k.dA) (λi p=>setRow_other w b i _ p) λ⟨_,_,h⟩=>by grind) t2;simp_all
def Sat.SY (h:Sat W0 l w) (t:Take (ob false b (.cells cs.toArray E f)) l r) (H:Nat.beq E 133=false):∀x∈cs,x≠hole:=λx c g=>by
 have⟨i,k⟩:=Zk.1 c;cases((h.take t).clean i x (by grind) g).1;cases H
theorem sO (k:Sat W0 l w) (t:Take (ob false b (.cells cs.toArray E f)) l r) (h1:vs.all dk=true) (hlt:o+vs.length<=cs.length):Af (.cells (dL cs o vs).toArray E (0,0)):=λi x H c=>by
 have H:(dL cs o vs)[i]?=some x:=by grind
 unfold dL at H;have g:=(k.take t).clean;rcases X8 i o with h|h
 .rw[XS,XH (by simp;omega),aa6 h]at H;exact g i x (by simpa using H) c
 .rcases X8 i (o+vs.length)with p|p
  .rw[XS,Yr (by simp;omega),XH (by simp;omega)]at H;exact XG c (cE (X4.1 h1 x (Ya H)))
  .rw[Yr (by simp;omega),aaf]at H;refine g i x ?_ c
   grind
def iX {T:XO}:∀(vs:Xn Xp) (i:Nat) (c:Xv Xp) (w:Xo) (es:Xv Ys),w.heap[b]?=some (.cells c T (0,0))->o+i+vs.length<=c.size->(∀v∈vs,v.oneCell'=true) ->
 ∀ev∈(storeCells ⟨b,o,none⟩ vs i).events prog w es,ev∈es\/∃j,i<=j/\j<i+vs.length/\ev=⟨.cell ⟨b,o+j,none⟩,true,false⟩
 | [],_,_,_,_,_,_,_=>λev h=>.inl (by simpa[storeCells]using h)
 | v::rest,i,c,w,es,k,A,p=>λev h=>by
  have C:o+i<c.size:=by grind
  have H:w.cell? ⟨b,o+i,none⟩=some c[o+i]:=by simp[World.cell?,k]
  have g:w.frozen? ⟨b,o+i,none⟩=false:=by simp[World.frozen?,k]
  have q:(store ((⟨b,o,none⟩:YO).add i) v).run prog w=.ok () (w.setRow b (c.setIfInBounds (o+i) v)):=by
   rw[add_eq,aai prog w _ v _ (p v (by simp)),H];simp[g,setCell_eq_setRow w b (o+i) c T (0,0) v k]
  have z:(store ((⟨b,o,none⟩:YO).add i) v).events prog w es=es.push ⟨.cell ⟨b,o+i,none⟩,true,false⟩:=by
   rw[add_eq,aaJ prog w es _ v _ (p v (by simp)),H]
   grind
  simp[storeCells,Yz,q,Yq,z]at h;rcases iX rest (i+1) (c.setIfInBounds (o+i) v) (w.setRow b (c.setIfInBounds (o+i) v)) _ (setRow_heap w b c _ T _ k) (by simp at A |-;omega) (λx B=>p x (by simp[B])) ev h with h|⟨j,J,D,h⟩
  .grind
  grind
def Hg (c:Sat W0 l w) (z:ev e x=some (.pointer (some ⟨b,o,none⟩))) (A:ev e y=some (.agg vs.toArray)) (B:lk cY T=some vs.length) (h1:vs.all dk=true) (t:mR l (blk b E cs) (blk b E (dL cs o vs)) l') (hlt:o+vs.length<=cs.length) (k:∀w',Sat W0 l' w'->WL ops Q n ds rest e w') (q:DD E o=true:=by rfl):
 WL ops Q n ds (⟨none,.store T x y,ty,pos,af,none⟩::rest) e w:=IW λw1 D=>by
 have c:=c.ry D;have⟨r,t1,t2⟩:=t.take;have g:=sN c t (sO c t1 h1 hlt) (sM hlt);refine⟨w1.setRow b (dL cs o vs).toArray,λa p=>?_,k _ g⟩;have C:=c.at t1;have H:=λv F=>(km (X4.1 h1 v F)).2;have:=aan prog b o E vs 0 cs.toArray w1 C (by omega) H;simp only at this;refine .of ?_ (λev i=>?_) (c.kU g rB)
 .simp only[execOp,p.ev z,p.ev A,Instr.storeAt,Instr.sureAddr,storeVar,Value.cells,Yn,Zm,XU,db B,Z3,ne_eq,ZJ,XV,this];rfl
 .simp[execOp,p.ev z,p.ev A,Instr.storeAt,Instr.sureAddr,storeVar,Value.cells,Zs,XU,Yq,db B,abN,Z3,ne_eq,ZJ,XV,this]at i;rcases iX vs 0 cs.toArray w1 #[] C (by simpa using hlt) H ev (by simpa using i)with h|⟨j,_,_,rfl⟩
  .grind
  .exact c.UP t1 (Nv q j)
variable {z:Xn Xp}
theorem xl (h:lk kY t=some z):∃v,(zeroValue t).run prog w=.ok v w/\v.cells=z.toArray:=by
 have:=ET h;simp only[IT,Yw,Zr]at this;obtain⟨v,⟨i,H,c⟩,rfl⟩:=this;exact⟨v,by simp[zeroValue,typeInfo,H,c],rfl⟩
theorem sP:(zeroValue t).events prog w es=es:=events_zeroValue _ _ _ _
def Ny (H:Sat W0 l w) (i:lk kY T=some z) (p:Nat.blt d n=true) (k:∀w' b,Sat W0 (blk b T z::l) w'->WL ops Q n ds rest ((d,.pointer (some ⟨b,0,none⟩))::e) w') (q:z.all dk=true:=by rfl):WL ops Q n ds (⟨some d,.alloc T,ty,pos,af,none⟩::rest) e w:=jk (λw1 A=>by
 have H:=H.ry A;have⟨v,g,B⟩:=xl (w:=w1) i;have h:=H.new (.cells z.toArray T) false (mD λx C=>cE (by grind));refine⟨.pointer _,{ w1 with heap:=w1.heap.push _ },λa D=>.of ?_ (λev c=>?_) (H.kU h mi),k _ _ h⟩
 .simp[execOp,Instr.alloc,g,newVar,newRow,B]
 .simp[execOp,Instr.alloc,g,newVar,newRow]at c) p
def S3 (H:Sat W0 l w) (g:ev e x=some v) (i:v.cells=z.toArray) (p:Nat.blt d n=true) (k:∀w' b,Sat W0 (blk b T z::l) w'->WL ops Q n ds rest ((d,.pointer (some ⟨b,0,none⟩))::e) w') (q:z.all dk=true:=by rfl):WL ops Q n ds (⟨some d,.box T x,ty,pos,af,none⟩::rest) e w:=jk (λw1 A=>by
 have H:=H.ry A;have h:=H.new (.cells z.toArray T) false (mD λx g=>cE (by grind));refine⟨.pointer _,{ w1 with heap:=w1.heap.push _ },λa B=>.of ?_ (λev c=>?_) (H.kU h mi),k _ _ h⟩
 .simp[execOp,B.ev g,Instr.box,newVar,newRow,i]
 .simp[execOp,Instr.box,newVar,newRow]at c) p
def pB (H:Sat W0 l w) (g:Nat.blt d n=true) (k:∀w' b,Sat W0 (ob false b (.map #[] 0)::l) w'->WL ops Q n ds rest ((d,.map (some b))::e) w'):WL ops Q n ds (⟨some d,.makeMap T none,ty,pos,af,none⟩::rest) e w:=jk (λw1 i=>by
 have H:=H.ry i;have h:=H.new (.map #[] 0) false Xr;refine⟨.map _,{ w1 with heap:=w1.heap.push _ },λa p=>.of ?_ (λev c=>?_) (H.kU h mi),k _ _ h⟩
 .simp[execOp,Instr.makeMap]
 .simp[execOp,Instr.makeMap]at c) g
def dr.enter {f:FuncId} {args:Xv Xp} (h:∀w,s.run prog w=.ok (.enter f args) w) (k:∀w es,s.events prog w es=es):dr s w (.enter f args) w:=
 (Still.of (h w) (k w)).oL
variable {xs:Xv XZ}
def QJ {f:FuncId} {at_:Xv XO} {u:Unit} (H:lk vC f=some u) (g:evs e xs.toList=some vs) (i:Nat.blt d n=true) (h:Calls prog f vs.toArray w λx w'=>∃v,x=.returned v/\WL ops Q n ds rest ((d,v)::e) w'):
 WL ops Q n ds (⟨some d,.call { callee:=.value (.func f),args:=xs,argTypes:=at_ },ty,pos,af,none⟩::rest) e w:=λa c=>by
 refine pA rfl λw1 k=>?_;have p:xs.map a.eval=vs.toArray:=by rw[<- c.evs g];cases xs;simp
 refine⟨.enter f vs.toArray,w1,dr.bu (dr.enter (λw=>?_) λw es=>?_) (λ_ h=>by grind) _,?_⟩
 .simp[execOp,resolve,Act.eval,Deferred.ofValue,invoke,p,py H]
 .simp[execOp,resolve,Act.eval,Deferred.ofValue,invoke,ly H]
 .show dJ f vs.toArray w1 λx w=>∃u,x=.returned u/\rX ds.round ops Q rest (a.put (some d) u) w;exact dJ.mono (dJ.rely h k) λx w' q=>by
   obtain⟨v,rfl,A⟩:=q;exact⟨v,rfl,A _ (c.put i)⟩
def kL {f:FuncId} {F:XZ} {p q:Xv Xp} {at_:Xv XO} {u:Unit} (H:ev e F=some (.func (.func f) p q)) (g:lk vC f=some u) (k:evs e xs.toList=some vs) (A:Nat.blt d n=true) (h:Calls prog f (p.toList++vs++q.toList).toArray w λx w'=>∃v,x=.returned v/\WL ops Q n ds rest ((d,v)::e) w'):
 WL ops Q n ds (⟨some d,.call { callee:=.value F,args:=xs,argTypes:=at_ },ty,pos,af,none⟩::rest) e w:=λa c=>by
 refine pA rfl λw1 B=>?_;have i:xs.map a.eval=vs.toArray:=by rw[<- c.evs k];cases xs;simp
 refine⟨.enter f (p.toList++vs++q.toList).toArray,w1,dr.bu (dr.enter (λw=>?_) λw es=>?_) (λ_ h=>by grind) _,?_⟩
 .simp[execOp,resolve,c.ev H,Deferred.ofValue,i,invoke];rw[py g];simp
 .simp[execOp,resolve,c.ev H,Deferred.ofValue,i,Yz,Zm,Zs,Yq,invoke];rw[ly g]
 .show dJ f (p.toList++vs++q.toList).toArray w1 λx w=>∃u,x=.returned u/\rX ds.round ops Q rest (a.put (some d) u) w;exact dJ.mono (dJ.rely h B) λx w' C=>by
   obtain⟨v,rfl,D⟩:=C;exact⟨v,rfl,D _ (c.put A)⟩
end
end
section
variable[Bs0:Base]
attribute [local semireducible] WL WC WQ
abbrev bV(x:UInt8):Xp:=.int .u8 x.toNat
theorem wrap_u8(n:Nat):(.int .u8 (IntKind.u8.wrap (n:Int)):Xp)=bV (UInt8.ofNat n):=by
 rw[IntKind.wrap_u8];simp
section
variable{ops:Xv Yf}{Q:YL->Act->Xo->Prop}{n:Nat}{ds:Md}{e:Env}{w w':Xo}{rest:Xn Yf}
variable{op:Op}{ty:XO}{pos:YG}{af:Xv Edge}{d:Nat}
variable {x:Int}
def qG (hv:yv e op=some (.int .u64 (IntKind.u64.wrap x))) (h1:0<=x) (h:x<=18446744073709551615) (H:Nat.blt d n=true) (k:WL ops Q n ds rest ((d,.int .u64 x)::e) w):WL ops Q n ds (⟨some d,op,ty,pos,af,none⟩::rest) e w:=
 dE (by rw[hv,ZM _ ⟨h1,h⟩]) H k
def vF (hv:yv e op=some (.int .u32 (IntKind.u32.wrap x))) (h1:0<=x) (h:x<=4294967295) (H:Nat.blt d n=true) (k:WL ops Q n ds rest ((d,.int .u32 x)::e) w):WL ops Q n ds (⟨some d,op,ty,pos,af,none⟩::rest) e w:=
 dE (by rw[hv,aaQ _ ⟨h1,h⟩]) H k
def IY{m:Nat}(hv:yv e op=some (.int .u8 (IntKind.u8.wrap (m:Int))))(h:Nat.blt d n=true)
 (k:WL ops Q n ds rest ((d,bV (UInt8.ofNat m))::e) w):WL ops Q n ds (⟨some d,op,ty,pos,af,none⟩::rest) e w:=
 dE (by rw[hv,wrap_u8]) h k
end
attribute [local irreducible] WL WC WQ
