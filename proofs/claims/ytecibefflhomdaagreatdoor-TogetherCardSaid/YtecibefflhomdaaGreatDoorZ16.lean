/-
  Part 16: ; ; .
-/
import Derived.Test.YtecibefflhomdaaGreatDoorZ15
set_option maxHeartbeats 8000000
set_option maxRecDepth 100000
set_option linter.all false
namespace Go.Proofs.YtecibefflhomdaaGreatDoor
open Go Proofs.Tryz
def ZN:=@mem_ready
def Z9:=@Act.put_comm
def aaA:=@Region.noSelect_spec
def aaT:=@ready_mono
def abg:=@Region.free_spec
section
variable[Bs0:Base]
section
variable{ops:Xv Yf}{Q:YL->Act->Xo->Prop}{n:Nat}{ds:Md}{e:Env}{w w':Xo}{rest:Xn Yf}
variable{op:Op}{ty:XO}{pos:YG}{af:Xv Edge}{d:Nat}{v u:Xp}{W0:Xo}{l l' r r':Xn ae}
variable {T:Nat} {x:XZ} {z:Xn Xp}
def eB (H:Sat W0 l w) (k:∀w' b,Sat W0 (blk b T z::l) w'->WL ops Q n ds rest ((d,.pointer (some ⟨b,0,none⟩))::e) w') (a:ev e x=some v:=by rfl) (c:v.cells=z.toArray:=by rfl) (f:Nat.blt d n=true:=by rfl) (h:z.all dk=true:=by first|rfl|assumption|simp[*]):WL ops Q n ds (⟨some d,.box T x,ty,pos,af,none⟩::rest) e w:=S3 H a c f k h
def aS (H:Sat W0 l w) (k:∀w' b,Sat W0 (blk b T z::l) w'->WL ops Q n ds rest ((d,.pointer (some ⟨b,0,none⟩))::e) w') (a:lk kY T=some z:=by rfl) (c:Nat.blt d n=true:=by rfl) (h:z.all dk=true:=by rfl):WL ops Q n ds (⟨some d,.alloc T,ty,pos,af,none⟩::rest) e w:=Ny H a c k h
variable {b o:Nat}
def bJ {y:XZ} {T E:Nat} {cs:Xn Xp} (H:Sat W0 l w) (k:∀w',Sat W0 l' w'->WL ops Q n ds rest e w') (a:ev e x=some (.pointer (some ⟨b,o,none⟩)):=by rfl) (c:ev e y=some v:=by rfl) (f:lk cY T=some 1:=by rfl) (t:mR l (blk b E cs) (blk b E (cs.set o v)) l':=by repeat (first|exact mR.here|apply mR.there)) (h1:dk v=true:=by rfl) (hlt:Nat.blt o cs.length=true:=by rfl) (h:DD E o=true:=by rfl):
 WL ops Q n ds (⟨none,.store T x y,ty,pos,af,none⟩::rest) e w:=IX H a c f h1 t hlt k h
variable {E:Nat}
def eS {t:Nat} {z:Xp} (H:Sat W0 l w) (kk:∀w' b,Sat W0 (blk b E [v]::l) w'->WL ops Q n ds rest ((d,.slice (some ⟨b,0,none⟩) 1 1)::e) w') (a:ev e x=some v:=by rfl) (c:lk dK t=some E:=by rfl) (h:lk cY E=some 1:=by rfl) (f:lk kY E=some [z]:=by rfl) (h1:dk v=true:=by rfl) (g:Nat.blt d n=true:=by rfl):
 WL ops Q n ds (⟨some d,.buildSlice t 1 #[(0,x)],ty,pos,af,none⟩::rest) e w:=QK H a c h f h1 g kk
variable {bs:Bs}
def CL {y:XZ} {b c:Nat} {z:UInt8} (h:Sat W0 l w) (kk:∀V w',Sat W0 (cP V (bs++[z])::r') w'->WL ops Q n ds rest ((d,V)::e) w') (H:ev e x=some v:=by rfl) (a:ev e y=some (.slice (some ⟨b,0,none⟩) 1 c):=by rfl) (f:Take (cP v bs) l r:=by repeat (first|exact Take.here|apply Take.there)) (t:Take (blk b 5 [bV z]) r r':=by repeat (first|exact Take.here|apply Take.there)) (g:Nat.blt d n=true:=by rfl) (hm:bs.length+1<=140737488355328:=by simp<;>omega):
 WL ops Q n ds (⟨some d,.call { callee:=.builtin .append,args:=#[x,y],argTypes:=#[93,93] },ty,pos,af,none⟩::rest) e w:=E3 z h H a f t hm g kk
def QM {y:XZ} {s:Bs} (h:Sat W0 l w) (kk:∀V w',Sat W0 (cP V (bs++s)::r) w'->WL ops Q n ds rest ((d,V)::e) w') (H:ev e x=some v:=by rfl) (a:ev e y=some (str s):=by rfl) (t:Take (cP v bs) l r:=by repeat (first|exact Take.here|apply Take.there)) (c:Nat.blt d n=true:=by rfl) (hm:bs.length+s.length<=140737488355328:=by simp<;>omega):
 WL ops Q n ds (⟨some d,.call { callee:=.builtin .append,args:=#[x,y],argTypes:=#[93,9] },ty,pos,af,none⟩::rest) e w:=pD (m:=s.length) h H a t (S4 rfl) hm c kk
def IZ {y:XZ} {ns:Bs} (h:Sat W0 l w) (kk:∀V w',Sat W0 (cP V (bs++ns)::r) w'->WL ops Q n ds rest ((d,V)::e) w') (H:ev e x=some v:=by rfl) (a:ev e y=some u:=by rfl) (c:Take (cP v bs) l r:=by repeat (first|exact Take.here|apply Take.there)) (t:Take (cP u ns) l r':=by repeat (first|exact Take.here|apply Take.there)) (f:Nat.blt d n=true:=by rfl) (hm:bs.length+ns.length<=140737488355328:=by simp<;>omega):
 WL ops Q n ds (⟨some d,.call { callee:=.builtin .append,args:=#[x,y],argTypes:=#[93,93] },ty,pos,af,none⟩::rest) e w:=pD (m:=ns.length) h H a c (vG rfl t) hm f kk
variable {cs:Xn Xp}
def kM {sh:XN} (vs:Xn Xp) (H:Sat W0 l w) (t:Take (ob sh b (.cells cs.toArray E (0,0))) l r) (f:lk kV T=some true) (g:lk cY T=some vs.length) (a:iZ cs o vs) (h:Nw E o vs:=by first|exact .inl rfl|exact .inr rfl|exact .inl (by assumption)):
 ∀W,Ry w W->aR (loadVar T ⟨b,o,none⟩) W (.agg vs.toArray):=λW c=>lG f g ((H.ry c).cell t) a λj i=>(H.ry c).CH t a h j i
def fG {y:XZ} {T E:Nat} {cs vs:Xn Xp} (H:Sat W0 l w) (k:∀w',Sat W0 l' w'->WL ops Q n ds rest e w') (a:ev e x=some (.pointer (some ⟨b,0,none⟩)):=by rfl) (c:ev e y=some (.agg vs.toArray):=by rfl) (f:lk cY T=some vs.length:=by rfl) (t:mR l (blk b E cs) (blk b E vs) l':=by repeat (first|exact mR.here|apply mR.there)) (hl:vs.length=cs.length:=by rfl) (h1:vs.all dk=true:=by rfl) (h:DD E 0=true:=by rfl):
 WL ops Q n ds (⟨none,.store T x y,ty,pos,af,none⟩::rest) e w:=
 Hg H a c f h1 (by
  have:dL cs 0 vs=vs:=by unfold dL;rw[X0,hl];simp
  rw[this];exact t) (by omega) k h
def cx{parts:Xv (Nat×XZ)}{t:Nat}{ps:Xn (Nat×Xp)}{pl:Xn (Nat×Nat)}{z:Xn Xp}(cs:Xn Xp)(k:WL ops Q n ds rest ((d,.agg cs.toArray)::e) w)
 (H:E4 e parts.toList=some ps:=by rfl) (h:lk nY t=some pl:=by rfl) (a:lk kY t=some z:=by rfl)
 (c:p8 (λi=>pl[i]?) z ps=some cs:=by rfl) (f:Nat.blt d n=true:=by rfl):WL ops Q n ds (⟨some d,.build t parts,ty,pos,af,none⟩::rest) e w:=NA H h a c f k
variable {p:Prop}
def E6 [Decidable p] (hv:yv e op=some (.bool (decide p))) (H:p) (h:Nat.blt d n=true) (k:WL ops Q n ds rest ((d,.bool true)::e) w):WL ops Q n ds (⟨some d,op,ty,pos,af,none⟩::rest) e w:=dE (by grind) h k
def E7 [Decidable p] (hv:yv e op=some (.bool (decide p))) (H:¬p) (h:Nat.blt d n=true) (k:WL ops Q n ds rest ((d,.bool false)::e) w):WL ops Q n ds (⟨some d,op,ty,pos,af,none⟩::rest) e w:=dE (by grind) h k
def E8{b:XN}(hv:yv e op=some (.bool b))(H:b=true)(h:Nat.blt d n=true)(k:WL ops Q n ds rest ((d,.bool true)::e) w):WL ops Q n ds (⟨some d,op,ty,pos,af,none⟩::rest) e w:=dE (by grind) h k
def E9{b:XN}(hv:yv e op=some (.bool b))(H:b=false)(h:Nat.blt d n=true)(k:WL ops Q n ds rest ((d,.bool false)::e) w):WL ops Q n ds (⟨some d,op,ty,pos,af,none⟩::rest) e w:=dE (by grind) h k
variable {f:FuncId} {vs:Xn Xp}
def ak {xs:Xv XZ} {at_:Xv XO} {u:Unit} (h:Calls prog f vs.toArray w λx w'=>∃v,x=.returned v/\WL ops Q n ds rest ((d,v)::e) w') (H:lk vC f=some u:=by rfl) (a:evs e xs.toList=some vs:=by rfl) (c:Nat.blt d n=true:=by rfl):
 WL ops Q n ds (⟨some d,.call { callee:=.value (.func f),args:=xs,argTypes:=at_ },ty,pos,af,none⟩::rest) e w:=QJ H a c h
def met {vs:Xv Xp} {R R':Ending->Xo->Prop} (h:Calls prog f vs w R) (k:∀x w',R x w'->R' x w'):Calls prog f vs w R':=h.mono k
end
end
section
variable[Bs0:Base]
attribute [local semireducible] WL WC WQ
def CM(ops:Xv Yf)(i k:Nat):XN:=match ops[i]? with
 | some o=>o.after.toList.any λe=>Region.binds .any e&&Nat.beq e.on k
 | none=>false
def CN(ops:Xv Yf)(i k:Nat):XN:=match ops[i]? with
 | some o=>o.after.toList.any λe=>Region.binds .any e&&(Nat.beq e.on k||CM ops e.on k)
 | none=>false
def lastB(ops:Xv Yf)(i:Nat):XN:=
 (List.range ops.size).all λk=>Nat.beq k i||CN ops i k
def jC(ops:Xv Yf)(listed:Xv XN):Prop:=∀j o,ops[j]?=some o->listed.getD j true=true->∀e∈o.after,Region.binds .any e=true->listed.getD e.on false=true
variable {ops:Xv Yf} {listed:Xv XN} {k j:Nat} {o:Yf}
theorem Au (b:ops[j]?=some o) (H:∀e∈o.after,Region.binds .any e=true->listed.getD e.on false=true) (h:CM ops j k=true):listed.getD k false=true:=by
 rw[CM,b]at h;simp only[YR,Yp,Z6]at h;have⟨E,a,c,d⟩:=h;rw[<- YX d];exact H E a c
def tQ (g:jC ops listed) (i:ops[j]?=some o) (b:∀e∈o.after,Region.binds .any e=true->listed.getD e.on false=true) (h:CN ops j k=true):listed.getD k false=true:=by
 rw[CN,i]at h;simp only[YR,Yp,ZW,Z6]at h;have⟨E,c,l,H⟩:=h;have d:=b E c l;rcases H with H|H
 .rw[<- YX H];exact d
 .cases a:ops[E.on]? with
  | none=>unfold CM at H;rw[a]at H;cases H
  | some O=>exact Au a (g E.on O a (by
   have f:E.on<listed.size:=by
    grind
   simp[f]at d |-;exact d)) H
theorem mX (b:jC ops listed) {i:Nat} {O:Yf} (c:ops[i]?=some O) (H:∀e∈O.after,Region.binds .any e=true->listed.getD e.on false=true):jC ops (listed.setIfInBounds i true):=by
 intro j o d a e f g;have K:∀k,listed.getD k false=true->(listed.setIfInBounds i true).getD k false=true:=λk h=>getD_set_true h;by_cases l:i=j
 .grind
 .rw[getD_set_ne true l]at a;exact K _ (b j o d a e f g)
section
variable{ro:XB Nat}{ops:Xv Yf}{Q:YL->Act->Xo->Prop}{S:Xo->Prop}{P:YW}
theorem vI{ro:XB Nat}(o:Yf)(f:∀C b,o.op≠.select C b)(a:Act)(D:XB Tmp)(v:Xp)(h:∀d,D=some d->d ∉ o.looksAt ops) :
 o.semAt ro (a.put D v).eval=o.semAt ro a.eval:=by
 have e:=execOp_put o f a D v h;unfold Oper.semAt;cases ro with
 | none=>exact e
 | some l=>
  cases g:o.op<;>first|exact e|skip
  rename_i c;have:=resolve_congr (ρ:=(a.put D v).eval) (ρ':=a.eval) c o.type λx i=>Act.eval_put λd m H=>h d m (by
   subst H;exact Ye _ (ZD.2 ⟨.tmp d,by simpa[g,Op.operands]using i,rfl⟩))
  grind
theorem QN(o:Yf)(a:Act)(D:XB Tmp)(v:Xp)(h:∀d,D=some d->d ∉ o.looksAt ops):Qt o (a.put D v).eval=Qt o a.eval:=by
 unfold Qt;cases b:o.op<;>try rfl
 rename_i c;have⟨C,A,e⟩:=c;cases C<;>try rfl
 rename_i f;have:(a.put D v).eval f=a.eval f:=Act.eval_put λd g H=>h d g (by
  subst H;exact Ye _ (ZD.2 ⟨.tmp d,by simp[b,Op.operands,Call.operands],rfl⟩))
 grind
def j0(ro:XB Nat)(ops:Xv Yf)(i:Nat)(K:Act->Xo->Prop)(a:Act)(w:Xo):Prop:=match ops[i]? with
 | none=>K a w
 | some o=>if Region.wanted o (yielded ops a.tmps)then Qu ro o a K w else K (a.put o.dst undef) w
variable {o:Yf} {a:Act} {K K':Act->Xo->Prop} {w:Xo}
def EC.mono (h:∀a w,K a w->K' a w) {x:Next} (H:EC ro o a K x w):EC ro o a K' x w:=by
 cases x with
 | value u=>exact h _ _ H
 | skip=>exact h _ _ H
 | defer d=>exact h _ _ H
 | enter f A=>
  show dJ f A w λx w=>∃u,x=.returned u/\K' (a.put o.dst u) w;exact dJ.mono (show dJ f A w λx w=>∃u,x=.returned u/\K (a.put o.dst u) w from H) λe w c=>by grind
 | round l f t b B=>
  show iO l f t b B w λx w=>∃u,x=.returned u/\K' (a.put o.dst u) w;exact iO.mono (show iO l f t b B w λx w=>∃u,x=.returned u/\K (a.put o.dst u) w from H) λe w c=>by grind
 | _=>exact H.elim
def Qu.mono (h:∀a w,K a w->K' a w) (H:Qu ro o a K w):Qu ro o a K' w:=H.imp (λH W b=>
 let ⟨x,v,c,d⟩:=H W b
 ⟨x,v,c,d.mono h⟩) λ⟨A,b,c⟩=>⟨A,b,λu v H=>h _ _ (by grind)⟩
variable {i:Nat}
def jD (h:∀a w,K a w->K' a w) (H:j0 ro ops i K a w):j0 ro ops i K' a w:=by
 unfold j0 at *;cases b:ops[i]? with
 | none=>simp[b]at H |-;exact h _ _ H
 | some o=>
  simp[b]at H |-;split
  .rename_i c;rw[XE c]at H;exact H.mono h
  grind
def rE {w1:Xo} (c:∀a w w1,K a w->Ry w w1->K a w1) (h:j0 ro ops i K a w) (H:Ry w w1):j0 ro ops i K a w1:=by
 unfold j0 at *;cases b:ops[i]? with
 | none=>simp[b]at h |-;exact c _ _ _ h H
 | some o=>
  simp[b]at h |-;split
  .rename_i d;rw[XE d]at h;exact h.rely H
  grind
def ND(i:Nat)(rest:Xn Nat)(a:Act)(w:Xo):Dz ro ops Q (i::rest) a w=j0 ro ops i (Dz ro ops Q rest) a w:=by
 cases h:ops[i]?<;>simp[Dz,j0,h]
def I0(ro:XB Nat)(ops:Xv Yf)(Q:YL->Act->Xo->Prop):Nat->Xv XN->Act->Xo->Prop
 | 0,listed,a,w=>Region.ready .any ops listed=[]/\Cl (Q .normal) a w
 | fuel+1,listed,a,w=>
  (Region.ready .any ops listed=[]->Cl (Q .normal) a w) /\
  ∀i∈Region.ready .any ops listed,j0 ro ops i (I0 ro ops Q fuel (listed.setIfInBounds i true)) a w
def qK:∀(fuel t:Nat) (listed:Xv XN) (a:Act) (w:Xo),I0 ro ops Q fuel listed a w ->
 Dz ro ops Q (Region.linearise.go .any ops fuel t listed []) a w:=by
 intro fuel
 induction fuel with
 | zero=>intro t listed a w h;simpa[Region.linearise.go,Dz]using h.2
 | succ fuel I=>
  intro t listed a w h;have⟨b,d⟩:=h;change Dz ro ops Q (match (Region.ready .any ops listed)[t%(Region.ready .any ops listed).length]? with
   | some i=>Region.linearise.go .any ops fuel _ _ [i]
   | none=>[].reverse) a w
  cases e:(Region.ready .any ops listed)[t%(Region.ready .any ops listed).length]? with
  | none=>
   have H:Region.ready .any ops listed=[]:=by
    cases f:Region.ready .any ops listed with
    | nil=>rfl
    | cons x X=>
     have c:t%(x::X).length<(x::X).length:=abo _ (by simp)
     grind
   simpa[Dz]using b H
  | some i=>
   simp;rw[linearise_go_acc,List.reverse_singleton,abB,ND];exact jD (λa w=>I _ _ a w) (by grind)
def qg(ro:XB Nat)(ops:Xv Yf)(S:Xo->Prop)(o:Yf)(v:Xp)(a:Act):Prop:=
 (Region.wanted o (yielded ops a.tmps)=true/\∀w,S w->dr (o.semAt ro a.eval) w (.value v) w) \/
 (Region.wanted o (yielded ops a.tmps)=false/\v=undef)
variable {v:Xp}
def qg.j0 (b:ops[i]?=some o) (c:qg ro ops S o v a) (d:∀w W,S w->Ry w W->S W) (e:∀a w W,K a w->Ry w W->K a W) (g:S w) (h:K (a.put o.dst v) w):
 YtecibefflhomdaaGreatDoor.j0 ro ops i K a w:=by
 unfold YtecibefflhomdaaGreatDoor.j0;simp[b];rcases c with⟨H,l⟩|⟨H,rfl⟩
 .rw[XE H];exact .inl λW f=>⟨.value v,W,by grind,e _ _ _ h f⟩
 .grind
def qg.of_same {a':Act} (h:qg ro ops S o v a) (H:o.semAt ro a'.eval=o.semAt ro a.eval) (b:Region.wanted o (yielded ops a'.tmps)=Region.wanted o (yielded ops a.tmps)):qg ro ops S o v a':=by
 unfold qg at *;rw[H,b];exact h
variable {j:Nat} {oi:Yf}
def Fa {O:Yf} (J:ops[j]?=some O) (y:oi.apart ops O=true) (z:∀C b,oi.op≠.select C b) (n:∀C b,O.op≠.select C b) (p:qg ro ops S oi v a) (h:j0 ro ops j K (a.put oi.dst v) w):
 j0 ro ops j (λF W=>qg ro ops S oi v F/\K (F.put oi.dst v) W) a w:=by
 have⟨s,g,G⟩:=Oper.apart_spec y;have keep:∀(a:Act),qg ro ops S oi v a->∀u,qg ro ops S oi v _:=λa p u=>
  p.of_same (vI oi z a O.dst u G) (wanted_put oi a O.dst u G)
 have B:∀d,qg ro ops S oi v { a with defers:=d::a.defers }:=λd=>p.of_same rfl rfl;unfold j0 at *;simp only[J]at *;rw[wanted_put O a oi.dst v s]at h;split
 .rename_i D;rw[XE D]at h;rcases h with h|⟨A,M,q⟩
  rotate_left
  .refine .inr ⟨A,λN E=>by rw[<- vI O n a oi.dst v s,<- QN O a oi.dst v s];exact M N E,λu V l=>⟨by grind,by rw[<- Z9 a v u g];exact q u V l⟩⟩
  refine .inl λR T=>?_;have⟨x,V,H,l⟩:=h R T;rw[vI O n a oi.dst v s]at H;refine⟨x,V,H,?_⟩;cases x with
  | value u=>exact⟨by grind,by rw[<- Z9 a v u g];exact l⟩
  | skip=>exact⟨by grind,by rw[<- Z9 a v undef g];exact l⟩
  | defer d=>
   refine⟨by grind,?_⟩;rwa[<- Z9 _ v undef g,<- Act.put_defers]
  | enter f c=>
   show dJ f c V λx w=>∃u,x=.returned u/\qg ro ops S oi v (a.put O.dst u)/\K ((a.put O.dst u).put oi.dst v) w;exact dJ.mono (show dJ f c V λx w=>∃u,x=.returned u/\K ((a.put oi.dst v).put O.dst u) w from l) λe w m=>by
    have⟨u,m,q⟩:=m;exact⟨u,m,by grind,by rw[<- Z9 a v u g];exact q⟩
  | round L f t r I=>
   show iO L f t r I V λx w=>∃u,x=.returned u/\qg ro ops S oi v (a.put O.dst u)/\K ((a.put O.dst u).put oi.dst v) w;exact iO.mono (show iO L f t r I V λx w=>∃u,x=.returned u/\K ((a.put oi.dst v).put O.dst u) w from l) λe w m=>by
    have⟨u,m,q⟩:=m;exact⟨u,m,keep a p u,by rw[<- Z9 a v u g];exact q⟩
  | _=>exact l.elim
 .rename_i D;rw[Xx D]at h;exact⟨keep a p _,by rw[<- Z9 a v undef g];exact h⟩
def S7(ro:XB Nat)(ops:Xv Yf)(Q:YL->Act->Xo->Prop)(S:Xo->Prop):Nat->Xv XN->Act->Xo->Prop
 | 0,listed,a,w=>Region.ready .any ops listed=[]/\Cl (Q .normal) a w
 | fuel+1,listed,a,w=>
  (Region.ready .any ops listed=[]->Cl (Q .normal) a w) /\
  ∀i∈Region.ready .any ops listed,j0 ro ops i (λA W=>(lastB ops i=false->S W)/\S7 ro ops Q S fuel (listed.setIfInBounds i true) A W) a w
def I1:∀(fuel:Nat) (listed:Xv XN) (a:Act) (w:Xo),S7 ro ops Q S fuel listed a w->I0 ro ops Q fuel listed a w
 | 0,_,_,_,h=>h
 | fuel+1,_,_,_,h=>⟨h.1,λi H=>jD (λA W k=>I1 fuel _ A W k.2) (h.2 i H)⟩
def yL(b:∀w W,S w->Ry w W->S W):∀(fuel:Nat) (listed:Xv XN) (a:Act) (w W:Xo),S7 ro ops Q S fuel listed a w->Ry w W->S7 ro ops Q S fuel listed a W
 | 0,_,_,_,_,h,H=>⟨h.1,h.2.rely H⟩
 | fuel+1,_,_,_,_,h,H=>⟨λd=>(h.1 d).rely H,λi e=>rE (λa w W c H=>⟨λf=>b _ _ (c.1 f) H,yL b fuel _ _ _ _ c.2 H⟩) (h.2 i e) H⟩
variable {listed:Xv XN}
theorem NF (h:i∈Region.ready .any ops listed):i<ops.size:=by
 have⟨_,o,H,_⟩:=ZN.1 h
 grind
def NG (f:jC ops listed) (c:i∈Region.ready .any ops listed) (g:j∈Region.ready .any ops listed) (l:j≠i):lastB ops j=false:=by
 cases h:lastB ops j with
 | false=>rfl
 | true=>
  have H:=X4.1 h i (Z7.2 (NF c));simp at H;rcases H with H|H
  .simp_all
  .have⟨d,o,m,b⟩:=ZN.1 g;have q:=tQ f m (λe n p=>b e n p) H;have r:=(ZN.1 c).1
   grind
def KO (d:∀w W,S w->Ry w W->S W) (A:ops[i]?=some oi) (m:∀(j:Nat) (o:Yf) C b,ops[j]?=some o->o.op≠.select C b):∀(fuel:Nat) (listed:Xv XN) (a:Act) (w:Xo),jC ops listed ->
 (∀j O,ops[j]?=some O->j≠i->listed.getD j true=false->(∀e∈O.after,Region.binds .any e=true->e.on≠i)->oi.apart ops O=true) ->
 i∈Region.ready .any ops listed->qg ro ops S oi v a->S w ->
 S7 ro ops Q S fuel (listed.setIfInBounds i true) (a.put oi.dst v) w->S7 ro ops Q S (fuel+1) listed a w:=by
 intro fuel
 induction fuel with
 | zero=>
  intro listed a w _ _ g y p H;refine⟨λh=>(by grind),λj q=>?_⟩;rcases aap (j=i)with rfl|c
  .exact y.j0 A d (λa w W n g=>⟨λB=>d _ _ (n.1 B) g,yL d _ _ _ _ _ n.2 g⟩) p ⟨λ_=>p,H⟩
  .have:=aaT q c;rw[H.1]at this;cases this
 | succ fuel I=>
  intro listed a w r f g y p H;refine⟨λh=>(by grind),λj q=>?_⟩;rcases aap (j=i)with rfl|c
  .exact y.j0 A d (λa w W n g=>⟨λB=>d _ _ (n.1 B) g,yL d _ _ _ _ _ n.2 g⟩) p ⟨λ_=>p,H⟩
  have⟨s,O,l,t⟩:=ZN.1 q;have u:∀e∈O.after,Region.binds .any e=true->e.on≠i:=λe N R G=>by
   have T:=(ZN.1 g).1
   grind
  refine jD (λJ L z=>⟨z.2.1,I _ J L (mX r l t) (λk M n D x E=>f k M n D ?_ E) (aaT g (YP c)) z.1 (z.2.1 (NG r g q c)) (by rw[aa8 _ _ c];exact z.2.2)⟩) (Fa l (f j O l c s u) (λC b=>m i oi C b A) (λC b=>m j O C b l) y (H.2 j (aaT q c)));rcases aap (j=k)with rfl|F
  .omega
  .rw[getD_set_ne true F]at x;exact x
def wo(ro:XB Nat)(ops:Xv Yf)(Q:YL->Act->Xo->Prop)(S:Xo->Prop):Xn (Nat×XN)->Act->Xo->Prop
 | [],a,w=>Cl (Q .normal) a w
 | (i,false)::r,a,w=>∃o v,ops[i]?=some o/\qg ro ops S o v a/\S w/\wo ro ops Q S r (a.put o.dst v) w
 | (i,true)::r,a,w=>j0 ro ops i (λA W=>(lastB ops i=false->S W)/\wo ro ops Q S r A W) a w
def yM(ops:Xv Yf):Xn (Nat×XN)->Xv XN->XN
 | [],listed=>(Region.ready .any ops listed).isEmpty
 | (i,false)::r,listed=>Region.free .any ops listed i&&(Region.ready .any ops listed).contains i&&yM ops r (listed.setIfInBounds i true)
 | (i,true)::r,listed=>(Region.ready .any ops listed==[i])&&yM ops r (listed.setIfInBounds i true)
def CO(b:∀w W,S w->Ry w W->S W):∀(ord:Xn (Nat×XN)) (a:Act) (w W:Xo),wo ro ops Q S ord a w->Ry w W->wo ro ops Q S ord a W
 | [],_,_,_,h,H=>h.rely H
 | (i,false)::r,_,_,_,⟨o,v,d,e,g,h⟩,H=>⟨o,v,d,e,by grind,CO b r _ _ _ h H⟩
 | (i,true)::r,_,_,_,h,H=>rE (λa w W c H=>⟨λf=>b _ _ (c.1 f) H,CO b r _ _ _ c.2 H⟩) h H
def Hl(f:∀w W,S w->Ry w W->S W)(b:Region.noSelect ops=true) :
 ∀(ord:Xn (Nat×XN)) (listed:Xv XN) (a:Act) (w:Xo),jC ops listed->yM ops ord listed=true->wo ro ops Q S ord a w->S7 ro ops Q S ord.length listed a w
 | [],listed,a,w,_,H,h=>⟨by simpa[yM]using H,h⟩
 | (i,false)::r,listed,a,w,e,H,⟨o,v,n,q,s,h⟩=>by
  simp[yM]at H;have⟨⟨t,p⟩,H⟩:=H;have l:i∈Region.ready .any ops listed:=by omega
  have c:jC ops (listed.setIfInBounds i true):=by
   have⟨_,O,g,d⟩:=ZN.1 l;exact mX e g d
  exact KO f n (aaA b) r.length listed a w e (abg n t) l q s (Hl f b r _ _ w c H h)
 | (i,true)::r,listed,a,w,e,H,h=>by
  simp[yM]at H;have⟨p,H⟩:=H;refine⟨λx=>(by grind),λj m=>?_⟩;have c:jC ops (listed.setIfInBounds j true):=by
   have⟨_,O,g,d⟩:=ZN.1 m;exact mX e g d
  rw[p]at m;simp at m;subst m;exact jD (λA u k=>⟨k.1,Hl f b r _ A u c H k.2⟩) h
end
class rZ(Q:YL->Act->Xo->Prop):Prop where
 ind:∀c a dst v w,Q (.panic c) (Act.put a dst v) w->Q (.panic c) a w
instance{K:Act->Xo->Prop}{Q:YL->Act->Xo->Prop}[h:rZ Q]:rZ (Exit.then K Q):=⟨h.ind⟩
instance{id:Nat}{Q:YL->Act->Xo->Prop}[h:rZ Q]:rZ (Exit.inBlock id Q):=⟨h.ind⟩
instance{α:Type}{E:α->Env}{I:α->Xo->Prop}{μ:α->Nat}{z:α}{n:Nat}{ds:Md}{Q:YL->Act->Xo->Prop}[h:rZ Q]:rZ (Bu E I μ z n ds Q):=⟨h.ind⟩
instance{rs:Xn ResultVar}{R:Ending->Xo->Prop}:rZ (KJ rs R):=⟨λc a dst v w h=>by
 cases dst<;>exact h⟩
def WO(ops:Xv Yf)(Q:YL->Act->Xo->Prop)(S:Xo->Prop)(n:Nat)(d:Md)(ord:Xn (Nat×XN))(e:Env)(w:Xo):Prop:=
 ∀a,Fr n d e a->S w->wo d.round ops Q S ord a w
theorem mixed:prog.follows .mixedOrders=true:=by kernel_rfl
section
variable{ops:Xv Yf}{Q:YL->Act->Xo->Prop}{n:Nat}{ds:Md}{e:Env}{w w':Xo}{ord:Xn (Nat×XN)}
variable{op:Op}{ty:XO}{pos:YG}{af:Xv Edge}{d i:Nat}{v u:Xp}{W0:Xo}{l l' r r':Xn ae}
inductive mY:Xn ae->Xn ae->Prop
 | nil {l:Xn ae}:mY [] l
 | refl {l:Xn ae}:mY l l
 | skip {A:ae} {l a:Xn ae}:mY a l->mY a (A::l)
 | cons {A:ae} {l r a:Xn ae}:Take A l r->mY a r->mY (A::a) l
variable {a:Xn ae}
theorem Sat.sub (h:Sat W0 l w) (s:mY a l):Sat W0 a w:=by
 have key:∀ {a l:List ae},mY a l->∀ h,cj l h->cj a h:=by
  intro a l s
  induction s with
  | nil=>intro _ _;trivial
  | refl=>exact fun _ k=>k
  | skip _ I=>intro h k;exact I h (rz k)
  | cons t _ I=>intro h k;exact bH I (t.to k)
 exact h.imp (key s)
def Sat.to (h:Sat W0 l w) (s:mY a l:=by repeat (first|exact mY.refl|exact mY.nil|refine mY.cons (by repeat constructor) ?_|refine mY.skip ?_)):Sat W0 a w:=h.sub s
def bU{id:Nat}{O:Xn Yf}[y:rZ Q][pr Q](L:Xn ae)(ord:Xn (Nat×XN))(b:Sat W0 l w)
 (H:(yM O.toArray ord (Array.replicate O.length false)&&Nat.beq ord.length O.length&&Region.noSelect O.toArray&&(ds.round.isNone||IU O))=true)
 (k:∀w,Sat W0 l w->WO O.toArray Q (Sat W0 L) n ds ord e w) (sub:mY L l:=by repeat (first|exact mY.refl|exact mY.nil|refine mY.cons (by repeat constructor) ?_|refine mY.skip ?_)):WC (.region id O.toArray true) Q n ds e w:=λa f=>by
 simp only[Yp]at H;have⟨⟨⟨g,c⟩,m⟩,z⟩:=H;refine yt λt=>?_;simp[mixed];refine qK O.toArray.size t _ _ _ (I1 (S:=Sat W0 L) _ _ _ _ ?_);have p:O.toArray.size=ord.length:=by simp[YX c]
 rw[p];have E:=YX c;rw[E,<- E,E];have:=Hl (λw W h q=>Sat.ry h q) m ord _ a w (λj o A s=>by
  have x:j<O.length:=by grind
  simp[x]at s) g (k _ b a f (b.sub sub))
 rw[E]at this;exact this
variable {S:Xo->Prop}
def CP (k:WQ Q .normal n ds e w):WO ops Q S n ds [] e w:=λa h _=>k a h
variable {g:XB (Nat×XN)}
def rF (c:∀a,Fr n ds e a->Region.wanted ⟨some d,op,ty,pos,af,g⟩ (yielded ops a.tmps)=true) (f:ops[i]?=some ⟨some d,op,ty,pos,af,g⟩) (h:∀a w',Fr n ds e a->S w'->aR (execOp a.eval ⟨some d,op,ty,pos,af,g⟩) w' (.value v)) (m:Nat.blt d n=true) (k:WO ops Q S n ds ord ((d,v)::e) w):WO ops Q S n ds ((i,false)::ord) e w:=λa H b=>
 ⟨_,v,f,.inl ⟨c a H,λw' p=>(h a w' H p).oL.bu (λ_ h=>by grind) _⟩,b,k _ (H.put m) b⟩
def qh (H:ops[i]?=some ⟨some d,op,ty,pos,af,none⟩) (hv:yv e op=some v) (b:Nat.blt d n=true) (k:WO ops Q S n ds ord ((d,v)::e) w):WO ops Q S n ds ((i,false)::ord) e w:=
 rF (λ_ _=>rfl) H (λa w' h _=>(Still.of (qC h hv) λE=>qD h hv).look) b k
def QO {x:Int} (h:ops[i]?=some ⟨some d,op,ty,pos,af,none⟩) (hv:yv e op=some (.int .i64 (IntKind.i64.wrap x))) (h1:-9223372036854775808<=x) (H:x<=9223372036854775807) (b:Nat.blt d n=true) (k:WO ops Q S n ds ord ((d,.int .i64 x)::e) w):WO ops Q S n ds ((i,false)::ord) e w:=qh h (by rw[hv,wrap_i64 h1 H]) b k
variable {p:Prop}
def I2 [Decidable p] (h:ops[i]?=some ⟨some d,op,ty,pos,af,none⟩) (hv:yv e op=some (.bool (decide p))) (b:p) (H:Nat.blt d n=true) (k:WO ops Q S n ds ord ((d,.bool true)::e) w):WO ops Q S n ds ((i,false)::ord) e w:=qh h (by grind) H k
def I3 [Decidable p] (h:ops[i]?=some ⟨some d,op,ty,pos,af,none⟩) (hv:yv e op=some (.bool (decide p))) (b:¬p) (H:Nat.blt d n=true) (k:WO ops Q S n ds ord ((d,.bool false)::e) w):WO ops Q S n ds ((i,false)::ord) e w:=qh h (by grind) H k
variable {x:XZ} {T b o E:Nat} {sh:XN} {cs:Xn Xp}
def xn {a:Act} (f:Fr n ds e a) (H:Sat W0 l w) (m:ev e x=some (.pointer (some ⟨b,o,none⟩))) (q:lk kV T=some false) (t:Take (ob sh b (.cells cs.toArray E (0,0))) l r) (c:cs[o]?=some v) (h:SX E o v):aR (execOp a.eval ⟨some d,.load T x,ty,pos,af,g⟩) w (.value v):=by
 simp[execOp,f.ev m];exact aR.bind (aR.bind (aR.pure _) (lF q ((H.cell t o).trans c) (H.R9 t c h))) (aR.pure _)
def NH {vs:Xn Xp} {a:Act} (f:Fr n ds e a) (H:Sat W0 l w) (m:ev e x=some (.pointer (some ⟨b,o,none⟩))) (q:lk kV T=some true) (s:lk cY T=some vs.length) (t:Take (ob sh b (.cells cs.toArray E (0,0))) l r) (c:iZ cs o vs) (h:Nw E o vs):aR (execOp a.eval ⟨some d,.load T x,ty,pos,af,g⟩) w (.value (.agg vs.toArray)):=by
 simp[execOp,f.ev m];exact aR.bind (aR.bind (aR.pure _) (lG q s (H.cell t) c λj y=>H.CH t c h j y)) (aR.pure _)
variable {l0:Xn ae}
def tR (H:ops[i]?=some ⟨some d,.load T x,ty,pos,af,none⟩) (c:ev e x=some (.pointer (some ⟨b,o,none⟩))) (f:lk kV T=some false) (t:Take (ob sh b (.cells cs.toArray E (0,0))) l0 r) (m:cs[o]?=some v) (q:Nat.blt d n=true) (k:WO ops Q (Sat W0 l0) n ds ord ((d,v)::e) w) (h:SX E o v:=by first|exact .inl rfl|exact .inr rfl|exact .inl (by assumption)):WO ops Q (Sat W0 l0) n ds ((i,false)::ord) e w:=
 rF (λ_ _=>rfl) H (λa w' s y=>xn s y c f t m h) q k
def ia (vs:Xn Xp) (H:ops[i]?=some ⟨some d,.load T x,ty,pos,af,none⟩) (c:ev e x=some (.pointer (some ⟨b,o,none⟩))) (f:lk kV T=some true) (m:lk cY T=some vs.length) (t:Take (ob sh b (.cells cs.toArray E (0,0))) l0 r) (q:iZ cs o vs) (s:Nat.blt d n=true) (k:WO ops Q (Sat W0 l0) n ds ord ((d,.agg vs.toArray)::e) w) (h:Nw E o vs:=by first|exact .inl rfl|exact .inr rfl|exact .inl (by assumption)):WO ops Q (Sat W0 l0) n ds ((i,false)::ord) e w:=
 rF (λ_ _=>rfl) H (λa w' y z=>NH y z c f m t q h) s k
def KP (H:ops[i]?=some ⟨some d,op,ty,pos,af,none⟩) (h:∀a w',Fr n ds e a->S w'->aR (execOp a.eval ⟨some d,op,ty,pos,af,none⟩) w' (.value v)) (c:Nat.blt d n=true) (k:WO ops Q S n ds ord ((d,v)::e) w):WO ops Q S n ds ((i,false)::ord) e w:=rF (λ_ _=>rfl) H h c k
variable {j:Nat}
def I4 {b B:XN} (m:ops[i]?=some ⟨some d,op,ty,pos,af,some (j,B)⟩) (h:gv ops e j=some b) (H:B=!b) (q:Nat.blt d n=true) (k:WO ops Q S n ds ord ((d,undef)::e) w):WO ops Q S n ds ((i,false)::ord) e w:=λa c f=>by
 subst H;have:(some b==some (!b))=false:=by simp
 exact⟨_,undef,m,.inr ⟨by simp[Region.wanted,gK c h],rfl⟩,f,k _ (c.put q) f⟩
def I5 {b:XN} (c:ops[i]?=some ⟨some d,op,ty,pos,af,some (j,b)⟩) (h:gv ops e j=some b) (hv:yv e op=some v) (f:Nat.blt d n=true) (k:WO ops Q S n ds ord ((d,v)::e) w):WO ops Q S n ds ((i,false)::ord) e w:=
 rF (λa H=>by simp[Region.wanted,gK H h]) c (λa w' H _=>(Still.of (qC (o:=⟨some d,op,ty,pos,af,some (j,b)⟩) H hv) λm=>qD (o:=⟨some d,op,ty,pos,af,some (j,b)⟩) H hv).look) f k
def CQ {g:XN} (f:ops[i]?=some ⟨some d,.load T x,ty,pos,af,some (j,g)⟩) (h:gv ops e j=some g) (m:ev e x=some (.pointer (some ⟨b,o,none⟩))) (q:lk kV T=some false) (t:Take (ob sh b (.cells cs.toArray E (0,0))) l0 r) (s:cs[o]?=some v) (y:Nat.blt d n=true) (k:WO ops Q (Sat W0 l0) n ds ord ((d,v)::e) w) (H:SX E o v:=by first|exact .inl rfl|exact .inr rfl|exact .inl (by assumption)):WO ops Q (Sat W0 l0) n ds ((i,false)::ord) e w:=
 rF (λa c=>by simp[Region.wanted,gK c h]) f (λa w' c z=>xn c z m q t s H) y k
def xo {o:Yf} (m:ops[i]?=some o) (k:WL ops (Exit.then (λa w=>(lastB ops i=false->S w)/\wo ds.round ops Q S ord a w) Q) n ds [o] e w) (H:∀w w1,S w->Ry w w1->S w1:=by exact λ_ _ h q=>Sat.ry h q):WO ops Q S n ds ((i,true)::ord) e w:=λa s A=>by
 have h:=k a s;unfold rX at h;show j0 ds.round ops i _ a w;unfold j0;simp only[m];have K:∀a w,rX ds.round ops (Exit.then (λa w=>(lastB ops i=false->S w)/\wo ds.round ops Q S ord a w) Q) [] a w->(lastB ops i=false->S w)/\wo ds.round ops Q S ord a w:=by
  rintro a w ⟨V,f,t,y⟩;exact⟨λz=>H _ _ (t z) f,CO H ord a V w y f⟩
 split at h
 .rename_i c;rw[XE c];exact h.mono K
 .rename_i c;rw[Xx c];exact K _ _ h
def I6 (h:S w) (k:WO ops Q S n ds ord e w):WQ (Exit.then (λa w=>(lastB ops i=false->S w)/\wo ds.round ops Q S ord a w) Q) .normal n ds e w:=λa H=>.of ⟨λ_=>h,k a H h⟩
def CR (hl:lastB ops i=true) (k:WQ Q .normal n ds e w):WQ (Exit.then (λa w=>(lastB ops i=false->S w)/\wo ds.round ops Q S [] a w) Q) .normal n ds e w:=λa H=>.of ⟨λh=>(by grind),k a H⟩
end
attribute [irreducible] WO
end
section
variable[Bs0:Base]
structure CS(p:Prop):Prop where
 out:p
theorem go{G g:Prop}(k:g)(h:CS g->G:=by
 (intro k
  repeat (first
   | refine E1 rfl (by omega) (by omega) rfl ?_
   | refine qG rfl (by omega) (by omega) rfl ?_
   | refine vF rfl (by omega) (by omega) rfl ?_
   | refine IY rfl rfl ?_
   | refine E6 rfl (by first|assumption|omega) rfl ?_
   | refine E7 rfl (by first|assumption|omega) rfl ?_
   | refine E8 rfl (by assumption) rfl ?_
   | refine E9 rfl (by assumption) rfl ?_
   | refine dE rfl rfl ?_
   | refine fF (by assumption) rfl rfl (by repeat constructor) (by rfl) rfl ?_
   | refine dW ?_
   | refine kj rfl ?_
   | refine lz ?_
   | refine bT rfl ?_
   | refine oK rfl ?_
   | refine mS rfl ?_
   | refine jR ?_
   | refine px ?_
   | refine yA ?_
   | refine tM ?_
   | refine kJ ?_
   | refine lQ ?_
   | refine yB ?_
   | refine mT ?_
   | refine mU ?_
   | refine lR rfl ?_
   | refine kK ?_
   | refine lS ?_
   | refine sk rfl ?_
   | refine Bw rfl rfl rfl ?_
   | refine QO rfl rfl (by omega) (by omega) rfl ?_
   | refine I2 rfl rfl (by first|assumption|omega) rfl ?_
   | refine I3 rfl rfl (by first|assumption|omega) rfl ?_
   | refine qh rfl rfl rfl ?_
   | refine tR rfl rfl rfl (by repeat constructor) (by rfl) rfl ?_
   | refine I4 rfl rfl rfl rfl ?_
   | refine I5 rfl rfl rfl rfl ?_
   | refine CQ rfl rfl rfl rfl (by repeat constructor) (by rfl) rfl ?_
   | refine CP ?_
   | refine xo rfl ?_
   | refine CR rfl ?_
   | refine I6 (Sat.to (by assumption)) ?_
   | refine ia [_,_] rfl rfl rfl rfl (by repeat constructor) (by exact⟨rfl,rfl,Xr⟩) rfl ?_
   | refine ia [_,_,_] rfl rfl rfl rfl (by repeat constructor) (by exact⟨rfl,rfl,rfl,Xr⟩) rfl ?_
   | refine ia [_,_,_,_] rfl rfl rfl rfl (by repeat constructor) (by exact⟨rfl,rfl,rfl,rfl,Xr⟩) rfl ?_
   | refine ia [_,_,_,_,_] rfl rfl rfl rfl (by repeat constructor) (by exact⟨rfl,rfl,rfl,rfl,rfl,Xr⟩) rfl ?_
   | refine ia [_,_,_,_,_,_] rfl rfl rfl rfl (by repeat constructor) (by exact⟨rfl,rfl,rfl,rfl,rfl,rfl,Xr⟩) rfl ?_
   | refine dX [_,_] (by assumption) rfl rfl rfl (by repeat constructor) (by exact⟨rfl,rfl,Xr⟩) rfl ?_
   | refine dX [_,_,_] (by assumption) rfl rfl rfl (by repeat constructor) (by exact⟨rfl,rfl,rfl,Xr⟩) rfl ?_
   | refine dX [_,_,_,_] (by assumption) rfl rfl rfl (by repeat constructor) (by exact⟨rfl,rfl,rfl,rfl,Xr⟩) rfl ?_
   | refine dX [_,_,_,_,_] (by assumption) rfl rfl rfl (by repeat constructor) (by exact⟨rfl,rfl,rfl,rfl,rfl,Xr⟩) rfl ?_
   | refine dX [_,_,_,_,_,_] (by assumption) rfl rfl rfl (by repeat constructor) (by exact⟨rfl,rfl,rfl,rfl,rfl,rfl,Xr⟩) rfl ?_)
  exact k.out)):G:=h ⟨k⟩
