/-
  Part 30: ; WALKS package api; WALKS package api; .
-/
import Derived.Test.YtecibefflhomdaaGreatDoorZ02
import Derived.Test.YtecibefflhomdaaGreatDoorZ29
import Derived.MapKept
import Derived.Laws.IdiomRangeMap
set_option maxHeartbeats 8000000
set_option maxRecDepth 100000
set_option linter.all false
namespace Go.Proofs.YtecibefflhomdaaGreatDoor
open Go Proofs.Tryz
def X3:=@MapKept.run_getObj_map
def Yx:=@MapKept.run_setObj_map
section
variable[Bs0:Base][NQ]
attribute [local semireducible] WL WC WQ
structure K5(κ:Type) where
 val:κ->Xp
 ty:XO
 desc:TypeDesc
 und:prog.underlying ty=some desc
 same:∀a b [Decidable (a=b)],Instr.sameNow desc (val a) (val b)=some (decide (a=b))
 bits:∀a,Instr.sameBits 10000 (val a) (val a)=true
 check:∀e w v,(Instr.checkKey e 10000 ty (val v)).run prog w=.ok () w
 checkQ:∀e w v es,(Instr.checkKey e 10000 ty (val v)).events prog w es=es
variable {t:XO}
theorem ub (e:XN) (w:Xo) (v:Xp) (hv:∀d x,v≠.iface d x) (h:prog.underlying t=some .string\/∃k,prog.underlying t=some (.int k)):(Instr.checkKey e 10000 t v).run prog w=.ok () w:=by
 have K:∀n,(Instr.checkKey e (n+1) t v).run prog w=.ok () w:=λn=>by
  rcases h with h|⟨k,h⟩<;>simp[Instr.checkKey,bx h]
 grind
theorem qS (e:XN) (w:Xo) (v:Xp) (es:Xv Ys) (h:prog.underlying t=some .string\/∃k,prog.underlying t=some (.int k)):(Instr.checkKey e 10000 t v).events prog w es=es:=by
 have K:∀n,(Instr.checkKey e (n+1) t v).events prog w es=es:=λn=>by
  rcases h with h|⟨k,h⟩<;>simp[Instr.checkKey,bx h]
 grind
theorem Oc(a b:Bs):((⟨a.toArray⟩:ByteArray)==⟨b.toArray⟩)=decide (a=b):=by
 show(a.toArray==b.toArray)=_
 grind
def ga:K5 Bs where
 val:=str
 ty:=9
 desc:=.string
 und:=kI (t:=9) rfl
 same a b:=by
  intro _;simp only[Instr.sameNow,Xs,Oc];rw[ZV];simp
 bits a:=by
  have key:∀n,Instr.sameBits (n+1) (str a) (str a)=true:=λn=>by simp only[Instr.sameBits,Oc,decide_true]
  exact key 9999
 check e w v:=ub e w _ (λ_ _ h=>by cases h) (.inl (kI (t:=9) rfl))
 checkQ e w v es:=qS e w _ es (.inl (kI (t:=9) rfl))
def cB:K5 Int where
 val:=.int .i64
 ty:=3
 desc:=.int .i64
 und:=lP (t:=3) rfl
 same a b:=by
  intro _;simp only[Instr.sameNow,Xs,YB];rw[ZV];simp
 bits a:=by
  have key:∀n,Instr.sameBits (n+1) (.int .i64 a) (.int .i64 a)=true:=λn=>by simp[Instr.sameBits]
  exact key 9999
 check e w v:=ub e w _ (λ_ _ h=>by cases h) (.inr ⟨_,lP (t:=3) rfl⟩)
 checkQ e w v es:=qS e w _ es (.inr ⟨_,lP (t:=3) rfl⟩)
open Pure (aB da eO)
section
variable{κ:Type}[DecidableEq κ](K:K5 κ)
def K6(e:MapEntry)(p:κ×Xp):Prop:=e.key=K.val p.1/\e.val=p.2
def jI:Xn MapEntry->Xn (κ×Xp)->Prop
 | [],[]=>True
 | e::E,p::P=>K6 K e p/\jI E P
 | _,_=>False
def bg(b:Nat)(kvs:Xn (κ×Xp)):ae:=λh=>∃E c,h b=some (false,.map E.toArray c)/\jI K E kvs/\(∀e∈E,e.born<c)/\(E.map (·.born)).Nodup
theorem ku:∀(es:Xn MapEntry) (kvs:Xn (κ×Xp)) (x:κ) (i:Nat),jI K es kvs ->
 (aB kvs x=none/\Instr.findNow K.desc (K.val x) es i=some none)\/∃j v,aB kvs x=some v/\Instr.findNow K.desc (K.val x) es i=some (some (i+j,v))/\j<es.length/\(∃e,es[j]?=some e/\e.key=K.val x) /\
  (∀u,∀E,E=es.modify j (λe=>{ e with key:=K.val x,val:=u })->jI K E (da kvs x u)/\E.map (·.born)=es.map (·.born))/\jI K (es.eraseIdx j) (eO kvs x)
 | [],[],x,i,_=>.inl ⟨rfl,rfl⟩
 | e::es,(k,v)::kvs,x,i,⟨⟨h,b⟩,a⟩=>by
  simp only[aB,Instr.findNow,h,K.same];by_cases H:x=k
  .subst H;refine .inr ⟨0,v,by simp,by grind,by simp,⟨e,rfl,h⟩,?_,?_⟩
   .rintro u _ rfl;simp[da,jI,K6,a]
   .simpa[eO]using a
  .simp only[H,XV,decide_false];rcases ku es kvs x (i+1) a with⟨g,G⟩|⟨j,V,g,G,c,d,f,l⟩
   .grind
   .refine .inr ⟨j+1,V,g,by rw[G];congr 2;congr 1;omega,by simpa using c,by simpa using d,?_,?_⟩
    .rintro u _ rfl;have⟨q,Q⟩:=f u _ rfl;simpa only[da,H,XV,List.modify_succ_cons,jI]using⟨⟨⟨h,b⟩,q⟩,by simpa using Q⟩
    .simpa only[eO,H,XV,List.eraseIdx_cons_succ,jI]using⟨⟨h,b⟩,l⟩
theorem sT:∀(es:Xn MapEntry) (kvs:Xn (κ×Xp)) (x:κ) (u:Xp) (c:Nat),jI K es kvs->aB kvs x=none->jI K (es++[⟨K.val x,u,c⟩]) (da kvs x u)
 | [],[],x,u,c,_,_=>⟨⟨rfl,rfl⟩,Xr⟩
 | e::es,(k,v)::kvs,x,u,c,⟨h,b⟩,H=>by
  unfold aB at H;by_cases a:x=k
  .grind
  .simp[a]at H;simpa[da,a]using⟨h,sT es kvs x u c b H⟩
theorem so{α:Type}:∀(kvs:Xn (κ×α)) (x:κ),aB kvs x=none->eO kvs x=kvs
 | [],_,_=>rfl
 | (k,v)::r,x,h=>by
  unfold aB at h;by_cases H:x=k
  .grind
  .simp[H]at h;simp[eO,H,so r x h]
end
section
variable{ops:Xv Yf}{Q:YL->Act->Xo->Prop}{n:Nat}{ds:Md}{e:Env}{w w':Xo}{rest:Xn Yf}
variable{op:Op}{ty:XO}{pos:YG}{af:Xv Edge}{d:Nat}{v u:Xp}{W0:Xo}{l l' r r':Xn ae}
variable{κ:Type}[DecidableEq κ](K:K5 κ){b:Nat}{kvs:Xn (κ×Xp)}{k:κ}
theorem Sat.rN(h:Sat W0 (bg K b kvs::l) w):∃E C,w.heap[b]?=some (.map E.toArray C)/\jI K E kvs/\(∀e∈E,e.born<C)/\(E.map (·.born)).Nodup/\Sat W0 (ob false b (.map E.toArray C)::l) w:=by
 have⟨a,B,c,d,H,e,f,i,j,F,L,m,⟨E,C,g,o,p,q⟩,r⟩:=h;exact⟨E,C,e _ _ (L _ _ g),o,p,q,a,B,c,d,H,e,f,i,j,F,L,m,g,r⟩
variable {clock:Nat}
theorem bL {es:Xv MapEntry} {evs:Xv Ys} (H:w.heap[b]?=some (.map es clock)):(getObj b).events prog w evs=evs.push ⟨.obj b,false,false⟩:=
 iH H (λ_ _ _ h=>by grind)
variable {clock':Nat}
theorem eL {es es':Xv MapEntry} {evs:Xv Ys} (H:w.heap[b]?=some (.map es clock)):(setObj b (.map es' clock')).events prog w evs=evs.push ⟨.obj b,true,false⟩:=
 nZ H (λ_ _ _ h=>by grind)
variable {es:Xn MapEntry} {o:XB (Nat×Xp)}
theorem fj {x:κ} {evs:Xv Ys} (h:Instr.findNow K.desc (K.val x) es 0=some o):(Instr.findKey K.ty (K.val x) es).events prog w evs=evs:=by
 simp[Instr.findKey,X6 K.und,h]
theorem aR.of{α:Type}{s:Sem α}{x:α}(h1:s.run prog w=.ok x w)(h:∀es:Xv Ys,∀ev∈s.events prog w es,ev∈es\/iM w ev):aR s w x:=λes=>⟨_,by rw[Yo,h1],h es⟩
theorem Sat.C5(h:Sat W0 (ob false b (.map #[] 0)::l) w):Sat W0 (bg K b []::l) w:=h.head λH k=>⟨[],0,k,Xr,by simp,by simp⟩
theorem fp {x:κ} (h:Instr.findNow K.desc (K.val x) es 0=some o):(Instr.findKey K.ty (K.val x) es).run prog w=.ok o w:=by
 simp[Instr.findKey,X6 K.und,h]
variable {z:Xp}
theorem FA {t:Nat} (h:(prog.info? t).bind (·.zero)=some z):(zeroValue t).run prog w=.ok z w:=by
 simp[Zr]at h;have⟨i,H,a⟩:=h;simp[zeroValue,typeInfo,H,a]
theorem Jh:(prog.info? 113).bind (·.zero)=some (.pointer none):=by kernel_rfl
variable {T elem:XO}
def Hu (c:Sat W0 (bg K b kvs::l) w) (H:lk yx T=some (K.ty,elem)) (f:(prog.info? elem).bind (·.zero)=some z) (O:XN):
 (Instr.lookup T (.map (some b)) (K.val k) O).run prog w=.ok (if O then .tuple #[(aB kvs k).getD z,.bool (aB kvs k).isSome]else(aB kvs k).getD z) w:=by
 have⟨es,clock,a,i,_,_,_⟩:=c.rN;have h:=FA (w:=w) f;rcases ku K es kvs k 0 i with⟨g,G⟩|⟨j,V,g,G,_⟩
 .have:=fp K (w:=w) G;simp[Instr.lookup,X6 (ew H),X3 a,K.check,this,h,g]
 .have:=fp K (w:=w) G;simp[Instr.lookup,X6 (ew H),X3 a,K.check,this,g]
def FB (m:Sat W0 (bg K b kvs::l) w) (a:lk yx T=some (K.ty,elem)) (p:(prog.info? elem).bind (·.zero)=some z) (O:XN):
 aR (Instr.lookup T (.map (some b)) (K.val k) O) w (if O then .tuple #[(aB kvs k).getD z,.bool (aB kvs k).isSome]else(aB kvs k).getD z):=by
 refine .of (Hu K m a p O) λevs=>?_;have⟨es,clock,H,q,_,_,c⟩:=m.rN;have s:=FA (w:=w) p;have f:(Instr.lookup T (.map (some b)) (K.val k) O).events prog w evs=evs.push ⟨.obj b,false,false⟩:=by
  rcases ku K es kvs k 0 q with⟨G,g⟩|⟨j,V,G,g,_⟩
  .simp[Instr.lookup,X6 (ew a),X3 H,bL H,K.check,K.checkQ,fp K g,λevs=>fj K (w:=w) g]
  .simp[Instr.lookup,X6 (ew a),X3 H,bL H,K.check,K.checkQ,fp K g,λevs=>fj K (w:=w) g,G]
 rw[f];intro ev i;rcases aaN.1 i with h|rfl
 .grind
 .exact .inr (c.mf .here λh=>by cases h)
variable {x y:XZ}
def vN (H:Sat W0 l w) (c:Take (bg K b kvs) l r) (f:ev e x=some (.map (some b))) (g:ev e y=some (K.val k)) (i:lk yx T=some (K.ty,elem)) (j:(prog.info? elem).bind (·.zero)=some z) (m:Nat.blt d n=true) (kk:WL ops Q n ds rest ((d,(aB kvs k).getD z)::e) w):WL ops Q n ds (⟨some d,.lookup T x y false,ty,pos,af,none⟩::rest) e w:=
 fY (λW p a h=>by simp[execOp,h.ev f,h.ev g];exact aR.bind (FB K ((H.ry p).take c) i j false) (aR.pure _)) m kk
theorem Sat.vO {es':Xn MapEntry} {kvs':Xn (κ×Xp)} (a:Sat W0 (ob false b (.map es.toArray clock)::l) w) (c:jI K es' kvs') (f:∀e∈es',e.born<clock') (g:(es'.map (·.born)).Nodup):
 Sat W0 (bg K b kvs'::l) { w with heap:=w.heap.setIfInBounds b (.map es'.toArray clock') }:=by
 have H:=a.dA;have j:=(Xz.1 H).1;refine Sat.head (Sat.oI a (o':=.map es'.toArray clock') Xr rfl rfl rfl (by simp) (by grind) λi m=>?_) λp k=>⟨es',clock',k,c,f,g⟩;exact XJ (λh=>m h.symm)
def uf {z:XZ} (A:Sat W0 l w) (U:mR l (bg K b kvs) (bg K b (da kvs k v)) l') (F:ev e x=some (.map (some b))) (I:ev e y=some (K.val k)) (p:ev e z=some v) (J:lk yx T=some (K.ty,elem)) (kk:∀w',Sat W0 l' w'->WL ops Q n ds rest e w'):WL ops Q n ds (⟨none,.mapUpdate T x y z,ty,pos,af,none⟩::rest) e w:=IW λw L=>by
 have A:=A.ry L;have⟨r,t1,t2⟩:=U.take;have⟨es,clock,g,N,s,B,q⟩:=(A.take t1).rN;rcases ku K es kvs k 0 N with⟨O,G⟩|⟨j,v',O,G,g3,⟨e0,P,C⟩,V,_⟩
 .have D:=fp K (w:=w) G;have i:=q.vO K (es':=es++[⟨K.val k,v,clock⟩]) (clock':=clock+1) (sT K es kvs k v clock N O) (λE m=>by
   rcases Xy.1 m with h|h
   .exact aa2 (s E h)
   .simp at h;subst h;exact Nat.lt_succ_self _) (by
   rw[XK,Yc];refine⟨B,by simp,?_⟩;intro a H c R M;simp at R;subst R;subst M;have⟨E,m,h'⟩:=XA.1 H;have:=s E m;omega)
  refine⟨_,λa H=>.of ?_ (λev f=>?_) (A.kU (i.jZ t2) (qF g λ_ _ _ h=>by cases h)),kk _ (i.jZ t2)⟩
  .simp only[execOp,H.ev F,H.ev I,H.ev p];simp[Instr.mapUpdate,X6 (ew J),X3 g,K.check,D,Yx _ g]
  .simp only[execOp,H.ev F,H.ev I,H.ev p]at f;simp[Instr.mapUpdate,X6 (ew J),X3 g,bL g,K.check,K.checkQ,D,λevs=>fj K (w:=w) (evs:=evs) G,Yx _ g,eL g]at f;rcases f with rfl|rfl<;>exact q.mf .here λ_=>rfl
 .have D:=fp K (w:=w) G;have⟨W,S⟩:=V v _ rfl;have i:=q.vO K (es':=es.modify j λe=>{ e with key:=K.val k,val:=v }) (clock':=clock) W (λE m=>by
   have:E.born∈es.map (·.born):=by rw[<- S];exact XA.2 ⟨E,m,rfl⟩
   have⟨X,Y,Z⟩:=XA.1 this;rw[<- Z];exact s X Y) (by rw[S];exact B)
  refine⟨_,λa H=>.of ?_ (λev f=>?_) (A.kU (i.jZ t2) (qF g λ_ _ _ h=>by cases h)),kk _ (i.jZ t2)⟩
  .simp only[execOp,H.ev F,H.ev I,H.ev p];simp[Instr.mapUpdate,X6 (ew J),X3 g,K.check,D,Yx _ g,Instr.keyThatStays,K.bits,P,C]
  .simp only[execOp,H.ev F,H.ev I,H.ev p]at f;simp[Instr.mapUpdate,X6 (ew J),X3 g,bL g,K.check,K.checkQ,D,λevs=>fj K (w:=w) (evs:=evs) G,Yx _ g,eL g,Instr.keyThatStays,K.bits,P,C]at f;rcases f with rfl|rfl<;>exact q.mf .here λ_=>rfl
def K7 {D:XO} (m:Sat W0 l w) (M:mR l (bg K b kvs) (bg K b (eO kvs k)) l') (A:ev e x=some (.map (some b))) (B:ev e y=some (K.val k)) (C:lk yx T=some (K.ty,elem)) (kk:∀w',Sat W0 l' w'->WL ops Q n ds rest e w'):WL ops Q n ds (⟨none,.call { callee:=.builtin .delete,args:=#[x,y],argTypes:=#[T,D] },ty,pos,af,none⟩::rest) e w:=QI λw E=>by
 have m:=m.ry E;obtain⟨r,t1,t2⟩:=M.take;obtain⟨es,clock,c,J,p,q,g⟩:=(m.take t1).rN;rcases ku K es kvs k 0 J with⟨L,G⟩|⟨j,V,L,G,P,_,_,N⟩
 .have s:=fp K (w:=w) G;have f:=g.vO K (es':=es) (clock':=clock) (kvs':=eO kvs k) (by rw[so kvs k L];exact J) p q;refine⟨.tuple #[],_,λa i=>.of ?_ (λev H=>?_) (m.kU (f.jZ t2) (qF c λ_ _ _ h=>by cases h)),kk _ (f.jZ t2)⟩
  .simp only[execOp,resolve,ZB,XP,List.map_nil,i.ev A,i.ev B,invoke,Go.builtin];simp[Builtin.delete_,X6 (ew C),X3 c,K.check,s,Yx _ c]
  .have F:=λevs=>fj K (w:=w) (evs:=evs) G;simp only[execOp,resolve,ZB,XP,List.map_nil,i.ev A,i.ev B,invoke,Go.builtin]at H;simp[Builtin.delete_,X6 (ew C),X3 c,bL c,K.check,K.checkQ,s,F,Yx _ c,eL c]at H;rcases H with rfl|rfl<;>exact g.mf .here λ_=>rfl
 .have s:=fp K (w:=w) G;have f:=g.vO K (es':=es.eraseIdx j) (clock':=clock) (kvs':=eO kvs k) N (λO I=>p O (List.mem_of_mem_eraseIdx I)) (q.sublist ((List.eraseIdx_sublist es j).map _));refine⟨.tuple #[],_,λa i=>.of ?_ (λev H=>?_) (m.kU (f.jZ t2) (qF c λ_ _ _ h=>by cases h)),kk _ (f.jZ t2)⟩
  .simp only[execOp,resolve,ZB,XP,List.map_nil,i.ev A,i.ev B,invoke,Go.builtin];simp[Builtin.delete_,X6 (ew C),X3 c,K.check,s,Yx _ c]
  .have F:=λevs=>fj K (w:=w) (evs:=evs) G;simp only[execOp,resolve,ZB,XP,List.map_nil,i.ev A,i.ev B,invoke,Go.builtin]at H;simp[Builtin.delete_,X6 (ew C),X3 c,bL c,K.check,K.checkQ,s,F,Yx _ c,eL c]at H;rcases H with rfl|rfl<;>exact g.mf .here λ_=>rfl
def cF(es:Xn MapEntry)(seen:Xn Nat):Xn MapEntry:=es.filter λe=>!seen.contains e.born
def l9(b it:Nat)(kvs left:Xn (κ×Xp))(L:XB (κ×Xp)):ae:=λh=>∃es clock seen,jI K es kvs/\(∀e∈es,e.born<clock)/\(es.map (·.born)).Nodup /\
 jI K (cF es seen) left/\(∀x,L=some x->∃e s,e∈es/\K6 K e x/\seen=s++[e.born])/\cj [ob false b (.map es.toArray clock),ob false it (.mapIter (some b) clock seen.toArray clock)] h
variable {it:Nat}
theorem Sat.vP {left:Xn (κ×Xp)} {L:XB (κ×Xp)} (H:Sat W0 (l9 K b it kvs left L::l) w):Sat W0 (bg K b kvs::l) w:=
 H.head λj ⟨es,clock,seen,a,c,f,_,_,h⟩=>by
  have⟨A,m,_,g,_,i,_⟩:=h;exact⟨es,clock,g _ _ i,a,c,f⟩
def y6 (f:Sat W0 l w) (B:Take (bg K b kvs) l r) (p:ev e x=some (.map (some b))) (q:lk yx T=some (K.ty,elem)) (C:Nat.blt d n=true) (kk:∀w' it,Sat W0 (l9 K b it kvs kvs none::r) w'->WL ops Q n ds rest ((d,.pointer (some ⟨it,0,none⟩))::e) w'):WL ops Q n ds (⟨some d,.range T x,ty,pos,af,none⟩::rest) e w:=jk (λw g=>by
 have f:=f.ry g;have⟨es,clock,i,s,j,m,h⟩:=(f.take B).rN;have H:=h.new (.mapIter (some b) clock #[] clock) false Xr;refine⟨.pointer (some ⟨w.heap.size,0,none⟩),{ w with heap:=w.heap.push _ },λa A=>.of ?_ (λev c=>?_) (f.kU H mi),kk _ _ ?_⟩
 .simp[execOp,A.ev p,Instr.range,X6 (ew q),X3 i]
 .simp[execOp,A.ev p,Instr.range,X6 (ew q),X3 i,bL i]at c;subst c;exact h.mf .here λ_=>rfl
 .refine Sat.close (H.imp λ_ k=>ft k) λD k=>⟨es,clock,[],s,j,m,?_,by simp,k⟩;have:cF es []=es:=by unfold cF;simp
  rw[this];exact s) C
theorem K8:∀{kvs:Xn (κ×Xp)} {j:Nat} {e:MapEntry},jI K es kvs->es[j]?=some e->∃L x a,kvs=L++x::a/\K6 K e x/\jI K (es.eraseIdx j) (L++a):=by
 induction es with
 | nil=>intro kvs j e _ h;simp at h
 | cons E es i=>
  intro kvs j e H h;cases kvs with
  | nil=>exact H.elim
  | cons p P=>
   cases j with
   | zero=>simp at h;subst h;exact⟨[],p,P,rfl,H.1,by simpa using H.2⟩
   | succ j=>
    obtain⟨L,x,a,rfl,c,f⟩:=i H.2 h;exact⟨p::L,x,a,rfl,c,by simp;exact⟨H.1,f⟩⟩
theorem K9 {kvs:Xn (κ×Xp)} (h:jI K es kvs):es=[]↔kvs=[]:=by cases es<;>cases kvs<;>simp_all [jI]
theorem FC {seen:List Nat} (hnd:(es.map (·.born)).Nodup) {j:Nat} {e:MapEntry} (h:(cF es seen)[j]?=some e):cF es (seen++[e.born])=(cF es seen).eraseIdx j:=by
 have E:cF es (seen++[e.born])=(cF es seen).filter fun x=>!(x.born==e.born):=by
  unfold cF;rw[List.filter_filter];congr 1;funext x
  grind
 rw[E];have H:((cF es seen).map _).Nodup:=hnd.sublist (List.filter_sublist.map _);generalize cF es seen=L at h H
 induction L generalizing j with
 | nil=>simp at h
 | cons y L i=>
  cases j with
  | zero=>
   simp_all
  | succ j=>
   grind
theorem Od {left:List (κ×Value)} {last:Option (κ×Value)} {t:TypeId} (S:Sat W0 (l9 K b it kvs left last::l) w):
 (left=[]/\dr (Instr.next (.pointer (some ⟨it,0,none⟩)) false t) w (.tuple #[.bool false]) w) \/
 ∃ L x E w',left=L++x::E/\dr (Instr.next (.pointer (some ⟨it,0,none⟩)) false t) w (.tuple #[.bool true,K.val x.1,x.2]) w'/\Sat W0 (l9 K b it kvs (L++E) (some x)::l) w':=by
 have⟨⟨es,clock,seen⟩,⟨F,g,p,q,G⟩,H⟩:=S.gD (α:=List MapEntry×Nat×List Nat) (φ:=fun z=>jI K z.1 kvs/\(∀ e∈z.1,e.born<z.2.1)/\(z.1.map (·.born)).Nodup /\
  jI K (cF z.1 z.2.2) left/\(∀ x,last=some x->∃ e U,e∈z.1/\K6 K e x/\z.2.2=U++[e.born])) (B:=fun z=>[ob false b (.map z.1.toArray z.2.1),ob false it (.mapIter (some b) z.2.1 z.2.2.toArray z.2.1)]) fun V ⟨es,clock,seen,F,g,p,q,G,k⟩=>⟨(es,clock,seen),⟨F,g,p,q,G⟩,k⟩
 dsimp only[List.cons_append,List.nil_append] at F g p q G H;have J:=H.dA;have hit:=(H.take dt).dA;have hun:(es.toArray.filter fun e=>!seen.toArray.contains e.born)=(cF es seen).toArray:=by unfold cF;simp
 have hold:((cF es seen).toArray.filter fun e=>decide (e.born<clock))=(cF es seen).toArray:=by
  rw[Array.filter_eq_self];intro x a;have:=g x ((show x∈es/\¬x.born∈seen by simpa[cF] using a).1);simpa using this
 have hnew:((cF es seen).toArray.filter fun e=>decide (e.born >= clock))=#[]:=by
  rw[Array.filter_eq_empty_iff];intro x a;have:=g x ((show x∈es/\¬x.born∈seen by simpa[cF] using a).1);simp;omega
 have htest:(!seen.toArray.isEmpty&&!es.toArray.isEmpty&&es.toArray.all (fun x=>decide (x.born >= clock)))=false:=by
  cases es with
  | nil=>simp
  | cons y r=>have:=g y (by simp);simp;intro _ hh;omega
 have c:(getObj it).run Tryz.prog w=.ok (.mapIter (some b) clock seen.toArray clock) w:=by simp[getObj,Sem.run,hit]
 have f:=MapKept.run_getObj_map (P:=Tryz.prog) J;have s:∀ evs,(getObj it).events Tryz.prog w evs=evs.push ⟨.obj it,false,false⟩:=fun evs=>iH hit (fun _ _ _ h=>by cases h);have A:∀ evs,(getObj b).events Tryz.prog w evs=evs.push ⟨.obj b,false,false⟩:=fun evs=>bL J;have O:∀ W,iM w ⟨.obj it,W,false⟩:=fun W=>H.mf (.there .here) fun _=>rfl;have I:∀ W,iM w ⟨.obj b,W,false⟩:=fun W=>H.mf .here fun _=>rfl;by_cases C:cF es seen=[]
 ·left;refine⟨(K9 K q).1 C,.of ?_ (fun ev hev=>?_) (.refl w)⟩
  ·simp only[Instr.next,Sem.run_bind,c,f,Result.andThen_ok,htest,Bool.false_eq_true,if_false,hun,hold,hnew,C];simp[Question.forced]
  ·simp only[Instr.next,Sem.run_bind,Sem.events_bind,c,f,s,A,Result.andThen_ok,Result.evThen_ok,htest,Bool.false_eq_true,if_false,hun,hold,hnew,C] at hev;simp[Question.forced] at hev;rcases hev with rfl|rfl
   ·exact O _
   ·exact I _
 ·right;have hne:(cF es seen).toArray.isEmpty=false:=by simpa using C
  have hch:∃ j w1,j<(cF es seen).length/\(w1=w\/w1={ w with drawn:=w.drawn+1 })/\(choose (Question.mapNext (cF es seen).length)).run Tryz.prog w=.ok j w1:=by
   have hpos:=List.length_pos_iff.2 C;by_cases M:(cF es seen).length<=1
   ·exact⟨0,w,hpos,.inl rfl,by simp[choose,Sem.run,Question.forced,M]⟩
   ·exact⟨_,_,Nat.mod_lt _ hpos,.inr rfl,by simp only[choose,Sem.run,Question.forced,decide_eq_true_eq,M,if_false,Question.cut];rfl⟩
  have⟨j,w1,N,D,hch⟩:=hch;have hge:=List.getElem?_eq_getElem N;have⟨L,x,E,X,a,hrest⟩:=K8 K q hge;have hmem:=(List.mem_filter.1 (List.getElem_mem N)).1;have m:Sat W0 (ob false it (.mapIter (some b) clock seen.toArray clock)::ob false b (.map es.toArray clock)::l) w1:=by
   rcases D with rfl|rfl
   ·exact H.take dt
   ·exact(H.take dt).drew
  have hit1:=m.dA;have hlt:=(Array.getElem?_eq_some_iff.1 hit1).1;refine⟨L,x,E,{ w1 with heap:=w1.heap.setIfInBounds it (.mapIter (some b) clock (seen.toArray.push (cF es seen)[j].born) clock) },X,.of ?_ (fun ev hev=>?_) ?_,?_⟩
  rotate_left
  ·have hset:(setObj it (.mapIter (some b) clock (seen.toArray.push (cF es seen)[j].born) clock)).run Tryz.prog w1=.ok () { w1 with heap:=w1.heap.setIfInBounds it (.mapIter (some b) clock (seen.toArray.push (cF es seen)[j].born) clock) }:=by
    simp[setObj,Sem.run,hit1]
   have hsq:∀ evs,(setObj it (.mapIter (some b) clock (seen.toArray.push (cF es seen)[j].born) clock)).events Tryz.prog w1 evs=evs.push ⟨.obj it,true,false⟩:=fun evs=>nZ hit1 (fun _ _ _ h=>by cases h);simp only[Instr.next,Sem.run_bind,Sem.events_bind,c,f,s,A,Result.andThen_ok,Result.evThen_ok,htest,Bool.false_eq_true,if_false,hun,hold,hnew] at hev;simp only[Sem.run_bind,Sem.events_bind,Result.andThen_ok,Result.evThen_ok,Bool.false_eq_true,if_false,hne,Array.append_empty,Array.empty_append,Array.size_map,List.size_toArray,hch,events_choose,Array.getElem?_map,List.getElem?_toArray,hge,Option.map_some,hset,hsq,Sem.run_pure,Sem.events_pure,a.1,a.2] at hev
   grind
  ·have R:w1.heap=w.heap:=by rcases D with rfl|rfl<;>rfl
   refine⟨fun k Y=>?_,?_⟩
   ·have hne:it≠k:=fun h=>by subst h;exact absurd Y m.vq
    show(w1.heap.setIfInBounds it _)[k]?=_;rw[Array.getElem?_setIfInBounds_ne hne,R]
   ·have:=qF (b:=it) (o':=.mapIter (some b) clock (seen.toArray.push (cF es seen)[j].born) clock) hit1 (fun _ _ _ h=>by cases h);rw[R] at this |-;exact this
  rotate_left
  ·have hset:(setObj it (.mapIter (some b) clock (seen.toArray.push (cF es seen)[j].born) clock)).run Tryz.prog w1=.ok () { w1 with heap:=w1.heap.setIfInBounds it (.mapIter (some b) clock (seen.toArray.push (cF es seen)[j].born) clock) }:=by
    simp[setObj,Sem.run,hit1]
   simp only[Instr.next,Sem.run_bind,c,f,Result.andThen_ok,htest,Bool.false_eq_true,if_false,hun,hold,hnew];simp only[Sem.run_bind,Result.andThen_ok,Bool.false_eq_true,if_false,hne,Array.append_empty,Array.empty_append,Array.size_map,List.size_toArray,hch,Array.getElem?_map,List.getElem?_toArray,hge,Option.map_some,hset,Sem.run_pure,a.1,a.2]
  ·refine Sat.close ?_ fun V k=>⟨es,clock,seen++[(cF es seen)[j].born],F,g,p,?_,?_,k⟩
   ·have:=Sat.oI m (o':=.mapIter (some b) clock (seen.toArray.push (cF es seen)[j].born) clock) (w':={ w1 with heap:=w1.heap.setIfInBounds it (.mapIter (some b) clock (seen.toArray.push (cF es seen)[j].born) clock) }) trivial rfl rfl rfl (by simp) (by simp[hlt]) (fun i Z=>Array.getElem?_setIfInBounds_ne (fun h=>Z h.symm));have e2:(seen++[(cF es seen)[j].born]).toArray=seen.toArray.push (cF es seen)[j].born:=by simp
    rw[e2];exact this.imp fun _ k=>ft k
   ·rw[FC p hge];exact hrest
   ·rintro y hy;cases hy;exact⟨_,seen,hmem,a,rfl⟩
def C6 {left:Xn (κ×Xp)} {L:XB (κ×Xp)} (p:Sat W0 l w) (s:Take (l9 K b it kvs left L) l r) (i:ev e x=some (.pointer (some ⟨it,0,none⟩))) (A:Nat.blt d n=true) (B:left=[]->WL ops Q n ds rest ((d,.tuple #[.bool false])::e) w) (C:∀j x m w',left=j++x::m->Sat W0 (l9 K b it kvs (j++m) (some x)::r) w'->WL ops Q n ds rest ((d,.tuple #[.bool true,K.val x.1,x.2])::e) w'):
 WL ops Q n ds (⟨some d,.next x false,ty,pos,af,none⟩::rest) e w:=jk (λw f=>by
 have p:=p.ry f;rcases Od K (p.take s)with⟨h,c⟩|⟨j,y,m,w',h,c,q⟩
 .exact⟨_,_,λa g=>.of (by simp[execOp,g.ev i];simp[c.run]) (λev H=>by simp only[execOp,g.ev i]at H;simp at H;exact c.evs ev H) c.kU,(B h).rely f⟩
 .refine⟨_,_,λa g=>.of (by simp[execOp,g.ev i];simp[c.run]) (λev H=>?_) c.kU,C j y m w' h q⟩
  .simp only[execOp,g.ev i]at H;simp at H;exact c.evs ev H) A
theorem y7 {left:List (κ×Value)} {y:κ×Value} (p:Sat W0 l w) (M:Take (l9 K b it kvs left (some y)) l r) (F:ev e x=some (.pointer (some ⟨it,0,none⟩))) (N:Nat.blt d n=true) (kk:WL ops Q n ds rest ((d,.tuple #[K.val y.1,y.2])::e) w):WL ops Q n ds (⟨some d,.entry x,ty,pos,af,none⟩::rest) e w:=fY (fun w hry a G=>by
 have p:=p.ry hry;have⟨⟨es,clock,seen⟩,⟨q,A,i,C,j⟩,H⟩:=(p.take M).gD (φ:=fun z=>jI K z.1 kvs/\(∀ e∈z.1,e.born<z.2.1)/\(z.1.map (·.born)).Nodup /\
  jI K (cF z.1 z.2.2) left/\(∀ x,some y=some x->∃ e s,e∈z.1/\K6 K e x/\z.2.2=s++[e.born])) (B:=fun z=>[ob false b (.map z.1.toArray z.2.1),ob false it (.mapIter (some b) z.2.1 z.2.2.toArray z.2.1)]) fun S ⟨es,clock,seen,q,A,i,C,j,k⟩=>⟨(es,clock,seen),⟨q,A,i,C,j⟩,k⟩
 dsimp only[List.cons_append,List.nil_append] at q A i C j H;obtain⟨en,s,R,m,rfl⟩:=j y rfl;have I:=H.dA;have hit:=(H.take dt).dA;have f:(getObj it).run Tryz.prog w=.ok (.mapIter (some b) clock (s++[en.born]).toArray clock) w:=by simp[getObj,Sem.run,hit]
 have c:=MapKept.run_getObj_map (P:=Tryz.prog) I;have J:es.toArray.find? (·.born==en.born)=some en:=by
  rw[List.find?_toArray];exact find_born en es i R
 have L:(s++[en.born]).toArray.back?=some en.born:=by simp
 have D:∀ evs,(getObj it).events Tryz.prog w evs=evs.push ⟨.obj it,false,false⟩:=fun evs=>iH hit (fun _ _ _ h=>by grind);have g:∀ evs,(getObj b).events Tryz.prog w evs=evs.push ⟨.obj b,false,false⟩:=fun evs=>bL I;refine .of ?_ fun evs ev hev=>?_
 ·simp[execOp,G.ev F,Instr.entry,f];simp[L,J,m.1,m.2,c]
 ·simp only[execOp,G.ev F,Instr.entry,Sem.run_bind,Sem.events_bind,f,c,D,g,Result.andThen_ok,Result.evThen_ok] at hev;simp[L,J,m.1,m.2,c,g] at hev;have O:∀ W,iM w ⟨.obj it,W,false⟩:=fun W=>H.mf (.there .here) fun _=>rfl;have E:∀ W,iM w ⟨.obj b,W,false⟩:=fun W=>H.mf .here fun _=>rfl;rcases hev with(h|rfl)|rfl<;>first|exact .inl h|exact .inr (O _)|exact .inr (E _)) N kk
end
end
section
variable[Bs0:Base][NQ]
open Pure (ad aB da eO gA)
attribute [local irreducible] IntKind.wrap
abbrev ax(i:Nat):Xp:=.pointer (some ⟨i,0,none⟩)
def iD(p:Nat×(Bs×Nat)):ae:=λh=>∃v,cj [blk p.1 116 [v,.int .i64 (p.2.2:Int)],cP v p.2.1] h
def moveC(p:Bs×XB Nat):Xn Xp:=[str p.1,.pointer (p.2.map λi=>⟨i,0,none⟩)]
def FD(v:Xp)(m:Xn (Bs×XB Nat)):ae:=λh=>∃b c,v=.slice (some ⟨b,0,none⟩) m.length c/\h b=some (true,.cells (m.map moveC).flatten.toArray 216 (0,0))
def ma(v:Xp)(m:Xn (Xn (Bs×XB Nat))):ae:=λh=>∃V,V.length=m.length/\cj [aE 1 v 143 m.length V,star (List.zipWith FD V m)] h
def bM(l:Xn (Bs×Nat)):Xn (Bs×Xp):=l.map λp=>(p.1,ax p.2)
structure DV where
 bn:Nat
 bs:Nat
 mv:Xp
abbrev bK(z:DV)(D:ad):Xn Xp:=[.map (some z.bn),.map (some z.bs),z.mv,.int .i64 D.room,.int .i64 D.wait,.int .i64 D.bad,.int .i64 D.reads,.int .i64 D.most]
abbrev js(d:Nat)(z:DV)(D:ad):Xn ae:=[blk d 111 (bK z D),bg ga z.bn (bM D.now),bg ga z.bs (bM D.safe),ma z.mv D.moves,star (D.nodes.map iD)]
def gn(d:Nat)(D:ad):ae:=λh=>D.Ok/\∃z,cj (js d z D) h
def aW(v:Xp):XB (XB Bs×Nat)->ae
 | none=>λ_=>v=.nilIface
 | some (none,k)=>λ_=>v=.iface 44 (.int .i64 (k:Int))
 | some (some s,k)=>λh=>∃b,v=.iface 249 (.pointer (some ⟨b,0,none⟩))/\h b=some (true,.cells [str s,.int .i64 (k:Int)].toArray 251 (0,0))
variable{W0 w:Xo}{F l:Xn ae}{v:Xp}{d:Nat}{D:ad}
def Sat.iE(h:Sat W0 (gn d D::F) w):D.Ok/\∃z,Sat W0 (js d z D++F) w:=by
 have H:D.Ok:=h.jm λ_ k=>k.1;obtain⟨z,_,a⟩:=h.gD (φ:=λ_:DV=>True) (B:=λz=>js d z D) λb ⟨_,z,k⟩=>⟨z,Xr,k⟩;exact⟨H,z,a⟩
def Sat.dG{z:DV}(H:D.Ok)(h:Sat W0 (js d z D++F) w):Sat W0 (gn d D::F) w:=Sat.close h λa k=>⟨H,z,k⟩
theorem qT:∀(l:Xn (Bs×Nat)) (n:Bs),aB (bM l) n=(aB l n).map ax
 | [],_=>rfl
 | (k,i)::r,n=>by
  unfold bM;simp only[XP,aB];by_cases h:n=k
  .simp[h]
  .simp only[h,XV];exact qT r n
variable {k:Nat}
theorem Sat.vQ {s:Bs} {b:Nat} (h:Sat W0 (blk b 251 [str s,.int .i64 (k:Int)]::F) w):Sat W0 (aW (.iface 249 (.pointer (some ⟨b,0,none⟩))) (some (some s,k))::F) w:=h.share.head λH k=>⟨b,rfl,k⟩
theorem Sat.iy(h:Sat W0 F w):Sat W0 (aW .nilIface none::F) w:=h.imp λa r=>⟨λ_=>none,a,λ_ _ _ H=>(by cases H),λ_ _ H=>(by cases H),Hp.le_refl _,rfl,r⟩
def sU(H:Sat W0 (gn d D::F) w) :
 Calls prog 141 #[ax d] w λx w'=>x=.returned (.bool D.eg)/\Sat W0 (gn d D.tick::F) w':=by
 obtain⟨a,z,H⟩:=H.iE;have h:=a.tick;have:=a.wait1;have:=a.bad1;dsimp only[js,bK,List.cons_append,List.nil_append]at H;refine enter func141 rfl ntmps141 results141 rfl ?_;by_cases b:D.wait > 0
 .have e:D.eg=false:=by simp[ad.eg];omega
  have E:D.tick={ D with wait:=D.wait-1 }:=by unfold ad.tick;rw[XE b]
  rw[e];rw[E]at h |-;refine go ?_;refine bJ H λw H=>?_;refine go ?_;exact an rfl ⟨rfl,Sat.dG (z:=z) h H⟩
 .by_cases c:D.bad > 0
  .have e:D.eg=true:=by simp[ad.eg];omega
   have E:D.tick={ D with bad:=D.bad-1 }:=by unfold ad.tick;rw[Xx b,XE c]
   rw[e];rw[E]at h |-;refine go ?_;refine bJ H λw H=>?_;refine go ?_;exact an rfl ⟨rfl,Sat.dG (z:=z) h H⟩
  .have e:D.eg=false:=by simp[ad.eg];omega
   have E:D.tick=D:=by unfold ad.tick;rw[Xx b,Xx c]
   rw[e,E];refine go ?_;exact an rfl ⟨rfl,Sat.dG (z:=z) a H⟩
def qU(D:ad)(n:Bs):Xp:=.pointer (if D.eg=true then none else(aB D.now n).map λi=>⟨i,0,none⟩)
def find_spec{n:Bs}(h:Sat W0 (gn d D::F) w) :
 Calls prog 139 #[ax d,str n] w λx w'=>∃V,x=.returned (.tuple #[qU D n,V])/\Sat W0 (gn d D.tick::aW V (aY D n)::F) w':=by
 obtain⟨c,z,h⟩:=h.iE;refine enter func139 rfl ntmps139 results139 rfl ?_;dsimp only[js,bK,List.cons_append,List.nil_append]at h;refine go ?_;refine vN ga (k:=n) h (.there .here) rfl rfl rfl Jh rfl ?_;rw[qT];refine go ?_;refine ak (met (sU (Sat.dG (z:=z) c h)) ?_);rintro _ w ⟨rfl,h⟩;refine⟨_,rfl,?_⟩;cases H:D.eg with
 | true=>
  have e:aY D n=some (some n,8):=by simp[aY,H]
  have E:qU D n=.pointer none:=by simp[qU,H]
  rw[e,E];refine go ?_;refine cx [str n,.int .i64 8] ?_;refine eB h λw b h=>?_;refine go ?_;exact an rfl ⟨_,rfl,h.vQ.to⟩
 | false=>
  cases a:aB D.now n with
  | none=>
   have e:aY D n=some (some n,10):=by simp[aY,H,a]
   have E:qU D n=.pointer none:=by simp[qU,H,a]
   rw[e,E];refine go ?_;refine cx [str n,.int .i64 10] ?_;refine eB h λw b h=>?_;refine go ?_;exact an rfl ⟨_,rfl,h.vQ.to⟩
  | some i=>
   have e:aY D n=none:=by simp[aY,H,a]
   have E:qU D n=ax i:=by simp[qU,H,a]
   rw[e,E];refine go ?_;exact an rfl ⟨_,rfl,h.iy.to⟩
theorem y8:∀(l:Xn (Bs×Nat)) (n:Bs) (i:Nat),bM (da l n i)=da (bM l) n (ax i)
 | [],_,_=>rfl
 | (k,j)::r,n,i=>by
  simp only[bM,XP,da];by_cases h:n=k
  .simp[h]
  .simp only[h,XV,XP];rw[<- bM,y8 r n i];rfl
theorem y9:∀(l:Xn (Bs×Nat)) (n:Bs),bM (eO l n)=eO (bM l) n
 | [],_=>rfl
 | (k,j)::r,n=>by
  simp only[bM,XP,eO];by_cases h:n=k
  .simp[h]
  .simp only[h,XV,XP];rw[<- bM,y9 r n];rfl
theorem Oe:∀ (xs:List (List Value)) (i:Nat) (x:List Value),(∀ y∈xs,y.length=k)->xs[i]?=some x->iZ xs.flatten (i*k) x:=by
 have shift:∀ (pre c vs:List Value) (o:Nat),iZ c o vs->iZ (pre++c) (pre.length+o) vs:=by
  intro pre c vs
  induction vs with
  | nil=>intro o _;trivial
  | cons u r I=>intro o ⟨h,a⟩;exact⟨by rw[List.getElem?_append_right (by omega),Nat.add_sub_cancel_left];exact h,by rw[Nat.add_assoc];exact I _ a⟩
 have pre:∀ (vs c:List Value),iZ (vs++c) 0 vs:=by
  have key:∀ (vs pre c:List Value),iZ (pre++(vs++c)) pre.length vs:=by
   intro vs
   induction vs with
   | nil=>intro _ _;trivial
   | cons v r I=>intro p c;exact⟨by simp,by have:=I (p++[v]) c;simpa using this⟩
  exact fun vs c=>key vs [] c
 intro xs
 induction xs with
 | nil=>intro i x _ h;simp at h
 | cons y Y I=>
  intro i x H h;cases i with
  | zero=>simp at h;subst h;rw[Nat.zero_mul,List.flatten_cons];exact pre _ _
  | succ i=>
   simp at h;have:=shift y Y.flatten x (i*k) (I i x (fun z b=>H z (List.mem_cons_of_mem _ b)) h);rw[H y List.mem_cons_self] at this;rw[List.flatten_cons,Nat.succ_mul,Nat.add_comm];exact this
theorem La(m:Xn (Bs×Nat))(mvs:Xn (Bs×XB Nat))(i:Nat)(p:Bs×XB Nat)(h:mvs[i]?=some p) :
 gA m (mvs.take (i+1))=match p.2 with|none=>eO (gA m (mvs.take i)) p.1|some j=>da (gA m (mvs.take i)) p.1 j:=by
 have H:=(Xw.1 h).1;have b:=(Xw.1 h).2;rw[Zf H,b];obtain⟨a,o⟩:=p;cases o<;>simp[gA,Zq]
def FE{m:Nat}{kvs:Xn (Bs×Nat)}{mvs:Xn (Bs×XB Nat)}(H:Sat W0 (bg ga m (bM kvs)::FD v mvs::F) w)(hl:mvs.length<1000) :
 Calls prog 54 #[.map (some m),v] w λx w'=>x=.returned (.tuple #[])/\Sat W0 (bg ga m (bM (gA kvs mvs))::FD v mvs::F) w':=by
 obtain⟨b,c,rfl⟩:∃b c,v=.slice (some ⟨b,0,none⟩) mvs.length c:=(H.take dt).jm λ_ ⟨b,c,h,_⟩=>⟨b,c,h⟩;refine enter func54 rfl ntmps54 results54 rfl ?_;refine go ?_;refine aL (α:=Nat) (λi=>[(0,.map (some m)),(6,.slice (some ⟨b,0,none⟩) mvs.length c),(7,.int .i64 (mvs.length:Int)),(8,.int .i64 (i:Int))])
  (λi w=>i<=mvs.length/\Sat W0 (bg ga m (bM (gA kvs (mvs.take i)))::FD (.slice (some ⟨b,0,none⟩) mvs.length c) mvs::F) w) (λi=>mvs.length-i) 0 ⟨rfl,rfl,rfl,rfl,Xr⟩ ⟨XR _,H⟩ ?_
 clear H;rintro i w ⟨I,H⟩;by_cases a:i<mvs.length
 .have t:mvs[i]?=some mvs[i]:=Xq a;have g:=La kvs mvs i _ t;generalize mvs[i]=p at t g;obtain⟨⟨f,c'⟩,E,n⟩:=(Sat.Fz (B:=FD (.slice (some ⟨b,0,none⟩) mvs.length c) mvs) (H.take dt) (λh k=>by
   obtain⟨f,c',u,A⟩:=k;refine⟨λj=>if j=f then some (true,.cells (mvs.map moveC).flatten.toArray 216 (0,0))else none,λj x e=>?_,λj x e=>?_,f,c',u,by simp⟩
   .by_cases r:j=f
    .subst r;simp at e;subst e;exact A
    .simp[r]at e
   .by_cases r:j=f
    .subst r;simp at e;subst e;rfl
    .simp[r]at e)).gD (α:=Nat×Nat) (φ:=λz=>Value.slice (some ⟨b,0,none⟩) mvs.length c=.slice (some ⟨z.1,0,none⟩) mvs.length z.2) (B:=λz=>[ob true z.1 (.cells (mvs.map moveC).flatten.toArray 216 (0,0))]) λG ⟨f,c',u,A⟩=>
    ⟨(f,c'),u,G,λ_=>none,λ_ _ _ _ C=>(by cases C),Hp.le_refl _,λ_ _ e=>(by cases e),A,Xr⟩
  obtain⟨rfl,rfl⟩:b=f/\c=c':=by simpa using E
  dsimp only[List.cons_append,List.nil_append]at n;have s:=Oe (k:=2) (mvs.map moveC) i (moveC p) (λy C=>by obtain⟨q,_,rfl⟩:=XA.1 C;rfl) (by simp[t]);refine go ?_;refine de (i:=i) rfl rfl rfl rfl rfl a rfl ?_;refine dX (moveC p) n rfl rfl rfl .here (by simpa using s) rfl ?_;refine aS H λw J H=>?_;refine fG (vs:=moveC p) H λw H=>?_;obtain⟨N,o⟩:=p;cases o with
  | none=>
   refine go ?_;refine K7 ga (k:=N) H (.there .here) rfl rfl rfl λw H=>?_;refine go ?_;refine az (i+1) ⟨rfl,rfl,rfl,rfl,Xr⟩ ⟨a,?_⟩ (by omega);rw[g,y9];exact H.to
  | some j=>
   refine go ?_;refine uf ga (k:=N) H (.there .here) rfl rfl rfl rfl λw H=>?_;refine go ?_;refine az (i+1) ⟨rfl,rfl,rfl,rfl,Xr⟩ ⟨a,?_⟩ (by omega);rw[g,y8];exact H.to
 .have:i=mvs.length:=by omega
  subst this;rw[YD]at H;refine go ?_;exact fE rfl ⟨rfl,H⟩
end
section
variable[Bs0:Base][NQ]
section
variable{ops:Xv Yf}{Q:YL->Act->Xo->Prop}{n:Nat}{ds:Md}{e:Env}{w w':Xo}{rest:Xn Yf}
variable{op:Op}{ty:XO}{pos:YG}{af:Xv Edge}{d:Nat}{v u:Xp}{W0:Xo}{l l' r r':Xn ae}
variable {k E len:Nat}
theorem dZ {x y:XZ} {t by_ b c:Nat} {cs news z:Xn Xp} (o:Sat W0 l w) (kk:∀V w',Sat W0 (aE k V E (len+1) (cs++news)::r') w'->WL ops Q n ds rest ((d,V)::e) w') (p:ev e x=some v:=by rfl) (q:ev e y=some (.slice (some ⟨b,0,none⟩) 1 c):=by rfl) (m:lk dK t=some E:=by rfl) (H:lk cY E=some k:=by rfl) (a:lk vz E=some by_:=by rfl) (s:lk kY E=some z:=by rfl) (f:z.length=k:=by rfl) (A:Take (aE k v E len cs) l r:=by repeat (first|exact Take.here|apply Take.there)) (T:Take (blk b E news) r r':=by repeat (first|exact Take.here|apply Take.there)) (B:news.length=1*k:=by rfl) (h1:news.all dk=true:=by rfl) (C:Nat.blt d n=true:=by rfl) (hm:len+1<=maxLen:=by simp only[maxLen];omega) (D:(len+1)*by_<=140737488355328:=by omega) (F:Nat.beq E 133=false:=by rfl) (g:z.all dk=true:=by rfl):
 WL ops Q n ds (⟨some d,.call { callee:=.builtin .append,args:=#[x,y],argTypes:=#[t,t] },ty,pos,af,none⟩::rest) e w:=by
 have i:=o.p7 A T;refine rD i p q .here (Hi (all:=news) m (.there .here) B (λj u G=>by simpa using G) (X4.1 h1)) m H a s f hm D C (λV w' h=>kk V w' ?_) F g;exact h.imp λ_ k=>bH (λ_=>rz) k
theorem jT {parts:Xv (Nat×XZ)} {t k:Nat} {ps:Xn (Nat×Xp)} {z:Xn Xp} (cs:Xn Xp) (f:Sat W0 l w) (kk:∀w' b,Sat W0 (blk b E cs::l) w'->WL ops Q n ds rest ((d,.slice (some ⟨b,0,none⟩) len len)::e) w') (g:E4 e parts.toList=some ps:=by rfl) (j:lk dK t=some E:=by rfl) (H:lk cY E=some k:=by rfl) (m:lk kY E=some z:=by rfl) (a:Nat.beq z.length 0=false:=by rfl) (h:Nat.ble (len*k) 1000=true:=by rfl) (o:p8 (λi=>some (i*k,k)) ((List.range (len*k)).map λi=>z.getD (i%z.length) undef) ps=some cs:=by rfl) (p:Nat.blt d n=true:=by rfl) (c:cs.all dk=true:=by first|rfl|assumption|simp[*]):
 WL ops Q n ds (⟨some d,.buildSlice t len parts,ty,pos,af,none⟩::rest) e w:=NB f g j H m a h o p kk c
end
section
variable{W0 w:Xo}{l:Xn ae}
variable {A:ae} {B:Xn ae}
theorem Sat.ug (h:Sat W0 (star B::A::l) w):Sat W0 (star (B++[A])::l) w:=by
 refine h.imp λhp k=>?_;have K:cj (B++([A]++l)) hp:=cD k;rw[<- XS]at K;exact cu K
theorem Sat.za (h:Sat W0 (A::star B::l) w):Sat W0 (star (A::B)::l) w:=
 h.imp λH k=>cu (bH (λ_=>cD) k)
theorem Sat.nP(h:Sat W0 l w):Sat W0 (star []::l) w:=h.imp λH k=>cu (a:=[]) k
variable {C:Xn ae}
theorem Ji {hp:Hp}:cj (star (B++A::C)::l) hp↔cj (A::star (B++C)::l) hp:=by
 have t:∀(B:Xn ae) (r:Xn ae),Take A (B++A::r) (B++r):=by
  intro B
  induction B with
  | nil=>intro r;exact .here
  | cons x B i=>intro r;exact .there (i r)
 constructor
 .intro k;have K:=cD k;rw[XS,List.cons_append]at K;refine bH (λ_ k=>?_) ((t B _).to K);rw[<- XS]at k;exact cu k
 .intro k;have K:=(t B _).back (bH (λ_ k=>by have:=cD k;rwa[XS]at this) k);rw[<- List.cons_append,<- XS]at K;exact cu K
def Sat.ie (h:Sat W0 (star (B++A::C)::l) w):Sat W0 (A::star (B++C)::l) w:=h.imp λ_=>Ji.1
def Sat.jG (h:Sat W0 (A::star (B++C)::l) w):Sat W0 (star (B++A::C)::l) w:=h.imp λ_=>Ji.2
