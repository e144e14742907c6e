/-
  Part 7: The engine 14 maps; THE PURE MIRROR, PART 3 what the disk's operations do, and t; THE PURE MIRROR, PART 4 rows in memory.
-/
import Derived.Test.YtecibefflhomdaaGreatDoorY06
import Derived.MapKept
import Derived.Laws.IdiomRangeMap
set_option maxHeartbeats 8000000
set_option maxRecDepth 100000
set_option linter.all false
namespace Go.Proofs.YtecibefflhomdaaGreatDoor
open Go
section
attribute [local semireducible] WL WC WQ
structure Fj (κ:Type) where
 val:κ→Value
 ty:TypeId
 desc:TypeDesc
 und:Tryz.prog.underlying ty=some desc
 same:∀ a b [Decidable (a=b)],Instr.sameNow desc (val a) (val b)=some (decide (a=b))
 bits:∀ a,Instr.sameBits 10000 (val a) (val a)=true
 check:∀ e w v,(Instr.checkKey e 10000 ty (val v)).run Tryz.prog w=.ok () w
theorem pX (e:Bool) (w:World) (v:Value) (hv:∀ d x,v≠.iface d x) {t:TypeId} (ht:Tryz.prog.underlying t=some .string∨∃ k,Tryz.prog.underlying t=some (.int k)):(Instr.checkKey e 10000 t v).run Tryz.prog w=.ok () w:=by
 have key:∀ n,(Instr.checkKey e (n+1) t v).run Tryz.prog w=.ok () w:=fun n=>by
  rcases ht with ht|⟨k,ht⟩<;>simp [Instr.checkKey,cB ht]
 exact key 9999
theorem Hy (a b:Bs):((⟨a.toArray⟩:ByteArray)==⟨b.toArray⟩)=decide (a=b):=by
 show (a.toArray==b.toArray)=_
 rw [Bool.eq_iff_iff];simp
def cu:Fj Bs where
 val:=str
 ty:=9
 desc:=.string
 und:=iO (t:=9) rfl
 same a b:=by
  intro _
  simp only [Instr.sameNow,Option.some.injEq,Hy]
  rw [Bool.eq_iff_iff]
  simp
 bits a:=by
  have key:∀ n,Instr.sameBits (n+1) (str a) (str a)=true:=fun n=>by simp only [Instr.sameBits,Hy,decide_true]
  exact key 9999
 check e w v:=pX e w _ (fun _ _ h=>by cases h) (.inl (iO (t:=9) rfl))
def bB:Fj Int where
 val:=.int .i64
 ty:=3
 desc:=.int .i64
 und:=kz (t:=3) rfl
 same a b:=by
  intro _
  simp only [Instr.sameNow,Option.some.injEq,if_true]
  rw [Bool.eq_iff_iff]
  simp
 bits a:=by
  have key:∀ n,Instr.sameBits (n+1) (.int .i64 a) (.int .i64 a)=true:=fun n=>by simp [Instr.sameBits]
  exact key 9999
 check e w v:=pX e w _ (fun _ _ h=>by cases h) (.inr ⟨_,kz (t:=3) rfl⟩)
open Go.Proofs.YtecibefflhomdaaGreatDoor.Pure (aA cx eD)
section
variable {κ:Type} [DecidableEq κ] (K:Fj κ)
def Fl (e:MapEntry) (p:κ×Value):Prop:=e.key=K.val p.1∧e.val=p.2
def hZ:List MapEntry→List (κ×Value)→Prop
 | [],[]=>True
 | e::es,p::ps=>Fl K e p∧hZ es ps
 | _,_=>False
def aO (b:Nat) (kvs:List (κ×Value)):ah:=fun h=>∃ es clock,h b=some (false,.map es.toArray clock)∧hZ K es kvs∧(∀ e∈es,e.born<clock)∧(es.map (·.born)).Nodup
theorem jQ:∀ (es:List MapEntry) (kvs:List (κ×Value)) (x:κ) (i:Nat),hZ K es kvs →
 (aA kvs x=none∧Instr.findNow K.desc (K.val x) es i=some none)∨∃ j v,aA kvs x=some v∧Instr.findNow K.desc (K.val x) es i=some (some (i+j,v))∧j<es.length∧(∃ e,es[j]?=some e∧e.key=K.val x) ∧
  (∀ u,∀ es',es'=es.modify j (fun e=>{ e with key:=K.val x,val:=u })→hZ K es' (cx kvs x u)∧es'.map (·.born)=es.map (·.born))∧hZ K (es.eraseIdx j) (eD kvs x)
 | [],[],x,i,_=>.inl ⟨rfl,rfl⟩
 | e::es,(k,v)::kvs,x,i,⟨⟨h1,h2⟩,hr⟩=>by
  unfold aA
  simp only [Instr.findNow,h1,K.same]
  by_cases hx:x=k
  ·subst hx
   refine .inr ⟨0,v,by simp,by simp at h2;simp [h2],by simp,⟨e,by simp,h1⟩,?_,?_⟩
   ·rintro u _ rfl
    simp [cx,hZ,Fl,hr]
   ·simpa [eD] using hr
  ·simp only [hx,if_false,decide_false]
   rcases jQ es kvs x (i+1) hr with ⟨g1,g2⟩|⟨j,v',g1,g2,g3,g4,g5,g6⟩
   ·exact .inl ⟨g1,g2⟩
   ·refine .inr ⟨j+1,v',g1,by rw [g2];congr 2;congr 1;omega,by simpa using g3,by simpa using g4,?_,?_⟩
    ·rintro u _ rfl
     obtain ⟨q1,q2⟩:=g5 u _ rfl
     simp only [cx,hx,if_false,List.modify_succ_cons,hZ]
     exact ⟨⟨⟨h1,h2⟩,q1⟩,by simpa using q2⟩
    ·simp only [eD,hx,if_false,List.eraseIdx_cons_succ,hZ]
     exact ⟨⟨h1,h2⟩,g6⟩
theorem pe:∀ (es:List MapEntry) (kvs:List (κ×Value)) (x:κ) (u:Value) (c:Nat),hZ K es kvs→aA kvs x=none→hZ K (es++[⟨K.val x,u,c⟩]) (cx kvs x u)
 | [],[],x,u,c,_,_=>⟨⟨rfl,rfl⟩,trivial⟩
 | e::es,(k,v)::kvs,x,u,c,⟨h,hr⟩,hg=>by
  unfold aA at hg
  by_cases hx:x=k
  ·simp [hx] at hg
  ·simp only [hx,if_false] at hg
   simp only [cx,hx,if_false]
   exact ⟨h,pe es kvs x u c hr hg⟩
theorem oM {α:Type}:∀ (kvs:List (κ×α)) (x:κ),aA kvs x=none→eD kvs x=kvs
 | [],_,_=>rfl
 | (k,v)::r,x,h=>by
  unfold aA at h
  by_cases hx:x=k
  ·simp [hx] at h
  ·simp only [hx,if_false] at h
   simp only [eD,hx,if_false,oM r x h]
end
section
variable {ops:Array Oper} {Q:Exit→Act→World→Prop} {n:Nat} {ds:Md} {e:Env} {w w':World} {rest:List Oper}
variable {op:Op} {ty:TypeId} {pos:String} {af:Array Edge} {d:Nat} {v u:Value} {W0:World} {l l' r r':List ah}
variable {κ:Type} [DecidableEq κ] (K:Fj κ) {b:Nat} {kvs:List (κ×Value)} {k:κ}
theorem Sat.pY (h:Sat W0 (aO K b kvs::l) w):∃ es clock,w.heap[b]?=some (.map es.toArray clock)∧hZ K es kvs∧(∀ e∈es,e.born<clock)∧(es.map (·.born)).Nodup∧Sat W0 (ob false b (.map es.toArray clock)::l) w:=by
 obtain ⟨a,bb,c,d,hp,e,f,h1,h2,ff,l1,l2,⟨es,clock,k1,k2,k3,k4⟩,r⟩:=h
 exact ⟨es,clock,e _ (_,_) (l1 _ _ k1),k2,k3,k4,a,bb,c,d,hp,e,f,h1,h2,ff,l1,l2,k1,r⟩
theorem Sat.tK (h:Sat W0 (ob false b (.map #[] 0)::l) w):Sat W0 (aO K b []::l) w:=h.head fun hp k=>⟨[],0,k,trivial,by simp,by simp⟩
theorem gj {es:List MapEntry} {x:κ} {o:Option (Nat×Value)} (h:Instr.findNow K.desc (K.val x) es 0=some o):(Instr.findKey K.ty (K.val x) es).run Tryz.prog w=.ok o w:=by
 simp [Instr.findKey,run_underlying K.und,h]
theorem Hz {t:Nat} {z:Value} (h:(Tryz.prog.info? t).bind (·.zero)=some z):(zeroValue t).run Tryz.prog w=.ok z w:=by
 simp only [Option.bind_eq_some_iff] at h
 obtain ⟨i,hi,hz⟩:=h
 simp [zeroValue,typeInfo,hi,hz]
theorem xW:(Tryz.prog.info? 113).bind (·.zero)=some (.pointer none):=by kernel_rfl
theorem BS {T elem:TypeId} {z:Value} (hs:Sat W0 (aO K b kvs::l) w) (hT:lk vD T=some (K.ty,elem)) (hz:(Tryz.prog.info? elem).bind (·.zero)=some z) (ok:Bool) :
 (Instr.lookup T (.map (some b)) (K.val k) ok).run Tryz.prog w=.ok (if ok then .tuple #[(aA kvs k).getD z,.bool (aA kvs k).isSome] else (aA kvs k).getD z) w:=by
 obtain ⟨es,clock,hb,he,_,_,_⟩:=hs.pY
 have hzz:=Hz (w:=w) hz
 rcases jQ K es kvs k 0 he with ⟨g1,g2⟩|⟨j,v',g1,g2,_⟩
 ·have:=gj K (w:=w) g2
  simp [Instr.lookup,run_underlying (iM hT),MapKept.run_getObj_map hb,K.check,this,hzz,g1]
 ·have:=gj K (w:=w) g2
  simp [Instr.lookup,run_underlying (iM hT),MapKept.run_getObj_map hb,K.check,this,g1]
theorem oo {T elem:TypeId} {z:Value} {x y:Operand} (hs:Sat W0 l w) (tk:Take (aO K b kvs) l r) (hx:ev e x=some (.map (some b))) (hy:ev e y=some (K.val k)) (hT:lk vD T=some (K.ty,elem)) (hz:(Tryz.prog.info? elem).bind (·.zero)=some z) (hd:Nat.blt d n=true)
 (kk:WL ops Q n ds rest ((d,(aA kvs k).getD z)::e) w):WL ops Q n ds (⟨some d,.lookup T x y false,ty,pos,af,none⟩::rest) e w:=
 cj (fun a ha=>by simp only [execOp,ha.ev hx,ha.ev hy];have:=BS K (k:=k) (hs.take tk) hT hz false;simp [this]) hd kk
theorem Sat.re {es es':List MapEntry} {clock clock':Nat} {kvs':List (κ×Value)} (hs:Sat W0 (ob false b (.map es.toArray clock)::l) w) (he:hZ K es' kvs') (hb:∀ e∈es',e.born<clock') (hn:(es'.map (·.born)).Nodup) :
 Sat W0 (aO K b kvs'::l) { w with heap:=w.heap.setIfInBounds b (.map es'.toArray clock') }:=by
 have hb0:=hs.fC
 have hlt:b<w.heap.size:=(Array.getElem?_eq_some_iff.1 hb0).1
 refine Sat.head (A:=ob false b (.map es'.toArray clock')) (Sat.kx hs rfl rfl rfl (by simp) (by simp [hlt]) fun i hi=>?_) fun hp k=>⟨es',clock',k,he,hb,hn⟩
 exact Array.getElem?_setIfInBounds_ne (fun h=>hi h.symm)
theorem iV {T elem:TypeId} {x y z:Operand} (hs:Sat W0 l w) (tk:ic l (aO K b kvs) (aO K b (cx kvs k v)) l') (hx:ev e x=some (.map (some b))) (hy:ev e y=some (K.val k)) (hzv:ev e z=some v) (hT:lk vD T=some (K.ty,elem))
 (kk:∀ w',Sat W0 l' w'→WL ops Q n ds rest e w'):WL ops Q n ds (⟨none,.mapUpdate T x y z,ty,pos,af,none⟩::rest) e w:=by
 obtain ⟨r,t1,t2⟩:=tk.take
 obtain ⟨es,clock,hb,he,hlt,hnd,hs1⟩:=(hs.take t1).pY
 rcases jQ K es kvs k 0 he with ⟨g1,g2⟩|⟨j,v',g1,g2,g3,⟨e0,g4,g4'⟩,g5,_⟩
 ·have hf:=gj K (w:=w) g2
  have hs2:=hs1.re K (es':=es++[⟨K.val k,v,clock⟩]) (clock':=clock+1) (pe K es kvs k v clock he g1) (fun e' he'=>by
   rcases List.mem_append.1 he' with h|h
   ·exact Nat.lt_succ_of_lt (hlt e' h)
   ·simp at h;subst h;exact Nat.lt_succ_self _) (by
   rw [List.map_append,List.nodup_append]
   refine ⟨hnd,by simp,?_⟩
   intro a ha c hc hac
   simp at hc;subst hc;subst hac
   obtain ⟨e',he',h'⟩:=List.mem_map.1 ha
   have:=hlt e' he'
   omega)
  refine wb (fun a ha=>?_) (kk _ (hs2.mr t2))
  simp only [execOp,ha.ev hx,ha.ev hy,ha.ev hzv]
  simp [Instr.mapUpdate,run_underlying (iM hT),MapKept.run_getObj_map hb,K.check,hf,MapKept.run_setObj_map _ hb]
 ·have hf:=gj K (w:=w) g2
  obtain ⟨q1,q2⟩:=g5 v _ rfl
  have hs2:=hs1.re K (es':=es.modify j (fun e=>{ e with key:=K.val k,val:=v })) (clock':=clock) q1 (fun e' he'=>by
   have:e'.born∈es.map (·.born):=by rw [← q2];exact List.mem_map.2 ⟨e',he',rfl⟩
   obtain ⟨e1,h1,h2⟩:=List.mem_map.1 this
   rw [← h2];exact hlt e1 h1) (by rw [q2];exact hnd)
  refine wb (fun a ha=>?_) (kk _ (hs2.mr t2))
  simp only [execOp,ha.ev hx,ha.ev hy,ha.ev hzv]
  simp [Instr.mapUpdate,run_underlying (iM hT),MapKept.run_getObj_map hb,K.check,hf,MapKept.run_setObj_map _ hb,Instr.keyThatStays,K.bits,g4,g4']
theorem Fo {T elem ty2:TypeId} {x y:Operand} (hs:Sat W0 l w) (tk:ic l (aO K b kvs) (aO K b (eD kvs k)) l') (hx:ev e x=some (.map (some b))) (hy:ev e y=some (K.val k)) (hT:lk vD T=some (K.ty,elem))
 (kk:∀ w',Sat W0 l' w'→WL ops Q n ds rest e w'):WL ops Q n ds (⟨none,.call { callee:=.builtin .delete,args:=#[x,y],argTypes:=#[T,ty2] },ty,pos,af,none⟩::rest) e w:=by
 obtain ⟨r,t1,t2⟩:=tk.take
 obtain ⟨es,clock,hb,he,hlt,hnd,hs1⟩:=(hs.take t1).pY
 rcases jQ K es kvs k 0 he with ⟨g1,g2⟩|⟨j,v',g1,g2,g3,_,_,g6⟩
 ·have hf:=gj K (w:=w) g2
  have hs2:=hs1.re K (es':=es) (clock':=clock) (kvs':=eD kvs k) (by rw [oM kvs k g1];exact he) hlt hnd
  refine Dz (v:=.tuple #[]) (fun a ha=>?_) (kk _ (hs2.mr t2))
  simp only [execOp,resolve,List.map_toArray,List.map_cons,List.map_nil,ha.ev hx,ha.ev hy,invoke,Go.builtin]
  simp [Builtin.delete_,run_underlying (iM hT),MapKept.run_getObj_map hb,K.check,hf,MapKept.run_setObj_map _ hb]
 ·have hf:=gj K (w:=w) g2
  have hs2:=hs1.re K (es':=es.eraseIdx j) (clock':=clock) (kvs':=eD kvs k) g6 (fun e' he'=>hlt e' (List.mem_of_mem_eraseIdx he')) (hnd.sublist ((List.eraseIdx_sublist es j).map _))
  refine Dz (v:=.tuple #[]) (fun a ha=>?_) (kk _ (hs2.mr t2))
  simp only [execOp,resolve,List.map_toArray,List.map_cons,List.map_nil,ha.ev hx,ha.ev hy,invoke,Go.builtin]
  simp [Builtin.delete_,run_underlying (iM hT),MapKept.run_getObj_map hb,K.check,hf,MapKept.run_setObj_map _ hb]
def cR (es:List MapEntry) (seen:List Nat):List MapEntry:=es.filter fun e=>!seen.contains e.born
def fy (b it:Nat) (kvs left:List (κ×Value)) (last:Option (κ×Value)):ah:=fun h=>∃ es clock seen,hZ K es kvs∧(∀ e∈es,e.born<clock)∧(es.map (·.born)).Nodup ∧
 hZ K (cR es seen) left∧(∀ x,last=some x→∃ e s',e∈es∧Fl K e x∧seen=s'++[e.born])∧cV [ob false b (.map es.toArray clock),ob false it (.mapIter (some b) clock seen.toArray clock)] h
theorem Sat.lP {it:Nat} {left:List (κ×Value)} {last:Option (κ×Value)} (hs:Sat W0 (fy K b it kvs left last::l) w):Sat W0 (aO K b kvs::l) w:=
 hs.head fun hp ⟨es,clock,seen,h1,h2,h3,_,_,hsep⟩=>by
  obtain ⟨a1,a2,_,l1,_,ha,_⟩:=hsep
  exact ⟨es,clock,l1 _ _ ha,h1,h2,h3⟩
theorem nA {T elem:TypeId} {x:Operand} (hs:Sat W0 l w) (tk:Take (aO K b kvs) l r) (hx:ev e x=some (.map (some b))) (hT:lk vD T=some (K.ty,elem)) (hd:Nat.blt d n=true)
 (kk:∀ w' it,Sat W0 (fy K b it kvs kvs none::r) w'→WL ops Q n ds rest ((d,.pointer (some ⟨it,0,none⟩))::e) w'):WL ops Q n ds (⟨some d,.range T x,ty,pos,af,none⟩::rest) e w:=by
 obtain ⟨es,clock,hb,he,hlt,hnd,hs1⟩:=(hs.take tk).pY
 have hs2:=hs1.new (.mapIter (some b) clock #[] clock) false
 refine cj (w':={ w with heap:=w.heap.push (.mapIter (some b) clock #[] clock) }) (v:=.pointer (some ⟨w.heap.size,0,none⟩)) (fun a ha=>?_) hd (kk _ _ ?_)
 ·simp [execOp,ha.ev hx,Instr.range,run_underlying (iM hT),MapKept.run_getObj_map hb]
 ·refine Sat.close (B:=[ob false b (.map es.toArray clock),ob false w.heap.size (.mapIter (some b) clock #[] clock)]) ?_ fun hp k=>⟨es,clock,[],he,hlt,hnd,?_,by simp,k⟩
  ·exact hs2.imp fun _ k=>ki k
  ·have:cR es []=es:=by unfold cR;simp
   rw [this];exact he
theorem Fp {es:List MapEntry}:∀ {kvs:List (κ×Value)} {j:Nat} {e:MapEntry},hZ K es kvs→es[j]?=some e→∃ l1 x l2,kvs=l1++x::l2∧Fl K e x∧hZ K (es.eraseIdx j) (l1++l2):=by
 induction es with
 | nil=>intro kvs j e _ h;simp at h
 | cons e0 es ih=>
  intro kvs j e hr h
  cases kvs with
  | nil=>exact hr.elim
  | cons p ps=>
   cases j with
   | zero=>simp at h;subst h;exact ⟨[],p,ps,rfl,hr.1,by simpa using hr.2⟩
   | succ j=>
    simp at h
    obtain ⟨l1,x,l2,rfl,h2,h3⟩:=ih hr.2 h
    exact ⟨p::l1,x,l2,rfl,h2,by simp only [List.eraseIdx_cons_succ,List.cons_append];exact ⟨hr.1,h3⟩⟩
theorem Fq {es:List MapEntry} {kvs:List (κ×Value)} (h:hZ K es kvs):es=[]↔kvs=[]:=by cases es<;>cases kvs<;>simp_all [hZ]
theorem zw {es:List MapEntry} {seen:List Nat} (hnd:(es.map (·.born)).Nodup) {j:Nat} {e:MapEntry} (h:(cR es seen)[j]?=some e):cR es (seen++[e.born])=(cR es seen).eraseIdx j:=by
 have e1:cR es (seen++[e.born])=(cR es seen).filter fun x=>!(x.born==e.born):=by
  unfold cR;rw [List.filter_filter];congr 1;funext x
  rw [List.contains_append];cases seen.contains x.born<;>simp [Bool.beq_eq_decide_eq];try rfl
 rw [e1]
 have hn2:((cR es seen).map (·.born)).Nodup:=hnd.sublist (List.filter_sublist.map _)
 generalize cR es seen=L at h hn2
 clear e1 hnd
 induction L generalizing j with
 | nil=>simp at h
 | cons y L ih=>
  simp only [List.map_cons,List.nodup_cons] at hn2
  cases j with
  | zero=>
   simp at h;subst h
   simp only [List.filter_cons,beq_self_eq_true,Bool.not_true,Bool.false_eq_true,if_false,List.eraseIdx_cons_zero]
   refine List.filter_eq_self.2 fun x hx=>?_
   have:x.born≠y.born:=fun he=>hn2.1 (by rw [← he];exact List.mem_map.2 ⟨x,hx,rfl⟩)
   simpa using this
  | succ j=>
   simp at h
   have hmem:e∈L:=List.mem_of_getElem? h
   have:y.born≠e.born:=fun he=>hn2.1 (by rw [he];exact List.mem_map.2 ⟨e,hmem,rfl⟩)
   simp only [List.filter_cons,List.eraseIdx_cons_succ]
   rw [if_pos (by simpa using this),ih h hn2.2]
theorem HA {it:Nat} {left:List (κ×Value)} {last:Option (κ×Value)} {t:TypeId} (hs:Sat W0 (fy K b it kvs left last::l) w) :
 (left=[]∧(Instr.next (.pointer (some ⟨it,0,none⟩)) false t).run Tryz.prog w=.ok (.tuple #[.bool false]) w) ∨
 ∃ l1 x l2 w',left=l1++x::l2∧(Instr.next (.pointer (some ⟨it,0,none⟩)) false t).run Tryz.prog w=.ok (.tuple #[.bool true,K.val x.1,x.2]) w'∧Sat W0 (fy K b it kvs (l1++l2) (some x)::l) w':=by
 obtain ⟨⟨es,clock,seen⟩,⟨h1,h2,h3,h4,h5⟩,hs1⟩:=hs.eI (α:=List MapEntry×Nat×List Nat) (φ:=fun z=>hZ K z.1 kvs∧(∀ e∈z.1,e.born<z.2.1)∧(z.1.map (·.born)).Nodup ∧
  hZ K (cR z.1 z.2.2) left∧(∀ x,last=some x→∃ e s',e∈z.1∧Fl K e x∧z.2.2=s'++[e.born])) (B:=fun z=>[ob false b (.map z.1.toArray z.2.1),ob false it (.mapIter (some b) z.2.1 z.2.2.toArray z.2.1)]) fun hp ⟨es,clock,seen,h1,h2,h3,h4,h5,k⟩=>⟨(es,clock,seen),⟨h1,h2,h3,h4,h5⟩,k⟩
 dsimp only [List.cons_append,List.nil_append] at h1 h2 h3 h4 h5 hs1
 have hb:=hs1.fC
 have hit:=(hs1.take (.there .here)).fC
 have hun:(es.toArray.filter fun e=>!seen.toArray.contains e.born)=(cR es seen).toArray:=by unfold cR;simp
 have hold:((cR es seen).toArray.filter fun e=>decide (e.born<clock))=(cR es seen).toArray:=by
  rw [Array.filter_eq_self];intro x hx;have:=h2 x ((show x∈es∧¬x.born∈seen by simpa [cR] using hx).1);simpa using this
 have hnew:((cR es seen).toArray.filter fun e=>decide (e.born ≥ clock))=#[]:=by
  rw [Array.filter_eq_empty_iff];intro x hx;have:=h2 x ((show x∈es∧¬x.born∈seen by simpa [cR] using hx).1);simp;omega
 have htest:(!seen.toArray.isEmpty&&!es.toArray.isEmpty&&es.toArray.all (fun x=>decide (x.born ≥ clock)))=false:=by
  cases es with
  | nil=>simp
  | cons y r=>have:=h2 y (by simp);simp;intro _ hh;omega
 have hg1:(getObj it).run Tryz.prog w=.ok (.mapIter (some b) clock seen.toArray clock) w:=by simp [getObj,Sem.run,hit]
 have hg2:=MapKept.run_getObj_map (P:=Tryz.prog) hb
 by_cases h0:cR es seen=[]
 ·left
  refine ⟨(Fq K h4).1 h0,?_⟩
  simp only [Instr.next,Sem.run_bind,hg1,hg2,Result.andThen_ok,htest,Bool.false_eq_true,if_false,hun,hold,hnew,h0]
  simp [Question.forced]
 ·right
  have hne:(cR es seen).toArray.isEmpty=false:=by simpa using h0
  have hch:∃ j w1,j<(cR es seen).length∧(w1=w∨w1={ w with drawn:=w.drawn+1 })∧(choose (Question.mapNext (cR es seen).length)).run Tryz.prog w=.ok j w1:=by
   have hpos:0<(cR es seen).length:=List.length_pos_iff.2 h0
   by_cases hf:(cR es seen).length≤1
   ·exact ⟨0,w,hpos,.inl rfl,by simp [choose,Sem.run,Question.forced,hf]⟩
   ·exact ⟨_,_,Nat.mod_lt _ hpos,.inr rfl,by simp only [choose,Sem.run,Question.forced,decide_eq_true_eq,hf,if_false,Question.cut];rfl⟩
  obtain ⟨j,w1,hj,hw1,hch⟩:=hch
  have hge:(cR es seen)[j]?=some (cR es seen)[j]:=List.getElem?_eq_getElem hj
  obtain ⟨l1,x,l2,hl,hx,hrest⟩:=Fp K h4 hge
  have hmem:(cR es seen)[j]∈es:=(List.mem_filter.1 (List.getElem_mem hj)).1
  have hs2:Sat W0 (ob false it (.mapIter (some b) clock seen.toArray clock)::ob false b (.map es.toArray clock)::l) w1:=by
   rcases hw1 with rfl|rfl
   ·exact hs1.take (.there .here)
   ·exact (hs1.take (.there .here)).drew
  have hit1:=hs2.fC
  have hlt:it<w1.heap.size:=(Array.getElem?_eq_some_iff.1 hit1).1
  refine ⟨l1,x,l2,{ w1 with heap:=w1.heap.setIfInBounds it (.mapIter (some b) clock (seen.toArray.push (cR es seen)[j].born) clock) },hl,?_,?_⟩
  ·have hset:(setObj it (.mapIter (some b) clock (seen.toArray.push (cR es seen)[j].born) clock)).run Tryz.prog w1=.ok () { w1 with heap:=w1.heap.setIfInBounds it (.mapIter (some b) clock (seen.toArray.push (cR es seen)[j].born) clock) }:=by
    simp [setObj,Sem.run,hit1]
   simp only [Instr.next,Sem.run_bind,hg1,hg2,Result.andThen_ok,htest,Bool.false_eq_true,if_false,hun,hold,hnew]
   simp only [Sem.run_bind,Result.andThen_ok,Bool.false_eq_true,if_false,hne,Array.append_empty,Array.empty_append,Array.size_map,List.size_toArray,hch,Array.getElem?_map,List.getElem?_toArray,hge,Option.map_some,hset,Sem.run_pure,hx.1,hx.2]
  ·refine Sat.close (B:=[ob false b (.map es.toArray clock),ob false it (.mapIter (some b) clock (seen++[(cR es seen)[j].born]).toArray clock)]) ?_ fun hp k=>⟨es,clock,seen++[(cR es seen)[j].born],h1,h2,h3,?_,?_,k⟩
   ·have:=Sat.kx hs2 (o':=.mapIter (some b) clock (seen.toArray.push (cR es seen)[j].born) clock) (w':={ w1 with heap:=w1.heap.setIfInBounds it (.mapIter (some b) clock (seen.toArray.push (cR es seen)[j].born) clock) }) rfl rfl rfl (by simp) (by simp [hlt]) (fun i hi=>Array.getElem?_setIfInBounds_ne (fun h=>hi h.symm))
    have e2:(seen++[(cR es seen)[j].born]).toArray=seen.toArray.push (cR es seen)[j].born:=by simp
    rw [e2]
    exact this.imp fun _ k=>ki k
   ·rw [zw h3 hge];exact hrest
   ·rintro y hy;cases hy;exact ⟨_,seen,hmem,hx,rfl⟩
theorem pZ {x:Operand} {it:Nat} {left:List (κ×Value)} {last:Option (κ×Value)} (hs:Sat W0 l w) (tk:Take (fy K b it kvs left last) l r) (hx:ev e x=some (.pointer (some ⟨it,0,none⟩))) (hd:Nat.blt d n=true)
 (k0:left=[]→WL ops Q n ds rest ((d,.tuple #[.bool false])::e) w)
 (k1:∀ l1 x l2 w',left=l1++x::l2→Sat W0 (fy K b it kvs (l1++l2) (some x)::r) w'→WL ops Q n ds rest ((d,.tuple #[.bool true,K.val x.1,x.2])::e) w') :
 WL ops Q n ds (⟨some d,.next x false,ty,pos,af,none⟩::rest) e w:=by
 rcases HA K (t:=ty) (hs.take tk) with ⟨h,hr⟩|⟨l1,y,l2,w',h,hr,hs'⟩
 ·exact cj (fun a ha=>by simp only [execOp,ha.ev hx];simp [hr]) hd (k0 h)
 ·exact cj (fun a ha=>by simp only [execOp,ha.ev hx];simp [hr]) hd (k1 l1 y l2 w' h hs')
theorem nB {x:Operand} {it:Nat} {left:List (κ×Value)} {y:κ×Value} (hs:Sat W0 l w) (tk:Take (fy K b it kvs left (some y)) l r) (hx:ev e x=some (.pointer (some ⟨it,0,none⟩))) (hd:Nat.blt d n=true)
 (kk:WL ops Q n ds rest ((d,.tuple #[K.val y.1,y.2])::e) w):WL ops Q n ds (⟨some d,.entry x,ty,pos,af,none⟩::rest) e w:=by
 obtain ⟨⟨es,clock,seen⟩,⟨h1,h2,h3,h4,h5⟩,hs1⟩:=(hs.take tk).eI (α:=List MapEntry×Nat×List Nat) (φ:=fun z=>hZ K z.1 kvs∧(∀ e∈z.1,e.born<z.2.1)∧(z.1.map (·.born)).Nodup ∧
  hZ K (cR z.1 z.2.2) left∧(∀ x,some y=some x→∃ e s',e∈z.1∧Fl K e x∧z.2.2=s'++[e.born])) (B:=fun z=>[ob false b (.map z.1.toArray z.2.1),ob false it (.mapIter (some b) z.2.1 z.2.2.toArray z.2.1)]) fun hp ⟨es,clock,seen,h1,h2,h3,h4,h5,k⟩=>⟨(es,clock,seen),⟨h1,h2,h3,h4,h5⟩,k⟩
 dsimp only [List.cons_append,List.nil_append] at h1 h2 h3 h4 h5 hs1
 obtain ⟨en,s',hm,hy,rfl⟩:=h5 y rfl
 have hb:=hs1.fC
 have hit:=(hs1.take (.there .here)).fC
 have hg1:(getObj it).run Tryz.prog w=.ok (.mapIter (some b) clock (s'++[en.born]).toArray clock) w:=by simp [getObj,Sem.run,hit]
 have hg2:=MapKept.run_getObj_map (P:=Tryz.prog) hb
 have hf:es.toArray.find? (·.born==en.born)=some en:=by
  rw [List.find?_toArray];exact find_born en es h3 hm
 refine cj (fun a ha=>?_) hd kk
 simp only [execOp,ha.ev hx,Instr.entry,Sem.run_bind,hg1,hg2,Result.andThen_ok]
 have e2:(s'++[en.born]).toArray.back?=some en.born:=by simp
 simp [e2,hf,hy.1,hy.2,hg2]
end
end
end Go.Proofs.YtecibefflhomdaaGreatDoor
namespace Go.Proofs.YtecibefflhomdaaGreatDoor.Pure
open Go
section
variable {κ α:Type} [DecidableEq κ]
def opt (f:α→Nat):Option α→Nat
 | none=>0
 | some x=>f x
theorem HB:∀ {l:List Nat} {x:Nat},x∈l→x≤l.sum
 | y::r,x,h=>by
  rw [List.sum_cons]
  rcases List.mem_cons.1 h with h|h
  ·omega
  ·have:=HB h;omega
theorem xX (f:α→Nat):∀ (l:List (κ×α)) (x:κ) (u:α),((cx l x u).map fun p=>f p.2).sum+opt f (aA l x)=(l.map fun p=>f p.2).sum+f u
 | [],x,u=>by simp [cx,aA,opt]
 | (k,v)::r,x,u=>by
  unfold cx aA
  by_cases h:x=k
  ·simp [h,opt];omega
  ·have:=xX f r x u
   simp only [h,if_false,List.map_cons,List.sum_cons];omega
theorem p7 (f:α→Nat):∀ (l:List (κ×α)) (x:κ),((eD l x).map fun p=>f p.2).sum+opt f (aA l x)=(l.map fun p=>f p.2).sum
 | [],x=>by simp [eD,aA,opt]
 | (k,v)::r,x=>by
  unfold eD aA
  by_cases h:x=k
  ·simp [h,opt];omega
  ·have:=p7 f r x
   simp only [h,if_false,List.map_cons,List.sum_cons];omega
theorem td [DecidableEq α]:∀ {l:List (κ×α)},(l.map (·.1)).Nodup→((l.map (·.2)).Nodup↔∀ x y i,aA l x=some i→aA l y=some i→x=y)
 | [],_=>by simp [aA]
 | (k,v)::r,hn=>by
  simp only [List.map_cons,List.nodup_cons] at hn ⊢
  have ih:=td hn.2
  rw [ih]
  constructor
  ·rintro ⟨h1,h2⟩ x y i hx hy
   unfold aA at hx hy
   by_cases hxk:x=k<;>by_cases hyk:y=k
   ·rw [hxk,hyk]
   ·simp [hxk] at hx;subst hx;simp only [hyk,if_false] at hy
    exact absurd (List.mem_map.2 ⟨_,dL hy,rfl⟩) h1
   ·simp [hyk] at hy;subst hy;simp only [hxk,if_false] at hx
    exact absurd (List.mem_map.2 ⟨_,dL hx,rfl⟩) h1
   ·simp only [hxk,hyk,if_false] at hx hy
    exact h2 x y i hx hy
  ·intro h
   refine ⟨fun hm=>?_,fun x y i hx hy=>?_⟩
   ·obtain ⟨⟨x,u⟩,hx,hu⟩:=List.mem_map.1 hm
    simp at hu;subst hu
    have hne:x≠k:=fun e=>hn.1 (e▸List.mem_map.2 ⟨_,hx,rfl⟩)
    exact hne (h x k u (by unfold aA;simp only [hne,if_false];exact de hn.2 hx) (by simp [aA]))
   ·have h1:∀ z,aA r z=some i→z≠k:=fun z hz e=>hn.1 (e▸List.mem_map.2 ⟨_,dL hz,rfl⟩)
    exact h x y i (by unfold aA;simp [h1 x hx,hx]) (by unfold aA;simp [h1 y hy,hy])
theorem DR {l:List (κ×α)} {x:κ} (h:aA l x=none) (u:α):cx l x u=l++[(x,u)]:=by
 induction l with
 | nil=>rfl
 | cons q r ih=>
  obtain ⟨k,v⟩:=q
  unfold aA at h
  by_cases hk:x=k
  ·simp [hk] at h
  ·simp only [hk,if_false] at h
   simp only [cx,hk,if_false,ih h,List.cons_append]
end
namespace ad
theorem Ok.xY {D:ad} (h:D.Ok) {n:Bs} {i:Nat} (hn:aA D.now n=some i):∃ x,aA D.nodes i=some x:=by
 have:=h.now _ (dL hn)
 exact Option.isSome_iff_exists.1 this
theorem size_le {D:ad} {n:Bs} {i:Nat} (hn:aA D.now n=some i):(D.aH i).length≤D.used:=by
 have:=dL hn
 unfold used
 have h2:(D.aH i).length∈D.now.map fun p=>(D.aH p.2).length:=List.mem_map.2 ⟨_,this,rfl⟩
 exact HB h2
def created (D:ad) (n:Bs) (i:Nat):ad:={ D with nodes:=(i,([],0))::D.nodes,now:=fE D.now [(n,some i)],moves:=D.moves++[[(n,some i)]] }
theorem Ok.created {D:ad} (h:D.Ok) {n:Bs} {i:Nat} (hi:aA D.nodes i=none) (hn:aA D.now n=none):(D.created n i).Ok:=by
 have hne:∀ j,(aA D.nodes j).isSome=true→j≠i:=fun j hj e=>by rw [e,hi] at hj;cases hj
 have hold:∀ j,(aA D.nodes j).isSome=true→aA ((i,(([]:Bs),0))::D.nodes) j=aA D.nodes j:=fun j hj=>by simp [aA,hne j hj]
 have hsame:∀ j,(aA D.nodes j).isSome=true→(aA ((i,(([]:Bs),0))::D.nodes) j).isSome=true:=fun j hj=>by rw [hold j hj];exact hj
 have hnow:(D.created n i).now=D.now++[(n,i)]:=by simp [ad.created,fE,DR hn]
 have hself:aA ((i,(([]:Bs),0))::D.nodes) i=some ([],0):=by simp [aA]
 refine ⟨?_,fun p hp=>hsame _ (h.safe p hp),?_,?_,?_,h.room0,h.room1,h.wait0,h.wait1,h.bad0,h.bad1,?_,?_⟩
 ·intro p hp
  rw [hnow] at hp
  rcases List.mem_append.1 hp with hp|hp
  ·exact hsame _ (h.now p hp)
  ·simp at hp;subst hp;simp [ad.created,aA]
 ·intro l hl p hp j hj
  rcases List.mem_append.1 hl with hl|hl
  ·exact hsame _ (h.moves l hl p hp j hj)
  ·simp at hl;subst hl;simp at hp;subst hp;simp at hj;subst hj;simp [ad.created,aA]
 ·rw [hnow,List.map_append,List.nodup_append]
  refine ⟨h.names,by simp,fun a ha b hb hab=>?_⟩
  simp at hb;subst hb;subst hab
  exact cw.1 hn ha
 ·rw [hnow,List.map_append,List.nodup_append]
  refine ⟨h.ids,by simp,fun a ha b hb hab=>?_⟩
  simp at hb;subst hb;subst hab
  obtain ⟨p,hp,rfl⟩:=List.mem_map.1 ha
  exact hne _ (h.now p hp) rfl
 ·have:(D.created n i).used=D.used:=by
   unfold ad.used
   rw [hnow,List.map_append,List.sum_append]
   have e1:D.now.map (fun p=>((D.created n i).aH p.2).length)=D.now.map fun p=>(D.aH p.2).length:=by
    refine List.map_congr_left fun p hp=>?_
    simp only [aH,ad.created,hold _ (h.now p hp)]
   rw [e1];simp [aH,ad.created,aA]
  rw [this];exact h.used
 ·intro l hl
  rcases List.mem_append.1 hl with hl|hl
  ·exact h.short l hl
  ·simp at hl;subst hl;simp
def fL (D:ad) (n:Bs):ad:={ D with now:=fE D.now [(n,none)],moves:=D.moves++[[(n,none)]] }
theorem Ok.fL {D:ad} (h:D.Ok) (n:Bs):(D.fL n).Ok:=by
 have hnow:(D.fL n).now=eD D.now n:=rfl
 have hs:(eD D.now n).Sublist D.now:=nz _ _
 refine ⟨fun p hp=>h.now p (hs.subset hp),h.safe,?_,?_,?_,h.room0,h.room1,h.wait0,h.wait1,h.bad0,h.bad1,?_,?_⟩
 ·intro l hl p hp j hj
  rcases List.mem_append.1 hl with hl|hl
  ·exact h.moves l hl p hp j hj
  ·simp at hl;subst hl;simp at hp;subst hp;simp at hj
 ·rw [hnow];exact jw h.names n
 ·rw [hnow];exact h.ids.sublist (hs.map _)
 ·have:=p7 (fun i=>(D.aH i).length) D.now n
  have e:(D.fL n).used=((eD D.now n).map fun p=>(D.aH p.2).length).sum:=rfl
  have hu:=h.used
  unfold ad.used at hu
  rw [e];omega
 ·intro l hl
  rcases List.mem_append.1 hl with hl|hl
  ·exact h.short l hl
  ·simp at hl;subst hl;simp
def renamed (D:ad) (a b:Bs) (i:Nat):ad:={ D with now:=fE D.now [(b,some i),(a,none)],moves:=D.moves++[[(b,some i),(a,none)]] }
theorem Ok.renamed {D:ad} (h:D.Ok) {a b:Bs} (hab:a≠b) {i:Nat} (ha:aA D.now a=some i):(D.renamed a b i).Ok:=by
 have hnow:(D.renamed a b i).now=eD (cx D.now b i) a:=rfl
 have hs:(eD (cx D.now b i) a).Sublist (cx D.now b i):=nz _ _
 have hi:=h.now _ (dL ha)
 have hn1:=jv h.names b i
 have hn2:=jw hn1 a
 refine ⟨?_,h.safe,?_,?_,?_,h.room0,h.room1,h.wait0,h.wait1,h.bad0,h.bad1,?_,?_⟩
 ·intro p hp
  rcases DQ (hs.subset hp) with rfl|hp
  ·exact hi
  ·exact h.now p hp
 ·intro l hl p hp j hj
  rcases List.mem_append.1 hl with hl|hl
  ·exact h.moves l hl p hp j hj
  ·simp at hl;subst hl;simp at hp;rcases hp with rfl|rfl
   ·simp at hj;subst hj;exact hi
   ·simp at hj
 ·rw [hnow];exact hn2
 ·rw [hnow,td hn2]
  have hinj:=(td h.names).1 h.ids
  intro x y j hx hy
  rw [iU _ _ hn1,cQ] at hx hy
  by_cases hxa:x=a
  ·simp [hxa] at hx
  by_cases hya:y=a
  ·simp [hya] at hy
  simp only [hxa,hya,if_false] at hx hy
  by_cases hxb:x=b<;>by_cases hyb:y=b
  ·rw [hxb,hyb]
  ·simp [hxb] at hx;subst hx;simp only [hyb,if_false] at hy;exact absurd (hinj y a i hy ha) hya
  ·simp [hyb] at hy;subst hy;simp only [hxb,if_false] at hx;exact absurd (hinj x a i hx ha) hxa
  ·simp only [hxb,hyb,if_false] at hx hy;exact hinj x y j hx hy
 ·have h1:=xX (fun i=>(D.aH i).length) D.now b i
  have h2:=p7 (fun i=>(D.aH i).length) (cx D.now b i) a
  have h3:aA (cx D.now b i) a=some i:=by rw [cQ];simp [hab,ha]
  rw [h3] at h2
  have e:(D.renamed a b i).used=((eD (cx D.now b i) a).map fun p=>(D.aH p.2).length).sum:=rfl
  have hu:=h.used
  unfold ad.used at hu
  simp only [opt] at h2
  rw [e];omega
 ·intro l hl
  rcases List.mem_append.1 hl with hl|hl
  ·exact h.short l hl
  ·simp at hl;subst hl;simp
def laid (D:ad) (i:Nat) (x:Bs×Nat):ad:={ D with nodes:=cx D.nodes i x }
theorem rf {D:ad} {i j:Nat} {x:Bs×Nat} (h:(aA D.nodes j).isSome=true):(aA (D.laid i x).nodes j).isSome=true:=by
 simp only [laid,cQ];split
 ·rfl
 ·exact h
theorem Ok.laid {D:ad} (h:D.Ok) {i:Nat} {x:Bs×Nat} (hu:(D.laid i x).used≤4398046511104):(D.laid i x).Ok:=
 ⟨fun p hp=>rf (h.now p hp),fun p hp=>rf (h.safe p hp),fun l hl p hp j hj=>rf (h.moves l hl p hp j hj),h.names,h.ids,h.room0,h.room1,h.wait0,h.wait1,h.bad0,h.bad1,hu,h.short⟩
theorem DS {f g:Nat→Nat} {i k:Nat} (hf:∀ j,j≠i→f j=g j) (hi:f i=g i+k):∀ {l:List (Bs×Nat)},(l.map (·.2)).Nodup→(l.map fun p=>f p.2).sum≤(l.map fun p=>g p.2).sum+k∧(i ∉ l.map (·.2)→(l.map fun p=>f p.2).sum=(l.map fun p=>g p.2).sum)
 | [],_=>by simp
 | (n,j)::r,hn=>by
  simp only [List.map_cons,List.nodup_cons] at hn
  obtain ⟨h1,h2⟩:=DS hf hi hn.2
  simp only [List.map_cons,List.sum_cons,List.mem_cons,not_or]
  refine ⟨?_,fun ⟨h3,h4⟩=>by rw [hf j (Ne.symm h3),h2 h4]⟩
  by_cases hj:j=i
  ·subst hj;rw [hi,h2 hn.1];omega
  ·rw [hf j hj];omega
theorem km {D:ad} (h:D.Ok) {i:Nat} {x:Bs×Nat} {k:Nat} (hx:x.1.length=(D.aH i).length+k):(D.laid i x).used≤D.used+k:=by
 refine (DS (f:=fun j=>((D.laid i x).aH j).length) (g:=fun j=>(D.aH j).length) (i:=i) (fun j hj=>?_) ?_ h.ids).1
 ·simp only [aH,laid,cQ,if_neg hj]
 ·simp only [aH,laid,cQ,if_true];exact hx
def synced (D:ad):ad:={ D with safe:=D.moves.foldl fE D.safe,moves:=[] }
theorem zx:∀ (l:List (Bs×Option Nat)) (m:List (Bs×Nat)) (p:Bs×Nat),p∈fE m l→p∈m∨∃ q∈l,q.2=some p.2
 | [],m,p,h=>.inl h
 | (n,o)::r,m,p,h=>by
  have h':p∈fE (match o with|none=>eD m n|some i=>cx m n i) r:=by cases o<;>exact h
  rcases zx r _ p h' with h1|⟨q,hq,h2⟩
  ·cases o with
   | none=>exact .inl ((nz m n).subset h1)
   | some i=>
    rcases DQ h1 with rfl|h1
    ·exact .inr ⟨_,List.mem_cons_self,rfl⟩
    ·exact .inl h1
  ·exact .inr ⟨q,List.mem_cons_of_mem _ hq,h2⟩
theorem Ok.synced {D:ad} (h:D.Ok):D.synced.Ok:=by
 have key:∀ (ms:List (List (Bs×Option Nat))) (m:List (Bs×Nat)),(∀ p∈m,(aA D.nodes p.2).isSome=true)→(∀ l∈ms,∀ p∈l,∀ i,p.2=some i→(aA D.nodes i).isSome=true)→∀ p∈ms.foldl fE m,(aA D.nodes p.2).isSome=true:=by
  intro ms
  induction ms with
  | nil=>intro m hm _;exact hm
  | cons l ls ih=>
   intro m hm hl
   refine ih _ (fun p hp=>?_) fun l' hl'=>hl l' (List.mem_cons_of_mem _ hl')
   rcases zx l m p hp with h1|⟨q,hq,h2⟩
   ·exact hm p h1
   ·exact hl l List.mem_cons_self q hq _ h2
 exact ⟨h.now,key _ _ h.safe h.moves,fun l hl=>by simp [ad.synced] at hl,h.names,h.ids,h.room0,h.room1,h.wait0,h.wait1,h.bad0,h.bad1,h.used,fun l hl=>by simp [ad.synced] at hl⟩
end ad
def aQ:Bs→Bs→Bool
 | _,[]=>false
 | [],_::_=>true
 | a::x,b::y=>decide (a<b)||(decide (a=b)&&aQ x y)
def less (a b:az):Bool:=if a.key≠b.key then aQ a.key b.key else decide (b.seq<a.seq)
def dt (l:List az) (e:az):Nat→Nat→Nat→Nat
 | 0,lo,_=>lo
 | f+1,lo,hi=>if lo<hi then (if less (l.getD ((lo+hi) / 2) default) e=true then dt l e f ((lo+hi) / 2+1) hi else dt l e f lo ((lo+hi) / 2)) else lo
def aZ (l:List az) (e:az):Nat:=dt l e l.length 0 l.length
theorem pf (l:List az) (e:az):∀ (f lo hi:Nat),lo≤hi→dt l e f lo hi≤hi∧lo≤dt l e f lo hi
 | 0,lo,hi,h=>⟨h,Nat.le_refl _⟩
 | f+1,lo,hi,h=>by
  unfold dt
  split
  ·split
   ·have:=pf l e f ((lo+hi) / 2+1) hi (by omega);omega
   ·have:=pf l e f lo ((lo+hi) / 2) (by omega);omega
  ·exact ⟨h,Nat.le_refl _⟩
theorem jy (l:List az) (e:az):aZ l e≤l.length:=(pf l e _ _ _ (Nat.zero_le _)).1
theorem gY (l:List az) (e:az):∀ (f g lo hi:Nat),hi-lo≤f→hi-lo≤g→dt l e f lo hi=dt l e g lo hi
 | 0,0,_,_,_,_=>rfl
 | 0,g+1,lo,hi,h,_=>by unfold dt;rw [if_neg (by omega)]
 | f+1,0,lo,hi,_,h=>by unfold dt;rw [if_neg (by omega)]
 | f+1,g+1,lo,hi,h,h'=>by
  unfold dt
  split
  ·rw [gY l e f g ((lo+hi) / 2+1) hi (by omega) (by omega),gY l e f g lo ((lo+hi) / 2) (by omega) (by omega)]
  ·rfl
def dT (l:List az) (e:az):List az:=l.take (aZ l e)++e::l.drop (aZ l e)
@[simp] theorem lj (l:List az) (e:az):(dT l e).length=l.length+1:=by
 have:=jy l e
 simp [dT];omega
end Go.Proofs.YtecibefflhomdaaGreatDoor.Pure
