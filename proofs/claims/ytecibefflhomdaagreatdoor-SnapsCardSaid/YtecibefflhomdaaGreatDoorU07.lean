/-
  Part 7: The engine 14 maps; THE PURE MIRROR, PART 3 what the disk's operations do, and t; THE PURE MIRROR, PART 4 rows in memory.
-/
import Derived.Test.YtecibefflhomdaaGreatDoorU06
import Derived.MapKept
import Derived.Laws.IdiomRangeMap
set_option maxHeartbeats 8000000
set_option maxRecDepth 100000
set_option linter.all false
namespace Go.Proofs.YtecibefflhomdaaGreatDoor
open Go
section
attribute [local semireducible] WL WC WQ
structure MKey (κ:Type) where
 val:κ→Value
 ty:TypeId
 desc:TypeDesc
 und:Tryz.prog.underlying ty=some desc
 same:∀ a b [Decidable (a=b)],Instr.sameNow desc (val a) (val b)=some (decide (a=b))
 bits:∀ a,Instr.sameBits 10000 (val a) (val a)=true
 check:∀ e w v,(Instr.checkKey e 10000 ty (val v)).run Tryz.prog w=.ok () w
theorem checkKey_str (e:Bool) (w:World) (v:Value) (hv:∀ d x,v≠.iface d x) {t:TypeId} (ht:Tryz.prog.underlying t=some .string∨∃ k,Tryz.prog.underlying t=some (.int k)):(Instr.checkKey e 10000 t v).run Tryz.prog w=.ok () w:=by
 have key:∀ n,(Instr.checkKey e (n+1) t v).run Tryz.prog w=.ok () w:=fun n=>by
  rcases ht with ht|⟨k,ht⟩<;>simp [Instr.checkKey,und_of ht]
 exact key 9999
theorem ba_beq (a b:Bs):((⟨a.toArray⟩:ByteArray)==⟨b.toArray⟩)=decide (a=b):=by
 show (a.toArray==b.toArray)=_
 rw [Bool.eq_iff_iff];simp
def keyS:MKey Bs where
 val:=str
 ty:=9
 desc:=.string
 und:=kStr_und (t:=9) rfl
 same a b:=by
  intro _
  simp only [Instr.sameNow,Option.some.injEq,ba_beq]
  rw [Bool.eq_iff_iff]
  simp
 bits a:=by
  have key:∀ n,Instr.sameBits (n+1) (str a) (str a)=true:=fun n=>by simp only [Instr.sameBits,ba_beq,decide_true]
  exact key 9999
 check e w v:=checkKey_str e w _ (fun _ _ h=>by cases h) (.inl (kStr_und (t:=9) rfl))
def keyI:MKey Int where
 val:=.int .i64
 ty:=3
 desc:=.int .i64
 und:=kInt_und (t:=3) rfl
 same a b:=by
  intro _
  simp only [Instr.sameNow,Option.some.injEq,if_true]
  rw [Bool.eq_iff_iff]
  simp
 bits a:=by
  have key:∀ n,Instr.sameBits (n+1) (.int .i64 a) (.int .i64 a)=true:=fun n=>by simp [Instr.sameBits]
  exact key 9999
 check e w v:=checkKey_str e w _ (fun _ _ h=>by cases h) (.inr ⟨_,kInt_und (t:=3) rfl⟩)
open Go.Proofs.YtecibefflhomdaaGreatDoor.Pure (aget aput adel)
section
variable {κ:Type} [DecidableEq κ] (K:MKey κ)
def entR (e:MapEntry) (p:κ×Value):Prop:=e.key=K.val p.1∧e.val=p.2
def entsR:List MapEntry→List (κ×Value)→Prop
 | [],[]=>True
 | e::es,p::ps=>entR K e p∧entsR es ps
 | _,_=>False
def mapH (b:Nat) (kvs:List (κ×Value)):HProp:=fun h=>∃ es clock,h b=some (false,.map es.toArray clock)∧entsR K es kvs∧(∀ e∈es,e.born<clock)∧(es.map (·.born)).Nodup
theorem findNow_get:∀ (es:List MapEntry) (kvs:List (κ×Value)) (x:κ) (i:Nat),entsR K es kvs →
 (aget kvs x=none∧Instr.findNow K.desc (K.val x) es i=some none)∨∃ j v,aget kvs x=some v∧Instr.findNow K.desc (K.val x) es i=some (some (i+j,v))∧j<es.length∧(∃ e,es[j]?=some e∧e.key=K.val x) ∧
  (∀ u,∀ es',es'=es.modify j (fun e=>{ e with key:=K.val x,val:=u })→entsR K es' (aput kvs x u)∧es'.map (·.born)=es.map (·.born))∧entsR K (es.eraseIdx j) (adel kvs x)
 | [],[],x,i,_=>.inl ⟨rfl,rfl⟩
 | e::es,(k,v)::kvs,x,i,⟨⟨h1,h2⟩,hr⟩=>by
  unfold aget
  simp only [Instr.findNow,h1,K.same]
  by_cases hx:x=k
  ·subst hx
   refine .inr ⟨0,v,by simp,by simp at h2;simp [h2],by simp,⟨e,by simp,h1⟩,?_,?_⟩
   ·rintro u _ rfl
    simp [aput,entsR,entR,hr]
   ·simpa [adel] using hr
  ·simp only [hx,if_false,decide_false]
   rcases findNow_get es kvs x (i+1) hr with ⟨g1,g2⟩|⟨j,v',g1,g2,g3,g4,g5,g6⟩
   ·exact .inl ⟨g1,g2⟩
   ·refine .inr ⟨j+1,v',g1,by rw [g2];congr 2;congr 1;omega,by simpa using g3,by simpa using g4,?_,?_⟩
    ·rintro u _ rfl
     obtain ⟨q1,q2⟩:=g5 u _ rfl
     simp only [aput,hx,if_false,List.modify_succ_cons,entsR]
     exact ⟨⟨⟨h1,h2⟩,q1⟩,by simpa using q2⟩
    ·simp only [adel,hx,if_false,List.eraseIdx_cons_succ,entsR]
     exact ⟨⟨h1,h2⟩,g6⟩
theorem entsR_push:∀ (es:List MapEntry) (kvs:List (κ×Value)) (x:κ) (u:Value) (c:Nat),entsR K es kvs→aget kvs x=none→entsR K (es++[⟨K.val x,u,c⟩]) (aput kvs x u)
 | [],[],x,u,c,_,_=>⟨⟨rfl,rfl⟩,trivial⟩
 | e::es,(k,v)::kvs,x,u,c,⟨h,hr⟩,hg=>by
  unfold aget at hg
  by_cases hx:x=k
  ·simp [hx] at hg
  ·simp only [hx,if_false] at hg
   simp only [aput,hx,if_false]
   exact ⟨h,entsR_push es kvs x u c hr hg⟩
theorem aput_none_del {α:Type}:∀ (kvs:List (κ×α)) (x:κ),aget kvs x=none→adel kvs x=kvs
 | [],_,_=>rfl
 | (k,v)::r,x,h=>by
  unfold aget at h
  by_cases hx:x=k
  ·simp [hx] at h
  ·simp only [hx,if_false] at h
   simp only [adel,hx,if_false,aput_none_del r x h]
end
section
variable {ops:Array Oper} {Q:Exit→Act→World→Prop} {n:Nat} {ds:Md} {e:Env} {w w':World} {rest:List Oper}
variable {op:Op} {ty:TypeId} {pos:String} {af:Array Edge} {d:Nat} {v u:Value} {W0:World} {l l' r r':List HProp}
variable {κ:Type} [DecidableEq κ] (K:MKey κ) {b:Nat} {kvs:List (κ×Value)} {k:κ}
theorem Sat.mapOpen (h:Sat W0 (mapH K b kvs::l) w):∃ es clock,w.heap[b]?=some (.map es.toArray clock)∧entsR K es kvs∧(∀ e∈es,e.born<clock)∧(es.map (·.born)).Nodup∧Sat W0 (ob false b (.map es.toArray clock)::l) w:=by
 obtain ⟨a,bb,c,d,hp,e,f,h1,h2,ff,l1,l2,⟨es,clock,k1,k2,k3,k4⟩,r⟩:=h
 exact ⟨es,clock,e _ (_,_) (l1 _ _ k1),k2,k3,k4,a,bb,c,d,hp,e,f,h1,h2,ff,l1,l2,k1,r⟩
theorem Sat.mapNew (h:Sat W0 (ob false b (.map #[] 0)::l) w):Sat W0 (mapH K b []::l) w:=h.head fun hp k=>⟨[],0,k,trivial,by simp,by simp⟩
theorem findKey_run {es:List MapEntry} {x:κ} {o:Option (Nat×Value)} (h:Instr.findNow K.desc (K.val x) es 0=some o):(Instr.findKey K.ty (K.val x) es).run Tryz.prog w=.ok o w:=by
 simp [Instr.findKey,run_underlying K.und,h]
theorem zero_run {t:Nat} {z:Value} (h:(Tryz.prog.info? t).bind (·.zero)=some z):(zeroValue t).run Tryz.prog w=.ok z w:=by
 simp only [Option.bind_eq_some_iff] at h
 obtain ⟨i,hi,hz⟩:=h
 simp [zeroValue,typeInfo,hi,hz]
theorem zero113:(Tryz.prog.info? 113).bind (·.zero)=some (.pointer none):=by kernel_rfl
theorem lookup_run {T elem:TypeId} {z:Value} (hs:Sat W0 (mapH K b kvs::l) w) (hT:lk tMap T=some (K.ty,elem)) (hz:(Tryz.prog.info? elem).bind (·.zero)=some z) (ok:Bool) :
 (Instr.lookup T (.map (some b)) (K.val k) ok).run Tryz.prog w=.ok (if ok then .tuple #[(aget kvs k).getD z,.bool (aget kvs k).isSome] else (aget kvs k).getD z) w:=by
 obtain ⟨es,clock,hb,he,_,_,_⟩:=hs.mapOpen
 have hzz:=zero_run (w:=w) hz
 rcases findNow_get K es kvs k 0 he with ⟨g1,g2⟩|⟨j,v',g1,g2,_⟩
 ·have:=findKey_run K (w:=w) g2
  simp [Instr.lookup,run_underlying (kMap_und hT),MapKept.run_getObj_map hb,K.check,this,hzz,g1]
 ·have:=findKey_run K (w:=w) g2
  simp [Instr.lookup,run_underlying (kMap_und hT),MapKept.run_getObj_map hb,K.check,this,g1]
theorem wl_lookup {T elem:TypeId} {z:Value} {x y:Operand} (hs:Sat W0 l w) (tk:Take (mapH K b kvs) l r) (hx:ev e x=some (.map (some b))) (hy:ev e y=some (K.val k)) (hT:lk tMap T=some (K.ty,elem)) (hz:(Tryz.prog.info? elem).bind (·.zero)=some z) (hd:Nat.blt d n=true)
 (kk:WL ops Q n ds rest ((d,(aget kvs k).getD z)::e) w):WL ops Q n ds (⟨some d,.lookup T x y false,ty,pos,af,none⟩::rest) e w:=
 wl_run (fun a ha=>by simp only [execOp,ha.ev hx,ha.ev hy];have:=lookup_run K (k:=k) (hs.take tk) hT hz false;simp [this]) hd kk
theorem wl_lookup2 {T elem:TypeId} {z:Value} {x y:Operand} (hs:Sat W0 l w) (tk:Take (mapH K b kvs) l r) (hx:ev e x=some (.map (some b))) (hy:ev e y=some (K.val k)) (hT:lk tMap T=some (K.ty,elem)) (hz:(Tryz.prog.info? elem).bind (·.zero)=some z) (hd:Nat.blt d n=true)
 (kk:WL ops Q n ds rest ((d,.tuple #[(aget kvs k).getD z,.bool (aget kvs k).isSome])::e) w):WL ops Q n ds (⟨some d,.lookup T x y true,ty,pos,af,none⟩::rest) e w:=
 wl_run (fun a ha=>by simp only [execOp,ha.ev hx,ha.ev hy];have:=lookup_run K (k:=k) (hs.take tk) hT hz true;simp [this]) hd kk
theorem Sat.mapSet {es es':List MapEntry} {clock clock':Nat} {kvs':List (κ×Value)} (hs:Sat W0 (ob false b (.map es.toArray clock)::l) w) (he:entsR K es' kvs') (hb:∀ e∈es',e.born<clock') (hn:(es'.map (·.born)).Nodup) :
 Sat W0 (mapH K b kvs'::l) { w with heap:=w.heap.setIfInBounds b (.map es'.toArray clock') }:=by
 have hb0:=hs.at_head
 have hlt:b<w.heap.size:=(Array.getElem?_eq_some_iff.1 hb0).1
 refine Sat.head (A:=ob false b (.map es'.toArray clock')) (Sat.set_head hs rfl rfl rfl (by simp) (by simp [hlt]) fun i hi=>?_) fun hp k=>⟨es',clock',k,he,hb,hn⟩
 exact Array.getElem?_setIfInBounds_ne (fun h=>hi h.symm)
theorem wl_mapUpdate {T elem:TypeId} {x y z:Operand} (hs:Sat W0 l w) (tk:Repl l (mapH K b kvs) (mapH K b (aput kvs k v)) l') (hx:ev e x=some (.map (some b))) (hy:ev e y=some (K.val k)) (hzv:ev e z=some v) (hT:lk tMap T=some (K.ty,elem))
 (kk:∀ w',Sat W0 l' w'→WL ops Q n ds rest e w'):WL ops Q n ds (⟨none,.mapUpdate T x y z,ty,pos,af,none⟩::rest) e w:=by
 obtain ⟨r,t1,t2⟩:=tk.take
 obtain ⟨es,clock,hb,he,hlt,hnd,hs1⟩:=(hs.take t1).mapOpen
 rcases findNow_get K es kvs k 0 he with ⟨g1,g2⟩|⟨j,v',g1,g2,g3,⟨e0,g4,g4'⟩,g5,_⟩
 ·have hf:=findKey_run K (w:=w) g2
  have hs2:=hs1.mapSet K (es':=es++[⟨K.val k,v,clock⟩]) (clock':=clock+1) (entsR_push K es kvs k v clock he g1) (fun e' he'=>by
   rcases List.mem_append.1 he' with h|h
   ·exact Nat.lt_succ_of_lt (hlt e' h)
   ·simp at h;subst h;exact Nat.lt_succ_self _) (by
   rw [List.map_append,List.nodup_append]
   refine ⟨hnd,by simp,?_⟩
   intro a ha c hc hac
   simp at hc;subst hc;subst hac
   obtain ⟨e',he',h'⟩:=List.mem_map.1 ha
   have:=hlt e' he'
   omega)
  refine wl_do (fun a ha=>?_) (kk _ (hs2.untake t2))
  simp only [execOp,ha.ev hx,ha.ev hy,ha.ev hzv]
  simp [Instr.mapUpdate,run_underlying (kMap_und hT),MapKept.run_getObj_map hb,K.check,hf,MapKept.run_setObj_map _ hb]
 ·have hf:=findKey_run K (w:=w) g2
  obtain ⟨q1,q2⟩:=g5 v _ rfl
  have hs2:=hs1.mapSet K (es':=es.modify j (fun e=>{ e with key:=K.val k,val:=v })) (clock':=clock) q1 (fun e' he'=>by
   have:e'.born∈es.map (·.born):=by rw [← q2];exact List.mem_map.2 ⟨e',he',rfl⟩
   obtain ⟨e1,h1,h2⟩:=List.mem_map.1 this
   rw [← h2];exact hlt e1 h1) (by rw [q2];exact hnd)
  refine wl_do (fun a ha=>?_) (kk _ (hs2.untake t2))
  simp only [execOp,ha.ev hx,ha.ev hy,ha.ev hzv]
  simp [Instr.mapUpdate,run_underlying (kMap_und hT),MapKept.run_getObj_map hb,K.check,hf,MapKept.run_setObj_map _ hb,Instr.keyThatStays,K.bits,g4,g4']
theorem wl_delete {T elem ty2:TypeId} {x y:Operand} (hs:Sat W0 l w) (tk:Repl l (mapH K b kvs) (mapH K b (adel kvs k)) l') (hx:ev e x=some (.map (some b))) (hy:ev e y=some (K.val k)) (hT:lk tMap T=some (K.ty,elem))
 (kk:∀ w',Sat W0 l' w'→WL ops Q n ds rest e w'):WL ops Q n ds (⟨none,.call { callee:=.builtin .delete,args:=#[x,y],argTypes:=#[T,ty2] },ty,pos,af,none⟩::rest) e w:=by
 obtain ⟨r,t1,t2⟩:=tk.take
 obtain ⟨es,clock,hb,he,hlt,hnd,hs1⟩:=(hs.take t1).mapOpen
 rcases findNow_get K es kvs k 0 he with ⟨g1,g2⟩|⟨j,v',g1,g2,g3,_,_,g6⟩
 ·have hf:=findKey_run K (w:=w) g2
  have hs2:=hs1.mapSet K (es':=es) (clock':=clock) (kvs':=adel kvs k) (by rw [aput_none_del kvs k g1];exact he) hlt hnd
  refine wl_run0 (v:=.tuple #[]) (fun a ha=>?_) (kk _ (hs2.untake t2))
  simp only [execOp,resolve,List.map_toArray,List.map_cons,List.map_nil,ha.ev hx,ha.ev hy,invoke,Go.builtin]
  simp [Builtin.delete_,run_underlying (kMap_und hT),MapKept.run_getObj_map hb,K.check,hf,MapKept.run_setObj_map _ hb]
 ·have hf:=findKey_run K (w:=w) g2
  have hs2:=hs1.mapSet K (es':=es.eraseIdx j) (clock':=clock) (kvs':=adel kvs k) g6 (fun e' he'=>hlt e' (List.mem_of_mem_eraseIdx he')) (hnd.sublist ((List.eraseIdx_sublist es j).map _))
  refine wl_run0 (v:=.tuple #[]) (fun a ha=>?_) (kk _ (hs2.untake t2))
  simp only [execOp,resolve,List.map_toArray,List.map_cons,List.map_nil,ha.ev hx,ha.ev hy,invoke,Go.builtin]
  simp [Builtin.delete_,run_underlying (kMap_und hT),MapKept.run_getObj_map hb,K.check,hf,MapKept.run_setObj_map _ hb]
def unseen (es:List MapEntry) (seen:List Nat):List MapEntry:=es.filter fun e=>!seen.contains e.born
def rangeH (b it:Nat) (kvs left:List (κ×Value)) (last:Option (κ×Value)):HProp:=fun h=>∃ es clock seen,entsR K es kvs∧(∀ e∈es,e.born<clock)∧(es.map (·.born)).Nodup ∧
 entsR K (unseen es seen) left∧(∀ x,last=some x→∃ e s',e∈es∧entR K e x∧seen=s'++[e.born])∧sepL [ob false b (.map es.toArray clock),ob false it (.mapIter (some b) clock seen.toArray clock)] h
theorem Sat.rangeDone {it:Nat} {left:List (κ×Value)} {last:Option (κ×Value)} (hs:Sat W0 (rangeH K b it kvs left last::l) w):Sat W0 (mapH K b kvs::l) w:=
 hs.head fun hp ⟨es,clock,seen,h1,h2,h3,_,_,hsep⟩=>by
  obtain ⟨a1,a2,_,l1,_,ha,_⟩:=hsep
  exact ⟨es,clock,l1 _ _ ha,h1,h2,h3⟩
theorem wl_range {T elem:TypeId} {x:Operand} (hs:Sat W0 l w) (tk:Take (mapH K b kvs) l r) (hx:ev e x=some (.map (some b))) (hT:lk tMap T=some (K.ty,elem)) (hd:Nat.blt d n=true)
 (kk:∀ w' it,Sat W0 (rangeH K b it kvs kvs none::r) w'→WL ops Q n ds rest ((d,.pointer (some ⟨it,0,none⟩))::e) w'):WL ops Q n ds (⟨some d,.range T x,ty,pos,af,none⟩::rest) e w:=by
 obtain ⟨es,clock,hb,he,hlt,hnd,hs1⟩:=(hs.take tk).mapOpen
 have hs2:=hs1.new (.mapIter (some b) clock #[] clock) false
 refine wl_run (w':={ w with heap:=w.heap.push (.mapIter (some b) clock #[] clock) }) (v:=.pointer (some ⟨w.heap.size,0,none⟩)) (fun a ha=>?_) hd (kk _ _ ?_)
 ·simp [execOp,ha.ev hx,Instr.range,run_underlying (kMap_und hT),MapKept.run_getObj_map hb]
 ·refine Sat.close (B:=[ob false b (.map es.toArray clock),ob false w.heap.size (.mapIter (some b) clock #[] clock)]) ?_ fun hp k=>⟨es,clock,[],he,hlt,hnd,?_,by simp,k⟩
  ·exact hs2.imp fun _ k=>sepL_swap k
  ·have:unseen es []=es:=by unfold unseen;simp
   rw [this];exact he
theorem entsR_get {es:List MapEntry}:∀ {kvs:List (κ×Value)} {j:Nat} {e:MapEntry},entsR K es kvs→es[j]?=some e→∃ l1 x l2,kvs=l1++x::l2∧entR K e x∧entsR K (es.eraseIdx j) (l1++l2):=by
 induction es with
 | nil=>intro kvs j e _ h;simp at h
 | cons e0 es ih=>
  intro kvs j e hr h
  cases kvs with
  | nil=>exact hr.elim
  | cons p ps=>
   cases j with
   | zero=>simp at h;subst h;exact ⟨[],p,ps,rfl,hr.1,by simpa using hr.2⟩
   | succ j=>
    simp at h
    obtain ⟨l1,x,l2,rfl,h2,h3⟩:=ih hr.2 h
    exact ⟨p::l1,x,l2,rfl,h2,by simp only [List.eraseIdx_cons_succ,List.cons_append];exact ⟨hr.1,h3⟩⟩
theorem entsR_nil {es:List MapEntry} {kvs:List (κ×Value)} (h:entsR K es kvs):es=[]↔kvs=[]:=by cases es<;>cases kvs<;>simp_all [entsR]
theorem unseen_push {es:List MapEntry} {seen:List Nat} (hnd:(es.map (·.born)).Nodup) {j:Nat} {e:MapEntry} (h:(unseen es seen)[j]?=some e):unseen es (seen++[e.born])=(unseen es seen).eraseIdx j:=by
 have e1:unseen es (seen++[e.born])=(unseen es seen).filter fun x=>!(x.born==e.born):=by
  unfold unseen;rw [List.filter_filter];congr 1;funext x
  rw [List.contains_append];cases seen.contains x.born<;>simp [Bool.beq_eq_decide_eq];try rfl
 rw [e1]
 have hn2:((unseen es seen).map (·.born)).Nodup:=hnd.sublist (List.filter_sublist.map _)
 generalize unseen es seen=L at h hn2
 clear e1 hnd
 induction L generalizing j with
 | nil=>simp at h
 | cons y L ih=>
  simp only [List.map_cons,List.nodup_cons] at hn2
  cases j with
  | zero=>
   simp at h;subst h
   simp only [List.filter_cons,beq_self_eq_true,Bool.not_true,Bool.false_eq_true,if_false,List.eraseIdx_cons_zero]
   refine List.filter_eq_self.2 fun x hx=>?_
   have:x.born≠y.born:=fun he=>hn2.1 (by rw [← he];exact List.mem_map.2 ⟨x,hx,rfl⟩)
   simpa using this
  | succ j=>
   simp at h
   have hmem:e∈L:=List.mem_of_getElem? h
   have:y.born≠e.born:=fun he=>hn2.1 (by rw [he];exact List.mem_map.2 ⟨e,hmem,rfl⟩)
   simp only [List.filter_cons,List.eraseIdx_cons_succ]
   rw [if_pos (by simpa using this),ih h hn2.2]
theorem next_run {it:Nat} {left:List (κ×Value)} {last:Option (κ×Value)} {t:TypeId} (hs:Sat W0 (rangeH K b it kvs left last::l) w) :
 (left=[]∧(Instr.next (.pointer (some ⟨it,0,none⟩)) false t).run Tryz.prog w=.ok (.tuple #[.bool false]) w) ∨
 ∃ l1 x l2 w',left=l1++x::l2∧(Instr.next (.pointer (some ⟨it,0,none⟩)) false t).run Tryz.prog w=.ok (.tuple #[.bool true,K.val x.1,x.2]) w'∧Sat W0 (rangeH K b it kvs (l1++l2) (some x)::l) w':=by
 obtain ⟨⟨es,clock,seen⟩,⟨h1,h2,h3,h4,h5⟩,hs1⟩:=hs.open1 (α:=List MapEntry×Nat×List Nat) (φ:=fun z=>entsR K z.1 kvs∧(∀ e∈z.1,e.born<z.2.1)∧(z.1.map (·.born)).Nodup ∧
  entsR K (unseen z.1 z.2.2) left∧(∀ x,last=some x→∃ e s',e∈z.1∧entR K e x∧z.2.2=s'++[e.born])) (B:=fun z=>[ob false b (.map z.1.toArray z.2.1),ob false it (.mapIter (some b) z.2.1 z.2.2.toArray z.2.1)]) fun hp ⟨es,clock,seen,h1,h2,h3,h4,h5,k⟩=>⟨(es,clock,seen),⟨h1,h2,h3,h4,h5⟩,k⟩
 dsimp only [List.cons_append,List.nil_append] at h1 h2 h3 h4 h5 hs1
 have hb:=hs1.at_head
 have hit:=(hs1.take (.there .here)).at_head
 have hun:(es.toArray.filter fun e=>!seen.toArray.contains e.born)=(unseen es seen).toArray:=by unfold unseen;simp
 have hold:((unseen es seen).toArray.filter fun e=>decide (e.born<clock))=(unseen es seen).toArray:=by
  rw [Array.filter_eq_self];intro x hx;have:=h2 x ((show x∈es∧¬x.born∈seen by simpa [unseen] using hx).1);simpa using this
 have hnew:((unseen es seen).toArray.filter fun e=>decide (e.born ≥ clock))=#[]:=by
  rw [Array.filter_eq_empty_iff];intro x hx;have:=h2 x ((show x∈es∧¬x.born∈seen by simpa [unseen] using hx).1);simp;omega
 have htest:(!seen.toArray.isEmpty&&!es.toArray.isEmpty&&es.toArray.all (fun x=>decide (x.born ≥ clock)))=false:=by
  cases es with
  | nil=>simp
  | cons y r=>have:=h2 y (by simp);simp;intro _ hh;omega
 have hg1:(getObj it).run Tryz.prog w=.ok (.mapIter (some b) clock seen.toArray clock) w:=by simp [getObj,Sem.run,hit]
 have hg2:=MapKept.run_getObj_map (P:=Tryz.prog) hb
 by_cases h0:unseen es seen=[]
 ·left
  refine ⟨(entsR_nil K h4).1 h0,?_⟩
  simp only [Instr.next,Sem.run_bind,hg1,hg2,Result.andThen_ok,htest,Bool.false_eq_true,if_false,hun,hold,hnew,h0]
  simp [Question.forced]
 ·right
  have hne:(unseen es seen).toArray.isEmpty=false:=by simpa using h0
  have hch:∃ j w1,j<(unseen es seen).length∧(w1=w∨w1={ w with drawn:=w.drawn+1 })∧(choose (Question.mapNext (unseen es seen).length)).run Tryz.prog w=.ok j w1:=by
   have hpos:0<(unseen es seen).length:=List.length_pos_iff.2 h0
   by_cases hf:(unseen es seen).length≤1
   ·exact ⟨0,w,hpos,.inl rfl,by simp [choose,Sem.run,Question.forced,hf]⟩
   ·exact ⟨_,_,Nat.mod_lt _ hpos,.inr rfl,by simp only [choose,Sem.run,Question.forced,decide_eq_true_eq,hf,if_false,Question.cut];rfl⟩
  obtain ⟨j,w1,hj,hw1,hch⟩:=hch
  have hge:(unseen es seen)[j]?=some (unseen es seen)[j]:=List.getElem?_eq_getElem hj
  obtain ⟨l1,x,l2,hl,hx,hrest⟩:=entsR_get K h4 hge
  have hmem:(unseen es seen)[j]∈es:=(List.mem_filter.1 (List.getElem_mem hj)).1
  have hs2:Sat W0 (ob false it (.mapIter (some b) clock seen.toArray clock)::ob false b (.map es.toArray clock)::l) w1:=by
   rcases hw1 with rfl|rfl
   ·exact hs1.take (.there .here)
   ·exact (hs1.take (.there .here)).drew
  have hit1:=hs2.at_head
  have hlt:it<w1.heap.size:=(Array.getElem?_eq_some_iff.1 hit1).1
  refine ⟨l1,x,l2,{ w1 with heap:=w1.heap.setIfInBounds it (.mapIter (some b) clock (seen.toArray.push (unseen es seen)[j].born) clock) },hl,?_,?_⟩
  ·have hset:(setObj it (.mapIter (some b) clock (seen.toArray.push (unseen es seen)[j].born) clock)).run Tryz.prog w1=.ok () { w1 with heap:=w1.heap.setIfInBounds it (.mapIter (some b) clock (seen.toArray.push (unseen es seen)[j].born) clock) }:=by
    simp [setObj,Sem.run,hit1]
   simp only [Instr.next,Sem.run_bind,hg1,hg2,Result.andThen_ok,htest,Bool.false_eq_true,if_false,hun,hold,hnew]
   simp only [Sem.run_bind,Result.andThen_ok,Bool.false_eq_true,if_false,hne,Array.append_empty,Array.empty_append,Array.size_map,List.size_toArray,hch,Array.getElem?_map,List.getElem?_toArray,hge,Option.map_some,hset,Sem.run_pure,hx.1,hx.2]
  ·refine Sat.close (B:=[ob false b (.map es.toArray clock),ob false it (.mapIter (some b) clock (seen++[(unseen es seen)[j].born]).toArray clock)]) ?_ fun hp k=>⟨es,clock,seen++[(unseen es seen)[j].born],h1,h2,h3,?_,?_,k⟩
   ·have:=Sat.set_head hs2 (o':=.mapIter (some b) clock (seen.toArray.push (unseen es seen)[j].born) clock) (w':={ w1 with heap:=w1.heap.setIfInBounds it (.mapIter (some b) clock (seen.toArray.push (unseen es seen)[j].born) clock) }) rfl rfl rfl (by simp) (by simp [hlt]) (fun i hi=>Array.getElem?_setIfInBounds_ne (fun h=>hi h.symm))
    have e2:(seen++[(unseen es seen)[j].born]).toArray=seen.toArray.push (unseen es seen)[j].born:=by simp
    rw [e2]
    exact this.imp fun _ k=>sepL_swap k
   ·rw [unseen_push h3 hge];exact hrest
   ·rintro y hy;cases hy;exact ⟨_,seen,hmem,hx,rfl⟩
theorem wl_next {x:Operand} {it:Nat} {left:List (κ×Value)} {last:Option (κ×Value)} (hs:Sat W0 l w) (tk:Take (rangeH K b it kvs left last) l r) (hx:ev e x=some (.pointer (some ⟨it,0,none⟩))) (hd:Nat.blt d n=true)
 (k0:left=[]→WL ops Q n ds rest ((d,.tuple #[.bool false])::e) w)
 (k1:∀ l1 x l2 w',left=l1++x::l2→Sat W0 (rangeH K b it kvs (l1++l2) (some x)::r) w'→WL ops Q n ds rest ((d,.tuple #[.bool true,K.val x.1,x.2])::e) w') :
 WL ops Q n ds (⟨some d,.next x false,ty,pos,af,none⟩::rest) e w:=by
 rcases next_run K (t:=ty) (hs.take tk) with ⟨h,hr⟩|⟨l1,y,l2,w',h,hr,hs'⟩
 ·exact wl_run (fun a ha=>by simp only [execOp,ha.ev hx];simp [hr]) hd (k0 h)
 ·exact wl_run (fun a ha=>by simp only [execOp,ha.ev hx];simp [hr]) hd (k1 l1 y l2 w' h hs')
theorem wl_entry {x:Operand} {it:Nat} {left:List (κ×Value)} {y:κ×Value} (hs:Sat W0 l w) (tk:Take (rangeH K b it kvs left (some y)) l r) (hx:ev e x=some (.pointer (some ⟨it,0,none⟩))) (hd:Nat.blt d n=true)
 (kk:WL ops Q n ds rest ((d,.tuple #[K.val y.1,y.2])::e) w):WL ops Q n ds (⟨some d,.entry x,ty,pos,af,none⟩::rest) e w:=by
 obtain ⟨⟨es,clock,seen⟩,⟨h1,h2,h3,h4,h5⟩,hs1⟩:=(hs.take tk).open1 (α:=List MapEntry×Nat×List Nat) (φ:=fun z=>entsR K z.1 kvs∧(∀ e∈z.1,e.born<z.2.1)∧(z.1.map (·.born)).Nodup ∧
  entsR K (unseen z.1 z.2.2) left∧(∀ x,some y=some x→∃ e s',e∈z.1∧entR K e x∧z.2.2=s'++[e.born])) (B:=fun z=>[ob false b (.map z.1.toArray z.2.1),ob false it (.mapIter (some b) z.2.1 z.2.2.toArray z.2.1)]) fun hp ⟨es,clock,seen,h1,h2,h3,h4,h5,k⟩=>⟨(es,clock,seen),⟨h1,h2,h3,h4,h5⟩,k⟩
 dsimp only [List.cons_append,List.nil_append] at h1 h2 h3 h4 h5 hs1
 obtain ⟨en,s',hm,hy,rfl⟩:=h5 y rfl
 have hb:=hs1.at_head
 have hit:=(hs1.take (.there .here)).at_head
 have hg1:(getObj it).run Tryz.prog w=.ok (.mapIter (some b) clock (s'++[en.born]).toArray clock) w:=by simp [getObj,Sem.run,hit]
 have hg2:=MapKept.run_getObj_map (P:=Tryz.prog) hb
 have hf:es.toArray.find? (·.born==en.born)=some en:=by
  rw [List.find?_toArray];exact find_born en es h3 hm
 refine wl_run (fun a ha=>?_) hd kk
 simp only [execOp,ha.ev hx,Instr.entry,Sem.run_bind,hg1,hg2,Result.andThen_ok]
 have e2:(s'++[en.born]).toArray.back?=some en.born:=by simp
 simp [e2,hf,hy.1,hy.2,hg2]
end
end
end Go.Proofs.YtecibefflhomdaaGreatDoor
namespace Go.Proofs.YtecibefflhomdaaGreatDoor.Pure
open Go
section
variable {κ α:Type} [DecidableEq κ]
def opt (f:α→Nat):Option α→Nat
 | none=>0
 | some x=>f x
theorem le_sum:∀ {l:List Nat} {x:Nat},x∈l→x≤l.sum
 | y::r,x,h=>by
  rw [List.sum_cons]
  rcases List.mem_cons.1 h with h|h
  ·omega
  ·have:=le_sum h;omega
theorem sum_put (f:α→Nat):∀ (l:List (κ×α)) (x:κ) (u:α),((aput l x u).map fun p=>f p.2).sum+opt f (aget l x)=(l.map fun p=>f p.2).sum+f u
 | [],x,u=>by simp [aput,aget,opt]
 | (k,v)::r,x,u=>by
  unfold aput aget
  by_cases h:x=k
  ·simp [h,opt];omega
  ·have:=sum_put f r x u
   simp only [h,if_false,List.map_cons,List.sum_cons];omega
theorem sum_del (f:α→Nat):∀ (l:List (κ×α)) (x:κ),((adel l x).map fun p=>f p.2).sum+opt f (aget l x)=(l.map fun p=>f p.2).sum
 | [],x=>by simp [adel,aget,opt]
 | (k,v)::r,x=>by
  unfold adel aget
  by_cases h:x=k
  ·simp [h,opt];omega
  ·have:=sum_del f r x
   simp only [h,if_false,List.map_cons,List.sum_cons];omega
theorem ids_inj [DecidableEq α]:∀ {l:List (κ×α)},(l.map (·.1)).Nodup→((l.map (·.2)).Nodup↔∀ x y i,aget l x=some i→aget l y=some i→x=y)
 | [],_=>by simp [aget]
 | (k,v)::r,hn=>by
  simp only [List.map_cons,List.nodup_cons] at hn ⊢
  have ih:=ids_inj hn.2
  rw [ih]
  constructor
  ·rintro ⟨h1,h2⟩ x y i hx hy
   unfold aget at hx hy
   by_cases hxk:x=k<;>by_cases hyk:y=k
   ·rw [hxk,hyk]
   ·simp [hxk] at hx;subst hx;simp only [hyk,if_false] at hy
    exact absurd (List.mem_map.2 ⟨_,aget_mem hy,rfl⟩) h1
   ·simp [hyk] at hy;subst hy;simp only [hxk,if_false] at hx
    exact absurd (List.mem_map.2 ⟨_,aget_mem hx,rfl⟩) h1
   ·simp only [hxk,hyk,if_false] at hx hy
    exact h2 x y i hx hy
  ·intro h
   refine ⟨fun hm=>?_,fun x y i hx hy=>?_⟩
   ·obtain ⟨⟨x,u⟩,hx,hu⟩:=List.mem_map.1 hm
    simp at hu;subst hu
    have hne:x≠k:=fun e=>hn.1 (e▸List.mem_map.2 ⟨_,hx,rfl⟩)
    exact hne (h x k u (by unfold aget;simp only [hne,if_false];exact aget_of_mem hn.2 hx) (by simp [aget]))
   ·have h1:∀ z,aget r z=some i→z≠k:=fun z hz e=>hn.1 (e▸List.mem_map.2 ⟨_,aget_mem hz,rfl⟩)
    exact h x y i (by unfold aget;simp [h1 x hx,hx]) (by unfold aget;simp [h1 y hy,hy])
theorem put_new {l:List (κ×α)} {x:κ} (h:aget l x=none) (u:α):aput l x u=l++[(x,u)]:=by
 induction l with
 | nil=>rfl
 | cons q r ih=>
  obtain ⟨k,v⟩:=q
  unfold aget at h
  by_cases hk:x=k
  ·simp [hk] at h
  ·simp only [hk,if_false] at h
   simp only [aput,hk,if_false,ih h,List.cons_append]
end
namespace PDisk
theorem Ok.getNow {D:PDisk} (h:D.Ok) {n:Bs} {i:Nat} (hn:aget D.now n=some i):∃ x,aget D.nodes i=some x:=by
 have:=h.now _ (aget_mem hn)
 exact Option.isSome_iff_exists.1 this
theorem size_le {D:PDisk} {n:Bs} {i:Nat} (hn:aget D.now n=some i):(D.dataOf i).length≤D.used:=by
 have:=aget_mem hn
 unfold used
 have h2:(D.dataOf i).length∈D.now.map fun p=>(D.dataOf p.2).length:=List.mem_map.2 ⟨_,this,rfl⟩
 exact le_sum h2
def created (D:PDisk) (n:Bs) (i:Nat):PDisk:={ D with nodes:=(i,([],0))::D.nodes,now:=setM D.now [(n,some i)],moves:=D.moves++[[(n,some i)]] }
theorem Ok.created {D:PDisk} (h:D.Ok) {n:Bs} {i:Nat} (hi:aget D.nodes i=none) (hn:aget D.now n=none):(D.created n i).Ok:=by
 have hne:∀ j,(aget D.nodes j).isSome=true→j≠i:=fun j hj e=>by rw [e,hi] at hj;cases hj
 have hold:∀ j,(aget D.nodes j).isSome=true→aget ((i,(([]:Bs),0))::D.nodes) j=aget D.nodes j:=fun j hj=>by simp [aget,hne j hj]
 have hsame:∀ j,(aget D.nodes j).isSome=true→(aget ((i,(([]:Bs),0))::D.nodes) j).isSome=true:=fun j hj=>by rw [hold j hj];exact hj
 have hnow:(D.created n i).now=D.now++[(n,i)]:=by simp [PDisk.created,setM,put_new hn]
 have hself:aget ((i,(([]:Bs),0))::D.nodes) i=some ([],0):=by simp [aget]
 refine ⟨?_,fun p hp=>hsame _ (h.safe p hp),?_,?_,?_,h.room0,h.room1,h.wait0,h.wait1,h.bad0,h.bad1,?_,?_⟩
 ·intro p hp
  rw [hnow] at hp
  rcases List.mem_append.1 hp with hp|hp
  ·exact hsame _ (h.now p hp)
  ·simp at hp;subst hp;simp [PDisk.created,aget]
 ·intro l hl p hp j hj
  rcases List.mem_append.1 hl with hl|hl
  ·exact hsame _ (h.moves l hl p hp j hj)
  ·simp at hl;subst hl;simp at hp;subst hp;simp at hj;subst hj;simp [PDisk.created,aget]
 ·rw [hnow,List.map_append,List.nodup_append]
  refine ⟨h.names,by simp,fun a ha b hb hab=>?_⟩
  simp at hb;subst hb;subst hab
  exact aget_none_iff.1 hn ha
 ·rw [hnow,List.map_append,List.nodup_append]
  refine ⟨h.ids,by simp,fun a ha b hb hab=>?_⟩
  simp at hb;subst hb;subst hab
  obtain ⟨p,hp,rfl⟩:=List.mem_map.1 ha
  exact hne _ (h.now p hp) rfl
 ·have:(D.created n i).used=D.used:=by
   unfold PDisk.used
   rw [hnow,List.map_append,List.sum_append]
   have e1:D.now.map (fun p=>((D.created n i).dataOf p.2).length)=D.now.map fun p=>(D.dataOf p.2).length:=by
    refine List.map_congr_left fun p hp=>?_
    simp only [dataOf,PDisk.created,hold _ (h.now p hp)]
   rw [e1];simp [dataOf,PDisk.created,aget]
  rw [this];exact h.used
 ·intro l hl
  rcases List.mem_append.1 hl with hl|hl
  ·exact h.short l hl
  ·simp at hl;subst hl;simp
def removed (D:PDisk) (n:Bs):PDisk:={ D with now:=setM D.now [(n,none)],moves:=D.moves++[[(n,none)]] }
theorem Ok.removed {D:PDisk} (h:D.Ok) (n:Bs):(D.removed n).Ok:=by
 have hnow:(D.removed n).now=adel D.now n:=rfl
 have hs:(adel D.now n).Sublist D.now:=adel_sub _ _
 refine ⟨fun p hp=>h.now p (hs.subset hp),h.safe,?_,?_,?_,h.room0,h.room1,h.wait0,h.wait1,h.bad0,h.bad1,?_,?_⟩
 ·intro l hl p hp j hj
  rcases List.mem_append.1 hl with hl|hl
  ·exact h.moves l hl p hp j hj
  ·simp at hl;subst hl;simp at hp;subst hp;simp at hj
 ·rw [hnow];exact nodup_del h.names n
 ·rw [hnow];exact h.ids.sublist (hs.map _)
 ·have:=sum_del (fun i=>(D.dataOf i).length) D.now n
  have e:(D.removed n).used=((adel D.now n).map fun p=>(D.dataOf p.2).length).sum:=rfl
  have hu:=h.used
  unfold PDisk.used at hu
  rw [e];omega
 ·intro l hl
  rcases List.mem_append.1 hl with hl|hl
  ·exact h.short l hl
  ·simp at hl;subst hl;simp
def renamed (D:PDisk) (a b:Bs) (i:Nat):PDisk:={ D with now:=setM D.now [(b,some i),(a,none)],moves:=D.moves++[[(b,some i),(a,none)]] }
theorem Ok.renamed {D:PDisk} (h:D.Ok) {a b:Bs} (hab:a≠b) {i:Nat} (ha:aget D.now a=some i):(D.renamed a b i).Ok:=by
 have hnow:(D.renamed a b i).now=adel (aput D.now b i) a:=rfl
 have hs:(adel (aput D.now b i) a).Sublist (aput D.now b i):=adel_sub _ _
 have hi:=h.now _ (aget_mem ha)
 have hn1:=nodup_put h.names b i
 have hn2:=nodup_del hn1 a
 refine ⟨?_,h.safe,?_,?_,?_,h.room0,h.room1,h.wait0,h.wait1,h.bad0,h.bad1,?_,?_⟩
 ·intro p hp
  rcases mem_put (hs.subset hp) with rfl|hp
  ·exact hi
  ·exact h.now p hp
 ·intro l hl p hp j hj
  rcases List.mem_append.1 hl with hl|hl
  ·exact h.moves l hl p hp j hj
  ·simp at hl;subst hl;simp at hp;rcases hp with rfl|rfl
   ·simp at hj;subst hj;exact hi
   ·simp at hj
 ·rw [hnow];exact hn2
 ·rw [hnow,ids_inj hn2]
  have hinj:=(ids_inj h.names).1 h.ids
  intro x y j hx hy
  rw [aget_del _ _ hn1,aget_put] at hx hy
  by_cases hxa:x=a
  ·simp [hxa] at hx
  by_cases hya:y=a
  ·simp [hya] at hy
  simp only [hxa,hya,if_false] at hx hy
  by_cases hxb:x=b<;>by_cases hyb:y=b
  ·rw [hxb,hyb]
  ·simp [hxb] at hx;subst hx;simp only [hyb,if_false] at hy;exact absurd (hinj y a i hy ha) hya
  ·simp [hyb] at hy;subst hy;simp only [hxb,if_false] at hx;exact absurd (hinj x a i hx ha) hxa
  ·simp only [hxb,hyb,if_false] at hx hy;exact hinj x y j hx hy
 ·have h1:=sum_put (fun i=>(D.dataOf i).length) D.now b i
  have h2:=sum_del (fun i=>(D.dataOf i).length) (aput D.now b i) a
  have h3:aget (aput D.now b i) a=some i:=by rw [aget_put];simp [hab,ha]
  rw [h3] at h2
  have e:(D.renamed a b i).used=((adel (aput D.now b i) a).map fun p=>(D.dataOf p.2).length).sum:=rfl
  have hu:=h.used
  unfold PDisk.used at hu
  simp only [opt] at h2
  rw [e];omega
 ·intro l hl
  rcases List.mem_append.1 hl with hl|hl
  ·exact h.short l hl
  ·simp at hl;subst hl;simp
def laid (D:PDisk) (i:Nat) (x:Bs×Nat):PDisk:={ D with nodes:=aput D.nodes i x }
theorem laid_some {D:PDisk} {i j:Nat} {x:Bs×Nat} (h:(aget D.nodes j).isSome=true):(aget (D.laid i x).nodes j).isSome=true:=by
 simp only [laid,aget_put];split
 ·rfl
 ·exact h
theorem Ok.laid {D:PDisk} (h:D.Ok) {i:Nat} {x:Bs×Nat} (hu:(D.laid i x).used≤4398046511104):(D.laid i x).Ok:=
 ⟨fun p hp=>laid_some (h.now p hp),fun p hp=>laid_some (h.safe p hp),fun l hl p hp j hj=>laid_some (h.moves l hl p hp j hj),h.names,h.ids,h.room0,h.room1,h.wait0,h.wait1,h.bad0,h.bad1,hu,h.short⟩
theorem sum_one {f g:Nat→Nat} {i k:Nat} (hf:∀ j,j≠i→f j=g j) (hi:f i=g i+k):∀ {l:List (Bs×Nat)},(l.map (·.2)).Nodup→(l.map fun p=>f p.2).sum≤(l.map fun p=>g p.2).sum+k∧(i ∉ l.map (·.2)→(l.map fun p=>f p.2).sum=(l.map fun p=>g p.2).sum)
 | [],_=>by simp
 | (n,j)::r,hn=>by
  simp only [List.map_cons,List.nodup_cons] at hn
  obtain ⟨h1,h2⟩:=sum_one hf hi hn.2
  simp only [List.map_cons,List.sum_cons,List.mem_cons,not_or]
  refine ⟨?_,fun ⟨h3,h4⟩=>by rw [hf j (Ne.symm h3),h2 h4]⟩
  by_cases hj:j=i
  ·subst hj;rw [hi,h2 hn.1];omega
  ·rw [hf j hj];omega
theorem used_laid {D:PDisk} (h:D.Ok) {i:Nat} {x:Bs×Nat} {k:Nat} (hx:x.1.length=(D.dataOf i).length+k):(D.laid i x).used≤D.used+k:=by
 refine (sum_one (f:=fun j=>((D.laid i x).dataOf j).length) (g:=fun j=>(D.dataOf j).length) (i:=i) (fun j hj=>?_) ?_ h.ids).1
 ·simp only [dataOf,laid,aget_put,if_neg hj]
 ·simp only [dataOf,laid,aget_put,if_true];exact hx
def synced (D:PDisk):PDisk:={ D with safe:=D.moves.foldl setM D.safe,moves:=[] }
theorem setM_mem:∀ (l:List (Bs×Option Nat)) (m:List (Bs×Nat)) (p:Bs×Nat),p∈setM m l→p∈m∨∃ q∈l,q.2=some p.2
 | [],m,p,h=>.inl h
 | (n,o)::r,m,p,h=>by
  have h':p∈setM (match o with|none=>adel m n|some i=>aput m n i) r:=by cases o<;>exact h
  rcases setM_mem r _ p h' with h1|⟨q,hq,h2⟩
  ·cases o with
   | none=>exact .inl ((adel_sub m n).subset h1)
   | some i=>
    rcases mem_put h1 with rfl|h1
    ·exact .inr ⟨_,List.mem_cons_self,rfl⟩
    ·exact .inl h1
  ·exact .inr ⟨q,List.mem_cons_of_mem _ hq,h2⟩
theorem Ok.synced {D:PDisk} (h:D.Ok):D.synced.Ok:=by
 have key:∀ (ms:List (List (Bs×Option Nat))) (m:List (Bs×Nat)),(∀ p∈m,(aget D.nodes p.2).isSome=true)→(∀ l∈ms,∀ p∈l,∀ i,p.2=some i→(aget D.nodes i).isSome=true)→∀ p∈ms.foldl setM m,(aget D.nodes p.2).isSome=true:=by
  intro ms
  induction ms with
  | nil=>intro m hm _;exact hm
  | cons l ls ih=>
   intro m hm hl
   refine ih _ (fun p hp=>?_) fun l' hl'=>hl l' (List.mem_cons_of_mem _ hl')
   rcases setM_mem l m p hp with h1|⟨q,hq,h2⟩
   ·exact hm p h1
   ·exact hl l List.mem_cons_self q hq _ h2
 exact ⟨h.now,key _ _ h.safe h.moves,fun l hl=>by simp [PDisk.synced] at hl,h.names,h.ids,h.room0,h.room1,h.wait0,h.wait1,h.bad0,h.bad1,h.used,fun l hl=>by simp [PDisk.synced] at hl⟩
end PDisk
def bltB:Bs→Bs→Bool
 | _,[]=>false
 | [],_::_=>true
 | a::x,b::y=>decide (a<b)||(decide (a=b)&&bltB x y)
def less (a b:Ent):Bool:=if a.key≠b.key then bltB a.key b.key else decide (b.seq<a.seq)
def searchG (l:List Ent) (e:Ent):Nat→Nat→Nat→Nat
 | 0,lo,_=>lo
 | f+1,lo,hi=>if lo<hi then (if less (l.getD ((lo+hi) / 2) default) e=true then searchG l e f ((lo+hi) / 2+1) hi else searchG l e f lo ((lo+hi) / 2)) else lo
def searchL (l:List Ent) (e:Ent):Nat:=searchG l e l.length 0 l.length
theorem searchG_le (l:List Ent) (e:Ent):∀ (f lo hi:Nat),lo≤hi→searchG l e f lo hi≤hi∧lo≤searchG l e f lo hi
 | 0,lo,hi,h=>⟨h,Nat.le_refl _⟩
 | f+1,lo,hi,h=>by
  unfold searchG
  split
  ·split
   ·have:=searchG_le l e f ((lo+hi) / 2+1) hi (by omega);omega
   ·have:=searchG_le l e f lo ((lo+hi) / 2) (by omega);omega
  ·exact ⟨h,Nat.le_refl _⟩
theorem searchL_le (l:List Ent) (e:Ent):searchL l e≤l.length:=(searchG_le l e _ _ _ (Nat.zero_le _)).1
theorem searchG_fuel (l:List Ent) (e:Ent):∀ (f g lo hi:Nat),hi-lo≤f→hi-lo≤g→searchG l e f lo hi=searchG l e g lo hi
 | 0,0,_,_,_,_=>rfl
 | 0,g+1,lo,hi,h,_=>by unfold searchG;rw [if_neg (by omega)]
 | f+1,0,lo,hi,_,h=>by unfold searchG;rw [if_neg (by omega)]
 | f+1,g+1,lo,hi,h,h'=>by
  unfold searchG
  split
  ·rw [searchG_fuel l e f g ((lo+hi) / 2+1) hi (by omega) (by omega),searchG_fuel l e f g lo ((lo+hi) / 2) (by omega) (by omega)]
  ·rfl
def addL (l:List Ent) (e:Ent):List Ent:=l.take (searchL l e)++e::l.drop (searchL l e)
@[simp] theorem addL_length (l:List Ent) (e:Ent):(addL l e).length=l.length+1:=by
 have:=searchL_le l e
 simp [addL];omega
end Go.Proofs.YtecibefflhomdaaGreatDoor.Pure
