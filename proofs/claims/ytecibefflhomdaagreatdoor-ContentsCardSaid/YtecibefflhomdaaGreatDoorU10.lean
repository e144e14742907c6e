/-
  Part 10: WALKS package api; The engine 15 append of one element; WALKS package api; WALKS package api; WALKS package api; WALKS package api.
-/
import Derived.Test.YtecibefflhomdaaGreatDoorU09
set_option maxHeartbeats 8000000
set_option maxRecDepth 100000
set_option linter.all false
namespace Go.Proofs.YtecibefflhomdaaGreatDoor
open Go
section
open Go.Proofs.YtecibefflhomdaaGreatDoor.Pure (PDisk aget aput adel setM)
attribute [local irreducible] IntKind.wrap
variable {W0 w:World} {F l:List HProp} {v:Value} {d:Nat} {D:PDisk}
theorem namesV_put:∀ (l:List (Bs×Nat)) (n:Bs) (i:Nat),namesV (aput l n i)=aput (namesV l) n (idV i)
 | [],_,_=>rfl
 | (k,j)::r,n,i=>by
  simp only [namesV,List.map_cons,aput]
  by_cases h:n=k
  ·simp [h]
  ·simp only [h,if_false,List.map_cons];rw [← namesV,namesV_put r n i];rfl
theorem namesV_del:∀ (l:List (Bs×Nat)) (n:Bs),namesV (adel l n)=adel (namesV l) n
 | [],_=>rfl
 | (k,j)::r,n=>by
  simp only [namesV,List.map_cons,adel]
  by_cases h:n=k
  ·simp [h]
  ·simp only [h,if_false,List.map_cons];rw [← namesV,namesV_del r n];rfl
theorem flat_seg {k:Nat}:∀ (xs:List (List Value)) (i:Nat) (x:List Value),(∀ y∈xs,y.length=k)→xs[i]?=some x→Seg xs.flatten (i*k) x:=by
 have shift:∀ (pre cs vs:List Value) (o:Nat),Seg cs o vs→Seg (pre++cs) (pre.length+o) vs:=by
  intro pre cs vs
  induction vs with
  | nil=>intro o _;trivial
  | cons u r ih=>intro o ⟨h,hr⟩;exact ⟨by rw [List.getElem?_append_right (by omega),Nat.add_sub_cancel_left];exact h,by rw [Nat.add_assoc];exact ih _ hr⟩
 have pre:∀ (vs cs:List Value),Seg (vs++cs) 0 vs:=by
  have key:∀ (vs pre cs:List Value),Seg (pre++(vs++cs)) pre.length vs:=by
   intro vs
   induction vs with
   | nil=>intro _ _;trivial
   | cons v r ih=>intro p cs;exact ⟨by simp,by have:=ih (p++[v]) cs;simpa using this⟩
  exact fun vs cs=>key vs [] cs
 intro xs
 induction xs with
 | nil=>intro i x _ h;simp at h
 | cons y ys ih=>
  intro i x hl h
  cases i with
  | zero=>simp at h;subst h;rw [Nat.zero_mul,List.flatten_cons];exact pre _ _
  | succ i=>
   simp at h
   have:=shift y ys.flatten x (i*k) (ih i x (fun z hz=>hl z (List.mem_cons_of_mem _ hz)) h)
   rw [hl y List.mem_cons_self] at this
   rw [List.flatten_cons,Nat.succ_mul,Nat.add_comm];exact this
theorem setM_take (m:List (Bs×Nat)) (mvs:List (Bs×Option Nat)) (i:Nat) (p:Bs×Option Nat) (h:mvs[i]?=some p) :
 setM m (mvs.take (i+1))=match p.2 with|none=>adel (setM m (mvs.take i)) p.1|some j=>aput (setM m (mvs.take i)) p.1 j:=by
 have hlt:=(List.getElem?_eq_some_iff.1 h).1
 have he:=(List.getElem?_eq_some_iff.1 h).2
 rw [List.take_succ_eq_append_getElem hlt,he]
 obtain ⟨a,o⟩:=p
 cases o<;>simp [setM,List.foldl_append]
theorem set_spec {m:Nat} {kvs:List (Bs×Nat)} {mvs:List (Bs×Option Nat)} (hs:Sat W0 (mapH keyS m (namesV kvs)::mvV v mvs::F) w) (hl:mvs.length<1000) :
 Calls Tryz.prog 54 #[.map (some m),v] w fun x w'=>x=.returned (.tuple #[])∧Sat W0 (mapH keyS m (namesV (setM kvs mvs))::mvV v mvs::F) w':=by
 obtain ⟨b,c,rfl⟩:∃ b c,v=.slice (some ⟨b,0,none⟩) mvs.length c:=(hs.take (.there .here)).pure1 fun _ ⟨b,c,h,_⟩=>⟨b,c,h⟩
 refine enter Tryz.func54 rfl Tryz.ntmps54 Tryz.results54 rfl ?_
 refine go ?_
 refine wc_loop (α:=Nat) (fun i=>[(0,.map (some m)),(6,.slice (some ⟨b,0,none⟩) mvs.length c),(7,.int .i64 (mvs.length:Int)),(8,.int .i64 (i:Int))])
  (fun i w=>i≤mvs.length∧Sat W0 (mapH keyS m (namesV (setM kvs (mvs.take i)))::mvV (.slice (some ⟨b,0,none⟩) mvs.length c) mvs::F) w) (fun i=>mvs.length-i) 0 ⟨rfl,rfl,rfl,rfl,trivial⟩ ⟨Nat.zero_le _,hs⟩ ?_
 clear hs
 rintro i w ⟨hi,hs⟩
 by_cases hlt:i<mvs.length
 ·have hg:mvs[i]?=some mvs[i]:=List.getElem?_eq_getElem hlt
  have hst:=setM_take kvs mvs i _ hg
  generalize mvs[i]=p at hg hst
  obtain ⟨⟨b',c'⟩,hv,hs2⟩:=(Sat.dupOf (B:=mvV (.slice (some ⟨b,0,none⟩) mvs.length c) mvs) (hs.take (.there .here)) (fun h k=>by
   obtain ⟨b',c',h1,h2⟩:=k
   refine ⟨fun j=>if j=b' then some (true,.cells (mvs.map moveC).flatten.toArray 216 (0,0)) else none,fun j x hx=>?_,fun j x hx=>?_,b',c',h1,by simp⟩
   ·by_cases hj:j=b'
    ·subst hj;simp at hx;subst hx;exact h2
    ·simp [hj] at hx
   ·by_cases hj:j=b'
    ·subst hj;simp at hx;subst hx;rfl
    ·simp [hj] at hx)).open1 (α:=Nat×Nat) (φ:=fun z=>Value.slice (some ⟨b,0,none⟩) mvs.length c=.slice (some ⟨z.1,0,none⟩) mvs.length z.2) (B:=fun z=>[ob true z.1 (.cells (mvs.map moveC).flatten.toArray 216 (0,0))]) fun hp ⟨b',c',h1,h2⟩=>
    ⟨(b',c'),h1,hp,fun _=>none,fun _ _ _ _ hy=>(by cases hy),Hp.le_refl _,fun _ _ hx=>(by cases hx),h2,trivial⟩
  obtain ⟨rfl,rfl⟩:b=b'∧c=c':=by simpa using hv
  dsimp only [List.cons_append,List.nil_append] at hs2
  have hseg:=flat_seg (k:=2) (mvs.map moveC) i (moveC p) (fun y hy=>by obtain ⟨q,_,rfl⟩:=List.mem_map.1 hy;rfl) (by simp [hg])
  refine go ?_
  refine wl_ixn (i:=i) rfl rfl rfl rfl rfl hlt rfl ?_
  refine wl_ldN (moveC p) hs2 rfl rfl rfl .here (by simpa using hseg) rfl ?_
  refine w_alloc hs fun w b5 hs=>?_
  refine w_stN (vs:=moveC p) hs fun w hs=>?_
  obtain ⟨nm,o⟩:=p
  cases o with
  | none=>
   refine go ?_
   refine wl_delete keyS (k:=nm) hs (.there .here) rfl rfl rfl fun w hs=>?_
   refine go ?_
   refine wq_round (i+1) ⟨rfl,rfl,rfl,rfl,trivial⟩ ⟨hlt,?_⟩ (by omega)
   rw [hst,namesV_del];exact hs.to
  | some j=>
   refine go ?_
   refine wl_mapUpdate keyS (k:=nm) hs (.there .here) rfl rfl rfl rfl fun w hs=>?_
   refine go ?_
   refine wq_round (i+1) ⟨rfl,rfl,rfl,rfl,trivial⟩ ⟨hlt,?_⟩ (by omega)
   rw [hst,namesV_put];exact hs.to
 ·have:i=mvs.length:=by omega
  subst this
  rw [List.take_length] at hs
  refine go ?_
  exact wq_end rfl ⟨rfl,hs⟩
end
section
variable {ops:Array Oper} {Q:Exit→Act→World→Prop} {n:Nat} {ds:Md} {e:Env} {w w':World} {rest:List Oper}
variable {op:Op} {ty:TypeId} {pos:String} {af:Array Edge} {d:Nat} {v u:Value} {W0:World} {l l' r r':List HProp}
theorem w_app1 {x y:Operand} {t k E len by_ b c:Nat} {cs news z:List Value} (hs:Sat W0 l w) (kk:∀ v' w',Sat W0 (ownS k v' E (len+1) (cs++news)::r') w'→WL ops Q n ds rest ((d,v')::e) w')
 (hx:ev e x=some v:=by rfl) (hy:ev e y=some (.slice (some ⟨b,0,none⟩) 1 c):=by rfl) (ht:lk tSlice t=some E:=by rfl) (hsz:lk tSize E=some k:=by rfl) (hby:lk tBytes E=some by_:=by rfl) (hz:lk tZero E=some z:=by rfl) (hzl:z.length=k:=by rfl)
 (tk:Take (ownS k v E len cs) l r:=by repeat (first|exact Take.here|apply Take.there)) (tk':Take (blk b E news) r r':=by repeat (first|exact Take.here|apply Take.there))
 (hn:news.length=1*k:=by rfl) (h1:news.all isOne=true:=by rfl) (hd:Nat.blt d n=true:=by rfl) (hm:len+1≤maxLen:=by simp only [maxLen];omega) (hb:(len+1)*by_≤140737488355328:=by omega) :
 WL ops Q n ds (⟨some d,.call { callee:=.builtin .append,args:=#[x,y],argTypes:=#[t,t] },ty,pos,af,none⟩::rest) e w:=by
 have hs2:=hs.take2 tk tk'
 refine wl_append hs2 hx hy .here (srcBlk (all:=news) ht (.there .here) hn (fun j u hu=>by simpa using hu) (List.all_eq_true.1 h1)) ht hsz hby hz hzl hm hb hd fun v' w' h=>kk v' w' ?_
 exact h.imp fun _ k=>sepL_tail (fun _=>sepL_drop) k
theorem w_lit {parts:Array (Nat×Operand)} {t E k len:Nat} {ps:List (Nat×Value)} {z:List Value} (cs:List Value) (hs:Sat W0 l w)
 (kk:∀ w' b,Sat W0 (blk b E cs::l) w'→WL ops Q n ds rest ((d,.slice (some ⟨b,0,none⟩) len len)::e) w')
 (hp:evp e parts.toList=some ps:=by rfl) (ht:lk tSlice t=some E:=by rfl) (hsz:lk tSize E=some k:=by rfl) (hz:lk tZero E=some z:=by rfl)
 (hzz:Nat.beq z.length 0=false:=by rfl) (hsmall:Nat.ble (len*k) 1000=true:=by rfl) (hf:fillL (fun i=>some (i*k,k)) ((List.range (len*k)).map fun i=>z.getD (i%z.length) undef) ps=some cs:=by rfl) (hd:Nat.blt d n=true:=by rfl) :
 WL ops Q n ds (⟨some d,.buildSlice t len parts,ty,pos,af,none⟩::rest) e w:=wl_lit hs hp ht hsz hz hzz hsmall hf hd kk
end
section
variable {W0 w:World} {l:List HProp}
theorem Sat.starPush {A:HProp} {B:List HProp} (h:Sat W0 (star B::A::l) w):Sat W0 (star (B++[A])::l) w:=by
 refine h.imp fun hp k=>?_
 have k2:sepL (B++([A]++l)) hp:=sepL_star k
 rw [← List.append_assoc] at k2
 exact sepL_unstar k2
theorem Sat.starCons {A:HProp} {B:List HProp} (h:Sat W0 (A::star B::l) w):Sat W0 (star (A::B)::l) w:=by
 refine h.imp fun hp k=>?_
 have k2:sepL ((A::B)++l) hp:=sepL_tail (fun _=>sepL_star) k
 exact sepL_unstar k2
theorem Sat.starNil (h:Sat W0 l w):Sat W0 (star []::l) w:=h.imp fun hp k=>sepL_unstar (a:=[]) k
theorem sep_mid {A:HProp} {B C:List HProp} {hp:Hp}:sepL (star (B++A::C)::l) hp↔sepL (A::star (B++C)::l) hp:=by
 have tk:∀ (B:List HProp) (r:List HProp),Take A (B++A::r) (B++r):=by
  intro B
  induction B with
  | nil=>intro r;exact .here
  | cons x B ih=>intro r;exact .there (ih r)
 constructor
 ·intro k
  have k1:=sepL_star k
  rw [List.append_assoc,List.cons_append] at k1
  have k2:=(tk B (C++l)).to k1
  refine sepL_tail (fun _ k=>?_) k2
  rw [← List.append_assoc] at k
  exact sepL_unstar k
 ·intro k
  have k2:sepL (A::(B++(C++l))) hp:=sepL_tail (fun _ k=>by have:=sepL_star k;rwa [List.append_assoc] at this) k
  have k1:=(tk B (C++l)).back k2
  rw [← List.cons_append,← List.append_assoc] at k1
  exact sepL_unstar k1
theorem Sat.starTake {A:HProp} {B C:List HProp} (h:Sat W0 (star (B++A::C)::l) w):Sat W0 (A::star (B++C)::l) w:=h.imp fun _=>sep_mid.1
theorem Sat.starPut {A:HProp} {B C:List HProp} (h:Sat W0 (A::star (B++C)::l) w):Sat W0 (star (B++A::C)::l) w:=h.imp fun _=>sep_mid.2
end
section
open Go.Proofs.YtecibefflhomdaaGreatDoor.Pure (PDisk aget aput adel setM)
attribute [local irreducible] IntKind.wrap
variable {W0 w:World} {F l:List HProp} {v:Value} {d:Nat} {D:PDisk}
theorem Sat.movesOpen {ms:List (List (Bs×Option Nat))} (h:Sat W0 (movesC v ms::F) w):∃ vs,vs.length=ms.length∧Sat W0 ([ownS 1 v 143 ms.length vs,star (List.zipWith mvV vs ms)]++F) w:=h.open1 fun hp ⟨vs,h1,k⟩=>⟨vs,h1,k⟩
theorem Sat.movesClose {ms:List (List (Bs×Option Nat))} {vs:List Value} (h1:vs.length=ms.length) (h:Sat W0 (ownS 1 v 143 ms.length vs::star (List.zipWith mvV vs ms)::F) w):Sat W0 (movesC v ms::F) w:=Sat.close (B:=[ownS 1 v 143 ms.length vs,star (List.zipWith mvV vs ms)]) h fun hp k=>⟨vs,h1,k⟩
abbrev named (D:PDisk) (mvs:List (Bs×Option Nat)):PDisk:={ D with now:=setM D.now mvs,moves:=D.moves++[mvs] }
theorem name_spec {z:DV} {mvs:List (Bs×Option Nat)} (hs:Sat W0 (mvV v mvs::diskL d z D++F) w) (hl:mvs.length<1000) (hm:D.moves.length≤1099511627776) :
 Calls Tryz.prog 140 #[idV d,v] w fun x w'=>x=.returned (.tuple #[])∧∃ mv',Sat W0 (diskL d ⟨z.bn,z.bs,mv'⟩ (named D mvs)++F) w':=by
 obtain ⟨b,c0,rfl⟩:∃ b c,v=.slice (some ⟨b,0,none⟩) mvs.length c:=hs.pure1 fun _ ⟨b,c,h,_⟩=>⟨b,c,h⟩
 dsimp only [diskL,diskCells,List.cons_append,List.nil_append] at hs
 refine enter Tryz.func140 rfl Tryz.ntmps140 Tryz.results140 rfl ?_
 refine go ?_
 refine w_call (met (set_spec (kvs:=D.now) (mvs:=mvs) (F:=[blk d 111 (diskCells z D),mapH keyS z.bs (namesV D.safe),movesC z.mv D.moves,star (D.nodes.map nodeC)]++F) hs.to hl) ?_)
 rintro _ w ⟨rfl,hs⟩
 refine ⟨_,rfl,go ?_⟩
 dsimp only [List.cons_append,List.nil_append] at hs
 obtain ⟨vs,hvs,hs⟩:=(hs.take (.there (.there (.there (.there .here))))).movesOpen
 dsimp only [List.cons_append,List.nil_append] at hs
 obtain ⟨a2,c2,hmv,-⟩:=hs.ownShape
 refine w_lit1 hs fun w b1 hs=>?_
 refine w_app1 hs fun mv' w hs=>?_
 refine go ?_
 obtain ⟨a,c,rfl,_⟩:=hs.ownShape
 refine w_st hs fun w hs=>?_
 refine go ?_
 have e1:List.zipWith mvV (vs++[.slice (some ⟨b,0,none⟩) mvs.length c0]) (D.moves++[mvs])=List.zipWith mvV vs D.moves++[mvV (.slice (some ⟨b,0,none⟩) mvs.length c0) mvs]:=by
  rw [List.zipWith_append hvs];rfl
 have h2:=(hs.take2 (.there .here) (.there (.there .here))).starPush
 rw [← e1] at h2
 have h3:Sat W0 (movesC (.slice a (D.moves.length+1) c) (D.moves++[mvs])::mapH keyS z.bn (namesV (setM D.now mvs))::blk d 111 ((diskCells z D).set (0+2) (.slice a (D.moves.length+1) c))::mapH keyS z.bs (namesV D.safe)::star (D.nodes.map nodeC)::F) w:=
  Sat.movesClose (vs:=vs++[.slice (some ⟨b,0,none⟩) mvs.length c0]) (by simp [hvs]) (by rw [List.length_append];exact h2.take (.there .here))
 exact wq_end rfl ⟨rfl,.slice a (D.moves.length+1) c,h3.to⟩
theorem node_at {p:Nat×(Bs×Nat)} {h:Hp} (k:nodeC p h):∃ o,h p.1=some (false,o):=by
 obtain ⟨v,h1,_,_,l1,_,ha,_⟩:=k
 exact ⟨_,l1 _ _ ha⟩
theorem nodes_at:∀ {ns:List (Nat×(Bs×Nat))} {h:Hp},sepL (ns.map nodeC) h→∀ p∈ns,∃ o,h p.1=some (false,o)
 | q::ns,h,⟨h1,h2,_,l1,l2,ha,r⟩,p,hp=>by
  rcases List.mem_cons.1 hp with rfl|hp
  ·obtain ⟨o,ho⟩:=node_at ha;exact ⟨o,l1 _ _ ho⟩
  ·obtain ⟨o,ho⟩:=nodes_at r p hp;exact ⟨o,l2 _ _ ho⟩
theorem Sat.fresh {b:Nat} {o:Obj} {ns:List (Nat×(Bs×Nat))} (h:Sat W0 (ob false b o::star (ns.map nodeC)::F) w):aget ns b=none:=by
 cases hg:aget ns b with
 | none=>rfl
 | some x=>
  obtain ⟨_,_,_,_,hp,_,_,h1,h2,ff,_,_,ha,h3,h4,_,l3,_,hb,_⟩:=h
  obtain ⟨o',ho⟩:=nodes_at hb _ (Pure.aget_mem hg)
  have:=(ff b _ _ ha (l3 _ _ ho)).2
  cases this
theorem Sat.nodeNew {i:Nat} (h:Sat W0 (blk i 116 [.slice none 0 0,.int .i64 0]::F) w):Sat W0 (nodeC (i,([],0))::F) w:=by
 have h2:=(Sat.bytNil h).take (.there .here)
 exact Sat.close (B:=[blk i 116 [.slice none 0 0,.int .i64 0],bytS (.slice none 0 0) []]) h2 fun hp k=>⟨_,k⟩
def createR (D:PDisk) (n:Bs) (e:Option (Option Bs×Nat)) (D':PDisk):Prop:=
 (D.trips=true∧e=some (some n,8)∧D'=D.tick)∨(D.trips=false∧(aget D.now n).isSome=true∧e=some (some n,11)∧D'=D.tick) ∨
 (D.trips=false∧aget D.now n=none∧e=none∧∃ i,aget D.nodes i=none∧D'=D.tick.created n i)
theorem create_spec {n:Bs} (hs:Sat W0 (DiskR d D::F) w) (hm:D.moves.length≤1099511627776) :
 Calls Tryz.prog 78 #[idV d,str n] w fun x w'=>∃ ve e D',x=.returned ve∧createR D n e D'∧Sat W0 (DiskR d D'::errC ve e::F) w':=by
 refine enter Tryz.func78 rfl Tryz.ntmps78 Tryz.results78 rfl ?_
 refine go ?_
 refine w_call (met (fails_spec hs) ?_)
 rintro _ w ⟨rfl,hs⟩
 refine ⟨_,rfl,?_⟩
 cases ht:D.trips with
 | true=>
  refine go ?_
  refine w_build [str n,.int .i64 8] ?_
  refine w_box hs fun w b hs=>?_
  refine go ?_
  exact wq_ret rfl ⟨_,_,_,rfl,.inl ⟨ht,rfl,rfl⟩,hs.errNew.to⟩
 | false=>
  obtain ⟨hok,z,hs⟩:=hs.diskOpen
  dsimp only [diskL,diskCells,List.cons_append,List.nil_append] at hs
  have hl:=aget_namesV D.tick.now n
  rw [Pure.PDisk.tick_now] at hl
  refine go ?_
  refine wl_lookup keyS (k:=n) hs (.there .here) rfl rfl rfl zero113 rfl ?_
  rw [Pure.PDisk.tick_now,hl]
  cases hg:aget D.now n with
  | some j=>
   refine go ?_
   refine w_build [str n,.int .i64 11] ?_
   refine w_box hs fun w b hs=>?_
   refine go ?_
   exact wq_ret rfl ⟨_,_,_,rfl,.inr (.inl ⟨ht,by simp [hg],rfl,rfl⟩),Sat.diskClose (z:=z) hok hs.errNew.to⟩
  | none=>
   refine go ?_
   refine w_build [.slice none 0 0,.int .i64 0] ?_
   refine w_box hs fun w i hs=>?_
   refine w_build [str n,idV i] ?_
   refine w_lit [str n,idV i] hs fun w b hs=>?_
   have hfree:aget D.tick.nodes i=none:=Sat.fresh ((hs.take (.there .here)).take2 .here (.there (.there (.there (.there (.there .here))))))
   have h2:Sat W0 (mvV (.slice (some ⟨b,0,none⟩) 1 1) [(n,some i)]::blk i 116 [.slice none 0 0,.int .i64 0]::diskL d z D.tick++F) w:=hs.share.head fun hp k=>⟨b,1,rfl,k⟩
   have hok':=Pure.PDisk.Ok.created hok hfree (by rw [Pure.PDisk.tick_now];exact hg)
   refine go ?_
   refine w_call (met (name_spec (F:=blk i 116 [.slice none 0 0,.int .i64 0]::F) h2.to (by simp) (by rw [Pure.PDisk.tick_moves];omega)) ?_)
   rintro _ w ⟨rfl,mv',hs⟩
   refine ⟨_,rfl,go ?_⟩
   dsimp only [diskL,diskCells,List.cons_append,List.nil_append] at hs
   have h3:=(((hs.take (.there (.there (.there (.there (.there .here)))))).nodeNew).take2 .here (.there (.there (.there (.there .here))))).starCons
   refine wq_ret rfl ⟨_,_,_,rfl,.inr (.inr ⟨ht,hg,rfl,i,by rw [← Pure.PDisk.tick_nodes];exact hfree,rfl⟩),Sat.diskClose (z:=⟨z.bn,z.bs,mv'⟩) hok' ?_⟩
   exact h3.errNil.to
end
section
open Go.Proofs.YtecibefflhomdaaGreatDoor.Pure (PDisk aget aput adel setM)
attribute [local irreducible] IntKind.wrap
variable {W0 w:World} {F l:List HProp} {v:Value} {d:Nat} {D:PDisk}
theorem Sat.errIface {e:Err} (h:Sat W0 (errC v (some e)::F) w):∃ t u,v=.iface t u:=h.pure1 fun _ k=>by
 obtain ⟨s,n⟩:=e
 cases s with
 | none=>exact ⟨_,_,k⟩
 | some s=>obtain ⟨b,k,_⟩:=k;exact ⟨_,_,k⟩
theorem Sat.errIs {v:Value} (h:Sat W0 (errC v none::F) w):v=.nilIface:=h.pure1 fun _ k=>k
theorem nodes_split:∀ {ns:List (Nat×(Bs×Nat))} {i:Nat} {x:Bs×Nat},aget ns i=some x→∃ a b,ns=a++(i,x)::b∧∀ y,aput ns i y=a++(i,y)::b
 | (k,v)::r,i,x,h=>by
  unfold aget at h
  by_cases hk:i=k
  ·subst hk;simp at h;subst h;exact ⟨[],r,rfl,fun y=>by simp [aput]⟩
  ·simp only [hk,if_false] at h
   obtain ⟨a,b,h1,h2⟩:=nodes_split h
   exact ⟨(k,v)::a,b,by rw [h1];rfl,fun y=>by simp only [aput,hk,if_false,h2 y];rfl⟩
theorem Sat.nodeTake {ns:List (Nat×(Bs×Nat))} {i:Nat} {x:Bs×Nat} (hg:aget ns i=some x) (h:Sat W0 (star (ns.map nodeC)::F) w) :
 ∃ B C v,ns.map nodeC=B++nodeC (i,x)::C∧(∀ y,(aput ns i y).map nodeC=B++nodeC (i,y)::C)∧Sat W0 (blk i 116 [v,.int .i64 (x.2:Int)]::bytS v x.1::star (B++C)::F) w:=by
 obtain ⟨a,b,h1,h2⟩:=nodes_split hg
 have e1:ns.map nodeC=a.map nodeC++nodeC (i,x)::b.map nodeC:=by rw [h1];simp
 rw [e1] at h
 obtain ⟨v,_,hs⟩:=h.starTake.open1 (φ:=fun _:Value=>True) (B:=fun v=>[blk i 116 [v,.int .i64 (x.2:Int)],bytS v x.1]) fun hp ⟨v,k⟩=>⟨v,trivial,k⟩
 exact ⟨a.map nodeC,b.map nodeC,v,e1,fun y=>by rw [h2];simp,hs⟩
theorem Sat.nodePut {i:Nat} {y:Bs×Nat} {B C:List HProp} (h:Sat W0 (blk i 116 [v,.int .i64 (y.2:Int)]::bytS v y.1::star (B++C)::F) w):Sat W0 (star (B++nodeC (i,y)::C)::F) w:=
 (Sat.close (B:=[blk i 116 [v,.int .i64 (y.2:Int)],bytS v y.1]) h fun hp k=>⟨v,k⟩).starPut
theorem find_some {n:Bs} (h:findE D n=none):D.trips=false∧∃ i,aget D.now n=some i∧findP D n=idV i:=by
 unfold findE at h
 split at h
 ·cases h
 ·rename_i ht
  split at h
  ·cases h
  ·rename_i i hi
   exact ⟨by simpa using ht,i,hi,by simp [findP,ht,hi]⟩
theorem size_spec {n:Bs} (hs:Sat W0 (DiskR d D::F) w) :
 Calls Tryz.prog 160 #[idV d,str n] w fun x w'=>∃ ve,x=.returned (.tuple #[.int .i64 (match findE D n with|some _=>0|none=>match aget D.now n with|some i=>((D.dataOf i).length:Int)|none=>0),ve])∧Sat W0 (DiskR d D.tick::errC ve (findE D n)::F) w':=by
 refine enter Tryz.func160 rfl Tryz.ntmps160 Tryz.results160 rfl ?_
 refine go ?_
 refine w_call (met (find_spec (n:=n) hs) ?_)
 rintro _ w ⟨ve,rfl,hs⟩
 refine ⟨_,rfl,?_⟩
 cases he:findE D n with
 | some e=>
  rw [he] at hs
  obtain ⟨t,u,rfl⟩:=(hs.take (.there .here)).errIface
  refine go ?_
  exact wq_ret rfl ⟨_,rfl,hs⟩
 | none=>
  rw [he] at hs
  obtain ⟨ht,i,hi,hp⟩:=find_some he
  have hve:=(hs.take (.there .here)).errIs
  subst hve
  rw [hp,hi]
  obtain ⟨hok,z,hs⟩:=hs.diskOpen
  dsimp only [diskL,diskCells,List.cons_append,List.nil_append] at hs
  obtain ⟨x,hx⟩:=hok.getNow (n:=n) (by rw [Pure.PDisk.tick_now];exact hi)
  obtain ⟨B,C,v,e1,e2,hs⟩:=(hs.take (.there (.there (.there (.there .here))))).nodeTake hx
  obtain ⟨a,c,hv,-⟩:=(hs.take (.there .here)).ownShape
  subst hv
  have hd:D.dataOf i=x.1:=by unfold PDisk.dataOf;rw [← Pure.PDisk.tick_nodes,hx]
  dsimp only
  rw [hd]
  refine go ?_
  refine wq_ret rfl ⟨_,rfl,Sat.diskClose (z:=z) hok ?_⟩
  have h2:=hs.nodePut (y:=x)
  rw [← e1] at h2
  exact h2.to
theorem sync_spec {n:Bs} (hs:Sat W0 (DiskR d D::F) w) :
 Calls Tryz.prog 86 #[idV d,str n] w fun x w'=>∃ ve,x=.returned ve∧Sat W0 (DiskR d (onFile D n fun i=>D.tick.laid i (D.dataOf i,(D.dataOf i).length))::errC ve (findE D n)::F) w':=by
 refine enter Tryz.func86 rfl Tryz.ntmps86 Tryz.results86 rfl ?_
 refine go ?_
 refine w_call (met (find_spec (n:=n) hs) ?_)
 rintro _ w ⟨ve,rfl,hs⟩
 refine ⟨_,rfl,?_⟩
 unfold onFile
 cases he:findE D n with
 | some e=>
  rw [he] at hs
  obtain ⟨t,u,rfl⟩:=(hs.take (.there .here)).errIface
  refine go ?_
  exact wq_ret rfl ⟨_,rfl,hs⟩
 | none=>
  rw [he] at hs
  obtain ⟨ht,i,hi,hp⟩:=find_some he
  have hve:=(hs.take (.there .here)).errIs
  subst hve
  rw [hp,hi]
  obtain ⟨hok,z,hs⟩:=hs.diskOpen
  dsimp only [diskL,diskCells,List.cons_append,List.nil_append] at hs
  obtain ⟨x,hx⟩:=hok.getNow (n:=n) (by rw [Pure.PDisk.tick_now];exact hi)
  obtain ⟨B,C,v,e1,e2,hs⟩:=(hs.take (.there (.there (.there (.there .here))))).nodeTake hx
  obtain ⟨a,c,hv,-⟩:=(hs.take (.there .here)).ownShape
  subst hv
  have hd:D.dataOf i=x.1:=by unfold PDisk.dataOf;rw [← Pure.PDisk.tick_nodes,hx]
  have hd2:D.tick.dataOf i=x.1:=by rw [Pure.PDisk.tick_dataOf,hd]
  dsimp only
  rw [hd]
  have hok':(D.tick.laid i (x.1,x.1.length)).Ok:=hok.laid (Nat.le_trans (Pure.PDisk.used_laid (k:=0) hok (by rw [hd2];rfl)) hok.used)
  refine go ?_
  refine w_st hs fun w hs=>?_
  refine go ?_
  refine wq_ret rfl ⟨_,rfl,Sat.diskClose (z:=z) hok' ?_⟩
  have h2:=hs.nodePut (y:=(x.1,x.1.length))
  rw [← e2] at h2
  exact h2.to
theorem remove_spec {n:Bs} (hs:Sat W0 (DiskR d D::F) w) (hm:D.moves.length≤1099511627776) :
 Calls Tryz.prog 77 #[idV d,str n] w fun x w'=>∃ ve,x=.returned ve∧Sat W0 (DiskR d (onFile D n fun _=>D.tick.removed n)::errC ve (findE D n)::F) w':=by
 refine enter Tryz.func77 rfl Tryz.ntmps77 Tryz.results77 rfl ?_
 refine go ?_
 refine w_call (met (find_spec (n:=n) hs) ?_)
 rintro _ w ⟨ve,rfl,hs⟩
 refine ⟨_,rfl,?_⟩
 unfold onFile
 cases he:findE D n with
 | some e=>
  rw [he] at hs
  obtain ⟨t,u,rfl⟩:=(hs.take (.there .here)).errIface
  refine go ?_
  exact wq_ret rfl ⟨_,rfl,hs⟩
 | none=>
  rw [he] at hs
  obtain ⟨ht,i,hi,hp⟩:=find_some he
  have hve:=(hs.take (.there .here)).errIs
  subst hve
  rw [hp,hi]
  obtain ⟨hok,z,hs⟩:=hs.diskOpen
  dsimp only [diskL,diskCells,List.cons_append,List.nil_append] at hs
  refine go ?_
  refine w_build [str n,.pointer none] ?_
  refine w_lit [str n,.pointer none] hs fun w b hs=>?_
  have h2:Sat W0 (mvV (.slice (some ⟨b,0,none⟩) 1 1) [(n,none)]::diskL d z D.tick++(errC .nilIface none::F)) w:=hs.share.head fun hp k=>⟨b,1,rfl,k⟩
  refine go ?_
  refine w_call (met (name_spec h2 (by simp) (by rw [Pure.PDisk.tick_moves];omega)) ?_)
  rintro _ w ⟨rfl,mv',hs⟩
  refine ⟨_,rfl,go ?_⟩
  exact wq_ret rfl ⟨_,rfl,Sat.diskClose (z:=⟨z.bn,z.bs,mv'⟩) (hok.removed n) hs⟩
theorem rename_spec {n m:Bs} (hs:Sat W0 (DiskR d D::F) w) (hm:D.moves.length≤1099511627776) :
 Calls Tryz.prog 177 #[idV d,str n,str m] w fun x w'=>∃ ve,x=.returned ve∧Sat W0 (DiskR d (onFile D n fun i=>if n=m then D.tick else D.tick.renamed n m i)::errC ve (findE D n)::F) w':=by
 refine enter Tryz.func177 rfl Tryz.ntmps177 Tryz.results177 rfl ?_
 refine go ?_
 refine w_call (met (find_spec (n:=n) hs) ?_)
 rintro _ w ⟨ve,rfl,hs⟩
 refine ⟨_,rfl,?_⟩
 unfold onFile
 cases he:findE D n with
 | some e=>
  rw [he] at hs
  obtain ⟨t,u,rfl⟩:=(hs.take (.there .here)).errIface
  refine go ?_
  exact wq_ret rfl ⟨_,rfl,hs⟩
 | none=>
  rw [he] at hs
  obtain ⟨ht,i,hi,hp⟩:=find_some he
  have hve:=(hs.take (.there .here)).errIs
  subst hve
  rw [hp,hi]
  by_cases hnm:n=m
  ·have hnn:¬ n≠m:=fun h=>h hnm
   dsimp only
   rw [if_pos hnm]
   refine go ?_
   exact wq_ret rfl ⟨_,rfl,hs⟩
  ·have hnn:n≠m:=hnm
   dsimp only
   rw [if_neg hnm]
   obtain ⟨hok,z,hs⟩:=hs.diskOpen
   dsimp only [diskL,diskCells,List.cons_append,List.nil_append] at hs
   refine go ?_
   refine w_build [str m,idV i] ?_
   refine go ?_
   refine w_build [str n,.pointer none] ?_
   refine w_lit [str m,idV i,str n,.pointer none] hs fun w b hs=>?_
   have h2:Sat W0 (mvV (.slice (some ⟨b,0,none⟩) 2 2) [(m,some i),(n,none)]::diskL d z D.tick++(errC .nilIface none::F)) w:=hs.share.head fun hp k=>⟨b,2,rfl,k⟩
   refine go ?_
   refine w_call (met (name_spec h2 (by simp) (by rw [Pure.PDisk.tick_moves];omega)) ?_)
   rintro _ w ⟨rfl,mv',hs⟩
   refine ⟨_,rfl,go ?_⟩
   exact wq_ret rfl ⟨_,rfl,Sat.diskClose (z:=⟨z.bn,z.bs,mv'⟩) (hok.renamed hnm (by rw [Pure.PDisk.tick_now];exact hi)) hs⟩
end
section
open Go.Proofs.YtecibefflhomdaaGreatDoor.Pure (PDisk aget aput adel setM)
attribute [local irreducible] IntKind.wrap
variable {W0 w:World} {F l:List HProp} {v:Value} {d:Nat} {D:PDisk}
theorem namesV_split:∀ {ns:List (Bs×Nat)} {l1 l2:List (Bs×Value)} {x:Bs×Value},namesV ns=l1++x::l2→∃ a p b,ns=a++p::b∧x=(p.1,idV p.2)∧l1++l2=namesV (a++b)
 | [],l1,l2,x,h=>by cases l1<;>simp [namesV] at h
 | q::ns,[],l2,x,h=>by
  simp only [namesV,List.map_cons,List.nil_append,List.cons.injEq] at h
  exact ⟨[],q,ns,rfl,h.1.symm,by simp [namesV,← h.2]⟩
 | q::ns,y::l1,l2,x,h=>by
  simp only [namesV,List.map_cons,List.cons_append,List.cons.injEq] at h
  obtain ⟨a,p,b,h1,h2,h3⟩:=namesV_split (ns:=ns) h.2
  exact ⟨q::a,p,b,by rw [h1];rfl,h2,by simp only [List.cons_append,namesV,List.map_cons];rw [h3,← h.1];rfl⟩
theorem append_spec {n bs:Bs} {vb:Value} (hs:Sat W0 (DiskR d D::bytS vb bs::F) w) :
 Calls Tryz.prog 79 #[idV d,str n,vb] w fun x w'=>∃ ve,x=.returned ve∧Sat W0 (DiskR d (appended D n bs)::bytS vb bs::errC ve (appendE D n bs)::F) w':=by
 obtain ⟨ab,cb,hvb,hcb⟩:=(hs.take (.there .here)).ownShape
 subst hvb
 have hcb1:bs.length≤9223372036854775807:=by have:=hcb.1;have:=hcb.2;simp only [maxLen] at this;omega
 refine enter Tryz.func79 rfl Tryz.ntmps79 Tryz.results79 rfl ?_
 refine go ?_
 refine w_call (met (find_spec (n:=n) hs) ?_)
 rintro _ w ⟨ve,rfl,hs⟩
 refine ⟨_,rfl,?_⟩
 unfold appended appendE
 cases he:findE D n with
 | some e=>
  rw [he] at hs
  obtain ⟨t,u,rfl⟩:=(hs.take (.there .here)).errIface
  refine go ?_
  exact wq_ret rfl ⟨_,rfl,hs.to⟩
 | none=>
  rw [he] at hs
  obtain ⟨ht,i,hi,hp⟩:=find_some he
  have hve:=(hs.take (.there .here)).errIs
  subst hve
  rw [hp,hi]
  obtain ⟨hok,z,hs⟩:=hs.diskOpen
  dsimp only [diskL,diskCells,List.cons_append,List.nil_append] at hs
  refine go ?_
  refine wl_range keyS hs (.there .here) rfl rfl rfl fun w it hs=>?_
  refine go ?_
  have hr0:=hok.room0
  have hr1:=hok.room1
  have hus:=hok.used
  refine wc_loop (α:=List (Bs×Nat)×Nat) (fun y=>[(0,idV d),(1,str n),(2,.slice ab bs.length cb),(7,idV i),(25,.pointer (some ⟨it,0,none⟩)),(9,.int .i64 (y.2:Int))])
   (fun y w=>(y.2+(y.1.map fun p=>(D.tick.dataOf p.2).length).sum=D.tick.used∧∀ p∈y.1,(aget D.tick.nodes p.2).isSome=true)∧∃ last,Sat W0 (rangeH keyS z.bn it (namesV D.tick.now) (namesV y.1) last::blk d 111 (diskCells z D.tick)::mapH keyS z.bs (namesV D.tick.safe)::movesC z.mv D.tick.moves::star (D.tick.nodes.map nodeC)::errC .nilIface none::bytS (.slice ab bs.length cb) bs::F) w) (fun y=>y.1.length) (D.tick.now,0) ⟨rfl,rfl,rfl,rfl,rfl,rfl,trivial⟩ ⟨⟨by simp [PDisk.used],hok.now⟩,none,hs⟩ ?_
  clear hs
  rintro ⟨left,u⟩ w ⟨⟨hsum,hin⟩,last,hs⟩
  dsimp only at hsum hin hs ⊢
  refine go ?_
  refine wl_next keyS hs .here rfl rfl (fun h0=>?_) (fun l1 x l2 w hl hs=>?_)
  ·have hl0:left=[]:=by simpa [namesV] using h0
   subst hl0
   have:u=D.tick.used:=by simpa using hsum
   subst this
   have hs:=hs.rangeDone
   clear hsum hin h0
   obtain ⟨x,hx⟩:=hok.getNow (n:=n) (by rw [Pure.PDisk.tick_now];exact hi)
   obtain ⟨B,C,v,e1,e2,hs⟩:=(hs.take (.there (.there (.there (.there .here))))).nodeTake hx
   obtain ⟨a3,c3,hv,-⟩:=(hs.take (.there .here)).ownShape
   subst hv
   have hd:D.dataOf i=x.1:=by unfold PDisk.dataOf;rw [← Pure.PDisk.tick_nodes,hx]
   have hd2:D.tick.dataOf i=x.1:=by rw [Pure.PDisk.tick_dataOf,hd]
   have hsz:x.1.length≤D.tick.used:=by rw [← hd2];exact Pure.PDisk.size_le (by rw [Pure.PDisk.tick_now];exact hi)
   have hsf:safeOf D i=x.2:=by unfold safeOf;rw [← Pure.PDisk.tick_nodes,hx]
   have er:D.room=D.tick.room:=by simp
   have eu:D.used=D.tick.used:=by simp
   rw [er,eu,hd,hsf]
   by_cases hroom:(bs.length:Int) > D.tick.room-D.tick.used
   ·rw [if_pos hroom]
    refine go ?_
    refine w_build [str n,.int .i64 9] ?_
    refine w_box hs fun w b hs=>?_
    refine go ?_
    have h2:=Sat.nodePut (i:=i) (y:=x) (B:=B) (C:=C) (v:=.slice a3 x.1.length c3) (F:=errC (.iface 249 (.pointer (some ⟨b,0,none⟩))) (some (some n,9))::blk d 111 (diskCells z D.tick)::mapH keyS z.bn (namesV D.tick.now)::mapH keyS z.bs (namesV D.tick.safe)::movesC z.mv D.tick.moves::bytS (.slice ab bs.length cb) bs::F) hs.errNew.to
    rw [← e1] at h2
    exact wq_ret rfl ⟨_,rfl,Sat.diskClose (z:=z) hok h2.to⟩
   ·rw [if_neg hroom]
    have hok':(D.tick.laid i (x.1++bs,x.2)).Ok:=hok.laid (Nat.le_trans (Pure.PDisk.used_laid (k:=bs.length) hok (by rw [hd2];simp)) (by omega))
    refine go ?_
    refine w_appBB (hm:=by omega) hs fun v' w hs=>?_
    obtain ⟨a4,c4,hv4,-⟩:=hs.ownShape
    subst hv4
    refine go ?_
    refine w_st hs fun w hs=>?_
    refine go ?_
    have h2:=Sat.nodePut (i:=i) (y:=(x.1++bs,x.2)) (B:=B) (C:=C) (F:=errC .nilIface none::blk d 111 (diskCells z D.tick)::mapH keyS z.bn (namesV D.tick.now)::mapH keyS z.bs (namesV D.tick.safe)::movesC z.mv D.tick.moves::bytS (.slice ab bs.length cb) bs::F) hs.to
    rw [← e2] at h2
    exact wq_ret rfl ⟨_,rfl,Sat.diskClose (z:=z) hok' h2.to⟩
  ·obtain ⟨a,p,b,rfl,rfl,hab⟩:=namesV_split hl
   rw [hab] at hs
   obtain ⟨q,hq⟩:=Option.isSome_iff_exists.1 (hin p (by simp))
   refine go ?_
   refine wl_entry keyS hs .here rfl rfl ?_
   obtain ⟨B,C,v,e1,e2,hs⟩:=(hs.take (.there (.there (.there (.there .here))))).nodeTake hq
   obtain ⟨a2,c2,hv,-⟩:=(hs.take (.there .here)).ownShape
   subst hv
   have hd:D.tick.dataOf p.2=q.1:=by unfold PDisk.dataOf;rw [hq]
   have hsum2:u+q.1.length+((a++b).map fun p=>(D.tick.dataOf p.2).length).sum=D.tick.used:=by
    simp only [List.map_append,List.map_cons,List.sum_append,List.sum_cons,hd] at hsum ⊢;omega
   refine go ?_
   refine wq_round (a++b,u+q.1.length) ⟨rfl,rfl,rfl,rfl,rfl,rfl,trivial⟩ ⟨⟨hsum2,fun p hp=>hin p (by simp at hp ⊢;rcases hp with h|h<;>simp [h])⟩,some (p.1,idV p.2),?_⟩ (by simp)
   have h2:=hs.nodePut (y:=q)
   rw [← e1] at h2
   exact h2.to
end
section
open Go.Proofs.YtecibefflhomdaaGreatDoor.Pure (PDisk aget aput adel setM)
attribute [local irreducible] IntKind.wrap
variable {W0 w:World} {F l:List HProp} {v:Value} {d:Nat} {D:PDisk} {bs:Bs}
theorem srcEmp {a:Option Addr} {c:Nat}:SrcL 1 93 (.slice a 0 c) 0 [] l:=fun _ w _=>by
 cases a with
 | none=>exact Src.ofNil w (kSlice_und (t:=93) rfl) c
 | some a=>exact Src.ofSlice w (kSlice_und (t:=93) rfl) _ _ _ _ (by simp) (fun j u hu=>by simp at hu) (fun u hu=>by simp at hu)
theorem srcRd {v:Value} (hr:RdB l v bs):SrcL 1 93 v bs.length (bs.map bV) l:=by
 rcases hr with ⟨rfl,a,c,rfl⟩|⟨b,o,c,sh,all,E,r,rfl,tk,hcell⟩
 ·exact srcEmp
 ·exact srcBlk (all:=all.toList) rfl (by simpa using tk) (by simp) (fun j u hu=>by simpa using hcell j u hu) (bV_one bs)
theorem clone_spec (hs:Sat W0 l w) (hr:RdB l v bs) (hb:bs.length≤140737488355328) :
 Calls Tryz.prog 46 #[v] w fun x w'=>∃ v',x=.returned v'∧Sat W0 (bytS v' bs::l) w':=by
 obtain ⟨a,c,hv⟩:∃ a c,v=.slice a bs.length c:=by
  rcases hr with ⟨rfl,a,c,rfl⟩|⟨b,o,c,_,_,_,_,rfl,_⟩<;>exact ⟨_,_,rfl⟩
 subst hv
 refine enter Tryz.func46 rfl Tryz.ntmps46 Tryz.results46 rfl ?_
 cases a with
 | none=>
  have hbs:bs=[]:=by
   rcases hr with ⟨h,_⟩|⟨b,o,c',_,_,_,_,h,_⟩
   ·exact h
   ·simp at h
  subst hbs
  refine go ?_
  exact wq_ret rfl ⟨_,rfl,hs.bytNil⟩
 | some a=>
  refine go ?_
  refine w_lit [] hs fun w b hs2=>?_
  have hown:Sat W0 (bytS (.slice (some ⟨b,0,none⟩) 0 0) []::l) w:=Sat.ownClose (cs:=[]) (len:=0) (rest:=[]) (by simpa using hs2) (Nat.le_refl _) (by decide) rfl rfl (by simp)
  have hr2:SrcL 1 93 (.slice (some a) bs.length c) bs.length (bs.map bV) (bytS (.slice (some ⟨b,0,none⟩) 0 0) []::l):=fun W w h=>srcRd hr W w h.drop
  refine go ?_
  refine wl_appB (m:=bs.length) hown rfl rfl .here hr2 (by simpa using hb) rfl fun v' w hs=>?_
  refine go ?_
  exact wq_ret rfl ⟨v',rfl,by simpa using hs⟩
section
variable {ops:Array Oper} {Q:Exit→Act→World→Prop} {n:Nat} {ds:Md} {e:Env} {rest:List Oper}
variable {op:Op} {ty:TypeId} {pos:String} {af:Array Edge} {dd:Nat}
theorem wl_sub {x lo hi:Operand} (l' h':Nat) (hs:Sat W0 (bytS v bs::l) w) (hx:ev e x=some v) (hlo:ev e lo=some (.int .i64 (l':Int))) (hhi:ev e hi=some (.int .i64 (h':Int))) (h1:l'≤h') (h2:h'≤bs.length) (hd:Nat.blt dd n=true)
 (kk:∀ v' l2,RdB l2 v' ((bs.drop l').take (h'-l'))→Sat W0 l2 w→(∀ hp,sepL l2 hp→sepL (bytS v bs::l) hp)→WL ops Q n ds rest ((dd,v')::e) w) :
 WL ops Q n ds (⟨some dd,.slice 93 x (some lo) (some hi) none,ty,pos,af,none⟩::rest) e w:=by
 by_cases hv:v=.slice none 0 0
 ·subst hv
  obtain ⟨a,cap,e1,_⟩:=hs.ownShape
  have hb:bs=[]:=List.eq_nil_of_length_eq_zero (by simp at e1;omega)
  subst hb
  have hh:h'=0:=by simpa using h2
  have hl:l'=0:=by omega
  subst hh;subst hl
  exact wl_cut0 hx rfl rfl hlo hhi hd (kk _ _ (.inl ⟨by simp,none,0,rfl⟩) hs fun _ h=>h)
 ·have hlen:=hs.ownLen
  have hone:=hs.ownOne
  obtain ⟨b,cap,rs,rfl,q1,q2,q3,hs2⟩:=hs.ownOpen hv
  refine wl_cut l' h' hx rfl rfl hlo hhi h1 (by omega) hd (kk _ (blk b 5 (bs.map bV++rs)::l) ?_ hs2 fun hp k=>sepL_head (fun _ ha=>⟨hlen,hone,.inr ⟨b,cap,rs,rfl,q1,q2,q3,ha⟩⟩) k)
  by_cases hz:h'-l'=0
  ·exact .inl ⟨by rw [hz];simp,_,_,by rw [hz]⟩
  ·have hne:cap≠l':=by omega
   have ec:cutAt b 0 cap l' 1=⟨b,l',none⟩:=by unfold cutAt;rw [if_neg hne];simp
   rw [ec]
   have el:((bs.drop l').take (h'-l')).length=h'-l':=by simp;omega
   refine .inr ⟨b,l',cap-l',false,_,_,_,by rw [el],.here,fun j u hu=>?_⟩
   simp only [List.getElem?_toArray]
   have hj:j<h'-l':=by have:=(List.getElem?_eq_some_iff.1 hu).1;rw [List.length_map,el] at this;exact this
   rw [List.getElem?_append_left (by simp;omega)]
   rw [List.map_take,List.map_drop,List.getElem?_take,if_pos hj,List.getElem?_drop] at hu
   exact hu
end
end
end Go.Proofs.YtecibefflhomdaaGreatDoor
