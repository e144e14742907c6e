/-
  Part 5: The engine 11 regions whose order is drawn; The engine 12 'go'; WALKS package codec, what writes; WALKS package codec.
-/
import Derived.Test.YtecibefflhomdaaGreatDoorY04
set_option maxHeartbeats 8000000
set_option maxRecDepth 100000
set_option linter.all false
namespace Go.Proofs.YtecibefflhomdaaGreatDoor
open Go
section
attribute [local semireducible] WL WC WQ
def xQ (ops:Array Oper) (i k:Nat):Bool:=match ops[i]? with
 | some o=>o.after.toList.any fun e=>Region.binds .any e&&Nat.beq e.on k
 | none=>false
def xR (ops:Array Oper) (i k:Nat):Bool:=match ops[i]? with
 | some o=>o.after.toList.any fun e=>Region.binds .any e&&(Nat.beq e.on k||xQ ops e.on k)
 | none=>false
def lastB (ops:Array Oper) (i:Nat):Bool:=
 (List.range ops.size).all fun k=>Nat.beq k i||xR ops i k
def gX (ops:Array Oper) (listed:Array Bool):Prop:=∀ j o,ops[j]?=some o→listed.getD j true=true→∀ e∈o.after,Region.binds .any e=true→listed.getD e.on false=true
theorem vG {ops:Array Oper} {listed:Array Bool} {k j:Nat} {o:Oper} (ho:ops[j]?=some o) (hall:∀ e∈o.after,Region.binds .any e=true→listed.getD e.on false=true) (h:xQ ops j k=true):listed.getD k false=true:=by
 unfold xQ at h
 rw [ho] at h
 simp only [List.any_eq_true,Bool.and_eq_true,Array.mem_toList_iff] at h
 obtain ⟨ed,hed,hb,he⟩:=h
 rw [← Nat.eq_of_beq_eq_true he];exact hall ed hed hb
theorem pU {ops:Array Oper} {listed:Array Bool} (hc:gX ops listed) {k j:Nat} {o:Oper} (ho:ops[j]?=some o) (hall:∀ e∈o.after,Region.binds .any e=true→listed.getD e.on false=true) (h:xR ops j k=true):listed.getD k false=true:=by
 unfold xR at h
 rw [ho] at h
 simp only [List.any_eq_true,Bool.and_eq_true,Bool.or_eq_true,Array.mem_toList_iff] at h
 obtain ⟨ed,hed,hb,he⟩:=h
 have hl:=hall ed hed hb
 rcases he with he|he
 ·rw [← Nat.eq_of_beq_eq_true he];exact hl
 ·cases ho2:ops[ed.on]? with
  | none=>unfold xQ at he;rw [ho2] at he;cases he
  | some o2=>exact vG ho2 (hc ed.on o2 ho2 (by
   have hsz:ed.on<listed.size:=by
    rcases Nat.lt_or_ge ed.on listed.size with h|h
    ·exact h
    ·simp [Array.getElem?_eq_none h] at hl
   simp [hsz] at hl ⊢;exact hl)) he
theorem kF {ops:Array Oper} {listed:Array Bool} (hc:gX ops listed) {i:Nat} {oi:Oper} (hoi:ops[i]?=some oi) (hall:∀ e∈oi.after,Region.binds .any e=true→listed.getD e.on false=true):gX ops (listed.setIfInBounds i true):=by
 intro j o ho hl e he hb
 have key:∀ k,listed.getD k false=true→(listed.setIfInBounds i true).getD k false=true:=fun k h=>getD_set_true h
 by_cases hj:i=j
 ·subst hj
  rw [hoi] at ho;cases ho
  exact key _ (hall e he hb)
 ·rw [getD_set_ne true hj] at hl
  exact key _ (hc j o ho hl e he hb)
section
variable {ops:Array Oper} {Q:Exit→Act→World→Prop} {S:World→Prop}
def Nk (ops:Array Oper) (Q:Exit→Act→World→Prop) (S:World→Prop):Nat→Array Bool→Act→World→Prop
 | 0,listed,a,w=>Region.ready .any ops listed=[]∧Q .normal a w
 | fuel+1,listed,a,w=>
  (Region.ready .any ops listed=[]→Q .normal a w) ∧
  ∀ i∈Region.ready .any ops listed,wpOp Tryz.prog ops Q i (fun a' w'=>(lastB ops i=false→S w')∧Nk ops Q S fuel (listed.setIfInBounds i true) a' w') a w
theorem DG:∀ (fuel:Nat) (listed:Array Bool) (a:Act) (w:World),Nk ops Q S fuel listed a w→wpAny Tryz.prog .any ops Q fuel listed a w
 | 0,_,_,_,h=>h
 | fuel+1,_,_,_,h=>⟨h.1,fun i hi=>wpOp_mono (fun a' w' k=>DG fuel _ a' w' k.2) (h.2 i hi)⟩
theorem Hu {i:Nat} {listed:Array Bool} (h:i∈Region.ready .any ops listed):i<ops.size:=by
 obtain ⟨_,o,ho,_⟩:=mem_ready.1 h
 exact (Array.getElem?_eq_some_iff.1 ho).1
theorem Hv {i j:Nat} {listed:Array Bool} (hc:gX ops listed) (hi:i∈Region.ready .any ops listed) (hj:j∈Region.ready .any ops listed) (hne:j≠i):lastB ops j=false:=by
 cases h:lastB ops j with
 | false=>rfl
 | true=>
  exfalso
  unfold lastB at h
  have h1:=List.all_eq_true.1 h i (List.mem_range.2 (Hu hi))
  simp only [Bool.or_eq_true] at h1
  rcases h1 with h1|h1
  ·exact hne (Nat.eq_of_beq_eq_true h1).symm
  ·obtain ⟨hjun,o,ho,hall⟩:=mem_ready.1 hj
   have hl:=pU hc ho (fun e he hb=>hall e he hb) h1
   have hu:=(mem_ready.1 hi).1
   have hsz:i<listed.size:=by
    rcases Nat.lt_or_ge i listed.size with h|h
    ·exact h
    ·simp [Array.getElem?_eq_none h] at hl
   simp [hsz] at hl hu
   rw [hl] at hu;cases hu
theorem Ff {i:Nat} {oi:Oper} {v:Value} (hi:ops[i]?=some oi) (hsel:∀ (j:Nat) (o:Oper) cs b,ops[j]?=some o→o.op≠.select cs b)
 (hQ:∀ c a w,Q (.panic c) (a.put oi.dst v) w→Q (.panic c) a w):∀ (fuel:Nat) (listed:Array Bool) (a:Act) (w:World),gX ops listed →
  (∀ j oj,ops[j]?=some oj→j≠i→listed.getD j true=false→(∀ e∈oj.after,Region.binds .any e=true→e.on≠i)→oi.apart ops oj=true) →
  i∈Region.ready .any ops listed→YieldsIf Tryz.prog ops S oi v a→S w →
  Nk ops Q S fuel (listed.setIfInBounds i true) (a.put oi.dst v) w→Nk ops Q S (fuel+1) listed a w:=by
 intro fuel
 induction fuel with
 | zero=>
  intro listed a w _ _ hr hy hS H
  refine ⟨fun h=>(by rw [h] at hr;cases hr),fun j hj=>?_⟩
  rcases Classical.em (j=i) with rfl|hji
  ·exact hy.wpOp hi hS ⟨fun _=>hS,H⟩
  ·have:=ready_mono hj hji
   rw [H.1] at this;cases this
 | succ fuel ih=>
  intro listed a w hcl hfree hr hy hS H
  refine ⟨fun h=>(by rw [h] at hr;cases hr),fun j hj=>?_⟩
  rcases Classical.em (j=i) with rfl|hji
  ·exact hy.wpOp hi hS ⟨fun _=>hS,H⟩
  have hl:=Hv hcl hr hj hji
  obtain ⟨hjun,oj,hoj,hall⟩:=mem_ready.1 hj
  have hnot:∀ e∈oj.after,Region.binds .any e=true→e.on≠i:=fun e he hb heq=>by
   have h1:=hall e he hb
   have h0:=(mem_ready.1 hr).1
   rw [heq] at h1
   have hsz:i<listed.size:=by
    rcases Nat.lt_or_ge i listed.size with h|h
    ·exact h
    ·simp [Array.getElem?_eq_none h] at h1
   simp [hsz] at h0 h1
   rw [h0] at h1;cases h1
  have h2:=wpOp_putIf hoj (hfree j oj hoj hji hjun hnot) (fun cs b=>hsel i oi cs b hi) (fun cs b=>hsel j oj cs b hoj) hQ hy (H.2 j (ready_mono hj hji))
  refine wpOp_mono (fun a' w' h3=>⟨h3.2.1,ih _ a' w' (kF hcl hoj hall) (fun k ok hk hki hun hno=>?_) (ready_mono hr (Ne.symm hji)) h3.1 (h3.2.1 hl) ?_⟩) h2
  ·refine hfree k ok hk hki ?_ hno
   rcases Classical.em (j=k) with rfl|hjk
   ·exact hjun
   ·rw [getD_set_ne true hjk] at hun;exact hun
  ·rw [Array.setIfInBounds_comm _ _ hji];exact h3.2.2
def wo (ops:Array Oper) (Q:Exit→Act→World→Prop) (S:World→Prop):List (Nat×Bool)→Act→World→Prop
 | [],a,w=>Q .normal a w
 | (i,false)::r,a,w=>∃ o v,ops[i]?=some o∧YieldsIf Tryz.prog ops S o v a∧S w∧wo ops Q S r (a.put o.dst v) w
 | (i,true)::r,a,w=>wpOp Tryz.prog ops Q i (fun a' w'=>(lastB ops i=false→S w')∧wo ops Q S r a' w') a w
def tH (ops:Array Oper):List (Nat×Bool)→Array Bool→Bool
 | [],listed=>(Region.ready .any ops listed).isEmpty
 | (i,false)::r,listed=>Region.free .any ops listed i&&(Region.ready .any ops listed).contains i&&tH ops r (listed.setIfInBounds i true)
 | (i,true)::r,listed=>(Region.ready .any ops listed==[i])&&tH ops r (listed.setIfInBounds i true)
theorem BQ (hsel:Region.noSelect ops=true) (hQ:∀ c a dst v w,Q (.panic c) (a.put dst v) w→Q (.panic c) a w) :
 ∀ (ord:List (Nat×Bool)) (listed:Array Bool) (a:Act) (w:World),gX ops listed→tH ops ord listed=true→wo ops Q S ord a w→Nk ops Q S ord.length listed a w
 | [],listed,a,w,_,hok,h=>⟨by simpa [tH] using hok,h⟩
 | (i,false)::r,listed,a,w,hcl,hok,⟨o,v,ho,hy,hS,h⟩=>by
  simp only [tH,Bool.and_eq_true] at hok
  obtain ⟨⟨hf,hr⟩,hok⟩:=hok
  have hr':i∈Region.ready .any ops listed:=by simpa using hr
  have hcl2:gX ops (listed.setIfInBounds i true):=by
   obtain ⟨_,o',ho',hall⟩:=mem_ready.1 hr'
   exact kF hcl ho' hall
  exact Ff ho (Region.noSelect_spec hsel) (fun c a w=>hQ c a o.dst v w) r.length listed a w hcl (Region.free_spec ho hf) hr' hy hS (BQ hsel hQ r _ _ w hcl2 hok h)
 | (i,true)::r,listed,a,w,hcl,hok,h=>by
  simp only [tH,Bool.and_eq_true,beq_iff_eq] at hok
  obtain ⟨hr,hok⟩:=hok
  refine ⟨fun h0=>(by rw [hr] at h0;cases h0),fun j hj=>?_⟩
  have hcl2:gX ops (listed.setIfInBounds j true):=by
   obtain ⟨_,o',ho',hall⟩:=mem_ready.1 hj
   exact kF hcl ho' hall
  rw [hr] at hj
  simp only [List.mem_singleton] at hj
  subst hj
  exact wpOp_mono (fun a' w' k=>⟨k.1,BQ hsel hQ r _ a' w' hcl2 hok k.2⟩) h
end
class pV (Q:Exit→Act→World→Prop):Prop where
 ind:∀ c a dst v w,Q (.panic c) (Act.put a dst v) w→Q (.panic c) a w
instance {K:Act→World→Prop} {Q:Exit→Act→World→Prop} [h:pV Q]:pV (Exit.then K Q):=⟨h.ind⟩
instance {id:Nat} {Q:Exit→Act→World→Prop} [h:pV Q]:pV (Exit.inBlock id Q):=⟨h.ind⟩
instance {α:Type} {E:α→Env} {I:α→World→Prop} {μ:α→Nat} {z:α} {n:Nat} {ds:Md} {Q:Exit→Act→World→Prop} [h:pV Q]:pV (wa E I μ z n ds Q):=⟨h.ind⟩
instance {rs:List ResultVar} {R:Ending→World→Prop}:pV (Fb rs R):=⟨fun c a dst v w h=>by
 cases dst<;>exact h⟩
def WO (ops:Array Oper) (Q:Exit→Act→World→Prop) (S:World→Prop) (n:Nat) (ds:Md) (ord:List (Nat×Bool)) (e:Env) (w:World):Prop:=
 ∀ a,Fr n ds e a→S w→wo ops Q S ord a w
theorem mixed:Tryz.prog.follows .mixedOrders=true:=by kernel_rfl
section
variable {ops:Array Oper} {Q:Exit→Act→World→Prop} {n:Nat} {ds:Md} {e:Env} {w w':World} {ord:List (Nat×Bool)}
variable {op:Op} {ty:TypeId} {pos:String} {af:Array Edge} {d i:Nat} {v u:Value} {W0:World} {l l' r r':List ah}
inductive kG:List ah→List ah→Prop
 | nil {l:List ah}:kG [] l
 | refl {l:List ah}:kG l l
 | skip {A:ah} {l a:List ah}:kG a l→kG a (A::l)
 | cons {A:ah} {l r a:List ah}:Take A l r→kG a r→kG (A::a) l
theorem Sat.sub {a:List ah} (h:Sat W0 l w) (s:kG a l):Sat W0 a w:=by
 have key:∀ {a l:List ah},kG a l→∀ h,cV l h→cV a h:=by
  intro a l s
  induction s with
  | nil=>intro _ _;trivial
  | refl=>exact fun _ k=>k
  | skip _ ih=>intro h k;exact ih h (kj k)
  | cons t _ ih=>intro h k;exact dH ih (t.to k)
 exact h.imp (key s)
theorem Sat.to {a:List ah} (h:Sat W0 l w) (s:kG a l:=by repeat (first|exact kG.refl|exact kG.nil|refine kG.cons (by repeat (first|exact Take.here|apply Take.there)) ?_|refine kG.skip ?_)):Sat W0 a w:=h.sub s
theorem bU {id:Nat} {ol:List Oper} [hp:pV Q] [k8 Q] (l0:List ah) (ord:List (Nat×Bool)) (hs:Sat W0 l w)
 (hok:(tH ol.toArray ord (Array.replicate ol.length false)&&Nat.beq ord.length ol.length&&Region.noSelect ol.toArray&&(ds.round.isNone||vZ ol))=true)
 (k:∀ w,Sat W0 l w→WO ol.toArray Q (Sat W0 l0) n ds ord e w) (sub:kG l0 l:=by repeat (first|exact kG.refl|exact kG.nil|refine kG.cons (by repeat (first|exact Take.here|apply Take.there)) ?_|refine kG.skip ?_)):WC (.region id ol.toArray true) Q n ds e w:=fun a ha=>by
 simp only [Bool.and_eq_true] at hok
 obtain ⟨⟨⟨h1,h2⟩,h3⟩,h4⟩:=hok
 refine wpIn_region_draw fun t=>tn _ (by simpa using h4) _ _ _ ?_
 simp only [Region.schedule,mixed,Bool.true_or,if_true]
 refine wpAny_sound ol.toArray.size t _ _ _ (DG (S:=Sat W0 l0) _ _ _ _ ?_)
 have e1:ol.toArray.size=ord.length:=by simp [Nat.eq_of_beq_eq_true h2]
 rw [e1]
 have e2:ord.length=ol.length:=Nat.eq_of_beq_eq_true h2
 rw [e2,← e2,e2]
 have hd:=hs.drew
 have:=BQ h3 hp.ind ord (Array.replicate ol.length false) a { w with drawn:=w.drawn+1 } (fun j o ho hl=>by
  exfalso
  have hj:j<ol.length:=by have:=(Array.getElem?_eq_some_iff.1 ho).1;simpa using this
  simp [hj] at hl) h1 (k _ hd a ha (hd.sub sub))
 rw [e2] at this
 exact this
theorem xS {S:World→Prop} (k:WQ Q .normal n ds e w):WO ops Q S n ds [] e w:=fun a ha _=>k a ha
theorem ng {S:World→Prop} (ho:ops[i]?=some ⟨some d,op,ty,pos,af,none⟩) (hv:yv e op=some v) (hd:Nat.blt d n=true) (k:WO ops Q S n ds ord ((d,v)::e) w):WO ops Q S n ds ((i,false)::ord) e w:=fun a ha hS=>
 ⟨_,v,ho,.inl ⟨rfl,fun w' _=>nj (o:=⟨some d,op,ty,pos,af,none⟩) ha hv⟩,hS,k _ (ha.put hd) hS⟩
theorem J9 {S:World→Prop} {x:Int} (ho:ops[i]?=some ⟨some d,op,ty,pos,af,none⟩) (hv:yv e op=some (.int .i64 (IntKind.i64.wrap x))) (h1:-9223372036854775808≤x) (h2:x≤9223372036854775807) (hd:Nat.blt d n=true)
 (k:WO ops Q S n ds ord ((d,.int .i64 x)::e) w):WO ops Q S n ds ((i,false)::ord) e w:=ng ho (by rw [hv,wrap_i64 h1 h2]) hd k
theorem DH {S:World→Prop} {p:Prop} [Decidable p] (ho:ops[i]?=some ⟨some d,op,ty,pos,af,none⟩) (hv:yv e op=some (.bool (decide p))) (hp:p) (hd:Nat.blt d n=true) (k:WO ops Q S n ds ord ((d,.bool true)::e) w):WO ops Q S n ds ((i,false)::ord) e w:=ng ho (by rw [hv];simp [hp]) hd k
theorem DI {S:World→Prop} {p:Prop} [Decidable p] (ho:ops[i]?=some ⟨some d,op,ty,pos,af,none⟩) (hv:yv e op=some (.bool (decide p))) (hp:¬ p) (hd:Nat.blt d n=true) (k:WO ops Q S n ds ord ((d,.bool false)::e) w):WO ops Q S n ds ((i,false)::ord) e w:=ng ho (by rw [hv];simp [hp]) hd k
theorem pW {x:Operand} {T b o E:Nat} {sh:Bool} {cs:List Value} {l0:List ah} (ho:ops[i]?=some ⟨some d,.load T x,ty,pos,af,none⟩) (hx:ev e x=some (.pointer (some ⟨b,o,none⟩))) (hT:lk kZ T=some false)
 (t:Take (ob sh b (.cells cs.toArray E (0,0))) l0 r) (hc:cs[o]?=some v) (hd:Nat.blt d n=true) (k:WO ops Q (Sat W0 l0) n ds ord ((d,v)::e) w):WO ops Q (Sat W0 l0) n ds ((i,false)::ord) e w:=fun a ha hS=>
 ⟨_,v,ho,.inl ⟨rfl,fun w' hs=>by simp [execOp,ha.ev hx,Instr.loadAt,Instr.sureAddr,cK hT ((hs.cell t o).trans hc)]⟩,hS,k _ (ha.put hd) hS⟩
theorem fR (vs:List Value) {x:Operand} {T b o E:Nat} {sh:Bool} {cs:List Value} {l0:List ah} (ho:ops[i]?=some ⟨some d,.load T x,ty,pos,af,none⟩) (hx:ev e x=some (.pointer (some ⟨b,o,none⟩))) (hT:lk kZ T=some true) (hz:lk df T=some vs.length)
 (t:Take (ob sh b (.cells cs.toArray E (0,0))) l0 r) (hc:gh cs o vs) (hd:Nat.blt d n=true) (k:WO ops Q (Sat W0 l0) n ds ord ((d,.agg vs.toArray)::e) w):WO ops Q (Sat W0 l0) n ds ((i,false)::ord) e w:=fun a ha hS=>
 ⟨_,_,ho,.inl ⟨rfl,fun w' hs=>by simp [execOp,ha.ev hx,Instr.loadAt,Instr.sureAddr,iR hT hz (hs.cell t) hc]⟩,hS,k _ (ha.put hd) hS⟩
theorem Fg {S:World→Prop} (ho:ops[i]?=some ⟨some d,op,ty,pos,af,none⟩) (h:∀ a w',Fr n ds e a→S w'→(execOp a.eval ⟨some d,op,ty,pos,af,none⟩).run Tryz.prog w'=.ok (.value v) w') (hd:Nat.blt d n=true)
 (k:WO ops Q S n ds ord ((d,v)::e) w):WO ops Q S n ds ((i,false)::ord) e w:=fun a ha hS=>⟨_,v,ho,.inl ⟨rfl,fun w' hs=>h a w' ha hs⟩,hS,k _ (ha.put hd) hS⟩
theorem DJ {S:World→Prop} {j:Nat} {b b':Bool} (ho:ops[i]?=some ⟨some d,op,ty,pos,af,some (j,b')⟩) (h:gv ops e j=some b) (hne:b'=!b) (hd:Nat.blt d n=true) (k:WO ops Q S n ds ord ((d,undef)::e) w):WO ops Q S n ds ((i,false)::ord) e w:=fun a ha hS=>by
 have hy:=fg ha h
 subst hne
 have:(some b==some (!b))=false:=by cases b<;>rfl
 exact ⟨_,undef,ho,.inr ⟨by simp [Region.wanted,hy,this],rfl⟩,hS,k _ (ha.put hd) hS⟩
theorem DK {S:World→Prop} {j:Nat} {b:Bool} (ho:ops[i]?=some ⟨some d,op,ty,pos,af,some (j,b)⟩) (h:gv ops e j=some b) (hv:yv e op=some v) (hd:Nat.blt d n=true) (k:WO ops Q S n ds ord ((d,v)::e) w):WO ops Q S n ds ((i,false)::ord) e w:=fun a ha hS=>by
 have hy:=fg ha h
 exact ⟨_,v,ho,.inl ⟨by simp [Region.wanted,hy],fun w' _=>nj (o:=⟨some d,op,ty,pos,af,some (j,b)⟩) ha hv⟩,hS,k _ (ha.put hd) hS⟩
theorem xT {x:Operand} {T b o E j:Nat} {g:Bool} {sh:Bool} {cs:List Value} {l0:List ah} (ho:ops[i]?=some ⟨some d,.load T x,ty,pos,af,some (j,g)⟩) (h:gv ops e j=some g) (hx:ev e x=some (.pointer (some ⟨b,o,none⟩))) (hT:lk kZ T=some false)
 (t:Take (ob sh b (.cells cs.toArray E (0,0))) l0 r) (hc:cs[o]?=some v) (hd:Nat.blt d n=true) (k:WO ops Q (Sat W0 l0) n ds ord ((d,v)::e) w):WO ops Q (Sat W0 l0) n ds ((i,false)::ord) e w:=fun a ha hS=>by
 have hy:=fg ha h
 exact ⟨_,v,ho,.inl ⟨by simp [Region.wanted,hy],fun w' hs=>by simp [execOp,ha.ev hx,Instr.loadAt,Instr.sureAddr,cK hT ((hs.cell t o).trans hc)]⟩,hS,k _ (ha.put hd) hS⟩
theorem tI {o:Oper} {a:Act} {Q':Exit→Act→World→Prop} {K:Act→World→Prop} (hp:∀ c a w,Q' (.panic c) a w→Q (.panic c) a w) (hl:∀ a w,Q' .outgrown a w→Q .outgrown a w) (h:o.wp Tryz.prog a w K Q'):o.wp Tryz.prog a w K Q:=by
 unfold Oper.wp at *
 generalize (execOp a.eval o).run Tryz.prog w=r at *
 cases r with
 | ok x w'=>
  cases x<;>simp only [Oper.upon] at h ⊢<;>first
   | exact h
   | (refine Calls.mono h fun ee w'' he=>?_
      cases ee with
      | returned v=>exact he
      | panicked c=>exact hp _ _ _ he
      | outgrown=>obtain ⟨a1,w1,h1⟩:=he;exact ⟨a1,w1,hl _ _ h1⟩)
 | halt x w'=>cases x<;>simp only [Oper.upon] at h ⊢<;>first|exact h|exact hp _ _ _ h
theorem tc {S:World→Prop} {o:Oper} (ho:ops[i]?=some o) (k:WL ops (Exit.then (fun a w=>(lastB ops i=false→S w)∧wo ops Q S ord a w) Q) n ds [o] e w):WO ops Q S n ds ((i,true)::ord) e w:=fun a ha hS=>by
 have h:=k a ha
 simp only [wpList] at h
 show wpOp Tryz.prog ops Q i _ a w
 unfold wpOp
 simp only [ho]
 split at h
 ·rename_i hw
  rw [if_pos hw]
  rcases h with h|⟨h1,a1,w1,h2⟩
  ·exact .inl (tI (fun _ _ _ h=>h) (fun _ _ h=>h) h)
  ·exact .inr ⟨h1,a1,w1,h2⟩
 ·rename_i hw
  rw [if_neg hw]
  exact h
theorem DL {S:World→Prop} (hS:S w) (k:WO ops Q S n ds ord e w):WQ (Exit.then (fun a w=>(lastB ops i=false→S w)∧wo ops Q S ord a w) Q) .normal n ds e w:=fun a ha=>⟨fun _=>hS,k a ha hS⟩
theorem xU {S:World→Prop} (hl:lastB ops i=true) (k:WQ Q .normal n ds e w):WQ (Exit.then (fun a w=>(lastB ops i=false→S w)∧wo ops Q S [] a w) Q) .normal n ds e w:=fun a ha=>⟨fun h=>(by rw [hl] at h;cases h),k a ha⟩
end
attribute [irreducible] WO
end
structure xV (p:Prop):Prop where
 out:p
theorem go {G G':Prop} (k:G') (h:xV G'→G:=by
 (intro k
  repeat (first
   | refine zh rfl (by omega) (by omega) rfl ?_
   | refine nq rfl (by omega) (by omega) rfl ?_
   | refine q5 rfl (by omega) (by omega) rfl ?_
   | refine DD rfl rfl ?_
   | refine zo rfl (by first|assumption|omega) rfl ?_
   | refine zp rfl (by first|assumption|omega) rfl ?_
   | refine zq rfl (by assumption) rfl ?_
   | refine zr rfl (by assumption) rfl ?_
   | refine eO rfl rfl ?_
   | refine eC (by assumption) rfl rfl (by repeat (first|exact Take.here|apply Take.there)) (by rfl) rfl ?_
   | refine dU ?_
   | refine lN rfl ?_
   | refine qZ ?_
   | refine db rfl ?_
   | refine nk rfl ?_
   | refine np rfl ?_
   | refine ik ?_
   | refine pP ?_
   | refine tp ?_
   | refine pQ ?_
   | refine iP ?_
   | refine jN ?_
   | refine tq ?_
   | refine kA ?_
   | refine kB ?_
   | refine jO rfl ?_
   | refine iQ ?_
   | refine jP ?_
   | refine sa rfl ?_
   | refine tw rfl rfl rfl ?_
   | refine J9 rfl rfl (by omega) (by omega) rfl ?_
   | refine DH rfl rfl (by first|assumption|omega) rfl ?_
   | refine DI rfl rfl (by first|assumption|omega) rfl ?_
   | refine ng rfl rfl rfl ?_
   | refine pW rfl rfl rfl (by repeat (first|exact Take.here|apply Take.there)) (by rfl) rfl ?_
   | refine DJ rfl rfl rfl rfl ?_
   | refine DK rfl rfl rfl rfl ?_
   | refine xT rfl rfl rfl rfl (by repeat (first|exact Take.here|apply Take.there)) (by rfl) rfl ?_
   | refine xS ?_
   | refine tc rfl ?_
   | refine xU rfl ?_
   | refine DL (Sat.to (by assumption)) ?_
   | refine fR [_,_] rfl rfl rfl rfl (by repeat (first|exact Take.here|apply Take.there)) (by exact ⟨rfl,rfl,trivial⟩) rfl ?_
   | refine fR [_,_,_] rfl rfl rfl rfl (by repeat (first|exact Take.here|apply Take.there)) (by exact ⟨rfl,rfl,rfl,trivial⟩) rfl ?_
   | refine fR [_,_,_,_] rfl rfl rfl rfl (by repeat (first|exact Take.here|apply Take.there)) (by exact ⟨rfl,rfl,rfl,rfl,trivial⟩) rfl ?_
   | refine fR [_,_,_,_,_] rfl rfl rfl rfl (by repeat (first|exact Take.here|apply Take.there)) (by exact ⟨rfl,rfl,rfl,rfl,rfl,trivial⟩) rfl ?_
   | refine fR [_,_,_,_,_,_] rfl rfl rfl rfl (by repeat (first|exact Take.here|apply Take.there)) (by exact ⟨rfl,rfl,rfl,rfl,rfl,rfl,trivial⟩) rfl ?_
   | refine dz [_,_] (by assumption) rfl rfl rfl (by repeat (first|exact Take.here|apply Take.there)) (by exact ⟨rfl,rfl,trivial⟩) rfl ?_
   | refine dz [_,_,_] (by assumption) rfl rfl rfl (by repeat (first|exact Take.here|apply Take.there)) (by exact ⟨rfl,rfl,rfl,trivial⟩) rfl ?_
   | refine dz [_,_,_,_] (by assumption) rfl rfl rfl (by repeat (first|exact Take.here|apply Take.there)) (by exact ⟨rfl,rfl,rfl,rfl,trivial⟩) rfl ?_
   | refine dz [_,_,_,_,_] (by assumption) rfl rfl rfl (by repeat (first|exact Take.here|apply Take.there)) (by exact ⟨rfl,rfl,rfl,rfl,rfl,trivial⟩) rfl ?_
   | refine dz [_,_,_,_,_,_] (by assumption) rfl rfl rfl (by repeat (first|exact Take.here|apply Take.there)) (by exact ⟨rfl,rfl,rfl,rfl,rfl,rfl,trivial⟩) rfl ?_)
  exact k.out)):G:=h ⟨k⟩
section
open Go.Proofs.YtecibefflhomdaaGreatDoor.Pure (bM bE we kD wc iS aD aU)
attribute [local irreducible] IntKind.wrap
variable {W0 w:World} {F:List ah} {v:Value} {bs:Bs}
theorem wj (N:Nat):∀ (k j:Nat),j+1≤k→(bM N k).take (k-j)=(bM N k).take (k-(j+1))++[UInt8.ofNat (N / 2^(8*j))]
 | 0,j,h=>by omega
 | k+1,j,h=>by
  by_cases hj:j=k
  ·subst hj;simp [bM]
  ·have e1:k+1-j=(k-j)+1:=by omega
   have e2:k+1-(j+1)=(k-(j+1))+1:=by omega
   rw [e1,e2];simp only [bM,List.take_succ_cons]
   rw [wj N k j (by omega)];rfl
theorem dr {N k:Nat} (hs:Sat W0 (cC v bs::F) w) (hk:k≤8) (hb:bs.length≤70368744177664) :
 Calls Tryz.prog 144 #[v,.int .u64 (N:Int),.int .i64 (k:Int)] w fun x w'=>∃ v',x=.returned v'∧Sat W0 (cC v' (bs++bM N k)::F) w':=by
 refine enter Tryz.func144 rfl Tryz.ntmps144 Tryz.results144 rfl ?_
 refine go ?_
 refine aL (α:=Nat×Value) (fun z=>[(0,z.2),(1,.int .u64 (N:Int)),(7,.int .i64 ((z.1:Int)-1))])
  (fun z w=>z.1≤k∧Sat W0 (cC z.2 (bs++(bM N k).take (k-z.1))::F) w) (fun z=>z.1) (k,v) ⟨rfl,rfl,rfl,trivial⟩ ⟨Nat.le_refl _,by simpa using hs⟩ ?_
 clear hs
 rintro ⟨j,v⟩ w ⟨hj,hs⟩
 dsimp only at hj hs ⊢
 have hlen:(bs++(bM N k).take (k-j)).length≤bs.length+8:=by simp [aU];omega
 refine go ?_
 refine Hk rfl (fun h=>?_) (fun h=>?_)
 ·obtain ⟨j,rfl⟩:∃ i,j=i+1:=⟨j-1,by omega⟩
  refine go ?_
  refine q7 (m:=8*j) rfl rfl (by omega) (by simp only [IntKind.bits];omega) rfl ?_
  refine go ?_
  refine fw hs fun w b hs=>?_
  refine go ?_
  refine xP hs fun v w hs=>?_
  refine go ?_
  refine aB (j,v) ⟨rfl,rfl,by simp [lk],trivial⟩ ⟨by omega,?_⟩ (by simp)
  rw [wj N k j hj,← List.append_assoc];exact hs
 ·have:j=0:=by omega
  subst this
  refine go ?_
  refine ak rfl ⟨v,rfl,by simpa [List.take_of_length_le (Nat.le_of_eq (aU N k))] using hs⟩
theorem gw {s:Bs} (hs:Sat W0 (cC v bs::F) w) (hb:bs.length≤70368744177664) (hl:s.length≤70368744177664-1) :
 Calls Tryz.prog 172 #[v,str s] w fun x w'=>∃ v',x=.returned v'∧Sat W0 (cC v' (bs++bE s)::F) w':=by
 refine enter Tryz.func172 rfl Tryz.ntmps172 Tryz.results172 rfl ?_
 refine go ?_
 refine fw hs fun w b hs=>?_
 refine xP hs fun v w hs=>?_
 refine go ?_
 refine J8 hs fun v w hs=>?_
 refine go ?_
 exact ak rfl ⟨v,rfl,by simpa [bE] using hs⟩
def LW (l:List ah) (v:Value) (bs:Bs):Prop:=
 (bs=[]∧∃ a c,v=.slice a 0 c)∨∃ b o c sh all E r,v=.slice (some ⟨b,o,none⟩) bs.length c∧Take (ob sh b (.cells all (E) (0,0))) l r∧∀ j u,(bs.map bV)[j]?=some u→all[o+j]?=some u
theorem LX {ops:Array Oper} {Q:Exit→Act→World→Prop} {n d:Nat} {ds:Md} {e:Env} {rest:List Oper} {op:Op} {ty:TypeId} {pos:String} {af:Array Edge} {x:Int} (M:Nat)
 (hv:yv e op=some (.int .u32 (IntKind.u32.wrap x))) (hx:x=(M:Int)) (hd:Nat.blt d n=true)
 (k:WL ops Q n ds rest ((d,.int .u32 ((M%4294967296:Nat):Int))::e) w):WL ops Q n ds (⟨some d,op,ty,pos,af,none⟩::rest) e w:=
 eO (by rw [hv,hx,IntKind.wrap_u32];exact congrArg (fun z=>some (Value.int .u32 z)) (by omega)) hd k
theorem zs {l:List ah} (hs:Sat W0 l w) (hr:LW l v bs) (hb:bs.length≤140737488355328) :
 Calls Tryz.prog 165 #[v] w fun x w'=>x=.returned (.int .u32 (we bs:Nat))∧Sat W0 l w':=by
 refine enter Tryz.func165 rfl Tryz.ntmps165 Tryz.results165 rfl ?_
 obtain ⟨a,c,hv⟩:∃ a c,v=.slice a bs.length c:=by
  rcases hr with ⟨rfl,a,c,rfl⟩|⟨b,o,c,_,_,_,_,rfl,_⟩<;>exact ⟨_,_,rfl⟩
 subst hv
 refine go ?_
 refine aL (α:=Nat×Nat) (fun z=>[(3,.int .u32 (z.2:Int)),(6,.slice a bs.length c),(7,.int .i64 (bs.length:Int)),(8,.int .i64 (z.1:Int))])
  (fun z w=>z.1≤bs.length∧z.2=iS 4294967295 (bs.take z.1)∧Sat W0 l w) (fun z=>bs.length-z.1) (0,4294967295) ⟨rfl,rfl,rfl,rfl,trivial⟩ ⟨Nat.zero_le _,rfl,hs⟩ ?_
 clear hs
 rintro ⟨i,cr⟩ w ⟨hi,hcr,hs⟩
 dsimp only at hi hcr hs ⊢
 have hlt:cr<4294967296:=hcr▸Pure.tz _ (by decide)
 refine go ?_
 refine Hk rfl (fun h=>?_) (fun h=>?_)
 ·have hi':i<bs.length:=by omega
  rcases hr with ⟨rfl,_⟩|⟨b,o,c',sh,all,E,r,hv,tk,hcell⟩
  ·simp at hi'
  obtain ⟨rfl,_,rfl⟩:=(by simpa using hv:a=some ⟨b,o,none⟩∧True∧c=c')
  have hbyte:=(bs[i]).toNat_lt
  have hx:bs[i]?=some bs[i]:=List.getElem?_eq_getElem hi'
  have hc:all.toList[o+i*1]?=some (bV bs[i]):=by rw [Nat.mul_one,Array.getElem?_toList];exact hcell i _ (by simp [hx])
  refine go ?_
  refine cL (i:=i) rfl rfl rfl rfl rfl hi' rfl ?_
  refine eC (cs:=all.toList) hs rfl rfl (by simpa using tk) hc rfl ?_
  refine go ?_
  refine tb (R:=cr ^^^ (bs[i]).toNat) rfl rfl rfl (by simpa [IntKind.bits] using hlt) (by have:=(bs[i]).toNat_lt;simp only [IntKind.bits];omega) rfl rfl ?_
  refine go ?_
  refine aL (α:=Nat×Nat) (fun z=>[(3,.int .u32 (z.2:Int)),(16,.int .i64 (z.1:Int)),(6,.slice (some ⟨b,o,none⟩) bs.length c),(7,.int .i64 (bs.length:Int)),(8,.int .i64 (i:Int))])
   (fun z w=>z.1≤8∧z.2=Pure.iter kD z.1 (cr ^^^ (bs[i]).toNat)∧Sat W0 l w) (fun z=>8-z.1) (0,cr ^^^ (bs[i]).toNat) ⟨rfl,rfl,rfl,rfl,rfl,trivial⟩ ⟨by omega,rfl,hs⟩ ?_
  clear hs
  rintro ⟨k,x⟩ w ⟨hk,hxk,hs⟩
  dsimp only at hk hxk hs ⊢
  have hxlt:x<4294967296:=hxk▸Pure.xL _ _ (Pure.sb hlt _)
  refine go ?_
  refine Hk rfl (fun h=>?_) (fun h=>?_)
  ·refine go ?_
   refine q7 (m:=1) rfl rfl rfl (by decide) rfl ?_
   refine go ?_
   refine tb (M:=1) (R:=x &&& 1) rfl rfl rfl (by simpa [IntKind.bits] using hxlt) (by decide) rfl rfl ?_
   refine LX ((x &&& 1)*3988292384) rfl (by rw [Int.natCast_mul];rfl) rfl ?_
   refine tb (R:=kD x) rfl rfl rfl (by simp only [IntKind.bits];omega) (by simp only [IntKind.bits];omega) rfl rfl ?_
   refine go ?_
   refine aB (k+1,kD x) ⟨rfl,by simp [lk],rfl,rfl,rfl,trivial⟩ ⟨by omega,?_,hs⟩ (by simp;omega)
   dsimp only;rw [hxk,Pure.wh]
  ·have:k=8:=by omega
   subst this
   refine go ?_
   refine aB (i+1,x) ⟨rfl,rfl,rfl,by simp [lk],trivial⟩ ⟨by omega,?_,hs⟩ (by simp;omega)
   dsimp only
   rw [hxk,List.take_succ_eq_append_getElem hi',Pure.tA,← hcr];rfl
 ·have:i=bs.length:=by omega
  subst this
  refine go ?_
  refine tG rfl hlt rfl ?_
  refine go ?_
  exact ak rfl ⟨by rw [hcr,List.take_length];rfl,hs⟩
theorem Sat.tJ {l:List ah} (h:Sat W0 l w):Sat W0 (cC (.slice none 0 0) []::l) w:=h.cP
theorem Sat.Nl (h:Sat W0 (cC v bs::F) w):∃ l',LW l' v bs∧Sat W0 l' w∧∀ w',Sat W0 l' w'→Sat W0 (cC v bs::F) w':=by
 by_cases hv:v=.slice none 0 0
 ·subst hv
  obtain ⟨a,cap,e,_⟩:=h.ay
  have hb:bs=[]:=List.eq_nil_of_length_eq_zero (by simp at e;omega)
  subst hb
  exact ⟨_,.inl ⟨rfl,none,0,rfl⟩,h,fun _ h=>h⟩
 ·have hlen:=h.tB
  have hone:=h.tC
  obtain ⟨b,cap,rest,rfl,h1,h2,h3,hs⟩:=h.iT hv
  refine ⟨_,.inr ⟨b,0,cap,false,_,_,_,rfl,.here,fun j u hu=>?_⟩,hs,fun w' h'=>h'.dK h1 h2 h3 hlen hone⟩
  have hj:=(List.getElem?_eq_some_iff.1 hu).1
  simp only [List.getElem?_toArray,Nat.zero_add]
  rw [List.getElem?_append_left hj];exact hu
theorem Ka (hs:Sat W0 (cC v bs::F) w) (hb:bs.length≤140737488355328) :
 Calls Tryz.prog 165 #[v] w fun x w'=>x=.returned (.int .u32 (we bs:Nat))∧Sat W0 (cC v bs::F) w':=by
 obtain ⟨l',hr,hs',hk⟩:=hs.Nl
 exact (zs hs' hr hb).mono fun x w' h=>⟨h.1,hk _ h.2⟩
end
section
open Go.Proofs.YtecibefflhomdaaGreatDoor.Pure (bM bE we kD wc iS aD aU az cY)
attribute [local irreducible] IntKind.wrap
variable {W0 w:World} {F:List ah} {v:Value} {bs:Bs}
theorem kH (hs:Sat W0 (cC v bs::F) w) (hb:bs.length≤4294967295) :
 Calls Tryz.prog 146 #[v] w fun x w'=>∃ v',x=.returned v'∧Sat W0 (cC v' (aD bs)::cC v bs::F) w':=by
 obtain ⟨a,cap,hv,_⟩:=hs.ay
 subst hv
 have hc:=Pure.BL bs
 refine enter Tryz.func146 rfl Tryz.ntmps146 Tryz.results146 rfl ?_
 refine go ?_
 refine ae (met (dr (N:=bs.length) (k:=4) (Sat.tJ hs) (by omega) (by simp)) ?_)
 rintro _ w ⟨v,rfl,hs⟩
 refine ⟨v,rfl,go ?_⟩
 refine tG (N:=bs.length) rfl (by omega) rfl ?_
 refine go ?_
 refine ae (met (dr (N:=4294967295-bs.length) (k:=4) hs (by omega) (by simp [aU])) ?_)
 rintro _ w ⟨v,rfl,hs⟩
 refine ⟨v,rfl,go ?_⟩
 refine ae (met (Ka (hs.take (.there .here)) (by omega)) ?_)
 rintro _ w ⟨rfl,hs⟩
 refine ⟨_,rfl,go ?_⟩
 refine ae (met (dr (N:=we bs) (k:=4) (hs.take (.there .here)) (by omega) (by simp [aU])) ?_)
 rintro _ w ⟨v,rfl,hs⟩
 refine ⟨v,rfl,go ?_⟩
 refine DF hs fun v w hs=>?_
 refine go ?_
 exact ak rfl ⟨v,rfl,by simpa [aD] using hs⟩
def aF (e:az):List Value:=[str e.key,str e.val,.bool e.del,.int .u64 (e.seq:Int)]
end
end Go.Proofs.YtecibefflhomdaaGreatDoor
