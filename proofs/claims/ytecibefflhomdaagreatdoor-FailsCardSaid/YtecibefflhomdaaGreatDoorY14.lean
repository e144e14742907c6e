/-
  Part 14: The engine 23 drawn regions once more; The engine 24 'got'; THE MIRROR, PART 1 tables that are read; WALKS package table.
-/
import Derived.Test.YtecibefflhomdaaGreatDoorY13
set_option maxHeartbeats 8000000
set_option maxRecDepth 100000
set_option linter.all false
namespace Go.Proofs.YtecibefflhomdaaGreatDoor
open Go
section
attribute [local semireducible] WL WC WQ
def oP (ops:Array Oper) (K:List Nat) (i:Nat):Bool:=K.all fun k=>xR ops i k
section
variable {ops:Array Oper} {Q:Exit→Act→World→Prop} {S:World→Prop} {K:List Nat}
def Nt (ops:Array Oper) (Q:Exit→Act→World→Prop) (S:World→Prop) (K:List Nat):Nat→Array Bool→Act→World→Prop
 | 0,listed,a,w=>Region.ready .any ops listed=[]∧Q .normal a w
 | fuel+1,listed,a,w=>
  (Region.ready .any ops listed=[]→Q .normal a w) ∧
  ∀ i∈Region.ready .any ops listed,wpOp Tryz.prog ops Q i (fun a' w'=>(oP ops K i=false→S w→S w')∧Nt ops Q S K fuel (listed.setIfInBounds i true) a' w') a w
theorem yk:∀ (fuel:Nat) (listed:Array Bool) (a:Act) (w:World),Nt ops Q S K fuel listed a w→wpAny Tryz.prog .any ops Q fuel listed a w
 | 0,_,_,_,h=>h
 | fuel+1,_,_,_,h=>⟨h.1,fun i hi=>wpOp_mono (fun a' w' k=>yk fuel _ a' w' k.2) (h.2 i hi)⟩
theorem HS {i j:Nat} {listed:Array Bool} (hK:i∈K) (hc:gX ops listed) (hi:i∈Region.ready .any ops listed) (hj:j∈Region.ready .any ops listed):oP ops K j=false:=by
 cases h:oP ops K j with
 | false=>rfl
 | true=>
  exfalso
  unfold oP at h
  have h1:=List.all_eq_true.1 h i hK
  obtain ⟨hjun,o,ho,hall⟩:=mem_ready.1 hj
  have hl:=pU hc ho (fun e he hb=>hall e he hb) h1
  have hu:=(mem_ready.1 hi).1
  have hsz:i<listed.size:=by
   rcases Nat.lt_or_ge i listed.size with h|h
   ·exact h
   ·simp [Array.getElem?_eq_none h] at hl
  simp [hsz] at hl hu
  rw [hl] at hu;cases hu
theorem FG {i:Nat} {listed:Array Bool} {oj:Oper} (hr:i∈Region.ready .any ops listed) (hall:∀ e∈oj.after,Region.binds .any e=true→listed.getD e.on false=true):∀ e∈oj.after,Region.binds .any e=true→e.on≠i:=fun e he hb heq=>by
 have h1:=hall e he hb
 have h0:=(mem_ready.1 hr).1
 rw [heq] at h1
 have hsz:i<listed.size:=by
  rcases Nat.lt_or_ge i listed.size with h|h
  ·exact h
  ·simp [Array.getElem?_eq_none h] at h1
 simp [hsz] at h0 h1
 rw [h0] at h1;cases h1
theorem wF {i:Nat} {oi:Oper} {v:Value} {S':World→Prop} (hi:ops[i]?=some oi) (hsel:∀ (j:Nat) (o:Oper) cs b,ops[j]?=some o→o.op≠.select cs b)
 (hQ:∀ c a w,Q (.panic c) (a.put oi.dst v) w→Q (.panic c) a w) (hS':(∀ w,S' w)∨(S'=S∧i∈K)):∀ (fuel:Nat) (listed:Array Bool) (a:Act) (w:World),gX ops listed →
  (∀ j oj,ops[j]?=some oj→j≠i→listed.getD j true=false→(∀ e∈oj.after,Region.binds .any e=true→e.on≠i)→oi.apart ops oj=true) →
  i∈Region.ready .any ops listed→YieldsIf Tryz.prog ops S' oi v a→S' w →
  Nt ops Q S K fuel (listed.setIfInBounds i true) (a.put oi.dst v) w→Nt ops Q S K (fuel+1) listed a w:=by
 intro fuel
 induction fuel with
 | zero=>
  intro listed a w _ _ hr hy hS H
  refine ⟨fun h=>(by rw [h] at hr;cases hr),fun j hj=>?_⟩
  rcases Classical.em (j=i) with rfl|hji
  ·exact hy.wpOp hi hS ⟨fun _ h=>h,H⟩
  ·have:=ready_mono hj hji
   rw [H.1] at this;cases this
 | succ fuel ih=>
  intro listed a w hcl hfree hr hy hS H
  refine ⟨fun h=>(by rw [h] at hr;cases hr),fun j hj=>?_⟩
  rcases Classical.em (j=i) with rfl|hji
  ·exact hy.wpOp hi hS ⟨fun _ h=>h,H⟩
  obtain ⟨hjun,oj,hoj,hall⟩:=mem_ready.1 hj
  have hnot:=FG hr hall
  have h2:=wpOp_putIf hoj (hfree j oj hoj hji hjun hnot) (fun cs b=>hsel i oi cs b hi) (fun cs b=>hsel j oj cs b hoj) hQ hy (H.2 j (ready_mono hj hji))
  refine wpOp_mono (fun a' w' h3=>⟨h3.2.1,ih _ a' w' (kF hcl hoj hall) (fun k ok hk hki hun hno=>?_) (ready_mono hr (Ne.symm hji)) h3.1 ?_ ?_⟩) h2
  ·refine hfree k ok hk hki ?_ hno
   rcases Classical.em (j=k) with rfl|hjk
   ·exact hjun
   ·rw [getD_set_ne true hjk] at hun;exact hun
  ·rcases hS' with h|⟨rfl,hK⟩
   ·exact h w'
   ·exact h3.2.1 (HS hK hcl hr hj) hS
  ·rw [Array.setIfInBounds_comm _ _ hji];exact h3.2.2
end
inductive OT where
 | nil
 | q (i:Nat) (r:OT)
 | s (i:Nat) (r:OT)
 | l (i:Nat) (r:OT)
 | l2 (i:Nat) (r:OT) (j:Nat) (r':OT)
section
variable {ops:Array Oper} {Q:Exit→Act→World→Prop} {S:World→Prop} {K:List Nat}
def wt (ops:Array Oper) (Q:Exit→Act→World→Prop) (S:World→Prop) (K:List Nat):OT→Act→World→Prop
 | .nil,a,w=>Q .normal a w
 | .q i r,a,w=>∃ o v,ops[i]?=some o∧YieldsIf Tryz.prog ops (fun _=>True) o v a∧wt ops Q S K r (a.put o.dst v) w
 | .s i r,a,w=>∃ o v,ops[i]?=some o∧YieldsIf Tryz.prog ops S o v a∧S w∧wt ops Q S K r (a.put o.dst v) w
 | .l i r,a,w=>wpOp Tryz.prog ops Q i (fun a' w'=>(oP ops K i=false→S w→S w')∧wt ops Q S K r a' w') a w
 | .l2 i r j r',a,w=>wpOp Tryz.prog ops Q i (fun a' w'=>(oP ops K i=false→S w→S w')∧wt ops Q S K r a' w') a w∧wpOp Tryz.prog ops Q j (fun a' w'=>(oP ops K j=false→S w→S w')∧wt ops Q S K r' a' w') a w
def rm (ops:Array Oper) (K:List Nat):OT→Nat→Array Bool→Bool
 | .nil,0,listed=>(Region.ready .any ops listed).isEmpty
 | .q i r,f+1,listed=>Region.free .any ops listed i&&(Region.ready .any ops listed).contains i&&rm ops K r f (listed.setIfInBounds i true)
 | .s i r,f+1,listed=>K.contains i&&Region.free .any ops listed i&&(Region.ready .any ops listed).contains i&&rm ops K r f (listed.setIfInBounds i true)
 | .l i r,f+1,listed=>(Region.ready .any ops listed==[i])&&rm ops K r f (listed.setIfInBounds i true)
 | .l2 i r j r',f+1,listed=>(Region.ready .any ops listed==[i,j])&&rm ops K r f (listed.setIfInBounds i true)&&rm ops K r' f (listed.setIfInBounds j true)
 | _,_,_=>false
theorem HT (hsel:Region.noSelect ops=true) (hQ:∀ c a dst v w,Q (.panic c) (a.put dst v) w→Q (.panic c) a w) :
 ∀ (t:OT) (f:Nat) (listed:Array Bool) (a:Act) (w:World),gX ops listed→rm ops K t f listed=true→wt ops Q S K t a w→Nt ops Q S K f listed a w:=by
 have cl:∀ {listed:Array Bool} {i:Nat},gX ops listed→i∈Region.ready .any ops listed→gX ops (listed.setIfInBounds i true):=fun hc hi=>by
  obtain ⟨_,o',ho',hall⟩:=mem_ready.1 hi
  exact kF hc ho' hall
 intro t
 induction t with
 | nil=>intro f listed a w _ hok h;cases f with
  | zero=>exact ⟨by simpa [rm] using hok,h⟩
  | succ f=>cases hok
 | q i r ih=>intro f listed a w hcl hok h;cases f with
  | zero=>cases hok
  | succ f=>
   obtain ⟨o,v,ho,hy,h⟩:=h
   simp only [rm,Bool.and_eq_true] at hok
   obtain ⟨⟨hf,hr⟩,hok⟩:=hok
   have hr':i∈Region.ready .any ops listed:=by simpa using hr
   exact wF ho (Region.noSelect_spec hsel) (fun c a w=>hQ c a o.dst v w) (.inl fun _=>trivial) f listed a w hcl (Region.free_spec ho hf) hr' hy trivial (ih f _ _ w (cl hcl hr') hok h)
 | s i r ih=>intro f listed a w hcl hok h;cases f with
  | zero=>cases hok
  | succ f=>
   obtain ⟨o,v,ho,hy,hS,h⟩:=h
   simp only [rm,Bool.and_eq_true] at hok
   obtain ⟨⟨⟨hK,hf⟩,hr⟩,hok⟩:=hok
   have hr':i∈Region.ready .any ops listed:=by simpa using hr
   exact wF ho (Region.noSelect_spec hsel) (fun c a w=>hQ c a o.dst v w) (.inr ⟨rfl,by simpa using hK⟩) f listed a w hcl (Region.free_spec ho hf) hr' hy hS (ih f _ _ w (cl hcl hr') hok h)
 | l i r ih=>intro f listed a w hcl hok h;cases f with
  | zero=>cases hok
  | succ f=>
   simp only [rm,Bool.and_eq_true,beq_iff_eq] at hok
   obtain ⟨hr,hok⟩:=hok
   refine ⟨fun h0=>(by rw [hr] at h0;cases h0),fun j hj=>?_⟩
   have hcl2:=cl hcl hj
   rw [hr] at hj
   simp only [List.mem_singleton] at hj
   subst hj
   exact wpOp_mono (fun a' w' k=>⟨k.1,ih f _ a' w' hcl2 hok k.2⟩) h
 | l2 i r j r' ih1 ih2=>intro f listed a w hcl hok h;cases f with
  | zero=>cases hok
  | succ f=>
   simp only [rm,Bool.and_eq_true,beq_iff_eq] at hok
   obtain ⟨⟨hr,hok1⟩,hok2⟩:=hok
   refine ⟨fun h0=>(by rw [hr] at h0;cases h0),fun k hk=>?_⟩
   have hcl2:=cl hcl hk
   rw [hr] at hk
   simp only [List.mem_cons,List.not_mem_nil,or_false] at hk
   rcases hk with rfl|rfl
   ·exact wpOp_mono (fun a' w' k=>⟨k.1,ih1 f _ a' w' hcl2 hok1 k.2⟩) h.1
   ·exact wpOp_mono (fun a' w' k=>⟨k.1,ih2 f _ a' w' hcl2 hok2 k.2⟩) h.2
end
def WT (ops:Array Oper) (Q:Exit→Act→World→Prop) (S:World→Prop) (K:List Nat) (n:Nat) (ds:Md) (b:Bool) (t:OT) (e:Env) (w:World):Prop:=
 ∀ a,Fr n ds e a→(b=true→S w)→wt ops Q S K t a w
section
variable {ops:Array Oper} {Q:Exit→Act→World→Prop} {S:World→Prop} {K:List Nat} {n:Nat} {ds:Md} {e:Env} {w w':World} {b:Bool} {t t':OT}
variable {op:Op} {ty:TypeId} {pos:String} {af:Array Edge} {d i j:Nat} {v u:Value} {W0:World} {l l' r r':List ah}
theorem bH {id:Nat} {ol:List Oper} [hp:pV Q] [k8 Q] (l0:List ah) (K:List Nat) (t:OT) (hs:Sat W0 l w)
 (hok:(rm ol.toArray K t ol.length (Array.replicate ol.length false)&&Region.noSelect ol.toArray&&(ds.round.isNone||vZ ol))=true)
 (k:∀ w,Sat W0 l w→WT ol.toArray Q (Sat W0 l0) K n ds true t e w) (sub:kG l0 l:=by repeat (first|exact kG.refl|exact kG.nil|refine kG.cons (by repeat (first|exact Take.here|apply Take.there)) ?_|refine kG.skip ?_)):WC (.region id ol.toArray true) Q n ds e w:=fun a ha=>by
 simp only [Bool.and_eq_true] at hok
 obtain ⟨⟨h1,h3⟩,h4⟩:=hok
 refine wpIn_region_draw fun tt=>tn _ (by simpa using h4) _ _ _ ?_
 simp only [Region.schedule,mixed,Bool.true_or,if_true]
 refine wpAny_sound ol.toArray.size tt _ _ _ (yk (S:=Sat W0 l0) (K:=K) _ _ _ _ ?_)
 have hd:=hs.drew
 have e1:ol.toArray.size=ol.length:=by simp
 rw [e1]
 exact HT h3 hp.ind t ol.length _ a _ (fun j o ho hl=>by
  exfalso
  have hj:j<ol.length:=by have:=(Array.getElem?_eq_some_iff.1 ho).1;simpa using this
  simp [hj] at hl) h1 (k _ hd a ha fun _=>hd.sub sub)
theorem fA (k:WQ Q .normal n ds e w):WT ops Q S K n ds b .nil e w:=fun a ha _=>k a ha
theorem zP (ho:ops[i]?=some ⟨some d,op,ty,pos,af,none⟩) (h:∀ a w',Fr n ds e a→(execOp a.eval ⟨some d,op,ty,pos,af,none⟩).run Tryz.prog w'=.ok (.value v) w') (hd:Nat.blt d n=true)
 (k:WT ops Q S K n ds b t ((d,v)::e) w):WT ops Q S K n ds b (.q i t) e w:=fun a ha hS=>⟨_,v,ho,.inl ⟨rfl,fun w' _=>h a w' ha⟩,k _ (ha.put hd) hS⟩
theorem dN (ho:ops[i]?=some ⟨some d,op,ty,pos,af,none⟩) (hv:yv e op=some v) (hd:Nat.blt d n=true) (k:WT ops Q S K n ds b t ((d,v)::e) w):WT ops Q S K n ds b (.q i t) e w:=
 zP ho (fun _ _ ha=>nj ha hv) hd k
theorem nM {x:Int} (ho:ops[i]?=some ⟨some d,op,ty,pos,af,none⟩) (hv:yv e op=some (.int .i64 (IntKind.i64.wrap x))) (h1:-9223372036854775808≤x) (h2:x≤9223372036854775807) (hd:Nat.blt d n=true)
 (k:WT ops Q S K n ds b t ((d,.int .i64 x)::e) w):WT ops Q S K n ds b (.q i t) e w:=dN ho (by rw [hv,wrap_i64 h1 h2]) hd k
theorem HU {p:Prop} [Decidable p] (ho:ops[i]?=some ⟨some d,op,ty,pos,af,none⟩) (hv:yv e op=some (.bool (decide p))) (hp:p) (hd:Nat.blt d n=true) (k:WT ops Q S K n ds b t ((d,.bool true)::e) w):WT ops Q S K n ds b (.q i t) e w:=dN ho (by rw [hv];simp [hp]) hd k
theorem HV {p:Prop} [Decidable p] (ho:ops[i]?=some ⟨some d,op,ty,pos,af,none⟩) (hv:yv e op=some (.bool (decide p))) (hp:¬ p) (hd:Nat.blt d n=true) (k:WT ops Q S K n ds b t ((d,.bool false)::e) w):WT ops Q S K n ds b (.q i t) e w:=dN ho (by rw [hv];simp [hp]) hd k
theorem m9 {j:Nat} {g:Bool} (ho:ops[i]?=some ⟨some d,op,ty,pos,af,some (j,g)⟩) (h:gv ops e j=some g) (hv:yv e op=some v) (hd:Nat.blt d n=true) (k:WT ops Q S K n ds b t ((d,v)::e) w):WT ops Q S K n ds b (.q i t) e w:=fun a ha hS=>by
 have hy:=fg ha h
 exact ⟨_,v,ho,.inl ⟨by simp [Region.wanted,hy],fun w' _=>nj (o:=⟨some d,op,ty,pos,af,some (j,g)⟩) ha hv⟩,k _ (ha.put hd) hS⟩
theorem HW {j:Nat} {g:Bool} {x:Int} (ho:ops[i]?=some ⟨some d,op,ty,pos,af,some (j,g)⟩) (h:gv ops e j=some g) (hv:yv e op=some (.int .i64 (IntKind.i64.wrap x))) (h1:-9223372036854775808≤x) (h2:x≤9223372036854775807) (hd:Nat.blt d n=true)
 (k:WT ops Q S K n ds b t ((d,.int .i64 x)::e) w):WT ops Q S K n ds b (.q i t) e w:=m9 ho h (by rw [hv,wrap_i64 h1 h2]) hd k
theorem Nu {j:Nat} {g:Bool} (ho:ops[i]?=some ⟨some d,op,ty,pos,af,some (j,g)⟩) (hg:gv ops e j=some g) (h:∀ a w',Fr n ds e a→(execOp a.eval ⟨some d,op,ty,pos,af,some (j,g)⟩).run Tryz.prog w'=.ok (.value v) w') (hd:Nat.blt d n=true)
 (k:WT ops Q S K n ds b t ((d,v)::e) w):WT ops Q S K n ds b (.q i t) e w:=fun a ha hS=>by
 have hy:=fg ha hg
 exact ⟨_,v,ho,.inl ⟨by simp [Region.wanted,hy],fun w' _=>h a w' ha⟩,k _ (ha.put hd) hS⟩
theorem HX {j:Nat} {g g':Bool} (ho:ops[i]?=some ⟨some d,op,ty,pos,af,some (j,g')⟩) (h:gv ops e j=some g) (hne:g'=!g) (hd:Nat.blt d n=true) (k:WT ops Q S K n ds b t ((d,undef)::e) w):WT ops Q S K n ds b (.q i t) e w:=fun a ha hS=>by
 have hy:=fg ha h
 subst hne
 have:(some g==some (!g))=false:=by cases g<;>rfl
 exact ⟨_,undef,ho,.inr ⟨by simp [Region.wanted,hy,this],rfl⟩,k _ (ha.put hd) hS⟩
theorem B1 {j:Nat} {g g':Bool} (ho:ops[i]?=some ⟨some d,op,ty,pos,af,some (j,g')⟩) (h:gv ops e j=some g) (hne:g'=!g) (hd:Nat.blt d n=true) (k:WT ops Q S K n ds true t ((d,undef)::e) w):WT ops Q S K n ds true (.s i t) e w:=fun a ha hS=>by
 have hy:=fg ha h
 subst hne
 have:(some g==some (!g))=false:=by cases g<;>rfl
 exact ⟨_,undef,ho,.inr ⟨by simp [Region.wanted,hy,this],rfl⟩,hS rfl,k _ (ha.put hd) hS⟩
theorem Ea (ho:ops[i]?=some ⟨some d,op,ty,pos,af,none⟩) (h:∀ a w',Fr n ds e a→S w'→(execOp a.eval ⟨some d,op,ty,pos,af,none⟩).run Tryz.prog w'=.ok (.value v) w') (hd:Nat.blt d n=true)
 (k:WT ops Q S K n ds true t ((d,v)::e) w):WT ops Q S K n ds true (.s i t) e w:=fun a ha hS=>⟨_,v,ho,.inl ⟨rfl,fun w' hs=>h a w' ha hs⟩,hS rfl,k _ (ha.put hd) hS⟩
theorem Mf {j:Nat} {g:Bool} (ho:ops[i]?=some ⟨some d,op,ty,pos,af,some (j,g)⟩) (hg:gv ops e j=some g) (h:∀ a w',Fr n ds e a→S w'→(execOp a.eval ⟨some d,op,ty,pos,af,some (j,g)⟩).run Tryz.prog w'=.ok (.value v) w') (hd:Nat.blt d n=true)
 (k:WT ops Q S K n ds true t ((d,v)::e) w):WT ops Q S K n ds true (.s i t) e w:=fun a ha hS=>by
 have hy:=fg ha hg
 exact ⟨_,v,ho,.inl ⟨by simp [Region.wanted,hy],fun w' hs=>h a w' ha hs⟩,hS rfl,k _ (ha.put hd) hS⟩
theorem sk {x:Operand} {T bb o E:Nat} {sh:Bool} {cs:List Value} {l0:List ah} (ho:ops[i]?=some ⟨some d,.load T x,ty,pos,af,none⟩) (hx:ev e x=some (.pointer (some ⟨bb,o,none⟩))) (hT:lk kZ T=some false)
 (tk:Take (ob sh bb (.cells cs.toArray E (0,0))) l0 r) (hc:cs[o]?=some v) (hd:Nat.blt d n=true) (k:WT ops Q (Sat W0 l0) K n ds true t ((d,v)::e) w):WT ops Q (Sat W0 l0) K n ds true (.s i t) e w:=
 Ea ho (fun a w' ha hs=>by simp [execOp,ha.ev hx,Instr.loadAt,Instr.sureAddr,cK hT ((hs.cell tk o).trans hc)]) hd k
theorem nN {x:Operand} {T bb o E j:Nat} {g sh:Bool} {cs:List Value} {l0:List ah} (ho:ops[i]?=some ⟨some d,.load T x,ty,pos,af,some (j,g)⟩) (hg:gv ops e j=some g) (hx:ev e x=some (.pointer (some ⟨bb,o,none⟩))) (hT:lk kZ T=some false)
 (tk:Take (ob sh bb (.cells cs.toArray E (0,0))) l0 r) (hc:cs[o]?=some v) (hd:Nat.blt d n=true) (k:WT ops Q (Sat W0 l0) K n ds true t ((d,v)::e) w):WT ops Q (Sat W0 l0) K n ds true (.s i t) e w:=
 Mf ho hg (fun a w' ha hs=>by simp [execOp,ha.ev hx,Instr.loadAt,Instr.sureAddr,cK hT ((hs.cell tk o).trans hc)]) hd k
theorem B2 (vs:List Value) {x:Operand} {T bb o E:Nat} {sh:Bool} {cs:List Value} {l0:List ah} (ho:ops[i]?=some ⟨some d,.load T x,ty,pos,af,none⟩) (hx:ev e x=some (.pointer (some ⟨bb,o,none⟩))) (hT:lk kZ T=some true) (hz:lk df T=some vs.length)
 (tk:Take (ob sh bb (.cells cs.toArray E (0,0))) l0 r) (hc:gh cs o vs) (hd:Nat.blt d n=true) (k:WT ops Q (Sat W0 l0) K n ds true t ((d,.agg vs.toArray)::e) w):WT ops Q (Sat W0 l0) K n ds true (.s i t) e w:=
 Ea ho (fun a w' ha hs=>by simp [execOp,ha.ev hx,Instr.loadAt,Instr.sureAddr,iR hT hz (hs.cell tk) hc]) hd k
theorem Eb {x y:Operand} {tt E k bb o len c j:Nat} {Y:Int} {a:Act} {ww:World} {g:Option (Nat×Bool)} (ha:Fr n ds e a) (hx:ev e x=some (.slice (some ⟨bb,o,none⟩) len c)) (hy:ev e y=some (.int .i64 Y)) (hY:Y=(j:Int)) (ht:lk dy tt=some E) (hsz:lk df E=some k) (h1:j<len) :
 (execOp a.eval ⟨some d,.indexAddr tt x y,ty,pos,af,g⟩).run Tryz.prog ww=.ok (.value (.pointer (some ⟨bb,o+j*k,none⟩))) ww:=by
 subst hY
 have h0:(0:Int)≤(j:Int):=by omega
 have h1':(j:Int)<(len:Int):=by omega
 have h3:¬ len≤j:=by omega
 simp [execOp,ha.ev hx,ha.ev hy,Instr.indexAt,asIntOf,cB (bX ht),dq hsz,h0,h1',h3,add_eq]
theorem fI {x y:Operand} {tt E k bb o len c j:Nat} {Y:Int} (ho:ops[i]?=some ⟨some d,.indexAddr tt x y,ty,pos,af,none⟩) (hx:ev e x=some (.slice (some ⟨bb,o,none⟩) len c)) (hy:ev e y=some (.int .i64 Y)) (hY:Y=(j:Int)) (ht:lk dy tt=some E) (hsz:lk df E=some k)
 (h1:j<len) (hd:Nat.blt d n=true) (kk:WT ops Q S K n ds b t ((d,.pointer (some ⟨bb,o+j*k,none⟩))::e) w):WT ops Q S K n ds b (.q i t) e w:=
 zP ho (fun _ _ ha=>Eb ha hx hy hY ht hsz h1) hd kk
theorem rn {x y:Operand} {tt E k bb o len c j jg:Nat} {g:Bool} {Y:Int} (ho:ops[i]?=some ⟨some d,.indexAddr tt x y,ty,pos,af,some (jg,g)⟩) (hg:gv ops e jg=some g) (hx:ev e x=some (.slice (some ⟨bb,o,none⟩) len c)) (hy:ev e y=some (.int .i64 Y)) (hY:Y=(j:Int)) (ht:lk dy tt=some E) (hsz:lk df E=some k)
 (h1:j<len) (hd:Nat.blt d n=true) (kk:WT ops Q S K n ds b t ((d,.pointer (some ⟨bb,o+j*k,none⟩))::e) w):WT ops Q S K n ds b (.q i t) e w:=
 Nu ho hg (fun _ _ ha=>Eb ha hx hy hY ht hsz h1) hd kk
theorem B3 {x:Operand} {lo hi:Option Operand} {tt E k bb o len cap:Nat} (l' h':Nat) (ho:ops[i]?=some ⟨some d,.slice tt x lo hi none,ty,pos,af,none⟩) (hx:ev e x=some (.slice (some ⟨bb,o,none⟩) len cap)) (ht:lk dy tt=some E) (hsz:lk df E=some k)
 (hlo:match lo with|none=>l'=0|some y=>ev e y=some (.int .i64 (l':Int))) (hhi:match hi with|none=>h'=len|some y=>ev e y=some (.int .i64 (h':Int)))
 (h1:l'≤h') (h2:h'≤cap) (hd:Nat.blt d n=true) (kk:WT ops Q S K n ds b t ((d,.slice (some (cutAt bb o cap l' k)) (h'-l') (cap-l'))::e) w):WT ops Q S K n ds b (.q i t) e w:=
 zP ho (fun a w' ha=>D7 l' h' ha hx ht hsz (by cases lo<;>exact hlo) (by cases hi<;>exact hhi) h1 h2) hd kk
abbrev wG (ops:Array Oper) (Q:Exit→Act→World→Prop) (S:World→Prop) (K:List Nat) (i:Nat) (t:OT) (w0:World):Exit→Act→World→Prop:=Exit.then (fun a w=>(oP ops K i=false→S w0→S w)∧wt ops Q S K t a w) Q
theorem yl {o:Oper} (ho:ops[i]?=some o) {a:Act} (ha:Fr n ds e a) (k:WL ops (wG ops Q S K i t w) n ds [o] e w):wpOp Tryz.prog ops Q i (fun a' w'=>(oP ops K i=false→S w→S w')∧wt ops Q S K t a' w') a w:=by
 have h:=k a ha
 simp only [wpList] at h
 unfold wpOp
 simp only [ho]
 split at h
 ·rename_i hw
  rw [if_pos hw]
  rcases h with h|⟨h1,a1,w1,h2⟩
  ·exact .inl (tI (fun _ _ _ h=>h) (fun _ _ h=>h) h)
  ·exact .inr ⟨h1,a1,w1,h2⟩
 ·rename_i hw
  rw [if_neg hw]
  exact h
theorem hJ {o:Oper} (ho:ops[i]?=some o) (k:WL ops (wG ops Q S K i t w) n ds [o] e w):WT ops Q S K n ds b (.l i t) e w:=fun a ha _=>yl ho ha k
theorem zQ {o o':Oper} (ho:ops[i]?=some o) (ho':ops[j]?=some o') (k:WL ops (wG ops Q S K i t w) n ds [o] e w) (k':WL ops (wG ops Q S K j t' w) n ds [o'] e w):WT ops Q S K n ds b (.l2 i t j t') e w:=fun a ha _=>⟨yl ho ha k,yl ho' ha k'⟩
theorem cX {w0:World} (hS:S w) (k:WT ops Q S K n ds true t e w):WQ (wG ops Q S K i t w0) .normal n ds e w:=fun a ha=>⟨fun _ _=>hS,k a ha fun _=>hS⟩
theorem cA {w0:World} (hd:oP ops K i=true) (k:WT ops Q S K n ds false t e w):WQ (wG ops Q S K i t w0) .normal n ds e w:=fun a ha=>⟨fun h=>(by rw [hd] at h;cases h),k a ha fun h=>by cases h⟩
end
attribute [irreducible] WT
end
theorem wH {G G':Prop} (k:G') (h:xV G'→G:=by
 (intro k
  repeat (first
   | refine nM rfl rfl (by omega) (by omega) rfl ?_
   | refine HU rfl rfl (by first|assumption|omega) rfl ?_
   | refine HV rfl rfl (by first|assumption|omega) rfl ?_
   | refine dN rfl rfl rfl ?_
   | refine HW rfl rfl rfl (by omega) (by omega) rfl ?_
   | refine m9 rfl rfl rfl rfl ?_
   | refine HX rfl rfl rfl rfl ?_
   | refine B1 rfl rfl rfl rfl ?_
   | refine sk rfl rfl rfl (by repeat (first|exact Take.here|apply Take.there)) (by rfl) rfl ?_
   | refine nN rfl rfl rfl rfl (by repeat (first|exact Take.here|apply Take.there)) (by rfl) rfl ?_)
  exact k.out)):G:=h ⟨k⟩
section
open Go.Proofs.YtecibefflhomdaaGreatDoor.Pure (ad az Rd bI less aQ aZ)
structure cD where
 name:Bs
 first:Bs
 last:Bs
 count:Nat
 blocks:List (Bs×Nat×Nat)
deriving DecidableEq
def gW:Nat:=1099511627776
theorem bJ:gW=1099511627776:=rfl
attribute [irreducible] gW
def eE:Nat→Rd→List az×Bool
 | 0,r=>([],r.bad)
 | f+1,r=>if r.rest≠[]∧r.bad=false then (r.entry.1::(eE f r.entry.2).1,(eE f r.entry.2).2) else ([],r.bad)
def rp (nm bs:Bs):Option (Except cy (List az)):=match bI bs with
 | none=>some (.error (some nm,7))
 | some z=>if bs.length≤gW then (if (eE z.1.length ⟨z.1,false⟩).2=true then some (.error (some nm,7)) else some (.ok (eE z.1.length ⟨z.1,false⟩).1)) else none
def oQ (D:ad) (T:cD) (i:Nat):Option (Except cy (List az)×ad):=match T.blocks[i]? with
 | none=>none
 | some b=>match bz D T.name with
  | some e=>some (.error e,(counted D b.2.2).tick)
  | none=>(rp T.name (iC D T.name b.2.1 b.2.2)).map fun x=>(x,(counted D b.2.2).tick)
def zR (key:Bs):List (Bs×Nat×Nat)→Nat
 | []=>0
 | b::r=>if aQ key b.1=true then 0 else zR key r+1
def j4 (T:cD) (key:Bs):Nat:=zR key (T.blocks.drop 1)
def l6 (T:cD) (key:Bs):Nat→ad→Nat→List az→Option (Except cy (Option az×Nat×List az)×ad)
 | 0,_,_,_=>none
 | f+1,D,i,[]=>if i=T.blocks.length then some (.ok (none,i,[]),D) else match oQ D T i with
  | none=>none
  | some (.error e,D')=>some (.error e,D')
  | some (.ok b,D')=>l6 T key f D' (i+1) b
 | f+1,D,i,e::l=>if aQ e.key key=true then l6 T key f D i l else some (.ok (some e,i,l),D)
def l7 (key:Bs) (seq:Nat) (l:List az):Option az:=l.find? fun e=>decide (e.key=key)&&decide (e.seq≤seq)
def um (D:ad) (T:cD) (key:Bs) (seq:Nat):Option (Except cy (Option az)×ad):=
 if aQ key T.first=true∨aQ T.last key=true then some (.ok none,D) else match oQ D T (j4 T key) with
  | none=>none
  | some (.error e,D')=>some (.error e,D')
  | some (.ok l,D')=>some (.ok (l7 key seq l),D')
def qo (M:List az) (key:Bs) (seq:Nat):Option az:=match M[aZ M ⟨key,[],false,seq⟩]? with
 | some e=>if e.key=key then some e else none
 | none=>none
inductive It where
 | mem (i:Nat)
 | Ec (T:cD) (key:Bs) (i:Nat) (l:List az)
def aG:Nat:=18446744073709551615
def iq (M:List az) (key:Bs):It:=.mem (aZ M ⟨key,[],false,aG⟩)
def eF (T:cD) (key:Bs):It:=.Ec T key (j4 T key) []
def nc (M:List az) (D:ad):It→Option (Except cy (Option az×It)×ad)
 | .mem i=>match M[i]? with
  | none=>some (.ok (none,.mem i),D)
  | some e=>some (.ok (some e,.mem (i+1)),D)
 | .Ec T key i l=>match l6 T key gW D i l with
  | none=>none
  | some (.error e,D')=>some (.error e,D')
  | some (.ok (x,i',l'),D')=>some (.ok (x,.Ec T key i' l'),D')
structure Mg where
 started:Bool
 rows:List It
 heads:List (az×It)
def lF (M:List az):List It→List (az×It)→ad→Option (Except cy (List (az×It))×ad)
 | [],acc,D=>some (.ok acc,D)
 | it::r,acc,D=>match nc M D it with
  | none=>none
  | some (.error e,D')=>some (.error e,D')
  | some (.ok (none,_),D')=>lF M r acc D'
  | some (.ok (some e,it'),D')=>lF M r (acc++[(e,it')]) D'
def gF (hs:List az) (n:Nat):Nat:=(List.range n).foldl (fun best i=>if less (hs.getD i default) (hs.getD best default)=true then i else best) 0
def ym (M:List az) (D:ad) (g:Mg):Option (Except cy (List (az×It))×ad):=
 if g.started=true then some (.ok g.heads,D) else if g.rows.length≤gW then lF M g.rows g.heads D else none
def HY (M:List az) (D:ad) (rows:List It) (hs:List (az×It)):Option (Except cy (Option az×Mg)×ad):=
 match hs[gF (hs.map (·.1)) hs.length]? with
 | none=>some (.ok (none,⟨true,rows,hs⟩),D)
 | some h=>match nc M D h.2 with
  | none=>none
  | some (.error e,D')=>some (.error e,D')
  | some (.ok (none,_),D')=>some (.ok (some h.1,⟨true,rows,hs.eraseIdx (gF (hs.map (·.1)) hs.length)⟩),D')
  | some (.ok (some e,it'),D')=>some (.ok (some h.1,⟨true,rows,hs.set (gF (hs.map (·.1)) hs.length) (e,it')⟩),D')
def zS (M:List az) (D:ad) (g:Mg):Option (Except cy (Option az×Mg)×ad):=match ym M D g with
 | none=>none
 | some (.error e,D')=>some (.error e,D')
 | some (.ok hs,D')=>HY M D' g.rows hs
inductive Nx where
 | one (it:It)
 | mg (g:Mg)
def so (M:List az) (D:ad):Nx→Option (Except cy (Option az×Nx)×ad)
 | .one it=>(nc M D it).map fun x=>(x.1.map fun y=>(y.1,.one y.2),x.2)
 | .mg g=>(zS M D g).map fun x=>(x.1.map fun y=>(y.1,.mg y.2),x.2)
def oR {σ:Type} (M:List az) (body:σ→az→Option (σ×Bool)):Nat→Nx→ad→σ→Option (σ×Option cy×ad)
 | 0,_,_,_=>none
 | f+1,n,D,s=>match so M D n with
  | none=>none
  | some (.error e,D')=>some (s,some e,D')
  | some (.ok (none,_),D')=>some (s,none,D')
  | some (.ok (some e,n'),D')=>match body s e with
   | none=>none
   | some (s',true)=>oR M body f n' D' s'
   | some (s',false)=>some (s',none,D')
end
section
open Go.Proofs.YtecibefflhomdaaGreatDoor.Pure (ad az Rd bI less aQ aZ)
attribute [local irreducible] IntKind.wrap
def sU (b:Bs×Nat×Nat):List Value:=[str b.1,.int .i64 (b.2.1:Int),.int .i64 (b.2.2:Int)]
def cM (l:List (Bs×Nat×Nat)):List (List Value):=l.map sU
theorem qp (l:List (Bs×Nat×Nat)):∀ r∈cM l,r.length=3:=fun r hr=>by obtain ⟨e,_,rfl⟩:=List.mem_map.1 hr;rfl
structure zT (T:cD):Prop where
 len:T.blocks.length≤1099511627776
 count:T.count≤4611686018427387904
 nums:∀ b∈T.blocks,b.2.1≤4611686018427387904∧b.2.2≤4611686018427387904
def cG (d p:Nat) (T:cD):ah:=fun h=>zT T∧∃ bv,cV [sT p 200 [str T.name,str T.first,str T.last,.int .i64 (T.count:Int),au d,bv],jm 3 bv (cM T.blocks)] h
theorem qt (d p:Nat) (T:cD):GU (cG d p T):=fun h ⟨h1,bv,k⟩=>⟨h1,bv,uk (l:=[sT p 200 [str T.name,str T.first,str T.last,.int .i64 (T.count:Int),au d,bv],jm 3 bv (cM T.blocks)]) (fun A hA=>by
 simp at hA;rcases hA with rfl|rfl
 ·exact L9 _ _
 ·exact D9 _ _ _) h k⟩
variable {W0 w:World} {F:List ah} {v:Value} {d p:Nat} {T:cD} {D:ad}
theorem Sat.Ed (h:Sat W0 (cG d p T::F) w):zT T:=h.fQ fun _ k=>k.1
theorem Sat.lr (h:Sat W0 (cG d p T::F) w):∃ bv,Sat W0 (sT p 200 [str T.name,str T.first,str T.last,.int .i64 (T.count:Int),au d,bv]::jm 3 bv (cM T.blocks)::cG d p T::F) w:=by
 obtain ⟨bv,_,hs⟩:=(h.qm (qt d p T)).eI (φ:=fun _:Value=>True) (B:=fun bv=>[sT p 200 [str T.name,str T.first,str T.last,.int .i64 (T.count:Int),au d,bv],jm 3 bv (cM T.blocks)]) fun hp ⟨_,bv,k⟩=>⟨bv,trivial,k⟩
 exact ⟨bv,hs⟩
theorem Ee (key:Bs):∀ l:List (Bs×Nat×Nat),zR key l≤l.length
 | []=>Nat.le_refl _
 | b::r=>by unfold zR;have:=Ee key r;split<;>simp<;>omega
theorem uo {key:Bs} (hs:Sat W0 (cG d p T::F) w):Calls Tryz.prog 229 #[au p,str key] w fun x w'=>x=.returned (.int .i64 (j4 T key:Int))∧Sat W0 (cG d p T::F) w':=by
 have hok:=hs.Ed
 obtain ⟨bv,hs⟩:=hs.lr
 obtain ⟨a,c,rfl,hc⟩:=(hs.take (.there .here)).iw
 have hlen:(cM T.blocks).length=T.blocks.length:=by simp [cM]
 rw [hlen] at hs
 have hl:=hok.len
 refine enter Tryz.func229 rfl Tryz.ntmps229 Tryz.results229 rfl ?_
 refine go ?_
 refine aL (α:=Nat) (fun i=>[(0,au p),(1,str key),(5,.int .i64 (i:Int))])
  (fun i w=>(i≤T.blocks.length∧i+zR key (T.blocks.drop (i+1))=j4 T key)∧Sat W0 (sT p 200 [str T.name,str T.first,str T.last,.int .i64 (T.count:Int),au d,.slice a T.blocks.length c]::jm 3 (.slice a T.blocks.length c) (cM T.blocks)::cG d p T::F) w) (fun i=>T.blocks.length-i) 0 ⟨rfl,rfl,rfl,trivial⟩ ⟨⟨Nat.zero_le _,by simp [j4]⟩,hs⟩ ?_
 clear hs
 rintro i w ⟨⟨hi,hrun⟩,hs⟩
 by_cases hlt:i+1<T.blocks.length
 ·have hg:T.blocks[i+1]?=some T.blocks[i+1]:=List.getElem?_eq_getElem hlt
  obtain ⟨z,⟨hv,hzc,hseg⟩,hs2⟩:=(hs.take (.there .here)).mK (by intro h;simp [cM] at h;rw [h] at hlt;simp at hlt)
  obtain ⟨rfl,_,rfl⟩:=Value.slice.inj hv
  have hrow:=hseg.row (i:=i+1) (x:=sU T.blocks[i+1]) (qp _) (by simp [cM,hg])
  have hcell:=hrow.1
  have hdrop:T.blocks.drop (i+1)=T.blocks[i+1]::T.blocks.drop (i+1+1):=List.drop_eq_getElem_cons hlt
  rw [hdrop] at hrun
  unfold zR at hrun
  refine go ?_
  refine cL (i:=i+1) rfl rfl (by omega) rfl rfl hlt rfl ?_
  refine go ?_
  refine eC hs2 rfl rfl .here hcell rfl ?_
  cases hb:aQ key T.blocks[i+1].1 with
  | true=>
   rw [hb,if_pos rfl,Nat.add_zero] at hrun
   have hbb:=hb
   rw [gZ] at hbb
   have hnb:(!o8 key T.blocks[i+1].1)=false:=by rw [hbb];rfl
   refine go ?_
   exact ak rfl ⟨by rw [← hrun];rfl,hs.to⟩
  | false=>
   rw [hb,if_neg (by simp)] at hrun
   have hbb:=hb
   rw [gZ] at hbb
   have hnb:(!o8 key T.blocks[i+1].1)=true:=by rw [hbb];rfl
   refine go ?_
   exact aB (i+1) ⟨rfl,rfl,rfl,trivial⟩ ⟨⟨by omega,by omega⟩,hs⟩ (by omega)
 ·have hd0:T.blocks.drop (i+1)=[]:=List.drop_of_length_le (by omega)
  rw [hd0] at hrun
  refine go ?_
  exact ak rfl ⟨by rw [← hrun];rfl,hs.to⟩
theorem Sat.Nv {nm:Bs} {k:Nat} {b:Nat} (hs:Sat W0 (blk b 251 [str nm,.int .i64 (k:Int)]::F) w):Sat W0 (ax (.iface 249 (.pointer (some ⟨b,0,none⟩))) (some (some nm,k))::F) w:=
 hs.share.head fun _ k=>⟨b,rfl,k⟩
theorem dY {nm:Bs} (hs:Sat W0 F w):Calls Tryz.prog 166 #[str nm] w fun x w'=>∃ ve,x=.returned ve∧Sat W0 (ax ve (some (some nm,7))::F) w':=by
 refine enter Tryz.func166 rfl Tryz.ntmps166 Tryz.results166 rfl ?_
 refine go ?_
 refine bA [str nm,.int .i64 7] ?_
 refine cE hs fun w b hs=>?_
 refine go ?_
 exact ak rfl ⟨_,rfl,(hs.Nv (k:=7)).to⟩
theorem uq:∀ (f:Nat) (r:Rd),(eE f r).1.length≤f
 | 0,_=>Nat.le_refl _
 | f+1,r=>by unfold eE;split<;>simp [uq f]
end
end Go.Proofs.YtecibefflhomdaaGreatDoor
