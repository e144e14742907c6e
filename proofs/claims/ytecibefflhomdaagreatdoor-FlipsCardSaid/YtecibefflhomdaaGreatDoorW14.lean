/-
  Part 14: The engine 23 drawn regions once more; The engine 24 'got'; THE MIRROR, PART 1 tables that are read; WALKS package table.
-/
import Derived.Test.YtecibefflhomdaaGreatDoorW13
set_option maxHeartbeats 8000000
set_option maxRecDepth 100000
set_option linter.all false
namespace Go.Proofs.YtecibefflhomdaaGreatDoor
open Go
section
attribute [local semireducible] WL WC WQ
def oJ (ops:Array Oper) (K:List Nat) (i:Nat):Bool:=K.all fun k=>xL ops i k
section
variable {ops:Array Oper} {Q:Exit→Act→World→Prop} {S:World→Prop} {K:List Nat}
def MV (ops:Array Oper) (Q:Exit→Act→World→Prop) (S:World→Prop) (K:List Nat):Nat→Array Bool→Act→World→Prop
 | 0,listed,a,w=>Region.ready .any ops listed=[]∧Q .normal a w
 | fuel+1,listed,a,w=>
  (Region.ready .any ops listed=[]→Q .normal a w) ∧
  ∀ i∈Region.ready .any ops listed,wpOp Tryz.prog ops Q i (fun a' w'=>(oJ ops K i=false→S w→S w')∧MV ops Q S K fuel (listed.setIfInBounds i true) a' w') a w
theorem ya:∀ (fuel:Nat) (listed:Array Bool) (a:Act) (w:World),MV ops Q S K fuel listed a w→wpAny Tryz.prog .any ops Q fuel listed a w
 | 0,_,_,_,h=>h
 | fuel+1,_,_,_,h=>⟨h.1,fun i hi=>wpOp_mono (fun a' w' k=>ya fuel _ a' w' k.2) (h.2 i hi)⟩
theorem Hu {i j:Nat} {listed:Array Bool} (hK:i∈K) (hc:gQ ops listed) (hi:i∈Region.ready .any ops listed) (hj:j∈Region.ready .any ops listed):oJ ops K j=false:=by
 cases h:oJ ops K j with
 | false=>rfl
 | true=>
  exfalso
  unfold oJ at h
  have h1:=List.all_eq_true.1 h i hK
  obtain ⟨hjun,o,ho,hall⟩:=mem_ready.1 hj
  have hl:=pN hc ho (fun e he hb=>hall e he hb) h1
  have hu:=(mem_ready.1 hi).1
  have hsz:i<listed.size:=by
   rcases Nat.lt_or_ge i listed.size with h|h
   ·exact h
   ·simp [Array.getElem?_eq_none h] at hl
  simp [hsz] at hl hu
  rw [hl] at hu;cases hu
theorem E8 {i:Nat} {listed:Array Bool} {oj:Oper} (hr:i∈Region.ready .any ops listed) (hall:∀ e∈oj.after,Region.binds .any e=true→listed.getD e.on false=true):∀ e∈oj.after,Region.binds .any e=true→e.on≠i:=fun e he hb heq=>by
 have h1:=hall e he hb
 have h0:=(mem_ready.1 hr).1
 rw [heq] at h1
 have hsz:i<listed.size:=by
  rcases Nat.lt_or_ge i listed.size with h|h
  ·exact h
  ·simp [Array.getElem?_eq_none h] at h1
 simp [hsz] at h0 h1
 rw [h0] at h1;cases h1
theorem wu {i:Nat} {oi:Oper} {v:Value} {S':World→Prop} (hi:ops[i]?=some oi) (hsel:∀ (j:Nat) (o:Oper) cs b,ops[j]?=some o→o.op≠.select cs b)
 (hQ:∀ c a w,Q (.panic c) (a.put oi.dst v) w→Q (.panic c) a w) (hS':(∀ w,S' w)∨(S'=S∧i∈K)):∀ (fuel:Nat) (listed:Array Bool) (a:Act) (w:World),gQ ops listed →
  (∀ j oj,ops[j]?=some oj→j≠i→listed.getD j true=false→(∀ e∈oj.after,Region.binds .any e=true→e.on≠i)→oi.apart ops oj=true) →
  i∈Region.ready .any ops listed→YieldsIf Tryz.prog ops S' oi v a→S' w →
  MV ops Q S K fuel (listed.setIfInBounds i true) (a.put oi.dst v) w→MV ops Q S K (fuel+1) listed a w:=by
 intro fuel
 induction fuel with
 | zero=>
  intro listed a w _ _ hr hy hS H
  refine ⟨fun h=>(by rw [h] at hr;cases hr),fun j hj=>?_⟩
  rcases Classical.em (j=i) with rfl|hji
  ·exact hy.wpOp hi hS ⟨fun _ h=>h,H⟩
  ·have:=ready_mono hj hji
   rw [H.1] at this;cases this
 | succ fuel ih=>
  intro listed a w hcl hfree hr hy hS H
  refine ⟨fun h=>(by rw [h] at hr;cases hr),fun j hj=>?_⟩
  rcases Classical.em (j=i) with rfl|hji
  ·exact hy.wpOp hi hS ⟨fun _ h=>h,H⟩
  obtain ⟨hjun,oj,hoj,hall⟩:=mem_ready.1 hj
  have hnot:=E8 hr hall
  have h2:=wpOp_putIf hoj (hfree j oj hoj hji hjun hnot) (fun cs b=>hsel i oi cs b hi) (fun cs b=>hsel j oj cs b hoj) hQ hy (H.2 j (ready_mono hj hji))
  refine wpOp_mono (fun a' w' h3=>⟨h3.2.1,ih _ a' w' (kv hcl hoj hall) (fun k ok hk hki hun hno=>?_) (ready_mono hr (Ne.symm hji)) h3.1 ?_ ?_⟩) h2
  ·refine hfree k ok hk hki ?_ hno
   rcases Classical.em (j=k) with rfl|hjk
   ·exact hjun
   ·rw [getD_set_ne true hjk] at hun;exact hun
  ·rcases hS' with h|⟨rfl,hK⟩
   ·exact h w'
   ·exact h3.2.1 (Hu hK hcl hr hj) hS
  ·rw [Array.setIfInBounds_comm _ _ hji];exact h3.2.2
end
inductive OT where
 | nil
 | q (i:Nat) (r:OT)
 | s (i:Nat) (r:OT)
 | l (i:Nat) (r:OT)
 | l2 (i:Nat) (r:OT) (j:Nat) (r':OT)
section
variable {ops:Array Oper} {Q:Exit→Act→World→Prop} {S:World→Prop} {K:List Nat}
def wt (ops:Array Oper) (Q:Exit→Act→World→Prop) (S:World→Prop) (K:List Nat):OT→Act→World→Prop
 | .nil,a,w=>Q .normal a w
 | .q i r,a,w=>∃ o v,ops[i]?=some o∧YieldsIf Tryz.prog ops (fun _=>True) o v a∧wt ops Q S K r (a.put o.dst v) w
 | .s i r,a,w=>∃ o v,ops[i]?=some o∧YieldsIf Tryz.prog ops S o v a∧S w∧wt ops Q S K r (a.put o.dst v) w
 | .l i r,a,w=>wpOp Tryz.prog ops Q i (fun a' w'=>(oJ ops K i=false→S w→S w')∧wt ops Q S K r a' w') a w
 | .l2 i r j r',a,w=>wpOp Tryz.prog ops Q i (fun a' w'=>(oJ ops K i=false→S w→S w')∧wt ops Q S K r a' w') a w∧wpOp Tryz.prog ops Q j (fun a' w'=>(oJ ops K j=false→S w→S w')∧wt ops Q S K r' a' w') a w
def rj (ops:Array Oper) (K:List Nat):OT→Nat→Array Bool→Bool
 | .nil,0,listed=>(Region.ready .any ops listed).isEmpty
 | .q i r,f+1,listed=>Region.free .any ops listed i&&(Region.ready .any ops listed).contains i&&rj ops K r f (listed.setIfInBounds i true)
 | .s i r,f+1,listed=>K.contains i&&Region.free .any ops listed i&&(Region.ready .any ops listed).contains i&&rj ops K r f (listed.setIfInBounds i true)
 | .l i r,f+1,listed=>(Region.ready .any ops listed==[i])&&rj ops K r f (listed.setIfInBounds i true)
 | .l2 i r j r',f+1,listed=>(Region.ready .any ops listed==[i,j])&&rj ops K r f (listed.setIfInBounds i true)&&rj ops K r' f (listed.setIfInBounds j true)
 | _,_,_=>false
theorem Hv (hsel:Region.noSelect ops=true) (hQ:∀ c a dst v w,Q (.panic c) (a.put dst v) w→Q (.panic c) a w) :
 ∀ (t:OT) (f:Nat) (listed:Array Bool) (a:Act) (w:World),gQ ops listed→rj ops K t f listed=true→wt ops Q S K t a w→MV ops Q S K f listed a w:=by
 have cl:∀ {listed:Array Bool} {i:Nat},gQ ops listed→i∈Region.ready .any ops listed→gQ ops (listed.setIfInBounds i true):=fun hc hi=>by
  obtain ⟨_,o',ho',hall⟩:=mem_ready.1 hi
  exact kv hc ho' hall
 intro t
 induction t with
 | nil=>intro f listed a w _ hok h;cases f with
  | zero=>exact ⟨by simpa [rj] using hok,h⟩
  | succ f=>cases hok
 | q i r ih=>intro f listed a w hcl hok h;cases f with
  | zero=>cases hok
  | succ f=>
   obtain ⟨o,v,ho,hy,h⟩:=h
   simp only [rj,Bool.and_eq_true] at hok
   obtain ⟨⟨hf,hr⟩,hok⟩:=hok
   have hr':i∈Region.ready .any ops listed:=by simpa using hr
   exact wu ho (Region.noSelect_spec hsel) (fun c a w=>hQ c a o.dst v w) (.inl fun _=>trivial) f listed a w hcl (Region.free_spec ho hf) hr' hy trivial (ih f _ _ w (cl hcl hr') hok h)
 | s i r ih=>intro f listed a w hcl hok h;cases f with
  | zero=>cases hok
  | succ f=>
   obtain ⟨o,v,ho,hy,hS,h⟩:=h
   simp only [rj,Bool.and_eq_true] at hok
   obtain ⟨⟨⟨hK,hf⟩,hr⟩,hok⟩:=hok
   have hr':i∈Region.ready .any ops listed:=by simpa using hr
   exact wu ho (Region.noSelect_spec hsel) (fun c a w=>hQ c a o.dst v w) (.inr ⟨rfl,by simpa using hK⟩) f listed a w hcl (Region.free_spec ho hf) hr' hy hS (ih f _ _ w (cl hcl hr') hok h)
 | l i r ih=>intro f listed a w hcl hok h;cases f with
  | zero=>cases hok
  | succ f=>
   simp only [rj,Bool.and_eq_true,beq_iff_eq] at hok
   obtain ⟨hr,hok⟩:=hok
   refine ⟨fun h0=>(by rw [hr] at h0;cases h0),fun j hj=>?_⟩
   have hcl2:=cl hcl hj
   rw [hr] at hj
   simp only [List.mem_singleton] at hj
   subst hj
   exact wpOp_mono (fun a' w' k=>⟨k.1,ih f _ a' w' hcl2 hok k.2⟩) h
 | l2 i r j r' ih1 ih2=>intro f listed a w hcl hok h;cases f with
  | zero=>cases hok
  | succ f=>
   simp only [rj,Bool.and_eq_true,beq_iff_eq] at hok
   obtain ⟨⟨hr,hok1⟩,hok2⟩:=hok
   refine ⟨fun h0=>(by rw [hr] at h0;cases h0),fun k hk=>?_⟩
   have hcl2:=cl hcl hk
   rw [hr] at hk
   simp only [List.mem_cons,List.not_mem_nil,or_false] at hk
   rcases hk with rfl|rfl
   ·exact wpOp_mono (fun a' w' k=>⟨k.1,ih1 f _ a' w' hcl2 hok1 k.2⟩) h.1
   ·exact wpOp_mono (fun a' w' k=>⟨k.1,ih2 f _ a' w' hcl2 hok2 k.2⟩) h.2
end
def WT (ops:Array Oper) (Q:Exit→Act→World→Prop) (S:World→Prop) (K:List Nat) (n:Nat) (ds:Md) (b:Bool) (t:OT) (e:Env) (w:World):Prop:=
 ∀ a,Fr n ds e a→(b=true→S w)→wt ops Q S K t a w
section
variable {ops:Array Oper} {Q:Exit→Act→World→Prop} {S:World→Prop} {K:List Nat} {n:Nat} {ds:Md} {e:Env} {w w':World} {b:Bool} {t t':OT}
variable {op:Op} {ty:TypeId} {pos:String} {af:Array Edge} {d i j:Nat} {v u:Value} {W0:World} {l l' r r':List ah}
theorem cx {id:Nat} {ol:List Oper} [hp:pO Q] [kT Q] (l0:List ah) (K:List Nat) (t:OT) (hs:Sat W0 l w)
 (hok:(rj ol.toArray K t ol.length (Array.replicate ol.length false)&&Region.noSelect ol.toArray&&(ds.round.isNone||vT ol))=true)
 (k:∀ w,Sat W0 l w→WT ol.toArray Q (Sat W0 l0) K n ds true t e w) (sub:kx l0 l:=by repeat (first|exact kx.refl|exact kx.nil|refine kx.cons (by repeat (first|exact Take.here|apply Take.there)) ?_|refine kx.skip ?_)):WC (.region id ol.toArray true) Q n ds e w:=fun a ha=>by
 simp only [Bool.and_eq_true] at hok
 obtain ⟨⟨h1,h3⟩,h4⟩:=hok
 refine wpIn_region_draw fun tt=>ti _ (by simpa using h4) _ _ _ ?_
 simp only [Region.schedule,mixed,Bool.true_or,if_true]
 refine wpAny_sound ol.toArray.size tt _ _ _ (ya (S:=Sat W0 l0) (K:=K) _ _ _ _ ?_)
 have hd:=hs.drew
 have e1:ol.toArray.size=ol.length:=by simp
 rw [e1]
 exact Hv h3 hp.ind t ol.length _ a _ (fun j o ho hl=>by
  exfalso
  have hj:j<ol.length:=by have:=(Array.getElem?_eq_some_iff.1 ho).1;simpa using this
  simp [hj] at hl) h1 (k _ hd a ha fun _=>hd.sub sub)
theorem fj (k:WQ Q .normal n ds e w):WT ops Q S K n ds b .nil e w:=fun a ha _=>k a ha
theorem zF (ho:ops[i]?=some ⟨some d,op,ty,pos,af,none⟩) (h:∀ a w',Fr n ds e a→(execOp a.eval ⟨some d,op,ty,pos,af,none⟩).run Tryz.prog w'=.ok (.value v) w') (hd:Nat.blt d n=true)
 (k:WT ops Q S K n ds b t ((d,v)::e) w):WT ops Q S K n ds b (.q i t) e w:=fun a ha hS=>⟨_,v,ho,.inl ⟨rfl,fun w' _=>h a w' ha⟩,k _ (ha.put hd) hS⟩
theorem dz (ho:ops[i]?=some ⟨some d,op,ty,pos,af,none⟩) (hv:yv e op=some v) (hd:Nat.blt d n=true) (k:WT ops Q S K n ds b t ((d,v)::e) w):WT ops Q S K n ds b (.q i t) e w:=
 zF ho (fun _ _ ha=>nf ha hv) hd k
theorem nI {x:Int} (ho:ops[i]?=some ⟨some d,op,ty,pos,af,none⟩) (hv:yv e op=some (.int .i64 (IntKind.i64.wrap x))) (h1:-9223372036854775808≤x) (h2:x≤9223372036854775807) (hd:Nat.blt d n=true)
 (k:WT ops Q S K n ds b t ((d,.int .i64 x)::e) w):WT ops Q S K n ds b (.q i t) e w:=dz ho (by rw [hv,wrap_i64 h1 h2]) hd k
theorem Hw {p:Prop} [Decidable p] (ho:ops[i]?=some ⟨some d,op,ty,pos,af,none⟩) (hv:yv e op=some (.bool (decide p))) (hp:p) (hd:Nat.blt d n=true) (k:WT ops Q S K n ds b t ((d,.bool true)::e) w):WT ops Q S K n ds b (.q i t) e w:=dz ho (by rw [hv];simp [hp]) hd k
theorem Hx {p:Prop} [Decidable p] (ho:ops[i]?=some ⟨some d,op,ty,pos,af,none⟩) (hv:yv e op=some (.bool (decide p))) (hp:¬ p) (hd:Nat.blt d n=true) (k:WT ops Q S K n ds b t ((d,.bool false)::e) w):WT ops Q S K n ds b (.q i t) e w:=dz ho (by rw [hv];simp [hp]) hd k
theorem mX {j:Nat} {g:Bool} (ho:ops[i]?=some ⟨some d,op,ty,pos,af,some (j,g)⟩) (h:gv ops e j=some g) (hv:yv e op=some v) (hd:Nat.blt d n=true) (k:WT ops Q S K n ds b t ((d,v)::e) w):WT ops Q S K n ds b (.q i t) e w:=fun a ha hS=>by
 have hy:=eV ha h
 exact ⟨_,v,ho,.inl ⟨by simp [Region.wanted,hy],fun w' _=>nf (o:=⟨some d,op,ty,pos,af,some (j,g)⟩) ha hv⟩,k _ (ha.put hd) hS⟩
theorem Hy {j:Nat} {g:Bool} {x:Int} (ho:ops[i]?=some ⟨some d,op,ty,pos,af,some (j,g)⟩) (h:gv ops e j=some g) (hv:yv e op=some (.int .i64 (IntKind.i64.wrap x))) (h1:-9223372036854775808≤x) (h2:x≤9223372036854775807) (hd:Nat.blt d n=true)
 (k:WT ops Q S K n ds b t ((d,.int .i64 x)::e) w):WT ops Q S K n ds b (.q i t) e w:=mX ho h (by rw [hv,wrap_i64 h1 h2]) hd k
theorem MW {j:Nat} {g:Bool} (ho:ops[i]?=some ⟨some d,op,ty,pos,af,some (j,g)⟩) (hg:gv ops e j=some g) (h:∀ a w',Fr n ds e a→(execOp a.eval ⟨some d,op,ty,pos,af,some (j,g)⟩).run Tryz.prog w'=.ok (.value v) w') (hd:Nat.blt d n=true)
 (k:WT ops Q S K n ds b t ((d,v)::e) w):WT ops Q S K n ds b (.q i t) e w:=fun a ha hS=>by
 have hy:=eV ha hg
 exact ⟨_,v,ho,.inl ⟨by simp [Region.wanted,hy],fun w' _=>h a w' ha⟩,k _ (ha.put hd) hS⟩
theorem Hz {j:Nat} {g g':Bool} (ho:ops[i]?=some ⟨some d,op,ty,pos,af,some (j,g')⟩) (h:gv ops e j=some g) (hne:g'=!g) (hd:Nat.blt d n=true) (k:WT ops Q S K n ds b t ((d,undef)::e) w):WT ops Q S K n ds b (.q i t) e w:=fun a ha hS=>by
 have hy:=eV ha h
 subst hne
 have:(some g==some (!g))=false:=by cases g<;>rfl
 exact ⟨_,undef,ho,.inr ⟨by simp [Region.wanted,hy,this],rfl⟩,k _ (ha.put hd) hS⟩
theorem BM {j:Nat} {g g':Bool} (ho:ops[i]?=some ⟨some d,op,ty,pos,af,some (j,g')⟩) (h:gv ops e j=some g) (hne:g'=!g) (hd:Nat.blt d n=true) (k:WT ops Q S K n ds true t ((d,undef)::e) w):WT ops Q S K n ds true (.s i t) e w:=fun a ha hS=>by
 have hy:=eV ha h
 subst hne
 have:(some g==some (!g))=false:=by cases g<;>rfl
 exact ⟨_,undef,ho,.inr ⟨by simp [Region.wanted,hy,this],rfl⟩,hS rfl,k _ (ha.put hd) hS⟩
theorem Dy (ho:ops[i]?=some ⟨some d,op,ty,pos,af,none⟩) (h:∀ a w',Fr n ds e a→S w'→(execOp a.eval ⟨some d,op,ty,pos,af,none⟩).run Tryz.prog w'=.ok (.value v) w') (hd:Nat.blt d n=true)
 (k:WT ops Q S K n ds true t ((d,v)::e) w):WT ops Q S K n ds true (.s i t) e w:=fun a ha hS=>⟨_,v,ho,.inl ⟨rfl,fun w' hs=>h a w' ha hs⟩,hS rfl,k _ (ha.put hd) hS⟩
theorem LD {j:Nat} {g:Bool} (ho:ops[i]?=some ⟨some d,op,ty,pos,af,some (j,g)⟩) (hg:gv ops e j=some g) (h:∀ a w',Fr n ds e a→S w'→(execOp a.eval ⟨some d,op,ty,pos,af,some (j,g)⟩).run Tryz.prog w'=.ok (.value v) w') (hd:Nat.blt d n=true)
 (k:WT ops Q S K n ds true t ((d,v)::e) w):WT ops Q S K n ds true (.s i t) e w:=fun a ha hS=>by
 have hy:=eV ha hg
 exact ⟨_,v,ho,.inl ⟨by simp [Region.wanted,hy],fun w' hs=>h a w' ha hs⟩,hS rfl,k _ (ha.put hd) hS⟩
theorem sa {x:Operand} {T bb o E:Nat} {sh:Bool} {cs:List Value} {l0:List ah} (ho:ops[i]?=some ⟨some d,.load T x,ty,pos,af,none⟩) (hx:ev e x=some (.pointer (some ⟨bb,o,none⟩))) (hT:lk kS T=some false)
 (tk:Take (ob sh bb (.cells cs.toArray E (0,0))) l0 r) (hc:cs[o]?=some v) (hd:Nat.blt d n=true) (k:WT ops Q (Sat W0 l0) K n ds true t ((d,v)::e) w):WT ops Q (Sat W0 l0) K n ds true (.s i t) e w:=
 Dy ho (fun a w' ha hs=>by simp [execOp,ha.ev hx,Instr.loadAt,Instr.sureAddr,cG hT ((hs.cell tk o).trans hc)]) hd k
theorem nJ {x:Operand} {T bb o E j:Nat} {g sh:Bool} {cs:List Value} {l0:List ah} (ho:ops[i]?=some ⟨some d,.load T x,ty,pos,af,some (j,g)⟩) (hg:gv ops e j=some g) (hx:ev e x=some (.pointer (some ⟨bb,o,none⟩))) (hT:lk kS T=some false)
 (tk:Take (ob sh bb (.cells cs.toArray E (0,0))) l0 r) (hc:cs[o]?=some v) (hd:Nat.blt d n=true) (k:WT ops Q (Sat W0 l0) K n ds true t ((d,v)::e) w):WT ops Q (Sat W0 l0) K n ds true (.s i t) e w:=
 LD ho hg (fun a w' ha hs=>by simp [execOp,ha.ev hx,Instr.loadAt,Instr.sureAddr,cG hT ((hs.cell tk o).trans hc)]) hd k
theorem HA (vs:List Value) {x:Operand} {T bb o E:Nat} {sh:Bool} {cs:List Value} {l0:List ah} (ho:ops[i]?=some ⟨some d,.load T x,ty,pos,af,none⟩) (hx:ev e x=some (.pointer (some ⟨bb,o,none⟩))) (hT:lk kS T=some true) (hz:lk cS T=some vs.length)
 (tk:Take (ob sh bb (.cells cs.toArray E (0,0))) l0 r) (hc:fX cs o vs) (hd:Nat.blt d n=true) (k:WT ops Q (Sat W0 l0) K n ds true t ((d,.agg vs.toArray)::e) w):WT ops Q (Sat W0 l0) K n ds true (.s i t) e w:=
 Dy ho (fun a w' ha hs=>by simp [execOp,ha.ev hx,Instr.loadAt,Instr.sureAddr,iJ hT hz (hs.cell tk) hc]) hd k
theorem Dz {x y:Operand} {tt E k bb o len c j:Nat} {Y:Int} {a:Act} {ww:World} {g:Option (Nat×Bool)} (ha:Fr n ds e a) (hx:ev e x=some (.slice (some ⟨bb,o,none⟩) len c)) (hy:ev e y=some (.int .i64 Y)) (hY:Y=(j:Int)) (ht:lk cY tt=some E) (hsz:lk cS E=some k) (h1:j<len) :
 (execOp a.eval ⟨some d,.indexAddr tt x y,ty,pos,af,g⟩).run Tryz.prog ww=.ok (.value (.pointer (some ⟨bb,o+j*k,none⟩))) ww:=by
 subst hY
 have h0:(0:Int)≤(j:Int):=by omega
 have h1':(j:Int)<(len:Int):=by omega
 have h3:¬ len≤j:=by omega
 simp [execOp,ha.ev hx,ha.ev hy,Instr.indexAt,asIntOf,cj (bQ ht),cW hsz,h0,h1',h3,add_eq]
theorem fz {x y:Operand} {tt E k bb o len c j:Nat} {Y:Int} (ho:ops[i]?=some ⟨some d,.indexAddr tt x y,ty,pos,af,none⟩) (hx:ev e x=some (.slice (some ⟨bb,o,none⟩) len c)) (hy:ev e y=some (.int .i64 Y)) (hY:Y=(j:Int)) (ht:lk cY tt=some E) (hsz:lk cS E=some k)
 (h1:j<len) (hd:Nat.blt d n=true) (kk:WT ops Q S K n ds b t ((d,.pointer (some ⟨bb,o+j*k,none⟩))::e) w):WT ops Q S K n ds b (.q i t) e w:=
 zF ho (fun _ _ ha=>Dz ha hx hy hY ht hsz h1) hd kk
theorem rk {x y:Operand} {tt E k bb o len c j jg:Nat} {g:Bool} {Y:Int} (ho:ops[i]?=some ⟨some d,.indexAddr tt x y,ty,pos,af,some (jg,g)⟩) (hg:gv ops e jg=some g) (hx:ev e x=some (.slice (some ⟨bb,o,none⟩) len c)) (hy:ev e y=some (.int .i64 Y)) (hY:Y=(j:Int)) (ht:lk cY tt=some E) (hsz:lk cS E=some k)
 (h1:j<len) (hd:Nat.blt d n=true) (kk:WT ops Q S K n ds b t ((d,.pointer (some ⟨bb,o+j*k,none⟩))::e) w):WT ops Q S K n ds b (.q i t) e w:=
 MW ho hg (fun _ _ ha=>Dz ha hx hy hY ht hsz h1) hd kk
theorem BN {x:Operand} {lo hi:Option Operand} {tt E k bb o len cap:Nat} (l' h':Nat) (ho:ops[i]?=some ⟨some d,.slice tt x lo hi none,ty,pos,af,none⟩) (hx:ev e x=some (.slice (some ⟨bb,o,none⟩) len cap)) (ht:lk cY tt=some E) (hsz:lk cS E=some k)
 (hlo:match lo with|none=>l'=0|some y=>ev e y=some (.int .i64 (l':Int))) (hhi:match hi with|none=>h'=len|some y=>ev e y=some (.int .i64 (h':Int)))
 (h1:l'≤h') (h2:h'≤cap) (hd:Nat.blt d n=true) (kk:WT ops Q S K n ds b t ((d,.slice (some (cutAt bb o cap l' k)) (h'-l') (cap-l'))::e) w):WT ops Q S K n ds b (.q i t) e w:=
 zF ho (fun a w' ha=>Dv l' h' ha hx ht hsz (by cases lo<;>exact hlo) (by cases hi<;>exact hhi) h1 h2) hd kk
abbrev wv (ops:Array Oper) (Q:Exit→Act→World→Prop) (S:World→Prop) (K:List Nat) (i:Nat) (t:OT) (w0:World):Exit→Act→World→Prop:=Exit.then (fun a w=>(oJ ops K i=false→S w0→S w)∧wt ops Q S K t a w) Q
theorem yb {o:Oper} (ho:ops[i]?=some o) {a:Act} (ha:Fr n ds e a) (k:WL ops (wv ops Q S K i t w) n ds [o] e w):wpOp Tryz.prog ops Q i (fun a' w'=>(oJ ops K i=false→S w→S w')∧wt ops Q S K t a' w') a w:=by
 have h:=k a ha
 simp only [wpList] at h
 unfold wpOp
 simp only [ho]
 split at h
 ·rename_i hw
  rw [if_pos hw]
  rcases h with h|⟨h1,a1,w1,h2⟩
  ·exact .inl (tE (fun _ _ _ h=>h) (fun _ _ h=>h) h)
  ·exact .inr ⟨h1,a1,w1,h2⟩
 ·rename_i hw
  rw [if_neg hw]
  exact h
theorem gX {o:Oper} (ho:ops[i]?=some o) (k:WL ops (wv ops Q S K i t w) n ds [o] e w):WT ops Q S K n ds b (.l i t) e w:=fun a ha _=>yb ho ha k
theorem zG {o o':Oper} (ho:ops[i]?=some o) (ho':ops[j]?=some o') (k:WL ops (wv ops Q S K i t w) n ds [o] e w) (k':WL ops (wv ops Q S K j t' w) n ds [o'] e w):WT ops Q S K n ds b (.l2 i t j t') e w:=fun a ha _=>⟨yb ho ha k,yb ho' ha k'⟩
theorem dN {w0:World} (hS:S w) (k:WT ops Q S K n ds true t e w):WQ (wv ops Q S K i t w0) .normal n ds e w:=fun a ha=>⟨fun _ _=>hS,k a ha fun _=>hS⟩
theorem cZ {w0:World} (hd:oJ ops K i=true) (k:WT ops Q S K n ds false t e w):WQ (wv ops Q S K i t w0) .normal n ds e w:=fun a ha=>⟨fun h=>(by rw [hd] at h;cases h),k a ha fun h=>by cases h⟩
end
attribute [irreducible] WT
end
theorem wx {G G':Prop} (k:G') (h:xP G'→G:=by
 (intro k
  repeat (first
   | refine nI rfl rfl (by omega) (by omega) rfl ?_
   | refine Hw rfl rfl (by first|assumption|omega) rfl ?_
   | refine Hx rfl rfl (by first|assumption|omega) rfl ?_
   | refine dz rfl rfl rfl ?_
   | refine Hy rfl rfl rfl (by omega) (by omega) rfl ?_
   | refine mX rfl rfl rfl rfl ?_
   | refine Hz rfl rfl rfl rfl ?_
   | refine BM rfl rfl rfl rfl ?_
   | refine sa rfl rfl rfl (by repeat (first|exact Take.here|apply Take.there)) (by rfl) rfl ?_
   | refine nJ rfl rfl rfl rfl (by repeat (first|exact Take.here|apply Take.there)) (by rfl) rfl ?_)
  exact k.out)):G:=h ⟨k⟩
section
open Go.Proofs.YtecibefflhomdaaGreatDoor.Pure (ad ay Rd bu less aQ aY)
structure cO where
 name:Bs
 first:Bs
 last:Bs
 count:Nat
 blocks:List (Bs×Nat×Nat)
deriving DecidableEq
def gL:Nat:=1099511627776
theorem bG:gL=1099511627776:=rfl
attribute [irreducible] gL
def eB:Nat→Rd→List ay×Bool
 | 0,r=>([],r.bad)
 | f+1,r=>if r.rest≠[]∧r.bad=false then (r.entry.1::(eB f r.entry.2).1,(eB f r.entry.2).2) else ([],r.bad)
def rl (nm bs:Bs):Option (Except cy (List ay)):=match bu bs with
 | none=>some (.error (some nm,7))
 | some z=>if bs.length≤gL then (if (eB z.1.length ⟨z.1,false⟩).2=true then some (.error (some nm,7)) else some (.ok (eB z.1.length ⟨z.1,false⟩).1)) else none
def oK (D:ad) (T:cO) (i:Nat):Option (Except cy (List ay)×ad):=match T.blocks[i]? with
 | none=>none
 | some b=>match bg D T.name with
  | some e=>some (.error e,(counted D b.2.2).tick)
  | none=>(rl T.name (ix D T.name b.2.1 b.2.2)).map fun x=>(x,(counted D b.2.2).tick)
def zH (key:Bs):List (Bs×Nat×Nat)→Nat
 | []=>0
 | b::r=>if aQ key b.1=true then 0 else zH key r+1
def jV (T:cO) (key:Bs):Nat:=zH key (T.blocks.drop 1)
def lV (T:cO) (key:Bs):Nat→ad→Nat→List ay→Option (Except cy (Option ay×Nat×List ay)×ad)
 | 0,_,_,_=>none
 | f+1,D,i,[]=>if i=T.blocks.length then some (.ok (none,i,[]),D) else match oK D T i with
  | none=>none
  | some (.error e,D')=>some (.error e,D')
  | some (.ok b,D')=>lV T key f D' (i+1) b
 | f+1,D,i,e::l=>if aQ e.key key=true then lV T key f D i l else some (.ok (some e,i,l),D)
def lW (key:Bs) (seq:Nat) (l:List ay):Option ay:=l.find? fun e=>decide (e.key=key)&&decide (e.seq≤seq)
def uh (D:ad) (T:cO) (key:Bs) (seq:Nat):Option (Except cy (Option ay)×ad):=
 if aQ key T.first=true∨aQ T.last key=true then some (.ok none,D) else match oK D T (jV T key) with
  | none=>none
  | some (.error e,D')=>some (.error e,D')
  | some (.ok l,D')=>some (.ok (lW key seq l),D')
def qk (M:List ay) (key:Bs) (seq:Nat):Option ay:=match M[aY M ⟨key,[],false,seq⟩]? with
 | some e=>if e.key=key then some e else none
 | none=>none
inductive It where
 | mem (i:Nat)
 | BO (T:cO) (key:Bs) (i:Nat) (l:List ay)
def aH:Nat:=18446744073709551615
def ij (M:List ay) (key:Bs):It:=.mem (aY M ⟨key,[],false,aH⟩)
def eC (T:cO) (key:Bs):It:=.BO T key (jV T key) []
def mY (M:List ay) (D:ad):It→Option (Except cy (Option ay×It)×ad)
 | .mem i=>match M[i]? with
  | none=>some (.ok (none,.mem i),D)
  | some e=>some (.ok (some e,.mem (i+1)),D)
 | .BO T key i l=>match lV T key gL D i l with
  | none=>none
  | some (.error e,D')=>some (.error e,D')
  | some (.ok (x,i',l'),D')=>some (.ok (x,.BO T key i' l'),D')
structure Mg where
 started:Bool
 rows:List It
 heads:List (ay×It)
def lz (M:List ay):List It→List (ay×It)→ad→Option (Except cy (List (ay×It))×ad)
 | [],acc,D=>some (.ok acc,D)
 | it::r,acc,D=>match mY M D it with
  | none=>none
  | some (.error e,D')=>some (.error e,D')
  | some (.ok (none,_),D')=>lz M r acc D'
  | some (.ok (some e,it'),D')=>lz M r (acc++[(e,it')]) D'
def gz (hs:List ay) (n:Nat):Nat:=(List.range n).foldl (fun best i=>if less (hs.getD i default) (hs.getD best default)=true then i else best) 0
def yc (M:List ay) (D:ad) (g:Mg):Option (Except cy (List (ay×It))×ad):=
 if g.started=true then some (.ok g.heads,D) else if g.rows.length≤gL then lz M g.rows g.heads D else none
def HB (M:List ay) (D:ad) (rows:List It) (hs:List (ay×It)):Option (Except cy (Option ay×Mg)×ad):=
 match hs[gz (hs.map (·.1)) hs.length]? with
 | none=>some (.ok (none,⟨true,rows,hs⟩),D)
 | some h=>match mY M D h.2 with
  | none=>none
  | some (.error e,D')=>some (.error e,D')
  | some (.ok (none,_),D')=>some (.ok (some h.1,⟨true,rows,hs.eraseIdx (gz (hs.map (·.1)) hs.length)⟩),D')
  | some (.ok (some e,it'),D')=>some (.ok (some h.1,⟨true,rows,hs.set (gz (hs.map (·.1)) hs.length) (e,it')⟩),D')
def zI (M:List ay) (D:ad) (g:Mg):Option (Except cy (Option ay×Mg)×ad):=match yc M D g with
 | none=>none
 | some (.error e,D')=>some (.error e,D')
 | some (.ok hs,D')=>HB M D' g.rows hs
inductive Nx where
 | one (it:It)
 | mg (g:Mg)
def sb (M:List ay) (D:ad):Nx→Option (Except cy (Option ay×Nx)×ad)
 | .one it=>(mY M D it).map fun x=>(x.1.map fun y=>(y.1,.one y.2),x.2)
 | .mg g=>(zI M D g).map fun x=>(x.1.map fun y=>(y.1,.mg y.2),x.2)
def oL {σ:Type} (M:List ay) (body:σ→ay→Option (σ×Bool)):Nat→Nx→ad→σ→Option (σ×Option cy×ad)
 | 0,_,_,_=>none
 | f+1,n,D,s=>match sb M D n with
  | none=>none
  | some (.error e,D')=>some (s,some e,D')
  | some (.ok (none,_),D')=>some (s,none,D')
  | some (.ok (some e,n'),D')=>match body s e with
   | none=>none
   | some (s',true)=>oL M body f n' D' s'
   | some (s',false)=>some (s',none,D')
end
section
open Go.Proofs.YtecibefflhomdaaGreatDoor.Pure (ad ay Rd bu less aQ aY)
attribute [local irreducible] IntKind.wrap
def sN (b:Bs×Nat×Nat):List Value:=[str b.1,.int .i64 (b.2.1:Int),.int .i64 (b.2.2:Int)]
def cI (l:List (Bs×Nat×Nat)):List (List Value):=l.map sN
theorem ql (l:List (Bs×Nat×Nat)):∀ r∈cI l,r.length=3:=fun r hr=>by obtain ⟨e,_,rfl⟩:=List.mem_map.1 hr;rfl
structure zJ (T:cO):Prop where
 len:T.blocks.length≤1099511627776
 count:T.count≤4611686018427387904
 nums:∀ b∈T.blocks,b.2.1≤4611686018427387904∧b.2.2≤4611686018427387904
def cE (d p:Nat) (T:cO):ah:=fun h=>zJ T∧∃ bv,cR [tf p 200 [str T.name,str T.first,str T.last,.int .i64 (T.count:Int),au d,bv],kD 3 bv (cI T.blocks)] h
theorem ui (d p:Nat) (T:cO):Gs (cE d p T):=fun h ⟨h1,bv,k⟩=>⟨h1,bv,ug (l:=[tf p 200 [str T.name,str T.first,str T.last,.int .i64 (T.count:Int),au d,bv],kD 3 bv (cI T.blocks)]) (fun A hA=>by
 simp at hA;rcases hA with rfl|rfl
 ·exact Ly _ _
 ·exact Dx _ _ _) h k⟩
variable {W0 w:World} {F:List ah} {v:Value} {d p:Nat} {T:cO} {D:ad}
theorem Sat.DC (h:Sat W0 (cE d p T::F) w):zJ T:=h.fT fun _ k=>k.1
theorem Sat.mK (h:Sat W0 (cE d p T::F) w):∃ bv,Sat W0 (tf p 200 [str T.name,str T.first,str T.last,.int .i64 (T.count:Int),au d,bv]::kD 3 bv (cI T.blocks)::cE d p T::F) w:=by
 obtain ⟨bv,_,hs⟩:=(h.qh (ui d p T)).fg (φ:=fun _:Value=>True) (B:=fun bv=>[tf p 200 [str T.name,str T.first,str T.last,.int .i64 (T.count:Int),au d,bv],kD 3 bv (cI T.blocks)]) fun hp ⟨_,bv,k⟩=>⟨bv,trivial,k⟩
 exact ⟨bv,hs⟩
theorem DD (key:Bs):∀ l:List (Bs×Nat×Nat),zH key l≤l.length
 | []=>Nat.le_refl _
 | b::r=>by unfold zH;have:=DD key r;split<;>simp<;>omega
theorem uj {key:Bs} (hs:Sat W0 (cE d p T::F) w):Calls Tryz.prog 229 #[au p,str key] w fun x w'=>x=.returned (.int .i64 (jV T key:Int))∧Sat W0 (cE d p T::F) w':=by
 have hok:=hs.DC
 obtain ⟨bv,hs⟩:=hs.mK
 obtain ⟨a,c,rfl,hc⟩:=(hs.take (.there .here)).im
 have hlen:(cI T.blocks).length=T.blocks.length:=by simp [cI]
 rw [hlen] at hs
 have hl:=hok.len
 refine enter Tryz.func229 rfl Tryz.ntmps229 Tryz.results229 rfl ?_
 refine go ?_
 refine aK (α:=Nat) (fun i=>[(0,au p),(1,str key),(5,.int .i64 (i:Int))])
  (fun i w=>(i≤T.blocks.length∧i+zH key (T.blocks.drop (i+1))=jV T key)∧Sat W0 (tf p 200 [str T.name,str T.first,str T.last,.int .i64 (T.count:Int),au d,.slice a T.blocks.length c]::kD 3 (.slice a T.blocks.length c) (cI T.blocks)::cE d p T::F) w) (fun i=>T.blocks.length-i) 0 ⟨rfl,rfl,rfl,trivial⟩ ⟨⟨Nat.zero_le _,by simp [jV]⟩,hs⟩ ?_
 clear hs
 rintro i w ⟨⟨hi,hrun⟩,hs⟩
 by_cases hlt:i+1<T.blocks.length
 ·have hg:T.blocks[i+1]?=some T.blocks[i+1]:=List.getElem?_eq_getElem hlt
  obtain ⟨z,⟨hv,hzc,hseg⟩,hs2⟩:=(hs.take (.there .here)).mH (by intro h;simp [cI] at h;rw [h] at hlt;simp at hlt)
  obtain ⟨rfl,_,rfl⟩:=Value.slice.inj hv
  have hrow:=hseg.row (i:=i+1) (x:=sN T.blocks[i+1]) (ql _) (by simp [cI,hg])
  have hcell:=hrow.1
  have hdrop:T.blocks.drop (i+1)=T.blocks[i+1]::T.blocks.drop (i+1+1):=List.drop_eq_getElem_cons hlt
  rw [hdrop] at hrun
  unfold zH at hrun
  refine go ?_
  refine cK (i:=i+1) rfl rfl (by omega) rfl rfl hlt rfl ?_
  refine go ?_
  refine eE hs2 rfl rfl .here hcell rfl ?_
  cases hb:aQ key T.blocks[i+1].1 with
  | true=>
   rw [hb,if_pos rfl,Nat.add_zero] at hrun
   have hbb:=hb
   rw [gV] at hbb
   have hnb:(!oV key T.blocks[i+1].1)=false:=by rw [hbb];rfl
   refine go ?_
   exact ak rfl ⟨by rw [← hrun];rfl,hs.to⟩
  | false=>
   rw [hb,if_neg (by simp)] at hrun
   have hbb:=hb
   rw [gV] at hbb
   have hnb:(!oV key T.blocks[i+1].1)=true:=by rw [hbb];rfl
   refine go ?_
   exact aA (i+1) ⟨rfl,rfl,rfl,trivial⟩ ⟨⟨by omega,by omega⟩,hs⟩ (by omega)
 ·have hd0:T.blocks.drop (i+1)=[]:=List.drop_of_length_le (by omega)
  rw [hd0] at hrun
  refine go ?_
  exact ak rfl ⟨by rw [← hrun];rfl,hs.to⟩
theorem Sat.MX {nm:Bs} {k:Nat} {b:Nat} (hs:Sat W0 (blk b 251 [str nm,.int .i64 (k:Int)]::F) w):Sat W0 (aL (.iface 249 (.pointer (some ⟨b,0,none⟩))) (some (some nm,k))::F) w:=
 hs.share.head fun _ k=>⟨b,rfl,k⟩
theorem dP {nm:Bs} (hs:Sat W0 F w):Calls Tryz.prog 166 #[str nm] w fun x w'=>∃ ve,x=.returned ve∧Sat W0 (aL ve (some (some nm,7))::F) w':=by
 refine enter Tryz.func166 rfl Tryz.ntmps166 Tryz.results166 rfl ?_
 refine go ?_
 refine bw [str nm,.int .i64 7] ?_
 refine cC hs fun w b hs=>?_
 refine go ?_
 exact ak rfl ⟨_,rfl,(hs.MX (k:=7)).to⟩
theorem uk:∀ (f:Nat) (r:Rd),(eB f r).1.length≤f
 | 0,_=>Nat.le_refl _
 | f+1,r=>by unfold eB;split<;>simp [uk f]
end
end Go.Proofs.YtecibefflhomdaaGreatDoor
