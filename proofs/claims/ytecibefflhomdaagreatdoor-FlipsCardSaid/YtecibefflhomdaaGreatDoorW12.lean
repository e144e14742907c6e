/-
  Part 12: WALKS package rows; The engine 18 views of rows that nobody writes any more; The engine 16 sync.
-/
import Derived.Test.YtecibefflhomdaaGreatDoorW11
import Derived.Conc.MuLone
set_option maxHeartbeats 8000000
set_option maxRecDepth 100000
set_option linter.all false
namespace Go.Proofs.YtecibefflhomdaaGreatDoor
open Go
section
open Go.Proofs.YtecibefflhomdaaGreatDoor.Pure (ay less aQ aY dg dG jm gS kZ)
attribute [local irreducible] IntKind.wrap
section
variable {ops:Array Oper} {Q:Exit→Act→World→Prop} {n:Nat} {ds:Md} {e:Env} {w w':World} {rest:List Oper} {ord:List (Nat×Bool)}
variable {op:Op} {ty:TypeId} {pos:String} {af:Array Edge} {d i:Nat} {v u:Value} {W0:World} {l l' r r':List ah}
theorem JW {x:Operand} {t ty2 N:Nat} {X:Int} (hx:ev e x=some (.int .i64 X)) (hX:X=(N:Int)) (hN:N≤9223372036854775807) (hd:Nat.blt d n=true)
 (kk:WL ops Q n ds rest ((d,.int .i64 ((N / 2:Nat):Int))::e) w):WL ops Q n ds (⟨some d,.binOp .quo t x (.const (.int .i64 2)) ty2,ty,pos,af,none⟩::rest) e w:=by
 subst hX
 refine bW (fun a ha=>?_) hd kk
 have h2:IntKind.i64.wrap ((N:Int) / 2)=(N:Int) / 2:=wrap_i64 (by omega) (by omega)
 have h3:=ha.ev hx
 have h4:a.eval (.const (.int .i64 2))=.int .i64 2:=rfl
 simp [execOp,h3,h4,eqGuard,Go.binOp,Op.intDiv,h2]
theorem JX {x y:Operand} {t ts E E2 k b o dl dc b2 o2 sl sc:Nat} {sh:Bool} {all cs:List Value} (news:List Value) (hs:Sat W0 l w) (hx:ev e x=some (.slice (some ⟨b,o,none⟩) dl dc)) (hy:ev e y=some (.slice (some ⟨b2,o2,none⟩) sl sc))
 (ht:lk cY t=some E) (hsz:lk cS E=some k) (tk2:Take (ob sh b2 (.cells all.toArray E2 (0,0))) l r) (hsrc:fX all o2 news) (hlen:news.length=min sl dl*k) (h1:∀ u∈news,ej u=true)
 (tk:ib l (blk b E cs) (blk b E (eN cs o news)) l') (hfit:o+news.length≤cs.length) (hd:Nat.blt d n=true) (kk:∀ w',Sat W0 l' w'→WL ops Q n ds rest ((d,.int .i64 ((min sl dl:Nat):Int))::e) w') :
 WL ops Q n ds (⟨some d,.call { callee:=.builtin .copy,args:=#[x,y],argTypes:=#[t,ts] },ty,pos,af,none⟩::rest) e w:=by
 obtain ⟨r1,t1,t2⟩:=tk.take
 refine bW (w':=w.setRow b (eN cs o news).toArray) (fun a ha=>?_) hd (kk _ (oW hs tk))
 have hl:=run_loadCells_list (P:=Tryz.prog) w ⟨b2,o2,none⟩ news (fun j v hj=>by rw [add_eq,hs.cell tk2];exact hsrc.at j v hj)
 have hst:=run_storeCells_at Tryz.prog b o E news 0 cs.toArray w (hs.at t1) (by simpa using hfit) (fun v hv=>(gF (h1 v hv)).2)
 obtain ⟨i,hi,rfl⟩:=mq hsz
 have e1:Nat.min sl dl*i.size=news.length:=hlen.symm
 simp only [execOp,resolve,List.map_toArray,List.map_cons,List.map_nil,ha.ev hx,ha.ev hy,invoke,Go.builtin,Sem.run_bind,Sem.run_pure,Result.andThen_ok]
 simp [Builtin.copy_,cj (bQ ht),Builtin.lenOf,Builtin.firstCells,sizeOf,typeInfo,hi,e1,hl,hst,eN,goInt]
theorem Dv {x:Operand} {lo hi:Option Operand} {t E k b o len cap:Nat} {dd:Option Nat} {a:Act} {ww:World} (l' h':Nat) (ha:Fr n ds e a) (hx:ev e x=some (.slice (some ⟨b,o,none⟩) len cap)) (ht:lk cY t=some E) (hsz:lk cS E=some k)
 (hlo:match lo with|none=>l'=0|some y=>ev e y=some (.int .i64 (l':Int))) (hhi:match hi with|none=>h'=len|some y=>ev e y=some (.int .i64 (h':Int)))
 (h1:l'≤h') (h2:h'≤cap):(execOp a.eval ⟨dd,.slice t x lo hi none,ty,pos,af,none⟩).run Tryz.prog ww=.ok (.value (.slice (some (cutAt b o cap l' k)) (h'-l') (cap-l'))) ww:=by
 have hu:=bQ ht
 have e1:(if cap=l' then (some ⟨b,o,none⟩:Option Addr) else Option.map (fun x:Addr=>x.add (l'*k)) (some (⟨b,o,none⟩:Addr)))=some (cutAt b o cap l' k):=by
  unfold cutAt;split<;>simp [add_eq]
 have c1:(l':Int)≤h':=by omega
 have c2:(h':Int)≤cap:=by omega
 cases lo with
 | none=>
  simp only at hlo;subst hlo
  cases hi with
  | none=>simp only at hhi;subst hhi;simp [execOp,ha.ev hx,Instr.sliceAt,Instr.slice,cj hu,cW hsz,Instr.sliceBounds,← e1]
  | some y=>simp [execOp,ha.ev hx,ha.ev hhi,Instr.sliceAt,Instr.slice,cj hu,cW hsz,Instr.sliceBounds,Instr.sliceBound,asIntOf,h2,← e1]
 | some z=>
  cases hi with
  | none=>simp only at hhi;subst hhi;simp [execOp,ha.ev hx,ha.ev hlo,Instr.sliceAt,Instr.slice,cj hu,cW hsz,Instr.sliceBounds,Instr.sliceBound,asIntOf,h1,← e1]
  | some y=>simp [execOp,ha.ev hx,ha.ev hlo,ha.ev hhi,Instr.sliceAt,Instr.slice,cj hu,cW hsz,Instr.sliceBounds,Instr.sliceBound,asIntOf,h1,h2,← e1]
theorem x7 {S:World→Prop} {x:Operand} {lo hi:Option Operand} {t E k b o len cap:Nat} (l' h':Nat) (ho:ops[i]?=some ⟨some d,.slice t x lo hi none,ty,pos,af,none⟩) (hx:ev e x=some (.slice (some ⟨b,o,none⟩) len cap)) (ht:lk cY t=some E) (hsz:lk cS E=some k)
 (hlo:match lo with|none=>l'=0|some y=>ev e y=some (.int .i64 (l':Int))) (hhi:match hi with|none=>h'=len|some y=>ev e y=some (.int .i64 (h':Int)))
 (h1:l'≤h') (h2:h'≤cap) (hd:Nat.blt d n=true) (kk:WO ops Q S n ds ord ((d,.slice (some (cutAt b o cap l' k)) (h'-l') (cap-l'))::e) w):WO ops Q S n ds ((i,false)::ord) e w:=
 EJ ho (fun a w' ha _=>Dv l' h' ha hx ht hsz (by cases lo<;>exact hlo) (by cases hi<;>exact hhi) h1 h2) hd kk
theorem o9 {S:World→Prop} {x y:Operand} {t E k b o len c j:Nat} {Y:Int} (ho:ops[i]?=some ⟨some d,.indexAddr t x y,ty,pos,af,none⟩) (hx:ev e x=some (.slice (some ⟨b,o,none⟩) len c)) (hy:ev e y=some (.int .i64 Y)) (hY:Y=(j:Int)) (ht:lk cY t=some E) (hsz:lk cS E=some k)
 (h1:j<len) (hd:Nat.blt d n=true) (kk:WO ops Q S n ds ord ((d,.pointer (some ⟨b,o+j*k,none⟩))::e) w):WO ops Q S n ds ((i,false)::ord) e w:=by
 subst hY
 refine EJ ho (fun a w' ha _=>?_) hd kk
 have h0:(0:Int)≤(j:Int):=by omega
 have h1':(j:Int)<(len:Int):=by omega
 have h3:¬ len≤j:=by omega
 simp [execOp,ha.ev hx,ha.ev hy,Instr.indexAt,asIntOf,cj (bQ ht),cW hsz,h0,h1',h3,add_eq]
end
theorem gV:∀ a b:Bs,aQ a b=oV a b
 | _,[]=>by simp [aQ,oV]
 | [],_::_=>rfl
 | a::x,b::y=>by simp only [aQ,oV,gV x y]
theorem fX.app {cs rest:List Value} {o:Nat}:∀ {vs:List Value},fX cs o vs→fX (cs++rest) o vs:=by
 intro vs
 induction vs generalizing o with
 | nil=>intro _;trivial
 | cons v r ih=>intro ⟨h1,h2⟩;exact ⟨by rw [List.getElem?_append_left (List.getElem?_eq_some_iff.1 h1).1];exact h1,ih h2⟩
theorem fX.pre {cs:List Value} (pre:List Value) {o:Nat}:∀ {vs:List Value},fX cs o vs→fX (pre++cs) (pre.length+o) vs:=by
 intro vs
 induction vs generalizing o with
 | nil=>intro _;trivial
 | cons v r ih=>intro ⟨h1,h2⟩;exact ⟨by rw [List.getElem?_append_right (by omega),Nat.add_sub_cancel_left];exact h1,by have:=ih h2;rwa [← Nat.add_assoc] at this⟩
theorem nE {k:Nat}:∀ {rows:List (List Value)},(∀ r∈rows,r.length=k)→rows.flatten.length=rows.length*k
 | [],_=>by simp
 | r::rows,h=>by
  rw [List.flatten_cons,List.length_append,h r List.mem_cons_self,nE fun x hx=>h x (List.mem_cons_of_mem _ hx),List.length_cons,Nat.add_mul,Nat.one_mul,Nat.add_comm]
theorem jO {k:Nat}:∀ {rows:List (List Value)} {i:Nat} {r:List Value},(∀ r∈rows,r.length=k)→rows[i]?=some r→fX rows.flatten (i*k) r
 | r0::rows,0,r,_,hr=>by
  simp at hr;subst hr
  rw [List.flatten_cons,Nat.zero_mul];exact (fX.all r0).app
 | r0::rows,i+1,r,h,hr=>by
  have:=jO (i:=i) (fun x hx=>h x (List.mem_cons_of_mem _ hx)) (by simpa using hr)
  have h2:=fX.pre r0 this
  rw [h r0 List.mem_cons_self] at h2
  rw [List.flatten_cons,Nat.add_mul,Nat.one_mul,Nat.add_comm];exact h2
def bj (l:List ay):List (List Value):=l.map aF
@[simp] theorem iV (l:List ay):(bj l).length=l.length:=by simp [bj]
theorem gw (l:List ay):∀ r∈bj l,r.length=4:=fun r hr=>by obtain ⟨e,_,rfl⟩:=List.mem_map.1 hr;rfl
abbrev iW (v:Value) (l:List ay):ah:=aI 4 v 256 l.length (bj l).flatten
def aS (m:Nat) (l:List ay):ah:=fun h=>∃ v,cR [blk m 120 [v],iW v l] h
variable {W0 w:World} {F:List ah} {v:Value} {m:Nat} {l:List ay}
theorem Sat.qe (h:Sat W0 (aS m l::F) w):∃ v,Sat W0 (blk m 120 [v]::iW v l::F) w:=by
 obtain ⟨v,_,hs⟩:=h.fg (φ:=fun _:Value=>True) (B:=fun v=>[blk m 120 [v],iW v l]) fun hp ⟨v,k⟩=>⟨v,trivial,k⟩
 exact ⟨v,hs⟩
theorem Sat.iX (h:Sat W0 (blk m 120 [v]::iW v l::F) w):Sat W0 (aS m l::F) w:=Sat.close (B:=[blk m 120 [v],iW v l]) h fun hp k=>⟨v,k⟩
theorem wq {a b:ay} (hs:Sat W0 F w):Calls Tryz.prog 215 #[.agg (aF a).toArray,.agg (aF b).toArray] w fun x w'=>x=.returned (.bool (less a b))∧Sat W0 F w':=by
 refine enter Tryz.func215 rfl Tryz.ntmps215 Tryz.results215 rfl ?_
 refine go ?_
 refine cC (z:=aF a) hs fun w b1 hs=>?_
 refine cC (z:=aF b) hs fun w b2 hs=>?_
 unfold less
 by_cases hk:a.key=b.key
 ·have hk':¬ a.key≠b.key:=fun h=>h hk
  rw [if_neg hk']
  refine go ?_
  exact ak rfl ⟨by show Ending.returned (.bool (decide ((b.seq:Int)<(a.seq:Int))))=_;rw [decide_eq_decide.2 (show ((b.seq:Int)<(a.seq:Int))↔b.seq<a.seq by omega)],hs.to⟩
 ·have hk':a.key≠b.key:=hk
  rw [if_pos hk',gV]
  refine go ?_
  exact ak rfl ⟨rfl,hs.to⟩
theorem Sat.ri (h:Sat W0 (iW v l::F) w):∃ a c,v=.slice a l.length c∧l.length≤9223372036854775807:=by
 obtain ⟨a,c,hv,h1,h2⟩:=h.aB
 exact ⟨a,c,hv,by simp only [maxLen] at h2;omega⟩
theorem tZ (hs:Sat W0 (aS m l::F) w):Calls Tryz.prog 98 #[au m] w fun x w'=>x=.returned (.int .i64 (l.length:Int))∧Sat W0 (aS m l::F) w':=by
 obtain ⟨v,hs⟩:=hs.qe
 obtain ⟨a,c,rfl,-⟩:=(hs.take (.there .here)).ri
 refine enter Tryz.func98 rfl Tryz.ntmps98 Tryz.results98 rfl ?_
 refine go ?_
 exact ak rfl ⟨rfl,hs.iX⟩
theorem nF {e:ay} (hs:Sat W0 (aS m l::F) w) (hmx:l.length≤1099511627776):Calls Tryz.prog 198 #[au m,.agg (aF e).toArray] w fun x w'=>x=.returned (.int .i64 (aY l e:Int))∧Sat W0 (aS m l::F) w':=by
 obtain ⟨v,hs⟩:=hs.qe
 obtain ⟨a,c,rfl,hmax⟩:=(hs.take (.there .here)).ri
 refine enter Tryz.func198 rfl Tryz.ntmps198 Tryz.results198 rfl ?_
 refine go ?_
 refine cC (z:=aF e) hs fun w b1 hs=>?_
 refine go ?_
 refine bM [blk m 120 [.slice a l.length c]] [(0,false),(1,false),(2,false),(3,false),(4,false),(5,false),(6,false)] hs (by kernel_rfl) fun w hs=>?_
 refine go ?_
 refine aK (α:=Nat×Nat) (fun z=>[(0,au m),(3,au b1),(5,.int .i64 (z.1:Int)),(6,.int .i64 (z.2:Int))])
  (fun z w=>(z.1≤z.2∧z.2≤l.length∧dg l e l.length z.1 z.2=aY l e)∧Sat W0 (blk b1 256 (aF e)::blk m 120 [.slice a l.length c]::iW (.slice a l.length c) l::F) w) (fun z=>z.2-z.1) (0,l.length) ⟨rfl,rfl,rfl,rfl,trivial⟩ ⟨⟨Nat.zero_le _,Nat.le_refl _,rfl⟩,hs.to⟩ ?_
 clear hs
 rintro ⟨lo,hi⟩ w ⟨⟨h1,h2,h3⟩,hs⟩
 dsimp only at h1 h2 h3 hs ⊢
 by_cases hlt:lo<hi
 ·have hmid:(lo+hi) / 2<l.length:=by omega
  have hstep:dg l e l.length lo hi=if less l[(lo+hi) / 2] e=true then dg l e l.length ((lo+hi) / 2+1) hi else dg l e l.length lo ((lo+hi) / 2):=by
   obtain ⟨f,hf⟩:∃ f,l.length=f+1:=⟨l.length-1,by omega⟩
   rw [hf,dg,if_pos hlt,show l.getD ((lo+hi) / 2) default=l[(lo+hi) / 2] from by simp [List.getD,hmid]]
   rw [gS l e f (f+1) ((lo+hi) / 2+1) hi (by omega) (by omega),gS l e f (f+1) lo ((lo+hi) / 2) (by omega) (by omega)]
  refine go ?_
  refine JW (N:=lo+hi) rfl (by omega) (by omega) rfl ?_
  refine go ?_
  obtain ⟨b,cap,rs,hv,q1,q2,q3,hs2⟩:=(hs.take (.there (.there .here))).dr (by omega)
  simp only [Value.slice.injEq] at hv
  obtain ⟨rfl,_,rfl⟩:=hv
  have hseg:fX ((bj l).flatten++rs) (0+(lo+hi) / 2*4) (aF l[(lo+hi) / 2]):=by
   rw [Nat.zero_add]
   exact (jO (gw l) (by simp [bj,hmid])).app
  refine bM (l:=blk b 256 ((bj l).flatten++rs)::blk b1 256 (aF e)::blk m 120 [.slice (some ⟨b,0,none⟩) l.length c]::F) [blk b 256 ((bj l).flatten++rs),blk b1 256 (aF e),blk m 120 [.slice (some ⟨b,0,none⟩) l.length c]] [(0,false),(1,false),(2,false),(3,false),(4,false),(5,false),(6,false),(7,false),(8,true)] hs2 (by kernel_rfl) fun w hs=>?_
  refine go ?_
  refine o9 (j:=(lo+hi) / 2) rfl rfl rfl rfl rfl rfl hmid rfl ?_
  refine fI (aF l[(lo+hi) / 2]) rfl rfl rfl rfl .here hseg rfl ?_
  refine go ?_
  refine ae (met (wq (a:=l[(lo+hi) / 2]) (b:=e) hs) ?_)
  rintro _ w ⟨rfl,hs⟩
  refine ⟨_,rfl,?_⟩
  have mk:∀ w,Sat W0 (blk b 256 ((bj l).flatten++rs)::blk b1 256 (aF e)::blk m 120 [.slice (some ⟨b,0,none⟩) l.length c]::F) w→Sat W0 (blk b1 256 (aF e)::blk m 120 [.slice (some ⟨b,0,none⟩) l.length c]::iW (.slice (some ⟨b,0,none⟩) l.length c) l::F) w:=fun w hs=>by
   have:=Sat.cT (k:=4) (len:=l.length) hs q1 q2 q3 (by rw [nE (gw l),iV]) (fun u hu=>by
    obtain ⟨r,hr,hur⟩:=List.mem_flatten.1 hu
    obtain ⟨x,_,rfl⟩:=List.mem_map.1 hr
    simp [aF] at hur;rcases hur with rfl|rfl|rfl|rfl<;>rfl)
   exact this.to
  rw [hstep] at h3
  cases hl:less l[(lo+hi) / 2] e with
  | true=>
   rw [hl,if_pos rfl] at h3
   refine go ?_
   exact aA ((lo+hi) / 2+1,hi) ⟨rfl,rfl,rfl,rfl,trivial⟩ ⟨⟨by omega,h2,h3⟩,mk _ hs⟩ (by simp;omega)
  | false=>
   rw [hl,if_neg (by simp)] at h3
   refine go ?_
   exact aA (lo,(lo+hi) / 2) ⟨rfl,rfl,rfl,rfl,trivial⟩ ⟨⟨by omega,by omega,h3⟩,mk _ hs⟩ (by simp;omega)
 ·have he:aY l e=lo:=by
   rw [← h3]
   cases hf:l.length with
   | zero=>simp [dg]
   | succ f=>unfold dg;rw [if_neg hlt]
  refine go ?_
  exact ak rfl ⟨by rw [he];rfl,Sat.iX (v:=.slice a l.length c) hs.to⟩
theorem ub (e:ay):(aF e).all ej=true:=rfl
theorem lR (l:List ay):∀ u∈(bj l).flatten,ej u=true:=fun u hu=>by
 obtain ⟨r,hr,hur⟩:=List.mem_flatten.1 hu
 obtain ⟨x,_,rfl⟩:=List.mem_map.1 hr
 exact List.all_eq_true.1 (ub x) u hur
theorem mG (l:List ay):(bj l).flatten.length=l.length*4:=by rw [nE (gw l),iV]
theorem lS (l:List ay) (e:ay):(bj (l++[e])).flatten=(bj l).flatten++aF e:=by simp [bj]
def ef (l:List ay):List Value:=(bj l).flatten
theorem lT (a b:List ay):ef (a++b)=ef a++ef b:=by simp [ef,bj]
theorem sX (e:ay) (b:List ay):ef (e::b)=aF e++ef b:=by simp [ef,bj]
@[simp] theorem NU:ef []=[]:=rfl
theorem ly (l:List ay):(ef l).length=l.length*4:=mG l
end
def kD (k:Nat) (v:Value) (rows:List (List Value)):ah:=fun h=>(∀ r∈rows,r.length=k) ∧
 ((v=.slice none 0 0∧rows=[])∨∃ b o c,v=.slice (some ⟨b,o,none⟩) rows.length c∧rows.length≤c∧(rows=[]∨∃ all E,h b=some (true,.cells all E (0,0))∧fX all.toList o rows.flatten))
section
variable {ops:Array Oper} {Q:Exit→Act→World→Prop} {n:Nat} {ds:Md} {e:Env} {w w':World} {rest:List Oper}
variable {op:Op} {ty:TypeId} {pos:String} {af:Array Edge} {d:Nat} {v u:Value} {W0:World} {l l' r r':List ah} {k:Nat} {rows:List (List Value)}
theorem JY {h:Hp} (q:kD k v rows h):∃ h1,Hp.le h1 h∧(∀ i x,h1 i=some x→x.1=true)∧kD k v rows h1:=by
 obtain ⟨hk,q⟩:=q
 rcases q with ⟨rfl,rfl⟩|⟨b,o,c,rfl,hc,q⟩
 ·exact ⟨fun _=>none,fun _ _ hx=>(by cases hx),fun _ _ hx=>(by cases hx),hk,.inl ⟨rfl,rfl⟩⟩
 ·rcases q with rfl|⟨all,E,hb,hcell⟩
  ·exact ⟨fun _=>none,fun _ _ hx=>(by cases hx),fun _ _ hx=>(by cases hx),hk,.inr ⟨b,o,c,rfl,hc,.inl rfl⟩⟩
  ·refine ⟨fun i=>if i=b then some (true,.cells all E (0,0)) else none,fun i x hx=>?_,fun i x hx=>?_,hk,.inr ⟨b,o,c,rfl,hc,.inr ⟨all,E,by simp,hcell⟩⟩⟩
   ·by_cases hi:i=b
    ·subst hi;simp at hx;subst hx;exact hb
    ·simp [hi] at hx
   ·by_cases hi:i=b
    ·subst hi;simp at hx;subst hx;rfl
    ·simp [hi] at hx
theorem Sat.im (h:Sat W0 (kD k v rows::l) w):∃ a c,v=.slice a rows.length c∧rows.length≤c:=h.fT fun _ q=>by
 rcases q.2 with ⟨rfl,rfl⟩|⟨b,o,c,rfl,hc,_⟩
 ·exact ⟨none,0,rfl,by simp⟩
 ·exact ⟨_,c,rfl,hc⟩
theorem Sat.Og (h:Sat W0 (kD k v rows::l) w):∀ r∈rows,r.length=k:=h.fT fun _ q=>q.1
theorem Sat.mH (h:Sat W0 (kD k v rows::l) w) (hne:rows≠[]):∃ z:vF,(v=.slice (some ⟨z.b,z.o,none⟩) rows.length z.c∧rows.length≤z.c∧fX z.all z.o rows.flatten)∧Sat W0 (ob true z.b (.cells z.all.toArray z.E (0,0))::kD k v rows::l) w:=by
 obtain ⟨z,hz,h1⟩:=(h.zj fun _=>JY).fg (φ:=fun z:vF=>v=.slice (some ⟨z.b,z.o,none⟩) rows.length z.c∧rows.length≤z.c∧fX z.all z.o rows.flatten) (B:=fun z:vF=>[ob true z.b (.cells z.all.toArray z.E (0,0))]) fun hp q=>by
  obtain ⟨_,q⟩:=q
  rcases q with ⟨_,rfl⟩|⟨b,o,c,rfl,hc,rfl|⟨all,E,hb,hcell⟩⟩
  ·exact (hne rfl).elim
  ·exact (hne rfl).elim
  ·refine ⟨⟨b,o,c,all.toList,E⟩,⟨rfl,hc,hcell⟩,hp,fun _=>none,fun _ _ _ _ hy=>(by cases hy),Hp.le_refl _,fun _ _ hx=>(by cases hx),?_,trivial⟩
   simpa [ob] using hb
 exact ⟨z,hz,h1⟩
theorem fX.row {all:List Value} {o i:Nat} {x:List Value} (hk:∀ r∈rows,r.length=k) (h:fX all o rows.flatten) (hx:rows[i]?=some x):fX all (o+i*k) x:=by
 have h1:=jO hk hx
 have key:∀ (vs:List Value) (p:Nat),fX rows.flatten p vs→fX all (o+p) vs:=by
  intro vs
  induction vs with
  | nil=>intro _ _;trivial
  | cons v r ih=>intro p ⟨h2,h3⟩;exact ⟨h.at p v h2,by have:=ih (p+1) h3;rwa [← Nat.add_assoc] at this⟩
 exact key x _ h1
theorem fX.sub {all:List Value}:∀ {xs ys:List Value} {o:Nat},fX all o (xs++ys)→fX all o xs∧fX all (o+xs.length) ys
 | [],ys,o,h=>⟨trivial,h⟩
 | x::xs,ys,o,⟨h1,h2⟩=>by
  obtain ⟨a,b⟩:=fX.sub h2
  exact ⟨⟨h1,a⟩,by rw [List.length_cons,show o+(xs.length+1)=o+1+xs.length from by omega];exact b⟩
theorem x8 {z:vF} {c:Nat} (hk:∀ r∈rows,r.length=k) (hc:rows.length≤c) (hseg:fX z.all z.o rows.flatten) {h:Hp} (q:ob true z.b (.cells z.all.toArray z.E (0,0)) h):kD k (.slice (some ⟨z.b,z.o,none⟩) rows.length c) rows h:=
 ⟨hk,.inr ⟨z.b,z.o,c,rfl,hc,.inr ⟨_,_,q,by simpa using hseg⟩⟩⟩
theorem Sat.lU {a:Option Addr} (h:Sat W0 l w) (ha:a=none∨∃ b o,a=some ⟨b,o,none⟩) {c:Nat} (hn:a=none→c=0):Sat W0 (kD k (.slice a 0 c) []::l) w:=
 h.imp fun hp r=>⟨fun _=>none,hp,fun _ _ _ hx=>(by cases hx),fun _ _ hx=>(by cases hx),Hp.le_refl _,(by
  refine ⟨by simp,?_⟩
  rcases ha with rfl|⟨b,o,rfl⟩
  ·rw [hn rfl];exact .inl ⟨rfl,rfl⟩
  ·exact .inr ⟨b,o,c,rfl,Nat.zero_le _,.inl rfl⟩),r⟩
theorem Sat.MT (h:Sat W0 (kD k v []::l) w):v=.slice none 0 0∨∃ b o c,v=.slice (some ⟨b,o,none⟩) 0 c:=h.fT fun _ q=>by
 rcases q.2 with ⟨rfl,_⟩|⟨b,o,c,rfl,_,_⟩
 ·exact .inl rfl
 ·exact .inr ⟨b,o,c,rfl⟩
theorem BK {x y:Operand} {t E m:Nat} {Y:Int} (hs:Sat W0 (kD k v rows::l) w) (hx:ev e x=some v) (hy:ev e y=some (.int .i64 Y)) (hY:Y=(m:Int)) (ht:lk cY t=some E) (hsz:lk cS E=some k) (hm:m≤rows.length) (hd:Nat.blt d n=true)
 (kk:∀ v',Sat W0 (kD k v' (rows.drop m)::kD k v rows::l) w→WL ops Q n ds rest ((d,v')::e) w):WL ops Q n ds (⟨some d,.slice t x (some y) none none,ty,pos,af,none⟩::rest) e w:=by
 subst hY
 have hk:=hs.Og
 by_cases hb:rows=[]
 ·subst hb
  have hm0:m=0:=by simpa using hm
  subst hm0
  rcases hs.MT with rfl|⟨b,o,c,rfl⟩
  ·exact pL hx ht hsz hy trivial hd (kk _ (hs.lU (.inl rfl) (fun _=>rfl)))
  ·refine mx 0 0 hx ht hsz hy rfl (Nat.le_refl _) (Nat.zero_le _) hd (kk _ ?_)
   have:cutAt b o c 0 k=⟨b,o,none⟩:=by unfold cutAt;split<;>simp
   rw [this]
   exact hs.lU (.inr ⟨b,o,rfl⟩) (fun h=>by cases h)
 ·obtain ⟨z,⟨rfl,hc,hseg⟩,h2⟩:=hs.mH hb
  refine mx m rows.length hx ht hsz hy rfl hm hc hd ?_
  have e2:rows.length-m=(rows.drop m).length:=by simp
  by_cases hfull:z.c=m
  ·have hall:rows.drop m=[]:=List.drop_of_length_le (by omega)
   have e1:cutAt z.b z.o z.c m k=⟨z.b,z.o,none⟩:=by unfold cutAt;rw [if_pos hfull]
   rw [e1,e2,hall]
   have:=kk (.slice (some ⟨z.b,z.o,none⟩) 0 (z.c-m)) (by rw [hall];exact hs.lU (.inr ⟨_,_,rfl⟩) (fun h=>by cases h))
   exact this
  ·have e1:cutAt z.b z.o z.c m k=⟨z.b,z.o+m*k,none⟩:=by unfold cutAt;rw [if_neg hfull]
   rw [e1,e2]
   refine kk _ (h2.head fun hp q=>x8 (z:=⟨z.b,z.o+m*k,z.c,z.all,z.E⟩) (fun r hr=>hk r (List.mem_of_mem_drop hr)) (by simp;omega) ?_ q)
   have h3:rows.flatten=(rows.take m).flatten++(rows.drop m).flatten:=by rw [← List.flatten_append,List.take_append_drop]
   rw [h3] at hseg
   have h4:=hseg.sub.2
   rw [nE (fun r hr=>hk r (List.mem_of_mem_take hr)),List.length_take,Nat.min_eq_left hm] at h4
   exact h4
theorem Sat.mI {E:Nat} (hk:∀ r∈rows,r.length=k) (h:Sat W0 (aI k v E rows.length rows.flatten::l) w):Sat W0 (kD k v rows::l) w:=by
 by_cases hv:v=.slice none 0 0
 ·subst hv
  obtain ⟨a,cap,e,_⟩:=h.aB
  have hb:rows=[]:=List.eq_nil_of_length_eq_zero (by simp at e;omega)
  subst hb
  exact h.drop.lU (.inl rfl) (fun _=>rfl)
 ·obtain ⟨b,cap,rest,rfl,h1,h2,h3,hs⟩:=h.iM hv
  exact hs.share.head fun hp q=>x8 (z:=⟨b,0,cap,_,E⟩) hk h1 (fX.all _).app q
end
abbrev E5 (v:Value) (l:List Pure.ay):ah:=kD 4 v (bj l)
section
attribute [local semireducible] WL WC WQ
abbrev Lv:Go.Conc.Locks.MuLink:={ lock:=80,unlock:=81,ilock:=142,iunlock:=143,lockSlow:=195,unlockSlow:=197,disable:=109,enable:=110,acquire:=121,relMerge:=108,cas32:=194,add32:=196,tMutex:=128,tIMutex:=126,tPMutex:=252,tPIMutex:=325,tPI32:=327,tUP:=202,tNoCopy:=123,tU32:=124 }
theorem KP:Go.Conc.Locks.MuLib Tryz.prog Lv:=
 ⟨Tryz.func80,Tryz.func81,Tryz.func142,Tryz.func143,Tryz.func109,Tryz.func110,Tryz.func121,Tryz.func108,Tryz.func194,Tryz.func196,Tryz.underlying126,Tryz.runUnderlying126,Tryz.sizeOf126,Tryz.isAgg126,Tryz.zeroValue126,Tryz.underlying128,Tryz.runUnderlying128,Tryz.sizeOf128,Tryz.isAgg128,Tryz.zeroValue128,Tryz.underlying252,Tryz.runUnderlying252,Tryz.sizeOf252,Tryz.isAgg252,Tryz.zeroValue252,Tryz.underlying325,Tryz.runUnderlying325,Tryz.sizeOf325,Tryz.isAgg325,Tryz.zeroValue325,Tryz.underlying327,Tryz.runUnderlying327,Tryz.sizeOf327,Tryz.isAgg327,Tryz.zeroValue327,Tryz.underlying202,Tryz.runUnderlying202,Tryz.sizeOf202,Tryz.isAgg202,Tryz.zeroValue202,Tryz.underlying123,Tryz.runUnderlying123,Tryz.sizeOf123,Tryz.isAgg123,Tryz.zeroValue123,Tryz.underlying21,Tryz.runUnderlying21,Tryz.sizeOf21,Tryz.isAgg21,Tryz.zeroValue21,(by kernel_rfl)⟩
section
variable {ops:Array Oper} {Q:Exit→Act→World→Prop} {n:Nat} {ds:Md} {e:Env} {w w':World} {rest:List Oper}
variable {op:Op} {ty:TypeId} {pos:String} {af:Array Edge} {d:Nat} {v u:Value} {W0:World} {l l' r r':List ah}
theorem qf {x:Operand} {at_:Array TypeId} {b o E:Nat} {cs:List Value} (hs:Sat W0 l w) (k:∀ w',Sat W0 l' w'→WL ops Q n ds rest ((d,.tuple #[])::e) w')
 (hx:ev e x=some (.pointer (some ⟨b,o,none⟩)):=by rfl) (tk:ib l (blk b E cs) (blk b E (cs.set o (.int .i32 1))) l':=by repeat (first|exact ib.here|apply ib.there)) (hc:cs[o]?=some (.int .i32 0):=by rfl) (hd:Nat.blt d n=true:=by rfl) :
 WL ops Q n ds (⟨some d,.call { callee:=.value (.func 80),args:=#[x],argTypes:=at_ },ty,pos,af,none⟩::rest) e w:=by
 obtain ⟨r,t1,t2⟩:=tk.take
 refine C9 (vs:=[.pointer (some ⟨b,o,none⟩)]) (f:=80) rfl (by simp [sR,hx]) hd ?_
 refine (MuLone.lock_free KP ⟨b,o,none⟩ w ((hs.cell t1 o).trans hc) (hs.free t1 o)).mono ?_
 rintro _ w' ⟨rfl,rfl⟩
 exact ⟨_,rfl,k _ (hs.setCell tk)⟩
theorem nG {x:Operand} {at_:Array TypeId} {f:Nat} (hx:ev e x=some v) (k:WL ops Q n ⟨ds.round,{ target:=.fn (.func f) #[],args:=#[v] }::ds.ds⟩ rest e w) :
 WL ops Q n ds (⟨none,.defer { callee:=.value (.func f),args:=#[x],argTypes:=at_ },ty,pos,af,none⟩::rest) e w:=fun a ha=>by
 refine wpList_plain rfl fun K hK=>?_
 unfold Oper.wp
 have hr:(execOp a.eval ⟨none,.defer { callee:=.value (.func f),args:=#[x],argTypes:=at_ },ty,pos,af,none⟩).run Tryz.prog w=.ok (.defer { target:=.fn (.func f) #[],args:=#[v] }) w:=by
  have h1:=ha.ev hx
  have h2:a.eval (.func f)=.func (.func f) #[] #[]:=rfl
  simp [execOp,resolve,h1,h2,Deferred.ofValue]
 rw [hr,Oper.upon_defer]
 exact hK _ _ (k _ ⟨ha.size,by simp [Act.put,ha.defers],ha.get⟩)
end
def JZ (rs:List ResultVar) (R:Ending→World→Prop):Exit→Act→World→Prop
 | .normal,a,w | .ret,a,w=>∃ fn:Func,fn.results=rs.toArray∧Leaves Tryz.prog fn a.tmps R a.defers .returning w
 | _,_,_=>False
instance {rs:List ResultVar} {R:Ending→World→Prop}:kT (JZ rs R):=⟨fun _ _ h=>h⟩
instance {rs:List ResultVar} {R:Ending→World→Prop}:pO (JZ rs R):=⟨fun _ _ _ _ _ h=>h⟩
theorem jY {fn fn':Func} (h:fn.results=fn'.results) {tmps:Array Value} {R:Ending→World→Prop}:∀ {ds:List Deferred} {u:FrameMode} {w:World},Leaves Tryz.prog fn tmps R ds u w→Leaves Tryz.prog fn' tmps R ds u w
 | [],.returning,w,⟨v,h1,h2⟩=>⟨v,by rw [← jA h];exact h1,h2⟩
 | [],.panicking c,w,k=>k
 | d::ds,u,w,⟨h1,fv,cap,f,args,h2,h3,h4⟩=>⟨h1,fv,cap,f,args,h2,h3,h4.mono fun e u' w' k=>by
  cases e with
  | returned v=>exact jY h k
  | panicked c=>exact jY h k
  | outgrown=>exact k⟩
section
variable {n:Nat} {e:Env} {w:World} {W0:World} {l l' r:List ah}
theorem uf {f:FuncId} {fn:Func} {body:Code} {n:Nat} {rs:List ResultVar} {args:List Value} {R:Ending→World→Prop}
 (hf:Tryz.prog.funcs[f]?=some fn) (hb:fn.body=some body) (hn:fn.ntmps=n) (hr:fn.results=rs.toArray) (hle:Nat.ble args.length n=true)
 (k:WC body (JZ rs R) n Li (y5 0 args) w):Calls Tryz.prog f args.toArray w R:=by
 refine calls_of_wp_defers hf hb ?_
 rw [hn]
 refine wp_mono (wpIn_wide.1 (k _ (Bw hle))) ?_
 intro ex a w h
 cases ex with
 | normal=>obtain ⟨fn',hr',h⟩:=h;exact jY (hr'.trans hr.symm) h
 | ret=>obtain ⟨fn',hr',h⟩:=h;exact jY (hr'.trans hr.symm) h
 | panic chain=>exact h.elim
 | exit id=>exact h.elim
 | goto l=>exact h.elim
 | outgrown=>exact h.elim
theorem gW {x:Exit} (hx:x=.ret∨x=.normal) {rs:List ResultVar} {R:Ending→World→Prop} {vs:List Value} {b o E:Nat} {cs:List Value} (hs:Sat W0 l w)
 (k:∀ w',Sat W0 l' w'→R (.returned (tn vs)) w') (h:vD e rs=some vs:=by rfl)
 (tk:ib l (blk b E cs) (blk b E (cs.set o (.int .i32 0))) l':=by repeat (first|exact ib.here|apply ib.there)) (hc:cs[o]?=some (.int .i32 1):=by rfl) :
 WQ (JZ rs R) x n ⟨none,[{ target:=.fn (.func 81) #[],args:=#[.pointer (some ⟨b,o,none⟩)] }]⟩ e w:=fun a ha=>by
 obtain ⟨r,t1,t2⟩:=tk.take
 have key:∃ fn:Func,fn.results=rs.toArray∧Leaves Tryz.prog fn a.tmps R a.defers .returning w:=by
  refine ⟨{ (default:Func) with results:=rs.toArray },rfl,?_⟩
  rw [ha.defers]
  refine leaves_cons (f:=81) (args:=#[.pointer (some ⟨b,o,none⟩)]) (by simp) ?_ ?_
  ·simp only [invoke]
   rw [show (#[Value.pointer (some ⟨b,o,none⟩)]++#[]:Array Value)=#[Value.pointer (some ⟨b,o,none⟩)] from rfl]
   exact oc (f:=81) (u:=()) rfl
  ·refine (MuLone.unlock_deferred KP ⟨b,o,none⟩ .returning w ((hs.cell t1 o).trans hc) (hs.free t1 o)).mono ?_
   rintro _ u' w' ⟨rfl,rfl,rfl⟩
   exact ⟨_,pJ ha rfl h _,k _ (hs.setCell tk)⟩
 rcases hx with rfl|rfl<;>exact key
end
end
end Go.Proofs.YtecibefflhomdaaGreatDoor
