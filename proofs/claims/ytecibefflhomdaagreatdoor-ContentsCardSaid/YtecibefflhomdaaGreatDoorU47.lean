/-
  Part 47: WALKS package plain; WALKS the statements' world; PLAIN LAWS the statements' world beside the document's.
-/
import Derived.Test.YtecibefflhomdaaGreatDoorU41
import Derived.Test.YtecibefflhomdaaGreatDoorU46
set_option maxHeartbeats 8000000
set_option maxRecDepth 100000
set_option linter.all false
namespace Go.Proofs.YtecibefflhomdaaGreatDoor
open Go
section
open Go.Proofs.YtecibefflhomdaaGreatDoor.Pure (PDisk Chg)
attribute [local irreducible] IntKind.wrap
variable {W0 w:World} {F:List HProp} {v:Value} {b d:Nat} {o:Opt} {cl:Bool} {be:Option Err} {s:St} {D D':PDisk}
def colC (c:Nat) (acc:List (Bs×Bs)):HProp:=fun h=>∃ v,sepL [blk c 74 [v],pairS v acc] h
theorem Sat.colOpen {c:Nat} {acc:List (Bs×Bs)} (h:Sat W0 (colC c acc::F) w):∃ v,Sat W0 (blk c 74 [v]::pairS v acc::F) w:=by
 obtain ⟨v,_,hs⟩:=h.open1 (φ:=fun _:Value=>True) (B:=fun v=>[blk c 74 [v],pairS v acc]) fun hp ⟨v,k⟩=>⟨v,trivial,k⟩
 exact ⟨v,hs⟩
theorem Sat.colClose {c:Nat} {acc:List (Bs×Bs)} (h:Sat W0 (blk c 74 [v]::pairS v acc::F) w):Sat W0 (colC c acc::F) w:=Sat.close (B:=[blk c 74 [v],pairS v acc]) h fun hp k=>⟨v,k⟩
def colF (n:Int) (acc:List (Bs×Bs)) (p:Bs×Bs):List (Bs×Bs)×Bool:=(acc++[p],decide (((acc.length+1:Nat):Int)≠n))
theorem colF_all (n:Nat):∀ (ps acc:List (Bs×Bs)),acc.length<n→allF (colF (n:Int)) ps acc=acc++ps.take (n-acc.length)
 | [],acc,_=>by simp [allF]
 | p::r,acc,h=>by
  unfold allF colF
  dsimp only
  by_cases he:acc.length+1=n
  ·rw [if_neg (by simp [he])]
   have:n-acc.length=1:=by omega
   rw [this];simp
  ·rw [if_pos (by simp;omega)]
   have ih:=colF_all n r (acc++[p]) (by simp;omega)
   unfold colF at ih
   rw [ih]
   have:n-acc.length=(n-(acc.length+1))+1:=by omega
   rw [this,List.take_succ_cons];simp
theorem collect_none {lo hi:Bs} {n:Int} (hn:n≤0) (hs:Sat W0 F w) :
 Calls Tryz.prog 107 #[idV b,str lo,str hi,.int .i64 n] w fun y w'=>∃ pv,y=.returned pv∧Sat W0 (pairS pv []::F) w':=by
 refine enterM Tryz.func107 rfl Tryz.ntmps107 Tryz.results107 rfl ?_
 refine gx ?_
 refine w_box hs ?_
 clear hs
 intro w b7 hs
 refine gx ?_
 refine w_alloc hs ?_
 clear hs
 intro w b9 hs
 refine gx ?_
 exact wq_retM0 rfl ⟨_,rfl,Sat.ownNil (k:=2) (E:=147) hs.drop.drop⟩
theorem collect_spec {lo hi:Bs} {n:Int} {x:Except Err (List (Bs×Bs))} (hn:¬ n≤0) (hn2:n≤9223372036854775807) (h:scanPP cl be s D lo hi 0=some (x,D')) (hlen:(okL x).length≤1099511627776) (hs:Sat W0 (srC b d o cl be s::DiskA d D::F) w) :
 Calls Tryz.prog 107 #[idV b,str lo,str hi,.int .i64 n] w fun y w'=>∃ pv,y=.returned pv∧Sat W0 (pairS pv (allE (colF n) cl be (okL x) [])::srC b d o cl be s::DiskA d D'::F) w':=by
 refine enterM Tryz.func107 rfl Tryz.ntmps107 Tryz.results107 rfl ?_
 refine gx ?_
 refine w_box hs ?_
 clear hs
 intro w b7 hs
 refine gx ?_
 refine w_alloc hs ?_
 clear hs
 intro w b9 hs
 refine gx ?_
 refine w_call (met (all_spec h (F:=blk b9 74 [.slice none 0 0]::blk b7 3 [.int .i64 n]::F) hs.to) ?_)
 clear hs
 rintro _ w ⟨av,rfl,hs⟩
 refine ⟨_,rfl,?_⟩
 have hs:=Sat.ownNil (k:=2) (E:=147) hs
 have hs:=Sat.colClose (c:=b9) (v:=.slice none 0 0) (acc:=[]) (hs.to (a:=blk b9 74 [.slice none 0 0]::pairS (.slice none 0 0) []::allC b av x::srC b d o cl be s::blk b7 3 [.int .i64 n]::DiskA d D'::F))
 refine gxs ?_
 refine wq_then rfl ?_
 refine wc_block ?_
 refine wc_all (C:=fun k=>[colC b9 k,blk b7 3 [.int .i64 n]]) (body:=colF n) (id:=0) (s0:=[]) (F:=DiskA d D'::F) (x:=x) (fun i k=>k.length=i) rfl (fun i k p h=>by simp [colF,h]) rfl rfl rfl rfl rfl hs.to ?_ ?_
 ·clear hs
  intro i k p L rc G w hki hil hst hs
  dsimp only [List.cons_append,List.nil_append] at hs
  refine gx ?_
  refine wq_begin hs hst fun w hs=>?_
  obtain ⟨pv,hs⟩:=Sat.colOpen (hs.take (.there .here))
  obtain ⟨ap,cp,rfl,-⟩:=(hs.take (.there .here)).ownShape
  refine gx ?_
  refine w_build (pairC p) ?_
  refine gx ?_
  refine w_lit (pairC p) hs ?_
  clear hs
  intro w b2 hs
  refine gx ?_
  refine w_app1 hs ?_
  clear hs
  intro v2 w hs
  obtain ⟨a7,c7,rfl,-⟩:=hs.ownShape
  refine gx ?_
  refine w_st hs ?_
  clear hs
  intro w hs
  have e1:ownS 2 (.slice a7 (k.length+1) c7) 147 (k.length+1) ((pairsC k).flatten++pairC p)=pairS (.slice a7 (k.length+1) c7) (k++[p]):=by
   rw [← pairs_cons];show _=ownS 2 _ 147 (k++[p]).length _;rw [List.length_append];rfl
  rw [e1] at hs
  have hcl:∀ (st:Loop) (w:World),Sat W0 (ob false L (.loop st)::pairS (.slice a7 (k.length+1) c7) (k++[p])::blk b9 74 [.slice a7 (k.length+1) c7]::blk b7 3 [.int .i64 n]::G) w→Sat W0 (ob false L (.loop st)::([colC b9 (k++[p]),blk b7 3 [.int .i64 n]]++G)) w:=by
   intro st w hs
   have hs:=Sat.colClose (c:=b9) (v:=.slice a7 (k.length+1) c7) (acc:=k++[p]) (hs.to (a:=blk b9 74 [.slice a7 (k.length+1) c7]::pairS (.slice a7 (k.length+1) c7) (k++[p])::ob false L (.loop st)::blk b7 3 [.int .i64 n]::G))
   exact hs.to
  by_cases he:((k.length+1:Nat):Int)=n
  ·have he':(((k.length+1:Nat):Int))=n:=he
   refine gx ?_
   refine wq_round_exit (hs.take (.there (.there .here))) fun w hs=>.inr ⟨by simp [colF,he],rfl,?_⟩
   exact hcl _ _ hs.to
  ·have he':¬ (((k.length+1:Nat):Int))=n:=he
   refine gx ?_
   refine wq_round_end (hs.take (.there (.there .here))) fun w hs=>.inl ⟨by simp [colF];omega,rfl,?_⟩
   exact hcl _ _ hs.to
 ·clear hs
  intro x' Dk w hx' hs
  dsimp only [List.cons_append,List.nil_append] at hs
  obtain ⟨pv,hs⟩:=Sat.colOpen (hs.take (.there (.there .here)))
  obtain ⟨ap,cp,rfl,-⟩:=(hs.take (.there .here)).ownShape
  rcases hx' with rfl|rfl
  ·refine gx ?_
   refine wq_retM (hs.take (.there (.there .here))) rfl ?_
   clear hs
   intro w hs
   exact ⟨_,rfl,hs.to⟩
  ·refine gx ?_
   refine wq_retM (hs.take (.there (.there .here))) rfl ?_
   clear hs
   intro w hs
   exact ⟨_,rfl,hs.to⟩
def latF (acc:List (Bs×Bs)) (p:Bs×Bs):List (Bs×Bs)×Bool:=(acc++[p],true)
theorem latF_all:∀ (ps acc:List (Bs×Bs)),allF latF ps acc=acc++ps
 | [],acc=>by simp [allF]
 | p::r,acc=>by
  unfold allF latF
  dsimp only
  rw [if_pos rfl]
  have ih:=latF_all r (acc++[p])
  unfold latF at ih
  rw [ih];simp
theorem later_spec {lo hi:Bs} {c:Chg} {x:Except Err (List (Bs×Bs))} {be2 e2:Option Err} {s2:St} {D2:PDisk} (hE:ErrW W0) (h:scanPP cl be s D lo hi 0=some (x,D')) (hlen:(okL x).length≤1099511627776)
 (hW:∀ (A:HProp) (v:Value) (G:List HProp) (w:World),RdA A 3 v (chgsC [c])→Sat W0 (srC b d o cl be s::DiskA d D'::A::G) w→Calls Tryz.prog 41 #[idV b,v,.bool false] w fun y w'=>∃ ve,y=.returned ve∧Sat W0 (srC b d o cl be2 s2::DiskA d D2::errC ve e2::A::G) w')
 (hs:Sat W0 (srC b d o cl be s::DiskA d D::F) w) :
 Calls Tryz.prog 193 #[idV b,str lo,str hi,.agg (chgC c).toArray] w fun y w'=>∃ pv,y=.returned (.tuple #[pv,.int .i64 (numE e2:Int)])∧Sat W0 (pairS pv (allE latF cl be2 (okL x) [])::srC b d o cl be2 s2::DiskA d D2::F) w':=by
 refine enterM Tryz.func193 rfl Tryz.ntmps193 Tryz.results193 rfl ?_
 refine gx ?_
 refine w_box hs ?_
 clear hs
 intro w b7 hs
 refine gx ?_
 refine w_call (met (all_spec h (F:=blk b7 100 [str c.key,str c.val,.bool c.del]::F) hs.to) ?_)
 clear hs
 rintro _ w ⟨av,rfl,hs⟩
 refine ⟨_,rfl,?_⟩
 refine gx ?_
 refine w_lit (chgC c) hs ?_
 clear hs
 intro w bl hs
 have hs:=Sat.ownClose (k:=3) (E:=100) (len:=1) (b:=bl) (cap:=1) (cs:=chgC c) (rest:=[]) (by rw [List.append_nil];exact hs) (by omega) (by decide) rfl rfl (fun u hu=>by simp [chgC] at hu;rcases hu with rfl|rfl|rfl<;>rfl)
 have hA:RdA (ownS 3 (.slice (some ⟨bl,0,none⟩) 1 1) 100 1 (chgC c)) 3 (.slice (some ⟨bl,0,none⟩) 1 1) (chgsC [c]):=by
  have:=Sat.rdA_own (k:=3) (E:=100) (rows:=chgsC [c]) (v:=.slice (some ⟨bl,0,none⟩) 1 1) (F:=allC b av x::srC b d o cl be s::DiskA d D'::blk b7 100 [str c.key,str c.val,.bool c.del]::F) (w:=w) (W0:=W0) (fun r hr=>by simp [chgsC] at hr;subst hr;rfl) (by
   show Sat W0 (ownS 3 _ 100 1 (chgsC [c]).flatten::_) w
   have e:(chgsC [c]).flatten=chgC c:=by simp [chgsC]
   rw [e];exact hs)
  have e:(chgsC [c]).flatten=chgC c:=by simp [chgsC]
  rw [e] at this
  exact this
 refine gx ?_
 refine w_call (met (hW _ _ (allC b av x::F) _ hA (hs.to)) ?_)
 clear hs
 rintro _ w ⟨ve,rfl,hs⟩
 refine ⟨_,rfl,?_⟩
 have h1:=Sat.errOne (hs.take (.there (.there .here)))
 refine gx ?_
 refine w_alloc hs ?_
 clear hs
 intro w b12 hs
 have hs:=Sat.ownNil (k:=2) (E:=147) hs
 have hs:=Sat.colClose (c:=b12) (v:=.slice none 0 0) (acc:=[]) (hs.to (a:=blk b12 74 [.slice none 0 0]::pairS (.slice none 0 0) []::allC b av x::srC b d o cl be2 s2::DiskA d D2::errC ve e2::F))
 refine gxs ?_
 refine wq_then rfl ?_
 refine wc_seq ?_
 refine wc_seq ?_
 refine gxs ?_
 refine wq_then rfl ?_
 refine wc_block ?_
 refine wc_all (C:=fun k=>[colC b12 k]) (body:=latF) (id:=0) (s0:=[]) (F:=DiskA d D2::errC ve e2::F) (x:=x) (fun i k=>k.length=i) rfl (fun i k p h=>by simp [latF,h]) rfl rfl rfl rfl rfl hs.to ?_ ?_
 ·clear hs
  intro i k p L rc G w hki hil hst hs
  dsimp only [List.cons_append,List.nil_append] at hs
  refine gx ?_
  refine wq_begin hs hst fun w hs=>?_
  obtain ⟨pv,hs⟩:=Sat.colOpen (hs.take (.there .here))
  obtain ⟨ap,cp,rfl,-⟩:=(hs.take (.there .here)).ownShape
  refine gx ?_
  refine w_build (pairC p) ?_
  refine gx ?_
  refine w_lit (pairC p) hs ?_
  clear hs
  intro w b2 hs
  refine gx ?_
  refine w_app1 hs ?_
  clear hs
  intro v2 w hs
  obtain ⟨a7,c7,rfl,-⟩:=hs.ownShape
  refine gx ?_
  refine w_st hs ?_
  clear hs
  intro w hs
  have e1:ownS 2 (.slice a7 (k.length+1) c7) 147 (k.length+1) ((pairsC k).flatten++pairC p)=pairS (.slice a7 (k.length+1) c7) (k++[p]):=by
   rw [← pairs_cons];show _=ownS 2 _ 147 (k++[p]).length _;rw [List.length_append];rfl
  rw [e1] at hs
  refine gx ?_
  refine wq_round_end (hs.take (.there (.there .here))) fun w hs=>.inl ⟨rfl,rfl,?_⟩
  have hs:=Sat.colClose (c:=b12) (v:=.slice a7 (k.length+1) c7) (acc:=k++[p]) (hs.to (a:=blk b12 74 [.slice a7 (k.length+1) c7]::pairS (.slice a7 (k.length+1) c7) (k++[p])::ob false L (.loop { rc with state:=.ready,pending:=none })::G))
  exact hs.to
 ·clear hs
  intro x' Dk w hx' hs
  dsimp only [List.cons_append,List.nil_append] at hs
  obtain ⟨pv,hs⟩:=Sat.colOpen (hs.take (.there (.there .here)))
  obtain ⟨ap,cp,rfl,-⟩:=(hs.take (.there .here)).ownShape
  rcases hx' with rfl|rfl
  all_goals
   refine gx ?_
   refine wc_tree [blk b12 74 [.slice ap (allE latF cl be2 (okL x) []).length cp]] [0] (.s 0 (.q 1 (.l 2 (.q 3 (.q 4 .nil))))) hs (by kernel_rfl) ?_
   clear hs
   intro w hs
   refine gxt ?_
   refine w_call (met (tell_spec hE (hs.take (.there (.there (.there (.there (.there .here)))))) ) ?_)
   clear hs
   rintro _ w ⟨rfl,hs⟩
   refine ⟨_,rfl,?_⟩
   refine gx ?_
   refine wq_wt hs.to ?_
   refine gxt ?_
   refine gx ?_
   refine wq_retM (hs.take (.there (.there (.there .here)))) rfl ?_
   clear hs
   intro w hs
   exact ⟨_,rfl,hs.to⟩
end
section
open Go.Proofs.YtecibefflhomdaaGreatDoor.Pure (PDisk Chg bltB lookP betweenP inLo inHi)
attribute [local irreducible] IntKind.wrap
section
variable {ops:Array Oper} {Q:Exit→Act→World→Prop} {n:Nat} {ds:Md} {e:Env} {w w':World} {rest:List Oper}
variable {op:Op} {ty:TypeId} {pos:String} {af:Array Edge} {d:Nat} {v u:Value}
attribute [local semireducible] WL WC WQ
theorem eqi_bool (k:Nat) (p q:Bool) (w:World):(Op.equalIn (k+1) 4 (.bool p) (.bool q)).run Tryz.prog w=.ok (p==q) w:=by
 unfold Op.equalIn
 simp only [Sem.run_bind,und_of Tryz.underlying4,Result.andThen_ok]
 rfl
theorem eql_bool (p q:Bool) (w:World):(Op.equal 4 (.bool p) (.bool q)).run Tryz.prog w=.ok (p==q) w:=eqi_bool 9999 p q w
theorem wl_beq {t2:TypeId} {x y:Operand} {p q:Bool} (b:Bool) (hx:ev e x=some (.bool p)) (hy:ev e y=some (.bool q)) (hb:(p==q)=b) (hd:Nat.blt d n=true)
 (k:WL ops Q n ds rest ((d,.bool b)::e) w):WL ops Q n ds (⟨some d,.binOp .eql 4 x y t2,ty,pos,af,none⟩::rest) e w:=by
 refine wl_bin (vx:=.bool p) (vy:=.bool q) hx hy (by simp [eqGuard]) ?_ hd k
 subst hb
 simp [Go.binOp,eql_bool]
theorem wl_bne {t2:TypeId} {x y:Operand} {p q:Bool} (b:Bool) (hx:ev e x=some (.bool p)) (hy:ev e y=some (.bool q)) (hb:(!(p==q))=b) (hd:Nat.blt d n=true)
 (k:WL ops Q n ds rest ((d,.bool b)::e) w):WL ops Q n ds (⟨some d,.binOp .neq 4 x y t2,ty,pos,af,none⟩::rest) e w:=by
 refine wl_bin (vx:=.bool p) (vy:=.bool q) hx hy (by simp [eqGuard]) ?_ hd k
 subst hb
 simp [Go.binOp,eql_bool]
end
variable {W0 w:World} {F:List HProp} {v:Value} {rb:Nat} {r:RSt}
theorem u64_nn (a:Int):IntKind.u64.wrap a=(((IntKind.u64.wrap a).toNat:Nat):Int):=by
 rw [IntKind.wrap_u64]
 omega
def rawN (a:Int) (k:Nat):Nat:=(IntKind.u64.wrap a).toNat%k
theorem rawN_small {a k:Nat} (h:a<k) (h2:a≤1000):rawN (a:Int) k=a:=by
 unfold rawN
 rw [IntWalk.u64_in _ (by omega)]
 rw [Int.toNat_natCast,Nat.mod_eq_of_lt h]
theorem rawN_lt (a:Int) {k:Nat} (h:0<k):rawN a k<k:=Nat.mod_lt _ h
theorem raw_spec {a b:Int} (hs:Sat W0 F w) :
 Calls Tryz.prog 126 #[.int .i64 a,.int .i64 b] w fun x w'=>x=.returned (.tuple #[.int .i64 (rawN a 34:Int),.int .i64 (rawN b 8:Int)])∧Sat W0 F w':=by
 have h1:=rawN_lt a (k:=34) (by decide)
 have h2:=rawN_lt b (k:=8) (by decide)
 refine enter Tryz.func126 rfl Tryz.ntmps126 Tryz.results126 rfl ?_
 refine gy ?_
 refine wl_rem (N:=(IntKind.u64.wrap a).toNat) (M:=34) rfl rfl (u64_nn a) rfl (by decide) rfl ?_
 show WL _ _ _ _ _ ((_,.int .u64 (rawN a 34:Int))::_) _
 refine gy ?_
 refine wl_rem (N:=(IntKind.u64.wrap b).toNat) (M:=8) rfl rfl (u64_nn b) rfl (by decide) rfl ?_
 show WL _ _ _ _ _ ((_,.int .u64 (rawN b 8:Int))::_) _
 refine gy ?_
 exact wq_ret rfl ⟨rfl,hs⟩
def okO (m t:Nat):Bool:=decide (1≤m∧m≤32∧2≤t∧t≤6)
theorem options_spec {m t:Nat} (hs:Sat W0 F w) :
 Calls Tryz.prog 127 #[.int .i64 (m:Int),.int .i64 (t:Int)] w fun x w'=>x=.returned (.int .i64 (if okO m t=true then 0 else 1))∧Sat W0 F w':=by
 refine enter Tryz.func127 rfl Tryz.ntmps127 Tryz.results127 rfl ?_
 unfold okO
 by_cases h1:(m:Int)<1
 ·rw [if_neg (by simp;omega)]
  refine gy ?_
  exact wq_ret rfl ⟨rfl,hs⟩
 ·by_cases h2:(m:Int) > 32
  ·rw [if_neg (by simp;omega)]
   refine gy ?_
   exact wq_ret rfl ⟨rfl,hs⟩
  ·by_cases h3:(t:Int)<2
   ·rw [if_neg (by simp;omega)]
    refine gy ?_
    exact wq_ret rfl ⟨rfl,hs⟩
   ·by_cases h4:(t:Int) > 6
    ·rw [if_neg (by simp;omega)]
     refine gy ?_
     exact wq_ret rfl ⟨rfl,hs⟩
    ·rw [if_pos (by simp;omega)]
     refine gy ?_
     exact wq_ret rfl ⟨rfl,hs⟩
theorem wopen_spec {p dd m t:Nat} {a b:Int} {sv mv tv vo vw:Value} {DD:PDisk} (hm:rawN a 34=m) (ht:rawN b 8=t) (hW:PowW W0) (hE:ErrW W0)
 (ho:okO m t=true→∃ s D',openS ⟨m,t⟩ DD=some (.ok s,D'))
 (hs:Sat W0 (blk p 91 [idV dd,sv,idV rb,mv,tv,vo,vw]::DiskA dd DD::refC rb r::F) w) :
 Calls Tryz.prog 63 #[idV p,.int .i64 a,.int .i64 b] w fun x w'=>x=.returned (.bool true) ∧
  (okO m t=true→∃ s D' b' rb',openS ⟨m,t⟩ DD=some (.ok s,D')∧Sat W0 (blk p 91 [idV dd,idV b',idV rb',.int .i64 (m:Int),.int .i64 (t:Int),vo,vw]::srC b' dd ⟨m,t⟩ false none s::DiskA dd D'::refC rb' ⟨r.pairs,[],false⟩::F) w') ∧
  (okO m t=false→Sat W0 (blk p 91 [idV dd,sv,idV rb,mv,tv,vo,vw]::DiskA dd DD::refC rb r::F) w'):=by
 refine enter Tryz.func63 rfl Tryz.ntmps63 Tryz.results63 rfl ?_
 refine gy ?_
 refine w_call (met (raw_spec hs) ?_)
 clear hs
 rintro _ w ⟨rfl,hs⟩
 refine ⟨_,rfl,?_⟩
 rw [hm,ht]
 refine gy ?_
 refine w_build [.int .i64 (m:Int),.int .i64 (t:Int)] ?_
 cases hok:okO m t with
 | true=>
  obtain ⟨s,D',hop⟩:=ho hok
  have hok':1≤m∧m≤32∧2≤t∧t≤6:=by simpa [okO] using hok
  refine w_call (met (lopen_spec (o:=⟨m,t⟩) ⟨hok'.1,hok'.2.1⟩ ⟨hok'.2.2.1,hok'.2.2.2⟩ hop hW hE (hs.take (.there .here))) ?_)
  clear hs
  rintro _ w ⟨pv,ve,rfl,hs⟩
  refine ⟨_,rfl,?_⟩
  obtain ⟨b',rfl,hs2⟩:=hs.open1 (φ:=fun b'=>pv=idV b') (B:=fun b'=>[srC b' dd ⟨m,t⟩ false none s]) fun hp ⟨b',h1,h2⟩=>⟨b',h1,hp,fun _=>none,fun _ _ _ _ hy=>(by cases hy),Hp.le_refl _,fun _ _ hx=>(by cases hx),h2,trivial⟩
  have hs:Sat W0 (errC ve none::srC b' dd ⟨m,t⟩ false none s::DiskA dd D'::blk p 91 [idV dd,sv,idV rb,mv,tv,vo,vw]::refC rb r::F) w:=hs2.to
  clear hs2
  refine gy ?_
  refine w_call (met (tell_spec hE hs) ?_)
  clear hs
  rintro _ w ⟨rfl,hs⟩
  refine ⟨_,rfl,?_⟩
  have hs:=hs.drop
  refine gy ?_
  refine w_call (met (options_spec hs) ?_)
  clear hs
  rintro _ w ⟨rfl,hs⟩
  refine ⟨_,rfl,?_⟩
  rw [if_pos hok]
  refine gy ?_
  refine w_call (met (num_spec hs) ?_)
  clear hs
  rintro _ w ⟨rfl,hs⟩
  refine ⟨_,rfl,?_⟩
  have hn:¬ ((numE none:Nat):Int)≠0:=by simp [numE]
  refine gy ?_
  refine wl_bne false rfl rfl rfl rfl ?_
  refine gy ?_
  refine w_st hs ?_
  clear hs
  intro w hs
  refine gy ?_
  refine w_call (met (ropen_spec (r:=r) (rb:=rb) (hs.take (.there (.there (.there .here))))) ?_)
  clear hs
  rintro _ w ⟨rb',rfl,hs⟩
  refine ⟨_,rfl,?_⟩
  refine gy ?_
  refine w_st hs ?_
  clear hs
  intro w hs
  refine gy ?_
  refine w_st hs ?_
  clear hs
  intro w hs
  refine gy ?_
  refine w_st hs ?_
  clear hs
  intro w hs
  refine gy ?_
  exact wq_ret rfl ⟨rfl,fun _=>⟨s,D',b',rb',hop,hs.to⟩,fun h=>by cases h⟩
 | false=>
  have hok':m<1∨32<m∨t<2∨6<t:=by
   have:¬ (1≤m∧m≤32∧2≤t∧t≤6):=by simpa [okO] using hok
   omega
  refine w_call (met (open_refused hok' hs) ?_)
  clear hs
  rintro _ w ⟨ve,rfl,hs⟩
  refine ⟨_,rfl,?_⟩
  refine gy ?_
  refine w_call (met (tell_spec hE hs) ?_)
  clear hs
  rintro _ w ⟨rfl,hs⟩
  refine ⟨_,rfl,?_⟩
  have hs:=hs.drop
  refine gy ?_
  refine w_call (met (options_spec hs) ?_)
  clear hs
  rintro _ w ⟨rfl,hs⟩
  refine ⟨_,rfl,?_⟩
  rw [if_neg (by rw [hok];simp)]
  refine gy ?_
  refine w_call (met (num_spec hs) ?_)
  clear hs
  rintro _ w ⟨rfl,hs⟩
  refine ⟨_,rfl,?_⟩
  have hn:¬ ((numE (some (none,1)):Nat):Int)≠1:=by simp [numE]
  refine gy ?_
  refine wl_bne false rfl rfl rfl rfl ?_
  refine gy ?_
  exact wq_ret rfl ⟨rfl,fun h=>(by cases h),fun _=>hs.to⟩
end
section
open Go.Proofs.YtecibefflhomdaaGreatDoor.Pure
structure WS where
 b:Nat
 d:Nat
 rb:Nat
 vo:Value
 vw:Value
 o:Opt
 s:St
 D:PDisk
 r:RSt
 det:Option (Nat×PDisk)
 out:List (Bs×Bs)
structure WOk (X:WS) (E B N:Nat):Prop where
 opt:okO X.o.memory X.o.tables=true
 att:X.det=none→Inv False (OkP X.o) X.s X.D X.r E B∧Calm X.D∧X.s.number≤N
 dtd:∀ q,X.det=some q→X.r.closed=true∧Rest False q.2 X.r.pairs E B N∧Calm q.2
 plen:X.r.pairs.length≤E
 slen:∀ ps,some ps∈X.r.snaps→ps.length≤E
 sn:X.r.snaps.length≤B
 olen:X.out.length≤E
 ssn:X.s.snap≤B
variable {X:WS} {E B N:Nat}
theorem noD {α:Type} {x:Option α} {P:α→Prop} (hd:x=none):∀ q,x=some q→P q:=fun q hq=>by rw [hd] at hq;cases hq
theorem WOk.ho (h:WOk X E B N):1≤X.o.memory∧X.o.memory≤32∧2≤X.o.tables∧X.o.tables≤6:=by simpa [okO] using h.opt
theorem WOk.open_ (h:WOk X E B N) (hc:X.r.closed=false):X.det=none:=by
 cases hd:X.det with
 | none=>rfl
 | some q=>have:=(h.dtd q hd).1;rw [hc] at this;cases this
theorem Rest.more {C:Prop} {D:PDisk} {ps:List (Bs×Bs)} {E B N E' B' N':Nat} (h:Rest C D ps E B N) (hE:E≤E') (hB:B≤B') (hN:N≤N'):Rest C D ps E' B' N':=by
 obtain ⟨⟨c,Ls,bs,h1,h2,h3,h4,h5,h6⟩,h7,h8⟩:=h
 exact ⟨⟨c,Ls,bs,h1.more hE,h2,Nat.le_trans h3 hB,Nat.le_trans h4 hN,Nat.le_trans h5 hE,h6⟩,h7,h8⟩
theorem Rest.copy {C:Prop} {D D2:PDisk} {ps:List (Bs×Bs)} (h:Rest C D ps E B N) (k:IsCopy D D2):Rest C D2 ps E B N:=by
 obtain ⟨⟨c,Ls,bs,h1,h2,h3,h4,h5,h6⟩,h7,h8⟩:=h
 refine ⟨⟨c,Ls,bs,h1.files k.ok fun m _=>k.file m,h2,h3,h4,h5,fun b hb=>h6 b (by rw [← k.file];exact hb)⟩,h7,?_⟩
 have:=now_le k.ok (ns:=D.now.map (·.1)) fun m hm=>by
  rw [k.file] at hm
  refine Decidable.byContradiction fun hn=>hm ?_
  unfold file
  rw [aget_none_iff.2 hn];rfl
 rw [k.moves]
 rw [List.length_map] at this
 simp only [List.length_nil]
 omega
theorem WOk.more (h:WOk X E B N) {E' B' N':Nat} (hE:E≤E') (hB:B≤B') (hN:N≤N'):WOk X E' B' N':=
 ⟨h.opt,fun hd=>⟨(h.att hd).1.more hE hB,(h.att hd).2.1,Nat.le_trans (h.att hd).2.2 hN⟩,fun q hq=>⟨(h.dtd q hq).1,(h.dtd q hq).2.1.more hE hB hN,(h.dtd q hq).2.2⟩,Nat.le_trans h.plen hE,fun ps hp=>Nat.le_trans (h.slen ps hp) hE,Nat.le_trans h.sn hB,Nat.le_trans h.olen hE,Nat.le_trans h.ssn hB⟩
theorem WOk.disk (h:WOk X E B N) {D':PDisk} (hd:X.det=none→Inv False (OkP X.o) X.s D' X.r E B∧Calm D'):WOk { X with D:=D' } E B N:=
 ⟨h.opt,fun hn=>⟨(hd hn).1,(hd hn).2,(h.att hn).2.2⟩,h.dtd,h.plen,h.slen,h.sn,h.olen,h.ssn⟩
theorem wGet (h:WOk X E B N) (hE:E≤1048576) (key:Bs):∃ D',getP X.r.closed none X.s X.D key=some (rGet X.r key,D')∧WOk { X with D:=D' } E B N:=by
 unfold rGet
 cases hc:X.r.closed with
 | true=>exact ⟨X.D,rfl,h⟩
 | false=>
  obtain ⟨h1,h2,h3⟩:=h.att (h.open_ hc)
  obtain ⟨x,D',e,hsm,hi,hx⟩:=get_inv h1 key
  have hg:getP false none X.s X.D key=some (x,D'):=by
   show getG X.s X.D key latestN=_
   unfold getG
   rw [if_pos ⟨by have:=h1.tabs_le hE;omega,by have:=h1.mem_le;omega⟩]
   exact e
  refine ⟨D',?_,h.disk fun _=>⟨hi,h2.later hsm.later⟩⟩
  rw [hg]
  rcases hx with ⟨e,rfl,hb⟩|rfl
  ·exact (h2.noBad hb).elim
  ·rfl
theorem wScan (h:WOk X E B N) (hE:E≤1048576) (lo hi:Bs) (limit:Int):∃ D',scanPP X.r.closed none X.s X.D lo hi limit=some (rScan X.r lo hi limit,D')∧WOk { X with D:=D' } E B N:=by
 unfold rScan
 cases hc:X.r.closed with
 | true=>exact ⟨X.D,rfl,h⟩
 | false=>
  obtain ⟨h1,h2,h3⟩:=h.att (h.open_ hc)
  obtain ⟨x,D',e,hsm,hi',hx⟩:=scan_inv h1 hE lo hi limit
  have hg:scanPP false none X.s X.D lo hi limit=some (x,D'):=by
   show scanG X.s X.D lo hi limit latestN=_
   unfold scanG
   rw [if_pos (by have:=h1.mem_le;omega)]
   exact e
  refine ⟨D',?_,h.disk fun _=>⟨hi',h2.later hsm.later⟩⟩
  rw [hg]
  rcases hx with ⟨e,rfl,hb⟩|rfl
  ·exact (h2.noBad hb).elim
  ·rfl
theorem wAt (h:WOk X E B N) (n:Int):(∃ e,atX X.r.closed none X.s n=.error e∧rAt X.r n=.error e) ∨
 (X.r.closed=false∧∃ q ps,atX X.r.closed none X.s n=.ok q∧rAt X.r n=.ok ps∧aget X.s.snaps n=some q∧refAt X.r n=some ps):=by
 unfold rAt
 cases hc:X.r.closed with
 | true=>exact .inl ⟨_,rfl,rfl⟩
 | false=>
  obtain ⟨h1,h2,h3⟩:=h.att (h.open_ hc)
  have e0:atX false none X.s n=match aget X.s.snaps n with|none=>.error (none,5)|some q=>.ok q:=rfl
  rw [e0]
  cases hg:aget X.s.snaps n with
  | none=>
   have:=h1.dead n hg
   exact .inl ⟨_,rfl,by rw [this];rfl⟩
  | some q=>
   obtain ⟨ps,h4,_,_⟩:=h1.at hg
   exact .inr ⟨rfl,q,ps,rfl,by rw [h4];rfl,rfl,h4⟩
theorem wGetAt (h:WOk X E B N) (hE:E≤1048576) (n:Int) (key:Bs):∃ D',getAtP X.r.closed none X.s X.D n key=some (rGetAt X.r n key,D')∧WOk { X with D:=D' } E B N:=by
 unfold getAtP rGetAt
 rcases wAt h n with ⟨e,h1,h2⟩|⟨hc,q,ps,h1,h2,h3,h4⟩
 ·rw [h1,h2];exact ⟨X.D,rfl,h⟩
 ·rw [h1,h2]
  obtain ⟨i1,i2,i3⟩:=h.att (h.open_ hc)
  obtain ⟨x,D',e,hsm,hi,hx⟩:=getAt_inv i1 h3 h4 key
  refine ⟨D',?_,h.disk fun _=>⟨hi,i2.later hsm.later⟩⟩
  show getG X.s X.D key q=_
  unfold getG
  rw [if_pos ⟨by have:=i1.tabs_le hE;omega,by have:=i1.mem_le;omega⟩,e]
  rcases hx with ⟨e,rfl,hb⟩|rfl
  ·exact (i2.noBad hb).elim
  ·rfl
theorem wScanAt (h:WOk X E B N) (hE:E≤1048576) (n:Int) (lo hi:Bs) (limit:Int):∃ D',scanAtP X.r.closed none X.s X.D n lo hi limit=some (rScanAt X.r n lo hi limit,D')∧WOk { X with D:=D' } E B N:=by
 unfold scanAtP rScanAt
 rcases wAt h n with ⟨e,h1,h2⟩|⟨hc,q,ps,h1,h2,h3,h4⟩
 ·rw [h1,h2];exact ⟨X.D,rfl,h⟩
 ·rw [h1,h2]
  obtain ⟨i1,i2,i3⟩:=h.att (h.open_ hc)
  obtain ⟨x,D',e,hsm,hi',hx⟩:=scanAt_inv i1 hE h3 h4 lo hi limit
  refine ⟨D',?_,h.disk fun _=>⟨hi',i2.later hsm.later⟩⟩
  show scanG X.s X.D lo hi limit q=_
  unfold scanG
  rw [if_pos (by have:=i1.mem_le;omega),e]
  rcases hx with ⟨e,rfl,hb⟩|rfl
  ·exact (i2.noBad hb).elim
  ·rfl
theorem rAt_len (h:WOk X E B N) {n:Int} {ps:List (Bs×Bs)} (hr:rAt X.r n=.ok ps):ps.length≤E:=by
 unfold rAt at hr
 split at hr
 ·cases hr
 ·cases hg:refAt X.r n with
  | none=>rw [hg] at hr;cases hr
  | some q=>
   rw [hg] at hr
   have hr:q=ps:=by injection hr
   subst hr
   refine h.slen _ ?_
   unfold refAt at hg
   split at hg
   ·rename_i hn
    rw [List.getD_eq_getElem?_getD] at hg
    cases hq:X.r.snaps[(n-1).toNat]? with
    | none=>rw [hq] at hg;cases hg
    | some u=>
     rw [hq] at hg
     have hg:u=some q:=hg
     subst hg
     exact List.mem_iff_getElem?.2 ⟨_,hq⟩
   ·cases hg
theorem chk_num:∀ l:List Chg,numE (chkL l)=chkR l
 | []=>rfl
 | c::r=>by
  unfold chkL chkR
  by_cases h1:c.key.length=0∨8<c.key.length
  ·rw [if_pos h1,if_pos h1];rfl
  ·rw [if_neg h1,if_neg h1]
   by_cases h2:c.del=false∧16<c.val.length
   ·rw [if_pos h2,if_pos h2];rfl
   ·rw [if_neg h2,if_neg h2];exact chk_num r
theorem chk_none:∀ l:List Chg,chkL l=none↔chkR l=0
 | []=>by simp [chkL,chkR]
 | c::r=>by
  unfold chkL chkR
  by_cases h1:c.key.length=0∨8<c.key.length
  ·rw [if_pos h1,if_pos h1];simp
  ·rw [if_neg h1,if_neg h1]
   by_cases h2:c.del=false∧16<c.val.length
   ·rw [if_pos h2,if_pos h2];simp
   ·rw [if_neg h2,if_neg h2];exact chk_none r
theorem ref_num (cl:Bool) (r:RSt) (hr:r.closed=cl) (l:List Chg):numE (refW cl none l)=rWriteN r l∧(refW cl none l=none↔(cl=false∧checkR l=0)):=by
 subst hr
 unfold refW rWriteN checkR begX
 cases r.closed with
 | true=>simp [numE]
 | false=>
  simp only [Bool.false_eq_true,if_false]
  by_cases h8:8<l.length
  ·simp [h8,numE]
  ·simp only [h8,if_false,true_and]
   exact ⟨chk_num l,chk_none l⟩
theorem doP_len (l:List (Bs×Bs)) (hs:SrtP l) (b:List Chg):(doP l b).length≤l.length+b.length:=by rw [← doR_eq b hs];exact doR_len b l
theorem wWrite (h:WOk X E B N) (l:List Chg) (sync:Bool) (hE:E+l.length≤1048576) (hB:B<16777216) (hN:N+8388608≤4611686018427387904) :
 ∃ x s' D' D'' e,(refW X.r.closed none l=none→writeS X.o X.s X.D l sync=some (x,D'))∧numE e=rWriteN X.r l ∧
  (∀ (A:HProp) (ve:Value) (F:List HProp),wrO A X.b X.d X.o X.r.closed none X.s X.D D' x ve F (refW X.r.closed none l)=srC X.b X.d X.o X.r.closed none s'::DiskA X.d D''::errC ve e::A::F) ∧
  WOk { X with s:=s',D:=D'',r:=rWrite X.r l } (E+l.length) (B+1) (N+8388608):=by
 obtain ⟨hn,hnone⟩:=ref_num X.r.closed X.r rfl l
 cases hr:refW X.r.closed none l with
 | some e=>
  refine ⟨.error e,X.s,X.D,X.D,some e,fun hh=>(by cases hh),by rw [← hn,hr],fun _ _ _=>rfl,?_⟩
  have hw:rWrite X.r l=X.r:=by
   unfold rWrite
   split
   ·rfl
   ·rename_i hc
    rw [if_neg fun h0=>?_]
    have:=hnone.2 ⟨by simpa using hc,h0⟩
    rw [hr] at this;cases this
  rw [hw]
  exact h.more (by omega) (by omega) (by omega)
 | none=>
  obtain ⟨hc,h0⟩:=hnone.1 hr
  have hd:=h.open_ hc
  obtain ⟨i1,i2,i3⟩:=h.att hd
  have ho:=h.ho
  obtain ⟨x,D',e1,e2,e3⟩:=write_inv (o:=X.o) (sync:=sync) (by omega) ho.1 i1 (bok_of h0) hE hB (by omega)
  rcases e3 with ⟨e,rfl,hf,_⟩|⟨s',rfl,hi,hnum⟩
  ·exact (i2.noFlt hf).elim
  ·have hw:rWrite X.r l={ X.r with pairs:=doP X.r.pairs l }:=by
    unfold rWrite
    rw [if_neg (by rw [hc];simp),if_pos h0,doR_eq l i1.srt]
   refine ⟨.ok s',s',D',D',none,fun _=>e1,by rw [← hn,hr],fun _ _ _=>by rw [hc];rfl,?_⟩
   rw [hw]
   have hss:s'.snap≤B+1:=by rw [hi.snap];have:=h.sn;show X.r.snaps.length≤_;omega
   exact ⟨h.opt,fun _=>⟨hi,i2.later e2,(by show s'.number≤_;omega)⟩,noD hd,(by have:=doP_len _ i1.srt l;have:=h.plen;show (doP X.r.pairs l).length≤_;omega),fun ps hp=>Nat.le_trans (h.slen ps hp) (by omega),(by have:=h.sn;show X.r.snaps.length≤_;omega),Nat.le_trans h.olen (by omega),hss⟩
theorem Inv.closed {C:Prop} {P:St→Lvs→Prop} {s:St} {D:PDisk} {r:RSt} {c:Bool} (h:Inv C P s D r E B):Inv C P s D { r with closed:=c } E B:=
 ⟨h.run,h.srt,h.snap,h.keys,h.dead,h.live,h.seq⟩
theorem wSnap (h:WOk X E B N):numE (errX (snapP X.r.closed none X.s))=rSnapE X.r∧snapN (snapP X.r.closed none X.s)=rSnapN X.r∧WOk { X with s:=snapS X.s (snapP X.r.closed none X.s),r:=rSnap X.r } E (B+1) N:=by
 unfold rSnapN rSnap rSnapE snapP begX
 cases hc:X.r.closed with
 | true=>exact ⟨rfl,rfl,h.more (Nat.le_refl _) (by omega) (Nat.le_refl _)⟩
 | false=>
  have hd:=h.open_ hc
  obtain ⟨i1,i2,i3⟩:=h.att hd
  have hl:=i1.live
  have h4:X.s.snaps.length≤4:=by obtain ⟨q0,Ls,bs,h1,_⟩:=i1.run;exact h1.snaps
  simp only [Bool.false_eq_true,if_false]
  by_cases he:X.s.snaps.length=4
  ·rw [if_pos he,if_pos (by omega)]
   exact ⟨rfl,rfl,h.more (Nat.le_refl _) (by omega) (Nat.le_refl _)⟩
  ·rw [if_neg he,if_neg (by omega)]
   have hi:=snap_inv i1 (fun s' Ls=>OkP.keep s' _ Ls) he
   have hsn:=i1.snap
   refine ⟨rfl,by rw [if_pos rfl,← hsn];rfl,?_⟩
   rw [if_pos rfl]
   refine ⟨h.opt,fun _=>⟨(hi.closed (c:=false)).more (Nat.le_refl _) (by omega),i2,i3⟩,noD hd,h.plen,fun ps hp=>?_,?_,h.olen,?_⟩
   ·have hp:some ps∈X.r.snaps++[some X.r.pairs]:=hp
    rcases List.mem_append.1 hp with h5|h5
    ·exact h.slen ps h5
    ·have:=List.mem_singleton.1 h5
     injection this with this
     rw [this];exact h.plen
   ·have:=h.sn
    show (X.r.snaps++[some X.r.pairs]).length≤_
    simp;omega
   ·have:=h.ssn
    show X.s.snap+1≤_
    omega
theorem wRel (h:WOk X E B N) (n:Int):numE (relP X.r.closed none X.s n).1=numE (errX (rAt X.r n))∧WOk { X with s:=(relP X.r.closed none X.s n).2,r:=rRel X.r n } E B N:=by
 unfold relP rRel
 rcases wAt h n with ⟨e,h1,h2⟩|⟨hc,q,ps,h1,h2,h3,h4⟩
 ·rw [h1,h2];exact ⟨rfl,h⟩
 ·rw [h1,h2]
  have hd:=h.open_ hc
  obtain ⟨i1,i2,i3⟩:=h.att hd
  refine ⟨rfl,h.opt,fun _=>⟨rel_inv i1 (fun s' Ls=>OkP.keep s' _ Ls) h3,i2,i3⟩,noD hd,h.plen,fun ps hp=>?_,?_,h.olen,h.ssn⟩
  ·have hp:some ps∈X.r.snaps.set (n-1).toNat none:=hp
   rcases List.mem_or_eq_of_mem_set hp with h5|h5
   ·exact h.slen ps h5
   ·cases h5
  ·have:=h.sn
   show (X.r.snaps.set _ none).length≤_
   simpa using this
theorem wClose (h:WOk X E B N):numE (closeP X.r.closed none X.s X.D).1=(if X.r.closed=true then 6 else 0)∧WOk { X with D:=(closeP X.r.closed none X.s X.D).2,r:={ X.r with closed:=true } } E B N:=by
 unfold closeP begX
 cases hc:X.r.closed with
 | true=>
  refine ⟨rfl,?_⟩
  have e:{ X.r with closed:=true }=X.r:=by rw [← hc]
  simp only [if_true]
  exact ⟨h.opt,fun hd=>⟨(h.att hd).1.closed,(h.att hd).2⟩,fun q hq=>⟨rfl,(h.dtd q hq).2⟩,h.plen,h.slen,h.sn,h.olen,h.ssn⟩
 | false=>
  have hd:=h.open_ hc
  obtain ⟨i1,i2,i3⟩:=h.att hd
  obtain ⟨e1,e2,e3⟩:=close_inv i1
  simp only [Bool.false_eq_true,if_false]
  refine ⟨?_,h.opt,fun _=>⟨e2.closed,i2.later e1,i3⟩,noD hd,h.plen,h.slen,h.sn,h.olen,h.ssn⟩
  rcases e3 with e|⟨e,he,ht⟩
  ·rw [e];rfl
  ·exact (i2.noFlt (.inl (.inl ht))).elim
theorem wCompact (h:WOk X E B N) (hc:X.r.closed=false) (hE:E≤1048576) (hB:B≤16777216) (hN:N+8388608≤4611686018427387904) :
 ∃ s' D',compactS X.o X.s X.D=some (.ok s',D')∧Inv False (fun s2 Ls=>OkP X.o s2 Ls∧s2.mem=[]∧CompShp (momentsS X.s) Ls) s' D' X.r E B∧WOk { X with s:=s',D:=D' } E (B+1) (N+8388608):=by
 have hd:=h.open_ hc
 obtain ⟨i1,i2,i3⟩:=h.att hd
 have ho:=h.ho
 obtain ⟨x,D',e1,e2,e3⟩:=compact_inv (o:=X.o) (by omega) ho.2.2.1 ho.1 i1 hE hB (by omega)
 rcases e3 with ⟨e,rfl,hf,_⟩|⟨s',rfl,hi,hnum⟩
 ·exact (i2.noFlt hf).elim
 ·refine ⟨s',D',e1,hi,h.opt,fun _=>⟨(hi.weak fun _ hp=>hp.1).more (Nat.le_refl _) (by omega),i2.later e2,(by show s'.number≤_;omega)⟩,noD hd,h.plen,h.slen,Nat.le_trans h.sn (by omega),h.olen,?_⟩
  have:=h.sn
  show s'.snap≤_
  rw [hi.snap];omega
end
end Go.Proofs.YtecibefflhomdaaGreatDoor
