/-
  Part 23: WALKS package levels; WALKS package levels.
-/
import Derived.Test.YtecibefflhomdaaGreatDoorY22
set_option maxHeartbeats 8000000
set_option maxRecDepth 100000
set_option linter.all false
namespace Go.Proofs.YtecibefflhomdaaGreatDoor
open Go
section
open Go.Proofs.YtecibefflhomdaaGreatDoor.Pure (ad az Rd bI less aQ aZ bM bE aD cY dec j3)
attribute [local irreducible] IntKind.wrap
variable {W0 w:World} {F:List ah} {v:Value} {d m p:Nat} {T:cD} {D D':ad} {M:List az}
theorem wW:∀ (ls:List (List cD)) (i:Nat),(∀ l∈ls,l.length≤1048576∧∀ T∈l,T.name.length≤255)→(eM i ls).length≤ls.length*269484032
 | [],_,_=>by simp [eM]
 | l::r,i,h=>by
  have ih:=wW r (i+1) fun x hx=>h x (List.mem_cons_of_mem _ hx)
  obtain ⟨h1,h2⟩:=h l List.mem_cons_self
  have key:∀ (l:List cD),(∀ T∈l,T.name.length≤255)→((l.map fun T=>UInt8.ofNat i::bE T.name).flatten).length≤l.length*257:=by
   intro l
   induction l with
   | nil=>intro _;simp
   | cons T q ihq=>
    intro hl
    have a1:=hl T List.mem_cons_self
    have a2:=ihq fun x hx=>hl x (List.mem_cons_of_mem _ hx)
    simp only [List.map_cons,List.flatten_cons,List.length_append,List.length_cons,Pure.dg] at a2 ⊢
    omega
  have:=key l h2
  simp only [eM,List.length_append,List.length_cons]
  omega
theorem ry:∀ (a:List (List cD)) (k:Nat) (l:List cD),eM k (a++[l])=eM k a++(l.map fun T=>UInt8.ofNat (k+a.length)::bE T.name).flatten
 | [],k,l=>by simp [eM]
 | x::a,k,l=>by
  simp only [List.cons_append,eM,ry a (k+1) l,List.append_assoc,List.length_cons]
  rw [show k+1+a.length=k+(a.length+1) by omega]
theorem uJ:∀ (ls:List (List cD)) (i k:Nat),i≤ls.length→eM k ls=eM k (ls.take i)++eM (k+i) (ls.drop i)
 | _,0,k,_=>by simp [eM]
 | [],i+1,k,h=>by simp at h
 | l::r,i+1,k,h=>by
  simp only [List.take_succ_cons,List.drop_succ_cons,eM,List.append_assoc]
  rw [uJ r i (k+1) (by simpa using h),show k+1+i=k+(i+1) by omega]
theorem Cq {s:St} (h:sy s=true):s.number≤4611686018427387904∧s.seq≤4611686018427387904∧s.log.length≤255∧∀ l∈s.levels,l.length≤1048576∧∀ T∈l,T.name.length≤255:=by
 unfold sy at h
 simp only [Bool.and_eq_true,decide_eq_true_eq,Nat.ble_eq,List.all_eq_true] at h
 exact ⟨h.1.1.1,h.1.1.2,h.1.2,h.2⟩
def sV (s:St):Bs:=bM s.number 8++bM s.seq 8++bE s.log
theorem rz (s:St):bT s=sV s++eM 0 s.levels:=rfl
theorem Aj {b:Nat} {K:SK} {z:SZ} {s:St} {t0 t1 t2 t3:List cD} {nl:Bool} {x:Except cy St} (h:gG s D nl=some (x,D')) (hlv:s.levels=[t0,t1,t2,t3]) (hW:jB W0)
 (hs:Sat W0 (blk b 133 (aj K z s)::eT K.d z.l0 t0::eT K.d z.l1 t1::eT K.d z.l2 t2::eT K.d z.l3 t3::ag K.d D::F) w) :
 Calls Tryz.prog 100 #[au b,.bool nl] w fun y w'=>∃ ve s',y=.returned ve∧(∀ r,x=.ok r→s'=r)∧(∃ nu lo,s'={ s with number:=nu,log:=lo }) ∧
  Sat W0 (blk b 133 (aj K z s')::eT K.d z.l0 t0::eT K.d z.l1 t1::eT K.d z.l2 t2::eT K.d z.l3 t3::ag K.d D'::ax ve (dk x)::F) w':=by
 refine enter Tryz.func100 rfl Tryz.ntmps100 Tryz.results100 rfl ?_
 refine gx ?_
 refine cE hs ?_
 clear hs
 intro w bS hs
 refine gx ?_
 refine aS hs ?_
 clear hs
 intro w b5 hs
 refine gx ?_
 refine bD hs ?_
 clear hs
 intro w hs
 refine gz ?_
 refine db rfl ?_
 refine eB (α:=St×ad) (fun _=>[(1,.bool nl),(2,au bS),(5,au b5)])
  (fun q w=>((∃ nu lo,q.1={ s with number:=nu,log:=lo })∧sy q.1=true∧∃ eo,eW (py q.1 (if nl=true then (if s.log=[] then none else some s.log) else none)) q.2=some (eo,D')∧x=(match eo with|some e=>.error e|none=>.ok q.1)) ∧
    Sat W0 (blk bS 31 [au b]::blk b 133 (aj K z q.1)::blk b5 9 [str s.log]::eT K.d z.l0 t0::eT K.d z.l1 t1::eT K.d z.l2 t2::eT K.d z.l3 t3::ag K.d q.2::F) w) ?_ ?_
 ·unfold gG at h
  cases nl with
  | false=>
   simp only [Bool.false_eq_true,if_false] at h
   split at h
   ·rename_i hf
    refine gx ?_
    refine bg (s,D) ⟨rfl,rfl,rfl,trivial⟩ ⟨⟨⟨s.number,s.log,rfl⟩,hf,?_⟩,hs.to⟩
    split at h
    ·cases h
    ·rename_i e D2 hr
     simp only [Option.some.injEq,Prod.mk.injEq] at h
     obtain ⟨rfl,rfl⟩:=h
     exact ⟨some e,hr,rfl⟩
    ·rename_i D2 hr
     simp only [Option.some.injEq,Prod.mk.injEq] at h
     obtain ⟨rfl,rfl⟩:=h
     exact ⟨none,hr,rfl⟩
   ·cases h
  | true=>
   simp only [if_true] at h
   by_cases hn:s.number≤4611686018427387904
   case neg=>rw [if_neg hn] at h;cases h
   rw [if_pos hn] at h
   refine gx ?_
   refine bU [blk bS 31 [au b]] [(0,false),(1,false),(2,true),(3,false),(4,false),(5,true)] hs (by kernel_rfl) ?_
   clear hs
   intro w hs
   refine gx ?_
   refine ae (met (pz (kind:=[108,111,103]) (hs.take (.there (.there .here))) (by decide) hn hW) ?_)
   clear hs
   rintro _ w ⟨rfl,hs⟩
   refine ⟨_,rfl,gx ?_⟩
   refine bD hs ?_
   clear hs
   intro w hs
   have hs:Sat W0 (blk b 133 (aj K z { s with number:=s.number+1,log:=bR (s.number+1) })::blk b5 9 [str s.log]::blk bS 31 [au b]::eT K.d z.l0 t0::eT K.d z.l1 t1::eT K.d z.l2 t2::eT K.d z.l3 t3::ag K.d D::F) w:=hs
   refine gx ?_
   refine bU [blk b 133 (aj K z { s with number:=s.number+1,log:=bR (s.number+1) }),blk bS 31 [au b]] [(0,false),(1,false),(2,false),(3,false),(4,false),(5,false),(6,false),(7,false),(8,true),(9,false)] hs (by kernel_rfl) ?_
   clear hs
   intro w hs
   refine gx ?_
   cases ho:eL D (.create (bR (s.number+1))) with
   | none=>rw [ho] at h;cases h
   | some r=>
    obtain ⟨eo,D1⟩:=r
    rw [ho] at h
    unfold eL at ho
    dsimp only at ho
    split at ho
    ·rename_i hm
     rw [bJ] at hm
     simp only [Option.some.injEq,Prod.mk.injEq] at ho
     obtain ⟨rfl,rfl⟩:=ho
     refine ae (met (tY (n:=bR (s.number+1)) (hs.take (.there (.there (.there (.there (.there (.there (.there .here)))))))) hm) ?_)
     clear hs
     rintro _ w ⟨ve,rfl,hs⟩
     refine ⟨_,rfl,?_⟩
     cases hc:gm D (bR (s.number+1)) with
     | some e=>
      rw [hc] at h hs
      simp only [Option.some.injEq,Prod.mk.injEq] at h
      obtain ⟨rfl,rfl⟩:=h
      obtain ⟨t,u,rfl⟩:=(hs.take (.there .here)).aW
      refine gx ?_
      refine ak rfl ⟨_,{ s with number:=s.number+1,log:=bR (s.number+1) },rfl,fun r hr=>(by cases hr),⟨_,_,rfl⟩,?_⟩
      exact hs.to
     | none=>
      rw [hc] at h hs
      dsimp only at h
      have hve:=(hs.take (.there .here)).cF
      subst hve
      by_cases hf:sy { s with number:=s.number+1,log:=bR (s.number+1) }=true
      case neg=>rw [if_neg hf] at h;cases h
      rw [if_pos hf] at h
      refine gx ?_
      refine bg ({ s with number:=s.number+1,log:=bR (s.number+1) },cT D (bR (s.number+1))) ⟨rfl,rfl,rfl,trivial⟩ ⟨⟨⟨_,_,rfl⟩,hf,?_⟩,hs.to⟩
      simp only [if_true]
      split at h
      ·cases h
      ·rename_i e D2 hr
       simp only [Option.some.injEq,Prod.mk.injEq] at h
       obtain ⟨rfl,rfl⟩:=h
       exact ⟨some e,hr,rfl⟩
      ·rename_i D2 hr
       simp only [Option.some.injEq,Prod.mk.injEq] at h
       obtain ⟨rfl,rfl⟩:=h
       exact ⟨none,hr,rfl⟩
    ·cases ho
 clear hs h
 rintro ⟨s1,D1⟩ w ⟨⟨⟨nu,lo,hs1⟩,hfit,eo,hrun,hx⟩,hs⟩
 dsimp only at hs1 hfit hrun hx hs
 have hlv1:s1.levels=[t0,t1,t2,t3]:=by rw [hs1];exact hlv
 obtain ⟨f1,f2,f3,f4⟩:=Cq hfit
 have hstl:(bT s1).length≤1200000000:=by
  have:=wW s1.levels 0 f4
  rw [hlv1] at this
  rw [rz,hlv1]
  simp only [sV,List.length_append,Pure.aU,Pure.dg,List.length_cons,List.length_nil] at this ⊢
  omega
 refine eB (α:=Nat×Value) (fun q=>[(1,.bool nl),(2,au bS),(5,au b5),(7,au q.1)])
  (fun q w=>Sat W0 (blk q.1 93 [q.2]::cC q.2 (sV s1)::blk bS 31 [au b]::blk b 133 (aj K z s1)::blk b5 9 [str s.log]::eT K.d z.l0 t0::eT K.d z.l1 t1::eT K.d z.l2 t2::eT K.d z.l3 t3::ag K.d D1::F) w) ?_ ?_
 ·refine bH [blk bS 31 [au b],blk b 133 (aj K z s1)] [0,3,5,8,10,13] (.s 0 (.q 1 (.q 2 (.s 3 (.s 5 (.q 6 (.q 7 (.s 8 (.s 10 (.q 11 (.q 12 (.s 13 (.l2 4 (.l2 9 (.l2 14 (.l 15 (.l 16 .nil)) 15 (.l 14 (.l 16 .nil))) 15 (.l 9 (.l 14 (.l 16 .nil)))) 15 (.l 4 (.l 9 (.l 14 (.l 16 .nil))))))))))))))))) hs (by kernel_rfl) ?_
  clear hs
  intro w hs
  refine oA ?_
  refine zQ rfl rfl ?_ ?_
  ·refine ae (met (dr (v:=.slice none 0 0) (bs:=[]) (N:=s1.number) (k:=8) (hs.cP (k:=1) (E:=5)) (by omega) (by simp)) ?_)
   clear hs
   rintro _ w ⟨v1,rfl,hs⟩
   refine ⟨_,rfl,?_⟩
   refine gz ?_
   refine cX hs.to ?_
   refine zQ rfl rfl ?_ ?_
   ·refine ae (met (dr (N:=s1.seq) (k:=8) (hs.take .here) (by omega) (by simp)) ?_)
    clear hs
    rintro _ w ⟨v2,rfl,hs⟩
    refine ⟨_,rfl,?_⟩
    refine gz ?_
    refine cX hs.to ?_
    refine zQ rfl rfl ?_ ?_
    ·refine ae (met (gw (s:=s1.log) (hs.take .here) (by simp) (by omega)) ?_)
     clear hs
     rintro _ w ⟨v3,rfl,hs⟩
     refine ⟨_,rfl,?_⟩
     refine gz ?_
     refine cX hs.to ?_
     refine hJ rfl ?_
     refine aS hs ?_
     clear hs
     intro w b7 hs
     refine gz ?_
     refine cX hs.to ?_
     refine hJ rfl ?_
     obtain ⟨av,cv,hv,-⟩:=(hs.take (.there .here)).ay
     subst hv
     refine bD hs ?_
     clear hs
     intro w hs
     refine gz ?_
     refine cA rfl ?_
     refine fA ?_
     simp only [List.nil_append] at hs
     exact bg (b7,.slice av _ cv) ⟨rfl,rfl,rfl,rfl,trivial⟩ hs.to
    ·refine aS hs ?_
     clear hs
     intro w b7 hs
     refine gz ?_
     refine cX hs.to ?_
     refine hJ rfl ?_
     refine ae (met (gw (s:=s1.log) (hs.take (.there .here)) (by simp) (by omega)) ?_)
     clear hs
     rintro _ w ⟨v3,rfl,hs⟩
     refine ⟨_,rfl,?_⟩
     refine gz ?_
     refine cX hs.to ?_
     refine hJ rfl ?_
     obtain ⟨av,cv,hv,-⟩:=(hs.take .here).ay
     subst hv
     refine bD hs ?_
     clear hs
     intro w hs
     refine gz ?_
     refine cA rfl ?_
     refine fA ?_
     simp only [List.nil_append] at hs
     exact bg (b7,.slice av _ cv) ⟨rfl,rfl,rfl,rfl,trivial⟩ hs.to
   ·refine aS hs ?_
    clear hs
    intro w b7 hs
    refine gz ?_
    refine cX hs.to ?_
    refine hJ rfl ?_
    refine ae (met (dr (N:=s1.seq) (k:=8) (hs.take (.there .here)) (by omega) (by simp)) ?_)
    clear hs
    rintro _ w ⟨v2,rfl,hs⟩
    refine ⟨_,rfl,?_⟩
    refine gz ?_
    refine cX hs.to ?_
    refine hJ rfl ?_
    refine ae (met (gw (s:=s1.log) (hs.take .here) (by simp) (by omega)) ?_)
    clear hs
    rintro _ w ⟨v3,rfl,hs⟩
    refine ⟨_,rfl,?_⟩
    refine gz ?_
    refine cX hs.to ?_
    refine hJ rfl ?_
    obtain ⟨av,cv,hv,-⟩:=(hs.take .here).ay
    subst hv
    refine bD hs ?_
    clear hs
    intro w hs
    refine gz ?_
    refine cA rfl ?_
    refine fA ?_
    simp only [List.nil_append] at hs
    exact bg (b7,.slice av _ cv) ⟨rfl,rfl,rfl,rfl,trivial⟩ hs.to
  ·refine aS hs ?_
   clear hs
   intro w b7 hs
   refine gz ?_
   refine cX hs.to ?_
   refine hJ rfl ?_
   refine ae (met (dr (v:=.slice none 0 0) (bs:=[]) (N:=s1.number) (k:=8) (hs.cP (k:=1) (E:=5)) (by omega) (by simp)) ?_)
   clear hs
   rintro _ w ⟨v1,rfl,hs⟩
   refine ⟨_,rfl,?_⟩
   refine gz ?_
   refine cX hs.to ?_
   refine hJ rfl ?_
   refine ae (met (dr (N:=s1.seq) (k:=8) (hs.take .here) (by omega) (by simp)) ?_)
   clear hs
   rintro _ w ⟨v2,rfl,hs⟩
   refine ⟨_,rfl,?_⟩
   refine gz ?_
   refine cX hs.to ?_
   refine hJ rfl ?_
   refine ae (met (gw (s:=s1.log) (hs.take .here) (by simp) (by omega)) ?_)
   clear hs
   rintro _ w ⟨v3,rfl,hs⟩
   refine ⟨_,rfl,?_⟩
   refine gz ?_
   refine cX hs.to ?_
   refine hJ rfl ?_
   obtain ⟨av,cv,hv,-⟩:=(hs.take .here).ay
   subst hv
   refine bD hs ?_
   clear hs
   intro w hs
   refine gz ?_
   refine cA rfl ?_
   refine fA ?_
   simp only [List.nil_append] at hs
   exact bg (b7,.slice av _ cv) ⟨rfl,rfl,rfl,rfl,trivial⟩ hs.to
 clear hs
 rintro ⟨b7,vb⟩ w hs
 dsimp only at hs
 have hs:=Sat.imp (hs.to (a:=eT K.d z.l0 t0::eT K.d z.l1 t1::eT K.d z.l2 t2::eT K.d z.l3 t3::blk b7 93 [vb]::cC vb (sV s1)::blk bS 31 [au b]::blk b 133 (aj K z s1)::blk b5 9 [str s.log]::ag K.d D1::F)) fun _ k=>dJ (a:=[eT K.d z.l0 t0,eT K.d z.l1 t1,eT K.d z.l2 t2,eT K.d z.l3 t3]) k
 have hlz:[eT K.d z.l0 t0,eT K.d z.l1 t1,eT K.d z.l2 t2,eT K.d z.l3 t3]=List.zipWith (eT K.d) [z.l0,z.l1,z.l2,z.l3] s1.levels:=by rw [hlv1];rfl
 rw [hlz] at hs
 refine eB (α:=Value) (fun _=>[(1,.bool nl),(2,au bS),(5,au b5),(7,au b7)])
  (fun vb w=>Sat W0 (star (List.zipWith (eT K.d) [z.l0,z.l1,z.l2,z.l3] s1.levels)::blk b7 93 [vb]::cC vb (bT s1)::blk bS 31 [au b]::blk b 133 (aj K z s1)::blk b5 9 [str s.log]::ag K.d D1::F) w) ?_ ?_
 ·refine gx ?_
  refine aL (α:=Nat×Value) (fun q=>[(1,.bool nl),(2,au bS),(5,au b5),(7,au b7),(56,.agg #[z.l0,z.l1,z.l2,z.l3]),(57,.int .i64 (q.1:Int))])
   (fun q w=>q.1≤4∧Sat W0 (star (List.zipWith (eT K.d) [z.l0,z.l1,z.l2,z.l3] s1.levels)::blk b7 93 [q.2]::cC q.2 (sV s1++eM 0 (s1.levels.take q.1))::blk bS 31 [au b]::blk b 133 (aj K z s1)::blk b5 9 [str s.log]::ag K.d D1::F) w) (fun q=>4-q.1) (0,vb) ⟨rfl,rfl,rfl,rfl,rfl,rfl,trivial⟩ ⟨by simp,by simp only [List.take_zero,eM,List.append_nil];exact hs⟩ ?_
  clear hs
  rintro ⟨i,vb⟩ w ⟨hi,hs⟩
  dsimp only at hi hs
  have hl4:s1.levels.length=4:=by rw [hlv1];rfl
  by_cases hlt:i<4
  ·have hgl:s1.levels[i]?=some s1.levels[i]:=List.getElem?_eq_getElem (by omega)
   have hgv:[z.l0,z.l1,z.l2,z.l3][i]?=some [z.l0,z.l1,z.l2,z.l3][i]:=List.getElem?_eq_getElem (by simpa using hlt)
   have htk:s1.levels.take (i+1)=s1.levels.take i++[s1.levels[i]]:=by rw [List.take_add_one,hgl];rfl
   have hfi:=f4 _ (List.mem_of_getElem? hgl)
   have hzi:=dm (eT K.d) hgv hgl
   generalize s1.levels[i]=Ts at hgl htk hfi hzi
   generalize [z.l0,z.l1,z.l2,z.l3][i]=lv at hgv hzi
   have hsp:=dG hzi
   rw [hsp] at hs
   have hs:=hs.eS
   obtain ⟨ps,hps,hs⟩:=hs.ix
   obtain ⟨al,cl,rfl,-⟩:=hs.ay
   have htot:(sV s1++eM 0 (s1.levels.take i)++(Ts.map fun T=>UInt8.ofNat i::bE T.name).flatten).length≤1200000000:=by
    refine Nat.le_trans ?_ hstl
    have e1:eM 0 (s1.levels.take (i+1))=eM 0 (s1.levels.take i)++(Ts.map fun T=>UInt8.ofNat i::bE T.name).flatten:=by
     rw [htk,ry]
     have:(s1.levels.take i).length=i:=by simp;omega
     rw [this,Nat.zero_add]
    have e2:bT s1=sV s1++eM 0 (s1.levels.take (i+1))++eM (i+1) (s1.levels.drop (i+1)):=by
     have e3:=uJ s1.levels (i+1) 0 (by omega)
     rw [Nat.zero_add] at e3
     rw [rz,e3,List.append_assoc]
    rw [e2,e1]
    simp only [List.length_append];omega
   have hint:((i:Int)<4):=by omega
   refine gx ?_
   refine Ci (m:=i) (vs:=[z.l0,z.l1,z.l2,z.l3]) rfl rfl rfl rfl rfl rfl hlt hgv rfl ?_
   refine gx ?_
   refine aL (α:=Nat×Value) (fun q=>[(1,.bool nl),(2,au bS),(5,au b5),(7,au b7),(56,.agg #[z.l0,z.l1,z.l2,z.l3]),(57,.int .i64 (i:Int)),(8,.int .i64 (i:Int)),(61,.slice al ps.length cl),(62,.int .i64 (ps.length:Int)),(63,.int .i64 (q.1:Int))])
    (fun q w=>q.1≤ps.length∧Sat W0 (aE 1 (.slice al ps.length cl) 193 ps.length (ps.map au)::star (List.zipWith (cG K.d) ps Ts)::star ((List.zipWith (eT K.d) [z.l0,z.l1,z.l2,z.l3] s1.levels).take i++(List.zipWith (eT K.d) [z.l0,z.l1,z.l2,z.l3] s1.levels).drop (i+1))::blk b7 93 [q.2]::cC q.2 (sV s1++eM 0 (s1.levels.take i)++((Ts.take q.1).map fun T=>UInt8.ofNat i::bE T.name).flatten)::blk bS 31 [au b]::blk b 133 (aj K z s1)::blk b5 9 [str s.log]::ag K.d D1::F) w) (fun q=>ps.length-q.1) (0,vb) ⟨rfl,rfl,rfl,rfl,rfl,rfl,rfl,rfl,rfl,rfl,trivial⟩ ⟨Nat.zero_le _,by simp only [List.take_zero,List.map_nil,List.flatten_nil,List.append_nil];exact hs⟩ ?_
   clear hs
   rintro ⟨j,vb⟩ w ⟨hj,hs⟩
   dsimp only at hj hs
   by_cases hlj:j<ps.length
   ·have gp:ps[j]?=some ps[j]:=List.getElem?_eq_getElem hlj
    have gT:Ts[j]?=some (Ts[j]'(by omega)):=List.getElem?_eq_getElem (by omega)
    have htj:Ts.take (j+1)=Ts.take j++[Ts[j]'(by omega)]:=by rw [List.take_add_one,gT];rfl
    have hzj:=dm (cG K.d) gp gT
    have hnm:=hfi.2 _ (List.mem_of_getElem? gT)
    generalize Ts[j]'(by omega)=T at gT htj hzj hnm
    generalize ps[j]=p at gp hzj
    have hspj:=dG hzj
    obtain ⟨bq,cap,rs,hv,q1,q2,q3,hs2⟩:=hs.dV (by omega)
    obtain ⟨rfl,_,rfl⟩:=Value.slice.inj hv
    have hcell:(ps.map au++rs)[0+j*1]?=some (au p):=by
     rw [Nat.zero_add,Nat.mul_one,List.getElem?_append_left (by simpa using hlj),List.getElem?_map,gp];rfl
    have hpre:(sV s1++eM 0 (s1.levels.take i)++((Ts.take j).map fun T=>UInt8.ofNat i::bE T.name).flatten).length≤1200000000:=by
     refine Nat.le_trans ?_ htot
     have:Ts=Ts.take j++Ts.drop j:=(List.take_append_drop j Ts).symm
     conv=>rhs;rw [this]
     rw [List.map_append,List.flatten_append]
     simp only [List.length_append];omega
    refine gx ?_
    refine cL (i:=j) rfl rfl rfl rfl rfl hlj rfl ?_
    refine eC hs2 rfl rfl .here hcell rfl ?_
    clear hs2
    have hs:=hs.take (.there .here)
    rw [hspj] at hs
    obtain ⟨bv,hs⟩:=hs.eS.lr
    refine gx ?_
    refine bU [blk b7 93 [vb],sT p 200 [str T.name,str T.first,str T.last,.int .i64 (T.count:Int),au K.d,bv]] [(0,false),(1,false),(2,false),(5,false),(6,false),(7,false),(8,false),(9,false),(3,true),(4,true),(10,true),(11,true)] hs (by kernel_rfl) ?_
    clear hs
    intro w hs
    refine gx ?_
    rw [wrap_u8]
    refine fw hs ?_
    clear hs
    intro w b9 hs
    refine gx ?_
    refine zl (UInt8.ofNat i) hs rfl rfl (by repeat (first|exact Take.here|apply Take.there)) (by repeat (first|exact Take.here|apply Take.there)) (by omega) rfl ?_
    clear hs
    intro v8 w hs
    refine gx ?_
    refine ae (met (gw (s:=T.name) hs (by rw [List.length_append];simp only [List.length_cons,List.length_nil];omega) (by omega)) ?_)
    clear hs
    rintro _ w ⟨v9,rfl,hs⟩
    obtain ⟨a9,c9,hv9,-⟩:=hs.ay
    obtain ⟨n9,hn9⟩:∃ n9,v9=.slice a9 n9 c9:=⟨_,hv9⟩
    clear hv9
    subst hn9
    refine ⟨_,rfl,gx ?_⟩
    refine bD hs ?_
    clear hs
    intro w hs
    refine gx ?_
    refine aB (j+1,.slice a9 n9 c9) ⟨rfl,rfl,rfl,rfl,rfl,rfl,rfl,rfl,rfl,rfl,trivial⟩ ⟨hlj,?_⟩ (by show _-(j+1)<_-j;omega)
    dsimp only
    rw [htj,List.map_append,List.flatten_append,List.map_cons,List.map_nil,List.flatten_cons,List.flatten_nil,List.append_nil]
    have e5:sV s1++eM 0 (s1.levels.take i)++((Ts.take j).map fun T=>UInt8.ofNat i::bE T.name).flatten++[UInt8.ofNat i]++bE T.name=sV s1++eM 0 (s1.levels.take i)++(((Ts.take j).map fun T=>UInt8.ofNat i::bE T.name).flatten++UInt8.ofNat i::bE T.name):=by simp
    rw [e5] at hs
    rw [hspj]
    have hs:=(hs.to (a:=cG K.d p T::star ((List.zipWith (cG K.d) ps Ts).take j++(List.zipWith (cG K.d) ps Ts).drop (j+1))::aE 1 (.slice (some ⟨bq,0,none⟩) ps.length cl) 193 ps.length (ps.map au)::star ((List.zipWith (eT K.d) [z.l0,z.l1,z.l2,z.l3] s1.levels).take i++(List.zipWith (eT K.d) [z.l0,z.l1,z.l2,z.l3] s1.levels).drop (i+1))::blk b7 93 [.slice a9 n9 c9]::cC (.slice a9 n9 c9) (sV s1++eM 0 (s1.levels.take i)++(((Ts.take j).map fun T=>UInt8.ofNat i::bE T.name).flatten++UInt8.ofNat i::bE T.name))::blk bS 31 [au b]::blk b 133 (aj K z s1)::blk b5 9 [str s.log]::ag K.d D1::F)).eK
    exact hs.to
   ·have hje:j=ps.length:=by omega
    subst hje
    rw [hps,List.take_length] at hs
    have e1:eM 0 (s1.levels.take (i+1))=eM 0 (s1.levels.take i)++(Ts.map fun T=>UInt8.ofNat i::bE T.name).flatten:=by
     rw [htk,ry]
     have:(s1.levels.take i).length=i:=by simp;omega
     rw [this,Nat.zero_add]
    rw [← hps] at hs
    have hs:=(Sat.jj hps hs)
    rw [List.append_assoc,← e1] at hs
    refine gx ?_
    refine aB (i+1,vb) ⟨rfl,rfl,rfl,rfl,rfl,rfl,trivial⟩ ⟨hlt,?_⟩ (by show 4-(i+1)<4-i;omega)
    dsimp only
    rw [hsp]
    have hs:=hs.eK
    exact hs.to
  ·have hi4:i=4:=by omega
   subst hi4
   have e1:s1.levels.take 4=s1.levels:=List.take_of_length_le (by omega)
   rw [e1,← rz] at hs
   have hnlt:¬ ((4:Int)<4):=by omega
   refine gx ?_
   exact bg vb ⟨rfl,rfl,rfl,rfl,trivial⟩ hs
 clear hs
 intro vb w hs
 generalize hG:(⟨b,bS,b5,b7,K,z,s1,vb,s.log⟩:ND)=G
 obtain ⟨kk,hk,hkk⟩:∃ kk,kk≤6∧py s1 (if nl=true then (if s.log=[] then none else some s.log) else none)=(Is G).take kk∧5≤kk∧(kk=6↔nl=true∧s.log≠[]):=by
  subst hG
  cases nl with
  | false=>exact ⟨5,by omega,rfl,by omega,by simp⟩
  | true=>
   by_cases hl:s.log=[]
   ·exact ⟨5,by omega,by simp [hl];rfl,by omega,by simp [hl]⟩
   ·exact ⟨6,by omega,by simp [hl,py,Is],by omega,by simp [hl]⟩
 obtain ⟨hst,hk5,hk6⟩:=hkk
 rw [hst] at hrun
 have hs:Sat W0 (Ir G D1++star (List.zipWith (eT K.d) [z.l0,z.l1,z.l2,z.l3] s1.levels)::F) w:=by subst hG;exact hs.to
 have hGK:G.K=K:=by subst hG;rfl
 dsimp only [Ir,List.cons_append,List.nil_append] at hs
 refine dU ?_
 refine gz ?_
 subst hG
 dsimp only at hs hGK
 refine gz ?_
 refine gN ((JQ ⟨b,bS,b5,b7,K,z,s1,vb,s.log⟩).take 5) hs ?_
 clear hs
 intro w bl hs
 refine gz ?_
 refine db rfl ?_
 have hs:=Sat.dK (k:=1) (cap:=5) (len:=5) (cs:=(JQ ⟨b,bS,b5,b7,K,z,s1,vb,s.log⟩).take 5) (rest:=[]) (E:=107) hs (by omega) (by simp [maxLen]) rfl rfl (by
  intro u hu
  simp [JQ] at hu
  rcases hu with rfl|rfl|rfl|rfl|rfl<;>rfl)
 refine eB (α:=Value) (fun sv=>[(12,sv)])
  (fun sv w=>Sat W0 (aE 1 sv 107 kk ((JQ ⟨b,bS,b5,b7,K,z,s1,vb,s.log⟩).take kk)::Ir ⟨b,bS,b5,b7,K,z,s1,vb,s.log⟩ D1++star (List.zipWith (eT K.d) [z.l0,z.l1,z.l2,z.l3] s1.levels)::F) w) ?_ ?_
 ·dsimp only [Ir,List.cons_append,List.nil_append]
  by_cases hc:nl=true∧s.log≠[]
  ·have h6:=hk6.2 hc
   subst h6
   obtain ⟨rfl,hne⟩:=hc
   refine gx ?_
   refine fw hs ?_
   clear hs
   intro w b9 hs
   refine dF hs ?_
   clear hs
   intro v9 w hs
   refine gx ?_
   exact bg v9 ⟨rfl,trivial⟩ hs.to
  ·have h5:kk=5:=by
    have:¬ kk=6:=fun h=>hc (hk6.1 h)
    omega
   subst h5
   cases nl with
   | false=>
    refine gx ?_
    exact bg (.slice (some ⟨bl,0,none⟩) 5 5) ⟨rfl,trivial⟩ hs
   | true=>
    have hle:¬ s.log≠[]:=fun h=>hc ⟨rfl,h⟩
    refine gx ?_
    exact bg (.slice (some ⟨bl,0,none⟩) 5 5) ⟨rfl,trivial⟩ hs
 clear hs
 intro sv w hs
 dsimp only [Ir,List.cons_append,List.nil_append] at hs
 have hkl:((JQ ⟨b,bS,b5,b7,K,z,s1,vb,s.log⟩).take kk).length=kk:=by simp [JQ];omega
 obtain ⟨asv,csv,rfl,-⟩:=hs.ay
 refine gx ?_
 refine aL (α:=Nat×ad) (fun q=>[(99,.slice asv kk csv),(100,.int .i64 (kk:Int)),(101,.int .i64 (q.1:Int))])
  (fun q w=>(q.1≤kk∧eW (((Is ⟨b,bS,b5,b7,K,z,s1,vb,s.log⟩).take kk).drop q.1) q.2=some (eo,D'))∧Sat W0 (aE 1 (.slice asv kk csv) 107 kk ((JQ ⟨b,bS,b5,b7,K,z,s1,vb,s.log⟩).take kk)::Ir ⟨b,bS,b5,b7,K,z,s1,vb,s.log⟩ q.2++star (List.zipWith (eT K.d) [z.l0,z.l1,z.l2,z.l3] s1.levels)::F) w) (fun q=>kk-q.1) (0,D1) ⟨rfl,rfl,rfl,trivial⟩ ⟨⟨Nat.zero_le _,hrun⟩,hs⟩ ?_
 clear hs hrun
 rintro ⟨i,D3⟩ w ⟨⟨hi,hrun⟩,hs⟩
 dsimp only [Ir,List.cons_append,List.nil_append] at hi hrun hs
 by_cases hlt:i<kk
 ·have hol:i<((Is ⟨b,bS,b5,b7,K,z,s1,vb,s.log⟩).take kk).length:=by simp [Is];omega
  have hgo:((Is ⟨b,bS,b5,b7,K,z,s1,vb,s.log⟩).take kk)[i]?=some (((Is ⟨b,bS,b5,b7,K,z,s1,vb,s.log⟩).take kk)[i]):=List.getElem?_eq_getElem hol
  rw [List.drop_eq_getElem_cons hol] at hrun
  generalize ((Is ⟨b,bS,b5,b7,K,z,s1,vb,s.log⟩).take kk)[i]=o at hgo hrun
  unfold eW at hrun
  cases hr:eL D3 o with
  | none=>rw [hr] at hrun;cases hrun
  | some r=>
   obtain ⟨e1,D4⟩:=r
   rw [hr] at hrun
   have hgo':(Is ⟨b,bS,b5,b7,K,z,s1,vb,s.log⟩)[i]?=some o:=by
    rw [List.getElem?_take] at hgo;rw [if_pos hlt] at hgo;exact hgo
   obtain ⟨bq,cap,rs,hv,q1,q2,q3,hs2⟩:=hs.dV (by omega)
   obtain ⟨rfl,_,rfl⟩:=Value.slice.inj hv
   obtain ⟨f,pp,qq,hcf,hff,hcall⟩:=Co (G:=⟨b,bS,b5,b7,K,z,s1,vb,s.log⟩) (F:=star (List.zipWith (eT K.d) [z.l0,z.l1,z.l2,z.l3] s1.levels)::aE 1 (.slice (some ⟨bq,0,none⟩) kk csv) 107 kk ((JQ ⟨b,bS,b5,b7,K,z,s1,vb,s.log⟩).take kk)::F) (by show (bT s1).length≤_;omega) hgo' hr hs.to
   have hcell:((JQ ⟨b,bS,b5,b7,K,z,s1,vb,s.log⟩).take kk++rs)[0+i*1]?=some (.func (.func f) pp qq):=by
    rw [Nat.zero_add,Nat.mul_one,List.getElem?_append_left (by omega),List.getElem?_take,if_pos hlt];exact hcf
   refine gx ?_
   refine cL (i:=i) rfl rfl rfl rfl rfl hlt rfl ?_
   refine eC hs2 rfl rfl .here hcell rfl ?_
   clear hs2
   refine gx ?_
   refine il rfl hff rfl rfl (met hcall ?_)
   clear hs hcall
   rintro _ w ⟨ve,rfl,hs⟩
   dsimp only [Ir,List.cons_append,List.nil_append] at hs
   refine ⟨_,rfl,?_⟩
   cases e1 with
   | some e=>
    simp only [Option.some.injEq,Prod.mk.injEq] at hrun
    obtain ⟨rfl,rfl⟩:=hrun
    obtain ⟨t,u,rfl⟩:=(hs.take (.there (.there (.there (.there (.there (.there .here))))))).aW
    refine gx ?_
    refine ak rfl ⟨_,s1,rfl,fun r hr=>(by rw [hx] at hr;cases hr),⟨nu,lo,hs1⟩,?_⟩
    rw [hx]
    have hs:=hs.to (a:=star (List.zipWith (eT K.d) [z.l0,z.l1,z.l2,z.l3] s1.levels)::blk b 133 (aj K z s1)::ag K.d D4::ax (.iface t u) (some e)::F)
    rw [← hlz] at hs
    have hs:=hs.imp fun _ k=>dI k
    exact hs.to
   | none=>
    dsimp only at hrun
    have hve:=(hs.take (.there (.there (.there (.there (.there (.there .here))))))).cF
    subst hve
    refine gx ?_
    exact aB (i+1,D4) ⟨rfl,rfl,rfl,trivial⟩ ⟨⟨hlt,hrun⟩,hs.to⟩ (by show kk-(i+1)<kk-i;omega)
 ·have hik:i=kk:=by omega
  subst hik
  rw [List.drop_of_length_le (List.length_take_le _ _)] at hrun
  simp only [eW,Option.some.injEq,Prod.mk.injEq] at hrun
  obtain ⟨rfl,rfl⟩:=hrun
  refine gx ?_
  refine ak rfl ⟨_,s1,rfl,fun r hr=>(by rw [hx] at hr;cases hr;rfl),⟨nu,lo,hs1⟩,?_⟩
  have hs:=Sat.ei hs
  rw [hx]
  have hs:=hs.to (a:=star (List.zipWith (eT K.d) [z.l0,z.l1,z.l2,z.l3] s1.levels)::blk b 133 (aj K z s1)::ag K.d D3::ax .nilIface none::F)
  rw [← hlz] at hs
  have hs:=hs.imp fun _ k=>dI k
  exact hs.to
end
section
open Go.Proofs.YtecibefflhomdaaGreatDoor.Pure (ad az Rd bI less aQ aZ bM bE aD cY dec j3)
attribute [local irreducible] IntKind.wrap
variable {W0 w:World} {F:List ah} {v:Value} {d m p:Nat} {T:cD} {D D':ad} {M:List az}
def SZ.vN (z:SZ):List Value:=[z.l0,z.l1,z.l2,z.l3]
def SZ.put (z:SZ) (i:Nat) (v:Value):SZ:=match i with
 | 0=>{ z with l0:=v }
 | 1=>{ z with l1:=v }
 | 2=>{ z with l2:=v }
 | _=>{ z with l3:=v }
theorem yu {K:SK} {z:SZ} {s:St} {i:Nat} (hi:i<4) (hv:z.vN[i]?=some v):(aj K z s)[0+7+((i:Int)).toNat*1]?=some v:=by
 match i,hi,hv with
 | 0,_,hv=>exact hv
 | 1,_,hv=>exact hv
 | 2,_,hv=>exact hv
 | 3,_,hv=>exact hv
theorem Cr {K:SK} {z:SZ} {s:St} {i:Nat} (hi:i<4) (v:Value):(aj K z s).set (0+7+((i:Int)).toNat*1) v=aj K (z.put i v) s:=by
 match i,hi with
 | 0,_=>rfl
 | 1,_=>rfl
 | 2,_=>rfl
 | 3,_=>rfl
theorem KA {z:SZ} {i:Nat} (hi:i<4) (v:Value):(z.put i v).vN=z.vN.set i v:=by
 match i,hi with
 | 0,_=>rfl
 | 1,_=>rfl
 | 2,_=>rfl
 | 3,_=>rfl
@[simp] theorem NF (z:SZ) (i:Nat) (v:Value):(z.put i v).m=z.m:=by unfold SZ.put;split<;>rfl
@[simp] theorem Mu (z:SZ) (i:Nat) (v:Value):(z.put i v).sn=z.sn:=by unfold SZ.put;split<;>rfl
def dQ (d:Nat) (z:SZ) (Ls:List (List cD)):ah:=star (List.zipWith (eT d) z.vN Ls)
def Cs (d:Nat) (z:SZ) (Ls:List (List cD)) (i:Nat):ah:=star ((List.zipWith (eT d) z.vN Ls).take i++(List.zipWith (eT d) z.vN Ls).drop (i+1))
theorem Sat.nP {z:SZ} {Ls:List (List cD)} {i:Nat} {L:List cD} (hg:Ls[i]?=some L) (hi:i<4) (h:Sat W0 (dQ d z Ls::F) w):∃ v,z.vN[i]?=some v∧Sat W0 (eT d v L::Cs d z Ls i::F) w:=by
 have hv:z.vN[i]?=some (z.vN[i]'(by simpa [SZ.vN] using hi)):=List.getElem?_eq_getElem _
 refine ⟨_,hv,?_⟩
 have hz:=dm (eT d) hv hg
 unfold dQ at h
 rw [dG hz] at h
 exact h.eS
theorem Sat.Ct {z:SZ} {Ls:List (List cD)} {i:Nat} {L:List cD} (hg:Ls[i]?=some L) (hv:z.vN[i]?=some v) (h:Sat W0 (eT d v L::Cs d z Ls i::F) w):Sat W0 (dQ d z Ls::F) w:=by
 have hz:=dm (eT d) hv hg
 unfold dQ
 rw [dG hz]
 exact h.eK
theorem mQ {α β γ:Type} (f:α→β→γ):∀ {xs:List α} {ys:List β} {i:Nat} (x:α) (y:β),i<xs.length→i<ys.length→List.zipWith f (xs.set i x) (ys.set i y)=(List.zipWith f xs ys).take i++f x y::(List.zipWith f xs ys).drop (i+1)
 | a::xs,b::ys,0,x,y,_,_=>by simp
 | a::xs,b::ys,i+1,x,y,hx,hy=>by
  simp at hx hy
  simp [mQ f x y hx hy]
theorem Sat.Ep {z:SZ} {Ls:List (List cD)} {i:Nat} {L:List cD} (hi:i<4) (hL:Ls.length=4) (h:Sat W0 (eT d v L::Cs d z Ls i::F) w):Sat W0 (dQ d (z.put i v) (Ls.set i L)::F) w:=by
 unfold dQ
 rw [KA hi,mQ _ _ _ (by simpa [SZ.vN] using hi) (by omega)]
 exact h.eK
theorem Iu {z:SZ} {t0 t1 t2 t3:List cD}:dQ d z [t0,t1,t2,t3]=star [eT d z.l0 t0,eT d z.l1 t1,eT d z.l2 t2,eT d z.l3 t3]:=rfl
theorem Sat.Cu {z:SZ} {t0 t1 t2 t3:List cD} (h:Sat W0 (eT d z.l0 t0::eT d z.l1 t1::eT d z.l2 t2::eT d z.l3 t3::F) w):Sat W0 (dQ d z [t0,t1,t2,t3]::F) w:=by
 rw [Iu];exact h.imp fun _ k=>dJ (a:=[eT d z.l0 t0,eT d z.l1 t1,eT d z.l2 t2,eT d z.l3 t3]) k
theorem Sat.Iw {z:SZ} {t0 t1 t2 t3:List cD} (h:Sat W0 (dQ d z [t0,t1,t2,t3]::F) w):Sat W0 (eT d z.l0 t0::eT d z.l1 t1::eT d z.l2 t2::eT d z.l3 t3::F) w:=by
 rw [Iu] at h;exact h.imp fun _ k=>dI k
theorem four {α:Type} {l:List α} (h:l.length=4):∃ a b c d,l=[a,b,c,d]:=by
 match l,h with
 | [a,b,c,d],_=>exact ⟨a,b,c,d,rfl⟩
theorem uK {b:Nat} {K:SK} {z:SZ} {s:St} {nl:Bool} {x:Except cy St} (h:gG s D nl=some (x,D')) (hl:s.levels.length=4) (hW:jB W0)
 (hs:Sat W0 (blk b 133 (aj K z s)::dQ K.d z s.levels::ag K.d D::F) w) :
 Calls Tryz.prog 100 #[au b,.bool nl] w fun y w'=>∃ ve s',y=.returned ve∧(∀ r,x=.ok r→s'=r)∧(∃ nu lo,s'={ s with number:=nu,log:=lo }) ∧
  Sat W0 (blk b 133 (aj K z s')::dQ K.d z s.levels::ag K.d D'::ax ve (dk x)::F) w':=by
 obtain ⟨t0,t1,t2,t3,hlv⟩:=four hl
 rw [hlv] at hs
 have hs:=(hs.take (.there .here)).Iw
 refine (Aj h hlv hW hs.to).mono ?_
 rintro _ w' ⟨ve,s',rfl,h1,h2,hs⟩
 refine ⟨ve,s',rfl,h1,h2,?_⟩
 rw [hlv]
 exact ((hs.to (a:=eT K.d z.l0 t0::eT K.d z.l1 t1::eT K.d z.l2 t2::eT K.d z.l3 t3::blk b 133 (aj K z s')::ag K.d D'::ax ve (dk x)::F)).Cu).to
theorem Sat.Lr (h:Sat W0 F w):Sat W0 (yq d m (.slice none 0 0) []::F) w:=by
 refine Sat.close (B:=[aE 1 (.slice none 0 0) 288 0 [],star (List.zipWith (lL d m) [] [])]) (Sat.cP (k:=1) (E:=288) ((h.imp fun hp k=>(⟨fun _=>none,hp,fun _ _ _ hx=>(by cases hx),fun _ _ hx=>(by cases hx),Hp.le_refl _,trivial,k⟩:cV (star (List.zipWith (lL d m) [] [])::F) hp)))) fun hp k=>⟨[],rfl,k⟩
theorem Sat.Cv {its:List It} {it:It} {rv u:Value} {vs:List Value} (h1:vs.length=its.length) (h:Sat W0 (aE 1 rv 288 (vs.length+1) (vs++[u])::star (List.zipWith (lL d m) vs its)::lL d m u it::F) w):Sat W0 (yq d m rv (its++[it])::F) w:=by
 refine Sat.close (B:=[aE 1 rv 288 (vs++[u]).length (vs++[u]),star (List.zipWith (lL d m) (vs++[u]) (its++[it]))]) ?_ fun hp k=>⟨vs++[u],by simp [h1],k⟩
 rw [List.zipWith_append (by exact h1),List.length_append]
 have h2:Sat W0 (lL d m u it::star (List.zipWith (lL d m) vs its++[])::aE 1 rv 288 (vs.length+1) (vs++[u])::F) w:=by
  rw [List.append_nil];exact h.to
 have h3:=h2.eK
 exact h3.to
end
end Go.Proofs.YtecibefflhomdaaGreatDoor
