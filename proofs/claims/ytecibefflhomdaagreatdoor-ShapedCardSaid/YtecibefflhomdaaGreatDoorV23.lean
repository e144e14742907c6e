/-
  Part 23: WALKS package levels; WALKS package levels.
-/
import Derived.Test.YtecibefflhomdaaGreatDoorV22
set_option maxHeartbeats 8000000
set_option maxRecDepth 100000
set_option linter.all false
namespace Go.Proofs.YtecibefflhomdaaGreatDoor
open Go
section
open Go.Proofs.YtecibefflhomdaaGreatDoor.Pure (ae aB Rd bH less aR aZ bL bC aF dj dec kj)
attribute [local irreducible] IntKind.wrap
variable {W0 w:World} {F:List ax} {v:Value} {d m p:Nat} {T:bN} {D D':ae} {M:List aB}
theorem yl:∀ (ls:List (List bN)) (i:Nat),(∀ l∈ls,l.length≤1048576∧∀ T∈l,T.name.length≤255)→(eN i ls).length≤ls.length*269484032
 | [],_,_=>by simp [eN]
 | l::r,i,h=>by
  have ih:=yl r (i+1) fun x hx=>h x (List.mem_cons_of_mem _ hx)
  obtain ⟨h1,h2⟩:=h l List.mem_cons_self
  have key:∀ (l:List bN),(∀ T∈l,T.name.length≤255)→((l.map fun T=>UInt8.ofNat i::bC T.name).flatten).length≤l.length*257:=by
   intro l
   induction l with
   | nil=>intro _;simp
   | cons T q ihq=>
    intro hl
    have a1:=hl T List.mem_cons_self
    have a2:=ihq fun x hx=>hl x (List.mem_cons_of_mem _ hx)
    simp only [List.map_cons,List.flatten_cons,List.length_append,List.length_cons,Pure.dH] at a2 ⊢
    omega
  have:=key l h2
  simp only [eN,List.length_append,List.length_cons]
  omega
theorem r8:∀ (a:List (List bN)) (k:Nat) (l:List bN),eN k (a++[l])=eN k a++(l.map fun T=>UInt8.ofNat (k+a.length)::bC T.name).flatten
 | [],k,l=>by simp [eN]
 | x::a,k,l=>by
  simp only [List.cons_append,eN,r8 a (k+1) l,List.append_assoc,List.length_cons]
  rw [show k+1+a.length=k+(a.length+1) by omega]
theorem vS:∀ (ls:List (List bN)) (i k:Nat),i≤ls.length→eN k ls=eN k (ls.take i)++eN (k+i) (ls.drop i)
 | _,0,k,_=>by simp [eN]
 | [],i+1,k,h=>by simp at h
 | l::r,i+1,k,h=>by
  simp only [List.take_succ_cons,List.drop_succ_cons,eN,List.append_assoc]
  rw [vS r i (k+1) (by simpa using h),show k+1+i=k+(i+1) by omega]
theorem Ek {s:St} (h:s8 s=true):s.number≤4611686018427387904∧s.seq≤4611686018427387904∧s.log.length≤255∧∀ l∈s.levels,l.length≤1048576∧∀ T∈l,T.name.length≤255:=by
 unfold s8 at h
 simp only [Bool.and_eq_true,decide_eq_true_eq,Nat.ble_eq,List.all_eq_true] at h
 exact ⟨h.1.1.1,h.1.1.2,h.1.2,h.2⟩
def tP (s:St):Bs:=bL s.number 8++bL s.seq 8++bC s.log
theorem r9 (s:St):cw s=tP s++eN 0 s.levels:=rfl
theorem BN {b:Nat} {K:SK} {z:SZ} {s:St} {t0 t1 t2 t3:List bN} {nl:Bool} {x:Except cx St} (h:gP s D nl=some (x,D')) (hlv:s.levels=[t0,t1,t2,t3]) (hW:jF W0)
 (hs:Sat W0 (blk b 133 (ak K z s)::eV K.d z.l0 t0::eV K.d z.l1 t1::eV K.d z.l2 t2::eV K.d z.l3 t3::aj K.d D::F) w) :
 Calls Tryz.prog 100 #[ay b,.bool nl] w fun y w'=>∃ ve s',y=.returned ve∧(∀ r,x=.ok r→s'=r)∧(∃ nu lo,s'={ s with number:=nu,log:=lo }) ∧
  Sat W0 (blk b 133 (ak K z s')::eV K.d z.l0 t0::eV K.d z.l1 t1::eV K.d z.l2 t2::eV K.d z.l3 t3::aj K.d D'::aH ve (cU x)::F) w':=by
 refine enter Tryz.func100 rfl Tryz.ntmps100 Tryz.results100 rfl ?_
 refine gx ?_
 refine bR hs ?_
 clear hs
 intro w bS hs
 refine gx ?_
 refine aS hs ?_
 clear hs
 intro w b5 hs
 refine gx ?_
 refine bK hs ?_
 clear hs
 intro w hs
 refine gE ?_
 refine cV rfl ?_
 refine fh (α:=St×ae) (fun _=>[(1,.bool nl),(2,ay bS),(5,ay b5)])
  (fun q w=>((∃ nu lo,q.1={ s with number:=nu,log:=lo })∧s8 q.1=true∧∃ eo,eZ (p7 q.1 (if nl=true then (if s.log=[] then none else some s.log) else none)) q.2=some (eo,D')∧x=(match eo with|some e=>.error e|none=>.ok q.1)) ∧
    Sat W0 (blk bS 31 [ay b]::blk b 133 (ak K z q.1)::blk b5 9 [str s.log]::eV K.d z.l0 t0::eV K.d z.l1 t1::eV K.d z.l2 t2::eV K.d z.l3 t3::aj K.d q.2::F) w) ?_ ?_
 ·unfold gP at h
  cases nl with
  | false=>
   simp only [Bool.false_eq_true,if_false] at h
   split at h
   ·rename_i hf
    refine gx ?_
    refine bG (s,D) ⟨rfl,rfl,rfl,trivial⟩ ⟨⟨⟨s.number,s.log,rfl⟩,hf,?_⟩,hs.to⟩
    split at h
    ·cases h
    ·rename_i e D2 hr
     simp only [Option.some.injEq,Prod.mk.injEq] at h
     obtain ⟨rfl,rfl⟩:=h
     exact ⟨some e,hr,rfl⟩
    ·rename_i D2 hr
     simp only [Option.some.injEq,Prod.mk.injEq] at h
     obtain ⟨rfl,rfl⟩:=h
     exact ⟨none,hr,rfl⟩
   ·cases h
  | true=>
   simp only [if_true] at h
   by_cases hn:s.number≤4611686018427387904
   case neg=>rw [if_neg hn] at h;cases h
   rw [if_pos hn] at h
   refine gx ?_
   refine bO [blk bS 31 [ay b]] [(0,false),(1,false),(2,true),(3,false),(4,false),(5,true)] hs (by kernel_rfl) ?_
   clear hs
   intro w hs
   refine gx ?_
   refine ag (met (p8 (kind:=[108,111,103]) (hs.take (.there (.there .here))) (by decide) hn hW) ?_)
   clear hs
   rintro _ w ⟨rfl,hs⟩
   refine ⟨_,rfl,gx ?_⟩
   refine bK hs ?_
   clear hs
   intro w hs
   have hs:Sat W0 (blk b 133 (ak K z { s with number:=s.number+1,log:=cj (s.number+1) })::blk b5 9 [str s.log]::blk bS 31 [ay b]::eV K.d z.l0 t0::eV K.d z.l1 t1::eV K.d z.l2 t2::eV K.d z.l3 t3::aj K.d D::F) w:=hs
   refine gx ?_
   refine bO [blk b 133 (ak K z { s with number:=s.number+1,log:=cj (s.number+1) }),blk bS 31 [ay b]] [(0,false),(1,false),(2,false),(3,false),(4,false),(5,false),(6,false),(7,false),(8,true),(9,false)] hs (by kernel_rfl) ?_
   clear hs
   intro w hs
   refine gx ?_
   cases ho:eM D (.create (cj (s.number+1))) with
   | none=>rw [ho] at h;cases h
   | some r=>
    obtain ⟨eo,D1⟩:=r
    rw [ho] at h
    unfold eM at ho
    dsimp only at ho
    split at ho
    ·rename_i hm
     rw [bI] at hm
     simp only [Option.some.injEq,Prod.mk.injEq] at ho
     obtain ⟨rfl,rfl⟩:=ho
     refine ag (met (vj (n:=cj (s.number+1)) (hs.take (.there (.there (.there (.there (.there (.there (.there .here)))))))) hm) ?_)
     clear hs
     rintro _ w ⟨ve,rfl,hs⟩
     refine ⟨_,rfl,?_⟩
     cases hc:gA D (cj (s.number+1)) with
     | some e=>
      rw [hc] at h hs
      simp only [Option.some.injEq,Prod.mk.injEq] at h
      obtain ⟨rfl,rfl⟩:=h
      obtain ⟨t,u,rfl⟩:=(hs.take (.there .here)).aQ
      refine gx ?_
      refine ah rfl ⟨_,{ s with number:=s.number+1,log:=cj (s.number+1) },rfl,fun r hr=>(by cases hr),⟨_,_,rfl⟩,?_⟩
      exact hs.to
     | none=>
      rw [hc] at h hs
      dsimp only at h
      have hve:=(hs.take (.there .here)).cA
      subst hve
      by_cases hf:s8 { s with number:=s.number+1,log:=cj (s.number+1) }=true
      case neg=>rw [if_neg hf] at h;cases h
      rw [if_pos hf] at h
      refine gx ?_
      refine bG ({ s with number:=s.number+1,log:=cj (s.number+1) },cR D (cj (s.number+1))) ⟨rfl,rfl,rfl,trivial⟩ ⟨⟨⟨_,_,rfl⟩,hf,?_⟩,hs.to⟩
      simp only [if_true]
      split at h
      ·cases h
      ·rename_i e D2 hr
       simp only [Option.some.injEq,Prod.mk.injEq] at h
       obtain ⟨rfl,rfl⟩:=h
       exact ⟨some e,hr,rfl⟩
      ·rename_i D2 hr
       simp only [Option.some.injEq,Prod.mk.injEq] at h
       obtain ⟨rfl,rfl⟩:=h
       exact ⟨none,hr,rfl⟩
    ·cases ho
 clear hs h
 rintro ⟨s1,D1⟩ w ⟨⟨⟨nu,lo,hs1⟩,hfit,eo,hrun,hx⟩,hs⟩
 dsimp only at hs1 hfit hrun hx hs
 have hlv1:s1.levels=[t0,t1,t2,t3]:=by rw [hs1];exact hlv
 obtain ⟨f1,f2,f3,f4⟩:=Ek hfit
 have hstl:(cw s1).length≤1200000000:=by
  have:=yl s1.levels 0 f4
  rw [hlv1] at this
  rw [r9,hlv1]
  simp only [tP,List.length_append,Pure.aV,Pure.dH,List.length_cons,List.length_nil] at this ⊢
  omega
 refine fh (α:=Nat×Value) (fun q=>[(1,.bool nl),(2,ay bS),(5,ay b5),(7,ay q.1)])
  (fun q w=>Sat W0 (blk q.1 93 [q.2]::cI q.2 (tP s1)::blk bS 31 [ay b]::blk b 133 (ak K z s1)::blk b5 9 [str s.log]::eV K.d z.l0 t0::eV K.d z.l1 t1::eV K.d z.l2 t2::eV K.d z.l3 t3::aj K.d D1::F) w) ?_ ?_
 ·refine bu [blk bS 31 [ay b],blk b 133 (ak K z s1)] [0,3,5,8,10,13] (.s 0 (.q 1 (.q 2 (.s 3 (.s 5 (.q 6 (.q 7 (.s 8 (.s 10 (.q 11 (.q 12 (.s 13 (.l2 4 (.l2 9 (.l2 14 (.l 15 (.l 16 .nil)) 15 (.l 14 (.l 16 .nil))) 15 (.l 9 (.l 14 (.l 16 .nil)))) 15 (.l 4 (.l 9 (.l 14 (.l 16 .nil))))))))))))))))) hs (by kernel_rfl) ?_
  clear hs
  intro w hs
  refine nP ?_
  refine Bq rfl rfl ?_ ?_
  ·refine ag (met (dz (v:=.slice none 0 0) (bs:=[]) (N:=s1.number) (k:=8) (hs.cH (k:=1) (E:=5)) (by omega) (by simp)) ?_)
   clear hs
   rintro _ w ⟨v1,rfl,hs⟩
   refine ⟨_,rfl,?_⟩
   refine gE ?_
   refine cD hs.to ?_
   refine Bq rfl rfl ?_ ?_
   ·refine ag (met (dz (N:=s1.seq) (k:=8) (hs.take .here) (by omega) (by simp)) ?_)
    clear hs
    rintro _ w ⟨v2,rfl,hs⟩
    refine ⟨_,rfl,?_⟩
    refine gE ?_
    refine cD hs.to ?_
    refine Bq rfl rfl ?_ ?_
    ·refine ag (met (gJ (s:=s1.log) (hs.take .here) (by simp) (by omega)) ?_)
     clear hs
     rintro _ w ⟨v3,rfl,hs⟩
     refine ⟨_,rfl,?_⟩
     refine gE ?_
     refine cD hs.to ?_
     refine iz rfl ?_
     refine aS hs ?_
     clear hs
     intro w b7 hs
     refine gE ?_
     refine cD hs.to ?_
     refine iz rfl ?_
     obtain ⟨av,cv,hv,-⟩:=(hs.take (.there .here)).aC
     subst hv
     refine bK hs ?_
     clear hs
     intro w hs
     refine gE ?_
     refine dT rfl ?_
     refine fC ?_
     simp only [List.nil_append] at hs
     exact bG (b7,.slice av _ cv) ⟨rfl,rfl,rfl,rfl,trivial⟩ hs.to
    ·refine aS hs ?_
     clear hs
     intro w b7 hs
     refine gE ?_
     refine cD hs.to ?_
     refine iz rfl ?_
     refine ag (met (gJ (s:=s1.log) (hs.take (.there .here)) (by simp) (by omega)) ?_)
     clear hs
     rintro _ w ⟨v3,rfl,hs⟩
     refine ⟨_,rfl,?_⟩
     refine gE ?_
     refine cD hs.to ?_
     refine iz rfl ?_
     obtain ⟨av,cv,hv,-⟩:=(hs.take .here).aC
     subst hv
     refine bK hs ?_
     clear hs
     intro w hs
     refine gE ?_
     refine dT rfl ?_
     refine fC ?_
     simp only [List.nil_append] at hs
     exact bG (b7,.slice av _ cv) ⟨rfl,rfl,rfl,rfl,trivial⟩ hs.to
   ·refine aS hs ?_
    clear hs
    intro w b7 hs
    refine gE ?_
    refine cD hs.to ?_
    refine iz rfl ?_
    refine ag (met (dz (N:=s1.seq) (k:=8) (hs.take (.there .here)) (by omega) (by simp)) ?_)
    clear hs
    rintro _ w ⟨v2,rfl,hs⟩
    refine ⟨_,rfl,?_⟩
    refine gE ?_
    refine cD hs.to ?_
    refine iz rfl ?_
    refine ag (met (gJ (s:=s1.log) (hs.take .here) (by simp) (by omega)) ?_)
    clear hs
    rintro _ w ⟨v3,rfl,hs⟩
    refine ⟨_,rfl,?_⟩
    refine gE ?_
    refine cD hs.to ?_
    refine iz rfl ?_
    obtain ⟨av,cv,hv,-⟩:=(hs.take .here).aC
    subst hv
    refine bK hs ?_
    clear hs
    intro w hs
    refine gE ?_
    refine dT rfl ?_
    refine fC ?_
    simp only [List.nil_append] at hs
    exact bG (b7,.slice av _ cv) ⟨rfl,rfl,rfl,rfl,trivial⟩ hs.to
  ·refine aS hs ?_
   clear hs
   intro w b7 hs
   refine gE ?_
   refine cD hs.to ?_
   refine iz rfl ?_
   refine ag (met (dz (v:=.slice none 0 0) (bs:=[]) (N:=s1.number) (k:=8) (hs.cH (k:=1) (E:=5)) (by omega) (by simp)) ?_)
   clear hs
   rintro _ w ⟨v1,rfl,hs⟩
   refine ⟨_,rfl,?_⟩
   refine gE ?_
   refine cD hs.to ?_
   refine iz rfl ?_
   refine ag (met (dz (N:=s1.seq) (k:=8) (hs.take .here) (by omega) (by simp)) ?_)
   clear hs
   rintro _ w ⟨v2,rfl,hs⟩
   refine ⟨_,rfl,?_⟩
   refine gE ?_
   refine cD hs.to ?_
   refine iz rfl ?_
   refine ag (met (gJ (s:=s1.log) (hs.take .here) (by simp) (by omega)) ?_)
   clear hs
   rintro _ w ⟨v3,rfl,hs⟩
   refine ⟨_,rfl,?_⟩
   refine gE ?_
   refine cD hs.to ?_
   refine iz rfl ?_
   obtain ⟨av,cv,hv,-⟩:=(hs.take .here).aC
   subst hv
   refine bK hs ?_
   clear hs
   intro w hs
   refine gE ?_
   refine dT rfl ?_
   refine fC ?_
   simp only [List.nil_append] at hs
   exact bG (b7,.slice av _ cv) ⟨rfl,rfl,rfl,rfl,trivial⟩ hs.to
 clear hs
 rintro ⟨b7,vb⟩ w hs
 dsimp only at hs
 have hs:=Sat.imp (hs.to (a:=eV K.d z.l0 t0::eV K.d z.l1 t1::eV K.d z.l2 t2::eV K.d z.l3 t3::blk b7 93 [vb]::cI vb (tP s1)::blk bS 31 [ay b]::blk b 133 (ak K z s1)::blk b5 9 [str s.log]::aj K.d D1::F)) fun _ k=>cT (a:=[eV K.d z.l0 t0,eV K.d z.l1 t1,eV K.d z.l2 t2,eV K.d z.l3 t3]) k
 have hlz:[eV K.d z.l0 t0,eV K.d z.l1 t1,eV K.d z.l2 t2,eV K.d z.l3 t3]=List.zipWith (eV K.d) [z.l0,z.l1,z.l2,z.l3] s1.levels:=by rw [hlv1];rfl
 rw [hlz] at hs
 refine fh (α:=Value) (fun _=>[(1,.bool nl),(2,ay bS),(5,ay b5),(7,ay b7)])
  (fun vb w=>Sat W0 (star (List.zipWith (eV K.d) [z.l0,z.l1,z.l2,z.l3] s1.levels)::blk b7 93 [vb]::cI vb (cw s1)::blk bS 31 [ay b]::blk b 133 (ak K z s1)::blk b5 9 [str s.log]::aj K.d D1::F) w) ?_ ?_
 ·refine gx ?_
  refine aJ (α:=Nat×Value) (fun q=>[(1,.bool nl),(2,ay bS),(5,ay b5),(7,ay b7),(56,.agg #[z.l0,z.l1,z.l2,z.l3]),(57,.int .i64 (q.1:Int))])
   (fun q w=>q.1≤4∧Sat W0 (star (List.zipWith (eV K.d) [z.l0,z.l1,z.l2,z.l3] s1.levels)::blk b7 93 [q.2]::cI q.2 (tP s1++eN 0 (s1.levels.take q.1))::blk bS 31 [ay b]::blk b 133 (ak K z s1)::blk b5 9 [str s.log]::aj K.d D1::F) w) (fun q=>4-q.1) (0,vb) ⟨rfl,rfl,rfl,rfl,rfl,rfl,trivial⟩ ⟨by simp,by simp only [List.take_zero,eN,List.append_nil];exact hs⟩ ?_
  clear hs
  rintro ⟨i,vb⟩ w ⟨hi,hs⟩
  dsimp only at hi hs
  have hl4:s1.levels.length=4:=by rw [hlv1];rfl
  by_cases hlt:i<4
  ·have hgl:s1.levels[i]?=some s1.levels[i]:=List.getElem?_eq_getElem (by omega)
   have hgv:[z.l0,z.l1,z.l2,z.l3][i]?=some [z.l0,z.l1,z.l2,z.l3][i]:=List.getElem?_eq_getElem (by simpa using hlt)
   have htk:s1.levels.take (i+1)=s1.levels.take i++[s1.levels[i]]:=by rw [List.take_add_one,hgl];rfl
   have hfi:=f4 _ (List.mem_of_getElem? hgl)
   have hzi:=dN (eV K.d) hgv hgl
   generalize s1.levels[i]=Ts at hgl htk hfi hzi
   generalize [z.l0,z.l1,z.l2,z.l3][i]=lv at hgv hzi
   have hsp:=dx hzi
   rw [hsp] at hs
   have hs:=hs.eU
   obtain ⟨ps,hps,hs⟩:=hs.iW
   obtain ⟨al,cl,rfl,-⟩:=hs.aC
   have htot:(tP s1++eN 0 (s1.levels.take i)++(Ts.map fun T=>UInt8.ofNat i::bC T.name).flatten).length≤1200000000:=by
    refine Nat.le_trans ?_ hstl
    have e1:eN 0 (s1.levels.take (i+1))=eN 0 (s1.levels.take i)++(Ts.map fun T=>UInt8.ofNat i::bC T.name).flatten:=by
     rw [htk,r8]
     have:(s1.levels.take i).length=i:=by simp;omega
     rw [this,Nat.zero_add]
    have e2:cw s1=tP s1++eN 0 (s1.levels.take (i+1))++eN (i+1) (s1.levels.drop (i+1)):=by
     have e3:=vS s1.levels (i+1) 0 (by omega)
     rw [Nat.zero_add] at e3
     rw [r9,e3,List.append_assoc]
    rw [e2,e1]
    simp only [List.length_append];omega
   have hint:((i:Int)<4):=by omega
   refine gx ?_
   refine Ed (m:=i) (vs:=[z.l0,z.l1,z.l2,z.l3]) rfl rfl rfl rfl rfl rfl hlt hgv rfl ?_
   refine gx ?_
   refine aJ (α:=Nat×Value) (fun q=>[(1,.bool nl),(2,ay bS),(5,ay b5),(7,ay b7),(56,.agg #[z.l0,z.l1,z.l2,z.l3]),(57,.int .i64 (i:Int)),(8,.int .i64 (i:Int)),(61,.slice al ps.length cl),(62,.int .i64 (ps.length:Int)),(63,.int .i64 (q.1:Int))])
    (fun q w=>q.1≤ps.length∧Sat W0 (aL 1 (.slice al ps.length cl) 193 ps.length (ps.map ay)::star (List.zipWith (cF K.d) ps Ts)::star ((List.zipWith (eV K.d) [z.l0,z.l1,z.l2,z.l3] s1.levels).take i++(List.zipWith (eV K.d) [z.l0,z.l1,z.l2,z.l3] s1.levels).drop (i+1))::blk b7 93 [q.2]::cI q.2 (tP s1++eN 0 (s1.levels.take i)++((Ts.take q.1).map fun T=>UInt8.ofNat i::bC T.name).flatten)::blk bS 31 [ay b]::blk b 133 (ak K z s1)::blk b5 9 [str s.log]::aj K.d D1::F) w) (fun q=>ps.length-q.1) (0,vb) ⟨rfl,rfl,rfl,rfl,rfl,rfl,rfl,rfl,rfl,rfl,trivial⟩ ⟨Nat.zero_le _,by simp only [List.take_zero,List.map_nil,List.flatten_nil,List.append_nil];exact hs⟩ ?_
   clear hs
   rintro ⟨j,vb⟩ w ⟨hj,hs⟩
   dsimp only at hj hs
   by_cases hlj:j<ps.length
   ·have gp:ps[j]?=some ps[j]:=List.getElem?_eq_getElem hlj
    have gT:Ts[j]?=some (Ts[j]'(by omega)):=List.getElem?_eq_getElem (by omega)
    have htj:Ts.take (j+1)=Ts.take j++[Ts[j]'(by omega)]:=by rw [List.take_add_one,gT];rfl
    have hzj:=dN (cF K.d) gp gT
    have hnm:=hfi.2 _ (List.mem_of_getElem? gT)
    generalize Ts[j]'(by omega)=T at gT htj hzj hnm
    generalize ps[j]=p at gp hzj
    have hspj:=dx hzj
    obtain ⟨bq,cap,rs,hv,q1,q2,q3,hs2⟩:=hs.dw (by omega)
    obtain ⟨rfl,_,rfl⟩:=Value.slice.inj hv
    have hcell:(ps.map ay++rs)[0+j*1]?=some (ay p):=by
     rw [Nat.zero_add,Nat.mul_one,List.getElem?_append_left (by simpa using hlj),List.getElem?_map,gp];rfl
    have hpre:(tP s1++eN 0 (s1.levels.take i)++((Ts.take j).map fun T=>UInt8.ofNat i::bC T.name).flatten).length≤1200000000:=by
     refine Nat.le_trans ?_ htot
     have:Ts=Ts.take j++Ts.drop j:=(List.take_append_drop j Ts).symm
     conv=>rhs;rw [this]
     rw [List.map_append,List.flatten_append]
     simp only [List.length_append];omega
    refine gx ?_
    refine cN (i:=j) rfl rfl rfl rfl rfl hlj rfl ?_
    refine eF hs2 rfl rfl .here hcell rfl ?_
    clear hs2
    have hs:=hs.take (.there .here)
    rw [hspj] at hs
    obtain ⟨bv,hs⟩:=hs.eU.lG
    refine gx ?_
    refine bO [blk b7 93 [vb],tI p 200 [str T.name,str T.first,str T.last,.int .i64 (T.count:Int),ay K.d,bv]] [(0,false),(1,false),(2,false),(5,false),(6,false),(7,false),(8,false),(9,false),(3,true),(4,true),(10,true),(11,true)] hs (by kernel_rfl) ?_
    clear hs
    intro w hs
    refine gx ?_
    rw [wrap_u8]
    refine fL hs ?_
    clear hs
    intro w b9 hs
    refine gx ?_
    refine AV (UInt8.ofNat i) hs rfl rfl (by repeat (first|exact Take.here|apply Take.there)) (by repeat (first|exact Take.here|apply Take.there)) (by omega) rfl ?_
    clear hs
    intro v8 w hs
    refine gx ?_
    refine ag (met (gJ (s:=T.name) hs (by rw [List.length_append];simp only [List.length_cons,List.length_nil];omega) (by omega)) ?_)
    clear hs
    rintro _ w ⟨v9,rfl,hs⟩
    obtain ⟨a9,c9,hv9,-⟩:=hs.aC
    obtain ⟨n9,hn9⟩:∃ n9,v9=.slice a9 n9 c9:=⟨_,hv9⟩
    clear hv9
    subst hn9
    refine ⟨_,rfl,gx ?_⟩
    refine bK hs ?_
    clear hs
    intro w hs
    refine gx ?_
    refine az (j+1,.slice a9 n9 c9) ⟨rfl,rfl,rfl,rfl,rfl,rfl,rfl,rfl,rfl,rfl,trivial⟩ ⟨hlj,?_⟩ (by show _-(j+1)<_-j;omega)
    dsimp only
    rw [htj,List.map_append,List.flatten_append,List.map_cons,List.map_nil,List.flatten_cons,List.flatten_nil,List.append_nil]
    have e5:tP s1++eN 0 (s1.levels.take i)++((Ts.take j).map fun T=>UInt8.ofNat i::bC T.name).flatten++[UInt8.ofNat i]++bC T.name=tP s1++eN 0 (s1.levels.take i)++(((Ts.take j).map fun T=>UInt8.ofNat i::bC T.name).flatten++UInt8.ofNat i::bC T.name):=by simp
    rw [e5] at hs
    rw [hspj]
    have hs:=(hs.to (a:=cF K.d p T::star ((List.zipWith (cF K.d) ps Ts).take j++(List.zipWith (cF K.d) ps Ts).drop (j+1))::aL 1 (.slice (some ⟨bq,0,none⟩) ps.length cl) 193 ps.length (ps.map ay)::star ((List.zipWith (eV K.d) [z.l0,z.l1,z.l2,z.l3] s1.levels).take i++(List.zipWith (eV K.d) [z.l0,z.l1,z.l2,z.l3] s1.levels).drop (i+1))::blk b7 93 [.slice a9 n9 c9]::cI (.slice a9 n9 c9) (tP s1++eN 0 (s1.levels.take i)++(((Ts.take j).map fun T=>UInt8.ofNat i::bC T.name).flatten++UInt8.ofNat i::bC T.name))::blk bS 31 [ay b]::blk b 133 (ak K z s1)::blk b5 9 [str s.log]::aj K.d D1::F)).eY
    exact hs.to
   ·have hje:j=ps.length:=by omega
    subst hje
    rw [hps,List.take_length] at hs
    have e1:eN 0 (s1.levels.take (i+1))=eN 0 (s1.levels.take i)++(Ts.map fun T=>UInt8.ofNat i::bC T.name).flatten:=by
     rw [htk,r8]
     have:(s1.levels.take i).length=i:=by simp;omega
     rw [this,Nat.zero_add]
    rw [← hps] at hs
    have hs:=(Sat.jA hps hs)
    rw [List.append_assoc,← e1] at hs
    refine gx ?_
    refine az (i+1,vb) ⟨rfl,rfl,rfl,rfl,rfl,rfl,trivial⟩ ⟨hlt,?_⟩ (by show 4-(i+1)<4-i;omega)
    dsimp only
    rw [hsp]
    have hs:=hs.eY
    exact hs.to
  ·have hi4:i=4:=by omega
   subst hi4
   have e1:s1.levels.take 4=s1.levels:=List.take_of_length_le (by omega)
   rw [e1,← r9] at hs
   have hnlt:¬ ((4:Int)<4):=by omega
   refine gx ?_
   exact bG vb ⟨rfl,rfl,rfl,rfl,trivial⟩ hs
 clear hs
 intro vb w hs
 generalize hG:(⟨b,bS,b5,b7,K,z,s1,vb,s.log⟩:PY)=G
 obtain ⟨kk,hk,hkk⟩:∃ kk,kk≤6∧p7 s1 (if nl=true then (if s.log=[] then none else some s.log) else none)=(KA G).take kk∧5≤kk∧(kk=6↔nl=true∧s.log≠[]):=by
  subst hG
  cases nl with
  | false=>exact ⟨5,by omega,rfl,by omega,by simp⟩
  | true=>
   by_cases hl:s.log=[]
   ·exact ⟨5,by omega,by simp [hl];rfl,by omega,by simp [hl]⟩
   ·exact ⟨6,by omega,by simp [hl,p7,KA],by omega,by simp [hl]⟩
 obtain ⟨hst,hk5,hk6⟩:=hkk
 rw [hst] at hrun
 have hs:Sat W0 (Kz G D1++star (List.zipWith (eV K.d) [z.l0,z.l1,z.l2,z.l3] s1.levels)::F) w:=by subst hG;exact hs.to
 have hGK:G.K=K:=by subst hG;rfl
 dsimp only [Kz,List.cons_append,List.nil_append] at hs
 refine dV ?_
 refine gE ?_
 subst hG
 dsimp only at hs hGK
 refine gE ?_
 refine ia ((L9 ⟨b,bS,b5,b7,K,z,s1,vb,s.log⟩).take 5) hs ?_
 clear hs
 intro w bl hs
 refine gE ?_
 refine cV rfl ?_
 have hs:=Sat.dg (k:=1) (cap:=5) (len:=5) (cs:=(L9 ⟨b,bS,b5,b7,K,z,s1,vb,s.log⟩).take 5) (rest:=[]) (E:=107) hs (by omega) (by simp [maxLen]) rfl rfl (by
  intro u hu
  simp [L9] at hu
  rcases hu with rfl|rfl|rfl|rfl|rfl<;>rfl)
 refine fh (α:=Value) (fun sv=>[(12,sv)])
  (fun sv w=>Sat W0 (aL 1 sv 107 kk ((L9 ⟨b,bS,b5,b7,K,z,s1,vb,s.log⟩).take kk)::Kz ⟨b,bS,b5,b7,K,z,s1,vb,s.log⟩ D1++star (List.zipWith (eV K.d) [z.l0,z.l1,z.l2,z.l3] s1.levels)::F) w) ?_ ?_
 ·dsimp only [Kz,List.cons_append,List.nil_append]
  by_cases hc:nl=true∧s.log≠[]
  ·have h6:=hk6.2 hc
   subst h6
   obtain ⟨rfl,hne⟩:=hc
   refine gx ?_
   refine fL hs ?_
   clear hs
   intro w b9 hs
   refine dM hs ?_
   clear hs
   intro v9 w hs
   refine gx ?_
   exact bG v9 ⟨rfl,trivial⟩ hs.to
  ·have h5:kk=5:=by
    have:¬ kk=6:=fun h=>hc (hk6.1 h)
    omega
   subst h5
   cases nl with
   | false=>
    refine gx ?_
    exact bG (.slice (some ⟨bl,0,none⟩) 5 5) ⟨rfl,trivial⟩ hs
   | true=>
    have hle:¬ s.log≠[]:=fun h=>hc ⟨rfl,h⟩
    refine gx ?_
    exact bG (.slice (some ⟨bl,0,none⟩) 5 5) ⟨rfl,trivial⟩ hs
 clear hs
 intro sv w hs
 dsimp only [Kz,List.cons_append,List.nil_append] at hs
 have hkl:((L9 ⟨b,bS,b5,b7,K,z,s1,vb,s.log⟩).take kk).length=kk:=by simp [L9];omega
 obtain ⟨asv,csv,rfl,-⟩:=hs.aC
 refine gx ?_
 refine aJ (α:=Nat×ae) (fun q=>[(99,.slice asv kk csv),(100,.int .i64 (kk:Int)),(101,.int .i64 (q.1:Int))])
  (fun q w=>(q.1≤kk∧eZ (((KA ⟨b,bS,b5,b7,K,z,s1,vb,s.log⟩).take kk).drop q.1) q.2=some (eo,D'))∧Sat W0 (aL 1 (.slice asv kk csv) 107 kk ((L9 ⟨b,bS,b5,b7,K,z,s1,vb,s.log⟩).take kk)::Kz ⟨b,bS,b5,b7,K,z,s1,vb,s.log⟩ q.2++star (List.zipWith (eV K.d) [z.l0,z.l1,z.l2,z.l3] s1.levels)::F) w) (fun q=>kk-q.1) (0,D1) ⟨rfl,rfl,rfl,trivial⟩ ⟨⟨Nat.zero_le _,hrun⟩,hs⟩ ?_
 clear hs hrun
 rintro ⟨i,D3⟩ w ⟨⟨hi,hrun⟩,hs⟩
 dsimp only [Kz,List.cons_append,List.nil_append] at hi hrun hs
 by_cases hlt:i<kk
 ·have hol:i<((KA ⟨b,bS,b5,b7,K,z,s1,vb,s.log⟩).take kk).length:=by simp [KA];omega
  have hgo:((KA ⟨b,bS,b5,b7,K,z,s1,vb,s.log⟩).take kk)[i]?=some (((KA ⟨b,bS,b5,b7,K,z,s1,vb,s.log⟩).take kk)[i]):=List.getElem?_eq_getElem hol
  rw [List.drop_eq_getElem_cons hol] at hrun
  generalize ((KA ⟨b,bS,b5,b7,K,z,s1,vb,s.log⟩).take kk)[i]=o at hgo hrun
  unfold eZ at hrun
  cases hr:eM D3 o with
  | none=>rw [hr] at hrun;cases hrun
  | some r=>
   obtain ⟨e1,D4⟩:=r
   rw [hr] at hrun
   have hgo':(KA ⟨b,bS,b5,b7,K,z,s1,vb,s.log⟩)[i]?=some o:=by
    rw [List.getElem?_take] at hgo;rw [if_pos hlt] at hgo;exact hgo
   obtain ⟨bq,cap,rs,hv,q1,q2,q3,hs2⟩:=hs.dw (by omega)
   obtain ⟨rfl,_,rfl⟩:=Value.slice.inj hv
   obtain ⟨f,pp,qq,hcf,hff,hcall⟩:=Ej (G:=⟨b,bS,b5,b7,K,z,s1,vb,s.log⟩) (F:=star (List.zipWith (eV K.d) [z.l0,z.l1,z.l2,z.l3] s1.levels)::aL 1 (.slice (some ⟨bq,0,none⟩) kk csv) 107 kk ((L9 ⟨b,bS,b5,b7,K,z,s1,vb,s.log⟩).take kk)::F) (by show (cw s1).length≤_;omega) hgo' hr hs.to
   have hcell:((L9 ⟨b,bS,b5,b7,K,z,s1,vb,s.log⟩).take kk++rs)[0+i*1]?=some (.func (.func f) pp qq):=by
    rw [Nat.zero_add,Nat.mul_one,List.getElem?_append_left (by omega),List.getElem?_take,if_pos hlt];exact hcf
   refine gx ?_
   refine cN (i:=i) rfl rfl rfl rfl rfl hlt rfl ?_
   refine eF hs2 rfl rfl .here hcell rfl ?_
   clear hs2
   refine gx ?_
   refine iM rfl hff rfl rfl (met hcall ?_)
   clear hs hcall
   rintro _ w ⟨ve,rfl,hs⟩
   dsimp only [Kz,List.cons_append,List.nil_append] at hs
   refine ⟨_,rfl,?_⟩
   cases e1 with
   | some e=>
    simp only [Option.some.injEq,Prod.mk.injEq] at hrun
    obtain ⟨rfl,rfl⟩:=hrun
    obtain ⟨t,u,rfl⟩:=(hs.take (.there (.there (.there (.there (.there (.there .here))))))).aQ
    refine gx ?_
    refine ah rfl ⟨_,s1,rfl,fun r hr=>(by rw [hx] at hr;cases hr),⟨nu,lo,hs1⟩,?_⟩
    rw [hx]
    have hs:=hs.to (a:=star (List.zipWith (eV K.d) [z.l0,z.l1,z.l2,z.l3] s1.levels)::blk b 133 (ak K z s1)::aj K.d D4::aH (.iface t u) (some e)::F)
    rw [← hlz] at hs
    have hs:=hs.imp fun _ k=>dD k
    exact hs.to
   | none=>
    dsimp only at hrun
    have hve:=(hs.take (.there (.there (.there (.there (.there (.there .here))))))).cA
    subst hve
    refine gx ?_
    exact az (i+1,D4) ⟨rfl,rfl,rfl,trivial⟩ ⟨⟨hlt,hrun⟩,hs.to⟩ (by show kk-(i+1)<kk-i;omega)
 ·have hik:i=kk:=by omega
  subst hik
  rw [List.drop_of_length_le (List.length_take_le _ _)] at hrun
  simp only [eZ,Option.some.injEq,Prod.mk.injEq] at hrun
  obtain ⟨rfl,rfl⟩:=hrun
  refine gx ?_
  refine ah rfl ⟨_,s1,rfl,fun r hr=>(by rw [hx] at hr;cases hr;rfl),⟨nu,lo,hs1⟩,?_⟩
  have hs:=Sat.ej hs
  rw [hx]
  have hs:=hs.to (a:=star (List.zipWith (eV K.d) [z.l0,z.l1,z.l2,z.l3] s1.levels)::blk b 133 (ak K z s1)::aj K.d D3::aH .nilIface none::F)
  rw [← hlz] at hs
  have hs:=hs.imp fun _ k=>dD k
  exact hs.to
end
section
open Go.Proofs.YtecibefflhomdaaGreatDoor.Pure (ae aB Rd bH less aR aZ bL bC aF dj dec kj)
attribute [local irreducible] IntKind.wrap
variable {W0 w:World} {F:List ax} {v:Value} {d m p:Nat} {T:bN} {D D':ae} {M:List aB}
def SZ.xj (z:SZ):List Value:=[z.l0,z.l1,z.l2,z.l3]
def SZ.put (z:SZ) (i:Nat) (v:Value):SZ:=match i with
 | 0=>{ z with l0:=v }
 | 1=>{ z with l1:=v }
 | 2=>{ z with l2:=v }
 | _=>{ z with l3:=v }
theorem zW {K:SK} {z:SZ} {s:St} {i:Nat} (hi:i<4) (hv:z.xj[i]?=some v):(ak K z s)[0+7+((i:Int)).toNat*1]?=some v:=by
 match i,hi,hv with
 | 0,_,hv=>exact hv
 | 1,_,hv=>exact hv
 | 2,_,hv=>exact hv
 | 3,_,hv=>exact hv
theorem El {K:SK} {z:SZ} {s:St} {i:Nat} (hi:i<4) (v:Value):(ak K z s).set (0+7+((i:Int)).toNat*1) v=ak K (z.put i v) s:=by
 match i,hi with
 | 0,_=>rfl
 | 1,_=>rfl
 | 2,_=>rfl
 | 3,_=>rfl
theorem MO {z:SZ} {i:Nat} (hi:i<4) (v:Value):(z.put i v).xj=z.xj.set i v:=by
 match i,hi with
 | 0,_=>rfl
 | 1,_=>rfl
 | 2,_=>rfl
 | 3,_=>rfl
@[simp] theorem PZ (z:SZ) (i:Nat) (v:Value):(z.put i v).m=z.m:=by unfold SZ.put;split<;>rfl
@[simp] theorem OP (z:SZ) (i:Nat) (v:Value):(z.put i v).sn=z.sn:=by unfold SZ.put;split<;>rfl
def dE (d:Nat) (z:SZ) (Ls:List (List bN)):ax:=star (List.zipWith (eV d) z.xj Ls)
def Em (d:Nat) (z:SZ) (Ls:List (List bN)) (i:Nat):ax:=star ((List.zipWith (eV d) z.xj Ls).take i++(List.zipWith (eV d) z.xj Ls).drop (i+1))
theorem Sat.ot {z:SZ} {Ls:List (List bN)} {i:Nat} {L:List bN} (hg:Ls[i]?=some L) (hi:i<4) (h:Sat W0 (dE d z Ls::F) w):∃ v,z.xj[i]?=some v∧Sat W0 (eV d v L::Em d z Ls i::F) w:=by
 have hv:z.xj[i]?=some (z.xj[i]'(by simpa [SZ.xj] using hi)):=List.getElem?_eq_getElem _
 refine ⟨_,hv,?_⟩
 have hz:=dN (eV d) hv hg
 unfold dE at h
 rw [dx hz] at h
 exact h.eU
theorem Sat.En {z:SZ} {Ls:List (List bN)} {i:Nat} {L:List bN} (hg:Ls[i]?=some L) (hv:z.xj[i]?=some v) (h:Sat W0 (eV d v L::Em d z Ls i::F) w):Sat W0 (dE d z Ls::F) w:=by
 have hz:=dN (eV d) hv hg
 unfold dE
 rw [dx hz]
 exact h.eY
theorem nf {α β γ:Type} (f:α→β→γ):∀ {xs:List α} {ys:List β} {i:Nat} (x:α) (y:β),i<xs.length→i<ys.length→List.zipWith f (xs.set i x) (ys.set i y)=(List.zipWith f xs ys).take i++f x y::(List.zipWith f xs ys).drop (i+1)
 | a::xs,b::ys,0,x,y,_,_=>by simp
 | a::xs,b::ys,i+1,x,y,hx,hy=>by
  simp at hx hy
  simp [nf f x y hx hy]
theorem Sat.Gk {z:SZ} {Ls:List (List bN)} {i:Nat} {L:List bN} (hi:i<4) (hL:Ls.length=4) (h:Sat W0 (eV d v L::Em d z Ls i::F) w):Sat W0 (dE d (z.put i v) (Ls.set i L)::F) w:=by
 unfold dE
 rw [MO hi,nf _ _ _ (by simpa [SZ.xj] using hi) (by omega)]
 exact h.eY
theorem KB {z:SZ} {t0 t1 t2 t3:List bN}:dE d z [t0,t1,t2,t3]=star [eV d z.l0 t0,eV d z.l1 t1,eV d z.l2 t2,eV d z.l3 t3]:=rfl
theorem Sat.Eo {z:SZ} {t0 t1 t2 t3:List bN} (h:Sat W0 (eV d z.l0 t0::eV d z.l1 t1::eV d z.l2 t2::eV d z.l3 t3::F) w):Sat W0 (dE d z [t0,t1,t2,t3]::F) w:=by
 rw [KB];exact h.imp fun _ k=>cT (a:=[eV d z.l0 t0,eV d z.l1 t1,eV d z.l2 t2,eV d z.l3 t3]) k
theorem Sat.KC {z:SZ} {t0 t1 t2 t3:List bN} (h:Sat W0 (dE d z [t0,t1,t2,t3]::F) w):Sat W0 (eV d z.l0 t0::eV d z.l1 t1::eV d z.l2 t2::eV d z.l3 t3::F) w:=by
 rw [KB] at h;exact h.imp fun _ k=>dD k
theorem four {α:Type} {l:List α} (h:l.length=4):∃ a b c d,l=[a,b,c,d]:=by
 match l,h with
 | [a,b,c,d],_=>exact ⟨a,b,c,d,rfl⟩
theorem vT {b:Nat} {K:SK} {z:SZ} {s:St} {nl:Bool} {x:Except cx St} (h:gP s D nl=some (x,D')) (hl:s.levels.length=4) (hW:jF W0)
 (hs:Sat W0 (blk b 133 (ak K z s)::dE K.d z s.levels::aj K.d D::F) w) :
 Calls Tryz.prog 100 #[ay b,.bool nl] w fun y w'=>∃ ve s',y=.returned ve∧(∀ r,x=.ok r→s'=r)∧(∃ nu lo,s'={ s with number:=nu,log:=lo }) ∧
  Sat W0 (blk b 133 (ak K z s')::dE K.d z s.levels::aj K.d D'::aH ve (cU x)::F) w':=by
 obtain ⟨t0,t1,t2,t3,hlv⟩:=four hl
 rw [hlv] at hs
 have hs:=(hs.take (.there .here)).KC
 refine (BN h hlv hW hs.to).mono ?_
 rintro _ w' ⟨ve,s',rfl,h1,h2,hs⟩
 refine ⟨ve,s',rfl,h1,h2,?_⟩
 rw [hlv]
 exact ((hs.to (a:=eV K.d z.l0 t0::eV K.d z.l1 t1::eV K.d z.l2 t2::eV K.d z.l3 t3::blk b 133 (ak K z s')::aj K.d D'::aH ve (cU x)::F)).Eo).to
theorem Sat.NJ (h:Sat W0 F w):Sat W0 (zT d m (.slice none 0 0) []::F) w:=by
 refine Sat.close (B:=[aL 1 (.slice none 0 0) 288 0 [],star (List.zipWith (mb d m) [] [])]) (Sat.cH (k:=1) (E:=288) ((h.imp fun hp k=>(⟨fun _=>none,hp,fun _ _ _ hx=>(by cases hx),fun _ _ hx=>(by cases hx),Hp.le_refl _,trivial,k⟩:cL (star (List.zipWith (mb d m) [] [])::F) hp)))) fun hp k=>⟨[],rfl,k⟩
theorem Sat.Ep {its:List It} {it:It} {rv u:Value} {vs:List Value} (h1:vs.length=its.length) (h:Sat W0 (aL 1 rv 288 (vs.length+1) (vs++[u])::star (List.zipWith (mb d m) vs its)::mb d m u it::F) w):Sat W0 (zT d m rv (its++[it])::F) w:=by
 refine Sat.close (B:=[aL 1 rv 288 (vs++[u]).length (vs++[u]),star (List.zipWith (mb d m) (vs++[u]) (its++[it]))]) ?_ fun hp k=>⟨vs++[u],by simp [h1],k⟩
 rw [List.zipWith_append (by exact h1),List.length_append]
 have h2:Sat W0 (mb d m u it::star (List.zipWith (mb d m) vs its++[])::aL 1 rv 288 (vs.length+1) (vs++[u])::F) w:=by
  rw [List.append_nil];exact h.to
 have h3:=h2.eY
 exact h3.to
end
end Go.Proofs.YtecibefflhomdaaGreatDoor
