/-
  Part 22: The engine 27 order trees over any fact that the loud steps ; WALKS package levels; WALKS package levels.
-/
import Derived.Test.YtecibefflhomdaaGreatDoorW21
set_option maxHeartbeats 8000000
set_option maxRecDepth 100000
set_option linter.all false
namespace Go.Proofs.YtecibefflhomdaaGreatDoor
open Go
section
variable {ops:Array Oper} {Q:Exit→Act→World→Prop} {S:World→Prop} {K:List Nat} {n:Nat} {ds:Md} {e:Env} {w w':World} {b:Bool} {t t':OT}
variable {op:Op} {ty:TypeId} {pos:String} {af:Array Edge} {d i j:Nat} {v u:Value} {W0:World} {l l' r r':List ah}
theorem z6 {id:Nat} {ol:List Oper} [hp:pO Q] [kT Q] (S:World→Prop) (K:List Nat) (t:OT) (hs:Sat W0 l w)
 (hok:(rj ol.toArray K t ol.length (Array.replicate ol.length false)&&Region.noSelect ol.toArray&&(ds.round.isNone||vT ol))=true)
 (hS:∀ w,Sat W0 l w→S w) (k:∀ w,Sat W0 l w→WT ol.toArray Q S K n ds true t e w):WC (.region id ol.toArray true) Q n ds e w:=by
 unfold WC
 intro a ha
 simp only [Bool.and_eq_true] at hok
 obtain ⟨⟨h1,h3⟩,h4⟩:=hok
 refine wpIn_region_draw fun tt=>ti _ (by simpa using h4) _ _ _ ?_
 simp only [Region.schedule,mixed,Bool.true_or,if_true]
 refine wpAny_sound ol.toArray.size tt _ _ _ (ya (S:=S) (K:=K) _ _ _ _ ?_)
 have hd:=hs.drew
 have e1:ol.toArray.size=ol.length:=by simp
 rw [e1]
 exact Hv h3 hp.ind t ol.length _ a _ (fun j o ho hl=>by
  exfalso
  have hj:j<ol.length:=by have:=(Array.getElem?_eq_some_iff.1 ho).1;simpa using this
  simp [hj] at hl) h1 (by have:=k _ hd;unfold WT at this;exact this a ha fun _=>hS _ hd)
theorem M5 (k:WT ops Q S K n ds b t e w):WT ops Q S K n ds b t e w:=k
theorem HZ {x:Operand} {T bb o:Nat} (ho:ops[i]?=some ⟨some d,.load T x,ty,pos,af,none⟩) (hx:ev e x=some (.pointer (some ⟨bb,o,none⟩))) (hT:lk kS T=some false)
 (hS:∀ w,S w→w.cell? ⟨bb,o,none⟩=some v) (hd:Nat.blt d n=true) (k:WT ops Q S K n ds true t ((d,v)::e) w):WT ops Q S K n ds true (.s i t) e w:=
 Dy ho (fun a w' ha hs=>by simp [execOp,ha.ev hx,Instr.loadAt,Instr.sureAddr,cG hT (hS _ hs)]) hd k
theorem H0 {x:Int} (ho:ops[i]?=some ⟨some d,op,ty,pos,af,none⟩) (hv:yv e op=some (.int .u64 (IntKind.u64.wrap x))) (h1:0≤x) (h2:x≤18446744073709551615) (hd:Nat.blt d n=true)
 (k:WT ops Q S K n ds b t ((d,.int .u64 x)::e) w):WT ops Q S K n ds b (.q i t) e w:=dz ho (by rw [hv,IntWalk.u64_in _ ⟨h1,h2⟩]) hd k
end
theorem ov {G G':Prop} (k:G') (h:xP G'→G:=by
 (intro k
  repeat (refine M5 ?_
          first
   | refine dz (op:=.fieldAddr _ _ _) rfl rfl rfl ?_
   | refine dz (op:=.nilCheck _) rfl rfl rfl ?_
   | refine dz (op:=.move _) rfl rfl rfl ?_
   | refine dz (op:=.assign _) rfl rfl rfl ?_
   | refine dz (op:=.extract _ _) rfl rfl rfl ?_
   | refine sa rfl rfl rfl (by repeat (first|exact Take.here|apply Take.there)) (by rfl) rfl ?_
   | refine gX rfl ?_
   | refine fj ?_
   | refine nI rfl rfl (by omega) (by omega) rfl ?_
   | refine H0 rfl rfl (by omega) (by omega) rfl ?_
   | refine Hw rfl rfl (by first|assumption|omega) rfl ?_
   | refine Hx rfl rfl (by first|assumption|omega) rfl ?_
   | refine dz rfl rfl rfl ?_
   | refine Hy rfl rfl rfl (by omega) (by omega) rfl ?_
   | refine mX rfl rfl rfl rfl ?_
   | refine Hz rfl rfl rfl rfl ?_
   | refine BM rfl rfl rfl rfl ?_
   | refine nJ rfl rfl rfl rfl (by repeat (first|exact Take.here|apply Take.there)) (by rfl) rfl ?_)
  exact k.out)):G:=h ⟨k⟩
section
open Go.Proofs.YtecibefflhomdaaGreatDoor.Pure (ad ay Rd bu less aQ aY bz bB az cU dec iL)
attribute [local irreducible] IntKind.wrap
variable {W0 w:World} {F:List ah} {v:Value} {d m p:Nat} {T:cO} {D D':ad} {M:List ay}
theorem wM (a b:List ay):bj (a++b)=bj a++bj b:=by simp [bj]
theorem Sat.DQ {tv:Value} (h:Sat W0 (Ka d tv (.ok T)::F) w):∃ p,tv=au p∧Sat W0 (cE d p T::F) w:=by
 obtain ⟨p,hp,hs⟩:=h.fg (φ:=fun p:Nat=>tv=au p) (B:=fun p=>[cE d p T]) fun hp ⟨p,h1,k⟩=>⟨p,h1,hp,fun _=>none,fun _ _ _ _ hy=>(by cases hy),Hp.le_refl _,fun _ _ hx=>(by cases hx),k,trivial⟩
 exact ⟨p,hp,hs⟩
theorem uE (l:List ay) (n:Nat):bj (l.drop n)=(bj l).drop n:=by simp [bj]
theorem DR (l:List ay):∀ (f n:Nat),n≤l.length→m9 l f n≤l.length∧n≤m9 l f n
 | 0,n,h=>⟨h,Nat.le_refl _⟩
 | f+1,n,h=>by
  unfold m9
  split
  ·have:=DR l f (n+1) (by omega);omega
  ·exact ⟨h,Nat.le_refl _⟩
theorem Sat.B5 {Ts:List cO} {T:cO} {ps:List Nat} {p:Nat} (h1:ps.length=Ts.length) (h:Sat W0 (aI 1 v 193 (ps.length+1) (ps.map au++[au p])::star (List.zipWith (cE d) ps Ts)::cE d p T::F) w):Sat W0 (eM d v (Ts++[T])::F) w:=by
 refine Sat.jD (ps:=ps++[p]) (by simp [h1]) ?_
 rw [List.zipWith_append (by exact h1),List.length_append,List.map_append]
 have h2:Sat W0 (cE d p T::star (List.zipWith (cE d) ps Ts++[])::aI 1 v 193 (ps.length+1) (ps.map au++[au p])::F) w:=by
  rw [List.append_nil];exact h.to
 have h3:=h2.gu
 exact h3.to
theorem uF {b:Nat} {K:SK} {z:SZ} {s:St} {l:List ay} {x:Except cy (List cO×Nat)} (h:kG gL s.number D l []=some (x,D')) (hW:jP W0)
 (hs:Sat W0 (blk b 133 (aj K z s)::kD 4 v (bj l)::ag K.d D::F) w) :
 Calls Tryz.prog 170 #[au b,v] w fun y w'=>∃ (tv ve:Value) (num:Nat),y=.returned (.tuple #[tv,ve])∧(∀ r,x=.ok r→num=r.2) ∧
  Sat W0 (blk b 133 (aj K z { s with number:=num })::ag K.d D'::aL ve (dC x)::MG (fun r=>eM K.d tv r.1) x::F) w':=by
 refine enter Tryz.func170 rfl Tryz.ntmps170 Tryz.results170 rfl ?_
 refine gx ?_
 refine aK (α:=Nat×Nat×ad×List ay×List cO×Value×Value) (fun z'=>[(0,au b),(1,z'.2.2.2.2.2.1),(6,z'.2.2.2.2.2.2)])
  (fun z' w=>kG z'.1 z'.2.1 z'.2.2.1 z'.2.2.2.1 z'.2.2.2.2.1=some (x,D')∧Sat W0 (blk b 133 (aj K z { s with number:=z'.2.1 })::kD 4 z'.2.2.2.2.2.1 (bj z'.2.2.2.1)::eM K.d z'.2.2.2.2.2.2 z'.2.2.2.2.1::ag K.d z'.2.2.1::F) w) (fun z'=>z'.1) (gL,s.number,D,l,[],v,.slice none 0 0) ⟨rfl,rfl,rfl,trivial⟩ ⟨h,Sat.to (Sat.wG (d:=K.d) hs)⟩ ?_
 clear hs h
 rintro ⟨f,num,D,l,acc,lv,tv⟩ w ⟨h,hs⟩
 dsimp only at h hs ⊢
 obtain ⟨a,c,hlv,hc⟩:=(hs.take (.there .here)).im
 have hlen:(bj l).length=l.length:=by simp [bj]
 rw [hlen] at hlv hc
 subst hlv
 cases l with
 | nil=>
  unfold kG at h
  simp only [Option.some.injEq,Prod.mk.injEq] at h
  obtain ⟨rfl,rfl⟩:=h
  have h0:¬ ((([]:List ay).length:Nat):Int) > 0:=by simp
  refine gx ?_
  refine ak rfl ⟨_,_,num,rfl,fun r hr=>by cases hr;rfl,?_⟩
  exact Sat.to (Sat.dW hs)
 | cons e0 l0=>
  generalize hl:e0::l0=l at *
  have hpos:0<l.length:=by rw [← hl];simp
  cases f with
  | zero=>subst hl;cases h
  | succ f=>
   have h':(if num≤4611686018427387904∧l.length≤gL∧acc.length≤gL then match nL D (dQ (num+1)) (l.take (lB l)) with
    | none=>none
    | some (.error x,D')=>some (.error x,D')
    | some (.ok T,D')=>kG f (num+1) D' (l.drop (lB l)) (acc++[T]) else none)=some (x,D'):=by subst hl;exact h
   clear h hl
   by_cases hnum:num≤4611686018427387904∧l.length≤gL∧acc.length≤gL
   case neg=>rw [if_neg hnum] at h';cases h'
   rw [if_pos hnum] at h'
   rw [bG] at hnum
   obtain ⟨hnum,hlb,hab⟩:=hnum
   have hp:(l.length:Int) > 0:=by omega
   have hcl:=DR l l.length (min l.length 95) (Nat.min_le_left _ _)
   obtain ⟨z0,⟨hv,hzc,hseg⟩,hs⟩:=(hs.take (.there .here)).mH (by intro hn;simp [bj] at hn;rw [hn] at hpos;simp at hpos)
   rw [hlen] at hv hzc
   obtain ⟨rfl,_,rfl⟩:=Value.slice.inj hv
   have hrow:∀ i y,l[i]?=some y→fX z0.all (z0.o+i*4) (aF y):=fun i y hi=>hseg.row (i:=i) (x:=aF y) (gw _) (by simp [bj,hi])
   have hmin:(min (l.length:Int) 95)=((min l.length 95:Nat):Int):=by omega
   refine gx ?_
   refine aK (α:=Nat×Nat) (fun z'=>[(0,au b),(1,.slice (some ⟨z0.b,z0.o,none⟩) l.length z0.c),(6,tv),(7,.int .i64 (z'.2:Int))])
    (fun z' w=>(m9 l z'.1 z'.2=lB l∧z'.2≤l.length∧1≤z'.2∧l.length≤z'.1+z'.2)∧Sat W0 (ob true z0.b (.cells z0.all.toArray z0.E (0,0))::kD 4 (.slice (some ⟨z0.b,z0.o,none⟩) l.length z0.c) (bj l)::blk b 133 (aj K z { s with number:=num })::eM K.d tv acc::ag K.d D::F) w) (fun z'=>z'.1) (l.length,min l.length 95) ⟨rfl,rfl,rfl,by show some (Value.int .i64 (min (l.length:Int) 95))=_;rw [hmin],trivial⟩ ⟨⟨rfl,by dsimp only;omega,by dsimp only;omega,by dsimp only;omega⟩,hs⟩ ?_
   clear hs
   rintro ⟨g,n⟩ w ⟨⟨hcut,hn1,hn2,hn3⟩,hs⟩
   dsimp only at hcut hn1 hn2 hn3 hs ⊢
   refine gx ?_
   refine cx [ob true z0.b (.cells z0.all.toArray z0.E (0,0))] [9,15] (.q 0 (.q 1 (.q 2 (.q 3 (.q 4 (.q 5 (.q 6 (.q 7 (.q 8 (.s 9 (.q 10 (.q 11 (.q 12 (.q 13 (.q 14 (.s 15 (.q 16 (.q 17 .nil)))))))))))))))))) hs (by kernel_rfl) ?_
   clear hs
   intro w hs
   by_cases hlt:n<l.length
   ·have g1:l[n]?=some l[n]:=List.getElem?_eq_getElem hlt
    have g2:l[n-1]?=some (l[n-1]'(by omega)):=List.getElem?_eq_getElem (by omega)
    have d1:l.getD n default=l[n]:=by simp [List.getD,g1]
    have d2:l.getD (n-1) default=l[n-1]'(by omega):=by simp [List.getD,g2]
    generalize l[n]=e1 at g1 d1
    generalize l[n-1]'(by omega)=e2 at g2 d2
    have r1:=(hrow _ _ g1).1
    have r2:=(hrow _ _ g2).1
    obtain ⟨g,rfl⟩:∃ g',g=g'+1:=⟨g-1,by omega⟩
    unfold m9 at hcut
    rw [d1,d2] at hcut
    refine ov ?_
    refine rk (j:=n) rfl rfl rfl rfl rfl rfl rfl hlt rfl ?_
    refine ov ?_
    refine nJ rfl rfl rfl rfl .here r1 rfl ?_
    refine ov ?_
    refine rk (j:=n-1) rfl rfl rfl rfl (by omega) rfl rfl (by omega) rfl ?_
    refine ov ?_
    refine nJ rfl rfl rfl rfl .here r2 rfl ?_
    by_cases hk:e1.key=e2.key
    ·rw [if_pos ⟨hlt,hk⟩] at hcut
     refine mX (v:=.bool true) rfl rfl (by show some (Value.bool (decide (e1.key=e2.key)))=some (.bool true);rw [decide_eq_true hk]) rfl ?_
     refine ov ?_
     refine gx ?_
     exact aA (g,n+1) ⟨rfl,rfl,rfl,rfl,trivial⟩ ⟨⟨hcut,by dsimp only;omega,by dsimp only;omega,by dsimp only;omega⟩,hs⟩ (by show g<g+1;omega)
    ·rw [if_neg (fun h=>hk h.2)] at hcut
     refine mX (v:=.bool false) rfl rfl (by show some (Value.bool (decide (e1.key=e2.key)))=some (.bool false);rw [decide_eq_false hk]) rfl ?_
     refine ov ?_
     refine gx ?_
     refine z6 (fun w=>w.cell? ⟨b,2,none⟩=some (au K.d)) [3] (.q 0 (.q 1 (.q 2 (.s 3 (.q 4 (.q 6 (.q 7 (.q 8 (.l 5 (.l 9 (.q 10 (.q 11 (.q 12 (.q 13 (.q 14 .nil))))))))))))))) hs (by kernel_rfl) (fun w hs=>(hs.cell (.there (.there .here)) 2).trans rfl) ?_
     clear hs
     intro w hs
     refine ov ?_
     refine HZ rfl rfl rfl (fun _ h=>h) rfl ?_
     refine ov ?_
     refine BN 0 n rfl rfl rfl rfl rfl rfl (Nat.zero_le _) (by omega) rfl ?_
     have e0:cutAt z0.b z0.o z0.c 0 4=⟨z0.b,z0.o,none⟩:=by unfold cutAt;split<;>simp
     rw [e0,Nat.sub_zero,Nat.sub_zero]
     refine ov ?_
     refine ae (met (pf (kind:=[116,97,98,108,101]) (hs.take (.there (.there .here))) (by decide) hnum hW) ?_)
     clear hs
     rintro _ w ⟨rfl,hs⟩
     refine ⟨_,rfl,?_⟩
     refine gB ?_
     refine dN ((hs.cell .here 2).trans rfl) ?_
     refine ov ?_
     have htn:(bj (l.take n)).length=n:=by simp [bj];omega
     have hs2:=Sat.head (A':=kD 4 (.slice (some ⟨z0.b,z0.o,none⟩) (bj (l.take n)).length z0.c) (bj (l.take n))) ((hs.take (.there .here)).dup) fun hh q=>x8 (z:=z0) (gw _) (by rw [htn];omega) (by
      have e3:(bj l).flatten=(bj (l.take n)).flatten++(bj (l.drop n)).flatten:=by rw [← List.flatten_append,← wM,List.take_append_drop]
      rw [e3] at hseg;exact hseg.sub.1) q
     clear hs
     rw [htn] at hs2
     rw [hcut] at hs2
     cases hwt:nL D (dQ (num+1)) (l.take (lB l)) with
     | none=>rw [hwt] at h';cases h'
     | some r=>
      rw [hwt] at h'
      rw [hcut]
      refine ae (met (uD (l:=l.take (lB l)) (name:=dQ (num+1)) (r:=r) (hs2.fG .here (.there (.there (.there (.there .here))))) hwt) ?_)
      clear hs2
      rintro _ w ⟨tvv,ve,rfl,hs⟩
      refine ⟨_,rfl,?_⟩
      refine gB ?_
      refine dN ((hs.cell (.there (.there (.there (.there .here)))) 2).trans rfl) ?_
      obtain ⟨r1,D2⟩:=r
      cases r1 with
      | error er=>
       simp only [Option.some.injEq,Prod.mk.injEq] at h'
       obtain ⟨rfl,rfl⟩:=h'
       obtain ⟨t,u,rfl⟩:=(hs.take (.there .here)).aV
       refine ov ?_
       refine gx ?_
       refine ak rfl ⟨_,_,num+1,rfl,fun r hr=>(by cases hr),?_⟩
       exact Sat.to (Sat.emp hs)
      | ok T=>
       dsimp only at h'
       have hve:=(hs.take (.there .here)).cD
       subst hve
       obtain ⟨p,hpv,hs2⟩:=(hs.take (.there (.there .here))).DQ
       clear hs
       subst hpv
       have hs:=hs2
       clear hs2
       refine ov ?_
       refine gx ?_
       obtain ⟨ps,hps,hs⟩:=(hs.take (.there (.there (.there (.there (.there (.there .here))))))).iZ
       refine fy hs ?_
       clear hs
       intro w b2 hs
       refine eA hs ?_
       clear hs
       intro v2 w hs
       have hs:=Sat.B5 (T:=T) (p:=p) hps (hs.to (a:=aI 1 v2 193 (ps.length+1) (ps.map au++[au p])::star (List.zipWith (cE K.d) ps acc)::cE K.d p T::kD 4 (.slice (some ⟨z0.b,z0.o,none⟩) l.length z0.c) (bj l)::ag K.d D2::blk b 133 (aj K z { s with number:=num+1 })::F))
       refine gx ?_
       refine BK (m:=lB l) (hs.take (.there .here)) rfl rfl rfl rfl rfl (by omega) rfl ?_
       clear hs
       intro v5 hs
       refine gx ?_
       refine aA (f,num+1,D2,l.drop (lB l),acc++[T],v5,v2) ⟨rfl,rfl,rfl,trivial⟩ ⟨h',?_⟩ (by show f<f+1;omega)
       dsimp only
       rw [uE]
       exact hs.to
   ·have hcut:n=lB l:=by
     rw [← hcut]
     cases g with
     | zero=>rfl
     | succ g=>unfold m9;rw [if_neg (fun h=>hlt h.1)]
    refine ov ?_
    refine gx ?_
    refine z6 (fun w=>w.cell? ⟨b,2,none⟩=some (au K.d)) [3] (.q 0 (.q 1 (.q 2 (.s 3 (.q 4 (.q 6 (.q 7 (.q 8 (.l 5 (.l 9 (.q 10 (.q 11 (.q 12 (.q 13 (.q 14 .nil))))))))))))))) hs (by kernel_rfl) (fun w hs=>(hs.cell (.there (.there .here)) 2).trans rfl) ?_
    clear hs
    intro w hs
    refine ov ?_
    refine HZ rfl rfl rfl (fun _ h=>h) rfl ?_
    refine ov ?_
    refine BN 0 n rfl rfl rfl rfl rfl rfl (Nat.zero_le _) (by omega) rfl ?_
    have e0:cutAt z0.b z0.o z0.c 0 4=⟨z0.b,z0.o,none⟩:=by unfold cutAt;split<;>simp
    rw [e0,Nat.sub_zero,Nat.sub_zero]
    refine ov ?_
    refine ae (met (pf (kind:=[116,97,98,108,101]) (hs.take (.there (.there .here))) (by decide) hnum hW) ?_)
    clear hs
    rintro _ w ⟨rfl,hs⟩
    refine ⟨_,rfl,?_⟩
    refine gB ?_
    refine dN ((hs.cell .here 2).trans rfl) ?_
    refine ov ?_
    have htn:(bj (l.take n)).length=n:=by simp [bj];omega
    have hs2:=Sat.head (A':=kD 4 (.slice (some ⟨z0.b,z0.o,none⟩) (bj (l.take n)).length z0.c) (bj (l.take n))) ((hs.take (.there .here)).dup) fun hh q=>x8 (z:=z0) (gw _) (by rw [htn];omega) (by
     have e3:(bj l).flatten=(bj (l.take n)).flatten++(bj (l.drop n)).flatten:=by rw [← List.flatten_append,← wM,List.take_append_drop]
     rw [e3] at hseg;exact hseg.sub.1) q
    clear hs
    rw [htn] at hs2
    rw [hcut] at hs2
    cases hwt:nL D (dQ (num+1)) (l.take (lB l)) with
    | none=>rw [hwt] at h';cases h'
    | some r=>
     rw [hwt] at h'
     rw [hcut]
     refine ae (met (uD (l:=l.take (lB l)) (name:=dQ (num+1)) (r:=r) (hs2.fG .here (.there (.there (.there (.there .here))))) hwt) ?_)
     clear hs2
     rintro _ w ⟨tvv,ve,rfl,hs⟩
     refine ⟨_,rfl,?_⟩
     refine gB ?_
     refine dN ((hs.cell (.there (.there (.there (.there .here)))) 2).trans rfl) ?_
     obtain ⟨r1,D2⟩:=r
     cases r1 with
     | error er=>
      simp only [Option.some.injEq,Prod.mk.injEq] at h'
      obtain ⟨rfl,rfl⟩:=h'
      obtain ⟨t,u,rfl⟩:=(hs.take (.there .here)).aV
      refine ov ?_
      refine gx ?_
      refine ak rfl ⟨_,_,num+1,rfl,fun r hr=>(by cases hr),?_⟩
      exact Sat.to (Sat.emp hs)
     | ok T=>
      dsimp only at h'
      have hve:=(hs.take (.there .here)).cD
      subst hve
      obtain ⟨p,hpv,hs2⟩:=(hs.take (.there (.there .here))).DQ
      clear hs
      subst hpv
      have hs:=hs2
      clear hs2
      refine ov ?_
      refine gx ?_
      obtain ⟨ps,hps,hs⟩:=(hs.take (.there (.there (.there (.there (.there (.there .here))))))).iZ
      refine fy hs ?_
      clear hs
      intro w b2 hs
      refine eA hs ?_
      clear hs
      intro v2 w hs
      have hs:=Sat.B5 (T:=T) (p:=p) hps (hs.to (a:=aI 1 v2 193 (ps.length+1) (ps.map au++[au p])::star (List.zipWith (cE K.d) ps acc)::cE K.d p T::kD 4 (.slice (some ⟨z0.b,z0.o,none⟩) l.length z0.c) (bj l)::ag K.d D2::blk b 133 (aj K z { s with number:=num+1 })::F))
      refine gx ?_
      refine BK (m:=lB l) (hs.take (.there .here)) rfl rfl rfl rfl rfl (by omega) rfl ?_
      clear hs
      intro v5 hs
      refine gx ?_
      refine aA (f,num+1,D2,l.drop (lB l),acc++[T],v5,v2) ⟨rfl,rfl,rfl,trivial⟩ ⟨h',?_⟩ (by show f<f+1;omega)
      dsimp only
      rw [uE]
      exact hs.to
end
section
open Go.Proofs.YtecibefflhomdaaGreatDoor.Pure (ad ay Rd bu less aQ aY bz bB az cU dec iL)
attribute [local irreducible] IntKind.wrap
section
variable {ops:Array Oper} {Q:Exit→Act→World→Prop} {n:Nat} {ds:Md} {e:Env} {w w':World} {rest:List Oper} {ord:List (Nat×Bool)} {S:World→Prop}
variable {op:Op} {ty:TypeId} {pos:String} {af:Array Edge} {d i j:Nat} {v u:Value} {W0:World} {l l' r r':List ah}
theorem H2 {x y:Operand} {tt:Nat} {vs:List Value} {Y:Int} {m:Nat} {p:Nat×Nat} (hx:ev e x=some (.agg vs.toArray)) (hy:ev e y=some (.int .i64 Y)) (hY:Y=(m:Int)) (ht:lk vA tt=some p) (hsz:lk cS p.2=some 1) (hag:lk kS p.2=some false) (hm:m<p.1) (hc:vs[m]?=some v) (hd:Nat.blt d n=true)
 (kk:WL ops Q n ds rest ((d,v)::e) w):WL ops Q n ds (⟨some d,.index tt x y,ty,pos,af,none⟩::rest) e w:=by
 subst hY
 refine bW (w':=w) (fun a ha=>?_) hd kk
 have h1:((m:Int)<(p.1:Int)):=by omega
 have hu:=cj (w:=w) (lI ht)
 have hs:=cW (w:=w) hsz
 have hg:=xC (w:=w) hag
 simp [execOp,ha.ev hx,ha.ev hy,Instr.index,asIntOf,hu,hs,part,hg,hc,h1]
 intro h;omega
end
variable {W0 w:World} {F:List ah} {v:Value} {d m p:Nat} {T:cO} {D D':ad} {M:List ay}
theorem B6 {b bS:Nat} {K:SK} {z:SZ} {s:St} (hm:D.moves.length≤1099511627776) (hs:Sat W0 (blk bS 31 [au b]::blk b 133 (aj K z s)::ag K.d D::F) w) :
 Calls Tryz.prog 173 #[au bS] w fun x w'=>∃ ve,x=.returned ve∧Sat W0 (blk bS 31 [au b]::blk b 133 (aj K z s)::ag K.d (cN D bp)::aL ve (fY D bp)::F) w':=by
 refine enter Tryz.func173 rfl Tryz.ntmps173 Tryz.results173 rfl ?_
 refine gx ?_
 refine ae (met (tV (n:=bp) (hs.take (.there (.there .here))) hm) ?_)
 rintro _ w ⟨ve,rfl,hs⟩
 refine ⟨_,rfl,gx ?_⟩
 exact ak rfl ⟨_,rfl,hs.to⟩
theorem B7 {b bS b7:Nat} {K:SK} {z:SZ} {s:St} {vb:Value} {bs:Bs} (hb:bs.length≤4294967295) (hs:Sat W0 (blk bS 31 [au b]::blk b 133 (aj K z s)::ag K.d D::blk b7 93 [vb]::cg vb bs::F) w) :
 Calls Tryz.prog 174 #[au bS,au b7] w fun x w'=>∃ ve,x=.returned ve∧Sat W0 (blk bS 31 [au b]::blk b 133 (aj K z s)::ag K.d (bR D bp (az bs))::aL ve (dK D bp (az bs))::blk b7 93 [vb]::cg vb bs::F) w':=by
 refine enter Tryz.func174 rfl Tryz.ntmps174 Tryz.results174 rfl ?_
 refine gx ?_
 refine bM [blk bS 31 [au b],blk b 133 (aj K z s),blk b7 93 [vb]] [(0,false),(1,false),(2,false),(3,false),(4,false),(5,true),(6,true),(7,false)] hs (by kernel_rfl) ?_
 clear hs
 intro w hs
 refine gx ?_
 refine ae (met (kz (hs.take (.there (.there (.there (.there .here))))) hb) ?_)
 clear hs
 rintro _ w ⟨vf,rfl,hs⟩
 refine ⟨_,rfl,gx ?_⟩
 refine ae (met (tX (n:=bp) (bs:=az bs) (hs.fG (.there (.there (.there (.there .here)))) .here)) ?_)
 clear hs
 rintro _ w ⟨ve,rfl,hs⟩
 refine ⟨_,rfl,gx ?_⟩
 exact ak rfl ⟨_,rfl,hs.to⟩
theorem B8 {b bS:Nat} {K:SK} {z:SZ} {s:St} (hs:Sat W0 (blk bS 31 [au b]::blk b 133 (aj K z s)::ag K.d D::F) w) :
 Calls Tryz.prog 175 #[au bS] w fun x w'=>∃ ve,x=.returned ve∧Sat W0 (blk bS 31 [au b]::blk b 133 (aj K z s)::ag K.d (dU D bp)::aL ve (bg D bp)::F) w':=by
 refine enter Tryz.func175 rfl Tryz.ntmps175 Tryz.results175 rfl ?_
 refine gx ?_
 refine ae (met (x5 (n:=bp) (hs.take (.there (.there .here)))) ?_)
 rintro _ w ⟨ve,rfl,hs⟩
 refine ⟨_,rfl,gx ?_⟩
 exact ak rfl ⟨_,rfl,hs.to⟩
theorem B9 {b bS:Nat} {K:SK} {z:SZ} {s:St} (hm:D.moves.length≤1099511627776) (hs:Sat W0 (blk bS 31 [au b]::blk b 133 (aj K z s)::ag K.d D::F) w) :
 Calls Tryz.prog 176 #[au bS] w fun x w'=>∃ ve,x=.returned ve∧Sat W0 (blk bS 31 [au b]::blk b 133 (aj K z s)::ag K.d (fD D bp aN)::aL ve (bg D bp)::F) w':=by
 refine enter Tryz.func176 rfl Tryz.ntmps176 Tryz.results176 rfl ?_
 refine gx ?_
 refine ae (met (Hj (n:=bp) (m:=aN) (hs.take (.there (.there .here))) hm) ?_)
 rintro _ w ⟨ve,rfl,hs⟩
 refine ⟨_,rfl,gx ?_⟩
 exact ak rfl ⟨_,rfl,hs.to⟩
theorem Ca {b bS b5:Nat} {K:SK} {z:SZ} {s:St} {old:Bs} (hm:D.moves.length≤1099511627776) (hs:Sat W0 (blk bS 31 [au b]::blk b 133 (aj K z s)::ag K.d D::blk b5 9 [str old]::F) w) :
 Calls Tryz.prog 179 #[au bS,au b5] w fun x w'=>∃ ve,x=.returned ve∧Sat W0 (blk bS 31 [au b]::blk b 133 (aj K z s)::ag K.d (fe D old)::aL ve (bg D old)::blk b5 9 [str old]::F) w':=by
 refine enter Tryz.func179 rfl Tryz.ntmps179 Tryz.results179 rfl ?_
 refine gx ?_
 refine bM [blk bS 31 [au b],blk b 133 (aj K z s),blk b5 9 [str old]] [(0,false),(1,false),(2,false),(3,false),(4,false),(5,true),(6,false)] hs (by kernel_rfl) ?_
 clear hs
 intro w hs
 refine gx ?_
 refine ae (met (tW (n:=old) (hs.take (.there (.there .here))) hm) ?_)
 clear hs
 rintro _ w ⟨ve,rfl,hs⟩
 refine ⟨_,rfl,gx ?_⟩
 exact ak rfl ⟨_,rfl,hs.to⟩
structure M6 where
 b:Nat
 bS:Nat
 b5:Nat
 b7:Nat
 K:SK
 z:SZ
 s:St
 vb:Value
 old:Bs
abbrev H3 (G:M6) (D:ad):List ah:=[blk G.bS 31 [au G.b],blk G.b 133 (aj G.K G.z G.s),ag G.K.d D,blk G.b7 93 [G.vb],cg G.vb (bL G.s),blk G.b5 9 [str G.old]]
def Jv (G:M6):List Value:=[.func (.func 173) #[] #[au G.bS],.func (.func 174) #[] #[au G.bS,au G.b7],.func (.func 175) #[] #[au G.bS],.func (.func 176) #[] #[au G.bS],.func (.func 178) #[au G.K.d] #[],.func (.func 179) #[] #[au G.bS,au G.b5]]
def H4 (G:M6):List Jt:=[.create bp,.append bp (az (bL G.s)),.sync bp,.rename bp aN,.yi,.remove G.old]
theorem Cb {G:M6} {i:Nat} {o:Jt} {eo:Option cy} {D2:ad} (hb:(bL G.s).length≤4294967295) (ho:(H4 G)[i]?=some o) (hr:eG D o=some (eo,D2)) (hs:Sat W0 (H3 G D++F) w) :
 ∃ f p q,(Jv G)[i]?=some (.func (.func f) p q)∧lk tp f=some ()∧Calls Tryz.prog f (p.toList++[]++q.toList).toArray w fun x w'=>∃ ve,x=.returned ve∧Sat W0 (H3 G D2++aL ve eo::F) w':=by
 dsimp only [H3,List.cons_append,List.nil_append] at hs ⊢
 unfold H4 at ho
 match i,ho with
 | 0,ho=>
  obtain rfl:=Option.some.inj ho
  unfold eG at hr
  dsimp only at hr
  split at hr
  ·rename_i hm
   rw [bG] at hm
   simp only [Option.some.injEq,Prod.mk.injEq] at hr
   obtain ⟨rfl,rfl⟩:=hr
   exact ⟨173,#[],#[au G.bS],rfl,rfl,(B6 hm hs).mono fun _ _ ⟨ve,h1,h2⟩=>⟨ve,h1,h2.to⟩⟩
  ·cases hr
 | 1,ho=>
  obtain rfl:=Option.some.inj ho
  unfold eG at hr
  simp only [Option.some.injEq,Prod.mk.injEq] at hr
  obtain ⟨rfl,rfl⟩:=hr
  exact ⟨174,#[],#[au G.bS,au G.b7],rfl,rfl,(B7 hb hs).mono fun _ _ ⟨ve,h1,h2⟩=>⟨ve,h1,h2.to⟩⟩
 | 2,ho=>
  obtain rfl:=Option.some.inj ho
  unfold eG at hr
  simp only [Option.some.injEq,Prod.mk.injEq] at hr
  obtain ⟨rfl,rfl⟩:=hr
  exact ⟨175,#[],#[au G.bS],rfl,rfl,(B8 hs).mono fun _ _ ⟨ve,h1,h2⟩=>⟨ve,h1,h2.to⟩⟩
 | 3,ho=>
  obtain rfl:=Option.some.inj ho
  unfold eG at hr
  dsimp only at hr
  split at hr
  ·rename_i hm
   rw [bG] at hm
   simp only [Option.some.injEq,Prod.mk.injEq] at hr
   obtain ⟨rfl,rfl⟩:=hr
   exact ⟨176,#[],#[au G.bS],rfl,rfl,(B9 hm hs).mono fun _ _ ⟨ve,h1,h2⟩=>⟨ve,h1,h2.to⟩⟩
  ·cases hr
 | 4,ho=>
  obtain rfl:=Option.some.inj ho
  unfold eG at hr
  simp only [Option.some.injEq,Prod.mk.injEq] at hr
  obtain ⟨rfl,rfl⟩:=hr
  exact ⟨178,#[au G.K.d],#[],rfl,rfl,(E4 (hs.take (.there (.there .here)))).mono fun _ _ ⟨ve,h1,h2⟩=>⟨ve,h1,h2.to⟩⟩
 | 5,ho=>
  obtain rfl:=Option.some.inj ho
  unfold eG at hr
  dsimp only at hr
  split at hr
  ·rename_i hm
   rw [bG] at hm
   simp only [Option.some.injEq,Prod.mk.injEq] at hr
   obtain ⟨rfl,rfl⟩:=hr
   exact ⟨179,#[],#[au G.bS,au G.b5],rfl,rfl,(Ca hm (hs.to (a:=blk G.bS 31 [au G.b]::blk G.b 133 (aj G.K G.z G.s)::ag G.K.d D::blk G.b5 9 [str G.old]::blk G.b7 93 [G.vb]::cg G.vb (bL G.s)::F))).mono fun _ _ ⟨ve,h1,h2⟩=>⟨ve,h1,h2.to⟩⟩
  ·cases hr
 | i+6,ho=>simp at ho
end
end Go.Proofs.YtecibefflhomdaaGreatDoor
