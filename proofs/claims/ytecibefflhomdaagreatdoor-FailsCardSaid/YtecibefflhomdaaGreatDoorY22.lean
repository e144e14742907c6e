/-
  Part 22: The engine 27 order trees over any fact that the loud steps ; WALKS package levels; WALKS package levels.
-/
import Derived.Test.YtecibefflhomdaaGreatDoorY21
set_option maxHeartbeats 8000000
set_option maxRecDepth 100000
set_option linter.all false
namespace Go.Proofs.YtecibefflhomdaaGreatDoor
open Go
section
variable {ops:Array Oper} {Q:Exit→Act→World→Prop} {S:World→Prop} {K:List Nat} {n:Nat} {ds:Md} {e:Env} {w w':World} {b:Bool} {t t':OT}
variable {op:Op} {ty:TypeId} {pos:String} {af:Array Edge} {d i j:Nat} {v u:Value} {W0:World} {l l' r r':List ah}
theorem Ai {id:Nat} {ol:List Oper} [hp:pV Q] [k8 Q] (S:World→Prop) (K:List Nat) (t:OT) (hs:Sat W0 l w)
 (hok:(rm ol.toArray K t ol.length (Array.replicate ol.length false)&&Region.noSelect ol.toArray&&(ds.round.isNone||vZ ol))=true)
 (hS:∀ w,Sat W0 l w→S w) (k:∀ w,Sat W0 l w→WT ol.toArray Q S K n ds true t e w):WC (.region id ol.toArray true) Q n ds e w:=by
 unfold WC
 intro a ha
 simp only [Bool.and_eq_true] at hok
 obtain ⟨⟨h1,h3⟩,h4⟩:=hok
 refine wpIn_region_draw fun tt=>tn _ (by simpa using h4) _ _ _ ?_
 simp only [Region.schedule,mixed,Bool.true_or,if_true]
 refine wpAny_sound ol.toArray.size tt _ _ _ (yk (S:=S) (K:=K) _ _ _ _ ?_)
 have hd:=hs.drew
 have e1:ol.toArray.size=ol.length:=by simp
 rw [e1]
 exact HT h3 hp.ind t ol.length _ a _ (fun j o ho hl=>by
  exfalso
  have hj:j<ol.length:=by have:=(Array.getElem?_eq_some_iff.1 ho).1;simpa using this
  simp [hj] at hl) h1 (by have:=k _ hd;unfold WT at this;exact this a ha fun _=>hS _ hd)
theorem NC (k:WT ops Q S K n ds b t e w):WT ops Q S K n ds b t e w:=k
theorem Ip {x:Operand} {T bb o:Nat} (ho:ops[i]?=some ⟨some d,.load T x,ty,pos,af,none⟩) (hx:ev e x=some (.pointer (some ⟨bb,o,none⟩))) (hT:lk kZ T=some false)
 (hS:∀ w,S w→w.cell? ⟨bb,o,none⟩=some v) (hd:Nat.blt d n=true) (k:WT ops Q S K n ds true t ((d,v)::e) w):WT ops Q S K n ds true (.s i t) e w:=
 Ea ho (fun a w' ha hs=>by simp [execOp,ha.ev hx,Instr.loadAt,Instr.sureAddr,cK hT (hS _ hs)]) hd k
theorem Iq {x:Int} (ho:ops[i]?=some ⟨some d,op,ty,pos,af,none⟩) (hv:yv e op=some (.int .u64 (IntKind.u64.wrap x))) (h1:0≤x) (h2:x≤18446744073709551615) (hd:Nat.blt d n=true)
 (k:WT ops Q S K n ds b t ((d,.int .u64 x)::e) w):WT ops Q S K n ds b (.q i t) e w:=dN ho (by rw [hv,IntWalk.u64_in _ ⟨h1,h2⟩]) hd k
end
theorem oA {G G':Prop} (k:G') (h:xV G'→G:=by
 (intro k
  repeat (refine NC ?_
          first
   | refine dN (op:=.fieldAddr _ _ _) rfl rfl rfl ?_
   | refine dN (op:=.nilCheck _) rfl rfl rfl ?_
   | refine dN (op:=.move _) rfl rfl rfl ?_
   | refine dN (op:=.assign _) rfl rfl rfl ?_
   | refine dN (op:=.extract _ _) rfl rfl rfl ?_
   | refine sk rfl rfl rfl (by repeat (first|exact Take.here|apply Take.there)) (by rfl) rfl ?_
   | refine hJ rfl ?_
   | refine fA ?_
   | refine nM rfl rfl (by omega) (by omega) rfl ?_
   | refine Iq rfl rfl (by omega) (by omega) rfl ?_
   | refine HU rfl rfl (by first|assumption|omega) rfl ?_
   | refine HV rfl rfl (by first|assumption|omega) rfl ?_
   | refine dN rfl rfl rfl ?_
   | refine HW rfl rfl rfl (by omega) (by omega) rfl ?_
   | refine m9 rfl rfl rfl rfl ?_
   | refine HX rfl rfl rfl rfl ?_
   | refine B1 rfl rfl rfl rfl ?_
   | refine nN rfl rfl rfl rfl (by repeat (first|exact Take.here|apply Take.there)) (by rfl) rfl ?_)
  exact k.out)):G:=h ⟨k⟩
section
open Go.Proofs.YtecibefflhomdaaGreatDoor.Pure (ad az Rd bI less aQ aZ bM bE aD cY dec j3)
attribute [local irreducible] IntKind.wrap
variable {W0 w:World} {F:List ah} {v:Value} {d m p:Nat} {T:cD} {D D':ad} {M:List az}
theorem wV (a b:List az):bu (a++b)=bu a++bu b:=by simp [bu]
theorem Sat.En {tv:Value} (h:Sat W0 (Kz d tv (.ok T)::F) w):∃ p,tv=au p∧Sat W0 (cG d p T::F) w:=by
 obtain ⟨p,hp,hs⟩:=h.eI (φ:=fun p:Nat=>tv=au p) (B:=fun p=>[cG d p T]) fun hp ⟨p,h1,k⟩=>⟨p,h1,hp,fun _=>none,fun _ _ _ _ hy=>(by cases hy),Hp.le_refl _,fun _ _ hx=>(by cases hx),k,trivial⟩
 exact ⟨p,hp,hs⟩
theorem uH (l:List az) (n:Nat):bu (l.drop n)=(bu l).drop n:=by simp [bu]
theorem Eo (l:List az):∀ (f n:Nat),n≤l.length→nh l f n≤l.length∧n≤nh l f n
 | 0,n,h=>⟨h,Nat.le_refl _⟩
 | f+1,n,h=>by
  unfold nh
  split
  ·have:=Eo l f (n+1) (by omega);omega
  ·exact ⟨h,Nat.le_refl _⟩
theorem Sat.Ch {Ts:List cD} {T:cD} {ps:List Nat} {p:Nat} (h1:ps.length=Ts.length) (h:Sat W0 (aE 1 v 193 (ps.length+1) (ps.map au++[au p])::star (List.zipWith (cG d) ps Ts)::cG d p T::F) w):Sat W0 (eT d v (Ts++[T])::F) w:=by
 refine Sat.jj (ps:=ps++[p]) (by simp [h1]) ?_
 rw [List.zipWith_append (by exact h1),List.length_append,List.map_append]
 have h2:Sat W0 (cG d p T::star (List.zipWith (cG d) ps Ts++[])::aE 1 v 193 (ps.length+1) (ps.map au++[au p])::F) w:=by
  rw [List.append_nil];exact h.to
 have h3:=h2.eK
 exact h3.to
theorem uI {b:Nat} {K:SK} {z:SZ} {s:St} {l:List az} {x:Except cy (List cD×Nat)} (h:kO gW s.number D l []=some (x,D')) (hW:jB W0)
 (hs:Sat W0 (blk b 133 (aj K z s)::jm 4 v (bu l)::ag K.d D::F) w) :
 Calls Tryz.prog 170 #[au b,v] w fun y w'=>∃ (tv ve:Value) (num:Nat),y=.returned (.tuple #[tv,ve])∧(∀ r,x=.ok r→num=r.2) ∧
  Sat W0 (blk b 133 (aj K z { s with number:=num })::ag K.d D'::ax ve (dk x)::Nd (fun r=>eT K.d tv r.1) x::F) w':=by
 refine enter Tryz.func170 rfl Tryz.ntmps170 Tryz.results170 rfl ?_
 refine gx ?_
 refine aL (α:=Nat×Nat×ad×List az×List cD×Value×Value) (fun z'=>[(0,au b),(1,z'.2.2.2.2.2.1),(6,z'.2.2.2.2.2.2)])
  (fun z' w=>kO z'.1 z'.2.1 z'.2.2.1 z'.2.2.2.1 z'.2.2.2.2.1=some (x,D')∧Sat W0 (blk b 133 (aj K z { s with number:=z'.2.1 })::jm 4 z'.2.2.2.2.2.1 (bu z'.2.2.2.1)::eT K.d z'.2.2.2.2.2.2 z'.2.2.2.2.1::ag K.d z'.2.2.1::F) w) (fun z'=>z'.1) (gW,s.number,D,l,[],v,.slice none 0 0) ⟨rfl,rfl,rfl,trivial⟩ ⟨h,Sat.to (Sat.wP (d:=K.d) hs)⟩ ?_
 clear hs h
 rintro ⟨f,num,D,l,acc,lv,tv⟩ w ⟨h,hs⟩
 dsimp only at h hs ⊢
 obtain ⟨a,c,hlv,hc⟩:=(hs.take (.there .here)).iw
 have hlen:(bu l).length=l.length:=by simp [bu]
 rw [hlen] at hlv hc
 subst hlv
 cases l with
 | nil=>
  unfold kO at h
  simp only [Option.some.injEq,Prod.mk.injEq] at h
  obtain ⟨rfl,rfl⟩:=h
  have h0:¬ ((([]:List az).length:Nat):Int) > 0:=by simp
  refine gx ?_
  refine ak rfl ⟨_,_,num,rfl,fun r hr=>by cases hr;rfl,?_⟩
  exact Sat.to (Sat.ei hs)
 | cons e0 l0=>
  generalize hl:e0::l0=l at *
  have hpos:0<l.length:=by rw [← hl];simp
  cases f with
  | zero=>subst hl;cases h
  | succ f=>
   have h':(if num≤4611686018427387904∧l.length≤gW∧acc.length≤gW then match nO D (dp (num+1)) (l.take (lH l)) with
    | none=>none
    | some (.error x,D')=>some (.error x,D')
    | some (.ok T,D')=>kO f (num+1) D' (l.drop (lH l)) (acc++[T]) else none)=some (x,D'):=by subst hl;exact h
   clear h hl
   by_cases hnum:num≤4611686018427387904∧l.length≤gW∧acc.length≤gW
   case neg=>rw [if_neg hnum] at h';cases h'
   rw [if_pos hnum] at h'
   rw [bJ] at hnum
   obtain ⟨hnum,hlb,hab⟩:=hnum
   have hp:(l.length:Int) > 0:=by omega
   have hcl:=Eo l l.length (min l.length 95) (Nat.min_le_left _ _)
   obtain ⟨z0,⟨hv,hzc,hseg⟩,hs⟩:=(hs.take (.there .here)).mK (by intro hn;simp [bu] at hn;rw [hn] at hpos;simp at hpos)
   rw [hlen] at hv hzc
   obtain ⟨rfl,_,rfl⟩:=Value.slice.inj hv
   have hrow:∀ i y,l[i]?=some y→gh z0.all (z0.o+i*4) (aF y):=fun i y hi=>hseg.row (i:=i) (x:=aF y) (gE _) (by simp [bu,hi])
   have hmin:(min (l.length:Int) 95)=((min l.length 95:Nat):Int):=by omega
   refine gx ?_
   refine aL (α:=Nat×Nat) (fun z'=>[(0,au b),(1,.slice (some ⟨z0.b,z0.o,none⟩) l.length z0.c),(6,tv),(7,.int .i64 (z'.2:Int))])
    (fun z' w=>(nh l z'.1 z'.2=lH l∧z'.2≤l.length∧1≤z'.2∧l.length≤z'.1+z'.2)∧Sat W0 (ob true z0.b (.cells z0.all.toArray z0.E (0,0))::jm 4 (.slice (some ⟨z0.b,z0.o,none⟩) l.length z0.c) (bu l)::blk b 133 (aj K z { s with number:=num })::eT K.d tv acc::ag K.d D::F) w) (fun z'=>z'.1) (l.length,min l.length 95) ⟨rfl,rfl,rfl,by show some (Value.int .i64 (min (l.length:Int) 95))=_;rw [hmin],trivial⟩ ⟨⟨rfl,by dsimp only;omega,by dsimp only;omega,by dsimp only;omega⟩,hs⟩ ?_
   clear hs
   rintro ⟨g,n⟩ w ⟨⟨hcut,hn1,hn2,hn3⟩,hs⟩
   dsimp only at hcut hn1 hn2 hn3 hs ⊢
   refine gx ?_
   refine bH [ob true z0.b (.cells z0.all.toArray z0.E (0,0))] [9,15] (.q 0 (.q 1 (.q 2 (.q 3 (.q 4 (.q 5 (.q 6 (.q 7 (.q 8 (.s 9 (.q 10 (.q 11 (.q 12 (.q 13 (.q 14 (.s 15 (.q 16 (.q 17 .nil)))))))))))))))))) hs (by kernel_rfl) ?_
   clear hs
   intro w hs
   by_cases hlt:n<l.length
   ·have g1:l[n]?=some l[n]:=List.getElem?_eq_getElem hlt
    have g2:l[n-1]?=some (l[n-1]'(by omega)):=List.getElem?_eq_getElem (by omega)
    have d1:l.getD n default=l[n]:=by simp [List.getD,g1]
    have d2:l.getD (n-1) default=l[n-1]'(by omega):=by simp [List.getD,g2]
    generalize l[n]=e1 at g1 d1
    generalize l[n-1]'(by omega)=e2 at g2 d2
    have r1:=(hrow _ _ g1).1
    have r2:=(hrow _ _ g2).1
    obtain ⟨g,rfl⟩:∃ g',g=g'+1:=⟨g-1,by omega⟩
    unfold nh at hcut
    rw [d1,d2] at hcut
    refine oA ?_
    refine rn (j:=n) rfl rfl rfl rfl rfl rfl rfl hlt rfl ?_
    refine oA ?_
    refine nN rfl rfl rfl rfl .here r1 rfl ?_
    refine oA ?_
    refine rn (j:=n-1) rfl rfl rfl rfl (by omega) rfl rfl (by omega) rfl ?_
    refine oA ?_
    refine nN rfl rfl rfl rfl .here r2 rfl ?_
    by_cases hk:e1.key=e2.key
    ·rw [if_pos ⟨hlt,hk⟩] at hcut
     refine m9 (v:=.bool true) rfl rfl (by show some (Value.bool (decide (e1.key=e2.key)))=some (.bool true);rw [decide_eq_true hk]) rfl ?_
     refine oA ?_
     refine gx ?_
     exact aB (g,n+1) ⟨rfl,rfl,rfl,rfl,trivial⟩ ⟨⟨hcut,by dsimp only;omega,by dsimp only;omega,by dsimp only;omega⟩,hs⟩ (by show g<g+1;omega)
    ·rw [if_neg (fun h=>hk h.2)] at hcut
     refine m9 (v:=.bool false) rfl rfl (by show some (Value.bool (decide (e1.key=e2.key)))=some (.bool false);rw [decide_eq_false hk]) rfl ?_
     refine oA ?_
     refine gx ?_
     refine Ai (fun w=>w.cell? ⟨b,2,none⟩=some (au K.d)) [3] (.q 0 (.q 1 (.q 2 (.s 3 (.q 4 (.q 6 (.q 7 (.q 8 (.l 5 (.l 9 (.q 10 (.q 11 (.q 12 (.q 13 (.q 14 .nil))))))))))))))) hs (by kernel_rfl) (fun w hs=>(hs.cell (.there (.there .here)) 2).trans rfl) ?_
     clear hs
     intro w hs
     refine oA ?_
     refine Ip rfl rfl rfl (fun _ h=>h) rfl ?_
     refine oA ?_
     refine B3 0 n rfl rfl rfl rfl rfl rfl (Nat.zero_le _) (by omega) rfl ?_
     have e0:cutAt z0.b z0.o z0.c 0 4=⟨z0.b,z0.o,none⟩:=by unfold cutAt;split<;>simp
     rw [e0,Nat.sub_zero,Nat.sub_zero]
     refine oA ?_
     refine ae (met (pz (kind:=[116,97,98,108,101]) (hs.take (.there (.there .here))) (by decide) hnum hW) ?_)
     clear hs
     rintro _ w ⟨rfl,hs⟩
     refine ⟨_,rfl,?_⟩
     refine gz ?_
     refine cX ((hs.cell .here 2).trans rfl) ?_
     refine oA ?_
     have htn:(bu (l.take n)).length=n:=by simp [bu];omega
     have hs2:=Sat.head (A':=jm 4 (.slice (some ⟨z0.b,z0.o,none⟩) (bu (l.take n)).length z0.c) (bu (l.take n))) ((hs.take (.there .here)).dup) fun hh q=>yi (z:=z0) (gE _) (by rw [htn];omega) (by
      have e3:(bu l).flatten=(bu (l.take n)).flatten++(bu (l.drop n)).flatten:=by rw [← List.flatten_append,← wV,List.take_append_drop]
      rw [e3] at hseg;exact hseg.sub.1) q
     clear hs
     rw [htn] at hs2
     rw [hcut] at hs2
     cases hwt:nO D (dp (num+1)) (l.take (lH l)) with
     | none=>rw [hwt] at h';cases h'
     | some r=>
      rw [hwt] at h'
      rw [hcut]
      refine ae (met (uG (l:=l.take (lH l)) (name:=dp (num+1)) (r:=r) (hs2.eA .here (.there (.there (.there (.there .here))))) hwt) ?_)
      clear hs2
      rintro _ w ⟨tvv,ve,rfl,hs⟩
      refine ⟨_,rfl,?_⟩
      refine gz ?_
      refine cX ((hs.cell (.there (.there (.there (.there .here)))) 2).trans rfl) ?_
      obtain ⟨r1,D2⟩:=r
      cases r1 with
      | error er=>
       simp only [Option.some.injEq,Prod.mk.injEq] at h'
       obtain ⟨rfl,rfl⟩:=h'
       obtain ⟨t,u,rfl⟩:=(hs.take (.there .here)).aW
       refine oA ?_
       refine gx ?_
       refine ak rfl ⟨_,_,num+1,rfl,fun r hr=>(by cases hr),?_⟩
       exact Sat.to (Sat.emp hs)
      | ok T=>
       dsimp only at h'
       have hve:=(hs.take (.there .here)).cF
       subst hve
       obtain ⟨p,hpv,hs2⟩:=(hs.take (.there (.there .here))).En
       clear hs
       subst hpv
       have hs:=hs2
       clear hs2
       refine oA ?_
       refine gx ?_
       obtain ⟨ps,hps,hs⟩:=(hs.take (.there (.there (.there (.there (.there (.there .here))))))).ix
       refine fw hs ?_
       clear hs
       intro w b2 hs
       refine dF hs ?_
       clear hs
       intro v2 w hs
       have hs:=Sat.Ch (T:=T) (p:=p) hps (hs.to (a:=aE 1 v2 193 (ps.length+1) (ps.map au++[au p])::star (List.zipWith (cG K.d) ps acc)::cG K.d p T::jm 4 (.slice (some ⟨z0.b,z0.o,none⟩) l.length z0.c) (bu l)::ag K.d D2::blk b 133 (aj K z { s with number:=num+1 })::F))
       refine gx ?_
       refine BZ (m:=lH l) (hs.take (.there .here)) rfl rfl rfl rfl rfl (by omega) rfl ?_
       clear hs
       intro v5 hs
       refine gx ?_
       refine aB (f,num+1,D2,l.drop (lH l),acc++[T],v5,v2) ⟨rfl,rfl,rfl,trivial⟩ ⟨h',?_⟩ (by show f<f+1;omega)
       dsimp only
       rw [uH]
       exact hs.to
   ·have hcut:n=lH l:=by
     rw [← hcut]
     cases g with
     | zero=>rfl
     | succ g=>unfold nh;rw [if_neg (fun h=>hlt h.1)]
    refine oA ?_
    refine gx ?_
    refine Ai (fun w=>w.cell? ⟨b,2,none⟩=some (au K.d)) [3] (.q 0 (.q 1 (.q 2 (.s 3 (.q 4 (.q 6 (.q 7 (.q 8 (.l 5 (.l 9 (.q 10 (.q 11 (.q 12 (.q 13 (.q 14 .nil))))))))))))))) hs (by kernel_rfl) (fun w hs=>(hs.cell (.there (.there .here)) 2).trans rfl) ?_
    clear hs
    intro w hs
    refine oA ?_
    refine Ip rfl rfl rfl (fun _ h=>h) rfl ?_
    refine oA ?_
    refine B3 0 n rfl rfl rfl rfl rfl rfl (Nat.zero_le _) (by omega) rfl ?_
    have e0:cutAt z0.b z0.o z0.c 0 4=⟨z0.b,z0.o,none⟩:=by unfold cutAt;split<;>simp
    rw [e0,Nat.sub_zero,Nat.sub_zero]
    refine oA ?_
    refine ae (met (pz (kind:=[116,97,98,108,101]) (hs.take (.there (.there .here))) (by decide) hnum hW) ?_)
    clear hs
    rintro _ w ⟨rfl,hs⟩
    refine ⟨_,rfl,?_⟩
    refine gz ?_
    refine cX ((hs.cell .here 2).trans rfl) ?_
    refine oA ?_
    have htn:(bu (l.take n)).length=n:=by simp [bu];omega
    have hs2:=Sat.head (A':=jm 4 (.slice (some ⟨z0.b,z0.o,none⟩) (bu (l.take n)).length z0.c) (bu (l.take n))) ((hs.take (.there .here)).dup) fun hh q=>yi (z:=z0) (gE _) (by rw [htn];omega) (by
     have e3:(bu l).flatten=(bu (l.take n)).flatten++(bu (l.drop n)).flatten:=by rw [← List.flatten_append,← wV,List.take_append_drop]
     rw [e3] at hseg;exact hseg.sub.1) q
    clear hs
    rw [htn] at hs2
    rw [hcut] at hs2
    cases hwt:nO D (dp (num+1)) (l.take (lH l)) with
    | none=>rw [hwt] at h';cases h'
    | some r=>
     rw [hwt] at h'
     rw [hcut]
     refine ae (met (uG (l:=l.take (lH l)) (name:=dp (num+1)) (r:=r) (hs2.eA .here (.there (.there (.there (.there .here))))) hwt) ?_)
     clear hs2
     rintro _ w ⟨tvv,ve,rfl,hs⟩
     refine ⟨_,rfl,?_⟩
     refine gz ?_
     refine cX ((hs.cell (.there (.there (.there (.there .here)))) 2).trans rfl) ?_
     obtain ⟨r1,D2⟩:=r
     cases r1 with
     | error er=>
      simp only [Option.some.injEq,Prod.mk.injEq] at h'
      obtain ⟨rfl,rfl⟩:=h'
      obtain ⟨t,u,rfl⟩:=(hs.take (.there .here)).aW
      refine oA ?_
      refine gx ?_
      refine ak rfl ⟨_,_,num+1,rfl,fun r hr=>(by cases hr),?_⟩
      exact Sat.to (Sat.emp hs)
     | ok T=>
      dsimp only at h'
      have hve:=(hs.take (.there .here)).cF
      subst hve
      obtain ⟨p,hpv,hs2⟩:=(hs.take (.there (.there .here))).En
      clear hs
      subst hpv
      have hs:=hs2
      clear hs2
      refine oA ?_
      refine gx ?_
      obtain ⟨ps,hps,hs⟩:=(hs.take (.there (.there (.there (.there (.there (.there .here))))))).ix
      refine fw hs ?_
      clear hs
      intro w b2 hs
      refine dF hs ?_
      clear hs
      intro v2 w hs
      have hs:=Sat.Ch (T:=T) (p:=p) hps (hs.to (a:=aE 1 v2 193 (ps.length+1) (ps.map au++[au p])::star (List.zipWith (cG K.d) ps acc)::cG K.d p T::jm 4 (.slice (some ⟨z0.b,z0.o,none⟩) l.length z0.c) (bu l)::ag K.d D2::blk b 133 (aj K z { s with number:=num+1 })::F))
      refine gx ?_
      refine BZ (m:=lH l) (hs.take (.there .here)) rfl rfl rfl rfl rfl (by omega) rfl ?_
      clear hs
      intro v5 hs
      refine gx ?_
      refine aB (f,num+1,D2,l.drop (lH l),acc++[T],v5,v2) ⟨rfl,rfl,rfl,trivial⟩ ⟨h',?_⟩ (by show f<f+1;omega)
      dsimp only
      rw [uH]
      exact hs.to
end
section
open Go.Proofs.YtecibefflhomdaaGreatDoor.Pure (ad az Rd bI less aQ aZ bM bE aD cY dec j3)
attribute [local irreducible] IntKind.wrap
section
variable {ops:Array Oper} {Q:Exit→Act→World→Prop} {n:Nat} {ds:Md} {e:Env} {w w':World} {rest:List Oper} {ord:List (Nat×Bool)} {S:World→Prop}
variable {op:Op} {ty:TypeId} {pos:String} {af:Array Edge} {d i j:Nat} {v u:Value} {W0:World} {l l' r r':List ah}
theorem Ci {x y:Operand} {tt:Nat} {vs:List Value} {Y:Int} {m:Nat} {p:Nat×Nat} (hx:ev e x=some (.agg vs.toArray)) (hy:ev e y=some (.int .i64 Y)) (hY:Y=(m:Int)) (ht:lk vC tt=some p) (hsz:lk df p.2=some 1) (hag:lk kZ p.2=some false) (hm:m<p.1) (hc:vs[m]?=some v) (hd:Nat.blt d n=true)
 (kk:WL ops Q n ds rest ((d,v)::e) w):WL ops Q n ds (⟨some d,.index tt x y,ty,pos,af,none⟩::rest) e w:=by
 subst hY
 refine cj (w':=w) (fun a ha=>?_) hd kk
 have h1:((m:Int)<(p.1:Int)):=by omega
 have hu:=cB (w:=w) (lM ht)
 have hs:=dq (w:=w) hsz
 have hg:=xK (w:=w) hag
 simp [execOp,ha.ev hx,ha.ev hy,Instr.index,asIntOf,hu,hs,part,hg,hc,h1]
 intro h;omega
end
variable {W0 w:World} {F:List ah} {v:Value} {d m p:Nat} {T:cD} {D D':ad} {M:List az}
theorem Cj {b bS:Nat} {K:SK} {z:SZ} {s:St} (hm:D.moves.length≤1099511627776) (hs:Sat W0 (blk bS 31 [au b]::blk b 133 (aj K z s)::ag K.d D::F) w) :
 Calls Tryz.prog 173 #[au bS] w fun x w'=>∃ ve,x=.returned ve∧Sat W0 (blk bS 31 [au b]::blk b 133 (aj K z s)::ag K.d (cT D aY)::ax ve (gm D aY)::F) w':=by
 refine enter Tryz.func173 rfl Tryz.ntmps173 Tryz.results173 rfl ?_
 refine gx ?_
 refine ae (met (tY (n:=aY) (hs.take (.there (.there .here))) hm) ?_)
 rintro _ w ⟨ve,rfl,hs⟩
 refine ⟨_,rfl,gx ?_⟩
 exact ak rfl ⟨_,rfl,hs.to⟩
theorem Ck {b bS b7:Nat} {K:SK} {z:SZ} {s:St} {vb:Value} {bs:Bs} (hb:bs.length≤4294967295) (hs:Sat W0 (blk bS 31 [au b]::blk b 133 (aj K z s)::ag K.d D::blk b7 93 [vb]::cC vb bs::F) w) :
 Calls Tryz.prog 174 #[au bS,au b7] w fun x w'=>∃ ve,x=.returned ve∧Sat W0 (blk bS 31 [au b]::blk b 133 (aj K z s)::ag K.d (bZ D aY (aD bs))::ax ve (dX D aY (aD bs))::blk b7 93 [vb]::cC vb bs::F) w':=by
 refine enter Tryz.func174 rfl Tryz.ntmps174 Tryz.results174 rfl ?_
 refine gx ?_
 refine bU [blk bS 31 [au b],blk b 133 (aj K z s),blk b7 93 [vb]] [(0,false),(1,false),(2,false),(3,false),(4,false),(5,true),(6,true),(7,false)] hs (by kernel_rfl) ?_
 clear hs
 intro w hs
 refine gx ?_
 refine ae (met (kH (hs.take (.there (.there (.there (.there .here))))) hb) ?_)
 clear hs
 rintro _ w ⟨vf,rfl,hs⟩
 refine ⟨_,rfl,gx ?_⟩
 refine ae (met (ub (n:=aY) (bs:=aD bs) (hs.eA (.there (.there (.there (.there .here)))) .here)) ?_)
 clear hs
 rintro _ w ⟨ve,rfl,hs⟩
 refine ⟨_,rfl,gx ?_⟩
 exact ak rfl ⟨_,rfl,hs.to⟩
theorem Cl {b bS:Nat} {K:SK} {z:SZ} {s:St} (hs:Sat W0 (blk bS 31 [au b]::blk b 133 (aj K z s)::ag K.d D::F) w) :
 Calls Tryz.prog 175 #[au bS] w fun x w'=>∃ ve,x=.returned ve∧Sat W0 (blk bS 31 [au b]::blk b 133 (aj K z s)::ag K.d (dR D aY)::ax ve (bz D aY)::F) w':=by
 refine enter Tryz.func175 rfl Tryz.ntmps175 Tryz.results175 rfl ?_
 refine gx ?_
 refine ae (met (yf (n:=aY) (hs.take (.there (.there .here)))) ?_)
 rintro _ w ⟨ve,rfl,hs⟩
 refine ⟨_,rfl,gx ?_⟩
 exact ak rfl ⟨_,rfl,hs.to⟩
theorem Cm {b bS:Nat} {K:SK} {z:SZ} {s:St} (hm:D.moves.length≤1099511627776) (hs:Sat W0 (blk bS 31 [au b]::blk b 133 (aj K z s)::ag K.d D::F) w) :
 Calls Tryz.prog 176 #[au bS] w fun x w'=>∃ ve,x=.returned ve∧Sat W0 (blk bS 31 [au b]::blk b 133 (aj K z s)::ag K.d (fM D aY aP)::ax ve (bz D aY)::F) w':=by
 refine enter Tryz.func176 rfl Tryz.ntmps176 Tryz.results176 rfl ?_
 refine gx ?_
 refine ae (met (HL (n:=aY) (m:=aP) (hs.take (.there (.there .here))) hm) ?_)
 rintro _ w ⟨ve,rfl,hs⟩
 refine ⟨_,rfl,gx ?_⟩
 exact ak rfl ⟨_,rfl,hs.to⟩
theorem Cn {b bS b5:Nat} {K:SK} {z:SZ} {s:St} {old:Bs} (hm:D.moves.length≤1099511627776) (hs:Sat W0 (blk bS 31 [au b]::blk b 133 (aj K z s)::ag K.d D::blk b5 9 [str old]::F) w) :
 Calls Tryz.prog 179 #[au bS,au b5] w fun x w'=>∃ ve,x=.returned ve∧Sat W0 (blk bS 31 [au b]::blk b 133 (aj K z s)::ag K.d (fq D old)::ax ve (bz D old)::blk b5 9 [str old]::F) w':=by
 refine enter Tryz.func179 rfl Tryz.ntmps179 Tryz.results179 rfl ?_
 refine gx ?_
 refine bU [blk bS 31 [au b],blk b 133 (aj K z s),blk b5 9 [str old]] [(0,false),(1,false),(2,false),(3,false),(4,false),(5,true),(6,false)] hs (by kernel_rfl) ?_
 clear hs
 intro w hs
 refine gx ?_
 refine ae (met (tZ (n:=old) (hs.take (.there (.there .here))) hm) ?_)
 clear hs
 rintro _ w ⟨ve,rfl,hs⟩
 refine ⟨_,rfl,gx ?_⟩
 exact ak rfl ⟨_,rfl,hs.to⟩
structure ND where
 b:Nat
 bS:Nat
 b5:Nat
 b7:Nat
 K:SK
 z:SZ
 s:St
 vb:Value
 old:Bs
abbrev Ir (G:ND) (D:ad):List ah:=[blk G.bS 31 [au G.b],blk G.b 133 (aj G.K G.z G.s),ag G.K.d D,blk G.b7 93 [G.vb],cC G.vb (bT G.s),blk G.b5 9 [str G.old]]
def JQ (G:ND):List Value:=[.func (.func 173) #[] #[au G.bS],.func (.func 174) #[] #[au G.bS,au G.b7],.func (.func 175) #[] #[au G.bS],.func (.func 176) #[] #[au G.bS],.func (.func 178) #[au G.K.d] #[],.func (.func 179) #[] #[au G.bS,au G.b5]]
def Is (G:ND):List JO:=[.create aY,.append aY (aD (bT G.s)),.sync aY,.rename aY aP,.yr,.remove G.old]
theorem Co {G:ND} {i:Nat} {o:JO} {eo:Option cy} {D2:ad} (hb:(bT G.s).length≤4294967295) (ho:(Is G)[i]?=some o) (hr:eL D o=some (eo,D2)) (hs:Sat W0 (Ir G D++F) w) :
 ∃ f p q,(JQ G)[i]?=some (.func (.func f) p q)∧lk tu f=some ()∧Calls Tryz.prog f (p.toList++[]++q.toList).toArray w fun x w'=>∃ ve,x=.returned ve∧Sat W0 (Ir G D2++ax ve eo::F) w':=by
 dsimp only [Ir,List.cons_append,List.nil_append] at hs ⊢
 unfold Is at ho
 match i,ho with
 | 0,ho=>
  obtain rfl:=Option.some.inj ho
  unfold eL at hr
  dsimp only at hr
  split at hr
  ·rename_i hm
   rw [bJ] at hm
   simp only [Option.some.injEq,Prod.mk.injEq] at hr
   obtain ⟨rfl,rfl⟩:=hr
   exact ⟨173,#[],#[au G.bS],rfl,rfl,(Cj hm hs).mono fun _ _ ⟨ve,h1,h2⟩=>⟨ve,h1,h2.to⟩⟩
  ·cases hr
 | 1,ho=>
  obtain rfl:=Option.some.inj ho
  unfold eL at hr
  simp only [Option.some.injEq,Prod.mk.injEq] at hr
  obtain ⟨rfl,rfl⟩:=hr
  exact ⟨174,#[],#[au G.bS,au G.b7],rfl,rfl,(Ck hb hs).mono fun _ _ ⟨ve,h1,h2⟩=>⟨ve,h1,h2.to⟩⟩
 | 2,ho=>
  obtain rfl:=Option.some.inj ho
  unfold eL at hr
  simp only [Option.some.injEq,Prod.mk.injEq] at hr
  obtain ⟨rfl,rfl⟩:=hr
  exact ⟨175,#[],#[au G.bS],rfl,rfl,(Cl hs).mono fun _ _ ⟨ve,h1,h2⟩=>⟨ve,h1,h2.to⟩⟩
 | 3,ho=>
  obtain rfl:=Option.some.inj ho
  unfold eL at hr
  dsimp only at hr
  split at hr
  ·rename_i hm
   rw [bJ] at hm
   simp only [Option.some.injEq,Prod.mk.injEq] at hr
   obtain ⟨rfl,rfl⟩:=hr
   exact ⟨176,#[],#[au G.bS],rfl,rfl,(Cm hm hs).mono fun _ _ ⟨ve,h1,h2⟩=>⟨ve,h1,h2.to⟩⟩
  ·cases hr
 | 4,ho=>
  obtain rfl:=Option.some.inj ho
  unfold eL at hr
  simp only [Option.some.injEq,Prod.mk.injEq] at hr
  obtain ⟨rfl,rfl⟩:=hr
  exact ⟨178,#[au G.K.d],#[],rfl,rfl,(FC (hs.take (.there (.there .here)))).mono fun _ _ ⟨ve,h1,h2⟩=>⟨ve,h1,h2.to⟩⟩
 | 5,ho=>
  obtain rfl:=Option.some.inj ho
  unfold eL at hr
  dsimp only at hr
  split at hr
  ·rename_i hm
   rw [bJ] at hm
   simp only [Option.some.injEq,Prod.mk.injEq] at hr
   obtain ⟨rfl,rfl⟩:=hr
   exact ⟨179,#[],#[au G.bS,au G.b5],rfl,rfl,(Cn hm (hs.to (a:=blk G.bS 31 [au G.b]::blk G.b 133 (aj G.K G.z G.s)::ag G.K.d D::blk G.b5 9 [str G.old]::blk G.b7 93 [G.vb]::cC G.vb (bT G.s)::F))).mono fun _ _ ⟨ve,h1,h2⟩=>⟨ve,h1,h2.to⟩⟩
  ·cases hr
 | i+6,ho=>simp at ho
end
end Go.Proofs.YtecibefflhomdaaGreatDoor
