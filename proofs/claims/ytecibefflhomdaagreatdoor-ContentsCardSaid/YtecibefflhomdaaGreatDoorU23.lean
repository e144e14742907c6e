/-
  Part 23: WALKS package levels; WALKS package levels.
-/
import Derived.Test.YtecibefflhomdaaGreatDoorU22
set_option maxHeartbeats 8000000
set_option maxRecDepth 100000
set_option linter.all false
namespace Go.Proofs.YtecibefflhomdaaGreatDoor
open Go
section
open Go.Proofs.YtecibefflhomdaaGreatDoor.Pure (PDisk Ent Rd openB less bltB searchL numB textB frameB putB dec beN)
attribute [local irreducible] IntKind.wrap
variable {W0 w:World} {F:List HProp} {v:Value} {d m p:Nat} {T:Tab} {D D':PDisk} {M:List Ent}
theorem entsC_app (a b:List Ent):entsC (a++b)=entsC a++entsC b:=by simp [entsC]
theorem Sat.tabXInv {tv:Value} (h:Sat W0 (tabX d tv (.ok T)::F) w):∃ p,tv=idV p∧Sat W0 (tabC d p T::F) w:=by
 obtain ⟨p,hp,hs⟩:=h.open1 (φ:=fun p:Nat=>tv=idV p) (B:=fun p=>[tabC d p T]) fun hp ⟨p,h1,k⟩=>⟨p,h1,hp,fun _=>none,fun _ _ _ _ hy=>(by cases hy),Hp.le_refl _,fun _ _ hx=>(by cases hx),k,trivial⟩
 exact ⟨p,hp,hs⟩
theorem entsC_drop (l:List Ent) (n:Nat):entsC (l.drop n)=(entsC l).drop n:=by simp [entsC]
theorem cutN_le (l:List Ent):∀ (f n:Nat),n≤l.length→cutN l f n≤l.length∧n≤cutN l f n
 | 0,n,h=>⟨h,Nat.le_refl _⟩
 | f+1,n,h=>by
  unfold cutN
  split
  ·have:=cutN_le l f (n+1) (by omega);omega
  ·exact ⟨h,Nat.le_refl _⟩
theorem Sat.lvPush {Ts:List Tab} {T:Tab} {ps:List Nat} {p:Nat} (h1:ps.length=Ts.length) (h:Sat W0 (ownS 1 v 193 (ps.length+1) (ps.map idV++[idV p])::star (List.zipWith (tabC d) ps Ts)::tabC d p T::F) w):Sat W0 (lvC d v (Ts++[T])::F) w:=by
 refine Sat.lvClose (ps:=ps++[p]) (by simp [h1]) ?_
 rw [List.zipWith_append (by exact h1),List.length_append,List.map_append]
 have h2:Sat W0 (tabC d p T::star (List.zipWith (tabC d) ps Ts++[])::ownS 1 v 193 (ps.length+1) (ps.map idV++[idV p])::F) w:=by
  rw [List.append_nil];exact h.to
 have h3:=h2.starPut
 exact h3.to
theorem split_spec {b:Nat} {K:SK} {z:SZ} {s:St} {l:List Ent} {x:Except Err (List Tab×Nat)} (h:splitS big s.number D l []=some (x,D')) (hW:PowW W0)
 (hs:Sat W0 (blk b 133 (stCells K z s)::rvw 4 v (entsC l)::DiskA K.d D::F) w) :
 Calls Tryz.prog 170 #[idV b,v] w fun y w'=>∃ (tv ve:Value) (num:Nat),y=.returned (.tuple #[tv,ve])∧(∀ r,x=.ok r→num=r.2) ∧
  Sat W0 (blk b 133 (stCells K z { s with number:=num })::DiskA K.d D'::errC ve (errX x)::okC (fun r=>lvC K.d tv r.1) x::F) w':=by
 refine enter Tryz.func170 rfl Tryz.ntmps170 Tryz.results170 rfl ?_
 refine gx ?_
 refine wc_loop (α:=Nat×Nat×PDisk×List Ent×List Tab×Value×Value) (fun z'=>[(0,idV b),(1,z'.2.2.2.2.2.1),(6,z'.2.2.2.2.2.2)])
  (fun z' w=>splitS z'.1 z'.2.1 z'.2.2.1 z'.2.2.2.1 z'.2.2.2.2.1=some (x,D')∧Sat W0 (blk b 133 (stCells K z { s with number:=z'.2.1 })::rvw 4 z'.2.2.2.2.2.1 (entsC z'.2.2.2.1)::lvC K.d z'.2.2.2.2.2.2 z'.2.2.2.2.1::DiskA K.d z'.2.2.1::F) w) (fun z'=>z'.1) (big,s.number,D,l,[],v,.slice none 0 0) ⟨rfl,rfl,rfl,trivial⟩ ⟨h,Sat.to (Sat.lvNil (d:=K.d) hs)⟩ ?_
 clear hs h
 rintro ⟨f,num,D,l,acc,lv,tv⟩ w ⟨h,hs⟩
 dsimp only at h hs ⊢
 obtain ⟨a,c,hlv,hc⟩:=(hs.take (.there .here)).rvShape
 have hlen:(entsC l).length=l.length:=by simp [entsC]
 rw [hlen] at hlv hc
 subst hlv
 cases l with
 | nil=>
  unfold splitS at h
  simp only [Option.some.injEq,Prod.mk.injEq] at h
  obtain ⟨rfl,rfl⟩:=h
  have h0:¬ ((([]:List Ent).length:Nat):Int) > 0:=by simp
  refine gx ?_
  refine wq_ret rfl ⟨_,_,num,rfl,fun r hr=>by cases hr;rfl,?_⟩
  exact Sat.to (Sat.errNil hs)
 | cons e0 l0=>
  generalize hl:e0::l0=l at *
  have hpos:0<l.length:=by rw [← hl];simp
  cases f with
  | zero=>subst hl;cases h
  | succ f=>
   have h':(if num≤4611686018427387904∧l.length≤big∧acc.length≤big then match writeT D (tableN (num+1)) (l.take (cutL l)) with
    | none=>none
    | some (.error x,D')=>some (.error x,D')
    | some (.ok T,D')=>splitS f (num+1) D' (l.drop (cutL l)) (acc++[T]) else none)=some (x,D'):=by subst hl;exact h
   clear h hl
   by_cases hnum:num≤4611686018427387904∧l.length≤big∧acc.length≤big
   case neg=>rw [if_neg hnum] at h';cases h'
   rw [if_pos hnum] at h'
   rw [big_eq] at hnum
   obtain ⟨hnum,hlb,hab⟩:=hnum
   have hp:(l.length:Int) > 0:=by omega
   have hcl:=cutN_le l l.length (min l.length 95) (Nat.min_le_left _ _)
   obtain ⟨z0,⟨hv,hzc,hseg⟩,hs⟩:=(hs.take (.there .here)).rvOpen (by intro hn;simp [entsC] at hn;rw [hn] at hpos;simp at hpos)
   rw [hlen] at hv hzc
   obtain ⟨rfl,_,rfl⟩:=Value.slice.inj hv
   have hrow:∀ i y,l[i]?=some y→Seg z0.all (z0.o+i*4) (entC y):=fun i y hi=>hseg.row (i:=i) (x:=entC y) (entsC_k _) (by simp [entsC,hi])
   have hmin:(min (l.length:Int) 95)=((min l.length 95:Nat):Int):=by omega
   refine gx ?_
   refine wc_loop (α:=Nat×Nat) (fun z'=>[(0,idV b),(1,.slice (some ⟨z0.b,z0.o,none⟩) l.length z0.c),(6,tv),(7,.int .i64 (z'.2:Int))])
    (fun z' w=>(cutN l z'.1 z'.2=cutL l∧z'.2≤l.length∧1≤z'.2∧l.length≤z'.1+z'.2)∧Sat W0 (ob true z0.b (.cells z0.all.toArray z0.E (0,0))::rvw 4 (.slice (some ⟨z0.b,z0.o,none⟩) l.length z0.c) (entsC l)::blk b 133 (stCells K z { s with number:=num })::lvC K.d tv acc::DiskA K.d D::F) w) (fun z'=>z'.1) (l.length,min l.length 95) ⟨rfl,rfl,rfl,by show some (Value.int .i64 (min (l.length:Int) 95))=_;rw [hmin],trivial⟩ ⟨⟨rfl,by dsimp only;omega,by dsimp only;omega,by dsimp only;omega⟩,hs⟩ ?_
   clear hs
   rintro ⟨g,n⟩ w ⟨⟨hcut,hn1,hn2,hn3⟩,hs⟩
   dsimp only at hcut hn1 hn2 hn3 hs ⊢
   refine gx ?_
   refine wc_tree [ob true z0.b (.cells z0.all.toArray z0.E (0,0))] [9,15] (.q 0 (.q 1 (.q 2 (.q 3 (.q 4 (.q 5 (.q 6 (.q 7 (.q 8 (.s 9 (.q 10 (.q 11 (.q 12 (.q 13 (.q 14 (.s 15 (.q 16 (.q 17 .nil)))))))))))))))))) hs (by kernel_rfl) ?_
   clear hs
   intro w hs
   by_cases hlt:n<l.length
   ·have g1:l[n]?=some l[n]:=List.getElem?_eq_getElem hlt
    have g2:l[n-1]?=some (l[n-1]'(by omega)):=List.getElem?_eq_getElem (by omega)
    have d1:l.getD n default=l[n]:=by simp [List.getD,g1]
    have d2:l.getD (n-1) default=l[n-1]'(by omega):=by simp [List.getD,g2]
    generalize l[n]=e1 at g1 d1
    generalize l[n-1]'(by omega)=e2 at g2 d2
    have r1:=(hrow _ _ g1).1
    have r2:=(hrow _ _ g2).1
    obtain ⟨g,rfl⟩:∃ g',g=g'+1:=⟨g-1,by omega⟩
    unfold cutN at hcut
    rw [d1,d2] at hcut
    refine gxt ?_
    refine wt_ixg (j:=n) rfl rfl rfl rfl rfl rfl rfl hlt rfl ?_
    refine gxt ?_
    refine wt_ldg rfl rfl rfl rfl .here r1 rfl ?_
    refine gxt ?_
    refine wt_ixg (j:=n-1) rfl rfl rfl rfl (by omega) rfl rfl (by omega) rfl ?_
    refine gxt ?_
    refine wt_ldg rfl rfl rfl rfl .here r2 rfl ?_
    by_cases hk:e1.key=e2.key
    ·rw [if_pos ⟨hlt,hk⟩] at hcut
     refine wt_pg (v:=.bool true) rfl rfl (by show some (Value.bool (decide (e1.key=e2.key)))=some (.bool true);rw [decide_eq_true hk]) rfl ?_
     refine gxt ?_
     refine gx ?_
     exact wq_round (g,n+1) ⟨rfl,rfl,rfl,rfl,trivial⟩ ⟨⟨hcut,by dsimp only;omega,by dsimp only;omega,by dsimp only;omega⟩,hs⟩ (by show g<g+1;omega)
    ·rw [if_neg (fun h=>hk h.2)] at hcut
     refine wt_pg (v:=.bool false) rfl rfl (by show some (Value.bool (decide (e1.key=e2.key)))=some (.bool false);rw [decide_eq_false hk]) rfl ?_
     refine gxt ?_
     refine gx ?_
     refine wc_treeS (fun w=>w.cell? ⟨b,2,none⟩=some (idV K.d)) [3] (.q 0 (.q 1 (.q 2 (.s 3 (.q 4 (.q 6 (.q 7 (.q 8 (.l 5 (.l 9 (.q 10 (.q 11 (.q 12 (.q 13 (.q 14 .nil))))))))))))))) hs (by kernel_rfl) (fun w hs=>(hs.cell (.there (.there .here)) 2).trans rfl) ?_
     clear hs
     intro w hs
     refine gxt ?_
     refine wt_ldS rfl rfl rfl (fun _ h=>h) rfl ?_
     refine gxt ?_
     refine wt_cut 0 n rfl rfl rfl rfl rfl rfl (Nat.zero_le _) (by omega) rfl ?_
     have e0:cutAt z0.b z0.o z0.c 0 4=⟨z0.b,z0.o,none⟩:=by unfold cutAt;split<;>simp
     rw [e0,Nat.sub_zero,Nat.sub_zero]
     refine gxt ?_
     refine w_call (met (sname_spec (kind:=[116,97,98,108,101]) (hs.take (.there (.there .here))) (by decide) hnum hW) ?_)
     clear hs
     rintro _ w ⟨rfl,hs⟩
     refine ⟨_,rfl,?_⟩
     refine gxs ?_
     refine wq_wt ((hs.cell .here 2).trans rfl) ?_
     refine gxt ?_
     have htn:(entsC (l.take n)).length=n:=by simp [entsC];omega
     have hs2:=Sat.head (A':=rvw 4 (.slice (some ⟨z0.b,z0.o,none⟩) (entsC (l.take n)).length z0.c) (entsC (l.take n))) ((hs.take (.there .here)).dup) fun hh q=>rvw_of (z:=z0) (entsC_k _) (by rw [htn];omega) (by
      have e3:(entsC l).flatten=(entsC (l.take n)).flatten++(entsC (l.drop n)).flatten:=by rw [← List.flatten_append,← entsC_app,List.take_append_drop]
      rw [e3] at hseg;exact hseg.sub.1) q
     clear hs
     rw [htn] at hs2
     rw [hcut] at hs2
     cases hwt:writeT D (tableN (num+1)) (l.take (cutL l)) with
     | none=>rw [hwt] at h';cases h'
     | some r=>
      rw [hwt] at h'
      rw [hcut]
      refine w_call (met (write_spec (l:=l.take (cutL l)) (name:=tableN (num+1)) (r:=r) (hs2.take2 .here (.there (.there (.there (.there .here))))) hwt) ?_)
      clear hs2
      rintro _ w ⟨tvv,ve,rfl,hs⟩
      refine ⟨_,rfl,?_⟩
      refine gxs ?_
      refine wq_wt ((hs.cell (.there (.there (.there (.there .here)))) 2).trans rfl) ?_
      obtain ⟨r1,D2⟩:=r
      cases r1 with
      | error er=>
       simp only [Option.some.injEq,Prod.mk.injEq] at h'
       obtain ⟨rfl,rfl⟩:=h'
       obtain ⟨t,u,rfl⟩:=(hs.take (.there .here)).errIface
       refine gxt ?_
       refine gx ?_
       refine wq_ret rfl ⟨_,_,num+1,rfl,fun r hr=>(by cases hr),?_⟩
       exact Sat.to (Sat.emp hs)
      | ok T=>
       dsimp only at h'
       have hve:=(hs.take (.there .here)).errIs
       subst hve
       obtain ⟨p,hpv,hs2⟩:=(hs.take (.there (.there .here))).tabXInv
       clear hs
       subst hpv
       have hs:=hs2
       clear hs2
       refine gxt ?_
       refine gx ?_
       obtain ⟨ps,hps,hs⟩:=(hs.take (.there (.there (.there (.there (.there (.there .here))))))).lvOpen
       refine w_lit1 hs ?_
       clear hs
       intro w b2 hs
       refine w_app1 hs ?_
       clear hs
       intro v2 w hs
       have hs:=Sat.lvPush (T:=T) (p:=p) hps (hs.to (a:=ownS 1 v2 193 (ps.length+1) (ps.map idV++[idV p])::star (List.zipWith (tabC K.d) ps acc)::tabC K.d p T::rvw 4 (.slice (some ⟨z0.b,z0.o,none⟩) l.length z0.c) (entsC l)::DiskA K.d D2::blk b 133 (stCells K z { s with number:=num+1 })::F))
       refine gx ?_
       refine wl_rlo (m:=cutL l) (hs.take (.there .here)) rfl rfl rfl rfl rfl (by omega) rfl ?_
       clear hs
       intro v5 hs
       refine gx ?_
       refine wq_round (f,num+1,D2,l.drop (cutL l),acc++[T],v5,v2) ⟨rfl,rfl,rfl,trivial⟩ ⟨h',?_⟩ (by show f<f+1;omega)
       dsimp only
       rw [entsC_drop]
       exact hs.to
   ·have hcut:n=cutL l:=by
     rw [← hcut]
     cases g with
     | zero=>rfl
     | succ g=>unfold cutN;rw [if_neg (fun h=>hlt h.1)]
    refine gxt ?_
    refine gx ?_
    refine wc_treeS (fun w=>w.cell? ⟨b,2,none⟩=some (idV K.d)) [3] (.q 0 (.q 1 (.q 2 (.s 3 (.q 4 (.q 6 (.q 7 (.q 8 (.l 5 (.l 9 (.q 10 (.q 11 (.q 12 (.q 13 (.q 14 .nil))))))))))))))) hs (by kernel_rfl) (fun w hs=>(hs.cell (.there (.there .here)) 2).trans rfl) ?_
    clear hs
    intro w hs
    refine gxt ?_
    refine wt_ldS rfl rfl rfl (fun _ h=>h) rfl ?_
    refine gxt ?_
    refine wt_cut 0 n rfl rfl rfl rfl rfl rfl (Nat.zero_le _) (by omega) rfl ?_
    have e0:cutAt z0.b z0.o z0.c 0 4=⟨z0.b,z0.o,none⟩:=by unfold cutAt;split<;>simp
    rw [e0,Nat.sub_zero,Nat.sub_zero]
    refine gxt ?_
    refine w_call (met (sname_spec (kind:=[116,97,98,108,101]) (hs.take (.there (.there .here))) (by decide) hnum hW) ?_)
    clear hs
    rintro _ w ⟨rfl,hs⟩
    refine ⟨_,rfl,?_⟩
    refine gxs ?_
    refine wq_wt ((hs.cell .here 2).trans rfl) ?_
    refine gxt ?_
    have htn:(entsC (l.take n)).length=n:=by simp [entsC];omega
    have hs2:=Sat.head (A':=rvw 4 (.slice (some ⟨z0.b,z0.o,none⟩) (entsC (l.take n)).length z0.c) (entsC (l.take n))) ((hs.take (.there .here)).dup) fun hh q=>rvw_of (z:=z0) (entsC_k _) (by rw [htn];omega) (by
     have e3:(entsC l).flatten=(entsC (l.take n)).flatten++(entsC (l.drop n)).flatten:=by rw [← List.flatten_append,← entsC_app,List.take_append_drop]
     rw [e3] at hseg;exact hseg.sub.1) q
    clear hs
    rw [htn] at hs2
    rw [hcut] at hs2
    cases hwt:writeT D (tableN (num+1)) (l.take (cutL l)) with
    | none=>rw [hwt] at h';cases h'
    | some r=>
     rw [hwt] at h'
     rw [hcut]
     refine w_call (met (write_spec (l:=l.take (cutL l)) (name:=tableN (num+1)) (r:=r) (hs2.take2 .here (.there (.there (.there (.there .here))))) hwt) ?_)
     clear hs2
     rintro _ w ⟨tvv,ve,rfl,hs⟩
     refine ⟨_,rfl,?_⟩
     refine gxs ?_
     refine wq_wt ((hs.cell (.there (.there (.there (.there .here)))) 2).trans rfl) ?_
     obtain ⟨r1,D2⟩:=r
     cases r1 with
     | error er=>
      simp only [Option.some.injEq,Prod.mk.injEq] at h'
      obtain ⟨rfl,rfl⟩:=h'
      obtain ⟨t,u,rfl⟩:=(hs.take (.there .here)).errIface
      refine gxt ?_
      refine gx ?_
      refine wq_ret rfl ⟨_,_,num+1,rfl,fun r hr=>(by cases hr),?_⟩
      exact Sat.to (Sat.emp hs)
     | ok T=>
      dsimp only at h'
      have hve:=(hs.take (.there .here)).errIs
      subst hve
      obtain ⟨p,hpv,hs2⟩:=(hs.take (.there (.there .here))).tabXInv
      clear hs
      subst hpv
      have hs:=hs2
      clear hs2
      refine gxt ?_
      refine gx ?_
      obtain ⟨ps,hps,hs⟩:=(hs.take (.there (.there (.there (.there (.there (.there .here))))))).lvOpen
      refine w_lit1 hs ?_
      clear hs
      intro w b2 hs
      refine w_app1 hs ?_
      clear hs
      intro v2 w hs
      have hs:=Sat.lvPush (T:=T) (p:=p) hps (hs.to (a:=ownS 1 v2 193 (ps.length+1) (ps.map idV++[idV p])::star (List.zipWith (tabC K.d) ps acc)::tabC K.d p T::rvw 4 (.slice (some ⟨z0.b,z0.o,none⟩) l.length z0.c) (entsC l)::DiskA K.d D2::blk b 133 (stCells K z { s with number:=num+1 })::F))
      refine gx ?_
      refine wl_rlo (m:=cutL l) (hs.take (.there .here)) rfl rfl rfl rfl rfl (by omega) rfl ?_
      clear hs
      intro v5 hs
      refine gx ?_
      refine wq_round (f,num+1,D2,l.drop (cutL l),acc++[T],v5,v2) ⟨rfl,rfl,rfl,trivial⟩ ⟨h',?_⟩ (by show f<f+1;omega)
      dsimp only
      rw [entsC_drop]
      exact hs.to
end
section
open Go.Proofs.YtecibefflhomdaaGreatDoor.Pure (PDisk Ent Rd openB less bltB searchL numB textB frameB putB dec beN)
attribute [local irreducible] IntKind.wrap
section
variable {ops:Array Oper} {Q:Exit→Act→World→Prop} {n:Nat} {ds:Md} {e:Env} {w w':World} {rest:List Oper} {ord:List (Nat×Bool)} {S:World→Prop}
variable {op:Op} {ty:TypeId} {pos:String} {af:Array Edge} {d i j:Nat} {v u:Value} {W0:World} {l l' r r':List HProp}
theorem wl_aix {x y:Operand} {tt:Nat} {vs:List Value} {Y:Int} {m:Nat} {p:Nat×Nat} (hx:ev e x=some (.agg vs.toArray)) (hy:ev e y=some (.int .i64 Y)) (hY:Y=(m:Int)) (ht:lk tArr tt=some p) (hsz:lk tSize p.2=some 1) (hag:lk tAgg p.2=some false) (hm:m<p.1) (hc:vs[m]?=some v) (hd:Nat.blt d n=true)
 (kk:WL ops Q n ds rest ((d,v)::e) w):WL ops Q n ds (⟨some d,.index tt x y,ty,pos,af,none⟩::rest) e w:=by
 subst hY
 refine wl_run (w':=w) (fun a ha=>?_) hd kk
 have h1:((m:Int)<(p.1:Int)):=by omega
 have hu:=und_of (w:=w) (kArr_und ht)
 have hs:=size_of (w:=w) hsz
 have hg:=agg_of (w:=w) hag
 simp [execOp,ha.ev hx,ha.ev hy,Instr.index,asIntOf,hu,hs,part,hg,hc,h1]
 intro h;omega
end
variable {W0 w:World} {F:List HProp} {v:Value} {d m p:Nat} {T:Tab} {D D':PDisk} {M:List Ent}
theorem step1_spec {b bS:Nat} {K:SK} {z:SZ} {s:St} (hm:D.moves.length≤1099511627776) (hs:Sat W0 (blk bS 31 [idV b]::blk b 133 (stCells K z s)::DiskA K.d D::F) w) :
 Calls Tryz.prog 173 #[idV bS] w fun x w'=>∃ ve,x=.returned ve∧Sat W0 (blk bS 31 [idV b]::blk b 133 (stCells K z s)::DiskA K.d (createD D freshN)::errC ve (createE D freshN)::F) w':=by
 refine enter Tryz.func173 rfl Tryz.ntmps173 Tryz.results173 rfl ?_
 refine gx ?_
 refine w_call (met (create_a (n:=freshN) (hs.take (.there (.there .here))) hm) ?_)
 rintro _ w ⟨ve,rfl,hs⟩
 refine ⟨_,rfl,gx ?_⟩
 exact wq_ret rfl ⟨_,rfl,hs.to⟩
theorem step2_spec {b bS b7:Nat} {K:SK} {z:SZ} {s:St} {vb:Value} {bs:Bs} (hb:bs.length≤4294967295) (hs:Sat W0 (blk bS 31 [idV b]::blk b 133 (stCells K z s)::DiskA K.d D::blk b7 93 [vb]::bytS vb bs::F) w) :
 Calls Tryz.prog 174 #[idV bS,idV b7] w fun x w'=>∃ ve,x=.returned ve∧Sat W0 (blk bS 31 [idV b]::blk b 133 (stCells K z s)::DiskA K.d (appended D freshN (frameB bs))::errC ve (appendE D freshN (frameB bs))::blk b7 93 [vb]::bytS vb bs::F) w':=by
 refine enter Tryz.func174 rfl Tryz.ntmps174 Tryz.results174 rfl ?_
 refine gx ?_
 refine wc_draw [blk bS 31 [idV b],blk b 133 (stCells K z s),blk b7 93 [vb]] [(0,false),(1,false),(2,false),(3,false),(4,false),(5,true),(6,true),(7,false)] hs (by kernel_rfl) ?_
 clear hs
 intro w hs
 refine gx ?_
 refine w_call (met (frame_spec (hs.take (.there (.there (.there (.there .here))))) hb) ?_)
 clear hs
 rintro _ w ⟨vf,rfl,hs⟩
 refine ⟨_,rfl,gx ?_⟩
 refine w_call (met (append_a (n:=freshN) (bs:=frameB bs) (hs.take2 (.there (.there (.there (.there .here)))) .here)) ?_)
 clear hs
 rintro _ w ⟨ve,rfl,hs⟩
 refine ⟨_,rfl,gx ?_⟩
 exact wq_ret rfl ⟨_,rfl,hs.to⟩
theorem step3_spec {b bS:Nat} {K:SK} {z:SZ} {s:St} (hs:Sat W0 (blk bS 31 [idV b]::blk b 133 (stCells K z s)::DiskA K.d D::F) w) :
 Calls Tryz.prog 175 #[idV bS] w fun x w'=>∃ ve,x=.returned ve∧Sat W0 (blk bS 31 [idV b]::blk b 133 (stCells K z s)::DiskA K.d (syncD D freshN)::errC ve (findE D freshN)::F) w':=by
 refine enter Tryz.func175 rfl Tryz.ntmps175 Tryz.results175 rfl ?_
 refine gx ?_
 refine w_call (met (sync_a (n:=freshN) (hs.take (.there (.there .here)))) ?_)
 rintro _ w ⟨ve,rfl,hs⟩
 refine ⟨_,rfl,gx ?_⟩
 exact wq_ret rfl ⟨_,rfl,hs.to⟩
theorem step4_spec {b bS:Nat} {K:SK} {z:SZ} {s:St} (hm:D.moves.length≤1099511627776) (hs:Sat W0 (blk bS 31 [idV b]::blk b 133 (stCells K z s)::DiskA K.d D::F) w) :
 Calls Tryz.prog 176 #[idV bS] w fun x w'=>∃ ve,x=.returned ve∧Sat W0 (blk bS 31 [idV b]::blk b 133 (stCells K z s)::DiskA K.d (renameD D freshN stateN)::errC ve (findE D freshN)::F) w':=by
 refine enter Tryz.func176 rfl Tryz.ntmps176 Tryz.results176 rfl ?_
 refine gx ?_
 refine w_call (met (rename_a (n:=freshN) (m:=stateN) (hs.take (.there (.there .here))) hm) ?_)
 rintro _ w ⟨ve,rfl,hs⟩
 refine ⟨_,rfl,gx ?_⟩
 exact wq_ret rfl ⟨_,rfl,hs.to⟩
theorem step6_spec {b bS b5:Nat} {K:SK} {z:SZ} {s:St} {old:Bs} (hm:D.moves.length≤1099511627776) (hs:Sat W0 (blk bS 31 [idV b]::blk b 133 (stCells K z s)::DiskA K.d D::blk b5 9 [str old]::F) w) :
 Calls Tryz.prog 179 #[idV bS,idV b5] w fun x w'=>∃ ve,x=.returned ve∧Sat W0 (blk bS 31 [idV b]::blk b 133 (stCells K z s)::DiskA K.d (removeD D old)::errC ve (findE D old)::blk b5 9 [str old]::F) w':=by
 refine enter Tryz.func179 rfl Tryz.ntmps179 Tryz.results179 rfl ?_
 refine gx ?_
 refine wc_draw [blk bS 31 [idV b],blk b 133 (stCells K z s),blk b5 9 [str old]] [(0,false),(1,false),(2,false),(3,false),(4,false),(5,true),(6,false)] hs (by kernel_rfl) ?_
 clear hs
 intro w hs
 refine gx ?_
 refine w_call (met (remove_a (n:=old) (hs.take (.there (.there .here))) hm) ?_)
 clear hs
 rintro _ w ⟨ve,rfl,hs⟩
 refine ⟨_,rfl,gx ?_⟩
 exact wq_ret rfl ⟨_,rfl,hs.to⟩
structure CmG where
 b:Nat
 bS:Nat
 b5:Nat
 b7:Nat
 K:SK
 z:SZ
 s:St
 vb:Value
 old:Bs
abbrev cmL (G:CmG) (D:PDisk):List HProp:=[blk G.bS 31 [idV G.b],blk G.b 133 (stCells G.K G.z G.s),DiskA G.K.d D,blk G.b7 93 [G.vb],bytS G.vb (stateB G.s),blk G.b5 9 [str G.old]]
def cmF (G:CmG):List Value:=[.func (.func 173) #[] #[idV G.bS],.func (.func 174) #[] #[idV G.bS,idV G.b7],.func (.func 175) #[] #[idV G.bS],.func (.func 176) #[] #[idV G.bS],.func (.func 178) #[idV G.K.d] #[],.func (.func 179) #[] #[idV G.bS,idV G.b5]]
def cmO (G:CmG):List DOp:=[.create freshN,.append freshN (frameB (stateB G.s)),.sync freshN,.rename freshN stateN,.syncdir,.remove G.old]
theorem step_spec' {G:CmG} {i:Nat} {o:DOp} {eo:Option Err} {D2:PDisk} (hb:(stateB G.s).length≤4294967295) (ho:(cmO G)[i]?=some o) (hr:runOp D o=some (eo,D2)) (hs:Sat W0 (cmL G D++F) w) :
 ∃ f p q,(cmF G)[i]?=some (.func (.func f) p q)∧lk tFun f=some ()∧Calls Tryz.prog f (p.toList++[]++q.toList).toArray w fun x w'=>∃ ve,x=.returned ve∧Sat W0 (cmL G D2++errC ve eo::F) w':=by
 dsimp only [cmL,List.cons_append,List.nil_append] at hs ⊢
 unfold cmO at ho
 match i,ho with
 | 0,ho=>
  obtain rfl:=Option.some.inj ho
  unfold runOp at hr
  dsimp only at hr
  split at hr
  ·rename_i hm
   rw [big_eq] at hm
   simp only [Option.some.injEq,Prod.mk.injEq] at hr
   obtain ⟨rfl,rfl⟩:=hr
   exact ⟨173,#[],#[idV G.bS],rfl,rfl,(step1_spec hm hs).mono fun _ _ ⟨ve,h1,h2⟩=>⟨ve,h1,h2.to⟩⟩
  ·cases hr
 | 1,ho=>
  obtain rfl:=Option.some.inj ho
  unfold runOp at hr
  simp only [Option.some.injEq,Prod.mk.injEq] at hr
  obtain ⟨rfl,rfl⟩:=hr
  exact ⟨174,#[],#[idV G.bS,idV G.b7],rfl,rfl,(step2_spec hb hs).mono fun _ _ ⟨ve,h1,h2⟩=>⟨ve,h1,h2.to⟩⟩
 | 2,ho=>
  obtain rfl:=Option.some.inj ho
  unfold runOp at hr
  simp only [Option.some.injEq,Prod.mk.injEq] at hr
  obtain ⟨rfl,rfl⟩:=hr
  exact ⟨175,#[],#[idV G.bS],rfl,rfl,(step3_spec hs).mono fun _ _ ⟨ve,h1,h2⟩=>⟨ve,h1,h2.to⟩⟩
 | 3,ho=>
  obtain rfl:=Option.some.inj ho
  unfold runOp at hr
  dsimp only at hr
  split at hr
  ·rename_i hm
   rw [big_eq] at hm
   simp only [Option.some.injEq,Prod.mk.injEq] at hr
   obtain ⟨rfl,rfl⟩:=hr
   exact ⟨176,#[],#[idV G.bS],rfl,rfl,(step4_spec hm hs).mono fun _ _ ⟨ve,h1,h2⟩=>⟨ve,h1,h2.to⟩⟩
  ·cases hr
 | 4,ho=>
  obtain rfl:=Option.some.inj ho
  unfold runOp at hr
  simp only [Option.some.injEq,Prod.mk.injEq] at hr
  obtain ⟨rfl,rfl⟩:=hr
  exact ⟨178,#[idV G.K.d],#[],rfl,rfl,(syncdir_a (hs.take (.there (.there .here)))).mono fun _ _ ⟨ve,h1,h2⟩=>⟨ve,h1,h2.to⟩⟩
 | 5,ho=>
  obtain rfl:=Option.some.inj ho
  unfold runOp at hr
  dsimp only at hr
  split at hr
  ·rename_i hm
   rw [big_eq] at hm
   simp only [Option.some.injEq,Prod.mk.injEq] at hr
   obtain ⟨rfl,rfl⟩:=hr
   exact ⟨179,#[],#[idV G.bS,idV G.b5],rfl,rfl,(step6_spec hm (hs.to (a:=blk G.bS 31 [idV G.b]::blk G.b 133 (stCells G.K G.z G.s)::DiskA G.K.d D::blk G.b5 9 [str G.old]::blk G.b7 93 [G.vb]::bytS G.vb (stateB G.s)::F))).mono fun _ _ ⟨ve,h1,h2⟩=>⟨ve,h1,h2.to⟩⟩
  ·cases hr
 | i+6,ho=>simp at ho
end
end Go.Proofs.YtecibefflhomdaaGreatDoor
