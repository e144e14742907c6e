/-
  Part 26: WALKS package levels; WALKS package rows; WALKS rows that one reads, owned or shown.
-/
import Derived.Test.YtecibefflhomdaaGreatDoorU25
set_option maxHeartbeats 8000000
set_option maxRecDepth 100000
set_option linter.all false
namespace Go.Proofs.YtecibefflhomdaaGreatDoor
open Go
section
open Go.Proofs.YtecibefflhomdaaGreatDoor.Pure (PDisk Ent Rd openB less bltB searchL numB textB frameB putB dec beN)
attribute [local irreducible] IntKind.wrap
variable {W0 w:World} {F:List HProp} {v:Value} {d m p:Nat} {T:Tab} {D D':PDisk} {M:List Ent}
section
variable {ops:Array Oper} {Q:Exit→Act→World→Prop} {n:Nat} {ds:Md} {e:Env} {w w':World} {KK:List Nat} {S:World→Prop} {bb:Bool} {t:OT}
variable {op:Op} {ty:TypeId} {pos:String} {af:Array Edge} {d i j:Nat}
theorem wt_ixa {x y:Operand} {tt b o k:Nat} {p:Nat×Nat} {Y:Int} (ho:ops[i]?=some ⟨some d,.indexAddr tt x y,ty,pos,af,none⟩) (hx:ev e x=some (.pointer (some ⟨b,o,none⟩))) (hy:ev e y=some (.int .i64 Y)) (ht:lk tArr tt=some p) (hsz:lk tSize p.2=some k)
 (h0:0≤Y) (h1:Y<(p.1:Int)) (hd:Nat.blt d n=true) (kk:WT ops Q S KK n ds bb t ((d,.pointer (some ⟨b,o+Y.toNat*k,none⟩))::e) w) :
 WT ops Q S KK n ds bb (.q i t) e w:=
 wt_y ho (fun a w' ha=>by simp [execOp,ha.ev hx,ha.ev hy,Instr.indexAt,asIntOf,und_of (kArr_und ht),size_of hsz,h0,h1,add_eq,Instr.sureAddr]) hd kk
end
theorem Sat.lvCat {A B:List Tab} {ps qs:List Nat} (h1:ps.length=A.length) (h2:qs.length=B.length)
 (h:Sat W0 (ownS 1 v 193 (ps.length+qs.length) (ps.map idV++qs.map idV)::star (List.zipWith (tabC d) ps A)::star (List.zipWith (tabC d) qs B)::F) w):Sat W0 (lvC d v (A++B)::F) w:=by
 refine Sat.lvClose (ps:=ps++qs) (by simp [h1,h2]) ?_
 rw [List.zipWith_append (by exact h1),List.length_append,List.map_append]
 refine h.imp fun _ k=>sepL_tail (fun _ k=>?_) k
 have k2:=sepL_star k
 refine sepL_unstar (a:=List.zipWith (tabC d) ps A++List.zipWith (tabC d) qs B) ?_
 rw [List.append_assoc]
 obtain ⟨x1,x2,f,l1,l2,ra,rb⟩:=sepL_split k2
 exact sepL_append f l1 l2 ra (sepL_star rb)
theorem flush_spec' {b:Nat} {K:SK} {s:St} {x:Except Err St} (h:flushS K.o s D=some (x,D')) (hW:PowW W0) (hs:Sat W0 (stD b K s::DiskA K.d D::F) w) :
 Calls Tryz.prog 99 #[idV b] w fun y w'=>∃ ve,y=.returned ve∧Sat W0 (stX b K x::DiskA K.d D'::errC ve (errX x)::F) w':=by
 unfold flushS at h
 by_cases hmx:big<s.mem.length
 ·rw [if_pos hmx] at h;cases h
 rw [if_neg hmx] at h
 rw [big_eq] at hmx
 obtain ⟨hl,z,hs⟩:=hs.sdOpen
 refine enter Tryz.func99 rfl Tryz.ntmps99 Tryz.results99 rfl ?_
 refine gx ?_
 refine w_call (met (memFrom_spec (key:=[]) (hs.take (.there (.there .here))) (by omega)) ?_)
 clear hs
 rintro _ w ⟨vf,rfl,hs⟩
 refine ⟨_,rfl,gx ?_⟩
 cases hk:keptS s D (.one (fromM s.mem [])) false with
 | none=>rw [hk] at h;cases h
 | some r=>
  obtain ⟨xk,D1⟩:=r
  rw [hk] at h
  have hs:=hs.to (a:=blk b 133 (stCells K z s)::mapH keyI z.sn (snapsV s.snaps)::nxC K.d z.m vf (.one (fromM s.mem []))::memC z.m s.mem::DiskA K.d D::lvS K.d z s.levels::F)
  refine w_call (met (kept_spec hk (by omega) hs) ?_)
  clear hs hk
  rintro _ w ⟨lv,ve,rfl,hs⟩
  refine ⟨_,rfl,?_⟩
  cases xk with
  | error e=>
   simp only [bindO,Option.some.injEq,Prod.mk.injEq] at h
   obtain ⟨rfl,rfl⟩:=h
   obtain ⟨t,u,rfl⟩:=(hs.take (.there (.there (.there (.there .here))))).errIface
   refine gx ?_
   refine wq_ret rfl ⟨_,rfl,?_⟩
   exact Sat.stErr (e:=e) (Sat.sdClose (z:=z) hl hs.to)
  | ok l=>
   simp only [bindO] at h
   have hve:=(hs.take (.there (.there (.there (.there .here))))).errIs
   subst hve
   refine gx ?_
   have hs:=hs.take (.there (.there (.there (.there (.there .here)))))
   dsimp only [okC] at hs
   have hs:=Sat.entShare hs
   have hs:=hs.to (a:=blk b 133 (stCells K z s)::rvw 4 lv (entsC l)::DiskA K.d D1::mapH keyI z.sn (snapsV s.snaps)::memC z.m s.mem::lvS K.d z s.levels::F)
   cases hsp:splitS big s.number D1 l [] with
   | none=>rw [hsp] at h;cases h
   | some r=>
    obtain ⟨xs,D2⟩:=r
    rw [hsp] at h
    refine w_call (met (split_spec hsp hW hs) ?_)
    clear hs hsp
    rintro _ w ⟨tv,ve,num,rfl,hnum,hs⟩
    refine ⟨_,rfl,?_⟩
    cases xs with
    | error e=>
     simp only [Option.some.injEq,Prod.mk.injEq] at h
     obtain ⟨rfl,rfl⟩:=h
     obtain ⟨t,u,rfl⟩:=(hs.take (.there (.there .here))).errIface
     refine gx ?_
     refine wq_ret rfl ⟨_,rfl,?_⟩
     exact Sat.stErr (e:=e) (Sat.sdClose (s:={ s with number:=num }) (z:=z) hl hs.to)
    | ok ts=>
     dsimp only at h
     obtain rfl:=hnum ts rfl
     have hve:=(hs.take (.there (.there .here))).errIs
     subst hve
     dsimp only [okC] at hs
     have hs:=hs.to (a:=blk b 133 (stCells K z { s with number:=ts.2 })::lvS K.d z s.levels::lvC K.d tv ts.1::DiskA K.d D2::mapH keyI z.sn (snapsV s.snaps)::memC z.m s.mem::F)
     obtain ⟨t0,t1,t2,t3,hlv⟩:=four hl
     have hg0:s.levels[0]?=some t0:=by rw [hlv];rfl
     have hgd:s.levels.getD 0 []=t0:=by rw [hlv];rfl
     have hset:s.levels.set 0 (t0++ts.1)=(s.levels.getD 0 []++ts.1)::s.levels.drop 1:=by rw [hlv];rfl
     obtain ⟨lv0,hlv0,hs⟩:=(hs.take (.there .here)).lvTake hg0 (by omega)
     have hz0:z.l0=lv0:=Option.some.inj hlv0
     obtain ⟨ps,hps,hs⟩:=hs.lvOpen
     obtain ⟨qs,hqs,hs⟩:=(hs.take (.there (.there (.there (.there .here))))).lvOpen
     have hs:=hs.to (a:=blk b 133 (stCells K z { s with number:=ts.2 })::ownS 1 lv0 193 ps.length (ps.map idV)::star (List.zipWith (tabC K.d) ps t0)::ownS 1 tv 193 qs.length (qs.map idV)::star (List.zipWith (tabC K.d) qs ts.1)::lvR K.d z s.levels 0::DiskA K.d D2::mapH keyI z.sn (snapsV s.snaps)::memC z.m s.mem::F)
     by_cases hbig:(s.levels.getD 0 []).length+ts.1.length≤big
     case neg=>rw [if_neg hbig] at h;cases h
     rw [if_pos hbig] at h
     rw [big_eq,hgd,← hps,← hqs] at hbig
     refine gx ?_
     refine wc_tree [blk b 133 (stCells K z { s with number:=ts.2 })] [5] (.q 0 (.q 1 (.q 2 (.q 3 (.q 4 (.s 5 (.q 6 (.q 8 (.q 9 (.l 7 (.q 10 (.l 11 .nil)))))))))))) hs (by kernel_rfl) ?_
     clear hs
     intro w hs
     refine gxt ?_
     refine wt_ixa (p:=(4,129)) rfl rfl rfl rfl rfl (by omega) (by show (0:Int)<4;omega) rfl ?_
     refine gxt ?_
     rw [hz0]
     refine wl_append (k:=1) (m:=qs.length) (news:=qs.map idV) hs rfl rfl (.there .here) (srcOwn rfl (.there (.there (.there .here)))) rfl rfl rfl rfl rfl (by simp only [maxLen];omega) (by omega) rfl ?_
     clear hs
     intro v7 w hs
     have hs:=hs.to (a:=ownS 1 v7 193 (ps.length+qs.length) (ps.map idV++qs.map idV)::star (List.zipWith (tabC K.d) ps t0)::star (List.zipWith (tabC K.d) qs ts.1)::lvR K.d z s.levels 0::blk b 133 (stCells K z { s with number:=ts.2 })::DiskA K.d D2::mapH keyI z.sn (snapsV s.snaps)::memC z.m s.mem::F)
     have hv7:isOne v7=true:=by obtain ⟨a7,c7,rfl,-⟩:=hs.ownShape;rfl
     have hs:=Sat.lvPut (i:=0) (by omega) hl (Sat.lvCat hps hqs hs)
     rw [hset] at hs
     refine gxs ?_
     refine wq_wtD rfl ?_
     refine gxt ?_
     refine wt_ixa (p:=(4,129)) rfl rfl rfl rfl rfl (by omega) (by show (0:Int)<4;omega) rfl ?_
     refine gxt ?_
     refine wl_st hs rfl rfl rfl hv7 (.there .here) rfl ?_
     clear hs
     intro w hs
     refine gxs ?_
     refine wq_wtD rfl ?_
     refine wt_nil ?_
     refine gx ?_
     refine w_build [.slice none 0 0] ?_
     refine w_box hs ?_
     clear hs
     intro w bm hs
     refine gx ?_
     refine w_st hs ?_
     clear hs
     intro w hs
     have hs:=Sat.ownNil (k:=4) (E:=256) hs
     have hs:=Sat.memClose (m:=bm) (v:=.slice none 0 0) (l:=[]) (hs.to (a:=blk bm 120 [.slice none 0 0]::entS (.slice none 0 0) []::blk b 133 (stCells K { z.put 0 v7 with m:=bm } { s with number:=ts.2,levels:=(s.levels.getD 0 []++ts.1)::s.levels.drop 1,mem:=[] })::lvS K.d { z.put 0 v7 with m:=bm } ((s.levels.getD 0 []++ts.1)::s.levels.drop 1)::DiskA K.d D2::mapH keyI z.sn (snapsV s.snaps)::F))
     refine gx ?_
     cases hcm:commitS { s with number:=ts.2,levels:=(s.levels.getD 0 []++ts.1)::s.levels.drop 1,mem:=[] } D2 true with
     | none=>rw [hcm] at h;cases h
     | some r=>
      obtain ⟨xc,D3⟩:=r
      rw [hcm] at h
      have hl2:((s.levels.getD 0 []++ts.1)::s.levels.drop 1).length=4:=by simp;omega
      refine w_call (met (commit_s hcm hl2 hW (hs.to (a:=blk b 133 (stCells K { z.put 0 v7 with m:=bm } { s with number:=ts.2,levels:=(s.levels.getD 0 []++ts.1)::s.levels.drop 1,mem:=[] })::lvS K.d { z.put 0 v7 with m:=bm } ((s.levels.getD 0 []++ts.1)::s.levels.drop 1)::DiskA K.d D2::memC bm []::mapH keyI z.sn (snapsV s.snaps)::F))) ?_)
      clear hs hcm
      rintro _ w ⟨ve,s',rfl,hs',⟨nu,lo,hs2⟩,hs⟩
      refine ⟨_,rfl,?_⟩
      have hl3:s'.levels.length=4:=by rw [hs2];exact hl2
      have hcl:Sat W0 (stD b K s'::DiskA K.d D3::errC ve (errX xc)::F) w:=by
       refine Sat.sdClose (z:={ z.put 0 v7 with m:=bm }) hl3 ?_
       have e1:s'.levels=(s.levels.getD 0 []++ts.1)::s.levels.drop 1:=by rw [hs2]
       have e2:s'.mem=[]:=by rw [hs2]
       have e3:s'.snaps=s.snaps:=by rw [hs2]
       rw [e1,e2,e3]
       exact hs.to
      clear hs
      cases xc with
      | error e=>
       simp only [Option.some.injEq,Prod.mk.injEq] at h
       obtain ⟨rfl,rfl⟩:=h
       obtain ⟨t,u,rfl⟩:=(hcl.take (.there (.there .here))).errIface
       refine gx ?_
       refine wq_ret rfl ⟨_,rfl,?_⟩
       exact Sat.stErr (e:=e) hcl
      | ok s3=>
       obtain rfl:=hs' s3 rfl
       dsimp only at h
       have hve:=(hcl.take (.there (.there .here))).errIs
       subst hve
       refine gx ?_
       refine w_call (met (settle_spec h hW hcl) ?_)
       clear hcl
       rintro _ w ⟨ve,rfl,hs⟩
       refine ⟨_,rfl,gx ?_⟩
       exact wq_ret rfl ⟨_,rfl,hs.to⟩
theorem compact_spec {b:Nat} {K:SK} {s:St} {x:Except Err St} (h:compactS K.o s D=some (x,D')) (hW:PowW W0) (hs:Sat W0 (stD b K s::DiskA K.d D::F) w) :
 Calls Tryz.prog 138 #[idV b] w fun y w'=>∃ ve,y=.returned ve∧Sat W0 (stX b K x::DiskA K.d D'::errC ve (errX x)::F) w':=by
 unfold compactS at h
 refine enter Tryz.func138 rfl Tryz.ntmps138 Tryz.results138 rfl ?_
 obtain ⟨hl,z,hs⟩:=hs.sdOpen
 refine gx ?_
 refine w_call (met (len_spec (hs.take (.there (.there .here)))) ?_)
 clear hs
 rintro _ w ⟨rfl,hs⟩
 refine ⟨_,rfl,?_⟩
 have hs:=Sat.sdClose (z:=z) hl (hs.to (a:=blk b 133 (stCells K z s)::lvS K.d z s.levels::memC z.m s.mem::mapH keyI z.sn (snapsV s.snaps)::DiskA K.d D::F))
 by_cases hm:0<s.mem.length
 ·rw [if_pos hm] at h
  have hm':(s.mem.length:Int) > 0:=by omega
  refine gx ?_
  cases hf:flushS K.o s D with
  | none=>rw [hf] at h;cases h
  | some r=>
   obtain ⟨x1,D1⟩:=r
   rw [hf] at h
   refine w_call (met (flush_spec' hf hW hs) ?_)
   clear hs hf
   rintro _ w ⟨ve,rfl,hs⟩
   refine ⟨_,rfl,?_⟩
   cases x1 with
   | error e=>
    simp only [bindO,Option.some.injEq,Prod.mk.injEq] at h
    obtain ⟨rfl,rfl⟩:=h
    obtain ⟨t,u,rfl⟩:=(hs.take (.there (.there .here))).errIface
    refine gx ?_
    exact wq_ret rfl ⟨_,rfl,hs⟩
   | ok s1=>
    simp only [bindO] at h
    have hve:=(hs.take (.there (.there .here))).errIs
    subst hve
    refine gx ?_
    refine w_call (met (mergeS_spec h (by omega) (by omega) hW hs) ?_)
    clear hs
    rintro _ w ⟨ve,rfl,hs⟩
    refine ⟨_,rfl,gx ?_⟩
    exact wq_ret rfl ⟨_,rfl,hs.to⟩
 ·rw [if_neg hm] at h
  simp only [bindO] at h
  have hm':¬ (s.mem.length:Int) > 0:=by omega
  refine gx ?_
  refine w_call (met (mergeS_spec h (by omega) (by omega) hW hs) ?_)
  clear hs
  rintro _ w ⟨ve,rfl,hs⟩
  refine ⟨_,rfl,gx ?_⟩
  exact wq_ret rfl ⟨_,rfl,hs⟩
end
section
open Go.Proofs.YtecibefflhomdaaGreatDoor.Pure (Ent less bltB searchL searchG addL searchL_le searchG_fuel addL_length)
attribute [local irreducible] IntKind.wrap
variable {W0 w:World} {F:List HProp} {v:Value} {m:Nat} {l:List Ent}
theorem add_spec {e:Ent} (hs:Sat W0 (memC m l::F) w) (hmx:l.length≤1099511627776):Calls Tryz.prog 147 #[idV m,.agg (entC e).toArray] w fun x w'=>x=.returned (.tuple #[])∧Sat W0 (memC m (addL l e)::F) w':=by
 refine enter Tryz.func147 rfl Tryz.ntmps147 Tryz.results147 rfl ?_
 refine go ?_
 refine w_box (z:=entC e) hs fun w b1 hs=>?_
 refine go ?_
 refine w_call (met (search_spec (e:=e) (hs.take (.there .here)) hmx) ?_)
 rintro _ w ⟨rfl,hs⟩
 refine ⟨_,rfl,go ?_⟩
 have hi:=searchL_le l e
 unfold addL
 generalize searchL l e=i at *
 obtain ⟨v,hs⟩:=hs.memOpen
 obtain ⟨a,c,rfl,-⟩:=(hs.take (.there .here)).entLen
 refine wc_draw [blk m 120 [.slice a l.length c],blk b1 256 (entC e)] [(0,false),(1,false),(2,false),(3,false),(4,false),(5,false),(6,true),(7,true),(8,false),(9,false),(10,true)] hs.to (by kernel_rfl) fun w hs=>?_
 refine go ?_
 refine w_lit (entC e) hs (fun w b2 hs=>?_)
 refine go ?_
 refine w_app1 hs fun v2 w hs=>?_
 obtain ⟨a2,c2,rfl,hc2⟩:=hs.ownShape
 refine go ?_
 refine w_st hs fun w hs=>?_
 refine go ?_
 obtain ⟨b,cap,rs,hv,q1,q2,q3,hs⟩:=hs.ownPos (by omega)
 simp only [Value.slice.injEq] at hv
 obtain ⟨rfl,_,rfl⟩:=hv
 obtain ⟨x,r,hr,hrl⟩:∃ x r,l++[e]=l.take i++x::r∧r.length=l.length-i:=by
  have h1:((l++[e]).drop i).length=l.length+1-i:=by simp
  cases hd:(l++[e]).drop i with
  | nil=>rw [hd] at h1;simp at h1;omega
  | cons x r=>
   refine ⟨x,r,?_,by rw [hd] at h1;simp at h1;omega⟩
   rw [← hd,← List.take_append_of_le_length (l₂:=[e]) hi,List.take_append_drop]
 have hs:Sat W0 (blk b 256 (ef (l.take i)++(entC x++(ef r++rs)))::blk m 120 [.slice (some ⟨b,0,none⟩) (l.length+1) c2]::blk b1 256 (entC e)::F) w:=by
  have e1:(entsC l).flatten++entC e++rs=ef (l.take i)++(entC x++(ef r++rs)):=by
   rw [← ents_cons,hr]
   show ef _++rs=_
   rw [ef_append,ef_cons];simp
  rw [e1] at hs
  exact hs.to
 have fin:∀ (X:List Ent) w,X.length=l.length+1→Sat W0 (blk b 256 (ef X++rs)::blk m 120 [.slice (some ⟨b,0,none⟩) (l.length+1) c2]::F) w→Sat W0 (memC m X::F) w:=fun X w hX hs=>by
  have:=Sat.ownClose (k:=4) (len:=l.length+1) hs q1 q2 q3 (by rw [ef_len,hX]) (entsC_one X)
  rw [← hX] at this
  exact Sat.memClose this.to
 refine wc_draw (l:=blk b 256 (ef (l.take i)++(entC x++(ef r++rs)))::blk m 120 [.slice (some ⟨b,0,none⟩) (l.length+1) c2]::blk b1 256 (entC e)::F) [blk m 120 [.slice (some ⟨b,0,none⟩) (l.length+1) c2],blk b1 256 (entC e)] [(0,false),(1,false),(2,false),(3,false),(4,false),(5,false),(6,false),(7,false),(8,false),(9,false),(10,false),(11,false),(12,false),(13,true)] hs (by kernel_rfl) fun w hs=>?_
 refine go ?_
 refine wo_cut (i+1) (l.length+1) rfl rfl rfl rfl (by show some (Value.int .i64 ((i:Int)+1))=_;rfl) rfl (by omega) q1 rfl ?_
 refine go ?_
 refine wo_cut i (l.length+1) rfl rfl rfl rfl rfl rfl (by omega) q1 rfl ?_
 refine go ?_
 have hsrc:Seg (ef (l.take i)++(entC x++(ef r++rs))) (i*4) (ef (l.drop i)):=by
  have e1:ef (l.take i)++(entC x++(ef r++rs))=ef (l.take i)++(ef (l.drop i)++(entC e++rs)):=by
   have:ef (l++[e])=ef (l.take i)++(entC x++ef r):=by rw [hr,ef_append,ef_cons]
   have h2:ef (l++[e])=ef (l.take i)++(ef (l.drop i)++entC e):=by
    conv=>lhs;rw [← List.take_append_drop i l]
    rw [ef_append,ef_append,ef_cons];simp
   have h3:=this.symm.trans h2
   have h4:ef (l.take i)++(entC x++(ef r++rs))=(ef (l.take i)++(entC x++ef r))++rs:=by simp
   rw [h4,h3];simp
  have e2:i*4=(ef (l.take i)).length+0:=by rw [ef_len,List.length_take,Nat.min_eq_left hi];rfl
  rw [e1,e2]
  exact Seg.pre _ (Seg.all _).app
 have hcopy:splice (ef (l.take i)++(entC x++(ef r++rs))) ((i+1)*4) (ef (l.drop i))=ef (l.take i)++(entC x++(ef (l.drop i)++rs)):=by
  have e2:(i+1)*4=(ef (l.take i)++entC x).length:=by rw [List.length_append,ef_len,List.length_take,Nat.min_eq_left hi];show _=i*4+4;omega
  have:=splice_mid (ef (l.take i)++entC x) (ef r) (ef (l.drop i)) rs (by rw [ef_len,ef_len,hrl];simp)
  rw [e2];simpa using this
 have hput:splice (ef (l.take i)++(entC x++(ef (l.drop i)++rs))) (0+i*4) (entC e)=ef (l.take i++e::l.drop i)++rs:=by
  have e2:0+i*4=(ef (l.take i)).length:=by rw [ef_len,List.length_take,Nat.min_eq_left hi];omega
  rw [e2,splice_mid _ (entC x) (entC e) _ rfl,ef_append,ef_cons];simp
 have c2i:cutAt b 0 c2 i 4=⟨b,i*4,none⟩:=by unfold cutAt;rw [if_neg (by omega)];simp
 rw [c2i]
 have hcells:((ef (l.take i)++(entC x++(ef r++rs)))).length=(l.length+1)*4+rs.length:=by
  simp only [List.length_append,ef_len,List.length_take,Nat.min_eq_left hi,hrl]
  show i*4+(4+((l.length-i)*4+rs.length))=_
  omega
 obtain ⟨o,ho,hsp,hfit⟩:∃ o,cutAt b 0 c2 (i+1) 4=⟨b,o,none⟩∧splice (ef (l.take i)++(entC x++(ef r++rs))) o (ef (l.drop i))=ef (l.take i)++(entC x++(ef (l.drop i)++rs))∧o+(ef (l.drop i)).length≤(ef (l.take i)++(entC x++(ef r++rs))).length:=by
  by_cases hc:c2=i+1
  ·have hil:i=l.length:=by omega
   have hr0:r=[]:=List.eq_nil_of_length_eq_zero (by omega)
   subst hr0
   refine ⟨0,by unfold cutAt;rw [if_pos hc],?_,by simp [hil]⟩
   rw [hil];simp [splice]
  ·refine ⟨(i+1)*4,by unfold cutAt;rw [if_neg hc];simp,hcopy,?_⟩
   rw [hcells,ef_len];simp;omega
 rw [ho]
 refine wl_copy (news:=ef (l.drop i)) hs rfl rfl rfl rfl .here hsrc (by rw [ef_len,List.length_drop];congr 1;omega) (entsC_one _) .here hfit rfl fun w hs=>?_
 rw [hsp] at hs
 refine go ?_
 refine wc_draw (l:=blk b 256 (ef (l.take i)++(entC x++(ef (l.drop i)++rs)))::blk m 120 [.slice (some ⟨b,0,none⟩) (l.length+1) c2]::blk b1 256 (entC e)::F) [blk m 120 [.slice (some ⟨b,0,none⟩) (l.length+1) c2],blk b1 256 (entC e)] [(0,false),(1,false),(2,false),(3,false),(4,false),(5,false),(6,false),(7,true)] hs (by kernel_rfl) fun w hs=>?_
 refine go ?_
 refine wo_ixn (j:=i) rfl rfl rfl rfl rfl rfl (by omega) rfl ?_
 refine go ?_
 refine wl_stN (vs:=entC e) (cs:=ef (l.take i)++(entC x++(ef (l.drop i)++rs))) hs rfl rfl rfl (entC_one e) .here ?_ fun w hs=>?_
 ·simp only [List.length_append,ef_len,List.length_take,Nat.min_eq_left hi]
  show 0+i*4+4≤i*4+(4+_);omega
 rw [hput] at hs
 refine go ?_
 exact wq_end rfl ⟨rfl,fin _ _ (by simp;omega) hs.to⟩
end
section
open Go.Proofs.YtecibefflhomdaaGreatDoor.Pure (PDisk Ent Rd openB less bltB searchL numB textB frameB putB dec beN addL Chg chgE batchE numB_length)
attribute [local irreducible] IntKind.wrap
def RdA (A:HProp) (k:Nat) (v:Value) (rows:List (List Value)):Prop:=
 (∃ a c,v=.slice a rows.length c)∧(∀ r∈rows,r.length=k)∧(rows≠[]→∃ b o c,v=.slice (some ⟨b,o,none⟩) rows.length c∧∀ (W0:World) (F:List HProp) (w:World),Sat W0 (A::F) w→∀ j u,rows.flatten[j]?=some u→w.cell? ⟨b,o+j,none⟩=some u)
section
variable {W0 w:World} {F:List HProp} {v:Value} {k E:Nat} {rows:List (List Value)}
theorem Sat.rdA_own (hk:∀ r∈rows,r.length=k) (h:Sat W0 (ownS k v E rows.length rows.flatten::F) w):RdA (ownS k v E rows.length rows.flatten) k v rows:=by
 obtain ⟨a,c,rfl,h1,h2⟩:=h.ownShape
 refine ⟨⟨a,c,rfl⟩,hk,fun hne=>?_⟩
 obtain ⟨b,cap,rest,hv,q1,q2,q3,-⟩:=h.ownPos (List.length_pos_iff.2 hne)
 obtain ⟨rfl,_,rfl⟩:=Value.slice.inj hv
 refine ⟨b,0,c,rfl,fun W0 F w h j u hu=>?_⟩
 obtain ⟨b',cap',rest',hv',-,-,-,hs⟩:=h.ownPos (List.length_pos_iff.2 hne)
 obtain ⟨hb,_,_⟩:=Value.slice.inj hv'
 have hb:b=b':=by injection hb with hb;injection hb
 subst hb
 rw [hs.cell .here,Nat.zero_add,List.getElem?_append_left (List.getElem?_eq_some_iff.1 hu).1]
 exact hu
theorem RdA.row {A:HProp} (h:RdA A k v rows) {i:Nat} {x:List Value} (hx:rows[i]?=some x):∃ b o c,v=.slice (some ⟨b,o,none⟩) rows.length c∧∀ (W0:World) (F:List HProp) (w:World),Sat W0 (A::F) w→∀ j u,x[j]?=some u→w.cell? ⟨b,o+i*k+j,none⟩=some u:=by
 obtain ⟨b,o,c,hv,hc⟩:=h.2.2 (fun hn=>by rw [hn] at hx;cases hx)
 refine ⟨b,o,c,hv,fun W0 F w hs j u hu=>?_⟩
 have h1:=rows_seg h.2.1 hx
 rw [Nat.add_assoc]
 exact hc W0 F w hs _ u (h1.at j u hu)
end
section
variable {ops:Array Oper} {Q:Exit→Act→World→Prop} {n:Nat} {ds:Md} {e:Env} {w w':World} {rest:List Oper}
variable {op:Op} {ty:TypeId} {pos:String} {af:Array Edge} {d:Nat} {v u:Value} {W0:World} {l l' r r':List HProp}
attribute [local semireducible] WL WC WQ
theorem wl_ldA {x:Operand} {T b o:Nat} (vs:List Value) (hx:ev e x=some (.pointer (some ⟨b,o,none⟩))) (hT:lk tAgg T=some true) (hz:lk tSize T=some vs.length)
 (hc:∀ j u,vs[j]?=some u→w.cell? ⟨b,o+j,none⟩=some u) (hd:Nat.blt d n=true) (k:WL ops Q n ds rest ((d,.agg vs.toArray)::e) w) :
 WL ops Q n ds (⟨some d,.load T x,ty,pos,af,none⟩::rest) e w:=
 wl_run (fun a ha=>by
  have:=run_loadCells_list (P:=Tryz.prog) w ⟨b,o,none⟩ vs (fun j v hj=>by rw [add_eq];exact hc j v hj)
  simp [execOp,ha.ev hx,Instr.loadAt,Instr.sureAddr,loadVar,agg_of hT,size_of hz,this]) hd k
end
def chgC (c:Chg):List Value:=[str c.key,str c.val,.bool c.del]
def chgsC (l:List Chg):List (List Value):=l.map chgC
@[simp] theorem chgsC_length (l:List Chg):(chgsC l).length=l.length:=List.length_map _
theorem chgsC_at {l:List Chg} {i:Nat} {c:Chg} (h:l[i]?=some c):(chgsC l)[i]?=some (chgC c):=by simp [chgsC,h]
theorem batchE_take:∀ (l:List Chg) (q i:Nat) (c:Chg),l[i]?=some c→batchE q (l.take (i+1))=batchE q (l.take i)++[chgE c (q+i+1)]
 | x::l,q,0,c,h=>by simp at h;subst h;simp [batchE]
 | x::l,q,i+1,c,h=>by
  simp only [List.getElem?_cons_succ] at h
  simp only [List.take_succ_cons,batchE,List.cons_append]
  rw [batchE_take l (q+1) i c h,show q+1+i+1=q+(i+1)+1 by omega]
structure ChOk (l:List Chg):Prop where
 len:l.length≤8
 key:∀ c∈l,c.key.length≤1000
 val:∀ c∈l,c.del=false→c.val.length≤1000
theorem batch_bytes {l:List Chg} (h:ChOk l):∀ (q i:Nat),((batchE q (l.take i)).map putB).flatten.length≤2100*(l.take i).length:=by
 intro q i
 have key:∀ (l:List Chg) (q:Nat),(∀ c∈l,c.key.length≤1000)→(∀ c∈l,c.del=false→c.val.length≤1000)→((batchE q l).map putB).flatten.length≤2100*l.length:=by
  intro l
  induction l with
  | nil=>intro q _ _;simp [batchE]
  | cons c r ih=>
   intro q k1 k2
   have h2:=ih (q+1) (fun x hx=>k1 x (List.mem_cons_of_mem _ hx)) fun x hx=>k2 x (List.mem_cons_of_mem _ hx)
   have h3:(putB (chgE c (q+1))).length≤2100:=by
    have a:=k1 c List.mem_cons_self
    have b:=k2 c List.mem_cons_self
    show (textB c.key++numB (q+1) 8++(if c.del then [255] else textB c.val)).length≤2100
    cases hd:c.del with
    | true=>simp;omega
    | false=>have:=b hd;simp;omega
   simp only [batchE,List.map_cons,List.flatten_cons,List.length_append,List.length_cons];omega
 exact key _ q (fun c hc=>h.key c (List.mem_of_mem_take hc)) fun c hc=>h.val c (List.mem_of_mem_take hc)
variable {W0 w:World} {F:List HProp} {v:Value} {d m p:Nat} {T:Tab} {D D':PDisk} {M:List Ent}
theorem addsS_take {s:St} {l:List Chg} {i:Nat} {c:Chg} (h:l[i]?=some c):(batchE s.seq (l.take (i+1))).foldl addL s.mem=addL ((batchE s.seq (l.take i)).foldl addL s.mem) (chgE c (s.seq+i+1)):=by
 rw [batchE_take l s.seq i c h,List.foldl_append];rfl
theorem adds_length (l:List Ent):∀ m:List Ent,(l.foldl addL m).length=m.length+l.length:=by
 induction l with
 | nil=>intro m;rfl
 | cons e r ih=>intro m;rw [List.foldl_cons,ih];simp;omega
theorem batchE_length:∀ (l:List Chg) (q:Nat),(batchE q l).length=l.length
 | [],_=>rfl
 | c::r,q=>by simp [batchE,batchE_length r]
theorem write_specI {b:Nat} {K:SK} {s:St} {l:List Chg} {sync:Bool} {A:HProp} {x:Except Err St} (h:writeS K.o s D l sync=some (x,D')) (hA:RdA A 3 v (chgsC l)) (hl:ChOk l) (hW:PowW W0)
 (hs:Sat W0 (stD b K s::DiskA K.d D::A::F) w) :
 Calls Tryz.prog 83 #[idV b,v,.bool sync] w fun y w'=>∃ ve,y=.returned ve∧Sat W0 (stX b K x::DiskA K.d D'::errC ve (errX x)::A::F) w':=by
 unfold writeS at h
 by_cases hg:s.seq≤4611686018427387904∧s.mem.length≤1048576
 case neg=>rw [if_neg hg] at h;cases h
 rw [if_pos hg] at h
 obtain ⟨hsq,hmx⟩:=hg
 have hl8:=hl.len
 obtain ⟨hlv,z,hs⟩:=hs.sdOpen
 refine enter Tryz.func83 rfl Tryz.ntmps83 Tryz.results83 rfl ?_
 refine gx ?_
 have hs:=Sat.ownNil (k:=1) (E:=5) hs
 refine w_call (met (number_spec (v:=.slice none 0 0) (bs:=[]) (N:=s.seq) (k:=8) hs (by omega) (by simp)) ?_)
 clear hs
 rintro _ w ⟨bv,rfl,hs⟩
 refine ⟨_,rfl,?_⟩
 rw [List.nil_append] at hs
 obtain ⟨⟨av,cv,rfl⟩,-,-⟩:=id hA
 rw [chgsC_length]
 refine gx ?_
 refine wc_loop (α:=Nat×Value) (fun q=>[(7,q.2),(0,idV b),(1,.slice av l.length cv),(2,.bool sync),(19,.slice av l.length cv),(20,.int .i64 (l.length:Int)),(21,.int .i64 (q.1:Int))])
  (fun q w=>q.1≤l.length∧Sat W0 (bytS q.2 (Pure.numB s.seq 8++((batchE s.seq (l.take q.1)).map putB).flatten)::blk b 133 (stCells K z s)::lvS K.d z s.levels::memC z.m s.mem::mapH keyI z.sn (snapsV s.snaps)::DiskA K.d D::A::F) w) (fun q=>l.length-q.1) (0,bv) ⟨rfl,rfl,rfl,rfl,rfl,rfl,rfl,trivial⟩ ⟨Nat.zero_le _,by simpa [batchE] using hs⟩ ?_
 clear hs
 rintro ⟨i,bv⟩ w ⟨hi,hs⟩
 dsimp only at hi hs ⊢
 by_cases hlt:i<l.length
 ·have hg:l[i]?=some l[i]:=List.getElem?_eq_getElem hlt
  have hcm:=List.getElem_mem hlt
  have hbt:=batchE_take l s.seq i _ hg
  generalize l[i]=c at hg hcm hbt
  obtain ⟨bb,o,cc,hv,hcell⟩:=hA.row (chgsC_at hg)
  rw [chgsC_length] at hv
  obtain ⟨rfl,_,rfl⟩:=Value.slice.inj hv
  have hcl:=hcell W0 _ w (hs.take (.there (.there (.there (.there (.there (.there .here)))))))
  refine gx ?_
  refine wl_ixn (i:=i) rfl rfl rfl rfl rfl hlt rfl ?_
  refine wl_ldA (chgC c) rfl rfl rfl hcl rfl ?_
  refine gx ?_
  refine w_alloc hs ?_
  clear hs hcl
  intro w b9 hs
  refine gx ?_
  refine w_stN (vs:=chgC c) hs ?_
  clear hs
  intro w hs
  refine gx ?_
  refine wc_draw [blk b9 100 (chgC c),blk b 133 (stCells K z s)] [(0,false),(1,false),(2,false),(3,false),(4,false),(5,false),(6,false),(7,false),(8,false),(9,false),(10,false),(11,false),(12,false),(13,false),(14,false),(15,false),(16,true),(17,false)] hs (by kernel_rfl) ?_
  clear hs
  intro w hs
  refine gx ?_
  refine wo_build (entC (chgE c (s.seq+i+1))) rfl ?_
  refine gx ?_
  have hbb:=batch_bytes hl s.seq i
  rw [List.length_take,Nat.min_eq_left hi] at hbb
  have hkey:=hl.key c hcm
  refine w_call (met (put_spec2 (x:=chgE c (s.seq+i+1)) (hs.take (.there .here)) (by simp only [List.length_append,numB_length];omega) hkey (fun hd=>hl.val c hcm hd)) ?_)
  clear hs
  rintro _ w ⟨bv2,rfl,hs⟩
  refine ⟨_,rfl,?_⟩
  refine gx ?_
  refine wq_round (i+1,bv2) ⟨rfl,rfl,rfl,rfl,rfl,rfl,rfl,trivial⟩ ⟨hlt,?_⟩ (by dsimp only;omega)
  dsimp only
  rw [hbt,List.map_append,List.flatten_append,← List.append_assoc]
  simpa using hs.to
 ·have hie:i=l.length:=by omega
  subst hie
  rw [List.take_length] at hs
  have hlt':¬ ((l.length:Int)<(l.length:Int)):=by omega
  refine gx ?_
  have hbb:=batch_bytes hl s.seq l.length
  rw [List.take_length] at hbb
  have hlb:(Pure.numB s.seq 8++((batchE s.seq l).map putB).flatten).length≤20000:=by simp only [List.length_append,numB_length];omega
  refine wc_draw [blk b 133 (stCells K z s)] [(0,false),(1,false),(2,false),(3,false),(4,false),(5,false),(6,false),(7,false),(8,false),(9,true),(10,true),(11,false)] hs (by kernel_rfl) ?_
  clear hs
  intro w hs
  refine gx ?_
  refine w_call (met (frame_spec (hs.take .here) (by omega)) ?_)
  clear hs
  rintro _ w ⟨fv,rfl,hs⟩
  refine ⟨_,rfl,gx ?_⟩
  refine w_call (met (append_a (n:=s.log) (bs:=frameB (logB s.seq l)) (F:=blk b 133 (stCells K z s)::lvS K.d z s.levels::memC z.m s.mem::mapH keyI z.sn (snapsV s.snaps)::A::F) (hs.to)) ?_)
  clear hs
  rintro _ w ⟨ve,rfl,hs⟩
  refine ⟨_,rfl,?_⟩
  have hop:runOp D (.append s.log (frameB (logB s.seq l)))=some (appendE D s.log (frameB (logB s.seq l)),appended D s.log (frameB (logB s.seq l))):=rfl
  rw [hop] at h
  generalize appended D s.log (frameB (logB s.seq l))=D1 at h hs
  cases hap:appendE D s.log (frameB (logB s.seq l)) with
  | some e=>
   rw [hap] at h hs
   simp only [Option.some.injEq,Prod.mk.injEq] at h
   obtain ⟨rfl,rfl⟩:=h
   obtain ⟨t,u,rfl⟩:=(hs.take (.there (.there .here))).errIface
   refine gx ?_
   exact wq_ret rfl ⟨_,rfl,Sat.stErr (e:=e) (Sat.sdClose (z:=z) hlv hs.to)⟩
  | none=>
   rw [hap] at h hs
   dsimp only at h
   have hve:=(hs.take (.there (.there .here))).errIs
   subst hve
   refine gxs ?_
   refine wq_then rfl ?_
   refine wc_seq ?_
   refine gxs ?_
   refine wq_then rfl ?_
   refine gxs ?_
   refine wq_then rfl ?_
   refine wc_cut (α:=PDisk) (fun _=>[(0,idV b),(1,.slice av l.length cv)]) (fun D2 w=>(if K.o.memory≤(addsS s l).mem.length then flushS K.o (addsS s l) D2 else some (.ok (addsS s l),D2))=some (x,D')∧Sat W0 (blk b 133 (stCells K z s)::lvS K.d z s.levels::memC z.m s.mem::mapH keyI z.sn (snapsV s.snaps)::DiskA K.d D2::A::F) w) ?_ ?_
   ·cases sync with
    | true=>
     refine gx ?_
     refine wc_draw [blk b 133 (stCells K z s)] [(0,false),(1,false),(2,false),(3,false),(4,false),(5,false),(6,false),(7,false),(8,true),(9,false)] hs (by kernel_rfl) ?_
     clear hs
     intro w hs
     refine gx ?_
     refine w_call (met (sync_a (n:=s.log) (F:=blk b 133 (stCells K z s)::lvS K.d z s.levels::memC z.m s.mem::mapH keyI z.sn (snapsV s.snaps)::A::F) (hs.to)) ?_)
     clear hs
     rintro _ w ⟨ve,rfl,hs⟩
     refine ⟨_,rfl,?_⟩
     have hop2:runOp D1 (.sync s.log)=some (findE D1 s.log,syncD D1 s.log):=rfl
     rw [if_pos rfl,hop2] at h
     generalize syncD D1 s.log=D2 at h hs
     cases hfe:findE D1 s.log with
     | some e=>
      rw [hfe] at h hs
      simp only [Option.some.injEq,Prod.mk.injEq] at h
      obtain ⟨rfl,rfl⟩:=h
      obtain ⟨t,u,rfl⟩:=(hs.take (.there .here)).errIface
      refine gx ?_
      exact wq_ret rfl ⟨_,rfl,Sat.stErr (e:=e) (Sat.sdClose (z:=z) hlv hs.to)⟩
     | none=>
      rw [hfe] at h hs
      have hve:=(hs.take (.there .here)).errIs
      subst hve
      refine gx ?_
      exact wq_cut D2 ⟨rfl,rfl,trivial⟩ ⟨h,hs.to⟩
    | false=>
     refine gx ?_
     exact wq_cut D1 ⟨rfl,rfl,trivial⟩ ⟨h,hs.to⟩
   clear hs h hop hap
   rintro D2 w ⟨h,hs⟩
   refine gx ?_
   refine wc_loop (α:=Nat) (fun i=>[(0,idV b),(71,.slice av l.length cv),(72,.int .i64 (l.length:Int)),(73,.int .i64 (i:Int))])
    (fun i w=>i≤l.length∧Sat W0 (blk b 133 (stCells K z { s with seq:=s.seq+i })::memC z.m ((batchE s.seq (l.take i)).foldl addL s.mem)::lvS K.d z s.levels::mapH keyI z.sn (snapsV s.snaps)::DiskA K.d D2::A::F) w) (fun i=>l.length-i) 0 ⟨rfl,rfl,rfl,rfl,trivial⟩ ⟨Nat.zero_le _,by simpa [batchE] using hs.to⟩ ?_
   clear hs
   rintro i w ⟨hi,hs⟩
   by_cases hlt:i<l.length
   ·have hg:l[i]?=some l[i]:=List.getElem?_eq_getElem hlt
    have hbt:=addsS_take (s:=s) hg
    generalize l[i]=c at hg hbt
    obtain ⟨bb,o,cc,hv,hcell⟩:=hA.row (chgsC_at hg)
    rw [chgsC_length] at hv
    obtain ⟨rfl,_,rfl⟩:=Value.slice.inj hv
    have hcl:=hcell W0 _ w (hs.take (.there (.there (.there (.there (.there .here))))))
    refine gx ?_
    refine wl_ixn (i:=i) rfl rfl rfl rfl rfl hlt rfl ?_
    refine wl_ldA (chgC c) rfl rfl rfl hcl rfl ?_
    refine gx ?_
    refine w_alloc hs ?_
    clear hs hcl
    intro w b9 hs
    refine gx ?_
    refine w_stN (vs:=chgC c) hs ?_
    clear hs
    intro w hs
    generalize hs1:({ s with seq:=s.seq+i }:St)=s1 at hs
    have hq1:s1.seq=s.seq+i:=by rw [← hs1]
    refine gx ?_
    refine w_st hs ?_
    clear hs
    intro w hs
    subst hs1
    have hs:Sat W0 (blk b9 100 (chgC c)::blk b 133 (stCells K z { s with seq:=s.seq+(i+1) })::memC z.m ((batchE s.seq (l.take i)).foldl addL s.mem)::lvS K.d z s.levels::mapH keyI z.sn (snapsV s.snaps)::DiskA K.d D2::A::F) w:=hs.to
    refine gx ?_
    refine wc_draw [blk b9 100 (chgC c),blk b 133 (stCells K z { s with seq:=s.seq+(i+1) })] [(0,false),(1,false),(2,false),(3,false),(4,false),(5,false),(6,false),(7,false),(8,false),(9,false),(10,false),(11,false),(12,false),(13,false),(14,false),(15,true)] hs (by kernel_rfl) ?_
    clear hs
    intro w hs
    refine gx ?_
    refine wo_build (entC (chgE c (s.seq+i+1))) rfl ?_
    refine gx ?_
    refine w_call (met (add_spec (e:=chgE c (s.seq+i+1)) (hs.take (.there (.there .here))) (by rw [adds_length,batchE_length,List.length_take];omega)) ?_)
    clear hs
    rintro _ w ⟨rfl,hs⟩
    refine ⟨_,rfl,?_⟩
    rw [← hbt] at hs
    refine gx ?_
    refine wq_round (i+1) ⟨rfl,rfl,rfl,rfl,trivial⟩ ⟨hlt,?_⟩ (by omega)
    exact hs.to
   ·have hie:i=l.length:=by omega
    subst hie
    rw [List.take_length] at hs
    have hlt':¬ ((l.length:Int)<(l.length:Int)):=by omega
    have hs:Sat W0 (blk b 133 (stCells K z (addsS s l))::lvS K.d z (addsS s l).levels::memC z.m (addsS s l).mem::mapH keyI z.sn (snapsV (addsS s l).snaps)::DiskA K.d D2::A::F) w:=hs.to
    have hmem:(addsS s l).mem.length=s.mem.length+l.length:=by show ((batchE s.seq l).foldl addL s.mem).length=_;rw [adds_length,batchE_length]
    refine gx ?_
    refine wc_draw [blk b 133 (stCells K z (addsS s l))] [(0,false),(1,false),(2,false),(3,false),(5,false),(6,false),(7,false),(8,false),(9,false),(4,true),(10,false)] hs (by kernel_rfl) ?_
    clear hs
    intro w hs
    refine gx ?_
    refine w_call (met (len_spec (hs.take (.there (.there .here)))) ?_)
    clear hs
    rintro _ w ⟨rfl,hs⟩
    refine ⟨_,rfl,?_⟩
    by_cases hmm:K.o.memory≤(addsS s l).mem.length
    ·rw [if_pos hmm] at h
     have hmm':((addsS s l).mem.length:Int) ≥ (K.o.memory:Int):=by omega
     refine gx ?_
     have hs:=Sat.sdClose (s:=addsS s l) (z:=z) hlv (hs.to (a:=blk b 133 (stCells K z (addsS s l))::lvS K.d z (addsS s l).levels::memC z.m (addsS s l).mem::mapH keyI z.sn (snapsV (addsS s l).snaps)::DiskA K.d D2::A::F))
     refine w_call (met (flush_spec' h hW hs) ?_)
     clear hs
     rintro _ w ⟨ve,rfl,hs⟩
     refine ⟨_,rfl,gx ?_⟩
     exact wq_ret rfl ⟨_,rfl,hs⟩
    ·rw [if_neg hmm] at h
     simp only [Option.some.injEq,Prod.mk.injEq] at h
     obtain ⟨rfl,rfl⟩:=h
     have hmm':¬ ((addsS s l).mem.length:Int) ≥ (K.o.memory:Int):=by omega
     refine gx ?_
     have hs:=Sat.sdClose (s:=addsS s l) (z:=z) hlv (hs.to (a:=blk b 133 (stCells K z (addsS s l))::lvS K.d z (addsS s l).levels::memC z.m (addsS s l).mem::mapH keyI z.sn (snapsV (addsS s l).snaps)::DiskA K.d D2::A::F))
     exact wq_ret rfl ⟨_,rfl,(Sat.errNil hs).to⟩
end
end Go.Proofs.YtecibefflhomdaaGreatDoor
