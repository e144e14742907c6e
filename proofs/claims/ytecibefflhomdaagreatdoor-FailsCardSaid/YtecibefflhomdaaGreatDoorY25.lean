/-
  Part 25: WALKS package levels; WALKS package rows; WALKS rows that one reads, owned or shown; THE MIRROR, PART 5 a store is opened.
-/
import Derived.Test.YtecibefflhomdaaGreatDoorY24
set_option maxHeartbeats 8000000
set_option maxRecDepth 100000
set_option linter.all false
namespace Go.Proofs.YtecibefflhomdaaGreatDoor
open Go
section
open Go.Proofs.YtecibefflhomdaaGreatDoor.Pure (ad az Rd bI less aQ aZ bM bE aD cY dec j3)
attribute [local irreducible] IntKind.wrap
variable {W0 w:World} {F:List ah} {v:Value} {d m p:Nat} {T:cD} {D D':ad} {M:List az}
section
variable {ops:Array Oper} {Q:Exit→Act→World→Prop} {n:Nat} {ds:Md} {e:Env} {w w':World} {KK:List Nat} {S:World→Prop} {bb:Bool} {t:OT}
variable {op:Op} {ty:TypeId} {pos:String} {af:Array Edge} {d i j:Nat}
theorem yw {x y:Operand} {tt b o k:Nat} {p:Nat×Nat} {Y:Int} (ho:ops[i]?=some ⟨some d,.indexAddr tt x y,ty,pos,af,none⟩) (hx:ev e x=some (.pointer (some ⟨b,o,none⟩))) (hy:ev e y=some (.int .i64 Y)) (ht:lk vC tt=some p) (hsz:lk df p.2=some k)
 (h0:0≤Y) (h1:Y<(p.1:Int)) (hd:Nat.blt d n=true) (kk:WT ops Q S KK n ds bb t ((d,.pointer (some ⟨b,o+Y.toNat*k,none⟩))::e) w) :
 WT ops Q S KK n ds bb (.q i t) e w:=
 zP ho (fun a w' ha=>by simp [execOp,ha.ev hx,ha.ev hy,Instr.indexAt,asIntOf,cB (lM ht),dq hsz,h0,h1,add_eq,Instr.sureAddr]) hd kk
end
theorem Sat.NH {A B:List cD} {ps qs:List Nat} (h1:ps.length=A.length) (h2:qs.length=B.length)
 (h:Sat W0 (aE 1 v 193 (ps.length+qs.length) (ps.map au++qs.map au)::star (List.zipWith (cG d) ps A)::star (List.zipWith (cG d) qs B)::F) w):Sat W0 (eT d v (A++B)::F) w:=by
 refine Sat.jj (ps:=ps++qs) (by simp [h1,h2]) ?_
 rw [List.zipWith_append (by exact h1),List.length_append,List.map_append]
 refine h.imp fun _ k=>dH (fun _ k=>?_) k
 have k2:=dI k
 refine dJ (a:=List.zipWith (cG d) ps A++List.zipWith (cG d) qs B) ?_
 rw [List.append_assoc]
 obtain ⟨x1,x2,f,l1,l2,ra,rb⟩:=kv k2
 exact jM f l1 l2 ra (dI rb)
theorem nQ {b:Nat} {K:SK} {s:St} {x:Except cy St} (h:mP K.o s D=some (x,D')) (hW:jB W0) (hs:Sat W0 (ni b K s::ag K.d D::F) w) :
 Calls Tryz.prog 99 #[au b] w fun y w'=>∃ ve,y=.returned ve∧Sat W0 (Bv b K x::ag K.d D'::ax ve (dk x)::F) w':=by
 unfold mP at h
 by_cases hmx:gW<s.mem.length
 ·rw [if_pos hmx] at h;cases h
 rw [if_neg hmx] at h
 rw [bJ] at hmx
 obtain ⟨hl,z,hs⟩:=hs.gQ
 refine enter Tryz.func99 rfl Tryz.ntmps99 Tryz.results99 rfl ?_
 refine gx ?_
 refine ae (met (qu (key:=[]) (hs.take (.there (.there .here))) (by omega)) ?_)
 clear hs
 rintro _ w ⟨vf,rfl,hs⟩
 refine ⟨_,rfl,gx ?_⟩
 cases hk:sx s D (.one (iq s.mem [])) false with
 | none=>rw [hk] at h;cases h
 | some r=>
  obtain ⟨xk,D1⟩:=r
  rw [hk] at h
  have hs:=hs.to (a:=blk b 133 (aj K z s)::aO bB z.sn (aC s.snaps)::Ej K.d z.m vf (.one (iq s.mem []))::aR z.m s.mem::ag K.d D::dQ K.d z s.levels::F)
  refine ae (met (wR hk (by omega) hs) ?_)
  clear hs hk
  rintro _ w ⟨lv,ve,rfl,hs⟩
  refine ⟨_,rfl,?_⟩
  cases xk with
  | error e=>
   simp only [dS,Option.some.injEq,Prod.mk.injEq] at h
   obtain ⟨rfl,rfl⟩:=h
   obtain ⟨t,u,rfl⟩:=(hs.take (.there (.there (.there (.there .here))))).aW
   refine gx ?_
   refine ak rfl ⟨_,rfl,?_⟩
   exact Sat.jW (e:=e) (Sat.bP (z:=z) hl hs.to)
  | ok l=>
   simp only [dS] at h
   have hve:=(hs.take (.there (.there (.there (.there .here))))).cF
   subst hve
   refine gx ?_
   have hs:=hs.take (.there (.there (.there (.there (.there .here)))))
   dsimp only [Nd] at hs
   have hs:=Sat.Ak hs
   have hs:=hs.to (a:=blk b 133 (aj K z s)::jm 4 lv (bu l)::ag K.d D1::aO bB z.sn (aC s.snaps)::aR z.m s.mem::dQ K.d z s.levels::F)
   cases hsp:kO gW s.number D1 l [] with
   | none=>rw [hsp] at h;cases h
   | some r=>
    obtain ⟨xs,D2⟩:=r
    rw [hsp] at h
    refine ae (met (uI hsp hW hs) ?_)
    clear hs hsp
    rintro _ w ⟨tv,ve,num,rfl,hnum,hs⟩
    refine ⟨_,rfl,?_⟩
    cases xs with
    | error e=>
     simp only [Option.some.injEq,Prod.mk.injEq] at h
     obtain ⟨rfl,rfl⟩:=h
     obtain ⟨t,u,rfl⟩:=(hs.take (.there (.there .here))).aW
     refine gx ?_
     refine ak rfl ⟨_,rfl,?_⟩
     exact Sat.jW (e:=e) (Sat.bP (s:={ s with number:=num }) (z:=z) hl hs.to)
    | ok ts=>
     dsimp only at h
     obtain rfl:=hnum ts rfl
     have hve:=(hs.take (.there (.there .here))).cF
     subst hve
     dsimp only [Nd] at hs
     have hs:=hs.to (a:=blk b 133 (aj K z { s with number:=ts.2 })::dQ K.d z s.levels::eT K.d tv ts.1::ag K.d D2::aO bB z.sn (aC s.snaps)::aR z.m s.mem::F)
     obtain ⟨t0,t1,t2,t3,hlv⟩:=four hl
     have hg0:s.levels[0]?=some t0:=by rw [hlv];rfl
     have hgd:s.levels.getD 0 []=t0:=by rw [hlv];rfl
     have hset:s.levels.set 0 (t0++ts.1)=(s.levels.getD 0 []++ts.1)::s.levels.drop 1:=by rw [hlv];rfl
     obtain ⟨lv0,hlv0,hs⟩:=(hs.take (.there .here)).nP hg0 (by omega)
     have hz0:z.l0=lv0:=Option.some.inj hlv0
     obtain ⟨ps,hps,hs⟩:=hs.ix
     obtain ⟨qs,hqs,hs⟩:=(hs.take (.there (.there (.there (.there .here))))).ix
     have hs:=hs.to (a:=blk b 133 (aj K z { s with number:=ts.2 })::aE 1 lv0 193 ps.length (ps.map au)::star (List.zipWith (cG K.d) ps t0)::aE 1 tv 193 qs.length (qs.map au)::star (List.zipWith (cG K.d) qs ts.1)::Cs K.d z s.levels 0::ag K.d D2::aO bB z.sn (aC s.snaps)::aR z.m s.mem::F)
     by_cases hbig:(s.levels.getD 0 []).length+ts.1.length≤gW
     case neg=>rw [if_neg hbig] at h;cases h
     rw [if_pos hbig] at h
     rw [bJ,hgd,← hps,← hqs] at hbig
     refine gx ?_
     refine bH [blk b 133 (aj K z { s with number:=ts.2 })] [5] (.q 0 (.q 1 (.q 2 (.q 3 (.q 4 (.s 5 (.q 6 (.q 8 (.q 9 (.l 7 (.q 10 (.l 11 .nil)))))))))))) hs (by kernel_rfl) ?_
     clear hs
     intro w hs
     refine oA ?_
     refine yw (p:=(4,129)) rfl rfl rfl rfl rfl (by omega) (by show (0:Int)<4;omega) rfl ?_
     refine oA ?_
     rw [hz0]
     refine om (k:=1) (m:=qs.length) (news:=qs.map au) hs rfl rfl (.there .here) (q6 rfl (.there (.there (.there .here)))) rfl rfl rfl rfl rfl (by simp only [maxLen];omega) (by omega) rfl ?_
     clear hs
     intro v7 w hs
     have hs:=hs.to (a:=aE 1 v7 193 (ps.length+qs.length) (ps.map au++qs.map au)::star (List.zipWith (cG K.d) ps t0)::star (List.zipWith (cG K.d) qs ts.1)::Cs K.d z s.levels 0::blk b 133 (aj K z { s with number:=ts.2 })::ag K.d D2::aO bB z.sn (aC s.snaps)::aR z.m s.mem::F)
     have hv7:dD v7=true:=by obtain ⟨a7,c7,rfl,-⟩:=hs.ay;rfl
     have hs:=Sat.Ep (i:=0) (by omega) hl (Sat.NH hps hqs hs)
     rw [hset] at hs
     refine gz ?_
     refine cA rfl ?_
     refine oA ?_
     refine yw (p:=(4,129)) rfl rfl rfl rfl rfl (by omega) (by show (0:Int)<4;omega) rfl ?_
     refine oA ?_
     refine zj hs rfl rfl rfl hv7 (.there .here) rfl ?_
     clear hs
     intro w hs
     refine gz ?_
     refine cA rfl ?_
     refine fA ?_
     refine gx ?_
     refine bA [.slice none 0 0] ?_
     refine cE hs ?_
     clear hs
     intro w bm hs
     refine gx ?_
     refine bD hs ?_
     clear hs
     intro w hs
     have hs:=Sat.cP (k:=4) (E:=256) hs
     have hs:=Sat.jd (m:=bm) (v:=.slice none 0 0) (l:=[]) (hs.to (a:=blk bm 120 [.slice none 0 0]::jc (.slice none 0 0) []::blk b 133 (aj K { z.put 0 v7 with m:=bm } { s with number:=ts.2,levels:=(s.levels.getD 0 []++ts.1)::s.levels.drop 1,mem:=[] })::dQ K.d { z.put 0 v7 with m:=bm } ((s.levels.getD 0 []++ts.1)::s.levels.drop 1)::ag K.d D2::aO bB z.sn (aC s.snaps)::F))
     refine gx ?_
     cases hcm:gG { s with number:=ts.2,levels:=(s.levels.getD 0 []++ts.1)::s.levels.drop 1,mem:=[] } D2 true with
     | none=>rw [hcm] at h;cases h
     | some r=>
      obtain ⟨xc,D3⟩:=r
      rw [hcm] at h
      have hl2:((s.levels.getD 0 []++ts.1)::s.levels.drop 1).length=4:=by simp;omega
      refine ae (met (uK hcm hl2 hW (hs.to (a:=blk b 133 (aj K { z.put 0 v7 with m:=bm } { s with number:=ts.2,levels:=(s.levels.getD 0 []++ts.1)::s.levels.drop 1,mem:=[] })::dQ K.d { z.put 0 v7 with m:=bm } ((s.levels.getD 0 []++ts.1)::s.levels.drop 1)::ag K.d D2::aR bm []::aO bB z.sn (aC s.snaps)::F))) ?_)
      clear hs hcm
      rintro _ w ⟨ve,s',rfl,hs',⟨nu,lo,hs2⟩,hs⟩
      refine ⟨_,rfl,?_⟩
      have hl3:s'.levels.length=4:=by rw [hs2];exact hl2
      have hcl:Sat W0 (ni b K s'::ag K.d D3::ax ve (dk xc)::F) w:=by
       refine Sat.bP (z:={ z.put 0 v7 with m:=bm }) hl3 ?_
       have e1:s'.levels=(s.levels.getD 0 []++ts.1)::s.levels.drop 1:=by rw [hs2]
       have e2:s'.mem=[]:=by rw [hs2]
       have e3:s'.snaps=s.snaps:=by rw [hs2]
       rw [e1,e2,e3]
       exact hs.to
      clear hs
      cases xc with
      | error e=>
       simp only [Option.some.injEq,Prod.mk.injEq] at h
       obtain ⟨rfl,rfl⟩:=h
       obtain ⟨t,u,rfl⟩:=(hcl.take (.there (.there .here))).aW
       refine gx ?_
       refine ak rfl ⟨_,rfl,?_⟩
       exact Sat.jW (e:=e) hcl
      | ok s3=>
       obtain rfl:=hs' s3 rfl
       dsimp only at h
       have hve:=(hcl.take (.there (.there .here))).cF
       subst hve
       refine gx ?_
       refine ae (met (sC h hW hcl) ?_)
       clear hcl
       rintro _ w ⟨ve,rfl,hs⟩
       refine ⟨_,rfl,gx ?_⟩
       exact ak rfl ⟨_,rfl,hs.to⟩
theorem yx {b:Nat} {K:SK} {s:St} {x:Except cy St} (h:me K.o s D=some (x,D')) (hW:jB W0) (hs:Sat W0 (ni b K s::ag K.d D::F) w) :
 Calls Tryz.prog 138 #[au b] w fun y w'=>∃ ve,y=.returned ve∧Sat W0 (Bv b K x::ag K.d D'::ax ve (dk x)::F) w':=by
 unfold me at h
 refine enter Tryz.func138 rfl Tryz.ntmps138 Tryz.results138 rfl ?_
 obtain ⟨hl,z,hs⟩:=hs.gQ
 refine gx ?_
 refine ae (met (ug (hs.take (.there (.there .here)))) ?_)
 clear hs
 rintro _ w ⟨rfl,hs⟩
 refine ⟨_,rfl,?_⟩
 have hs:=Sat.bP (z:=z) hl (hs.to (a:=blk b 133 (aj K z s)::dQ K.d z s.levels::aR z.m s.mem::aO bB z.sn (aC s.snaps)::ag K.d D::F))
 by_cases hm:0<s.mem.length
 ·rw [if_pos hm] at h
  have hm':(s.mem.length:Int) > 0:=by omega
  refine gx ?_
  cases hf:mP K.o s D with
  | none=>rw [hf] at h;cases h
  | some r=>
   obtain ⟨x1,D1⟩:=r
   rw [hf] at h
   refine ae (met (nQ hf hW hs) ?_)
   clear hs hf
   rintro _ w ⟨ve,rfl,hs⟩
   refine ⟨_,rfl,?_⟩
   cases x1 with
   | error e=>
    simp only [dS,Option.some.injEq,Prod.mk.injEq] at h
    obtain ⟨rfl,rfl⟩:=h
    obtain ⟨t,u,rfl⟩:=(hs.take (.there (.there .here))).aW
    refine gx ?_
    exact ak rfl ⟨_,rfl,hs⟩
   | ok s1=>
    simp only [dS] at h
    have hve:=(hs.take (.there (.there .here))).cF
    subst hve
    refine gx ?_
    refine ae (met (lu h (by omega) (by omega) hW hs) ?_)
    clear hs
    rintro _ w ⟨ve,rfl,hs⟩
    refine ⟨_,rfl,gx ?_⟩
    exact ak rfl ⟨_,rfl,hs.to⟩
 ·rw [if_neg hm] at h
  simp only [dS] at h
  have hm':¬ (s.mem.length:Int) > 0:=by omega
  refine gx ?_
  refine ae (met (lu h (by omega) (by omega) hW hs) ?_)
  clear hs
  rintro _ w ⟨ve,rfl,hs⟩
  refine ⟨_,rfl,gx ?_⟩
  exact ak rfl ⟨_,rfl,hs⟩
end
section
open Go.Proofs.YtecibefflhomdaaGreatDoor.Pure (az less aQ aZ dt dT jy gY lj)
attribute [local irreducible] IntKind.wrap
variable {W0 w:World} {F:List ah} {v:Value} {m:Nat} {l:List az}
theorem Al {e:az} (hs:Sat W0 (aR m l::F) w) (hmx:l.length≤1099511627776):Calls Tryz.prog 147 #[au m,.agg (aF e).toArray] w fun x w'=>x=.returned (.tuple #[])∧Sat W0 (aR m (dT l e)::F) w':=by
 refine enter Tryz.func147 rfl Tryz.ntmps147 Tryz.results147 rfl ?_
 refine go ?_
 refine cE (z:=aF e) hs fun w b1 hs=>?_
 refine go ?_
 refine ae (met (nJ (e:=e) (hs.take (.there .here)) hmx) ?_)
 rintro _ w ⟨rfl,hs⟩
 refine ⟨_,rfl,go ?_⟩
 have hi:=jy l e
 unfold dT
 generalize aZ l e=i at *
 obtain ⟨v,hs⟩:=hs.qj
 obtain ⟨a,c,rfl,-⟩:=(hs.take (.there .here)).rl
 refine bU [blk m 120 [.slice a l.length c],blk b1 256 (aF e)] [(0,false),(1,false),(2,false),(3,false),(4,false),(5,false),(6,true),(7,true),(8,false),(9,false),(10,true)] hs.to (by kernel_rfl) fun w hs=>?_
 refine go ?_
 refine gN (aF e) hs (fun w b2 hs=>?_)
 refine go ?_
 refine dF hs fun v2 w hs=>?_
 obtain ⟨a2,c2,rfl,hc2⟩:=hs.ay
 refine go ?_
 refine bD hs fun w hs=>?_
 refine go ?_
 obtain ⟨b,cap,rs,hv,q1,q2,q3,hs⟩:=hs.dV (by omega)
 simp only [Value.slice.injEq] at hv
 obtain ⟨rfl,_,rfl⟩:=hv
 obtain ⟨x,r,hr,hrl⟩:∃ x r,l++[e]=l.take i++x::r∧r.length=l.length-i:=by
  have h1:((l++[e]).drop i).length=l.length+1-i:=by simp
  cases hd:(l++[e]).drop i with
  | nil=>rw [hd] at h1;simp at h1;omega
  | cons x r=>
   refine ⟨x,r,?_,by rw [hd] at h1;simp at h1;omega⟩
   rw [← hd,← List.take_append_of_le_length (l₂:=[e]) hi,List.take_append_drop]
 have hs:Sat W0 (blk b 256 (ef (l.take i)++(aF x++(ef r++rs)))::blk m 120 [.slice (some ⟨b,0,none⟩) (l.length+1) c2]::blk b1 256 (aF e)::F) w:=by
  have e1:(bu l).flatten++aF e++rs=ef (l.take i)++(aF x++(ef r++rs)):=by
   rw [← lY,hr]
   show ef _++rs=_
   rw [lZ,te];simp
  rw [e1] at hs
  exact hs.to
 have fin:∀ (X:List az) w,X.length=l.length+1→Sat W0 (blk b 256 (ef X++rs)::blk m 120 [.slice (some ⟨b,0,none⟩) (l.length+1) c2]::F) w→Sat W0 (aR m X::F) w:=fun X w hX hs=>by
  have:=Sat.dK (k:=4) (len:=l.length+1) hs q1 q2 q3 (by rw [lE,hX]) (lX X)
  rw [← hX] at this
  exact Sat.jd this.to
 refine bU (l:=blk b 256 (ef (l.take i)++(aF x++(ef r++rs)))::blk m 120 [.slice (some ⟨b,0,none⟩) (l.length+1) c2]::blk b1 256 (aF e)::F) [blk m 120 [.slice (some ⟨b,0,none⟩) (l.length+1) c2],blk b1 256 (aF e)] [(0,false),(1,false),(2,false),(3,false),(4,false),(5,false),(6,false),(7,false),(8,false),(9,false),(10,false),(11,false),(12,false),(13,true)] hs (by kernel_rfl) fun w hs=>?_
 refine go ?_
 refine yh (i+1) (l.length+1) rfl rfl rfl rfl (by show some (Value.int .i64 ((i:Int)+1))=_;rfl) rfl (by omega) q1 rfl ?_
 refine go ?_
 refine yh i (l.length+1) rfl rfl rfl rfl rfl rfl (by omega) q1 rfl ?_
 refine go ?_
 have hsrc:gh (ef (l.take i)++(aF x++(ef r++rs))) (i*4) (ef (l.drop i)):=by
  have e1:ef (l.take i)++(aF x++(ef r++rs))=ef (l.take i)++(ef (l.drop i)++(aF e++rs)):=by
   have:ef (l++[e])=ef (l.take i)++(aF x++ef r):=by rw [hr,lZ,te]
   have h2:ef (l++[e])=ef (l.take i)++(ef (l.drop i)++aF e):=by
    conv=>lhs;rw [← List.take_append_drop i l]
    rw [lZ,lZ,te];simp
   have h3:=this.symm.trans h2
   have h4:ef (l.take i)++(aF x++(ef r++rs))=(ef (l.take i)++(aF x++ef r))++rs:=by simp
   rw [h4,h3];simp
  have e2:i*4=(ef (l.take i)).length+0:=by rw [lE,List.length_take,Nat.min_eq_left hi];rfl
  rw [e1,e2]
  exact gh.pre _ (gh.all _).app
 have hcopy:eV (ef (l.take i)++(aF x++(ef r++rs))) ((i+1)*4) (ef (l.drop i))=ef (l.take i)++(aF x++(ef (l.drop i)++rs)):=by
  have e2:(i+1)*4=(ef (l.take i)++aF x).length:=by rw [List.length_append,lE,List.length_take,Nat.min_eq_left hi];show _=i*4+4;omega
  have:=my (ef (l.take i)++aF x) (ef r) (ef (l.drop i)) rs (by rw [lE,lE,hrl];simp)
  rw [e2];simpa using this
 have hput:eV (ef (l.take i)++(aF x++(ef (l.drop i)++rs))) (0+i*4) (aF e)=ef (l.take i++e::l.drop i)++rs:=by
  have e2:0+i*4=(ef (l.take i)).length:=by rw [lE,List.length_take,Nat.min_eq_left hi];omega
  rw [e2,my _ (aF x) (aF e) _ rfl,lZ,te];simp
 have c2i:cutAt b 0 c2 i 4=⟨b,i*4,none⟩:=by unfold cutAt;rw [if_neg (by omega)];simp
 rw [c2i]
 have hcells:((ef (l.take i)++(aF x++(ef r++rs)))).length=(l.length+1)*4+rs.length:=by
  simp only [List.length_append,lE,List.length_take,Nat.min_eq_left hi,hrl]
  show i*4+(4+((l.length-i)*4+rs.length))=_
  omega
 obtain ⟨o,ho,hsp,hfit⟩:∃ o,cutAt b 0 c2 (i+1) 4=⟨b,o,none⟩∧eV (ef (l.take i)++(aF x++(ef r++rs))) o (ef (l.drop i))=ef (l.take i)++(aF x++(ef (l.drop i)++rs))∧o+(ef (l.drop i)).length≤(ef (l.take i)++(aF x++(ef r++rs))).length:=by
  by_cases hc:c2=i+1
  ·have hil:i=l.length:=by omega
   have hr0:r=[]:=List.eq_nil_of_length_eq_zero (by omega)
   subst hr0
   refine ⟨0,by unfold cutAt;rw [if_pos hc],?_,by simp [hil]⟩
   rw [hil];simp [eV]
  ·refine ⟨(i+1)*4,by unfold cutAt;rw [if_neg hc];simp,hcopy,?_⟩
   rw [hcells,lE];simp;omega
 rw [ho]
 refine Kk (news:=ef (l.drop i)) hs rfl rfl rfl rfl .here hsrc (by rw [lE,List.length_drop];congr 1;omega) (lX _) .here hfit rfl fun w hs=>?_
 rw [hsp] at hs
 refine go ?_
 refine bU (l:=blk b 256 (ef (l.take i)++(aF x++(ef (l.drop i)++rs)))::blk m 120 [.slice (some ⟨b,0,none⟩) (l.length+1) c2]::blk b1 256 (aF e)::F) [blk m 120 [.slice (some ⟨b,0,none⟩) (l.length+1) c2],blk b1 256 (aF e)] [(0,false),(1,false),(2,false),(3,false),(4,false),(5,false),(6,false),(7,true)] hs (by kernel_rfl) fun w hs=>?_
 refine go ?_
 refine pq (j:=i) rfl rfl rfl rfl rfl rfl (by omega) rfl ?_
 refine go ?_
 refine BK (vs:=aF e) (cs:=ef (l.take i)++(aF x++(ef (l.drop i)++rs))) hs rfl rfl rfl (uh e) .here ?_ fun w hs=>?_
 ·simp only [List.length_append,lE,List.length_take,Nat.min_eq_left hi]
  show 0+i*4+4≤i*4+(4+_);omega
 rw [hput] at hs
 refine go ?_
 exact gB rfl ⟨rfl,fin _ _ (by simp;omega) hs.to⟩
end
section
open Go.Proofs.YtecibefflhomdaaGreatDoor.Pure (ad az Rd bI less aQ aZ bM bE aD cY dec j3 dT bO gH bj aU)
attribute [local irreducible] IntKind.wrap
def Mv (A:ah) (k:Nat) (v:Value) (rows:List (List Value)):Prop:=
 (∃ a c,v=.slice a rows.length c)∧(∀ r∈rows,r.length=k)∧(rows≠[]→∃ b o c,v=.slice (some ⟨b,o,none⟩) rows.length c∧∀ (W0:World) (F:List ah) (w:World),Sat W0 (A::F) w→∀ j u,rows.flatten[j]?=some u→w.cell? ⟨b,o+j,none⟩=some u)
section
variable {W0 w:World} {F:List ah} {v:Value} {k E:Nat} {rows:List (List Value)}
theorem Sat.Es (hk:∀ r∈rows,r.length=k) (h:Sat W0 (aE k v E rows.length rows.flatten::F) w):Mv (aE k v E rows.length rows.flatten) k v rows:=by
 obtain ⟨a,c,rfl,h1,h2⟩:=h.ay
 refine ⟨⟨a,c,rfl⟩,hk,fun hne=>?_⟩
 obtain ⟨b,cap,rest,hv,q1,q2,q3,-⟩:=h.dV (List.length_pos_iff.2 hne)
 obtain ⟨rfl,_,rfl⟩:=Value.slice.inj hv
 refine ⟨b,0,c,rfl,fun W0 F w h j u hu=>?_⟩
 obtain ⟨b',cap',rest',hv',-,-,-,hs⟩:=h.dV (List.length_pos_iff.2 hne)
 obtain ⟨hb,_,_⟩:=Value.slice.inj hv'
 have hb:b=b':=by injection hb with hb;injection hb
 subst hb
 rw [hs.cell .here,Nat.zero_add,List.getElem?_append_left (List.getElem?_eq_some_iff.1 hu).1]
 exact hu
theorem Mv.row {A:ah} (h:Mv A k v rows) {i:Nat} {x:List Value} (hx:rows[i]?=some x):∃ b o c,v=.slice (some ⟨b,o,none⟩) rows.length c∧∀ (W0:World) (F:List ah) (w:World),Sat W0 (A::F) w→∀ j u,x[j]?=some u→w.cell? ⟨b,o+i*k+j,none⟩=some u:=by
 obtain ⟨b,o,c,hv,hc⟩:=h.2.2 (fun hn=>by rw [hn] at hx;cases hx)
 refine ⟨b,o,c,hv,fun W0 F w hs j u hu=>?_⟩
 have h1:=ja h.2.1 hx
 rw [Nat.add_assoc]
 exact hc W0 F w hs _ u (h1.at j u hu)
end
section
variable {ops:Array Oper} {Q:Exit→Act→World→Prop} {n:Nat} {ds:Md} {e:Env} {w w':World} {rest:List Oper}
variable {op:Op} {ty:TypeId} {pos:String} {af:Array Edge} {d:Nat} {v u:Value} {W0:World} {l l' r r':List ah}
attribute [local semireducible] WL WC WQ
theorem yz {x:Operand} {T b o:Nat} (vs:List Value) (hx:ev e x=some (.pointer (some ⟨b,o,none⟩))) (hT:lk kZ T=some true) (hz:lk df T=some vs.length)
 (hc:∀ j u,vs[j]?=some u→w.cell? ⟨b,o+j,none⟩=some u) (hd:Nat.blt d n=true) (k:WL ops Q n ds rest ((d,.agg vs.toArray)::e) w) :
 WL ops Q n ds (⟨some d,.load T x,ty,pos,af,none⟩::rest) e w:=
 cj (fun a ha=>by
  have:=run_loadCells_list (P:=Tryz.prog) w ⟨b,o,none⟩ vs (fun j v hj=>by rw [add_eq];exact hc j v hj)
  simp [execOp,ha.ev hx,Instr.loadAt,Instr.sureAddr,loadVar,xK hT,dq hz,this]) hd k
end
def j5 (c:bO):List Value:=[str c.key,str c.val,.bool c.del]
def dw (l:List bO):List (List Value):=l.map j5
@[simp] theorem dC (l:List bO):(dw l).length=l.length:=List.length_map _
theorem nR {l:List bO} {i:Nat} {c:bO} (h:l[i]?=some c):(dw l)[i]?=some (j5 c):=by simp [dw,h]
theorem nS:∀ (l:List bO) (q i:Nat) (c:bO),l[i]?=some c→bj q (l.take (i+1))=bj q (l.take i)++[gH c (q+i+1)]
 | x::l,q,0,c,h=>by simp at h;subst h;simp [bj]
 | x::l,q,i+1,c,h=>by
  simp only [List.getElem?_cons_succ] at h
  simp only [List.take_succ_cons,bj,List.cons_append]
  rw [nS l (q+1) i c h,show q+1+i+1=q+(i+1)+1 by omega]
structure Mw (l:List bO):Prop where
 len:l.length≤8
 key:∀ c∈l,c.key.length≤1000
 val:∀ c∈l,c.del=false→c.val.length≤1000
theorem sD {l:List bO} (h:Mw l):∀ (q i:Nat),((bj q (l.take i)).map cY).flatten.length≤2100*(l.take i).length:=by
 intro q i
 have key:∀ (l:List bO) (q:Nat),(∀ c∈l,c.key.length≤1000)→(∀ c∈l,c.del=false→c.val.length≤1000)→((bj q l).map cY).flatten.length≤2100*l.length:=by
  intro l
  induction l with
  | nil=>intro q _ _;simp [bj]
  | cons c r ih=>
   intro q k1 k2
   have h2:=ih (q+1) (fun x hx=>k1 x (List.mem_cons_of_mem _ hx)) fun x hx=>k2 x (List.mem_cons_of_mem _ hx)
   have h3:(cY (gH c (q+1))).length≤2100:=by
    have a:=k1 c List.mem_cons_self
    have b:=k2 c List.mem_cons_self
    show (bE c.key++bM (q+1) 8++(if c.del then [255] else bE c.val)).length≤2100
    cases hd:c.del with
    | true=>simp;omega
    | false=>have:=b hd;simp;omega
   simp only [bj,List.map_cons,List.flatten_cons,List.length_append,List.length_cons];omega
 exact key _ q (fun c hc=>h.key c (List.mem_of_mem_take hc)) fun c hc=>h.val c (List.mem_of_mem_take hc)
variable {W0 w:World} {F:List ah} {v:Value} {d m p:Nat} {T:cD} {D D':ad} {M:List az}
theorem Cx {s:St} {l:List bO} {i:Nat} {c:bO} (h:l[i]?=some c):(bj s.seq (l.take (i+1))).foldl dT s.mem=dT ((bj s.seq (l.take i)).foldl dT s.mem) (gH c (s.seq+i+1)):=by
 rw [nS l s.seq i c h,List.foldl_append];rfl
theorem ll (l:List az):∀ m:List az,(l.foldl dT m).length=m.length+l.length:=by
 induction l with
 | nil=>intro m;rfl
 | cons e r ih=>intro m;rw [List.foldl_cons,ih];simp;omega
theorem ey:∀ (l:List bO) (q:Nat),(bj q l).length=l.length
 | [],_=>rfl
 | c::r,q=>by simp [bj,ey r]
theorem Am {b:Nat} {K:SK} {s:St} {l:List bO} {sync:Bool} {A:ah} {x:Except cy St} (h:kR K.o s D l sync=some (x,D')) (hA:Mv A 3 v (dw l)) (hl:Mw l) (hW:jB W0)
 (hs:Sat W0 (ni b K s::ag K.d D::A::F) w) :
 Calls Tryz.prog 83 #[au b,v,.bool sync] w fun y w'=>∃ ve,y=.returned ve∧Sat W0 (Bv b K x::ag K.d D'::ax ve (dk x)::A::F) w':=by
 unfold kR at h
 by_cases hg:s.seq≤4611686018427387904∧s.mem.length≤1048576
 case neg=>rw [if_neg hg] at h;cases h
 rw [if_pos hg] at h
 obtain ⟨hsq,hmx⟩:=hg
 have hl8:=hl.len
 obtain ⟨hlv,z,hs⟩:=hs.gQ
 refine enter Tryz.func83 rfl Tryz.ntmps83 Tryz.results83 rfl ?_
 refine gx ?_
 have hs:=Sat.cP (k:=1) (E:=5) hs
 refine ae (met (dr (v:=.slice none 0 0) (bs:=[]) (N:=s.seq) (k:=8) hs (by omega) (by simp)) ?_)
 clear hs
 rintro _ w ⟨bv,rfl,hs⟩
 refine ⟨_,rfl,?_⟩
 rw [List.nil_append] at hs
 obtain ⟨⟨av,cv,rfl⟩,-,-⟩:=id hA
 rw [dC]
 refine gx ?_
 refine aL (α:=Nat×Value) (fun q=>[(7,q.2),(0,au b),(1,.slice av l.length cv),(2,.bool sync),(19,.slice av l.length cv),(20,.int .i64 (l.length:Int)),(21,.int .i64 (q.1:Int))])
  (fun q w=>q.1≤l.length∧Sat W0 (cC q.2 (Pure.bM s.seq 8++((bj s.seq (l.take q.1)).map cY).flatten)::blk b 133 (aj K z s)::dQ K.d z s.levels::aR z.m s.mem::aO bB z.sn (aC s.snaps)::ag K.d D::A::F) w) (fun q=>l.length-q.1) (0,bv) ⟨rfl,rfl,rfl,rfl,rfl,rfl,rfl,trivial⟩ ⟨Nat.zero_le _,by simpa [bj] using hs⟩ ?_
 clear hs
 rintro ⟨i,bv⟩ w ⟨hi,hs⟩
 dsimp only at hi hs ⊢
 by_cases hlt:i<l.length
 ·have hg:l[i]?=some l[i]:=List.getElem?_eq_getElem hlt
  have hcm:=List.getElem_mem hlt
  have hbt:=nS l s.seq i _ hg
  generalize l[i]=c at hg hcm hbt
  obtain ⟨bb,o,cc,hv,hcell⟩:=hA.row (nR hg)
  rw [dC] at hv
  obtain ⟨rfl,_,rfl⟩:=Value.slice.inj hv
  have hcl:=hcell W0 _ w (hs.take (.there (.there (.there (.there (.there (.there .here)))))))
  refine gx ?_
  refine cL (i:=i) rfl rfl rfl rfl rfl hlt rfl ?_
  refine yz (j5 c) rfl rfl rfl hcl rfl ?_
  refine gx ?_
  refine aS hs ?_
  clear hs hcl
  intro w b9 hs
  refine gx ?_
  refine cZ (vs:=j5 c) hs ?_
  clear hs
  intro w hs
  refine gx ?_
  refine bU [blk b9 100 (j5 c),blk b 133 (aj K z s)] [(0,false),(1,false),(2,false),(3,false),(4,false),(5,false),(6,false),(7,false),(8,false),(9,false),(10,false),(11,false),(12,false),(13,false),(14,false),(15,false),(16,true),(17,false)] hs (by kernel_rfl) ?_
  clear hs
  intro w hs
  refine gx ?_
  refine qy (aF (gH c (s.seq+i+1))) rfl ?_
  refine gx ?_
  have hbb:=sD hl s.seq i
  rw [List.length_take,Nat.min_eq_left hi] at hbb
  have hkey:=hl.key c hcm
  refine ae (met (wT (x:=gH c (s.seq+i+1)) (hs.take (.there .here)) (by simp only [List.length_append,aU];omega) hkey (fun hd=>hl.val c hcm hd)) ?_)
  clear hs
  rintro _ w ⟨bv2,rfl,hs⟩
  refine ⟨_,rfl,?_⟩
  refine gx ?_
  refine aB (i+1,bv2) ⟨rfl,rfl,rfl,rfl,rfl,rfl,rfl,trivial⟩ ⟨hlt,?_⟩ (by dsimp only;omega)
  dsimp only
  rw [hbt,List.map_append,List.flatten_append,← List.append_assoc]
  simpa using hs.to
 ·have hie:i=l.length:=by omega
  subst hie
  rw [List.take_length] at hs
  have hlt':¬ ((l.length:Int)<(l.length:Int)):=by omega
  refine gx ?_
  have hbb:=sD hl s.seq l.length
  rw [List.take_length] at hbb
  have hlb:(Pure.bM s.seq 8++((bj s.seq l).map cY).flatten).length≤20000:=by simp only [List.length_append,aU];omega
  refine bU [blk b 133 (aj K z s)] [(0,false),(1,false),(2,false),(3,false),(4,false),(5,false),(6,false),(7,false),(8,false),(9,true),(10,true),(11,false)] hs (by kernel_rfl) ?_
  clear hs
  intro w hs
  refine gx ?_
  refine ae (met (kH (hs.take .here) (by omega)) ?_)
  clear hs
  rintro _ w ⟨fv,rfl,hs⟩
  refine ⟨_,rfl,gx ?_⟩
  refine ae (met (ub (n:=s.log) (bs:=aD (kQ s.seq l)) (F:=blk b 133 (aj K z s)::dQ K.d z s.levels::aR z.m s.mem::aO bB z.sn (aC s.snaps)::A::F) (hs.to)) ?_)
  clear hs
  rintro _ w ⟨ve,rfl,hs⟩
  refine ⟨_,rfl,?_⟩
  have hop:eL D (.append s.log (aD (kQ s.seq l)))=some (dX D s.log (aD (kQ s.seq l)),bZ D s.log (aD (kQ s.seq l))):=rfl
  rw [hop] at h
  generalize bZ D s.log (aD (kQ s.seq l))=D1 at h hs
  cases hap:dX D s.log (aD (kQ s.seq l)) with
  | some e=>
   rw [hap] at h hs
   simp only [Option.some.injEq,Prod.mk.injEq] at h
   obtain ⟨rfl,rfl⟩:=h
   obtain ⟨t,u,rfl⟩:=(hs.take (.there (.there .here))).aW
   refine gx ?_
   exact ak rfl ⟨_,rfl,Sat.jW (e:=e) (Sat.bP (z:=z) hlv hs.to)⟩
  | none=>
   rw [hap] at h hs
   dsimp only at h
   have hve:=(hs.take (.there (.there .here))).cF
   subst hve
   refine gz ?_
   refine db rfl ?_
   refine dU ?_
   refine gz ?_
   refine db rfl ?_
   refine gz ?_
   refine db rfl ?_
   refine eB (α:=ad) (fun _=>[(0,au b),(1,.slice av l.length cv)]) (fun D2 w=>(if K.o.memory≤(eG s l).mem.length then mP K.o (eG s l) D2 else some (.ok (eG s l),D2))=some (x,D')∧Sat W0 (blk b 133 (aj K z s)::dQ K.d z s.levels::aR z.m s.mem::aO bB z.sn (aC s.snaps)::ag K.d D2::A::F) w) ?_ ?_
   ·cases sync with
    | true=>
     refine gx ?_
     refine bU [blk b 133 (aj K z s)] [(0,false),(1,false),(2,false),(3,false),(4,false),(5,false),(6,false),(7,false),(8,true),(9,false)] hs (by kernel_rfl) ?_
     clear hs
     intro w hs
     refine gx ?_
     refine ae (met (yf (n:=s.log) (F:=blk b 133 (aj K z s)::dQ K.d z s.levels::aR z.m s.mem::aO bB z.sn (aC s.snaps)::A::F) (hs.to)) ?_)
     clear hs
     rintro _ w ⟨ve,rfl,hs⟩
     refine ⟨_,rfl,?_⟩
     have hop2:eL D1 (.sync s.log)=some (bz D1 s.log,dR D1 s.log):=rfl
     rw [if_pos rfl,hop2] at h
     generalize dR D1 s.log=D2 at h hs
     cases hfe:bz D1 s.log with
     | some e=>
      rw [hfe] at h hs
      simp only [Option.some.injEq,Prod.mk.injEq] at h
      obtain ⟨rfl,rfl⟩:=h
      obtain ⟨t,u,rfl⟩:=(hs.take (.there .here)).aW
      refine gx ?_
      exact ak rfl ⟨_,rfl,Sat.jW (e:=e) (Sat.bP (z:=z) hlv hs.to)⟩
     | none=>
      rw [hfe] at h hs
      have hve:=(hs.take (.there .here)).cF
      subst hve
      refine gx ?_
      exact bg D2 ⟨rfl,rfl,trivial⟩ ⟨h,hs.to⟩
    | false=>
     refine gx ?_
     exact bg D1 ⟨rfl,rfl,trivial⟩ ⟨h,hs.to⟩
   clear hs h hop hap
   rintro D2 w ⟨h,hs⟩
   refine gx ?_
   refine aL (α:=Nat) (fun i=>[(0,au b),(71,.slice av l.length cv),(72,.int .i64 (l.length:Int)),(73,.int .i64 (i:Int))])
    (fun i w=>i≤l.length∧Sat W0 (blk b 133 (aj K z { s with seq:=s.seq+i })::aR z.m ((bj s.seq (l.take i)).foldl dT s.mem)::dQ K.d z s.levels::aO bB z.sn (aC s.snaps)::ag K.d D2::A::F) w) (fun i=>l.length-i) 0 ⟨rfl,rfl,rfl,rfl,trivial⟩ ⟨Nat.zero_le _,by simpa [bj] using hs.to⟩ ?_
   clear hs
   rintro i w ⟨hi,hs⟩
   by_cases hlt:i<l.length
   ·have hg:l[i]?=some l[i]:=List.getElem?_eq_getElem hlt
    have hbt:=Cx (s:=s) hg
    generalize l[i]=c at hg hbt
    obtain ⟨bb,o,cc,hv,hcell⟩:=hA.row (nR hg)
    rw [dC] at hv
    obtain ⟨rfl,_,rfl⟩:=Value.slice.inj hv
    have hcl:=hcell W0 _ w (hs.take (.there (.there (.there (.there (.there .here))))))
    refine gx ?_
    refine cL (i:=i) rfl rfl rfl rfl rfl hlt rfl ?_
    refine yz (j5 c) rfl rfl rfl hcl rfl ?_
    refine gx ?_
    refine aS hs ?_
    clear hs hcl
    intro w b9 hs
    refine gx ?_
    refine cZ (vs:=j5 c) hs ?_
    clear hs
    intro w hs
    generalize hs1:({ s with seq:=s.seq+i }:St)=s1 at hs
    have hq1:s1.seq=s.seq+i:=by rw [← hs1]
    refine gx ?_
    refine bD hs ?_
    clear hs
    intro w hs
    subst hs1
    have hs:Sat W0 (blk b9 100 (j5 c)::blk b 133 (aj K z { s with seq:=s.seq+(i+1) })::aR z.m ((bj s.seq (l.take i)).foldl dT s.mem)::dQ K.d z s.levels::aO bB z.sn (aC s.snaps)::ag K.d D2::A::F) w:=hs.to
    refine gx ?_
    refine bU [blk b9 100 (j5 c),blk b 133 (aj K z { s with seq:=s.seq+(i+1) })] [(0,false),(1,false),(2,false),(3,false),(4,false),(5,false),(6,false),(7,false),(8,false),(9,false),(10,false),(11,false),(12,false),(13,false),(14,false),(15,true)] hs (by kernel_rfl) ?_
    clear hs
    intro w hs
    refine gx ?_
    refine qy (aF (gH c (s.seq+i+1))) rfl ?_
    refine gx ?_
    refine ae (met (Al (e:=gH c (s.seq+i+1)) (hs.take (.there (.there .here))) (by rw [ll,ey,List.length_take];omega)) ?_)
    clear hs
    rintro _ w ⟨rfl,hs⟩
    refine ⟨_,rfl,?_⟩
    rw [← hbt] at hs
    refine gx ?_
    refine aB (i+1) ⟨rfl,rfl,rfl,rfl,trivial⟩ ⟨hlt,?_⟩ (by omega)
    exact hs.to
   ·have hie:i=l.length:=by omega
    subst hie
    rw [List.take_length] at hs
    have hlt':¬ ((l.length:Int)<(l.length:Int)):=by omega
    have hs:Sat W0 (blk b 133 (aj K z (eG s l))::dQ K.d z (eG s l).levels::aR z.m (eG s l).mem::aO bB z.sn (aC (eG s l).snaps)::ag K.d D2::A::F) w:=hs.to
    have hmem:(eG s l).mem.length=s.mem.length+l.length:=by show ((bj s.seq l).foldl dT s.mem).length=_;rw [ll,ey]
    refine gx ?_
    refine bU [blk b 133 (aj K z (eG s l))] [(0,false),(1,false),(2,false),(3,false),(5,false),(6,false),(7,false),(8,false),(9,false),(4,true),(10,false)] hs (by kernel_rfl) ?_
    clear hs
    intro w hs
    refine gx ?_
    refine ae (met (ug (hs.take (.there (.there .here)))) ?_)
    clear hs
    rintro _ w ⟨rfl,hs⟩
    refine ⟨_,rfl,?_⟩
    by_cases hmm:K.o.memory≤(eG s l).mem.length
    ·rw [if_pos hmm] at h
     have hmm':((eG s l).mem.length:Int) ≥ (K.o.memory:Int):=by omega
     refine gx ?_
     have hs:=Sat.bP (s:=eG s l) (z:=z) hlv (hs.to (a:=blk b 133 (aj K z (eG s l))::dQ K.d z (eG s l).levels::aR z.m (eG s l).mem::aO bB z.sn (aC (eG s l).snaps)::ag K.d D2::A::F))
     refine ae (met (nQ h hW hs) ?_)
     clear hs
     rintro _ w ⟨ve,rfl,hs⟩
     refine ⟨_,rfl,gx ?_⟩
     exact ak rfl ⟨_,rfl,hs⟩
    ·rw [if_neg hmm] at h
     simp only [Option.some.injEq,Prod.mk.injEq] at h
     obtain ⟨rfl,rfl⟩:=h
     have hmm':¬ ((eG s l).mem.length:Int) ≥ (K.o.memory:Int):=by omega
     refine gx ?_
     have hs:=Sat.bP (s:=eG s l) (z:=z) hlv (hs.to (a:=blk b 133 (aj K z (eG s l))::dQ K.d z (eG s l).levels::aR z.m (eG s l).mem::aO bB z.sn (aC (eG s l).snaps)::ag K.d D2::A::F))
     exact ak rfl ⟨_,rfl,(Sat.ei hs).to⟩
end
section
open Go.Proofs.YtecibefflhomdaaGreatDoor.Pure (ad az Rd bI less aQ aZ bM bE aD cY dec j3 dT aA cx)
def ij (D:ad) (n:Bs):Except cy Bs×ad:=match bz D n with
 | some e=>(.error e,D.tick)
 | none=>match bz D.tick n with
  | some e=>(.error e,(counted D.tick (jU D n:Int)).tick)
  | none=>(.ok (iC D.tick n 0 (jU D n:Int)),(counted D.tick (jU D n:Int)).tick)
def sE (e:cy):cy:=match e.1 with
 | none=>e
 | some n=>if e.2=10 then (some n,7) else e
def lI:Nat→ad→Rd→List (List cD)→Out (List (List cD)×Rd)
 | 0,_,_,_=>none
 | f+1,D,r,ls=>if r.rest≠[]∧r.bad=false then
  match wO D (r.num 1).2.text.1 with
  | none=>none
  | some (.error e,D')=>some (.error (sE e),D')
  | some (.ok T,D')=>if 4≤(r.num 1).1 then some (.error (some aP,7),D') else
   if (ls.getD (r.num 1).1 []).length≤gW then lI f D' (r.num 1).2.text.2 (ls.set (r.num 1).1 (ls.getD (r.num 1).1 []++[T])) else none
  else some (.ok (ls,r),D)
def kS:Nat→Rd→St→Option (St×Bool)
 | 0,_,_=>none
 | f+1,r,s=>if r.rest=[] then some (s,false) else
  if r.entry.2.bad=true then some (s,true) else
  if s.mem.length≤1048576 then kS f r.entry.2 { s with seq:=r.entry.1.seq,mem:=dT s.mem r.entry.1 } else none
def lx:Nat→Bs→St→Option St
 | 0,_,_=>none
 | f+1,b,s=>match bI b with
  | none=>some s
  | some z=>if (Rd.num ⟨z.1,false⟩ 8).1≠s.seq then some s else
   match kS (z.1.length+1) (Rd.num ⟨z.1,false⟩ 8).2 s with
   | none=>none
   | some (s',true)=>some s'
   | some (s',false)=>lx f z.2 s'
def qz (s:St) (D:ad):Out St:=match ij D s.log with
 | (.error e,D')=>some (.error (sE e),D')
 | (.ok b,D')=>(lx (b.length+1) b s).map fun s'=>(.ok s',D')
def oU:St:=⟨[[],[],[],[]],[],[],0,0,[],0⟩
def oV (D:ad):Out St:=match ij D aP with
 | (.error e,D')=>if e.2=10 then some (.ok oU,D') else some (.error e,D')
 | (.ok f,D')=>match bI f with
  | none=>some (.error (some aP,7),D')
  | some z=>if z.2≠[] then some (.error (some aP,7),D') else
   let a:=Rd.num ⟨z.1,false⟩ 8
   let b:=a.2.num 8
   let c:=b.2.text
   match lI (z.1.length+1) D' c.2 [[],[],[],[]] with
   | none=>none
   | some (.error e,D2)=>some (.error e,D2)
   | some (.ok x,D2)=>if x.2.bad=true then some (.error (some aP,7),D2) else qz { oU with number:=a.1,seq:=b.1,log:=c.1,levels:=x.1 } D2
def kT (l:List Bs):List Bs:=l.mergeSort fun x y=>decide (x≤y)
def fu (D:ad):List Bs:=kT (D.now.map (·.1))
def fJ (s:St) (n:Bs):Bool:=decide (n=aP)||decide (n=s.log)||s.levels.flatten.any fun T=>decide (T.name=n)
def jk (s:St) (D:ad):Out St:=if D.now.length≤gW then match eW (((fu D).filter fun n=>!fJ s n).map .remove) D with
 | none=>none
 | some (some e,D')=>some (.error e,D')
 | some (none,D')=>some (.ok s,D') else none
def j6 (o:ji) (s:St) (D:ad):Out St:=if 0<s.mem.length then mP o s D else dS (gG s D true) fun s D=>mO o s D
def j9 (o:ji) (D:ad):Out St:=dS (oV D) fun s D=>dS (jk s D) fun s D=>j6 o s D
end
end Go.Proofs.YtecibefflhomdaaGreatDoor
