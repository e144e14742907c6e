/-
  Part 41: WALKS the document's Do, Check, Write, at, GetAt, ScanAt; WALKS the document's GetAt, ScanAt, Release, Snapshot.
-/
import Derived.Test.YtecibefflhomdaaGreatDoorU40
set_option maxHeartbeats 8000000
set_option maxRecDepth 100000
set_option linter.all false
namespace Go.Proofs.YtecibefflhomdaaGreatDoor
open Go
section
open Go.Proofs.YtecibefflhomdaaGreatDoor.Pure (PDisk Chg bltB lookP betweenP inLo inHi)
attribute [local irreducible] IntKind.wrap
variable {W0 w:World} {F:List HProp} {v:Value} {ps:List (Bs×Bs)} {rb:Nat} {r:RSt}
theorem do_spec {vc:Value} {l:List Chg} (hs:Sat W0 (pairV v ps::chgV vc l::F) w) (hp:ps.length+l.length≤1099511627776) :
 Calls Tryz.prog 21 #[v,vc] w fun x w'=>∃ u,x=.returned u∧Sat W0 (pairV u (doR ps l)::chgV vc l::F) w':=by
 obtain ⟨a,c,rfl,-⟩:=(hs.take (.there .here)).cvShape
 refine enter Tryz.func21 rfl Tryz.ntmps21 Tryz.results21 rfl ?_
 refine gy ?_
 refine wc_loop (α:=Nat×List (Bs×Bs)×Value) (fun z=>[(0,z.2.2),(1,.slice a l.length c),(5,.int .i64 (z.1:Int))])
  (fun z w=>(z.1≤l.length∧z.2.1.length≤ps.length+z.1∧doR z.2.1 (l.drop z.1)=doR ps l)∧Sat W0 (pairV z.2.2 z.2.1::chgV (.slice a l.length c) l::F) w) (fun z=>l.length-z.1) (0,ps,v) ⟨rfl,rfl,rfl,trivial⟩ ⟨⟨Nat.zero_le _,Nat.le_refl _,by rw [List.drop_zero]⟩,hs⟩ ?_
 clear hs
 rintro ⟨i,p,vp⟩ w ⟨⟨hi,hpl,hl⟩,hs⟩
 dsimp only at hi hpl hl hs ⊢
 by_cases hlt:i<l.length
 ·have hlt':(i:Int)<(l.length:Int):=by omega
  obtain ⟨z,x,hg,hd,rfl,hseg,c0,c1,c2,h2⟩:=(hs.take (.there .here)).cvRow hlt
  clear hs
  have hs:Sat W0 (pairV vp p::ob true z.b (.cells z.all.toArray z.E (0,0))::chgV (.slice (some ⟨z.b,z.o,none⟩) l.length c) l::F) w:=h2.to
  clear h2
  rw [hd] at hl
  refine gy ?_
  refine w_call (met (rset_spec hs (by omega)) ?_)
  clear hs
  rintro _ w ⟨u,rfl,hs⟩
  refine ⟨_,rfl,?_⟩
  have hs:=hs.pgShare
  have hlen:=setR_len x.key x.val p x.del
  have hlen:(setR x.key x.val x.del p).length≤ps.length+(i+1):=by split at hlen<;>omega
  refine gy ?_
  exact wq_round (i+1,setR x.key x.val x.del p,u) ⟨rfl,rfl,rfl,trivial⟩ ⟨⟨hlt,hlen,hl⟩,hs.to⟩ (by show l.length-(i+1)<l.length-i;omega)
 ·have hie:i=l.length:=by omega
  subst hie
  have hlt':¬ (l.length:Int)<(l.length:Int):=by omega
  rw [List.drop_length] at hl
  have hl:p=doR ps l:=hl
  subst hl
  refine gy ?_
  exact wq_ret rfl ⟨_,rfl,hs⟩
theorem check_spec {vc:Value} {l:List Chg} (hlen:l.length≤1099511627776) (hs:Sat W0 (chgV vc l::F) w) :
 Calls Tryz.prog 85 #[vc] w fun x w'=>x=.returned (.int .i64 (checkR l:Int))∧Sat W0 (chgV vc l::F) w':=by
 obtain ⟨a,c,rfl,-⟩:=hs.cvShape
 refine enter Tryz.func85 rfl Tryz.ntmps85 Tryz.results85 rfl ?_
 unfold checkR
 by_cases h8:8<l.length
 ·have h8':(l.length:Int) > 8:=by omega
  rw [if_pos h8]
  refine gy ?_
  exact wq_ret rfl ⟨rfl,hs⟩
 ·have h8':¬ (l.length:Int) > 8:=by omega
  rw [if_neg h8]
  refine gy ?_
  refine wc_loop (α:=Nat) (fun i=>[(0,.slice a l.length c),(3,.int .i64 (i:Int))])
   (fun i w=>(i≤l.length∧chkR (l.drop i)=chkR l)∧Sat W0 (chgV (.slice a l.length c) l::F) w) (fun i=>l.length-i) 0 ⟨rfl,rfl,trivial⟩ ⟨⟨Nat.zero_le _,by rw [List.drop_zero]⟩,hs⟩ ?_
  clear hs
  rintro i w ⟨⟨hi,hl⟩,hs⟩
  by_cases hlt:i<l.length
  ·have hlt':(i:Int)<(l.length:Int):=by omega
   obtain ⟨z,x,hg,hd,rfl,hseg,c0,c1,c2,h2⟩:=hs.cvRow hlt
   clear hs
   rw [hd] at hl
   have hl:(if x.key.length=0∨8<x.key.length then 3 else if x.del=false∧16<x.val.length then 4 else chkR (l.drop (i+1)))=chkR l:=hl
   by_cases h1:(x.key.length:Int)=0
   ·rw [if_pos (.inl (by omega))] at hl
    refine gy ?_
    exact wq_ret rfl ⟨by rw [← hl];rfl,h2.drop⟩
   ·by_cases h3:(x.key.length:Int) > 8
    ·rw [if_pos (.inr (by omega))] at hl
     refine gy ?_
     exact wq_ret rfl ⟨by rw [← hl];rfl,h2.drop⟩
    ·rw [if_neg (by omega)] at hl
     cases hdel:x.del with
     | true=>
      rw [hdel] at c2 hl
      rw [if_neg (by simp)] at hl
      refine gy ?_
      exact wq_round (i+1) ⟨rfl,rfl,trivial⟩ ⟨⟨hlt,hl⟩,h2.drop⟩ (by show l.length-(i+1)<l.length-i;omega)
     | false=>
      rw [hdel] at c2 hl
      by_cases h4:(x.val.length:Int) > 16
      ·rw [if_pos ⟨rfl,by omega⟩] at hl
       refine gy ?_
       exact wq_ret rfl ⟨by rw [← hl];rfl,h2.drop⟩
      ·rw [if_neg (by omega)] at hl
       refine gy ?_
       exact wq_round (i+1) ⟨rfl,rfl,trivial⟩ ⟨⟨hlt,hl⟩,h2.drop⟩ (by show l.length-(i+1)<l.length-i;omega)
  ·have hie:i=l.length:=by omega
   subst hie
   have hlt':¬ (l.length:Int)<(l.length:Int):=by omega
   rw [List.drop_length] at hl
   refine gy ?_
   exact wq_ret rfl ⟨by rw [← hl];rfl,hs⟩
def rWriteN (r:RSt) (l:List Chg):Nat:=if r.closed=true then 6 else checkR l
def rWrite (r:RSt) (l:List Chg):RSt:=if r.closed=true then r else if checkR l=0 then { r with pairs:=doR r.pairs l } else r
theorem rwrite_spec {vc:Value} {l:List Chg} (hp:r.pairs.length+l.length≤1099511627776) (hs:Sat W0 (refC rb r::chgV vc l::F) w) :
 Calls Tryz.prog 70 #[idV rb,vc] w fun x w'=>x=.returned (.int .i64 (rWriteN r l:Int))∧Sat W0 (refC rb (rWrite r l)::F) w':=by
 obtain ⟨vp,vs,us,hu,hs⟩:=hs.rfOpen
 refine enter Tryz.func70 rfl Tryz.ntmps70 Tryz.results70 rfl ?_
 unfold rWriteN rWrite
 generalize hc:r.closed=cl at hs
 cases cl with
 | true=>
  refine gy ?_
  refine wq_ret rfl ⟨rfl,Sat.rfClose (r:=r) hu (by rw [hc];exact hs.to)⟩
 | false=>
  refine gy ?_
  refine w_call (met (check_spec (by omega) (hs.take (.there (.there (.there (.there .here)))))) ?_)
  clear hs
  rintro _ w ⟨rfl,hs⟩
  refine ⟨_,rfl,?_⟩
  simp only [Bool.false_eq_true,if_false]
  by_cases h0:checkR l=0
  ·have h0':(checkR l:Int)=0:=by omega
   rw [if_pos h0]
   refine gy ?_
   refine w_call (met (do_spec (hs.to (a:=pairV vp r.pairs::chgV vc l::blk rb 88 [vp,vs,.bool false]::snS vs us r.snaps::snT us r.snaps::F)) hp) ?_)
   clear hs
   rintro _ w ⟨u,rfl,hs⟩
   refine ⟨_,rfl,?_⟩
   obtain ⟨au,cu,rfl,-⟩:=hs.pvShape
   refine gy ?_
   refine w_st hs ?_
   clear hs
   intro w hs
   refine gy ?_
   refine wq_ret rfl ⟨rfl,?_⟩
   exact Sat.rfClose (r:=⟨doR r.pairs l,r.snaps,false⟩) (vp:=.slice au (doR r.pairs l).length cu) hu hs.to
  ·have h0':¬ (checkR l:Int)=0:=by omega
   rw [if_neg h0]
   refine gy ?_
   exact wq_ret rfl ⟨rfl,Sat.rfClose hu (by rw [hc];exact hs.to)⟩
def rAt (r:RSt) (n:Int):Except Err (List (Bs×Bs)):=if r.closed=true then .error (none,6) else match refAt r n with
 | none=>.error (none,5)
 | some ps=>.ok ps
theorem rat_spec {n:Int} (hs:Sat W0 (refC rb r::F) w) :
 Calls Tryz.prog 137 #[idV rb,.int .i64 n] w fun x w'=>∃ u,x=.returned (.tuple #[u,.int .i64 (numE (errX (rAt r n)):Int)])∧Sat W0 (pairV u (okL (rAt r n))::refC rb r::F) w':=by
 obtain ⟨vp,vs,us,hu,hs⟩:=hs.rfOpen
 refine enter Tryz.func137 rfl Tryz.ntmps137 Tryz.results137 rfl ?_
 obtain ⟨aas,cs,rfl,hcs1,hcs2⟩:=(hs.take (.there (.there .here))).ownShape
 have hsn:r.snaps.length≤9223372036854775807:=by simp only [maxLen] at hcs2;omega
 have hno:∀ k:Nat,Sat W0 (blk rb 88 [vp,.slice aas r.snaps.length cs,.bool r.closed]::pairV vp r.pairs::snS (.slice aas r.snaps.length cs) us r.snaps::snT us r.snaps::F) w →
  Sat W0 (pairV (.slice none 0 0) []::refC rb r::F) w:=fun k h=>Sat.rvEmp (Sat.rfClose hu h) (.inl rfl) (fun _=>rfl)
 unfold rAt
 generalize hc:r.closed=cl at hs hno
 cases cl with
 | true=>
  refine gy ?_
  exact wq_ret rfl ⟨_,rfl,hno 0 hs⟩
 | false=>
  simp only [Bool.false_eq_true,if_false]
  unfold refAt
  by_cases h1:n<1
  ·rw [if_neg (by omega)]
   refine gy ?_
   exact wq_ret rfl ⟨_,rfl,hno 0 hs⟩
  ·by_cases h2:n > (r.snaps.length:Int)
   ·rw [if_neg (by omega)]
    refine gy ?_
    exact wq_ret rfl ⟨_,rfl,hno 0 hs⟩
   ·rw [if_pos (by omega)]
    obtain ⟨i,hi⟩:∃ i:Nat,n=(i:Int)+1:=⟨(n-1).toNat,by omega⟩
    subst hi
    have hlt:i<r.snaps.length:=by omega
    have hi2:((i:Int)+1)-1=(i:Int):=by omega
    have e1:((i:Int)+1-1).toNat=i:=by omega
    rw [e1,List.getD_eq_getElem?_getD]
    have hg:r.snaps[i]?=some r.snaps[i]:=List.getElem?_eq_getElem hlt
    have hgu:us[i]?=some (us[i]'(by omega)):=List.getElem?_eq_getElem (by omega)
    rw [hg]
    generalize r.snaps[i]=x at hg
    generalize us[i]'(by omega)=u at hgu
    obtain ⟨e2,e3⟩:=snRows_at hgu hg
    obtain ⟨bs,cap,rest,hv,q1,q2,q3,h3⟩:=(hs.take (.there (.there .here))).ownPos (by omega)
    clear hs
    obtain ⟨rfl,_,rfl⟩:=Value.slice.inj hv
    have e2':((snRows us r.snaps).flatten++rest)[0+i*2]?=some (.bool x.isSome):=by
     rw [List.getElem?_append_left (List.getElem?_eq_some_iff.1 e2).1];exact e2
    have e3':((snRows us r.snaps).flatten++rest)[0+i*2+1]?=some u:=by
     rw [List.getElem?_append_left (List.getElem?_eq_some_iff.1 e3).1];exact e3
    have hs:Sat W0 (blk bs 177 ((snRows us r.snaps).flatten++rest)::blk rb 88 [vp,.slice (some ⟨bs,0,none⟩) r.snaps.length cs,.bool false]::pairV vp r.pairs::snT us r.snaps::F) w:=h3.to
    have hback:∀ w,Sat W0 (blk bs 177 ((snRows us r.snaps).flatten++rest)::blk rb 88 [vp,.slice (some ⟨bs,0,none⟩) r.snaps.length cs,.bool false]::pairV vp r.pairs::snT us r.snaps::F) w →
     Sat W0 (blk rb 88 [vp,.slice (some ⟨bs,0,none⟩) r.snaps.length cs,.bool false]::pairV vp r.pairs::snS (.slice (some ⟨bs,0,none⟩) r.snaps.length cs) us r.snaps::snT us r.snaps::F) w:=by
     intro w h
     have hcl:=Sat.ownClose (k:=2) (len:=r.snaps.length) h q1 q2 q3 (by rw [flat_len (snRows_k us r.snaps),snRows_len us r.snaps hu.1]) (fun y hy=>by
      obtain ⟨row,hr,hy⟩:=List.mem_flatten.1 hy
      obtain ⟨i,hi⟩:=List.mem_iff_getElem?.1 hr
      obtain ⟨x1,y1,hx1,hy1,rfl⟩:=mem_zw hr
      simp [snRow] at hy
      rcases hy with rfl|rfl
      ·rfl
      ·exact hu.2 _ hx1)
     exact hcl.to
    clear h3
    cases x with
    | none=>
     refine gy ?_
     exact wq_ret rfl ⟨_,rfl,hno 0 (hback _ hs)⟩
    | some ps=>
     refine gy ?_
     have h4:=hback _ hs
     have h5:=Sat.starAt (i:=i) (A:=snC u (some ps)) (fun A hA=>by obtain ⟨x1,y1,_,_,rfl⟩:=mem_zw hA;exact shd_snC _ _) (by rw [List.getElem?_zipWith,hgu,hg]) (h4.take (.there (.there (.there .here))))
     refine wq_ret rfl ⟨_,rfl,?_⟩
     have h6:Sat W0 (pairV u ps::blk rb 88 [vp,.slice (some ⟨bs,0,none⟩) r.snaps.length cs,.bool false]::pairV vp r.pairs::snS (.slice (some ⟨bs,0,none⟩) r.snaps.length cs) us r.snaps::snT us r.snaps::F) w:=h5.to
     have h7:=Sat.rfClose (F:=pairV u ps::F) hu (by rw [hc];exact h6.to)
     exact h7.to
end
section
open Go.Proofs.YtecibefflhomdaaGreatDoor.Pure (PDisk Chg bltB lookP betweenP inLo inHi)
attribute [local irreducible] IntKind.wrap
variable {W0 w:World} {F:List HProp} {v:Value} {ps:List (Bs×Bs)} {rb:Nat} {r:RSt}
def rGetAt (r:RSt) (n:Int) (key:Bs):Except Err (Option Bs):=match rAt r n with
 | .error e=>.error e
 | .ok ps=>refGet ps key
theorem rAt_num {n:Int} {e:Err} (h:rAt r n=.error e):(e.2:Int)≠0:=by
 unfold rAt at h
 split at h
 ·cases h;simp
 ·split at h<;>cases h
  simp
theorem rgetAt_spec {n:Int} {key:Bs} (hp:∀ ps,rAt r n=.ok ps→ps.length≤1099511627776) (hs:Sat W0 (refC rb r::F) w) :
 Calls Tryz.prog 133 #[idV rb,.int .i64 n,str key] w fun x w'=>x=.returned (getV (rGetAt r n key))∧Sat W0 (refC rb r::F) w':=by
 refine enter Tryz.func133 rfl Tryz.ntmps133 Tryz.results133 rfl ?_
 refine gy ?_
 refine w_call (met (rat_spec (n:=n) hs) ?_)
 clear hs
 rintro _ w ⟨u,rfl,hs⟩
 refine ⟨_,rfl,?_⟩
 unfold rGetAt
 cases hx:rAt r n with
 | error e=>
  rw [hx] at hs
  have hne:(numE (errX (.error e:Except Err (List (Bs×Bs)))):Int)≠0:=rAt_num hx
  refine gy ?_
  exact wq_ret rfl ⟨rfl,hs.drop⟩
 | ok ps=>
  rw [hx] at hs
  have hne:¬ ((numE (errX (.ok ps:Except Err (List (Bs×Bs)))):Int)≠0):=by simp [errX,numE]
  refine gy ?_
  refine w_call (met (refget_spec (ps:=ps) hs (hp ps hx)) ?_)
  clear hs
  rintro _ w ⟨rfl,hs⟩
  refine ⟨_,rfl,?_⟩
  refine gy ?_
  exact wq_ret rfl ⟨rfl,hs.drop⟩
def rScanAt (r:RSt) (n:Int) (lo hi:Bs) (limit:Int):Except Err (List (Bs×Bs)):=match rAt r n with
 | .error e=>.error e
 | .ok ps=>.ok (betweenP ps lo hi limit)
theorem rscanAt_spec {n:Int} {lo hi:Bs} {limit:Int} (hp:∀ ps,rAt r n=.ok ps→ps.length≤1099511627776) (hs:Sat W0 (refC rb r::F) w) :
 Calls Tryz.prog 135 #[idV rb,.int .i64 n,str lo,str hi,.int .i64 limit] w fun x w'=>∃ u,x=.returned (.tuple #[u,.int .i64 (numE (errX (rScanAt r n lo hi limit)):Int)])∧Sat W0 (pairV u (okL (rScanAt r n lo hi limit))::refC rb r::F) w':=by
 refine enter Tryz.func135 rfl Tryz.ntmps135 Tryz.results135 rfl ?_
 refine gy ?_
 refine w_call (met (rat_spec (n:=n) hs) ?_)
 clear hs
 rintro _ w ⟨u,rfl,hs⟩
 refine ⟨_,rfl,?_⟩
 unfold rScanAt
 cases hx:rAt r n with
 | error e=>
  rw [hx] at hs
  have hne:(numE (errX (.error e:Except Err (List (Bs×Bs)))):Int)≠0:=rAt_num hx
  refine gy ?_
  exact wq_ret rfl ⟨_,rfl,Sat.rvEmp hs.drop (.inl rfl) (fun _=>rfl)⟩
 | ok ps=>
  rw [hx] at hs
  have hne:¬ ((numE (errX (.ok ps:Except Err (List (Bs×Bs)))):Int)≠0):=by simp [errX,numE]
  refine gy ?_
  refine w_call (met (between_spec (ps:=ps) hs (hp ps hx)) ?_)
  clear hs
  rintro _ w ⟨u2,rfl,hs⟩
  refine ⟨_,rfl,?_⟩
  have hs:=hs.pgShare
  refine gy ?_
  exact wq_ret rfl ⟨_,rfl,hs.to⟩
def rRel (r:RSt) (n:Int):RSt:=match rAt r n with
 | .error _=>r
 | .ok _=>{ r with snaps:=r.snaps.set (n-1).toNat none }
theorem rrel_spec {n:Int} (hs:Sat W0 (refC rb r::F) w) :
 Calls Tryz.prog 74 #[idV rb,.int .i64 n] w fun x w'=>x=.returned (.int .i64 (numE (errX (rAt r n)):Int))∧Sat W0 (refC rb (rRel r n)::F) w':=by
 refine enter Tryz.func74 rfl Tryz.ntmps74 Tryz.results74 rfl ?_
 refine gy ?_
 refine w_call (met (rat_spec (n:=n) hs) ?_)
 clear hs
 rintro _ w ⟨u,rfl,hs⟩
 refine ⟨_,rfl,?_⟩
 unfold rRel
 cases hx:rAt r n with
 | error e=>
  rw [hx] at hs
  have hne:¬ ((numE (errX (.error e:Except Err (List (Bs×Bs)))):Int)=0):=rAt_num hx
  refine gy ?_
  exact wq_ret rfl ⟨rfl,hs.drop⟩
 | ok ps=>
  rw [hx] at hs
  have hne:((numE (errX (.ok ps:Except Err (List (Bs×Bs)))):Int)=0):=by simp [errX,numE]
  have hin:1≤n∧n≤(r.snaps.length:Int):=by
   unfold rAt at hx
   split at hx
   ·cases hx
   ·unfold refAt at hx
    by_cases hh:1≤n∧n≤(r.snaps.length:Int)
    ·exact hh
    ·rw [if_neg hh] at hx;cases hx
  obtain ⟨i,hi⟩:∃ i:Nat,n=(i:Int)+1:=⟨(n-1).toNat,by omega⟩
  subst hi
  have hlt:i<r.snaps.length:=by omega
  have hi2:((i:Int)+1)-1=(i:Int):=by omega
  have e1:((i:Int)+1-1).toNat=i:=by omega
  rw [e1]
  clear hx
  obtain ⟨vp,vs,us,hu,hs⟩:=(hs.drop).rfOpen
  obtain ⟨bs,cap,rest,rfl,q1,q2,q3,h3⟩:=(hs.take (.there (.there .here))).ownPos (by omega)
  clear hs
  have hfl:(snRows us r.snaps).flatten.length=r.snaps.length*2:=by rw [flat_len (snRows_k us r.snaps),snRows_len us r.snaps hu.1]
  have hs:Sat W0 (blk bs 177 ((snRows us r.snaps).flatten++rest)::blk rb 88 [vp,.slice (some ⟨bs,0,none⟩) r.snaps.length cap,.bool r.closed]::pairV vp r.pairs::snT us r.snaps::F) w:=h3.to
  clear h3
  have hsn:r.snaps.length≤9223372036854775807:=by simp only [maxLen] at q2;omega
  refine gy ?_
  refine w_build [.bool false,.slice none 0 0] ?_
  refine gy ?_
  have e2:splice ((snRows us r.snaps).flatten++rest) (0+i*2) [.bool false,.slice none 0 0]=(snRows (us.set i (.slice none 0 0)) (r.snaps.set i none)).flatten++rest:=by
   have e3:=splice_rows (x:=[.bool false,.slice none 0 0]) (k:=2) rfl (snRows us r.snaps) i (snRows_k us r.snaps) (by rw [snRows_len us r.snaps hu.1];exact hlt)
   have e4:snRows (us.set i (.slice none 0 0)) (r.snaps.set i none)=(snRows us r.snaps).set i [.bool false,.slice none 0 0]:=zipWith_setB _ _ _ _ _ _
   rw [e4]
   rw [← e3,Nat.zero_add]
   unfold splice
   rw [List.take_append_of_le_length (by omega),List.drop_append_of_le_length (by rw [hfl];show i*2+2≤_;omega)]
   simp
  refine wl_stN (o:=0+i*2) hs rfl rfl rfl rfl (by rw [e2];exact Repl.here) (by rw [List.length_append,hfl];show 0+i*2+2≤_;omega) ?_
  clear hs
  intro w hs
  refine gy ?_
  refine wq_ret rfl ⟨rfl,?_⟩
  have hu2:(us.set i (.slice none 0 0)).length=(r.snaps.set i none).length∧∀ y∈us.set i (.slice none 0 0),isOne y=true:=⟨by simp [hu.1],fun y hy=>by
   rcases List.mem_or_eq_of_mem_set hy with h|rfl
   ·exact hu.2 _ h
   ·rfl⟩
  have hl2:(r.snaps.set i none).length=r.snaps.length:=by simp
  have hcl:=Sat.ownClose (k:=2) (len:=(r.snaps.set i none).length) (cap:=cap) hs (by rw [hl2];exact q1) q2 (by rw [hl2];exact q3) (by rw [flat_len (snRows_k _ _),snRows_len _ _ hu2.1]) (fun y hy=>by
   obtain ⟨row,hr,hy⟩:=List.mem_flatten.1 hy
   obtain ⟨x1,y1,hx1,hy1,rfl⟩:=mem_zw hr
   simp [snRow] at hy
   rcases hy with rfl|rfl
   ·rfl
   ·exact hu2.2 _ hx1)
  clear hs
  have h6:Sat W0 (snS (.slice (some ⟨bs,0,none⟩) r.snaps.length cap) (us.set i (.slice none 0 0)) (r.snaps.set i none)::blk rb 88 [vp,.slice (some ⟨bs,0,none⟩) r.snaps.length cap,.bool r.closed]::pairV vp r.pairs::snT us r.snaps::F) w:=by
   rw [hl2] at hcl
   show Sat W0 (ownS 2 _ 177 (r.snaps.set i none).length _::_) w
   rw [hl2]
   exact hcl
  have h6:=h6.take (.there (.there (.there .here)))
  have h7:=h6.head (A':=snT (us.set i (.slice none 0 0)) (r.snaps.set i none)) fun hp k=>by
   show sepL (List.zipWith snC (us.set i _) (r.snaps.set i none)) hp
   rw [zipWith_setB]
   exact sepL_set (fun _=>trivial) k
  have h8:=Sat.rfClose (rb:=rb) (r:={ r with snaps:=r.snaps.set i none }) (vp:=vp) (vs:=.slice (some ⟨bs,0,none⟩) r.snaps.length cap) (us:=us.set i (.slice none 0 0)) (F:=F) hu2 h7.to
  exact h8
def rSnapE (r:RSt):Nat:=if r.closed=true then 6 else if 4≤live r then 2 else 0
def rSnap (r:RSt):RSt:=if rSnapE r=0 then { r with snaps:=r.snaps++[some r.pairs] } else r
def rSnapN (r:RSt):Nat:=if rSnapE r=0 then r.snaps.length+1 else 0
theorem live_take {l:List (Option (List (Bs×Bs)))} {i:Nat} {x:Option (List (Bs×Bs))} (h:l[i]?=some x):((l.take (i+1)).filter Option.isSome).length=((l.take i).filter Option.isSome).length+(if x.isSome=true then 1 else 0):=by
 rw [List.take_add_one,h,List.filter_append,List.length_append]
 cases x<;>rfl
theorem rsnap_spec (hsn:r.snaps.length≤1099511627776) (hs:Sat W0 (refC rb r::F) w) :
 Calls Tryz.prog 72 #[idV rb] w fun x w'=>x=.returned (.tuple #[.int .i64 (rSnapN r:Int),.int .i64 (rSnapE r:Int)])∧Sat W0 (refC rb (rSnap r)::F) w':=by
 obtain ⟨vp,vs,us,hu,hs⟩:=hs.rfOpen
 refine enter Tryz.func72 rfl Tryz.ntmps72 Tryz.results72 rfl ?_
 obtain ⟨aas,cs,rfl,hcs1,hcs2⟩:=(hs.take (.there (.there .here))).ownShape
 unfold rSnapN rSnap rSnapE
 generalize hc:r.closed=cl at hs
 cases cl with
 | true=>
  refine gy ?_
  exact wq_ret rfl ⟨rfl,Sat.rfClose (r:=r) hu (by rw [hc];exact hs)⟩
 | false=>
  simp only [Bool.false_eq_true,if_false]
  refine gy ?_
  refine wc_loop (α:=Nat) (fun i=>[(0,idV rb),(4,.int .i64 (((r.snaps.take i).filter Option.isSome).length:Int)),(5,.int .i64 (i:Int))])
   (fun i w=>i≤r.snaps.length∧Sat W0 (blk rb 88 [vp,.slice aas r.snaps.length cs,.bool false]::pairV vp r.pairs::snS (.slice aas r.snaps.length cs) us r.snaps::snT us r.snaps::F) w) (fun i=>r.snaps.length-i) 0 ⟨rfl,rfl,rfl,trivial⟩ ⟨Nat.zero_le _,hs⟩ ?_
  clear hs
  rintro i w ⟨hi,hs⟩
  have hcnt:((r.snaps.take i).filter Option.isSome).length≤i:=Nat.le_trans (List.length_filter_le _ _) (by rw [List.length_take];omega)
  by_cases hlt:i<r.snaps.length
  ·have hlt':(i:Int)<(r.snaps.length:Int):=by omega
   have hg:r.snaps[i]?=some r.snaps[i]:=List.getElem?_eq_getElem hlt
   have hgu:us[i]?=some (us[i]'(by omega)):=List.getElem?_eq_getElem (by omega)
   generalize r.snaps[i]=x at hg
   generalize us[i]'(by omega)=u at hgu
   obtain ⟨e2,e3⟩:=snRows_at hgu hg
   have hlv:=live_take hg
   obtain ⟨bs,cap,rest,hv,q1,q2,q3,h3⟩:=(hs.take (.there (.there .here))).ownPos (by omega)
   have hs0:=fun (_:True)=>hs
   clear hs
   obtain ⟨rfl,_,rfl⟩:=Value.slice.inj hv
   have e2':((snRows us r.snaps).flatten++rest)[0+i*2]?=some (.bool x.isSome):=by
    rw [List.getElem?_append_left (List.getElem?_eq_some_iff.1 e2).1];exact e2
   cases hxs:x.isSome with
   | true=>
    rw [hxs] at e2' hlv
    refine gy ?_
    refine wq_round (i+1) ⟨rfl,?_,rfl,trivial⟩ ⟨hlt,hs0 trivial⟩ (by show r.snaps.length-(i+1)<r.snaps.length-i;omega)
    rw [hlv];rfl
   | false=>
    rw [hxs] at e2' hlv
    refine gy ?_
    refine wq_round (i+1) ⟨rfl,?_,rfl,trivial⟩ ⟨hlt,hs0 trivial⟩ (by show r.snaps.length-(i+1)<r.snaps.length-i;omega)
    rw [hlv];rfl
  ·have hie:i=r.snaps.length:=by omega
   subst hie
   have hlt':¬ (r.snaps.length:Int)<(r.snaps.length:Int):=by omega
   rw [List.take_length] at hcnt ⊢
   have hlive:(r.snaps.filter Option.isSome).length=live r:=rfl
   rw [hlive] at hcnt ⊢
   by_cases h4:4≤live r
   ·have h4':(live r:Int) ≥ 4:=by omega
    rw [if_pos h4]
    refine gy ?_
    exact wq_ret rfl ⟨rfl,Sat.rfClose (r:=r) hu (by rw [hc];exact hs)⟩
   ·have h4':¬ (live r:Int) ≥ 4:=by omega
    rw [if_neg h4]
    obtain ⟨ap,cp,rfl,-⟩:=(hs.take (.there .here)).pvShape
    refine gy ?_
    refine wc_tree [blk rb 88 [.slice ap r.pairs.length cp,.slice aas r.snaps.length cs,.bool false]] [4,8] (.q 0 (.q 1 (.q 2 (.q 3 (.s 4 (.q 5 (.q 6 (.q 7 (.s 8 (.q 9 (.l 10 (.l 11 (.q 12 (.q 13 (.l 14 .nil))))))))))))))) hs (by kernel_rfl) ?_
    clear hs
    intro w hs
    refine gyt ?_
    refine wt_build [.bool true,.slice ap r.pairs.length cp] rfl ?_
    refine gyt ?_
    refine w_lit [.bool true,.slice ap r.pairs.length cp] hs ?_
    clear hs
    intro w b8 hs
    refine gy ?_
    refine wq_wt hs.to ?_
    refine gyt ?_
    refine w_app1 hs ?_
    clear hs
    intro v2 w hs
    obtain ⟨a2,c2,rfl,-⟩:=hs.ownShape
    refine gy ?_
    refine wq_wt hs.to ?_
    refine gyt ?_
    refine w_st hs ?_
    clear hs
    intro w hs
    refine gy ?_
    refine wq_wtD rfl ?_
    refine gyt ?_
    refine gy ?_
    refine wq_ret rfl ⟨rfl,?_⟩
    have h2:=(hs.take (.there (.there .here))).rvDup
    have h3:Sat W0 (snT us r.snaps::pairV (.slice ap r.pairs.length cp) r.pairs::ownS 2 (.slice a2 (r.snaps.length+1) c2) 177 (r.snaps.length+1) ((snRows us r.snaps).flatten++[.bool true,.slice ap r.pairs.length cp])::blk rb 88 [.slice ap r.pairs.length cp,.slice a2 (r.snaps.length+1) c2,.bool false]::pairV (.slice ap r.pairs.length cp) r.pairs::F) w:=h2.to
    have h4:Sat W0 (snT (us++[.slice ap r.pairs.length cp]) (r.snaps++[some r.pairs])::ownS 2 (.slice a2 (r.snaps.length+1) c2) 177 (r.snaps.length+1) ((snRows us r.snaps).flatten++[.bool true,.slice ap r.pairs.length cp])::blk rb 88 [.slice ap r.pairs.length cp,.slice a2 (r.snaps.length+1) c2,.bool false]::pairV (.slice ap r.pairs.length cp) r.pairs::F) w:=by
     refine h3.imp fun hp k=>?_
     show sepL (star (List.zipWith snC (us++[_]) (r.snaps++[some r.pairs]))::_) hp
     rw [List.zipWith_append (by exact hu.1)]
     refine sepL_unstar (a:=List.zipWith snC us r.snaps++[pairV _ r.pairs]) ?_
     rw [List.append_assoc]
     exact sepL_star k
    have e5:(snRows us r.snaps).flatten++[.bool true,.slice ap r.pairs.length cp]=(snRows (us++[.slice ap r.pairs.length cp]) (r.snaps++[some r.pairs])).flatten:=by
     show _=(List.zipWith snRow (us++[_]) (r.snaps++[some r.pairs])).flatten
     rw [List.zipWith_append (by exact hu.1),List.flatten_append]
     simp [snRow]
    rw [e5] at h4
    have e6:(r.snaps++[some r.pairs]).length=r.snaps.length+1:=by simp
    refine Sat.rfClose (rb:=rb) (r:=⟨r.pairs,r.snaps++[some r.pairs],false⟩) (vp:=.slice ap r.pairs.length cp) (vs:=.slice a2 (r.snaps.length+1) c2) (us:=us++[.slice ap r.pairs.length cp]) ⟨by simp [hu.1],fun y hy=>by
     rcases List.mem_append.1 hy with h|h
     ·exact hu.2 _ h
     ·rw [List.mem_singleton.1 h];rfl⟩ ?_
    show Sat W0 (_::_::ownS 2 _ 177 (r.snaps++[some r.pairs]).length _::_) w
    rw [e6]
    exact h4.to
end
end Go.Proofs.YtecibefflhomdaaGreatDoor
