/-
  Part 28: WALKS package levels; PLAIN the disk as files by their names; PLAIN a table's file out of entries.
-/
import Derived.Test.YtecibefflhomdaaGreatDoorW27
set_option maxHeartbeats 8000000
set_option maxRecDepth 100000
set_option linter.all false
namespace Go.Proofs.YtecibefflhomdaaGreatDoor
open Go
section
open Go.Proofs.YtecibefflhomdaaGreatDoor.Pure (ad ay Rd bu less aQ aY bz bB az cU dec iL dG bX gC aZ aD dB Sc Gr lP)
attribute [local irreducible] IntKind.wrap
abbrev KS (d:Nat) (o:jX) (cl:Bool) (br:Value) (mu:Int):SK:=⟨d,o,cl,br,.int .i32 mu⟩
def fx (b d:Nat) (o:jX) (cl:Bool) (be:Option cy) (s:St):ah:=fun h=>∃ br,cR [nd b (KS d o cl br 0) s,aL br be] h
def oF (cl:Bool) (be:Option cy):Option cy:=if cl=true then some (none,6) else be
variable {W0 w:World} {F:List ah} {v:Value} {b d m p:Nat} {o:jX} {cl:Bool} {be:Option cy} {s:St} {D D':ad}
theorem Sat.uK (h:Sat W0 (fx b d o cl be s::F) w):s.levels.length=4∧∃ br z,Sat W0 (blk b 133 (aj (KS d o cl br 0) z s)::aL br be::ea d z s.levels::aS z.m s.mem::aO bF z.sn (aC s.snaps)::F) w:=by
 obtain ⟨br,_,hs⟩:=h.fg (φ:=fun _:Value=>True) (B:=fun br=>[nd b (KS d o cl br 0) s,aL br be]) fun hp ⟨br,k⟩=>⟨br,trivial,k⟩
 obtain ⟨hl,z,hs⟩:=hs.gM
 exact ⟨hl,br,z,hs.to⟩
theorem Sat.yq {br:Value} (h:Sat W0 (nd b (KS d o cl br 0) s::aL br be::F) w):Sat W0 (fx b d o cl be s::F) w:=
 Sat.close (B:=[nd b (KS d o cl br 0) s,aL br be]) h fun hp k=>⟨br,k⟩
theorem Sat.jb {br:Value} {z:SZ} (hl:s.levels.length=4) (h:Sat W0 (blk b 133 (aj (KS d o cl br 0) z s)::ea d z s.levels::aS z.m s.mem::aO bF z.sn (aC s.snaps)::aL br be::F) w):Sat W0 (fx b d o cl be s::F) w:=
 Sat.yq (Sat.bJ (K:=KS d o cl br 0) (z:=z) hl h)
def Ih (cl:Bool) (be:Option cy) (s:St) (D:ad) (key:Bs):Out (Option Bs):=match oF cl be with
 | some e=>some (.error e,D)
 | none=>Cj s D key aH
theorem ow {key:Bs} {x:Except cy (Option Bs)} (h:Ih cl be s D key=some (x,D')) (hs:Sat W0 (fx b d o cl be s::ag d D::F) w) :
 Calls Tryz.prog 42 #[au b,str key] w fun y w'=>∃ ve,y=.returned (.tuple #[str (MH x),.bool (MI x),ve])∧Sat W0 (fx b d o cl be s::ag d D'::aL ve (dC x)::F) w':=by
 obtain ⟨hl,br,z,hs⟩:=hs.uK
 refine uf Tryz.func42 rfl Tryz.ntmps42 Tryz.results42 rfl ?_
 refine gx ?_
 refine qf hs ?_
 clear hs
 intro w hs
 have hs:Sat W0 (blk b 133 (aj (KS d o cl br 1) z s)::aL br be::ea d z s.levels::aS z.m s.mem::aO bF z.sn (aC s.snaps)::ag d D::F) w:=hs
 refine gx ?_
 refine nG rfl ?_
 refine gx ?_
 refine ae (met (kK (K:=KS d o cl br 1) (be:=be) hs) ?_)
 clear hs
 rintro _ w ⟨ve,rfl,hs⟩
 refine ⟨_,rfl,?_⟩
 have hb:BZ (KS d o cl br 1) be=oF cl be:=rfl
 rw [hb] at hs
 unfold Ih at h
 cases hbx:oF cl be with
 | some e=>
  rw [hbx] at h hs
  simp only [Option.some.injEq,Prod.mk.injEq] at h
  obtain ⟨rfl,rfl⟩:=h
  obtain ⟨t,u,rfl⟩:=hs.aV
  refine gx ?_
  refine gW (.inl rfl) hs ?_
  clear hs
  intro w hs
  exact ⟨_,rfl,Sat.jb (z:=z) hl hs.to⟩
 | none=>
  rw [hbx] at h hs
  have hve:=hs.cD
  subst hve
  refine gx ?_
  have hs:=Sat.bJ (K:=KS d o cl br 1) (z:=z) hl (hs.to (a:=blk b 133 (aj (KS d o cl br 1) z s)::ea d z s.levels::aS z.m s.mem::aO bF z.sn (aC s.snaps)::ag d D::aL br be::F))
  refine ae (met (Fo (K:=KS d o cl br 1) (seq:=aH) h hs) ?_)
  clear hs
  rintro _ w ⟨ve,rfl,hs⟩
  refine ⟨_,rfl,?_⟩
  obtain ⟨hl,z,hs⟩:=hs.gM
  refine gx ?_
  refine gW (.inl rfl) hs ?_
  clear hs
  intro w hs
  exact ⟨_,rfl,Sat.jb (z:=z) hl hs.to⟩
def ru (cl:Bool) (be:Option cy) (s:St) (D:ad) (lo hi:Bs) (limit:Int):Out (List (Bs×Bs)):=match oF cl be with
 | some e=>some (.error e,D)
 | none=>Ad s D lo hi limit aH
theorem nQ {lo hi:Bs} {limit:Int} {x:Except cy (List (Bs×Bs))} (h:ru cl be s D lo hi limit=some (x,D')) (hs:Sat W0 (fx b d o cl be s::ag d D::F) w) :
 Calls Tryz.prog 52 #[au b,str lo,str hi,.int .i64 limit] w fun y w'=>∃ pv ve,y=.returned (.tuple #[pv,ve])∧Sat W0 (wP pv x::fx b d o cl be s::ag d D'::aL ve (dC x)::F) w':=by
 obtain ⟨hl,br,z,hs⟩:=hs.uK
 refine uf Tryz.func52 rfl Tryz.ntmps52 Tryz.results52 rfl ?_
 refine gx ?_
 refine qf hs ?_
 clear hs
 intro w hs
 have hs:Sat W0 (blk b 133 (aj (KS d o cl br 1) z s)::aL br be::ea d z s.levels::aS z.m s.mem::aO bF z.sn (aC s.snaps)::ag d D::F) w:=hs
 refine gx ?_
 refine nG rfl ?_
 refine gx ?_
 refine ae (met (kK (K:=KS d o cl br 1) (be:=be) hs) ?_)
 clear hs
 rintro _ w ⟨ve,rfl,hs⟩
 refine ⟨_,rfl,?_⟩
 have hb:BZ (KS d o cl br 1) be=oF cl be:=rfl
 rw [hb] at hs
 unfold ru at h
 cases hbx:oF cl be with
 | some e=>
  rw [hbx] at h hs
  simp only [Option.some.injEq,Prod.mk.injEq] at h
  obtain ⟨rfl,rfl⟩:=h
  obtain ⟨t,u,rfl⟩:=hs.aV
  refine gx ?_
  refine gW (.inl rfl) hs ?_
  clear hs
  intro w hs
  refine ⟨_,_,rfl,?_⟩
  have hs:=Sat.jb (z:=z) hl (hs.to (a:=blk b 133 (aj (KS d o cl br 0) z s)::ea d z s.levels::aS z.m s.mem::aO bF z.sn (aC s.snaps)::aL br be::ag d D::aL (.iface t u) (some e)::F))
  exact hs.imp fun hp r=>⟨fun _=>none,hp,fun _ _ _ hx=>(by cases hx),fun _ _ hx=>(by cases hx),Hp.le_refl _,rfl,r⟩
 | none=>
  rw [hbx] at h hs
  have hve:=hs.cD
  subst hve
  refine gx ?_
  have hs:=Sat.bJ (K:=KS d o cl br 1) (z:=z) hl (hs.to (a:=blk b 133 (aj (KS d o cl br 1) z s)::ea d z s.levels::aS z.m s.mem::aO bF z.sn (aC s.snaps)::ag d D::aL br be::F))
  refine ae (met (Cm (K:=KS d o cl br 1) (seq:=aH) h hs) ?_)
  clear hs
  rintro _ w ⟨pv,ve,rfl,hs⟩
  refine ⟨_,rfl,?_⟩
  obtain ⟨hl,z,hs⟩:=(hs.take (.there .here)).gM
  refine gx ?_
  refine gW (.inl rfl) hs ?_
  clear hs
  intro w hs
  refine ⟨_,_,rfl,?_⟩
  have hs:=Sat.jb (z:=z) hl (hs.to (a:=blk b 133 (aj (KS d o cl br 0) z s)::ea d z s.levels::aS z.m s.mem::aO bF z.sn (aC s.snaps)::aL br be::wP pv x::ag d D'::aL ve (dC x)::F))
  exact hs.to
end
section
open Go.Proofs.YtecibefflhomdaaGreatDoor.Pure (ad ax bZ ew fu cL iO dI jj jk df cu)
def file (D:ad) (n:Bs):Option Bs:=(ax D.now n).map D.aE
structure cQ (D D':ad):Prop where
 ok:D'.Ok
 room:D'.room=D.room
 bad:D'.bad≤D.bad
 fits:(D.used:Int)≤D.room→(D'.used:Int)≤D'.room
theorem cQ.refl {D:ad} (h:D.Ok):cQ D D:=⟨h,rfl,Int.le_refl _,id⟩
theorem cQ.trans {A B C:ad} (h:cQ A B) (k:cQ B C):cQ A C:=⟨k.ok,k.room.trans h.room,Int.le_trans k.bad h.bad,fun x=>k.fits (h.fits x)⟩
theorem kN (D:ad) (h:D.Ok):D.tick.bad≤D.bad:=by
 have:=h.bad0
 unfold ad.tick
 split
 ·exact Int.le_refl _
 ·split
  ·dsimp only;omega
  ·exact Int.le_refl _
theorem cQ.tick {D:ad} (h:D.Ok):cQ D D.tick:=⟨h.tick,Pure.ad.eF D,kN D h,by simp⟩
@[simp] theorem iz (D:ad) (n:Bs):file D.tick n=file D n:=by
 unfold file
 have:D.tick.aE=D.aE:=funext fun i=>Pure.ad.iw D i
 rw [Pure.ad.cP,this]
theorem ry {D:ad} (h:D.dT=true):0<D.bad:=by
 unfold ad.dT at h;simp at h;exact h.2
theorem ox {D:ad} {n:Bs}:file D n=none↔ax D.now n=none:=by unfold file;simp
theorem l7 (D:ad) (n:Bs):fileOf D n=(file D n).getD []:=by
 unfold fileOf file;cases ax D.now n<;>rfl
def pj (D:ad) (e:cy):Prop:=e.2=8∧0<D.bad
theorem pk {D:ad} {n:Bs} {e:cy} (h:bg D n=some e):pj D e∨(e=(some n,10)∧file D n=none):=by
 unfold bg at h
 split at h
 ·rename_i ht;cases h;exact .inl ⟨rfl,ry ht⟩
 ·split at h
  ·rename_i hg;cases h;exact .inr ⟨rfl,ox.2 hg⟩
  ·cases h
theorem kO {D:ad} {n:Bs} (h:bg D n=none):D.dT=false∧∃ i,ax D.now n=some i∧file D n=some (D.aE i):=by
 unfold bg at h
 split at h
 ·cases h
 ·rename_i ht
  split at h
  ·cases h
  ·rename_i i hg;exact ⟨by simpa using ht,i,hg,by simp [file,hg]⟩
theorem eT {D:ad} {n b:Bs} (hf:file D n=some b):bg D n=none∨∃ e,bg D n=some e∧pj D e:=by
 cases he:bg D n with
 | none=>exact .inl rfl
 | some e=>
  rcases pk he with h|⟨_,h⟩
  ·exact .inr ⟨e,rfl,h⟩
  ·rw [hf] at h;cases h
theorem rz {D:ad} (h:D.Ok) {n:Bs} (he:fY D n=none) :
 file D n=none∧(∀ m,file (cN D n) m=if m=n then some [] else file D m)∧(cN D n).used=D.used∧cQ D (cN D n)∧(cN D n).moves.length=D.moves.length+1:=by
 unfold fY at he
 split at he
 ·cases he
 ·rename_i ht
  split at he
  ·cases he
  ·rename_i hs
   have hn:ax D.now n=none:=by cases hg:ax D.now n with
    | none=>rfl
    | some i=>rw [hg] at hs;exact absurd rfl hs
   have hd:cN D n=D.tick.created n (fresh D.tick):=by unfold cN;rw [if_neg ht,if_neg hs]
   have hfr:=tN D.tick
   have hn':ax D.tick.now n=none:=by rw [Pure.ad.cP];exact hn
   have hok:=h.tick.created hfr hn'
   have hu:(D.tick.created n (fresh D.tick)).used=D.used:=by
    unfold ad.used
    have e0:(D.tick.created n (fresh D.tick)).now=D.now++[(n,fresh D.tick)]:=by
     show fu D.tick.now _=_
     rw [Pure.ad.cP];exact Pure.Dl hn _
    rw [e0,List.map_append,List.sum_append]
    have e1:D.now.map (fun p=>((D.tick.created n (fresh D.tick)).aE p.2).length)=D.now.map fun p=>(D.aE p.2).length:=by
     refine List.map_congr_left fun p hp=>?_
     have hne:p.2≠fresh D.tick:=fun hh=>by
      have:=h.now p hp
      rw [hh,← Pure.ad.eg,hfr] at this;cases this
     simp [ad.aE,ad.created,ax,hne]
    rw [e1];simp [ad.aE,ad.created,ax]
   rw [hd]
   refine ⟨ox.2 hn,fun m=>?_,hu,⟨hok,?_,?_,?_⟩,?_⟩
   ·unfold file
    show (ax (bZ D.tick.now n (fresh D.tick)) m).map _=_
    rw [cL]
    by_cases hm:m=n
    ·subst hm;simp [ad.aE,ad.created,ax]
    ·simp only [hm,if_false,Pure.ad.cP]
     cases hg:ax D.now m with
     | none=>rfl
     | some j=>
      have hne:j≠fresh D.tick:=fun hh=>by
       have:=h.now _ (dI hg)
       rw [hh,← Pure.ad.eg,hfr] at this;cases this
      simp [ad.aE,ad.created,ax,hne]
   ·exact Pure.ad.eF D
   ·exact kN D h
   ·rw [hu];show _→_≤D.tick.room;rw [Pure.ad.eF];exact id
   ·show (D.tick.moves++[_]).length=_
    simp
theorem po {D:ad} (h:D.Ok) {n:Bs} {e:cy} (he:fY D n=some e) :
 cN D n=D.tick∧(pj D e∨(e=(some n,11)∧file D n≠none)):=by
 unfold fY at he
 unfold cN
 split at he
 ·rename_i ht;cases he;rw [if_pos ht];exact ⟨rfl,.inl ⟨rfl,ry ht⟩⟩
 ·rename_i ht
  split at he
  ·rename_i hs;cases he;rw [if_neg ht,if_pos hs]
   refine ⟨rfl,.inr ⟨rfl,fun hh=>?_⟩⟩
   rw [ox.1 hh] at hs;cases hs
  ·cases he
theorem rA {D:ad} (h:D.Ok) {n:Bs} {i:Nat} (hi:ax D.now n=some i) (x:Bs×Nat) (m:Bs):file (D.laid i x) m=if m=n then some x.1 else file D m:=by
 unfold file
 show (ax D.now m).map _=_
 by_cases hm:m=n
 ·subst hm;rw [hi];simp [ad.aE,ad.laid,cL]
 ·rw [if_neg hm]
  cases hg:ax D.now m with
  | none=>rfl
  | some j=>
   have hne:j≠i:=fun hh=>hm ((Pure.sW h.names).1 h.ids m n j hg (hh▸hi))
   simp [ad.aE,ad.laid,cL,hne]
theorem rB {D:ad} (h:D.Ok) {n bs:Bs} (he:dK D n bs=none) :
 ∃ b,file D n=some b∧(∀ m,file (bR D n bs) m=if m=n then some (b++bs) else file D m)∧(bR D n bs).used≤D.used+bs.length∧cQ D (bR D n bs)∧(bR D n bs).moves=D.moves∧(D.used:Int)+bs.length≤D.room:=by
 have hroom:bg D n=none∧(D.used:Int)+bs.length≤D.room:=by
  unfold dK at he
  split at he
  ·cases he
  ·rename_i hf
   split at he
   ·cases he
   ·exact ⟨hf,by omega⟩
 obtain ⟨hf,hr⟩:=hroom
 obtain ⟨_,i,hg,hfi⟩:=kO hf
 have ha:bR D n bs=D.tick.laid i (D.aE i++bs,mC D i):=by unfold bR;rw [he,hg]
 have hgt:ax D.tick.now n=some i:=by rw [Pure.ad.cP];exact hg
 have hu:=Pure.ad.gR (x:=(D.aE i++bs,mC D i)) (i:=i) (k:=bs.length) h.tick (by simp)
 rw [Pure.ad.lK] at hu
 have hr1:=h.room1
 have hok:(D.tick.laid i (D.aE i++bs,mC D i)).Ok:=h.tick.laid (by omega)
 refine ⟨_,hfi,fun m=>?_,?_,?_,?_,hr⟩
 ·rw [ha,rA h.tick hgt];simp
 ·rw [ha];exact hu
 ·rw [ha]
  refine ⟨hok,Pure.ad.eF D,kN D h,fun _=>?_⟩
  show _≤D.tick.room
  rw [Pure.ad.eF];omega
 ·rw [ha];exact Pure.ad.jl D
theorem pq {D:ad} (h:D.Ok) {n bs b:Bs} {e:cy} (he:dK D n bs=some e) (hf:file D n=some b) :
 bR D n bs=D.tick∧(pj D e∨(e.2=9∧D.room<(D.used:Int)+bs.length)):=by
 have hd:bR D n bs=D.tick:=by unfold bR;rw [he]
 refine ⟨hd,?_⟩
 unfold dK at he
 split at he
 ·rename_i e' he'
  cases he
  rcases pk he' with h1|⟨_,h1⟩
  ·exact .inl h1
  ·rw [hf] at h1;cases h1
 ·split at he
  ·cases he;exact .inr ⟨rfl,by omega⟩
  ·cases he
theorem qB {D:ad} (h:D.Ok) (n:Bs):(∀ m,file (dU D n) m=file D m)∧(dU D n).used≤D.used∧cQ D (dU D n)∧(dU D n).moves=D.moves:=by
 unfold dU gI
 cases hf:bg D n with
 | some e=>exact ⟨fun m=>iz D m,by simp,cQ.tick h,by simp⟩
 | none=>
  obtain ⟨_,i,hg,hfi⟩:=kO hf
  simp only [hg]
  have hgt:ax D.tick.now n=some i:=by rw [Pure.ad.cP];exact hg
  have hu:=Pure.ad.gR (x:=(D.aE i,(D.aE i).length)) (i:=i) (k:=0) h.tick (by simp)
  rw [Pure.ad.lK] at hu
  have hok:=h.tick.laid (i:=i) (x:=(D.aE i,(D.aE i).length)) (by have:=h.used;omega)
  refine ⟨fun m=>?_,hu,⟨hok,Pure.ad.eF D,kN D h,fun hh=>?_⟩,Pure.ad.jl D⟩
  ·rw [rA h.tick hgt,iz]
   by_cases hm:m=n
   ·subst hm;rw [if_pos rfl,hfi]
   ·rw [if_neg hm]
  ·show _≤D.tick.room
   rw [Pure.ad.eF];omega
theorem wQ {D:ad} (h:D.Ok) {n:Bs} (he:bg D n=none) :
 (∀ m,file (fe D n) m=if m=n then none else file D m)∧(fe D n).used+(fileOf D n).length=D.used∧cQ D (fe D n)∧(fe D n).moves.length=D.moves.length+1:=by
 obtain ⟨_,i,hg,hfi⟩:=kO he
 have hd:fe D n=D.tick.fC n:=by unfold fe gI;rw [he,hg]
 have hu:=Pure.pT (fun i=>(D.aE i).length) D.now n
 rw [hg] at hu
 have e:(D.tick.fC n).used=((ew D.now n).map fun p=>(D.aE p.2).length).sum:=by
  unfold ad.used
  show ((ew D.tick.now n).map fun p=>(D.tick.aE p.2).length).sum=_
  rw [Pure.ad.cP];simp
 have hfo:fileOf D n=D.aE i:=by unfold fileOf;rw [hg]
 have hused:(D.tick.fC n).used+(fileOf D n).length=D.used:=by rw [e,hfo];exact hu
 rw [hd]
 refine ⟨fun m=>?_,hused,⟨h.tick.fC n,Pure.ad.eF D,kN D h,fun hh=>?_⟩,?_⟩
 ·unfold file
  show (ax (ew D.tick.now n) m).map D.tick.aE=_
  rw [Pure.ad.cP,iO _ _ h.names]
  have:D.tick.aE=D.aE:=funext fun i=>Pure.ad.iw D i
  rw [this]
  split<;>rfl
 ·show _≤D.tick.room
  rw [Pure.ad.eF];omega
 ·show (D.tick.moves++[_]).length=_
  simp
theorem uL {D:ad} {n:Bs} {e:cy} (he:bg D n=some e):fe D n=D.tick:=by unfold fe gI;rw [he]
theorem Fp {D:ad} (h:D.Ok) {a b:Bs} (hab:a≠b) (he:bg D a=none) :
 (∀ m,file (fD D a b) m=if m=a then none else if m=b then file D a else file D m)∧(fD D a b).used+(fileOf D b).length=D.used∧cQ D (fD D a b)∧(fD D a b).moves.length=D.moves.length+1:=by
 obtain ⟨_,i,hg,hfi⟩:=kO he
 have hd:fD D a b=D.tick.renamed a b i:=by unfold fD gI;rw [he,hg];simp [hab]
 have hgt:ax D.tick.now a=some i:=by rw [Pure.ad.cP];exact hg
 have h1:=Pure.xQ (fun i=>(D.aE i).length) D.now b i
 have h2:=Pure.pT (fun i=>(D.aE i).length) (bZ D.now b i) a
 have h3:ax (bZ D.now b i) a=some i:=by rw [cL];simp [hab,hg]
 rw [h3] at h2
 have e:(D.tick.renamed a b i).used=((ew (bZ D.now b i) a).map fun p=>(D.aE p.2).length).sum:=by
  unfold ad.used
  show ((ew (bZ D.tick.now b i) a).map fun p=>(D.tick.aE p.2).length).sum=_
  rw [Pure.ad.cP];simp
 have hfo:(fileOf D b).length=Pure.opt (fun i=>(D.aE i).length) (ax D.now b):=by
  unfold fileOf;cases ax D.now b<;>rfl
 have hused:(D.tick.renamed a b i).used+(fileOf D b).length=D.used:=by
  rw [e,hfo]
  have h2':((ew (bZ D.now b i) a).map fun p=>(D.aE p.2).length).sum+(D.aE i).length=((bZ D.now b i).map fun p=>(D.aE p.2).length).sum:=h2
  unfold ad.used
  omega
 rw [hd]
 have hok:=h.tick.renamed hab hgt
 refine ⟨fun m=>?_,hused,⟨hok,Pure.ad.eF D,kN D h,fun hh=>?_⟩,?_⟩
 ·unfold file
  show (ax (ew (bZ D.tick.now b i) a) m).map D.tick.aE=_
  have:D.tick.aE=D.aE:=funext fun i=>Pure.ad.iw D i
  rw [Pure.ad.cP,iO _ _ (jj h.names b i),cL,this]
  by_cases hma:m=a
  ·simp [hma]
  ·simp only [hma,if_false]
   by_cases hmb:m=b
   ·simp [hmb,hg]
   ·simp [hmb]
 ·show _≤D.tick.room
  rw [Pure.ad.eF];omega
 ·show (D.tick.moves++[_]).length=_
  simp
theorem Cn {D:ad} {a b:Bs} {e:cy} (he:bg D a=some e):fD D a b=D.tick:=by unfold fD gI;rw [he]
theorem Af {D:ad} (h:D.Ok):(∀ m,file (eX D) m=file D m)∧(eX D).used=D.used∧cQ D (eX D)∧(eX D).moves.length≤D.moves.length∧(D.dT=false→(eX D).moves=[]):=by
 unfold eX
 by_cases ht:D.dT=true
 ·rw [if_pos ht];exact ⟨fun m=>iz D m,by simp,cQ.tick h,by simp,fun hh=>by rw [ht] at hh;cases hh⟩
 ·rw [if_neg ht]
  have hd:∀ i,D.tick.synced.aE i=D.aE i:=fun i=>Pure.ad.iw D i
  have hu:D.tick.synced.used=D.used:=Pure.ad.lK D
  refine ⟨fun m=>iz D m,hu,⟨h.tick.synced,Pure.ad.eF D,kN D h,fun hh=>?_⟩,by simp [ad.synced],fun _=>rfl⟩
  show _≤D.tick.room
  rw [Pure.ad.eF,hu];exact hh
structure cH (D D':ad):Prop where
 later:cQ D D'
 file:∀ m,file D' m=file D m
 used:D'.used=D.used
 moves:D'.moves=D.moves
theorem cH.refl {D:ad} (h:D.Ok):cH D D:=⟨cQ.refl h,fun _=>rfl,rfl,rfl⟩
theorem cH.trans {A B C:ad} (h:cH A B) (k:cH B C):cH A C:=⟨h.later.trans k.later,fun m=>(k.file m).trans (h.file m),k.used.trans h.used,k.moves.trans h.moves⟩
theorem cH.tick {D:ad} (h:D.Ok):cH D D.tick:=⟨cQ.tick h,fun m=>iz D m,by simp,by simp⟩
theorem cH.counted {D:ad} (h:D.Ok) (n:Int):cH D (counted D n):=
 ⟨⟨⟨h.now,h.safe,h.moves,h.names,h.ids,h.room0,h.room1,h.wait0,h.wait1,h.bad0,h.bad1,h.used,h.short⟩,rfl,Int.le_refl _,id⟩,fun _=>rfl,rfl,rfl⟩
theorem cH.read {D:ad} (h:D.Ok) (n:Int):cH D (YtecibefflhomdaaGreatDoor.counted D n).tick:=(cH.counted h n).trans (cH.tick (cH.counted h n).later.ok)
theorem pj.before {D D':ad} {e:cy} (h:cQ D D') (k:pj D' e):pj D e:=⟨k.1,Int.lt_of_lt_of_le k.2 h.bad⟩
end
section
open Go.Proofs.YtecibefflhomdaaGreatDoor.Pure
def dZ (c:List ay):Bs:=(c.map cU).flatten
def gD (c:List ay):Bs:=az (dZ c)
def bN:Nat→List (List ay)→List (Bs×Nat×Nat)
 | _,[]=>[]
 | a,c::r=>(dD c,a,(gD c).length)::bN (a+(gD c).length) r
def bC (cs:List (List ay)):Bs:=(cs.map gD).flatten
abbrev vM (a b:List ay):Prop:=∀ x∈a,∀ y∈b,aQ x.key y.key=true
def eR (l:List ay) (cs:List (List ay)):Bs:=bC cs++az (hU (dD l) (fN l) l.length (bN 0 cs))++az (bz (bC cs).length 8)
@[simp] theorem MJ:dZ []=[]:=rfl
theorem Fq (a b:List ay):dZ (a++b)=dZ a++dZ b:=by simp [dZ]
theorem jR {c:List ay} (h:∀ e∈c,lx e):(dZ c).length≤34*c.length:=by
 induction c with
 | nil=>simp
 | cons e r ih=>
  have h1:=Dr (h e List.mem_cons_self)
  have h2:=ih fun x hx=>h x (List.mem_cons_of_mem _ hx)
  simp only [dZ,List.map_cons,List.flatten_cons,List.length_append,List.length_cons] at h2 ⊢
  omega
theorem nR:∀ (A B:List (List ay)) (a:Nat),bN a (A++B)=bN a A++bN (a+(bC A).length) B
 | [],B,a=>by simp [bN,bC]
 | c::A,B,a=>by
  simp only [List.cons_append,bN,nR A B]
  simp [bC,Nat.add_assoc]
@[simp] theorem gN:∀ (A:List (List ay)) (a:Nat),(bN a A).length=A.length
 | [],_=>rfl
 | c::A,a=>by simp [bN,gN A]
theorem rC (A B:List (List ay)):bC (A++B)=bC A++bC B:=by simp [bC]
theorem l8:∀ {cs:List (List ay)},(∀ c∈cs,c≠[])→(∀ e∈cs.flatten,lx e)→(bC cs).length≤46*cs.flatten.length
 | [],_,_=>by simp [bC]
 | c::r,hn,h=>by
  have h1:=jR (c:=c) fun e he=>h e (by simp [he])
  have h2:=l8 (cs:=r) (fun x hx=>hn x (List.mem_cons_of_mem _ hx)) fun e he=>h e (by simp at he ⊢;exact .inr he)
  have h3:0<c.length:=List.length_pos_iff.2 (hn c List.mem_cons_self)
  simp only [bC,List.map_cons,List.flatten_cons,List.length_append,gD,bH] at h2 ⊢
  omega
theorem kh:∀ {cs:List (List ay)},(∀ c∈cs,c≠[])→cs.length≤cs.flatten.length
 | [],_=>Nat.le_refl _
 | c::r,hn=>by
  have h2:=kh (cs:=r) fun x hx=>hn x (List.mem_cons_of_mem _ hx)
  have h3:0<c.length:=List.length_pos_iff.2 (hn c List.mem_cons_self)
  simp only [List.flatten_cons,List.length_append,List.length_cons];omega
def NP (c:List ay):Prop:=∃ a b,c=a++b∧(dZ a).length<300∧∀ x∈b,∀ y∈b,x.key=y.key
structure Co (l:List ay) (dn:List (List ay)) (cur:List ay) (s:Wr):Prop where
 file:s.file=bC dn
 inb:s.inb=dZ cur
 blocks:s.blocks=bN 0 dn
 first:if cur=[] then dn=[]∧s.first=dD l else s.first=dD cur
 ne:∀ c∈dn,c≠[]
 sep:(dn++[cur]).Pairwise vM
 size:∀ c∈dn++[cur],NP c
theorem Ii {e:ay} (h:lx e):zT e=true:=by
 have h1:=h.key
 unfold zT
 cases hd:e.del with
 | true=>simp [Nat.ble_eq];omega
 | false=>have:=h.val hd;simp [Nat.ble_eq];omega
theorem uM {l:List ay} {dn:List (List ay)} {cur:List ay} {s:Wr} (h:Co l dn cur s) (hb:gL=1099511627776) (hc:cur≠[]) (h1:(dZ cur).length≤1048576) (h2:(bC dn).length≤1099511627776) (h3:dn.length≤1099511627776) :
 kF s=some ⟨bC (dn++[cur]),[],s.first,bN 0 (dn++[cur])⟩:=by
 have hf:=h.first
 rw [if_neg hc] at hf
 unfold kF
 rw [if_pos ⟨by rw [h.inb];exact h1,by rw [h.file,hb];exact h2,by rw [h.blocks,gN,hb];exact h3⟩,rC,nR,h.file,h.inb,h.blocks,hf]
 simp [bC,gD,bN]
theorem rE {l:List ay} (hs:fJ l) (hk:∀ e∈l,lx e) (hn:l.length≤10000):∀ (r p:List ay) (dn:List (List ay)) (cur:List ay) (s:Wr),l=p++r→p=dn.flatten++cur→Co l dn cur s →
 ∃ dn' cur' s',lA l p.length r s=some s'∧l=dn'.flatten++cur'∧Co l dn' cur' s'∧(l≠[]→cur'≠[]∨(r=[]∧cur'=cur))
 | [],p,dn,cur,s,hl,hp,h=>⟨dn,cur,s,rfl,by rw [hl,hp];simp,h,fun _=>.inr ⟨rfl,rfl⟩⟩
 | e::r,p,dn,cur,s,hl,hp,h=>by
  have he:e∈l:=by rw [hl];simp
  have hlen:dn.flatten.length+cur.length+(e::r).length=l.length:=by rw [hl,hp];simp only [List.length_append]
  simp only [List.length_cons] at hlen
  have hkd:∀ x∈dn.flatten,lx x:=fun x hx=>hk x (by rw [hl,hp];simp only [List.mem_append];exact .inl (.inl hx))
  have hkc:∀ x∈cur,lx x:=fun x hx=>hk x (by rw [hl,hp];simp only [List.mem_append];exact .inl (.inr hx))
  have hb1:=l8 h.ne hkd
  have hb2:=jR hkc
  have hb3:=kh h.ne
  have hin:s.inb.length≤1048576:=by rw [h.inb];omega
  have keep:∀ (hk2:cur≠[]∨dn=[]) (hz2:NP (cur++[e])),∃ dn' cur' s',lA l (p.length+1) r { s with inb:=s.inb++cU e }=some s'∧l=dn'.flatten++cur'∧Co l dn' cur' s'∧(l≠[]→cur'≠[]∨(e::r=[]∧cur'=cur)):=by
   intro hk2 hz2
   have hw:Co l dn (cur++[e]) { s with inb:=s.inb++cU e }:=by
    refine ⟨h.file,by simp [h.inb,dZ],h.blocks,?_,h.ne,?_,fun c hc=>?_⟩
    ·rw [if_neg (by simp)]
     have hf:=h.first
     by_cases hc:cur=[]
     ·rw [if_pos hc] at hf
      show s.first=_
      rw [hf.2,hl,hp,hf.1,hc];rfl
     ·rw [if_neg hc] at hf
      show s.first=_
      rw [hf];cases cur with
      | nil=>exact absurd rfl hc
      | cons c r=>rfl
    ·have hsep:=h.sep
     rw [List.pairwise_append] at hsep ⊢
     refine ⟨hsep.1,by simp,fun a ha b hb x hx y hy=>?_⟩
     simp at hb;subst hb
     rcases List.mem_append.1 hy with hy|hy
     ·exact hsep.2.2 a ha cur (by simp) x hx y hy
     ·simp at hy;subst hy
      rcases hk2 with hk2|hk2
      ·obtain ⟨z,hz⟩:=List.exists_mem_of_ne_nil _ hk2
       have h1:=hsep.2.2 a ha cur (by simp) x hx z hz
       have h2:less z y=true:=by
        rw [hl,hp] at hs
        exact (List.pairwise_append.1 hs).2.2 z (by simp only [List.mem_append];exact .inr hz) y (by simp)
       rcases bK.1 h2 with h3|h3
       ·exact dt h1 h3
       ·rw [← h3.1];exact h1
      ·rw [hk2] at ha;cases ha
    ·rcases List.mem_append.1 hc with hc|hc
     ·exact h.size c (List.mem_append_left _ hc)
     ·rw [List.mem_singleton.1 hc];exact hz2
   obtain ⟨dn',cur',s',h1,h2,h3,h4⟩:=rE hs hk hn r (p++[e]) dn (cur++[e]) _ (by rw [hl];simp) (by rw [hp];simp) hw
   rw [List.length_append,List.length_singleton] at h1
   refine ⟨dn',cur',s',h1,h2,h3,fun hne=>?_⟩
   rcases h4 hne with h4|⟨_,h4⟩
   ·exact .inl h4
   ·exact .inl (by rw [h4];simp)
  unfold lA stepW
  rw [if_pos ⟨hin,Ii (hk e he)⟩]
  by_cases h300:300≤s.inb.length
  ·rw [if_pos h300]
   have hc:cur≠[]:=by intro hc;rw [h.inb,hc] at h300;simp at h300
   obtain ⟨z,hz⟩:∃ z,cur.getLast?=some z:=by
    cases hg:cur.getLast? with
    | none=>exact absurd (List.getLast?_eq_none_iff.1 hg) hc
    | some z=>exact ⟨z,rfl⟩
   have hzm:z∈cur:=List.mem_of_getLast? hz
   have hpz:p.getLast?=some z:=by rw [hp,List.getLast?_append,hz];rfl
   have hpl:0<p.length:=by rw [hp,List.length_append];have:=List.length_pos_iff.2 hc;omega
   have hlz:l[p.length-1]?=some z:=by
    rw [hl,List.getElem?_append_left (by omega),← List.getLast?_eq_getElem?,hpz]
   rw [hlz]
   dsimp only
   by_cases hkz:e.key=z.key
   ·rw [if_pos hkz]
    refine keep (.inl hc) ?_
    obtain ⟨a,b,e1,e2,e3⟩:=h.size cur (List.mem_append_right _ List.mem_cons_self)
    have hbn:b≠[]:=fun hb=>by rw [hb,List.append_nil] at e1;rw [h.inb,e1] at h300;omega
    have hzb:z∈b:=by
     rw [e1,List.getLast?_append] at hz
     cases hg:b.getLast? with
     | none=>exact absurd (List.getLast?_eq_none_iff.1 hg) hbn
     | some y=>rw [hg] at hz;cases hz;exact List.mem_of_getLast? hg
    refine ⟨a,b++[e],by rw [e1,List.append_assoc],e2,fun x hx y hy=>?_⟩
    have key:∀ x∈b++[e],x.key=z.key:=fun x hx=>by
     rcases List.mem_append.1 hx with hx|hx
     ·exact e3 x hx z hzb
     ·rw [List.mem_singleton.1 hx];exact hkz
    rw [key x hx,key y hy]
   ·rw [if_neg hkz,uM h bG hc (by rw [← h.inb];exact hin) (by omega) (by omega)]
    dsimp only [Option.map_some,List.nil_append]
    have hzlt:aQ z.key e.key=true:=by
     have h2:less z e=true:=by
      rw [hl,hp] at hs
      exact (List.pairwise_append.1 hs).2.2 z (by simp only [List.mem_append];exact .inr hzm) e (by simp)
     rcases bK.1 h2 with h3|h3
     ·exact h3
     ·exact absurd h3.1.symm hkz
    have hall:∀ x∈p,aQ x.key e.key=true:=by
     intro x hx
     obtain ⟨a,rfl⟩:∃ a,p=a++[z]:=by
      refine ⟨p.dropLast,?_⟩
      have hne:p≠[]:=by intro h';rw [h'] at hpl;simp at hpl
      rw [List.getLast?_eq_some_getLast hne] at hpz
      rw [← Option.some.inj hpz];exact (List.dropLast_concat_getLast hne).symm
     rcases List.mem_append.1 hx with hx|hx
     ·have h2:less x z=true:=by
       rw [hl,List.append_assoc] at hs
       exact (List.pairwise_append.1 hs).2.2 x hx z (by simp)
      rcases bK.1 h2 with h3|h3
      ·exact dt h3 hzlt
      ·rw [h3.1];exact hzlt
     ·simp at hx;subst hx;exact hzlt
    have hw:Co l (dn++[cur]) [e] ⟨bC (dn++[cur]),cU e,e.key,bN 0 (dn++[cur])⟩:=by
     refine ⟨rfl,by simp [dZ],rfl,by rw [if_neg (by simp)];rfl,?_,?_,fun c hc'=>?_⟩
     ·intro c hc'
      rcases List.mem_append.1 hc' with h'|h'
      ·exact h.ne c h'
      ·simp at h';subst h';exact hc
     ·rw [List.pairwise_append]
      refine ⟨h.sep,by simp,fun a ha b hb x hx y hy=>?_⟩
      simp at hb;subst hb;simp at hy;subst hy
      refine hall x ?_
      rw [hp]
      rcases List.mem_append.1 ha with ha|ha
      ·simp only [List.mem_append];exact .inl (List.mem_flatten.2 ⟨a,ha,hx⟩)
      ·simp at ha;subst ha;simp only [List.mem_append];exact .inr hx
     ·rcases List.mem_append.1 hc' with hc'|hc'
      ·exact h.size c hc'
      ·rw [List.mem_singleton.1 hc']
       exact ⟨[],[e],rfl,by simp,fun x hx y hy=>by rw [List.mem_singleton.1 hx,List.mem_singleton.1 hy]⟩
    obtain ⟨dn',cur',s',h1,h2,h3,h4⟩:=rE hs hk hn r (p++[e]) (dn++[cur]) [e] _ (by rw [hl];simp) (by rw [hp];simp) hw
    rw [List.length_append,List.length_singleton] at h1
    refine ⟨dn',cur',s',h1,h2,h3,fun hne=>?_⟩
    rcases h4 hne with h4|⟨_,h4⟩
    ·exact .inl h4
    ·exact .inl (by rw [h4];simp)
  ·rw [if_neg h300]
   refine keep ?_ ⟨cur,[e],rfl,by rw [← h.inb];omega,fun x hx y hy=>by rw [List.mem_singleton.1 hx,List.mem_singleton.1 hy]⟩
   by_cases hc:cur=[]
   ·have hf:=h.first;rw [if_pos hc] at hf;exact .inr hf.1
   ·exact .inl hc
theorem jE:∀ {cs:List (List ay)} {a A:Nat},(∀ c∈cs,c≠[])→(∀ e∈cs.flatten,lx e)→a+(bC cs).length≤A→∀ b∈bN a cs,b.1.length≤8∧b.2.1≤A∧b.2.2≤A
 | [],_,_,_,_,_,b,hb=>by cases hb
 | c::r,a,A,hn,h,hA,b,hb=>by
  simp only [bC,List.map_cons,List.flatten_cons,List.length_append] at hA
  rcases List.mem_cons.1 hb with rfl|hb
  ·refine ⟨?_,by dsimp only;omega,by dsimp only;omega⟩
   obtain ⟨e,r',rfl⟩:=List.exists_cons_of_ne_nil (hn c List.mem_cons_self)
   exact (h e (by simp)).key
  ·exact jE (cs:=r) (fun x hx=>hn x (List.mem_cons_of_mem _ hx)) (fun e he=>h e (by simp at he ⊢;exact .inr he)) (by simp only [bC];omega) b hb
theorem Ke {l:List ay} (hs:fJ l) (hk:∀ e∈l,lx e) (hn:l.length≤10000) (hne:l≠[]) :
 ∃ cs:List (List ay),cs.flatten=l∧(∀ c∈cs,c≠[])∧cs.Pairwise vM∧(∀ c∈cs,NP c)∧Ff l=some (eR l cs,bN 0 cs):=by
 obtain ⟨e0,r0,rfl⟩:=List.exists_cons_of_ne_nil hne
 obtain ⟨z,hz⟩:∃ z,(e0::r0).getLast?=some z:=by
  cases hg:(e0::r0).getLast? with
  | none=>exact absurd (List.getLast?_eq_none_iff.1 hg) hne
  | some z=>exact ⟨z,rfl⟩
 have h0:Co (e0::r0) [] [] ⟨[],[],e0.key,[]⟩:=⟨rfl,rfl,rfl,by simp [dD],by simp,by simp,fun c hc=>by rw [List.mem_singleton.1 hc];exact ⟨[],[],rfl,by simp,by simp⟩⟩
 obtain ⟨dn,cur,s,h1,h2,h3,h4⟩:=rE hs hk hn (e0::r0) [] [] [] _ rfl rfl h0
 have hc:cur≠[]:=by
  rcases h4 hne with h4|⟨h4,_⟩
  ·exact h4
  ·cases h4
 have hlen:dn.flatten.length+cur.length=(e0::r0).length:=by rw [h2];simp
 have hkd:∀ x∈dn.flatten,lx x:=fun x hx=>hk x (by rw [h2];exact List.mem_append_left _ hx)
 have hkc:∀ x∈cur,lx x:=fun x hx=>hk x (by rw [h2];exact List.mem_append_right _ hx)
 have hb1:=l8 h3.ne hkd
 have hb2:=jR hkc
 have hb3:=kh h3.ne
 have hn1:∀ c∈dn++[cur],c≠[]:=fun c hc'=>by
  rcases List.mem_append.1 hc' with h'|h'
  ·exact h3.ne c h'
  ·simp at h';subst h';exact hc
 have hfl:(dn++[cur]).flatten=e0::r0:=by rw [h2];simp
 have hk1:∀ x∈(dn++[cur]).flatten,lx x:=fun x hx=>hk x (by rw [← hfl];exact hx)
 have hb4:=l8 hn1 hk1
 have hb5:=kh hn1
 rw [hfl] at hb4 hb5
 have hzk:z.key.length≤8:=(hk z (List.mem_of_getLast? hz)).key
 have hek:e0.key.length≤8:=(hk e0 List.mem_cons_self).key
 refine ⟨dn++[cur],hfl,hn1,h3.sep,h3.size,?_⟩
 have hlast:fN (e0::r0)=z.key:=by unfold fN;rw [hz]
 have hbl:=jE (a:=0) (A:=460000) hn1 hk1 (by omega)
 unfold Ff
 rw [hz]
 dsimp only
 simp only [List.length_nil] at h1
 rw [h1,Option.bind_some,uM h3 bG hc (by omega) (by omega) (by omega)]
 dsimp only
 rw [if_pos]
 ·unfold eR;rw [hlast];rfl
 ·refine ⟨by rw [bG];omega,by rw [gN];omega,by omega,?_,by omega,by omega⟩
  refine List.all_eq_true.2 fun b hb=>?_
  obtain ⟨k1,k2,k3⟩:=hbl b hb
  simp only [Bool.and_eq_true,Nat.ble_eq,bG]
  omega
theorem uN:∀ (c:List ay) (f:Nat),(∀ e∈c,lx e)→c.length≤f→eB f ⟨dZ c,false⟩=(c.map bD,false)
 | [],0,_,_=>rfl
 | [],f+1,_,_=>by unfold eB;simp [dZ]
 | e::c,0,_,h=>by simp at h
 | e::c,f+1,hk,h=>by
  have he:dZ (e::c)=cU e++dZ c:=by simp [dZ]
  unfold eB
  rw [he,if_pos ⟨Hc e (dZ c) rfl,rfl⟩,wb (hk e List.mem_cons_self),uN c f (fun x hx=>hk x (List.mem_cons_of_mem _ hx)) (by simp at h;omega)]
  rfl
theorem Ag (c:List ay):c.length≤(dZ c).length:=by
 induction c with
 | nil=>simp
 | cons e r ih=>
  have:=pU e
  simp only [dZ,List.map_cons,List.flatten_cons,List.length_append,List.length_cons] at ih ⊢
  omega
theorem Cq {nm bs:Bs} {c:List ay} {rest:Bs} (h:bu bs=some (dZ c,rest)) (hb:bs.length≤1099511627776) (hk:∀ e∈c,lx e):rl nm bs=some (.ok (c.map bD)):=by
 unfold rl
 rw [h]
 dsimp only
 rw [if_pos (by rw [bG];exact hb),uN c _ hk (Ag c)]
 simp
theorem gZ (a b c:Bs):dV (a++b++c) (a.length:Int) (b.length:Int)=b:=by
 have h1:(min (max (a.length:Int) 0) ((a++b++c).length:Int)).toNat=a.length:=by simp only [List.length_append];omega
 have h2:(min (max (b.length:Int) 0) (((a++b++c).length:Int)-min (max (a.length:Int) 0) ((a++b++c).length:Int))).toNat=b.length:=by simp only [List.length_append];omega
 unfold dV
 rw [h1,h2,List.append_assoc,List.drop_left,List.take_left]
theorem Fs (A B:List (List ay)) (c:List ay) (a:Nat):(bN a (A++c::B))[A.length]?=some (dD c,a+(bC A).length,(gD c).length):=by
 rw [nR,List.getElem?_append_right (by simp)]
 simp [bN]
end
end Go.Proofs.YtecibefflhomdaaGreatDoor
