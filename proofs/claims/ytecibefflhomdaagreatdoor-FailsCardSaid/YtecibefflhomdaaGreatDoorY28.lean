/-
  Part 28: WALKS package levels; PLAIN the disk as files by their names; PLAIN a table's file out of entries.
-/
import Derived.Test.YtecibefflhomdaaGreatDoorY27
set_option maxHeartbeats 8000000
set_option maxRecDepth 100000
set_option linter.all false
namespace Go.Proofs.YtecibefflhomdaaGreatDoor
open Go
section
open Go.Proofs.YtecibefflhomdaaGreatDoor.Pure (ad az Rd bI less aQ aZ bM bE aD cY dec j3 dT bO gH bj aU dP Sc GR lV)
attribute [local irreducible] IntKind.wrap
abbrev KS (d:Nat) (o:ji) (cl:Bool) (br:Value) (mu:Int):SK:=⟨d,o,cl,br,.int .i32 mu⟩
def dh (b d:Nat) (o:ji) (cl:Bool) (be:Option cy) (s:St):ah:=fun h=>∃ br,cV [ni b (KS d o cl br 0) s,ax br be] h
def jl (cl:Bool) (be:Option cy):Option cy:=if cl=true then some (none,6) else be
variable {W0 w:World} {F:List ah} {v:Value} {b d m p:Nat} {o:ji} {cl:Bool} {be:Option cy} {s:St} {D D':ad}
theorem Sat.nT (h:Sat W0 (dh b d o cl be s::F) w):s.levels.length=4∧∃ br z,Sat W0 (blk b 133 (aj (KS d o cl br 0) z s)::ax br be::dQ d z s.levels::aR z.m s.mem::aO bB z.sn (aC s.snaps)::F) w:=by
 obtain ⟨br,_,hs⟩:=h.eI (φ:=fun _:Value=>True) (B:=fun br=>[ni b (KS d o cl br 0) s,ax br be]) fun hp ⟨br,k⟩=>⟨br,trivial,k⟩
 obtain ⟨hl,z,hs⟩:=hs.gQ
 exact ⟨hl,br,z,hs.to⟩
theorem Sat.yC {br:Value} (h:Sat W0 (ni b (KS d o cl br 0) s::ax br be::F) w):Sat W0 (dh b d o cl be s::F) w:=
 Sat.close (B:=[ni b (KS d o cl br 0) s,ax br be]) h fun hp k=>⟨br,k⟩
theorem Sat.fP {br:Value} {z:SZ} (hl:s.levels.length=4) (h:Sat W0 (blk b 133 (aj (KS d o cl br 0) z s)::dQ d z s.levels::aR z.m s.mem::aO bB z.sn (aC s.snaps)::ax br be::F) w):Sat W0 (dh b d o cl be s::F) w:=
 Sat.yC (Sat.bP (K:=KS d o cl br 0) (z:=z) hl h)
def FU (cl:Bool) (be:Option cy) (s:St) (D:ad) (key:Bs):Out (Option Bs):=match jl cl be with
 | some e=>some (.error e,D)
 | none=>Cz s D key aG
theorem oB {key:Bs} {x:Except cy (Option Bs)} (h:FU cl be s D key=some (x,D')) (hs:Sat W0 (dh b d o cl be s::ag d D::F) w) :
 Calls Tryz.prog 42 #[au b,str key] w fun y w'=>∃ ve,y=.returned (.tuple #[str (NN x),.bool (NO x),ve])∧Sat W0 (dh b d o cl be s::ag d D'::ax ve (dk x)::F) w':=by
 obtain ⟨hl,br,z,hs⟩:=hs.nT
 refine nK Tryz.func42 rfl Tryz.ntmps42 Tryz.results42 rfl ?_
 refine gx ?_
 refine lq hs ?_
 clear hs
 intro w hs
 have hs:Sat W0 (blk b 133 (aj (KS d o cl br 1) z s)::ax br be::dQ d z s.levels::aR z.m s.mem::aO bB z.sn (aC s.snaps)::ag d D::F) w:=hs
 refine gx ?_
 refine jV rfl ?_
 refine gx ?_
 refine ae (met (gP (K:=KS d o cl br 1) (be:=be) hs) ?_)
 clear hs
 rintro _ w ⟨ve,rfl,hs⟩
 refine ⟨_,rfl,?_⟩
 have hb:vM (KS d o cl br 1) be=jl cl be:=rfl
 rw [hb] at hs
 unfold FU at h
 cases hbx:jl cl be with
 | some e=>
  rw [hbx] at h hs
  simp only [Option.some.injEq,Prod.mk.injEq] at h
  obtain ⟨rfl,rfl⟩:=h
  obtain ⟨t,u,rfl⟩:=hs.aW
  refine gx ?_
  refine ft (.inl rfl) hs ?_
  clear hs
  intro w hs
  exact ⟨_,rfl,Sat.fP (z:=z) hl hs.to⟩
 | none=>
  rw [hbx] at h hs
  have hve:=hs.cF
  subst hve
  refine gx ?_
  have hs:=Sat.bP (K:=KS d o cl br 1) (z:=z) hl (hs.to (a:=blk b 133 (aj (KS d o cl br 1) z s)::dQ d z s.levels::aR z.m s.mem::aO bB z.sn (aC s.snaps)::ag d D::ax br be::F))
  refine ae (met (FT (K:=KS d o cl br 1) (seq:=aG) h hs) ?_)
  clear hs
  rintro _ w ⟨ve,rfl,hs⟩
  refine ⟨_,rfl,?_⟩
  obtain ⟨hl,z,hs⟩:=hs.gQ
  refine gx ?_
  refine ft (.inl rfl) hs ?_
  clear hs
  intro w hs
  exact ⟨_,rfl,Sat.fP (z:=z) hl hs.to⟩
def nU (cl:Bool) (be:Option cy) (s:St) (D:ad) (lo hi:Bs) (limit:Int):Out (List (Bs×Bs)):=match jl cl be with
 | some e=>some (.error e,D)
 | none=>Ao s D lo hi limit aG
theorem ly {lo hi:Bs} {limit:Int} {x:Except cy (List (Bs×Bs))} (h:nU cl be s D lo hi limit=some (x,D')) (hs:Sat W0 (dh b d o cl be s::ag d D::F) w) :
 Calls Tryz.prog 52 #[au b,str lo,str hi,.int .i64 limit] w fun y w'=>∃ pv ve,y=.returned (.tuple #[pv,ve])∧Sat W0 (qC pv x::dh b d o cl be s::ag d D'::ax ve (dk x)::F) w':=by
 obtain ⟨hl,br,z,hs⟩:=hs.nT
 refine nK Tryz.func52 rfl Tryz.ntmps52 Tryz.results52 rfl ?_
 refine gx ?_
 refine lq hs ?_
 clear hs
 intro w hs
 have hs:Sat W0 (blk b 133 (aj (KS d o cl br 1) z s)::ax br be::dQ d z s.levels::aR z.m s.mem::aO bB z.sn (aC s.snaps)::ag d D::F) w:=hs
 refine gx ?_
 refine jV rfl ?_
 refine gx ?_
 refine ae (met (gP (K:=KS d o cl br 1) (be:=be) hs) ?_)
 clear hs
 rintro _ w ⟨ve,rfl,hs⟩
 refine ⟨_,rfl,?_⟩
 have hb:vM (KS d o cl br 1) be=jl cl be:=rfl
 rw [hb] at hs
 unfold nU at h
 cases hbx:jl cl be with
 | some e=>
  rw [hbx] at h hs
  simp only [Option.some.injEq,Prod.mk.injEq] at h
  obtain ⟨rfl,rfl⟩:=h
  obtain ⟨t,u,rfl⟩:=hs.aW
  refine gx ?_
  refine ft (.inl rfl) hs ?_
  clear hs
  intro w hs
  refine ⟨_,_,rfl,?_⟩
  have hs:=Sat.fP (z:=z) hl (hs.to (a:=blk b 133 (aj (KS d o cl br 0) z s)::dQ d z s.levels::aR z.m s.mem::aO bB z.sn (aC s.snaps)::ax br be::ag d D::ax (.iface t u) (some e)::F))
  exact hs.imp fun hp r=>⟨fun _=>none,hp,fun _ _ _ hx=>(by cases hx),fun _ _ hx=>(by cases hx),Hp.le_refl _,rfl,r⟩
 | none=>
  rw [hbx] at h hs
  have hve:=hs.cF
  subst hve
  refine gx ?_
  have hs:=Sat.bP (K:=KS d o cl br 1) (z:=z) hl (hs.to (a:=blk b 133 (aj (KS d o cl br 1) z s)::dQ d z s.levels::aR z.m s.mem::aO bB z.sn (aC s.snaps)::ag d D::ax br be::F))
  refine ae (met (CC (K:=KS d o cl br 1) (seq:=aG) h hs) ?_)
  clear hs
  rintro _ w ⟨pv,ve,rfl,hs⟩
  refine ⟨_,rfl,?_⟩
  obtain ⟨hl,z,hs⟩:=(hs.take (.there .here)).gQ
  refine gx ?_
  refine ft (.inl rfl) hs ?_
  clear hs
  intro w hs
  refine ⟨_,_,rfl,?_⟩
  have hs:=Sat.fP (z:=z) hl (hs.to (a:=blk b 133 (aj (KS d o cl br 0) z s)::dQ d z s.levels::aR z.m s.mem::aO bB z.sn (aC s.snaps)::ax br be::qC pv x::ag d D'::ax ve (dk x)::F))
  exact hs.to
end
section
open Go.Proofs.YtecibefflhomdaaGreatDoor.Pure (ad aA cx eD fE cQ iU dL jv jw de cw)
def file (D:ad) (n:Bs):Option Bs:=(aA D.now n).map D.aH
structure cS (D D':ad):Prop where
 ok:D'.Ok
 room:D'.room=D.room
 bad:D'.bad≤D.bad
 fits:(D.used:Int)≤D.room→(D'.used:Int)≤D'.room
theorem cS.refl {D:ad} (h:D.Ok):cS D D:=⟨h,rfl,Int.le_refl _,id⟩
theorem cS.trans {A B C:ad} (h:cS A B) (k:cS B C):cS A C:=⟨k.ok,k.room.trans h.room,Int.le_trans k.bad h.bad,fun x=>k.fits (h.fits x)⟩
theorem kU (D:ad) (h:D.Ok):D.tick.bad≤D.bad:=by
 have:=h.bad0
 unfold ad.tick
 split
 ·exact Int.le_refl _
 ·split
  ·dsimp only;omega
  ·exact Int.le_refl _
theorem cS.tick {D:ad} (h:D.Ok):cS D D.tick:=⟨h.tick,Pure.ad.eJ D,kU D h,by simp⟩
@[simp] theorem iE (D:ad) (n:Bs):file D.tick n=file D n:=by
 unfold file
 have:D.tick.aH=D.aH:=funext fun i=>Pure.ad.iB D i
 rw [Pure.ad.cW,this]
theorem rB {D:ad} (h:D.eg=true):0<D.bad:=by
 unfold ad.eg at h;simp at h;exact h.2
theorem kr {D:ad} {n:Bs}:file D n=none↔aA D.now n=none:=by unfold file;simp
theorem jC (D:ad) (n:Bs):fileOf D n=(file D n).getD []:=by
 unfold fileOf file;cases aA D.now n<;>rfl
def qE (D:ad) (e:cy):Prop:=e.2=8∧0<D.bad
theorem pC {D:ad} {n:Bs} {e:cy} (h:bz D n=some e):qE D e∨(e=(some n,10)∧file D n=none):=by
 unfold bz at h
 split at h
 ·rename_i ht;cases h;exact .inl ⟨rfl,rB ht⟩
 ·split at h
  ·rename_i hg;cases h;exact .inr ⟨rfl,kr.2 hg⟩
  ·cases h
theorem kV {D:ad} {n:Bs} (h:bz D n=none):D.eg=false∧∃ i,aA D.now n=some i∧file D n=some (D.aH i):=by
 unfold bz at h
 split at h
 ·cases h
 ·rename_i ht
  split at h
  ·cases h
  ·rename_i i hg;exact ⟨by simpa using ht,i,hg,by simp [file,hg]⟩
theorem fe {D:ad} {n b:Bs} (hf:file D n=some b):bz D n=none∨∃ e,bz D n=some e∧qE D e:=by
 cases he:bz D n with
 | none=>exact .inl rfl
 | some e=>
  rcases pC he with h|⟨_,h⟩
  ·exact .inr ⟨e,rfl,h⟩
  ·rw [hf] at h;cases h
theorem rC {D:ad} (h:D.Ok) {n:Bs} (he:gm D n=none) :
 file D n=none∧(∀ m,file (cT D n) m=if m=n then some [] else file D m)∧(cT D n).used=D.used∧cS D (cT D n)∧(cT D n).moves.length=D.moves.length+1:=by
 unfold gm at he
 split at he
 ·cases he
 ·rename_i ht
  split at he
  ·cases he
  ·rename_i hs
   have hn:aA D.now n=none:=by cases hg:aA D.now n with
    | none=>rfl
    | some i=>rw [hg] at hs;exact absurd rfl hs
   have hd:cT D n=D.tick.created n (fresh D.tick):=by unfold cT;rw [if_neg ht,if_neg hs]
   have hfr:=tQ D.tick
   have hn':aA D.tick.now n=none:=by rw [Pure.ad.cW];exact hn
   have hok:=h.tick.created hfr hn'
   have hu:(D.tick.created n (fresh D.tick)).used=D.used:=by
    unfold ad.used
    have e0:(D.tick.created n (fresh D.tick)).now=D.now++[(n,fresh D.tick)]:=by
     show fE D.tick.now _=_
     rw [Pure.ad.cW];exact Pure.DR hn _
    rw [e0,List.map_append,List.sum_append]
    have e1:D.now.map (fun p=>((D.tick.created n (fresh D.tick)).aH p.2).length)=D.now.map fun p=>(D.aH p.2).length:=by
     refine List.map_congr_left fun p hp=>?_
     have hne:p.2≠fresh D.tick:=fun hh=>by
      have:=h.now p hp
      rw [hh,← Pure.ad.et,hfr] at this;cases this
     simp [ad.aH,ad.created,aA,hne]
    rw [e1];simp [ad.aH,ad.created,aA]
   rw [hd]
   refine ⟨kr.2 hn,fun m=>?_,hu,⟨hok,?_,?_,?_⟩,?_⟩
   ·unfold file
    show (aA (cx D.tick.now n (fresh D.tick)) m).map _=_
    rw [cQ]
    by_cases hm:m=n
    ·subst hm;simp [ad.aH,ad.created,aA]
    ·simp only [hm,if_false,Pure.ad.cW]
     cases hg:aA D.now m with
     | none=>rfl
     | some j=>
      have hne:j≠fresh D.tick:=fun hh=>by
       have:=h.now _ (dL hg)
       rw [hh,← Pure.ad.et,hfr] at this;cases this
      simp [ad.aH,ad.created,aA,hne]
   ·exact Pure.ad.eJ D
   ·exact kU D h
   ·rw [hu];show _→_≤D.tick.room;rw [Pure.ad.eJ];exact id
   ·show (D.tick.moves++[_]).length=_
    simp
theorem pD {D:ad} (h:D.Ok) {n:Bs} {e:cy} (he:gm D n=some e) :
 cT D n=D.tick∧(qE D e∨(e=(some n,11)∧file D n≠none)):=by
 unfold gm at he
 unfold cT
 split at he
 ·rename_i ht;cases he;rw [if_pos ht];exact ⟨rfl,.inl ⟨rfl,rB ht⟩⟩
 ·rename_i ht
  split at he
  ·rename_i hs;cases he;rw [if_neg ht,if_pos hs]
   refine ⟨rfl,.inr ⟨rfl,fun hh=>?_⟩⟩
   rw [kr.1 hh] at hs;cases hs
  ·cases he
theorem wY {D:ad} (h:D.Ok) {n:Bs} {i:Nat} (hi:aA D.now n=some i) (x:Bs×Nat) (m:Bs):file (D.laid i x) m=if m=n then some x.1 else file D m:=by
 unfold file
 show (aA D.now m).map _=_
 by_cases hm:m=n
 ·subst hm;rw [hi];simp [ad.aH,ad.laid,cQ]
 ·rw [if_neg hm]
  cases hg:aA D.now m with
  | none=>rfl
  | some j=>
   have hne:j≠i:=fun hh=>hm ((Pure.td h.names).1 h.ids m n j hg (hh▸hi))
   simp [ad.aH,ad.laid,cQ,hne]
theorem rE {D:ad} (h:D.Ok) {n bs:Bs} (he:dX D n bs=none) :
 ∃ b,file D n=some b∧(∀ m,file (bZ D n bs) m=if m=n then some (b++bs) else file D m)∧(bZ D n bs).used≤D.used+bs.length∧cS D (bZ D n bs)∧(bZ D n bs).moves=D.moves∧(D.used:Int)+bs.length≤D.room:=by
 have hroom:bz D n=none∧(D.used:Int)+bs.length≤D.room:=by
  unfold dX at he
  split at he
  ·cases he
  ·rename_i hf
   split at he
   ·cases he
   ·exact ⟨hf,by omega⟩
 obtain ⟨hf,hr⟩:=hroom
 obtain ⟨_,i,hg,hfi⟩:=kV hf
 have ha:bZ D n bs=D.tick.laid i (D.aH i++bs,mE D i):=by unfold bZ;rw [he,hg]
 have hgt:aA D.tick.now n=some i:=by rw [Pure.ad.cW];exact hg
 have hu:=Pure.ad.km (x:=(D.aH i++bs,mE D i)) (i:=i) (k:=bs.length) h.tick (by simp)
 rw [Pure.ad.lO] at hu
 have hr1:=h.room1
 have hok:(D.tick.laid i (D.aH i++bs,mE D i)).Ok:=h.tick.laid (by omega)
 refine ⟨_,hfi,fun m=>?_,?_,?_,?_,hr⟩
 ·rw [ha,wY h.tick hgt];simp
 ·rw [ha];exact hu
 ·rw [ha]
  refine ⟨hok,Pure.ad.eJ D,kU D h,fun _=>?_⟩
  show _≤D.tick.room
  rw [Pure.ad.eJ];omega
 ·rw [ha];exact Pure.ad.jx D
theorem pE {D:ad} (h:D.Ok) {n bs b:Bs} {e:cy} (he:dX D n bs=some e) (hf:file D n=some b) :
 bZ D n bs=D.tick∧(qE D e∨(e.2=9∧D.room<(D.used:Int)+bs.length)):=by
 have hd:bZ D n bs=D.tick:=by unfold bZ;rw [he]
 refine ⟨hd,?_⟩
 unfold dX at he
 split at he
 ·rename_i e' he'
  cases he
  rcases pC he' with h1|⟨_,h1⟩
  ·exact .inl h1
  ·rw [hf] at h1;cases h1
 ·split at he
  ·cases he;exact .inr ⟨rfl,by omega⟩
  ·cases he
theorem qF {D:ad} (h:D.Ok) (n:Bs):(∀ m,file (dR D n) m=file D m)∧(dR D n).used≤D.used∧cS D (dR D n)∧(dR D n).moves=D.moves:=by
 unfold dR gM
 cases hf:bz D n with
 | some e=>exact ⟨fun m=>iE D m,by simp,cS.tick h,by simp⟩
 | none=>
  obtain ⟨_,i,hg,hfi⟩:=kV hf
  simp only [hg]
  have hgt:aA D.tick.now n=some i:=by rw [Pure.ad.cW];exact hg
  have hu:=Pure.ad.km (x:=(D.aH i,(D.aH i).length)) (i:=i) (k:=0) h.tick (by simp)
  rw [Pure.ad.lO] at hu
  have hok:=h.tick.laid (i:=i) (x:=(D.aH i,(D.aH i).length)) (by have:=h.used;omega)
  refine ⟨fun m=>?_,hu,⟨hok,Pure.ad.eJ D,kU D h,fun hh=>?_⟩,Pure.ad.jx D⟩
  ·rw [wY h.tick hgt,iE]
   by_cases hm:m=n
   ·subst hm;rw [if_pos rfl,hfi]
   ·rw [if_neg hm]
  ·show _≤D.tick.room
   rw [Pure.ad.eJ];omega
theorem wZ {D:ad} (h:D.Ok) {n:Bs} (he:bz D n=none) :
 (∀ m,file (fq D n) m=if m=n then none else file D m)∧(fq D n).used+(fileOf D n).length=D.used∧cS D (fq D n)∧(fq D n).moves.length=D.moves.length+1:=by
 obtain ⟨_,i,hg,hfi⟩:=kV he
 have hd:fq D n=D.tick.fL n:=by unfold fq gM;rw [he,hg]
 have hu:=Pure.p7 (fun i=>(D.aH i).length) D.now n
 rw [hg] at hu
 have e:(D.tick.fL n).used=((eD D.now n).map fun p=>(D.aH p.2).length).sum:=by
  unfold ad.used
  show ((eD D.tick.now n).map fun p=>(D.tick.aH p.2).length).sum=_
  rw [Pure.ad.cW];simp
 have hfo:fileOf D n=D.aH i:=by unfold fileOf;rw [hg]
 have hused:(D.tick.fL n).used+(fileOf D n).length=D.used:=by rw [e,hfo];exact hu
 rw [hd]
 refine ⟨fun m=>?_,hused,⟨h.tick.fL n,Pure.ad.eJ D,kU D h,fun hh=>?_⟩,?_⟩
 ·unfold file
  show (aA (eD D.tick.now n) m).map D.tick.aH=_
  rw [Pure.ad.cW,iU _ _ h.names]
  have:D.tick.aH=D.aH:=funext fun i=>Pure.ad.iB D i
  rw [this]
  split<;>rfl
 ·show _≤D.tick.room
  rw [Pure.ad.eJ];omega
 ·show (D.tick.moves++[_]).length=_
  simp
theorem uM {D:ad} {n:Bs} {e:cy} (he:bz D n=some e):fq D n=D.tick:=by unfold fq gM;rw [he]
theorem FV {D:ad} (h:D.Ok) {a b:Bs} (hab:a≠b) (he:bz D a=none) :
 (∀ m,file (fM D a b) m=if m=a then none else if m=b then file D a else file D m)∧(fM D a b).used+(fileOf D b).length=D.used∧cS D (fM D a b)∧(fM D a b).moves.length=D.moves.length+1:=by
 obtain ⟨_,i,hg,hfi⟩:=kV he
 have hd:fM D a b=D.tick.renamed a b i:=by unfold fM gM;rw [he,hg];simp [hab]
 have hgt:aA D.tick.now a=some i:=by rw [Pure.ad.cW];exact hg
 have h1:=Pure.xX (fun i=>(D.aH i).length) D.now b i
 have h2:=Pure.p7 (fun i=>(D.aH i).length) (cx D.now b i) a
 have h3:aA (cx D.now b i) a=some i:=by rw [cQ];simp [hab,hg]
 rw [h3] at h2
 have e:(D.tick.renamed a b i).used=((eD (cx D.now b i) a).map fun p=>(D.aH p.2).length).sum:=by
  unfold ad.used
  show ((eD (cx D.tick.now b i) a).map fun p=>(D.tick.aH p.2).length).sum=_
  rw [Pure.ad.cW];simp
 have hfo:(fileOf D b).length=Pure.opt (fun i=>(D.aH i).length) (aA D.now b):=by
  unfold fileOf;cases aA D.now b<;>rfl
 have hused:(D.tick.renamed a b i).used+(fileOf D b).length=D.used:=by
  rw [e,hfo]
  have h2':((eD (cx D.now b i) a).map fun p=>(D.aH p.2).length).sum+(D.aH i).length=((cx D.now b i).map fun p=>(D.aH p.2).length).sum:=h2
  unfold ad.used
  omega
 rw [hd]
 have hok:=h.tick.renamed hab hgt
 refine ⟨fun m=>?_,hused,⟨hok,Pure.ad.eJ D,kU D h,fun hh=>?_⟩,?_⟩
 ·unfold file
  show (aA (eD (cx D.tick.now b i) a) m).map D.tick.aH=_
  have:D.tick.aH=D.aH:=funext fun i=>Pure.ad.iB D i
  rw [Pure.ad.cW,iU _ _ (jv h.names b i),cQ,this]
  by_cases hma:m=a
  ·simp [hma]
  ·simp only [hma,if_false]
   by_cases hmb:m=b
   ·simp [hmb,hg]
   ·simp [hmb]
 ·show _≤D.tick.room
  rw [Pure.ad.eJ];omega
 ·show (D.tick.moves++[_]).length=_
  simp
theorem CD {D:ad} {a b:Bs} {e:cy} (he:bz D a=some e):fM D a b=D.tick:=by unfold fM gM;rw [he]
theorem Ap {D:ad} (h:D.Ok):(∀ m,file (fh D) m=file D m)∧(fh D).used=D.used∧cS D (fh D)∧(fh D).moves.length≤D.moves.length∧(D.eg=false→(fh D).moves=[]):=by
 unfold fh
 by_cases ht:D.eg=true
 ·rw [if_pos ht];exact ⟨fun m=>iE D m,by simp,cS.tick h,by simp,fun hh=>by rw [ht] at hh;cases hh⟩
 ·rw [if_neg ht]
  have hd:∀ i,D.tick.synced.aH i=D.aH i:=fun i=>Pure.ad.iB D i
  have hu:D.tick.synced.used=D.used:=Pure.ad.lO D
  refine ⟨fun m=>iE D m,hu,⟨h.tick.synced,Pure.ad.eJ D,kU D h,fun hh=>?_⟩,by simp [ad.synced],fun _=>rfl⟩
  show _≤D.tick.room
  rw [Pure.ad.eJ,hu];exact hh
structure cO (D D':ad):Prop where
 later:cS D D'
 file:∀ m,file D' m=file D m
 used:D'.used=D.used
 moves:D'.moves=D.moves
theorem cO.refl {D:ad} (h:D.Ok):cO D D:=⟨cS.refl h,fun _=>rfl,rfl,rfl⟩
theorem cO.trans {A B C:ad} (h:cO A B) (k:cO B C):cO A C:=⟨h.later.trans k.later,fun m=>(k.file m).trans (h.file m),k.used.trans h.used,k.moves.trans h.moves⟩
theorem cO.tick {D:ad} (h:D.Ok):cO D D.tick:=⟨cS.tick h,fun m=>iE D m,by simp,by simp⟩
theorem cO.counted {D:ad} (h:D.Ok) (n:Int):cO D (counted D n):=
 ⟨⟨⟨h.now,h.safe,h.moves,h.names,h.ids,h.room0,h.room1,h.wait0,h.wait1,h.bad0,h.bad1,h.used,h.short⟩,rfl,Int.le_refl _,id⟩,fun _=>rfl,rfl,rfl⟩
theorem cO.read {D:ad} (h:D.Ok) (n:Int):cO D (YtecibefflhomdaaGreatDoor.counted D n).tick:=(cO.counted h n).trans (cO.tick (cO.counted h n).later.ok)
theorem qE.before {D D':ad} {e:cy} (h:cS D D') (k:qE D' e):qE D e:=⟨k.1,Int.lt_of_lt_of_le k.2 h.bad⟩
end
section
open Go.Proofs.YtecibefflhomdaaGreatDoor.Pure
def e9 (c:List az):Bs:=(c.map cY).flatten
def jr (c:List az):Bs:=aD (e9 c)
def bW:Nat→List (List az)→List (Bs×Nat×Nat)
 | _,[]=>[]
 | a,c::r=>(dZ c,a,(jr c).length)::bW (a+(jr c).length) r
def cg (cs:List (List az)):Bs:=(cs.map jr).flatten
abbrev vO (a b:List az):Prop:=∀ x∈a,∀ y∈b,aQ x.key y.key=true
def eU (l:List az) (cs:List (List az)):Bs:=cg cs++aD (ir (dZ l) (gl l) l.length (bW 0 cs))++aD (bM (cg cs).length 8)
@[simp] theorem Nf:e9 []=[]:=rfl
theorem FW (a b:List az):e9 (a++b)=e9 a++e9 b:=by simp [e9]
theorem kW {c:List az} (h:∀ e∈c,lQ e):(e9 c).length≤34*c.length:=by
 induction c with
 | nil=>simp
 | cons e r ih=>
  have h1:=DX (h e List.mem_cons_self)
  have h2:=ih fun x hx=>h x (List.mem_cons_of_mem _ hx)
  simp only [e9,List.map_cons,List.flatten_cons,List.length_append,List.length_cons] at h2 ⊢
  omega
theorem nV:∀ (A B:List (List az)) (a:Nat),bW a (A++B)=bW a A++bW (a+(cg A).length) B
 | [],B,a=>by simp [bW,cg]
 | c::A,B,a=>by
  simp only [List.cons_append,bW,nV A B]
  simp [cg,Nat.add_assoc]
@[simp] theorem gS:∀ (A:List (List az)) (a:Nat),(bW a A).length=A.length
 | [],_=>rfl
 | c::A,a=>by simp [bW,gS A]
theorem w9 (A B:List (List az)):cg (A++B)=cg A++cg B:=by simp [cg]
theorem mh:∀ {cs:List (List az)},(∀ c∈cs,c≠[])→(∀ e∈cs.flatten,lQ e)→(cg cs).length≤46*cs.flatten.length
 | [],_,_=>by simp [cg]
 | c::r,hn,h=>by
  have h1:=kW (c:=c) fun e he=>h e (by simp [he])
  have h2:=mh (cs:=r) (fun x hx=>hn x (List.mem_cons_of_mem _ hx)) fun e he=>h e (by simp at he ⊢;exact .inr he)
  have h3:0<c.length:=List.length_pos_iff.2 (hn c List.mem_cons_self)
  simp only [cg,List.map_cons,List.flatten_cons,List.length_append,jr,bL] at h2 ⊢
  omega
theorem kt:∀ {cs:List (List az)},(∀ c∈cs,c≠[])→cs.length≤cs.flatten.length
 | [],_=>Nat.le_refl _
 | c::r,hn=>by
  have h2:=kt (cs:=r) fun x hx=>hn x (List.mem_cons_of_mem _ hx)
  have h3:0<c.length:=List.length_pos_iff.2 (hn c List.mem_cons_self)
  simp only [List.flatten_cons,List.length_append,List.length_cons];omega
def Oq (c:List az):Prop:=∃ a b,c=a++b∧(e9 a).length<300∧∀ x∈b,∀ y∈b,x.key=y.key
structure CE (l:List az) (dn:List (List az)) (cur:List az) (s:Wr):Prop where
 file:s.file=cg dn
 inb:s.inb=e9 cur
 blocks:s.blocks=bW 0 dn
 first:if cur=[] then dn=[]∧s.first=dZ l else s.first=dZ cur
 ne:∀ c∈dn,c≠[]
 sep:(dn++[cur]).Pairwise vO
 size:∀ c∈dn++[cur],Oq c
theorem IE {e:az} (h:lQ e):Aa e=true:=by
 have h1:=h.key
 unfold Aa
 cases hd:e.del with
 | true=>simp [Nat.ble_eq];omega
 | false=>have:=h.val hd;simp [Nat.ble_eq];omega
theorem uN {l:List az} {dn:List (List az)} {cur:List az} {s:Wr} (h:CE l dn cur s) (hb:gW=1099511627776) (hc:cur≠[]) (h1:(e9 cur).length≤1048576) (h2:(cg dn).length≤1099511627776) (h3:dn.length≤1099511627776) :
 kN s=some ⟨cg (dn++[cur]),[],s.first,bW 0 (dn++[cur])⟩:=by
 have hf:=h.first
 rw [if_neg hc] at hf
 unfold kN
 rw [if_pos ⟨by rw [h.inb];exact h1,by rw [h.file,hb];exact h2,by rw [h.blocks,gS,hb];exact h3⟩,w9,nV,h.file,h.inb,h.blocks,hf]
 simp [cg,jr,bW]
theorem rF {l:List az} (hs:fS l) (hk:∀ e∈l,lQ e) (hn:l.length≤10000):∀ (r p:List az) (dn:List (List az)) (cur:List az) (s:Wr),l=p++r→p=dn.flatten++cur→CE l dn cur s →
 ∃ dn' cur' s',lG l p.length r s=some s'∧l=dn'.flatten++cur'∧CE l dn' cur' s'∧(l≠[]→cur'≠[]∨(r=[]∧cur'=cur))
 | [],p,dn,cur,s,hl,hp,h=>⟨dn,cur,s,rfl,by rw [hl,hp];simp,h,fun _=>.inr ⟨rfl,rfl⟩⟩
 | e::r,p,dn,cur,s,hl,hp,h=>by
  have he:e∈l:=by rw [hl];simp
  have hlen:dn.flatten.length+cur.length+(e::r).length=l.length:=by rw [hl,hp];simp only [List.length_append]
  simp only [List.length_cons] at hlen
  have hkd:∀ x∈dn.flatten,lQ x:=fun x hx=>hk x (by rw [hl,hp];simp only [List.mem_append];exact .inl (.inl hx))
  have hkc:∀ x∈cur,lQ x:=fun x hx=>hk x (by rw [hl,hp];simp only [List.mem_append];exact .inl (.inr hx))
  have hb1:=mh h.ne hkd
  have hb2:=kW hkc
  have hb3:=kt h.ne
  have hin:s.inb.length≤1048576:=by rw [h.inb];omega
  have keep:∀ (hk2:cur≠[]∨dn=[]) (hz2:Oq (cur++[e])),∃ dn' cur' s',lG l (p.length+1) r { s with inb:=s.inb++cY e }=some s'∧l=dn'.flatten++cur'∧CE l dn' cur' s'∧(l≠[]→cur'≠[]∨(e::r=[]∧cur'=cur)):=by
   intro hk2 hz2
   have hw:CE l dn (cur++[e]) { s with inb:=s.inb++cY e }:=by
    refine ⟨h.file,by simp [h.inb,e9],h.blocks,?_,h.ne,?_,fun c hc=>?_⟩
    ·rw [if_neg (by simp)]
     have hf:=h.first
     by_cases hc:cur=[]
     ·rw [if_pos hc] at hf
      show s.first=_
      rw [hf.2,hl,hp,hf.1,hc];rfl
     ·rw [if_neg hc] at hf
      show s.first=_
      rw [hf];cases cur with
      | nil=>exact absurd rfl hc
      | cons c r=>rfl
    ·have hsep:=h.sep
     rw [List.pairwise_append] at hsep ⊢
     refine ⟨hsep.1,by simp,fun a ha b hb x hx y hy=>?_⟩
     simp at hb;subst hb
     rcases List.mem_append.1 hy with hy|hy
     ·exact hsep.2.2 a ha cur (by simp) x hx y hy
     ·simp at hy;subst hy
      rcases hk2 with hk2|hk2
      ·obtain ⟨z,hz⟩:=List.exists_mem_of_ne_nil _ hk2
       have h1:=hsep.2.2 a ha cur (by simp) x hx z hz
       have h2:less z y=true:=by
        rw [hl,hp] at hs
        exact (List.pairwise_append.1 hs).2.2 z (by simp only [List.mem_append];exact .inr hz) y (by simp)
       rcases bQ.1 h2 with h3|h3
       ·exact dj h1 h3
       ·rw [← h3.1];exact h1
      ·rw [hk2] at ha;cases ha
    ·rcases List.mem_append.1 hc with hc|hc
     ·exact h.size c (List.mem_append_left _ hc)
     ·rw [List.mem_singleton.1 hc];exact hz2
   obtain ⟨dn',cur',s',h1,h2,h3,h4⟩:=rF hs hk hn r (p++[e]) dn (cur++[e]) _ (by rw [hl];simp) (by rw [hp];simp) hw
   rw [List.length_append,List.length_singleton] at h1
   refine ⟨dn',cur',s',h1,h2,h3,fun hne=>?_⟩
   rcases h4 hne with h4|⟨_,h4⟩
   ·exact .inl h4
   ·exact .inl (by rw [h4];simp)
  unfold lG stepW
  rw [if_pos ⟨hin,IE (hk e he)⟩]
  by_cases h300:300≤s.inb.length
  ·rw [if_pos h300]
   have hc:cur≠[]:=by intro hc;rw [h.inb,hc] at h300;simp at h300
   obtain ⟨z,hz⟩:∃ z,cur.getLast?=some z:=by
    cases hg:cur.getLast? with
    | none=>exact absurd (List.getLast?_eq_none_iff.1 hg) hc
    | some z=>exact ⟨z,rfl⟩
   have hzm:z∈cur:=List.mem_of_getLast? hz
   have hpz:p.getLast?=some z:=by rw [hp,List.getLast?_append,hz];rfl
   have hpl:0<p.length:=by rw [hp,List.length_append];have:=List.length_pos_iff.2 hc;omega
   have hlz:l[p.length-1]?=some z:=by
    rw [hl,List.getElem?_append_left (by omega),← List.getLast?_eq_getElem?,hpz]
   rw [hlz]
   dsimp only
   by_cases hkz:e.key=z.key
   ·rw [if_pos hkz]
    refine keep (.inl hc) ?_
    obtain ⟨a,b,e1,e2,e3⟩:=h.size cur (List.mem_append_right _ List.mem_cons_self)
    have hbn:b≠[]:=fun hb=>by rw [hb,List.append_nil] at e1;rw [h.inb,e1] at h300;omega
    have hzb:z∈b:=by
     rw [e1,List.getLast?_append] at hz
     cases hg:b.getLast? with
     | none=>exact absurd (List.getLast?_eq_none_iff.1 hg) hbn
     | some y=>rw [hg] at hz;cases hz;exact List.mem_of_getLast? hg
    refine ⟨a,b++[e],by rw [e1,List.append_assoc],e2,fun x hx y hy=>?_⟩
    have key:∀ x∈b++[e],x.key=z.key:=fun x hx=>by
     rcases List.mem_append.1 hx with hx|hx
     ·exact e3 x hx z hzb
     ·rw [List.mem_singleton.1 hx];exact hkz
    rw [key x hx,key y hy]
   ·rw [if_neg hkz,uN h bJ hc (by rw [← h.inb];exact hin) (by omega) (by omega)]
    dsimp only [Option.map_some,List.nil_append]
    have hzlt:aQ z.key e.key=true:=by
     have h2:less z e=true:=by
      rw [hl,hp] at hs
      exact (List.pairwise_append.1 hs).2.2 z (by simp only [List.mem_append];exact .inr hzm) e (by simp)
     rcases bQ.1 h2 with h3|h3
     ·exact h3
     ·exact absurd h3.1.symm hkz
    have hall:∀ x∈p,aQ x.key e.key=true:=by
     intro x hx
     obtain ⟨a,rfl⟩:∃ a,p=a++[z]:=by
      refine ⟨p.dropLast,?_⟩
      have hne:p≠[]:=by intro h';rw [h'] at hpl;simp at hpl
      rw [List.getLast?_eq_some_getLast hne] at hpz
      rw [← Option.some.inj hpz];exact (List.dropLast_concat_getLast hne).symm
     rcases List.mem_append.1 hx with hx|hx
     ·have h2:less x z=true:=by
       rw [hl,List.append_assoc] at hs
       exact (List.pairwise_append.1 hs).2.2 x hx z (by simp)
      rcases bQ.1 h2 with h3|h3
      ·exact dj h3 hzlt
      ·rw [h3.1];exact hzlt
     ·simp at hx;subst hx;exact hzlt
    have hw:CE l (dn++[cur]) [e] ⟨cg (dn++[cur]),cY e,e.key,bW 0 (dn++[cur])⟩:=by
     refine ⟨rfl,by simp [e9],rfl,by rw [if_neg (by simp)];rfl,?_,?_,fun c hc'=>?_⟩
     ·intro c hc'
      rcases List.mem_append.1 hc' with h'|h'
      ·exact h.ne c h'
      ·simp at h';subst h';exact hc
     ·rw [List.pairwise_append]
      refine ⟨h.sep,by simp,fun a ha b hb x hx y hy=>?_⟩
      simp at hb;subst hb;simp at hy;subst hy
      refine hall x ?_
      rw [hp]
      rcases List.mem_append.1 ha with ha|ha
      ·simp only [List.mem_append];exact .inl (List.mem_flatten.2 ⟨a,ha,hx⟩)
      ·simp at ha;subst ha;simp only [List.mem_append];exact .inr hx
     ·rcases List.mem_append.1 hc' with hc'|hc'
      ·exact h.size c hc'
      ·rw [List.mem_singleton.1 hc']
       exact ⟨[],[e],rfl,by simp,fun x hx y hy=>by rw [List.mem_singleton.1 hx,List.mem_singleton.1 hy]⟩
    obtain ⟨dn',cur',s',h1,h2,h3,h4⟩:=rF hs hk hn r (p++[e]) (dn++[cur]) [e] _ (by rw [hl];simp) (by rw [hp];simp) hw
    rw [List.length_append,List.length_singleton] at h1
    refine ⟨dn',cur',s',h1,h2,h3,fun hne=>?_⟩
    rcases h4 hne with h4|⟨_,h4⟩
    ·exact .inl h4
    ·exact .inl (by rw [h4];simp)
  ·rw [if_neg h300]
   refine keep ?_ ⟨cur,[e],rfl,by rw [← h.inb];omega,fun x hx y hy=>by rw [List.mem_singleton.1 hx,List.mem_singleton.1 hy]⟩
   by_cases hc:cur=[]
   ·have hf:=h.first;rw [if_pos hc] at hf;exact .inr hf.1
   ·exact .inl hc
theorem jL:∀ {cs:List (List az)} {a A:Nat},(∀ c∈cs,c≠[])→(∀ e∈cs.flatten,lQ e)→a+(cg cs).length≤A→∀ b∈bW a cs,b.1.length≤8∧b.2.1≤A∧b.2.2≤A
 | [],_,_,_,_,_,b,hb=>by cases hb
 | c::r,a,A,hn,h,hA,b,hb=>by
  simp only [cg,List.map_cons,List.flatten_cons,List.length_append] at hA
  rcases List.mem_cons.1 hb with rfl|hb
  ·refine ⟨?_,by dsimp only;omega,by dsimp only;omega⟩
   obtain ⟨e,r',rfl⟩:=List.exists_cons_of_ne_nil (hn c List.mem_cons_self)
   exact (h e (by simp)).key
  ·exact jL (cs:=r) (fun x hx=>hn x (List.mem_cons_of_mem _ hx)) (fun e he=>h e (by simp at he ⊢;exact .inr he)) (by simp only [cg];omega) b hb
theorem KC {l:List az} (hs:fS l) (hk:∀ e∈l,lQ e) (hn:l.length≤10000) (hne:l≠[]) :
 ∃ cs:List (List az),cs.flatten=l∧(∀ c∈cs,c≠[])∧cs.Pairwise vO∧(∀ c∈cs,Oq c)∧FM l=some (eU l cs,bW 0 cs):=by
 obtain ⟨e0,r0,rfl⟩:=List.exists_cons_of_ne_nil hne
 obtain ⟨z,hz⟩:∃ z,(e0::r0).getLast?=some z:=by
  cases hg:(e0::r0).getLast? with
  | none=>exact absurd (List.getLast?_eq_none_iff.1 hg) hne
  | some z=>exact ⟨z,rfl⟩
 have h0:CE (e0::r0) [] [] ⟨[],[],e0.key,[]⟩:=⟨rfl,rfl,rfl,by simp [dZ],by simp,by simp,fun c hc=>by rw [List.mem_singleton.1 hc];exact ⟨[],[],rfl,by simp,by simp⟩⟩
 obtain ⟨dn,cur,s,h1,h2,h3,h4⟩:=rF hs hk hn (e0::r0) [] [] [] _ rfl rfl h0
 have hc:cur≠[]:=by
  rcases h4 hne with h4|⟨h4,_⟩
  ·exact h4
  ·cases h4
 have hlen:dn.flatten.length+cur.length=(e0::r0).length:=by rw [h2];simp
 have hkd:∀ x∈dn.flatten,lQ x:=fun x hx=>hk x (by rw [h2];exact List.mem_append_left _ hx)
 have hkc:∀ x∈cur,lQ x:=fun x hx=>hk x (by rw [h2];exact List.mem_append_right _ hx)
 have hb1:=mh h3.ne hkd
 have hb2:=kW hkc
 have hb3:=kt h3.ne
 have hn1:∀ c∈dn++[cur],c≠[]:=fun c hc'=>by
  rcases List.mem_append.1 hc' with h'|h'
  ·exact h3.ne c h'
  ·simp at h';subst h';exact hc
 have hfl:(dn++[cur]).flatten=e0::r0:=by rw [h2];simp
 have hk1:∀ x∈(dn++[cur]).flatten,lQ x:=fun x hx=>hk x (by rw [← hfl];exact hx)
 have hb4:=mh hn1 hk1
 have hb5:=kt hn1
 rw [hfl] at hb4 hb5
 have hzk:z.key.length≤8:=(hk z (List.mem_of_getLast? hz)).key
 have hek:e0.key.length≤8:=(hk e0 List.mem_cons_self).key
 refine ⟨dn++[cur],hfl,hn1,h3.sep,h3.size,?_⟩
 have hlast:gl (e0::r0)=z.key:=by unfold gl;rw [hz]
 have hbl:=jL (a:=0) (A:=460000) hn1 hk1 (by omega)
 unfold FM
 rw [hz]
 dsimp only
 simp only [List.length_nil] at h1
 rw [h1,Option.bind_some,uN h3 bJ hc (by omega) (by omega) (by omega)]
 dsimp only
 rw [if_pos]
 ·unfold eU;rw [hlast];rfl
 ·refine ⟨by rw [bJ];omega,by rw [gS];omega,by omega,?_,by omega,by omega⟩
  refine List.all_eq_true.2 fun b hb=>?_
  obtain ⟨k1,k2,k3⟩:=hbl b hb
  simp only [Bool.and_eq_true,Nat.ble_eq,bJ]
  omega
theorem uO:∀ (c:List az) (f:Nat),(∀ e∈c,lQ e)→c.length≤f→eE f ⟨e9 c,false⟩=(c.map bG,false)
 | [],0,_,_=>rfl
 | [],f+1,_,_=>by unfold eE;simp [e9]
 | e::c,0,_,h=>by simp at h
 | e::c,f+1,hk,h=>by
  have he:e9 (e::c)=cY e++e9 c:=by simp [e9]
  unfold eE
  rw [he,if_pos ⟨HD e (e9 c) rfl,rfl⟩,wq (hk e List.mem_cons_self),uO c f (fun x hx=>hk x (List.mem_cons_of_mem _ hx)) (by simp at h;omega)]
  rfl
theorem Aq (c:List az):c.length≤(e9 c).length:=by
 induction c with
 | nil=>simp
 | cons e r ih=>
  have:=lS e
  simp only [e9,List.map_cons,List.flatten_cons,List.length_append,List.length_cons] at ih ⊢
  omega
theorem CF {nm bs:Bs} {c:List az} {rest:Bs} (h:bI bs=some (e9 c,rest)) (hb:bs.length≤1099511627776) (hk:∀ e∈c,lQ e):rp nm bs=some (.ok (c.map bG)):=by
 unfold rp
 rw [h]
 dsimp only
 rw [if_pos (by rw [bJ];exact hb),uO c _ hk (Aq c)]
 simp
theorem rG (a b c:Bs):fz (a++b++c) (a.length:Int) (b.length:Int)=b:=by
 have h1:(min (max (a.length:Int) 0) ((a++b++c).length:Int)).toNat=a.length:=by simp only [List.length_append];omega
 have h2:(min (max (b.length:Int) 0) (((a++b++c).length:Int)-min (max (a.length:Int) 0) ((a++b++c).length:Int))).toNat=b.length:=by simp only [List.length_append];omega
 unfold fz
 rw [h1,h2,List.append_assoc,List.drop_left,List.take_left]
theorem FX (A B:List (List az)) (c:List az) (a:Nat):(bW a (A++c::B))[A.length]?=some (dZ c,a+(cg A).length,(jr c).length):=by
 rw [nV,List.getElem?_append_right (by simp)]
 simp [bW]
end
end Go.Proofs.YtecibefflhomdaaGreatDoor
