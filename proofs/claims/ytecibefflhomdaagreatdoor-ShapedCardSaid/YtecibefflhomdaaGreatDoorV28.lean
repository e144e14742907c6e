/-
  Part 28: WALKS package levels; PLAIN the disk as files by their names; PLAIN a table's file out of entries.
-/
import Derived.Test.YtecibefflhomdaaGreatDoorV27
set_option maxHeartbeats 8000000
set_option maxRecDepth 100000
set_option linter.all false
namespace Go.Proofs.YtecibefflhomdaaGreatDoor
open Go
section
open Go.Proofs.YtecibefflhomdaaGreatDoor.Pure (ae aB Rd bH less aR aZ bL bC aF dj dec kj dU cG gR bc aV eg Sc I2 mo)
attribute [local irreducible] IntKind.wrap
abbrev KS (d:Nat) (o:nH) (cl:Bool) (br:Value) (mu:Int):SK:=⟨d,o,cl,br,.int .i32 mu⟩
def fy (b d:Nat) (o:nH) (cl:Bool) (be:Option cx) (s:St):ax:=fun h=>∃ br,cL [nM b (KS d o cl br 0) s,aH br be] h
def eW (cl:Bool) (be:Option cx):Option cx:=if cl=true then some (none,6) else be
variable {W0 w:World} {F:List ax} {v:Value} {b d m p:Nat} {o:nH} {cl:Bool} {be:Option cx} {s:St} {D D':ae}
theorem Sat.kp (h:Sat W0 (fy b d o cl be s::F) w):s.levels.length=4∧∃ br z,Sat W0 (blk b 133 (ak (KS d o cl br 0) z s)::aH br be::dE d z s.levels::aO z.m s.mem::aM aY z.sn (aA s.snaps)::F) w:=by
 obtain ⟨br,_,hs⟩:=h.e9 (φ:=fun _:Value=>True) (B:=fun br=>[nM b (KS d o cl br 0) s,aH br be]) fun hp ⟨br,k⟩=>⟨br,trivial,k⟩
 obtain ⟨hl,z,hs⟩:=hs.gB
 exact ⟨hl,br,z,hs.to⟩
theorem Sat.z8 {br:Value} (h:Sat W0 (nM b (KS d o cl br 0) s::aH br be::F) w):Sat W0 (fy b d o cl be s::F) w:=
 Sat.close (B:=[nM b (KS d o cl br 0) s,aH br be]) h fun hp k=>⟨br,k⟩
theorem Sat.dJ {br:Value} {z:SZ} (hl:s.levels.length=4) (h:Sat W0 (blk b 133 (ak (KS d o cl br 0) z s)::dE d z s.levels::aO z.m s.mem::aM aY z.sn (aA s.snaps)::aH br be::F) w):Sat W0 (fy b d o cl be s::F) w:=
 Sat.z8 (Sat.bM (K:=KS d o cl br 0) (z:=z) hl h)
def HG (cl:Bool) (be:Option cx) (s:St) (D:ae) (key:Bs):Out (Option Bs):=match eW cl be with
 | some e=>some (.error e,D)
 | none=>xl s D key aE
theorem HH {key:Bs} {x:Except cx (Option Bs)} (h:HG cl be s D key=some (x,D')) (hs:Sat W0 (fy b d o cl be s::aj d D::F) w) :
 Calls Tryz.prog 42 #[ay b,str key] w fun y w'=>∃ ve,y=.returned (.tuple #[str (MR x),.bool (P7 x),ve])∧Sat W0 (fy b d o cl be s::aj d D'::aH ve (cU x)::F) w':=by
 obtain ⟨hl,br,z,hs⟩:=hs.kp
 refine kn Tryz.func42 rfl Tryz.ntmps42 Tryz.results42 rfl ?_
 refine gx ?_
 refine iT hs ?_
 clear hs
 intro w hs
 have hs:Sat W0 (blk b 133 (ak (KS d o cl br 1) z s)::aH br be::dE d z s.levels::aO z.m s.mem::aM aY z.sn (aA s.snaps)::aj d D::F) w:=hs
 refine gx ?_
 refine gH rfl ?_
 refine gx ?_
 refine ag (met (fP (K:=KS d o cl br 1) (be:=be) hs) ?_)
 clear hs
 rintro _ w ⟨ve,rfl,hs⟩
 refine ⟨_,rfl,?_⟩
 have hb:tO (KS d o cl br 1) be=eW cl be:=rfl
 rw [hb] at hs
 unfold HG at h
 cases hbx:eW cl be with
 | some e=>
  rw [hbx] at h hs
  simp only [Option.some.injEq,Prod.mk.injEq] at h
  obtain ⟨rfl,rfl⟩:=h
  obtain ⟨t,u,rfl⟩:=hs.aQ
  refine gx ?_
  refine dp (.inl rfl) hs ?_
  clear hs
  intro w hs
  exact ⟨_,rfl,Sat.dJ (z:=z) hl hs.to⟩
 | none=>
  rw [hbx] at h hs
  have hve:=hs.cA
  subst hve
  refine gx ?_
  have hs:=Sat.bM (K:=KS d o cl br 1) (z:=z) hl (hs.to (a:=blk b 133 (ak (KS d o cl br 1) z s)::dE d z s.levels::aO z.m s.mem::aM aY z.sn (aA s.snaps)::aj d D::aH br be::F))
  refine ag (met (yn (K:=KS d o cl br 1) (seq:=aE) h hs) ?_)
  clear hs
  rintro _ w ⟨ve,rfl,hs⟩
  refine ⟨_,rfl,?_⟩
  obtain ⟨hl,z,hs⟩:=hs.gB
  refine gx ?_
  refine dp (.inl rfl) hs ?_
  clear hs
  intro w hs
  exact ⟨_,rfl,Sat.dJ (z:=z) hl hs.to⟩
def p9 (cl:Bool) (be:Option cx) (s:St) (D:ae) (lo hi:Bs) (limit:Int):Out (List (Bs×Bs)):=match eW cl be with
 | some e=>some (.error e,D)
 | none=>th s D lo hi limit aE
theorem ti {lo hi:Bs} {limit:Int} {x:Except cx (List (Bs×Bs))} (h:p9 cl be s D lo hi limit=some (x,D')) (hs:Sat W0 (fy b d o cl be s::aj d D::F) w) :
 Calls Tryz.prog 52 #[ay b,str lo,str hi,.int .i64 limit] w fun y w'=>∃ pv ve,y=.returned (.tuple #[pv,ve])∧Sat W0 (pD pv x::fy b d o cl be s::aj d D'::aH ve (cU x)::F) w':=by
 obtain ⟨hl,br,z,hs⟩:=hs.kp
 refine kn Tryz.func52 rfl Tryz.ntmps52 Tryz.results52 rfl ?_
 refine gx ?_
 refine iT hs ?_
 clear hs
 intro w hs
 have hs:Sat W0 (blk b 133 (ak (KS d o cl br 1) z s)::aH br be::dE d z s.levels::aO z.m s.mem::aM aY z.sn (aA s.snaps)::aj d D::F) w:=hs
 refine gx ?_
 refine gH rfl ?_
 refine gx ?_
 refine ag (met (fP (K:=KS d o cl br 1) (be:=be) hs) ?_)
 clear hs
 rintro _ w ⟨ve,rfl,hs⟩
 refine ⟨_,rfl,?_⟩
 have hb:tO (KS d o cl br 1) be=eW cl be:=rfl
 rw [hb] at hs
 unfold p9 at h
 cases hbx:eW cl be with
 | some e=>
  rw [hbx] at h hs
  simp only [Option.some.injEq,Prod.mk.injEq] at h
  obtain ⟨rfl,rfl⟩:=h
  obtain ⟨t,u,rfl⟩:=hs.aQ
  refine gx ?_
  refine dp (.inl rfl) hs ?_
  clear hs
  intro w hs
  refine ⟨_,_,rfl,?_⟩
  have hs:=Sat.dJ (z:=z) hl (hs.to (a:=blk b 133 (ak (KS d o cl br 0) z s)::dE d z s.levels::aO z.m s.mem::aM aY z.sn (aA s.snaps)::aH br be::aj d D::aH (.iface t u) (some e)::F))
  exact hs.imp fun hp r=>⟨fun _=>none,hp,fun _ _ _ hx=>(by cases hx),fun _ _ hx=>(by cases hx),Hp.le_refl _,rfl,r⟩
 | none=>
  rw [hbx] at h hs
  have hve:=hs.cA
  subst hve
  refine gx ?_
  have hs:=Sat.bM (K:=KS d o cl br 1) (z:=z) hl (hs.to (a:=blk b 133 (ak (KS d o cl br 1) z s)::dE d z s.levels::aO z.m s.mem::aM aY z.sn (aA s.snaps)::aj d D::aH br be::F))
  refine ag (met (vW (K:=KS d o cl br 1) (seq:=aE) h hs) ?_)
  clear hs
  rintro _ w ⟨pv,ve,rfl,hs⟩
  refine ⟨_,rfl,?_⟩
  obtain ⟨hl,z,hs⟩:=(hs.take (.there .here)).gB
  refine gx ?_
  refine dp (.inl rfl) hs ?_
  clear hs
  intro w hs
  refine ⟨_,_,rfl,?_⟩
  have hs:=Sat.dJ (z:=z) hl (hs.to (a:=blk b 133 (ak (KS d o cl br 0) z s)::dE d z s.levels::aO z.m s.mem::aM aY z.sn (aA s.snaps)::aH br be::pD pv x::aj d D'::aH ve (cU x)::F))
  exact hs.to
end
section
open Go.Proofs.YtecibefflhomdaaGreatDoor.Pure (ae aD cz dI fG cW gZ dh jJ iu di cB)
def file (D:ae) (n:Bs):Option Bs:=(aD D.now n).map D.aK
structure de (D D':ae):Prop where
 ok:D'.Ok
 room:D'.room=D.room
 bad:D'.bad≤D.bad
 fits:(D.used:Int)≤D.room→(D'.used:Int)≤D'.room
theorem de.refl {D:ae} (h:D.Ok):de D D:=⟨h,rfl,Int.le_refl _,id⟩
theorem de.trans {A B C:ae} (h:de A B) (k:de B C):de A C:=⟨k.ok,k.room.trans h.room,Int.le_trans k.bad h.bad,fun x=>k.fits (h.fits x)⟩
theorem lq (D:ae) (h:D.Ok):D.tick.bad≤D.bad:=by
 have:=h.bad0
 unfold ae.tick
 split
 ·exact Int.le_refl _
 ·split
  ·dsimp only;omega
  ·exact Int.le_refl _
theorem de.tick {D:ae} (h:D.Ok):de D D.tick:=⟨h.tick,Pure.ae.eL D,lq D h,by simp⟩
@[simp] theorem ja (D:ae) (n:Bs):file D.tick n=file D n:=by
 unfold file
 have:D.tick.aK=D.aK:=funext fun i=>Pure.ae.iY D i
 rw [Pure.ae.cX,this]
theorem sb {D:ae} (h:D.eh=true):0<D.bad:=by
 unfold ae.eh at h;simp at h;exact h.2
theorem o6 {D:ae} {n:Bs}:file D n=none↔aD D.now n=none:=by unfold file;simp
theorem mE (D:ae) (n:Bs):fileOf D n=(file D n).getD []:=by
 unfold fileOf file;cases aD D.now n<;>rfl
def qX (D:ae) (e:cx):Prop:=e.2=8∧0<D.bad
theorem qa {D:ae} {n:Bs} {e:cx} (h:bx D n=some e):qX D e∨(e=(some n,10)∧file D n=none):=by
 unfold bx at h
 split at h
 ·rename_i ht;cases h;exact .inl ⟨rfl,sb ht⟩
 ·split at h
  ·rename_i hg;cases h;exact .inr ⟨rfl,o6.2 hg⟩
  ·cases h
theorem lr {D:ae} {n:Bs} (h:bx D n=none):D.eh=false∧∃ i,aD D.now n=some i∧file D n=some (D.aK i):=by
 unfold bx at h
 split at h
 ·cases h
 ·rename_i ht
  split at h
  ·cases h
  ·rename_i i hg;exact ⟨by simpa using ht,i,hg,by simp [file,hg]⟩
theorem fe {D:ae} {n b:Bs} (hf:file D n=some b):bx D n=none∨∃ e,bx D n=some e∧qX D e:=by
 cases he:bx D n with
 | none=>exact .inl rfl
 | some e=>
  rcases qa he with h|⟨_,h⟩
  ·exact .inr ⟨e,rfl,h⟩
  ·rw [hf] at h;cases h
theorem sd {D:ae} (h:D.Ok) {n:Bs} (he:gA D n=none) :
 file D n=none∧(∀ m,file (cR D n) m=if m=n then some [] else file D m)∧(cR D n).used=D.used∧de D (cR D n)∧(cR D n).moves.length=D.moves.length+1:=by
 unfold gA at he
 split at he
 ·cases he
 ·rename_i ht
  split at he
  ·cases he
  ·rename_i hs
   have hn:aD D.now n=none:=by cases hg:aD D.now n with
    | none=>rfl
    | some i=>rw [hg] at hs;exact absurd rfl hs
   have hd:cR D n=D.tick.created n (fresh D.tick):=by unfold cR;rw [if_neg ht,if_neg hs]
   have hfr:=u5 D.tick
   have hn':aD D.tick.now n=none:=by rw [Pure.ae.cX];exact hn
   have hok:=h.tick.created hfr hn'
   have hu:(D.tick.created n (fresh D.tick)).used=D.used:=by
    unfold ae.used
    have e0:(D.tick.created n (fresh D.tick)).now=D.now++[(n,fresh D.tick)]:=by
     show fG D.tick.now _=_
     rw [Pure.ae.cX];exact Pure.zw hn _
    rw [e0,List.map_append,List.sum_append]
    have e1:D.now.map (fun p=>((D.tick.created n (fresh D.tick)).aK p.2).length)=D.now.map fun p=>(D.aK p.2).length:=by
     refine List.map_congr_left fun p hp=>?_
     have hne:p.2≠fresh D.tick:=fun hh=>by
      have:=h.now p hp
      rw [hh,← Pure.ae.ep,hfr] at this;cases this
     simp [ae.aK,ae.created,aD,hne]
    rw [e1];simp [ae.aK,ae.created,aD]
   rw [hd]
   refine ⟨o6.2 hn,fun m=>?_,hu,⟨hok,?_,?_,?_⟩,?_⟩
   ·unfold file
    show (aD (cz D.tick.now n (fresh D.tick)) m).map _=_
    rw [cW]
    by_cases hm:m=n
    ·subst hm;simp [ae.aK,ae.created,aD]
    ·simp only [hm,if_false,Pure.ae.cX]
     cases hg:aD D.now m with
     | none=>rfl
     | some j=>
      have hne:j≠fresh D.tick:=fun hh=>by
       have:=h.now _ (dh hg)
       rw [hh,← Pure.ae.ep,hfr] at this;cases this
      simp [ae.aK,ae.created,aD,hne]
   ·exact Pure.ae.eL D
   ·exact lq D h
   ·rw [hu];show _→_≤D.tick.room;rw [Pure.ae.eL];exact id
   ·show (D.tick.moves++[_]).length=_
    simp
theorem qb {D:ae} (h:D.Ok) {n:Bs} {e:cx} (he:gA D n=some e) :
 cR D n=D.tick∧(qX D e∨(e=(some n,11)∧file D n≠none)):=by
 unfold gA at he
 unfold cR
 split at he
 ·rename_i ht;cases he;rw [if_pos ht];exact ⟨rfl,.inl ⟨rfl,sb ht⟩⟩
 ·rename_i ht
  split at he
  ·rename_i hs;cases he;rw [if_neg ht,if_pos hs]
   refine ⟨rfl,.inr ⟨rfl,fun hh=>?_⟩⟩
   rw [o6.1 hh] at hs;cases hs
  ·cases he
theorem yo {D:ae} (h:D.Ok) {n:Bs} {i:Nat} (hi:aD D.now n=some i) (x:Bs×Nat) (m:Bs):file (D.laid i x) m=if m=n then some x.1 else file D m:=by
 unfold file
 show (aD D.now m).map _=_
 by_cases hm:m=n
 ·subst hm;rw [hi];simp [ae.aK,ae.laid,cW]
 ·rw [if_neg hm]
  cases hg:aD D.now m with
  | none=>rfl
  | some j=>
   have hne:j≠i:=fun hh=>hm ((Pure.ug h.names).1 h.ids m n j hg (hh▸hi))
   simp [ae.aK,ae.laid,cW,hne]
theorem se {D:ae} (h:D.Ok) {n bs:Bs} (he:dW D n bs=none) :
 ∃ b,file D n=some b∧(∀ m,file (cg D n bs) m=if m=n then some (b++bs) else file D m)∧(cg D n bs).used≤D.used+bs.length∧de D (cg D n bs)∧(cg D n bs).moves=D.moves∧(D.used:Int)+bs.length≤D.room:=by
 have hroom:bx D n=none∧(D.used:Int)+bs.length≤D.room:=by
  unfold dW at he
  split at he
  ·cases he
  ·rename_i hf
   split at he
   ·cases he
   ·exact ⟨hf,by omega⟩
 obtain ⟨hf,hr⟩:=hroom
 obtain ⟨_,i,hg,hfi⟩:=lr hf
 have ha:cg D n bs=D.tick.laid i (D.aK i++bs,mX D i):=by unfold cg;rw [he,hg]
 have hgt:aD D.tick.now n=some i:=by rw [Pure.ae.cX];exact hg
 have hu:=Pure.ae.kC (x:=(D.aK i++bs,mX D i)) (i:=i) (k:=bs.length) h.tick (by simp)
 rw [Pure.ae.mi] at hu
 have hr1:=h.room1
 have hok:(D.tick.laid i (D.aK i++bs,mX D i)).Ok:=h.tick.laid (by omega)
 refine ⟨_,hfi,fun m=>?_,?_,?_,?_,hr⟩
 ·rw [ha,yo h.tick hgt];simp
 ·rw [ha];exact hu
 ·rw [ha]
  refine ⟨hok,Pure.ae.eL D,lq D h,fun _=>?_⟩
  show _≤D.tick.room
  rw [Pure.ae.eL];omega
 ·rw [ha];exact Pure.ae.jK D
theorem qc {D:ae} (h:D.Ok) {n bs b:Bs} {e:cx} (he:dW D n bs=some e) (hf:file D n=some b) :
 cg D n bs=D.tick∧(qX D e∨(e.2=9∧D.room<(D.used:Int)+bs.length)):=by
 have hd:cg D n bs=D.tick:=by unfold cg;rw [he]
 refine ⟨hd,?_⟩
 unfold dW at he
 split at he
 ·rename_i e' he'
  cases he
  rcases qa he' with h1|⟨_,h1⟩
  ·exact .inl h1
  ·rw [hf] at h1;cases h1
 ·split at he
  ·cases he;exact .inr ⟨rfl,by omega⟩
  ·cases he
theorem qY {D:ae} (h:D.Ok) (n:Bs):(∀ m,file (gz D n) m=file D m)∧(gz D n).used≤D.used∧de D (gz D n)∧(gz D n).moves=D.moves:=by
 unfold gz hU
 cases hf:bx D n with
 | some e=>exact ⟨fun m=>ja D m,by simp,de.tick h,by simp⟩
 | none=>
  obtain ⟨_,i,hg,hfi⟩:=lr hf
  simp only [hg]
  have hgt:aD D.tick.now n=some i:=by rw [Pure.ae.cX];exact hg
  have hu:=Pure.ae.kC (x:=(D.aK i,(D.aK i).length)) (i:=i) (k:=0) h.tick (by simp)
  rw [Pure.ae.mi] at hu
  have hok:=h.tick.laid (i:=i) (x:=(D.aK i,(D.aK i).length)) (by have:=h.used;omega)
  refine ⟨fun m=>?_,hu,⟨hok,Pure.ae.eL D,lq D h,fun hh=>?_⟩,Pure.ae.jK D⟩
  ·rw [yo h.tick hgt,ja]
   by_cases hm:m=n
   ·subst hm;rw [if_pos rfl,hfi]
   ·rw [if_neg hm]
  ·show _≤D.tick.room
   rw [Pure.ae.eL];omega
theorem yp {D:ae} (h:D.Ok) {n:Bs} (he:bx D n=none) :
 (∀ m,file (fx D n) m=if m=n then none else file D m)∧(fx D n).used+(fileOf D n).length=D.used∧de D (fx D n)∧(fx D n).moves.length=D.moves.length+1:=by
 obtain ⟨_,i,hg,hfi⟩:=lr he
 have hd:fx D n=D.tick.fV n:=by unfold fx hU;rw [he,hg]
 have hu:=Pure.qw (fun i=>(D.aK i).length) D.now n
 rw [hg] at hu
 have e:(D.tick.fV n).used=((dI D.now n).map fun p=>(D.aK p.2).length).sum:=by
  unfold ae.used
  show ((dI D.tick.now n).map fun p=>(D.tick.aK p.2).length).sum=_
  rw [Pure.ae.cX];simp
 have hfo:fileOf D n=D.aK i:=by unfold fileOf;rw [hg]
 have hused:(D.tick.fV n).used+(fileOf D n).length=D.used:=by rw [e,hfo];exact hu
 rw [hd]
 refine ⟨fun m=>?_,hused,⟨h.tick.fV n,Pure.ae.eL D,lq D h,fun hh=>?_⟩,?_⟩
 ·unfold file
  show (aD (dI D.tick.now n) m).map D.tick.aK=_
  rw [Pure.ae.cX,gZ _ _ h.names]
  have:D.tick.aK=D.aK:=funext fun i=>Pure.ae.iY D i
  rw [this]
  split<;>rfl
 ·show _≤D.tick.room
  rw [Pure.ae.eL];omega
 ·show (D.tick.moves++[_]).length=_
  simp
theorem vX {D:ae} {n:Bs} {e:cx} (he:bx D n=some e):fx D n=D.tick:=by unfold fx hU;rw [he]
theorem HI {D:ae} (h:D.Ok) {a b:Bs} (hab:a≠b) (he:bx D a=none) :
 (∀ m,file (fW D a b) m=if m=a then none else if m=b then file D a else file D m)∧(fW D a b).used+(fileOf D b).length=D.used∧de D (fW D a b)∧(fW D a b).moves.length=D.moves.length+1:=by
 obtain ⟨_,i,hg,hfi⟩:=lr he
 have hd:fW D a b=D.tick.renamed a b i:=by unfold fW hU;rw [he,hg];simp [hab]
 have hgt:aD D.tick.now a=some i:=by rw [Pure.ae.cX];exact hg
 have h1:=Pure.zu (fun i=>(D.aK i).length) D.now b i
 have h2:=Pure.qw (fun i=>(D.aK i).length) (cz D.now b i) a
 have h3:aD (cz D.now b i) a=some i:=by rw [cW];simp [hab,hg]
 rw [h3] at h2
 have e:(D.tick.renamed a b i).used=((dI (cz D.now b i) a).map fun p=>(D.aK p.2).length).sum:=by
  unfold ae.used
  show ((dI (cz D.tick.now b i) a).map fun p=>(D.tick.aK p.2).length).sum=_
  rw [Pure.ae.cX];simp
 have hfo:(fileOf D b).length=Pure.opt (fun i=>(D.aK i).length) (aD D.now b):=by
  unfold fileOf;cases aD D.now b<;>rfl
 have hused:(D.tick.renamed a b i).used+(fileOf D b).length=D.used:=by
  rw [e,hfo]
  have h2':((dI (cz D.now b i) a).map fun p=>(D.aK p.2).length).sum+(D.aK i).length=((cz D.now b i).map fun p=>(D.aK p.2).length).sum:=h2
  unfold ae.used
  omega
 rw [hd]
 have hok:=h.tick.renamed hab hgt
 refine ⟨fun m=>?_,hused,⟨hok,Pure.ae.eL D,lq D h,fun hh=>?_⟩,?_⟩
 ·unfold file
  show (aD (dI (cz D.tick.now b i) a) m).map D.tick.aK=_
  have:D.tick.aK=D.aK:=funext fun i=>Pure.ae.iY D i
  rw [Pure.ae.cX,gZ _ _ (jJ h.names b i),cW,this]
  by_cases hma:m=a
  ·simp [hma]
  ·simp only [hma,if_false]
   by_cases hmb:m=b
   ·simp [hmb,hg]
   ·simp [hmb]
 ·show _≤D.tick.room
  rw [Pure.ae.eL];omega
 ·show (D.tick.moves++[_]).length=_
  simp
theorem Ew {D:ae} {a b:Bs} {e:cx} (he:bx D a=some e):fW D a b=D.tick:=by unfold fW hU;rw [he]
theorem BR {D:ae} (h:D.Ok):(∀ m,file (fj D) m=file D m)∧(fj D).used=D.used∧de D (fj D)∧(fj D).moves.length≤D.moves.length∧(D.eh=false→(fj D).moves=[]):=by
 unfold fj
 by_cases ht:D.eh=true
 ·rw [if_pos ht];exact ⟨fun m=>ja D m,by simp,de.tick h,by simp,fun hh=>by rw [ht] at hh;cases hh⟩
 ·rw [if_neg ht]
  have hd:∀ i,D.tick.synced.aK i=D.aK i:=fun i=>Pure.ae.iY D i
  have hu:D.tick.synced.used=D.used:=Pure.ae.mi D
  refine ⟨fun m=>ja D m,hu,⟨h.tick.synced,Pure.ae.eL D,lq D h,fun hh=>?_⟩,by simp [ae.synced],fun _=>rfl⟩
  show _≤D.tick.room
  rw [Pure.ae.eL,hu];exact hh
structure cK (D D':ae):Prop where
 later:de D D'
 file:∀ m,file D' m=file D m
 used:D'.used=D.used
 moves:D'.moves=D.moves
theorem cK.refl {D:ae} (h:D.Ok):cK D D:=⟨de.refl h,fun _=>rfl,rfl,rfl⟩
theorem cK.trans {A B C:ae} (h:cK A B) (k:cK B C):cK A C:=⟨h.later.trans k.later,fun m=>(k.file m).trans (h.file m),k.used.trans h.used,k.moves.trans h.moves⟩
theorem cK.tick {D:ae} (h:D.Ok):cK D D.tick:=⟨de.tick h,fun m=>ja D m,by simp,by simp⟩
theorem cK.counted {D:ae} (h:D.Ok) (n:Int):cK D (counted D n):=
 ⟨⟨⟨h.now,h.safe,h.moves,h.names,h.ids,h.room0,h.room1,h.wait0,h.wait1,h.bad0,h.bad1,h.used,h.short⟩,rfl,Int.le_refl _,id⟩,fun _=>rfl,rfl,rfl⟩
theorem cK.read {D:ae} (h:D.Ok) (n:Int):cK D (YtecibefflhomdaaGreatDoor.counted D n).tick:=(cK.counted h n).trans (cK.tick (cK.counted h n).later.ok)
theorem qX.before {D D':ae} {e:cx} (h:de D D') (k:qX D' e):qX D e:=⟨k.1,Int.lt_of_lt_of_le k.2 h.bad⟩
end
section
open Go.Proofs.YtecibefflhomdaaGreatDoor.Pure
def fz (c:List aB):Bs:=(c.map dj).flatten
def j9 (c:List aB):Bs:=aF (fz c)
def bZ:Nat→List (List aB)→List (Bs×Nat×Nat)
 | _,[]=>[]
 | a,c::r=>(dP c,a,(j9 c).length)::bZ (a+(j9 c).length) r
def cy (cs:List (List aB)):Bs:=(cs.map j9).flatten
abbrev tQ (a b:List aB):Prop:=∀ x∈a,∀ y∈b,aR x.key y.key=true
def fA (l:List aB) (cs:List (List aB)):Bs:=cy cs++aF (iP (dP l) (fJ l) l.length (bZ 0 cs))++aF (bL (cy cs).length 8)
@[simp] theorem Py:fz []=[]:=rfl
theorem HJ (a b:List aB):fz (a++b)=fz a++fz b:=by simp [fz]
theorem lu {c:List aB} (h:∀ e∈c,mj e):(fz c).length≤34*c.length:=by
 induction c with
 | nil=>simp
 | cons e r ih=>
  have h1:=FY (h e List.mem_cons_self)
  have h2:=ih fun x hx=>h x (List.mem_cons_of_mem _ hx)
  simp only [fz,List.map_cons,List.flatten_cons,List.length_append,List.length_cons] at h2 ⊢
  omega
theorem ox:∀ (A B:List (List aB)) (a:Nat),bZ a (A++B)=bZ a A++bZ (a+(cy A).length) B
 | [],B,a=>by simp [bZ,cy]
 | c::A,B,a=>by
  simp only [List.cons_append,bZ,ox A B]
  simp [cy,Nat.add_assoc]
@[simp] theorem ig:∀ (A:List (List aB)) (a:Nat),(bZ a A).length=A.length
 | [],_=>rfl
 | c::A,a=>by simp [bZ,ig A]
theorem yq (A B:List (List aB)):cy (A++B)=cy A++cy B:=by simp [cy]
theorem mF:∀ {cs:List (List aB)},(∀ c∈cs,c≠[])→(∀ e∈cs.flatten,mj e)→(cy cs).length≤46*cs.flatten.length
 | [],_,_=>by simp [cy]
 | c::r,hn,h=>by
  have h1:=lu (c:=c) fun e he=>h e (by simp [he])
  have h2:=mF (cs:=r) (fun x hx=>hn x (List.mem_cons_of_mem _ hx)) fun e he=>h e (by simp at he ⊢;exact .inr he)
  have h3:0<c.length:=List.length_pos_iff.2 (hn c List.mem_cons_self)
  simp only [cy,List.map_cons,List.flatten_cons,List.length_append,j9,bW] at h2 ⊢
  omega
theorem kH:∀ {cs:List (List aB)},(∀ c∈cs,c≠[])→cs.length≤cs.flatten.length
 | [],_=>Nat.le_refl _
 | c::r,hn=>by
  have h2:=kH (cs:=r) fun x hx=>hn x (List.mem_cons_of_mem _ hx)
  have h3:0<c.length:=List.length_pos_iff.2 (hn c List.mem_cons_self)
  simp only [List.flatten_cons,List.length_append,List.length_cons];omega
def QJ (c:List aB):Prop:=∃ a b,c=a++b∧(fz a).length<300∧∀ x∈b,∀ y∈b,x.key=y.key
structure Ex (l:List aB) (dn:List (List aB)) (cur:List aB) (s:Wr):Prop where
 file:s.file=cy dn
 inb:s.inb=fz cur
 blocks:s.blocks=bZ 0 dn
 first:if cur=[] then dn=[]∧s.first=dP l else s.first=dP cur
 ne:∀ c∈dn,c≠[]
 sep:(dn++[cur]).Pairwise tQ
 size:∀ c∈dn++[cur],QJ c
theorem KM {e:aB} (h:mj e):BF e=true:=by
 have h1:=h.key
 unfold BF
 cases hd:e.del with
 | true=>simp [Nat.ble_eq];omega
 | false=>have:=h.val hd;simp [Nat.ble_eq];omega
theorem vY {l:List aB} {dn:List (List aB)} {cur:List aB} {s:Wr} (h:Ex l dn cur s) (hb:iq=1099511627776) (hc:cur≠[]) (h1:(fz cur).length≤1048576) (h2:(cy dn).length≤1099511627776) (h3:dn.length≤1099511627776) :
 kZ s=some ⟨cy (dn++[cur]),[],s.first,bZ 0 (dn++[cur])⟩:=by
 have hf:=h.first
 rw [if_neg hc] at hf
 unfold kZ
 rw [if_pos ⟨by rw [h.inb];exact h1,by rw [h.file,hb];exact h2,by rw [h.blocks,ig,hb];exact h3⟩,yq,ox,h.file,h.inb,h.blocks,hf]
 simp [cy,j9,bZ]
theorem sg {l:List aB} (hs:gq l) (hk:∀ e∈l,mj e) (hn:l.length≤10000):∀ (r p:List aB) (dn:List (List aB)) (cur:List aB) (s:Wr),l=p++r→p=dn.flatten++cur→Ex l dn cur s →
 ∃ dn' cur' s',lU l p.length r s=some s'∧l=dn'.flatten++cur'∧Ex l dn' cur' s'∧(l≠[]→cur'≠[]∨(r=[]∧cur'=cur))
 | [],p,dn,cur,s,hl,hp,h=>⟨dn,cur,s,rfl,by rw [hl,hp];simp,h,fun _=>.inr ⟨rfl,rfl⟩⟩
 | e::r,p,dn,cur,s,hl,hp,h=>by
  have he:e∈l:=by rw [hl];simp
  have hlen:dn.flatten.length+cur.length+(e::r).length=l.length:=by rw [hl,hp];simp only [List.length_append]
  simp only [List.length_cons] at hlen
  have hkd:∀ x∈dn.flatten,mj x:=fun x hx=>hk x (by rw [hl,hp];simp only [List.mem_append];exact .inl (.inl hx))
  have hkc:∀ x∈cur,mj x:=fun x hx=>hk x (by rw [hl,hp];simp only [List.mem_append];exact .inl (.inr hx))
  have hb1:=mF h.ne hkd
  have hb2:=lu hkc
  have hb3:=kH h.ne
  have hin:s.inb.length≤1048576:=by rw [h.inb];omega
  have keep:∀ (hk2:cur≠[]∨dn=[]) (hz2:QJ (cur++[e])),∃ dn' cur' s',lU l (p.length+1) r { s with inb:=s.inb++dj e }=some s'∧l=dn'.flatten++cur'∧Ex l dn' cur' s'∧(l≠[]→cur'≠[]∨(e::r=[]∧cur'=cur)):=by
   intro hk2 hz2
   have hw:Ex l dn (cur++[e]) { s with inb:=s.inb++dj e }:=by
    refine ⟨h.file,by simp [h.inb,fz],h.blocks,?_,h.ne,?_,fun c hc=>?_⟩
    ·rw [if_neg (by simp)]
     have hf:=h.first
     by_cases hc:cur=[]
     ·rw [if_pos hc] at hf
      show s.first=_
      rw [hf.2,hl,hp,hf.1,hc];rfl
     ·rw [if_neg hc] at hf
      show s.first=_
      rw [hf];cases cur with
      | nil=>exact absurd rfl hc
      | cons c r=>rfl
    ·have hsep:=h.sep
     rw [List.pairwise_append] at hsep ⊢
     refine ⟨hsep.1,by simp,fun a ha b hb x hx y hy=>?_⟩
     simp at hb;subst hb
     rcases List.mem_append.1 hy with hy|hy
     ·exact hsep.2.2 a ha cur (by simp) x hx y hy
     ·simp at hy;subst hy
      rcases hk2 with hk2|hk2
      ·obtain ⟨z,hz⟩:=List.exists_mem_of_ne_nil _ hk2
       have h1:=hsep.2.2 a ha cur (by simp) x hx z hz
       have h2:less z y=true:=by
        rw [hl,hp] at hs
        exact (List.pairwise_append.1 hs).2.2 z (by simp only [List.mem_append];exact .inr hz) y (by simp)
       rcases bT.1 h2 with h3|h3
       ·exact dL h1 h3
       ·rw [← h3.1];exact h1
      ·rw [hk2] at ha;cases ha
    ·rcases List.mem_append.1 hc with hc|hc
     ·exact h.size c (List.mem_append_left _ hc)
     ·rw [List.mem_singleton.1 hc];exact hz2
   obtain ⟨dn',cur',s',h1,h2,h3,h4⟩:=sg hs hk hn r (p++[e]) dn (cur++[e]) _ (by rw [hl];simp) (by rw [hp];simp) hw
   rw [List.length_append,List.length_singleton] at h1
   refine ⟨dn',cur',s',h1,h2,h3,fun hne=>?_⟩
   rcases h4 hne with h4|⟨_,h4⟩
   ·exact .inl h4
   ·exact .inl (by rw [h4];simp)
  unfold lU stepW
  rw [if_pos ⟨hin,KM (hk e he)⟩]
  by_cases h300:300≤s.inb.length
  ·rw [if_pos h300]
   have hc:cur≠[]:=by intro hc;rw [h.inb,hc] at h300;simp at h300
   obtain ⟨z,hz⟩:∃ z,cur.getLast?=some z:=by
    cases hg:cur.getLast? with
    | none=>exact absurd (List.getLast?_eq_none_iff.1 hg) hc
    | some z=>exact ⟨z,rfl⟩
   have hzm:z∈cur:=List.mem_of_getLast? hz
   have hpz:p.getLast?=some z:=by rw [hp,List.getLast?_append,hz];rfl
   have hpl:0<p.length:=by rw [hp,List.length_append];have:=List.length_pos_iff.2 hc;omega
   have hlz:l[p.length-1]?=some z:=by
    rw [hl,List.getElem?_append_left (by omega),← List.getLast?_eq_getElem?,hpz]
   rw [hlz]
   dsimp only
   by_cases hkz:e.key=z.key
   ·rw [if_pos hkz]
    refine keep (.inl hc) ?_
    obtain ⟨a,b,e1,e2,e3⟩:=h.size cur (List.mem_append_right _ List.mem_cons_self)
    have hbn:b≠[]:=fun hb=>by rw [hb,List.append_nil] at e1;rw [h.inb,e1] at h300;omega
    have hzb:z∈b:=by
     rw [e1,List.getLast?_append] at hz
     cases hg:b.getLast? with
     | none=>exact absurd (List.getLast?_eq_none_iff.1 hg) hbn
     | some y=>rw [hg] at hz;cases hz;exact List.mem_of_getLast? hg
    refine ⟨a,b++[e],by rw [e1,List.append_assoc],e2,fun x hx y hy=>?_⟩
    have key:∀ x∈b++[e],x.key=z.key:=fun x hx=>by
     rcases List.mem_append.1 hx with hx|hx
     ·exact e3 x hx z hzb
     ·rw [List.mem_singleton.1 hx];exact hkz
    rw [key x hx,key y hy]
   ·rw [if_neg hkz,vY h bI hc (by rw [← h.inb];exact hin) (by omega) (by omega)]
    dsimp only [Option.map_some,List.nil_append]
    have hzlt:aR z.key e.key=true:=by
     have h2:less z e=true:=by
      rw [hl,hp] at hs
      exact (List.pairwise_append.1 hs).2.2 z (by simp only [List.mem_append];exact .inr hzm) e (by simp)
     rcases bT.1 h2 with h3|h3
     ·exact h3
     ·exact absurd h3.1.symm hkz
    have hall:∀ x∈p,aR x.key e.key=true:=by
     intro x hx
     obtain ⟨a,rfl⟩:∃ a,p=a++[z]:=by
      refine ⟨p.dropLast,?_⟩
      have hne:p≠[]:=by intro h';rw [h'] at hpl;simp at hpl
      rw [List.getLast?_eq_some_getLast hne] at hpz
      rw [← Option.some.inj hpz];exact (List.dropLast_concat_getLast hne).symm
     rcases List.mem_append.1 hx with hx|hx
     ·have h2:less x z=true:=by
       rw [hl,List.append_assoc] at hs
       exact (List.pairwise_append.1 hs).2.2 x hx z (by simp)
      rcases bT.1 h2 with h3|h3
      ·exact dL h3 hzlt
      ·rw [h3.1];exact hzlt
     ·simp at hx;subst hx;exact hzlt
    have hw:Ex l (dn++[cur]) [e] ⟨cy (dn++[cur]),dj e,e.key,bZ 0 (dn++[cur])⟩:=by
     refine ⟨rfl,by simp [fz],rfl,by rw [if_neg (by simp)];rfl,?_,?_,fun c hc'=>?_⟩
     ·intro c hc'
      rcases List.mem_append.1 hc' with h'|h'
      ·exact h.ne c h'
      ·simp at h';subst h';exact hc
     ·rw [List.pairwise_append]
      refine ⟨h.sep,by simp,fun a ha b hb x hx y hy=>?_⟩
      simp at hb;subst hb;simp at hy;subst hy
      refine hall x ?_
      rw [hp]
      rcases List.mem_append.1 ha with ha|ha
      ·simp only [List.mem_append];exact .inl (List.mem_flatten.2 ⟨a,ha,hx⟩)
      ·simp at ha;subst ha;simp only [List.mem_append];exact .inr hx
     ·rcases List.mem_append.1 hc' with hc'|hc'
      ·exact h.size c hc'
      ·rw [List.mem_singleton.1 hc']
       exact ⟨[],[e],rfl,by simp,fun x hx y hy=>by rw [List.mem_singleton.1 hx,List.mem_singleton.1 hy]⟩
    obtain ⟨dn',cur',s',h1,h2,h3,h4⟩:=sg hs hk hn r (p++[e]) (dn++[cur]) [e] _ (by rw [hl];simp) (by rw [hp];simp) hw
    rw [List.length_append,List.length_singleton] at h1
    refine ⟨dn',cur',s',h1,h2,h3,fun hne=>?_⟩
    rcases h4 hne with h4|⟨_,h4⟩
    ·exact .inl h4
    ·exact .inl (by rw [h4];simp)
  ·rw [if_neg h300]
   refine keep ?_ ⟨cur,[e],rfl,by rw [← h.inb];omega,fun x hx y hy=>by rw [List.mem_singleton.1 hx,List.mem_singleton.1 hy]⟩
   by_cases hc:cur=[]
   ·have hf:=h.first;rw [if_pos hc] at hf;exact .inr hf.1
   ·exact .inl hc
theorem jV:∀ {cs:List (List aB)} {a A:Nat},(∀ c∈cs,c≠[])→(∀ e∈cs.flatten,mj e)→a+(cy cs).length≤A→∀ b∈bZ a cs,b.1.length≤8∧b.2.1≤A∧b.2.2≤A
 | [],_,_,_,_,_,b,hb=>by cases hb
 | c::r,a,A,hn,h,hA,b,hb=>by
  simp only [cy,List.map_cons,List.flatten_cons,List.length_append] at hA
  rcases List.mem_cons.1 hb with rfl|hb
  ·refine ⟨?_,by dsimp only;omega,by dsimp only;omega⟩
   obtain ⟨e,r',rfl⟩:=List.exists_cons_of_ne_nil (hn c List.mem_cons_self)
   exact (h e (by simp)).key
  ·exact jV (cs:=r) (fun x hx=>hn x (List.mem_cons_of_mem _ hx)) (fun e he=>h e (by simp at he ⊢;exact .inr he)) (by simp only [cy];omega) b hb
theorem MS {l:List aB} (hs:gq l) (hk:∀ e∈l,mj e) (hn:l.length≤10000) (hne:l≠[]) :
 ∃ cs:List (List aB),cs.flatten=l∧(∀ c∈cs,c≠[])∧cs.Pairwise tQ∧(∀ c∈cs,QJ c)∧HA l=some (fA l cs,bZ 0 cs):=by
 obtain ⟨e0,r0,rfl⟩:=List.exists_cons_of_ne_nil hne
 obtain ⟨z,hz⟩:∃ z,(e0::r0).getLast?=some z:=by
  cases hg:(e0::r0).getLast? with
  | none=>exact absurd (List.getLast?_eq_none_iff.1 hg) hne
  | some z=>exact ⟨z,rfl⟩
 have h0:Ex (e0::r0) [] [] ⟨[],[],e0.key,[]⟩:=⟨rfl,rfl,rfl,by simp [dP],by simp,by simp,fun c hc=>by rw [List.mem_singleton.1 hc];exact ⟨[],[],rfl,by simp,by simp⟩⟩
 obtain ⟨dn,cur,s,h1,h2,h3,h4⟩:=sg hs hk hn (e0::r0) [] [] [] _ rfl rfl h0
 have hc:cur≠[]:=by
  rcases h4 hne with h4|⟨h4,_⟩
  ·exact h4
  ·cases h4
 have hlen:dn.flatten.length+cur.length=(e0::r0).length:=by rw [h2];simp
 have hkd:∀ x∈dn.flatten,mj x:=fun x hx=>hk x (by rw [h2];exact List.mem_append_left _ hx)
 have hkc:∀ x∈cur,mj x:=fun x hx=>hk x (by rw [h2];exact List.mem_append_right _ hx)
 have hb1:=mF h3.ne hkd
 have hb2:=lu hkc
 have hb3:=kH h3.ne
 have hn1:∀ c∈dn++[cur],c≠[]:=fun c hc'=>by
  rcases List.mem_append.1 hc' with h'|h'
  ·exact h3.ne c h'
  ·simp at h';subst h';exact hc
 have hfl:(dn++[cur]).flatten=e0::r0:=by rw [h2];simp
 have hk1:∀ x∈(dn++[cur]).flatten,mj x:=fun x hx=>hk x (by rw [← hfl];exact hx)
 have hb4:=mF hn1 hk1
 have hb5:=kH hn1
 rw [hfl] at hb4 hb5
 have hzk:z.key.length≤8:=(hk z (List.mem_of_getLast? hz)).key
 have hek:e0.key.length≤8:=(hk e0 List.mem_cons_self).key
 refine ⟨dn++[cur],hfl,hn1,h3.sep,h3.size,?_⟩
 have hlast:fJ (e0::r0)=z.key:=by unfold fJ;rw [hz]
 have hbl:=jV (a:=0) (A:=460000) hn1 hk1 (by omega)
 unfold HA
 rw [hz]
 dsimp only
 simp only [List.length_nil] at h1
 rw [h1,Option.bind_some,vY h3 bI hc (by omega) (by omega) (by omega)]
 dsimp only
 rw [if_pos]
 ·unfold fA;rw [hlast];rfl
 ·refine ⟨by rw [bI];omega,by rw [ig];omega,by omega,?_,by omega,by omega⟩
  refine List.all_eq_true.2 fun b hb=>?_
  obtain ⟨k1,k2,k3⟩:=hbl b hb
  simp only [Bool.and_eq_true,Nat.ble_eq,bI]
  omega
theorem vZ:∀ (c:List aB) (f:Nat),(∀ e∈c,mj e)→c.length≤f→eG f ⟨fz c,false⟩=(c.map bF,false)
 | [],0,_,_=>rfl
 | [],f+1,_,_=>by unfold eG;simp [fz]
 | e::c,0,_,h=>by simp at h
 | e::c,f+1,hk,h=>by
  have he:fz (e::c)=dj e++fz c:=by simp [fz]
  unfold eG
  rw [he,if_pos ⟨JI e (fz c) rfl,rfl⟩,xN (hk e List.mem_cons_self),vZ c f (fun x hx=>hk x (List.mem_cons_of_mem _ hx)) (by simp at h;omega)]
  rfl
theorem BS (c:List aB):c.length≤(fz c).length:=by
 induction c with
 | nil=>simp
 | cons e r ih=>
  have:=qx e
  simp only [fz,List.map_cons,List.flatten_cons,List.length_append,List.length_cons] at ih ⊢
  omega
theorem Ey {nm bs:Bs} {c:List aB} {rest:Bs} (h:bH bs=some (fz c,rest)) (hb:bs.length≤1099511627776) (hk:∀ e∈c,mj e):rZ nm bs=some (.ok (c.map bF)):=by
 unfold rZ
 rw [h]
 dsimp only
 rw [if_pos (by rw [bI];exact hb),vZ c _ hk (BS c)]
 simp
theorem si (a b c:Bs):fB (a++b++c) (a.length:Int) (b.length:Int)=b:=by
 have h1:(min (max (a.length:Int) 0) ((a++b++c).length:Int)).toNat=a.length:=by simp only [List.length_append];omega
 have h2:(min (max (b.length:Int) 0) (((a++b++c).length:Int)-min (max (a.length:Int) 0) ((a++b++c).length:Int))).toNat=b.length:=by simp only [List.length_append];omega
 unfold fB
 rw [h1,h2,List.append_assoc,List.drop_left,List.take_left]
theorem HL (A B:List (List aB)) (c:List aB) (a:Nat):(bZ a (A++c::B))[A.length]?=some (dP c,a+(cy A).length,(j9 c).length):=by
 rw [ox,List.getElem?_append_right (by simp)]
 simp [bZ]
end
end Go.Proofs.YtecibefflhomdaaGreatDoor
