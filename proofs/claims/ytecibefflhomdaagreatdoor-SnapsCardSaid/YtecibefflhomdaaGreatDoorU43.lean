/-
  Part 43: WALKS package levels; WALKS package levels; WALKS errors.
-/
import Derived.Test.YtecibefflhomdaaGreatDoorU29
import Derived.Test.YtecibefflhomdaaGreatDoorU39
set_option maxHeartbeats 8000000
set_option maxRecDepth 100000
set_option linter.all false
namespace Go.Proofs.YtecibefflhomdaaGreatDoor
open Go
section
open Go.Proofs.YtecibefflhomdaaGreatDoor.Pure (PDisk Ent Rd openB less bltB searchL numB textB frameB putB dec beN addL Chg chgE batchE numB_length valE Sc sc0 scanP aget aput adel)
attribute [local irreducible] IntKind.wrap
section
variable {κ:Type} [DecidableEq κ] (K:MKey κ)
theorem entsR_len {K:MKey κ}:∀ {es:List MapEntry} {kvs:List (κ×Value)},entsR K es kvs→es.length=kvs.length
 | [],[],_=>rfl
 | e::es,p::ps,⟨_,h⟩=>by simp [entsR_len h]
 | [],_::_,h=>h.elim
 | _::_,[],h=>h.elim
variable {ops:Array Oper} {Q:Exit→Act→World→Prop} {n:Nat} {ds:Md} {e:Env} {w w':World} {rest:List Oper}
variable {op:Op} {ty:TypeId} {pos:String} {af:Array Edge} {d b:Nat} {v u:Value} {W0:World} {l l' r r':List HProp} {kvs:List (κ×Value)}
attribute [local semireducible] WL WC WQ
theorem wl_mapLen {T elem:TypeId} {x:Operand} (hs:Sat W0 l w) (tk:Take (mapH K b kvs) l r) (hx:ev e x=some (.map (some b))) (hT:lk tMap T=some (K.ty,elem)) (hd:Nat.blt d n=true)
 (kk:WL ops Q n ds rest ((d,.int .i64 (kvs.length:Int))::e) w):WL ops Q n ds (⟨some d,.call { callee:=.builtin .len,args:=#[x],argTypes:=#[T] },ty,pos,af,none⟩::rest) e w:=by
 obtain ⟨es,clock,hb,he,_,_,_⟩:=(hs.take tk).mapOpen
 refine wl_run (fun a ha=>?_) hd kk
 have hl:=entsR_len he
 simp [execOp,resolve,invoke,Go.builtin,ha.ev hx,Builtin.len_,MapKept.run_getObj_map hb,hl,run_underlying (kMap_und hT)]
 rfl
end
theorem snapsV_get (l:List (Int×Nat)) (n:Int):aget (snapsV l) n=(aget l n).map uV:=aget_map uV l n
theorem snapsV_put:∀ (l:List (Int×Nat)) (n:Int) (q:Nat),aput (snapsV l) n (uV q)=snapsV (aput l n q)
 | [],_,_=>rfl
 | (k,u)::l,n,q=>by
  show aput ((k,uV u)::snapsV l) n (uV q)=_
  unfold aput
  by_cases h:n=k
  ·rw [if_pos h,if_pos h];rfl
  ·rw [if_neg h,if_neg h,snapsV_put l n q];rfl
theorem snapsV_del:∀ (l:List (Int×Nat)) (n:Int),adel (snapsV l) n=snapsV (adel l n)
 | [],_=>rfl
 | (k,u)::l,n=>by
  show adel ((k,uV u)::snapsV l) n=_
  unfold adel
  by_cases h:n=k
  ·rw [if_pos h,if_pos h]
  ·rw [if_neg h,if_neg h,snapsV_del l n];rfl
variable {W0 w:World} {F:List HProp} {v:Value} {b d m p:Nat} {o:Opt} {cl:Bool} {be:Option Err} {s:St} {D D':PDisk}
def atX (cl:Bool) (be:Option Err) (s:St) (n:Int):Except Err Nat:=match begX cl be with
 | some e=>.error e
 | none=>match aget s.snaps n with
  | none=>.error (none,5)
  | some q=>.ok q
def atQ:Except Err Nat→Nat
 | .ok q=>q
 | .error _=>0
theorem at_spec {br:Value} {mu:Int} {z:SZ} {n:Int} (hs:Sat W0 (blk b 133 (stCells (KS d o cl br mu) z s)::errC br be::mapH keyI z.sn (snapsV s.snaps)::F) w) :
 Calls Tryz.prog 136 #[idV b,.int .i64 n] w fun y w'=>∃ ve,y=.returned (.tuple #[uV (atQ (atX cl be s n)),ve])∧Sat W0 (errC ve (errX (atX cl be s n))::blk b 133 (stCells (KS d o cl br mu) z s)::errC br be::mapH keyI z.sn (snapsV s.snaps)::F) w':=by
 refine enter Tryz.func136 rfl Tryz.ntmps136 Tryz.results136 rfl ?_
 refine gx ?_
 refine w_call (met (begin_spec (K:=KS d o cl br mu) (be:=be) hs) ?_)
 clear hs
 rintro _ w ⟨ve,rfl,hs⟩
 refine ⟨_,rfl,?_⟩
 have hb:begE (KS d o cl br mu) be=begX cl be:=rfl
 rw [hb] at hs
 unfold atX
 cases hbx:begX cl be with
 | some e=>
  rw [hbx] at hs
  obtain ⟨t,u,rfl⟩:=hs.errIface
  refine gx ?_
  exact wq_ret rfl ⟨_,rfl,hs⟩
 | none=>
  rw [hbx] at hs
  have hve:=hs.errIs
  subst hve
  refine gx ?_
  refine wl_lookup2 keyI (k:=n) (z:=.int .u64 0) hs (.there (.there (.there .here))) rfl rfl rfl rfl rfl ?_
  rw [snapsV_get]
  cases hg:aget s.snaps n with
  | none=>
   refine gx ?_
   exact wq_ret rfl ⟨_,rfl,(Sat.errNum (k:=5) hs.drop)⟩
  | some q=>
   refine gx ?_
   exact wq_ret rfl ⟨_,rfl,hs⟩
def getAtP (cl:Bool) (be:Option Err) (s:St) (D:PDisk) (n:Int) (key:Bs):Out (Option Bs):=match atX cl be s n with
 | .error e=>some (.error e,D)
 | .ok q=>getG s D key q
theorem getAtP_spec {n:Int} {key:Bs} {x:Except Err (Option Bs)} (h:getAtP cl be s D n key=some (x,D')) (hs:Sat W0 (srC b d o cl be s::DiskA d D::F) w) :
 Calls Tryz.prog 132 #[idV b,.int .i64 n,str key] w fun y w'=>∃ ve,y=.returned (.tuple #[str (bsX x),.bool (isX x),ve])∧Sat W0 (srC b d o cl be s::DiskA d D'::errC ve (errX x)::F) w':=by
 obtain ⟨hl,br,z,hs⟩:=hs.srOpen
 refine enterD Tryz.func132 rfl Tryz.ntmps132 Tryz.results132 rfl ?_
 refine gx ?_
 refine wl_lock hs ?_
 clear hs
 intro w hs
 have hs:Sat W0 (blk b 133 (stCells (KS d o cl br 1) z s)::errC br be::lvS d z s.levels::memC z.m s.mem::mapH keyI z.sn (snapsV s.snaps)::DiskA d D::F) w:=hs
 refine gx ?_
 refine wl_defer rfl ?_
 refine gx ?_
 refine w_call (met (at_spec (be:=be) (n:=n) (hs.take3 .here .here (.there (.there .here)))) ?_)
 clear hs
 rintro _ w ⟨ve,rfl,hs⟩
 refine ⟨_,rfl,?_⟩
 unfold getAtP at h
 cases hax:atX cl be s n with
 | error e=>
  rw [hax] at h hs
  simp only [Option.some.injEq,Prod.mk.injEq] at h
  obtain ⟨rfl,rfl⟩:=h
  obtain ⟨t,u,rfl⟩:=hs.errIface
  refine gx ?_
  refine wq_retU (.inl rfl) hs ?_
  clear hs
  intro w hs
  exact ⟨_,rfl,Sat.srClose (z:=z) hl hs.to⟩
 | ok q=>
  rw [hax] at h hs
  have hve:=hs.errIs
  subst hve
  refine gx ?_
  have hs:=Sat.sdClose (K:=KS d o cl br 1) (z:=z) hl (hs.to (a:=blk b 133 (stCells (KS d o cl br 1) z s)::lvS d z s.levels::memC z.m s.mem::mapH keyI z.sn (snapsV s.snaps)::DiskA d D::errC br be::F))
  refine w_call (met (get_specI (K:=KS d o cl br 1) (seq:=q) h hs) ?_)
  clear hs
  rintro _ w ⟨ve,rfl,hs⟩
  refine ⟨_,rfl,?_⟩
  obtain ⟨hl,z,hs⟩:=hs.sdOpen
  refine gx ?_
  refine wq_retU (.inl rfl) hs ?_
  clear hs
  intro w hs
  exact ⟨_,rfl,Sat.srClose (z:=z) hl hs.to⟩
def scanAtP (cl:Bool) (be:Option Err) (s:St) (D:PDisk) (n:Int) (lo hi:Bs) (limit:Int):Out (List (Bs×Bs)):=match atX cl be s n with
 | .error e=>some (.error e,D)
 | .ok q=>scanG s D lo hi limit q
theorem scanAtP_spec {n:Int} {lo hi:Bs} {limit:Int} {x:Except Err (List (Bs×Bs))} (h:scanAtP cl be s D n lo hi limit=some (x,D')) (hs:Sat W0 (srC b d o cl be s::DiskA d D::F) w) :
 Calls Tryz.prog 134 #[idV b,.int .i64 n,str lo,str hi,.int .i64 limit] w fun y w'=>∃ pv ve,y=.returned (.tuple #[pv,ve])∧Sat W0 (pairX pv x::srC b d o cl be s::DiskA d D'::errC ve (errX x)::F) w':=by
 obtain ⟨hl,br,z,hs⟩:=hs.srOpen
 refine enterD Tryz.func134 rfl Tryz.ntmps134 Tryz.results134 rfl ?_
 refine gx ?_
 refine wl_lock hs ?_
 clear hs
 intro w hs
 have hs:Sat W0 (blk b 133 (stCells (KS d o cl br 1) z s)::errC br be::lvS d z s.levels::memC z.m s.mem::mapH keyI z.sn (snapsV s.snaps)::DiskA d D::F) w:=hs
 refine gx ?_
 refine wl_defer rfl ?_
 refine gx ?_
 refine w_call (met (at_spec (be:=be) (n:=n) (hs.take3 .here .here (.there (.there .here)))) ?_)
 clear hs
 rintro _ w ⟨ve,rfl,hs⟩
 refine ⟨_,rfl,?_⟩
 unfold scanAtP at h
 cases hax:atX cl be s n with
 | error e=>
  rw [hax] at h hs
  simp only [Option.some.injEq,Prod.mk.injEq] at h
  obtain ⟨rfl,rfl⟩:=h
  obtain ⟨t,u,rfl⟩:=hs.errIface
  refine gx ?_
  refine wq_retU (.inl rfl) hs ?_
  clear hs
  intro w hs
  refine ⟨_,_,rfl,?_⟩
  have hs:=Sat.srClose (z:=z) hl (hs.to (a:=blk b 133 (stCells (KS d o cl br 0) z s)::lvS d z s.levels::memC z.m s.mem::mapH keyI z.sn (snapsV s.snaps)::errC br be::DiskA d D::errC (.iface t u) (some e)::F))
  exact hs.imp fun hp r=>⟨fun _=>none,hp,fun _ _ _ hx=>(by cases hx),fun _ _ hx=>(by cases hx),Hp.le_refl _,rfl,r⟩
 | ok q=>
  rw [hax] at h hs
  have hve:=hs.errIs
  subst hve
  refine gx ?_
  have hs:=Sat.sdClose (K:=KS d o cl br 1) (z:=z) hl (hs.to (a:=blk b 133 (stCells (KS d o cl br 1) z s)::lvS d z s.levels::memC z.m s.mem::mapH keyI z.sn (snapsV s.snaps)::DiskA d D::errC br be::F))
  refine w_call (met (scan_specI (K:=KS d o cl br 1) (seq:=q) h hs) ?_)
  clear hs
  rintro _ w ⟨pv,ve,rfl,hs⟩
  refine ⟨_,rfl,?_⟩
  obtain ⟨hl,z,hs⟩:=(hs.take (.there .here)).sdOpen
  refine gx ?_
  refine wq_retU (.inl rfl) hs ?_
  clear hs
  intro w hs
  refine ⟨_,_,rfl,?_⟩
  have hs:=Sat.srClose (z:=z) hl (hs.to (a:=blk b 133 (stCells (KS d o cl br 0) z s)::lvS d z s.levels::memC z.m s.mem::mapH keyI z.sn (snapsV s.snaps)::errC br be::pairX pv x::DiskA d D'::errC ve (errX x)::F))
  exact hs.to
def relP (cl:Bool) (be:Option Err) (s:St) (n:Int):Option Err×St:=match atX cl be s n with
 | .error e=>(some e,s)
 | .ok _=>(none,{ s with snaps:=adel s.snaps n })
theorem relP_spec {n:Int} (hs:Sat W0 (srC b d o cl be s::DiskA d D::F) w) :
 Calls Tryz.prog 73 #[idV b,.int .i64 n] w fun y w'=>∃ ve,y=.returned ve∧Sat W0 (srC b d o cl be (relP cl be s n).2::DiskA d D::errC ve (relP cl be s n).1::F) w':=by
 obtain ⟨hl,br,z,hs⟩:=hs.srOpen
 refine enterD Tryz.func73 rfl Tryz.ntmps73 Tryz.results73 rfl ?_
 refine gx ?_
 refine wl_lock hs ?_
 clear hs
 intro w hs
 have hs:Sat W0 (blk b 133 (stCells (KS d o cl br 1) z s)::errC br be::lvS d z s.levels::memC z.m s.mem::mapH keyI z.sn (snapsV s.snaps)::DiskA d D::F) w:=hs
 refine gx ?_
 refine wl_defer rfl ?_
 refine gx ?_
 refine w_call (met (at_spec (be:=be) (n:=n) (hs.take3 .here .here (.there (.there .here)))) ?_)
 clear hs
 rintro _ w ⟨ve,rfl,hs⟩
 refine ⟨_,rfl,?_⟩
 unfold relP
 cases hax:atX cl be s n with
 | error e=>
  rw [hax] at hs
  obtain ⟨t,u,rfl⟩:=hs.errIface
  refine gx ?_
  refine wq_retU (.inl rfl) hs ?_
  clear hs
  intro w hs
  exact ⟨_,rfl,Sat.srClose (z:=z) hl hs.to⟩
 | ok q=>
  rw [hax] at hs
  have hve:=hs.errIs
  subst hve
  refine gx ?_
  refine wl_delete keyI (k:=n) hs (.there (.there (.there .here))) rfl rfl rfl ?_
  clear hs
  intro w hs
  rw [snapsV_del] at hs
  refine gx ?_
  refine wq_retU (.inl rfl) hs ?_
  clear hs
  intro w hs
  exact ⟨_,rfl,Sat.srClose (s:={ s with snaps:=adel s.snaps n }) (z:=z) hl hs.to⟩
def snapP (cl:Bool) (be:Option Err) (s:St):Except Err St:=match begX cl be with
 | some e=>.error e
 | none=>if s.snaps.length=4 then .error (none,2) else .ok { s with snap:=s.snap+1,snaps:=aput s.snaps ((s.snap+1:Nat):Int) s.seq }
def snapS (s:St):Except Err St→St
 | .ok s'=>s'
 | .error _=>s
def snapN:Except Err St→Nat
 | .ok s'=>s'.snap
 | .error _=>0
theorem snapP_spec (hsn:s.snap≤4611686018427387904) (hs:Sat W0 (srC b d o cl be s::DiskA d D::F) w) :
 Calls Tryz.prog 71 #[idV b] w fun y w'=>∃ ve,y=.returned (.tuple #[.int .i64 (snapN (snapP cl be s):Int),ve])∧Sat W0 (srC b d o cl be (snapS s (snapP cl be s))::DiskA d D::errC ve (errX (snapP cl be s))::F) w':=by
 obtain ⟨hl,br,z,hs⟩:=hs.srOpen
 refine enterD Tryz.func71 rfl Tryz.ntmps71 Tryz.results71 rfl ?_
 refine gx ?_
 refine wl_lock hs ?_
 clear hs
 intro w hs
 have hs:Sat W0 (blk b 133 (stCells (KS d o cl br 1) z s)::errC br be::lvS d z s.levels::memC z.m s.mem::mapH keyI z.sn (snapsV s.snaps)::DiskA d D::F) w:=hs
 refine gx ?_
 refine wl_defer rfl ?_
 refine gx ?_
 refine w_call (met (begin_spec (K:=KS d o cl br 1) (be:=be) hs) ?_)
 clear hs
 rintro _ w ⟨ve,rfl,hs⟩
 refine ⟨_,rfl,?_⟩
 have hb:begE (KS d o cl br 1) be=begX cl be:=rfl
 rw [hb] at hs
 unfold snapP
 cases hbx:begX cl be with
 | some e=>
  rw [hbx] at hs
  obtain ⟨t,u,rfl⟩:=hs.errIface
  refine gx ?_
  refine wq_retU (.inl rfl) hs ?_
  clear hs
  intro w hs
  exact ⟨_,rfl,Sat.srClose (z:=z) hl hs.to⟩
 | none=>
  rw [hbx] at hs
  have hve:=hs.errIs
  subst hve
  refine gx ?_
  refine wl_mapLen keyI hs (.there (.there (.there (.there (.there .here))))) rfl rfl rfl ?_
  have hlen:(snapsV s.snaps).length=s.snaps.length:=List.length_map _
  rw [hlen]
  by_cases h4:s.snaps.length=4
  ·have h4':((s.snaps.length:Nat):Int)=4:=by omega
   dsimp only
   rw [if_pos h4]
   refine gx ?_
   have hs:=Sat.errNum (k:=2) hs.drop
   refine wq_retU (.inl rfl) hs ?_
   clear hs
   intro w hs
   exact ⟨_,rfl,Sat.srClose (z:=z) hl hs.to⟩
  ·have h4':¬ ((s.snaps.length:Nat):Int)=4:=by omega
   dsimp only
   rw [if_neg h4]
   refine gx ?_
   refine w_st hs ?_
   clear hs
   intro w hs
   have hs:Sat W0 (errC .nilIface none::blk b 133 (stCells (KS d o cl br 1) z { s with snap:=s.snap+1 })::errC br be::lvS d z s.levels::memC z.m s.mem::mapH keyI z.sn (snapsV s.snaps)::DiskA d D::F) w:=hs
   refine gx ?_
   refine wc_draw [blk b 133 (stCells (KS d o cl br 1) z { s with snap:=s.snap+1 })] [(0,false),(1,false),(2,false),(3,false),(4,false),(5,false),(6,false),(7,false),(8,false),(9,false),(10,false),(11,false),(12,true)] hs (by kernel_rfl) ?_
   clear hs
   intro w hs
   refine gx ?_
   refine wl_mapUpdate keyI (k:=((s.snap+1:Nat):Int)) (v:=uV s.seq) hs (by repeat (first|exact Repl.here|apply Repl.there)) rfl rfl rfl rfl ?_
   clear hs
   intro w hs
   rw [snapsV_put] at hs
   refine gx ?_
   refine wq_retU (.inl rfl) hs ?_
   clear hs
   intro w hs
   exact ⟨_,rfl,Sat.srClose (s:={ s with snap:=s.snap+1,snaps:=aput s.snaps ((s.snap+1:Nat):Int) s.seq }) (z:=z) hl hs.to⟩
end
section
open Go.Proofs.YtecibefflhomdaaGreatDoor.Pure (PDisk Ent Rd openB less bltB searchL numB textB frameB putB dec beN addL Chg chgE batchE numB_length valE Sc sc0 scanP aget aput adel)
attribute [local irreducible] IntKind.wrap
variable {W0 w:World} {F:List HProp} {v:Value} {b d m p:Nat} {o:Opt} {cl:Bool} {be:Option Err} {s:St} {D D':PDisk}
def closeP (cl:Bool) (be:Option Err) (s:St) (D:PDisk):Option Err×PDisk:=match begX cl be with
 | some e=>(some e,D)
 | none=>(findE D s.log,syncD D s.log)
theorem closeP_spec (hs:Sat W0 (srC b d o cl be s::DiskA d D::F) w) :
 Calls Tryz.prog 44 #[idV b] w fun y w'=>∃ ve,y=.returned ve∧Sat W0 (srC b d o true be s::DiskA d (closeP cl be s D).2::errC ve (closeP cl be s D).1::F) w':=by
 obtain ⟨hl,br,z,hs⟩:=hs.srOpen
 refine enterD Tryz.func44 rfl Tryz.ntmps44 Tryz.results44 rfl ?_
 refine gx ?_
 refine wl_lock hs ?_
 clear hs
 intro w hs
 have hs:Sat W0 (blk b 133 (stCells (KS d o cl br 1) z s)::errC br be::lvS d z s.levels::memC z.m s.mem::mapH keyI z.sn (snapsV s.snaps)::DiskA d D::F) w:=hs
 refine gx ?_
 refine wl_defer rfl ?_
 refine gx ?_
 refine w_call (met (begin_spec (K:=KS d o cl br 1) (be:=be) hs) ?_)
 clear hs
 rintro _ w ⟨ve,rfl,hs⟩
 refine ⟨_,rfl,?_⟩
 have hb:begE (KS d o cl br 1) be=begX cl be:=rfl
 rw [hb] at hs
 unfold closeP
 refine gxs ?_
 refine wq_then rfl ?_
 refine gx ?_
 refine w_st hs ?_
 clear hs
 intro w hs
 have hs:Sat W0 (errC ve (begX cl be)::blk b 133 (stCells (KS d o true br 1) z s)::errC br be::lvS d z s.levels::memC z.m s.mem::mapH keyI z.sn (snapsV s.snaps)::DiskA d D::F) w:=hs
 cases hbx:begX cl be with
 | some e=>
  rw [hbx] at hs
  obtain ⟨t,u,rfl⟩:=hs.errIface
  refine gx ?_
  refine wq_retU (.inl rfl) hs ?_
  clear hs
  intro w hs
  exact ⟨_,rfl,Sat.srClose (z:=z) hl hs.to⟩
 | none=>
  rw [hbx] at hs
  have hve:=hs.errIs
  subst hve
  refine gx ?_
  refine wc_draw [blk b 133 (stCells (KS d o true br 1) z s)] [(0,false),(1,false),(2,false),(3,false),(4,false),(5,false),(6,false),(7,false),(8,true),(9,false)] hs (by kernel_rfl) ?_
  clear hs
  intro w hs
  refine gx ?_
  refine w_call (met (sync_a (n:=s.log) (F:=blk b 133 (stCells (KS d o true br 1) z s)::errC br be::lvS d z s.levels::memC z.m s.mem::mapH keyI z.sn (snapsV s.snaps)::F) hs.to) ?_)
  clear hs
  rintro _ w ⟨ve,rfl,hs⟩
  refine ⟨_,rfl,?_⟩
  refine gx ?_
  refine wq_retU (.inl rfl) hs ?_
  clear hs
  intro w hs
  exact ⟨_,rfl,Sat.srClose (z:=z) hl hs.to⟩
def srX (b d:Nat) (o:Opt) (cl:Bool):Except Err St→HProp
 | .ok s=>srC b d o cl none s
 | .error e=>fun h=>∃ s,srC b d o cl (some e) s h
theorem Sat.stXOpen {K:SK} {x:Except Err St} (h:Sat W0 (stX b K x::F) w):∃ s',(∀ r,x=.ok r→s'=r)∧Sat W0 (stD b K s'::F) w:=by
 cases x with
 | ok r=>exact ⟨r,fun _ hh=>(Except.ok.inj hh),h⟩
 | error e=>
  obtain ⟨s',_,hs⟩:=h.open1 (φ:=fun _:St=>True) (B:=fun s'=>[stD b K s']) fun hp ⟨s',k⟩=>⟨s',trivial,hp,fun _=>none,fun _ _ _ _ hy=>(by cases hy),Hp.le_refl _,fun _ _ hx=>(by cases hx),k,trivial⟩
  exact ⟨s',fun _ hh=>(by cases hh),hs⟩
theorem Sat.srXShut {x:Except Err St} {s':St} {br:Value} (hx:∀ r,x=.ok r→s'=r) (h:Sat W0 (stD b (KS d o cl br 0) s'::errC br (errX x)::F) w):Sat W0 (srX b d o cl x::F) w:=by
 cases x with
 | ok r=>
  obtain rfl:=hx r rfl
  exact Sat.srShut h
 | error e=>exact (Sat.srShut h).head fun _ k=>⟨s',k⟩
theorem compP_refused {e:Err} (h:begX cl be=some e) (hs:Sat W0 (srC b d o cl be s::DiskA d D::F) w) :
 Calls Tryz.prog 75 #[idV b] w fun y w'=>∃ ve,y=.returned ve∧Sat W0 (srC b d o cl be s::DiskA d D::errC ve (some e)::F) w':=by
 obtain ⟨hl,br,z,hs⟩:=hs.srOpen
 refine enterD Tryz.func75 rfl Tryz.ntmps75 Tryz.results75 rfl ?_
 refine gx ?_
 refine wl_lock hs ?_
 clear hs
 intro w hs
 have hs:Sat W0 (blk b 133 (stCells (KS d o cl br 1) z s)::errC br be::lvS d z s.levels::memC z.m s.mem::mapH keyI z.sn (snapsV s.snaps)::DiskA d D::F) w:=hs
 refine gx ?_
 refine wl_defer rfl ?_
 refine gx ?_
 refine w_call (met (begin_spec (K:=KS d o cl br 1) (be:=be) hs) ?_)
 clear hs
 rintro _ w ⟨ve,rfl,hs⟩
 refine ⟨_,rfl,?_⟩
 have hb:begE (KS d o cl br 1) be=begX cl be:=rfl
 rw [hb] at hs
 rw [h] at hs
 obtain ⟨t,u,rfl⟩:=hs.errIface
 refine gx ?_
 refine wq_retU (.inl rfl) hs ?_
 clear hs
 intro w hs
 exact ⟨_,rfl,Sat.srClose (z:=z) hl hs.to⟩
theorem Sat.errDup {o':Option Err} (h:Sat W0 (errC v o'::F) w):Sat W0 (errC v o'::errC v o'::F) w:=Sat.shDup (shd_errC v o') h
theorem Sat.errOne {o':Option Err} (h:Sat W0 (errC v o'::F) w):isOne v=true:=by
 cases o' with
 | none=>rw [h.errIs];rfl
 | some e=>obtain ⟨t,u,rfl⟩:=h.errIface;rfl
theorem compP_spec {x:Except Err St} (hg:begX cl be=none) (h:compactS o s D=some (x,D')) (hW:PowW W0) (hs:Sat W0 (srC b d o cl be s::DiskA d D::F) w) :
 Calls Tryz.prog 75 #[idV b] w fun y w'=>∃ ve,y=.returned ve∧Sat W0 (srX b d o cl x::DiskA d D'::errC ve (errX x)::F) w':=by
 obtain ⟨hl,br,z,hs⟩:=hs.srOpen
 refine enterD Tryz.func75 rfl Tryz.ntmps75 Tryz.results75 rfl ?_
 refine gx ?_
 refine wl_lock hs ?_
 clear hs
 intro w hs
 have hs:Sat W0 (blk b 133 (stCells (KS d o cl br 1) z s)::errC br be::lvS d z s.levels::memC z.m s.mem::mapH keyI z.sn (snapsV s.snaps)::DiskA d D::F) w:=hs
 refine gx ?_
 refine wl_defer rfl ?_
 refine gx ?_
 refine w_call (met (begin_spec (K:=KS d o cl br 1) (be:=be) hs) ?_)
 clear hs
 rintro _ w ⟨ve,rfl,hs⟩
 refine ⟨_,rfl,?_⟩
 have hb:begE (KS d o cl br 1) be=begX cl be:=rfl
 rw [hb] at hs
 rw [hg] at hs
 have hve:=hs.errIs
 subst hve
 refine gx ?_
 have hs:=Sat.sdClose (K:=KS d o cl br 1) (z:=z) hl (hs.to (a:=blk b 133 (stCells (KS d o cl br 1) z s)::lvS d z s.levels::memC z.m s.mem::mapH keyI z.sn (snapsV s.snaps)::DiskA d D::F))
 refine w_call (met (compact_spec (K:=KS d o cl br 1) h hW hs) ?_)
 clear hs
 rintro _ w ⟨ve,rfl,hs⟩
 refine ⟨_,rfl,?_⟩
 obtain ⟨s',hs',hs⟩:=hs.stXOpen
 obtain ⟨hl',z',hs⟩:=hs.sdOpen
 have h1:=Sat.errOne (hs.take (.there (.there (.there (.there (.there .here))))))
 refine gx ?_
 refine w_st hs (h1:=h1) ?_
 clear hs
 intro w hs
 have hs:Sat W0 (blk b 133 (stCells (KS d o cl ve 1) z' s')::lvS d z' s'.levels::memC z'.m s'.mem::mapH keyI z'.sn (snapsV s'.snaps)::DiskA d D'::errC ve (errX x)::F) w:=hs
 refine gx ?_
 refine wq_retU (.inl rfl) hs ?_
 clear hs
 intro w hs
 refine ⟨_,rfl,?_⟩
 have hs:=Sat.errDup (hs.take (.there (.there (.there (.there (.there .here))))))
 have hs:=Sat.sdClose (K:=KS d o cl ve 0) (s:=s') (z:=z') hl' (hs.to (a:=blk b 133 (stCells (KS d o cl ve 0) z' s')::lvS d z' s'.levels::memC z'.m s'.mem::mapH keyI z'.sn (snapsV s'.snaps)::errC ve (errX x)::DiskA d D'::errC ve (errX x)::F))
 exact Sat.srXShut hs' hs
def chkL:List Chg→Option Err
 | []=>none
 | c::r=>if c.key.length=0∨8<c.key.length then some (none,3) else if c.del=false∧16<c.val.length then some (none,4) else chkL r
def refW (cl:Bool) (be:Option Err) (l:List Chg):Option Err:=match begX cl be with
 | some e=>some e
 | none=>if 8<l.length then some (none,2) else chkL l
theorem chkL_ok:∀ {l:List Chg},chkL l=none→∀ c∈l,(c.key.length≠0∧c.key.length≤8)∧(c.del=false→c.val.length≤16)
 | [],_,c,hc=>by cases hc
 | x::r,h,c,hc=>by
  unfold chkL at h
  split at h
  ·cases h
  ·rename_i h1
   split at h
   ·cases h
   ·rename_i h2
    rcases List.mem_cons.1 hc with rfl|hc
    ·exact ⟨by omega,fun hd=>by
      cases Nat.lt_or_ge 16 c.val.length with
      | inl h3=>exact absurd ⟨hd,h3⟩ h2
      | inr h3=>exact h3⟩
    ·exact chkL_ok h c hc
theorem chkL_drop (l:List Chg) (i:Nat) (c:Chg) (h:l[i]?=some c):chkL (l.drop i)=if c.key.length=0∨8<c.key.length then some (none,3) else if c.del=false∧16<c.val.length then some (none,4) else chkL (l.drop (i+1)):=by
 have:l.drop i=c::l.drop (i+1):=by
  have hlt:=(List.getElem?_eq_some_iff.1 h).1
  rw [List.drop_eq_getElem_cons hlt,(List.getElem?_eq_some_iff.1 h).2]
 rw [this];rfl
def wrO (A:HProp) (b d:Nat) (o:Opt) (cl:Bool) (be:Option Err) (s:St) (D:PDisk) (D':PDisk) (x:Except Err St) (ve:Value) (F:List HProp):Option Err→List HProp
 | some e=>srC b d o cl be s::DiskA d D::errC ve (some e)::A::F
 | none=>srX b d o cl x::DiskA d D'::errC ve (errX x)::A::F
theorem writeP_spec {A:HProp} {l:List Chg} {sync:Bool} {x:Except Err St} (h:refW cl be l=none→writeS o s D l sync=some (x,D')) (hA:RdA A 3 v (chgsC l)) (hlen:l.length≤1099511627776) (hW:PowW W0) (hs:Sat W0 (srC b d o cl be s::DiskA d D::A::F) w) :
 Calls Tryz.prog 41 #[idV b,v,.bool sync] w fun y w'=>∃ ve,y=.returned ve∧Sat W0 (wrO A b d o cl be s D D' x ve F (refW cl be l)) w':=by
 obtain ⟨hl,br,z,hs⟩:=hs.srOpen
 refine enterD Tryz.func41 rfl Tryz.ntmps41 Tryz.results41 rfl ?_
 refine gx ?_
 refine wl_lock hs ?_
 clear hs
 intro w hs
 have hs:Sat W0 (blk b 133 (stCells (KS d o cl br 1) z s)::errC br be::lvS d z s.levels::memC z.m s.mem::mapH keyI z.sn (snapsV s.snaps)::DiskA d D::A::F) w:=hs
 refine gx ?_
 refine wl_defer rfl ?_
 refine gx ?_
 refine w_call (met (begin_spec (K:=KS d o cl br 1) (be:=be) hs) ?_)
 clear hs
 rintro _ w ⟨ve,rfl,hs⟩
 refine ⟨_,rfl,?_⟩
 have hb:begE (KS d o cl br 1) be=begX cl be:=rfl
 rw [hb] at hs
 obtain ⟨⟨av,cv,rfl⟩,-,-⟩:=id hA
 rw [chgsC_length]
 cases hbx:begX cl be with
 | some e=>
  have hr:refW cl be l=some e:=by unfold refW;rw [hbx]
  rw [hr]
  rw [hbx] at hs
  obtain ⟨t,u,rfl⟩:=hs.errIface
  refine gx ?_
  refine wq_retU (.inl rfl) hs ?_
  clear hs
  intro w hs
  exact ⟨_,rfl,Sat.srClose (z:=z) hl hs.to⟩
 | none=>
  rw [hbx] at hs
  have hve:=hs.errIs
  subst hve
  have hs:=hs.drop
  by_cases h8:8<l.length
  ·have hr:refW cl be l=some (none,2):=by unfold refW;rw [hbx];exact if_pos h8
   rw [hr]
   have h8':(l.length:Int) > 8:=by omega
   refine gx ?_
   have hs:=Sat.errNum (k:=2) hs
   refine wq_retU (.inl rfl) hs ?_
   clear hs
   intro w hs
   exact ⟨_,rfl,Sat.srClose (z:=z) hl hs.to⟩
  ·have h8':¬ ((l.length:Int) > 8):=by omega
   have hr:refW cl be l=chkL l:=by unfold refW;rw [hbx];exact if_neg h8
   refine gx ?_
   refine wc_loop (α:=Nat) (fun i=>[(0,idV b),(1,.slice av l.length cv),(2,.bool sync),(26,.slice av l.length cv),(27,.int .i64 (l.length:Int)),(28,.int .i64 (i:Int))])
    (fun i w=>(i≤l.length∧chkL (l.drop i)=chkL l)∧Sat W0 (blk b 133 (stCells (KS d o cl br 1) z s)::errC br be::lvS d z s.levels::memC z.m s.mem::mapH keyI z.sn (snapsV s.snaps)::DiskA d D::A::F) w) (fun i=>l.length-i) 0 ⟨rfl,rfl,rfl,rfl,rfl,rfl,trivial⟩ ⟨⟨Nat.zero_le _,rfl⟩,hs⟩ ?_
   clear hs
   rintro i w ⟨⟨hi,hck⟩,hs⟩
   by_cases hlt:i<l.length
   ·have hlt':(i:Int)<(l.length:Int):=by omega
    have hg:l[i]?=some l[i]:=List.getElem?_eq_getElem hlt
    have hcd:=chkL_drop l i _ hg
    generalize l[i]=c at hg hcd
    obtain ⟨bb,o',cc,hv,hcell⟩:=hA.row (chgsC_at hg)
    rw [chgsC_length] at hv
    obtain ⟨rfl,_,rfl⟩:=Value.slice.inj hv
    have hcl:=hcell W0 _ w (hs.take (.there (.there (.there (.there (.there (.there .here)))))))
    obtain ⟨ck,cval,cd⟩:=c
    refine gx ?_
    refine wl_ixn (i:=i) rfl rfl rfl rfl rfl hlt rfl ?_
    refine wl_ldA (chgC ⟨ck,cval,cd⟩) rfl rfl rfl hcl rfl ?_
    refine gx ?_
    refine w_alloc hs ?_
    clear hs hcl
    intro w b9 hs
    refine gx ?_
    refine w_stN (vs:=chgC ⟨ck,cval,cd⟩) hs ?_
    clear hs
    intro w hs
    by_cases hk0:ck.length=0
    ·have hk0':(ck.length:Int)=0:=by omega
     have hr2:refW cl be l=some (none,3):=by rw [hr,← hck,hcd];exact if_pos (.inl hk0)
     rw [hr2]
     refine gx ?_
     have hs:=Sat.errNum (k:=3) hs
     refine wq_retU (.inl rfl) hs ?_
     clear hs
     intro w hs
     exact ⟨_,rfl,Sat.srClose (z:=z) hl hs.to⟩
    ·have hk0':¬ ((ck.length:Int)=0):=by omega
     by_cases hk8:8<ck.length
     ·have hk8':(ck.length:Int) > 8:=by omega
      have hr2:refW cl be l=some (none,3):=by rw [hr,← hck,hcd];exact if_pos (.inr hk8)
      rw [hr2]
      refine gx ?_
      have hs:=Sat.errNum (k:=3) hs
      refine wq_retU (.inl rfl) hs ?_
      clear hs
      intro w hs
      exact ⟨_,rfl,Sat.srClose (z:=z) hl hs.to⟩
     ·have hk8':¬ ((ck.length:Int) > 8):=by omega
      rw [if_neg (by dsimp only;omega)] at hcd
      cases cd with
      | true=>
       rw [if_neg (by simp)] at hcd
       refine gx ?_
       exact wq_round (i+1) ⟨rfl,rfl,rfl,rfl,rfl,rfl,trivial⟩ ⟨⟨hlt,by rw [← hcd];exact hck⟩,hs.drop⟩ (by omega)
      | false=>
       by_cases hv16:16<cval.length
       ·have hv16':(cval.length:Int) > 16:=by omega
        have hr2:refW cl be l=some (none,4):=by rw [hr,← hck,hcd];exact if_pos ⟨rfl,hv16⟩
        rw [hr2]
        refine gx ?_
        have hs:=Sat.errNum (k:=4) hs
        refine wq_retU (.inl rfl) hs ?_
        clear hs
        intro w hs
        exact ⟨_,rfl,Sat.srClose (z:=z) hl hs.to⟩
       ·have hv16':¬ ((cval.length:Int) > 16):=by omega
        rw [if_neg (fun hh=>hv16 hh.2)] at hcd
        refine gx ?_
        exact wq_round (i+1) ⟨rfl,rfl,rfl,rfl,rfl,rfl,trivial⟩ ⟨⟨hlt,by rw [← hcd];exact hck⟩,hs.drop⟩ (by omega)
   ·have hie:i=l.length:=by omega
    subst hie
    have hlt':¬ ((l.length:Int)<(l.length:Int)):=by omega
    rw [List.drop_length] at hck
    have hr2:refW cl be l=none:=by rw [hr,← hck];rfl
    have hw:=h hr2
    rw [hr2]
    have hok:=chkL_ok (show chkL l=none by rw [← hck];rfl)
    have hch:ChOk l:=⟨by omega,fun c hc=>by have:=(hok c hc).1;omega,fun c hc hd=>by have:=(hok c hc).2 hd;omega⟩
    refine gx ?_
    have hs:=Sat.sdClose (K:=KS d o cl br 1) (z:=z) hl (hs.to (a:=blk b 133 (stCells (KS d o cl br 1) z s)::lvS d z s.levels::memC z.m s.mem::mapH keyI z.sn (snapsV s.snaps)::DiskA d D::A::F))
    have hA':RdA A 3 (.slice av l.length cv) (chgsC l):=by rw [← chgsC_length];exact hA
    refine w_call (met (write_specI (K:=KS d o cl br 1) hw hA' hch hW hs) ?_)
    clear hs
    rintro _ w ⟨ve,rfl,hs⟩
    refine ⟨_,rfl,?_⟩
    obtain ⟨s',hs',hs⟩:=hs.stXOpen
    obtain ⟨hl',z',hs⟩:=hs.sdOpen
    have h1:=Sat.errOne (hs.take (.there (.there (.there (.there (.there .here))))))
    refine gx ?_
    refine w_st hs (h1:=h1) ?_
    clear hs
    intro w hs
    have hs:Sat W0 (blk b 133 (stCells (KS d o cl ve 1) z' s')::lvS d z' s'.levels::memC z'.m s'.mem::mapH keyI z'.sn (snapsV s'.snaps)::DiskA d D'::errC ve (errX x)::A::F) w:=hs
    refine gx ?_
    refine wq_retU (.inl rfl) hs ?_
    clear hs
    intro w hs
    refine ⟨_,rfl,?_⟩
    have hs:=Sat.errDup (hs.take (.there (.there (.there (.there (.there .here))))))
    have hs:=Sat.sdClose (K:=KS d o cl ve 0) (s:=s') (z:=z') hl' (hs.to (a:=blk b 133 (stCells (KS d o cl ve 0) z' s')::lvS d z' s'.levels::memC z'.m s'.mem::mapH keyI z'.sn (snapsV s'.snaps)::errC ve (errX x)::DiskA d D'::errC ve (errX x)::A::F))
    exact Sat.srXShut hs' hs
end
section
open Go Go.Extern
open Go.Proofs.YtecibefflhomdaaGreatDoor.Pure (PDisk Ent Rd openB aget)
attribute [local irreducible] IntKind.wrap
variable {W0 w:World} {F:List HProp} {d:Nat} {D D':PDisk}
theorem eqn41 (k:Int) (w:World):(binOp .eql 41 .nilIface (.iface 44 (.int .i64 k))).run Tryz.prog w=.ok (.bool false) w:=by
 have h:∀ d:Nat,(Op.equalIn (d+1) 41 .nilIface (.iface 44 (.int .i64 k))).run Tryz.prog w=.ok false w:=fun d=>by
  simp [Op.equalIn,run_underlying Tryz.underlying41]
 simp only [binOp]
 simp [Op.equal,Op.maxDepth,h 9999]
theorem is_none {m:Nat} (hs:Sat W0 F w) :
 Calls Tryz.prog 90 #[.nilIface,.iface 44 (.int .i64 (m:Int))] w fun x w'=>x=.returned (.bool false)∧Sat W0 F w':=by
 refine enter Tryz.func90 rfl Tryz.ntmps90 Tryz.results90 rfl ?_
 refine gx ?_
 refine wl_bin rfl rfl rfl (eqn41 _ _) rfl ?_
 refine gx ?_
 exact wq_ret rfl ⟨rfl,hs⟩
theorem corruptL_spec {s:Bs} (hs:Sat W0 F w) :
 Calls Tryz.prog 92 #[str s] w fun x w'=>∃ ve,x=.returned ve∧Sat W0 (errC ve (some (some s,7))::F) w':=by
 refine enter Tryz.func92 rfl Tryz.ntmps92 Tryz.results92 rfl ?_
 refine gx ?_
 refine w_build [str s,.int .i64 7] ?_
 refine w_box hs fun w b hs=>?_
 refine gx ?_
 exact wq_ret rfl ⟨_,rfl,hs.errNew⟩
theorem lost_spec {e:Err} {ve:Value} (hE:ErrW W0) (hs:Sat W0 (errC ve (some e)::F) w) :
 Calls Tryz.prog 96 #[ve] w fun x w'=>∃ ve',x=.returned ve'∧Sat W0 (errC ve' (some (lostE e))::F) w':=by
 obtain ⟨o,k⟩:=e
 refine enter Tryz.func96 rfl Tryz.ntmps96 Tryz.results96 rfl ?_
 cases o with
 | none=>
  have hv:=hs.errNumIs
  subst hv
  refine gx ?_
  refine w_alloc hs fun w b3 hs=>?_
  refine gx ?_
  refine w_call (met (as50_283n hE hs) ?_)
  clear hs
  rintro _ w ⟨rfl,hs⟩
  refine ⟨_,rfl,?_⟩
  refine gx ?_
  exact wq_ret rfl ⟨_,rfl,hs.drop⟩
 | some s=>
  obtain ⟨b,rfl,h2⟩:=hs.errAt
  clear hs
  refine gx ?_
  refine w_alloc h2 fun w b3 h2=>?_
  refine gx ?_
  refine w_call (met (as50_283f hE h2) ?_)
  clear h2
  rintro _ w ⟨rfl,hs⟩
  refine ⟨_,rfl,?_⟩
  unfold lostE
  dsimp only
  by_cases h10:k=10
  ·have h':((k:Nat):Int)=10:=by omega
   rw [if_pos h10]
   refine gx ?_
   refine w_call (met (corruptL_spec (s:=s) hs) ?_)
   clear hs
   rintro _ w ⟨ve,rfl,hs⟩
   refine ⟨_,rfl,?_⟩
   refine gx ?_
   exact wq_ret rfl ⟨_,rfl,hs.to⟩
  ·have h':¬ ((k:Nat):Int)=10:=by omega
   rw [if_neg h10]
   refine gx ?_
   exact wq_ret rfl ⟨_,rfl,hs.drop.errAtShut⟩
def okB:Except Err Bs→Bs
 | .ok b=>b
 | .error _=>[]
theorem whole_spec {n:Bs} (hs:Sat W0 (DiskA d D::F) w) :
 Calls Tryz.prog 89 #[idV d,str n] w fun x w'=>∃ v ve,x=.returned (.tuple #[v,ve])∧Sat W0 (DiskA d (wholeD D n).2::bytS v (okB (wholeD D n).1)::errC ve (errX (wholeD D n).1)::F) w':=by
 refine enter Tryz.func89 rfl Tryz.ntmps89 Tryz.results89 rfl ?_
 refine gx ?_
 have hok:=hs.dOk
 refine w_call (met (size_a (n:=n) hs) ?_)
 clear hs
 rintro _ w ⟨ve,rfl,hs⟩
 refine ⟨_,rfl,?_⟩
 unfold wholeD
 cases h1:findE D n with
 | some e=>
  rw [h1] at hs
  obtain ⟨t,u,rfl⟩:=(hs.take (.there .here)).errIface
  refine gx ?_
  exact wq_ret rfl ⟨_,_,rfl,(Sat.bytNil hs).to⟩
 | none=>
  rw [h1] at hs
  have hve:=(hs.take (.there .here)).errIs
  subst hve
  have hsz:sizeB D n≤9223372036854775807:=by
   unfold sizeB;rw [h1];dsimp only
   unfold fileOf
   cases hg:aget D.now n with
   | none=>simp
   | some i=>have:=Pure.PDisk.size_le hg;have:=hok.used;dsimp only;omega
  refine gx ?_
  refine w_call (met (readAt_a (nm:=n) (at_:=0) (n:=(sizeB D n:Int)) hs (by omega) (by omega) (by omega) (by omega)) ?_)
  clear hs
  rintro _ w ⟨v,ve,rfl,hs⟩
  refine ⟨_,rfl,?_⟩
  refine gx ?_
  cases h2:findE D.tick n with
  | some e=>
   rw [h2] at hs
   refine wq_ret rfl ⟨_,_,rfl,?_⟩
   have e2:readD D.tick n 0 (sizeB D n:Int)=[]:=by unfold readD;rw [h2]
   rw [e2] at hs
   exact hs.to
  | none=>
   rw [h2] at hs
   exact wq_ret rfl ⟨_,_,rfl,hs.to⟩
end
end Go.Proofs.YtecibefflhomdaaGreatDoor
