/-
  Part 40: WALKS api; WALKS package levels; WALKS package levels; WALKS errors.
-/
import Derived.Test.YtecibefflhomdaaGreatDoorV39
set_option maxHeartbeats 8000000
set_option maxRecDepth 100000
set_option linter.all false
namespace Go.Proofs.YtecibefflhomdaaGreatDoor
open Go
section
open Go.Proofs.YtecibefflhomdaaGreatDoor.Pure (ae aD)
attribute [local irreducible] IntKind.wrap
variable {W0 w:World} {F l:List ax} {v:Value} {d:Nat} {D:ae}
abbrev mK (v:Value) (ss:List Bs):ax:=aL 1 v 9 ss.length (ss.map str)
theorem Iy (hs:Sat W0 (eB d D::F) w) (hn:D.now.length≤1099511627776) :
 Calls Tryz.prog 15 #[ay d] w fun x w'=>∃ v,x=.returned v∧Sat W0 (eB d D::mK v (gh D)::F) w':=by
 obtain ⟨hok,z,hs⟩:=hs.fp
 dsimp only [gd,aX,List.cons_append,List.nil_append] at hs
 refine enter Tryz.func15 rfl Tryz.ntmps15 Tryz.results15 rfl ?_
 refine gx ?_
 refine qu cS hs (.there .here) rfl rfl rfl ?_
 clear hs
 intro w it hs
 have hs:=Sat.cH (k:=1) (E:=9) hs
 refine gx ?_
 refine aJ (α:=List (Bs×Nat)×List Bs×Value) (fun y=>[(0,ay d),(3,y.2.2),(9,.pointer (some ⟨it,0,none⟩))])
  (fun y w=>((y.2.1++y.1.map (·.1)).Perm (D.now.map (·.1)))∧∃ last,Sat W0 (mK y.2.2 y.2.1::gL cS z.bn it (aW D.now) (aW y.1) last::blk d 111 (aX z D)::aM cS z.bs (aW D.safe)::eX z.mv D.moves::star (D.nodes.map dX)::F) w) (fun y=>y.1.length)
  (D.now,[],.slice none 0 0) ⟨rfl,rfl,rfl,trivial⟩ ⟨.refl _,none,hs.to⟩ ?_
 clear hs
 rintro ⟨left,acc,v⟩ w ⟨hp,last,hs⟩
 dsimp only at hp hs ⊢
 refine gx ?_
 refine uf cS hs (.there .here) rfl rfl (fun h0=>?_) (fun l1 x l2 w hl hs=>?_)
 ·have hl0:left=[]:=by simpa [aW] using h0
  subst hl0
  rw [List.map_nil,List.append_nil] at hp
  have hs:=(hs.take (.there .here)).oQ
  refine gx ?_
  have hlen:acc.length≤1099511627776:=by have:=hp.length_eq;rw [List.length_map] at this;omega
  refine ag (met (E3 (hs.take (.there .here)) hlen) ?_)
  clear hs
  rintro _ w ⟨u,rfl,hs⟩
  refine ⟨_,rfl,?_⟩
  have he:ln acc=gh D:=by unfold gh;exact pI hp
  rw [he] at hs
  refine gx ?_
  exact ah rfl ⟨_,rfl,Sat.db (z:=z) hok hs.to⟩
 ·obtain ⟨a,p,b,rfl,rfl,hab⟩:=kt hl
  rw [hab] at hs
  have hlen:=hp.length_eq
  simp only [List.length_append,List.length_map,List.length_cons] at hlen
  refine gx ?_
  refine qv cS hs .here rfl rfl ?_
  refine gx ?_
  refine fL hs ?_
  clear hs
  intro w b2 hs
  refine gx ?_
  refine dM hs ?_
  clear hs
  intro v2 w hs
  refine gx ?_
  refine az (a++b,acc++[p.1],v2) ⟨rfl,rfl,rfl,trivial⟩ ⟨?_,some (p.1,ay p.2),?_⟩ (by simp)
  ·refine List.Perm.trans ?_ hp
   simp only [List.map_append,List.map_cons,List.append_assoc,List.singleton_append]
   refine List.Perm.append_left acc ?_
   exact List.perm_middle.symm
  ·have h3:=hs.head (A':=mK v2 (acc++[p.1])) fun hp k=>by
    unfold mK
    rw [List.length_append,List.length_singleton,List.map_append]
    exact k
   exact h3.to
theorem Lh (hs:Sat W0 (aj d D::F) w) (hn:D.now.length≤1099511627776) :
 Calls Tryz.prog 15 #[ay d] w fun x w'=>∃ v,x=.returned v∧Sat W0 (aj d D::mK v (gh D)::F) w':=by
 obtain ⟨D0,f,h,h0,hs⟩:=hs.n7
 have hp:=h.perm h0
 have hl:gh D0=gh D:=by
  unfold gh
  refine pI ?_
  have:=hp.map (·.1)
  rwa [List.map_map] at this
 refine (Iy hs (by have:=hp.length_eq;rw [List.length_map] at this;omega)).mono ?_
 rintro _ w' ⟨v,rfl,hs⟩
 rw [hl] at hs
 exact ⟨v,rfl,hs.iV h⟩
end
section
open Go.Proofs.YtecibefflhomdaaGreatDoor.Pure (ae aB Rd bH less aR aZ bL bC aF dj dec kj dU cG gR bc aV eg Sc I2 mo aD cz dI)
attribute [local irreducible] IntKind.wrap
section
variable {κ:Type} [DecidableEq κ] (K:Dz κ)
theorem yU {K:Dz κ}:∀ {es:List MapEntry} {kvs:List (κ×Value)},hJ K es kvs→es.length=kvs.length
 | [],[],_=>rfl
 | e::es,p::ps,⟨_,h⟩=>by simp [yU h]
 | [],_::_,h=>h.elim
 | _::_,[],h=>h.elim
variable {ops:Array Oper} {Q:Exit→Act→World→Prop} {n:Nat} {ds:Md} {e:Env} {w w':World} {rest:List Oper}
variable {op:Op} {ty:TypeId} {pos:String} {af:Array Edge} {d b:Nat} {v u:Value} {W0:World} {l l' r r':List ax} {kvs:List (κ×Value)}
attribute [local semireducible] WL WC WQ
theorem Iz {T elem:TypeId} {x:Operand} (hs:Sat W0 l w) (tk:Take (aM K b kvs) l r) (hx:ev e x=some (.map (some b))) (hT:lk tJ T=some (K.ty,elem)) (hd:Nat.blt d n=true)
 (kk:WL ops Q n ds rest ((d,.int .i64 (kvs.length:Int))::e) w):WL ops Q n ds (⟨some d,.call { callee:=.builtin .len,args:=#[x],argTypes:=#[T] },ty,pos,af,none⟩::rest) e w:=by
 obtain ⟨es,clock,hb,he,_,_,_⟩:=(hs.take tk).oO
 refine bX (fun a ha=>?_) hd kk
 have hl:=yU he
 simp [execOp,resolve,invoke,Go.builtin,ha.ev hx,Builtin.len_,MapKept.run_getObj_map hb,hl,run_underlying (iL hT)]
 rfl
end
theorem E4 (l:List (Int×Nat)) (n:Int):aD (aA l) n=(aD l n).map uV:=vh uV l n
theorem wJ:∀ (l:List (Int×Nat)) (n:Int) (q:Nat),cz (aA l) n (uV q)=aA (cz l n q)
 | [],_,_=>rfl
 | (k,u)::l,n,q=>by
  show cz ((k,uV u)::aA l) n (uV q)=_
  unfold cz
  by_cases h:n=k
  ·rw [if_pos h,if_pos h];rfl
  ·rw [if_neg h,if_neg h,wJ l n q];rfl
theorem wK:∀ (l:List (Int×Nat)) (n:Int),dI (aA l) n=aA (dI l n)
 | [],_=>rfl
 | (k,u)::l,n=>by
  show dI ((k,uV u)::aA l) n=_
  unfold dI
  by_cases h:n=k
  ·rw [if_pos h,if_pos h]
  ·rw [if_neg h,if_neg h,wK l n];rfl
variable {W0 w:World} {F:List ax} {v:Value} {b d m p:Nat} {o:nH} {cl:Bool} {be:Option cx} {s:St} {D D':ae}
def GG (cl:Bool) (be:Option cx) (s:St) (n:Int):Except cx Nat:=match eW cl be with
 | some e=>.error e
 | none=>match aD s.snaps n with
  | none=>.error (none,5)
  | some q=>.ok q
def Rg:Except cx Nat→Nat
 | .ok q=>q
 | .error _=>0
theorem Aq {br:Value} {mu:Int} {z:SZ} {n:Int} (hs:Sat W0 (blk b 133 (ak (KS d o cl br mu) z s)::aH br be::aM aY z.sn (aA s.snaps)::F) w) :
 Calls Tryz.prog 136 #[ay b,.int .i64 n] w fun y w'=>∃ ve,y=.returned (.tuple #[uV (Rg (GG cl be s n)),ve])∧Sat W0 (aH ve (cU (GG cl be s n))::blk b 133 (ak (KS d o cl br mu) z s)::aH br be::aM aY z.sn (aA s.snaps)::F) w':=by
 refine enter Tryz.func136 rfl Tryz.ntmps136 Tryz.results136 rfl ?_
 refine gx ?_
 refine ag (met (fP (K:=KS d o cl br mu) (be:=be) hs) ?_)
 clear hs
 rintro _ w ⟨ve,rfl,hs⟩
 refine ⟨_,rfl,?_⟩
 have hb:tO (KS d o cl br mu) be=eW cl be:=rfl
 rw [hb] at hs
 unfold GG
 cases hbx:eW cl be with
 | some e=>
  rw [hbx] at hs
  obtain ⟨t,u,rfl⟩:=hs.aQ
  refine gx ?_
  exact ah rfl ⟨_,rfl,hs⟩
 | none=>
  rw [hbx] at hs
  have hve:=hs.cA
  subst hve
  refine gx ?_
  refine DF aY (k:=n) (z:=.int .u64 0) hs (.there (.there (.there .here))) rfl rfl rfl rfl rfl ?_
  rw [E4]
  cases hg:aD s.snaps n with
  | none=>
   refine gx ?_
   exact ah rfl ⟨_,rfl,(Sat.jN (k:=5) hs.drop)⟩
  | some q=>
   refine gx ?_
   exact ah rfl ⟨_,rfl,hs⟩
def oH (cl:Bool) (be:Option cx) (s:St) (D:ae) (n:Int) (key:Bs):Out (Option Bs):=match GG cl be s n with
 | .error e=>some (.error e,D)
 | .ok q=>xl s D key q
theorem CE {n:Int} {key:Bs} {x:Except cx (Option Bs)} (h:oH cl be s D n key=some (x,D')) (hs:Sat W0 (fy b d o cl be s::aj d D::F) w) :
 Calls Tryz.prog 132 #[ay b,.int .i64 n,str key] w fun y w'=>∃ ve,y=.returned (.tuple #[str (MR x),.bool (P7 x),ve])∧Sat W0 (fy b d o cl be s::aj d D'::aH ve (cU x)::F) w':=by
 obtain ⟨hl,br,z,hs⟩:=hs.kp
 refine kn Tryz.func132 rfl Tryz.ntmps132 Tryz.results132 rfl ?_
 refine gx ?_
 refine iT hs ?_
 clear hs
 intro w hs
 have hs:Sat W0 (blk b 133 (ak (KS d o cl br 1) z s)::aH br be::dE d z s.levels::aO z.m s.mem::aM aY z.sn (aA s.snaps)::aj d D::F) w:=hs
 refine gx ?_
 refine gH rfl ?_
 refine gx ?_
 refine ag (met (Aq (be:=be) (n:=n) (hs.FE .here .here (.there (.there .here)))) ?_)
 clear hs
 rintro _ w ⟨ve,rfl,hs⟩
 refine ⟨_,rfl,?_⟩
 unfold oH at h
 cases hax:GG cl be s n with
 | error e=>
  rw [hax] at h hs
  simp only [Option.some.injEq,Prod.mk.injEq] at h
  obtain ⟨rfl,rfl⟩:=h
  obtain ⟨t,u,rfl⟩:=hs.aQ
  refine gx ?_
  refine dp (.inl rfl) hs ?_
  clear hs
  intro w hs
  exact ⟨_,rfl,Sat.dJ (z:=z) hl hs.to⟩
 | ok q=>
  rw [hax] at h hs
  have hve:=hs.cA
  subst hve
  refine gx ?_
  have hs:=Sat.bM (K:=KS d o cl br 1) (z:=z) hl (hs.to (a:=blk b 133 (ak (KS d o cl br 1) z s)::dE d z s.levels::aO z.m s.mem::aM aY z.sn (aA s.snaps)::aj d D::aH br be::F))
  refine ag (met (yn (K:=KS d o cl br 1) (seq:=q) h hs) ?_)
  clear hs
  rintro _ w ⟨ve,rfl,hs⟩
  refine ⟨_,rfl,?_⟩
  obtain ⟨hl,z,hs⟩:=hs.gB
  refine gx ?_
  refine dp (.inl rfl) hs ?_
  clear hs
  intro w hs
  exact ⟨_,rfl,Sat.dJ (z:=z) hl hs.to⟩
def uw (cl:Bool) (be:Option cx) (s:St) (D:ae) (n:Int) (lo hi:Bs) (limit:Int):Out (List (Bs×Bs)):=match GG cl be s n with
 | .error e=>some (.error e,D)
 | .ok q=>th s D lo hi limit q
theorem Ar {n:Int} {lo hi:Bs} {limit:Int} {x:Except cx (List (Bs×Bs))} (h:uw cl be s D n lo hi limit=some (x,D')) (hs:Sat W0 (fy b d o cl be s::aj d D::F) w) :
 Calls Tryz.prog 134 #[ay b,.int .i64 n,str lo,str hi,.int .i64 limit] w fun y w'=>∃ pv ve,y=.returned (.tuple #[pv,ve])∧Sat W0 (pD pv x::fy b d o cl be s::aj d D'::aH ve (cU x)::F) w':=by
 obtain ⟨hl,br,z,hs⟩:=hs.kp
 refine kn Tryz.func134 rfl Tryz.ntmps134 Tryz.results134 rfl ?_
 refine gx ?_
 refine iT hs ?_
 clear hs
 intro w hs
 have hs:Sat W0 (blk b 133 (ak (KS d o cl br 1) z s)::aH br be::dE d z s.levels::aO z.m s.mem::aM aY z.sn (aA s.snaps)::aj d D::F) w:=hs
 refine gx ?_
 refine gH rfl ?_
 refine gx ?_
 refine ag (met (Aq (be:=be) (n:=n) (hs.FE .here .here (.there (.there .here)))) ?_)
 clear hs
 rintro _ w ⟨ve,rfl,hs⟩
 refine ⟨_,rfl,?_⟩
 unfold uw at h
 cases hax:GG cl be s n with
 | error e=>
  rw [hax] at h hs
  simp only [Option.some.injEq,Prod.mk.injEq] at h
  obtain ⟨rfl,rfl⟩:=h
  obtain ⟨t,u,rfl⟩:=hs.aQ
  refine gx ?_
  refine dp (.inl rfl) hs ?_
  clear hs
  intro w hs
  refine ⟨_,_,rfl,?_⟩
  have hs:=Sat.dJ (z:=z) hl (hs.to (a:=blk b 133 (ak (KS d o cl br 0) z s)::dE d z s.levels::aO z.m s.mem::aM aY z.sn (aA s.snaps)::aH br be::aj d D::aH (.iface t u) (some e)::F))
  exact hs.imp fun hp r=>⟨fun _=>none,hp,fun _ _ _ hx=>(by cases hx),fun _ _ hx=>(by cases hx),Hp.le_refl _,rfl,r⟩
 | ok q=>
  rw [hax] at h hs
  have hve:=hs.cA
  subst hve
  refine gx ?_
  have hs:=Sat.bM (K:=KS d o cl br 1) (z:=z) hl (hs.to (a:=blk b 133 (ak (KS d o cl br 1) z s)::dE d z s.levels::aO z.m s.mem::aM aY z.sn (aA s.snaps)::aj d D::aH br be::F))
  refine ag (met (vW (K:=KS d o cl br 1) (seq:=q) h hs) ?_)
  clear hs
  rintro _ w ⟨pv,ve,rfl,hs⟩
  refine ⟨_,rfl,?_⟩
  obtain ⟨hl,z,hs⟩:=(hs.take (.there .here)).gB
  refine gx ?_
  refine dp (.inl rfl) hs ?_
  clear hs
  intro w hs
  refine ⟨_,_,rfl,?_⟩
  have hs:=Sat.dJ (z:=z) hl (hs.to (a:=blk b 133 (ak (KS d o cl br 0) z s)::dE d z s.levels::aO z.m s.mem::aM aY z.sn (aA s.snaps)::aH br be::pD pv x::aj d D'::aH ve (cU x)::F))
  exact hs.to
def IA (cl:Bool) (be:Option cx) (s:St) (n:Int):Option cx×St:=match GG cl be s n with
 | .error e=>(some e,s)
 | .ok _=>(none,{ s with snaps:=dI s.snaps n })
theorem IB {n:Int} (hs:Sat W0 (fy b d o cl be s::aj d D::F) w) :
 Calls Tryz.prog 73 #[ay b,.int .i64 n] w fun y w'=>∃ ve,y=.returned ve∧Sat W0 (fy b d o cl be (IA cl be s n).2::aj d D::aH ve (IA cl be s n).1::F) w':=by
 obtain ⟨hl,br,z,hs⟩:=hs.kp
 refine kn Tryz.func73 rfl Tryz.ntmps73 Tryz.results73 rfl ?_
 refine gx ?_
 refine iT hs ?_
 clear hs
 intro w hs
 have hs:Sat W0 (blk b 133 (ak (KS d o cl br 1) z s)::aH br be::dE d z s.levels::aO z.m s.mem::aM aY z.sn (aA s.snaps)::aj d D::F) w:=hs
 refine gx ?_
 refine gH rfl ?_
 refine gx ?_
 refine ag (met (Aq (be:=be) (n:=n) (hs.FE .here .here (.there (.there .here)))) ?_)
 clear hs
 rintro _ w ⟨ve,rfl,hs⟩
 refine ⟨_,rfl,?_⟩
 unfold IA
 cases hax:GG cl be s n with
 | error e=>
  rw [hax] at hs
  obtain ⟨t,u,rfl⟩:=hs.aQ
  refine gx ?_
  refine dp (.inl rfl) hs ?_
  clear hs
  intro w hs
  exact ⟨_,rfl,Sat.dJ (z:=z) hl hs.to⟩
 | ok q=>
  rw [hax] at hs
  have hve:=hs.cA
  subst hve
  refine gx ?_
  refine xL aY (k:=n) hs (.there (.there (.there .here))) rfl rfl rfl ?_
  clear hs
  intro w hs
  rw [wK] at hs
  refine gx ?_
  refine dp (.inl rfl) hs ?_
  clear hs
  intro w hs
  exact ⟨_,rfl,Sat.dJ (s:={ s with snaps:=dI s.snaps n }) (z:=z) hl hs.to⟩
def tA (cl:Bool) (be:Option cx) (s:St):Except cx St:=match eW cl be with
 | some e=>.error e
 | none=>if s.snaps.length=4 then .error (none,2) else .ok { s with snap:=s.snap+1,snaps:=cz s.snaps ((s.snap+1:Nat):Int) s.seq }
def NW (s:St):Except cx St→St
 | .ok s'=>s'
 | .error _=>s
def NX:Except cx St→Nat
 | .ok s'=>s'.snap
 | .error _=>0
theorem E5 (hsn:s.snap≤4611686018427387904) (hs:Sat W0 (fy b d o cl be s::aj d D::F) w) :
 Calls Tryz.prog 71 #[ay b] w fun y w'=>∃ ve,y=.returned (.tuple #[.int .i64 (NX (tA cl be s):Int),ve])∧Sat W0 (fy b d o cl be (NW s (tA cl be s))::aj d D::aH ve (cU (tA cl be s))::F) w':=by
 obtain ⟨hl,br,z,hs⟩:=hs.kp
 refine kn Tryz.func71 rfl Tryz.ntmps71 Tryz.results71 rfl ?_
 refine gx ?_
 refine iT hs ?_
 clear hs
 intro w hs
 have hs:Sat W0 (blk b 133 (ak (KS d o cl br 1) z s)::aH br be::dE d z s.levels::aO z.m s.mem::aM aY z.sn (aA s.snaps)::aj d D::F) w:=hs
 refine gx ?_
 refine gH rfl ?_
 refine gx ?_
 refine ag (met (fP (K:=KS d o cl br 1) (be:=be) hs) ?_)
 clear hs
 rintro _ w ⟨ve,rfl,hs⟩
 refine ⟨_,rfl,?_⟩
 have hb:tO (KS d o cl br 1) be=eW cl be:=rfl
 rw [hb] at hs
 unfold tA
 cases hbx:eW cl be with
 | some e=>
  rw [hbx] at hs
  obtain ⟨t,u,rfl⟩:=hs.aQ
  refine gx ?_
  refine dp (.inl rfl) hs ?_
  clear hs
  intro w hs
  exact ⟨_,rfl,Sat.dJ (z:=z) hl hs.to⟩
 | none=>
  rw [hbx] at hs
  have hve:=hs.cA
  subst hve
  refine gx ?_
  refine Iz aY hs (.there (.there (.there (.there (.there .here))))) rfl rfl rfl ?_
  have hlen:(aA s.snaps).length=s.snaps.length:=List.length_map _
  rw [hlen]
  by_cases h4:s.snaps.length=4
  ·have h4':((s.snaps.length:Nat):Int)=4:=by omega
   dsimp only
   rw [if_pos h4]
   refine gx ?_
   have hs:=Sat.jN (k:=2) hs.drop
   refine dp (.inl rfl) hs ?_
   clear hs
   intro w hs
   exact ⟨_,rfl,Sat.dJ (z:=z) hl hs.to⟩
  ·have h4':¬ ((s.snaps.length:Nat):Int)=4:=by omega
   dsimp only
   rw [if_neg h4]
   refine gx ?_
   refine bK hs ?_
   clear hs
   intro w hs
   have hs:Sat W0 (aH .nilIface none::blk b 133 (ak (KS d o cl br 1) z { s with snap:=s.snap+1 })::aH br be::dE d z s.levels::aO z.m s.mem::aM aY z.sn (aA s.snaps)::aj d D::F) w:=hs
   refine gx ?_
   refine bO [blk b 133 (ak (KS d o cl br 1) z { s with snap:=s.snap+1 })] [(0,false),(1,false),(2,false),(3,false),(4,false),(5,false),(6,false),(7,false),(8,false),(9,false),(10,false),(11,false),(12,true)] hs (by kernel_rfl) ?_
   clear hs
   intro w hs
   refine gx ?_
   refine jo aY (k:=((s.snap+1:Nat):Int)) (v:=uV s.seq) hs (by repeat (first|exact gV.here|apply gV.there)) rfl rfl rfl rfl ?_
   clear hs
   intro w hs
   rw [wJ] at hs
   refine gx ?_
   refine dp (.inl rfl) hs ?_
   clear hs
   intro w hs
   exact ⟨_,rfl,Sat.dJ (s:={ s with snap:=s.snap+1,snaps:=cz s.snaps ((s.snap+1:Nat):Int) s.seq }) (z:=z) hl hs.to⟩
end
section
open Go.Proofs.YtecibefflhomdaaGreatDoor.Pure (ae aB Rd bH less aR aZ bL bC aF dj dec kj dU cG gR bc aV eg Sc I2 mo aD cz dI)
attribute [local irreducible] IntKind.wrap
variable {W0 w:World} {F:List ax} {v:Value} {b d m p:Nat} {o:nH} {cl:Bool} {be:Option cx} {s:St} {D D':ae}
def nA (cl:Bool) (be:Option cx) (s:St) (D:ae):Option cx×ae:=match eW cl be with
 | some e=>(some e,D)
 | none=>(bx D s.log,gz D s.log)
theorem tB (hs:Sat W0 (fy b d o cl be s::aj d D::F) w) :
 Calls Tryz.prog 44 #[ay b] w fun y w'=>∃ ve,y=.returned ve∧Sat W0 (fy b d o true be s::aj d (nA cl be s D).2::aH ve (nA cl be s D).1::F) w':=by
 obtain ⟨hl,br,z,hs⟩:=hs.kp
 refine kn Tryz.func44 rfl Tryz.ntmps44 Tryz.results44 rfl ?_
 refine gx ?_
 refine iT hs ?_
 clear hs
 intro w hs
 have hs:Sat W0 (blk b 133 (ak (KS d o cl br 1) z s)::aH br be::dE d z s.levels::aO z.m s.mem::aM aY z.sn (aA s.snaps)::aj d D::F) w:=hs
 refine gx ?_
 refine gH rfl ?_
 refine gx ?_
 refine ag (met (fP (K:=KS d o cl br 1) (be:=be) hs) ?_)
 clear hs
 rintro _ w ⟨ve,rfl,hs⟩
 refine ⟨_,rfl,?_⟩
 have hb:tO (KS d o cl br 1) be=eW cl be:=rfl
 rw [hb] at hs
 unfold nA
 refine gE ?_
 refine cV rfl ?_
 refine gx ?_
 refine bK hs ?_
 clear hs
 intro w hs
 have hs:Sat W0 (aH ve (eW cl be)::blk b 133 (ak (KS d o true br 1) z s)::aH br be::dE d z s.levels::aO z.m s.mem::aM aY z.sn (aA s.snaps)::aj d D::F) w:=hs
 cases hbx:eW cl be with
 | some e=>
  rw [hbx] at hs
  obtain ⟨t,u,rfl⟩:=hs.aQ
  refine gx ?_
  refine dp (.inl rfl) hs ?_
  clear hs
  intro w hs
  exact ⟨_,rfl,Sat.dJ (z:=z) hl hs.to⟩
 | none=>
  rw [hbx] at hs
  have hve:=hs.cA
  subst hve
  refine gx ?_
  refine bO [blk b 133 (ak (KS d o true br 1) z s)] [(0,false),(1,false),(2,false),(3,false),(4,false),(5,false),(6,false),(7,false),(8,true),(9,false)] hs (by kernel_rfl) ?_
  clear hs
  intro w hs
  refine gx ?_
  refine ag (met (zI (n:=s.log) (F:=blk b 133 (ak (KS d o true br 1) z s)::aH br be::dE d z s.levels::aO z.m s.mem::aM aY z.sn (aA s.snaps)::F) hs.to) ?_)
  clear hs
  rintro _ w ⟨ve,rfl,hs⟩
  refine ⟨_,rfl,?_⟩
  refine gx ?_
  refine dp (.inl rfl) hs ?_
  clear hs
  intro w hs
  exact ⟨_,rfl,Sat.dJ (z:=z) hl hs.to⟩
def Q0 (b d:Nat) (o:nH) (cl:Bool):Except cx St→ax
 | .ok s=>fy b d o cl none s
 | .error e=>fun h=>∃ s,fy b d o cl (some e) s h
theorem Sat.GH {K:SK} {x:Except cx St} (h:Sat W0 (Df b K x::F) w):∃ s',(∀ r,x=.ok r→s'=r)∧Sat W0 (nM b K s'::F) w:=by
 cases x with
 | ok r=>exact ⟨r,fun _ hh=>(Except.ok.inj hh),h⟩
 | error e=>
  obtain ⟨s',_,hs⟩:=h.e9 (φ:=fun _:St=>True) (B:=fun s'=>[nM b K s']) fun hp ⟨s',k⟩=>⟨s',trivial,hp,fun _=>none,fun _ _ _ _ hy=>(by cases hy),Hp.le_refl _,fun _ _ hx=>(by cases hx),k,trivial⟩
  exact ⟨s',fun _ hh=>(by cases hh),hs⟩
theorem Sat.GI {x:Except cx St} {s':St} {br:Value} (hx:∀ r,x=.ok r→s'=r) (h:Sat W0 (nM b (KS d o cl br 0) s'::aH br (cU x)::F) w):Sat W0 (Q0 b d o cl x::F) w:=by
 cases x with
 | ok r=>
  obtain rfl:=hx r rfl
  exact Sat.z8 h
 | error e=>exact (Sat.z8 h).head fun _ k=>⟨s',k⟩
theorem xp {e:cx} (h:eW cl be=some e) (hs:Sat W0 (fy b d o cl be s::aj d D::F) w) :
 Calls Tryz.prog 75 #[ay b] w fun y w'=>∃ ve,y=.returned ve∧Sat W0 (fy b d o cl be s::aj d D::aH ve (some e)::F) w':=by
 obtain ⟨hl,br,z,hs⟩:=hs.kp
 refine kn Tryz.func75 rfl Tryz.ntmps75 Tryz.results75 rfl ?_
 refine gx ?_
 refine iT hs ?_
 clear hs
 intro w hs
 have hs:Sat W0 (blk b 133 (ak (KS d o cl br 1) z s)::aH br be::dE d z s.levels::aO z.m s.mem::aM aY z.sn (aA s.snaps)::aj d D::F) w:=hs
 refine gx ?_
 refine gH rfl ?_
 refine gx ?_
 refine ag (met (fP (K:=KS d o cl br 1) (be:=be) hs) ?_)
 clear hs
 rintro _ w ⟨ve,rfl,hs⟩
 refine ⟨_,rfl,?_⟩
 have hb:tO (KS d o cl br 1) be=eW cl be:=rfl
 rw [hb] at hs
 rw [h] at hs
 obtain ⟨t,u,rfl⟩:=hs.aQ
 refine gx ?_
 refine dp (.inl rfl) hs ?_
 clear hs
 intro w hs
 exact ⟨_,rfl,Sat.dJ (z:=z) hl hs.to⟩
theorem Sat.Li {o':Option cx} (h:Sat W0 (aH v o'::F) w):Sat W0 (aH v o'::aH v o'::F) w:=Sat.od (BK v o') h
theorem Sat.As {o':Option cx} (h:Sat W0 (aH v o'::F) w):df v=true:=by
 cases o' with
 | none=>rw [h.cA];rfl
 | some e=>obtain ⟨t,u,rfl⟩:=h.aQ;rfl
theorem E6 {x:Except cx St} (hg:eW cl be=none) (h:lj o s D=some (x,D')) (hW:jF W0) (hs:Sat W0 (fy b d o cl be s::aj d D::F) w) :
 Calls Tryz.prog 75 #[ay b] w fun y w'=>∃ ve,y=.returned ve∧Sat W0 (Q0 b d o cl x::aj d D'::aH ve (cU x)::F) w':=by
 obtain ⟨hl,br,z,hs⟩:=hs.kp
 refine kn Tryz.func75 rfl Tryz.ntmps75 Tryz.results75 rfl ?_
 refine gx ?_
 refine iT hs ?_
 clear hs
 intro w hs
 have hs:Sat W0 (blk b 133 (ak (KS d o cl br 1) z s)::aH br be::dE d z s.levels::aO z.m s.mem::aM aY z.sn (aA s.snaps)::aj d D::F) w:=hs
 refine gx ?_
 refine gH rfl ?_
 refine gx ?_
 refine ag (met (fP (K:=KS d o cl br 1) (be:=be) hs) ?_)
 clear hs
 rintro _ w ⟨ve,rfl,hs⟩
 refine ⟨_,rfl,?_⟩
 have hb:tO (KS d o cl br 1) be=eW cl be:=rfl
 rw [hb] at hs
 rw [hg] at hs
 have hve:=hs.cA
 subst hve
 refine gx ?_
 have hs:=Sat.bM (K:=KS d o cl br 1) (z:=z) hl (hs.to (a:=blk b 133 (ak (KS d o cl br 1) z s)::dE d z s.levels::aO z.m s.mem::aM aY z.sn (aA s.snaps)::aj d D::F))
 refine ag (met (zY (K:=KS d o cl br 1) h hW hs) ?_)
 clear hs
 rintro _ w ⟨ve,rfl,hs⟩
 refine ⟨_,rfl,?_⟩
 obtain ⟨s',hs',hs⟩:=hs.GH
 obtain ⟨hl',z',hs⟩:=hs.gB
 have h1:=Sat.As (hs.take (.there (.there (.there (.there (.there .here))))))
 refine gx ?_
 refine bK hs (h1:=h1) ?_
 clear hs
 intro w hs
 have hs:Sat W0 (blk b 133 (ak (KS d o cl ve 1) z' s')::dE d z' s'.levels::aO z'.m s'.mem::aM aY z'.sn (aA s'.snaps)::aj d D'::aH ve (cU x)::F) w:=hs
 refine gx ?_
 refine dp (.inl rfl) hs ?_
 clear hs
 intro w hs
 refine ⟨_,rfl,?_⟩
 have hs:=Sat.Li (hs.take (.there (.there (.there (.there (.there .here))))))
 have hs:=Sat.bM (K:=KS d o cl ve 0) (s:=s') (z:=z') hl' (hs.to (a:=blk b 133 (ak (KS d o cl ve 0) z' s')::dE d z' s'.levels::aO z'.m s'.mem::aM aY z'.sn (aA s'.snaps)::aH ve (cU x)::aj d D'::aH ve (cU x)::F))
 exact Sat.GI hs' hs
def qh:List cG→Option cx
 | []=>none
 | c::r=>if c.key.length=0∨8<c.key.length then some (none,3) else if c.del=false∧16<c.val.length then some (none,4) else qh r
def nN (cl:Bool) (be:Option cx) (l:List cG):Option cx:=match eW cl be with
 | some e=>some e
 | none=>if 8<l.length then some (none,2) else qh l
theorem GJ:∀ {l:List cG},qh l=none→∀ c∈l,(c.key.length≠0∧c.key.length≤8)∧(c.del=false→c.val.length≤16)
 | [],_,c,hc=>by cases hc
 | x::r,h,c,hc=>by
  unfold qh at h
  split at h
  ·cases h
  ·rename_i h1
   split at h
   ·cases h
   ·rename_i h2
    rcases List.mem_cons.1 hc with rfl|hc
    ·exact ⟨by omega,fun hd=>by
      cases Nat.lt_or_ge 16 c.val.length with
      | inl h3=>exact absurd ⟨hd,h3⟩ h2
      | inr h3=>exact h3⟩
    ·exact GJ h c hc
theorem IC (l:List cG) (i:Nat) (c:cG) (h:l[i]?=some c):qh (l.drop i)=if c.key.length=0∨8<c.key.length then some (none,3) else if c.del=false∧16<c.val.length then some (none,4) else qh (l.drop (i+1)):=by
 have:l.drop i=c::l.drop (i+1):=by
  have hlt:=(List.getElem?_eq_some_iff.1 h).1
  rw [List.drop_eq_getElem_cons hlt,(List.getElem?_eq_some_iff.1 h).2]
 rw [this];rfl
def Rb (A:ax) (b d:Nat) (o:nH) (cl:Bool) (be:Option cx) (s:St) (D:ae) (D':ae) (x:Except cx St) (ve:Value) (F:List ax):Option cx→List ax
 | some e=>fy b d o cl be s::aj d D::aH ve (some e)::A::F
 | none=>Q0 b d o cl x::aj d D'::aH ve (cU x)::A::F
theorem tC {A:ax} {l:List cG} {sync:Bool} {x:Except cx St} (h:nN cl be l=none→oo o s D l sync=some (x,D')) (hA:NK A 3 v (dR l)) (hlen:l.length≤1099511627776) (hW:jF W0) (hs:Sat W0 (fy b d o cl be s::aj d D::A::F) w) :
 Calls Tryz.prog 41 #[ay b,v,.bool sync] w fun y w'=>∃ ve,y=.returned ve∧Sat W0 (Rb A b d o cl be s D D' x ve F (nN cl be l)) w':=by
 obtain ⟨hl,br,z,hs⟩:=hs.kp
 refine kn Tryz.func41 rfl Tryz.ntmps41 Tryz.results41 rfl ?_
 refine gx ?_
 refine iT hs ?_
 clear hs
 intro w hs
 have hs:Sat W0 (blk b 133 (ak (KS d o cl br 1) z s)::aH br be::dE d z s.levels::aO z.m s.mem::aM aY z.sn (aA s.snaps)::aj d D::A::F) w:=hs
 refine gx ?_
 refine gH rfl ?_
 refine gx ?_
 refine ag (met (fP (K:=KS d o cl br 1) (be:=be) hs) ?_)
 clear hs
 rintro _ w ⟨ve,rfl,hs⟩
 refine ⟨_,rfl,?_⟩
 have hb:tO (KS d o cl br 1) be=eW cl be:=rfl
 rw [hb] at hs
 obtain ⟨⟨av,cv,rfl⟩,-,-⟩:=id hA
 rw [cY]
 cases hbx:eW cl be with
 | some e=>
  have hr:nN cl be l=some e:=by unfold nN;rw [hbx]
  rw [hr]
  rw [hbx] at hs
  obtain ⟨t,u,rfl⟩:=hs.aQ
  refine gx ?_
  refine dp (.inl rfl) hs ?_
  clear hs
  intro w hs
  exact ⟨_,rfl,Sat.dJ (z:=z) hl hs.to⟩
 | none=>
  rw [hbx] at hs
  have hve:=hs.cA
  subst hve
  have hs:=hs.drop
  by_cases h8:8<l.length
  ·have hr:nN cl be l=some (none,2):=by unfold nN;rw [hbx];exact if_pos h8
   rw [hr]
   have h8':(l.length:Int) > 8:=by omega
   refine gx ?_
   have hs:=Sat.jN (k:=2) hs
   refine dp (.inl rfl) hs ?_
   clear hs
   intro w hs
   exact ⟨_,rfl,Sat.dJ (z:=z) hl hs.to⟩
  ·have h8':¬ ((l.length:Int) > 8):=by omega
   have hr:nN cl be l=qh l:=by unfold nN;rw [hbx];exact if_neg h8
   refine gx ?_
   refine aJ (α:=Nat) (fun i=>[(0,ay b),(1,.slice av l.length cv),(2,.bool sync),(26,.slice av l.length cv),(27,.int .i64 (l.length:Int)),(28,.int .i64 (i:Int))])
    (fun i w=>(i≤l.length∧qh (l.drop i)=qh l)∧Sat W0 (blk b 133 (ak (KS d o cl br 1) z s)::aH br be::dE d z s.levels::aO z.m s.mem::aM aY z.sn (aA s.snaps)::aj d D::A::F) w) (fun i=>l.length-i) 0 ⟨rfl,rfl,rfl,rfl,rfl,rfl,trivial⟩ ⟨⟨Nat.zero_le _,rfl⟩,hs⟩ ?_
   clear hs
   rintro i w ⟨⟨hi,hck⟩,hs⟩
   by_cases hlt:i<l.length
   ·have hlt':(i:Int)<(l.length:Int):=by omega
    have hg:l[i]?=some l[i]:=List.getElem?_eq_getElem hlt
    have hcd:=IC l i _ hg
    generalize l[i]=c at hg hcd
    obtain ⟨bb,o',cc,hv,hcell⟩:=hA.row (mD hg)
    rw [cY] at hv
    obtain ⟨rfl,_,rfl⟩:=Value.slice.inj hv
    have hcl:=hcell W0 _ w (hs.take (.there (.there (.there (.there (.there (.there .here)))))))
    obtain ⟨ck,cval,cd⟩:=c
    refine gx ?_
    refine cN (i:=i) rfl rfl rfl rfl rfl hlt rfl ?_
    refine zZ (fQ ⟨ck,cval,cd⟩) rfl rfl rfl hcl rfl ?_
    refine gx ?_
    refine aS hs ?_
    clear hs hcl
    intro w b9 hs
    refine gx ?_
    refine da (vs:=fQ ⟨ck,cval,cd⟩) hs ?_
    clear hs
    intro w hs
    by_cases hk0:ck.length=0
    ·have hk0':(ck.length:Int)=0:=by omega
     have hr2:nN cl be l=some (none,3):=by rw [hr,← hck,hcd];exact if_pos (.inl hk0)
     rw [hr2]
     refine gx ?_
     have hs:=Sat.jN (k:=3) hs
     refine dp (.inl rfl) hs ?_
     clear hs
     intro w hs
     exact ⟨_,rfl,Sat.dJ (z:=z) hl hs.to⟩
    ·have hk0':¬ ((ck.length:Int)=0):=by omega
     by_cases hk8:8<ck.length
     ·have hk8':(ck.length:Int) > 8:=by omega
      have hr2:nN cl be l=some (none,3):=by rw [hr,← hck,hcd];exact if_pos (.inr hk8)
      rw [hr2]
      refine gx ?_
      have hs:=Sat.jN (k:=3) hs
      refine dp (.inl rfl) hs ?_
      clear hs
      intro w hs
      exact ⟨_,rfl,Sat.dJ (z:=z) hl hs.to⟩
     ·have hk8':¬ ((ck.length:Int) > 8):=by omega
      rw [if_neg (by dsimp only;omega)] at hcd
      cases cd with
      | true=>
       rw [if_neg (by simp)] at hcd
       refine gx ?_
       exact az (i+1) ⟨rfl,rfl,rfl,rfl,rfl,rfl,trivial⟩ ⟨⟨hlt,by rw [← hcd];exact hck⟩,hs.drop⟩ (by omega)
      | false=>
       by_cases hv16:16<cval.length
       ·have hv16':(cval.length:Int) > 16:=by omega
        have hr2:nN cl be l=some (none,4):=by rw [hr,← hck,hcd];exact if_pos ⟨rfl,hv16⟩
        rw [hr2]
        refine gx ?_
        have hs:=Sat.jN (k:=4) hs
        refine dp (.inl rfl) hs ?_
        clear hs
        intro w hs
        exact ⟨_,rfl,Sat.dJ (z:=z) hl hs.to⟩
       ·have hv16':¬ ((cval.length:Int) > 16):=by omega
        rw [if_neg (fun hh=>hv16 hh.2)] at hcd
        refine gx ?_
        exact az (i+1) ⟨rfl,rfl,rfl,rfl,rfl,rfl,trivial⟩ ⟨⟨hlt,by rw [← hcd];exact hck⟩,hs.drop⟩ (by omega)
   ·have hie:i=l.length:=by omega
    subst hie
    have hlt':¬ ((l.length:Int)<(l.length:Int)):=by omega
    rw [List.drop_length] at hck
    have hr2:nN cl be l=none:=by rw [hr,← hck];rfl
    have hw:=h hr2
    rw [hr2]
    have hok:=GJ (show qh l=none by rw [← hck];rfl)
    have hch:OQ l:=⟨by omega,fun c hc=>by have:=(hok c hc).1;omega,fun c hc hd=>by have:=(hok c hc).2 hd;omega⟩
    refine gx ?_
    have hs:=Sat.bM (K:=KS d o cl br 1) (z:=z) hl (hs.to (a:=blk b 133 (ak (KS d o cl br 1) z s)::dE d z s.levels::aO z.m s.mem::aM aY z.sn (aA s.snaps)::aj d D::A::F))
    have hA':NK A 3 (.slice av l.length cv) (dR l):=by rw [← cY];exact hA
    refine ag (met (BQ (K:=KS d o cl br 1) hw hA' hch hW hs) ?_)
    clear hs
    rintro _ w ⟨ve,rfl,hs⟩
    refine ⟨_,rfl,?_⟩
    obtain ⟨s',hs',hs⟩:=hs.GH
    obtain ⟨hl',z',hs⟩:=hs.gB
    have h1:=Sat.As (hs.take (.there (.there (.there (.there (.there .here))))))
    refine gx ?_
    refine bK hs (h1:=h1) ?_
    clear hs
    intro w hs
    have hs:Sat W0 (blk b 133 (ak (KS d o cl ve 1) z' s')::dE d z' s'.levels::aO z'.m s'.mem::aM aY z'.sn (aA s'.snaps)::aj d D'::aH ve (cU x)::A::F) w:=hs
    refine gx ?_
    refine dp (.inl rfl) hs ?_
    clear hs
    intro w hs
    refine ⟨_,rfl,?_⟩
    have hs:=Sat.Li (hs.take (.there (.there (.there (.there (.there .here))))))
    have hs:=Sat.bM (K:=KS d o cl ve 0) (s:=s') (z:=z') hl' (hs.to (a:=blk b 133 (ak (KS d o cl ve 0) z' s')::dE d z' s'.levels::aO z'.m s'.mem::aM aY z'.sn (aA s'.snaps)::aH ve (cU x)::aj d D'::aH ve (cU x)::A::F))
    exact Sat.GI hs' hs
end
section
open Go Go.Extern
open Go.Proofs.YtecibefflhomdaaGreatDoor.Pure (ae aB Rd bH aD)
attribute [local irreducible] IntKind.wrap
variable {W0 w:World} {F:List ax} {d:Nat} {D D':ae}
theorem Qq (k:Int) (w:World):(binOp .eql 41 .nilIface (.iface 44 (.int .i64 k))).run Tryz.prog w=.ok (.bool false) w:=by
 have h:∀ d:Nat,(Op.equalIn (d+1) 41 .nilIface (.iface 44 (.int .i64 k))).run Tryz.prog w=.ok false w:=fun d=>by
  simp [Op.equalIn,run_underlying Tryz.underlying41]
 simp only [binOp]
 simp [Op.equal,Op.maxDepth,h 9999]
theorem Nd {m:Nat} (hs:Sat W0 F w) :
 Calls Tryz.prog 90 #[.nilIface,.iface 44 (.int .i64 (m:Int))] w fun x w'=>x=.returned (.bool false)∧Sat W0 F w':=by
 refine enter Tryz.func90 rfl Tryz.ntmps90 Tryz.results90 rfl ?_
 refine gx ?_
 refine wE rfl rfl rfl (Qq _ _) rfl ?_
 refine gx ?_
 exact ah rfl ⟨rfl,hs⟩
theorem gK {s:Bs} (hs:Sat W0 F w) :
 Calls Tryz.prog 92 #[str s] w fun x w'=>∃ ve,x=.returned ve∧Sat W0 (aH ve (some (some s,7))::F) w':=by
 refine enter Tryz.func92 rfl Tryz.ntmps92 Tryz.results92 rfl ?_
 refine gx ?_
 refine bz [str s,.int .i64 7] ?_
 refine bR hs fun w b hs=>?_
 refine gx ?_
 exact ah rfl ⟨_,rfl,hs.pT⟩
theorem sI {e:cx} {ve:Value} (hE:iD W0) (hs:Sat W0 (aH ve (some e)::F) w) :
 Calls Tryz.prog 96 #[ve] w fun x w'=>∃ ve',x=.returned ve'∧Sat W0 (aH ve' (some (tf e))::F) w':=by
 obtain ⟨o,k⟩:=e
 refine enter Tryz.func96 rfl Tryz.ntmps96 Tryz.results96 rfl ?_
 cases o with
 | none=>
  have hv:=hs.Cy
  subst hv
  refine gx ?_
  refine aS hs fun w b3 hs=>?_
  refine gx ?_
  refine ag (met (Ii hE hs) ?_)
  clear hs
  rintro _ w ⟨rfl,hs⟩
  refine ⟨_,rfl,?_⟩
  refine gx ?_
  exact ah rfl ⟨_,rfl,hs.drop⟩
 | some s=>
  obtain ⟨b,rfl,h2⟩:=hs.Ld
  clear hs
  refine gx ?_
  refine aS h2 fun w b3 h2=>?_
  refine gx ?_
  refine ag (met (Ij hE h2) ?_)
  clear h2
  rintro _ w ⟨rfl,hs⟩
  refine ⟨_,rfl,?_⟩
  unfold tf
  dsimp only
  by_cases h10:k=10
  ·have h':((k:Nat):Int)=10:=by omega
   rw [if_pos h10]
   refine gx ?_
   refine ag (met (gK (s:=s) hs) ?_)
   clear hs
   rintro _ w ⟨ve,rfl,hs⟩
   refine ⟨_,rfl,?_⟩
   refine gx ?_
   exact ah rfl ⟨_,rfl,hs.to⟩
  ·have h':¬ ((k:Nat):Int)=10:=by omega
   rw [if_neg h10]
   refine gx ?_
   exact ah rfl ⟨_,rfl,hs.drop.sE⟩
def okB:Except cx Bs→Bs
 | .ok b=>b
 | .error _=>[]
theorem wM {n:Bs} (hs:Sat W0 (aj d D::F) w) :
 Calls Tryz.prog 89 #[ay d,str n] w fun x w'=>∃ v ve,x=.returned (.tuple #[v,ve])∧Sat W0 (aj d (iJ D n).2::cI v (okB (iJ D n).1)::aH ve (cU (iJ D n).1)::F) w':=by
 refine enter Tryz.func89 rfl Tryz.ntmps89 Tryz.results89 rfl ?_
 refine gx ?_
 have hok:=hs.Pr
 refine ag (met (JP (n:=n) hs) ?_)
 clear hs
 rintro _ w ⟨ve,rfl,hs⟩
 refine ⟨_,rfl,?_⟩
 unfold iJ
 cases h1:bx D n with
 | some e=>
  rw [h1] at hs
  obtain ⟨t,u,rfl⟩:=(hs.take (.there .here)).aQ
  refine gx ?_
  exact ah rfl ⟨_,_,rfl,(Sat.uT hs).to⟩
 | none=>
  rw [h1] at hs
  have hve:=(hs.take (.there .here)).cA
  subst hve
  have hsz:j6 D n≤9223372036854775807:=by
   unfold j6;rw [h1];dsimp only
   unfold fileOf
   cases hg:aD D.now n with
   | none=>simp
   | some i=>have:=Pure.ae.size_le hg;have:=hok.used;dsimp only;omega
  refine gx ?_
  refine ag (met (qF (nm:=n) (at_:=0) (n:=(j6 D n:Int)) hs (by omega) (by omega) (by omega) (by omega)) ?_)
  clear hs
  rintro _ w ⟨v,ve,rfl,hs⟩
  refine ⟨_,rfl,?_⟩
  refine gx ?_
  cases h2:bx D.tick n with
  | some e=>
   rw [h2] at hs
   refine ah rfl ⟨_,_,rfl,?_⟩
   have e2:iZ D.tick n 0 (j6 D n:Int)=[]:=by unfold iZ;rw [h2]
   rw [e2] at hs
   exact hs.to
  | none=>
   rw [h2] at hs
   exact ah rfl ⟨_,_,rfl,hs.to⟩
end
end Go.Proofs.YtecibefflhomdaaGreatDoor
