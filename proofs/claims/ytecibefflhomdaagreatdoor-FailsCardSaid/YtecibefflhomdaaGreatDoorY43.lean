/-
  Part 43: THE FRAME what the laid variables give.
-/
import Derived.Test.YtecibefflhomdaaGreatDoorY42
import Derived.ReadAgain
import Derived.OpenShut
import Derived.LaidMore
import Derived.LaidLaws
import Derived.LaidHandle
import Derived.ChangeSame
import Derived.RowKit
import Derived.RowKitTokens
set_option maxHeartbeats 8000000
set_option maxRecDepth 100000
set_option linter.all false
namespace Go.Proofs.YtecibefflhomdaaGreatDoor
open Go
section
open Go Go.ChangeShapes Go.WideShapes
abbrev o5:List (String×DataW Unit):=Rows.contentsRow.laid
theorem OK:Tryz.prog.globalNamed "errors.errorType" = some 0:=by kernel_rfl
theorem MZ:((List.range Tryz.prog.types.size).filter fun t=>Tryz.prog.rowNamed t [101,114,114,111,114])=[41]:=by kernel_rfl
variable {W W':World}
theorem Bc (h:laidMetH Tryz.prog o5 W):laidMet Tryz.prog (o5.take 3) W∧handlesMet Tryz.prog (o5.drop 3) W:=h
theorem K1 (h:laidMetH Tryz.prog o5 W):kY W:=by
 obtain ⟨name,u,ty,e1,e2,e3,e4,e5⟩:=(Bc h).2 _ (List.mem_singleton.2 rfl)
 have en:name=[101,114,114,111,114]:=(Option.some.inj e1).symm
 subst en
 obtain rfl:297=u:=Option.some.inj (Eq.trans (by kernel_rfl) e2)
 have hm:ty∈(List.range Tryz.prog.types.size).filter fun t=>Tryz.prog.rowNamed t [101,114,114,111,114]:=List.mem_filter.2 ⟨List.mem_range.2 e3,e4⟩
 rw [MZ] at hm
 obtain rfl:=List.mem_singleton.1 hm
 have hh:typeHandle Tryz.prog 41=.pointer (some ⟨4,41,none⟩):=by kernel_rfl
 rw [hh] at e5
 unfold kY
 simpa using World.var?_cell OK e5 0
theorem Jp:(Tryz.prog.globals[1]?).map (·.type)=some 372:=by kernel_rfl
theorem OL:Tryz.prog.cellsOf 131=1:=by kernel_rfl
theorem Jq {H:Type}:(Rows.laid_internal_strconv_uint64pow10:DataW H)=.agg ((List.range 20).map fun i=>.lit (.int .u64 ((10^i:Nat):Int))):=by rfl
theorem K2 (h:laidMetH Tryz.prog o5 W):jB W:=by
 obtain ⟨ps,⟨g0,t0,cs0,f0,p0,q0,hg0,ht0,hv0,hd0,⟨g1,t1,cs1,f1,p1,q1,hg1,ht1,hv1,hd1,⟨g2,t2,cs2,f2,p2,q2,hg2,ht2,hv2,hd2,_,_⟩,_⟩,_⟩,_,_⟩:=(Bc h).1
 obtain rfl:1=g2:=Option.some.inj (Eq.trans (by kernel_rfl) hg2)
 obtain rfl:=Option.some.inj (Jp.symm.trans ht2)
 obtain ⟨xs,m,rfl,hx,hlen,hn,hel⟩:=DataW.trod_array Tryz.underlying372 hd2
 rw [Jq] at hx
 simp only [Prod.mk.injEq,DataW.agg.injEq] at hx
 intro i hi
 rw [World.var?_cell hg2 hv2 i]
 have h1:=hel i hi
 rw [OL,Nat.mul_one] at h1
 have hi':i<xs.length:=by omega
 rw [List.getElem?_eq_getElem hi'] at h1
 obtain ⟨n,e1,e2,_⟩:=DataW.trod_int Tryz.underlying131 h1
 have h3:(xs.map (·.1))[i]?=some (.lit (.int .u64 n)):=by
  rw [List.getElem?_map,List.getElem?_eq_getElem hi',e2];rfl
 rw [← hx.1,List.getElem?_map,List.getElem?_range hi] at h3
 simp only [Option.map_some,Option.some.injEq,DataW.lit.injEq,Lit.int.injEq,true_and] at h3
 have h4:cs2.toList[i]?=some (.int .u64 n):=by
  have:=congrArg (fun l:List Value=>l[0]?) e1
  simp only [List.getElem?_take,List.getElem?_drop] at this
  simpa using this
 rw [Array.getElem?_toList] at h4
 rw [h4,← h3]
theorem n8 (h:Sat W [] W') {i:Nat} (hi:i<W.heap.size):W'.heap[i]?=W.heap[i]?:=by
 obtain ⟨_,_,_,_,hp,h1,h2,_⟩:=h
 rw [Array.getElem?_eq_getElem hi]
 exact h1 _ _ (h2 _ _ (Array.getElem?_eq_getElem hi))
theorem Bd (h:Sat W [] W') {p:MemPlace} (hp:p.block<W.heap.size):W.sameAt W' p:=by
 cases p with
 | cell b off=>
  show W'.cell? _=W.cell? _
  unfold World.cell?
  rw [show W'.heap[(⟨b,off,none⟩:Addr).block]?=W.heap[b]? from n8 h hp]
 | map b=>exact n8 h hp
theorem Be (h:Sat W [] W') (may:MemPlace→Prop):W.keptBut W' may:=by
 refine ⟨h.os,h.output,fun i hi=>?_⟩
 rw [n8 h hi]
 cases hb:W.heap[i]? with
 | none=>rfl
 | some o=>cases o<;>simp
theorem o6 {H:Type} {enc:TypeId×Value→H} {base:Nat} {sp:Nat→Bool} {held:Bool}:∀ {ts:List TypeId} {vs:List Value} {ds:List (DataW H)} {ps:List MemPlace},DataW.TrodAll enc Tryz.prog W base sp held ts vs ds ps→(∀ p∈ps,W.sameAt W' p)→DataW.TrodAll enc Tryz.prog W' base sp held ts vs ds ps
 | [],[],[],_,h,_=>h
 | _::_,_::_,_::_,_,⟨p,q,⟨n,h1⟩,h2,e⟩,hs=>⟨p,q,⟨n,DataW.trod_carry n _ _ _ h1 fun x hx=>hs x (by rw [e];exact List.mem_append_left _ hx)⟩,o6 h2 (fun x hx=>hs x (by rw [e];exact List.mem_append_right _ hx)),e⟩
theorem Ob:Kids Tryz.prog (· < Tryz.prog.types.size):=kids_rows (by kernel_rfl) (by kernel_rfl)
theorem Oc:∀ t e,t<Tryz.prog.types.size→Tryz.prog.underlying t=some (.slice e)→0<Tryz.prog.cellsOf e:=slices_full_of Tryz.prog (by kernel_rfl)
theorem Df {H:Type} {enc:TypeId×Value→H} {ts:List TypeId} {vs:List Value} {ds:List (DataW H)} {ps:List MemPlace} (ht:∀ t∈ts,t<Tryz.prog.types.size) (h:DataW.TrodAll enc Tryz.prog W 0 (fun _=>true) true ts vs ds ps) (hs:Sat W [] W') :
 DataW.TrodAll enc Tryz.prog W' 0 (fun b=>decide (b<W.heap.size)) true ts vs ds ps:=by
 have hlt:=h.lt
 exact o6 (h.respare Ob Oc ht (fun p hp=>by simpa using hlt p hp)) fun p hp=>Bd hs (hlt p hp)
theorem GF (os:Os) (args:Array Value):laidMetH Tryz.prog o5 ((World.doorLaid Tryz.prog 400 os).forCall (fun _ _=>0) ⟨#[],args,[]⟩).memory:=
 laidMetH_of_parts3 (fuel:=8) (laidMet_of_run' 8 (by kernel_rfl) (by kernel_rfl)) (by kernel_rfl) (by kernel_rfl)
theorem Bf (os:Os) (args:Array Value):((World.doorLaid Tryz.prog 400 os).forCall (fun _ _=>0) ⟨#[],args,[]⟩).Shaped Tryz.prog:=World.shaped_of_RefB (by kernel_rfl) (by kernel_rfl)
end
end Go.Proofs.YtecibefflhomdaaGreatDoor
