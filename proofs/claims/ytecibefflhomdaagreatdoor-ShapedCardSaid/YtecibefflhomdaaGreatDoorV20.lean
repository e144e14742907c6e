/-
  Part 20: The engine 26 'gx'; WALKS package levels; WALKS package levels.
-/
import Derived.Test.YtecibefflhomdaaGreatDoorV19
set_option maxHeartbeats 8000000
set_option maxRecDepth 100000
set_option linter.all false
namespace Go.Proofs.YtecibefflhomdaaGreatDoor
open Go
section
variable {ops:Array Oper} {Q:Exit→Act→World→Prop} {n:Nat} {ds:Md} {e:Env} {w:World} {rest:List Oper} {ord:List (Nat×Bool)} {S:World→Prop}
variable {op:Op} {ty:TypeId} {pos:String} {af:Array Edge} {d i j:Nat} {v:Value} {b b':Bool}
theorem OJ {l:List Oper} (k:WL ops Q n ds l e w):WL ops Q n ds l e w:=k
theorem OK {c:Code} (k:WC c Q n ds e w):WC c Q n ds e w:=k
theorem OL {x:Exit} (k:WQ Q x n ds e w):WQ Q x n ds e w:=k
theorem PW (k:WO ops Q S n ds ord e w):WO ops Q S n ds ord e w:=k
theorem Ko {dst:Option Nat} {bo:BinOp} {t t2:TypeId} {x y:Operand} (k:WL ops Q n ds (⟨dst,.binOp bo t x y t2,ty,pos,af,none⟩::rest) e w):WL ops Q n ds (⟨dst,.binOp bo t x y t2,ty,pos,af,none⟩::rest) e w:=k
theorem Kq {dst:Option Nat} {s t:TypeId} {x:Operand} (k:WL ops Q n ds (⟨dst,.convert s t x,ty,pos,af,none⟩::rest) e w):WL ops Q n ds (⟨dst,.convert s t x,ty,pos,af,none⟩::rest) e w:=k
theorem Kr {dst:Option Nat} {bi:Builtin} {xs:Array Operand} {ts:Array TypeId} (k:WL ops Q n ds (⟨dst,.call { callee:=.builtin bi,args:=xs,argTypes:=ts },ty,pos,af,none⟩::rest) e w):WL ops Q n ds (⟨dst,.call { callee:=.builtin bi,args:=xs,argTypes:=ts },ty,pos,af,none⟩::rest) e w:=k
theorem OM {dst:Option Nat} {g:Nat×Bool} (k:WL ops Q n ds (⟨dst,op,ty,pos,af,some g⟩::rest) e w):WL ops Q n ds (⟨dst,op,ty,pos,af,some g⟩::rest) e w:=k
theorem ON {dst:Option Nat} {t:TypeId} {x:Operand} (k:WL ops Q n ds (⟨dst,.load t x,ty,pos,af,none⟩::rest) e w):WL ops Q n ds (⟨dst,.load t x,ty,pos,af,none⟩::rest) e w:=k
def QD (ops:Array Oper) (e:Env) (j:Nat):Bool:=match ops[j]? with
 | some ⟨some t,_,_,_,_,_⟩=>match lk e t with
  | some (.bool _)=>false
  | some _=>true
  | none=>false
 | _=>false
theorem s9 {a:Act} (ha:Fr n ds e a) (h:QD ops e j=true):yielded ops a.tmps j=none:=by
 unfold QD at h
 split at h
 ·rename_i t _ _ _ _ _ ho
  split at h
  ·cases h
  ·rename_i v hne hv
   have:=ha.get t _ hv
   cases v with
   | bool b=>exact (hne b rfl).elim
   | _=>simp [yielded,ho,this]
  ·cases h
 ·cases h
theorem Ks (h:QD ops e j=true) (hd:Nat.blt d n=true) (k:WL ops Q n ds rest ((d,undef)::e) w):WL ops Q n ds (⟨some d,op,ty,pos,af,some (j,b')⟩::rest) e w:=by
 unfold WL at *
 intro a ha
 simp only [wpList,Region.wanted,s9 ha h]
 exact k _ (ha.put hd)
theorem NG (ho:ops[i]?=some ⟨some d,op,ty,pos,af,some (j,b')⟩) (h:QD ops e j=true) (hd:Nat.blt d n=true) (k:WO ops Q S n ds ord ((d,undef)::e) w):WO ops Q S n ds ((i,false)::ord) e w:=by
 unfold WO at *
 intro a ha hS
 exact ⟨_,undef,ho,.inr ⟨by simp [Region.wanted,s9 ha h],rfl⟩,hS,k _ (ha.put hd) hS⟩
theorem Kt {x:Int} (ho:ops[i]?=some ⟨some d,op,ty,pos,af,none⟩) (hv:yv e op=some (.int .u64 (IntKind.u64.wrap x))) (h1:0≤x) (h2:x≤18446744073709551615) (hd:Nat.blt d n=true)
 (k:WO ops Q S n ds ord ((d,.int .u64 x)::e) w):WO ops Q S n ds ((i,false)::ord) e w:=nK ho (by rw [hv,IntWalk.u64_in _ ⟨h1,h2⟩]) hd k
theorem NH (ho:ops[i]?=some ⟨some d,op,ty,pos,af,none⟩) (hv:yv e op=some (.bool b)) (hp:b=true) (hd:Nat.blt d n=true) (k:WO ops Q S n ds ord ((d,.bool true)::e) w):WO ops Q S n ds ((i,false)::ord) e w:=nK ho (by rw [hv,hp]) hd k
theorem NI (ho:ops[i]?=some ⟨some d,op,ty,pos,af,none⟩) (hv:yv e op=some (.bool b)) (hp:b=false) (hd:Nat.blt d n=true) (k:WO ops Q S n ds ord ((d,.bool false)::e) w):WO ops Q S n ds ((i,false)::ord) e w:=nK ho (by rw [hv,hp]) hd k
end
theorem gx {G G':Prop} (k:G') (h:zr G'→G:=by
 (intro k
  repeat (first
   | (refine OJ ?_
      first
       | refine rH ?_
       | refine eP (op:=.fieldAddr _ _ _) rfl rfl ?_
       | refine eP (op:=.nilCheck _) rfl rfl ?_
       | (refine ON ?_
          first
           | refine eF (by assumption) rfl rfl (by repeat (first|exact Take.here|apply Take.there)) (by rfl) rfl ?_
           | refine dF [_,_] (by assumption) rfl rfl rfl (by repeat (first|exact Take.here|apply Take.there)) (by exact ⟨rfl,rfl,trivial⟩) rfl ?_
           | refine dF [_,_,_] (by assumption) rfl rfl rfl (by repeat (first|exact Take.here|apply Take.there)) (by exact ⟨rfl,rfl,rfl,trivial⟩) rfl ?_
           | refine dF [_,_,_,_] (by assumption) rfl rfl rfl (by repeat (first|exact Take.here|apply Take.there)) (by exact ⟨rfl,rfl,rfl,rfl,trivial⟩) rfl ?_
           | refine dF [_,_,_,_,_] (by assumption) rfl rfl rfl (by repeat (first|exact Take.here|apply Take.there)) (by exact ⟨rfl,rfl,rfl,rfl,rfl,trivial⟩) rfl ?_
           | refine dF [_,_,_,_,_,_] (by assumption) rfl rfl rfl (by repeat (first|exact Take.here|apply Take.there)) (by exact ⟨rfl,rfl,rfl,rfl,rfl,rfl,trivial⟩) rfl ?_)
       | (refine Ko ?_
          first
           | refine AR rfl (by omega) (by omega) rfl ?_
           | refine nV rfl (by omega) (by omega) rfl ?_
           | refine AX rfl (by first|assumption|omega) rfl ?_
           | refine AY rfl (by first|assumption|omega) rfl ?_
           | refine AZ rfl (by assumption) rfl ?_
           | refine A0 rfl (by assumption) rfl ?_
           | refine rL rfl (by omega) (by omega) rfl ?_
           | refine eP rfl rfl ?_)
       | (refine Kq ?_
          first
           | refine AR rfl (by omega) (by omega) rfl ?_
           | refine nV rfl (by omega) (by omega) rfl ?_
           | refine rL rfl (by omega) (by omega) rfl ?_
           | refine FJ rfl rfl ?_
           | refine eP rfl rfl ?_)
       | (refine OM ?_
          first
           | refine sM rfl ?_
           | refine uH rfl rfl rfl ?_
           | refine Ks rfl rfl ?_)
       | (refine Kr ?_
          refine eP rfl rfl ?_)
       | refine eP (op:=.move _) (ty:=4) rfl rfl ?_
       | refine eP (op:=.move _) rfl rfl ?_
       | refine eP (op:=.assign _) rfl rfl ?_
       | refine eP (op:=.extract _ _) rfl rfl ?_
       | refine eP (op:=.unOp _ _ _) rfl rfl ?_
       | refine eP (op:=.pick _ _ _) rfl rfl ?_
       | refine eP (op:=.makeInterface _ _) rfl rfl ?_
       | refine eP (op:=.makeFunc _ _ _) rfl rfl ?_)
   | (refine OK ?_
      first
       | refine dV ?_
       | refine me rfl ?_
       | refine nS rfl ?_
       | refine nT rfl ?_
       | refine gW ?_
       | refine qk ?_
       | refine uD ?_
       | refine ql ?_)
   | (refine OL ?_
      first
       | refine cV rfl ?_
       | refine jj ?_
       | refine jX ?_
       | refine uE ?_
       | refine kL ?_
       | refine kM ?_
       | refine jY rfl ?_
       | refine jk ?_
       | refine jZ ?_
       | refine zq rfl ?_
       | refine FQ (Sat.to (by assumption)) ?_)
   | (refine PW ?_
      first
       | refine zo ?_
       | refine nK (op:=.fieldAddr _ _ _) rfl rfl rfl ?_
       | refine nK (op:=.nilCheck _) rfl rfl rfl ?_
       | refine nK (op:=.assign _) rfl rfl rfl ?_
       | refine nK (op:=.move _) rfl rfl rfl ?_
       | refine qp rfl rfl rfl (by repeat (first|exact Take.here|apply Take.there)) (by rfl) rfl ?_
       | refine ub rfl ?_
       | refine Mr rfl rfl (by omega) (by omega) rfl ?_
       | refine Kt rfl rfl (by omega) (by omega) rfl ?_
       | refine FM rfl rfl (by first|assumption|omega) rfl ?_
       | refine FN rfl rfl (by first|assumption|omega) rfl ?_
       | refine NH rfl rfl (by assumption) rfl ?_
       | refine NI rfl rfl (by assumption) rfl ?_
       | refine nK rfl rfl rfl ?_
       | refine FO rfl rfl rfl rfl ?_
       | refine NG rfl rfl rfl ?_
       | refine FP rfl rfl rfl rfl ?_
       | refine zp rfl rfl rfl rfl (by repeat (first|exact Take.here|apply Take.there)) (by rfl) rfl ?_
       | refine fZ [_,_] rfl rfl rfl rfl (by repeat (first|exact Take.here|apply Take.there)) (by exact ⟨rfl,rfl,trivial⟩) rfl ?_
       | refine fZ [_,_,_] rfl rfl rfl rfl (by repeat (first|exact Take.here|apply Take.there)) (by exact ⟨rfl,rfl,rfl,trivial⟩) rfl ?_
       | refine fZ [_,_,_,_] rfl rfl rfl rfl (by repeat (first|exact Take.here|apply Take.there)) (by exact ⟨rfl,rfl,rfl,rfl,trivial⟩) rfl ?_
       | refine fZ [_,_,_,_,_] rfl rfl rfl rfl (by repeat (first|exact Take.here|apply Take.there)) (by exact ⟨rfl,rfl,rfl,rfl,rfl,trivial⟩) rfl ?_))
  exact k.out)):G:=h ⟨k⟩
theorem gE {G G':Prop} (k:G') (h:zr G'→G:=by
 (intro k
  repeat (first
   | (refine OJ ?_
      first
       | refine rH ?_
       | refine eP (op:=.fieldAddr _ _ _) rfl rfl ?_
       | refine eP (op:=.nilCheck _) rfl rfl ?_
       | (refine ON ?_
          first
           | refine eF (by assumption) rfl rfl (by repeat (first|exact Take.here|apply Take.there)) (by rfl) rfl ?_
           | refine dF [_,_] (by assumption) rfl rfl rfl (by repeat (first|exact Take.here|apply Take.there)) (by exact ⟨rfl,rfl,trivial⟩) rfl ?_
           | refine dF [_,_,_] (by assumption) rfl rfl rfl (by repeat (first|exact Take.here|apply Take.there)) (by exact ⟨rfl,rfl,rfl,trivial⟩) rfl ?_
           | refine dF [_,_,_,_] (by assumption) rfl rfl rfl (by repeat (first|exact Take.here|apply Take.there)) (by exact ⟨rfl,rfl,rfl,rfl,trivial⟩) rfl ?_
           | refine dF [_,_,_,_,_] (by assumption) rfl rfl rfl (by repeat (first|exact Take.here|apply Take.there)) (by exact ⟨rfl,rfl,rfl,rfl,rfl,trivial⟩) rfl ?_
           | refine dF [_,_,_,_,_,_] (by assumption) rfl rfl rfl (by repeat (first|exact Take.here|apply Take.there)) (by exact ⟨rfl,rfl,rfl,rfl,rfl,rfl,trivial⟩) rfl ?_)
       | (refine Ko ?_
          first
           | refine AR rfl (by omega) (by omega) rfl ?_
           | refine nV rfl (by omega) (by omega) rfl ?_
           | refine AX rfl (by first|assumption|omega) rfl ?_
           | refine AY rfl (by first|assumption|omega) rfl ?_
           | refine AZ rfl (by assumption) rfl ?_
           | refine A0 rfl (by assumption) rfl ?_
           | refine rL rfl (by omega) (by omega) rfl ?_
           | refine eP rfl rfl ?_)
       | (refine Kq ?_
          first
           | refine AR rfl (by omega) (by omega) rfl ?_
           | refine nV rfl (by omega) (by omega) rfl ?_
           | refine rL rfl (by omega) (by omega) rfl ?_
           | refine FJ rfl rfl ?_
           | refine eP rfl rfl ?_)
       | (refine OM ?_
          first
           | refine sM rfl ?_
           | refine uH rfl rfl rfl ?_
           | refine Ks rfl rfl ?_)
       | (refine Kr ?_
          refine eP rfl rfl ?_)
       | refine eP (op:=.move _) (ty:=4) rfl rfl ?_
       | refine eP (op:=.move _) rfl rfl ?_
       | refine eP (op:=.assign _) rfl rfl ?_
       | refine eP (op:=.extract _ _) rfl rfl ?_
       | refine eP (op:=.unOp _ _ _) rfl rfl ?_
       | refine eP (op:=.pick _ _ _) rfl rfl ?_
       | refine eP (op:=.makeInterface _ _) rfl rfl ?_
       | refine eP (op:=.makeFunc _ _ _) rfl rfl ?_)
   | (refine OK ?_
      first
       | refine me rfl ?_
       | refine nS rfl ?_
       | refine nT rfl ?_
       | refine gW ?_
       | refine qk ?_
       | refine uD ?_
       | refine ql ?_)
   | (refine OL ?_
      first
       | refine jj ?_
       | refine jX ?_
       | refine uE ?_
       | refine kL ?_
       | refine kM ?_
       | refine jY rfl ?_
       | refine jk ?_
       | refine jZ ?_
       | refine zq rfl ?_
       | refine FQ (Sat.to (by assumption)) ?_)
   | (refine PW ?_
      first
       | refine zo ?_
       | refine nK (op:=.fieldAddr _ _ _) rfl rfl rfl ?_
       | refine nK (op:=.nilCheck _) rfl rfl rfl ?_
       | refine nK (op:=.assign _) rfl rfl rfl ?_
       | refine nK (op:=.move _) rfl rfl rfl ?_
       | refine qp rfl rfl rfl (by repeat (first|exact Take.here|apply Take.there)) (by rfl) rfl ?_
       | refine ub rfl ?_
       | refine Mr rfl rfl (by omega) (by omega) rfl ?_
       | refine Kt rfl rfl (by omega) (by omega) rfl ?_
       | refine FM rfl rfl (by first|assumption|omega) rfl ?_
       | refine FN rfl rfl (by first|assumption|omega) rfl ?_
       | refine NH rfl rfl (by assumption) rfl ?_
       | refine NI rfl rfl (by assumption) rfl ?_
       | refine nK rfl rfl rfl ?_
       | refine FO rfl rfl rfl rfl ?_
       | refine NG rfl rfl rfl ?_
       | refine FP rfl rfl rfl rfl ?_
       | refine zp rfl rfl rfl rfl (by repeat (first|exact Take.here|apply Take.there)) (by rfl) rfl ?_
       | refine fZ [_,_] rfl rfl rfl rfl (by repeat (first|exact Take.here|apply Take.there)) (by exact ⟨rfl,rfl,trivial⟩) rfl ?_
       | refine fZ [_,_,_] rfl rfl rfl rfl (by repeat (first|exact Take.here|apply Take.there)) (by exact ⟨rfl,rfl,rfl,trivial⟩) rfl ?_
       | refine fZ [_,_,_,_] rfl rfl rfl rfl (by repeat (first|exact Take.here|apply Take.there)) (by exact ⟨rfl,rfl,rfl,rfl,trivial⟩) rfl ?_
       | refine fZ [_,_,_,_,_] rfl rfl rfl rfl (by repeat (first|exact Take.here|apply Take.there)) (by exact ⟨rfl,rfl,rfl,rfl,rfl,trivial⟩) rfl ?_))
  exact k.out)):G:=h ⟨k⟩
section
open Go.Proofs.YtecibefflhomdaaGreatDoor.Pure (ae aB Rd bH less aR aZ bL bC aF dj dec kj Kp I1 gw kU js gG keeps)
attribute [local irreducible] IntKind.wrap
variable {W0 w:World} {F:List ax} {v:Value} {d m p:Nat} {T:bN} {D D':ae} {M:List aB}
theorem D8 {l:List aB} {e:aB} (h:l.getLast?=some e) (hd:e.del=true):js l.length l=js l.dropLast.length l.dropLast:=by
 have hne:l≠[]:=by intro h';subst h';cases h
 obtain ⟨n,hn⟩:∃ n,l.length=n+1:=⟨l.length-1,by have:=List.length_pos_iff.2 hne;omega⟩
 rw [hn]
 simp only [js,h,hd,if_true]
 rw [List.length_dropLast,hn];rfl
theorem vN {l:List aB} (h:l=[]∨∃ e,l.getLast?=some e∧e.del=false):js l.length l=l:=by
 rcases h with rfl|⟨e,h,hd⟩
 ·rfl
 ·have hne:l≠[]:=by intro h';subst h';cases h
  obtain ⟨n,hn⟩:∃ n,l.length=n+1:=⟨l.length-1,by have:=List.length_pos_iff.2 hne;omega⟩
  rw [hn]
  simp only [js,h,hd,Bool.false_eq_true,if_false]
theorem Sat.OO {b c:Nat} {l:List aB} (h:Sat W0 (jw (.slice (some ⟨b,0,none⟩) l.length c) l::F) w) (hl:0<l.length):Sat W0 (jw (.slice (some ⟨b,0,none⟩) (l.length-1) c) l.dropLast::F) w:=by
 obtain ⟨b',cap,rs,hv,q1,q2,q3,hs⟩:=h.dw hl
 obtain ⟨hb,_,rfl⟩:=Value.slice.inj hv
 cases hb
 have hne:l≠[]:=by intro h';subst h';simp at hl
 have e1:l=l.dropLast++[l.getLast hne]:=(List.dropLast_concat_getLast hne).symm
 have e2:(bg l).flatten=(bg l.dropLast).flatten++aI (l.getLast hne):=(congrArg (fun z=>(bg z).flatten) e1).trans (mx _ _)
 rw [e2,List.append_assoc] at hs
 have hlen:l.dropLast.length=l.length-1:=List.length_dropLast
 have hs:=Sat.dg (k:=4) (len:=l.length-1) (cs:=(bg l.dropLast).flatten) hs (by omega) q2 (by simp only [List.length_append,q3,aI,List.length_cons,List.length_nil];omega) (by rw [m7,hlen]) (mw _)
 rw [← hlen] at hs ⊢
 exact hs
abbrev Pw (bb bs bo:Nat) (bot:Bool) (vs vo:Value) (same out:List aB):List ax:=[blk bs 118 [vs],jw vs same,blk bo 118 [vo],jw vo out,blk bb 4 [.bool bot]]
theorem yf {bb bs bo:Nat} {bot:Bool} {vs vo:Value} {k:Kp} (hs:Sat W0 (Pw bb bs bo bot vs vo k.same k.out++F) w) (hb:k.out.length+k.same.length≤1099511627776) :
 Calls Tryz.prog 206 #[ay bb,ay bs,ay bo] w fun x w'=>∃ u vs' vo',x=.returned u∧Sat W0 (Pw bb bs bo bot vs' vo' (gw bot k).same (gw bot k).out++F) w':=by
 dsimp only [Pw,List.cons_append,List.nil_append] at hs
 refine enter Tryz.func206 rfl Tryz.ntmps206 Tryz.results206 rfl ?_
 refine fh (α:=Value×List aB) (fun _=>[(0,ay bb),(1,ay bs),(2,ay bo)])
  (fun z w=>(z.2=(if bot=true then js k.same.length k.same else k.same)∧z.2.length≤k.same.length)∧Sat W0 (blk bs 118 [z.1]::jw z.1 z.2::blk bo 118 [vo]::jw vo k.out::blk bb 4 [.bool bot]::F) w) ?_ ?_
 ·refine gE ?_
  refine aJ (α:=Value×List aB) (fun _=>[(0,ay bb),(1,ay bs),(2,ay bo)])
   (fun z w=>((if bot=true then js z.2.length z.2 else z.2)=(if bot=true then js k.same.length k.same else k.same)∧z.2.length≤k.same.length)∧Sat W0 (blk bs 118 [z.1]::jw z.1 z.2::blk bo 118 [vo]::jw vo k.out::blk bb 4 [.bool bot]::F) w) (fun z=>z.2.length) (vs,k.same) ⟨rfl,rfl,rfl,trivial⟩ ⟨⟨rfl,Nat.le_refl _⟩,hs⟩ ?_
  clear hs
  rintro ⟨vl,l⟩ w ⟨⟨h1,h2⟩,hs⟩
  dsimp only at h1 h2 hs ⊢
  obtain ⟨a,c,rfl,hc⟩:=(hs.take (.there .here)).rX
  cases bot with
  | false=>
   refine gx ?_
   exact bG (.slice a l.length c,l) ⟨rfl,rfl,rfl,trivial⟩ ⟨⟨h1,h2⟩,hs⟩
  | true=>
   simp only [if_true] at h1 ⊢
   by_cases hl:0<l.length
   ·have hl':(l.length:Int) > 0:=by omega
    have hne:l≠[]:=by intro h';subst h';simp at hl
    obtain ⟨b,cap,rs,hv,q1,q2,q3,hs2⟩:=(hs.take (.there .here)).dw hl
    obtain ⟨rfl,_,rfl⟩:=Value.slice.inj hv
    have hlast:l[l.length-1]?=some (l.getLast hne):=by rw [List.getLast_eq_getElem];exact List.getElem?_eq_getElem (by omega)
    have hrow:=(ie (k:=4) (gN l) (i:=l.length-1) (r:=aI (l.getLast hne)) (by simp [bg,hlast])).app (rest:=rs)
    have hdel:((bg l).flatten++rs)[0+(l.length-1)*4+2]?=some (.bool (l.getLast hne).del):=by
     rw [Nat.zero_add];exact hrow.2.2.1
    have hgl:l.getLast?=some (l.getLast hne):=List.getLast?_eq_some_getLast hne
    generalize l.getLast hne=z at *
    refine gx ?_
    refine cN (i:=l.length-1) rfl rfl (by omega) rfl rfl (by omega) rfl ?_
    refine gx ?_
    refine eF hs2 rfl rfl .here (by exact hdel) rfl ?_
    cases hd:z.del with
    | true=>
     refine gx ?_
     have hs:=((hs.take (.there .here)).OO hl)
     have hdl:l.dropLast.length=l.length-1:=List.length_dropLast
     refine mT 0 (l.length-1) rfl rfl rfl rfl (by show some (Value.int .i64 ((l.length:Int)-1))=some (Value.int .i64 ((l.length-1:Nat):Int));congr 2;omega) (by omega) (by omega) rfl ?_
     have e0:cutAt b 0 c 0 4=⟨b,0,none⟩:=by unfold cutAt;split<;>simp
     rw [e0,Nat.sub_zero,Nat.sub_zero]
     refine gx ?_
     refine bK hs fun w hs=>?_
     refine gx ?_
     refine az (.slice (some ⟨b,0,none⟩) (l.length-1) c,l.dropLast) ⟨rfl,rfl,rfl,trivial⟩ ⟨⟨?_,?_⟩,hs.to⟩ ?_
     ·rw [← h1];exact (D8 hgl hd).symm
     ·dsimp only;omega
     ·dsimp only;omega
    | false=>
     refine gx ?_
     have:=vN (l:=l) (.inr ⟨z,hgl,hd⟩)
     rw [this] at h1
     exact bG (.slice (some ⟨b,0,none⟩) l.length c,l) ⟨rfl,rfl,rfl,trivial⟩ ⟨⟨h1,h2⟩,hs⟩
   ·have hl':¬ (l.length:Int) > 0:=by omega
    have hl0:l=[]:=List.eq_nil_of_length_eq_zero (by omega)
    refine gx ?_
    have:=vN (l:=l) (.inl hl0)
    rw [this] at h1
    exact bG (.slice a l.length c,l) ⟨rfl,rfl,rfl,trivial⟩ ⟨⟨h1,h2⟩,hs⟩
 ·clear hs
  rintro ⟨vl,l⟩ w ⟨⟨h1,h2⟩,hs⟩
  dsimp only at h1 h2 hs
  refine gx ?_
  have e3:jw vo k.out=aL 4 vo 256 k.out.length (bg k.out).flatten:=rfl
  refine mf (k:=4) (m:=l.length) (news:=(bg l).flatten) hs rfl rfl (by repeat (first|exact Take.here|apply Take.there)) (rM rfl (.there .here)) rfl rfl rfl rfl rfl (by simp only [maxLen];omega) (by omega) rfl fun v' w hs=>?_
  refine gx ?_
  obtain ⟨a9,c9,rfl,-⟩:=hs.aC
  refine bK hs fun w hs=>?_
  refine gx ?_
  refine bK hs fun w hs=>?_
  refine gx ?_
  refine km rfl ⟨_,.slice none 0 0,.slice a9 (k.out.length+l.length) c9,rfl,?_⟩
  have e4:(gw bot k).out=k.out++l:=by unfold gw;rw [h1]
  have e5:(gw bot k).same=[]:=rfl
  rw [e4,e5]
  have hs:=Sat.cH (k:=4) (E:=256) hs
  have e6:jw (.slice a9 (k.out.length+l.length) c9) (k.out++l)=aL 4 (.slice a9 (k.out.length+l.length) c9) 256 (k.out.length+l.length) ((bg k.out).flatten++(bg l).flatten):=by
   show aL 4 _ 256 (k.out++l).length (bg (k.out++l)).flatten=_
   rw [List.length_append];simp [bg]
  dsimp only [Pw,List.cons_append,List.nil_append]
  rw [e6]
  exact hs.to
end
section
open Go.Proofs.YtecibefflhomdaaGreatDoor.Pure (ae aB Rd bH less aR aZ bL bC aF dj dec kj Kp I1 gw kU js gG keeps)
attribute [local irreducible] IntKind.wrap
variable {W0 w:World} {F:List ax} {v:Value} {d m p:Nat} {T:bN} {D D':ae} {M:List aB}
def Px {α:Type} (C:α→ax):Except cx α→ax
 | .ok a=>C a
 | .error _=>fun _=>True
structure QE where
 bs:Nat
 bo:Nat
 bb:Nat
 bl:Nat
 ba:Nat
 bm:Nat
 bd:Nat
 mv:Value
 us:List Nat
 bot:Bool
abbrev D9 (G:QE) (k:Kp) (vs vo:Value):List ax:=
 [blk G.bs 118 [vs],jw vs k.same,blk G.bo 118 [vo],jw vo k.out,blk G.bb 4 [.bool G.bot],blk G.bl 256 (aI k.later),blk G.ba 4 [.bool k.any],blk G.bm 341 [G.mv],aL 1 G.mv 131 G.us.length (G.us.map uV),blk G.bd 1 [.func (.func 206) #[] #[ay G.bb,ay G.bs,ay G.bo]]]
def QF (G:QE) (k:Kp):ax:=fun h=>∃ z:Value×Value,cL (D9 G k z.1 z.2) h
theorem Sat.Ku {G:QE} {k:Kp} (h:Sat W0 (QF G k::F) w):∃ vs vo,Sat W0 (D9 G k vs vo++F) w:=by
 obtain ⟨z,_,hs⟩:=h.e9 (φ:=fun _:Value×Value=>True) (B:=fun z=>D9 G k z.1 z.2) fun hp ⟨z,k⟩=>⟨z,trivial,k⟩
 exact ⟨z.1,z.2,hs⟩
theorem Sat.Gh {G:QE} {k:Kp} {vs vo:Value} (h:Sat W0 (D9 G k vs vo++F) w):Sat W0 (QF G k::F) w:=Sat.close h fun hp q=>⟨(vs,vo),q⟩
theorem Sat.ML {nx:Nx} (h:Sat W0 (Ge d m v nx::F) w):∃ f q,v=.func (.func f) #[] q:=by
 cases nx with
 | one it=>exact Sat.qR h
 | mg g=>exact h.fT fun hp ⟨_,z,hv,_⟩=>⟨214,_,hv⟩
theorem Kv {α:Type} {a b:List α} (h:a.Perm b) (f:α→Bool):a.any f=b.any f:=by
 rw [Bool.eq_iff_iff,List.any_eq_true,List.any_eq_true]
 exact ⟨fun ⟨x,hx,hf⟩=>⟨x,h.mem_iff.1 hx,hf⟩,fun ⟨x,hx,hf⟩=>⟨x,h.mem_iff.2 hx,hf⟩⟩
attribute [local irreducible] ob aL aj aO aM Ge QF aH eV Q8 gr vw cF mb OH star gL
theorem yg {b:Nat} {K:SK} {z:SZ} {s:St} {nx:Nx} {bot:Bool} {x:Except cx (List aB)} (h:sZ s D nx bot=some (x,D')) (hmx:s.mem.length≤1099511627776)
 (hs:Sat W0 (blk b 133 (ak K z s)::aM aY z.sn (aA s.snaps)::Ge K.d z.m v nx::aO z.m s.mem::aj K.d D::F) w) :
 Calls Tryz.prog 168 #[ay b,v,.bool bot] w fun y w'=>∃ lv ve,y=.returned (.tuple #[lv,ve])∧Sat W0 (blk b 133 (ak K z s)::aM aY z.sn (aA s.snaps)::aO z.m s.mem::aj K.d D'::aH ve (cU x)::Px (jw lv) x::F) w':=by
 unfold sZ at h
 split at h
 ·cases h
 rename_i hsn
 obtain ⟨f,q,rfl,hf⟩:=(hs.take (.there (.there .here))).ML
 refine vB Tryz.func168 rfl Tryz.ntmps168 Tryz.results168 rfl ?_
 refine gx ?_
 refine bR hs ?_
 clear hs
 intro w bb hs
 refine gx ?_
 refine ag (met (zV (hs.fg (.there .here) (.there .here)) (by omega)) ?_)
 clear hs
 rintro _ w ⟨mv,us,rfl,hp,hs⟩
 refine ⟨_,rfl,?_⟩
 have hup:=fun (g:Nat→Bool)=>Kv hp g
 have hul:us.length≤9:=by have:=hp.length_eq;simp [aN] at this;omega
 obtain ⟨am,cm,rfl,hcm⟩:=hs.aC
 refine aS hs ?_
 clear hs
 intro w bm hs
 refine bK hs ?_
 clear hs
 intro w hs
 refine gx ?_
 refine aS hs ?_
 clear hs
 intro w bo hs
 refine gx ?_
 refine aS hs ?_
 clear hs
 intro w bs hs
 refine gx ?_
 refine aS hs ?_
 clear hs
 intro w bd hs
 refine bK hs ?_
 clear hs
 intro w hs
 refine gx ?_
 refine aS hs ?_
 clear hs
 intro w be hs
 refine gx ?_
 refine aS hs ?_
 clear hs
 intro w bl hs
 refine gx ?_
 refine aS hs ?_
 clear hs
 intro w ba hs
 refine bK hs ?_
 clear hs
 intro w hs
 refine gx ?_
 refine ag (met (yb (f:=f) (q:=q) (eb:=be) hs) ?_)
 clear hs
 rintro _ w ⟨bn,bee,rfl,hs⟩
 refine ⟨_,rfl,?_⟩
 obtain ⟨k1,oe,hEach,hkb,hx⟩:∃ k1 oe,pz s.mem (BH (aN s) bot) iq nx D I1=some (k1,oe,D')∧k1.out.length+k1.same.length≤1099511627776∧((∃ er,oe=some er∧x=.error er)∨(oe=none∧x=.ok (gw bot k1).out)):=by
  split at h
  ·cases h
  ·rename_i k1 er D2 he
   split at h
   ·rename_i hb
    rw [bI] at hb
    simp only [Option.some.injEq,Prod.mk.injEq] at h
    obtain ⟨rfl,rfl⟩:=h
    exact ⟨k1,_,he,hb,.inl ⟨_,rfl,rfl⟩⟩
   ·cases h
  ·rename_i k1 D2 he
   split at h
   ·rename_i hb
    rw [bI] at hb
    simp only [Option.some.injEq,Prod.mk.injEq] at h
    obtain ⟨rfl,rfl⟩:=h
    exact ⟨k1,_,he,hb,.inr ⟨rfl,rfl⟩⟩
   ·cases h
 clear h
 refine gx ?_
 refine WC.sub (e':=[(8,ay bm),(9,ay bo),(10,ay bs),(11,ay bd),(12,ay be),(13,ay bl),(14,ay ba),(23,.func (.func 211) #[] #[ay bn,ay bee])]) ⟨rfl,rfl,rfl,rfl,rfl,rfl,rfl,rfl,trivial⟩ ?_
 have hs:=Sat.Gh (G:=⟨bs,bo,bb,bl,ba,bm,bd,.slice am us.length cm,us,bot⟩) (k:=I1) (vs:=.slice none 0 0) (vo:=.slice none 0 0) (F:=blk bn 288 [.func (.func f) #[] q]::blk bee 312 [ay be]::blk be 41 [.nilIface]::Ge K.d z.m (.func (.func f) #[] q) nx::aO z.m s.mem::aj K.d D::blk b 133 (ak K z s)::aM aY z.sn (aA s.snaps)::F)
  (((hs.cH (k:=4) (E:=256)).cH (k:=4) (E:=256)).to)
 refine Gf (v:=.func (.func f) #[] q) (d:=K.d) (m:=z.m) (nx:=nx) (C:=fun k=>[QF ⟨bs,bo,bb,bl,ba,bm,bd,.slice am us.length cm,us,bot⟩ k]) (id:=0) (bn:=bn) (be:=bee) (eb:=be) (oe:=oe) (s1:=k1) (D':=D') (F:=blk b 133 (ak K z s)::aM aY z.sn (aA s.snaps)::F) rfl rfl rfl hEach hmx hs.to ?_ ?_
 ·clear hs hEach
  intro k ent k' c L rc R w hbody hst hs
  dsimp only [List.cons_append,List.nil_append] at hs
  unfold BH at hbody
  by_cases hbig:k.out.length+k.same.length≤iq
  case neg=>rw [if_neg hbig] at hbody;cases hbody
  rw [if_pos hbig] at hbody
  rw [bI] at hbig
  simp only [Option.some.injEq,Prod.mk.injEq] at hbody
  obtain ⟨rfl,rfl⟩:=hbody
  refine gE ?_
  refine aS hs ?_
  clear hs
  intro w b15 hs
  refine da (vs:=aI ent) hs ?_
  clear hs
  intro w hs
  refine gE ?_
  refine qH (hs.take (.there .here)) hst fun w hs=>?_
  obtain ⟨vs,vo,hs⟩:=Sat.Ku (hs.take (.there (.there .here)))
  dsimp only [D9,List.cons_append,List.nil_append] at hs
  generalize hE:([(15,ay b15),(24,.agg (aI ent).toArray),(8,ay bm),(9,ay bo),(10,ay bs),(11,ay bd),(12,ay be),(13,ay bl),(14,ay ba),(23,.func (.func 211) #[] #[ay bn,ay bee])]:Env)=E0
  refine gW ?_
  refine fh (α:=Unit) (fun _=>(16,.bool (gG k ent))::E0) (fun _ w=>Sat W0 (D9 ⟨bs,bo,bb,bl,ba,bm,bd,.slice am us.length cm,us,bot⟩ k vs vo++blk b15 256 (aI ent)::ob false L (.loop { rc with state:=.busy })::R) w) ?_ ?_
  ·subst hE
   dsimp only [D9,List.cons_append,List.nil_append]
   obtain ⟨out,same,later,any⟩:=k
   dsimp only at hs ⊢
   cases any with
   | false=>
    refine gE ?_
    exact bG () ⟨rfl,rfl,rfl,rfl,rfl,rfl,rfl,rfl,rfl,rfl,rfl,trivial⟩ hs.to
   | true=>
    refine gE ?_
    exact bG () ⟨rfl,rfl,rfl,rfl,rfl,rfl,rfl,rfl,rfl,rfl,rfl,trivial⟩ hs.to
  clear hs
  rintro-w hs
  dsimp only [D9,List.cons_append,List.nil_append] at hs
  refine fh (α:=Value×Value×List aB×List aB) (fun _=>(16,.bool (gG k ent))::E0)
   (fun z' w=>((z'.2.2.1=if gG k ent=true then (gw bot k).out else k.out)∧(z'.2.2.2=if gG k ent=true then (gw bot k).same else k.same))∧Sat W0 (D9 ⟨bs,bo,bb,bl,ba,bm,bd,.slice am us.length cm,us,bot⟩ ⟨z'.2.2.1,z'.2.2.2,k.later,k.any⟩ z'.1 z'.2.1++blk b15 256 (aI ent)::ob false L (.loop { rc with state:=.busy })::R) w) ?_ ?_
  ·subst hE
   cases hF:gG k ent with
   | true=>
    refine gx ?_
    refine iM rfl rfl rfl rfl (met (yf (bb:=bb) (bs:=bs) (bo:=bo) (bot:=bot) (vs:=vs) (vo:=vo) (k:=k) (F:=blk bl 256 (aI k.later)::blk ba 4 [.bool k.any]::blk bm 341 [.slice am us.length cm]::aL 1 (.slice am us.length cm) 131 us.length (us.map uV)::blk bd 1 [.func (.func 206) #[] #[ay bb,ay bs,ay bo]]::blk b15 256 (aI ent)::ob false L (.loop { rc with state:=.busy })::R) hs hbig) ?_)
    clear hs
    rintro _ w ⟨u,vs',vo',rfl,hs⟩
    refine ⟨_,rfl,gx ?_⟩
    dsimp only [Pw,List.cons_append,List.nil_append] at hs
    refine bG (vs',vo',(gw bot k).out,(gw bot k).same) ⟨rfl,rfl,rfl,rfl,rfl,rfl,rfl,rfl,rfl,rfl,rfl,trivial⟩ ⟨⟨by simp,by simp⟩,hs.to⟩
   | false=>
    refine gx ?_
    refine bG (vs,vo,k.out,k.same) ⟨rfl,rfl,rfl,rfl,rfl,rfl,rfl,rfl,rfl,rfl,rfl,trivial⟩ ⟨⟨by simp,by simp⟩,hs.to⟩
  clear hs
  rintro ⟨vs,vo,o,sm⟩ w ⟨⟨ho,hsm⟩,hs⟩
  dsimp only [D9,List.cons_append,List.nil_append] at ho hsm hs
  have hsml:sm.length≤1099511627776:=by
   rw [hsm];split
   ·show ([]:List aB).length≤_;simp
   ·omega
  refine fh (α:=Value×Value×List aB×List aB) (fun _=>E0)
   (fun z' w=>(z'.2.2.1=o∧(z'.2.2.2=if keeps (aN s) k ent=true then sm++[ent] else sm))∧Sat W0 (D9 ⟨bs,bo,bb,bl,ba,bm,bd,.slice am us.length cm,us,bot⟩ ⟨z'.2.2.1,z'.2.2.2,k.later,k.any⟩ z'.1 z'.2.1++blk b15 256 (aI ent)::ob false L (.loop { rc with state:=.busy })::R) w) ?_ ?_
  ·have hkeep:keeps (aN s) k ent=us.any fun m=>decide (ent.seq≤m)&&(gG k ent||decide (m<k.later.seq)):=(hup _).symm
   rw [hkeep]
   subst hE
   refine gx ?_
   refine aJ (α:=Nat) (fun i=>[(37,.slice am us.length cm),(38,.int .i64 (us.length:Int)),(39,.int .i64 (i:Int)),(16,.bool (gG k ent)),(15,ay b15),(24,.agg (aI ent).toArray),(8,ay bm),(9,ay bo),(10,ay bs),(11,ay bd),(12,ay be),(13,ay bl),(14,ay ba),(23,.func (.func 211) #[] #[ay bn,ay bee])])
    (fun i w=>(i≤us.length∧(us.take i).any (fun m=>decide (ent.seq≤m)&&(gG k ent||decide (m<k.later.seq)))=false)∧Sat W0 (D9 ⟨bs,bo,bb,bl,ba,bm,bd,.slice am us.length cm,us,bot⟩ ⟨o,sm,k.later,k.any⟩ vs vo++blk b15 256 (aI ent)::ob false L (.loop { rc with state:=.busy })::R) w) (fun i=>us.length-i) 0 ⟨rfl,rfl,rfl,rfl,rfl,rfl,rfl,rfl,rfl,rfl,rfl,rfl,rfl,rfl,trivial⟩ ⟨⟨Nat.zero_le _,by simp⟩,hs.to⟩ ?_
   clear hs
   rintro i w ⟨⟨hi,hno⟩,hs⟩
   dsimp only [D9,List.cons_append,List.nil_append] at hs
   obtain ⟨av,cv,rfl,-⟩:=(hs.take (.there .here)).aC
   by_cases hlt:i<us.length
   ·have hg:us[i]?=some us[i]:=List.getElem?_eq_getElem hlt
    have htk:us.take (i+1)=us.take i++[us[i]]:=by rw [List.take_add_one,hg];rfl
    generalize us[i]=mm at hg htk
    obtain ⟨bb2,cap,rs,hv,q1,q2,q3,hs2⟩:=(hs.take (.there (.there (.there (.there (.there (.there (.there (.there .here))))))))).dw (by omega)
    obtain ⟨rfl,_,rfl⟩:=Value.slice.inj hv
    have hcell:(us.map uV++rs)[0+i*1]?=some (uV mm):=by
     rw [Nat.zero_add,Nat.mul_one,List.getElem?_append_left (by simpa using hlt),List.getElem?_map,hg];rfl
    refine gx ?_
    refine cN (i:=i) rfl rfl rfl rfl rfl hlt rfl ?_
    refine eF hs2 rfl rfl .here hcell rfl ?_
    clear hs2
    by_cases hle:ent.seq≤mm
    ·cases hF:gG k ent with
     | true=>
      have HK:(us.any fun m=>decide (ent.seq≤m)&&(true||decide (m<k.later.seq)))=true:=List.any_eq_true.2 ⟨mm,List.mem_of_getElem? hg,by simp [hle]⟩
      refine gx ?_
      refine ia (aI ent) hs (fun w b2 hs=>?_)
      refine dM hs ?_
      clear hs
      intro v2 w hs
      obtain ⟨a7,c7,rfl,-⟩:=hs.aC
      refine gx ?_
      refine bK hs ?_
      clear hs
      intro w hs
      refine gx ?_
      refine bG (.slice a7 (sm.length+1) c7,vo,o,sm++[ent]) ⟨rfl,rfl,rfl,rfl,rfl,rfl,rfl,rfl,rfl,rfl,trivial⟩ ⟨⟨rfl,by rw [HK];rfl⟩,?_⟩
      have e1:aL 4 (.slice a7 (sm.length+1) c7) 256 (sm.length+1) ((bg sm).flatten++aI ent)=jw (.slice a7 (sm.length+1) c7) (sm++[ent]):=by rw [← mx];show _=aL 4 _ 256 (sm++[ent]).length _;rw [List.length_append];rfl
      rw [e1] at hs
      exact hs.to
     | false=>
      by_cases hl2:mm<k.later.seq
      ·have HK:(us.any fun m=>decide (ent.seq≤m)&&(false||decide (m<k.later.seq)))=true:=List.any_eq_true.2 ⟨mm,List.mem_of_getElem? hg,by simp [hle,hl2]⟩
       refine gx ?_
       refine ia (aI ent) hs (fun w b2 hs=>?_)
       refine dM hs ?_
       clear hs
       intro v2 w hs
       obtain ⟨a7,c7,rfl,-⟩:=hs.aC
       refine gx ?_
       refine bK hs ?_
       clear hs
       intro w hs
       refine gx ?_
       refine bG (.slice a7 (sm.length+1) c7,vo,o,sm++[ent]) ⟨rfl,rfl,rfl,rfl,rfl,rfl,rfl,rfl,rfl,rfl,trivial⟩ ⟨⟨rfl,by rw [HK];rfl⟩,?_⟩
       have e1:aL 4 (.slice a7 (sm.length+1) c7) 256 (sm.length+1) ((bg sm).flatten++aI ent)=jw (.slice a7 (sm.length+1) c7) (sm++[ent]):=by rw [← mx];show _=aL 4 _ 256 (sm++[ent]).length _;rw [List.length_append];rfl
       rw [e1] at hs
       exact hs.to
      ·refine gx ?_
       refine az (i+1) ⟨rfl,rfl,rfl,rfl,rfl,rfl,rfl,rfl,rfl,rfl,rfl,rfl,rfl,rfl,trivial⟩ ⟨⟨hlt,?_⟩,hs.to⟩ (by omega)
       rw [hF] at hno
       rw [htk,List.any_append,hno];simp [hl2]
    ·refine gx ?_
     refine az (i+1) ⟨rfl,rfl,rfl,rfl,rfl,rfl,rfl,rfl,rfl,rfl,rfl,rfl,rfl,rfl,trivial⟩ ⟨⟨hlt,?_⟩,hs.to⟩ (by omega)
     rw [htk,List.any_append,hno];simp [hle]
   ·have hie:i=us.length:=by omega
    subst hie
    rw [List.take_length] at hno
    refine gx ?_
    refine bG (.slice av sm.length cv,vo,o,sm) ⟨rfl,rfl,rfl,rfl,rfl,rfl,rfl,rfl,rfl,rfl,trivial⟩ ⟨⟨rfl,by rw [hno];rfl⟩,hs.to⟩
  clear hs
  rintro ⟨vs,vo,o',sm'⟩ w ⟨⟨ho',hsm'⟩,hs⟩
  dsimp only [D9,List.cons_append,List.nil_append] at ho' hsm' hs
  subst ho'
  subst hE
  refine gx ?_
  refine da (vs:=aI ent) hs ?_
  clear hs
  intro w hs
  refine gx ?_
  refine bK hs ?_
  clear hs
  intro w hs
  refine gx ?_
  refine iy (hs.take (.there (.there (.there (.there (.there (.there (.there (.there (.there (.there (.there .here)))))))))))) fun w hs=>.inl ⟨rfl,rfl,?_⟩
  have e1:kU (aN s) bot k ent=⟨o',sm',ent,true⟩:=by
   unfold kU
   rw [hsm',ho,hsm]
   cases gG k ent<;>simp [gw]
  rw [e1]
  dsimp only [List.cons_append,List.nil_append]
  have hs:=Sat.Gh (G:=⟨bs,bo,bb,bl,ba,bm,bd,.slice am us.length cm,us,bot⟩) (k:=⟨o',sm',ent,true⟩) (vs:=vs) (vo:=vo) (F:=ob false L (.loop { rc with state:=.ready,pending:=none })::R) hs.to
  exact hs.to
 ·clear hs hEach
  intro xx Dk ve w hxx hs
  dsimp only [List.cons_append,List.nil_append] at hs
  obtain ⟨vs,vo,hs⟩:=Sat.Ku (hs.take (.there (.there (.there (.there (.there .here))))))
  dsimp only [D9,List.cons_append,List.nil_append] at hs
  rcases hxx with rfl|rfl<;>(
   refine gx ?_
   refine iM rfl rfl rfl rfl (met (yf (bb:=bb) (bs:=bs) (bo:=bo) (bot:=bot) (vs:=vs) (vo:=vo) (k:=k1) (F:=blk be 41 [ve]::ob false Dk (.deferred (some []))::aH ve oe::aO z.m s.mem::aj K.d D'::blk b 133 (ak K z s)::aM aY z.sn (aA s.snaps)::F) hs.to hkb) ?_)
   clear hs
   rintro _ w ⟨u,vs',vo',rfl,hs⟩
   refine ⟨_,rfl,gx ?_⟩
   dsimp only [Pw,List.cons_append,List.nil_append] at hs
   refine bO [blk bo 118 [vo'],blk be 41 [ve]] [(0,false),(1,false),(2,false),(3,false)] hs (by kernel_rfl) ?_
   clear hs
   intro w hs
   refine gx ?_
   refine oZ (hs.take (.there (.there (.there (.there (.there (.there .here))))))) rfl ?_
   clear hs
   intro w hs
   refine ⟨_,_,rfl,?_⟩
   rcases hx with ⟨er,rfl,rfl⟩|⟨rfl,rfl⟩
   ·exact Sat.to (Sat.emp hs)
   ·exact hs.to)
end
end Go.Proofs.YtecibefflhomdaaGreatDoor
