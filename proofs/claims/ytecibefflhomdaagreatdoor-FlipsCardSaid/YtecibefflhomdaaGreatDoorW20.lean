/-
  Part 20: The engine 26 'gx'; WALKS package levels; WALKS package levels.
-/
import Derived.Test.YtecibefflhomdaaGreatDoorW19
set_option maxHeartbeats 8000000
set_option maxRecDepth 100000
set_option linter.all false
namespace Go.Proofs.YtecibefflhomdaaGreatDoor
open Go
section
variable {ops:Array Oper} {Q:Exit→Act→World→Prop} {n:Nat} {ds:Md} {e:Env} {w:World} {rest:List Oper} {ord:List (Nat×Bool)} {S:World→Prop}
variable {op:Op} {ty:TypeId} {pos:String} {af:Array Edge} {d i j:Nat} {v:Value} {b b':Bool}
theorem LM {l:List Oper} (k:WL ops Q n ds l e w):WL ops Q n ds l e w:=k
theorem LN {c:Code} (k:WC c Q n ds e w):WC c Q n ds e w:=k
theorem LO {x:Exit} (k:WQ Q x n ds e w):WQ Q x n ds e w:=k
theorem M4 (k:WO ops Q S n ds ord e w):WO ops Q S n ds ord e w:=k
theorem HR {dst:Option Nat} {bo:BinOp} {t t2:TypeId} {x y:Operand} (k:WL ops Q n ds (⟨dst,.binOp bo t x y t2,ty,pos,af,none⟩::rest) e w):WL ops Q n ds (⟨dst,.binOp bo t x y t2,ty,pos,af,none⟩::rest) e w:=k
theorem HS {dst:Option Nat} {s t:TypeId} {x:Operand} (k:WL ops Q n ds (⟨dst,.convert s t x,ty,pos,af,none⟩::rest) e w):WL ops Q n ds (⟨dst,.convert s t x,ty,pos,af,none⟩::rest) e w:=k
theorem HT {dst:Option Nat} {bi:Builtin} {xs:Array Operand} {ts:Array TypeId} (k:WL ops Q n ds (⟨dst,.call { callee:=.builtin bi,args:=xs,argTypes:=ts },ty,pos,af,none⟩::rest) e w):WL ops Q n ds (⟨dst,.call { callee:=.builtin bi,args:=xs,argTypes:=ts },ty,pos,af,none⟩::rest) e w:=k
theorem LP {dst:Option Nat} {g:Nat×Bool} (k:WL ops Q n ds (⟨dst,op,ty,pos,af,some g⟩::rest) e w):WL ops Q n ds (⟨dst,op,ty,pos,af,some g⟩::rest) e w:=k
theorem LQ {dst:Option Nat} {t:TypeId} {x:Operand} (k:WL ops Q n ds (⟨dst,.load t x,ty,pos,af,none⟩::rest) e w):WL ops Q n ds (⟨dst,.load t x,ty,pos,af,none⟩::rest) e w:=k
def NJ (ops:Array Oper) (e:Env) (j:Nat):Bool:=match ops[j]? with
 | some ⟨some t,_,_,_,_,_⟩=>match lk e t with
  | some (.bool _)=>false
  | some _=>true
  | none=>false
 | _=>false
theorem sk {a:Act} (ha:Fr n ds e a) (h:NJ ops e j=true):yielded ops a.tmps j=none:=by
 unfold NJ at h
 split at h
 ·rename_i t _ _ _ _ _ ho
  split at h
  ·cases h
  ·rename_i v hne hv
   have:=ha.get t _ hv
   cases v with
   | bool b=>exact (hne b rfl).elim
   | _=>simp [yielded,ho,this]
  ·cases h
 ·cases h
theorem HU (h:NJ ops e j=true) (hd:Nat.blt d n=true) (k:WL ops Q n ds rest ((d,undef)::e) w):WL ops Q n ds (⟨some d,op,ty,pos,af,some (j,b')⟩::rest) e w:=by
 unfold WL at *
 intro a ha
 simp only [wpList,Region.wanted,sk ha h]
 exact k _ (ha.put hd)
theorem KQ (ho:ops[i]?=some ⟨some d,op,ty,pos,af,some (j,b')⟩) (h:NJ ops e j=true) (hd:Nat.blt d n=true) (k:WO ops Q S n ds ord ((d,undef)::e) w):WO ops Q S n ds ((i,false)::ord) e w:=by
 unfold WO at *
 intro a ha hS
 exact ⟨_,undef,ho,.inr ⟨by simp [Region.wanted,sk ha h],rfl⟩,hS,k _ (ha.put hd) hS⟩
theorem HV {x:Int} (ho:ops[i]?=some ⟨some d,op,ty,pos,af,none⟩) (hv:yv e op=some (.int .u64 (IntKind.u64.wrap x))) (h1:0≤x) (h2:x≤18446744073709551615) (hd:Nat.blt d n=true)
 (k:WO ops Q S n ds ord ((d,.int .u64 x)::e) w):WO ops Q S n ds ((i,false)::ord) e w:=m8 ho (by rw [hv,IntWalk.u64_in _ ⟨h1,h2⟩]) hd k
theorem KR (ho:ops[i]?=some ⟨some d,op,ty,pos,af,none⟩) (hv:yv e op=some (.bool b)) (hp:b=true) (hd:Nat.blt d n=true) (k:WO ops Q S n ds ord ((d,.bool true)::e) w):WO ops Q S n ds ((i,false)::ord) e w:=m8 ho (by rw [hv,hp]) hd k
theorem KT (ho:ops[i]?=some ⟨some d,op,ty,pos,af,none⟩) (hv:yv e op=some (.bool b)) (hp:b=false) (hd:Nat.blt d n=true) (k:WO ops Q S n ds ord ((d,.bool false)::e) w):WO ops Q S n ds ((i,false)::ord) e w:=m8 ho (by rw [hv,hp]) hd k
end
theorem gx {G G':Prop} (k:G') (h:xP G'→G:=by
 (intro k
  repeat (first
   | (refine LM ?_
      first
       | refine qV ?_
       | refine eJ (op:=.fieldAddr _ _ _) rfl rfl ?_
       | refine eJ (op:=.nilCheck _) rfl rfl ?_
       | (refine LQ ?_
          first
           | refine eE (by assumption) rfl rfl (by repeat (first|exact Take.here|apply Take.there)) (by rfl) rfl ?_
           | refine dq [_,_] (by assumption) rfl rfl rfl (by repeat (first|exact Take.here|apply Take.there)) (by exact ⟨rfl,rfl,trivial⟩) rfl ?_
           | refine dq [_,_,_] (by assumption) rfl rfl rfl (by repeat (first|exact Take.here|apply Take.there)) (by exact ⟨rfl,rfl,rfl,trivial⟩) rfl ?_
           | refine dq [_,_,_,_] (by assumption) rfl rfl rfl (by repeat (first|exact Take.here|apply Take.there)) (by exact ⟨rfl,rfl,rfl,rfl,trivial⟩) rfl ?_
           | refine dq [_,_,_,_,_] (by assumption) rfl rfl rfl (by repeat (first|exact Take.here|apply Take.there)) (by exact ⟨rfl,rfl,rfl,rfl,rfl,trivial⟩) rfl ?_
           | refine dq [_,_,_,_,_,_] (by assumption) rfl rfl rfl (by repeat (first|exact Take.here|apply Take.there)) (by exact ⟨rfl,rfl,rfl,rfl,rfl,rfl,trivial⟩) rfl ?_)
       | (refine HR ?_
          first
           | refine y7 rfl (by omega) (by omega) rfl ?_
           | refine nj rfl (by omega) (by omega) rfl ?_
           | refine zd rfl (by first|assumption|omega) rfl ?_
           | refine ze rfl (by first|assumption|omega) rfl ?_
           | refine zf rfl (by assumption) rfl ?_
           | refine zg rfl (by assumption) rfl ?_
           | refine qX rfl (by omega) (by omega) rfl ?_
           | refine eJ rfl rfl ?_)
       | (refine HS ?_
          first
           | refine y7 rfl (by omega) (by omega) rfl ?_
           | refine nj rfl (by omega) (by omega) rfl ?_
           | refine qX rfl (by omega) (by omega) rfl ?_
           | refine Da rfl rfl ?_
           | refine eJ rfl rfl ?_)
       | (refine LP ?_
          first
           | refine tq rfl ?_
           | refine vW rfl rfl rfl ?_
           | refine HU rfl rfl ?_)
       | (refine HT ?_
          refine eJ rfl rfl ?_)
       | refine eJ (op:=.move _) (ty:=4) rfl rfl ?_
       | refine eJ (op:=.move _) rfl rfl ?_
       | refine eJ (op:=.assign _) rfl rfl ?_
       | refine eJ (op:=.extract _ _) rfl rfl ?_
       | refine eJ (op:=.unOp _ _ _) rfl rfl ?_
       | refine eJ (op:=.pick _ _ _) rfl rfl ?_
       | refine eJ (op:=.makeInterface _ _) rfl rfl ?_
       | refine eJ (op:=.makeFunc _ _ _) rfl rfl ?_)
   | (refine LN ?_
      first
       | refine et ?_
       | refine lJ rfl ?_
       | refine ng rfl ?_
       | refine nh rfl ?_
       | refine iG ?_
       | refine pH ?_
       | refine tj ?_
       | refine pI ?_)
   | (refine LO ?_
      first
       | refine dk rfl ?_
       | refine iH ?_
       | refine jG ?_
       | refine tl ?_
       | refine kp ?_
       | refine kq ?_
       | refine jH rfl ?_
       | refine iI ?_
       | refine jI ?_
       | refine xO rfl ?_
       | refine Dh (Sat.to (by assumption)) ?_)
   | (refine M4 ?_
      first
       | refine xM ?_
       | refine m8 (op:=.fieldAddr _ _ _) rfl rfl rfl ?_
       | refine m8 (op:=.nilCheck _) rfl rfl rfl ?_
       | refine m8 (op:=.assign _) rfl rfl rfl ?_
       | refine m8 (op:=.move _) rfl rfl rfl ?_
       | refine pP rfl rfl rfl (by repeat (first|exact Take.here|apply Take.there)) (by rfl) rfl ?_
       | refine sU rfl ?_
       | refine JL rfl rfl (by omega) (by omega) rfl ?_
       | refine HV rfl rfl (by omega) (by omega) rfl ?_
       | refine Dd rfl rfl (by first|assumption|omega) rfl ?_
       | refine De rfl rfl (by first|assumption|omega) rfl ?_
       | refine KR rfl rfl (by assumption) rfl ?_
       | refine KT rfl rfl (by assumption) rfl ?_
       | refine m8 rfl rfl rfl ?_
       | refine Df rfl rfl rfl rfl ?_
       | refine KQ rfl rfl rfl ?_
       | refine Dg rfl rfl rfl rfl ?_
       | refine xN rfl rfl rfl rfl (by repeat (first|exact Take.here|apply Take.there)) (by rfl) rfl ?_
       | refine fI [_,_] rfl rfl rfl rfl (by repeat (first|exact Take.here|apply Take.there)) (by exact ⟨rfl,rfl,trivial⟩) rfl ?_
       | refine fI [_,_,_] rfl rfl rfl rfl (by repeat (first|exact Take.here|apply Take.there)) (by exact ⟨rfl,rfl,rfl,trivial⟩) rfl ?_
       | refine fI [_,_,_,_] rfl rfl rfl rfl (by repeat (first|exact Take.here|apply Take.there)) (by exact ⟨rfl,rfl,rfl,rfl,trivial⟩) rfl ?_
       | refine fI [_,_,_,_,_] rfl rfl rfl rfl (by repeat (first|exact Take.here|apply Take.there)) (by exact ⟨rfl,rfl,rfl,rfl,rfl,trivial⟩) rfl ?_))
  exact k.out)):G:=h ⟨k⟩
theorem gB {G G':Prop} (k:G') (h:xP G'→G:=by
 (intro k
  repeat (first
   | (refine LM ?_
      first
       | refine qV ?_
       | refine eJ (op:=.fieldAddr _ _ _) rfl rfl ?_
       | refine eJ (op:=.nilCheck _) rfl rfl ?_
       | (refine LQ ?_
          first
           | refine eE (by assumption) rfl rfl (by repeat (first|exact Take.here|apply Take.there)) (by rfl) rfl ?_
           | refine dq [_,_] (by assumption) rfl rfl rfl (by repeat (first|exact Take.here|apply Take.there)) (by exact ⟨rfl,rfl,trivial⟩) rfl ?_
           | refine dq [_,_,_] (by assumption) rfl rfl rfl (by repeat (first|exact Take.here|apply Take.there)) (by exact ⟨rfl,rfl,rfl,trivial⟩) rfl ?_
           | refine dq [_,_,_,_] (by assumption) rfl rfl rfl (by repeat (first|exact Take.here|apply Take.there)) (by exact ⟨rfl,rfl,rfl,rfl,trivial⟩) rfl ?_
           | refine dq [_,_,_,_,_] (by assumption) rfl rfl rfl (by repeat (first|exact Take.here|apply Take.there)) (by exact ⟨rfl,rfl,rfl,rfl,rfl,trivial⟩) rfl ?_
           | refine dq [_,_,_,_,_,_] (by assumption) rfl rfl rfl (by repeat (first|exact Take.here|apply Take.there)) (by exact ⟨rfl,rfl,rfl,rfl,rfl,rfl,trivial⟩) rfl ?_)
       | (refine HR ?_
          first
           | refine y7 rfl (by omega) (by omega) rfl ?_
           | refine nj rfl (by omega) (by omega) rfl ?_
           | refine zd rfl (by first|assumption|omega) rfl ?_
           | refine ze rfl (by first|assumption|omega) rfl ?_
           | refine zf rfl (by assumption) rfl ?_
           | refine zg rfl (by assumption) rfl ?_
           | refine qX rfl (by omega) (by omega) rfl ?_
           | refine eJ rfl rfl ?_)
       | (refine HS ?_
          first
           | refine y7 rfl (by omega) (by omega) rfl ?_
           | refine nj rfl (by omega) (by omega) rfl ?_
           | refine qX rfl (by omega) (by omega) rfl ?_
           | refine Da rfl rfl ?_
           | refine eJ rfl rfl ?_)
       | (refine LP ?_
          first
           | refine tq rfl ?_
           | refine vW rfl rfl rfl ?_
           | refine HU rfl rfl ?_)
       | (refine HT ?_
          refine eJ rfl rfl ?_)
       | refine eJ (op:=.move _) (ty:=4) rfl rfl ?_
       | refine eJ (op:=.move _) rfl rfl ?_
       | refine eJ (op:=.assign _) rfl rfl ?_
       | refine eJ (op:=.extract _ _) rfl rfl ?_
       | refine eJ (op:=.unOp _ _ _) rfl rfl ?_
       | refine eJ (op:=.pick _ _ _) rfl rfl ?_
       | refine eJ (op:=.makeInterface _ _) rfl rfl ?_
       | refine eJ (op:=.makeFunc _ _ _) rfl rfl ?_)
   | (refine LN ?_
      first
       | refine lJ rfl ?_
       | refine ng rfl ?_
       | refine nh rfl ?_
       | refine iG ?_
       | refine pH ?_
       | refine tj ?_
       | refine pI ?_)
   | (refine LO ?_
      first
       | refine iH ?_
       | refine jG ?_
       | refine tl ?_
       | refine kp ?_
       | refine kq ?_
       | refine jH rfl ?_
       | refine iI ?_
       | refine jI ?_
       | refine xO rfl ?_
       | refine Dh (Sat.to (by assumption)) ?_)
   | (refine M4 ?_
      first
       | refine xM ?_
       | refine m8 (op:=.fieldAddr _ _ _) rfl rfl rfl ?_
       | refine m8 (op:=.nilCheck _) rfl rfl rfl ?_
       | refine m8 (op:=.assign _) rfl rfl rfl ?_
       | refine m8 (op:=.move _) rfl rfl rfl ?_
       | refine pP rfl rfl rfl (by repeat (first|exact Take.here|apply Take.there)) (by rfl) rfl ?_
       | refine sU rfl ?_
       | refine JL rfl rfl (by omega) (by omega) rfl ?_
       | refine HV rfl rfl (by omega) (by omega) rfl ?_
       | refine Dd rfl rfl (by first|assumption|omega) rfl ?_
       | refine De rfl rfl (by first|assumption|omega) rfl ?_
       | refine KR rfl rfl (by assumption) rfl ?_
       | refine KT rfl rfl (by assumption) rfl ?_
       | refine m8 rfl rfl rfl ?_
       | refine Df rfl rfl rfl rfl ?_
       | refine KQ rfl rfl rfl ?_
       | refine Dg rfl rfl rfl rfl ?_
       | refine xN rfl rfl rfl rfl (by repeat (first|exact Take.here|apply Take.there)) (by rfl) rfl ?_
       | refine fI [_,_] rfl rfl rfl rfl (by repeat (first|exact Take.here|apply Take.there)) (by exact ⟨rfl,rfl,trivial⟩) rfl ?_
       | refine fI [_,_,_] rfl rfl rfl rfl (by repeat (first|exact Take.here|apply Take.there)) (by exact ⟨rfl,rfl,rfl,trivial⟩) rfl ?_
       | refine fI [_,_,_,_] rfl rfl rfl rfl (by repeat (first|exact Take.here|apply Take.there)) (by exact ⟨rfl,rfl,rfl,rfl,trivial⟩) rfl ?_
       | refine fI [_,_,_,_,_] rfl rfl rfl rfl (by repeat (first|exact Take.here|apply Take.there)) (by exact ⟨rfl,rfl,rfl,rfl,rfl,trivial⟩) rfl ?_))
  exact k.out)):G:=h ⟨k⟩
section
open Go.Proofs.YtecibefflhomdaaGreatDoor.Pure (ad ay Rd bu less aQ aY bz bB az cU dec iL Kp Gq fV kC iR gg keeps)
attribute [local irreducible] IntKind.wrap
variable {W0 w:World} {F:List ah} {v:Value} {d m p:Nat} {T:cO} {D D':ad} {M:List ay}
theorem B0 {l:List ay} {e:ay} (h:l.getLast?=some e) (hd:e.del=true):iR l.length l=iR l.dropLast.length l.dropLast:=by
 have hne:l≠[]:=by intro h';subst h';cases h
 obtain ⟨n,hn⟩:∃ n,l.length=n+1:=⟨l.length-1,by have:=List.length_pos_iff.2 hne;omega⟩
 rw [hn]
 simp only [iR,h,hd,if_true]
 rw [List.length_dropLast,hn];rfl
theorem uB {l:List ay} (h:l=[]∨∃ e,l.getLast?=some e∧e.del=false):iR l.length l=l:=by
 rcases h with rfl|⟨e,h,hd⟩
 ·rfl
 ·have hne:l≠[]:=by intro h';subst h';cases h
  obtain ⟨n,hn⟩:∃ n,l.length=n+1:=⟨l.length-1,by have:=List.length_pos_iff.2 hne;omega⟩
  rw [hn]
  simp only [iR,h,hd,Bool.false_eq_true,if_false]
theorem Sat.LR {b c:Nat} {l:List ay} (h:Sat W0 (iW (.slice (some ⟨b,0,none⟩) l.length c) l::F) w) (hl:0<l.length):Sat W0 (iW (.slice (some ⟨b,0,none⟩) (l.length-1) c) l.dropLast::F) w:=by
 obtain ⟨b',cap,rs,hv,q1,q2,q3,hs⟩:=h.dr hl
 obtain ⟨hb,_,rfl⟩:=Value.slice.inj hv
 cases hb
 have hne:l≠[]:=by intro h';subst h';simp at hl
 have e1:l=l.dropLast++[l.getLast hne]:=(List.dropLast_concat_getLast hne).symm
 have e2:(bj l).flatten=(bj l.dropLast).flatten++aF (l.getLast hne):=(congrArg (fun z=>(bj z).flatten) e1).trans (lS _ _)
 rw [e2,List.append_assoc] at hs
 have hlen:l.dropLast.length=l.length-1:=List.length_dropLast
 have hs:=Sat.cT (k:=4) (len:=l.length-1) (cs:=(bj l.dropLast).flatten) hs (by omega) q2 (by simp only [List.length_append,q3,aF,List.length_cons,List.length_nil];omega) (by rw [mG,hlen]) (lR _)
 rw [← hlen] at hs ⊢
 exact hs
abbrev MF (bb bs bo:Nat) (bot:Bool) (vs vo:Value) (same out:List ay):List ah:=[blk bs 118 [vs],iW vs same,blk bo 118 [vo],iW vo out,blk bb 4 [.bool bot]]
theorem wH {bb bs bo:Nat} {bot:Bool} {vs vo:Value} {k:Kp} (hs:Sat W0 (MF bb bs bo bot vs vo k.same k.out++F) w) (hb:k.out.length+k.same.length≤1099511627776) :
 Calls Tryz.prog 206 #[au bb,au bs,au bo] w fun x w'=>∃ u vs' vo',x=.returned u∧Sat W0 (MF bb bs bo bot vs' vo' (fV bot k).same (fV bot k).out++F) w':=by
 dsimp only [MF,List.cons_append,List.nil_append] at hs
 refine enter Tryz.func206 rfl Tryz.ntmps206 Tryz.results206 rfl ?_
 refine eU (α:=Value×List ay) (fun _=>[(0,au bb),(1,au bs),(2,au bo)])
  (fun z w=>(z.2=(if bot=true then iR k.same.length k.same else k.same)∧z.2.length≤k.same.length)∧Sat W0 (blk bs 118 [z.1]::iW z.1 z.2::blk bo 118 [vo]::iW vo k.out::blk bb 4 [.bool bot]::F) w) ?_ ?_
 ·refine gB ?_
  refine aK (α:=Value×List ay) (fun _=>[(0,au bb),(1,au bs),(2,au bo)])
   (fun z w=>((if bot=true then iR z.2.length z.2 else z.2)=(if bot=true then iR k.same.length k.same else k.same)∧z.2.length≤k.same.length)∧Sat W0 (blk bs 118 [z.1]::iW z.1 z.2::blk bo 118 [vo]::iW vo k.out::blk bb 4 [.bool bot]::F) w) (fun z=>z.2.length) (vs,k.same) ⟨rfl,rfl,rfl,trivial⟩ ⟨⟨rfl,Nat.le_refl _⟩,hs⟩ ?_
  clear hs
  rintro ⟨vl,l⟩ w ⟨⟨h1,h2⟩,hs⟩
  dsimp only at h1 h2 hs ⊢
  obtain ⟨a,c,rfl,hc⟩:=(hs.take (.there .here)).ri
  cases bot with
  | false=>
   refine gx ?_
   exact bE (.slice a l.length c,l) ⟨rfl,rfl,rfl,trivial⟩ ⟨⟨h1,h2⟩,hs⟩
  | true=>
   simp only [if_true] at h1 ⊢
   by_cases hl:0<l.length
   ·have hl':(l.length:Int) > 0:=by omega
    have hne:l≠[]:=by intro h';subst h';simp at hl
    obtain ⟨b,cap,rs,hv,q1,q2,q3,hs2⟩:=(hs.take (.there .here)).dr hl
    obtain ⟨rfl,_,rfl⟩:=Value.slice.inj hv
    have hlast:l[l.length-1]?=some (l.getLast hne):=by rw [List.getLast_eq_getElem];exact List.getElem?_eq_getElem (by omega)
    have hrow:=(jO (k:=4) (gw l) (i:=l.length-1) (r:=aF (l.getLast hne)) (by simp [bj,hlast])).app (rest:=rs)
    have hdel:((bj l).flatten++rs)[0+(l.length-1)*4+2]?=some (.bool (l.getLast hne).del):=by
     rw [Nat.zero_add];exact hrow.2.2.1
    have hgl:l.getLast?=some (l.getLast hne):=List.getLast?_eq_some_getLast hne
    generalize l.getLast hne=z at *
    refine gx ?_
    refine cK (i:=l.length-1) rfl rfl (by omega) rfl rfl (by omega) rfl ?_
    refine gx ?_
    refine eE hs2 rfl rfl .here (by exact hdel) rfl ?_
    cases hd:z.del with
    | true=>
     refine gx ?_
     have hs:=((hs.take (.there .here)).LR hl)
     have hdl:l.dropLast.length=l.length-1:=List.length_dropLast
     refine mx 0 (l.length-1) rfl rfl rfl rfl (by show some (Value.int .i64 ((l.length:Int)-1))=some (Value.int .i64 ((l.length-1:Nat):Int));congr 2;omega) (by omega) (by omega) rfl ?_
     have e0:cutAt b 0 c 0 4=⟨b,0,none⟩:=by unfold cutAt;split<;>simp
     rw [e0,Nat.sub_zero,Nat.sub_zero]
     refine gx ?_
     refine bI hs fun w hs=>?_
     refine gx ?_
     refine aA (.slice (some ⟨b,0,none⟩) (l.length-1) c,l.dropLast) ⟨rfl,rfl,rfl,trivial⟩ ⟨⟨?_,?_⟩,hs.to⟩ ?_
     ·rw [← h1];exact (B0 hgl hd).symm
     ·dsimp only;omega
     ·dsimp only;omega
    | false=>
     refine gx ?_
     have:=uB (l:=l) (.inr ⟨z,hgl,hd⟩)
     rw [this] at h1
     exact bE (.slice (some ⟨b,0,none⟩) l.length c,l) ⟨rfl,rfl,rfl,trivial⟩ ⟨⟨h1,h2⟩,hs⟩
   ·have hl':¬ (l.length:Int) > 0:=by omega
    have hl0:l=[]:=List.eq_nil_of_length_eq_zero (by omega)
    refine gx ?_
    have:=uB (l:=l) (.inl hl0)
    rw [this] at h1
    exact bE (.slice a l.length c,l) ⟨rfl,rfl,rfl,trivial⟩ ⟨⟨h1,h2⟩,hs⟩
 ·clear hs
  rintro ⟨vl,l⟩ w ⟨⟨h1,h2⟩,hs⟩
  dsimp only at h1 h2 hs
  refine gx ?_
  have e3:iW vo k.out=aI 4 vo 256 k.out.length (bj k.out).flatten:=rfl
  refine od (k:=4) (m:=l.length) (news:=(bj l).flatten) hs rfl rfl (by repeat (first|exact Take.here|apply Take.there)) (qY rfl (.there .here)) rfl rfl rfl rfl rfl (by simp only [maxLen];omega) (by omega) rfl fun v' w hs=>?_
  refine gx ?_
  obtain ⟨a9,c9,rfl,-⟩:=hs.aB
  refine bI hs fun w hs=>?_
  refine gx ?_
  refine bI hs fun w hs=>?_
  refine gx ?_
  refine gE rfl ⟨_,.slice none 0 0,.slice a9 (k.out.length+l.length) c9,rfl,?_⟩
  have e4:(fV bot k).out=k.out++l:=by unfold fV;rw [h1]
  have e5:(fV bot k).same=[]:=rfl
  rw [e4,e5]
  have hs:=Sat.dA (k:=4) (E:=256) hs
  have e6:iW (.slice a9 (k.out.length+l.length) c9) (k.out++l)=aI 4 (.slice a9 (k.out.length+l.length) c9) 256 (k.out.length+l.length) ((bj k.out).flatten++(bj l).flatten):=by
   show aI 4 _ 256 (k.out++l).length (bj (k.out++l)).flatten=_
   rw [List.length_append];simp [bj]
  dsimp only [MF,List.cons_append,List.nil_append]
  rw [e6]
  exact hs.to
end
section
open Go.Proofs.YtecibefflhomdaaGreatDoor.Pure (ad ay Rd bu less aQ aY bz bB az cU dec iL Kp Gq fV kC iR gg keeps)
attribute [local irreducible] IntKind.wrap
variable {W0 w:World} {F:List ah} {v:Value} {d m p:Nat} {T:cO} {D D':ad} {M:List ay}
def MG {α:Type} (C:α→ah):Except cy α→ah
 | .ok a=>C a
 | .error _=>fun _=>True
structure NK where
 bs:Nat
 bo:Nat
 bb:Nat
 bl:Nat
 ba:Nat
 bm:Nat
 bd:Nat
 mv:Value
 us:List Nat
 bot:Bool
abbrev B1 (G:NK) (k:Kp) (vs vo:Value):List ah:=
 [blk G.bs 118 [vs],iW vs k.same,blk G.bo 118 [vo],iW vo k.out,blk G.bb 4 [.bool G.bot],blk G.bl 256 (aF k.later),blk G.ba 4 [.bool k.any],blk G.bm 341 [G.mv],aI 1 G.mv 131 G.us.length (G.us.map uV),blk G.bd 1 [.func (.func 206) #[] #[au G.bb,au G.bs,au G.bo]]]
def NL (G:NK) (k:Kp):ah:=fun h=>∃ z:Value×Value,cR (B1 G k z.1 z.2) h
theorem Sat.HW {G:NK} {k:Kp} (h:Sat W0 (NL G k::F) w):∃ vs vo,Sat W0 (B1 G k vs vo++F) w:=by
 obtain ⟨z,_,hs⟩:=h.fg (φ:=fun _:Value×Value=>True) (B:=fun z=>B1 G k z.1 z.2) fun hp ⟨z,k⟩=>⟨z,trivial,k⟩
 exact ⟨z.1,z.2,hs⟩
theorem Sat.DN {G:NK} {k:Kp} {vs vo:Value} (h:Sat W0 (B1 G k vs vo++F) w):Sat W0 (NL G k::F) w:=Sat.close h fun hp q=>⟨(vs,vo),q⟩
theorem Sat.J8 {nx:Nx} (h:Sat W0 (DJ d m v nx::F) w):∃ f q,v=.func (.func f) #[] q:=by
 cases nx with
 | one it=>exact Sat.qp h
 | mg g=>exact h.fT fun hp ⟨_,z,hv,_⟩=>⟨214,_,hv⟩
theorem HX {α:Type} {a b:List α} (h:a.Perm b) (f:α→Bool):a.any f=b.any f:=by
 rw [Bool.eq_iff_iff,List.any_eq_true,List.any_eq_true]
 exact ⟨fun ⟨x,hx,hf⟩=>⟨x,h.mem_iff.1 hx,hf⟩,fun ⟨x,hx,hf⟩=>⟨x,h.mem_iff.2 hx,hf⟩⟩
attribute [local irreducible] ob aI ag aS aO DJ NL aL eM Oh kD vw cE lH LK star fi
theorem wI {b:Nat} {K:SK} {z:SZ} {s:St} {nx:Nx} {bot:Bool} {x:Except cy (List ay)} (h:si s D nx bot=some (x,D')) (hmx:s.mem.length≤1099511627776)
 (hs:Sat W0 (blk b 133 (aj K z s)::aO bF z.sn (aC s.snaps)::DJ K.d z.m v nx::aS z.m s.mem::ag K.d D::F) w) :
 Calls Tryz.prog 168 #[au b,v,.bool bot] w fun y w'=>∃ lv ve,y=.returned (.tuple #[lv,ve])∧Sat W0 (blk b 133 (aj K z s)::aO bF z.sn (aC s.snaps)::aS z.m s.mem::ag K.d D'::aL ve (dC x)::MG (iW lv) x::F) w':=by
 unfold si at h
 split at h
 ·cases h
 rename_i hsn
 obtain ⟨f,q,rfl,hf⟩:=(hs.take (.there (.there .here))).J8
 refine Ho Tryz.func168 rfl Tryz.ntmps168 Tryz.results168 rfl ?_
 refine gx ?_
 refine cC hs ?_
 clear hs
 intro w bb hs
 refine gx ?_
 refine ae (met (yj (hs.fG (.there .here) (.there .here)) (by omega)) ?_)
 clear hs
 rintro _ w ⟨mv,us,rfl,hp,hs⟩
 refine ⟨_,rfl,?_⟩
 have hup:=fun (g:Nat→Bool)=>HX hp g
 have hul:us.length≤9:=by have:=hp.length_eq;simp [aP] at this;omega
 obtain ⟨am,cm,rfl,hcm⟩:=hs.aB
 refine aW hs ?_
 clear hs
 intro w bm hs
 refine bI hs ?_
 clear hs
 intro w hs
 refine gx ?_
 refine aW hs ?_
 clear hs
 intro w bo hs
 refine gx ?_
 refine aW hs ?_
 clear hs
 intro w bs hs
 refine gx ?_
 refine aW hs ?_
 clear hs
 intro w bd hs
 refine bI hs ?_
 clear hs
 intro w hs
 refine gx ?_
 refine aW hs ?_
 clear hs
 intro w be hs
 refine gx ?_
 refine aW hs ?_
 clear hs
 intro w bl hs
 refine gx ?_
 refine aW hs ?_
 clear hs
 intro w ba hs
 refine bI hs ?_
 clear hs
 intro w hs
 refine gx ?_
 refine ae (met (wD (f:=f) (q:=q) (eb:=be) hs) ?_)
 clear hs
 rintro _ w ⟨bn,bee,rfl,hs⟩
 refine ⟨_,rfl,?_⟩
 obtain ⟨k1,oe,hEach,hkb,hx⟩:∃ k1 oe,oL s.mem (zU (aP s) bot) gL nx D Gq=some (k1,oe,D')∧k1.out.length+k1.same.length≤1099511627776∧((∃ er,oe=some er∧x=.error er)∨(oe=none∧x=.ok (fV bot k1).out)):=by
  split at h
  ·cases h
  ·rename_i k1 er D2 he
   split at h
   ·rename_i hb
    rw [bG] at hb
    simp only [Option.some.injEq,Prod.mk.injEq] at h
    obtain ⟨rfl,rfl⟩:=h
    exact ⟨k1,_,he,hb,.inl ⟨_,rfl,rfl⟩⟩
   ·cases h
  ·rename_i k1 D2 he
   split at h
   ·rename_i hb
    rw [bG] at hb
    simp only [Option.some.injEq,Prod.mk.injEq] at h
    obtain ⟨rfl,rfl⟩:=h
    exact ⟨k1,_,he,hb,.inr ⟨rfl,rfl⟩⟩
   ·cases h
 clear h
 refine gx ?_
 refine WC.sub (e':=[(8,au bm),(9,au bo),(10,au bs),(11,au bd),(12,au be),(13,au bl),(14,au ba),(23,.func (.func 211) #[] #[au bn,au bee])]) ⟨rfl,rfl,rfl,rfl,rfl,rfl,rfl,rfl,trivial⟩ ?_
 have hs:=Sat.DN (G:=⟨bs,bo,bb,bl,ba,bm,bd,.slice am us.length cm,us,bot⟩) (k:=Gq) (vs:=.slice none 0 0) (vo:=.slice none 0 0) (F:=blk bn 288 [.func (.func f) #[] q]::blk bee 312 [au be]::blk be 41 [.nilIface]::DJ K.d z.m (.func (.func f) #[] q) nx::aS z.m s.mem::ag K.d D::blk b 133 (aj K z s)::aO bF z.sn (aC s.snaps)::F)
  (((hs.dA (k:=4) (E:=256)).dA (k:=4) (E:=256)).to)
 refine DK (v:=.func (.func f) #[] q) (d:=K.d) (m:=z.m) (nx:=nx) (C:=fun k=>[NL ⟨bs,bo,bb,bl,ba,bm,bd,.slice am us.length cm,us,bot⟩ k]) (id:=0) (bn:=bn) (be:=bee) (eb:=be) (oe:=oe) (s1:=k1) (D':=D') (F:=blk b 133 (aj K z s)::aO bF z.sn (aC s.snaps)::F) rfl rfl rfl hEach hmx hs.to ?_ ?_
 ·clear hs hEach
  intro k ent k' c L rc R w hbody hst hs
  dsimp only [List.cons_append,List.nil_append] at hs
  unfold zU at hbody
  by_cases hbig:k.out.length+k.same.length≤gL
  case neg=>rw [if_neg hbig] at hbody;cases hbody
  rw [if_pos hbig] at hbody
  rw [bG] at hbig
  simp only [Option.some.injEq,Prod.mk.injEq] at hbody
  obtain ⟨rfl,rfl⟩:=hbody
  refine gB ?_
  refine aW hs ?_
  clear hs
  intro w b15 hs
  refine cV (vs:=aF ent) hs ?_
  clear hs
  intro w hs
  refine gB ?_
  refine zE (hs.take (.there .here)) hst fun w hs=>?_
  obtain ⟨vs,vo,hs⟩:=Sat.HW (hs.take (.there (.there .here)))
  dsimp only [B1,List.cons_append,List.nil_append] at hs
  generalize hE:([(15,au b15),(24,.agg (aF ent).toArray),(8,au bm),(9,au bo),(10,au bs),(11,au bd),(12,au be),(13,au bl),(14,au ba),(23,.func (.func 211) #[] #[au bn,au bee])]:Env)=E0
  refine iG ?_
  refine eU (α:=Unit) (fun _=>(16,.bool (gg k ent))::E0) (fun _ w=>Sat W0 (B1 ⟨bs,bo,bb,bl,ba,bm,bd,.slice am us.length cm,us,bot⟩ k vs vo++blk b15 256 (aF ent)::ob false L (.loop { rc with state:=.busy })::R) w) ?_ ?_
  ·subst hE
   dsimp only [B1,List.cons_append,List.nil_append]
   obtain ⟨out,same,later,any⟩:=k
   dsimp only at hs ⊢
   cases any with
   | false=>
    refine gB ?_
    exact bE () ⟨rfl,rfl,rfl,rfl,rfl,rfl,rfl,rfl,rfl,rfl,rfl,trivial⟩ hs.to
   | true=>
    refine gB ?_
    exact bE () ⟨rfl,rfl,rfl,rfl,rfl,rfl,rfl,rfl,rfl,rfl,rfl,trivial⟩ hs.to
  clear hs
  rintro-w hs
  dsimp only [B1,List.cons_append,List.nil_append] at hs
  refine eU (α:=Value×Value×List ay×List ay) (fun _=>(16,.bool (gg k ent))::E0)
   (fun z' w=>((z'.2.2.1=if gg k ent=true then (fV bot k).out else k.out)∧(z'.2.2.2=if gg k ent=true then (fV bot k).same else k.same))∧Sat W0 (B1 ⟨bs,bo,bb,bl,ba,bm,bd,.slice am us.length cm,us,bot⟩ ⟨z'.2.2.1,z'.2.2.2,k.later,k.any⟩ z'.1 z'.2.1++blk b15 256 (aF ent)::ob false L (.loop { rc with state:=.busy })::R) w) ?_ ?_
  ·subst hE
   cases hF:gg k ent with
   | true=>
    refine gx ?_
    refine iK rfl rfl rfl rfl (met (wH (bb:=bb) (bs:=bs) (bo:=bo) (bot:=bot) (vs:=vs) (vo:=vo) (k:=k) (F:=blk bl 256 (aF k.later)::blk ba 4 [.bool k.any]::blk bm 341 [.slice am us.length cm]::aI 1 (.slice am us.length cm) 131 us.length (us.map uV)::blk bd 1 [.func (.func 206) #[] #[au bb,au bs,au bo]]::blk b15 256 (aF ent)::ob false L (.loop { rc with state:=.busy })::R) hs hbig) ?_)
    clear hs
    rintro _ w ⟨u,vs',vo',rfl,hs⟩
    refine ⟨_,rfl,gx ?_⟩
    dsimp only [MF,List.cons_append,List.nil_append] at hs
    refine bE (vs',vo',(fV bot k).out,(fV bot k).same) ⟨rfl,rfl,rfl,rfl,rfl,rfl,rfl,rfl,rfl,rfl,rfl,trivial⟩ ⟨⟨by simp,by simp⟩,hs.to⟩
   | false=>
    refine gx ?_
    refine bE (vs,vo,k.out,k.same) ⟨rfl,rfl,rfl,rfl,rfl,rfl,rfl,rfl,rfl,rfl,rfl,trivial⟩ ⟨⟨by simp,by simp⟩,hs.to⟩
  clear hs
  rintro ⟨vs,vo,o,sm⟩ w ⟨⟨ho,hsm⟩,hs⟩
  dsimp only [B1,List.cons_append,List.nil_append] at ho hsm hs
  have hsml:sm.length≤1099511627776:=by
   rw [hsm];split
   ·show ([]:List ay).length≤_;simp
   ·omega
  refine eU (α:=Value×Value×List ay×List ay) (fun _=>E0)
   (fun z' w=>(z'.2.2.1=o∧(z'.2.2.2=if keeps (aP s) k ent=true then sm++[ent] else sm))∧Sat W0 (B1 ⟨bs,bo,bb,bl,ba,bm,bd,.slice am us.length cm,us,bot⟩ ⟨z'.2.2.1,z'.2.2.2,k.later,k.any⟩ z'.1 z'.2.1++blk b15 256 (aF ent)::ob false L (.loop { rc with state:=.busy })::R) w) ?_ ?_
  ·have hkeep:keeps (aP s) k ent=us.any fun m=>decide (ent.seq≤m)&&(gg k ent||decide (m<k.later.seq)):=(hup _).symm
   rw [hkeep]
   subst hE
   refine gx ?_
   refine aK (α:=Nat) (fun i=>[(37,.slice am us.length cm),(38,.int .i64 (us.length:Int)),(39,.int .i64 (i:Int)),(16,.bool (gg k ent)),(15,au b15),(24,.agg (aF ent).toArray),(8,au bm),(9,au bo),(10,au bs),(11,au bd),(12,au be),(13,au bl),(14,au ba),(23,.func (.func 211) #[] #[au bn,au bee])])
    (fun i w=>(i≤us.length∧(us.take i).any (fun m=>decide (ent.seq≤m)&&(gg k ent||decide (m<k.later.seq)))=false)∧Sat W0 (B1 ⟨bs,bo,bb,bl,ba,bm,bd,.slice am us.length cm,us,bot⟩ ⟨o,sm,k.later,k.any⟩ vs vo++blk b15 256 (aF ent)::ob false L (.loop { rc with state:=.busy })::R) w) (fun i=>us.length-i) 0 ⟨rfl,rfl,rfl,rfl,rfl,rfl,rfl,rfl,rfl,rfl,rfl,rfl,rfl,rfl,trivial⟩ ⟨⟨Nat.zero_le _,by simp⟩,hs.to⟩ ?_
   clear hs
   rintro i w ⟨⟨hi,hno⟩,hs⟩
   dsimp only [B1,List.cons_append,List.nil_append] at hs
   obtain ⟨av,cv,rfl,-⟩:=(hs.take (.there .here)).aB
   by_cases hlt:i<us.length
   ·have hg:us[i]?=some us[i]:=List.getElem?_eq_getElem hlt
    have htk:us.take (i+1)=us.take i++[us[i]]:=by rw [List.take_add_one,hg];rfl
    generalize us[i]=mm at hg htk
    obtain ⟨bb2,cap,rs,hv,q1,q2,q3,hs2⟩:=(hs.take (.there (.there (.there (.there (.there (.there (.there (.there .here))))))))).dr (by omega)
    obtain ⟨rfl,_,rfl⟩:=Value.slice.inj hv
    have hcell:(us.map uV++rs)[0+i*1]?=some (uV mm):=by
     rw [Nat.zero_add,Nat.mul_one,List.getElem?_append_left (by simpa using hlt),List.getElem?_map,hg];rfl
    refine gx ?_
    refine cK (i:=i) rfl rfl rfl rfl rfl hlt rfl ?_
    refine eE hs2 rfl rfl .here hcell rfl ?_
    clear hs2
    by_cases hle:ent.seq≤mm
    ·cases hF:gg k ent with
     | true=>
      have HK:(us.any fun m=>decide (ent.seq≤m)&&(true||decide (m<k.later.seq)))=true:=List.any_eq_true.2 ⟨mm,List.mem_of_getElem? hg,by simp [hle]⟩
      refine gx ?_
      refine iT (aF ent) hs (fun w b2 hs=>?_)
      refine eA hs ?_
      clear hs
      intro v2 w hs
      obtain ⟨a7,c7,rfl,-⟩:=hs.aB
      refine gx ?_
      refine bI hs ?_
      clear hs
      intro w hs
      refine gx ?_
      refine bE (.slice a7 (sm.length+1) c7,vo,o,sm++[ent]) ⟨rfl,rfl,rfl,rfl,rfl,rfl,rfl,rfl,rfl,rfl,trivial⟩ ⟨⟨rfl,by rw [HK];rfl⟩,?_⟩
      have e1:aI 4 (.slice a7 (sm.length+1) c7) 256 (sm.length+1) ((bj sm).flatten++aF ent)=iW (.slice a7 (sm.length+1) c7) (sm++[ent]):=by rw [← lS];show _=aI 4 _ 256 (sm++[ent]).length _;rw [List.length_append];rfl
      rw [e1] at hs
      exact hs.to
     | false=>
      by_cases hl2:mm<k.later.seq
      ·have HK:(us.any fun m=>decide (ent.seq≤m)&&(false||decide (m<k.later.seq)))=true:=List.any_eq_true.2 ⟨mm,List.mem_of_getElem? hg,by simp [hle,hl2]⟩
       refine gx ?_
       refine iT (aF ent) hs (fun w b2 hs=>?_)
       refine eA hs ?_
       clear hs
       intro v2 w hs
       obtain ⟨a7,c7,rfl,-⟩:=hs.aB
       refine gx ?_
       refine bI hs ?_
       clear hs
       intro w hs
       refine gx ?_
       refine bE (.slice a7 (sm.length+1) c7,vo,o,sm++[ent]) ⟨rfl,rfl,rfl,rfl,rfl,rfl,rfl,rfl,rfl,rfl,trivial⟩ ⟨⟨rfl,by rw [HK];rfl⟩,?_⟩
       have e1:aI 4 (.slice a7 (sm.length+1) c7) 256 (sm.length+1) ((bj sm).flatten++aF ent)=iW (.slice a7 (sm.length+1) c7) (sm++[ent]):=by rw [← lS];show _=aI 4 _ 256 (sm++[ent]).length _;rw [List.length_append];rfl
       rw [e1] at hs
       exact hs.to
      ·refine gx ?_
       refine aA (i+1) ⟨rfl,rfl,rfl,rfl,rfl,rfl,rfl,rfl,rfl,rfl,rfl,rfl,rfl,rfl,trivial⟩ ⟨⟨hlt,?_⟩,hs.to⟩ (by omega)
       rw [hF] at hno
       rw [htk,List.any_append,hno];simp [hl2]
    ·refine gx ?_
     refine aA (i+1) ⟨rfl,rfl,rfl,rfl,rfl,rfl,rfl,rfl,rfl,rfl,rfl,rfl,rfl,rfl,trivial⟩ ⟨⟨hlt,?_⟩,hs.to⟩ (by omega)
     rw [htk,List.any_append,hno];simp [hle]
   ·have hie:i=us.length:=by omega
    subst hie
    rw [List.take_length] at hno
    refine gx ?_
    refine bE (.slice av sm.length cv,vo,o,sm) ⟨rfl,rfl,rfl,rfl,rfl,rfl,rfl,rfl,rfl,rfl,trivial⟩ ⟨⟨rfl,by rw [hno];rfl⟩,hs.to⟩
  clear hs
  rintro ⟨vs,vo,o',sm'⟩ w ⟨⟨ho',hsm'⟩,hs⟩
  dsimp only [B1,List.cons_append,List.nil_append] at ho' hsm' hs
  subst ho'
  subst hE
  refine gx ?_
  refine cV (vs:=aF ent) hs ?_
  clear hs
  intro w hs
  refine gx ?_
  refine bI hs ?_
  clear hs
  intro w hs
  refine gx ?_
  refine jZ (hs.take (.there (.there (.there (.there (.there (.there (.there (.there (.there (.there (.there .here)))))))))))) fun w hs=>.inl ⟨rfl,rfl,?_⟩
  have e1:kC (aP s) bot k ent=⟨o',sm',ent,true⟩:=by
   unfold kC
   rw [hsm',ho,hsm]
   cases gg k ent<;>simp [fV]
  rw [e1]
  dsimp only [List.cons_append,List.nil_append]
  have hs:=Sat.DN (G:=⟨bs,bo,bb,bl,ba,bm,bd,.slice am us.length cm,us,bot⟩) (k:=⟨o',sm',ent,true⟩) (vs:=vs) (vo:=vo) (F:=ob false L (.loop { rc with state:=.ready,pending:=none })::R) hs.to
  exact hs.to
 ·clear hs hEach
  intro xx Dk ve w hxx hs
  dsimp only [List.cons_append,List.nil_append] at hs
  obtain ⟨vs,vo,hs⟩:=Sat.HW (hs.take (.there (.there (.there (.there (.there .here))))))
  dsimp only [B1,List.cons_append,List.nil_append] at hs
  rcases hxx with rfl|rfl<;>(
   refine gx ?_
   refine iK rfl rfl rfl rfl (met (wH (bb:=bb) (bs:=bs) (bo:=bo) (bot:=bot) (vs:=vs) (vo:=vo) (k:=k1) (F:=blk be 41 [ve]::ob false Dk (.deferred (some []))::aL ve oe::aS z.m s.mem::ag K.d D'::blk b 133 (aj K z s)::aO bF z.sn (aC s.snaps)::F) hs.to hkb) ?_)
   clear hs
   rintro _ w ⟨u,vs',vo',rfl,hs⟩
   refine ⟨_,rfl,gx ?_⟩
   dsimp only [MF,List.cons_append,List.nil_append] at hs
   refine bM [blk bo 118 [vo'],blk be 41 [ve]] [(0,false),(1,false),(2,false),(3,false)] hs (by kernel_rfl) ?_
   clear hs
   intro w hs
   refine gx ?_
   refine x9 (hs.take (.there (.there (.there (.there (.there (.there .here))))))) rfl ?_
   clear hs
   intro w hs
   refine ⟨_,_,rfl,?_⟩
   rcases hx with ⟨er,rfl,rfl⟩|⟨rfl,rfl⟩
   ·exact Sat.to (Sat.emp hs)
   ·exact hs.to)
end
end Go.Proofs.YtecibefflhomdaaGreatDoor
