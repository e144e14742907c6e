/-
  Part 20: The engine 26 'gx'; WALKS package levels; WALKS package levels.
-/
import Derived.Test.YtecibefflhomdaaGreatDoorY19
set_option maxHeartbeats 8000000
set_option maxRecDepth 100000
set_option linter.all false
namespace Go.Proofs.YtecibefflhomdaaGreatDoor
open Go
section
variable {ops:Array Oper} {Q:Exit→Act→World→Prop} {n:Nat} {ds:Md} {e:Env} {w:World} {rest:List Oper} {ord:List (Nat×Bool)} {S:World→Prop}
variable {op:Op} {ty:TypeId} {pos:String} {af:Array Edge} {d i j:Nat} {v:Value} {b b':Bool}
theorem Mo {l:List Oper} (k:WL ops Q n ds l e w):WL ops Q n ds l e w:=k
theorem Mp {c:Code} (k:WC c Q n ds e w):WC c Q n ds e w:=k
theorem Mq {x:Exit} (k:WQ Q x n ds e w):WQ Q x n ds e w:=k
theorem NB (k:WO ops Q S n ds ord e w):WO ops Q S n ds ord e w:=k
theorem Ig {dst:Option Nat} {bo:BinOp} {t t2:TypeId} {x y:Operand} (k:WL ops Q n ds (⟨dst,.binOp bo t x y t2,ty,pos,af,none⟩::rest) e w):WL ops Q n ds (⟨dst,.binOp bo t x y t2,ty,pos,af,none⟩::rest) e w:=k
theorem Ih {dst:Option Nat} {s t:TypeId} {x:Operand} (k:WL ops Q n ds (⟨dst,.convert s t x,ty,pos,af,none⟩::rest) e w):WL ops Q n ds (⟨dst,.convert s t x,ty,pos,af,none⟩::rest) e w:=k
theorem Ii {dst:Option Nat} {bi:Builtin} {xs:Array Operand} {ts:Array TypeId} (k:WL ops Q n ds (⟨dst,.call { callee:=.builtin bi,args:=xs,argTypes:=ts },ty,pos,af,none⟩::rest) e w):WL ops Q n ds (⟨dst,.call { callee:=.builtin bi,args:=xs,argTypes:=ts },ty,pos,af,none⟩::rest) e w:=k
theorem Mr {dst:Option Nat} {g:Nat×Bool} (k:WL ops Q n ds (⟨dst,op,ty,pos,af,some g⟩::rest) e w):WL ops Q n ds (⟨dst,op,ty,pos,af,some g⟩::rest) e w:=k
theorem Ms {dst:Option Nat} {t:TypeId} {x:Operand} (k:WL ops Q n ds (⟨dst,.load t x,ty,pos,af,none⟩::rest) e w):WL ops Q n ds (⟨dst,.load t x,ty,pos,af,none⟩::rest) e w:=k
def Oi (ops:Array Oper) (e:Env) (j:Nat):Bool:=match ops[j]? with
 | some ⟨some t,_,_,_,_,_⟩=>match lk e t with
  | some (.bool _)=>false
  | some _=>true
  | none=>false
 | _=>false
theorem sz {a:Act} (ha:Fr n ds e a) (h:Oi ops e j=true):yielded ops a.tmps j=none:=by
 unfold Oi at h
 split at h
 ·rename_i t _ _ _ _ _ ho
  split at h
  ·cases h
  ·rename_i v hne hv
   have:=ha.get t _ hv
   cases v with
   | bool b=>exact (hne b rfl).elim
   | _=>simp [yielded,ho,this]
  ·cases h
 ·cases h
theorem Ij (h:Oi ops e j=true) (hd:Nat.blt d n=true) (k:WL ops Q n ds rest ((d,undef)::e) w):WL ops Q n ds (⟨some d,op,ty,pos,af,some (j,b')⟩::rest) e w:=by
 unfold WL at *
 intro a ha
 simp only [wpList,Region.wanted,sz ha h]
 exact k _ (ha.put hd)
theorem Lo (ho:ops[i]?=some ⟨some d,op,ty,pos,af,some (j,b')⟩) (h:Oi ops e j=true) (hd:Nat.blt d n=true) (k:WO ops Q S n ds ord ((d,undef)::e) w):WO ops Q S n ds ((i,false)::ord) e w:=by
 unfold WO at *
 intro a ha hS
 exact ⟨_,undef,ho,.inr ⟨by simp [Region.wanted,sz ha h],rfl⟩,hS,k _ (ha.put hd) hS⟩
theorem Ik {x:Int} (ho:ops[i]?=some ⟨some d,op,ty,pos,af,none⟩) (hv:yv e op=some (.int .u64 (IntKind.u64.wrap x))) (h1:0≤x) (h2:x≤18446744073709551615) (hd:Nat.blt d n=true)
 (k:WO ops Q S n ds ord ((d,.int .u64 x)::e) w):WO ops Q S n ds ((i,false)::ord) e w:=ng ho (by rw [hv,IntWalk.u64_in _ ⟨h1,h2⟩]) hd k
theorem Lp (ho:ops[i]?=some ⟨some d,op,ty,pos,af,none⟩) (hv:yv e op=some (.bool b)) (hp:b=true) (hd:Nat.blt d n=true) (k:WO ops Q S n ds ord ((d,.bool true)::e) w):WO ops Q S n ds ((i,false)::ord) e w:=ng ho (by rw [hv,hp]) hd k
theorem Lq (ho:ops[i]?=some ⟨some d,op,ty,pos,af,none⟩) (hv:yv e op=some (.bool b)) (hp:b=false) (hd:Nat.blt d n=true) (k:WO ops Q S n ds ord ((d,.bool false)::e) w):WO ops Q S n ds ((i,false)::ord) e w:=ng ho (by rw [hv,hp]) hd k
end
theorem gx {G G':Prop} (k:G') (h:xV G'→G:=by
 (intro k
  repeat (first
   | (refine Mo ?_
      first
       | refine qZ ?_
       | refine eO (op:=.fieldAddr _ _ _) rfl rfl ?_
       | refine eO (op:=.nilCheck _) rfl rfl ?_
       | (refine Ms ?_
          first
           | refine eC (by assumption) rfl rfl (by repeat (first|exact Take.here|apply Take.there)) (by rfl) rfl ?_
           | refine dz [_,_] (by assumption) rfl rfl rfl (by repeat (first|exact Take.here|apply Take.there)) (by exact ⟨rfl,rfl,trivial⟩) rfl ?_
           | refine dz [_,_,_] (by assumption) rfl rfl rfl (by repeat (first|exact Take.here|apply Take.there)) (by exact ⟨rfl,rfl,rfl,trivial⟩) rfl ?_
           | refine dz [_,_,_,_] (by assumption) rfl rfl rfl (by repeat (first|exact Take.here|apply Take.there)) (by exact ⟨rfl,rfl,rfl,rfl,trivial⟩) rfl ?_
           | refine dz [_,_,_,_,_] (by assumption) rfl rfl rfl (by repeat (first|exact Take.here|apply Take.there)) (by exact ⟨rfl,rfl,rfl,rfl,rfl,trivial⟩) rfl ?_
           | refine dz [_,_,_,_,_,_] (by assumption) rfl rfl rfl (by repeat (first|exact Take.here|apply Take.there)) (by exact ⟨rfl,rfl,rfl,rfl,rfl,rfl,trivial⟩) rfl ?_)
       | (refine Ig ?_
          first
           | refine zh rfl (by omega) (by omega) rfl ?_
           | refine nq rfl (by omega) (by omega) rfl ?_
           | refine zo rfl (by first|assumption|omega) rfl ?_
           | refine zp rfl (by first|assumption|omega) rfl ?_
           | refine zq rfl (by assumption) rfl ?_
           | refine zr rfl (by assumption) rfl ?_
           | refine q5 rfl (by omega) (by omega) rfl ?_
           | refine eO rfl rfl ?_)
       | (refine Ih ?_
          first
           | refine zh rfl (by omega) (by omega) rfl ?_
           | refine nq rfl (by omega) (by omega) rfl ?_
           | refine q5 rfl (by omega) (by omega) rfl ?_
           | refine DD rfl rfl ?_
           | refine eO rfl rfl ?_)
       | (refine Mr ?_
          first
           | refine sa rfl ?_
           | refine tw rfl rfl rfl ?_
           | refine Ij rfl rfl ?_)
       | (refine Ii ?_
          refine eO rfl rfl ?_)
       | refine eO (op:=.move _) (ty:=4) rfl rfl ?_
       | refine eO (op:=.move _) rfl rfl ?_
       | refine eO (op:=.assign _) rfl rfl ?_
       | refine eO (op:=.extract _ _) rfl rfl ?_
       | refine eO (op:=.unOp _ _ _) rfl rfl ?_
       | refine eO (op:=.pick _ _ _) rfl rfl ?_
       | refine eO (op:=.makeInterface _ _) rfl rfl ?_
       | refine eO (op:=.makeFunc _ _ _) rfl rfl ?_)
   | (refine Mp ?_
      first
       | refine dU ?_
       | refine lN rfl ?_
       | refine nk rfl ?_
       | refine np rfl ?_
       | refine ik ?_
       | refine pP ?_
       | refine tp ?_
       | refine pQ ?_)
   | (refine Mq ?_
      first
       | refine db rfl ?_
       | refine iP ?_
       | refine jN ?_
       | refine tq ?_
       | refine kA ?_
       | refine kB ?_
       | refine jO rfl ?_
       | refine iQ ?_
       | refine jP ?_
       | refine xU rfl ?_
       | refine DL (Sat.to (by assumption)) ?_)
   | (refine NB ?_
      first
       | refine xS ?_
       | refine ng (op:=.fieldAddr _ _ _) rfl rfl rfl ?_
       | refine ng (op:=.nilCheck _) rfl rfl rfl ?_
       | refine ng (op:=.assign _) rfl rfl rfl ?_
       | refine ng (op:=.move _) rfl rfl rfl ?_
       | refine pW rfl rfl rfl (by repeat (first|exact Take.here|apply Take.there)) (by rfl) rfl ?_
       | refine tc rfl ?_
       | refine J9 rfl rfl (by omega) (by omega) rfl ?_
       | refine Ik rfl rfl (by omega) (by omega) rfl ?_
       | refine DH rfl rfl (by first|assumption|omega) rfl ?_
       | refine DI rfl rfl (by first|assumption|omega) rfl ?_
       | refine Lp rfl rfl (by assumption) rfl ?_
       | refine Lq rfl rfl (by assumption) rfl ?_
       | refine ng rfl rfl rfl ?_
       | refine DJ rfl rfl rfl rfl ?_
       | refine Lo rfl rfl rfl ?_
       | refine DK rfl rfl rfl rfl ?_
       | refine xT rfl rfl rfl rfl (by repeat (first|exact Take.here|apply Take.there)) (by rfl) rfl ?_
       | refine fR [_,_] rfl rfl rfl rfl (by repeat (first|exact Take.here|apply Take.there)) (by exact ⟨rfl,rfl,trivial⟩) rfl ?_
       | refine fR [_,_,_] rfl rfl rfl rfl (by repeat (first|exact Take.here|apply Take.there)) (by exact ⟨rfl,rfl,rfl,trivial⟩) rfl ?_
       | refine fR [_,_,_,_] rfl rfl rfl rfl (by repeat (first|exact Take.here|apply Take.there)) (by exact ⟨rfl,rfl,rfl,rfl,trivial⟩) rfl ?_
       | refine fR [_,_,_,_,_] rfl rfl rfl rfl (by repeat (first|exact Take.here|apply Take.there)) (by exact ⟨rfl,rfl,rfl,rfl,rfl,trivial⟩) rfl ?_))
  exact k.out)):G:=h ⟨k⟩
theorem gz {G G':Prop} (k:G') (h:xV G'→G:=by
 (intro k
  repeat (first
   | (refine Mo ?_
      first
       | refine qZ ?_
       | refine eO (op:=.fieldAddr _ _ _) rfl rfl ?_
       | refine eO (op:=.nilCheck _) rfl rfl ?_
       | (refine Ms ?_
          first
           | refine eC (by assumption) rfl rfl (by repeat (first|exact Take.here|apply Take.there)) (by rfl) rfl ?_
           | refine dz [_,_] (by assumption) rfl rfl rfl (by repeat (first|exact Take.here|apply Take.there)) (by exact ⟨rfl,rfl,trivial⟩) rfl ?_
           | refine dz [_,_,_] (by assumption) rfl rfl rfl (by repeat (first|exact Take.here|apply Take.there)) (by exact ⟨rfl,rfl,rfl,trivial⟩) rfl ?_
           | refine dz [_,_,_,_] (by assumption) rfl rfl rfl (by repeat (first|exact Take.here|apply Take.there)) (by exact ⟨rfl,rfl,rfl,rfl,trivial⟩) rfl ?_
           | refine dz [_,_,_,_,_] (by assumption) rfl rfl rfl (by repeat (first|exact Take.here|apply Take.there)) (by exact ⟨rfl,rfl,rfl,rfl,rfl,trivial⟩) rfl ?_
           | refine dz [_,_,_,_,_,_] (by assumption) rfl rfl rfl (by repeat (first|exact Take.here|apply Take.there)) (by exact ⟨rfl,rfl,rfl,rfl,rfl,rfl,trivial⟩) rfl ?_)
       | (refine Ig ?_
          first
           | refine zh rfl (by omega) (by omega) rfl ?_
           | refine nq rfl (by omega) (by omega) rfl ?_
           | refine zo rfl (by first|assumption|omega) rfl ?_
           | refine zp rfl (by first|assumption|omega) rfl ?_
           | refine zq rfl (by assumption) rfl ?_
           | refine zr rfl (by assumption) rfl ?_
           | refine q5 rfl (by omega) (by omega) rfl ?_
           | refine eO rfl rfl ?_)
       | (refine Ih ?_
          first
           | refine zh rfl (by omega) (by omega) rfl ?_
           | refine nq rfl (by omega) (by omega) rfl ?_
           | refine q5 rfl (by omega) (by omega) rfl ?_
           | refine DD rfl rfl ?_
           | refine eO rfl rfl ?_)
       | (refine Mr ?_
          first
           | refine sa rfl ?_
           | refine tw rfl rfl rfl ?_
           | refine Ij rfl rfl ?_)
       | (refine Ii ?_
          refine eO rfl rfl ?_)
       | refine eO (op:=.move _) (ty:=4) rfl rfl ?_
       | refine eO (op:=.move _) rfl rfl ?_
       | refine eO (op:=.assign _) rfl rfl ?_
       | refine eO (op:=.extract _ _) rfl rfl ?_
       | refine eO (op:=.unOp _ _ _) rfl rfl ?_
       | refine eO (op:=.pick _ _ _) rfl rfl ?_
       | refine eO (op:=.makeInterface _ _) rfl rfl ?_
       | refine eO (op:=.makeFunc _ _ _) rfl rfl ?_)
   | (refine Mp ?_
      first
       | refine lN rfl ?_
       | refine nk rfl ?_
       | refine np rfl ?_
       | refine ik ?_
       | refine pP ?_
       | refine tp ?_
       | refine pQ ?_)
   | (refine Mq ?_
      first
       | refine iP ?_
       | refine jN ?_
       | refine tq ?_
       | refine kA ?_
       | refine kB ?_
       | refine jO rfl ?_
       | refine iQ ?_
       | refine jP ?_
       | refine xU rfl ?_
       | refine DL (Sat.to (by assumption)) ?_)
   | (refine NB ?_
      first
       | refine xS ?_
       | refine ng (op:=.fieldAddr _ _ _) rfl rfl rfl ?_
       | refine ng (op:=.nilCheck _) rfl rfl rfl ?_
       | refine ng (op:=.assign _) rfl rfl rfl ?_
       | refine ng (op:=.move _) rfl rfl rfl ?_
       | refine pW rfl rfl rfl (by repeat (first|exact Take.here|apply Take.there)) (by rfl) rfl ?_
       | refine tc rfl ?_
       | refine J9 rfl rfl (by omega) (by omega) rfl ?_
       | refine Ik rfl rfl (by omega) (by omega) rfl ?_
       | refine DH rfl rfl (by first|assumption|omega) rfl ?_
       | refine DI rfl rfl (by first|assumption|omega) rfl ?_
       | refine Lp rfl rfl (by assumption) rfl ?_
       | refine Lq rfl rfl (by assumption) rfl ?_
       | refine ng rfl rfl rfl ?_
       | refine DJ rfl rfl rfl rfl ?_
       | refine Lo rfl rfl rfl ?_
       | refine DK rfl rfl rfl rfl ?_
       | refine xT rfl rfl rfl rfl (by repeat (first|exact Take.here|apply Take.there)) (by rfl) rfl ?_
       | refine fR [_,_] rfl rfl rfl rfl (by repeat (first|exact Take.here|apply Take.there)) (by exact ⟨rfl,rfl,trivial⟩) rfl ?_
       | refine fR [_,_,_] rfl rfl rfl rfl (by repeat (first|exact Take.here|apply Take.there)) (by exact ⟨rfl,rfl,rfl,trivial⟩) rfl ?_
       | refine fR [_,_,_,_] rfl rfl rfl rfl (by repeat (first|exact Take.here|apply Take.there)) (by exact ⟨rfl,rfl,rfl,rfl,trivial⟩) rfl ?_
       | refine fR [_,_,_,_,_] rfl rfl rfl rfl (by repeat (first|exact Take.here|apply Take.there)) (by exact ⟨rfl,rfl,rfl,rfl,rfl,trivial⟩) rfl ?_))
  exact k.out)):G:=h ⟨k⟩
section
open Go.Proofs.YtecibefflhomdaaGreatDoor.Pure (ad az Rd bI less aQ aZ bM bE aD cY dec j3 Kp GQ gk kK iX gr keeps)
attribute [local irreducible] IntKind.wrap
variable {W0 w:World} {F:List ah} {v:Value} {d m p:Nat} {T:cD} {D D':ad} {M:List az}
theorem Cd {l:List az} {e:az} (h:l.getLast?=some e) (hd:e.del=true):iX l.length l=iX l.dropLast.length l.dropLast:=by
 have hne:l≠[]:=by intro h';subst h';cases h
 obtain ⟨n,hn⟩:∃ n,l.length=n+1:=⟨l.length-1,by have:=List.length_pos_iff.2 hne;omega⟩
 rw [hn]
 simp only [iX,h,hd,if_true]
 rw [List.length_dropLast,hn];rfl
theorem uE {l:List az} (h:l=[]∨∃ e,l.getLast?=some e∧e.del=false):iX l.length l=l:=by
 rcases h with rfl|⟨e,h,hd⟩
 ·rfl
 ·have hne:l≠[]:=by intro h';subst h';cases h
  obtain ⟨n,hn⟩:∃ n,l.length=n+1:=⟨l.length-1,by have:=List.length_pos_iff.2 hne;omega⟩
  rw [hn]
  simp only [iX,h,hd,Bool.false_eq_true,if_false]
theorem Sat.Mt {b c:Nat} {l:List az} (h:Sat W0 (jc (.slice (some ⟨b,0,none⟩) l.length c) l::F) w) (hl:0<l.length):Sat W0 (jc (.slice (some ⟨b,0,none⟩) (l.length-1) c) l.dropLast::F) w:=by
 obtain ⟨b',cap,rs,hv,q1,q2,q3,hs⟩:=h.dV hl
 obtain ⟨hb,_,rfl⟩:=Value.slice.inj hv
 cases hb
 have hne:l≠[]:=by intro h';subst h';simp at hl
 have e1:l=l.dropLast++[l.getLast hne]:=(List.dropLast_concat_getLast hne).symm
 have e2:(bu l).flatten=(bu l.dropLast).flatten++aF (l.getLast hne):=(congrArg (fun z=>(bu z).flatten) e1).trans (lY _ _)
 rw [e2,List.append_assoc] at hs
 have hlen:l.dropLast.length=l.length-1:=List.length_dropLast
 have hs:=Sat.dK (k:=4) (len:=l.length-1) (cs:=(bu l.dropLast).flatten) hs (by omega) q2 (by simp only [List.length_append,q3,aF,List.length_cons,List.length_nil];omega) (by rw [mJ,hlen]) (lX _)
 rw [← hlen] at hs ⊢
 exact hs
abbrev Nc (bb bs bo:Nat) (bot:Bool) (vs vo:Value) (same out:List az):List ah:=[blk bs 118 [vs],jc vs same,blk bo 118 [vo],jc vo out,blk bb 4 [.bool bot]]
theorem wQ {bb bs bo:Nat} {bot:Bool} {vs vo:Value} {k:Kp} (hs:Sat W0 (Nc bb bs bo bot vs vo k.same k.out++F) w) (hb:k.out.length+k.same.length≤1099511627776) :
 Calls Tryz.prog 206 #[au bb,au bs,au bo] w fun x w'=>∃ u vs' vo',x=.returned u∧Sat W0 (Nc bb bs bo bot vs' vo' (gk bot k).same (gk bot k).out++F) w':=by
 dsimp only [Nc,List.cons_append,List.nil_append] at hs
 refine enter Tryz.func206 rfl Tryz.ntmps206 Tryz.results206 rfl ?_
 refine eB (α:=Value×List az) (fun _=>[(0,au bb),(1,au bs),(2,au bo)])
  (fun z w=>(z.2=(if bot=true then iX k.same.length k.same else k.same)∧z.2.length≤k.same.length)∧Sat W0 (blk bs 118 [z.1]::jc z.1 z.2::blk bo 118 [vo]::jc vo k.out::blk bb 4 [.bool bot]::F) w) ?_ ?_
 ·refine gz ?_
  refine aL (α:=Value×List az) (fun _=>[(0,au bb),(1,au bs),(2,au bo)])
   (fun z w=>((if bot=true then iX z.2.length z.2 else z.2)=(if bot=true then iX k.same.length k.same else k.same)∧z.2.length≤k.same.length)∧Sat W0 (blk bs 118 [z.1]::jc z.1 z.2::blk bo 118 [vo]::jc vo k.out::blk bb 4 [.bool bot]::F) w) (fun z=>z.2.length) (vs,k.same) ⟨rfl,rfl,rfl,trivial⟩ ⟨⟨rfl,Nat.le_refl _⟩,hs⟩ ?_
  clear hs
  rintro ⟨vl,l⟩ w ⟨⟨h1,h2⟩,hs⟩
  dsimp only at h1 h2 hs ⊢
  obtain ⟨a,c,rfl,hc⟩:=(hs.take (.there .here)).rl
  cases bot with
  | false=>
   refine gx ?_
   exact bg (.slice a l.length c,l) ⟨rfl,rfl,rfl,trivial⟩ ⟨⟨h1,h2⟩,hs⟩
  | true=>
   simp only [if_true] at h1 ⊢
   by_cases hl:0<l.length
   ·have hl':(l.length:Int) > 0:=by omega
    have hne:l≠[]:=by intro h';subst h';simp at hl
    obtain ⟨b,cap,rs,hv,q1,q2,q3,hs2⟩:=(hs.take (.there .here)).dV hl
    obtain ⟨rfl,_,rfl⟩:=Value.slice.inj hv
    have hlast:l[l.length-1]?=some (l.getLast hne):=by rw [List.getLast_eq_getElem];exact List.getElem?_eq_getElem (by omega)
    have hrow:=(ja (k:=4) (gE l) (i:=l.length-1) (r:=aF (l.getLast hne)) (by simp [bu,hlast])).app (rest:=rs)
    have hdel:((bu l).flatten++rs)[0+(l.length-1)*4+2]?=some (.bool (l.getLast hne).del):=by
     rw [Nat.zero_add];exact hrow.2.2.1
    have hgl:l.getLast?=some (l.getLast hne):=List.getLast?_eq_some_getLast hne
    generalize l.getLast hne=z at *
    refine gx ?_
    refine cL (i:=l.length-1) rfl rfl (by omega) rfl rfl (by omega) rfl ?_
    refine gx ?_
    refine eC hs2 rfl rfl .here (by exact hdel) rfl ?_
    cases hd:z.del with
    | true=>
     refine gx ?_
     have hs:=((hs.take (.there .here)).Mt hl)
     have hdl:l.dropLast.length=l.length-1:=List.length_dropLast
     refine mz 0 (l.length-1) rfl rfl rfl rfl (by show some (Value.int .i64 ((l.length:Int)-1))=some (Value.int .i64 ((l.length-1:Nat):Int));congr 2;omega) (by omega) (by omega) rfl ?_
     have e0:cutAt b 0 c 0 4=⟨b,0,none⟩:=by unfold cutAt;split<;>simp
     rw [e0,Nat.sub_zero,Nat.sub_zero]
     refine gx ?_
     refine bD hs fun w hs=>?_
     refine gx ?_
     refine aB (.slice (some ⟨b,0,none⟩) (l.length-1) c,l.dropLast) ⟨rfl,rfl,rfl,trivial⟩ ⟨⟨?_,?_⟩,hs.to⟩ ?_
     ·rw [← h1];exact (Cd hgl hd).symm
     ·dsimp only;omega
     ·dsimp only;omega
    | false=>
     refine gx ?_
     have:=uE (l:=l) (.inr ⟨z,hgl,hd⟩)
     rw [this] at h1
     exact bg (.slice (some ⟨b,0,none⟩) l.length c,l) ⟨rfl,rfl,rfl,trivial⟩ ⟨⟨h1,h2⟩,hs⟩
   ·have hl':¬ (l.length:Int) > 0:=by omega
    have hl0:l=[]:=List.eq_nil_of_length_eq_zero (by omega)
    refine gx ?_
    have:=uE (l:=l) (.inl hl0)
    rw [this] at h1
    exact bg (.slice a l.length c,l) ⟨rfl,rfl,rfl,trivial⟩ ⟨⟨h1,h2⟩,hs⟩
 ·clear hs
  rintro ⟨vl,l⟩ w ⟨⟨h1,h2⟩,hs⟩
  dsimp only at h1 h2 hs
  refine gx ?_
  have e3:jc vo k.out=aE 4 vo 256 k.out.length (bu k.out).flatten:=rfl
  refine om (k:=4) (m:=l.length) (news:=(bu l).flatten) hs rfl rfl (by repeat (first|exact Take.here|apply Take.there)) (q6 rfl (.there .here)) rfl rfl rfl rfl rfl (by simp only [maxLen];omega) (by omega) rfl fun v' w hs=>?_
  refine gx ?_
  obtain ⟨a9,c9,rfl,-⟩:=hs.ay
  refine bD hs fun w hs=>?_
  refine gx ?_
  refine bD hs fun w hs=>?_
  refine gx ?_
  refine gB rfl ⟨_,.slice none 0 0,.slice a9 (k.out.length+l.length) c9,rfl,?_⟩
  have e4:(gk bot k).out=k.out++l:=by unfold gk;rw [h1]
  have e5:(gk bot k).same=[]:=rfl
  rw [e4,e5]
  have hs:=Sat.cP (k:=4) (E:=256) hs
  have e6:jc (.slice a9 (k.out.length+l.length) c9) (k.out++l)=aE 4 (.slice a9 (k.out.length+l.length) c9) 256 (k.out.length+l.length) ((bu k.out).flatten++(bu l).flatten):=by
   show aE 4 _ 256 (k.out++l).length (bu (k.out++l)).flatten=_
   rw [List.length_append];simp [bu]
  dsimp only [Nc,List.cons_append,List.nil_append]
  rw [e6]
  exact hs.to
end
section
open Go.Proofs.YtecibefflhomdaaGreatDoor.Pure (ad az Rd bI less aQ aZ bM bE aD cY dec j3 Kp GQ gk kK iX gr keeps)
attribute [local irreducible] IntKind.wrap
variable {W0 w:World} {F:List ah} {v:Value} {d m p:Nat} {T:cD} {D D':ad} {M:List az}
def Nd {α:Type} (C:α→ah):Except cy α→ah
 | .ok a=>C a
 | .error _=>fun _=>True
structure Oj where
 bs:Nat
 bo:Nat
 bb:Nat
 bl:Nat
 ba:Nat
 bm:Nat
 bd:Nat
 mv:Value
 us:List Nat
 bot:Bool
abbrev Ce (G:Oj) (k:Kp) (vs vo:Value):List ah:=
 [blk G.bs 118 [vs],jc vs k.same,blk G.bo 118 [vo],jc vo k.out,blk G.bb 4 [.bool G.bot],blk G.bl 256 (aF k.later),blk G.ba 4 [.bool k.any],blk G.bm 341 [G.mv],aE 1 G.mv 131 G.us.length (G.us.map uV),blk G.bd 1 [.func (.func 206) #[] #[au G.bb,au G.bs,au G.bo]]]
def Ol (G:Oj) (k:Kp):ah:=fun h=>∃ z:Value×Value,cV (Ce G k z.1 z.2) h
theorem Sat.Il {G:Oj} {k:Kp} (h:Sat W0 (Ol G k::F) w):∃ vs vo,Sat W0 (Ce G k vs vo++F) w:=by
 obtain ⟨z,_,hs⟩:=h.eI (φ:=fun _:Value×Value=>True) (B:=fun z=>Ce G k z.1 z.2) fun hp ⟨z,k⟩=>⟨z,trivial,k⟩
 exact ⟨z.1,z.2,hs⟩
theorem Sat.Em {G:Oj} {k:Kp} {vs vo:Value} (h:Sat W0 (Ce G k vs vo++F) w):Sat W0 (Ol G k::F) w:=Sat.close h fun hp q=>⟨(vs,vo),q⟩
theorem Sat.Kx {nx:Nx} (h:Sat W0 (Ej d m v nx::F) w):∃ f q,v=.func (.func f) #[] q:=by
 cases nx with
 | one it=>exact Sat.qx h
 | mg g=>exact h.fQ fun hp ⟨_,z,hv,_⟩=>⟨214,_,hv⟩
theorem Im {α:Type} {a b:List α} (h:a.Perm b) (f:α→Bool):a.any f=b.any f:=by
 rw [Bool.eq_iff_iff,List.any_eq_true,List.any_eq_true]
 exact ⟨fun ⟨x,hx,hf⟩=>⟨x,h.mem_iff.1 hx,hf⟩,fun ⟨x,hx,hf⟩=>⟨x,h.mem_iff.2 hx,hf⟩⟩
attribute [local irreducible] ob aE ag aR aO Ej Ol ax eT OU jm vw cG lL Mm star fy
theorem wR {b:Nat} {K:SK} {z:SZ} {s:St} {nx:Nx} {bot:Bool} {x:Except cy (List az)} (h:sx s D nx bot=some (x,D')) (hmx:s.mem.length≤1099511627776)
 (hs:Sat W0 (blk b 133 (aj K z s)::aO bB z.sn (aC s.snaps)::Ej K.d z.m v nx::aR z.m s.mem::ag K.d D::F) w) :
 Calls Tryz.prog 168 #[au b,v,.bool bot] w fun y w'=>∃ lv ve,y=.returned (.tuple #[lv,ve])∧Sat W0 (blk b 133 (aj K z s)::aO bB z.sn (aC s.snaps)::aR z.m s.mem::ag K.d D'::ax ve (dk x)::Nd (jc lv) x::F) w':=by
 unfold sx at h
 split at h
 ·cases h
 rename_i hsn
 obtain ⟨f,q,rfl,hf⟩:=(hs.take (.there (.there .here))).Kx
 refine B0 Tryz.func168 rfl Tryz.ntmps168 Tryz.results168 rfl ?_
 refine gx ?_
 refine cE hs ?_
 clear hs
 intro w bb hs
 refine gx ?_
 refine ae (met (yt (hs.eA (.there .here) (.there .here)) (by omega)) ?_)
 clear hs
 rintro _ w ⟨mv,us,rfl,hp,hs⟩
 refine ⟨_,rfl,?_⟩
 have hup:=fun (g:Nat→Bool)=>Im hp g
 have hul:us.length≤9:=by have:=hp.length_eq;simp [aK] at this;omega
 obtain ⟨am,cm,rfl,hcm⟩:=hs.ay
 refine aS hs ?_
 clear hs
 intro w bm hs
 refine bD hs ?_
 clear hs
 intro w hs
 refine gx ?_
 refine aS hs ?_
 clear hs
 intro w bo hs
 refine gx ?_
 refine aS hs ?_
 clear hs
 intro w bs hs
 refine gx ?_
 refine aS hs ?_
 clear hs
 intro w bd hs
 refine bD hs ?_
 clear hs
 intro w hs
 refine gx ?_
 refine aS hs ?_
 clear hs
 intro w be hs
 refine gx ?_
 refine aS hs ?_
 clear hs
 intro w bl hs
 refine gx ?_
 refine aS hs ?_
 clear hs
 intro w ba hs
 refine bD hs ?_
 clear hs
 intro w hs
 refine gx ?_
 refine ae (met (wN (f:=f) (q:=q) (eb:=be) hs) ?_)
 clear hs
 rintro _ w ⟨bn,bee,rfl,hs⟩
 refine ⟨_,rfl,?_⟩
 obtain ⟨k1,oe,hEach,hkb,hx⟩:∃ k1 oe,oR s.mem (Ac (aK s) bot) gW nx D GQ=some (k1,oe,D')∧k1.out.length+k1.same.length≤1099511627776∧((∃ er,oe=some er∧x=.error er)∨(oe=none∧x=.ok (gk bot k1).out)):=by
  split at h
  ·cases h
  ·rename_i k1 er D2 he
   split at h
   ·rename_i hb
    rw [bJ] at hb
    simp only [Option.some.injEq,Prod.mk.injEq] at h
    obtain ⟨rfl,rfl⟩:=h
    exact ⟨k1,_,he,hb,.inl ⟨_,rfl,rfl⟩⟩
   ·cases h
  ·rename_i k1 D2 he
   split at h
   ·rename_i hb
    rw [bJ] at hb
    simp only [Option.some.injEq,Prod.mk.injEq] at h
    obtain ⟨rfl,rfl⟩:=h
    exact ⟨k1,_,he,hb,.inr ⟨rfl,rfl⟩⟩
   ·cases h
 clear h
 refine gx ?_
 refine WC.sub (e':=[(8,au bm),(9,au bo),(10,au bs),(11,au bd),(12,au be),(13,au bl),(14,au ba),(23,.func (.func 211) #[] #[au bn,au bee])]) ⟨rfl,rfl,rfl,rfl,rfl,rfl,rfl,rfl,trivial⟩ ?_
 have hs:=Sat.Em (G:=⟨bs,bo,bb,bl,ba,bm,bd,.slice am us.length cm,us,bot⟩) (k:=GQ) (vs:=.slice none 0 0) (vo:=.slice none 0 0) (F:=blk bn 288 [.func (.func f) #[] q]::blk bee 312 [au be]::blk be 41 [.nilIface]::Ej K.d z.m (.func (.func f) #[] q) nx::aR z.m s.mem::ag K.d D::blk b 133 (aj K z s)::aO bB z.sn (aC s.snaps)::F)
  (((hs.cP (k:=4) (E:=256)).cP (k:=4) (E:=256)).to)
 refine Ek (v:=.func (.func f) #[] q) (d:=K.d) (m:=z.m) (nx:=nx) (C:=fun k=>[Ol ⟨bs,bo,bb,bl,ba,bm,bd,.slice am us.length cm,us,bot⟩ k]) (id:=0) (bn:=bn) (be:=bee) (eb:=be) (oe:=oe) (s1:=k1) (D':=D') (F:=blk b 133 (aj K z s)::aO bB z.sn (aC s.snaps)::F) rfl rfl rfl hEach hmx hs.to ?_ ?_
 ·clear hs hEach
  intro k ent k' c L rc R w hbody hst hs
  dsimp only [List.cons_append,List.nil_append] at hs
  unfold Ac at hbody
  by_cases hbig:k.out.length+k.same.length≤gW
  case neg=>rw [if_neg hbig] at hbody;cases hbody
  rw [if_pos hbig] at hbody
  rw [bJ] at hbig
  simp only [Option.some.injEq,Prod.mk.injEq] at hbody
  obtain ⟨rfl,rfl⟩:=hbody
  refine gz ?_
  refine aS hs ?_
  clear hs
  intro w b15 hs
  refine cZ (vs:=aF ent) hs ?_
  clear hs
  intro w hs
  refine gz ?_
  refine uj (hs.take (.there .here)) hst fun w hs=>?_
  obtain ⟨vs,vo,hs⟩:=Sat.Il (hs.take (.there (.there .here)))
  dsimp only [Ce,List.cons_append,List.nil_append] at hs
  generalize hE:([(15,au b15),(24,.agg (aF ent).toArray),(8,au bm),(9,au bo),(10,au bs),(11,au bd),(12,au be),(13,au bl),(14,au ba),(23,.func (.func 211) #[] #[au bn,au bee])]:Env)=E0
  refine ik ?_
  refine eB (α:=Unit) (fun _=>(16,.bool (gr k ent))::E0) (fun _ w=>Sat W0 (Ce ⟨bs,bo,bb,bl,ba,bm,bd,.slice am us.length cm,us,bot⟩ k vs vo++blk b15 256 (aF ent)::ob false L (.loop { rc with state:=.busy })::R) w) ?_ ?_
  ·subst hE
   dsimp only [Ce,List.cons_append,List.nil_append]
   obtain ⟨out,same,later,any⟩:=k
   dsimp only at hs ⊢
   cases any with
   | false=>
    refine gz ?_
    exact bg () ⟨rfl,rfl,rfl,rfl,rfl,rfl,rfl,rfl,rfl,rfl,rfl,trivial⟩ hs.to
   | true=>
    refine gz ?_
    exact bg () ⟨rfl,rfl,rfl,rfl,rfl,rfl,rfl,rfl,rfl,rfl,rfl,trivial⟩ hs.to
  clear hs
  rintro-w hs
  dsimp only [Ce,List.cons_append,List.nil_append] at hs
  refine eB (α:=Value×Value×List az×List az) (fun _=>(16,.bool (gr k ent))::E0)
   (fun z' w=>((z'.2.2.1=if gr k ent=true then (gk bot k).out else k.out)∧(z'.2.2.2=if gr k ent=true then (gk bot k).same else k.same))∧Sat W0 (Ce ⟨bs,bo,bb,bl,ba,bm,bd,.slice am us.length cm,us,bot⟩ ⟨z'.2.2.1,z'.2.2.2,k.later,k.any⟩ z'.1 z'.2.1++blk b15 256 (aF ent)::ob false L (.loop { rc with state:=.busy })::R) w) ?_ ?_
  ·subst hE
   cases hF:gr k ent with
   | true=>
    refine gx ?_
    refine il rfl rfl rfl rfl (met (wQ (bb:=bb) (bs:=bs) (bo:=bo) (bot:=bot) (vs:=vs) (vo:=vo) (k:=k) (F:=blk bl 256 (aF k.later)::blk ba 4 [.bool k.any]::blk bm 341 [.slice am us.length cm]::aE 1 (.slice am us.length cm) 131 us.length (us.map uV)::blk bd 1 [.func (.func 206) #[] #[au bb,au bs,au bo]]::blk b15 256 (aF ent)::ob false L (.loop { rc with state:=.busy })::R) hs hbig) ?_)
    clear hs
    rintro _ w ⟨u,vs',vo',rfl,hs⟩
    refine ⟨_,rfl,gx ?_⟩
    dsimp only [Nc,List.cons_append,List.nil_append] at hs
    refine bg (vs',vo',(gk bot k).out,(gk bot k).same) ⟨rfl,rfl,rfl,rfl,rfl,rfl,rfl,rfl,rfl,rfl,rfl,trivial⟩ ⟨⟨by simp,by simp⟩,hs.to⟩
   | false=>
    refine gx ?_
    refine bg (vs,vo,k.out,k.same) ⟨rfl,rfl,rfl,rfl,rfl,rfl,rfl,rfl,rfl,rfl,rfl,trivial⟩ ⟨⟨by simp,by simp⟩,hs.to⟩
  clear hs
  rintro ⟨vs,vo,o,sm⟩ w ⟨⟨ho,hsm⟩,hs⟩
  dsimp only [Ce,List.cons_append,List.nil_append] at ho hsm hs
  have hsml:sm.length≤1099511627776:=by
   rw [hsm];split
   ·show ([]:List az).length≤_;simp
   ·omega
  refine eB (α:=Value×Value×List az×List az) (fun _=>E0)
   (fun z' w=>(z'.2.2.1=o∧(z'.2.2.2=if keeps (aK s) k ent=true then sm++[ent] else sm))∧Sat W0 (Ce ⟨bs,bo,bb,bl,ba,bm,bd,.slice am us.length cm,us,bot⟩ ⟨z'.2.2.1,z'.2.2.2,k.later,k.any⟩ z'.1 z'.2.1++blk b15 256 (aF ent)::ob false L (.loop { rc with state:=.busy })::R) w) ?_ ?_
  ·have hkeep:keeps (aK s) k ent=us.any fun m=>decide (ent.seq≤m)&&(gr k ent||decide (m<k.later.seq)):=(hup _).symm
   rw [hkeep]
   subst hE
   refine gx ?_
   refine aL (α:=Nat) (fun i=>[(37,.slice am us.length cm),(38,.int .i64 (us.length:Int)),(39,.int .i64 (i:Int)),(16,.bool (gr k ent)),(15,au b15),(24,.agg (aF ent).toArray),(8,au bm),(9,au bo),(10,au bs),(11,au bd),(12,au be),(13,au bl),(14,au ba),(23,.func (.func 211) #[] #[au bn,au bee])])
    (fun i w=>(i≤us.length∧(us.take i).any (fun m=>decide (ent.seq≤m)&&(gr k ent||decide (m<k.later.seq)))=false)∧Sat W0 (Ce ⟨bs,bo,bb,bl,ba,bm,bd,.slice am us.length cm,us,bot⟩ ⟨o,sm,k.later,k.any⟩ vs vo++blk b15 256 (aF ent)::ob false L (.loop { rc with state:=.busy })::R) w) (fun i=>us.length-i) 0 ⟨rfl,rfl,rfl,rfl,rfl,rfl,rfl,rfl,rfl,rfl,rfl,rfl,rfl,rfl,trivial⟩ ⟨⟨Nat.zero_le _,by simp⟩,hs.to⟩ ?_
   clear hs
   rintro i w ⟨⟨hi,hno⟩,hs⟩
   dsimp only [Ce,List.cons_append,List.nil_append] at hs
   obtain ⟨av,cv,rfl,-⟩:=(hs.take (.there .here)).ay
   by_cases hlt:i<us.length
   ·have hg:us[i]?=some us[i]:=List.getElem?_eq_getElem hlt
    have htk:us.take (i+1)=us.take i++[us[i]]:=by rw [List.take_add_one,hg];rfl
    generalize us[i]=mm at hg htk
    obtain ⟨bb2,cap,rs,hv,q1,q2,q3,hs2⟩:=(hs.take (.there (.there (.there (.there (.there (.there (.there (.there .here))))))))).dV (by omega)
    obtain ⟨rfl,_,rfl⟩:=Value.slice.inj hv
    have hcell:(us.map uV++rs)[0+i*1]?=some (uV mm):=by
     rw [Nat.zero_add,Nat.mul_one,List.getElem?_append_left (by simpa using hlt),List.getElem?_map,hg];rfl
    refine gx ?_
    refine cL (i:=i) rfl rfl rfl rfl rfl hlt rfl ?_
    refine eC hs2 rfl rfl .here hcell rfl ?_
    clear hs2
    by_cases hle:ent.seq≤mm
    ·cases hF:gr k ent with
     | true=>
      have HK:(us.any fun m=>decide (ent.seq≤m)&&(true||decide (m<k.later.seq)))=true:=List.any_eq_true.2 ⟨mm,List.mem_of_getElem? hg,by simp [hle]⟩
      refine gx ?_
      refine gN (aF ent) hs (fun w b2 hs=>?_)
      refine dF hs ?_
      clear hs
      intro v2 w hs
      obtain ⟨a7,c7,rfl,-⟩:=hs.ay
      refine gx ?_
      refine bD hs ?_
      clear hs
      intro w hs
      refine gx ?_
      refine bg (.slice a7 (sm.length+1) c7,vo,o,sm++[ent]) ⟨rfl,rfl,rfl,rfl,rfl,rfl,rfl,rfl,rfl,rfl,trivial⟩ ⟨⟨rfl,by rw [HK];rfl⟩,?_⟩
      have e1:aE 4 (.slice a7 (sm.length+1) c7) 256 (sm.length+1) ((bu sm).flatten++aF ent)=jc (.slice a7 (sm.length+1) c7) (sm++[ent]):=by rw [← lY];show _=aE 4 _ 256 (sm++[ent]).length _;rw [List.length_append];rfl
      rw [e1] at hs
      exact hs.to
     | false=>
      by_cases hl2:mm<k.later.seq
      ·have HK:(us.any fun m=>decide (ent.seq≤m)&&(false||decide (m<k.later.seq)))=true:=List.any_eq_true.2 ⟨mm,List.mem_of_getElem? hg,by simp [hle,hl2]⟩
       refine gx ?_
       refine gN (aF ent) hs (fun w b2 hs=>?_)
       refine dF hs ?_
       clear hs
       intro v2 w hs
       obtain ⟨a7,c7,rfl,-⟩:=hs.ay
       refine gx ?_
       refine bD hs ?_
       clear hs
       intro w hs
       refine gx ?_
       refine bg (.slice a7 (sm.length+1) c7,vo,o,sm++[ent]) ⟨rfl,rfl,rfl,rfl,rfl,rfl,rfl,rfl,rfl,rfl,trivial⟩ ⟨⟨rfl,by rw [HK];rfl⟩,?_⟩
       have e1:aE 4 (.slice a7 (sm.length+1) c7) 256 (sm.length+1) ((bu sm).flatten++aF ent)=jc (.slice a7 (sm.length+1) c7) (sm++[ent]):=by rw [← lY];show _=aE 4 _ 256 (sm++[ent]).length _;rw [List.length_append];rfl
       rw [e1] at hs
       exact hs.to
      ·refine gx ?_
       refine aB (i+1) ⟨rfl,rfl,rfl,rfl,rfl,rfl,rfl,rfl,rfl,rfl,rfl,rfl,rfl,rfl,trivial⟩ ⟨⟨hlt,?_⟩,hs.to⟩ (by omega)
       rw [hF] at hno
       rw [htk,List.any_append,hno];simp [hl2]
    ·refine gx ?_
     refine aB (i+1) ⟨rfl,rfl,rfl,rfl,rfl,rfl,rfl,rfl,rfl,rfl,rfl,rfl,rfl,rfl,trivial⟩ ⟨⟨hlt,?_⟩,hs.to⟩ (by omega)
     rw [htk,List.any_append,hno];simp [hle]
   ·have hie:i=us.length:=by omega
    subst hie
    rw [List.take_length] at hno
    refine gx ?_
    refine bg (.slice av sm.length cv,vo,o,sm) ⟨rfl,rfl,rfl,rfl,rfl,rfl,rfl,rfl,rfl,rfl,trivial⟩ ⟨⟨rfl,by rw [hno];rfl⟩,hs.to⟩
  clear hs
  rintro ⟨vs,vo,o',sm'⟩ w ⟨⟨ho',hsm'⟩,hs⟩
  dsimp only [Ce,List.cons_append,List.nil_append] at ho' hsm' hs
  subst ho'
  subst hE
  refine gx ?_
  refine cZ (vs:=aF ent) hs ?_
  clear hs
  intro w hs
  refine gx ?_
  refine bD hs ?_
  clear hs
  intro w hs
  refine gx ?_
  refine je (hs.take (.there (.there (.there (.there (.there (.there (.there (.there (.there (.there (.there .here)))))))))))) fun w hs=>.inl ⟨rfl,rfl,?_⟩
  have e1:kK (aK s) bot k ent=⟨o',sm',ent,true⟩:=by
   unfold kK
   rw [hsm',ho,hsm]
   cases gr k ent<;>simp [gk]
  rw [e1]
  dsimp only [List.cons_append,List.nil_append]
  have hs:=Sat.Em (G:=⟨bs,bo,bb,bl,ba,bm,bd,.slice am us.length cm,us,bot⟩) (k:=⟨o',sm',ent,true⟩) (vs:=vs) (vo:=vo) (F:=ob false L (.loop { rc with state:=.ready,pending:=none })::R) hs.to
  exact hs.to
 ·clear hs hEach
  intro xx Dk ve w hxx hs
  dsimp only [List.cons_append,List.nil_append] at hs
  obtain ⟨vs,vo,hs⟩:=Sat.Il (hs.take (.there (.there (.there (.there (.there .here))))))
  dsimp only [Ce,List.cons_append,List.nil_append] at hs
  rcases hxx with rfl|rfl<;>(
   refine gx ?_
   refine il rfl rfl rfl rfl (met (wQ (bb:=bb) (bs:=bs) (bo:=bo) (bot:=bot) (vs:=vs) (vo:=vo) (k:=k1) (F:=blk be 41 [ve]::ob false Dk (.deferred (some []))::ax ve oe::aR z.m s.mem::ag K.d D'::blk b 133 (aj K z s)::aO bB z.sn (aC s.snaps)::F) hs.to hkb) ?_)
   clear hs
   rintro _ w ⟨u,vs',vo',rfl,hs⟩
   refine ⟨_,rfl,gx ?_⟩
   dsimp only [Nc,List.cons_append,List.nil_append] at hs
   refine bU [blk bo 118 [vo'],blk be 41 [ve]] [(0,false),(1,false),(2,false),(3,false)] hs (by kernel_rfl) ?_
   clear hs
   intro w hs
   refine gx ?_
   refine ql (hs.take (.there (.there (.there (.there (.there (.there .here))))))) rfl ?_
   clear hs
   intro w hs
   refine ⟨_,_,rfl,?_⟩
   rcases hx with ⟨er,rfl,rfl⟩|⟨rfl,rfl⟩
   ·exact Sat.to (Sat.emp hs)
   ·exact hs.to)
end
end Go.Proofs.YtecibefflhomdaaGreatDoor
