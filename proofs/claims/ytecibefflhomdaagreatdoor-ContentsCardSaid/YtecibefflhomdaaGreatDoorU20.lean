/-
  Part 20: The engine 26 'gx'; WALKS package levels.
-/
import Derived.Test.YtecibefflhomdaaGreatDoorU19
set_option maxHeartbeats 8000000
set_option maxRecDepth 100000
set_option linter.all false
namespace Go.Proofs.YtecibefflhomdaaGreatDoor
open Go
section
variable {ops:Array Oper} {Q:Exit→Act→World→Prop} {n:Nat} {ds:Md} {e:Env} {w:World} {rest:List Oper} {ord:List (Nat×Bool)} {S:World→Prop}
variable {op:Op} {ty:TypeId} {pos:String} {af:Array Edge} {d i j:Nat} {v:Value} {b b':Bool}
theorem isWL {l:List Oper} (k:WL ops Q n ds l e w):WL ops Q n ds l e w:=k
theorem isWC {c:Code} (k:WC c Q n ds e w):WC c Q n ds e w:=k
theorem isWQ {x:Exit} (k:WQ Q x n ds e w):WQ Q x n ds e w:=k
theorem isWO (k:WO ops Q S n ds ord e w):WO ops Q S n ds ord e w:=k
theorem isBin {dst:Option Nat} {bo:BinOp} {t t2:TypeId} {x y:Operand} (k:WL ops Q n ds (⟨dst,.binOp bo t x y t2,ty,pos,af,none⟩::rest) e w):WL ops Q n ds (⟨dst,.binOp bo t x y t2,ty,pos,af,none⟩::rest) e w:=k
theorem isCon {dst:Option Nat} {s t:TypeId} {x:Operand} (k:WL ops Q n ds (⟨dst,.convert s t x,ty,pos,af,none⟩::rest) e w):WL ops Q n ds (⟨dst,.convert s t x,ty,pos,af,none⟩::rest) e w:=k
theorem isBlt {dst:Option Nat} {bi:Builtin} {xs:Array Operand} {ts:Array TypeId} (k:WL ops Q n ds (⟨dst,.call { callee:=.builtin bi,args:=xs,argTypes:=ts },ty,pos,af,none⟩::rest) e w):WL ops Q n ds (⟨dst,.call { callee:=.builtin bi,args:=xs,argTypes:=ts },ty,pos,af,none⟩::rest) e w:=k
theorem isGu {dst:Option Nat} {g:Nat×Bool} (k:WL ops Q n ds (⟨dst,op,ty,pos,af,some g⟩::rest) e w):WL ops Q n ds (⟨dst,op,ty,pos,af,some g⟩::rest) e w:=k
theorem isLd {dst:Option Nat} {t:TypeId} {x:Operand} (k:WL ops Q n ds (⟨dst,.load t x,ty,pos,af,none⟩::rest) e w):WL ops Q n ds (⟨dst,.load t x,ty,pos,af,none⟩::rest) e w:=k
def guV (ops:Array Oper) (e:Env) (j:Nat):Bool:=match ops[j]? with
 | some ⟨some t,_,_,_,_,_⟩=>match lk e t with
  | some (.bool _)=>false
  | some _=>true
  | none=>false
 | _=>false
theorem guV_yielded {a:Act} (ha:Fr n ds e a) (h:guV ops e j=true):yielded ops a.tmps j=none:=by
 unfold guV at h
 split at h
 ·rename_i t _ _ _ _ _ ho
  split at h
  ·cases h
  ·rename_i v hne hv
   have:=ha.get t _ hv
   cases v with
   | bool b=>exact (hne b rfl).elim
   | _=>simp [yielded,ho,this]
  ·cases h
 ·cases h
theorem wl_gU (h:guV ops e j=true) (hd:Nat.blt d n=true) (k:WL ops Q n ds rest ((d,undef)::e) w):WL ops Q n ds (⟨some d,op,ty,pos,af,some (j,b')⟩::rest) e w:=by
 unfold WL at *
 intro a ha
 simp only [wpList,Region.wanted,guV_yielded ha h]
 exact k _ (ha.put hd)
theorem wo_gU (ho:ops[i]?=some ⟨some d,op,ty,pos,af,some (j,b')⟩) (h:guV ops e j=true) (hd:Nat.blt d n=true) (k:WO ops Q S n ds ord ((d,undef)::e) w):WO ops Q S n ds ((i,false)::ord) e w:=by
 unfold WO at *
 intro a ha hS
 exact ⟨_,undef,ho,.inr ⟨by simp [Region.wanted,guV_yielded ha h],rfl⟩,hS,k _ (ha.put hd) hS⟩
theorem wo_u64 {x:Int} (ho:ops[i]?=some ⟨some d,op,ty,pos,af,none⟩) (hv:yv e op=some (.int .u64 (IntKind.u64.wrap x))) (h1:0≤x) (h2:x≤18446744073709551615) (hd:Nat.blt d n=true)
 (k:WO ops Q S n ds ord ((d,.int .u64 x)::e) w):WO ops Q S n ds ((i,false)::ord) e w:=wo_p ho (by rw [hv,IntWalk.u64_in _ ⟨h1,h2⟩]) hd k
theorem wo_tr (ho:ops[i]?=some ⟨some d,op,ty,pos,af,none⟩) (hv:yv e op=some (.bool b)) (hp:b=true) (hd:Nat.blt d n=true) (k:WO ops Q S n ds ord ((d,.bool true)::e) w):WO ops Q S n ds ((i,false)::ord) e w:=wo_p ho (by rw [hv,hp]) hd k
theorem wo_fa (ho:ops[i]?=some ⟨some d,op,ty,pos,af,none⟩) (hv:yv e op=some (.bool b)) (hp:b=false) (hd:Nat.blt d n=true) (k:WO ops Q S n ds ord ((d,.bool false)::e) w):WO ops Q S n ds ((i,false)::ord) e w:=wo_p ho (by rw [hv,hp]) hd k
end
theorem gx {G G':Prop} (k:G') (h:Hold G'→G:=by
 (intro k
  repeat (first
   | (refine isWL ?_
      first
       | refine wl_nil ?_
       | refine wl_p (op:=.fieldAddr _ _ _) rfl rfl ?_
       | refine wl_p (op:=.nilCheck _) rfl rfl ?_
       | (refine isLd ?_
          first
           | refine wl_ld (by assumption) rfl rfl (by repeat (first|exact Take.here|apply Take.there)) (by rfl) rfl ?_
           | refine wl_ldN [_,_] (by assumption) rfl rfl rfl (by repeat (first|exact Take.here|apply Take.there)) (by exact ⟨rfl,rfl,trivial⟩) rfl ?_
           | refine wl_ldN [_,_,_] (by assumption) rfl rfl rfl (by repeat (first|exact Take.here|apply Take.there)) (by exact ⟨rfl,rfl,rfl,trivial⟩) rfl ?_
           | refine wl_ldN [_,_,_,_] (by assumption) rfl rfl rfl (by repeat (first|exact Take.here|apply Take.there)) (by exact ⟨rfl,rfl,rfl,rfl,trivial⟩) rfl ?_
           | refine wl_ldN [_,_,_,_,_] (by assumption) rfl rfl rfl (by repeat (first|exact Take.here|apply Take.there)) (by exact ⟨rfl,rfl,rfl,rfl,rfl,trivial⟩) rfl ?_
           | refine wl_ldN [_,_,_,_,_,_] (by assumption) rfl rfl rfl (by repeat (first|exact Take.here|apply Take.there)) (by exact ⟨rfl,rfl,rfl,rfl,rfl,rfl,trivial⟩) rfl ?_)
       | (refine isBin ?_
          first
           | refine wl_i rfl (by omega) (by omega) rfl ?_
           | refine wl_u64 rfl (by omega) (by omega) rfl ?_
           | refine wl_bT rfl (by first|assumption|omega) rfl ?_
           | refine wl_bF rfl (by first|assumption|omega) rfl ?_
           | refine wl_tr rfl (by assumption) rfl ?_
           | refine wl_fa rfl (by assumption) rfl ?_
           | refine wl_u32 rfl (by omega) (by omega) rfl ?_
           | refine wl_p rfl rfl ?_)
       | (refine isCon ?_
          first
           | refine wl_i rfl (by omega) (by omega) rfl ?_
           | refine wl_u64 rfl (by omega) (by omega) rfl ?_
           | refine wl_u32 rfl (by omega) (by omega) rfl ?_
           | refine wl_u8 rfl rfl ?_
           | refine wl_p rfl rfl ?_)
       | (refine isGu ?_
          first
           | refine wl_gT rfl ?_
           | refine wl_gF rfl rfl rfl ?_
           | refine wl_gU rfl rfl ?_)
       | (refine isBlt ?_
          refine wl_p rfl rfl ?_)
       | refine wl_p (op:=.move _) (ty:=4) rfl rfl ?_
       | refine wl_p (op:=.move _) rfl rfl ?_
       | refine wl_p (op:=.assign _) rfl rfl ?_
       | refine wl_p (op:=.extract _ _) rfl rfl ?_
       | refine wl_p (op:=.unOp _ _ _) rfl rfl ?_
       | refine wl_p (op:=.pick _ _ _) rfl rfl ?_
       | refine wl_p (op:=.makeInterface _ _) rfl rfl ?_
       | refine wl_p (op:=.makeFunc _ _ _) rfl rfl ?_)
   | (refine isWC ?_
      first
       | refine wc_seq ?_
       | refine wc_region rfl ?_
       | refine wc_condT rfl ?_
       | refine wc_condF rfl ?_
       | refine wc_block ?_
       | refine wc_skip ?_
       | refine wc_ret ?_
       | refine wc_exit ?_)
   | (refine isWQ ?_
      first
       | refine wq_then rfl ?_
       | refine wq_then_exit ?_
       | refine wq_then_ret ?_
       | refine wq_blk ?_
       | refine wq_blk_ret ?_
       | refine wq_blk_hit ?_
       | refine wq_blk_miss rfl ?_
       | refine wq_loop_exit ?_
       | refine wq_loop_ret ?_
       | refine wq_woL rfl ?_
       | refine wq_wo (Sat.to (by assumption)) ?_)
   | (refine isWO ?_
      first
       | refine wo_nil ?_
       | refine wo_p (op:=.fieldAddr _ _ _) rfl rfl rfl ?_
       | refine wo_p (op:=.nilCheck _) rfl rfl rfl ?_
       | refine wo_p (op:=.assign _) rfl rfl rfl ?_
       | refine wo_p (op:=.move _) rfl rfl rfl ?_
       | refine wo_ld rfl rfl rfl (by repeat (first|exact Take.here|apply Take.there)) (by rfl) rfl ?_
       | refine wo_loud rfl ?_
       | refine wo_i rfl rfl (by omega) (by omega) rfl ?_
       | refine wo_u64 rfl rfl (by omega) (by omega) rfl ?_
       | refine wo_bT rfl rfl (by first|assumption|omega) rfl ?_
       | refine wo_bF rfl rfl (by first|assumption|omega) rfl ?_
       | refine wo_tr rfl rfl (by assumption) rfl ?_
       | refine wo_fa rfl rfl (by assumption) rfl ?_
       | refine wo_p rfl rfl rfl ?_
       | refine wo_gF rfl rfl rfl rfl ?_
       | refine wo_gU rfl rfl rfl ?_
       | refine wo_pg rfl rfl rfl rfl ?_
       | refine wo_ldg rfl rfl rfl rfl (by repeat (first|exact Take.here|apply Take.there)) (by rfl) rfl ?_
       | refine wo_ldN [_,_] rfl rfl rfl rfl (by repeat (first|exact Take.here|apply Take.there)) (by exact ⟨rfl,rfl,trivial⟩) rfl ?_
       | refine wo_ldN [_,_,_] rfl rfl rfl rfl (by repeat (first|exact Take.here|apply Take.there)) (by exact ⟨rfl,rfl,rfl,trivial⟩) rfl ?_
       | refine wo_ldN [_,_,_,_] rfl rfl rfl rfl (by repeat (first|exact Take.here|apply Take.there)) (by exact ⟨rfl,rfl,rfl,rfl,trivial⟩) rfl ?_
       | refine wo_ldN [_,_,_,_,_] rfl rfl rfl rfl (by repeat (first|exact Take.here|apply Take.there)) (by exact ⟨rfl,rfl,rfl,rfl,rfl,trivial⟩) rfl ?_))
  exact k.out)):G:=h ⟨k⟩
theorem gxs {G G':Prop} (k:G') (h:Hold G'→G:=by
 (intro k
  repeat (first
   | (refine isWL ?_
      first
       | refine wl_nil ?_
       | refine wl_p (op:=.fieldAddr _ _ _) rfl rfl ?_
       | refine wl_p (op:=.nilCheck _) rfl rfl ?_
       | (refine isLd ?_
          first
           | refine wl_ld (by assumption) rfl rfl (by repeat (first|exact Take.here|apply Take.there)) (by rfl) rfl ?_
           | refine wl_ldN [_,_] (by assumption) rfl rfl rfl (by repeat (first|exact Take.here|apply Take.there)) (by exact ⟨rfl,rfl,trivial⟩) rfl ?_
           | refine wl_ldN [_,_,_] (by assumption) rfl rfl rfl (by repeat (first|exact Take.here|apply Take.there)) (by exact ⟨rfl,rfl,rfl,trivial⟩) rfl ?_
           | refine wl_ldN [_,_,_,_] (by assumption) rfl rfl rfl (by repeat (first|exact Take.here|apply Take.there)) (by exact ⟨rfl,rfl,rfl,rfl,trivial⟩) rfl ?_
           | refine wl_ldN [_,_,_,_,_] (by assumption) rfl rfl rfl (by repeat (first|exact Take.here|apply Take.there)) (by exact ⟨rfl,rfl,rfl,rfl,rfl,trivial⟩) rfl ?_
           | refine wl_ldN [_,_,_,_,_,_] (by assumption) rfl rfl rfl (by repeat (first|exact Take.here|apply Take.there)) (by exact ⟨rfl,rfl,rfl,rfl,rfl,rfl,trivial⟩) rfl ?_)
       | (refine isBin ?_
          first
           | refine wl_i rfl (by omega) (by omega) rfl ?_
           | refine wl_u64 rfl (by omega) (by omega) rfl ?_
           | refine wl_bT rfl (by first|assumption|omega) rfl ?_
           | refine wl_bF rfl (by first|assumption|omega) rfl ?_
           | refine wl_tr rfl (by assumption) rfl ?_
           | refine wl_fa rfl (by assumption) rfl ?_
           | refine wl_u32 rfl (by omega) (by omega) rfl ?_
           | refine wl_p rfl rfl ?_)
       | (refine isCon ?_
          first
           | refine wl_i rfl (by omega) (by omega) rfl ?_
           | refine wl_u64 rfl (by omega) (by omega) rfl ?_
           | refine wl_u32 rfl (by omega) (by omega) rfl ?_
           | refine wl_u8 rfl rfl ?_
           | refine wl_p rfl rfl ?_)
       | (refine isGu ?_
          first
           | refine wl_gT rfl ?_
           | refine wl_gF rfl rfl rfl ?_
           | refine wl_gU rfl rfl ?_)
       | (refine isBlt ?_
          refine wl_p rfl rfl ?_)
       | refine wl_p (op:=.move _) (ty:=4) rfl rfl ?_
       | refine wl_p (op:=.move _) rfl rfl ?_
       | refine wl_p (op:=.assign _) rfl rfl ?_
       | refine wl_p (op:=.extract _ _) rfl rfl ?_
       | refine wl_p (op:=.unOp _ _ _) rfl rfl ?_
       | refine wl_p (op:=.pick _ _ _) rfl rfl ?_
       | refine wl_p (op:=.makeInterface _ _) rfl rfl ?_
       | refine wl_p (op:=.makeFunc _ _ _) rfl rfl ?_)
   | (refine isWC ?_
      first
       | refine wc_region rfl ?_
       | refine wc_condT rfl ?_
       | refine wc_condF rfl ?_
       | refine wc_block ?_
       | refine wc_skip ?_
       | refine wc_ret ?_
       | refine wc_exit ?_)
   | (refine isWQ ?_
      first
       | refine wq_then_exit ?_
       | refine wq_then_ret ?_
       | refine wq_blk ?_
       | refine wq_blk_ret ?_
       | refine wq_blk_hit ?_
       | refine wq_blk_miss rfl ?_
       | refine wq_loop_exit ?_
       | refine wq_loop_ret ?_
       | refine wq_woL rfl ?_
       | refine wq_wo (Sat.to (by assumption)) ?_)
   | (refine isWO ?_
      first
       | refine wo_nil ?_
       | refine wo_p (op:=.fieldAddr _ _ _) rfl rfl rfl ?_
       | refine wo_p (op:=.nilCheck _) rfl rfl rfl ?_
       | refine wo_p (op:=.assign _) rfl rfl rfl ?_
       | refine wo_p (op:=.move _) rfl rfl rfl ?_
       | refine wo_ld rfl rfl rfl (by repeat (first|exact Take.here|apply Take.there)) (by rfl) rfl ?_
       | refine wo_loud rfl ?_
       | refine wo_i rfl rfl (by omega) (by omega) rfl ?_
       | refine wo_u64 rfl rfl (by omega) (by omega) rfl ?_
       | refine wo_bT rfl rfl (by first|assumption|omega) rfl ?_
       | refine wo_bF rfl rfl (by first|assumption|omega) rfl ?_
       | refine wo_tr rfl rfl (by assumption) rfl ?_
       | refine wo_fa rfl rfl (by assumption) rfl ?_
       | refine wo_p rfl rfl rfl ?_
       | refine wo_gF rfl rfl rfl rfl ?_
       | refine wo_gU rfl rfl rfl ?_
       | refine wo_pg rfl rfl rfl rfl ?_
       | refine wo_ldg rfl rfl rfl rfl (by repeat (first|exact Take.here|apply Take.there)) (by rfl) rfl ?_
       | refine wo_ldN [_,_] rfl rfl rfl rfl (by repeat (first|exact Take.here|apply Take.there)) (by exact ⟨rfl,rfl,trivial⟩) rfl ?_
       | refine wo_ldN [_,_,_] rfl rfl rfl rfl (by repeat (first|exact Take.here|apply Take.there)) (by exact ⟨rfl,rfl,rfl,trivial⟩) rfl ?_
       | refine wo_ldN [_,_,_,_] rfl rfl rfl rfl (by repeat (first|exact Take.here|apply Take.there)) (by exact ⟨rfl,rfl,rfl,rfl,trivial⟩) rfl ?_
       | refine wo_ldN [_,_,_,_,_] rfl rfl rfl rfl (by repeat (first|exact Take.here|apply Take.there)) (by exact ⟨rfl,rfl,rfl,rfl,rfl,trivial⟩) rfl ?_))
  exact k.out)):G:=h ⟨k⟩
section
open Go.Proofs.YtecibefflhomdaaGreatDoor.Pure (PDisk Ent Rd openB less bltB searchL numB textB frameB putB dec beN Kp kp0 doneK keepP trimL isFst keeps)
attribute [local irreducible] IntKind.wrap
variable {W0 w:World} {F:List HProp} {v:Value} {d m p:Nat} {T:Tab} {D D':PDisk} {M:List Ent}
theorem trimL_cons {l:List Ent} {e:Ent} (h:l.getLast?=some e) (hd:e.del=true):trimL l.length l=trimL l.dropLast.length l.dropLast:=by
 have hne:l≠[]:=by intro h';subst h';cases h
 obtain ⟨n,hn⟩:∃ n,l.length=n+1:=⟨l.length-1,by have:=List.length_pos_iff.2 hne;omega⟩
 rw [hn]
 simp only [trimL,h,hd,if_true]
 rw [List.length_dropLast,hn];rfl
theorem trimL_stop {l:List Ent} (h:l=[]∨∃ e,l.getLast?=some e∧e.del=false):trimL l.length l=l:=by
 rcases h with rfl|⟨e,h,hd⟩
 ·rfl
 ·have hne:l≠[]:=by intro h';subst h';cases h
  obtain ⟨n,hn⟩:∃ n,l.length=n+1:=⟨l.length-1,by have:=List.length_pos_iff.2 hne;omega⟩
  rw [hn]
  simp only [trimL,h,hd,Bool.false_eq_true,if_false]
theorem Sat.entCut {b c:Nat} {l:List Ent} (h:Sat W0 (entS (.slice (some ⟨b,0,none⟩) l.length c) l::F) w) (hl:0<l.length):Sat W0 (entS (.slice (some ⟨b,0,none⟩) (l.length-1) c) l.dropLast::F) w:=by
 obtain ⟨b',cap,rs,hv,q1,q2,q3,hs⟩:=h.ownPos hl
 obtain ⟨hb,_,rfl⟩:=Value.slice.inj hv
 cases hb
 have hne:l≠[]:=by intro h';subst h';simp at hl
 have e1:l=l.dropLast++[l.getLast hne]:=(List.dropLast_concat_getLast hne).symm
 have e2:(entsC l).flatten=(entsC l.dropLast).flatten++entC (l.getLast hne):=(congrArg (fun z=>(entsC z).flatten) e1).trans (ents_cons _ _)
 rw [e2,List.append_assoc] at hs
 have hlen:l.dropLast.length=l.length-1:=List.length_dropLast
 have hs:=Sat.ownClose (k:=4) (len:=l.length-1) (cs:=(entsC l.dropLast).flatten) hs (by omega) q2 (by simp only [List.length_append,q3,entC,List.length_cons,List.length_nil];omega) (by rw [entsC_flat,hlen]) (entsC_one _)
 rw [← hlen] at hs ⊢
 exact hs
abbrev dnL (bb bs bo:Nat) (bot:Bool) (vs vo:Value) (same out:List Ent):List HProp:=[blk bs 118 [vs],entS vs same,blk bo 118 [vo],entS vo out,blk bb 4 [.bool bot]]
theorem done_spec {bb bs bo:Nat} {bot:Bool} {vs vo:Value} {k:Kp} (hs:Sat W0 (dnL bb bs bo bot vs vo k.same k.out++F) w) (hb:k.out.length+k.same.length≤1099511627776) :
 Calls Tryz.prog 206 #[idV bb,idV bs,idV bo] w fun x w'=>∃ u vs' vo',x=.returned u∧Sat W0 (dnL bb bs bo bot vs' vo' (doneK bot k).same (doneK bot k).out++F) w':=by
 dsimp only [dnL,List.cons_append,List.nil_append] at hs
 refine enter Tryz.func206 rfl Tryz.ntmps206 Tryz.results206 rfl ?_
 refine wc_cut (α:=Value×List Ent) (fun _=>[(0,idV bb),(1,idV bs),(2,idV bo)])
  (fun z w=>(z.2=(if bot=true then trimL k.same.length k.same else k.same)∧z.2.length≤k.same.length)∧Sat W0 (blk bs 118 [z.1]::entS z.1 z.2::blk bo 118 [vo]::entS vo k.out::blk bb 4 [.bool bot]::F) w) ?_ ?_
 ·refine gxs ?_
  refine wc_loop (α:=Value×List Ent) (fun _=>[(0,idV bb),(1,idV bs),(2,idV bo)])
   (fun z w=>((if bot=true then trimL z.2.length z.2 else z.2)=(if bot=true then trimL k.same.length k.same else k.same)∧z.2.length≤k.same.length)∧Sat W0 (blk bs 118 [z.1]::entS z.1 z.2::blk bo 118 [vo]::entS vo k.out::blk bb 4 [.bool bot]::F) w) (fun z=>z.2.length) (vs,k.same) ⟨rfl,rfl,rfl,trivial⟩ ⟨⟨rfl,Nat.le_refl _⟩,hs⟩ ?_
  clear hs
  rintro ⟨vl,l⟩ w ⟨⟨h1,h2⟩,hs⟩
  dsimp only at h1 h2 hs ⊢
  obtain ⟨a,c,rfl,hc⟩:=(hs.take (.there .here)).entLen
  cases bot with
  | false=>
   refine gx ?_
   exact wq_cut (.slice a l.length c,l) ⟨rfl,rfl,rfl,trivial⟩ ⟨⟨h1,h2⟩,hs⟩
  | true=>
   simp only [if_true] at h1 ⊢
   by_cases hl:0<l.length
   ·have hl':(l.length:Int) > 0:=by omega
    have hne:l≠[]:=by intro h';subst h';simp at hl
    obtain ⟨b,cap,rs,hv,q1,q2,q3,hs2⟩:=(hs.take (.there .here)).ownPos hl
    obtain ⟨rfl,_,rfl⟩:=Value.slice.inj hv
    have hlast:l[l.length-1]?=some (l.getLast hne):=by rw [List.getLast_eq_getElem];exact List.getElem?_eq_getElem (by omega)
    have hrow:=(rows_seg (k:=4) (entsC_k l) (i:=l.length-1) (r:=entC (l.getLast hne)) (by simp [entsC,hlast])).app (rest:=rs)
    have hdel:((entsC l).flatten++rs)[0+(l.length-1)*4+2]?=some (.bool (l.getLast hne).del):=by
     rw [Nat.zero_add];exact hrow.2.2.1
    have hgl:l.getLast?=some (l.getLast hne):=List.getLast?_eq_some_getLast hne
    generalize l.getLast hne=z at *
    refine gx ?_
    refine wl_ixn (i:=l.length-1) rfl rfl (by omega) rfl rfl (by omega) rfl ?_
    refine gx ?_
    refine wl_ld hs2 rfl rfl .here (by exact hdel) rfl ?_
    cases hd:z.del with
    | true=>
     refine gx ?_
     have hs:=((hs.take (.there .here)).entCut hl)
     have hdl:l.dropLast.length=l.length-1:=List.length_dropLast
     refine wl_cut 0 (l.length-1) rfl rfl rfl rfl (by show some (Value.int .i64 ((l.length:Int)-1))=some (Value.int .i64 ((l.length-1:Nat):Int));congr 2;omega) (by omega) (by omega) rfl ?_
     have e0:cutAt b 0 c 0 4=⟨b,0,none⟩:=by unfold cutAt;split<;>simp
     rw [e0,Nat.sub_zero,Nat.sub_zero]
     refine gx ?_
     refine w_st hs fun w hs=>?_
     refine gx ?_
     refine wq_round (.slice (some ⟨b,0,none⟩) (l.length-1) c,l.dropLast) ⟨rfl,rfl,rfl,trivial⟩ ⟨⟨?_,?_⟩,hs.to⟩ ?_
     ·rw [← h1];exact (trimL_cons hgl hd).symm
     ·dsimp only;omega
     ·dsimp only;omega
    | false=>
     refine gx ?_
     have:=trimL_stop (l:=l) (.inr ⟨z,hgl,hd⟩)
     rw [this] at h1
     exact wq_cut (.slice (some ⟨b,0,none⟩) l.length c,l) ⟨rfl,rfl,rfl,trivial⟩ ⟨⟨h1,h2⟩,hs⟩
   ·have hl':¬ (l.length:Int) > 0:=by omega
    have hl0:l=[]:=List.eq_nil_of_length_eq_zero (by omega)
    refine gx ?_
    have:=trimL_stop (l:=l) (.inl hl0)
    rw [this] at h1
    exact wq_cut (.slice a l.length c,l) ⟨rfl,rfl,rfl,trivial⟩ ⟨⟨h1,h2⟩,hs⟩
 ·clear hs
  rintro ⟨vl,l⟩ w ⟨⟨h1,h2⟩,hs⟩
  dsimp only at h1 h2 hs
  refine gx ?_
  have e3:entS vo k.out=ownS 4 vo 256 k.out.length (entsC k.out).flatten:=rfl
  refine wl_append (k:=4) (m:=l.length) (news:=(entsC l).flatten) hs rfl rfl (by repeat (first|exact Take.here|apply Take.there)) (srcOwn rfl (.there .here)) rfl rfl rfl rfl rfl (by simp only [maxLen];omega) (by omega) rfl fun v' w hs=>?_
  refine gx ?_
  obtain ⟨a9,c9,rfl,-⟩:=hs.ownShape
  refine w_st hs fun w hs=>?_
  refine gx ?_
  refine w_st hs fun w hs=>?_
  refine gx ?_
  refine wq_end rfl ⟨_,.slice none 0 0,.slice a9 (k.out.length+l.length) c9,rfl,?_⟩
  have e4:(doneK bot k).out=k.out++l:=by unfold doneK;rw [h1]
  have e5:(doneK bot k).same=[]:=rfl
  rw [e4,e5]
  have hs:=Sat.ownNil (k:=4) (E:=256) hs
  have e6:entS (.slice a9 (k.out.length+l.length) c9) (k.out++l)=ownS 4 (.slice a9 (k.out.length+l.length) c9) 256 (k.out.length+l.length) ((entsC k.out).flatten++(entsC l).flatten):=by
   show ownS 4 _ 256 (k.out++l).length (entsC (k.out++l)).flatten=_
   rw [List.length_append];simp [entsC]
  dsimp only [dnL,List.cons_append,List.nil_append]
  rw [e6]
  exact hs.to
end
end Go.Proofs.YtecibefflhomdaaGreatDoor
