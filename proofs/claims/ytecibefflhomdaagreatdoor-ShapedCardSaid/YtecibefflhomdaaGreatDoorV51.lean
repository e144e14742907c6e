/-
  Part 51: WALKS Shaped; THE TIED CARD, its goroutines told no builder of the kit has.
-/
import Derived.Test.YtecibefflhomdaaGreatDoorV50
import Derived.SevenTiedAt
set_option maxHeartbeats 8000000
set_option maxRecDepth 100000
set_option linter.all false
namespace Go.Proofs.YtecibefflhomdaaGreatDoor
open Go
section
open Go.Proofs.YtecibefflhomdaaGreatDoor.Pure (ae cG aR)
attribute [local irreducible] IntKind.wrap
variable {W0 w:World} {F:List ax} {p:Nat} {X:WS} {E B N:Nat} {v:Value}
theorem IW {o:l8} (hk:¬ (1≤o.kind∧o.kind≤11)) (h:gU X E B N) (hs:Sat W0 (wL p X F) w) :
 Calls Tryz.prog 38 #[ay p,.agg (nQ o).toArray] w (iH W0 p F E B N):=by
 obtain ⟨kk,a,b,ss,tt,lv,l⟩:=o
 dsimp only at hk
 have k1:¬ kk=1:=by omega
 have k2:¬ kk=2:=by omega
 have k3:¬ kk=3:=by omega
 have k4:¬ kk=4:=by omega
 have k5:¬ kk=5:=by omega
 have k6:¬ kk=6:=by omega
 have k7:¬ kk=7:=by omega
 have k8:¬ kk=8:=by omega
 have k9:¬ kk=9:=by omega
 have k10:¬ kk=10:=by omega
 have k11:¬ kk=11:=by omega
 have hs:Sat W0 (blk p 91 (bA X)::fy X.b X.d X.o X.r.closed none X.s::aj X.d X.D::eS X.rb X.r::gD X.det::aG X.vo X.out::aG X.vw X.out::F) w:=hs
 refine enter Tryz.func38 rfl Tryz.ntmps38 Tryz.results38 rfl ?_
 refine gy ?_
 refine bR (z:=[.int .i64 kk,.int .i64 a,.int .i64 b,str ss,str tt,lv]) hs ?_
 clear hs
 intro w b3 hs
 refine gy ?_
 exact ah rfl ⟨X,h,rfl,Sat.Az _ rfl hs.to⟩
theorem FC {ops:List l8} {mm tt:Int} (ho:CX W0 v ops) (hW:jF W0) (hE:iD W0) (hs:Sat W0 F w) :
 Calls Tryz.prog 10 #[v,.int .i64 mm,.int .i64 tt] w fun x w'=>x=.returned (.bool true)∧Sat W0 F w':=by
 obtain ⟨al,cl,rfl⟩:=ho.len
 refine enter Tryz.func10 rfl Tryz.ntmps10 Tryz.results10 rfl ?_
 refine gy ?_
 refine ag (met (Fw ho hs) ?_)
 clear hs
 rintro _ w ⟨b,rfl,hb,hs⟩
 refine ⟨_,rfl,?_⟩
 cases b with
 | false=>
  refine gy ?_
  exact ah rfl ⟨rfl,hs⟩
 | true=>
  have hb:=hb rfl
  refine gy ?_
  refine ag (met (CQ hW hE hs) ?_)
  clear hs
  rintro _ w ⟨p,X,rfl,hok,-,-,hs⟩
  refine ⟨_,rfl,?_⟩
  refine gy ?_
  refine aJ (α:=Nat) (fun i=>[(0,.slice al ops.length cl),(8,ay p),(10,.int .i64 (i:Int))])
   (fun i w=>i≤ops.length∧∃ X,gU X (iK (ops.take i)) i (1+i*8388608)∧Sat W0 (wL p X F) w) (fun i=>ops.length-i) 0 ⟨rfl,rfl,rfl,trivial⟩ ⟨Nat.zero_le _,X,hok,hs⟩ ?_
  clear hs hok X
  rintro i w ⟨hi,X,hok,hs⟩
  by_cases hlt:i<ops.length
  ·have hlt':(i:Int)<(ops.length:Int):=by omega
   obtain ⟨bq,q,o,hg,hmem,rfl,hrow,-⟩:=ho.row hlt
   obtain ⟨hoo,-⟩:=ho.ok o hmem
   have hls:=C4 hg
   have hE1:iK (ops.take i)+o.l.length≤1048576:=by
    have h1:=C5 ops (i+1)
    have h2:=yZ ops
    omega
   have hs:Sat W0 (blk p 91 (bA X)::fy X.b X.d X.o X.r.closed none X.s::aj X.d X.D::eS X.rb X.r::gD X.det::aG X.vo X.out::aG X.vw X.out::F) w:=hs
   refine gy ?_
   refine MQ (nQ o) hs rfl rfl rfl hrow rfl ?_
   refine aS hs ?_
   clear hs
   intro w b11 hs
   have hlv:df o.lv=true:=by obtain ⟨a2,c2,h2⟩:=hoo.rd.1;rw [h2];rfl
   refine da (vs:=nQ o) hs ?_ (h1:=by show (true&&(true&&(true&&(true&&(true&&(df o.lv&&true))))))=true;rw [hlv];rfl)
   clear hs
   intro w hs
   have hE2:iK (ops.take i)≤1048576:=by omega
   have hs:Sat W0 (blk b11 84 (nQ o)::blk p 91 (bA X)::fy X.b X.d X.o X.r.closed none X.s::aj X.d X.D::eS X.rb X.r::gD X.det::aG X.vo X.out::aG X.vw X.out::F) w:=hs.to
   have hnext:∀ {X':WS},gU X' (iK (ops.take i)) i (1+i*8388608)→gU X' (iK (ops.take (i+1))) (i+1) (1+(i+1)*8388608):=fun h=>h.more (by omega) (by omega) (by omega)
   by_cases k12:o.kind=12
   ·refine gy ?_
    refine ag (met (Da (X:=X) (F:=blk b11 84 (nQ o)::F) hE hok hE2 (fun hc=>NB hok hc hE2) (fun hc Ts hT=>by have:=((hok.att (hok.open_ hc)).1.QB hE2).2 Ts hT;omega) (fun hc=>NA hok hc hE2) hs.to) ?_)
    clear hs hok
    rintro _ w ⟨X,hok,rfl,hs⟩
    refine ⟨_,rfl,?_⟩
    refine gy ?_
    exact az (i+1) ⟨rfl,rfl,rfl,trivial⟩ ⟨hlt,X,hnext hok,Sat.Az _ rfl hs.to⟩ (by show ops.length-(i+1)<ops.length-i;omega)
   ·by_cases k28:o.kind=2∨o.kind=8
    ·obtain ⟨D',hF⟩:=Nz k28 hok hE2
     have hcall:=LY (p:=p) (X:=X) (F:=blk b11 84 (nQ o)::F) k28 hE hok hE2 (fun hc=>((hok.att (hok.open_ hc)).1.QB hE2).2) (fun hc=>(hok.att (hok.open_ hc)).1.four) hF (w:=w)
     rcases k28 with k2|k8
     ·refine gy ?_
      refine ag (met (hcall hs.to) ?_)
      clear hs hok hcall hF
      rintro _ w ⟨X,hok,rfl,hs⟩
      refine ⟨_,rfl,?_⟩
      refine gy ?_
      exact az (i+1) ⟨rfl,rfl,rfl,trivial⟩ ⟨hlt,X,hnext hok,Sat.Az _ rfl hs.to⟩ (by show ops.length-(i+1)<ops.length-i;omega)
     ·have k2:¬ o.kind=2:=by omega
      refine gy ?_
      refine ag (met (hcall hs.to) ?_)
      clear hs hok hcall hF
      rintro _ w ⟨X,hok,rfl,hs⟩
      refine ⟨_,rfl,?_⟩
      refine gy ?_
      exact az (i+1) ⟨rfl,rfl,rfl,trivial⟩ ⟨hlt,X,hnext hok,Sat.Az _ rfl hs.to⟩ (by show ops.length-(i+1)<ops.length-i;omega)
    ·have k2:¬ o.kind=2:=fun h=>k28 (.inl h)
     have k8:¬ o.kind=8:=fun h=>k28 (.inr h)
     by_cases k11:o.kind=11
     ·refine gy ?_
      refine ag (met (pJ (X:=X) (F:=blk b11 84 (nQ o)::F) k11 hW hE hok hE2 (by omega) (by omega) hs.to) ?_)
      clear hs
      rintro _ w ⟨Y,hokY,hC,rfl,hs⟩
      refine ⟨_,rfl,?_⟩
      have hr:Y.r=X.r:=hC.1
      have hcl:=fun hc=>L5 hok hc hC
      rw [← hr] at hcl
      clear hC hok hr
      have hs:Sat W0 (eS Y.rb Y.r::blk p 91 (bA Y)::blk b11 84 (nQ o)::fy Y.b Y.d Y.o Y.r.closed none Y.s::aj Y.d Y.D::gD Y.det::aG Y.vo Y.out::aG Y.vw Y.out::F) w:=hs.to
      obtain ⟨vp,vs,us,hu,hs⟩:=hs.jD
      cases hc:Y.r.closed with
      | true=>
       rw [hc] at hs
       refine gy ?_
       have hs:=Sat.dK (rb:=Y.rb) (r:=Y.r) hu (by rw [hc];exact hs)
       exact az (i+1) ⟨rfl,rfl,rfl,trivial⟩ ⟨hlt,Y,hokY.more (by omega) (by omega) (by omega),Sat.Az _ hc hs.to⟩ (by show ops.length-(i+1)<ops.length-i;omega)
      | false=>
       rw [hc] at hs
       have hcl:=hcl hc
       refine gy ?_
       have hs:=Sat.dK (rb:=Y.rb) (r:=Y.r) hu (by rw [hc];exact hs)
       obtain ⟨iv,-,-⟩:=hokY.att (hokY.open_ hc)
       have hlev:=iv.QB hE2
       have hct:=iv.QC hE2
       refine ag (met (FA (X:=Y) (F:=blk b11 84 (nQ o)::F) hc hokY (by have:=hokY.sn;omega) (by have:=hokY.plen;omega) (fun Ts hT=>by have:=hlev.2 Ts hT;omega) iv.four (by omega) hcl (Sat.Az Y hc hs.to)) ?_)
       clear hs hokY hcl iv hlev hct hc hu
       rintro _ w ⟨X,hok,rfl,hs⟩
       refine ⟨_,rfl,?_⟩
       refine gy ?_
       exact az (i+1) ⟨rfl,rfl,rfl,trivial⟩ ⟨hlt,X,hok.more (by omega) (by omega) (by omega),Sat.Az _ rfl hs.to⟩ (by show ops.length-(i+1)<ops.length-i;omega)
     ·have hcall:Calls Tryz.prog 38 #[ay p,.agg (nQ o).toArray] w (iH W0 p (blk b11 84 (nQ o)::F) (iK (ops.take i)+o.l.length) (i+1) (1+i*8388608+8388608)):=by
       by_cases k:1≤o.kind∧o.kind≤11
       ·exact Fv k.1 k.2 hoo hW hE hok hE1 (by omega) (by omega) hs.to
       ·exact (IW k hok hs.to).mono fun x w' ⟨X',hx,e,k⟩=>⟨X',hx.more (by omega) (by omega) (by omega),e,k⟩
      refine gy ?_
      refine ag (met hcall ?_)
      clear hs hok hcall
      rintro _ w ⟨X,hok,rfl,hs⟩
      refine ⟨_,rfl,?_⟩
      refine gy ?_
      exact az (i+1) ⟨rfl,rfl,rfl,trivial⟩ ⟨hlt,X,hok.more (by omega) (by omega) (by omega),Sat.Az _ rfl hs.to⟩ (by show ops.length-(i+1)<ops.length-i;omega)
  ·have hie:i=ops.length:=by omega
   subst hie
   have hlt':¬ (ops.length:Int)<(ops.length:Int):=by omega
   refine gy ?_
   have hs:Sat W0 (blk p 91 (bA X)::fy X.b X.d X.o X.r.closed none X.s::aj X.d X.D::eS X.rb X.r::gD X.det::aG X.vo X.out::aG X.vw X.out::F) w:=hs
   exact ah rfl ⟨rfl,hs.drop.drop.drop.drop.drop.drop.drop⟩
end
theorem I0 {p:Pinned} {s:OpenSpec} {c:OpenClaim} {kinds:List LaidKind} {har:Bool×String} (hc:c.holds p s) (hw:c.wfByText s=true) (htie:c.laidByTextAt .later p kinds true)
 (hst:c.start=.entering) (hnb:c.noBlocks=false∧c.again=false) (hm:p.checked.prog.mainIs=some (har.1,har.2.toList))
 {f:FuncId} {fn:Func} (hf:p.checked.prog.funcNamed c.func=some f) (hfn:p.checked.prog.funcs[f]?=some fn) (hlook:true=p.checked.prog.looks []) (hps:(fn.params.toList.all fun t=>!p.checked.prog.wantsStandIn t)=true)
 (hg:true=c.goesBy p.checked.prog) :
 Claim7.holds p (.plain s) { stood:={ row:=c,standIns:=[],harness:=har,looks:=true },kinds:=[],alts:=[],goes:=true,laidByText:=true,laidKinds:=kinds,laidTests:=true,laidLooks:=.later }:=by
 have h6:Claim7.isSixth { stood:={ row:=c,standIns:=[],harness:=har,looks:=true },kinds:=[] }=false:=by simp [Claim7.isSixth]
 have hl:∀ f' fn',p.checked.prog.funcNamed c.func=some f'→p.checked.prog.funcs[f']?=some fn'→true=p.checked.prog.looks []∧∀ (j:Nat) t,fn'.params[j]?=some t→p.checked.prog.wantsStandIn t=false:=by
  intro f' fn' h1 h2
  obtain rfl:f=f':=Option.some.inj (hf.symm.trans h1)
  obtain rfl:fn=fn':=Option.some.inj (hfn.symm.trans h2)
  refine ⟨hlook,fun j t ht=>?_⟩
  have:=List.all_eq_true.1 hps t (List.mem_of_getElem? (by simpa using ht))
  simpa using this
 exact ⟨Claim7.tied_new_at .later kinds true (Claim7.new_of_sixth hc har true hst hnb hm h6 hl) hw,(fun D hD=>by cases hD),htie,(fun h=>by cases h),hg⟩
end Go.Proofs.YtecibefflhomdaaGreatDoor
