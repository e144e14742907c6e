/-
  Part 49: WALKS how often a Get reads; WALKS the tables behind a Compact.
-/
import Derived.Test.YtecibefflhomdaaGreatDoorV48
set_option maxHeartbeats 8000000
set_option maxRecDepth 100000
set_option linter.all false
namespace Go.Proofs.YtecibefflhomdaaGreatDoor
open Go
section
open Go.Proofs.YtecibefflhomdaaGreatDoor.Pure (ae cG aR)
attribute [local irreducible] IntKind.wrap
variable {W0 w:World} {F:List ax} {p:Nat} {X:WS} {E B N:Nat} {v:Value}
def jR (X:WS):WS:=match X.det with
 | none=>{ X with D:=uncounted X.D }
 | some q=>{ X with det:=some (q.1,uncounted q.2) }
theorem jE {D:ae} (h:D.Ok):cK D (uncounted D):=
 ⟨⟨⟨h.now,h.safe,h.moves,h.names,h.ids,h.room0,h.room1,h.wait0,h.wait1,h.bad0,h.bad1,h.used,h.short⟩,rfl,Int.le_refl _,fun x=>x⟩,fun _=>rfl,rfl,rfl⟩
theorem Inv.Rc {C:Prop} {P:St→fU→Prop} {s:St} {D:ae} {r:mM} {E B:Nat} (h:Inv C P s D r E B):D.Ok:=by
 obtain ⟨q0,Ls,bs,h1,_⟩:=h.run
 exact h1.core.ok
theorem Rest.cnt {C:Prop} {D:ae} {ps:List (Bs×Bs)} (h:Rest C D ps E B N):D.Ok∧Rest C (uncounted D) ps E B N:=by
 obtain ⟨⟨c,Ls,bs,h1,h2,h3,h4,h5,h6⟩,h7,h8⟩:=h
 exact ⟨h1.ok,⟨c,Ls,bs,h1.files (jE h1.ok).later.ok fun m _=>rfl,h2,h3,h4,h5,h6⟩,h7,h8⟩
theorem gU.cnt (h:gU X E B N):gU (jR X) E B N:=by
 obtain ⟨b,d,rb,vo,vw,o,s,D,r,det,out⟩:=X
 cases det with
 | none=>exact h.l7 fun hd=>⟨(h.att hd).1.same (jE (h.att hd).1.Rc),(h.att hd).2.1.later (jE (h.att hd).1.Rc).later⟩
 | some q=>
  refine ⟨h.opt,fun hd=>(by cases hd),fun q' hq=>?_,h.plen,h.slen,h.sn,h.olen,h.ssn⟩
  obtain ⟨h1,h2,h3⟩:=h.dtd q rfl
  obtain ⟨h4,h5⟩:=h2.cnt
  cases hq
  exact ⟨h1,h5,h3.later (jE h4).later⟩
theorem N5 (X:WS):(jR X).b=X.b∧(jR X).d=X.d∧(jR X).rb=X.rb∧(jR X).vo=X.vo∧(jR X).vw=X.vw∧(jR X).o=X.o∧(jR X).s=X.s∧(jR X).r=X.r∧(jR X).out=X.out∧(jR X).l7=X.l7:=by
 unfold jR WS.l7
 cases X.det<;>simp
theorem wR (hs:Sat W0 (wL p X F) w):Calls Tryz.prog 68 #[ay X.l7] w fun x w'=>x=.returned (.tuple #[.int .i64 X.cur.reads,.int .i64 X.cur.most])∧Sat W0 (wL p (jR X) F) w':=by
 obtain ⟨b,d,rb,vo,vw,o,s,D,r,det,out⟩:=X
 cases det with
 | none=>
  refine met (Bm (hs.take (.there (.there .here)))) ?_
  rintro _ w ⟨rfl,hs⟩
  exact ⟨rfl,hs.to⟩
 | some q=>
  refine met (Bm (d:=q.1) (D:=q.2) (hs.take (.there (.there (.there (.there .here)))))) ?_
  rintro _ w ⟨rfl,hs⟩
  exact ⟨rfl,hs.to⟩
def C7 (o:l8) (cl:Bool) (s:St) (D:ae):Out (Option Bs):=if o.kind=2 then HG cl none s D o.s else oH cl none s D o.a o.s
def rK (o:l8) (r:mM):Except cx (Option Bs):=if o.kind=2 then xn r o.s else l6 r o.a o.s
theorem Qy {o:l8} {D':ae} (hk:o.kind=2∨o.kind=8) (hE:iD W0) (h:gU X E B N) (hEE:E≤1048576) (e1:C7 o X.r.closed X.s X.D=some (rK o X.r,D')) (hs:Sat W0 (wL p X F) w) :
 Calls Tryz.prog 69 #[ay p,.agg (nQ o).toArray] w fun x w'=>x=.returned (.bool true)∧Sat W0 (wL p { X with D:=D' } F) w':=by
 unfold C7 rK at e1
 rcases hk with hk|hk
 ·rw [if_pos hk,if_pos hk] at e1
  exact yX hk hE h hEE e1 hs
 ·rw [if_neg (by omega),if_neg (by omega)] at e1
  exact tF hk hE h hEE e1 hs
def rA:List (List bN)→Nat
 | []=>0
 | L::R=>L.length+(R.filter fun l=>decide (l≠[])).length
theorem wS (A:List (List bN)) (x:List bN):rA (A++[x])=rA A+(if A=[] then x.length else if x=[] then 0 else 1):=by
 cases A with
 | nil=>simp [rA]
 | cons L R=>
  by_cases hx:x=[]
  ·simp [rA,hx]
  ·simp [rA,hx,Nat.add_assoc]
def tV (X:WS):Nat:=if X.r.closed=true then 0 else rA X.s.levels
structure Qz (o:l8) (X:WS) (E B N:Nat) (D':ae):Prop where
 eq:C7 o X.r.closed X.s X.D=some (rK o X.r,D')
 ok:gU { X with D:=D' } E B N
 reads:X.cur.reads=0→({ X with D:=D' }:WS).cur.reads≤(tV X:Int)
 most:X.cur.most=0→({ X with D:=D' }:WS).cur.most≤512
theorem C8 {cl:Bool} (h:eW cl none=none):cl=false:=by cases cl with|false=>rfl|true=>cases h
theorem LY {o:l8} {D':ae} (hk:o.kind=2∨o.kind=8) (hE:iD W0) (h:gU X E B N) (hEE:E≤1048576) (hL:X.r.closed=false→∀ Ts∈X.s.levels,Ts.length≤1048576) (h4:X.r.closed=false→X.s.levels.length=4) (hF:Qz o (jR X) E B N D') (hs:Sat W0 (wL p X F) w) :
 Calls Tryz.prog 37 #[ay p,.agg (nQ o).toArray] w (iH W0 p F E B N):=by
 obtain ⟨kk,a,b,ss,tt,lv,l⟩:=o
 refine enter Tryz.func37 rfl Tryz.ntmps37 Tryz.results37 rfl ?_
 refine gy ?_
 refine bR (z:=[.int .i64 kk,.int .i64 a,.int .i64 b,str ss,str tt,lv]) hs ?_
 clear hs
 intro w b3 hs
 refine gy ?_
 refine ag (met (qi (fun hb Ts hT=>by have:=hL (C8 hb) Ts hT;omega) (hs.take (.there (.there .here)))) ?_)
 clear hs
 rintro _ w ⟨v,ve,rfl,hs⟩
 refine ⟨_,rfl,?_⟩
 have hs:=hs.to (a:=wL p X (PC v X.s.levels (eW X.r.closed none)::aH ve (eW X.r.closed none)::blk b3 84 [.int .i64 kk,.int .i64 a,.int .i64 b,str ss,str tt,lv]::F))
 refine gy ?_
 refine ag (met (wR hs) ?_)
 clear hs
 rintro _ w ⟨rfl,hs⟩
 refine ⟨_,rfl,?_⟩
 have hmay:tV (jR X)=tV X:=by unfold tV;rw [(N5 X).2.2.2.2.2.2.2.1,(N5 X).2.2.2.2.2.2.1]
 have hr0:(jR X).cur.reads=0:=by unfold jR WS.cur;cases X.det<;>rfl
 have hm0:(jR X).cur.most=0:=by unfold jR WS.cur;cases X.det<;>rfl
 obtain ⟨f1,f2,f3,f4⟩:=hF
 have f3:=f3 hr0
 have f4:=f4 hm0
 rw [hmay] at f3
 clear hr0 hm0 hmay
 have hY:=h.cnt
 generalize jR X=Y at hs f1 f2 f3 f4 hY
 have hs:Sat W0 (blk p 91 (bA Y)::fy Y.b Y.d Y.o Y.r.closed none Y.s::aj Y.d Y.D::eS Y.rb Y.r::gD Y.det::aG Y.vo Y.out::aG Y.vw Y.out::PC v X.s.levels (eW X.r.closed none)::aH ve (eW X.r.closed none)::blk b3 84 [.int .i64 kk,.int .i64 a,.int .i64 b,str ss,str tt,lv]::F) w:=hs
 refine gy ?_
 refine ag (met (Qy (X:=Y) (o:=⟨kk,a,b,ss,tt,lv,l⟩) hk hE hY hEE f1 hs) ?_)
 clear hs f1 hY
 rintro _ w ⟨rfl,hs⟩
 refine ⟨_,rfl,?_⟩
 generalize ({ Y with D:=D' }:WS)=Z at hs f2 f3 f4
 refine gy ?_
 refine ag (met (wR hs) ?_)
 clear hs
 rintro _ w ⟨rfl,hs⟩
 refine ⟨_,rfl,?_⟩
 have hZ:=f2.cnt
 generalize Z.cur.reads=rd at f3
 generalize Z.cur.most=ms at f4
 generalize jR Z=Z2 at hs hZ
 clear f2 h hk
 refine gy ?_
 cases hc:X.r.closed with
 | true=>
  rw [hc] at hs
  have hm:tV X=0:=by unfold tV;rw [if_pos hc]
  rw [hm] at f3
  have hv:=(hs.take (.there (.there (.there (.there (.there (.there (.there .here)))))))).fT (φ:=v=.slice none 0 0) fun _ k=>k
  subst hv
  refine aJ (α:=Unit) (fun _=>[(5,.slice none 0 0),(7,.bool true),(8,.int .i64 rd),(9,.int .i64 ms),(10,.int .i64 0),(11,.int .i64 0)])
   (fun _ w=>Sat W0 (wL p Z2 F) w) (fun _=>0) () ⟨rfl,rfl,rfl,rfl,rfl,rfl,trivial⟩ hs.to ?_
  clear hs
  rintro _ w hs
  refine gy ?_
  exact ah rfl ⟨_,hZ,rfl,hs⟩
 | false=>
  rw [hc] at hs
  have hL:=hL hc
  have h4:=h4 hc
  have hm:tV X=rA X.s.levels:=by unfold tV;rw [if_neg (by simp [hc])]
  rw [hm] at f3
  generalize X.s.levels=Ls at *
  have hs:Sat W0 (oK v Ls::wL p Z2 F) w:=(hs.take (.there (.there (.there (.there (.there (.there (.there .here)))))))).to
  obtain ⟨us,z,hu,rfl,hz,hs⟩:=hs.AI (by intro e;rw [e] at h4;cases h4)
  have hle:∀ i,rA (Ls.take i)≤1048580:=fun i=>by
   match Ls,h4,hL with
   | [t0,t1,t2,t3],_,hL=>
    have:=hL t0 (by simp)
    cases i with
    | zero=>simp [rA]
    | succ i=>
     have h2:=List.length_filter_le (fun l=>decide (l≠[])) ([t1,t2,t3].take i)
     have h3:([t1,t2,t3].take i).length≤3:=by rw [List.length_take];simp;omega
     show t0.length+(([t1,t2,t3].take i).filter _).length≤_
     omega
  rw [h4]
  refine aJ (α:=Nat) (fun i=>[(5,.slice (some ⟨z.b,z.o,none⟩) 4 z.c),(7,.bool true),(8,.int .i64 rd),(9,.int .i64 ms),(10,.int .i64 (rA (Ls.take i):Int)),(11,.int .i64 (i:Int))])
   (fun i w=>i≤4∧Sat W0 (ob true z.b (.cells z.all.toArray z.E (0,0))::tU us Ls::wL p Z2 F) w) (fun i=>4-i) 0 ⟨rfl,rfl,rfl,rfl,rfl,rfl,trivial⟩ ⟨by omega,hs⟩ ?_
  clear hs
  rintro i w ⟨hi,hs⟩
  by_cases hlt:i<4
  ·have hlt':(i:Int)<4:=by omega
   have hgl:Ls[i]?=some (Ls[i]'(by omega)):=List.getElem?_eq_getElem (by omega)
   have htl:Ls.take (i+1)=Ls.take i++[Ls[i]'(by omega)]:=by rw [List.take_add_one,hgl];rfl
   obtain ⟨u,hgu⟩:∃ u,us[i]?=some u:=⟨_,List.getElem?_eq_getElem (by omega)⟩
   generalize Ls[i]'(by omega)=Ts at hgl htl
   have hcu:=hz i u hgu
   have hs:=Sat.Fy hgu hgl (hs.take (.there .here))
   obtain ⟨a2,c2,rfl⟩:=hs.nD
   have hb:=hle (i+1)
   have hbi:=hle i
   rw [htl,wS] at hb
   have hs:=hs.to (a:=ob true z.b (.cells z.all.toArray z.E (0,0))::tU us Ls::wL p Z2 F)
   by_cases h0:i=0
   ·subst h0
    have e1:rA (Ls.take 1)=Ts.length:=by rw [show Ls.take 1=Ls.take (0+1) from rfl,htl,wS];simp [rA]
    have e0:rA (Ls.take 0)=0:=by simp [rA]
    rw [e0]
    have hTl:Ts.length≤1048580:=by rw [← e1];exact hle 1
    refine gy ?_
    refine az 1 ⟨rfl,rfl,rfl,rfl,?_,rfl,trivial⟩ ⟨by omega,hs⟩ (by omega)
    rw [e1]
    show some (Value.int .i64 _)=_
    rw [show (((0:Nat):Int)+(Ts.length:Int))=(Ts.length:Int) by omega]
   ·have h0':¬ (i:Int)=0:=by omega
    have hne:Ls.take i≠[]:=by
     intro e
     have:=congrArg List.length e
     rw [List.length_take,h4] at this
     simp at this;omega
    have e1:=wS (Ls.take i) Ts
    rw [if_neg hne,← htl] at e1
    by_cases hx:Ts=[]
    ·rw [if_pos hx] at e1
     have hx':¬ (Ts.length:Int) > 0:=by rw [hx];simp
     refine gy ?_
     refine az (i+1) ⟨rfl,rfl,rfl,rfl,by rw [e1];rfl,rfl,trivial⟩ ⟨by omega,hs⟩ (by omega)
    ·rw [if_neg hx] at e1
     have hx':(Ts.length:Int) > 0:=by
      have:=List.length_pos_iff.2 hx
      omega
     refine gy ?_
     refine az (i+1) ⟨rfl,rfl,rfl,rfl,by rw [e1];rfl,rfl,trivial⟩ ⟨by omega,hs⟩ (by omega)
  ·have hie:i=4:=by omega
   subst hie
   have hlt':¬ ((4:Nat):Int)<4:=by omega
   rw [List.take_of_length_le (by omega)]
   refine gy ?_
   exact ah rfl ⟨_,hZ,rfl,hs.to⟩
end
section
open Go.Proofs.YtecibefflhomdaaGreatDoor.Pure (ae cG aR)
attribute [local irreducible] IntKind.wrap
variable {W0 w:World} {F:List ax} {p:Nat} {X:WS} {E B N:Nat} {v:Value}
def lN (Ls:List (List bN)):Nat:=(Ls.filter fun l=>decide (l≠[])).length
def lz (Ts:List bN):Nat:=(Ts.map (·.count)).sum
def jS (Ls:List (List bN)):Nat:=(Ls.map lz).sum
theorem IP (A:List (List bN)) (x:List bN):lN (A++[x])=lN A+(if x=[] then 0 else 1):=by
 by_cases hx:x=[]
 ·simp [lN,hx]
 ·simp [lN,hx]
theorem wT (A B:List (List bN)):jS (A++B)=jS A+jS B:=by simp [jS]
theorem C9 (x:List bN):jS [x]=lz x:=by simp [jS]
theorem rB (A B:List bN):lz (A++B)=lz A+lz B:=by simp [lz]
theorem wU (x:bN):lz [x]=x.count:=by simp [lz]
theorem y5 (Ls:List (List bN)) (i:Nat):jS (Ls.take i)≤jS Ls:=by
 have:=wT (Ls.take i) (Ls.drop i)
 rw [List.take_append_drop] at this;omega
theorem sK (Ts:List bN) (i:Nat):lz (Ts.take i)≤lz Ts:=by
 have:=rB (Ts.take i) (Ts.drop i)
 rw [List.take_append_drop] at this;omega
theorem IQ {l:List (Option (List (Bs×Bs)))} (h:∀ x∈l,x.isSome=false):(l.filter Option.isSome).length=0:=by
 rw [List.filter_eq_nil_iff.2 fun x hx=>by rw [h x hx];simp];rfl
theorem FA (hc:X.r.closed=false) (hok:gU X E B N) (hsn:X.r.snaps.length≤1099511627776) (hpl:X.r.pairs.length≤1099511627776) (hL:∀ Ts∈X.s.levels,Ts.length≤1099511627776) (h4:X.s.levels.length=4) (hC:jS X.s.levels≤1099511627776)
 (hlaw:live X.r=0→lN X.s.levels≤1∧jS X.s.levels=X.r.pairs.length) (hs:Sat W0 (wL p X F) w) :
 Calls Tryz.prog 39 #[ay p] w (iH W0 p F E B N):=by
 refine enter Tryz.func39 rfl Tryz.ntmps39 Tryz.results39 rfl ?_
 have hs:Sat W0 (eS X.rb X.r::blk p 91 (bA X)::fy X.b X.d X.o X.r.closed none X.s::aj X.d X.D::gD X.det::aG X.vo X.out::aG X.vw X.out::F) w:=hs.to
 obtain ⟨vp,vs,us,hu,hs⟩:=hs.jD
 obtain ⟨aas,cs,rfl,hcs1,hcs2⟩:=(hs.take (.there (.there .here))).aC
 have hs:=hs.to (a:=blk X.rb 88 [vp,.slice aas X.r.snaps.length cs,.bool X.r.closed]::tT (.slice aas X.r.snaps.length cs) us X.r.snaps::blk p 91 (bA X)::aG vp X.r.pairs::pk us X.r.snaps::fy X.b X.d X.o X.r.closed none X.s::aj X.d X.D::gD X.det::aG X.vo X.out::aG X.vw X.out::F)
 refine gy ?_
 refine aJ (α:=Nat) (fun i=>[(0,ay p),(3,.int .i64 (i:Int))])
  (fun i w=>(i≤X.r.snaps.length∧∀ j,j<i→∀ x,X.r.snaps[j]?=some x→x.isSome=false)∧Sat W0 (blk X.rb 88 [vp,.slice aas X.r.snaps.length cs,.bool X.r.closed]::tT (.slice aas X.r.snaps.length cs) us X.r.snaps::blk p 91 (bA X)::aG vp X.r.pairs::pk us X.r.snaps::fy X.b X.d X.o X.r.closed none X.s::aj X.d X.D::gD X.det::aG X.vo X.out::aG X.vw X.out::F) w)
  (fun i=>X.r.snaps.length-i) 0 ⟨rfl,rfl,trivial⟩ ⟨⟨Nat.zero_le _,fun j hj=>by omega⟩,hs⟩ ?_
 clear hs
 rintro i w ⟨⟨hi,hd⟩,hs⟩
 by_cases hlt:i<X.r.snaps.length
 ·have hlt':(i:Int)<(X.r.snaps.length:Int):=by omega
  have hg:X.r.snaps[i]?=some X.r.snaps[i]:=List.getElem?_eq_getElem hlt
  have hgu:us[i]?=some (us[i]'(by omega)):=List.getElem?_eq_getElem (by omega)
  generalize X.r.snaps[i]=x at hg
  generalize us[i]'(by omega)=u at hgu
  obtain ⟨e2,e3⟩:=sG hgu hg
  obtain ⟨bs,cap,rest,hv,q1,q2,q3,h3⟩:=(hs.take (.there .here)).dw (by omega)
  have hs0:=fun (_:True)=>hs
  clear hs
  obtain ⟨rfl,_,rfl⟩:=Value.slice.inj hv
  have e2':((fw us X.r.snaps).flatten++rest)[0+i*2]?=some (.bool x.isSome):=by
   rw [List.getElem?_append_left (List.getElem?_eq_some_iff.1 e2).1];exact e2
  cases hxs:x.isSome with
  | true=>
   rw [hxs] at e2'
   refine gy ?_
   exact ah rfl ⟨X,hok,rfl,(Sat.dK (rb:=X.rb) (r:=X.r) hu ((hs0 trivial).to (a:=blk X.rb 88 [vp,.slice (some ⟨bs,0,none⟩) X.r.snaps.length cs,.bool X.r.closed]::aG vp X.r.pairs::tT (.slice (some ⟨bs,0,none⟩) X.r.snaps.length cs) us X.r.snaps::pk us X.r.snaps::blk p 91 (bA X)::fy X.b X.d X.o X.r.closed none X.s::aj X.d X.D::gD X.det::aG X.vo X.out::aG X.vw X.out::F))).to⟩
  | false=>
   rw [hxs] at e2'
   refine gy ?_
   refine az (i+1) ⟨rfl,rfl,trivial⟩ ⟨⟨hlt,fun j hj y hy=>?_⟩,hs0 trivial⟩ (by show X.r.snaps.length-(i+1)<X.r.snaps.length-i;omega)
   by_cases hji:j=i
   ·subst hji
    rw [hg] at hy
    cases hy;exact hxs
   ·exact hd j (by omega) y hy
 ·have hie:i=X.r.snaps.length:=by omega
  subst hie
  have hlt':¬ (X.r.snaps.length:Int)<(X.r.snaps.length:Int):=by omega
  have hl0:live X.r=0:=IQ fun x hx=>by
   obtain ⟨j,hj,rfl⟩:=List.mem_iff_getElem.1 hx
   exact hd j hj _ (List.getElem?_eq_getElem hj)
  obtain ⟨l1,l2⟩:=hlaw hl0
  clear hlaw hd
  refine gy ?_
  have hs:=Sat.dK (rb:=X.rb) (r:=X.r) hu (hs.to (a:=blk X.rb 88 [vp,.slice aas X.r.snaps.length cs,.bool X.r.closed]::aG vp X.r.pairs::tT (.slice aas X.r.snaps.length cs) us X.r.snaps::pk us X.r.snaps::blk p 91 (bA X)::fy X.b X.d X.o X.r.closed none X.s::aj X.d X.D::gD X.det::aG X.vo X.out::aG X.vw X.out::F))
  refine ag (met (qi (fun _=>hL) (hs.take (.there (.there .here)))) ?_)
  clear hs
  rintro _ w ⟨v,ve,rfl,hs⟩
  refine ⟨_,rfl,?_⟩
  rw [hc] at hs
  have hs:=(Sat.Az (F:=oK v X.s.levels::F) X hc hs.to).to (a:=oK v X.s.levels::eS X.rb X.r::blk p 91 (bA X)::fy X.b X.d X.o X.r.closed none X.s::aj X.d X.D::gD X.det::aG X.vo X.out::aG X.vw X.out::F)
  obtain ⟨us,z,hus,rfl,hz,hs⟩:=hs.AI (by intro e;rw [e] at h4;cases h4)
  obtain ⟨vp,vs,us2,hu2,hs⟩:=(hs.take (.there (.there .here))).jD
  obtain ⟨ap,cp,rfl,-⟩:=(hs.take (.there .here)).iU
  have hfin:∀ w,Sat W0 (blk p 91 (bA X)::blk X.rb 88 [.slice ap X.r.pairs.length cp,vs,.bool X.r.closed]::ob true z.b (.cells z.all.toArray z.E (0,0))::tU us X.s.levels::aG (.slice ap X.r.pairs.length cp) X.r.pairs::tT vs us2 X.r.snaps::pk us2 X.r.snaps::fy X.b X.d X.o X.r.closed none X.s::aj X.d X.D::gD X.det::aG X.vo X.out::aG X.vw X.out::F) w→Sat W0 (wL p X F) w:=fun w h=>
   (Sat.dK (rb:=X.rb) (r:=X.r) hu2 (h.to (a:=blk X.rb 88 [.slice ap X.r.pairs.length cp,vs,.bool X.r.closed]::aG (.slice ap X.r.pairs.length cp) X.r.pairs::tT vs us2 X.r.snaps::pk us2 X.r.snaps::blk p 91 (bA X)::fy X.b X.d X.o X.r.closed none X.s::aj X.d X.D::gD X.det::aG X.vo X.out::aG X.vw X.out::F))).to
  have hs:=hs.to (a:=blk p 91 (bA X)::blk X.rb 88 [.slice ap X.r.pairs.length cp,vs,.bool X.r.closed]::ob true z.b (.cells z.all.toArray z.E (0,0))::tU us X.s.levels::aG (.slice ap X.r.pairs.length cp) X.r.pairs::tT vs us2 X.r.snaps::pk us2 X.r.snaps::fy X.b X.d X.o X.r.closed none X.s::aj X.d X.D::gD X.det::aG X.vo X.out::aG X.vw X.out::F)
  generalize hG:aG (.slice ap X.r.pairs.length cp) X.r.pairs::tT vs us2 X.r.snaps::pk us2 X.r.snaps::fy X.b X.d X.o X.r.closed none X.s::aj X.d X.D::gD X.det::aG X.vo X.out::aG X.vw X.out::F=G at hs hfin
  clear hG hu hu2
  generalize X.s.levels=Ls at *
  rw [h4]
  refine gy ?_
  refine aJ (α:=Nat) (fun i=>[(0,ay p),(4,.slice (some ⟨z.b,z.o,none⟩) 4 z.c),(6,.int .i64 (lN (Ls.take i):Int)),(7,.int .i64 (jS (Ls.take i):Int)),(8,.int .i64 (i:Int))])
   (fun i w=>i≤4∧Sat W0 (blk p 91 (bA X)::blk X.rb 88 [.slice ap X.r.pairs.length cp,vs,.bool X.r.closed]::ob true z.b (.cells z.all.toArray z.E (0,0))::tU us Ls::G) w) (fun i=>4-i) 0 ⟨rfl,rfl,rfl,rfl,rfl,trivial⟩ ⟨by omega,hs⟩ ?_
  clear hs
  rintro i w ⟨hi,hs⟩
  by_cases hlt4:i<4
  ·have hlt4':(i:Int)<4:=by omega
   have hgl:Ls[i]?=some (Ls[i]'(by omega)):=List.getElem?_eq_getElem (by omega)
   have htl:Ls.take (i+1)=Ls.take i++[Ls[i]'(by omega)]:=by rw [List.take_add_one,hgl];rfl
   obtain ⟨u,hgu⟩:∃ u,us[i]?=some u:=⟨_,List.getElem?_eq_getElem (by omega)⟩
   have hTl:=hL _ (List.mem_of_getElem? hgl)
   generalize Ls[i]'(by omega)=Ts at hgl htl hTl
   have hcu:=hz i u hgu
   have hs:=Sat.Fy hgu hgl (hs.take (.there (.there (.there .here))))
   obtain ⟨a2,c2',rfl⟩:=hs.nD
   have hs:=hs.to (a:=blk p 91 (bA X)::blk X.rb 88 [.slice ap X.r.pairs.length cp,vs,.bool X.r.closed]::ob true z.b (.cells z.all.toArray z.E (0,0))::gr 4 (.slice a2 Ts.length c2') (ea Ts)::tU us Ls::G)
   have hct:=y5 Ls (i+1)
   have e1:=IP (Ls.take i) Ts
   have e2:=wT (Ls.take i) [Ts]
   rw [← htl] at e1 e2
   rw [C9] at e2
   have hfl:lN (Ls.take i)≤4:=by
    have:=List.length_filter_le (fun l=>decide (l≠[])) (Ls.take i)
    have h2:(Ls.take i).length≤4:=by rw [List.length_take];omega
    unfold lN;omega
   obtain ⟨fl,hfe,hcond⟩:∃ fl,lN (Ls.take (i+1))=fl∧((Ts=[]∧fl=lN (Ls.take i))∨(Ts≠[]∧fl=lN (Ls.take i)+1)):=by
    by_cases hx:Ts=[]
    ·exact ⟨_,rfl,.inl ⟨hx,by rw [e1,if_pos hx];rfl⟩⟩
    ·exact ⟨_,rfl,.inr ⟨hx,by rw [e1,if_neg hx]⟩⟩
   rcases hcond with ⟨hx,he⟩|⟨hx,he⟩
   ·have hx':¬ (Ts.length:Int) > 0:=by rw [hx];simp
    refine gy ?_
    rw [← he]
    clear hx hx' he e1 hfl
    refine aJ (α:=Nat) (fun k=>[(0,ay p),(4,.slice (some ⟨z.b,z.o,none⟩) 4 z.c),(6,.int .i64 (fl:Int)),(7,.int .i64 ((jS (Ls.take i)+lz (Ts.take k):Nat):Int)),(8,.int .i64 (i:Int)),(9,.int .i64 (k:Int))])
     (fun k w=>k≤Ts.length∧Sat W0 (blk p 91 (bA X)::blk X.rb 88 [.slice ap X.r.pairs.length cp,vs,.bool X.r.closed]::ob true z.b (.cells z.all.toArray z.E (0,0))::gr 4 (.slice a2 Ts.length c2') (ea Ts)::tU us Ls::G) w) (fun k=>Ts.length-k) 0 ⟨rfl,rfl,rfl,rfl,rfl,rfl,trivial⟩ ⟨Nat.zero_le _,hs⟩ ?_
    clear hs
    rintro k w ⟨hk,hs⟩
    by_cases hlk:k<Ts.length
    ·have hlk':(k:Int)<(Ts.length:Int):=by omega
     have hgT:Ts[k]?=some Ts[k]:=List.getElem?_eq_getElem hlk
     have htk:Ts.take (k+1)=Ts.take k++[Ts[k]]:=by rw [List.take_add_one,hgT];rfl
     generalize Ts[k]=T at hgT htk
     have e5:lz (Ts.take (k+1))=lz (Ts.take k)+T.count:=by rw [htk,rB,wU]
     have e6:=sK Ts (k+1)
     obtain ⟨y,rfl,hseg,c0,c1,c2,c3,hs⟩:=Sat.LW hgT (hs.take (.there (.there (.there .here))))
     have hs:=hs.to (a:=blk p 91 (bA X)::blk X.rb 88 [.slice ap X.r.pairs.length cp,vs,.bool X.r.closed]::ob true z.b (.cells z.all.toArray z.E (0,0))::ob true y.b (.cells y.all.toArray y.E (0,0))::gr 4 (.slice (some ⟨y.b,y.o,none⟩) Ts.length c2') (ea Ts)::tU us Ls::G)
     refine gy ?_
     refine az (k+1) ⟨rfl,rfl,rfl,?_,rfl,rfl,trivial⟩ ⟨hlk,hs.to⟩ (by show Ts.length-(k+1)<Ts.length-k;omega)
     rw [e5]
     show some (Value.int .i64 _)=some (Value.int .i64 _)
     rw [show (((jS (Ls.take i)+lz (Ts.take k):Nat):Int)+(T.count:Int))=((jS (Ls.take i)+(lz (Ts.take k)+T.count):Nat):Int) by omega]
    ·have hke:k=Ts.length:=by omega
     subst hke
     have hlk':¬ (Ts.length:Int)<(Ts.length:Int):=by omega
     rw [List.take_length]
     refine gy ?_
     refine az (i+1) ⟨rfl,rfl,?_,?_,rfl,trivial⟩ ⟨by omega,hs.to⟩ (by show 4-(i+1)<4-i;omega)
     ·rw [hfe];rfl
     ·rw [e2];rfl
   ·have hx':(Ts.length:Int) > 0:=by
     have:=List.length_pos_iff.2 hx
     omega
    refine gy ?_
    rw [show ((lN (Ls.take i):Int)+1)=(fl:Int) by omega]
    clear hx hx' he e1 hfl
    refine aJ (α:=Nat) (fun k=>[(0,ay p),(4,.slice (some ⟨z.b,z.o,none⟩) 4 z.c),(6,.int .i64 (fl:Int)),(7,.int .i64 ((jS (Ls.take i)+lz (Ts.take k):Nat):Int)),(8,.int .i64 (i:Int)),(9,.int .i64 (k:Int))])
     (fun k w=>k≤Ts.length∧Sat W0 (blk p 91 (bA X)::blk X.rb 88 [.slice ap X.r.pairs.length cp,vs,.bool X.r.closed]::ob true z.b (.cells z.all.toArray z.E (0,0))::gr 4 (.slice a2 Ts.length c2') (ea Ts)::tU us Ls::G) w) (fun k=>Ts.length-k) 0 ⟨rfl,rfl,rfl,rfl,rfl,rfl,trivial⟩ ⟨Nat.zero_le _,hs⟩ ?_
    clear hs
    rintro k w ⟨hk,hs⟩
    by_cases hlk:k<Ts.length
    ·have hlk':(k:Int)<(Ts.length:Int):=by omega
     have hgT:Ts[k]?=some Ts[k]:=List.getElem?_eq_getElem hlk
     have htk:Ts.take (k+1)=Ts.take k++[Ts[k]]:=by rw [List.take_add_one,hgT];rfl
     generalize Ts[k]=T at hgT htk
     have e5:lz (Ts.take (k+1))=lz (Ts.take k)+T.count:=by rw [htk,rB,wU]
     have e6:=sK Ts (k+1)
     obtain ⟨y,rfl,hseg,c0,c1,c2,c3,hs⟩:=Sat.LW hgT (hs.take (.there (.there (.there .here))))
     have hs:=hs.to (a:=blk p 91 (bA X)::blk X.rb 88 [.slice ap X.r.pairs.length cp,vs,.bool X.r.closed]::ob true z.b (.cells z.all.toArray z.E (0,0))::ob true y.b (.cells y.all.toArray y.E (0,0))::gr 4 (.slice (some ⟨y.b,y.o,none⟩) Ts.length c2') (ea Ts)::tU us Ls::G)
     refine gy ?_
     refine az (k+1) ⟨rfl,rfl,rfl,?_,rfl,rfl,trivial⟩ ⟨hlk,hs.to⟩ (by show Ts.length-(k+1)<Ts.length-k;omega)
     rw [e5]
     show some (Value.int .i64 _)=some (Value.int .i64 _)
     rw [show (((jS (Ls.take i)+lz (Ts.take k):Nat):Int)+(T.count:Int))=((jS (Ls.take i)+(lz (Ts.take k)+T.count):Nat):Int) by omega]
    ·have hke:k=Ts.length:=by omega
     subst hke
     have hlk':¬ (Ts.length:Int)<(Ts.length:Int):=by omega
     rw [List.take_length]
     refine gy ?_
     refine az (i+1) ⟨rfl,rfl,?_,?_,rfl,trivial⟩ ⟨by omega,hs.to⟩ (by show 4-(i+1)<4-i;omega)
     ·rw [hfe];rfl
     ·rw [e2];rfl
  ·have hie:i=4:=by omega
   subst hie
   have hlt4':¬ ((4:Nat):Int)<4:=by omega
   rw [List.take_of_length_le (by omega)]
   refine gy ?_
   exact ah rfl ⟨X,hok,rfl,hfin _ hs⟩
end
end Go.Proofs.YtecibefflhomdaaGreatDoor
