/-
  Part 46: WALKS the statements' world; WALKS the statements' small; THE FRAME the statements' data, out of the reading of the ar; THE FRAME from a contract of a law's function, walked in one.
-/
import Derived.Test.YtecibefflhomdaaGreatDoorV45
import Derived.ChangeShapes
import Derived.ChangeArms
import Derived.SizedLaws
import Derived.Conc.HoldsTime
import Derived.Handed
import Derived.Test.YtecibefflhomdaaGreatDoorCards
import Derived.Test.YtecibefflhomdaaGreatDoorTie
set_option maxHeartbeats 8000000
set_option maxRecDepth 100000
set_option linter.all false
namespace Go.Proofs.YtecibefflhomdaaGreatDoor
open Go
section
open Go.Proofs.YtecibefflhomdaaGreatDoor.Pure (ae cG aR bE bB jh jf)
attribute [local irreducible] IntKind.wrap
variable {W0 w:World} {F:List ax} {p:Nat} {X:WS} {E B N:Nat}
def LG (X:WS):ax:=match X.det with
 | none=>fun _=>True
 | some _=>aj X.d X.D
theorem Sat.No (h:Sat W0 (aj X.d X.D::gD X.det::F) w):Sat W0 (aj X.l7 X.cur::LG X::F) w:=by
 unfold WS.l7 WS.cur LG
 cases hd:X.det with
 | none=>rw [hd] at h;exact h
 | some q=>rw [hd] at h;exact h.to
theorem Sat.Np (h:Sat W0 (aj X.l7 X.cur::LG X::F) w):Sat W0 (aj X.d X.D::gD X.det::F) w:=by
 unfold WS.l7 WS.cur LG at h
 cases hd:X.det with
 | none=>rw [hd] at h;exact h
 | some q=>rw [hd] at h;exact h.to
theorem N0 (h:gU X E B N) (hc:X.r.closed=true) (hE:E≤1048576) (hB:B≤16777216) {D2:ae} (k:nk X.cur D2):Rest False D2 X.r.pairs E B N∧Calm D2:=by
 unfold WS.cur at k
 cases hd:X.det with
 | none=>
  rw [hd] at k
  obtain ⟨i1,i2,i3⟩:=h.att hd
  exact ⟨(Cr i1 k hE hB).more (Nat.le_refl _) (Nat.le_refl _) i3,i2.copy k⟩
 | some q=>
  rw [hd] at k
  obtain ⟨_,i1,i2⟩:=h.dtd q hd
  exact ⟨i1.copy k,i2.copy k⟩
theorem N3 (h:gU X E B N) (hc:X.r.closed=true) (hE:E≤1048576) (hB:B≤16777216) (hN:N+8388608≤4611686018427387904) {D2:ae} (k:nk X.cur D2) {m t:Nat} (hok:Fi m t=true) :
 ∃ s D',nI ⟨m,t⟩ D2=some (.ok s,D')∧∀ b' dd rb',gU ⟨b',dd,rb',X.vo,X.vw,⟨m,t⟩,s,D',⟨X.r.pairs,[],false⟩,none,X.out⟩ E (B+1) (N+8388608):=by
 obtain ⟨hr,hcalm⟩:=N0 h hc hE hB k
 have hok':1≤m∧m≤32∧2≤t∧t≤6:=by simpa [Fi] using hok
 obtain ⟨x,D',e1,e2,e3⟩:=open_inv (o:=⟨m,t⟩) (by show 1≤t;omega) hok'.1 hr hE hB (by omega)
 rcases e3 with ⟨e,rfl,hf,_⟩|⟨s,rfl,hi,hn⟩
 ·exact (hcalm.yO hf).elim
 ·refine ⟨s,D',e1,fun b' dd rb'=>⟨hok,fun _=>⟨hi.more (Nat.le_refl _) (by omega),hcalm.later e2,(by show s.number≤_;omega)⟩,fun q hq=>(by cases hq),h.plen,fun ps hp=>(by cases hp),Nat.zero_le _,h.olen,?_⟩⟩
  show s.snap≤_
  rw [hi.snap];exact Nat.zero_le _
theorem LH (h:gU X E B N) (hc:X.r.closed=true) (hE:E≤1048576) (hB:B≤16777216) {D2:ae} (k:nk X.cur D2) (dd:Nat):gU { X with det:=some (dd,D2) } E B N:=
 ⟨h.opt,fun hn=>(by cases hn),fun q hq=>by
   have hq:(dd,D2)=q:=by injection hq
   subst hq
   exact ⟨hc,N0 h hc hE hB k⟩,h.plen,h.slen,h.sn,h.olen,h.ssn⟩
theorem IK {o:l8} (hk:o.kind=6) (hW:jF W0) (hE:iD W0) (h:gU X E B N) (hEE:E≤1048576) (hB:B≤16777216) (hN:N+8388608≤4611686018427387904) (hs:Sat W0 (wL p X F) w) :
 Calls Tryz.prog 38 #[ay p,.agg (nQ o).toArray] w (iH W0 p F E (B+1) (N+8388608)):=by
 obtain ⟨kk,a,b,ss,tt,lv,l⟩:=o
 dsimp only at hk
 subst hk
 obtain ⟨e1,hok1⟩:=Lw h
 refine enter Tryz.func38 rfl Tryz.ntmps38 Tryz.results38 rfl ?_
 refine gy ?_
 refine bR (z:=[.int .i64 6,.int .i64 a,.int .i64 b,str ss,str tt,lv]) hs ?_
 clear hs
 intro w b3 hs
 refine gy ?_
 refine ag (met (tB (hs.fg (.there (.there .here)) (.there (.there .here)))) ?_)
 clear hs
 rintro _ w ⟨ve,rfl,hs⟩
 refine ⟨_,rfl,?_⟩
 refine gy ?_
 refine ag (met (tw (hs.take (.there (.there (.there (.there (.there .here))))))) ?_)
 clear hs
 rintro _ w ⟨rfl,hs⟩
 refine ⟨_,rfl,?_⟩
 refine gy ?_
 refine ag (met (eA hE (hs.take (.there (.there (.there .here))))) ?_)
 clear hs
 rintro _ w ⟨rfl,hs⟩
 refine ⟨_,rfl,?_⟩
 have e1':(gC (nA X.r.closed none X.s X.D).1:Int)=if X.r.closed=true then 6 else 0:=by rw [e1];split<;>rfl
 rw [e1']
 refine gy ?_
 refine ag (met (eJ hs) ?_)
 clear hs
 rintro _ w ⟨rfl,hs⟩
 refine ⟨_,rfl,?_⟩
 have hrfl:¬ ((if X.r.closed=true then (6:Int) else 0)≠(if X.r.closed=true then 6 else 0)):=fun hh=>hh rfl
 generalize hX1:({ X with D:=(nA X.r.closed none X.s X.D).2,r:={ X.r with closed:=true } }:WS)=X1 at hok1
 have hdk:X1.l7=X.l7:=by rw [← hX1];rfl
 have hcl:X1.r.closed=true:=by rw [← hX1]
 have hs:Sat W0 (aj X1.d X1.D::gD X1.det::blk b3 84 [.int .i64 6,.int .i64 a,.int .i64 b,str ss,str tt,lv]::blk p 91 [ay X1.l7,ay X1.b,ay X1.rb,.int .i64 (X1.o.memory:Int),.int .i64 (X1.o.tables:Int),X1.vo,X1.vw]::fy X1.b X1.d X1.o true none X1.s::eS X1.rb X1.r::aG X1.vo X1.out::aG X1.vw X1.out::F) w:=by
  rw [← hX1]
  exact hs.to
 rw [← hX1] at hcl
 have hcl1:X1.r.closed=true:=by rw [← hX1]
 clear hX1 hcl
 have hs:=hs.No
 refine gy ?_
 refine ag (met (Pj hs) ?_)
 clear hs
 rintro _ w ⟨dd,D2,rfl,hcp,hs⟩
 refine ⟨_,rfl,?_⟩
 refine gy ?_
 refine bK hs ?_
 clear hs
 intro w hs
 obtain ⟨m,hm⟩:∃ m,oI a 34=m:=⟨_,rfl⟩
 obtain ⟨t,ht⟩:∃ t,oI b 8=t:=⟨_,rfl⟩
 refine gy ?_
 refine ag (met (wP (m:=m) (t:=t) hm ht hW hE (fun hok=>by obtain ⟨s,D',e,_⟩:=N3 hok1 hcl1 hEE hB hN hcp hok;exact ⟨s,D',e⟩)
  (hs.to (a:=blk p 91 [ay dd,ay X1.b,ay X1.rb,.int .i64 (X1.o.memory:Int),.int .i64 (X1.o.tables:Int),X1.vo,X1.vw]::aj dd D2::eS X1.rb X1.r::aj X1.l7 X1.cur::LG X1::fy X1.b X1.d X1.o true none X1.s::aG X1.vo X1.out::aG X1.vw X1.out::F))) ?_)
 clear hs
 rintro _ w ⟨rfl,hyes,hno⟩
 refine ⟨_,rfl,?_⟩
 cases hok:Fi m t with
 | true=>
  obtain ⟨s,D',e3,hok3⟩:=N3 hok1 hcl1 hEE hB hN hcp hok
  obtain ⟨s2,D2',b',rb',e4,hs⟩:=hyes hok
  rw [e3] at e4
  injection e4 with e4
  injection e4 with e4 e5
  injection e4 with e4
  subst e4;subst e5
  refine gy ?_
  refine ah rfl ⟨_,hok3 b' dd rb',rfl,?_⟩
  have h2:=hs.Ly
  exact Sat.to (h2.take (.there (.there (.there .here))))
 | false=>
  have hs:=hno hok
  clear hno hyes
  have h2:=Sat.Np (X:=X1) (F:=blk p 91 [ay dd,ay X1.b,ay X1.rb,.int .i64 (X1.o.memory:Int),.int .i64 (X1.o.tables:Int),X1.vo,X1.vw]::aj dd D2::eS X1.rb X1.r::fy X1.b X1.d X1.o true none X1.s::aG X1.vo X1.out::aG X1.vw X1.out::F) hs.to
  clear hs
  have hs:=h2
  clear h2
  refine gy ?_
  refine ah rfl ⟨_,(LH hok1 hcl1 hEE hB hcp dd).more (Nat.le_refl _) (by omega) (by omega),rfl,?_⟩
  exact Sat.Az _ hcl1 hs.to
end
section
open Go.Proofs.YtecibefflhomdaaGreatDoor.Pure (ae cG aR bE bB jh jf rU)
attribute [local irreducible] IntKind.wrap
variable {W0 w:World} {F:List ax} {p:Nat} {X:WS} {E B N:Nat} {v:Value}
theorem mL {o:l8} (hk:o.kind=2∨o.kind=3∨o.kind=4∨o.kind=8∨o.kind=9) {E' B' N':Nat}
 (hr:∀ (w:World) (G:List ax),Sat W0 (wL p X G) w→Calls Tryz.prog 69 #[ay p,.agg (nQ o).toArray] w (iH W0 p G E' B' N')) (hs:Sat W0 (wL p X F) w) :
 Calls Tryz.prog 38 #[ay p,.agg (nQ o).toArray] w (iH W0 p F E' B' N'):=by
 obtain ⟨kk,a,b,ss,tt,lv,l⟩:=o
 dsimp only at hk
 have hs:Sat W0 (blk p 91 (bA X)::fy X.b X.d X.o X.r.closed none X.s::aj X.d X.D::eS X.rb X.r::gD X.det::aG X.vo X.out::aG X.vw X.out::F) w:=hs
 refine enter Tryz.func38 rfl Tryz.ntmps38 Tryz.results38 rfl ?_
 refine gy ?_
 refine bR (z:=[.int .i64 kk,.int .i64 a,.int .i64 b,str ss,str tt,lv]) hs ?_
 clear hs
 intro w b3 hs
 rcases hk with rfl|rfl|rfl|rfl|rfl
 all_goals
  refine gy ?_
  refine ag (met (hr w (blk b3 84 [.int .i64 _,.int .i64 a,.int .i64 b,str ss,str tt,lv]::F) hs.to) ?_)
  clear hs
  rintro _ w ⟨X',hok,rfl,hs⟩
  refine ⟨_,rfl,?_⟩
  refine gy ?_
  exact ah rfl ⟨X',hok,rfl,Sat.Az _ rfl hs.to⟩
theorem Fv {o:l8} (hk1:1≤o.kind) (hk2:o.kind≤11) (ho:II W0 o) (hW:jF W0) (hE:iD W0) (h:gU X E B N) (hEE:E+o.l.length≤1048576) (hB:B<16777216) (hN:N+8388608≤4611686018427387904) (hs:Sat W0 (wL p X F) w) :
 Calls Tryz.prog 38 #[ay p,.agg (nQ o).toArray] w (iH W0 p F (E+o.l.length) (B+1) (N+8388608)):=by
 have hmore:∀ {E' B' N':Nat} {G:List ax},E'≤E+o.l.length→B'≤B+1→N'≤N+8388608→∀ x w',iH W0 p G E' B' N' x w'→iH W0 p G (E+o.l.length) (B+1) (N+8388608) x w':=
  fun h1 h2 h3 x w' ⟨X',hx,e,k⟩=>⟨X',hx.more h1 h2 h3,e,k⟩
 have hc:o.kind=1∨o.kind=2∨o.kind=3∨o.kind=4∨o.kind=5∨o.kind=6∨o.kind=7∨o.kind=8∨o.kind=9∨o.kind=10∨o.kind=11:=by omega
 rcases hc with hc|hc|hc|hc|hc|hc|hc|hc|hc|hc|hc
 ·exact Fq hc hW hE ho.rd h hEE hB hN hs
 ·exact mL (.inl hc) (fun w G hs=>(LD hc hE h (by omega) hs).mono (hmore (by omega) (by omega) (by omega))) hs
 ·exact mL (.inr (.inl hc)) (fun w G hs=>(IJ hc hE h (by omega) hs).mono (hmore (by omega) (by omega) (by omega))) hs
 ·exact mL (.inr (.inr (.inl hc))) (fun w G hs=>AE hc ho hW hE h hEE hB hN hs) hs
 ·exact (Fj hc hE h hs).mono (hmore (by omega) (by omega) (by omega))
 ·exact (IK hc hW hE h (by omega) (by omega) hN hs).mono (hmore (by omega) (by omega) (by omega))
 ·exact (IE hc hE (by omega) h hs).mono (hmore (by omega) (by omega) (by omega))
 ·exact mL (.inr (.inr (.inr (.inl hc)))) (fun w G hs=>(Fs hc hE h (by omega) hs).mono (hmore (by omega) (by omega) (by omega))) hs
 ·exact mL (.inr (.inr (.inr (.inr hc)))) (fun w G hs=>(CW hc hE h (by omega) hs).mono (hmore (by omega) (by omega) (by omega))) hs
 ·exact (LA hc hE h hs).mono (hmore (by omega) (by omega) (by omega))
 ·exact (AA hc hW hE h (by omega) (by omega) hN hs).mono (hmore (by omega) (by omega) (by omega))
def gQ (c:cG):Nat:=1+c.key.length+c.val.length
def l9 (o:l8):Nat:=o.s.length+o.t.length+(o.l.map gQ).sum
structure CX (W0:World) (v:Value) (ops:List l8):Prop where
 rd:EV W0 6 v (ops.map nQ)
 ok:∀ o∈ops,II W0 o∧o.s.length≤140737488355328∧o.t.length≤140737488355328∧∀ c∈o.l,c.key.length≤140737488355328∧c.val.length≤140737488355328
theorem CX.len {ops:List l8} (h:CX W0 v ops):∃ a c,v=.slice a ops.length c:=by
 obtain ⟨a,c,h1⟩:=h.rd.1
 rw [List.length_map] at h1
 exact ⟨a,c,h1⟩
theorem CX.row {ops:List l8} {a:Option Addr} {n c:Nat} (h:CX W0 (.slice a n c) ops) {i:Nat} (hi:i<ops.length):∃ b q o,ops[i]?=some o∧o∈ops∧a=some ⟨b,q,none⟩ ∧
 (∀ j u,(nQ o)[j]?=some u→W0.cell? ⟨b,q+i*6+j,none⟩=some u)∧W0.cell? ⟨b,q+i*6+3,none⟩=some (str o.s)∧W0.cell? ⟨b,q+i*6+4,none⟩=some (str o.t)∧W0.cell? ⟨b,q+i*6+5,none⟩=some o.lv:=by
 have hg:ops[i]?=some ops[i]:=List.getElem?_eq_getElem hi
 obtain ⟨b,q,c,h1,h2⟩:=h.rd.row (x:=nQ ops[i]) (by rw [List.getElem?_map,hg];rfl)
 injection h1 with h3 _ _
 exact ⟨b,q,ops[i],hg,List.getElem_mem hi,h3,h2,h2 3 _ rfl,h2 4 _ rfl,h2 5 _ rfl⟩
theorem wQ {α:Type} (f:α→Nat) {l:List α} {i:Nat} {x:α} (h:l[i]?=some x):((l.take (i+1)).map f).sum=((l.take i).map f).sum+f x:=by
 rw [List.take_add_one,h];simp
theorem AF {α:Type} (f:α→Nat) (hf:∀ x,1≤f x):∀ l:List α,l.length≤(l.map f).sum
 | []=>Nat.zero_le _
 | x::l=>by
  have:=AF f hf l
  have:=hf x
  simp only [List.length_cons,List.map_cons,List.sum_cons]
  omega
theorem Fw {ops:List l8} (ho:CX W0 v ops) (hs:Sat W0 F w) :
 Calls Tryz.prog 34 #[v] w fun x w'=>∃ b,x=.returned (.bool b)∧(b=true→ops.length+(ops.map l9).sum≤1048576)∧Sat W0 F w':=by
 obtain ⟨al,cl,rfl⟩:=ho.len
 refine enter Tryz.func34 rfl Tryz.ntmps34 Tryz.results34 rfl ?_
 by_cases hbig:(ops.length:Int) > 1048576
 ·refine gy ?_
  exact ah rfl ⟨false,rfl,fun hh=>(by cases hh),hs⟩
 ·refine gy ?_
  refine aJ (α:=Nat) (fun i=>[(0,.slice al ops.length cl),(3,.int .i64 ((ops.length+((ops.take i).map l9).sum:Nat):Int)),(4,.int .i64 (i:Int))])
   (fun i w=>(i≤ops.length∧ops.length+((ops.take i).map l9).sum≤1048576)∧Sat W0 F w) (fun i=>ops.length-i) 0 ⟨rfl,rfl,rfl,trivial⟩ ⟨⟨Nat.zero_le _,by simp;omega⟩,hs⟩ ?_
  clear hs
  rintro i w ⟨⟨hi,hle⟩,hs⟩
  by_cases hlt:i<ops.length
  ·have hlt':(i:Int)<(ops.length:Int):=by omega
   obtain ⟨b,q,o,hg,hmem,rfl,hrow,c3,c4,c5⟩:=ho.row hlt
   obtain ⟨hok,hl1,hl2,hl3⟩:=ho.ok o hmem
   obtain ⟨a2,cc2,hlv⟩:=hok.rd.wF
   have hrd:=hok.rd
   rw [hlv] at c5 hrd
   have hstep:=wQ l9 hg
   generalize hn0:ops.length+((ops.take i).map l9).sum=n0 at hle ⊢
   refine gy ?_
   refine bu [] [5,12] (.q 0 (.q 1 (.q 2 (.q 3 (.q 4 (.s 5 (.q 6 (.q 7 (.q 8 (.q 9 (.q 10 (.q 11 (.s 12 (.q 13 (.q 14 (.q 15 .nil)))))))))))))))) hs (by kernel_rfl) ?_
   clear hs
   intro w hs
   refine gj ?_
   refine gy ?_
   refine aJ (α:=Nat) (fun k=>[(0,.slice (some ⟨b,q,none⟩) ops.length cl),(3,.int .i64 ((n0+o.s.length+o.t.length+((o.l.take k).map gQ).sum:Nat):Int)),(4,.int .i64 (i:Int)),(5,.int .i64 (k:Int))])
    (fun k w=>(k≤o.l.length∧n0+o.s.length+o.t.length+((o.l.take k).map gQ).sum≤1048576+2*140737488355328)∧Sat W0 F w) (fun k=>o.l.length-k) 0 ⟨rfl,congrArg (fun z=>some (Value.int .i64 z)) (show ((n0:Int)+(o.s.length:Int)+(o.t.length:Int))=((n0+o.s.length+o.t.length+((o.l.take 0).map gQ).sum:Nat):Int) by simp),rfl,rfl,trivial⟩ ⟨⟨Nat.zero_le _,by simp;omega⟩,hs⟩ ?_
   clear hs
   rintro k w ⟨⟨hk,hle2⟩,hs⟩
   by_cases hlk:k<o.l.length
   ·have hlk':(k:Int)<(o.l.length:Int):=by omega
    obtain ⟨b2,q2,c,hgc,hdc,rfl,-,d0,d1,d2⟩:=hrd.QL hlk
    obtain ⟨hk1,hk2⟩:=hl3 c (List.mem_of_getElem? hgc)
    have hstep2:=wQ gQ hgc
    have hcc:gQ c=1+c.key.length+c.val.length:=rfl
    have hkb:=AF gQ (fun x=>by unfold gQ;omega) (o.l.take k)
    rw [List.length_take,Nat.min_eq_left hk] at hkb
    generalize hn1:n0+o.s.length+o.t.length+((o.l.take k).map gQ).sum=n1 at hle2 ⊢
    refine gy ?_
    refine bu [] [6,10,17,21] (.q 0 (.q 1 (.q 2 (.q 3 (.q 4 (.q 5 (.s 6 (.q 7 (.q 8 (.q 9 (.s 10 (.q 11 (.q 12 (.q 13 (.q 14 (.q 15 (.q 16 (.s 17 (.q 18 (.q 19 (.q 20 (.s 21 (.q 22 (.q 23 (.q 24 .nil))))))))))))))))))))))))) hs (by kernel_rfl) ?_
    clear hs
    intro w hs
    refine gj ?_
    by_cases hbig2:((n1:Int)+1+(c.key.length:Int)+(c.val.length:Int)) > 1048576
    ·refine gy ?_
     exact ah rfl ⟨false,rfl,fun hh=>(by cases hh),hs⟩
    ·refine gy ?_
     refine az (k+1) ⟨rfl,?_,rfl,rfl,trivial⟩ ⟨⟨hlk,by rw [hstep2];omega⟩,hs⟩ (by show o.l.length-(k+1)<o.l.length-k;omega)
     exact congrArg (fun z=>some (Value.int .i64 z)) (show ((n1:Int)+1+(c.key.length:Int)+(c.val.length:Int))=((n0+o.s.length+o.t.length+((o.l.take (k+1)).map gQ).sum:Nat):Int) by rw [hstep2];omega)
   ·have hke:k=o.l.length:=by omega
    subst hke
    have hlk':¬ (o.l.length:Int)<(o.l.length:Int):=by omega
    rw [List.take_length] at hle2 ⊢
    have hoc:l9 o=o.s.length+o.t.length+(o.l.map gQ).sum:=rfl
    generalize hn1:n0+o.s.length+o.t.length+(o.l.map gQ).sum=n1 at hle2 ⊢
    by_cases hbig2:(n1:Int) > 1048576
    ·refine gy ?_
     exact ah rfl ⟨false,rfl,fun hh=>(by cases hh),hs⟩
    ·refine gy ?_
     refine az (i+1) ⟨rfl,?_,rfl,trivial⟩ ⟨⟨hlt,by rw [hstep];omega⟩,hs⟩ (by show ops.length-(i+1)<ops.length-i;omega)
     exact congrArg (fun z=>some (Value.int .i64 z)) (show (n1:Int)=((ops.length+((ops.take (i+1)).map l9).sum:Nat):Int) by rw [hstep];omega)
  ·have hie:i=ops.length:=by omega
   subst hie
   have hlt':¬ (ops.length:Int)<(ops.length:Int):=by omega
   rw [List.take_length] at hle ⊢
   refine gy ?_
   exact ah rfl ⟨true,rfl,fun _=>hle,hs⟩
end
section
open Go.Proofs.YtecibefflhomdaaGreatDoor.Pure (cG)
section
variable {H:Type} {enc:TypeId×Value→H} {w:World} {base fuel:Nat} {sp:Nat→Bool} {held:Bool}
def Wt (t:TypeId) (d:DataW H):Prop:=∀ x∈DataW.weights Tryz.prog t d,x≤140737488355328
theorem tG {α:Type} {P:Nat→α→Prop}:∀ n:Nat,(∀ i,i<n→∃ a,P i a)→∃ l:List α,l.length=n∧∀ i a,l[i]?=some a→P i a
 | 0,_=>⟨[],rfl,fun i a h=>by simp at h⟩
 | n+1,h=>by
  obtain ⟨l,h1,h2⟩:=tG n fun i hi=>h i (by omega)
  obtain ⟨a,ha⟩:=h n (by omega)
  refine ⟨l++[a],by simp [h1],fun i b hb=>?_⟩
  by_cases hi:i<l.length
  ·rw [List.getElem?_append_left hi] at hb;exact h2 i b hb
  ·have hlt:=(List.getElem?_eq_some_iff.1 hb).1
   simp at hlt
   have:i=l.length:=by omega
   subst this
   rw [List.getElem?_append_right (Nat.le_refl _)] at hb
   simp at hb
   subst hb
   rw [h1];exact ha
theorem CY {k:Nat} {u:Value}:∀ {rows:List (List Value)} {j:Nat},(∀ r∈rows,r.length=k)→rows.flatten[j]?=some u→∃ i r row,rows[i]?=some row∧j=i*k+r∧row[r]?=some u
 | [],_,_,h=>by simp at h
 | r::rows,j,hk,h=>by
  rw [List.flatten_cons] at h
  have hr:r.length=k:=hk r (by simp)
  by_cases hj:j<r.length
  ·rw [List.getElem?_append_left hj] at h
   exact ⟨0,j,r,rfl,by simp,h⟩
  ·rw [List.getElem?_append_right (by omega)] at h
   obtain ⟨i,r',row,h1,h2,h3⟩:=CY (fun r hr=>hk r (by simp [hr])) h
   exact ⟨i+1,r',row,by simpa using h1,by rw [Nat.succ_mul];omega,h3⟩
theorem LI {e:TypeId} {y:DataW H}:∀ {l:List (DataW H)},(∀ x∈DataW.weightsAll Tryz.prog e l,x≤140737488355328)→y∈l→Wt e y
 | d::r,h,hy=>by
  unfold DataW.weightsAll at h
  rcases List.mem_cons.1 hy with rfl|hy
  ·exact fun x hx=>h x (List.mem_append_left _ hx)
  ·exact LI (fun x hx=>h x (List.mem_append_right _ hx)) hy
theorem yY {α:Type} {t e k:Nat} {rowOf:α→List Value} {R:α→Prop} {cs:List Value} {x:DataW H×List MemPlace} (ht:Tryz.prog.underlying t=some (.slice e)) (hc:Tryz.prog.cellsOf e=k) (hk:0<k) (hrow:∀ a,(rowOf a).length=k)
 (helem:∀ n cs y,DataW.trod enc Tryz.prog w base sp held n e cs=some y→Wt e y.1→∃ a,cs=rowOf a∧R a)
 (h:DataW.trod enc Tryz.prog w base sp held fuel t cs=some x) (hw:Wt t x.1) :
 ∃ (v:Value) (l:List α),cs=[v]∧EV w k v (l.map rowOf)∧(∀ a∈l,R a)∧∀ a n c,v=.slice a n c→n≤c:=by
 rcases DataW.trod_slice ht h with ⟨rfl,rfl⟩|⟨a,len,cap,elems,rest,n,rfl,rfl,rfl,_,hle,_,hlen,hel,_,_⟩
 ·exact ⟨_,[],rfl,⟨⟨none,0,rfl⟩,by simp,fun hh=>absurd rfl hh⟩,by simp,fun a n c hh=>by injection hh with _ h2 h3;omega⟩
 ·have hwe:∀ y∈elems,Wt e y.1:=fun y hy=>by
   unfold Wt DataW.weights at hw
   rw [ht] at hw
   exact LI (l:=elems.map (·.1)) (fun z hz=>hw z (List.mem_cons_of_mem _ (List.mem_append_left _ hz))) (List.mem_map.2 ⟨y,hy,rfl⟩)
  have hall:∀ i,i<len→∃ b:α,R b∧∀ j u,(rowOf b)[j]?=some u→w.cell? ((a.add (i*k)).add j)=some u:=by
   intro i hi
   have h1:=hel i hi
   have hi':i<elems.length:=by omega
   rw [List.getElem?_eq_getElem hi',hc] at h1
   obtain ⟨ci,h2,h3⟩:=Option.bind_eq_some_iff.1 h1
   obtain ⟨b,rfl,hb⟩:=helem n ci _ h3 (hwe _ (List.getElem_mem hi'))
   obtain ⟨_,h5,h6⟩:=World.cells?_some h2
   refine ⟨b,hb,fun j u hu=>?_⟩
   have hj:j<k:=by rw [← hrow b];exact (List.getElem?_eq_some_iff.1 hu).1
   rw [h6 j hj];exact hu
  obtain ⟨l,hl1,hl2⟩:=tG (P:=fun i b=>R b∧∀ j u,(rowOf b)[j]?=some u→w.cell? ((a.add (i*k)).add j)=some u) len hall
  have hlm:(l.map rowOf).length=len:=by rw [List.length_map,hl1]
  refine ⟨_,l,rfl,⟨⟨some a,cap,by rw [hlm]⟩,fun r hr=>?_,fun hne=>?_⟩,fun b hb=>?_,fun a' n' c' hh=>by injection hh with _ h2 h3;omega⟩
  ·obtain ⟨b,_,rfl⟩:=List.mem_map.1 hr;exact hrow b
  ·have hpos:0<l.length:=by cases l with|nil=>exact absurd rfl hne|cons _ _=>simp
   have h0:=(hl2 0 _ (List.getElem?_eq_getElem hpos)).2 0 _ (List.getElem?_eq_getElem (by rw [hrow];exact hk))
   have hsp:a.spot=none:=by
    have:=World.cell?_spot h0
    simpa [Addr.add] using this
   obtain ⟨b0,o0,s0⟩:=a
   have hsp:s0=none:=hsp
   subst hsp
   refine ⟨b0,o0,cap,by rw [hlm],fun j u hu=>?_⟩
   obtain ⟨i,r,row,g1,rfl,g3⟩:=CY (k:=k) (fun r hr=>by obtain ⟨b,_,rfl⟩:=List.mem_map.1 hr;exact hrow b) hu
   rw [List.getElem?_map] at g1
   obtain ⟨b,g4,rfl⟩:=Option.map_eq_some_iff.1 g1
   have:=(hl2 i b g4).2 r u g3
   rw [add_eq,add_eq] at this
   rw [← Nat.add_assoc];exact this
  ·obtain ⟨i,hi⟩:=List.mem_iff_getElem?.1 hb
   exact (hl2 i b hi).1
theorem LJ {cs:List Value} {x:DataW H×List MemPlace} (h:DataW.trod enc Tryz.prog w base sp held fuel 100 cs=some x) (hw:Wt 100 x.1) :
 ∃ c:cG,cs=fQ c∧c.key.length≤140737488355328∧c.val.length≤140737488355328:=by
 obtain ⟨xs,n,rfl,rfl,hl,hx,hf⟩:=DataW.trod_struct Tryz.underlying100 h
 have c100:Tryz.prog.cellsOf 100=3:=by kernel_rfl
 have c9:Tryz.prog.cellsOf 9=1:=by kernel_rfl
 have c4:Tryz.prog.cellsOf 4=1:=by kernel_rfl
 rw [c100] at hl
 match cs,hl with
 | [v0,v1,v2],_=>
  match xs,hx with
  | [x0,x1,x2],_=>
   have f0:DataW.trod enc Tryz.prog w base sp held n 9 (([v0,v1,v2].drop 0).take (Tryz.prog.cellsOf 9))=some x0:=hf 0 _ rfl
   have f1:DataW.trod enc Tryz.prog w base sp held n 9 (([v0,v1,v2].drop 1).take (Tryz.prog.cellsOf 9))=some x1:=hf 1 _ rfl
   have f2:DataW.trod enc Tryz.prog w base sp held n 4 (([v0,v1,v2].drop 2).take (Tryz.prog.cellsOf 4))=some x2:=hf 2 _ rfl
   rw [c9] at f0 f1
   rw [c4] at f2
   obtain ⟨s0,e0,d0,_⟩:=DataW.trod_string Tryz.underlying9 (show _=some x0 from f0)
   obtain ⟨s1,e1,d1,_⟩:=DataW.trod_string Tryz.underlying9 (show _=some x1 from f1)
   obtain ⟨b2,e2,d2⟩:=DataW.trod_bool Tryz.underlying4 (show _=some x2 from f2)
   simp at e0 e1 e2
   subst e0 e1 e2 d0 d1 d2
   unfold Wt DataW.weights at hw
   rw [Tryz.underlying100] at hw
   simp only [List.map_cons,List.map_nil] at hw
   obtain ⟨⟨l0⟩⟩:=s0
   obtain ⟨⟨l1⟩⟩:=s1
   refine ⟨⟨l0,l1,b2⟩,rfl,hw _ ?_,hw _ ?_⟩
   ·simp [DataW.weightsEach,DataW.weights]
   ·simp [DataW.weightsEach,DataW.weights]
theorem AG {n:Int} (h:(Lit.int .i64 n).wf=true):-9223372036854775808≤n∧n≤9223372036854775807:=by
 simp only [Lit.wf,Bool.and_eq_true,decide_eq_true_eq] at h
 exact ⟨h.1,h.2⟩
theorem Nq {cs:List Value} {x:DataW H×List MemPlace} (h:DataW.trod enc Tryz.prog w base sp held fuel 84 cs=some x) (hw:Wt 84 x.1) :
 ∃ o:l8,cs=nQ o∧II w o∧o.s.length≤140737488355328∧o.t.length≤140737488355328∧∀ c∈o.l,c.key.length≤140737488355328∧c.val.length≤140737488355328:=by
 obtain ⟨xs,n,rfl,rfl,hl,hx,hf⟩:=DataW.trod_struct Tryz.underlying84 h
 have c84:Tryz.prog.cellsOf 84=6:=by kernel_rfl
 have c9:Tryz.prog.cellsOf 9=1:=by kernel_rfl
 have c3:Tryz.prog.cellsOf 3=1:=by kernel_rfl
 have c73:Tryz.prog.cellsOf 73=1:=by kernel_rfl
 have c100:Tryz.prog.cellsOf 100=3:=by kernel_rfl
 rw [c84] at hl
 match cs,hl with
 | [v0,v1,v2,v3,v4,v5],_=>
  match xs,hx with
  | [x0,x1,x2,x3,x4,x5],_=>
   have f0:DataW.trod enc Tryz.prog w base sp held n 3 (([v0,v1,v2,v3,v4,v5].drop 0).take (Tryz.prog.cellsOf 3))=some x0:=hf 0 _ rfl
   have f1:DataW.trod enc Tryz.prog w base sp held n 3 (([v0,v1,v2,v3,v4,v5].drop 1).take (Tryz.prog.cellsOf 3))=some x1:=hf 1 _ rfl
   have f2:DataW.trod enc Tryz.prog w base sp held n 3 (([v0,v1,v2,v3,v4,v5].drop 2).take (Tryz.prog.cellsOf 3))=some x2:=hf 2 _ rfl
   have f3:DataW.trod enc Tryz.prog w base sp held n 9 (([v0,v1,v2,v3,v4,v5].drop 3).take (Tryz.prog.cellsOf 9))=some x3:=hf 3 _ rfl
   have f4:DataW.trod enc Tryz.prog w base sp held n 9 (([v0,v1,v2,v3,v4,v5].drop 4).take (Tryz.prog.cellsOf 9))=some x4:=hf 4 _ rfl
   have f5:DataW.trod enc Tryz.prog w base sp held n 73 (([v0,v1,v2,v3,v4,v5].drop 5).take (Tryz.prog.cellsOf 73))=some x5:=hf 5 _ rfl
   rw [c3] at f0 f1 f2
   rw [c9] at f3 f4
   rw [c73] at f5
   unfold Wt DataW.weights at hw
   rw [Tryz.underlying84] at hw
   simp only [List.map_cons,List.map_nil,DataW.weightsEach] at hw
   obtain ⟨i0,e0,d0,g0⟩:=DataW.trod_int Tryz.underlying3 f0
   obtain ⟨i1,e1,d1,g1⟩:=DataW.trod_int Tryz.underlying3 f1
   obtain ⟨i2,e2,d2,g2⟩:=DataW.trod_int Tryz.underlying3 f2
   obtain ⟨s3,e3,d3,_⟩:=DataW.trod_string Tryz.underlying9 f3
   obtain ⟨s4,e4,d4,_⟩:=DataW.trod_string Tryz.underlying9 f4
   obtain ⟨v,l,e5,hrd,hok,hcap⟩:=yY (α:=cG) (k:=3) (rowOf:=fQ) (R:=fun c=>c.key.length≤140737488355328∧c.val.length≤140737488355328) Tryz.underlying73 c100 (by decide) (fun _=>rfl)
    (fun n cs y hy hwy=>LJ hy hwy) f5 (fun z hz=>hw z (by simp [hz]))
   simp at e0 e1 e2 e3 e4 e5
   subst e0 e1 e2 e3 e4 e5 d3 d4
   obtain ⟨⟨l3⟩⟩:=s3
   obtain ⟨⟨l4⟩⟩:=s4
   refine ⟨⟨i0,i1,i2,l3,l4,v5,l⟩,rfl,⟨(AG g1).1,(AG g1).2,(AG g2).1,(AG g2).2,hrd,hcap⟩,hw _ ?_,hw _ ?_,hok⟩
   ·simp [DataW.weights]
   ·simp [DataW.weights]
theorem LK {cs:List Value} {x:DataW H×List MemPlace} (h:DataW.trod enc Tryz.prog w base sp held fuel 65 cs=some x) (hw:Wt 65 x.1) :
 ∃ (v:Value) (ops:List l8),cs=[v]∧CX w v ops:=by
 have c84:Tryz.prog.cellsOf 84=6:=by kernel_rfl
 obtain ⟨v,l,e5,hrd,hok,hcap⟩:=yY (α:=l8) (k:=6) (rowOf:=nQ) (R:=fun o=>II w o∧o.s.length≤140737488355328∧o.t.length≤140737488355328∧∀ c∈o.l,c.key.length≤140737488355328∧c.val.length≤140737488355328) Tryz.underlying65 c84 (by decide) (fun _=>rfl)
  (fun n cs y hy hwy=>Nq hy hwy) h hw
 exact ⟨v,l,e5,hrd,hok⟩
end
end
theorem LL:ownKnob Tryz.prog.godebug=none:=by kernel_rfl
end Go.Proofs.YtecibefflhomdaaGreatDoor
