/-
  Part 50: WALKS are the tables as they must be; PLAIN how the tables stand; PLAIN LAWS what Shaped asks of the statements' world.
-/
import Derived.Test.YtecibefflhomdaaGreatDoorV49
set_option maxHeartbeats 8000000
set_option maxRecDepth 100000
set_option linter.all false
namespace Go.Proofs.YtecibefflhomdaaGreatDoor
open Go
section
open Go.Proofs.YtecibefflhomdaaGreatDoor.Pure (ae cG aR)
attribute [local irreducible] IntKind.wrap
variable {W0 w:World} {F:List ax} {p:Nat} {X:WS} {E B N:Nat} {v:Value}
structure QA (o:nH) (Ls:List (List bN)) (names:List Bs) (np:Nat):Prop where
 len:Ls.length=4
 l0:(Ls.getD 0 []).length<o.tables
 l1:(Ls.getD 1 []).length≤o.tables
 l2:(Ls.getD 2 []).length≤o.tables
 tS:o.tables≤1048576
 memo:o.memory≤1048576
 each:∀ Ts∈Ls,∀ T∈Ts,T.name∈names∧1≤T.count∧T.count≤100∧ma T.last T.first=false∧T.first≠[]
 sep:∀ i Ts k T U,1≤i→Ls[i]?=some Ts→Ts[k]?=some T→Ts[k+1]?=some U→ma T.last U.first=true
 two:LX [] (im Ls)=true
 few:names.length≤Ls.flatten.length+4
 pairs:np+1≤jS Ls+o.memory
 many:Ls.flatten.length≤1048576
 cnt:jS Ls≤1048576
theorem Sat.Pp {a:Option Addr} {c:Nat} {Ts:List bN} (hne:Ts≠[]) (h:Sat W0 (gr 4 (.slice a Ts.length c) (ea Ts)::F) w):∃ z:rO,a=some ⟨z.b,z.o,none⟩∧(∀ k T,Ts[k]?=some T→fS z.all (z.o+k*4) (sJ T) ∧
 z.all[z.o+k*4]?=some (str T.name)∧z.all[z.o+k*4+1]?=some (str T.first)∧z.all[z.o+k*4+2]?=some (str T.last)∧z.all[z.o+k*4+3]?=some (.int .i64 (T.count:Int))) ∧
 Sat W0 (ob true z.b (.cells z.all.toArray z.E (0,0))::gr 4 (.slice a Ts.length c) (ea Ts)::F) w:=by
 rw [← pj Ts] at h ⊢
 obtain ⟨z,⟨hz,_,hseg⟩,h2⟩:=h.kX (fun e=>hne (by
  have:=congrArg List.length e
  rw [pj] at this
  exact List.eq_nil_of_length_eq_zero this))
 have hk:=h.QP
 injection hz with h1 _ _
 refine ⟨z,h1,fun k T hT=>?_,h2⟩
 have h3:=hseg.row hk (i:=k) (x:=sJ T) (by unfold ea;rw [List.getElem?_map,hT];rfl)
 exact ⟨h3,h3.1,h3.2.1,h3.2.2.1,h3.2.2.2.1⟩
theorem Da (hE:iD W0) (h:gU X E B N) (hEE:E≤1048576) (hn:X.r.closed=false→X.D.now.length≤1099511627776) (hL:X.r.closed=false→∀ Ts∈X.s.levels,Ts.length≤1099511627776)
 (hlaw:X.r.closed=false→QA X.o X.s.levels (gh X.D) X.r.pairs.length) (hs:Sat W0 (wL p X F) w) :
 Calls Tryz.prog 36 #[ay p] w (iH W0 p F E B N):=by
 refine enter Tryz.func36 rfl Tryz.ntmps36 Tryz.results36 rfl ?_
 refine gy ?_
 refine ag (met (qi (fun hb=>hL (C8 hb)) (hs.take (.there .here))) ?_)
 clear hs
 rintro _ w ⟨v,ve,rfl,hs⟩
 refine ⟨_,rfl,?_⟩
 refine gy ?_
 refine ag (met (eA hE (hs.take (.there (.there .here)))) ?_)
 clear hs
 rintro _ w ⟨rfl,hs⟩
 refine ⟨_,rfl,?_⟩
 have hs:Sat W0 (eS X.rb X.r::PC v X.s.levels (eW X.r.closed none)::blk p 91 (bA X)::fy X.b X.d X.o X.r.closed none X.s::aj X.d X.D::gD X.det::aG X.vo X.out::aG X.vw X.out::F) w:=hs.to
 obtain ⟨vp,vs,us2,hu2,hs⟩:=hs.jD
 obtain ⟨ap,cp,rfl,-⟩:=(hs.take (.there .here)).iU
 have hfin:∀ w,Sat W0 (blk p 91 (bA X)::blk X.rb 88 [.slice ap X.r.pairs.length cp,vs,.bool X.r.closed]::aG (.slice ap X.r.pairs.length cp) X.r.pairs::tT vs us2 X.r.snaps::pk us2 X.r.snaps::fy X.b X.d X.o X.r.closed none X.s::gD X.det::aG X.vo X.out::aG X.vw X.out::aj X.d X.D::F) w→Sat W0 (wL p X F) w:=fun w h=>
  (Sat.dK (rb:=X.rb) (r:=X.r) hu2 (h.to (a:=blk X.rb 88 [.slice ap X.r.pairs.length cp,vs,.bool X.r.closed]::aG (.slice ap X.r.pairs.length cp) X.r.pairs::tT vs us2 X.r.snaps::pk us2 X.r.snaps::blk p 91 (bA X)::fy X.b X.d X.o X.r.closed none X.s::aj X.d X.D::gD X.det::aG X.vo X.out::aG X.vw X.out::F))).to
 have hs:=hs.to (a:=blk p 91 (bA X)::blk X.rb 88 [.slice ap X.r.pairs.length cp,vs,.bool X.r.closed]::PC v X.s.levels (eW X.r.closed none)::aG (.slice ap X.r.pairs.length cp) X.r.pairs::tT vs us2 X.r.snaps::pk us2 X.r.snaps::fy X.b X.d X.o X.r.closed none X.s::gD X.det::aG X.vo X.out::aG X.vw X.out::aj X.d X.D::F)
 cases hc:X.r.closed with
 | true=>
  rw [hc] at hs hfin
  have hv:=(hs.take (.there (.there .here))).fT (φ:=v=.slice none 0 0) fun _ k=>k
  subst hv
  have h6:((gC (eW true none):Nat):Int)=6:=rfl
  refine gy ?_
  refine ag (met (eJ hs) ?_)
  clear hs
  rintro _ w ⟨rfl,hs⟩
  refine ⟨_,rfl,?_⟩
  refine gy ?_
  exact ah rfl ⟨X,h,rfl,hfin _ hs.to⟩
 | false=>
  rw [hc] at hs hfin
  have hdet:=h.open_ hc
  have hlaw:=hlaw hc
  have hn:=hn hc
  have hlen:=hlaw.len
  have hdk:X.l7=X.d:=by unfold WS.l7;rw [hdet]
  have hs:Sat W0 (oK v X.s.levels::blk p 91 (bA X)::blk X.rb 88 [.slice ap X.r.pairs.length cp,vs,.bool false]::aG (.slice ap X.r.pairs.length cp) X.r.pairs::tT vs us2 X.r.snaps::pk us2 X.r.snaps::fy X.b X.d X.o false none X.s::gD X.det::aG X.vo X.out::aG X.vw X.out::aj X.d X.D::F) w:=hs.to
  have hs:=hs.od (C6 _ _)
  obtain ⟨us,z,hus,rfl,hz,hs⟩:=hs.AI (by intro e;rw [e] at hlen;cases hlen)
  have h0:((gC (eW false none):Nat):Int)=0:=rfl
  generalize hLs:X.s.levels=Ls at *
  rw [hlen] at hs ⊢
  obtain ⟨t0,t1,t2,t3,hL4⟩:=four hlen
  have l0:=hlaw.l0
  have l1:=hlaw.l1
  have l2:=hlaw.l2
  rw [hL4] at l0 l1 l2
  simp only [List.getD_cons_zero,List.getD_cons_succ] at l0 l1 l2
  have g0:Ls[0]?=some t0:=by rw [hL4];rfl
  have g1:Ls[1]?=some t1:=by rw [hL4];rfl
  have g2:Ls[2]?=some t2:=by rw [hL4];rfl
  clear hL4
  have htb:=hlaw.tS
  have hme:=hlaw.memo
  obtain ⟨u0,v0⟩:∃ u,us[0]?=some u:=⟨_,List.getElem?_eq_getElem (by omega)⟩
  obtain ⟨u1,v1⟩:∃ u,us[1]?=some u:=⟨_,List.getElem?_eq_getElem (by omega)⟩
  obtain ⟨u2,v2⟩:∃ u,us[2]?=some u:=⟨_,List.getElem?_eq_getElem (by omega)⟩
  have z0:=hz 0 u0 v0
  have z1:=hz 1 u1 v1
  have z2:=hz 2 u2 v2
  have hs:=Sat.Fy v0 g0 (hs.take (.there .here))
  obtain ⟨a0,c0,rfl⟩:=hs.nD
  have hs:=Sat.Fy v1 g1 (hs.take (.there .here))
  obtain ⟨a1,c1,rfl⟩:=hs.nD
  have hs:=Sat.Fy v2 g2 (hs.take (.there .here))
  obtain ⟨a2,c2,rfl⟩:=hs.nD
  have hs:=hs.to (a:=blk p 91 (bA X)::ob true z.b (.cells z.all.toArray z.E (0,0))::blk X.rb 88 [.slice ap X.r.pairs.length cp,vs,.bool false]::tU us Ls::oK (.slice (some ⟨z.b,z.o,none⟩) 4 z.c) Ls::aG (.slice ap X.r.pairs.length cp) X.r.pairs::tT vs us2 X.r.snaps::pk us2 X.r.snaps::fy X.b X.d X.o false none X.s::gD X.det::aG X.vo X.out::aG X.vw X.out::aj X.d X.D::F)
  refine gy ?_
  refine bu [blk p 91 (bA X),ob true z.b (.cells z.all.toArray z.E (0,0))] [11,16,22,27,33,38] (.q 0 (.l 1 (.q 2 (.q 3 (.q 4 (.q 5 (.q 6 (.q 7 (.q 8 (.q 9 (.q 10 (.s 11 (.q 12 (.q 13 (.q 14 (.q 15 (.s 16 (.q 17 (.q 18 (.q 19 (.q 20 (.q 21 (.s 22 (.q 23 (.q 24 (.q 25 (.q 26 (.s 27 (.q 28 (.q 29 (.q 30 (.q 31 (.q 32 (.s 33 (.q 34 (.q 35 (.q 36 (.q 37 (.s 38 (.q 39 (.q 40 .nil))))))))))))))))))))))))))))))))))))))))) hs (by kernel_rfl) ?_
  clear hs
  intro w hs
  refine gj ?_
  refine ag (met (eJ hs) ?_)
  clear hs
  rintro _ w ⟨rfl,hs⟩
  refine ⟨_,rfl,?_⟩
  refine gy ?_
  refine cD hs.to ?_
  refine gj ?_
  refine lS (j:=0) rfl rfl rfl rfl rfl rfl rfl (by omega) rfl ?_
  refine gj ?_
  refine lS (j:=1) rfl rfl rfl rfl rfl rfl rfl (by omega) rfl ?_
  refine gj ?_
  refine lS (j:=2) rfl rfl rfl rfl rfl rfl rfl (by omega) rfl ?_
  refine gj ?_
  refine gy ?_
  rw [hdk]
  refine ag (met (Lh (hs.take (.there (.there (.there (.there (.there (.there (.there (.there (.there (.there (.there (.there .here))))))))))))) hn) ?_)
  clear hs v0 v1 v2 z0 z1 z2 g0 g1 g2 l0 l1 l2
  rintro _ w ⟨vn,rfl,hs⟩
  refine ⟨_,rfl,?_⟩
  have hnm:=hlaw.few
  have hmany:=hlaw.many
  have hcnt:=hlaw.cnt
  generalize gh X.D=names at *
  obtain ⟨an,cn,rfl,-⟩:=(hs.take (.there .here)).aC
  have hfin:∀ w,Sat W0 (blk p 91 (bA X)::ob true z.b (.cells z.all.toArray z.E (0,0))::mK (.slice an names.length cn) names::blk X.rb 88 [.slice ap X.r.pairs.length cp,vs,.bool false]::tU us Ls::oK (.slice (some ⟨z.b,z.o,none⟩) 4 z.c) Ls::aG (.slice ap X.r.pairs.length cp) X.r.pairs::tT vs us2 X.r.snaps::pk us2 X.r.snaps::fy X.b X.d X.o false none X.s::gD X.det::aG X.vo X.out::aG X.vw X.out::aj X.d X.D::F) w→Sat W0 (wL p X F) w:=fun w h=>hfin w h.to
  have hs:=hs.to (a:=blk p 91 (bA X)::ob true z.b (.cells z.all.toArray z.E (0,0))::mK (.slice an names.length cn) names::blk X.rb 88 [.slice ap X.r.pairs.length cp,vs,.bool false]::tU us Ls::oK (.slice (some ⟨z.b,z.o,none⟩) 4 z.c) Ls::aG (.slice ap X.r.pairs.length cp) X.r.pairs::tT vs us2 X.r.snaps::pk us2 X.r.snaps::fy X.b X.d X.o false none X.s::gD X.det::aG X.vo X.out::aG X.vw X.out::aj X.d X.D::F)
  generalize hG:aG (.slice ap X.r.pairs.length cp) X.r.pairs::tT vs us2 X.r.snaps::pk us2 X.r.snaps::fy X.b X.d X.o false none X.s::gD X.det::aG X.vo X.out::aG X.vw X.out::aj X.d X.D::F=G at hs hfin
  clear hG hu2
  refine gy ?_
  refine aJ (α:=Nat) (fun i=>[(0,ay p),(3,.slice (some ⟨z.b,z.o,none⟩) 4 z.c),(6,.slice an names.length cn),(7,.int .i64 ((Ls.take i).flatten.length:Int)),(8,.int .i64 (jS (Ls.take i):Int)),(9,.int .i64 (i:Int))])
   (fun i w=>i≤4∧Sat W0 (blk p 91 (bA X)::ob true z.b (.cells z.all.toArray z.E (0,0))::mK (.slice an names.length cn) names::blk X.rb 88 [.slice ap X.r.pairs.length cp,vs,.bool false]::tU us Ls::oK (.slice (some ⟨z.b,z.o,none⟩) 4 z.c) Ls::G) w) (fun i=>4-i) 0 ⟨rfl,rfl,rfl,rfl,rfl,rfl,trivial⟩ ⟨by omega,hs⟩ ?_
  clear hs
  rintro i w ⟨hi,hs⟩
  by_cases hlt4:i<4
  ·have hlt4':(i:Int)<4:=by omega
   have hgl:Ls[i]?=some (Ls[i]'(by omega)):=List.getElem?_eq_getElem (by omega)
   have htl:Ls.take (i+1)=Ls.take i++[Ls[i]'(by omega)]:=by rw [List.take_add_one,hgl];rfl
   obtain ⟨u,hgu⟩:∃ u,us[i]?=some u:=⟨_,List.getElem?_eq_getElem (by omega)⟩
   generalize Ls[i]'(by omega)=Ts at hgl htl
   have hcu:=hz i u hgu
   have hs:=Sat.Fy hgu hgl (hs.take (.there (.there (.there (.there .here)))))
   obtain ⟨a2,c2',rfl⟩:=hs.nD
   have hs:=hs.to (a:=gr 4 (.slice a2 Ts.length c2') (ea Ts)::blk p 91 (bA X)::ob true z.b (.cells z.all.toArray z.E (0,0))::mK (.slice an names.length cn) names::blk X.rb 88 [.slice ap X.r.pairs.length cp,vs,.bool false]::tU us Ls::oK (.slice (some ⟨z.b,z.o,none⟩) 4 z.c) Ls::G)
   have e2:=wT (Ls.take i) [Ts]
   have e1:(Ls.take (i+1)).flatten.length=(Ls.take i).flatten.length+Ts.length:=by rw [htl];simp
   rw [← htl] at e2
   rw [C9] at e2
   have hct:=y5 Ls (i+1)
   have hfl:(Ls.take (i+1)).flatten.length≤Ls.flatten.length:=by
    have:Ls.flatten.length=(Ls.take (i+1)).flatten.length+(Ls.drop (i+1)).flatten.length:=by
     rw [← List.length_append,← List.flatten_append,List.take_append_drop]
    omega
   refine gy ?_
   refine aJ (α:=Nat) (fun k=>[(0,ay p),(3,.slice (some ⟨z.b,z.o,none⟩) 4 z.c),(6,.slice an names.length cn),(7,.int .i64 (((Ls.take i).flatten.length+k:Nat):Int)),(8,.int .i64 ((jS (Ls.take i)+lz (Ts.take k):Nat):Int)),(9,.int .i64 (i:Int)),(10,.int .i64 (k:Int))])
    (fun k w=>k≤Ts.length∧Sat W0 (gr 4 (.slice a2 Ts.length c2') (ea Ts)::blk p 91 (bA X)::ob true z.b (.cells z.all.toArray z.E (0,0))::mK (.slice an names.length cn) names::blk X.rb 88 [.slice ap X.r.pairs.length cp,vs,.bool false]::tU us Ls::oK (.slice (some ⟨z.b,z.o,none⟩) 4 z.c) Ls::G) w) (fun k=>Ts.length-k) 0 ⟨rfl,rfl,rfl,rfl,rfl,rfl,rfl,trivial⟩ ⟨Nat.zero_le _,hs⟩ ?_
   clear hs
   rintro k w ⟨hk,hs⟩
   by_cases hlk:k<Ts.length
   ·have hlk':(k:Int)<(Ts.length:Int):=by omega
    have hgT:Ts[k]?=some Ts[k]:=List.getElem?_eq_getElem hlk
    have htk:Ts.take (k+1)=Ts.take k++[Ts[k]]:=by rw [List.take_add_one,hgT];rfl
    generalize Ts[k]=T at hgT htk
    have e5:lz (Ts.take (k+1))=lz (Ts.take k)+T.count:=by rw [htk,rB,wU]
    have e6:=sK Ts (k+1)
    obtain ⟨w1,w2,w3,w4,w5⟩:=hlaw.each Ts (List.mem_of_getElem? hgl) T (List.mem_of_getElem? hgT)
    obtain ⟨y,rfl,hrows,hs⟩:=Sat.Pp (by intro e;rw [e] at hgT;cases hgT) hs
    obtain ⟨hseg,y0,y1,y2,y3⟩:=hrows k T hgT
    have hs:=hs.to (a:=ob true y.b (.cells y.all.toArray y.E (0,0))::gr 4 (.slice (some ⟨y.b,y.o,none⟩) Ts.length c2') (ea Ts)::blk p 91 (bA X)::ob true z.b (.cells z.all.toArray z.E (0,0))::mK (.slice an names.length cn) names::blk X.rb 88 [.slice ap X.r.pairs.length cp,vs,.bool false]::tU us Ls::oK (.slice (some ⟨z.b,z.o,none⟩) 4 z.c) Ls::G)
    refine gy ?_
    refine aS hs ?_
    clear hs
    intro w b11 hs
    refine gy ?_
    refine da (vs:=sJ T) hs ?_
    clear hs
    intro w hs
    refine gy ?_
    refine ag (met (tH (n:=T.name) (hs.take (.there (.there (.there (.there (.there .here)))))) (by omega)) ?_)
    clear hs
    rintro _ w ⟨rfl,hs⟩
    refine ⟨_,rfl,?_⟩
    rw [decide_eq_true w1]
    have hs:=hs.to (a:=blk b11 166 (sJ T)::ob true y.b (.cells y.all.toArray y.E (0,0))::gr 4 (.slice (some ⟨y.b,y.o,none⟩) Ts.length c2') (ea Ts)::blk p 91 (bA X)::ob true z.b (.cells z.all.toArray z.E (0,0))::mK (.slice an names.length cn) names::blk X.rb 88 [.slice ap X.r.pairs.length cp,vs,.bool false]::tU us Ls::oK (.slice (some ⟨z.b,z.o,none⟩) 4 z.c) Ls::G)
    refine gy ?_
    by_cases hi1:1≤i
    ·have hi0:(i:Int) > 0:=by omega
     by_cases hk1:1≤k
     ·obtain ⟨m,rfl⟩:∃ m,k=m+1:=⟨k-1,by omega⟩
      have hk0:((m+1:Nat):Int) > 0:=by omega
      obtain ⟨U,hgU⟩:∃ U,Ts[m]?=some U:=⟨_,List.getElem?_eq_getElem (by omega)⟩
      have hsp:=hlaw.sep i Ts m U T hi1 hgl hgU hgT
      obtain ⟨-,u0,u1,u2,u3⟩:=hrows m U hgU
      refine bu [blk b11 166 (sJ T),ob true z.b (.cells z.all.toArray z.E (0,0)),ob true y.b (.cells y.all.toArray y.E (0,0))] [8,12,17] (.q 0 (.q 1 (.q 2 (.q 3 (.q 4 (.q 5 (.q 6 (.q 7 (.s 8 (.q 9 (.q 10 (.q 11 (.s 12 (.q 13 (.q 14 (.q 15 (.q 16 (.s 17 (.q 18 (.q 19 .nil)))))))))))))))))))) hs (by kernel_rfl) ?_
      clear hs
      intro w hs
      refine gj ?_
      refine lS (j:=m) rfl rfl rfl rfl (by omega) rfl rfl (by omega) rfl ?_
      refine gj ?_
      rw [hsp]
      refine gy ?_
      refine az ((m+1)+1) ⟨rfl,rfl,rfl,?_,?_,rfl,rfl,trivial⟩ ⟨hlk,hs.to⟩ (by show Ts.length-((m+1)+1)<Ts.length-(m+1);omega)
      ·exact congrArg (fun z=>some (Value.int .i64 z)) (by omega)
      ·rw [e5]
       exact congrArg (fun z=>some (Value.int .i64 z)) (by omega)
     ·have hk0:¬ (k:Int) > 0:=by omega
      refine bu [blk b11 166 (sJ T),ob true z.b (.cells z.all.toArray z.E (0,0)),ob true y.b (.cells y.all.toArray y.E (0,0))] [8,12,17] (.q 0 (.q 1 (.q 2 (.q 3 (.q 4 (.q 5 (.q 6 (.q 7 (.s 8 (.q 9 (.q 10 (.q 11 (.s 12 (.q 13 (.q 14 (.q 15 (.q 16 (.s 17 (.q 18 (.q 19 .nil)))))))))))))))))))) hs (by kernel_rfl) ?_
      clear hs
      intro w hs
      refine gj ?_
      refine gy ?_
      refine az (k+1) ⟨rfl,rfl,rfl,?_,?_,rfl,rfl,trivial⟩ ⟨hlk,hs.to⟩ (by show Ts.length-(k+1)<Ts.length-k;omega)
      ·exact congrArg (fun z=>some (Value.int .i64 z)) (by omega)
      ·rw [e5]
       exact congrArg (fun z=>some (Value.int .i64 z)) (by omega)
    ·have hi0:¬ (i:Int) > 0:=by omega
     refine bu [blk b11 166 (sJ T),ob true z.b (.cells z.all.toArray z.E (0,0)),ob true y.b (.cells y.all.toArray y.E (0,0))] [8,12,17] (.q 0 (.q 1 (.q 2 (.q 3 (.q 4 (.q 5 (.q 6 (.q 7 (.s 8 (.q 9 (.q 10 (.q 11 (.s 12 (.q 13 (.q 14 (.q 15 (.q 16 (.s 17 (.q 18 (.q 19 .nil)))))))))))))))))))) hs (by kernel_rfl) ?_
     clear hs
     intro w hs
     refine gj ?_
     refine gy ?_
     refine az (k+1) ⟨rfl,rfl,rfl,?_,?_,rfl,rfl,trivial⟩ ⟨hlk,hs.to⟩ (by show Ts.length-(k+1)<Ts.length-k;omega)
     ·exact congrArg (fun z=>some (Value.int .i64 z)) (by omega)
     ·rw [e5]
      exact congrArg (fun z=>some (Value.int .i64 z)) (by omega)
   ·have hke:k=Ts.length:=by omega
    subst hke
    have hlk':¬ (Ts.length:Int)<(Ts.length:Int):=by omega
    rw [List.take_length]
    refine gy ?_
    refine az (i+1) ⟨rfl,rfl,rfl,?_,?_,rfl,trivial⟩ ⟨by omega,hs.drop⟩ (by show 4-(i+1)<4-i;omega)
    ·rw [e1];rfl
    ·rw [e2];rfl
  ·have hie:i=4:=by omega
   subst hie
   have hlt4':¬ ((4:Nat):Int)<4:=by omega
   rw [List.take_of_length_le (by omega)]
   refine gy ?_
   refine bu [blk p 91 (bA X),blk X.rb 88 [.slice ap X.r.pairs.length cp,vs,.bool false]] [13,16,22] (.q 0 (.l 1 (.q 2 (.q 3 (.q 4 (.q 5 (.q 6 (.q 7 (.q 8 (.q 9 (.q 10 (.q 11 (.q 12 (.s 13 (.q 14 (.q 15 (.s 16 (.q 17 (.q 18 (.q 19 (.q 20 (.q 21 (.s 22 (.q 23 (.q 24 (.q 25 (.q 26 (.q 27 .nil)))))))))))))))))))))))))))) hs (by kernel_rfl) ?_
   clear hs
   intro w hs
   refine gj ?_
   refine ag (met (Fz hlen (by omega) (Sat.od (C6 _ _) (hs.take (.there (.there (.there (.there (.there .here))))))) ) ?_)
   clear hs
   rintro _ w ⟨rfl,hs⟩
   refine ⟨_,rfl,?_⟩
   rw [hlaw.two]
   have hpr:=hlaw.pairs
   have hp1:=h.plen
   have k1:(names.length:Int)≤(Ls.flatten.length:Int)+4:=by omega
   have k2:(X.r.pairs.length:Int)≤(jS Ls:Int)+(X.o.memory:Int)-1:=by omega
   refine gy ?_
   refine cD hs.to ?_
   refine gj ?_
   refine gy ?_
   exact ah rfl ⟨X,h,rfl,hfin _ hs.to⟩
end
section
open Go.Proofs.YtecibefflhomdaaGreatDoor.Pure
def IS (key:Bs) (T:bN):Bool:=!(aR key T.first||aR T.last key)
def nO (key:Bs) (Ts:List bN):Nat:=(Ts.filter (IS key)).length
section
variable {C:Prop} {s:St} {D D':ae} {q0:Nat} {Ls:fU} {bs:List (List cG)} {E:Nat} {key:Bs} {seq:Nat}
theorem wV (a b:List bN):nO key (a++b)=nO key a+nO key b:=by unfold nO;rw [List.filter_append,List.length_append]
theorem y6 (T:bN) (b:List bN):nO key (T::b)=(if IS key T=true then 1 else 0)+nO key b:=by
 unfold nO
 rw [List.filter_cons]
 split
 ·rw [List.length_cons];omega
 ·omega
theorem Ny (a:List bN):nO key a≤a.length:=List.length_filter_le _ _
theorem oL:∀ (ps:List (bN×List aB)) {D D':ae} {x:Except cx (Option aB)},D.Ok→(∀ p∈ps,∃ f cs,file D p.1.name=some f∧mG C f p.1 p.2 cs)→0≤D.reads→D.reads+(ps.length:Int)≤4611686018427387904 →
 kq key seq (ps.map (·.1)) D=some (x,D')→D'.reads≤D.reads+(nO key (ps.map (·.1)):Int)∧(D.most≤512→D'.most≤512)
 | [],D,D',x,_,_,_,_,hg=>by
  unfold kq at hg
  cases hg
  exact ⟨by simp [nO],id⟩
 | p::ps,D,D',x,hd,h,h0,hn,hg=>by
  obtain ⟨f,cs,h1,h2⟩:=h p List.mem_cons_self
  rw [List.map_cons] at hg ⊢
  rw [y6]
  simp only [List.length_cons] at hn
  unfold kq at hg
  by_cases hr:aR key p.1.first=true∨aR p.1.last key=true
  ·have e1:sU D p.1 key seq=some (.ok none,D):=if_pos hr
   rw [e1] at hg
   have:=oL ps hd (fun q hq=>h q (List.mem_cons_of_mem _ hq)) h0 (by omega) hg
   exact ⟨by omega,this.2⟩
  ·have e2:IS key p.1=true:=by
    unfold IS
    cases a:aR key p.1.first with
    | true=>exact absurd (.inl a) hr
    | false=>
     cases b:aR p.1.last key with
     | true=>exact absurd (.inr b) hr
     | false=>rfl
   rw [if_pos e2]
   obtain ⟨y,D1,k1,k2,k3⟩:=yu h2 hd h1 key seq
   have s1:=cK.Gr hd k2
   have hr1:0≤D1.reads∧D1.reads≤D.reads+1∧(D.most≤512→D1.most≤512):=by
    rcases k2 with rfl|⟨c,hc,rfl⟩
    ·exact ⟨h0,by omega,id⟩
    ·have hsz:=h2.size c hc
     rw [ae.uU,ae.xK]
     show 0≤IntKind.i64.wrap (D.reads+1)∧IntKind.i64.wrap (D.reads+1)≤_∧(_→max D.most _≤512)
     rw [show IntKind.i64.wrap (D.reads+1)=D.reads+1 by simp only [IntKind.wrap,IntKind.bits,IntKind.signed];simp;split<;>omega]
     exact ⟨by omega,by omega,fun hm=>by omega⟩
   rw [k1] at hg
   cases y with
   | error e=>
    cases hg
    exact ⟨by omega,hr1.2.2⟩
   | ok o=>
    cases o with
    | some e=>
     cases hg
     exact ⟨by omega,hr1.2.2⟩
    | none=>
     have:=oL ps s1.later.ok (fun q hq=>by
      obtain ⟨f,cs,h1,h2⟩:=h q (List.mem_cons_of_mem _ hq)
      exact ⟨f,cs,by rw [s1.file];exact h1,h2⟩) hr1.1 (by omega) hg
     exact ⟨by omega,fun hm=>this.2 (hr1.2.2 hm)⟩
theorem wW {l:List aB} (h:l≠[]):∃ e∈l,dP l=e.key:=by
 cases l with
 | nil=>exact absurd rfl h
 | cons e r=>exact ⟨e,List.mem_cons_self,rfl⟩
theorem IT {l:List aB} (h:l≠[]):∃ e∈l,fJ l=e.key:=by
 unfold fJ
 rw [List.getLast?_eq_some_getLast h]
 exact ⟨_,List.getLast_mem h,rfl⟩
abbrev IU (p:bN×List aB):Prop:=p.2≠[]∧p.1.first=dP p.2∧p.1.last=fJ p.2∧p.1.count=p.2.length
theorem Pz.xg {fl:Bs→Option Bs} (h:Pz C fl Ls):∀ p∈Ls.flatten,IU p:=fun p hp=>by
 obtain ⟨f,cs,_,k⟩:=h p hp
 have:=k.xg
 exact ⟨k.some,by rw [this],by rw [this],by rw [this]⟩
theorem Db {p q:bN×List aB} (hp:IU p) (hq:IU q) (h:tQ p.2 q.2):aR p.1.last q.1.first=true:=by
 obtain ⟨x,hx,e1⟩:=IT hp.1
 obtain ⟨y,hy,e2⟩:=wW hq.1
 rw [hp.2.2.1,hq.2.1,e1,e2]
 exact h x hx y hy
theorem rC:∀ {L:List (bN×List aB)},L.Pairwise (fun a b=>tQ a.2 b.2)→(∀ p∈L,IU p)→nO key (L.map (·.1))≤1
 | [],_,_=>Nat.zero_le _
 | p::L,hs,ht=>by
  obtain ⟨h1,h2⟩:=List.pairwise_cons.1 hs
  rw [List.map_cons,y6]
  by_cases hh:IS key p.1=true
  ·rw [if_pos hh]
   have:nO key (L.map (·.1))=0:=by
    unfold nO
    rw [List.filter_eq_nil_iff.2 fun T hT hT2=>?_]
    ·rfl
    obtain ⟨q,hq,rfl⟩:=List.mem_map.1 hT
    have h3:=Db (ht p List.mem_cons_self) (ht q (List.mem_cons_of_mem _ hq)) (h1 q hq)
    unfold IS at hh hT2
    simp only [Bool.not_or,Bool.and_eq_true,Bool.not_eq_true'] at hh hT2
    have:=lQ hh.2 h3
    rw [hT2.1] at this;cases this
   omega
  ·rw [if_neg hh]
   have:=rC h2 fun q hq=>ht q (List.mem_cons_of_mem _ hq)
   omega
theorem IV (h:je C s D q0 Ls bs E) (hE:E≤1048576) (hr:D.reads=0) (hm:D.most=0) {x:Except cx (Option Bs)} (hg:vM s D key seq=some (x,D')) :
 D'.reads≤(((s.levels.getD 0 []).length+((s.levels.drop 1).filter fun l=>decide (l≠[])).length:Nat):Int)∧D'.most≤512:=by
 unfold vM at hg
 by_cases hk:key.length=0∨8<key.length
 ·rw [if_pos hk] at hg
  cases hg
  exact ⟨by omega,by omega⟩
 ·rw [if_neg hk] at hg
  cases hf:py s.mem key seq with
  | some e=>
   rw [hf] at hg
   cases hg
   exact ⟨by omega,by omega⟩
  | none=>
   rw [hf] at hg
   obtain ⟨ps,p1,p2,p3,p4,p5⟩:=rh h.levels h.core.lv.len
   have htab:=h.core.tS hE
   cases hgt:kq key seq (cJ s) D with
   | none=>rw [hgt] at hg;cases hg
   | some q=>
    obtain ⟨y,D1⟩:=q
    have hD:D'=D1:=by
     rw [hgt] at hg
     cases y with
     | error e=>cases hg;rfl
     | ok o=>cases hg;rfl
    subst hD
    rw [p1] at hgt
    obtain ⟨r1,r2⟩:=oL (C:=C) ps h.core.ok (fun p hp=>h.core.on p (p3 p hp)) (by omega) (by omega) hgt
    refine ⟨?_,r2 (by omega)⟩
    obtain ⟨L0,L1,L2,L3,rfl⟩:=dS h.core.lv.len
    have hte:=h.core.on.xg
    have h1:nO key (L1.map (·.1))≤(if L1=[] then 0 else 1):=by
     split
     ·rename_i e;rw [e];exact Nat.le_refl _
     ·exact rC (h.core.lv.sep 1 L1 (by omega) rfl) fun p hp=>hte p (by simp [hp])
    have h2:nO key (L2.map (·.1))≤(if L2=[] then 0 else 1):=by
     split
     ·rename_i e;rw [e];exact Nat.le_refl _
     ·exact rC (h.core.lv.sep 2 L2 (by omega) rfl) fun p hp=>hte p (by simp [hp])
    have h3:nO key (L3.map (·.1))≤(if L3=[] then 0 else 1):=by
     split
     ·rename_i e;rw [e];exact Nat.le_refl _
     ·exact rC (h.core.lv.sep 3 L3 (by omega) rfl) fun p hp=>hte p (by simp [hp])
    have h0:nO key (L0.reverse.map (·.1))≤L0.length:=by have:=Ny (key:=key) (L0.reverse.map (·.1));simpa using this
    have e:ps.map (·.1)=L0.reverse.map (·.1)++(L1.map (·.1)++(L2.map (·.1)++L3.map (·.1))):=by rw [p5];simp
    rw [e,wV,wV,wV] at r1
    have e2:((s.levels.getD 0 []).length+((s.levels.drop 1).filter fun l=>decide (l≠[])).length)=L0.length+((if L1=[] then 0 else 1)+((if L2=[] then 0 else 1)+(if L3=[] then 0 else 1))):=by
     rw [h.levels]
     unfold bU
     by_cases a1:L1=[]<;>by_cases a2:L2=[]<;>by_cases a3:L3=[]<;>simp [a1,a2,a3]
    rw [e2]
    omega
theorem FB (h:s.levels=bU Ls) {Ts:List bN} (hT:Ts∈s.levels) {T:bN} (hT2:T∈Ts):∃ p∈Ls.flatten,p.1=T:=by
 have:T∈(bU Ls).flatten:=List.mem_flatten.2 ⟨Ts,by rw [← h];exact hT,hT2⟩
 rw [jd] at this
 obtain ⟨p,hp,e⟩:=List.mem_map.1 this
 exact ⟨p,hp,e⟩
theorem je.table (h:je C s D q0 Ls bs E) {Ts:List bN} (hT:Ts∈s.levels) {T:bN} (hT2:T∈Ts):T.name∈gh D∧1≤T.count∧T.count≤99∧aR T.last T.first=false∧T.first≠[]:=by
 obtain ⟨p,hp,rfl⟩:=FB h.levels hT hT2
 obtain ⟨f,cs,k1,k2⟩:=h.core.on p hp
 obtain ⟨a1,a2,a3,a4⟩:=h.core.on.xg p hp
 have hc:=k2.count
 obtain ⟨e1,he1,f1⟩:=wW a1
 refine ⟨jQ.2 (by rw [k1];simp),?_,by omega,?_,?_⟩
 ·have:=List.length_pos_iff.2 a1;omega
 ·rw [a2,a3,f1]
  exact BV k2.srt e1 he1
 ·rw [a2,f1]
  exact (k2.ents e1 he1).1.kne
theorem je.Q7 (h:je C s D q0 Ls bs E) {i k:Nat} {Ts:List bN} {T U:bN} (hi:1≤i) (hT:s.levels[i]?=some Ts) (h1:Ts[k]?=some T) (h2:Ts[k+1]?=some U):aR T.last U.first=true:=by
 rw [h.levels] at hT
 unfold bU at hT
 rw [List.getElem?_map] at hT
 cases hL:Ls[i]? with
 | none=>rw [hL] at hT;cases hT
 | some L=>
  rw [hL] at hT
  cases hT
  rw [List.getElem?_map] at h1 h2
  cases g1:L[k]? with
  | none=>rw [g1] at h1;cases h1
  | some p=>
   cases g2:L[k+1]? with
   | none=>rw [g2] at h2;cases h2
   | some q=>
    rw [g1] at h1;rw [g2] at h2
    cases h1;cases h2
    have hm:∀ p∈L,p∈Ls.flatten:=fun p hp=>List.mem_flatten.2 ⟨L,List.mem_of_getElem? hL,hp⟩
    refine Db (h.core.on.xg p (hm p (List.mem_of_getElem? g1))) (h.core.on.xg q (hm q (List.mem_of_getElem? g2))) ?_
    have hs:=h.core.lv.sep i L hi hL
    obtain ⟨l1,e1⟩:=List.getElem?_eq_some_iff.1 g1
    obtain ⟨l2,e2⟩:=List.getElem?_eq_some_iff.1 g2
    have:=(List.pairwise_iff_getElem.1 hs) k (k+1) l1 l2 (by omega)
    rw [e1,e2] at this;exact this
theorem je.files (h:je C s D q0 Ls bs E):(gh D).length≤s.levels.flatten.length+2:=by
 have:=jC (ki h.core.ok) (b:=aU::s.log::bP Ls) fun m hm=>by
  rcases h.known m (jQ.1 hm) with h|h|h
  ·rw [h];exact List.mem_cons_self
  ·rw [h];exact List.mem_cons_of_mem _ List.mem_cons_self
  ·exact List.mem_cons_of_mem _ (List.mem_cons_of_mem _ h)
 rw [h.levels,jd,List.length_map]
 simp only [List.length_cons,bP,List.length_map] at this
 omega
theorem je.Pq (h:je C s D q0 Ls bs E):(s.levels.flatten.map (·.name)).Nodup:=by
 rw [h.levels,jd,List.map_map]
 exact h.core.lv.nodup
theorem je.counts (h:je C s D q0 Ls bs E):(s.levels.map fun Ts=>(Ts.map (·.count)).sum).sum=cnt Ls:=by
 rw [h.levels]
 unfold bU cnt
 have hte:=h.core.on.xg
 have key:∀ l:List (bN×List aB),(∀ p∈l,IU p)→((l.map (·.1)).map (·.count)).sum=(l.map (·.2.length)).sum:=by
  intro l
  induction l with
  | nil=>intro _;rfl
  | cons p r ih=>
   intro hh
   have h1:=ih fun x hx=>hh x (List.mem_cons_of_mem _ hx)
   have h2:=(hh p List.mem_cons_self).2.2.2
   simp only [List.map_cons,List.sum_cons] at h1 ⊢
   omega
 have all:∀ Ls:fU,(∀ p∈Ls.flatten,IU p)→((Ls.map (·.map (·.1))).map fun Ts=>(Ts.map (·.count)).sum).sum=(Ls.flatten.map (·.2.length)).sum:=by
  intro Ls
  induction Ls with
  | nil=>intro _;rfl
  | cons L R ih=>
   intro hh
   have h1:=ih fun x hx=>hh x (by rw [List.flatten_cons];exact List.mem_append_right _ hx)
   have h2:=key L fun x hx=>hh x (by rw [List.flatten_cons];exact List.mem_append_left _ hx)
   simp only [List.map_cons,List.sum_cons,List.flatten_cons,List.map_append,List.sum_append] at h1 h2 ⊢
   omega
 exact all Ls hte
theorem y7 {ps:List (Bs×Bs)} (h:j4 ps):(ps.map (·.1)).Nodup:=by
 refine List.pairwise_map.2 (h.imp fun {a b} hh e=>?_)
 have:=jq hh
 exact this e
theorem y8 {ps:List (Bs×Bs)} (h:j4 ps) {k:Bs}:k∈ps.map (·.1)↔bE ps k≠none:=by
 constructor
 ·intro hk
  obtain ⟨p,hp,rfl⟩:=List.mem_map.1 hk
  rw [xQ h hp];simp
 ·intro hk
  cases hl:bE ps k with
  | none=>exact absurd hl hk
  | some v=>exact List.mem_map.2 ⟨(k,v),pS hl,rfl⟩
theorem LZ (h:je C s D q0 Ls bs E) {ps:List (Bs×Bs)} (hs:j4 ps) (hv:∀ k,gS s Ls aE k=bE ps k):ps.length≤cnt Ls+s.mem.length:=by
 have:=jC (y7 hs) (b:=(s.mem++(dt Ls).flatten).map (·.key)) fun k hk=>by
  have h1:=(y8 hs).1 hk
  rw [← hv k] at h1
  unfold gS at h1
  rw [o7,List.flatten_cons] at h1
  cases hvv:fN (s.mem++(dt Ls).flatten) k aE with
  | none=>rw [hvv] at h1;exact absurd rfl h1
  | some e=>
   obtain ⟨a,b,_⟩:=eT hvv
   exact List.mem_map.2 ⟨e,a,b⟩
 have h3:(dt Ls).flatten.length=cnt Ls:=by
  obtain ⟨L0,L1,L2,L3,hL⟩:=dS h.core.lv.len
  rw [hL]
  unfold dt cnt
  rw [iB]
  simp
 simp only [List.length_map,List.length_append] at this
 omega
theorem L4 {Ls:fU} (hc:pe [aE] Ls) (hm:s.mem=[]) {ps:List (Bs×Bs)} (hs:j4 ps) (hv:∀ k,gS s Ls aE k=bE ps k):cnt Ls=ps.length:=by
 obtain ⟨R,ls,h1,rfl,h3,-⟩:=hc
 have e1:cnt [[],[],[],ls]=(dB [aE] true R).length:=by
  rw [← h3,iB]
  unfold cnt
  simp
 have hsee:∀ k,eg (fN (dB [aE] true R) k aE)=bE ps k:=fun k=>by
  rw [← hv k]
  unfold gS dt
  rw [hm,o7,← h3]
  simp
 have hone:∀ e∈dB [aE] true R,fN R e.key aE=some e:=fun e he=>by
  have:=(pR.1 (xP he)).2
  unfold Pure.seen at this
  simpa using this
 have hset:∀ e∈dB [aE] true R,e.del=false:=fun e he=>by
  have h2:holds (kl [aE] R) e=true:=by
   unfold dB at he
   rw [if_pos rfl] at he
   exact (List.mem_filter.1 he).2
  unfold holds at h2
  obtain ⟨x,hx,h4⟩:=List.any_eq_true.1 h2
  simp only [Bool.and_eq_true,decide_eq_true_eq,Bool.not_eq_true'] at h4
  have h5:=(pR.1 hx).2
  unfold Pure.seen at h5
  have h5:fN R x.key aE=some x:=by simpa using h5
  rw [h4.1.1,hone e he] at h5
  rw [Option.some.inj h5];exact h4.2
 have hnd:((dB [aE] true R).map (·.key)).Nodup:=by
  refine List.pairwise_map.2 ((yA (kV h1)).imp_of_mem fun {a b} ha hb hab e=>hab ?_)
  have h5:=hone a ha
  have e:a.key=b.key:=e
  rw [e,hone b hb] at h5
  exact (Option.some.inj h5).symm
 have hmem:∀ k,k∈(dB [aE] true R).map (·.key)↔k∈ps.map (·.1):=fun k=>by
  rw [y8 hs,← hsee k]
  constructor
  ·intro hk
   obtain ⟨e,he,rfl⟩:=List.mem_map.1 hk
   obtain ⟨_,_,a3⟩:=eT (hone e he)
   cases hvv:fN (dB [aE] true R) e.key aE with
   | none=>exact absurd (dG.1 hvv e he rfl) (by omega)
   | some x=>
    obtain ⟨b1,_,_⟩:=eT hvv
    simp [eg,hset x b1]
  ·intro hk
   cases hvv:fN (dB [aE] true R) k aE with
   | none=>rw [hvv] at hk;exact absurd rfl hk
   | some x=>
    obtain ⟨b1,b2,_⟩:=eT hvv
    exact List.mem_map.2 ⟨x,b1,b2⟩
 have l1:=jC hnd fun k hk=>(hmem k).1 hk
 have l2:=jC (y7 hs) fun k hk=>(hmem k).2 hk
 simp only [List.length_map] at l1 l2
 omega
end
end
section
open Go.Proofs.YtecibefflhomdaaGreatDoor.Pure
variable {X Y:WS} {E B N:Nat}
theorem Inv.four {C:Prop} {P:St→fU→Prop} {s:St} {D:ae} {r:mM} (h:Inv C P s D r E B):s.levels.length=4:=by
 obtain ⟨q0,Ls,bs,h1,_⟩:=h.run
 rw [h1.levels,bU,List.length_map];exact h1.core.lv.len
theorem Inv.QB {C:Prop} {P:St→fU→Prop} {s:St} {D:ae} {r:mM} (h:Inv C P s D r E B) (hE:E≤1048576):s.levels.flatten.length≤1048576∧∀ Ts∈s.levels,Ts.length≤1048576:=by
 obtain ⟨q0,Ls,bs,h1,_⟩:=h.run
 have h2:s.levels.flatten.length≤1048576:=by rw [h1.levels,jd,List.length_map];exact h1.core.tS hE
 refine ⟨h2,fun Ts hT=>?_⟩
 obtain ⟨A,B,e⟩:=List.append_of_mem hT
 rw [e] at h2
 simp only [List.flatten_append,List.flatten_cons,List.length_append] at h2
 omega
theorem Inv.QC {C:Prop} {P:St→fU→Prop} {s:St} {D:ae} {r:mM} (h:Inv C P s D r E B) (hE:E≤1048576):jS s.levels≤1048576:=by
 obtain ⟨q0,Ls,bs,h1,_⟩:=h.run
 have h2:jS s.levels=cnt Ls:=h1.counts
 have h3:=h1.core.cntE
 omega
theorem Nz {o:l8} (hk:o.kind=2∨o.kind=8) (h:gU X E B N) (hE:E≤1048576):∃ D',Qz o (jR X) E B N D':=by
 have hr0:(jR X).cur.reads=0:=by unfold jR WS.cur;cases X.det<;>rfl
 have hm0:(jR X).cur.most=0:=by unfold jR WS.cur;cases X.det<;>rfl
 have hY:=h.cnt
 generalize jR X=Y at hr0 hm0 hY
 have key:∀ {D':ae} {x:Except cx (Option Bs)},((Y.r.closed=false→∃ k q,xl Y.s Y.D k q=some (x,D'))∨D'=Y.D)→(Y.r.closed=true→D'=Y.D)→({ Y with D:=D' }:WS).cur.reads≤(tV Y:Int)∧({ Y with D:=D' }:WS).cur.most≤512:=by
  intro D' x hd hc
  have same:D'=Y.D→({ Y with D:=D' }:WS).cur.reads≤(tV Y:Int)∧({ Y with D:=D' }:WS).cur.most≤512:=fun e=>by
   subst e
   show Y.cur.reads≤_∧Y.cur.most≤512
   omega
  cases hcl:Y.r.closed with
  | true=>exact same (hc hcl)
  | false=>
   rcases hd with hd|hd
   ·obtain ⟨k,q,hg⟩:=hd hcl
    have hdet:=hY.open_ hcl
    obtain ⟨i1,-,-⟩:=hY.att hdet
    obtain ⟨q0,Ls,bs,h1,_⟩:=i1.run
    have ec:∀ D:ae,({ Y with D:=D }:WS).cur=D:=fun D=>by unfold WS.cur;dsimp only;rw [hdet]
    have ey:Y.cur=Y.D:=ec Y.D
    rw [ey] at hr0 hm0
    rw [ec]
    unfold xl at hg
    split at hg
    ·obtain ⟨r1,r2⟩:=IV h1 hE hr0 hm0 hg
     refine ⟨?_,r2⟩
     have h4:=i1.four
     have:tV Y=(Y.s.levels.getD 0 []).length+((Y.s.levels.drop 1).filter fun l=>decide (l≠[])).length:=by
      unfold tV
      rw [if_neg (by simp [hcl])]
      obtain ⟨a,b,c,d,e⟩:=four h4
      rw [e]
      rfl
     rw [this];exact r1
    ·cases hg
   ·exact same hd
 rcases hk with hk|hk
 ·obtain ⟨D',e1,hok⟩:=Qt hY hE o.s
  have k1:=key (D':=D') (x:=xn Y.r o.s) (.inl fun hc=>⟨o.s,aE,by rw [hc] at e1;exact e1⟩) fun hc=>by
   rw [hc] at e1
   have e1:some (_,Y.D)=some (xn Y.r o.s,D'):=e1
   exact (congrArg Prod.snd (Option.some.inj e1)).symm
  exact ⟨D',by unfold C7 rK;rw [if_pos hk,if_pos hk];exact e1,hok,fun _=>k1.1,fun _=>k1.2⟩
 ·obtain ⟨D',e1,hok⟩:=Lu hY hE o.a o.s
  have k1:=key (D':=D') (x:=l6 Y.r o.a o.s) (by
   unfold oH at e1
   cases ha:GG Y.r.closed none Y.s o.a with
   | error e=>
    rw [ha] at e1
    exact .inr (congrArg Prod.snd (Option.some.inj e1)).symm
   | ok q=>
    rw [ha] at e1
    exact .inl fun _=>⟨o.s,q,e1⟩) fun hc=>by
   unfold oH GG at e1
   rw [hc] at e1
   have e1:some (_,Y.D)=some (l6 Y.r o.a o.s,D'):=e1
   exact (congrArg Prod.snd (Option.some.inj e1)).symm
  exact ⟨D',by unfold C7 rK;rw [if_neg (by omega),if_neg (by omega)];exact e1,hok,fun _=>k1.1,fun _=>k1.2⟩
theorem L5 (h:gU X E B N) (hc:X.r.closed=false) {E' B':Nat} (hC:NZ X Y E' B') (hl:live Y.r=0):lN Y.s.levels≤1∧jS Y.s.levels=Y.r.pairs.length:=by
 obtain ⟨hr,hC⟩:=hC
 obtain ⟨o,hi⟩:=hC hc
 have h1:=(h.att (h.open_ hc)).1.live
 rw [← hr,hl] at h1
 have hm:aN X.s=[aE]:=by unfold aN;rw [List.eq_nil_of_length_eq_zero h1];rfl
 obtain ⟨q0,Ls,bs,g1,_,_,g4,_,-,g6,g7⟩:=hi.run
 rw [hm] at g7
 have e:=L4 g7 g6 hi.srt g4
 have e2:jS Y.s.levels=cnt Ls:=g1.counts
 refine ⟨?_,by rw [e2,e]⟩
 obtain ⟨R,ls,_,hL,_⟩:=g7
 rw [g1.levels,hL]
 unfold lN bU
 cases ls<;>simp
theorem y9:∀ (l acc:List Bs),(acc++l).Nodup→LX acc l=true
 | [],_,_=>rfl
 | n::r,acc,h=>by
  unfold LX
  have h2:n ∉ acc:=fun hn=>(List.nodup_append.1 h).2.2 n hn n List.mem_cons_self rfl
  rw [if_neg h2]
  exact y9 r (acc++[n]) (by rw [List.append_assoc];exact h)
theorem NA (h:gU X E B N) (hc:X.r.closed=false) (hE:E≤1048576):QA X.o X.s.levels (gh X.D) X.r.pairs.length:=by
 obtain ⟨i1,-,-⟩:=h.att (h.open_ hc)
 have ho:=h.ho
 have hlv:=i1.QB hE
 have hct:=i1.QC hE
 have h4:=i1.four
 have hsrt:=i1.srt
 obtain ⟨q0,Ls,bs,g1,_,_,g4,_,g5,g6⟩:=i1.run
 have e2:jS X.s.levels=cnt Ls:=g1.counts
 have hle:=LZ g1 hsrt g4
 have e3:∀ i,(X.s.levels.getD i []).length=(Ls.getD i []).length:=fun i=>by
  rw [g1.levels]
  unfold bU
  rw [List.getD_eq_getElem?_getD,List.getD_eq_getElem?_getD,List.getElem?_map]
  cases Ls[i]?<;>simp
 refine ⟨h4,by rw [e3];exact g6.l0,by rw [e3];exact g6.l1,by rw [e3];exact g6.l2,by omega,by omega,fun Ts hT T hT2=>?_,fun i Ts k T U hi hT h1 h2=>?_,?_,?_,?_,hlv.1,hct⟩
 ·obtain ⟨a1,a2,a3,a4,a5⟩:=g1.table hT hT2
  exact ⟨a1,a2,by omega,by rw [← fI];exact a4,a5⟩
 ·rw [← fI];exact g1.Q7 hi hT h1 h2
 ·exact y9 _ [] g1.Pq
 ·have:=g1.files;omega
 ·omega
theorem NB (h:gU X E B N) (hc:X.r.closed=false) (hE:E≤1048576):X.D.now.length≤1099511627776:=by
 obtain ⟨i1,-,-⟩:=h.att (h.open_ hc)
 have hlv:=i1.QB hE
 obtain ⟨q0,Ls,bs,g1,_⟩:=i1.run
 have:=g1.files
 rw [mH] at this
 omega
end
end Go.Proofs.YtecibefflhomdaaGreatDoor
