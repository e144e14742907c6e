/-
  Part 43: PLAIN a running store beside all batches that were written; WALKS a history; WALKS prefix; WALKS reopen on a new disk.
-/
import Derived.Test.YtecibefflhomdaaGreatDoorW42
set_option maxHeartbeats 8000000
set_option maxRecDepth 100000
set_option linter.all false
namespace Go.Proofs.YtecibefflhomdaaGreatDoor
open Go
section
open Go.Proofs.YtecibefflhomdaaGreatDoor.Pure
def aG (H:List (List bX)):List (Bs×Bs):=H.foldl pY []
theorem kj (H:List (List bX)) (l:List bX):aG (H++[l])=pY (aG H) l:=by unfold aG;rw [List.foldl_append];rfl
theorem xy:∀ (bs:List (List bX)) {ps:List (Bs×Bs)},kU ps→kU (bs.foldl pY ps)
 | [],_,h=>h
 | b::r,_,h=>xy r (xX b h)
theorem mi (H:List (List bX)):kU (aG H):=xy H List.Pairwise.nil
theorem Em {S:List (List ay)}:∀ (bs:List (List bX)) (q:Nat) (m:List ay) (ps:List (Bs×Bs)),fJ m→(∀ x∈m,x.seq≤q)→q+total bs≤aH→(∀ k,dB ((fS m k aH).or (eW S k aH))=aR ps k) →
 ∀ k,dB ((fS (gh q bs m) k aH).or (eW S k aH))=aR (bs.foldl pY ps) k
 | [],_,_,_,_,_,_,h=>h
 | b::r,q,m,ps,hm,hq,ht,h=>by
  have hq':total (b::r)=b.length+total r:=by simp [total]
  refine Em r (q+b.length) _ (pY ps b) (tM b hm hq) (fun x hx=>?_) (by omega) fun k=>mB b k aH ps _ hm hq (by omega) (h k)
  rcases (pZ _).1 hx with hx|hx
  ·have:=o6 b q x hx;omega
  ·have:=hq x hx;omega
structure fa (C:Prop) (o:jX) (s:St) (D:ad) (H:List (List bX)) (E B:Nat):Prop where
 run:∃ q0 Ls bs G,jw C s D q0 Ls bs E∧file D s.log=some (bA q0 bs)∧bs.length≤B∧NQ o s Ls∧H=G++bs∧∀ k,dB (eW (dj Ls) k aH)=aR (aG G) k
 snaps:s.snaps=[]
 seq:s.seq≤E
section
variable {C:Prop} {o:jX} {s:St} {D D':ad} {H G:List (List bX)} {E B q0:Nat} {Ls:fW} {bs:List (List bX)}
theorem En (hq:q0+total bs≤4611686018427387904) (h:∀ k,dB (eW (dj Ls) k aH)=aR (aG G) k) (k:Bs):dB (eW (gh q0 bs []::dj Ls) k aH)=aR (aG (G++bs)) k:=by
 have hl:aH=18446744073709551615:=rfl
 rw [bx]
 unfold aG
 rw [List.foldl_append]
 exact Em bs q0 [] (aG G) List.Pairwise.nil (fun x hx=>by cases hx) (by omega) (fun k=>by rw [show fS [] k aH=none from rfl];exact h k) k
theorem qR (h1:jw C s D q0 Ls bs E) (h:∀ k,dB (eW (dj Ls) k aH)=aR (aG G) k) (k:Bs):gP s Ls aH k=aR (aG (G++bs)) k:=by
 unfold gP
 rw [h1.mem]
 exact En h1.core.seq h k
theorem fa.same (h:fa C o s D H E B) (k:cH D D'):fa C o s D' H E B:=by
 obtain ⟨q0,Ls,bs,G,h1,h2,h3⟩:=h.run
 exact ⟨⟨q0,Ls,bs,G,h1.same k,by rw [k.file];exact h2,h3⟩,h.snaps,h.seq⟩
theorem fa.Je (h:fa C o s D H E B):s.mem.length≤E:=by
 obtain ⟨q0,Ls,bs,G,h1,_⟩:=h.run
 have:=h1.core.cntE;rw [h1.qI.2];omega
theorem fa.KF (h:fa C o s D H E B) (hE:E≤1048576):(cB s).length≤1048576:=by
 obtain ⟨q0,Ls,bs,G,h1,_⟩:=h.run
 obtain ⟨ps,p1,_,_,p4,_⟩:=uZ h1.levels h1.core.lv.len
 rw [p1,List.length_map,p4];exact h1.core.Aw hE
theorem fa.more {E' B':Nat} (h:fa C o s D H E B) (hE:E≤E') (hB:B≤B'):fa C o s D H E' B':=by
 obtain ⟨q0,Ls,bs,G,h1,h2,h3,h4⟩:=h.run
 exact ⟨⟨q0,Ls,bs,G,h1.more hE,h2,Nat.le_trans h3 hB,h4⟩,h.snaps,Nat.le_trans h.seq hE⟩
theorem fa.get (h:fa C o s D H E B) (key:Bs):∃ x D',vK s D key aH=some (x,D')∧cH D D'∧fa C o s D' H E B∧((∃ e,x=.error e∧qC C D e)∨x=jc (aG H) key):=by
 obtain ⟨q0,Ls,bs,G,h1,h2,h3,h4,rfl,h5⟩:=h.run
 obtain ⟨x,D',k1,k2,k3⟩:=Ix h1 key aH
 refine ⟨x,D',k1,k2,h.same k2,?_⟩
 unfold jc
 rcases k3 with ⟨k3,k4⟩|⟨k3,⟨e,k4,k5⟩|k4⟩
 ·exact .inr (by rw [if_pos k3];exact k4)
 ·exact .inl ⟨e,k4,k5⟩
 ·refine .inr ?_
  rw [if_neg k3,k4]
  congr 1
  exact qR h1 h5 key
theorem fa.scan (h:fa C o s D H E B) (hE:E≤1048576) (lo hi:Bs) (limit:Int):∃ x D',zW s D lo hi limit aH=some (x,D')∧cH D D'∧fa C o s D' H E B∧((∃ e,x=.error e∧qC C D e)∨x=.ok (dJ (aG H) lo hi limit)):=by
 obtain ⟨q0,Ls,bs,G,h1,h2,h3,h4,rfl,h5⟩:=h.run
 obtain ⟨x,D',k1,k2,k3⟩:=FH h1 hE lo hi limit aH (mi _) (qR h1 h5)
 exact ⟨x,D',k1,k2,h.same k2,k3⟩
theorem fa.write {l:List bX} {sync:Bool} (ho:1≤o.tables) (hom:1≤o.memory) (h:fa C o s D H E B) (hl:FC l) (hE:E+l.length≤1048576) (hB:B<16777216) (hn:s.number+4*(E+l.length)+1≤4611686018427387904) :
 ∃ x D',kJ o s D l sync=some (x,D')∧cQ D D'∧((∃ e,x=.error e∧sy C D e)∨∃ s',x=.ok s'∧fa C o s' D' (H++[l]) (E+l.length) (B+1)∧s'.number≤s.number+(4*(E+l.length)+1)):=by
 have hsq:=h.seq
 have hsn:=h.snaps
 obtain ⟨q0,Ls,bs,G,h1,h2,h3,h4,rfl,h5⟩:=h.run
 obtain ⟨x,D',k1,k2,k3⟩:=FQ (sync:=sync) ho hom h1 h2 hl hE (by omega) (by omega) hn h4.1 (qR h1 h5) fun m hm=>by rw [hsn] at hm;cases hm
 refine ⟨x,D',k1,k2,?_⟩
 rcases k3 with ⟨e,rfl,b,_⟩|⟨s',q2,Ls',bs',rfl,a1,a2,a3,a4,a5,a6,a7,a8,a9,a10⟩
 ·exact .inl ⟨e,rfl,b⟩
 ·refine .inr ⟨s',rfl,⟨?_,by rw [a4];exact hsn,by omega⟩,a6⟩
  rcases a10 with ⟨c1,⟨rfl,rfl⟩|⟨c2,rfl⟩⟩
  ·exact ⟨q2,_,_,G,a1,a2,by rw [List.length_append,List.length_singleton];omega,⟨c1,h4.2⟩,by rw [List.append_assoc],h5⟩
  ·refine ⟨q2,Ls',[],G++bs++[l],a1,a2,by simp,⟨c1,c2⟩,by rw [List.append_nil],fun k=>?_⟩
   have:=a7 k
   unfold gP at this
   rw [a1.mem,bx] at this
   rw [kj]
   exact this
theorem sJ:∀ (bs:List (List bX)) (G:List (List bX)),total bs=0→aG (G++bs)=aG G
 | [],G,_=>by rw [List.append_nil]
 | b::r,G,h=>by
  have hq':total (b::r)=b.length+total r:=by simp [total]
  have hb:b=[]:=List.eq_nil_of_length_eq_zero (by omega)
  subst hb
  have:=sJ r (G++[[]]) (by omega)
  rw [List.append_assoc] at this
  rw [show G++[]::r=G++([[]]++r) from rfl,this,kj];rfl
theorem fa.KG (ho:1≤o.tables) (ho2:2≤o.tables) (hom:1≤o.memory) (h:fa C o s D H E B) (hE:E≤1048576) (hB:B≤16777216) (hn:s.number+5*E+1≤4611686018427387904) :
 ∃ x D',lZ o s D=some (x,D')∧cQ D D'∧((∃ e,x=.error e∧sy C D e)∨∃ s',x=.ok s'∧fa C o s' D' H E B∧s'.number≤s.number+(5*E+1)):=by
 have hsq:=h.seq
 have hsn:=h.snaps
 obtain ⟨q0,Ls,bs,G,h1,h2,h3,h4,rfl,h5⟩:=h.run
 obtain ⟨x,D',k1,k2,k3⟩:=AJ ho h1 h2 hE (by omega) hn
 refine ⟨x,D',k1,k2,?_⟩
 rcases k3 with ⟨e,rfl,b,_⟩|⟨s',q2,Ls',bs',rfl,a1,a2,a3,a4,a5,a6,a7,a8,a9,a10,a11,a12,a13⟩
 ·exact .inl ⟨e,rfl,b⟩
 ·have hok:NQ o s' Ls':=by
   refine ⟨by rw [a10];simp;omega,?_⟩
   obtain ⟨R,ls,_,rfl,_⟩:=a11
   exact ⟨by simp;omega,by simp,by simp⟩
  have hv:∀ k,dB (eW (dj Ls') k aH)=aR (aG (G++bs)) k:=fun k=>by
   have h6:=a7 k
   rw [qR h1 h5 k] at h6
   unfold gP at h6
   rw [a10,bx] at h6
   exact h6
  refine .inr ⟨s',rfl,⟨?_,by rw [a4];exact hsn,by omega⟩,a6⟩
  rcases a13 with rfl|rfl
  ·exact ⟨q2,Ls',[],G++bs,a1,a2,by simp,hok,by rw [List.append_nil],hv⟩
  ·exact ⟨q2,Ls',_,G,a1,a2,h3,hok,rfl,fun k=>by rw [hv k,sJ _ _ a12]⟩
theorem fa.sync (h:fa C o s D H E B):cQ D (dU D s.log)∧fa C o s (dU D s.log) H E B∧(bg D s.log=none∨∃ e,bg D s.log=some e∧pj D e):=by
 obtain ⟨q0,Ls,bs,G,h1,h2,h3⟩:=h.run
 obtain ⟨y1,y2,y3,y4⟩:=qB h1.core.ok s.log
 refine ⟨y3,⟨⟨q0,Ls,bs,G,⟨h1.core.files y3.ok fun m _=>y1 m,h1.mem,h1.seq,by rw [y1];exact h1.logf,fun m hm=>h1.known m (by rw [← y1];exact hm),by rw [y4];exact h1.moves,h1.snaps⟩,by rw [y1];exact h2,h3⟩,h.snaps,h.seq⟩,eT h2⟩
theorem Jf {c:St} (ho:1≤o.tables) (hom:1≤o.memory) (h:RecM C D c Ls bs E) (hv:∀ k,jf c Ls bs k=aR (aG H) k) (hj:∀ b,file D c.log=some b→b.length≤1073741824) (hE:E≤1048576) (hB:bs.length≤16777216)
 (hm:D.moves.length+D.now.length≤2097152∨(D.moves.length≤2097152∧D.now.length≤2097152∧∀ m,file D m≠none→pr c Ls m)) (hnum:c.number+4*E+1≤4611686018427387904) (hq:c.seq+total bs≤E) :
 ∃ x D',iy o D=some (x,D')∧cQ D D'∧((∃ e,x=.error e∧sy C D e)∨∃ s',x=.ok s'∧fa C o s' D' H E 0∧s'.number≤c.number+4*E+1):=by
 obtain ⟨x,D',k1,k2,k3⟩:=IB ho h hj hE hB hm hnum
 refine ⟨x,D',k1,k2,?_⟩
 rcases k3 with ⟨e,rfl,b,_⟩|⟨s',Ls',rfl,a2,a3,a4,a5,a6,a7,a8,a9,a10⟩
 ·exact .inl ⟨e,rfl,b⟩
 ·exact .inr ⟨s',rfl,⟨⟨_,Ls',[],H,a2,by rw [a9];rfl,by simp,⟨by rw [a4];simp;omega,a10⟩,by rw [List.append_nil],fun k=>(a3 k).trans (hv k)⟩,a5,by omega⟩,a8⟩
theorem fa.Ms (h:fa C o s D H E B) (hE:E≤1048576) (hB:B≤16777216):∃ q0 Ls bs G,jw C s D q0 Ls bs E∧file D s.log=some (bA q0 bs)∧H=G++bs∧bs.length≤16777216∧q0+total bs≤E∧(∀ j,j≤bs.length→∀ k,jf { s with seq:=q0 } Ls (bs.take j) k=aR (aG (G++bs.take j)) k) ∧
 (∀ b,file D s.log=some b→b.length≤1073741824)∧D.moves.length≤2097152∧D.now.length≤1048578:=by
 have hsq:=h.seq
 obtain ⟨q0,Ls,bs,G,h1,h2,h3,h4,h6,h5⟩:=h.run
 have hs:=h1.seq
 refine ⟨q0,Ls,bs,G,h1,h2,h6,by omega,by omega,fun j hj k=>?_,fun b hb=>?_,h1.moves,?_⟩
 ·have h7:=pE bs j
  have h8:q0+total bs≤4611686018427387904:=h1.core.seq
  exact En (q0:=q0) (show q0+total (bs.take j)≤4611686018427387904 by omega) h5 k
 ·rw [h2] at hb
  obtain rfl:=Option.some.inj hb
  have a:=ll bs q0 h1.core.bsok h1.core.seq
  have b:=h1.core.cntE
  omega
 ·have h7:=h1.files
  have h8:=h1.core.Aw hE
  rw [iC,h1.levels,ki,List.length_map] at h7
  omega
theorem fa.again (ho:1≤o.tables) (hom:1≤o.memory) (h:fa C o s D H E B) (hE:E≤1048576) (hB:B≤16777216) (hn:s.number+4*E+1≤4611686018427387904) :
 ∃ x D',iy o D=some (x,D')∧cQ D D'∧((∃ e,x=.error e∧sy C D e)∨∃ s',x=.ok s'∧fa C o s' D' H E 0∧s'.number≤s.number+4*E+1):=by
 obtain ⟨q0,Ls,bs,G,h1,h2,rfl,h3,h4,h5,h6,h7,h8⟩:=h.Ms hE hB
 have h9:=h5 bs.length (Nat.le_refl _)
 rw [List.take_length] at h9
 exact Jf (c:={ s with seq:=q0 }) ho hom h1.core h9 h6 hE h3 (.inr ⟨h7,by omega,fun m hm=>h1.known m hm⟩) hn h4
theorem Calm.seven (h:Calm D) {e:cy} (k:sy True D e):e.2=7:=by
 rcases k with (k|⟨_,k⟩)|⟨_,k⟩
 ·have:=k.2;have:=h.bad;omega
 ·exact k
 ·have:=h.room;omega
structure Jg (D D':ad):Prop where
 ok:D'.Ok
 calm:Calm D'
 moves:D'.moves=[]
 file:(∀ m,file D' m=file D m)∨∃ name f f',file D name=some f∧file D' name=some f'∧lF f f'∧∀ m,m≠name→file D' m=file D m
theorem fa.flipped (ho:1≤o.tables) (hom:1≤o.memory) (h:fa False o s D H E B) (k:Jg D D') (hE:E≤1048576) (hB:B≤16777216) (hn:s.number+4*E+1≤4611686018427387904) :
 ∃ x D2,iy o D'=some (x,D2)∧((∃ e,x=.error e∧e.2=7)∨∃ s' n,x=.ok s'∧n≤H.length∧fa True o s' D2 (H.take n) E 0∧Calm D2):=by
 obtain ⟨q0,Ls,bs,G,h1,h2,rfl,h3,h4,h5,h6,h7,h8⟩:=h.Ms hE hB
 have hnow:D'.now.length≤1048578:=by
  have h10:=ID k.ok (ns:=eQ D) fun m hm=>by
   rcases k.file with kf|⟨name,f,f',k1,k2,k3,k4⟩
   ·rw [kf] at hm;exact gk.2 hm
   ·by_cases hmn:m=name
    ·rw [hmn];exact gk.2 (by rw [k1];simp)
    ·rw [k4 m hmn] at hm;exact gk.2 hm
  rw [iC] at h10;omega
 have hmv:D'.moves.length+D'.now.length≤2097152:=by rw [k.moves];simp only [List.length_nil];omega
 have fin:∀ j,j≤bs.length→RecM True D' { s with seq:=q0 } Ls (bs.take j) E→(∀ b,Go.Proofs.YtecibefflhomdaaGreatDoor.file D' s.log=some b→b.length≤1073741824) →
  ∃ x D2,iy o D'=some (x,D2)∧((∃ e,x=.error e∧e.2=7)∨∃ s' n,x=.ok s'∧n≤(G++bs).length∧fa True o s' D2 ((G++bs).take n) E 0∧Calm D2):=fun j hj hR hb=>by
  have ht:=pE bs j
  have htk:(G++bs).take (G.length+j)=G++bs.take j:=by rw [List.take_append,List.take_of_length_le (by omega)];congr 2;omega
  obtain ⟨x,D2,m1,m2,m3⟩:=Jf (H:=G++bs.take j) ho hom hR (h5 j hj) hb hE (by rw [List.length_take];omega) (.inl hmv) hn (by show q0+total (bs.take j)≤E;omega)
  refine ⟨x,D2,m1,?_⟩
  rcases m3 with ⟨e,rfl,m3⟩|⟨s',rfl,m3,_⟩
  ·exact .inl ⟨e,rfl,k.calm.seven m3⟩
  ·exact .inr ⟨s',G.length+j,rfl,by rw [List.length_append];omega,by rw [htk];exact m3,k.calm.later m2⟩
 rcases k.file with kf|⟨name,f,f',k1,k2,k3,k4⟩
 ·refine fin bs.length (Nat.le_refl _) ?_ fun b hb=>h6 b (by rw [← kf];exact hb)
  rw [List.take_length]
  have hR:=h1.core.files k.ok fun m _=>kf m
  exact ⟨hR.ok,hR.levels,hR.state,hR.num,hR.seq,hR.cntE,hR.lv,hR.on.mono False.elim,hR.seqs,hR.ord,hR.log,hR.logf,hR.bsok⟩
 ·rcases Jd h1 h2 hE h3 k.ok k1 k2 k3 k4 with rfl|⟨j,j1,j2,j3⟩
  ·have hst:file D aN=some (az (bL { s with seq:=q0 })):=h1.core.state
   rw [hst] at k1
   obtain rfl:=Option.some.inj k1
   have hl:=h1.core.uU hE
   rw [bH] at hl
   obtain ⟨e,D2,g1,g2,g3⟩:=Gb (o:=o) k.ok (c:={ s with seq:=q0 }) (by omega) k2 k3
   refine ⟨_,D2,g1,.inl ⟨e,rfl,?_⟩⟩
   rcases g3 with g3|g3
   ·have:=g3.2;have:=k.calm.bad;omega
   ·exact g3
  ·exact fin j j1 j2 j3
theorem KH (h:Inv False (NQ o) s D ⟨[],[],false⟩ 0 0):fa False o s D [[]] 0 0:=by
 have hsn:=h.live
 have hsq:=h.seq
 obtain ⟨q0,Ls,bs,h1,h2,h3,h5,h6,h7⟩:=h.run
 have hb:bs=[]:=List.eq_nil_of_length_eq_zero (by omega)
 subst hb
 refine ⟨⟨q0,Ls,[],[[]],h1,h2,by simp,h7,by rw [List.append_nil],fun k=>?_⟩,List.eq_nil_of_length_eq_zero hsn,hsq⟩
 have:=h5 k
 unfold gP at this
 rw [h1.mem,bx] at this
 exact this
end
end
section
open Go.Proofs.YtecibefflhomdaaGreatDoor.Pure (ad bX aQ pY)
attribute [local irreducible] IntKind.wrap
variable {W0 w:World} {F:List ah} {v:Value} {hp sf:Nat} {mb:Bool} {H:List (List bX)}
abbrev mj (us:List Value) (H:List (List bX)):ah:=star (List.zipWith jz us H)
abbrev Od (hp:Nat) (vb vp:Value) (us:List Value) (H:List (List bX)) (sf:Nat) (mb:Bool):List ah:=[blk hp 49 [vb,.int .i64 (sf:Int),.bool mb,vp],aI 1 vb 52 H.length us,mj us H,aX vp (aG H)]
def ep (hp:Nat) (H:List (List bX)) (sf:Nat) (mb:Bool):ah:=fun h=>∃ (vb vp:Value) (us:List Value),(us.length=H.length∧∀ u∈us,ej u=true)∧cR (Od hp vb vp us H sf mb) h
theorem Sat.lG (h:Sat W0 (ep hp H sf mb::F) w):∃ (vb vp:Value) (us:List Value),(us.length=H.length∧∀ u∈us,ej u=true)∧Sat W0 (blk hp 49 [vb,.int .i64 (sf:Int),.bool mb,vp]::aI 1 vb 52 H.length us::mj us H::aX vp (aG H)::F) w:=by
 obtain ⟨⟨vb,vp,us⟩,hu,hs⟩:=h.fg (φ:=fun z:Value×Value×List Value=>z.2.2.length=H.length∧∀ u∈z.2.2,ej u=true) (B:=fun z=>Od hp z.1 z.2.1 z.2.2 H sf mb) fun hp ⟨vb,vp,us,h1,h2⟩=>⟨⟨vb,vp,us⟩,h1,h2⟩
 exact ⟨vb,vp,us,hu,hs⟩
theorem Sat.iq {vb vp:Value} {us:List Value} (hu:us.length=H.length∧∀ u∈us,ej u=true) (h:Sat W0 (blk hp 49 [vb,.int .i64 (sf:Int),.bool mb,vp]::aI 1 vb 52 H.length us::mj us H::aX vp (aG H)::F) w):Sat W0 (ep hp H sf mb::F) w:=
 Sat.close (B:=Od hp vb vp us H sf mb) h fun hp k=>⟨vb,vp,us,hu,k⟩
theorem Sat.yL {x:Except cy (List (Bs×Bs))} (h:Sat W0 (wP v x::F) w):Sat W0 (aX v (MZ x)::F) w:=by
 cases x with
 | ok l=>exact Sat.Kr h
 | error e=>
  have hp:=h.fT (φ:=v=.slice none 0 0) fun _ k=>k
  subst hp
  exact Sat.lU h.drop (.inl rfl) (fun _=>rfl)
theorem Gc {A:ah} {l:List ah} {F:List ah} {w:World} (h:Sat W0 (star l::A::F) w):Sat W0 (star (l++[A])::F) w:=by
 have h2:Sat W0 (A::star (l++[])::F) w:=by rw [List.append_nil];exact h.take (.there .here)
 exact Sat.gu h2
theorem vq {b d:Nat} {o:jX} {s:St} {D D':ad} {x:Except cy (List (Bs×Bs))} (hE:kP W0) (h:ru false none s D [] [] 0=some (x,D')) (hs:Sat W0 (fx b d o false none s::ag d D::F) w) :
 Calls Tryz.prog 32 #[au b] w fun y w'=>∃ pv,y=.returned (.tuple #[pv,.int .i64 (ir (dC x):Int)])∧Sat W0 (wP pv x::fx b d o false none s::ag d D'::F) w':=by
 refine enter Tryz.func32 rfl Tryz.ntmps32 Tryz.results32 rfl ?_
 refine gy ?_
 refine ae (met (nQ h hs) ?_)
 clear hs
 rintro _ w ⟨pv,ve,rfl,hs⟩
 refine ⟨_,rfl,?_⟩
 refine gy ?_
 refine ae (met (cF hE (hs.take (.there (.there (.there .here))))) ?_)
 clear hs
 rintro _ w ⟨rfl,hs⟩
 refine ⟨_,rfl,?_⟩
 refine gy ?_
 exact ak rfl ⟨pv,rfl,hs.to⟩
theorem pF {l:List bX} {safe:Bool} (hl:xn W0 3 v (dF l)) (hlen:l.length≤1048576) (hH:H.length≤1099511627776) (hp2:(aG H).length≤1048576) (hs:Sat W0 (ep hp H sf mb::F) w) :
 Calls Tryz.prog 56 #[au hp,v,.bool safe] w fun y w'=>y=.returned (.tuple #[])∧Sat W0 (ep hp (H++[l]) (if safe=true then H.length+1 else sf) mb::F) w':=by
 refine enter Tryz.func56 rfl Tryz.ntmps56 Tryz.results56 rfl ?_
 refine gy ?_
 refine ae (met (sD hl (by omega) hs) ?_)
 clear hs
 rintro _ w ⟨u,rfl,hs⟩
 refine ⟨_,rfl,?_⟩
 have hs:=hs.Ec
 obtain ⟨ua,uc,rfl,-⟩:=hs.qN
 obtain ⟨vb,vp,us,hu,hs⟩:=(hs.take (.there .here)).lG
 obtain ⟨ba,bc,rfl,-⟩:=(hs.take (.there .here)).aB
 have hs:=hs.to (a:=aI 1 (.slice ba H.length bc) 52 H.length us::blk hp 49 [.slice ba H.length bc,.int .i64 (sf:Int),.bool mb,vp]::mj us H::aX vp (aG H)::jz (.slice ua l.length uc) l::F)
 refine gy ?_
 refine fy hs ?_
 clear hs
 intro w b8 hs
 refine eA hs ?_
 clear hs
 intro v2 w hs
 have hs:=hs.to (a:=blk hp 49 [.slice ba H.length bc,.int .i64 (sf:Int),.bool mb,vp]::jz (.slice ua l.length uc) l::aX vp (aG H)::aI 1 v2 52 (H.length+1) (us++[.slice ua l.length uc])::mj us H::F)
 obtain ⟨ca,cc,rfl,-⟩:=(hs.take (.there (.there (.there .here)))).aB
 refine gy ?_
 refine bI hs ?_
 clear hs
 intro w hs
 refine gy ?_
 refine ae (met (s9 (l:=l) (hs.fG (.there (.there .here)) (.there .here)) (by omega)) ?_)
 clear hs
 rintro _ w ⟨vp2,rfl,hs⟩
 refine ⟨_,rfl,?_⟩
 rw [rP l (mi H),← kj] at hs
 obtain ⟨da,dc,rfl,-⟩:=hs.fZ
 have hs:=hs.to (a:=blk hp 49 [.slice ca (H.length+1) cc,.int .i64 (sf:Int),.bool mb,vp]::aI 1 (.slice ca (H.length+1) cc) 52 (H.length+1) (us++[.slice ua l.length uc])::mj us H::jz (.slice ua l.length uc) l::aX (.slice da (aG (H++[l])).length dc) (aG (H++[l]))::F)
 refine gy ?_
 refine bI hs ?_
 clear hs
 intro w hs
 have hfin:∀ {sf:Nat} {w:World},Sat W0 (blk hp 49 [.slice ca (H.length+1) cc,.int .i64 (sf:Int),.bool mb,.slice da (aG (H++[l])).length dc]::aI 1 (.slice ca (H.length+1) cc) 52 (H.length+1) (us++[.slice ua l.length uc])::mj us H::jz (.slice ua l.length uc) l::aX (.slice da (aG (H++[l])).length dc) (aG (H++[l]))::F) w→Sat W0 (ep hp (H++[l]) sf mb::F) w:=fun {sf w} h=>by
  have h1:(us++[Value.slice ua l.length uc]).length=(H++[l]).length∧∀ u∈us++[Value.slice ua l.length uc],ej u=true:=⟨by simp [hu.1],fun u h2=>by
   rcases List.mem_append.1 h2 with h2|h2
   ·exact hu.2 u h2
   ·rw [List.mem_singleton.1 h2];rfl⟩
  have e:List.zipWith jz (us++[.slice ua l.length uc]) (H++[l])=List.zipWith jz us H++[jz (.slice ua l.length uc) l]:=List.zipWith_append hu.1
  refine Sat.iq (vb:=.slice ca (H.length+1) cc) (vp:=.slice da (aG (H++[l])).length dc) h1 ?_
  rw [List.length_append,List.length_singleton]
  have h3:=Gc (h.to (a:=mj us H::jz (.slice ua l.length uc) l::blk hp 49 [.slice ca (H.length+1) cc,.int .i64 (sf:Int),.bool mb,.slice da (aG (H++[l])).length dc]::aI 1 (.slice ca (H.length+1) cc) 52 (H.length+1) (us++[.slice ua l.length uc])::aX (.slice da (aG (H++[l])).length dc) (aG (H++[l]))::F))
  unfold mj
  rw [e]
  exact h3.to
 cases safe with
 | false=>
  refine gy ?_
  exact gE rfl ⟨rfl,hfin (sf:=sf) hs⟩
 | true=>
  refine gy ?_
  refine bI hs ?_
  clear hs
  intro w hs
  refine gy ?_
  exact gE rfl ⟨rfl,hfin (sf:=H.length+1) hs⟩
end
section
open Go.Proofs.YtecibefflhomdaaGreatDoor.Pure (ad bX aQ pY)
attribute [local irreducible] IntKind.wrap
variable {W0 w:World} {F:List ah} {v:Value} {hp sf:Nat} {mb:Bool} {H:List (List bX)}
theorem Jh:∀ (H:List (List bX)) (ps:List (Bs×Bs)),Pure.kU ps→(H.foldl pY ps).length≤ps.length+total H
 | [],_,_=>by simp [total]
 | b::r,ps,h=>by
  have h1:=Jh r (pY ps b) (Pure.xX b h)
  have h2:(pY ps b).length≤ps.length+b.length:=by rw [← rP b h];exact D9 b ps
  have hq:total (b::r)=b.length+total r:=by simp [total]
  rw [List.foldl_cons];omega
theorem gm (H:List (List bX)):(aG H).length≤total H:=by have:=Jh H [] List.Pairwise.nil;unfold aG;simpa using this
theorem vt {i:Nat} {b:List bX} (h:H[i]?=some b):total (H.take (i+1))=total (H.take i)+b.length:=by
 rw [List.take_add_one,h];show total (_++[b])=_;rw [jy];simp [total]
theorem ml (H:List (List bX)) (i:Nat):total (H.take i)≤total H:=by
 have:=jy (H.take i) (H.drop i)
 rw [List.take_append_drop] at this;omega
theorem te (us:List Value) (H:List (List bX)):∀ A∈List.zipWith jz us H,Gs A:=fun A hA=>by
 obtain ⟨x,hx,rfl⟩:=List.mem_iff_getElem.1 hA
 rw [List.getElem_zipWith];exact Dx _ _ _
theorem A6 {pv:Value} {l:List (Bs×Bs)} (hl:l=aG H) (hsf:sf≤H.length) (hH:H.length≤1048576) (ht:total H≤1099511627776) (hs:Sat W0 (ep hp H sf mb::aX pv l::F) w) :
 Calls Tryz.prog 55 #[au hp,pv] w fun y w'=>y=.returned (.bool true)∧Sat W0 (ep hp H sf mb::aX pv l::F) w':=by
 obtain ⟨la,lc,rfl,-⟩:=(hs.take (.there .here)).fZ
 obtain ⟨vb,vp,us,hu,hs⟩:=hs.lG
 obtain ⟨ba,bc,rfl,-⟩:=(hs.take (.there .here)).aB
 have hfin:∀ {w:World} {G:List ah},Sat W0 (blk hp 49 [.slice ba H.length bc,.int .i64 (sf:Int),.bool mb,vp]::aI 1 (.slice ba H.length bc) 52 H.length us::mj us H::aX vp (aG H)::G) w→Sat W0 (ep hp H sf mb::G) w:=fun h=>Sat.iq hu h
 have hll:=gm H
 have hle:l.length=(aG H).length:=by rw [hl]
 refine enter Tryz.func55 rfl Tryz.ntmps55 Tryz.results55 rfl ?_
 refine gy ?_
 refine aK (α:=Nat×Value) (fun q=>[(0,au hp),(1,.slice la l.length lc),(5,q.2),(6,.int .i64 (q.1:Int))])
  (fun q w=>q.1≤H.length∧Sat W0 (aX q.2 (aG (H.take q.1))::blk hp 49 [.slice ba H.length bc,.int .i64 (sf:Int),.bool mb,vp]::aI 1 (.slice ba H.length bc) 52 H.length us::mj us H::aX vp (aG H)::aX (.slice la l.length lc) l::F) w)
  (fun q=>H.length-q.1) (0,.slice none 0 0) ⟨rfl,rfl,rfl,rfl,trivial⟩ ⟨Nat.zero_le _,Sat.lU hs (.inl rfl) (fun _=>rfl)⟩ ?_
 clear hs
 rintro ⟨i,pp⟩ w ⟨hi,hs⟩
 dsimp only at hi hs ⊢
 have hi':(i:Int)≤(H.length:Int):=by omega
 obtain ⟨pa,pc,rfl,-⟩:=hs.fZ
 have hpl:(aG (H.take i)).length≤1099511627776:=by have:=gm (H.take i);have:=ml H i;omega
 have hs:=hs.to (a:=blk hp 49 [.slice ba H.length bc,.int .i64 (sf:Int),.bool mb,vp]::aI 1 (.slice ba H.length bc) 52 H.length us::aX (.slice pa (aG (H.take i)).length pc) (aG (H.take i))::mj us H::aX vp (aG H)::aX (.slice la l.length lc) l::F)
 by_cases hge:(i:Int) ≥ (sf:Int)
 ·refine gy ?_
  refine ae (met (oD (by omega) (hs.fG (.there (.there (.there (.there (.there .here))))) (.there (.there .here)))) ?_)
  clear hs
  rintro _ w ⟨rfl,hs⟩
  refine ⟨_,rfl,?_⟩
  have hs:=hs.to (a:=blk hp 49 [.slice ba H.length bc,.int .i64 (sf:Int),.bool mb,vp]::aI 1 (.slice ba H.length bc) 52 H.length us::aX (.slice pa (aG (H.take i)).length pc) (aG (H.take i))::mj us H::aX vp (aG H)::aX (.slice la l.length lc) l::F)
  by_cases heq:l=aG (H.take i)
  ·rw [decide_eq_true heq]
   refine gy ?_
   exact ak rfl ⟨rfl,hfin hs.to⟩
  ·have hlt:i<H.length:=by
    rcases Nat.lt_or_ge i H.length with h|h
    ·exact h
    ·exfalso
     rw [List.take_of_length_le h] at heq
     exact heq hl
   have hlt':(i:Int)<(H.length:Int):=by omega
   rw [decide_eq_false heq]
   refine gy ?_
   obtain ⟨b,hb⟩:∃ b,H[i]?=some b:=⟨_,List.getElem?_eq_getElem hlt⟩
   obtain ⟨u,hub⟩:∃ u,us[i]?=some u:=⟨_,List.getElem?_eq_getElem (by rw [hu.1];exact hlt)⟩
   have htk:=vt hb
   have htk2:=ml H (i+1)
   have e1:aG (H.take (i+1))=pY (aG (H.take i)) b:=by rw [List.take_add_one,hb];exact kj _ _
   have hdl:=gm (H.take i)
   obtain ⟨bq,cap,rs,hv,q1,q2,q3,h3⟩:=(hs.take (.there .here)).dr (by omega)
   have hs0:=fun (_:True)=>hs
   clear hs
   obtain ⟨rfl,_,rfl⟩:=Value.slice.inj hv
   have hcell:(us++rs)[0+i*1]?=some u:=by
    rw [Nat.zero_add,Nat.mul_one,List.getElem?_append_left (List.getElem?_eq_some_iff.1 hub).1];exact hub
   refine gy ?_
   have hs:=(hs0 trivial).take (.there (.there (.there .here)))
   clear hs0
   have hs:=hs.yG (te us H) (db _ hub hb)
   refine ae (met (s9 (l:=b) (hs.fG (.there (.there (.there (.there .here)))) .here) (by omega)) ?_)
   clear hs
   rintro _ w ⟨p2,rfl,hs⟩
   refine ⟨_,rfl,?_⟩
   rw [rP b (mi _),← e1] at hs
   refine gy ?_
   exact aA (i+1,p2) ⟨rfl,rfl,rfl,rfl,trivial⟩ ⟨hlt,hs.to⟩ (by dsimp only;omega)
 ·have hlt:i<H.length:=by omega
  have hlt':(i:Int)<(H.length:Int):=by omega
  refine gy ?_
  obtain ⟨b,hb⟩:∃ b,H[i]?=some b:=⟨_,List.getElem?_eq_getElem hlt⟩
  obtain ⟨u,hub⟩:∃ u,us[i]?=some u:=⟨_,List.getElem?_eq_getElem (by rw [hu.1];exact hlt)⟩
  have htk:=vt hb
  have htk2:=ml H (i+1)
  have e1:aG (H.take (i+1))=pY (aG (H.take i)) b:=by rw [List.take_add_one,hb];exact kj _ _
  have hdl:=gm (H.take i)
  obtain ⟨bq,cap,rs,hv,q1,q2,q3,h3⟩:=(hs.take (.there .here)).dr (by omega)
  have hs0:=fun (_:True)=>hs
  clear hs
  obtain ⟨rfl,_,rfl⟩:=Value.slice.inj hv
  have hcell:(us++rs)[0+i*1]?=some u:=by
   rw [Nat.zero_add,Nat.mul_one,List.getElem?_append_left (List.getElem?_eq_some_iff.1 hub).1];exact hub
  refine gy ?_
  have hs:=(hs0 trivial).take (.there (.there (.there .here)))
  clear hs0
  have hs:=hs.yG (te us H) (db _ hub hb)
  refine ae (met (s9 (l:=b) (hs.fG (.there (.there (.there (.there .here)))) .here) (by omega)) ?_)
  clear hs
  rintro _ w ⟨p2,rfl,hs⟩
  refine ⟨_,rfl,?_⟩
  rw [rP b (mi _),← e1] at hs
  refine gy ?_
  exact aA (i+1,p2) ⟨rfl,rfl,rfl,rfl,trivial⟩ ⟨hlt,hs.to⟩ (by dsimp only;omega)
end
section
open Go.Proofs.YtecibefflhomdaaGreatDoor.Pure (ad bX aQ pY)
attribute [local irreducible] IntKind.wrap
variable {W0 w:World} {F:List ah} {v:Value} {x d hp:Nat} {o:jX} {D:ad}
theorem Sat.K9 (h:Sat W0 (blk hp 49 [.slice none 0 0,.int .i64 0,.bool false,.slice none 0 0]::F) w):Sat W0 (ep hp [] 0 false::F) w:=
 Sat.iq (us:=[]) ⟨rfl,fun u hu=>by cases hu⟩ ((Sat.dA (k:=1) (E:=52) (Sat.mD (Sat.lU (k:=2) h (.inl rfl) (fun _=>rfl)))).to)
abbrev bT (x d:Nat) (sv:Value) (o:jX) (hp:Nat):ah:=blk x 36 [au d,sv,.int .i64 (o.memory:Int),.int .i64 (o.tables:Int),au hp]
theorem n7 {s:St} {v:Value} (h:Sat W0 (I4 d o v (.ok s)::F) w):∃ b,v=au b∧Sat W0 (fx b d o false none s::F) w:=by
 obtain ⟨b',rfl,hs2⟩:=h.fg (φ:=fun b'=>v=au b') (B:=fun b'=>[fx b' d o false none s]) fun hp ⟨b',h1,h2⟩=>⟨b',h1,hp,fun _=>none,fun _ _ _ _ hy=>(by cases hy),Hp.le_refl _,fun _ _ hx=>(by cases hx),h2,trivial⟩
 exact ⟨b',rfl,hs2⟩
theorem yM (hok:K7 o.memory o.tables=true) (hop:∀ D2,nZ D D2→∃ s D' D3,iy o D2=some (.ok s,D')∧ru false none s D' [] [] 0=some (.ok [],D3)) (hW:jP W0) (hE:kP W0)
 (hs:Sat W0 (bT x d (.pointer none) o hp::ag d D::ep hp [] 0 false::F) w) :
 Calls Tryz.prog 26 #[au x] w fun y w'=>y=.returned (.int .i64 0)∧∃ d2 D2 s D' D3 b hp2,nZ D D2∧iy o D2=some (.ok s,D')∧ru false none s D' [] [] 0=some (.ok [],D3) ∧
  Sat W0 (bT x d2 (au b) o hp2::fx b d2 o false none s::ag d2 D3::ep hp2 [[]] 1 false::F) w':=by
 have hok':1≤o.memory∧o.memory≤32∧2≤o.tables∧o.tables≤6:=by simpa [K7] using hok
 refine enter Tryz.func26 rfl Tryz.ntmps26 Tryz.results26 rfl ?_
 refine gy ?_
 refine ae (met (IW (hs.take (.there .here))) ?_)
 clear hs
 rintro _ w ⟨d2,D2,rfl,hc,hs⟩
 refine ⟨_,rfl,?_⟩
 obtain ⟨s,D',D3,h1,h2⟩:=hop D2 hc
 have hs:=hs.to (a:=bT x d (.pointer none) o hp::ag d2 D2::ep hp [] 0 false::F)
 refine gy ?_
 refine bI hs ?_
 clear hs
 intro w hs
 refine gy ?_
 refine cx [bT x d2 (.pointer none) o hp] [3,7] (.q 0 (.q 1 (.q 2 (.s 3 (.q 4 (.q 5 (.q 6 (.s 7 (.l 8 (.q 9 (.q 10 (.q 11 (.q 12 (.q 13 .nil)))))))))))))) hs (by kernel_rfl) ?_
 clear hs
 intro w hs
 refine kR ?_
 refine HA [.int .i64 (o.memory:Int),.int .i64 (o.tables:Int)] rfl rfl rfl rfl .here ⟨rfl,rfl,trivial⟩ rfl ?_
 refine kR ?_
 refine ae (met (kQ (o:=o) ⟨hok'.1,hok'.2.1⟩ ⟨hok'.2.2.1,hok'.2.2.2⟩ h1 hW hE (hs.take (.there .here))) ?_)
 clear hs
 rintro _ w ⟨sv,ve,rfl,hs⟩
 refine ⟨_,rfl,?_⟩
 obtain ⟨b,rfl,hs2⟩:=n7 hs
 have hs:Sat W0 (fx b d2 o false none s::ag d2 D'::aL ve none::bT x d2 (.pointer none) o hp::ep hp [] 0 false::F) w:=hs2.to
 clear hs2
 refine gy ?_
 refine dN hs.to ?_
 refine kR ?_
 refine gy ?_
 refine ae (met (cF hE (hs.take (.there (.there .here)))) ?_)
 clear hs
 rintro _ w ⟨rfl,hs⟩
 refine ⟨_,rfl,?_⟩
 have hn0:((ir none:Nat):Int)=0:=rfl
 have hs:=hs.to (a:=fx b d2 o false none s::ag d2 D'::bT x d2 (.pointer none) o hp::ep hp [] 0 false::F)
 refine gy ?_
 refine ae (met (vq hE h2 hs) ?_)
 clear hs
 rintro _ w ⟨pv,rfl,hs⟩
 refine ⟨_,rfl,?_⟩
 have hs:=hs.yL
 obtain ⟨pa,pc,rfl,-⟩:=hs.fZ
 have e0:(MZ (.ok []:Except cy (List (Bs×Bs))))=[]:=rfl
 rw [e0] at hs ⊢
 have hs:=hs.to (a:=bT x d2 (.pointer none) o hp::aX (.slice pa (([]:List (Bs×Bs)).length) pc) []::fx b d2 o false none s::ag d2 D3::ep hp [] 0 false::F)
 refine gy ?_
 refine ae (met (A6 (l:=[]) rfl (Nat.le_refl _) (by simp) (by simp [total]) (hs.fG (.there (.there (.there (.there .here)))) (.there .here))) ?_)
 clear hs
 rintro _ w ⟨rfl,hs⟩
 refine ⟨_,rfl,?_⟩
 have hs:=hs.to (a:=bT x d2 (.pointer none) o hp::fx b d2 o false none s::ag d2 D3::ep hp [] 0 false::F)
 refine gy ?_
 refine bI hs ?_
 clear hs
 intro w hs
 refine gy ?_
 refine bw [.slice none 0 0,.int .i64 0,.bool false,.slice none 0 0] ?_
 refine cC hs fun w hp2 hs=>?_
 have hs:=Sat.K9 hs
 have hs:=hs.to (a:=bT x d2 (au b) o hp::fx b d2 o false none s::ag d2 D3::ep hp2 [] 0 false::F)
 refine gy ?_
 refine bI hs ?_
 clear hs
 intro w hs
 refine gy ?_
 refine aK (α:=Unit) (fun _=>[(0,au x),(6,.slice pa 0 pc),(9,.slice none 0 0),(10,.int .i64 0)])
  (fun _ w=>Sat W0 (bT x d2 (au b) o hp2::fx b d2 o false none s::ag d2 D3::ep hp2 [] 0 false::F) w) (fun _=>0) () ⟨rfl,rfl,rfl,rfl,trivial⟩ hs ?_
 clear hs
 rintro _ w hs
 refine gy ?_
 refine ae (met (pF (l:=[]) (safe:=true) (v:=.slice none 0 0) ⟨⟨none,0,rfl⟩,fun r hr=>(by cases hr),fun h=>absurd rfl h⟩ (by simp) (by simp) (by simp [aG]) (hs.take (.there (.there (.there .here))))) ?_)
 clear hs
 rintro _ w ⟨rfl,hs⟩
 refine ⟨_,rfl,?_⟩
 refine gy ?_
 exact ak rfl ⟨rfl,d2,D2,s,D',D3,b,hp2,hc,h1,h2,hs.to⟩
end
end Go.Proofs.YtecibefflhomdaaGreatDoor
