/-
  Part 31: PLAIN what stands on the disk, by the levels with their entr; PLAIN a running store and its disk.
-/
import Derived.Test.YtecibefflhomdaaGreatDoorY30
set_option maxHeartbeats 8000000
set_option maxRecDepth 100000
set_option linter.all false
namespace Go.Proofs.YtecibefflhomdaaGreatDoor
open Go
section
open Go.Proofs.YtecibefflhomdaaGreatDoor.Pure
abbrev ga:=List (List (cD×List az))
def cH (Ls:ga):List (List cD):=Ls.map (·.map (·.1))
def bN (Ls:ga):List Bs:=Ls.flatten.map (·.1.name)
def cnt (Ls:ga):Nat:=(Ls.flatten.map (·.2.length)).sum
def dx (Ls:ga):List (List az):=((Ls.getD 0 []).reverse++(Ls.drop 1).flatten).map (·.2)
structure qI (num:Nat) (Ls:ga):Prop where
 len:Ls.length=4
 names:∀ p∈Ls.flatten,∃ k,k≤num∧p.1.name=dp k
 nodup:(bN Ls).Nodup
 sep:∀ i L,1≤i→Ls[i]?=some L→L.Pairwise fun a b=>vO a.2 b.2
def Ot (C:Prop) (fl:Bs→Option Bs) (Ls:ga):Prop:=∀ p∈Ls.flatten,∃ f cs,fl p.1.name=some f∧mi C f p.1 p.2 cs
def bF:Nat→List (List bO)→Bs
 | _,[]=>[]
 | q,b::r=>aD (kQ q b)++bF (q+b.length) r
def total (bs:List (List bO)):Nat:=(bs.map List.length).sum
def gu:Nat→List (List bO)→List az→List az
 | _,[],m=>m
 | q,b::r,m=>gu (q+b.length) r ((bj q b).foldl dT m)
structure JR (b:List bO):Prop where
 len:b.length≤8
 key:∀ c∈b,c.key.length≤8∧c.key≠[]
 val:∀ c∈b,c.del=false→c.val.length≤16
structure RecM (C:Prop) (D:ad) (c:St) (Ls:ga) (bs:List (List bO)) (E:Nat):Prop where
 ok:D.Ok
 levels:c.levels=cH Ls
 state:file D aP=some (aD (bT c))
 num:c.number≤4611686018427387904
 seq:c.seq+total bs≤4611686018427387904
 cntE:cnt Ls+total bs≤E
 lv:qI c.number Ls
 on:Ot C (file D) Ls
 seqs:∀ p∈Ls.flatten,∀ e∈p.2,e.seq≤c.seq
 ord:Ord (dx Ls)
 log:∃ k,k≤c.number∧c.log=bR k
 logf:∃ junk,file D c.log=some (bF c.seq bs++junk)∧bI junk=none
 bsok:∀ b∈bs,JR b
def pF (c:St) (Ls:ga) (m:Bs):Prop:=m=aP∨m=c.log∨m∈bN Ls
theorem RecM.files {C:Prop} {D D':ad} {c:St} {Ls:ga} {bs:List (List bO)} {E:Nat} (h:RecM C D c Ls bs E) (hd:D'.Ok) (hf:∀ m,pF c Ls m→file D' m=file D m):RecM C D' c Ls bs E:=
 ⟨hd,h.levels,by rw [hf _ (.inl rfl)];exact h.state,h.num,h.seq,h.cntE,h.lv,fun p hp=>by
   obtain ⟨f,cs,h1,h2⟩:=h.on p hp
   exact ⟨f,cs,by rw [hf _ (.inr (.inr (List.mem_map.2 ⟨p,hp,rfl⟩)))];exact h1,h2⟩,h.seqs,h.ord,h.log,by
   obtain ⟨j,h1,h2⟩:=h.logf
   exact ⟨j,by rw [hf _ (.inr (.inl rfl))];exact h1,h2⟩,h.bsok⟩
theorem Ew {Ls:ga} (h:∀ p∈Ls.flatten,p.2≠[]):Ls.flatten.length≤cnt Ls:=by
 unfold cnt
 have key:∀ l:List (cD×List az),(∀ p∈l,p.2≠[])→l.length≤(l.map (·.2.length)).sum:=by
  intro l
  induction l with
  | nil=>intro _;simp
  | cons p r ih=>
   intro hh
   have h1:=ih fun x hx=>hh x (List.mem_cons_of_mem _ hx)
   have h2:0<p.2.length:=List.length_pos_iff.2 (hh p List.mem_cons_self)
   simp only [List.map_cons,List.sum_cons,List.length_cons];omega
 exact key _ h
theorem uW {C:Prop} {fl:Bs→Option Bs} {Ls:ga} (h:Ot C fl Ls):Ls.flatten.length≤cnt Ls:=
 Ew fun p hp=>by obtain ⟨_,_,_,h2⟩:=h p hp;exact h2.some
theorem AD:∀ (f n:Nat),jz f n≤f+1
 | 0,_=>by simp [jz]
 | f+1,n=>by unfold jz;have:=AD f (n / 10);split<;>omega
theorem Ex (n:Nat):(dec n).length≤21:=by unfold dec;rw [DT];exact AD 20 n
theorem uX (n:Nat):(dp n).length≤26:=by unfold dp;have:=Ex n;simp only [List.length_append,List.length_cons,List.length_nil];omega
theorem AE (n:Nat):(bR n).length≤24:=by unfold bR;have:=Ex n;simp only [List.length_append,List.length_cons,List.length_nil];omega
theorem xl:∀ (ls:List (List cD)) (i:Nat),(∀ l∈ls,∀ T∈l,T.name.length≤26)→(eM i ls).length≤28*ls.flatten.length
 | [],_,_=>by simp [eM]
 | l::r,i,h=>by
  have h1:=xl r (i+1) fun x hx=>h x (List.mem_cons_of_mem _ hx)
  have key:∀ l:List cD,(∀ T∈l,T.name.length≤26)→(l.map fun T=>UInt8.ofNat i::bE T.name).flatten.length≤28*l.length:=by
   intro l
   induction l with
   | nil=>intro _;simp
   | cons T r ih=>
    intro hh
    have h1:=ih fun x hx=>hh x (List.mem_cons_of_mem _ hx)
    have h2:=hh T List.mem_cons_self
    simp only [List.map_cons,List.flatten_cons,List.length_append,List.length_cons,dg] at h1 ⊢;omega
  have h2:=key l (h l List.mem_cons_self)
  simp only [eM,List.length_append,List.flatten_cons];omega
theorem oC (Ls:ga):(cH Ls).flatten=Ls.flatten.map (·.1):=by unfold cH;rw [List.map_flatten]
theorem xm {num:Nat} {Ls:ga} (h:qI num Ls):∀ l∈cH Ls,∀ T∈l,T.name.length≤26:=by
 intro l hl T hT
 have:T∈(cH Ls).flatten:=List.mem_flatten.2 ⟨l,hl,hT⟩
 rw [oC] at this
 obtain ⟨p,hp,rfl⟩:=List.mem_map.1 this
 obtain ⟨k,_,h2⟩:=h.names p hp
 rw [h2];exact uX k
theorem rM {s:St} {num:Nat} {Ls:ga} (hl:s.levels=cH Ls) (h:qI num Ls) (hlog:s.log.length≤24):(bT s).length≤41+28*Ls.flatten.length:=by
 have h1:=xl (cH Ls) 0 (xm h)
 rw [oC,List.length_map] at h1
 unfold bT
 rw [hl]
 simp only [List.length_append,aU,dg];omega
theorem AF {s:St} {num:Nat} {Ls:ga} (hl:s.levels=cH Ls) (h:qI num Ls) (hlog:s.log.length≤24) (hn:s.number≤4611686018427387904) (hq:s.seq≤4611686018427387904) (hc:Ls.flatten.length≤1048576):sy s=true:=by
 unfold sy
 simp only [Bool.and_eq_true,decide_eq_true_eq,Nat.ble_eq,List.all_eq_true]
 refine ⟨⟨⟨hn,hq⟩,by omega⟩,fun l hl2=>?_⟩
 rw [hl] at hl2
 have hle:l.length≤(cH Ls).flatten.length:=by
  obtain ⟨A,B,e⟩:=List.append_of_mem hl2
  rw [e];simp only [List.flatten_append,List.flatten_cons,List.length_append];omega
 rw [oC,List.length_map] at hle
 exact ⟨by omega,fun T hT=>by have:=xm h l hl2 T hT;omega⟩
theorem mS {D:ad} {n:Bs} (hm:D.moves.length≤1099511627776):eL D (.create n)=some (gm D n,cT D n):=by
 unfold eL;dsimp only;rw [if_pos (by rw [bJ];exact hm)]
theorem qJ {D:ad} {a b:Bs} (hm:D.moves.length≤1099511627776):eL D (.rename a b)=some (bz D a,fM D a b):=by
 unfold eL;dsimp only;rw [if_pos (by rw [bJ];exact hm)]
theorem kh {D:ad} {a:Bs} (hm:D.moves.length≤1099511627776):eL D (.remove a)=some (bz D a,fq D a):=by
 unfold eL;dsimp only;rw [if_pos (by rw [bJ];exact hm)]
theorem eQ {D D':ad} {o:JO} {r:List JO} {e:cy} (h:eL D o=some (some e,D')):eW (o::r) D=some (some e,D'):=by rw [eW,h]
theorem fj {D D':ad} {o:JO} {r:List JO} (h:eL D o=some (none,D')):eW (o::r) D=eW r D':=by rw [eW,h]
theorem sG {C:Prop} {D:ad} {s:St} {old:Option Bs} (hd:D.Ok) (hfr:file D aY=none) (hm:D.moves.length≤549755813888) (hold:∀ o,old=some o→o≠aP∧o≠aY∧∃ b,file D o=some b)
 (hroom:D.used+(aD (bT s)).length≤1099511627776) :
 ∃ x D',eW (py s old) D=some (x,D')∧cS D D' ∧
  ((x=none∧D'.moves.length≤1∧(∀ m,file D' m=if m=aP then some (aD (bT s)) else if old=some m then none else file D m)) ∨
   ∃ e,x=some e∧sF C D e∧((∀ m,m≠aY→file D' m=file D m)∨∀ m,file D' m=if m=aP then some (aD (bT s)) else file D m)):=by
 unfold py
 simp only [List.cons_append,List.nil_append]
 cases h1:gm D aY with
 | some e=>
  obtain ⟨k1,k2⟩:=pD hd h1
  have s1:=cO.tick hd
  rw [eQ (by rw [mS (by omega),h1])]
  refine ⟨_,_,rfl,by rw [k1];exact s1.later,.inr ⟨e,rfl,?_,.inl fun m _=>by rw [k1];exact s1.file m⟩⟩
  rcases k2 with k2|⟨_,k2⟩
  ·exact .of k2
  ·exact absurd hfr k2
 | none=>
  obtain ⟨_,c2,c3,c4,c5⟩:=rC hd h1
  rw [fj (by rw [mS (by omega),h1])]
  have hcf:file (cT D aY) aY=some []:=by rw [c2,if_pos rfl]
  generalize cT D aY=D1 at c2 c3 c4 c5 hcf
  cases h2:dX D1 aY (aD (bT s)) with
  | some e=>
   obtain ⟨k1,k2⟩:=pE c4.ok h2 hcf
   have s1:=cO.tick c4.ok
   rw [eQ (e:=e) (D':=bZ D1 aY (aD (bT s))) (by unfold eL;dsimp only;rw [h2])]
   refine ⟨_,_,rfl,by rw [k1];exact c4.trans s1.later,.inr ⟨e,rfl,?_,.inl fun m hm=>by rw [k1,s1.file,c2,if_neg hm]⟩⟩
   rcases k2 with k2|⟨k2,k3⟩
   ·exact .of (k2.before c4)
   ·refine .inr ⟨k2,?_⟩
    rw [← c4.room];omega
  | none=>
   obtain ⟨b,a1,a2,a3,a4,a5,a6⟩:=rE c4.ok h2
   rw [hcf] at a1;cases a1
   rw [List.nil_append] at a2
   rw [fj (D':=bZ D1 aY (aD (bT s))) (by unfold eL;dsimp only;rw [h2])]
   have haf:file (bZ D1 aY (aD (bT s))) aY=some (aD (bT s)):=by rw [a2,if_pos rfl]
   have l2:=c4.trans a4
   generalize bZ D1 aY (aD (bT s))=D2 at a2 a3 a4 a5 haf l2
   obtain ⟨y1,y2,y3,y4⟩:=qF a4.ok aY
   have hoth:∀ m,m≠aY→file (dR D2 aY) m=file D m:=fun m hm=>by rw [y1,a2,if_neg hm,c2,if_neg hm]
   have l3:=l2.trans y3
   rcases fe haf with h3|⟨e,h3,ht⟩
   ·rw [fj (D':=dR D2 aY) (by unfold eL;dsimp only;rw [h3])]
    have hsf:file (dR D2 aY) aY=some (aD (bT s)):=by rw [y1];exact haf
    have hmv3:(dR D2 aY).moves.length≤549755813889:=by rw [y4,a5,c5];omega
    generalize dR D2 aY=D3 at y1 y2 y3 y4 hoth l3 hsf hmv3
    rcases fe hsf with h4|⟨e,h4,ht⟩
    ·obtain ⟨r1,r2,r3,r4⟩:=FV y3.ok iH h4
     rw [fj (D':=fM D3 aY aP) (by rw [qJ (by omega),h4])]
     have hall:∀ m,file (fM D3 aY aP) m=if m=aP then some (aD (bT s)) else file D m:=by
      intro m
      rw [r1]
      by_cases hm1:m=aY
      ·subst hm1;rw [if_pos rfl,if_neg iH,hfr]
      ·rw [if_neg hm1]
       by_cases hm2:m=aP
       ·rw [if_pos hm2,if_pos hm2,hsf]
       ·rw [if_neg hm2,if_neg hm2,hoth m hm1]
     have l4:=l3.trans r3
     generalize fM D3 aY aP=D4 at r1 r2 r3 r4 hall l4
     obtain ⟨z1,z2,z3,z4,z5⟩:=Ap r3.ok
     have hall5:∀ m,file (fh D4) m=if m=aP then some (aD (bT s)) else file D m:=fun m=>by rw [z1];exact hall m
     have l5:=l4.trans z3
     cases ht:D4.eg with
     | true=>
      rw [eQ (e:=(some [],8)) (D':=fh D4) (by unfold eL;dsimp only;rw [ht];rfl)]
      refine ⟨_,_,rfl,l5,.inr ⟨_,rfl,.of ⟨rfl,Int.lt_of_lt_of_le (rB ht) l4.bad⟩,.inr hall5⟩⟩
     | false=>
      rw [fj (D':=fh D4) (by unfold eL;dsimp only;rw [ht];rfl)]
      have hmv:=z5 ht
      generalize fh D4=D5 at z1 z2 z3 z4 z5 hall5 l5 hmv
      cases old with
      | none=>
       refine ⟨none,D5,rfl,l5,.inl ⟨rfl,by rw [hmv];simp,fun m=>?_⟩⟩
       rw [hall5];simp
      | some o=>
       obtain ⟨o1,o2,b,o3⟩:=hold o rfl
       have hof:file D5 o=some b:=by rw [hall5,if_neg o1];exact o3
       dsimp only
       rcases fe hof with h6|⟨e,h6,ht⟩
       ·obtain ⟨v1,v2,v3,v4⟩:=wZ z3.ok h6
        rw [fj (D':=fq D5 o) (by rw [kh (by rw [hmv];simp),h6])]
        refine ⟨none,fq D5 o,rfl,l5.trans v3,.inl ⟨rfl,by rw [v4,hmv];simp,fun m=>?_⟩⟩
        rw [v1,hall5]
        by_cases hm:m=o
        ·subst hm;rw [if_pos rfl,if_neg o1,if_pos rfl]
        ·rw [if_neg hm]
         have:¬ (some o=some m):=fun h=>hm (Option.some.inj h).symm
         rw [if_neg this]
       ·rw [eQ (e:=e) (D':=fq D5 o) (by rw [kh (by rw [hmv];simp),h6])]
        have s1:=cO.tick z3.ok
        rw [uM h6]
        exact ⟨_,_,rfl,l5.trans s1.later,.inr ⟨e,rfl,.of (ht.before l5),.inr fun m=>by rw [s1.file];exact hall5 m⟩⟩
    ·rw [eQ (e:=e) (D':=fM D3 aY aP) (by rw [qJ (by omega),h4])]
     have s1:=cO.tick y3.ok
     rw [CD h4]
     exact ⟨_,_,rfl,l3.trans s1.later,.inr ⟨e,rfl,.of (ht.before l3),.inl fun m hm=>by rw [s1.file];exact hoth m hm⟩⟩
   ·rw [eQ (e:=e) (D':=dR D2 aY) (by unfold eL;dsimp only;rw [h3])]
    exact ⟨_,_,rfl,l3,.inr ⟨e,rfl,.of (ht.before l2),.inl hoth⟩⟩
end
section
open Go.Proofs.YtecibefflhomdaaGreatDoor.Pure
theorem sH:∀ (bs:List (List bO)) (q:Nat),(∀ b∈bs,JR b)→q+total bs≤4611686018427387904→(bF q bs).length≤20*bs.length+34*total bs
 | [],_,_,_=>by simp [bF,total]
 | b::r,q,h,hq=>by
  have hq':total (b::r)=b.length+total r:=by simp [total]
  have h1:=sH r (q+b.length) (fun x hx=>h x (List.mem_cons_of_mem _ hx)) (by omega)
  have hb:=h b List.mem_cons_self
  have key:∀ (l:List bO) (q:Nat),(∀ c∈l,c.key.length≤8∧c.key≠[])→(∀ c∈l,c.del=false→c.val.length≤16)→q+l.length≤4611686018427387904→((bj q l).map cY).flatten.length≤34*l.length:=by
   intro l
   induction l with
   | nil=>intro q _ _ _;simp [bj]
   | cons c r ih=>
    intro q k1 k2 k3
    simp only [List.length_cons] at k3
    have h2:=ih (q+1) (fun x hx=>k1 x (List.mem_cons_of_mem _ hx)) (fun x hx=>k2 x (List.mem_cons_of_mem _ hx)) (by omega)
    have h3:=DX (e:=gH c (q+1)) ⟨(k1 c List.mem_cons_self).1,k2 c List.mem_cons_self,by show q+1<_;omega,(k1 c List.mem_cons_self).2⟩
    simp only [bj,List.map_cons,List.flatten_cons,List.length_append,List.length_cons];omega
  have h2:=key b q hb.key hb.val (by omega)
  simp only [bF,List.length_append,bL,kQ,aU,List.length_cons]
  omega
theorem CO {D:ad} (h:D.Ok) {ns:List Bs} (hk:∀ m,file D m≠none→m∈ns):D.used≤(ns.map fun n=>(fileOf D n).length).sum:=by
 unfold ad.used
 have key:∀ (l:List (Bs×Nat)) (ns:List Bs),(l.map (·.1)).Nodup→(∀ p∈l,p.1∈ns)→(∀ p∈l,aA D.now p.1=some p.2)→(l.map fun p=>(D.aH p.2).length).sum≤(ns.map fun n=>(fileOf D n).length).sum:=by
  intro l
  induction l with
  | nil=>intro ns _ _ _;simp
  | cons p r ih=>
   intro ns hn hs hg
   rw [List.map_cons,List.nodup_cons] at hn
   obtain ⟨A,B,e⟩:=List.append_of_mem (hs p List.mem_cons_self)
   have h1:=ih (A++B) hn.2 (fun x hx=>by
    have h2:=hs x (List.mem_cons_of_mem _ hx)
    rw [e] at h2
    have hne:x.1≠p.1:=fun hh=>hn.1 (by rw [← hh];exact List.mem_map.2 ⟨x,hx,rfl⟩)
    rcases List.mem_append.1 h2 with h2|h2
    ·exact List.mem_append_left _ h2
    ·rcases List.mem_cons.1 h2 with h2|h2
     ·exact absurd h2 hne
     ·exact List.mem_append_right _ h2) fun x hx=>hg x (List.mem_cons_of_mem _ hx)
   have h2:(fileOf D p.1).length=(D.aH p.2).length:=by unfold fileOf;rw [hg p List.mem_cons_self]
   rw [e]
   simp only [List.map_append,List.map_cons,List.sum_append,List.sum_cons] at h1 ⊢
   omega
 refine key D.now ns h.names (fun p hp=>hk _ ?_) fun p hp=>de h.names hp
 unfold file
 rw [de h.names hp];simp
structure jo (C:Prop) (s:St) (D:ad) (q0:Nat) (Ls:ga) (bs:List (List bO)) (E:Nat):Prop where
 core:RecM C D { s with seq:=q0 } Ls bs E
 mem:s.mem=gu q0 bs []
 seq:s.seq=q0+total bs
 logf:∃ junk,file D s.log=some (bF q0 bs++junk)∧junk.length≤1073741824
 known:∀ m,file D m≠none→m=aP∨m=s.log∨m∈bN Ls
 moves:D.moves.length≤2097152
 snaps:s.snaps.length≤4
section
variable {C:Prop} {s:St} {D:ad} {q0:Nat} {Ls:ga} {bs:List (List bO)} {E:Nat}
theorem jo.levels (h:jo C s D q0 Ls bs E):s.levels=cH Ls:=h.core.levels
theorem Ot.size {fl:Bs→Option Bs} (h:Ot C fl Ls) (hfl:∀ n,fileOf D n=(fl n).getD []):((bN Ls).map fun n=>(fileOf D n).length).sum≤130*cnt Ls:=by
 unfold bN cnt
 rw [List.map_map]
 have key:∀ l:List (cD×List az),(∀ p∈l,∃ f cs,fl p.1.name=some f∧mi C f p.1 p.2 cs)→(l.map fun p=>(fileOf D p.1.name).length).sum≤130*(l.map (·.2.length)).sum:=by
  intro l
  induction l with
  | nil=>intro _;simp
  | cons p r ih=>
   intro hh
   obtain ⟨f,cs,h1,h2⟩:=hh p List.mem_cons_self
   have h3:=ih fun x hx=>hh x (List.mem_cons_of_mem _ hx)
   have h4:=h2.small
   have h5:(fileOf D p.1.name).length=f.length:=by rw [hfl,h1];rfl
   simp only [List.map_cons,List.sum_cons];omega
 exact key _ h
theorem RecM.CP {c:St} (h:RecM C D c Ls bs E):c.log.length≤24:=by obtain ⟨k,_,hk⟩:=h.log;rw [hk];exact AE k
theorem RecM.CQ {c:St} (h:RecM C D c Ls bs E) (hE:E≤1048576):Ls.flatten.length≤1048576:=by have:=uW h.on;have:=h.cntE;omega
theorem RecM.AG {c:St} (h:RecM C D c Ls bs E) (hE:E≤1048576):(aD (bT c)).length≤29360181:=by
 have h1:=rM h.levels h.lv h.CP
 have h2:=h.CQ hE
 rw [bL];omega
theorem jo.used (h:jo C s D q0 Ls bs E) (hE:E≤1048576) (hB:bs.length≤16777216):D.used≤2147483648:=by
 obtain ⟨junk,hj1,hj2⟩:=h.logf
 have h1:=CO h.core.ok (ns:=aP::s.log::bN Ls) fun m hm=>by
  rcases h.known m hm with h|h|h
  ·rw [h];exact List.mem_cons_self
  ·rw [h];exact List.mem_cons_of_mem _ List.mem_cons_self
  ·exact List.mem_cons_of_mem _ (List.mem_cons_of_mem _ h)
 have h2:=h.core.on.size (D:=D) (jC D)
 have h3:=sH bs q0 h.core.bsok h.core.seq
 have h4:=h.core.AG hE
 have h5:=h.core.cntE
 have e1:fileOf D aP=aD (bT { s with seq:=q0 }):=by rw [jC,h.core.state];rfl
 have e2:fileOf D s.log=bF q0 bs++junk:=by rw [jC,hj1];rfl
 rw [List.map_cons,List.map_cons,List.sum_cons,List.sum_cons,e1,e2,List.length_append] at h1
 omega
theorem jo.free (h:jo C s D q0 Ls bs E) {m:Bs} (h1:m≠aP) (h2:m≠s.log) (h3:m ∉ bN Ls):file D m=none:=by
 cases hf:file D m with
 | none=>rfl
 | some b=>
  rcases h.known m (by rw [hf];simp) with h|h|h
  ·exact absurd h h1
  ·exact absurd h h2
  ·exact absurd h h3
theorem jo.Lv (h:jo C s D q0 Ls bs E) {k:Nat} (hk:s.number<k) (hk2:k≤9223372036854775808):file D (dp k)=none:=by
 obtain ⟨j,h1,h2⟩:=h.core.log
 have h2:s.log=bR j:=h2
 have hn:=h.core.num
 have hn:s.number≤4611686018427387904:=hn
 refine h.free (iG k) (by rw [h2];exact jD k j) fun hm=>?_
 obtain ⟨p,hp,hpe⟩:=List.mem_map.1 hm
 obtain ⟨i,hi,hie⟩:=h.core.lv.names p hp
 have hi:i≤s.number:=hi
 have:=fi (hie.symm.trans hpe) (by omega) hk2
 omega
theorem ea (h:qI q0 Ls) (k:Nat):bR k ∉ bN Ls:=fun hm=>by
 obtain ⟨p,hp,hpe⟩:=List.mem_map.1 hm
 obtain ⟨i,hi,hie⟩:=h.names p hp
 exact jD i k (hie.symm.trans hpe)
theorem fX (h:qI q0 Ls):aP ∉ bN Ls:=fun hm=>by
 obtain ⟨p,hp,hpe⟩:=List.mem_map.1 hm
 obtain ⟨i,hi,hie⟩:=h.names p hp
 exact iG i (hie.symm.trans hpe)
theorem gU (h:qI q0 Ls):aY ∉ bN Ls:=fun hm=>by
 obtain ⟨p,hp,hpe⟩:=List.mem_map.1 hm
 obtain ⟨i,hi,hie⟩:=h.names p hp
 exact lz i (hie.symm.trans hpe)
theorem jo.IM (h:jo C s D q0 Ls bs E):file D aY=none:=by
 obtain ⟨j,h1,h2⟩:=h.core.log
 have h2:s.log=bR j:=h2
 exact h.free iH (by rw [h2];exact (jE j).symm) (gU h.core.lv)
theorem jo.Lw (h:jo C s D q0 Ls bs E) {k:Nat} (hk:s.number<k) (hk2:k≤9223372036854775808):file D (bR k)=none:=by
 obtain ⟨j,h1,h2⟩:=h.core.log
 have h2:s.log=bR j:=h2
 have h1:j≤s.number:=h1
 have hn:s.number≤4611686018427387904:=h.core.num
 exact h.free (eN k) (fun hh=>by have:=nY (hh.trans h2) hk2 (by omega);omega) (ea h.core.lv k)
end
theorem nZ {C:Prop} {s:St} {D:ad} {Ls:ga} (hl:s.levels=cH Ls) (hlv:qI s.number Ls) (hlen:Ls.flatten.length≤1048576) (hn:s.number+1≤4611686018427387904) (hq:s.seq≤4611686018427387904)
 (hd:D.Ok) (hfr:file D aY=none) (hfl:file D (bR (s.number+1))=none) (hlog:(s.log=[]∧file D []=none)∨∃ k b,k≤s.number∧s.log=bR k∧file D s.log=some b) (hm:D.moves.length≤274877906944)
 (hroom:D.used+30000000≤1099511627776) :
 ∃ x D',gG s D true=some (x,D')∧cS D D' ∧
  ((x=.ok { s with number:=s.number+1,log:=bR (s.number+1) }∧D'.moves.length≤1 ∧
     ∀ m,file D' m=if m=aP then some (aD (bT { s with number:=s.number+1,log:=bR (s.number+1) })) else if m=bR (s.number+1) then some [] else if m=s.log then none else file D m) ∨
   ∃ e,x=.error e∧sF C D e∧((∀ m,m≠aY→m≠bR (s.number+1)→file D' m=file D m) ∨
    ∀ m,file D' m=if m=aP then some (aD (bT { s with number:=s.number+1,log:=bR (s.number+1) })) else if m=bR (s.number+1) then some [] else file D m)):=by
 have hlv2:qI (s.number+1) Ls:=⟨hlv.len,fun p hp=>by obtain ⟨k,h1,h2⟩:=hlv.names p hp;exact ⟨k,by omega,h2⟩,hlv.nodup,hlv.sep⟩
 have hll:=AE (s.number+1)
 unfold gG
 rw [if_pos rfl,if_pos (by omega),mS (by omega)]
 cases h1:gm D (bR (s.number+1)) with
 | some e=>
  obtain ⟨k1,k2⟩:=pD hd h1
  have s1:=cO.tick hd
  refine ⟨_,_,rfl,by rw [k1];exact s1.later,.inr ⟨e,rfl,?_,.inl fun m _ _=>by rw [k1];exact s1.file m⟩⟩
  rcases k2 with k2|⟨_,k2⟩
  ·exact .of k2
  ·exact absurd hfl k2
 | none=>
  obtain ⟨_,c2,c3,c4,c5⟩:=rC hd h1
  dsimp only
  generalize cT D (bR (s.number+1))=D1 at c2 c3 c4 c5
  rw [if_pos (AF (s:={ s with number:=s.number+1,log:=bR (s.number+1) }) hl hlv2 hll hn hq hlen)]
  have hst:=rM (s:={ s with number:=s.number+1,log:=bR (s.number+1) }) hl hlv2 hll
  obtain ⟨x,D',r1,r2,r3⟩:=sG (C:=C) (s:={ s with number:=s.number+1,log:=bR (s.number+1) }) (old:=if s.log=[] then none else some s.log) c4.ok (by rw [c2,if_neg (jE _).symm];exact hfr) (by omega)
   (fun o ho=>by
     rcases hlog with ⟨h,_⟩|⟨k,b,h2,h3,h4⟩
     ·rw [if_pos h] at ho;cases ho
     ·rw [if_neg (by rw [h3];exact IK k)] at ho
      cases ho
      refine ⟨by rw [h3];exact eN k,by rw [h3];exact jE k,b,?_⟩
      rw [c2,if_neg (fun hh=>by have:=nY (h3.symm.trans hh) (by omega) (by omega);omega)]
      exact h4) (by rw [bL,c3];omega)
  rw [r1]
  rcases r3 with ⟨rfl,r3,r4⟩|⟨e,rfl,r3,r4⟩
  ·refine ⟨_,_,rfl,c4.trans r2,.inl ⟨rfl,r3,fun m=>?_⟩⟩
   rw [r4,c2]
   by_cases hm1:m=aP
   ·rw [if_pos hm1,if_pos hm1]
   ·rw [if_neg hm1,if_neg hm1]
    rcases hlog with ⟨h,h0⟩|⟨k,b,h2,h3,h4⟩
    ·rw [if_pos h,if_neg (by simp),h]
     by_cases hm2:m=bR (s.number+1)
     ·rw [if_pos hm2,if_pos hm2]
     ·rw [if_neg hm2,if_neg hm2]
      by_cases hm3:m=[]
      ·rw [if_pos hm3,hm3,h0]
      ·rw [if_neg hm3]
    ·have hold2:(if s.log=[] then none else some s.log)=some s.log:=if_neg (by rw [h3];exact IK k)
     rw [hold2]
     by_cases hm2:m=bR (s.number+1)
     ·have:¬ (some s.log=some m):=fun hh=>by
       have hh:=Option.some.inj hh
       have:=nY (h3.symm.trans (hh.trans hm2)) (by omega) (by omega);omega
      rw [if_neg this,if_pos hm2,if_pos hm2]
     ·rw [if_neg hm2,if_neg hm2]
      by_cases hm3:m=s.log
      ·rw [if_pos hm3,if_pos (by rw [hm3])]
      ·rw [if_neg hm3,if_neg (fun hh=>hm3 (Option.some.inj hh).symm)]
  ·refine ⟨_,_,rfl,c4.trans r2,.inr ⟨e,rfl,r3.before c4,?_⟩⟩
   rcases r4 with r4|r4
   ·exact .inl fun m hm1 hm2=>by rw [r4 m hm1,c2,if_neg hm2]
   ·exact .inr fun m=>by rw [r4,c2]
theorem AH {C:Prop} {s:St} {D:ad} {Ls:ga} (hl:s.levels=cH Ls) (hlv:qI s.number Ls) (hlen:Ls.flatten.length≤1048576) (hn:s.number≤4611686018427387904) (hq:s.seq≤4611686018427387904)
 (hd:D.Ok) (hfr:file D aY=none) (hlog:s.log.length≤24) (hm:D.moves.length≤274877906944) (hroom:D.used+30000000≤1099511627776) :
 ∃ x D',gG s D false=some (x,D')∧cS D D' ∧
  ((x=.ok s∧D'.moves.length≤1∧∀ m,file D' m=if m=aP then some (aD (bT s)) else file D m) ∨
   ∃ e,x=.error e∧sF C D e∧((∀ m,m≠aY→file D' m=file D m)∨∀ m,file D' m=if m=aP then some (aD (bT s)) else file D m)):=by
 unfold gG
 rw [if_neg (by simp),if_pos (AF hl hlv hlog hn hq hlen)]
 have hst:=rM hl hlv hlog
 obtain ⟨x,D',r1,r2,r3⟩:=sG (C:=C) (s:=s) (old:=none) hd hfr (by omega) (fun o ho=>by cases ho) (by rw [bL];omega)
 rw [r1]
 rcases r3 with ⟨rfl,r3,r4⟩|⟨e,rfl,r3,r4⟩
 ·exact ⟨_,_,rfl,r2,.inl ⟨rfl,r3,fun m=>by rw [r4];simp⟩⟩
 ·exact ⟨_,_,rfl,r2,.inr ⟨e,rfl,r3,r4⟩⟩
theorem n4 {C:Prop}:∀ (ns:List Bs) {D:ad},D.Ok→ns.Nodup→(∀ n∈ns,file D n≠none)→D.moves.length+ns.length≤1099511627776 →
 ∃ x D',eW (ns.map .remove) D=some (x,D')∧cS D D'∧D'.moves.length≤D.moves.length+ns.length∧(∀ m,m ∉ ns→file D' m=file D m)∧((x=none∧∀ m∈ns,file D' m=none)∨∃ e,x=some e∧sF C D e)
 | [],D,hd,_,_,_=>⟨none,D,rfl,cS.refl hd,by simp,fun _ _=>rfl,.inl ⟨rfl,by simp⟩⟩
 | n::ns,D,hd,hn,hp,hm=>by
  obtain ⟨hn1,hn2⟩:=List.nodup_cons.1 hn
  rw [List.map_cons]
  obtain ⟨b,hb⟩:∃ b,file D n=some b:=by
   cases hf:file D n with
   | none=>exact absurd hf (hp n List.mem_cons_self)
   | some b=>exact ⟨b,rfl⟩
  simp only [List.length_cons] at hm
  rcases fe hb with h1|⟨e,h1,ht⟩
  ·obtain ⟨v1,v2,v3,v4⟩:=wZ hd h1
   rw [fj (D':=fq D n) (by rw [kh (by omega),h1])]
   obtain ⟨x,D',k1,k2,k3,k4,k5⟩:=n4 (C:=C) ns v3.ok hn2 (fun x hx=>by
    rw [v1,if_neg (fun hh=>hn1 (by rw [← hh];exact hx))];exact hp x (List.mem_cons_of_mem _ hx)) (by omega)
   refine ⟨x,D',k1,v3.trans k2,by simp only [List.length_cons];omega,fun m hm=>?_,?_⟩
   ·rw [k4 m fun hh=>hm (List.mem_cons_of_mem _ hh),v1,if_neg fun hh=>hm (by rw [hh];exact List.mem_cons_self)]
   ·rcases k5 with ⟨k5,k6⟩|⟨e,k5,k6⟩
    ·refine .inl ⟨k5,fun m hm=>?_⟩
     rcases List.mem_cons.1 hm with rfl|hm
     ·rw [k4 _ hn1,v1,if_pos rfl]
     ·exact k6 m hm
    ·exact .inr ⟨e,k5,k6.before v3⟩
  ·rw [eQ (e:=e) (D':=fq D n) (by rw [kh (by omega),h1]),uM h1]
   have s1:=cO.tick hd
   exact ⟨_,_,rfl,s1.later,by rw [s1.moves];omega,fun m _=>s1.file m,.inr ⟨e,rfl,.of ht⟩⟩
end
end Go.Proofs.YtecibefflhomdaaGreatDoor
