/-
  Part 31: PLAIN what stands on the disk, by the levels with their entr; PLAIN a running store and its disk.
-/
import Derived.Test.YtecibefflhomdaaGreatDoorV30
set_option maxHeartbeats 8000000
set_option maxRecDepth 100000
set_option linter.all false
namespace Go.Proofs.YtecibefflhomdaaGreatDoor
open Go
section
open Go.Proofs.YtecibefflhomdaaGreatDoor.Pure
abbrev fU:=List (List (bN×List aB))
def bU (Ls:fU):List (List bN):=Ls.map (·.map (·.1))
def bP (Ls:fU):List Bs:=Ls.flatten.map (·.1.name)
def cnt (Ls:fU):Nat:=(Ls.flatten.map (·.2.length)).sum
def dt (Ls:fU):List (List aB):=((Ls.getD 0 []).reverse++(Ls.drop 1).flatten).map (·.2)
structure q7 (num:Nat) (Ls:fU):Prop where
 len:Ls.length=4
 names:∀ p∈Ls.flatten,∃ k,k≤num∧p.1.name=dZ k
 nodup:(bP Ls).Nodup
 sep:∀ i L,1≤i→Ls[i]?=some L→L.Pairwise fun a b=>tQ a.2 b.2
def Pz (C:Prop) (fl:Bs→Option Bs) (Ls:fU):Prop:=∀ p∈Ls.flatten,∃ f cs,fl p.1.name=some f∧mG C f p.1 p.2 cs
def bJ:Nat→List (List cG)→Bs
 | _,[]=>[]
 | q,b::r=>aF (lB q b)++bJ (q+b.length) r
def total (bs:List (List cG)):Nat:=(bs.map List.length).sum
def ij:Nat→List (List cG)→List aB→List aB
 | _,[],m=>m
 | q,b::r,m=>ij (q+b.length) r ((bc q b).foldl dU m)
structure Ma (b:List cG):Prop where
 len:b.length≤8
 key:∀ c∈b,c.key.length≤8∧c.key≠[]
 val:∀ c∈b,c.del=false→c.val.length≤16
structure RecM (C:Prop) (D:ae) (c:St) (Ls:fU) (bs:List (List cG)) (E:Nat):Prop where
 ok:D.Ok
 levels:c.levels=bU Ls
 state:file D aU=some (aF (cw c))
 num:c.number≤4611686018427387904
 seq:c.seq+total bs≤4611686018427387904
 cntE:cnt Ls+total bs≤E
 lv:q7 c.number Ls
 on:Pz C (file D) Ls
 seqs:∀ p∈Ls.flatten,∀ e∈p.2,e.seq≤c.seq
 ord:Ord (dt Ls)
 log:∃ k,k≤c.number∧c.log=cj k
 logf:∃ junk,file D c.log=some (bJ c.seq bs++junk)∧bH junk=none
 bsok:∀ b∈bs,Ma b
def wj (c:St) (Ls:fU) (m:Bs):Prop:=m=aU∨m=c.log∨m∈bP Ls
theorem RecM.files {C:Prop} {D D':ae} {c:St} {Ls:fU} {bs:List (List cG)} {E:Nat} (h:RecM C D c Ls bs E) (hd:D'.Ok) (hf:∀ m,wj c Ls m→file D' m=file D m):RecM C D' c Ls bs E:=
 ⟨hd,h.levels,by rw [hf _ (.inl rfl)];exact h.state,h.num,h.seq,h.cntE,h.lv,fun p hp=>by
   obtain ⟨f,cs,h1,h2⟩:=h.on p hp
   exact ⟨f,cs,by rw [hf _ (.inr (.inr (List.mem_map.2 ⟨p,hp,rfl⟩)))];exact h1,h2⟩,h.seqs,h.ord,h.log,by
   obtain ⟨j,h1,h2⟩:=h.logf
   exact ⟨j,by rw [hf _ (.inr (.inl rfl))];exact h1,h2⟩,h.bsok⟩
theorem Gs {Ls:fU} (h:∀ p∈Ls.flatten,p.2≠[]):Ls.flatten.length≤cnt Ls:=by
 unfold cnt
 have key:∀ l:List (bN×List aB),(∀ p∈l,p.2≠[])→l.length≤(l.map (·.2.length)).sum:=by
  intro l
  induction l with
  | nil=>intro _;simp
  | cons p r ih=>
   intro hh
   have h1:=ih fun x hx=>hh x (List.mem_cons_of_mem _ hx)
   have h2:0<p.2.length:=List.length_pos_iff.2 (hh p List.mem_cons_self)
   simp only [List.map_cons,List.sum_cons,List.length_cons];omega
 exact key _ h
theorem B5 {C:Prop} {fl:Bs→Option Bs} {Ls:fU} (h:Pz C fl Ls):Ls.flatten.length≤cnt Ls:=
 Gs fun p hp=>by obtain ⟨_,_,_,h2⟩:=h p hp;exact h2.some
theorem B6:∀ (f n:Nat),jM f n≤f+1
 | 0,_=>by simp [jM]
 | f+1,n=>by unfold jM;have:=B6 f (n / 10);split<;>omega
theorem Gt (n:Nat):(dec n).length≤21:=by unfold dec;rw [FV];exact B6 20 n
theorem wm (n:Nat):(dZ n).length≤26:=by unfold dZ;have:=Gt n;simp only [List.length_append,List.length_cons,List.length_nil];omega
theorem B7 (n:Nat):(cj n).length≤24:=by unfold cj;have:=Gt n;simp only [List.length_append,List.length_cons,List.length_nil];omega
theorem yD:∀ (ls:List (List bN)) (i:Nat),(∀ l∈ls,∀ T∈l,T.name.length≤26)→(eN i ls).length≤28*ls.flatten.length
 | [],_,_=>by simp [eN]
 | l::r,i,h=>by
  have h1:=yD r (i+1) fun x hx=>h x (List.mem_cons_of_mem _ hx)
  have key:∀ l:List bN,(∀ T∈l,T.name.length≤26)→(l.map fun T=>UInt8.ofNat i::bC T.name).flatten.length≤28*l.length:=by
   intro l
   induction l with
   | nil=>intro _;simp
   | cons T r ih=>
    intro hh
    have h1:=ih fun x hx=>hh x (List.mem_cons_of_mem _ hx)
    have h2:=hh T List.mem_cons_self
    simp only [List.map_cons,List.flatten_cons,List.length_append,List.length_cons,dH] at h1 ⊢;omega
  have h2:=key l (h l List.mem_cons_self)
  simp only [eN,List.length_append,List.flatten_cons];omega
theorem jd (Ls:fU):(bU Ls).flatten=Ls.flatten.map (·.1):=by unfold bU;rw [List.map_flatten]
theorem yE {num:Nat} {Ls:fU} (h:q7 num Ls):∀ l∈bU Ls,∀ T∈l,T.name.length≤26:=by
 intro l hl T hT
 have:T∈(bU Ls).flatten:=List.mem_flatten.2 ⟨l,hl,hT⟩
 rw [jd] at this
 obtain ⟨p,hp,rfl⟩:=List.mem_map.1 this
 obtain ⟨k,_,h2⟩:=h.names p hp
 rw [h2];exact wm k
theorem sw {s:St} {num:Nat} {Ls:fU} (hl:s.levels=bU Ls) (h:q7 num Ls) (hlog:s.log.length≤24):(cw s).length≤41+28*Ls.flatten.length:=by
 have h1:=yD (bU Ls) 0 (yE h)
 rw [jd,List.length_map] at h1
 unfold cw
 rw [hl]
 simp only [List.length_append,aV,dH];omega
theorem B8 {s:St} {num:Nat} {Ls:fU} (hl:s.levels=bU Ls) (h:q7 num Ls) (hlog:s.log.length≤24) (hn:s.number≤4611686018427387904) (hq:s.seq≤4611686018427387904) (hc:Ls.flatten.length≤1048576):s8 s=true:=by
 unfold s8
 simp only [Bool.and_eq_true,decide_eq_true_eq,Nat.ble_eq,List.all_eq_true]
 refine ⟨⟨⟨hn,hq⟩,by omega⟩,fun l hl2=>?_⟩
 rw [hl] at hl2
 have hle:l.length≤(bU Ls).flatten.length:=by
  obtain ⟨A,B,e⟩:=List.append_of_mem hl2
  rw [e];simp only [List.flatten_append,List.flatten_cons,List.length_append];omega
 rw [jd,List.length_map] at hle
 exact ⟨by omega,fun T hT=>by have:=yE h l hl2 T hT;omega⟩
theorem ni {D:ae} {n:Bs} (hm:D.moves.length≤1099511627776):eM D (.create n)=some (gA D n,cR D n):=by
 unfold eM;dsimp only;rw [if_pos (by rw [bI];exact hm)]
theorem q9 {D:ae} {a b:Bs} (hm:D.moves.length≤1099511627776):eM D (.rename a b)=some (bx D a,fW D a b):=by
 unfold eM;dsimp only;rw [if_pos (by rw [bI];exact hm)]
theorem kx {D:ae} {a:Bs} (hm:D.moves.length≤1099511627776):eM D (.remove a)=some (bx D a,fx D a):=by
 unfold eM;dsimp only;rw [if_pos (by rw [bI];exact hm)]
theorem eR {D D':ae} {o:L7} {r:List L7} {e:cx} (h:eM D o=some (some e,D')):eZ (o::r) D=some (some e,D'):=by rw [eZ,h]
theorem ft {D D':ae} {o:L7} {r:List L7} (h:eM D o=some (none,D')):eZ (o::r) D=eZ r D':=by rw [eZ,h]
theorem tj {C:Prop} {D:ae} {s:St} {old:Option Bs} (hd:D.Ok) (hfr:file D bj=none) (hm:D.moves.length≤549755813888) (hold:∀ o,old=some o→o≠aU∧o≠bj∧∃ b,file D o=some b)
 (hroom:D.used+(aF (cw s)).length≤1099511627776) :
 ∃ x D',eZ (p7 s old) D=some (x,D')∧de D D' ∧
  ((x=none∧D'.moves.length≤1∧(∀ m,file D' m=if m=aU then some (aF (cw s)) else if old=some m then none else file D m)) ∨
   ∃ e,x=some e∧um C D e∧((∀ m,m≠bj→file D' m=file D m)∨∀ m,file D' m=if m=aU then some (aF (cw s)) else file D m)):=by
 unfold p7
 simp only [List.cons_append,List.nil_append]
 cases h1:gA D bj with
 | some e=>
  obtain ⟨k1,k2⟩:=qb hd h1
  have s1:=cK.tick hd
  rw [eR (by rw [ni (by omega),h1])]
  refine ⟨_,_,rfl,by rw [k1];exact s1.later,.inr ⟨e,rfl,?_,.inl fun m _=>by rw [k1];exact s1.file m⟩⟩
  rcases k2 with k2|⟨_,k2⟩
  ·exact .of k2
  ·exact absurd hfr k2
 | none=>
  obtain ⟨_,c2,c3,c4,c5⟩:=sd hd h1
  rw [ft (by rw [ni (by omega),h1])]
  have hcf:file (cR D bj) bj=some []:=by rw [c2,if_pos rfl]
  generalize cR D bj=D1 at c2 c3 c4 c5 hcf
  cases h2:dW D1 bj (aF (cw s)) with
  | some e=>
   obtain ⟨k1,k2⟩:=qc c4.ok h2 hcf
   have s1:=cK.tick c4.ok
   rw [eR (e:=e) (D':=cg D1 bj (aF (cw s))) (by unfold eM;dsimp only;rw [h2])]
   refine ⟨_,_,rfl,by rw [k1];exact c4.trans s1.later,.inr ⟨e,rfl,?_,.inl fun m hm=>by rw [k1,s1.file,c2,if_neg hm]⟩⟩
   rcases k2 with k2|⟨k2,k3⟩
   ·exact .of (k2.before c4)
   ·refine .inr ⟨k2,?_⟩
    rw [← c4.room];omega
  | none=>
   obtain ⟨b,a1,a2,a3,a4,a5,a6⟩:=se c4.ok h2
   rw [hcf] at a1;cases a1
   rw [List.nil_append] at a2
   rw [ft (D':=cg D1 bj (aF (cw s))) (by unfold eM;dsimp only;rw [h2])]
   have haf:file (cg D1 bj (aF (cw s))) bj=some (aF (cw s)):=by rw [a2,if_pos rfl]
   have l2:=c4.trans a4
   generalize cg D1 bj (aF (cw s))=D2 at a2 a3 a4 a5 haf l2
   obtain ⟨y1,y2,y3,y4⟩:=qY a4.ok bj
   have hoth:∀ m,m≠bj→file (gz D2 bj) m=file D m:=fun m hm=>by rw [y1,a2,if_neg hm,c2,if_neg hm]
   have l3:=l2.trans y3
   rcases fe haf with h3|⟨e,h3,ht⟩
   ·rw [ft (D':=gz D2 bj) (by unfold eM;dsimp only;rw [h3])]
    have hsf:file (gz D2 bj) bj=some (aF (cw s)):=by rw [y1];exact haf
    have hmv3:(gz D2 bj).moves.length≤549755813889:=by rw [y4,a5,c5];omega
    generalize gz D2 bj=D3 at y1 y2 y3 y4 hoth l3 hsf hmv3
    rcases fe hsf with h4|⟨e,h4,ht⟩
    ·obtain ⟨r1,r2,r3,r4⟩:=HI y3.ok jc h4
     rw [ft (D':=fW D3 bj aU) (by rw [q9 (by omega),h4])]
     have hall:∀ m,file (fW D3 bj aU) m=if m=aU then some (aF (cw s)) else file D m:=by
      intro m
      rw [r1]
      by_cases hm1:m=bj
      ·subst hm1;rw [if_pos rfl,if_neg jc,hfr]
      ·rw [if_neg hm1]
       by_cases hm2:m=aU
       ·rw [if_pos hm2,if_pos hm2,hsf]
       ·rw [if_neg hm2,if_neg hm2,hoth m hm1]
     have l4:=l3.trans r3
     generalize fW D3 bj aU=D4 at r1 r2 r3 r4 hall l4
     obtain ⟨z1,z2,z3,z4,z5⟩:=BR r3.ok
     have hall5:∀ m,file (fj D4) m=if m=aU then some (aF (cw s)) else file D m:=fun m=>by rw [z1];exact hall m
     have l5:=l4.trans z3
     cases ht:D4.eh with
     | true=>
      rw [eR (e:=(some [],8)) (D':=fj D4) (by unfold eM;dsimp only;rw [ht];rfl)]
      refine ⟨_,_,rfl,l5,.inr ⟨_,rfl,.of ⟨rfl,Int.lt_of_lt_of_le (sb ht) l4.bad⟩,.inr hall5⟩⟩
     | false=>
      rw [ft (D':=fj D4) (by unfold eM;dsimp only;rw [ht];rfl)]
      have hmv:=z5 ht
      generalize fj D4=D5 at z1 z2 z3 z4 z5 hall5 l5 hmv
      cases old with
      | none=>
       refine ⟨none,D5,rfl,l5,.inl ⟨rfl,by rw [hmv];simp,fun m=>?_⟩⟩
       rw [hall5];simp
      | some o=>
       obtain ⟨o1,o2,b,o3⟩:=hold o rfl
       have hof:file D5 o=some b:=by rw [hall5,if_neg o1];exact o3
       dsimp only
       rcases fe hof with h6|⟨e,h6,ht⟩
       ·obtain ⟨v1,v2,v3,v4⟩:=yp z3.ok h6
        rw [ft (D':=fx D5 o) (by rw [kx (by rw [hmv];simp),h6])]
        refine ⟨none,fx D5 o,rfl,l5.trans v3,.inl ⟨rfl,by rw [v4,hmv];simp,fun m=>?_⟩⟩
        rw [v1,hall5]
        by_cases hm:m=o
        ·subst hm;rw [if_pos rfl,if_neg o1,if_pos rfl]
        ·rw [if_neg hm]
         have:¬ (some o=some m):=fun h=>hm (Option.some.inj h).symm
         rw [if_neg this]
       ·rw [eR (e:=e) (D':=fx D5 o) (by rw [kx (by rw [hmv];simp),h6])]
        have s1:=cK.tick z3.ok
        rw [vX h6]
        exact ⟨_,_,rfl,l5.trans s1.later,.inr ⟨e,rfl,.of (ht.before l5),.inr fun m=>by rw [s1.file];exact hall5 m⟩⟩
    ·rw [eR (e:=e) (D':=fW D3 bj aU) (by rw [q9 (by omega),h4])]
     have s1:=cK.tick y3.ok
     rw [Ew h4]
     exact ⟨_,_,rfl,l3.trans s1.later,.inr ⟨e,rfl,.of (ht.before l3),.inl fun m hm=>by rw [s1.file];exact hoth m hm⟩⟩
   ·rw [eR (e:=e) (D':=gz D2 bj) (by unfold eM;dsimp only;rw [h3])]
    exact ⟨_,_,rfl,l3,.inr ⟨e,rfl,.of (ht.before l2),.inl hoth⟩⟩
end
section
open Go.Proofs.YtecibefflhomdaaGreatDoor.Pure
theorem oB:∀ (bs:List (List cG)) (q:Nat),(∀ b∈bs,Ma b)→q+total bs≤4611686018427387904→(bJ q bs).length≤20*bs.length+34*total bs
 | [],_,_,_=>by simp [bJ,total]
 | b::r,q,h,hq=>by
  have hq':total (b::r)=b.length+total r:=by simp [total]
  have h1:=oB r (q+b.length) (fun x hx=>h x (List.mem_cons_of_mem _ hx)) (by omega)
  have hb:=h b List.mem_cons_self
  have key:∀ (l:List cG) (q:Nat),(∀ c∈l,c.key.length≤8∧c.key≠[])→(∀ c∈l,c.del=false→c.val.length≤16)→q+l.length≤4611686018427387904→((bc q l).map dj).flatten.length≤34*l.length:=by
   intro l
   induction l with
   | nil=>intro q _ _ _;simp [bc]
   | cons c r ih=>
    intro q k1 k2 k3
    simp only [List.length_cons] at k3
    have h2:=ih (q+1) (fun x hx=>k1 x (List.mem_cons_of_mem _ hx)) (fun x hx=>k2 x (List.mem_cons_of_mem _ hx)) (by omega)
    have h3:=FY (e:=gR c (q+1)) ⟨(k1 c List.mem_cons_self).1,k2 c List.mem_cons_self,by show q+1<_;omega,(k1 c List.mem_cons_self).2⟩
    simp only [bc,List.map_cons,List.flatten_cons,List.length_append,List.length_cons];omega
  have h2:=key b q hb.key hb.val (by omega)
  simp only [bJ,List.length_append,bW,lB,aV,List.length_cons]
  omega
theorem EI {D:ae} (h:D.Ok) {ns:List Bs} (hk:∀ m,file D m≠none→m∈ns):D.used≤(ns.map fun n=>(fileOf D n).length).sum:=by
 unfold ae.used
 have key:∀ (l:List (Bs×Nat)) (ns:List Bs),(l.map (·.1)).Nodup→(∀ p∈l,p.1∈ns)→(∀ p∈l,aD D.now p.1=some p.2)→(l.map fun p=>(D.aK p.2).length).sum≤(ns.map fun n=>(fileOf D n).length).sum:=by
  intro l
  induction l with
  | nil=>intro ns _ _ _;simp
  | cons p r ih=>
   intro ns hn hs hg
   rw [List.map_cons,List.nodup_cons] at hn
   obtain ⟨A,B,e⟩:=List.append_of_mem (hs p List.mem_cons_self)
   have h1:=ih (A++B) hn.2 (fun x hx=>by
    have h2:=hs x (List.mem_cons_of_mem _ hx)
    rw [e] at h2
    have hne:x.1≠p.1:=fun hh=>hn.1 (by rw [← hh];exact List.mem_map.2 ⟨x,hx,rfl⟩)
    rcases List.mem_append.1 h2 with h2|h2
    ·exact List.mem_append_left _ h2
    ·rcases List.mem_cons.1 h2 with h2|h2
     ·exact absurd h2 hne
     ·exact List.mem_append_right _ h2) fun x hx=>hg x (List.mem_cons_of_mem _ hx)
   have h2:(fileOf D p.1).length=(D.aK p.2).length:=by unfold fileOf;rw [hg p List.mem_cons_self]
   rw [e]
   simp only [List.map_append,List.map_cons,List.sum_append,List.sum_cons] at h1 ⊢
   omega
 refine key D.now ns h.names (fun p hp=>hk _ ?_) fun p hp=>di h.names hp
 unfold file
 rw [di h.names hp];simp
structure je (C:Prop) (s:St) (D:ae) (q0:Nat) (Ls:fU) (bs:List (List cG)) (E:Nat):Prop where
 core:RecM C D { s with seq:=q0 } Ls bs E
 mem:s.mem=ij q0 bs []
 seq:s.seq=q0+total bs
 logf:∃ junk,file D s.log=some (bJ q0 bs++junk)∧junk.length≤1073741824
 known:∀ m,file D m≠none→m=aU∨m=s.log∨m∈bP Ls
 moves:D.moves.length≤4194304
 snaps:s.snaps.length≤4
section
variable {C:Prop} {s:St} {D:ae} {q0:Nat} {Ls:fU} {bs:List (List cG)} {E:Nat}
theorem je.levels (h:je C s D q0 Ls bs E):s.levels=bU Ls:=h.core.levels
theorem Pz.size {fl:Bs→Option Bs} (h:Pz C fl Ls) (hfl:∀ n,fileOf D n=(fl n).getD []):((bP Ls).map fun n=>(fileOf D n).length).sum≤130*cnt Ls:=by
 unfold bP cnt
 rw [List.map_map]
 have key:∀ l:List (bN×List aB),(∀ p∈l,∃ f cs,fl p.1.name=some f∧mG C f p.1 p.2 cs)→(l.map fun p=>(fileOf D p.1.name).length).sum≤130*(l.map (·.2.length)).sum:=by
  intro l
  induction l with
  | nil=>intro _;simp
  | cons p r ih=>
   intro hh
   obtain ⟨f,cs,h1,h2⟩:=hh p List.mem_cons_self
   have h3:=ih fun x hx=>hh x (List.mem_cons_of_mem _ hx)
   have h4:=h2.small
   have h5:(fileOf D p.1.name).length=f.length:=by rw [hfl,h1];rfl
   simp only [List.map_cons,List.sum_cons];omega
 exact key _ h
theorem RecM.EJ {c:St} (h:RecM C D c Ls bs E):c.log.length≤24:=by obtain ⟨k,_,hk⟩:=h.log;rw [hk];exact B7 k
theorem RecM.tS {c:St} (h:RecM C D c Ls bs E) (hE:E≤1048576):Ls.flatten.length≤1048576:=by have:=B5 h.on;have:=h.cntE;omega
theorem RecM.B9 {c:St} (h:RecM C D c Ls bs E) (hE:E≤1048576):(aF (cw c)).length≤29360181:=by
 have h1:=sw h.levels h.lv h.EJ
 have h2:=h.tS hE
 rw [bW];omega
theorem je.used (h:je C s D q0 Ls bs E) (hE:E≤1048576) (hB:bs.length≤16777216):D.used≤2147483648:=by
 obtain ⟨junk,hj1,hj2⟩:=h.logf
 have h1:=EI h.core.ok (ns:=aU::s.log::bP Ls) fun m hm=>by
  rcases h.known m hm with h|h|h
  ·rw [h];exact List.mem_cons_self
  ·rw [h];exact List.mem_cons_of_mem _ List.mem_cons_self
  ·exact List.mem_cons_of_mem _ (List.mem_cons_of_mem _ h)
 have h2:=h.core.on.size (D:=D) (mE D)
 have h3:=oB bs q0 h.core.bsok h.core.seq
 have h4:=h.core.B9 hE
 have h5:=h.core.cntE
 have e1:fileOf D aU=aF (cw { s with seq:=q0 }):=by rw [mE,h.core.state];rfl
 have e2:fileOf D s.log=bJ q0 bs++junk:=by rw [mE,hj1];rfl
 rw [List.map_cons,List.map_cons,List.sum_cons,List.sum_cons,e1,e2,List.length_append] at h1
 omega
theorem je.free (h:je C s D q0 Ls bs E) {m:Bs} (h1:m≠aU) (h2:m≠s.log) (h3:m ∉ bP Ls):file D m=none:=by
 cases hf:file D m with
 | none=>rfl
 | some b=>
  rcases h.known m (by rw [hf];simp) with h|h|h
  ·exact absurd h h1
  ·exact absurd h h2
  ·exact absurd h h3
theorem je.NM (h:je C s D q0 Ls bs E) {k:Nat} (hk:s.number<k) (hk2:k≤9223372036854775808):file D (dZ k)=none:=by
 obtain ⟨j,h1,h2⟩:=h.core.log
 have h2:s.log=cj j:=h2
 have hn:=h.core.num
 have hn:s.number≤4611686018427387904:=hn
 refine h.free (jb k) (by rw [h2];exact jO k j) fun hm=>?_
 obtain ⟨p,hp,hpe⟩:=List.mem_map.1 hm
 obtain ⟨i,hi,hie⟩:=h.core.lv.names p hp
 have hi:i≤s.number:=hi
 have:=fq (hie.symm.trans hpe) (by omega) hk2
 omega
theorem eE (h:q7 q0 Ls) (k:Nat):cj k ∉ bP Ls:=fun hm=>by
 obtain ⟨p,hp,hpe⟩:=List.mem_map.1 hm
 obtain ⟨i,hi,hie⟩:=h.names p hp
 exact jO i k (hie.symm.trans hpe)
theorem gm (h:q7 q0 Ls):aU ∉ bP Ls:=fun hm=>by
 obtain ⟨p,hp,hpe⟩:=List.mem_map.1 hm
 obtain ⟨i,hi,hie⟩:=h.names p hp
 exact jb i (hie.symm.trans hpe)
theorem ik (h:q7 q0 Ls):bj ∉ bP Ls:=fun hm=>by
 obtain ⟨p,hp,hpe⟩:=List.mem_map.1 hm
 obtain ⟨i,hi,hie⟩:=h.names p hp
 exact lK i (hie.symm.trans hpe)
theorem je.KT (h:je C s D q0 Ls bs E):file D bj=none:=by
 obtain ⟨j,h1,h2⟩:=h.core.log
 have h2:s.log=cj j:=h2
 exact h.free jc (by rw [h2];exact (jP j).symm) (ik h.core.lv)
theorem je.NN (h:je C s D q0 Ls bs E) {k:Nat} (hk:s.number<k) (hk2:k≤9223372036854775808):file D (cj k)=none:=by
 obtain ⟨j,h1,h2⟩:=h.core.log
 have h2:s.log=cj j:=h2
 have h1:j≤s.number:=h1
 have hn:s.number≤4611686018427387904:=h.core.num
 exact h.free (eO k) (fun hh=>by have:=oA (hh.trans h2) hk2 (by omega);omega) (eE h.core.lv k)
end
theorem oC {C:Prop} {s:St} {D:ae} {Ls:fU} (hl:s.levels=bU Ls) (hlv:q7 s.number Ls) (hlen:Ls.flatten.length≤1048576) (hn:s.number+1≤4611686018427387904) (hq:s.seq≤4611686018427387904)
 (hd:D.Ok) (hfr:file D bj=none) (hfl:file D (cj (s.number+1))=none) (hlog:(s.log=[]∧file D []=none)∨∃ k b,k≤s.number∧s.log=cj k∧file D s.log=some b) (hm:D.moves.length≤274877906944)
 (hroom:D.used+30000000≤1099511627776) :
 ∃ x D',gP s D true=some (x,D')∧de D D' ∧
  ((x=.ok { s with number:=s.number+1,log:=cj (s.number+1) }∧D'.moves.length≤1 ∧
     ∀ m,file D' m=if m=aU then some (aF (cw { s with number:=s.number+1,log:=cj (s.number+1) })) else if m=cj (s.number+1) then some [] else if m=s.log then none else file D m) ∨
   ∃ e,x=.error e∧um C D e∧((∀ m,m≠bj→m≠cj (s.number+1)→file D' m=file D m) ∨
    ∀ m,file D' m=if m=aU then some (aF (cw { s with number:=s.number+1,log:=cj (s.number+1) })) else if m=cj (s.number+1) then some [] else file D m)):=by
 have hlv2:q7 (s.number+1) Ls:=⟨hlv.len,fun p hp=>by obtain ⟨k,h1,h2⟩:=hlv.names p hp;exact ⟨k,by omega,h2⟩,hlv.nodup,hlv.sep⟩
 have hll:=B7 (s.number+1)
 unfold gP
 rw [if_pos rfl,if_pos (by omega),ni (by omega)]
 cases h1:gA D (cj (s.number+1)) with
 | some e=>
  obtain ⟨k1,k2⟩:=qb hd h1
  have s1:=cK.tick hd
  refine ⟨_,_,rfl,by rw [k1];exact s1.later,.inr ⟨e,rfl,?_,.inl fun m _ _=>by rw [k1];exact s1.file m⟩⟩
  rcases k2 with k2|⟨_,k2⟩
  ·exact .of k2
  ·exact absurd hfl k2
 | none=>
  obtain ⟨_,c2,c3,c4,c5⟩:=sd hd h1
  dsimp only
  generalize cR D (cj (s.number+1))=D1 at c2 c3 c4 c5
  rw [if_pos (B8 (s:={ s with number:=s.number+1,log:=cj (s.number+1) }) hl hlv2 hll hn hq hlen)]
  have hst:=sw (s:={ s with number:=s.number+1,log:=cj (s.number+1) }) hl hlv2 hll
  obtain ⟨x,D',r1,r2,r3⟩:=tj (C:=C) (s:={ s with number:=s.number+1,log:=cj (s.number+1) }) (old:=if s.log=[] then none else some s.log) c4.ok (by rw [c2,if_neg (jP _).symm];exact hfr) (by omega)
   (fun o ho=>by
     rcases hlog with ⟨h,_⟩|⟨k,b,h2,h3,h4⟩
     ·rw [if_pos h] at ho;cases ho
     ·rw [if_neg (by rw [h3];exact KQ k)] at ho
      cases ho
      refine ⟨by rw [h3];exact eO k,by rw [h3];exact jP k,b,?_⟩
      rw [c2,if_neg (fun hh=>by have:=oA (h3.symm.trans hh) (by omega) (by omega);omega)]
      exact h4) (by rw [bW,c3];omega)
  rw [r1]
  rcases r3 with ⟨rfl,r3,r4⟩|⟨e,rfl,r3,r4⟩
  ·refine ⟨_,_,rfl,c4.trans r2,.inl ⟨rfl,r3,fun m=>?_⟩⟩
   rw [r4,c2]
   by_cases hm1:m=aU
   ·rw [if_pos hm1,if_pos hm1]
   ·rw [if_neg hm1,if_neg hm1]
    rcases hlog with ⟨h,h0⟩|⟨k,b,h2,h3,h4⟩
    ·rw [if_pos h,if_neg (by simp),h]
     by_cases hm2:m=cj (s.number+1)
     ·rw [if_pos hm2,if_pos hm2]
     ·rw [if_neg hm2,if_neg hm2]
      by_cases hm3:m=[]
      ·rw [if_pos hm3,hm3,h0]
      ·rw [if_neg hm3]
    ·have hold2:(if s.log=[] then none else some s.log)=some s.log:=if_neg (by rw [h3];exact KQ k)
     rw [hold2]
     by_cases hm2:m=cj (s.number+1)
     ·have:¬ (some s.log=some m):=fun hh=>by
       have hh:=Option.some.inj hh
       have:=oA (h3.symm.trans (hh.trans hm2)) (by omega) (by omega);omega
      rw [if_neg this,if_pos hm2,if_pos hm2]
     ·rw [if_neg hm2,if_neg hm2]
      by_cases hm3:m=s.log
      ·rw [if_pos hm3,if_pos (by rw [hm3])]
      ·rw [if_neg hm3,if_neg (fun hh=>hm3 (Option.some.inj hh).symm)]
  ·refine ⟨_,_,rfl,c4.trans r2,.inr ⟨e,rfl,r3.before c4,?_⟩⟩
   rcases r4 with r4|r4
   ·exact .inl fun m hm1 hm2=>by rw [r4 m hm1,c2,if_neg hm2]
   ·exact .inr fun m=>by rw [r4,c2]
theorem Ca {C:Prop} {s:St} {D:ae} {Ls:fU} (hl:s.levels=bU Ls) (hlv:q7 s.number Ls) (hlen:Ls.flatten.length≤1048576) (hn:s.number≤4611686018427387904) (hq:s.seq≤4611686018427387904)
 (hd:D.Ok) (hfr:file D bj=none) (hlog:s.log.length≤24) (hm:D.moves.length≤274877906944) (hroom:D.used+30000000≤1099511627776) :
 ∃ x D',gP s D false=some (x,D')∧de D D' ∧
  ((x=.ok s∧D'.moves.length≤1∧∀ m,file D' m=if m=aU then some (aF (cw s)) else file D m) ∨
   ∃ e,x=.error e∧um C D e∧((∀ m,m≠bj→file D' m=file D m)∨∀ m,file D' m=if m=aU then some (aF (cw s)) else file D m)):=by
 unfold gP
 rw [if_neg (by simp),if_pos (B8 hl hlv hlog hn hq hlen)]
 have hst:=sw hl hlv hlog
 obtain ⟨x,D',r1,r2,r3⟩:=tj (C:=C) (s:=s) (old:=none) hd hfr (by omega) (fun o ho=>by cases ho) (by rw [bW];omega)
 rw [r1]
 rcases r3 with ⟨rfl,r3,r4⟩|⟨e,rfl,r3,r4⟩
 ·exact ⟨_,_,rfl,r2,.inl ⟨rfl,r3,fun m=>by rw [r4];simp⟩⟩
 ·exact ⟨_,_,rfl,r2,.inr ⟨e,rfl,r3,r4⟩⟩
theorem oD {C:Prop}:∀ (ns:List Bs) {D:ae},D.Ok→ns.Nodup→(∀ n∈ns,file D n≠none)→D.moves.length+ns.length≤1099511627776 →
 ∃ x D',eZ (ns.map .remove) D=some (x,D')∧de D D'∧D'.moves.length≤D.moves.length+ns.length∧(∀ m,m ∉ ns→file D' m=file D m)∧((x=none∧∀ m∈ns,file D' m=none)∨∃ e,x=some e∧um C D e)
 | [],D,hd,_,_,_=>⟨none,D,rfl,de.refl hd,by simp,fun _ _=>rfl,.inl ⟨rfl,by simp⟩⟩
 | n::ns,D,hd,hn,hp,hm=>by
  obtain ⟨hn1,hn2⟩:=List.nodup_cons.1 hn
  rw [List.map_cons]
  obtain ⟨b,hb⟩:∃ b,file D n=some b:=by
   cases hf:file D n with
   | none=>exact absurd hf (hp n List.mem_cons_self)
   | some b=>exact ⟨b,rfl⟩
  simp only [List.length_cons] at hm
  rcases fe hb with h1|⟨e,h1,ht⟩
  ·obtain ⟨v1,v2,v3,v4⟩:=yp hd h1
   rw [ft (D':=fx D n) (by rw [kx (by omega),h1])]
   obtain ⟨x,D',k1,k2,k3,k4,k5⟩:=oD (C:=C) ns v3.ok hn2 (fun x hx=>by
    rw [v1,if_neg (fun hh=>hn1 (by rw [← hh];exact hx))];exact hp x (List.mem_cons_of_mem _ hx)) (by omega)
   refine ⟨x,D',k1,v3.trans k2,by simp only [List.length_cons];omega,fun m hm=>?_,?_⟩
   ·rw [k4 m fun hh=>hm (List.mem_cons_of_mem _ hh),v1,if_neg fun hh=>hm (by rw [hh];exact List.mem_cons_self)]
   ·rcases k5 with ⟨k5,k6⟩|⟨e,k5,k6⟩
    ·refine .inl ⟨k5,fun m hm=>?_⟩
     rcases List.mem_cons.1 hm with rfl|hm
     ·rw [k4 _ hn1,v1,if_pos rfl]
     ·exact k6 m hm
    ·exact .inr ⟨e,k5,k6.before v3⟩
  ·rw [eR (e:=e) (D':=fx D n) (by rw [kx (by omega),h1]),vX h1]
   have s1:=cK.tick hd
   exact ⟨_,_,rfl,s1.later,by rw [s1.moves];omega,fun m _=>s1.file m,.inr ⟨e,rfl,.of ht⟩⟩
end
end Go.Proofs.YtecibefflhomdaaGreatDoor
