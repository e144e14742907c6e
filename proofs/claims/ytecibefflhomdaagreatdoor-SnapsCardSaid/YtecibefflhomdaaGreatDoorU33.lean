/-
  Part 33: PLAIN what stands on the disk, by the levels with their entr; PLAIN a running store and its disk.
-/
import Derived.Test.YtecibefflhomdaaGreatDoorU32
set_option maxHeartbeats 8000000
set_option maxRecDepth 100000
set_option linter.all false
namespace Go.Proofs.YtecibefflhomdaaGreatDoor
open Go
section
open Go.Proofs.YtecibefflhomdaaGreatDoor.Pure
abbrev Lvs:=List (List (Tab×List Ent))
def tabsOf (Ls:Lvs):List (List Tab):=Ls.map (·.map (·.1))
def namesOf (Ls:Lvs):List Bs:=Ls.flatten.map (·.1.name)
def cnt (Ls:Lvs):Nat:=(Ls.flatten.map (·.2.length)).sum
def srcs (Ls:Lvs):List (List Ent):=((Ls.getD 0 []).reverse++(Ls.drop 1).flatten).map (·.2)
structure LvOk (num:Nat) (Ls:Lvs):Prop where
 len:Ls.length=4
 names:∀ p∈Ls.flatten,∃ k,k≤num∧p.1.name=tableN k
 nodup:(namesOf Ls).Nodup
 sep:∀ i L,1≤i→Ls[i]?=some L→L.Pairwise fun a b=>SepC a.2 b.2
def OnD (C:Prop) (fl:Bs→Option Bs) (Ls:Lvs):Prop:=∀ p∈Ls.flatten,∃ f cs,fl p.1.name=some f∧ChOn C f p.1 p.2 cs
def logBytes:Nat→List (List Chg)→Bs
 | _,[]=>[]
 | q,b::r=>frameB (logB q b)++logBytes (q+b.length) r
def total (bs:List (List Chg)):Nat:=(bs.map List.length).sum
def memOf:Nat→List (List Chg)→List Ent→List Ent
 | _,[],m=>m
 | q,b::r,m=>memOf (q+b.length) r ((batchE q b).foldl addL m)
structure BOk (b:List Chg):Prop where
 len:b.length≤8
 key:∀ c∈b,c.key.length≤8∧c.key≠[]
 val:∀ c∈b,c.del=false→c.val.length≤16
structure RecM (C:Prop) (D:PDisk) (c:St) (Ls:Lvs) (bs:List (List Chg)) (E:Nat):Prop where
 ok:D.Ok
 levels:c.levels=tabsOf Ls
 state:file D stateN=some (frameB (stateB c))
 num:c.number≤4611686018427387904
 seq:c.seq+total bs≤4611686018427387904
 cntE:cnt Ls+total bs≤E
 lv:LvOk c.number Ls
 on:OnD C (file D) Ls
 seqs:∀ p∈Ls.flatten,∀ e∈p.2,e.seq≤c.seq
 ord:Ord (srcs Ls)
 log:∃ k,k≤c.number∧c.log=logN k
 logf:∃ junk,file D c.log=some (logBytes c.seq bs++junk)∧openB junk=none
 bsok:∀ b∈bs,BOk b
def keeps2 (c:St) (Ls:Lvs) (m:Bs):Prop:=m=stateN∨m=c.log∨m∈namesOf Ls
theorem RecM.files {C:Prop} {D D':PDisk} {c:St} {Ls:Lvs} {bs:List (List Chg)} {E:Nat} (h:RecM C D c Ls bs E) (hd:D'.Ok) (hf:∀ m,keeps2 c Ls m→file D' m=file D m):RecM C D' c Ls bs E:=
 ⟨hd,h.levels,by rw [hf _ (.inl rfl)];exact h.state,h.num,h.seq,h.cntE,h.lv,fun p hp=>by
   obtain ⟨f,cs,h1,h2⟩:=h.on p hp
   exact ⟨f,cs,by rw [hf _ (.inr (.inr (List.mem_map.2 ⟨p,hp,rfl⟩)))];exact h1,h2⟩,h.seqs,h.ord,h.log,by
   obtain ⟨j,h1,h2⟩:=h.logf
   exact ⟨j,by rw [hf _ (.inr (.inl rfl))];exact h1,h2⟩,h.bsok⟩
theorem cnt_len {Ls:Lvs} (h:∀ p∈Ls.flatten,p.2≠[]):Ls.flatten.length≤cnt Ls:=by
 unfold cnt
 have key:∀ l:List (Tab×List Ent),(∀ p∈l,p.2≠[])→l.length≤(l.map (·.2.length)).sum:=by
  intro l
  induction l with
  | nil=>intro _;simp
  | cons p r ih=>
   intro hh
   have h1:=ih fun x hx=>hh x (List.mem_cons_of_mem _ hx)
   have h2:0<p.2.length:=List.length_pos_iff.2 (hh p List.mem_cons_self)
   simp only [List.map_cons,List.sum_cons,List.length_cons];omega
 exact key _ h
theorem cnt_tabs {C:Prop} {fl:Bs→Option Bs} {Ls:Lvs} (h:OnD C fl Ls):Ls.flatten.length≤cnt Ls:=
 cnt_len fun p hp=>by obtain ⟨_,_,_,h2⟩:=h p hp;exact h2.some
theorem nDig_len:∀ (f n:Nat),nDig f n≤f+1
 | 0,_=>by simp [nDig]
 | f+1,n=>by unfold nDig;have:=nDig_len f (n / 10);split<;>omega
theorem dec_len (n:Nat):(dec n).length≤21:=by unfold dec;rw [D_len];exact nDig_len 20 n
theorem tableN_len (n:Nat):(tableN n).length≤26:=by unfold tableN;have:=dec_len n;simp only [List.length_append,List.length_cons,List.length_nil];omega
theorem logN_len (n:Nat):(logN n).length≤24:=by unfold logN;have:=dec_len n;simp only [List.length_append,List.length_cons,List.length_nil];omega
theorem tabsQ_len:∀ (ls:List (List Tab)) (i:Nat),(∀ l∈ls,∀ T∈l,T.name.length≤26)→(tabsB i ls).length≤28*ls.flatten.length
 | [],_,_=>by simp [tabsB]
 | l::r,i,h=>by
  have h1:=tabsQ_len r (i+1) fun x hx=>h x (List.mem_cons_of_mem _ hx)
  have key:∀ l:List Tab,(∀ T∈l,T.name.length≤26)→(l.map fun T=>UInt8.ofNat i::textB T.name).flatten.length≤28*l.length:=by
   intro l
   induction l with
   | nil=>intro _;simp
   | cons T r ih=>
    intro hh
    have h1:=ih fun x hx=>hh x (List.mem_cons_of_mem _ hx)
    have h2:=hh T List.mem_cons_self
    simp only [List.map_cons,List.flatten_cons,List.length_append,List.length_cons,textB_length] at h1 ⊢;omega
  have h2:=key l (h l List.mem_cons_self)
  simp only [tabsB,List.length_append,List.flatten_cons];omega
theorem flat_tabs (Ls:Lvs):(tabsOf Ls).flatten=Ls.flatten.map (·.1):=by unfold tabsOf;rw [List.map_flatten]
theorem tabs_name {num:Nat} {Ls:Lvs} (h:LvOk num Ls):∀ l∈tabsOf Ls,∀ T∈l,T.name.length≤26:=by
 intro l hl T hT
 have:T∈(tabsOf Ls).flatten:=List.mem_flatten.2 ⟨l,hl,hT⟩
 rw [flat_tabs] at this
 obtain ⟨p,hp,rfl⟩:=List.mem_map.1 this
 obtain ⟨k,_,h2⟩:=h.names p hp
 rw [h2];exact tableN_len k
theorem state_len {s:St} {num:Nat} {Ls:Lvs} (hl:s.levels=tabsOf Ls) (h:LvOk num Ls) (hlog:s.log.length≤24):(stateB s).length≤41+28*Ls.flatten.length:=by
 have h1:=tabsQ_len (tabsOf Ls) 0 (tabs_name h)
 rw [flat_tabs,List.length_map] at h1
 unfold stateB
 rw [hl]
 simp only [List.length_append,numB_length,textB_length];omega
theorem fits_law {s:St} {num:Nat} {Ls:Lvs} (hl:s.levels=tabsOf Ls) (h:LvOk num Ls) (hlog:s.log.length≤24) (hn:s.number≤4611686018427387904) (hq:s.seq≤4611686018427387904) (hc:Ls.flatten.length≤1048576):fitsB s=true:=by
 unfold fitsB
 simp only [Bool.and_eq_true,decide_eq_true_eq,Nat.ble_eq,List.all_eq_true]
 refine ⟨⟨⟨hn,hq⟩,by omega⟩,fun l hl2=>?_⟩
 rw [hl] at hl2
 have hle:l.length≤(tabsOf Ls).flatten.length:=by
  obtain ⟨A,B,e⟩:=List.append_of_mem hl2
  rw [e];simp only [List.flatten_append,List.flatten_cons,List.length_append];omega
 rw [flat_tabs,List.length_map] at hle
 exact ⟨by omega,fun T hT=>by have:=tabs_name h l hl2 T hT;omega⟩
theorem runOp_create {D:PDisk} {n:Bs} (hm:D.moves.length≤1099511627776):runOp D (.create n)=some (createE D n,createD D n):=by
 unfold runOp;dsimp only;rw [if_pos (by rw [big_eq];exact hm)]
theorem runOp_rename {D:PDisk} {a b:Bs} (hm:D.moves.length≤1099511627776):runOp D (.rename a b)=some (findE D a,renameD D a b):=by
 unfold runOp;dsimp only;rw [if_pos (by rw [big_eq];exact hm)]
theorem runOp_remove {D:PDisk} {a:Bs} (hm:D.moves.length≤1099511627776):runOp D (.remove a)=some (findE D a,removeD D a):=by
 unfold runOp;dsimp only;rw [if_pos (by rw [big_eq];exact hm)]
theorem runOps_cons_err {D D':PDisk} {o:DOp} {r:List DOp} {e:Err} (h:runOp D o=some (some e,D')):runOps (o::r) D=some (some e,D'):=by rw [runOps,h]
theorem runOps_cons_ok {D D':PDisk} {o:DOp} {r:List DOp} (h:runOp D o=some (none,D')):runOps (o::r) D=runOps r D':=by rw [runOps,h]
theorem strokes_law {C:Prop} {D:PDisk} {s:St} {old:Option Bs} (hd:D.Ok) (hfr:file D freshN=none) (hm:D.moves.length≤549755813888) (hold:∀ o,old=some o→o≠stateN∧o≠freshN∧∃ b,file D o=some b)
 (hroom:D.used+(frameB (stateB s)).length≤1099511627776) :
 ∃ x D',runOps (stepsS s old) D=some (x,D')∧Later D D' ∧
  ((x=none∧D'.moves.length≤1∧(∀ m,file D' m=if m=stateN then some (frameB (stateB s)) else if old=some m then none else file D m)) ∨
   ∃ e,x=some e∧Flt C D e∧((∀ m,m≠freshN→file D' m=file D m)∨∀ m,file D' m=if m=stateN then some (frameB (stateB s)) else file D m)):=by
 unfold stepsS
 simp only [List.cons_append,List.nil_append]
 cases h1:createE D freshN with
 | some e=>
  obtain ⟨k1,k2⟩:=create_err hd h1
  have s1:=Same.tick hd
  rw [runOps_cons_err (by rw [runOp_create (by omega),h1])]
  refine ⟨_,_,rfl,by rw [k1];exact s1.later,.inr ⟨e,rfl,?_,.inl fun m _=>by rw [k1];exact s1.file m⟩⟩
  rcases k2 with k2|⟨_,k2⟩
  ·exact .of k2
  ·exact absurd hfr k2
 | none=>
  obtain ⟨_,c2,c3,c4,c5⟩:=create_ok hd h1
  rw [runOps_cons_ok (by rw [runOp_create (by omega),h1])]
  have hcf:file (createD D freshN) freshN=some []:=by rw [c2,if_pos rfl]
  generalize createD D freshN=D1 at c2 c3 c4 c5 hcf
  cases h2:appendE D1 freshN (frameB (stateB s)) with
  | some e=>
   obtain ⟨k1,k2⟩:=append_err c4.ok h2 hcf
   have s1:=Same.tick c4.ok
   rw [runOps_cons_err (e:=e) (D':=appended D1 freshN (frameB (stateB s))) (by unfold runOp;dsimp only;rw [h2])]
   refine ⟨_,_,rfl,by rw [k1];exact c4.trans s1.later,.inr ⟨e,rfl,?_,.inl fun m hm=>by rw [k1,s1.file,c2,if_neg hm]⟩⟩
   rcases k2 with k2|⟨k2,k3⟩
   ·exact .of (k2.before c4)
   ·refine .inr ⟨k2,?_⟩
    rw [← c4.room];omega
  | none=>
   obtain ⟨b,a1,a2,a3,a4,a5,a6⟩:=append_ok c4.ok h2
   rw [hcf] at a1;cases a1
   rw [List.nil_append] at a2
   rw [runOps_cons_ok (D':=appended D1 freshN (frameB (stateB s))) (by unfold runOp;dsimp only;rw [h2])]
   have haf:file (appended D1 freshN (frameB (stateB s))) freshN=some (frameB (stateB s)):=by rw [a2,if_pos rfl]
   have l2:=c4.trans a4
   generalize appended D1 freshN (frameB (stateB s))=D2 at a2 a3 a4 a5 haf l2
   obtain ⟨y1,y2,y3,y4⟩:=sync_law a4.ok freshN
   have hoth:∀ m,m≠freshN→file (syncD D2 freshN) m=file D m:=fun m hm=>by rw [y1,a2,if_neg hm,c2,if_neg hm]
   have l3:=l2.trans y3
   rcases findE_has haf with h3|⟨e,h3,ht⟩
   ·rw [runOps_cons_ok (D':=syncD D2 freshN) (by unfold runOp;dsimp only;rw [h3])]
    have hsf:file (syncD D2 freshN) freshN=some (frameB (stateB s)):=by rw [y1];exact haf
    have hmv3:(syncD D2 freshN).moves.length≤549755813889:=by rw [y4,a5,c5];omega
    generalize syncD D2 freshN=D3 at y1 y2 y3 y4 hoth l3 hsf hmv3
    rcases findE_has hsf with h4|⟨e,h4,ht⟩
    ·obtain ⟨r1,r2,r3,r4⟩:=rename_ok y3.ok fresh_state h4
     rw [runOps_cons_ok (D':=renameD D3 freshN stateN) (by rw [runOp_rename (by omega),h4])]
     have hall:∀ m,file (renameD D3 freshN stateN) m=if m=stateN then some (frameB (stateB s)) else file D m:=by
      intro m
      rw [r1]
      by_cases hm1:m=freshN
      ·subst hm1;rw [if_pos rfl,if_neg fresh_state,hfr]
      ·rw [if_neg hm1]
       by_cases hm2:m=stateN
       ·rw [if_pos hm2,if_pos hm2,hsf]
       ·rw [if_neg hm2,if_neg hm2,hoth m hm1]
     have l4:=l3.trans r3
     generalize renameD D3 freshN stateN=D4 at r1 r2 r3 r4 hall l4
     obtain ⟨z1,z2,z3,z4,z5⟩:=syncdir_law r3.ok
     have hall5:∀ m,file (syncdirR D4) m=if m=stateN then some (frameB (stateB s)) else file D m:=fun m=>by rw [z1];exact hall m
     have l5:=l4.trans z3
     cases ht:D4.trips with
     | true=>
      rw [runOps_cons_err (e:=(some [],8)) (D':=syncdirR D4) (by unfold runOp;dsimp only;rw [ht];rfl)]
      refine ⟨_,_,rfl,l5,.inr ⟨_,rfl,.of ⟨rfl,Int.lt_of_lt_of_le (trips_bad ht) l4.bad⟩,.inr hall5⟩⟩
     | false=>
      rw [runOps_cons_ok (D':=syncdirR D4) (by unfold runOp;dsimp only;rw [ht];rfl)]
      have hmv:=z5 ht
      generalize syncdirR D4=D5 at z1 z2 z3 z4 z5 hall5 l5 hmv
      cases old with
      | none=>
       refine ⟨none,D5,rfl,l5,.inl ⟨rfl,by rw [hmv];simp,fun m=>?_⟩⟩
       rw [hall5];simp
      | some o=>
       obtain ⟨o1,o2,b,o3⟩:=hold o rfl
       have hof:file D5 o=some b:=by rw [hall5,if_neg o1];exact o3
       dsimp only
       rcases findE_has hof with h6|⟨e,h6,ht⟩
       ·obtain ⟨v1,v2,v3,v4⟩:=remove_ok z3.ok h6
        rw [runOps_cons_ok (D':=removeD D5 o) (by rw [runOp_remove (by rw [hmv];simp),h6])]
        refine ⟨none,removeD D5 o,rfl,l5.trans v3,.inl ⟨rfl,by rw [v4,hmv];simp,fun m=>?_⟩⟩
        rw [v1,hall5]
        by_cases hm:m=o
        ·subst hm;rw [if_pos rfl,if_neg o1,if_pos rfl]
        ·rw [if_neg hm]
         have:¬ (some o=some m):=fun h=>hm (Option.some.inj h).symm
         rw [if_neg this]
       ·rw [runOps_cons_err (e:=e) (D':=removeD D5 o) (by rw [runOp_remove (by rw [hmv];simp),h6])]
        have s1:=Same.tick z3.ok
        rw [remove_err h6]
        exact ⟨_,_,rfl,l5.trans s1.later,.inr ⟨e,rfl,.of (ht.before l5),.inr fun m=>by rw [s1.file];exact hall5 m⟩⟩
    ·rw [runOps_cons_err (e:=e) (D':=renameD D3 freshN stateN) (by rw [runOp_rename (by omega),h4])]
     have s1:=Same.tick y3.ok
     rw [rename_err h4]
     exact ⟨_,_,rfl,l3.trans s1.later,.inr ⟨e,rfl,.of (ht.before l3),.inl fun m hm=>by rw [s1.file];exact hoth m hm⟩⟩
   ·rw [runOps_cons_err (e:=e) (D':=syncD D2 freshN) (by unfold runOp;dsimp only;rw [h3])]
    exact ⟨_,_,rfl,l3,.inr ⟨e,rfl,.of (ht.before l2),.inl hoth⟩⟩
end
section
open Go.Proofs.YtecibefflhomdaaGreatDoor.Pure
theorem logBytes_le:∀ (bs:List (List Chg)) (q:Nat),(∀ b∈bs,BOk b)→q+total bs≤4611686018427387904→(logBytes q bs).length≤20*bs.length+34*total bs
 | [],_,_,_=>by simp [logBytes,total]
 | b::r,q,h,hq=>by
  have hq':total (b::r)=b.length+total r:=by simp [total]
  have h1:=logBytes_le r (q+b.length) (fun x hx=>h x (List.mem_cons_of_mem _ hx)) (by omega)
  have hb:=h b List.mem_cons_self
  have key:∀ (l:List Chg) (q:Nat),(∀ c∈l,c.key.length≤8∧c.key≠[])→(∀ c∈l,c.del=false→c.val.length≤16)→q+l.length≤4611686018427387904→((batchE q l).map putB).flatten.length≤34*l.length:=by
   intro l
   induction l with
   | nil=>intro q _ _ _;simp [batchE]
   | cons c r ih=>
    intro q k1 k2 k3
    simp only [List.length_cons] at k3
    have h2:=ih (q+1) (fun x hx=>k1 x (List.mem_cons_of_mem _ hx)) (fun x hx=>k2 x (List.mem_cons_of_mem _ hx)) (by omega)
    have h3:=putB_le (e:=chgE c (q+1)) ⟨(k1 c List.mem_cons_self).1,k2 c List.mem_cons_self,by show q+1<_;omega⟩
    simp only [batchE,List.map_cons,List.flatten_cons,List.length_append,List.length_cons];omega
  have h2:=key b q hb.key hb.val (by omega)
  simp only [logBytes,List.length_append,frameB_length,logB,numB_length,List.length_cons]
  omega
theorem used_known {D:PDisk} (h:D.Ok) {ns:List Bs} (hk:∀ m,file D m≠none→m∈ns):D.used≤(ns.map fun n=>(fileOf D n).length).sum:=by
 unfold PDisk.used
 have key:∀ (l:List (Bs×Nat)) (ns:List Bs),(l.map (·.1)).Nodup→(∀ p∈l,p.1∈ns)→(∀ p∈l,aget D.now p.1=some p.2)→(l.map fun p=>(D.dataOf p.2).length).sum≤(ns.map fun n=>(fileOf D n).length).sum:=by
  intro l
  induction l with
  | nil=>intro ns _ _ _;simp
  | cons p r ih=>
   intro ns hn hs hg
   rw [List.map_cons,List.nodup_cons] at hn
   obtain ⟨A,B,e⟩:=List.append_of_mem (hs p List.mem_cons_self)
   have h1:=ih (A++B) hn.2 (fun x hx=>by
    have h2:=hs x (List.mem_cons_of_mem _ hx)
    rw [e] at h2
    have hne:x.1≠p.1:=fun hh=>hn.1 (by rw [← hh];exact List.mem_map.2 ⟨x,hx,rfl⟩)
    rcases List.mem_append.1 h2 with h2|h2
    ·exact List.mem_append_left _ h2
    ·rcases List.mem_cons.1 h2 with h2|h2
     ·exact absurd h2 hne
     ·exact List.mem_append_right _ h2) fun x hx=>hg x (List.mem_cons_of_mem _ hx)
   have h2:(fileOf D p.1).length=(D.dataOf p.2).length:=by unfold fileOf;rw [hg p List.mem_cons_self]
   rw [e]
   simp only [List.map_append,List.map_cons,List.sum_append,List.sum_cons] at h1 ⊢
   omega
 refine key D.now ns h.names (fun p hp=>hk _ ?_) fun p hp=>aget_of_mem h.names hp
 unfold file
 rw [aget_of_mem h.names hp];simp
structure Run (C:Prop) (s:St) (D:PDisk) (q0:Nat) (Ls:Lvs) (bs:List (List Chg)) (E:Nat):Prop where
 core:RecM C D { s with seq:=q0 } Ls bs E
 mem:s.mem=memOf q0 bs []
 seq:s.seq=q0+total bs
 logf:∃ junk,file D s.log=some (logBytes q0 bs++junk)∧junk.length≤1073741824
 known:∀ m,file D m≠none→m=stateN∨m=s.log∨m∈namesOf Ls
 moves:D.moves.length≤4194304
 snaps:s.snaps.length≤4
section
variable {C:Prop} {s:St} {D:PDisk} {q0:Nat} {Ls:Lvs} {bs:List (List Chg)} {E:Nat}
theorem Run.levels (h:Run C s D q0 Ls bs E):s.levels=tabsOf Ls:=h.core.levels
theorem OnD.size {fl:Bs→Option Bs} (h:OnD C fl Ls) (hfl:∀ n,fileOf D n=(fl n).getD []):((namesOf Ls).map fun n=>(fileOf D n).length).sum≤130*cnt Ls:=by
 unfold namesOf cnt
 rw [List.map_map]
 have key:∀ l:List (Tab×List Ent),(∀ p∈l,∃ f cs,fl p.1.name=some f∧ChOn C f p.1 p.2 cs)→(l.map fun p=>(fileOf D p.1.name).length).sum≤130*(l.map (·.2.length)).sum:=by
  intro l
  induction l with
  | nil=>intro _;simp
  | cons p r ih=>
   intro hh
   obtain ⟨f,cs,h1,h2⟩:=hh p List.mem_cons_self
   have h3:=ih fun x hx=>hh x (List.mem_cons_of_mem _ hx)
   have h4:=h2.small
   have h5:(fileOf D p.1.name).length=f.length:=by rw [hfl,h1];rfl
   simp only [List.map_cons,List.sum_cons];omega
 exact key _ h
theorem RecM.loglen {c:St} (h:RecM C D c Ls bs E):c.log.length≤24:=by obtain ⟨k,_,hk⟩:=h.log;rw [hk];exact logN_len k
theorem RecM.tabs {c:St} (h:RecM C D c Ls bs E) (hE:E≤1048576):Ls.flatten.length≤1048576:=by have:=cnt_tabs h.on;have:=h.cntE;omega
theorem RecM.statelen {c:St} (h:RecM C D c Ls bs E) (hE:E≤1048576):(frameB (stateB c)).length≤29360181:=by
 have h1:=state_len h.levels h.lv h.loglen
 have h2:=h.tabs hE
 rw [frameB_length];omega
theorem Run.used (h:Run C s D q0 Ls bs E) (hE:E≤1048576) (hB:bs.length≤16777216):D.used≤2147483648:=by
 obtain ⟨junk,hj1,hj2⟩:=h.logf
 have h1:=used_known h.core.ok (ns:=stateN::s.log::namesOf Ls) fun m hm=>by
  rcases h.known m hm with h|h|h
  ·rw [h];exact List.mem_cons_self
  ·rw [h];exact List.mem_cons_of_mem _ List.mem_cons_self
  ·exact List.mem_cons_of_mem _ (List.mem_cons_of_mem _ h)
 have h2:=h.core.on.size (D:=D) (fileOf_eq D)
 have h3:=logBytes_le bs q0 h.core.bsok h.core.seq
 have h4:=h.core.statelen hE
 have h5:=h.core.cntE
 have e1:fileOf D stateN=frameB (stateB { s with seq:=q0 }):=by rw [fileOf_eq,h.core.state];rfl
 have e2:fileOf D s.log=logBytes q0 bs++junk:=by rw [fileOf_eq,hj1];rfl
 rw [List.map_cons,List.map_cons,List.sum_cons,List.sum_cons,e1,e2,List.length_append] at h1
 omega
theorem Run.free (h:Run C s D q0 Ls bs E) {m:Bs} (h1:m≠stateN) (h2:m≠s.log) (h3:m ∉ namesOf Ls):file D m=none:=by
 cases hf:file D m with
 | none=>rfl
 | some b=>
  rcases h.known m (by rw [hf];simp) with h|h|h
  ·exact absurd h h1
  ·exact absurd h h2
  ·exact absurd h h3
theorem Run.freeT (h:Run C s D q0 Ls bs E) {k:Nat} (hk:s.number<k) (hk2:k≤9223372036854775808):file D (tableN k)=none:=by
 obtain ⟨j,h1,h2⟩:=h.core.log
 have h2:s.log=logN j:=h2
 have hn:=h.core.num
 have hn:s.number≤4611686018427387904:=hn
 refine h.free (table_state k) (by rw [h2];exact table_log k j) fun hm=>?_
 obtain ⟨p,hp,hpe⟩:=List.mem_map.1 hm
 obtain ⟨i,hi,hie⟩:=h.core.lv.names p hp
 have hi:i≤s.number:=hi
 have:=tableN_inj (hie.symm.trans hpe) (by omega) hk2
 omega
theorem names_ne_log (h:LvOk q0 Ls) (k:Nat):logN k ∉ namesOf Ls:=fun hm=>by
 obtain ⟨p,hp,hpe⟩:=List.mem_map.1 hm
 obtain ⟨i,hi,hie⟩:=h.names p hp
 exact table_log i k (hie.symm.trans hpe)
theorem names_ne_state (h:LvOk q0 Ls):stateN ∉ namesOf Ls:=fun hm=>by
 obtain ⟨p,hp,hpe⟩:=List.mem_map.1 hm
 obtain ⟨i,hi,hie⟩:=h.names p hp
 exact table_state i (hie.symm.trans hpe)
theorem names_ne_fresh (h:LvOk q0 Ls):freshN ∉ namesOf Ls:=fun hm=>by
 obtain ⟨p,hp,hpe⟩:=List.mem_map.1 hm
 obtain ⟨i,hi,hie⟩:=h.names p hp
 exact table_fresh i (hie.symm.trans hpe)
theorem Run.freeF (h:Run C s D q0 Ls bs E):file D freshN=none:=by
 obtain ⟨j,h1,h2⟩:=h.core.log
 have h2:s.log=logN j:=h2
 exact h.free fresh_state (by rw [h2];exact (log_fresh j).symm) (names_ne_fresh h.core.lv)
theorem Run.freeL (h:Run C s D q0 Ls bs E) {k:Nat} (hk:s.number<k) (hk2:k≤9223372036854775808):file D (logN k)=none:=by
 obtain ⟨j,h1,h2⟩:=h.core.log
 have h2:s.log=logN j:=h2
 have h1:j≤s.number:=h1
 have hn:s.number≤4611686018427387904:=h.core.num
 exact h.free (log_state k) (fun hh=>by have:=logN_inj (hh.trans h2) hk2 (by omega);omega) (names_ne_log h.core.lv k)
end
theorem commitT_law {C:Prop} {s:St} {D:PDisk} {Ls:Lvs} (hl:s.levels=tabsOf Ls) (hlv:LvOk s.number Ls) (hlen:Ls.flatten.length≤1048576) (hn:s.number+1≤4611686018427387904) (hq:s.seq≤4611686018427387904)
 (hd:D.Ok) (hfr:file D freshN=none) (hfl:file D (logN (s.number+1))=none) (hlog:(s.log=[]∧file D []=none)∨∃ k b,k≤s.number∧s.log=logN k∧file D s.log=some b) (hm:D.moves.length≤274877906944)
 (hroom:D.used+30000000≤1099511627776) :
 ∃ x D',commitS s D true=some (x,D')∧Later D D' ∧
  ((x=.ok { s with number:=s.number+1,log:=logN (s.number+1) }∧D'.moves.length≤1 ∧
     ∀ m,file D' m=if m=stateN then some (frameB (stateB { s with number:=s.number+1,log:=logN (s.number+1) })) else if m=logN (s.number+1) then some [] else if m=s.log then none else file D m) ∨
   ∃ e,x=.error e∧Flt C D e∧((∀ m,m≠freshN→m≠logN (s.number+1)→file D' m=file D m) ∨
    ∀ m,file D' m=if m=stateN then some (frameB (stateB { s with number:=s.number+1,log:=logN (s.number+1) })) else if m=logN (s.number+1) then some [] else file D m)):=by
 have hlv2:LvOk (s.number+1) Ls:=⟨hlv.len,fun p hp=>by obtain ⟨k,h1,h2⟩:=hlv.names p hp;exact ⟨k,by omega,h2⟩,hlv.nodup,hlv.sep⟩
 have hll:=logN_len (s.number+1)
 unfold commitS
 rw [if_pos rfl,if_pos (by omega),runOp_create (by omega)]
 cases h1:createE D (logN (s.number+1)) with
 | some e=>
  obtain ⟨k1,k2⟩:=create_err hd h1
  have s1:=Same.tick hd
  refine ⟨_,_,rfl,by rw [k1];exact s1.later,.inr ⟨e,rfl,?_,.inl fun m _ _=>by rw [k1];exact s1.file m⟩⟩
  rcases k2 with k2|⟨_,k2⟩
  ·exact .of k2
  ·exact absurd hfl k2
 | none=>
  obtain ⟨_,c2,c3,c4,c5⟩:=create_ok hd h1
  dsimp only
  generalize createD D (logN (s.number+1))=D1 at c2 c3 c4 c5
  rw [if_pos (fits_law (s:={ s with number:=s.number+1,log:=logN (s.number+1) }) hl hlv2 hll hn hq hlen)]
  have hst:=state_len (s:={ s with number:=s.number+1,log:=logN (s.number+1) }) hl hlv2 hll
  obtain ⟨x,D',r1,r2,r3⟩:=strokes_law (C:=C) (s:={ s with number:=s.number+1,log:=logN (s.number+1) }) (old:=if s.log=[] then none else some s.log) c4.ok (by rw [c2,if_neg (log_fresh _).symm];exact hfr) (by omega)
   (fun o ho=>by
     rcases hlog with ⟨h,_⟩|⟨k,b,h2,h3,h4⟩
     ·rw [if_pos h] at ho;cases ho
     ·rw [if_neg (by rw [h3];exact log_ne k)] at ho
      cases ho
      refine ⟨by rw [h3];exact log_state k,by rw [h3];exact log_fresh k,b,?_⟩
      rw [c2,if_neg (fun hh=>by have:=logN_inj (h3.symm.trans hh) (by omega) (by omega);omega)]
      exact h4) (by rw [frameB_length,c3];omega)
  rw [r1]
  rcases r3 with ⟨rfl,r3,r4⟩|⟨e,rfl,r3,r4⟩
  ·refine ⟨_,_,rfl,c4.trans r2,.inl ⟨rfl,r3,fun m=>?_⟩⟩
   rw [r4,c2]
   by_cases hm1:m=stateN
   ·rw [if_pos hm1,if_pos hm1]
   ·rw [if_neg hm1,if_neg hm1]
    rcases hlog with ⟨h,h0⟩|⟨k,b,h2,h3,h4⟩
    ·rw [if_pos h,if_neg (by simp),h]
     by_cases hm2:m=logN (s.number+1)
     ·rw [if_pos hm2,if_pos hm2]
     ·rw [if_neg hm2,if_neg hm2]
      by_cases hm3:m=[]
      ·rw [if_pos hm3,hm3,h0]
      ·rw [if_neg hm3]
    ·have hold2:(if s.log=[] then none else some s.log)=some s.log:=if_neg (by rw [h3];exact log_ne k)
     rw [hold2]
     by_cases hm2:m=logN (s.number+1)
     ·have:¬ (some s.log=some m):=fun hh=>by
       have hh:=Option.some.inj hh
       have:=logN_inj (h3.symm.trans (hh.trans hm2)) (by omega) (by omega);omega
      rw [if_neg this,if_pos hm2,if_pos hm2]
     ·rw [if_neg hm2,if_neg hm2]
      by_cases hm3:m=s.log
      ·rw [if_pos hm3,if_pos (by rw [hm3])]
      ·rw [if_neg hm3,if_neg (fun hh=>hm3 (Option.some.inj hh).symm)]
  ·refine ⟨_,_,rfl,c4.trans r2,.inr ⟨e,rfl,r3.before c4,?_⟩⟩
   rcases r4 with r4|r4
   ·exact .inl fun m hm1 hm2=>by rw [r4 m hm1,c2,if_neg hm2]
   ·exact .inr fun m=>by rw [r4,c2]
theorem commitF_law {C:Prop} {s:St} {D:PDisk} {Ls:Lvs} (hl:s.levels=tabsOf Ls) (hlv:LvOk s.number Ls) (hlen:Ls.flatten.length≤1048576) (hn:s.number≤4611686018427387904) (hq:s.seq≤4611686018427387904)
 (hd:D.Ok) (hfr:file D freshN=none) (hlog:s.log.length≤24) (hm:D.moves.length≤274877906944) (hroom:D.used+30000000≤1099511627776) :
 ∃ x D',commitS s D false=some (x,D')∧Later D D' ∧
  ((x=.ok s∧D'.moves.length≤1∧∀ m,file D' m=if m=stateN then some (frameB (stateB s)) else file D m) ∨
   ∃ e,x=.error e∧Flt C D e∧((∀ m,m≠freshN→file D' m=file D m)∨∀ m,file D' m=if m=stateN then some (frameB (stateB s)) else file D m)):=by
 unfold commitS
 rw [if_neg (by simp),if_pos (fits_law hl hlv hlog hn hq hlen)]
 have hst:=state_len hl hlv hlog
 obtain ⟨x,D',r1,r2,r3⟩:=strokes_law (C:=C) (s:=s) (old:=none) hd hfr (by omega) (fun o ho=>by cases ho) (by rw [frameB_length];omega)
 rw [r1]
 rcases r3 with ⟨rfl,r3,r4⟩|⟨e,rfl,r3,r4⟩
 ·exact ⟨_,_,rfl,r2,.inl ⟨rfl,r3,fun m=>by rw [r4];simp⟩⟩
 ·exact ⟨_,_,rfl,r2,.inr ⟨e,rfl,r3,r4⟩⟩
theorem removes_law {C:Prop}:∀ (ns:List Bs) {D:PDisk},D.Ok→ns.Nodup→(∀ n∈ns,file D n≠none)→D.moves.length+ns.length≤1099511627776 →
 ∃ x D',runOps (ns.map .remove) D=some (x,D')∧Later D D'∧D'.moves.length≤D.moves.length+ns.length∧(∀ m,m ∉ ns→file D' m=file D m)∧((x=none∧∀ m∈ns,file D' m=none)∨∃ e,x=some e∧Flt C D e)
 | [],D,hd,_,_,_=>⟨none,D,rfl,Later.refl hd,by simp,fun _ _=>rfl,.inl ⟨rfl,by simp⟩⟩
 | n::ns,D,hd,hn,hp,hm=>by
  obtain ⟨hn1,hn2⟩:=List.nodup_cons.1 hn
  rw [List.map_cons]
  obtain ⟨b,hb⟩:∃ b,file D n=some b:=by
   cases hf:file D n with
   | none=>exact absurd hf (hp n List.mem_cons_self)
   | some b=>exact ⟨b,rfl⟩
  simp only [List.length_cons] at hm
  rcases findE_has hb with h1|⟨e,h1,ht⟩
  ·obtain ⟨v1,v2,v3,v4⟩:=remove_ok hd h1
   rw [runOps_cons_ok (D':=removeD D n) (by rw [runOp_remove (by omega),h1])]
   obtain ⟨x,D',k1,k2,k3,k4,k5⟩:=removes_law (C:=C) ns v3.ok hn2 (fun x hx=>by
    rw [v1,if_neg (fun hh=>hn1 (by rw [← hh];exact hx))];exact hp x (List.mem_cons_of_mem _ hx)) (by omega)
   refine ⟨x,D',k1,v3.trans k2,by simp only [List.length_cons];omega,fun m hm=>?_,?_⟩
   ·rw [k4 m fun hh=>hm (List.mem_cons_of_mem _ hh),v1,if_neg fun hh=>hm (by rw [hh];exact List.mem_cons_self)]
   ·rcases k5 with ⟨k5,k6⟩|⟨e,k5,k6⟩
    ·refine .inl ⟨k5,fun m hm=>?_⟩
     rcases List.mem_cons.1 hm with rfl|hm
     ·rw [k4 _ hn1,v1,if_pos rfl]
     ·exact k6 m hm
    ·exact .inr ⟨e,k5,k6.before v3⟩
  ·rw [runOps_cons_err (e:=e) (D':=removeD D n) (by rw [runOp_remove (by omega),h1]),remove_err h1]
   have s1:=Same.tick hd
   exact ⟨_,_,rfl,s1.later,by rw [s1.moves];omega,fun m _=>s1.file m,.inr ⟨e,rfl,.of ht⟩⟩
end
end Go.Proofs.YtecibefflhomdaaGreatDoor
