/-
  Part 21: The engine 26 struct values within drawn regions; WALKS a table's block is written; WALKS table.
-/
import Derived.Test.YtecibefflhomdaaGreatDoorV20
set_option maxHeartbeats 8000000
set_option maxRecDepth 100000
set_option linter.all false
namespace Go.Proofs.YtecibefflhomdaaGreatDoor
open Go
section
attribute [local semireducible] WL WC WQ
attribute [local semireducible] WT WO
section
variable {ops:Array Oper} {Q:Exit→Act→World→Prop} {S:World→Prop} {K:List Nat} {n:Nat} {ds:Md} {e:Env} {w w':World} {b:Bool} {t:OT} {rest:List Oper} {ord:List (Nat×Bool)}
variable {op:Op} {ty:TypeId} {pos:String} {af:Array Edge} {d i j:Nat} {v u:Value}
theorem yh {parts:Array (Nat×Operand)} {tt:Nat} {ps:List (Nat×Value)} {pl:List (Nat×Nat)} {z cs:List Value} {g:Option (Nat×Bool)} {a:Act} {w:World} (ha:Fr n ds e a) (hp:AW e parts.toList=some ps) (hpl:lk lO tt=some pl) (hz:lk jH tt=some z)
 (hf:nE (fun i=>pl[i]?) z ps=some cs):(execOp a.eval ⟨some d,.build tt parts,ty,pos,af,g⟩).run Tryz.prog w=.ok (.value (.agg cs.toArray)) w:=by
 obtain ⟨zv,hzv,hzc⟩:=tY (w:=w) hz
 obtain ⟨fs,hfs,rfl⟩:=uN hpl
 have hall:∀ f∈fs.toList,∃ i,Tryz.prog.info? f.type=some i:=by
  have:=List.all_eq_true.1 uO tt (List.mem_map.2 ⟨_,zd hpl,rfl⟩)
  unfold zj at this
  rw [hfs] at this
  intro f hf
  exact Option.isSome_iff_exists.1 (List.all_eq_true.1 this f hf)
 have e1:parts.map (fun (i,x)=>(i,a.eval x))=ps.toArray:=by
  rw [← ha.AW hp];cases parts;simp
 have hm:=sO (w:=w) hall
 have hfl:=qm hf
 have hpl2:∀ (q:Array (Nat×Nat)),q=(fs.toList.map fun f=>(f.offset,Tryz.prog.cellsOf f.type)).toArray→(fun i:Nat=>q[i]?)=fun i:Nat=>(fs.toList.map fun f=>(f.offset,Tryz.prog.cellsOf f.type))[i]?:=by
  rintro q rfl;funext i;simp
 simp only [execOp,e1,Instr.build,Sem.run_bind,hzv,Result.andThen_ok,cE hfs,hzc]
 have hmA:(fs.mapM (fun f=>do pure (f.offset,← sizeOf f.type)):Sem (Array (Nat×Nat))).run Tryz.prog w=.ok (fs.toList.map fun f=>(f.offset,Tryz.prog.cellsOf f.type)).toArray w:=by
  obtain ⟨fl⟩:=fs
  have:=List.mapM_toArray (m:=Sem) (f:=fun f:Field=>do pure (f.offset,← sizeOf f.type)) (l:=fl)
  rw [this]
  simp only [Sem.run_map,hm,Result.andThen_ok]
 rw [hmA]
 simp only [Result.andThen_ok,hpl2 _ rfl,hfl]
 simp
theorem oq {parts:Array (Nat×Operand)} {tt:Nat} {ps:List (Nat×Value)} {pl:List (Nat×Nat)} {z:List Value} (cs:List Value) (ho:ops[i]?=some ⟨some d,.build tt parts,ty,pos,af,none⟩) (kk:WT ops Q S K n ds b t ((d,.agg cs.toArray)::e) w)
 (hp:AW e parts.toList=some ps:=by rfl) (hpl:lk lO tt=some pl:=by rfl) (hz:lk jH tt=some z:=by rfl)
 (hf:nE (fun i=>pl[i]?) z ps=some cs:=by rfl) (hd:Nat.blt d n=true:=by rfl):WT ops Q S K n ds b (.q i t) e w:=
 DQ ho (fun _ _ ha=>yh ha hp hpl hz hf) hd kk
theorem qS {parts:Array (Nat×Operand)} {tt:Nat} {ps:List (Nat×Value)} {pl:List (Nat×Nat)} {z:List Value} (cs:List Value) (ho:ops[i]?=some ⟨some d,.build tt parts,ty,pos,af,none⟩) (kk:WO ops Q S n ds ord ((d,.agg cs.toArray)::e) w)
 (hp:AW e parts.toList=some ps:=by rfl) (hpl:lk lO tt=some pl:=by rfl) (hz:lk jH tt=some z:=by rfl)
 (hf:nE (fun i=>pl[i]?) z ps=some cs:=by rfl) (hd:Nat.blt d n=true:=by rfl):WO ops Q S n ds ((i,false)::ord) e w:=
 Hb ho (fun _ _ ha _=>yh ha hp hpl hz hf) hd kk
end
end
section
open Go.Proofs.YtecibefflhomdaaGreatDoor.Pure (ae aB Rd bH less aR aZ bL bC aF dj dec)
attribute [local irreducible] IntKind.wrap
variable {W0 w:World} {F:List ax} {v:Value}
theorem yi {x:aB} {bs:Bs} (hs:Sat W0 (cI v bs::F) w) (hb:bs.length≤35184372088832) (hk:x.key.length≤1000) (hv:x.del=false→x.val.length≤1000) :
 Calls Tryz.prog 145 #[v,.agg (aI x).toArray] w fun y w'=>∃ v',y=.returned v'∧Sat W0 (cI v' (bs++dj x)::F) w':=by
 refine enter Tryz.func145 rfl Tryz.ntmps145 Tryz.results145 rfl ?_
 refine go ?_
 refine bR (z:=aI x) hs fun w b3 hs=>?_
 refine go ?_
 refine bO [blk b3 256 (aI x)] [(0,false),(1,false),(2,false),(4,false),(5,false),(3,true),(6,true),(7,false)] hs (by kernel_rfl) fun w hs=>?_
 refine go ?_
 refine ag (met (gJ (s:=x.key) (hs.take (.there .here)) (by omega) (by omega)) ?_)
 rintro _ w ⟨v,rfl,hs⟩
 refine ⟨v,rfl,go ?_⟩
 refine ag (met (dz (N:=x.seq) (k:=8) hs (by omega) (by simp;omega)) ?_)
 rintro _ w ⟨v,rfl,hs⟩
 refine ⟨v,rfl,go ?_⟩
 refine tX rfl (fun h=>?_) (fun h=>?_)
 ·refine go ?_
  refine fL hs fun w b hs=>?_
  refine zk (z:=255) hs fun v w hs=>?_
  refine go ?_
  exact ah rfl ⟨v,rfl,by rw [show bs++dj x=bs++bC x.key++bL x.seq 8++[255] from by simp [dj,h]];exact hs.to⟩
 ·have hv:=hv h
  refine go ?_
  refine ag (met (gJ (s:=x.val) hs (by simp;omega) (by omega)) ?_)
  rintro _ w ⟨v,rfl,hs⟩
  refine ⟨v,rfl,go ?_⟩
  exact ah rfl ⟨v,rfl,by rw [show bs++dj x=bs++bC x.key++bL x.seq 8++bC x.val from by simp [dj,h]];exact hs.to⟩
structure Q9 where
 bi:Nat
 bt:Nat
 bf:Nat
 bl:Nat
 p:Nat
 d:Nat
 name:Bs
 first:Bs
 last:Bs
 count:Nat
structure QG where
 vi:Value
 vl:Value
 bv:Value
abbrev L8 (P:Q9) (V:QG) (s:Wr):List ax:=
 [blk P.bi 93 [V.vi],cI V.vi s.inb,blk P.bt 193 [ay P.p],blk P.p 200 [str P.name,str P.first,str P.last,.int .i64 (P.count:Int),ay P.d,V.bv],aL 3 V.bv 282 s.blocks.length (cO s.blocks).flatten,blk P.bf 9 [str s.first],blk P.bl 93 [V.vl],cI V.vl s.file]
theorem r7 (b:Bs):(aF b).length=b.length+12:=by rw [Pure.bW];omega
theorem BL (l:List (Bs×Nat×Nat)) (b:Bs×Nat×Nat):(cO (l++[b])).flatten=(cO l).flatten++tN b:=by simp [cO]
theorem vO {P:Q9} {V:QG} {s s':Wr} (hs:Sat W0 (L8 P V s++F) w) (h:kZ s=some s') :
 Calls Tryz.prog 227 #[ay P.bi,ay P.bt,ay P.bf,ay P.bl] w fun x w'=>∃ u V',x=.returned u∧Sat W0 (L8 P V' s'++F) w':=by
 unfold kZ at h
 split at h
 ·rename_i hb
  obtain ⟨h1,h2,h3⟩:=hb
  rw [bI] at h2 h3
  cases h
  dsimp only [L8,List.cons_append,List.nil_append] at hs
  obtain ⟨a1,c1,e1,-⟩:=(hs.take (.there .here)).aC
  obtain ⟨a2,c2,e2,-⟩:=(hs.take (.there (.there (.there (.there (.there (.there (.there .here)))))))).aC
  obtain ⟨vi,vl,bv⟩:=V
  dsimp only at e1 e2 hs
  subst e1 e2
  refine enter Tryz.func227 rfl Tryz.ntmps227 Tryz.results227 rfl ?_
  refine go ?_
  refine ag (met (kR (hs.take (.there .here)) (by omega)) ?_)
  rintro _ w ⟨vf,rfl,hs⟩
  refine ⟨_,rfl,?_⟩
  obtain ⟨a3,c3,rfl,-⟩:=hs.aC
  refine go ?_
  have hfl:=r7 s.inb
  refine bO [blk P.bt 193 [ay P.p],blk P.p 200 [str P.name,str P.first,str P.last,.int .i64 (P.count:Int),ay P.d,bv],blk P.bf 9 [str s.first],blk P.bl 93 [.slice a2 s.file.length c2]] [(0,false),(1,false),(2,false),(3,false),(4,false),(5,false),(6,false),(7,false),(8,false),(9,false),(10,false),(11,true),(12,true),(13,false),(14,false),(15,true)] hs.to (by kernel_rfl) fun w hs=>?_
  refine go ?_
  refine qS (tN (s.first,s.file.length,(aF s.inb).length)) rfl ?_
  refine go ?_
  refine ia (tN (s.first,s.file.length,(aF s.inb).length)) hs (fun w b2 hs=>?_)
  refine go ?_
  refine dM hs fun v2 w hs=>?_
  obtain ⟨a4,c4,rfl,-⟩:=hs.aC
  refine go ?_
  refine bK hs fun w hs=>?_
  refine go ?_
  refine mR (m:=0) (bs:=s.file) (ns:=aF s.inb) hs rfl rfl (by repeat (first|exact Take.here|apply Take.there)) (rM rfl (by repeat (first|exact Take.here|apply Take.there))) (by omega) rfl fun v3 w hs=>?_
  obtain ⟨a5,c5,rfl,-⟩:=hs.aC
  refine bK hs fun w hs=>?_
  refine go ?_
  refine bK hs fun w hs=>?_
  refine go ?_
  refine km rfl ⟨_,⟨.slice none 0 0,.slice a5 (s.file++aF s.inb).length c5,.slice a4 (s.blocks.length+1) c4⟩,rfl,?_⟩
  have hs2:=hs.cH (k:=1) (E:=5)
  dsimp only [L8,List.cons_append,List.nil_append]
  rw [BL,List.length_append]
  exact hs2.to
 ·cases h
end
section
open Go.Proofs.YtecibefflhomdaaGreatDoor.Pure (ae aB Rd bH less aR aZ bL bC aF dj dec)
attribute [local irreducible] IntKind.wrap
variable {W0 w:World} {F:List ax} {v:Value} {d:Nat}
def Ea (l:List aB) (i:Nat) (e:aB) (s:Wr):Option Wr:=if 300≤s.inb.length then match l[i-1]? with
 | none=>none
 | some p=>if e.key=p.key then some s else (kZ s).map fun s=>{ s with first:=e.key }
 else some s
theorem Eb {l:List aB} {i:Nat} {e:aB} {s s1:Wr} (h:stepW l i e s=some s1):∃ s2,Ea l i e s=some s2∧s1={ s2 with inb:=s2.inb++dj e }∧s.inb.length≤1048576∧BF e=true:=by
 unfold stepW at h
 split at h
 ·rename_i hg
  change (Ea l i e s).map _=_ at h
  cases hp:Ea l i e s with
  | none=>rw [hp] at h;cases h
  | some s2=>
   rw [hp] at h
   simp only [Option.map_some,Option.some.injEq] at h
   exact ⟨s2,rfl,h.symm,hg.1,hg.2⟩
 ·cases h
theorem MM {l:List aB} {i:Nat} {e:aB} {s s2:Wr} (h:Ea l i e s=some s2):s2.inb.length≤s.inb.length:=by
 unfold Ea at h
 split at h
 ·split at h
  ·cases h
  ·split at h
   ·cases h;exact Nat.le_refl _
   ·unfold kZ at h
    split at h
    ·cases h;simp
    ·cases h
 ·cases h;exact Nat.le_refl _
theorem HB {l:List aB} {z:Bs×List (Bs×Nat×Nat)} (h:HA l=some z):∃ e ez sfin send,l.head?=some e∧l.getLast?=some ez∧lU l 0 l ⟨[],[],e.key,[]⟩=some sfin∧kZ sfin=some send ∧
 (send.file.length≤iq∧send.blocks.length≤1048576∧l.length≤1048576∧(send.blocks.all fun b=>Nat.ble b.1.length 255&&Nat.ble b.2.1 iq&&Nat.ble b.2.2 iq)=true∧e.key.length≤255∧ez.key.length≤255) ∧
 z=(send.file++aF (iP e.key ez.key l.length send.blocks)++aF (bL send.file.length 8),send.blocks):=by
 unfold HA at h
 split at h
 ·rename_i e r ez hez
  cases hst:lU (e::r) 0 (e::r) ⟨[],[],e.key,[]⟩ with
  | none=>rw [hst] at h;cases h
  | some sfin=>
   rw [hst] at h
   simp only [Option.bind_some] at h
   cases hf:kZ sfin with
   | none=>rw [hf] at h;cases h
   | some send=>
    rw [hf] at h
    dsimp only at h
    split at h
    ·rename_i hg
     exact ⟨e,ez,sfin,send,rfl,hez,hst,hf,hg,(Option.some.inj h).symm⟩
    ·cases h
 ·cases h
theorem yj {bs:List (Bs×Nat×Nat)} (h:(bs.all fun b=>Nat.ble b.1.length 255&&Nat.ble b.2.1 iq&&Nat.ble b.2.2 iq)=true) {j:Nat} (hj:j≤1048576) :
 ((bs.take j).map fun b=>bC b.1++bL b.2.1 4++bL b.2.2 4).flatten.length≤276824064:=by
 have key:∀ (l:List (Bs×Nat×Nat)),(∀ b∈l,b.1.length≤255)→(l.map fun b=>bC b.1++bL b.2.1 4++bL b.2.2 4).flatten.length≤l.length*264:=by
  intro l
  induction l with
  | nil=>intro _;simp
  | cons b r ih=>
   intro hl
   have h1:=hl b List.mem_cons_self
   have h2:=ih fun x hx=>hl x (List.mem_cons_of_mem _ hx)
   simp only [List.map_cons,List.flatten_cons,List.length_append,List.length_cons,Pure.dH,Pure.aV] at h2 ⊢
   omega
 have h1:=key (bs.take j) fun b hb=>by
  have:=List.all_eq_true.1 h b (List.mem_of_mem_take hb)
  simp only [Bool.and_eq_true,Nat.ble_eq] at this
  exact this.1.1
 have h2:(bs.take j).length≤j:=List.length_take_le _ _
 omega
def MN (d:Nat) (tv:Value):Except cx bN→ax
 | .ok T=>fun h=>∃ p,tv=ay p∧cF d p T h
 | .error _=>fun _=>True
theorem Sat.Kw {p:Nat} {T:bN} {bv:Value} (hT:Bu T) (hs:Sat W0 (tI p 200 [str T.name,str T.first,str T.last,.int .i64 (T.count:Int),ay d,bv]::gr 3 bv (cO T.blocks)::F) w):Sat W0 (MN d (ay p) (.ok T)::F) w:=
 Sat.close (B:=[tI p 200 [str T.name,str T.first,str T.last,.int .i64 (T.count:Int),ay d,bv],gr 3 bv (cO T.blocks)]) hs fun hp k=>⟨p,rfl,hT,bv,k⟩
theorem vP {D:ae} {name:Bs} {l:List aB} (hs:Sat W0 (gr 4 v (bg l)::aj d D::F) w) {r:Except cx bN×ae} (h:om D name l=some r) :
 Calls Tryz.prog 208 #[ay d,str name,v] w fun x w'=>∃ tv ve,x=.returned (.tuple #[tv,ve])∧Sat W0 (aj d r.2::aH ve (cU r.1)::MN d tv r.1::F) w':=by
 unfold om at h
 cases ht:HA l with
 | none=>rw [ht] at h;cases h
 | some z=>
  rw [ht] at h
  dsimp only at h
  obtain ⟨e,ez,sfin,send,he,hez,hst0,hfl,⟨g1,g2,hlb,g4,g5,g6⟩,hz⟩:=HB ht
  clear ht
  have hlp:0<l.length:=by cases l with|nil=>cases he|cons a b=>simp
  have he0:l[0]?=some e:=by rw [← List.head?_eq_getElem?];exact he
  have hzi:l[l.length-1]?=some ez:=by rw [← List.getLast?_eq_getElem?];exact hez
  obtain ⟨z0,⟨hv,hzc,hseg⟩,hs2⟩:=hs.kX (by intro hn;simp [bg] at hn;rw [hn] at hlp;simp at hlp)
  have hlen:(bg l).length=l.length:=by simp [bg]
  rw [hlen] at hv hzc
  subst hv
  obtain ⟨b0,o0,c0,all,E0⟩:=z0
  dsimp only at hzc hseg hs2
  clear hs
  have hrow:∀ i x,l[i]?=some x→fS all (o0+i*4) (aI x):=fun i x hi=>hseg.row (i:=i) (x:=aI x) (gN _) (by simp [bg,hi])
  have hrow0:=hrow _ _ he0
  have hrowl:=hrow _ _ hzi
  generalize hL:l.length=L at *
  refine enter Tryz.func208 rfl Tryz.ntmps208 Tryz.results208 rfl ?_
  refine dV ?_
  refine gE ?_
  refine cV rfl ?_
  refine fh (α:=Nat×Nat) (fun z=>[(0,ay d),(1,str name),(2,.slice (some ⟨b0,o0,none⟩) L c0),(8,ay z.1)]) (fun z w=>Sat W0 (blk z.1 193 [ay z.2]::blk z.2 200 [str name,str e.key,str ez.key,.int .i64 (L:Int),ay d,.slice none 0 0]::ob true b0 (.cells all.toArray E0 (0,0))::aj d D::F) w) ?_ ?_
  ·refine bu [ob true b0 (.cells all.toArray E0 (0,0))] [4,11] (.q 0 (.q 1 (.q 2 (.q 3 (.s 4 (.q 5 (.q 6 (.q 7 (.q 8 (.q 9 (.q 10 (.s 11 (.q 12 (.q 13 (.q 14 (.q 15 (.q 16 (.l2 17 (.l 18 (.l 19 .nil)) 18 (.l 17 (.l 19 .nil)))))))))))))))))))) hs2 (by kernel_rfl) fun w hs=>?_
   refine xZ ?_
   refine fO (j:=0) rfl rfl rfl rfl rfl rfl hlp rfl ?_
   refine xZ ?_
   refine sT rfl rfl rfl .here hrow0.1 rfl ?_
   refine xZ ?_
   refine fO (j:=L-1) rfl rfl rfl (by omega) rfl rfl (by omega) rfl ?_
   refine xZ ?_
   refine sT rfl rfl rfl .here hrowl.1 rfl ?_
   refine xZ ?_
   refine oq [str name,str e.key,str ez.key,.int .i64 (L:Int)] rfl ?_
   refine xZ ?_
   refine oq [str name,str e.key,str ez.key,.int .i64 (L:Int),ay d,.slice none 0 0] rfl ?_
   refine Bq rfl rfl ?_ ?_
   ·refine bR hs fun w p hs=>?_
    refine gE ?_
    refine cD hs.to ?_
    refine iz rfl ?_
    refine aS hs ?_
    clear hs
    intro w bt hs
    refine gE ?_
    refine cD hs.to ?_
    refine iz rfl ?_
    refine bK hs ?_
    clear hs
    intro w hs
    refine gE ?_
    refine cD hs.to ?_
    refine fC ?_
    exact bG (bt,p) ⟨rfl,rfl,rfl,rfl,trivial⟩ hs.to
   ·refine aS hs fun w bt hs=>?_
    refine gE ?_
    refine cD hs.to ?_
    refine iz rfl ?_
    refine bR hs ?_
    clear hs
    intro w p hs
    refine gE ?_
    refine cD hs.to ?_
    refine iz rfl ?_
    refine bK hs ?_
    clear hs
    intro w hs
    refine gE ?_
    refine cD hs.to ?_
    refine fC ?_
    exact bG (bt,p) ⟨rfl,rfl,rfl,rfl,trivial⟩ hs.to
  clear hs2
  rintro ⟨bt,p⟩ w hs
  dsimp only at hs
  refine gx ?_
  refine aS hs ?_
  clear hs
  intro w bl hs
  refine gx ?_
  refine aS hs ?_
  clear hs
  intro w bi hs
  refine gx ?_
  refine cN (i:=0) rfl rfl rfl rfl rfl hlp rfl ?_
  refine gx ?_
  refine eF hs rfl rfl (by repeat (first|exact Take.here|apply Take.there)) hrow0.1 rfl ?_
  refine aS hs ?_
  clear hs
  intro w bf hs
  refine bK hs ?_
  clear hs
  intro w hs
  refine gx ?_
  refine aJ (α:=Nat×Wr×QG) (fun z=>[(0,ay d),(1,str name),(2,.slice (some ⟨b0,o0,none⟩) L c0),(8,ay bt),(9,ay bl),(10,ay bi),(11,ay bf),(12,.func (.func 227) #[] #[ay bi,ay bt,ay bf,ay bl]),(44,.slice (some ⟨b0,o0,none⟩) L c0),(45,.int .i64 (L:Int)),(46,.int .i64 (z.1:Int))])
   (fun z w=>(z.1≤L∧lU l z.1 (l.drop z.1) z.2.1=some sfin∧(0<z.1∨z.2.1.inb=[]))∧Sat W0 (L8 ⟨bi,bt,bf,bl,p,d,name,e.key,ez.key,L⟩ z.2.2 z.2.1++ob true b0 (.cells all.toArray E0 (0,0))::aj d D::F) w) (fun z=>L-z.1) (0,⟨[],[],e.key,[]⟩,⟨.slice none 0 0,.slice none 0 0,.slice none 0 0⟩) ⟨rfl,rfl,rfl,rfl,rfl,rfl,rfl,rfl,rfl,rfl,rfl,trivial⟩ ⟨⟨Nat.zero_le _,hst0,.inr rfl⟩,?_⟩ ?_
  ·have hs:=((hs.cH (k:=1) (E:=5)).cH (k:=1) (E:=5)).cH (k:=3) (E:=282)
   exact hs.to
  clear hs
  rintro ⟨i,s,V⟩ w ⟨⟨hi,hst,hin⟩,hs⟩
  dsimp only at hi hst hin
  obtain ⟨vi,vl,bv⟩:=V
  dsimp only [L8,List.cons_append,List.nil_append] at hs
  by_cases hlt:i<L
  ·have hlt':i<l.length:=by omega
   have hx:l[i]?=some l[i]:=List.getElem?_eq_getElem hlt'
   generalize l[i]=x at hx
   have hdrop:l.drop i=x::l.drop (i+1):=by rw [List.drop_eq_getElem_cons hlt'];congr 1;exact (List.getElem?_eq_some_iff.1 hx).2
   rw [hdrop] at hst
   simp only [lU] at hst
   cases hsw:stepW l i x s with
   | none=>rw [hsw] at hst;cases hst
   | some s1=>
    rw [hsw] at hst
    dsimp only at hst
    obtain ⟨s2,hpre,rfl,q1,q2⟩:=Eb hsw
    have hin2:=MM hpre
    simp only [BF,Bool.and_eq_true,Nat.ble_eq] at q2
    have hrowi:=hrow _ _ hx
    refine (show WC _ _ _ _ [(0,ay d),(1,str name),(2,.slice (some ⟨b0,o0,none⟩) L c0),(8,ay bt),(9,ay bl),(10,ay bi),(11,ay bf),(12,.func (.func 227) #[] #[ay bi,ay bt,ay bf,ay bl]),(44,.slice (some ⟨b0,o0,none⟩) L c0),(45,.int .i64 (L:Int)),(46,.int .i64 (i:Int))] w from ?_)
    refine gx ?_
    refine cN (i:=i) rfl rfl rfl rfl rfl hlt rfl ?_
    refine dF (aI x) hs rfl rfl rfl (by repeat (first|exact Take.here|apply Take.there)) hrowi rfl ?_
    refine gE ?_
    refine aS hs ?_
    clear hs
    intro w b14 hs
    refine gE ?_
    refine da (vs:=aI x) hs ?_
    clear hs
    intro w hs
    refine gE ?_
    refine cV rfl ?_
    refine fh (α:=Wr×QG) (fun z=>[(0,ay d),(1,str name),(2,.slice (some ⟨b0,o0,none⟩) L c0),(8,ay bt),(9,ay bl),(10,ay bi),(11,ay bf),(12,.func (.func 227) #[] #[ay bi,ay bt,ay bf,ay bl]),(44,.slice (some ⟨b0,o0,none⟩) L c0),(45,.int .i64 (L:Int)),(46,.int .i64 (i:Int)),(14,ay b14)])
     (fun z w=>Ea l i x s=some z.1∧Sat W0 (L8 ⟨bi,bt,bf,bl,p,d,name,e.key,ez.key,L⟩ z.2 z.1++blk b14 256 (aI x)::ob true b0 (.cells all.toArray E0 (0,0))::aj d D::F) w) ?_ ?_
    ·clear hst hsw
     obtain ⟨a1,c1,e1,-⟩:=(hs.take (.there (.there .here))).aC
     subst e1
     unfold Ea at hpre ⊢
     by_cases h300:300≤s.inb.length
     ·rw [if_pos h300] at hpre
      obtain ⟨i,rfl⟩:∃ j,i=j+1:=⟨i-1,by rcases hin with h|h;omega;rw [h] at h300;simp at h300⟩
      have hpv:∃ pv,l[i]?=some pv:=⟨_,List.getElem?_eq_getElem (show i<l.length by omega)⟩
      obtain ⟨pv,hpv⟩:=hpv
      rw [Nat.add_sub_cancel,hpv] at hpre
      dsimp only at hpre
      have hrowp:=hrow _ _ hpv
      refine dV ?_
      refine bu [blk b14 256 (aI x),blk bi 93 [.slice a1 s.inb.length c1],ob true b0 (.cells all.toArray E0 (0,0))] [0,5,11] (.s 0 (.q 1 (.q 2 (.q 3 (.q 4 (.s 5 (.q 6 (.q 7 (.q 8 (.q 9 (.q 10 (.s 11 (.q 12 (.q 13 .nil)))))))))))))) hs (by kernel_rfl) fun w hs=>?_
      have h300':(s.inb.length:Int) ≥ 300:=by omega
      refine xZ ?_
      refine lS (j:=i) rfl rfl rfl rfl (by omega) rfl rfl (by omega) rfl ?_
      refine xZ ?_
      refine oh rfl rfl rfl rfl (by repeat (first|exact Take.here|apply Take.there)) hrowp.1 rfl ?_
      by_cases hk:x.key=pv.key
      ·rw [if_pos hk] at hpre
       refine nF (v:=.bool false) rfl rfl (by show some (Value.bool (decide (x.key≠pv.key)))=some (.bool false);rw [decide_eq_false (by simpa using hk)]) rfl ?_
       refine xZ ?_
       refine fC ?_
       refine gx ?_
       exact bG (s,⟨.slice a1 s.inb.length c1,vl,bv⟩) ⟨rfl,rfl,rfl,rfl,rfl,rfl,rfl,rfl,rfl,rfl,rfl,rfl,trivial⟩ ⟨by rw [if_pos h300,Nat.add_sub_cancel,hpv];simp only [if_pos hk],hs.to⟩
      ·rw [if_neg hk] at hpre
       refine nF (v:=.bool true) rfl rfl (by show some (Value.bool (decide (x.key≠pv.key)))=some (.bool true);rw [decide_eq_true (by simpa using hk)]) rfl ?_
       refine xZ ?_
       refine fC ?_
       refine gx ?_
       cases hfs:kZ s with
       | none=>rw [hfs] at hpre;cases hpre
       | some sf=>
        rw [hfs] at hpre
        simp only [Option.map_some,Option.some.injEq] at hpre
        subst hpre
        have hs3:Sat W0 (blk bi 93 [.slice a1 s.inb.length c1]::cI (.slice a1 s.inb.length c1) s.inb::blk bt 193 [ay p]::blk p 200 [str name,str e.key,str ez.key,.int .i64 (L:Int),ay d,bv]::aL 3 bv 282 s.blocks.length (cO s.blocks).flatten::blk bf 9 [str s.first]::blk bl 93 [vl]::cI vl s.file::blk b14 256 (aI x)::ob true b0 (.cells all.toArray E0 (0,0))::aj d D::F) w:=hs.to
        clear hs
        refine iM rfl rfl rfl rfl (met (vO (P:=⟨bi,bt,bf,bl,p,d,name,e.key,ez.key,L⟩) (V:=⟨.slice a1 s.inb.length c1,vl,bv⟩) (F:=blk b14 256 (aI x)::ob true b0 (.cells all.toArray E0 (0,0))::aj d D::F) hs3 hfs) ?_)
        rintro _ w ⟨u,V',rfl,hs⟩
        dsimp only [L8,List.cons_append,List.nil_append] at hs
        clear hs3
        refine ⟨_,rfl,?_⟩
        refine gx ?_
        refine bK hs ?_
        clear hs
        intro w hs
        refine gE ?_
        exact bG ({ sf with first:=x.key },V') ⟨rfl,rfl,rfl,rfl,rfl,rfl,rfl,rfl,rfl,rfl,rfl,rfl,trivial⟩ ⟨by rw [if_pos h300,Nat.add_sub_cancel,hpv];simp only [if_neg hk,hfs];rfl,hs.to⟩
     ·rw [if_neg h300] at hpre
      refine dV ?_
      refine bu [blk b14 256 (aI x),blk bi 93 [.slice a1 s.inb.length c1],ob true b0 (.cells all.toArray E0 (0,0))] [0,5,11] (.s 0 (.q 1 (.q 2 (.q 3 (.q 4 (.s 5 (.q 6 (.q 7 (.q 8 (.q 9 (.q 10 (.s 11 (.q 12 (.q 13 .nil)))))))))))))) hs (by kernel_rfl) fun w hs=>?_
      have h300':¬ (s.inb.length:Int) ≥ 300:=by omega
      refine xZ ?_
      refine fC ?_
      refine gx ?_
      rw [if_neg h300]
      exact bG (s,⟨.slice a1 s.inb.length c1,vl,bv⟩) ⟨rfl,rfl,rfl,rfl,rfl,rfl,rfl,rfl,rfl,rfl,rfl,rfl,trivial⟩ ⟨rfl,hs.to⟩
    ·clear hs
     rintro ⟨s3,vi3,vl3,bv3⟩ w ⟨hp3,hs⟩
     rw [hpre] at hp3
     obtain rfl:=Option.some.inj hp3
     dsimp only [L8,List.cons_append,List.nil_append] at hs
     refine gx ?_
     refine ag (met (yi (x:=x) (hs.take (.there .here)) (by omega) q2.1 (fun hd=>by simpa [hd] using q2.2)) ?_)
     clear hs
     rintro _ w ⟨v',rfl,hs⟩
     refine ⟨_,rfl,?_⟩
     obtain ⟨a5,c5,rfl,-⟩:=hs.aC
     refine gE ?_
     refine bK hs ?_
     clear hs
     intro w hs
     refine gx ?_
     refine az (i+1,⟨s2.file,s2.inb++dj x,s2.first,s2.blocks⟩,⟨.slice a5 (s2.inb++dj x).length c5,vl3,bv3⟩) ⟨rfl,rfl,rfl,rfl,rfl,rfl,rfl,rfl,rfl,rfl,rfl,trivial⟩ ⟨⟨by show i+1≤L;omega,hst,.inl (by show 0<i+1;omega)⟩,?_⟩ (by show L-(i+1)<L-i;omega)
     exact hs.to
  ·have hiL:L=i:=by omega
   subst hiL
   have hd0:l.drop L=[]:=by rw [List.drop_eq_nil_iff];omega
   rw [hd0] at hst
   simp only [lU,Option.some.injEq] at hst
   subst hst
   refine (show WC _ _ _ _ [(0,ay d),(1,str name),(2,.slice (some ⟨b0,o0,none⟩) L c0),(8,ay bt),(9,ay bl),(10,ay bi),(11,ay bf),(12,.func (.func 227) #[] #[ay bi,ay bt,ay bf,ay bl]),(44,.slice (some ⟨b0,o0,none⟩) L c0),(45,.int .i64 (L:Int)),(46,.int .i64 (L:Int))] w from ?_)
   refine gx ?_
   have hs3:Sat W0 (blk bi 93 [vi]::cI vi s.inb::blk bt 193 [ay p]::blk p 200 [str name,str e.key,str ez.key,.int .i64 (L:Int),ay d,bv]::aL 3 bv 282 s.blocks.length (cO s.blocks).flatten::blk bf 9 [str s.first]::blk bl 93 [vl]::cI vl s.file::ob true b0 (.cells all.toArray E0 (0,0))::aj d D::F) w:=hs.to
   clear hs
   refine iM rfl rfl rfl rfl (met (vO (P:=⟨bi,bt,bf,bl,p,d,name,e.key,ez.key,L⟩) (V:=⟨vi,vl,bv⟩) (F:=ob true b0 (.cells all.toArray E0 (0,0))::aj d D::F) hs3 hfl) ?_)
   rintro _ w ⟨u,⟨vi2,vl2,bv2⟩,rfl,hs⟩
   dsimp only [L8,List.cons_append,List.nil_append] at hs
   clear hs3
   refine ⟨_,rfl,?_⟩
   refine gx ?_
   have hs:=(hs.take (.there (.there (.there (.there .here)))))
   have hbl:send.blocks.length=(cO send.blocks).length:=by simp [cO]
   rw [hbl] at hs
   have hs:=(Sat.ku (qM _) hs).take (.there (.there (.there (.there .here))))
   have hs:=hs.share
   obtain ⟨a6,c6,rfl,hc6⟩:=(hs.take (.there .here)).ix
   have hTok:Bu ⟨name,e.key,ez.key,L,send.blocks⟩:=⟨by show send.blocks.length≤_;omega,by show L≤_;omega,fun b hb=>by
    have:=List.all_eq_true.1 g4 b hb
    simp only [Bool.and_eq_true,Nat.ble_eq,bI] at this
    omega⟩
   refine bO [blk bt 193 [ay p],tI p 200 [str name,str e.key,str ez.key,.int .i64 (L:Int),ay d,.slice a6 (cO send.blocks).length c6]] [(0,false),(1,false),(2,false),(3,false),(4,false),(6,false),(7,false),(8,false),(9,false),(10,false),(5,true),(11,true),(12,false)] hs.to (by kernel_rfl) fun w hs=>?_
   refine gx ?_
   refine ag (met (gJ (v:=.slice none 0 0) (bs:=[]) (s:=e.key) (hs.cH (k:=1) (E:=5)) (by simp) (by omega)) ?_)
   clear hs
   rintro _ w ⟨v1,rfl,hs⟩
   refine ⟨_,rfl,gx ?_⟩
   refine ag (met (gJ (s:=ez.key) hs (by simp only [List.length_append,Pure.dH,Pure.aV,List.length_nil];omega) (by omega)) ?_)
   clear hs
   rintro _ w ⟨v2,rfl,hs⟩
   refine ⟨_,rfl,gx ?_⟩
   refine ag (met (dz (N:=L) (k:=4) hs (by omega) (by simp only [List.length_append,Pure.dH,Pure.aV,List.length_nil];omega)) ?_)
   clear hs
   rintro _ w ⟨v3,rfl,hs⟩
   refine ⟨_,rfl,gx ?_⟩
   have hn:(cO send.blocks).length≤1048576:=by omega
   refine aJ (α:=Nat×Value) (fun z=>[(0,ay d),(1,str name),(8,ay bt),(9,ay bl),(15,z.2),(98,.slice a6 (cO send.blocks).length c6),(99,.int .i64 ((cO send.blocks).length:Int)),(100,.int .i64 (z.1:Int))])
    (fun z w=>z.1≤send.blocks.length∧Sat W0 (cI z.2 (bC e.key++bC ez.key++bL L 4++((send.blocks.take z.1).map fun b=>bC b.1++bL b.2.1 4++bL b.2.2 4).flatten)::tI p 200 [str name,str e.key,str ez.key,.int .i64 (L:Int),ay d,.slice a6 (cO send.blocks).length c6]::gr 3 (.slice a6 (cO send.blocks).length c6) (cO send.blocks)::blk bt 193 [ay p]::blk bl 93 [vl2]::cI vl2 send.file::aj d D::F) w) (fun z=>send.blocks.length-z.1) (0,v3) ⟨rfl,rfl,rfl,rfl,rfl,rfl,rfl,rfl,trivial⟩ ⟨Nat.zero_le _,?_⟩ ?_
   ·dsimp only
    rw [List.take_zero,List.map_nil,List.flatten_nil,List.append_nil]
    exact hs.to
   clear hs
   rintro ⟨j,v4⟩ w ⟨hj,hs⟩
   dsimp only at hj hs
   by_cases hlt:j<send.blocks.length
   ·have hg:send.blocks[j]?=some send.blocks[j]:=List.getElem?_eq_getElem hlt
    generalize send.blocks[j]=bk at hg
    have htk:send.blocks.take (j+1)=send.blocks.take j++[bk]:=by
     rw [List.take_add_one,hg];rfl
    obtain ⟨z0,⟨hv,hzc,hseg⟩,hs2⟩:=(hs.take (.there (.there .here))).kX (by intro hn0;rw [hn0] at hbl;simp at hbl;rw [hbl] at hlt;simp at hlt)
    obtain ⟨rfl,_,rfl⟩:=Value.slice.inj hv
    have hrowj:=hseg.row (i:=j) (x:=tN bk) (qM _) (by simp [cO,hg])
    have hbk:=List.all_eq_true.1 g4 bk (List.mem_of_getElem? hg)
    simp only [Bool.and_eq_true,Nat.ble_eq,bI] at hbk
    obtain ⟨⟨k1,k2⟩,k3⟩:=hbk
    have hfb:((send.blocks.take j).map fun b=>bC b.1++bL b.2.1 4++bL b.2.2 4).flatten.length≤276824064:=yj g4 (by omega)
    have hlt':j<(cO send.blocks).length:=by omega
    refine gx ?_
    refine cN (i:=j) rfl rfl rfl rfl rfl hlt' rfl ?_
    refine dF (tN bk) hs2 rfl rfl rfl (by repeat (first|exact Take.here|apply Take.there)) hrowj rfl ?_
    refine aS hs2 fun w b17 hs=>?_
    refine da (vs:=tN bk) hs ?_
    clear hs
    intro w hs
    clear hs2
    refine gx ?_
    refine ag (met (gJ (s:=bk.1) (hs.take (.there (.there (.there .here)))) (by simp only [List.length_append,Pure.dH,Pure.aV,List.length_nil];omega) (by omega)) ?_)
    clear hs
    rintro _ w ⟨v5,rfl,hs⟩
    refine ⟨_,rfl,gx ?_⟩
    refine bO [blk b17 282 (tN bk)] [(0,false),(1,false),(2,false),(3,false),(5,false),(6,false),(7,false),(4,true),(8,true),(9,false)] hs (by kernel_rfl) fun w hs=>?_
    have w1:IntKind.u64.wrap (bk.2.1:Int)=(bk.2.1:Int):=IntWalk.u64_in _ (by omega)
    have w2:IntKind.u64.wrap (bk.2.2:Int)=(bk.2.2:Int):=IntWalk.u64_in _ (by omega)
    refine gx ?_
    try rw [w1,w2]
    refine ag (met (dz (N:=bk.2.1) (k:=4) hs (by omega) (by simp only [List.length_append,Pure.dH,Pure.aV,List.length_nil];omega)) ?_)
    clear hs
    rintro _ w ⟨v6,rfl,hs⟩
    refine ⟨_,rfl,gx ?_⟩
    refine ag (met (dz (N:=bk.2.2) (k:=4) hs (by omega) (by simp only [List.length_append,Pure.dH,Pure.aV,List.length_nil];omega)) ?_)
    clear hs
    rintro _ w ⟨v7,rfl,hs⟩
    refine ⟨_,rfl,gx ?_⟩
    refine az (j+1,v7) ⟨rfl,rfl,rfl,rfl,rfl,rfl,rfl,rfl,trivial⟩ ⟨by show j+1≤_;omega,?_⟩ (by show _-(j+1)<_-j;omega)
    dsimp only
    rw [htk,List.map_append,List.flatten_append,List.map_cons,List.map_nil,List.flatten_cons,List.flatten_nil,List.append_nil]
    simp only [List.append_assoc] at hs ⊢
    exact hs.to
   ·have hjn:j=send.blocks.length:=by omega
    subst hjn
    rw [List.take_length] at hs
    have hfb:((send.blocks).map fun b=>bC b.1++bL b.2.1 4++bL b.2.2 4).flatten.length≤276824064:=by
     have:=yj (j:=send.blocks.length) g4 (by omega)
     rwa [List.take_length] at this
    have hlB:bC e.key++bC ez.key++bL L 4++((send.blocks).map fun b=>bC b.1++bL b.2.1 4++bL b.2.2 4).flatten=iP e.key ez.key L send.blocks:=rfl
    have hlen2:(iP e.key ez.key L send.blocks).length≤300000000:=by rw [← hlB];simp only [List.length_append,Pure.dH,Pure.aV];omega
    rw [hlB] at hs
    have hnlt:¬ send.blocks.length<(cO send.blocks).length:=by omega
    obtain ⟨a7,c7,rfl,-⟩:=(hs.take (.there (.there (.there (.there (.there .here)))))).aC
    have hfl2:send.file.length≤1099511627776:=by rw [← bI];exact g1
    refine gx ?_
    refine ag (met (dz (v:=.slice none 0 0) (bs:=[]) (N:=send.file.length) (k:=8) (hs.cH (k:=1) (E:=5)) (by omega) (by simp)) ?_)
    clear hs
    rintro _ w ⟨v8,rfl,hs⟩
    refine ⟨_,rfl,gx ?_⟩
    refine ag (met (kR hs (by simp)) ?_)
    clear hs
    rintro _ w ⟨v9,rfl,hs⟩
    refine ⟨_,rfl,?_⟩
    simp only [List.nil_append] at hs
    refine gx ?_
    have hs:=hs.to (a:=blk bl 93 [.slice a7 send.file.length c7]::cI v4 (iP e.key ez.key L send.blocks)::cI v9 (aF (bL send.file.length 8))::cI (.slice a7 send.file.length c7) send.file::tI p 200 [str name,str e.key,str ez.key,.int .i64 (L:Int),ay d,.slice a6 (cO send.blocks).length c6]::gr 3 (.slice a6 (cO send.blocks).length c6) (cO send.blocks)::blk bt 193 [ay p]::aj d D::F)
    refine bO [blk bl 93 [.slice a7 send.file.length c7]] [(0,false),(1,false),(4,false),(2,true),(3,true),(5,true),(6,true)] hs (by kernel_rfl) fun w hs=>?_
    refine gx ?_
    have hfr1:=r7 (iP e.key ez.key L send.blocks)
    have hfr2:=r7 (bL send.file.length 8)
    rw [Pure.aV] at hfr2
    refine ag (met (kR (hs.take (.there .here)) (by omega)) ?_)
    clear hs
    rintro _ w ⟨v10,rfl,hs⟩
    refine ⟨_,rfl,gx ?_⟩
    refine mR (m:=(aF (iP e.key ez.key L send.blocks)).length) (bs:=send.file) (ns:=aF (iP e.key ez.key L send.blocks)) hs rfl rfl (by repeat (first|exact Take.here|apply Take.there)) (rM rfl (by repeat (first|exact Take.here|apply Take.there))) (by omega) rfl ?_
    clear hs
    intro v11 w hs
    refine gx ?_
    refine mR (m:=(aF (bL send.file.length 8)).length) (bs:=send.file++aF (iP e.key ez.key L send.blocks)) (ns:=aF (bL send.file.length 8)) hs rfl rfl (by repeat (first|exact Take.here|apply Take.there)) (rM rfl (by repeat (first|exact Take.here|apply Take.there))) (by rw [List.length_append];omega) rfl ?_
    clear hs
    intro v12 w hs
    obtain ⟨a8,c8,rfl,-⟩:=hs.aC
    refine gx ?_
    refine bK hs ?_
    clear hs
    intro w hs
    subst hz
    dsimp only at h
    generalize send.file++aF (iP e.key ez.key L send.blocks)++aF (bL send.file.length 8)=file at *
    by_cases hm:D.moves.length≤iq
    ·rw [if_pos hm] at h
     rw [bI] at hm
     refine gx ?_
     have hs:=hs.to (a:=aj d D::cI (.slice a8 file.length c8) file::blk bl 93 [.slice a8 file.length c8]::tI p 200 [str name,str e.key,str ez.key,.int .i64 (L:Int),ay d,.slice a6 (cO send.blocks).length c6]::gr 3 (.slice a6 (cO send.blocks).length c6) (cO send.blocks)::blk bt 193 [ay p]::F)
     refine ag (met (vj (n:=name) hs hm) ?_)
     clear hs
     rintro _ w ⟨ve,rfl,hs⟩
     refine ⟨_,rfl,?_⟩
     cases hc:gA D name with
     | some er=>
      rw [hc] at h hs
      obtain rfl:=Option.some.inj h
      obtain ⟨t,u,rfl⟩:=(hs.take (.there .here)).aQ
      refine gx ?_
      exact ah rfl ⟨_,_,rfl,Sat.to (Sat.emp hs)⟩
     | none=>
      rw [hc] at h hs
      dsimp only at h
      have hve:=(hs.take (.there .here)).cA
      subst hve
      refine gx ?_
      refine ag (met (vq (n:=name) (bs:=file) (hs.fg .here (.there .here))) ?_)
      clear hs
      rintro _ w ⟨ve,rfl,hs⟩
      refine ⟨_,rfl,?_⟩
      generalize cR D name=D1 at *
      cases ha:dW D1 name file with
      | some er=>
       rw [ha] at h hs
       obtain rfl:=Option.some.inj h
       obtain ⟨t,u,rfl⟩:=(hs.take (.there (.there .here))).aQ
       refine gx ?_
       exact ah rfl ⟨_,_,rfl,Sat.to (Sat.emp hs)⟩
      | none=>
       rw [ha] at h hs
       dsimp only at h
       have hve:=(hs.take (.there (.there .here))).cA
       subst hve
       generalize cg D1 name file=D2 at *
       refine gx ?_
       have hs:=hs.to (a:=blk bt 193 [ay p]::aj d D2::tI p 200 [str name,str e.key,str ez.key,.int .i64 (L:Int),ay d,.slice a6 (cO send.blocks).length c6]::gr 3 (.slice a6 (cO send.blocks).length c6) (cO send.blocks)::F)
       refine bO [blk bt 193 [ay p]] [(0,false),(1,false),(2,false),(3,true),(4,false),(5,false)] hs (by kernel_rfl) fun w hs=>?_
       refine gx ?_
       refine ag (met (zI (n:=name) (hs.take (.there .here))) ?_)
       clear hs
       rintro _ w ⟨ve,rfl,hs⟩
       refine ⟨_,rfl,?_⟩
       cases hf:bx D2 name with
       | some er=>
        rw [hf] at h hs
        obtain rfl:=Option.some.inj h
        refine gx ?_
        exact ah rfl ⟨_,_,rfl,Sat.to (Sat.emp hs)⟩
       | none=>
        rw [hf] at h hs
        obtain rfl:=Option.some.inj h
        refine gx ?_
        have e1:dP l=e.key:=by cases l with|nil=>cases he|cons a b=>simp at he;rw [← he];rfl
        have e2:fJ l=ez.key:=by unfold fJ;rw [hez]
        refine ah rfl ⟨_,_,rfl,?_⟩
        dsimp only [cU]
        rw [e1,e2]
        have hs:=hs.to (a:=tI p 200 [str name,str e.key,str ez.key,.int .i64 (L:Int),ay d,.slice a6 (cO send.blocks).length c6]::gr 3 (.slice a6 (cO send.blocks).length c6) (cO send.blocks)::aj d (gz D2 name)::aH ve none::F)
        have hs:=Sat.Kw (T:=⟨name,e.key,ez.key,L,send.blocks⟩) hTok hs
        exact hs.to
    ·rw [if_neg hm] at h;cases h
end
end Go.Proofs.YtecibefflhomdaaGreatDoor
