/-
  Part 21: The engine 26 struct values within drawn regions; WALKS a table's block is written; WALKS table.
-/
import Derived.Test.YtecibefflhomdaaGreatDoorY20
set_option maxHeartbeats 8000000
set_option maxRecDepth 100000
set_option linter.all false
namespace Go.Proofs.YtecibefflhomdaaGreatDoor
open Go
section
attribute [local semireducible] WL WC WQ
attribute [local semireducible] WT WO
section
variable {ops:Array Oper} {Q:Exit→Act→World→Prop} {S:World→Prop} {K:List Nat} {n:Nat} {ds:Md} {e:Env} {w w':World} {b:Bool} {t:OT} {rest:List Oper} {ord:List (Nat×Bool)}
variable {op:Op} {ty:TypeId} {pos:String} {af:Array Edge} {d i j:Nat} {v u:Value}
theorem wS {parts:Array (Nat×Operand)} {tt:Nat} {ps:List (Nat×Value)} {pl:List (Nat×Nat)} {z cs:List Value} {g:Option (Nat×Bool)} {a:Act} {w:World} (ha:Fr n ds e a) (hp:zn e parts.toList=some ps) (hpl:lk lC tt=some pl) (hz:lk js tt=some z)
 (hf:mY (fun i=>pl[i]?) z ps=some cs):(execOp a.eval ⟨some d,.build tt parts,ty,pos,af,g⟩).run Tryz.prog w=.ok (.value (.agg cs.toArray)) w:=by
 obtain ⟨zv,hzv,hzc⟩:=s9 (w:=w) hz
 obtain ⟨fs,hfs,rfl⟩:=tD hpl
 have hall:∀ f∈fs.toList,∃ i,Tryz.prog.info? f.type=some i:=by
  have:=List.all_eq_true.1 tE tt (List.mem_map.2 ⟨_,xI hpl,rfl⟩)
  unfold xO at this
  rw [hfs] at this
  intro f hf
  exact Option.isSome_iff_exists.1 (List.all_eq_true.1 this f hf)
 have e1:parts.map (fun (i,x)=>(i,a.eval x))=ps.toArray:=by
  rw [← ha.zn hp];cases parts;simp
 have hm:=sd (w:=w) hall
 have hfl:=pS hf
 have hpl2:∀ (q:Array (Nat×Nat)),q=(fs.toList.map fun f=>(f.offset,Tryz.prog.cellsOf f.type)).toArray→(fun i:Nat=>q[i]?)=fun i:Nat=>(fs.toList.map fun f=>(f.offset,Tryz.prog.cellsOf f.type))[i]?:=by
  rintro q rfl;funext i;simp
 simp only [execOp,e1,Instr.build,Sem.run_bind,hzv,Result.andThen_ok,cB hfs,hzc]
 have hmA:(fs.mapM (fun f=>do pure (f.offset,← sizeOf f.type)):Sem (Array (Nat×Nat))).run Tryz.prog w=.ok (fs.toList.map fun f=>(f.offset,Tryz.prog.cellsOf f.type)).toArray w:=by
  obtain ⟨fl⟩:=fs
  have:=List.mapM_toArray (m:=Sem) (f:=fun f:Field=>do pure (f.offset,← sizeOf f.type)) (l:=fl)
  rw [this]
  simp only [Sem.run_map,hm,Result.andThen_ok]
 rw [hmA]
 simp only [Result.andThen_ok,hpl2 _ rfl,hfl]
 simp
theorem mf {parts:Array (Nat×Operand)} {tt:Nat} {ps:List (Nat×Value)} {pl:List (Nat×Nat)} {z:List Value} (cs:List Value) (ho:ops[i]?=some ⟨some d,.build tt parts,ty,pos,af,none⟩) (kk:WT ops Q S K n ds b t ((d,.agg cs.toArray)::e) w)
 (hp:zn e parts.toList=some ps:=by rfl) (hpl:lk lC tt=some pl:=by rfl) (hz:lk js tt=some z:=by rfl)
 (hf:mY (fun i=>pl[i]?) z ps=some cs:=by rfl) (hd:Nat.blt d n=true:=by rfl):WT ops Q S K n ds b (.q i t) e w:=
 zP ho (fun _ _ ha=>wS ha hp hpl hz hf) hd kk
theorem qy {parts:Array (Nat×Operand)} {tt:Nat} {ps:List (Nat×Value)} {pl:List (Nat×Nat)} {z:List Value} (cs:List Value) (ho:ops[i]?=some ⟨some d,.build tt parts,ty,pos,af,none⟩) (kk:WO ops Q S n ds ord ((d,.agg cs.toArray)::e) w)
 (hp:zn e parts.toList=some ps:=by rfl) (hpl:lk lC tt=some pl:=by rfl) (hz:lk js tt=some z:=by rfl)
 (hf:mY (fun i=>pl[i]?) z ps=some cs:=by rfl) (hd:Nat.blt d n=true:=by rfl):WO ops Q S n ds ((i,false)::ord) e w:=
 Fg ho (fun _ _ ha _=>wS ha hp hpl hz hf) hd kk
end
end
section
open Go.Proofs.YtecibefflhomdaaGreatDoor.Pure (ad az Rd bI less aQ aZ bM bE aD cY dec)
attribute [local irreducible] IntKind.wrap
variable {W0 w:World} {F:List ah} {v:Value}
theorem wT {x:az} {bs:Bs} (hs:Sat W0 (cC v bs::F) w) (hb:bs.length≤35184372088832) (hk:x.key.length≤1000) (hv:x.del=false→x.val.length≤1000) :
 Calls Tryz.prog 145 #[v,.agg (aF x).toArray] w fun y w'=>∃ v',y=.returned v'∧Sat W0 (cC v' (bs++cY x)::F) w':=by
 refine enter Tryz.func145 rfl Tryz.ntmps145 Tryz.results145 rfl ?_
 refine go ?_
 refine cE (z:=aF x) hs fun w b3 hs=>?_
 refine go ?_
 refine bU [blk b3 256 (aF x)] [(0,false),(1,false),(2,false),(4,false),(5,false),(3,true),(6,true),(7,false)] hs (by kernel_rfl) fun w hs=>?_
 refine go ?_
 refine ae (met (gw (s:=x.key) (hs.take (.there .here)) (by omega) (by omega)) ?_)
 rintro _ w ⟨v,rfl,hs⟩
 refine ⟨v,rfl,go ?_⟩
 refine ae (met (dr (N:=x.seq) (k:=8) hs (by omega) (by simp;omega)) ?_)
 rintro _ w ⟨v,rfl,hs⟩
 refine ⟨v,rfl,go ?_⟩
 refine s8 rfl (fun h=>?_) (fun h=>?_)
 ·refine go ?_
  refine fw hs fun w b hs=>?_
  refine xP (z:=255) hs fun v w hs=>?_
  refine go ?_
  exact ak rfl ⟨v,rfl,by rw [show bs++cY x=bs++bE x.key++bM x.seq 8++[255] from by simp [cY,h]];exact hs.to⟩
 ·have hv:=hv h
  refine go ?_
  refine ae (met (gw (s:=x.val) hs (by simp;omega) (by omega)) ?_)
  rintro _ w ⟨v,rfl,hs⟩
  refine ⟨v,rfl,go ?_⟩
  exact ak rfl ⟨v,rfl,by rw [show bs++cY x=bs++bE x.key++bM x.seq 8++bE x.val from by simp [cY,h]];exact hs.to⟩
structure OV where
 bi:Nat
 bt:Nat
 bf:Nat
 bl:Nat
 p:Nat
 d:Nat
 name:Bs
 first:Bs
 last:Bs
 count:Nat
structure Om where
 vi:Value
 vl:Value
 bv:Value
abbrev JP (P:OV) (V:Om) (s:Wr):List ah:=
 [blk P.bi 93 [V.vi],cC V.vi s.inb,blk P.bt 193 [au P.p],blk P.p 200 [str P.name,str P.first,str P.last,.int .i64 (P.count:Int),au P.d,V.bv],aE 3 V.bv 282 s.blocks.length (cM s.blocks).flatten,blk P.bf 9 [str s.first],blk P.bl 93 [V.vl],cC V.vl s.file]
theorem ru (b:Bs):(aD b).length=b.length+12:=by rw [Pure.bL];omega
theorem Ah (l:List (Bs×Nat×Nat)) (b:Bs×Nat×Nat):(cM (l++[b])).flatten=(cM l).flatten++sU b:=by simp [cM]
theorem uF {P:OV} {V:Om} {s s':Wr} (hs:Sat W0 (JP P V s++F) w) (h:kN s=some s') :
 Calls Tryz.prog 227 #[au P.bi,au P.bt,au P.bf,au P.bl] w fun x w'=>∃ u V',x=.returned u∧Sat W0 (JP P V' s'++F) w':=by
 unfold kN at h
 split at h
 ·rename_i hb
  obtain ⟨h1,h2,h3⟩:=hb
  rw [bJ] at h2 h3
  cases h
  dsimp only [JP,List.cons_append,List.nil_append] at hs
  obtain ⟨a1,c1,e1,-⟩:=(hs.take (.there .here)).ay
  obtain ⟨a2,c2,e2,-⟩:=(hs.take (.there (.there (.there (.there (.there (.there (.there .here)))))))).ay
  obtain ⟨vi,vl,bv⟩:=V
  dsimp only at e1 e2 hs
  subst e1 e2
  refine enter Tryz.func227 rfl Tryz.ntmps227 Tryz.results227 rfl ?_
  refine go ?_
  refine ae (met (kH (hs.take (.there .here)) (by omega)) ?_)
  rintro _ w ⟨vf,rfl,hs⟩
  refine ⟨_,rfl,?_⟩
  obtain ⟨a3,c3,rfl,-⟩:=hs.ay
  refine go ?_
  have hfl:=ru s.inb
  refine bU [blk P.bt 193 [au P.p],blk P.p 200 [str P.name,str P.first,str P.last,.int .i64 (P.count:Int),au P.d,bv],blk P.bf 9 [str s.first],blk P.bl 93 [.slice a2 s.file.length c2]] [(0,false),(1,false),(2,false),(3,false),(4,false),(5,false),(6,false),(7,false),(8,false),(9,false),(10,false),(11,true),(12,true),(13,false),(14,false),(15,true)] hs.to (by kernel_rfl) fun w hs=>?_
  refine go ?_
  refine qy (sU (s.first,s.file.length,(aD s.inb).length)) rfl ?_
  refine go ?_
  refine gN (sU (s.first,s.file.length,(aD s.inb).length)) hs (fun w b2 hs=>?_)
  refine go ?_
  refine dF hs fun v2 w hs=>?_
  obtain ⟨a4,c4,rfl,-⟩:=hs.ay
  refine go ?_
  refine bD hs fun w hs=>?_
  refine go ?_
  refine mx (m:=0) (bs:=s.file) (ns:=aD s.inb) hs rfl rfl (by repeat (first|exact Take.here|apply Take.there)) (q6 rfl (by repeat (first|exact Take.here|apply Take.there))) (by omega) rfl fun v3 w hs=>?_
  obtain ⟨a5,c5,rfl,-⟩:=hs.ay
  refine bD hs fun w hs=>?_
  refine go ?_
  refine bD hs fun w hs=>?_
  refine go ?_
  refine gB rfl ⟨_,⟨.slice none 0 0,.slice a5 (s.file++aD s.inb).length c5,.slice a4 (s.blocks.length+1) c4⟩,rfl,?_⟩
  have hs2:=hs.cP (k:=1) (E:=5)
  dsimp only [JP,List.cons_append,List.nil_append]
  rw [Ah,List.length_append]
  exact hs2.to
 ·cases h
end
section
open Go.Proofs.YtecibefflhomdaaGreatDoor.Pure (ad az Rd bI less aQ aZ bM bE aD cY dec)
attribute [local irreducible] IntKind.wrap
variable {W0 w:World} {F:List ah} {v:Value} {d:Nat}
def Cf (l:List az) (i:Nat) (e:az) (s:Wr):Option Wr:=if 300≤s.inb.length then match l[i-1]? with
 | none=>none
 | some p=>if e.key=p.key then some s else (kN s).map fun s=>{ s with first:=e.key }
 else some s
theorem Cg {l:List az} {i:Nat} {e:az} {s s1:Wr} (h:stepW l i e s=some s1):∃ s2,Cf l i e s=some s2∧s1={ s2 with inb:=s2.inb++cY e }∧s.inb.length≤1048576∧Aa e=true:=by
 unfold stepW at h
 split at h
 ·rename_i hg
  change (Cf l i e s).map _=_ at h
  cases hp:Cf l i e s with
  | none=>rw [hp] at h;cases h
  | some s2=>
   rw [hp] at h
   simp only [Option.map_some,Option.some.injEq] at h
   exact ⟨s2,rfl,h.symm,hg.1,hg.2⟩
 ·cases h
theorem Ky {l:List az} {i:Nat} {e:az} {s s2:Wr} (h:Cf l i e s=some s2):s2.inb.length≤s.inb.length:=by
 unfold Cf at h
 split at h
 ·split at h
  ·cases h
  ·split at h
   ·cases h;exact Nat.le_refl _
   ·unfold kN at h
    split at h
    ·cases h;simp
    ·cases h
 ·cases h;exact Nat.le_refl _
theorem FN {l:List az} {z:Bs×List (Bs×Nat×Nat)} (h:FM l=some z):∃ e ez sfin send,l.head?=some e∧l.getLast?=some ez∧lG l 0 l ⟨[],[],e.key,[]⟩=some sfin∧kN sfin=some send ∧
 (send.file.length≤gW∧send.blocks.length≤1048576∧l.length≤1048576∧(send.blocks.all fun b=>Nat.ble b.1.length 255&&Nat.ble b.2.1 gW&&Nat.ble b.2.2 gW)=true∧e.key.length≤255∧ez.key.length≤255) ∧
 z=(send.file++aD (ir e.key ez.key l.length send.blocks)++aD (bM send.file.length 8),send.blocks):=by
 unfold FM at h
 split at h
 ·rename_i e r ez hez
  cases hst:lG (e::r) 0 (e::r) ⟨[],[],e.key,[]⟩ with
  | none=>rw [hst] at h;cases h
  | some sfin=>
   rw [hst] at h
   simp only [Option.bind_some] at h
   cases hf:kN sfin with
   | none=>rw [hf] at h;cases h
   | some send=>
    rw [hf] at h
    dsimp only at h
    split at h
    ·rename_i hg
     exact ⟨e,ez,sfin,send,rfl,hez,hst,hf,hg,(Option.some.inj h).symm⟩
    ·cases h
 ·cases h
theorem wU {bs:List (Bs×Nat×Nat)} (h:(bs.all fun b=>Nat.ble b.1.length 255&&Nat.ble b.2.1 gW&&Nat.ble b.2.2 gW)=true) {j:Nat} (hj:j≤1048576) :
 ((bs.take j).map fun b=>bE b.1++bM b.2.1 4++bM b.2.2 4).flatten.length≤276824064:=by
 have key:∀ (l:List (Bs×Nat×Nat)),(∀ b∈l,b.1.length≤255)→(l.map fun b=>bE b.1++bM b.2.1 4++bM b.2.2 4).flatten.length≤l.length*264:=by
  intro l
  induction l with
  | nil=>intro _;simp
  | cons b r ih=>
   intro hl
   have h1:=hl b List.mem_cons_self
   have h2:=ih fun x hx=>hl x (List.mem_cons_of_mem _ hx)
   simp only [List.map_cons,List.flatten_cons,List.length_append,List.length_cons,Pure.dg,Pure.aU] at h2 ⊢
   omega
 have h1:=key (bs.take j) fun b hb=>by
  have:=List.all_eq_true.1 h b (List.mem_of_mem_take hb)
  simp only [Bool.and_eq_true,Nat.ble_eq] at this
  exact this.1.1
 have h2:(bs.take j).length≤j:=List.length_take_le _ _
 omega
def Kz (d:Nat) (tv:Value):Except cy cD→ah
 | .ok T=>fun h=>∃ p,tv=au p∧cG d p T h
 | .error _=>fun _=>True
theorem Sat.Io {p:Nat} {T:cD} {bv:Value} (hT:zT T) (hs:Sat W0 (sT p 200 [str T.name,str T.first,str T.last,.int .i64 (T.count:Int),au d,bv]::jm 3 bv (cM T.blocks)::F) w):Sat W0 (Kz d (au p) (.ok T)::F) w:=
 Sat.close (B:=[sT p 200 [str T.name,str T.first,str T.last,.int .i64 (T.count:Int),au d,bv],jm 3 bv (cM T.blocks)]) hs fun hp k=>⟨p,rfl,hT,bv,k⟩
theorem uG {D:ad} {name:Bs} {l:List az} (hs:Sat W0 (jm 4 v (bu l)::ag d D::F) w) {r:Except cy cD×ad} (h:nO D name l=some r) :
 Calls Tryz.prog 208 #[au d,str name,v] w fun x w'=>∃ tv ve,x=.returned (.tuple #[tv,ve])∧Sat W0 (ag d r.2::ax ve (dk r.1)::Kz d tv r.1::F) w':=by
 unfold nO at h
 cases ht:FM l with
 | none=>rw [ht] at h;cases h
 | some z=>
  rw [ht] at h
  dsimp only at h
  obtain ⟨e,ez,sfin,send,he,hez,hst0,hfl,⟨g1,g2,hlb,g4,g5,g6⟩,hz⟩:=FN ht
  clear ht
  have hlp:0<l.length:=by cases l with|nil=>cases he|cons a b=>simp
  have he0:l[0]?=some e:=by rw [← List.head?_eq_getElem?];exact he
  have hzi:l[l.length-1]?=some ez:=by rw [← List.getLast?_eq_getElem?];exact hez
  obtain ⟨z0,⟨hv,hzc,hseg⟩,hs2⟩:=hs.mK (by intro hn;simp [bu] at hn;rw [hn] at hlp;simp at hlp)
  have hlen:(bu l).length=l.length:=by simp [bu]
  rw [hlen] at hv hzc
  subst hv
  obtain ⟨b0,o0,c0,all,E0⟩:=z0
  dsimp only at hzc hseg hs2
  clear hs
  have hrow:∀ i x,l[i]?=some x→gh all (o0+i*4) (aF x):=fun i x hi=>hseg.row (i:=i) (x:=aF x) (gE _) (by simp [bu,hi])
  have hrow0:=hrow _ _ he0
  have hrowl:=hrow _ _ hzi
  generalize hL:l.length=L at *
  refine enter Tryz.func208 rfl Tryz.ntmps208 Tryz.results208 rfl ?_
  refine dU ?_
  refine gz ?_
  refine db rfl ?_
  refine eB (α:=Nat×Nat) (fun z=>[(0,au d),(1,str name),(2,.slice (some ⟨b0,o0,none⟩) L c0),(8,au z.1)]) (fun z w=>Sat W0 (blk z.1 193 [au z.2]::blk z.2 200 [str name,str e.key,str ez.key,.int .i64 (L:Int),au d,.slice none 0 0]::ob true b0 (.cells all.toArray E0 (0,0))::ag d D::F) w) ?_ ?_
  ·refine bH [ob true b0 (.cells all.toArray E0 (0,0))] [4,11] (.q 0 (.q 1 (.q 2 (.q 3 (.s 4 (.q 5 (.q 6 (.q 7 (.q 8 (.q 9 (.q 10 (.s 11 (.q 12 (.q 13 (.q 14 (.q 15 (.q 16 (.l2 17 (.l 18 (.l 19 .nil)) 18 (.l 17 (.l 19 .nil)))))))))))))))))))) hs2 (by kernel_rfl) fun w hs=>?_
   refine wH ?_
   refine fI (j:=0) rfl rfl rfl rfl rfl rfl hlp rfl ?_
   refine wH ?_
   refine sk rfl rfl rfl .here hrow0.1 rfl ?_
   refine wH ?_
   refine fI (j:=L-1) rfl rfl rfl (by omega) rfl rfl (by omega) rfl ?_
   refine wH ?_
   refine sk rfl rfl rfl .here hrowl.1 rfl ?_
   refine wH ?_
   refine mf [str name,str e.key,str ez.key,.int .i64 (L:Int)] rfl ?_
   refine wH ?_
   refine mf [str name,str e.key,str ez.key,.int .i64 (L:Int),au d,.slice none 0 0] rfl ?_
   refine zQ rfl rfl ?_ ?_
   ·refine cE hs fun w p hs=>?_
    refine gz ?_
    refine cX hs.to ?_
    refine hJ rfl ?_
    refine aS hs ?_
    clear hs
    intro w bt hs
    refine gz ?_
    refine cX hs.to ?_
    refine hJ rfl ?_
    refine bD hs ?_
    clear hs
    intro w hs
    refine gz ?_
    refine cX hs.to ?_
    refine fA ?_
    exact bg (bt,p) ⟨rfl,rfl,rfl,rfl,trivial⟩ hs.to
   ·refine aS hs fun w bt hs=>?_
    refine gz ?_
    refine cX hs.to ?_
    refine hJ rfl ?_
    refine cE hs ?_
    clear hs
    intro w p hs
    refine gz ?_
    refine cX hs.to ?_
    refine hJ rfl ?_
    refine bD hs ?_
    clear hs
    intro w hs
    refine gz ?_
    refine cX hs.to ?_
    refine fA ?_
    exact bg (bt,p) ⟨rfl,rfl,rfl,rfl,trivial⟩ hs.to
  clear hs2
  rintro ⟨bt,p⟩ w hs
  dsimp only at hs
  refine gx ?_
  refine aS hs ?_
  clear hs
  intro w bl hs
  refine gx ?_
  refine aS hs ?_
  clear hs
  intro w bi hs
  refine gx ?_
  refine cL (i:=0) rfl rfl rfl rfl rfl hlp rfl ?_
  refine gx ?_
  refine eC hs rfl rfl (by repeat (first|exact Take.here|apply Take.there)) hrow0.1 rfl ?_
  refine aS hs ?_
  clear hs
  intro w bf hs
  refine bD hs ?_
  clear hs
  intro w hs
  refine gx ?_
  refine aL (α:=Nat×Wr×Om) (fun z=>[(0,au d),(1,str name),(2,.slice (some ⟨b0,o0,none⟩) L c0),(8,au bt),(9,au bl),(10,au bi),(11,au bf),(12,.func (.func 227) #[] #[au bi,au bt,au bf,au bl]),(44,.slice (some ⟨b0,o0,none⟩) L c0),(45,.int .i64 (L:Int)),(46,.int .i64 (z.1:Int))])
   (fun z w=>(z.1≤L∧lG l z.1 (l.drop z.1) z.2.1=some sfin∧(0<z.1∨z.2.1.inb=[]))∧Sat W0 (JP ⟨bi,bt,bf,bl,p,d,name,e.key,ez.key,L⟩ z.2.2 z.2.1++ob true b0 (.cells all.toArray E0 (0,0))::ag d D::F) w) (fun z=>L-z.1) (0,⟨[],[],e.key,[]⟩,⟨.slice none 0 0,.slice none 0 0,.slice none 0 0⟩) ⟨rfl,rfl,rfl,rfl,rfl,rfl,rfl,rfl,rfl,rfl,rfl,trivial⟩ ⟨⟨Nat.zero_le _,hst0,.inr rfl⟩,?_⟩ ?_
  ·have hs:=((hs.cP (k:=1) (E:=5)).cP (k:=1) (E:=5)).cP (k:=3) (E:=282)
   exact hs.to
  clear hs
  rintro ⟨i,s,V⟩ w ⟨⟨hi,hst,hin⟩,hs⟩
  dsimp only at hi hst hin
  obtain ⟨vi,vl,bv⟩:=V
  dsimp only [JP,List.cons_append,List.nil_append] at hs
  by_cases hlt:i<L
  ·have hlt':i<l.length:=by omega
   have hx:l[i]?=some l[i]:=List.getElem?_eq_getElem hlt'
   generalize l[i]=x at hx
   have hdrop:l.drop i=x::l.drop (i+1):=by rw [List.drop_eq_getElem_cons hlt'];congr 1;exact (List.getElem?_eq_some_iff.1 hx).2
   rw [hdrop] at hst
   simp only [lG] at hst
   cases hsw:stepW l i x s with
   | none=>rw [hsw] at hst;cases hst
   | some s1=>
    rw [hsw] at hst
    dsimp only at hst
    obtain ⟨s2,hpre,rfl,q1,q2⟩:=Cg hsw
    have hin2:=Ky hpre
    simp only [Aa,Bool.and_eq_true,Nat.ble_eq] at q2
    have hrowi:=hrow _ _ hx
    refine (show WC _ _ _ _ [(0,au d),(1,str name),(2,.slice (some ⟨b0,o0,none⟩) L c0),(8,au bt),(9,au bl),(10,au bi),(11,au bf),(12,.func (.func 227) #[] #[au bi,au bt,au bf,au bl]),(44,.slice (some ⟨b0,o0,none⟩) L c0),(45,.int .i64 (L:Int)),(46,.int .i64 (i:Int))] w from ?_)
    refine gx ?_
    refine cL (i:=i) rfl rfl rfl rfl rfl hlt rfl ?_
    refine dz (aF x) hs rfl rfl rfl (by repeat (first|exact Take.here|apply Take.there)) hrowi rfl ?_
    refine gz ?_
    refine aS hs ?_
    clear hs
    intro w b14 hs
    refine gz ?_
    refine cZ (vs:=aF x) hs ?_
    clear hs
    intro w hs
    refine gz ?_
    refine db rfl ?_
    refine eB (α:=Wr×Om) (fun z=>[(0,au d),(1,str name),(2,.slice (some ⟨b0,o0,none⟩) L c0),(8,au bt),(9,au bl),(10,au bi),(11,au bf),(12,.func (.func 227) #[] #[au bi,au bt,au bf,au bl]),(44,.slice (some ⟨b0,o0,none⟩) L c0),(45,.int .i64 (L:Int)),(46,.int .i64 (i:Int)),(14,au b14)])
     (fun z w=>Cf l i x s=some z.1∧Sat W0 (JP ⟨bi,bt,bf,bl,p,d,name,e.key,ez.key,L⟩ z.2 z.1++blk b14 256 (aF x)::ob true b0 (.cells all.toArray E0 (0,0))::ag d D::F) w) ?_ ?_
    ·clear hst hsw
     obtain ⟨a1,c1,e1,-⟩:=(hs.take (.there (.there .here))).ay
     subst e1
     unfold Cf at hpre ⊢
     by_cases h300:300≤s.inb.length
     ·rw [if_pos h300] at hpre
      obtain ⟨i,rfl⟩:∃ j,i=j+1:=⟨i-1,by rcases hin with h|h;omega;rw [h] at h300;simp at h300⟩
      have hpv:∃ pv,l[i]?=some pv:=⟨_,List.getElem?_eq_getElem (show i<l.length by omega)⟩
      obtain ⟨pv,hpv⟩:=hpv
      rw [Nat.add_sub_cancel,hpv] at hpre
      dsimp only at hpre
      have hrowp:=hrow _ _ hpv
      refine dU ?_
      refine bH [blk b14 256 (aF x),blk bi 93 [.slice a1 s.inb.length c1],ob true b0 (.cells all.toArray E0 (0,0))] [0,5,11] (.s 0 (.q 1 (.q 2 (.q 3 (.q 4 (.s 5 (.q 6 (.q 7 (.q 8 (.q 9 (.q 10 (.s 11 (.q 12 (.q 13 .nil)))))))))))))) hs (by kernel_rfl) fun w hs=>?_
      have h300':(s.inb.length:Int) ≥ 300:=by omega
      refine wH ?_
      refine rn (j:=i) rfl rfl rfl rfl (by omega) rfl rfl (by omega) rfl ?_
      refine wH ?_
      refine nN rfl rfl rfl rfl (by repeat (first|exact Take.here|apply Take.there)) hrowp.1 rfl ?_
      by_cases hk:x.key=pv.key
      ·rw [if_pos hk] at hpre
       refine m9 (v:=.bool false) rfl rfl (by show some (Value.bool (decide (x.key≠pv.key)))=some (.bool false);rw [decide_eq_false (by simpa using hk)]) rfl ?_
       refine wH ?_
       refine fA ?_
       refine gx ?_
       exact bg (s,⟨.slice a1 s.inb.length c1,vl,bv⟩) ⟨rfl,rfl,rfl,rfl,rfl,rfl,rfl,rfl,rfl,rfl,rfl,rfl,trivial⟩ ⟨by rw [if_pos h300,Nat.add_sub_cancel,hpv];simp only [if_pos hk],hs.to⟩
      ·rw [if_neg hk] at hpre
       refine m9 (v:=.bool true) rfl rfl (by show some (Value.bool (decide (x.key≠pv.key)))=some (.bool true);rw [decide_eq_true (by simpa using hk)]) rfl ?_
       refine wH ?_
       refine fA ?_
       refine gx ?_
       cases hfs:kN s with
       | none=>rw [hfs] at hpre;cases hpre
       | some sf=>
        rw [hfs] at hpre
        simp only [Option.map_some,Option.some.injEq] at hpre
        subst hpre
        have hs3:Sat W0 (blk bi 93 [.slice a1 s.inb.length c1]::cC (.slice a1 s.inb.length c1) s.inb::blk bt 193 [au p]::blk p 200 [str name,str e.key,str ez.key,.int .i64 (L:Int),au d,bv]::aE 3 bv 282 s.blocks.length (cM s.blocks).flatten::blk bf 9 [str s.first]::blk bl 93 [vl]::cC vl s.file::blk b14 256 (aF x)::ob true b0 (.cells all.toArray E0 (0,0))::ag d D::F) w:=hs.to
        clear hs
        refine il rfl rfl rfl rfl (met (uF (P:=⟨bi,bt,bf,bl,p,d,name,e.key,ez.key,L⟩) (V:=⟨.slice a1 s.inb.length c1,vl,bv⟩) (F:=blk b14 256 (aF x)::ob true b0 (.cells all.toArray E0 (0,0))::ag d D::F) hs3 hfs) ?_)
        rintro _ w ⟨u,V',rfl,hs⟩
        dsimp only [JP,List.cons_append,List.nil_append] at hs
        clear hs3
        refine ⟨_,rfl,?_⟩
        refine gx ?_
        refine bD hs ?_
        clear hs
        intro w hs
        refine gz ?_
        exact bg ({ sf with first:=x.key },V') ⟨rfl,rfl,rfl,rfl,rfl,rfl,rfl,rfl,rfl,rfl,rfl,rfl,trivial⟩ ⟨by rw [if_pos h300,Nat.add_sub_cancel,hpv];simp only [if_neg hk,hfs];rfl,hs.to⟩
     ·rw [if_neg h300] at hpre
      refine dU ?_
      refine bH [blk b14 256 (aF x),blk bi 93 [.slice a1 s.inb.length c1],ob true b0 (.cells all.toArray E0 (0,0))] [0,5,11] (.s 0 (.q 1 (.q 2 (.q 3 (.q 4 (.s 5 (.q 6 (.q 7 (.q 8 (.q 9 (.q 10 (.s 11 (.q 12 (.q 13 .nil)))))))))))))) hs (by kernel_rfl) fun w hs=>?_
      have h300':¬ (s.inb.length:Int) ≥ 300:=by omega
      refine wH ?_
      refine fA ?_
      refine gx ?_
      rw [if_neg h300]
      exact bg (s,⟨.slice a1 s.inb.length c1,vl,bv⟩) ⟨rfl,rfl,rfl,rfl,rfl,rfl,rfl,rfl,rfl,rfl,rfl,rfl,trivial⟩ ⟨rfl,hs.to⟩
    ·clear hs
     rintro ⟨s3,vi3,vl3,bv3⟩ w ⟨hp3,hs⟩
     rw [hpre] at hp3
     obtain rfl:=Option.some.inj hp3
     dsimp only [JP,List.cons_append,List.nil_append] at hs
     refine gx ?_
     refine ae (met (wT (x:=x) (hs.take (.there .here)) (by omega) q2.1 (fun hd=>by simpa [hd] using q2.2)) ?_)
     clear hs
     rintro _ w ⟨v',rfl,hs⟩
     refine ⟨_,rfl,?_⟩
     obtain ⟨a5,c5,rfl,-⟩:=hs.ay
     refine gz ?_
     refine bD hs ?_
     clear hs
     intro w hs
     refine gx ?_
     refine aB (i+1,⟨s2.file,s2.inb++cY x,s2.first,s2.blocks⟩,⟨.slice a5 (s2.inb++cY x).length c5,vl3,bv3⟩) ⟨rfl,rfl,rfl,rfl,rfl,rfl,rfl,rfl,rfl,rfl,rfl,trivial⟩ ⟨⟨by show i+1≤L;omega,hst,.inl (by show 0<i+1;omega)⟩,?_⟩ (by show L-(i+1)<L-i;omega)
     exact hs.to
  ·have hiL:L=i:=by omega
   subst hiL
   have hd0:l.drop L=[]:=by rw [List.drop_eq_nil_iff];omega
   rw [hd0] at hst
   simp only [lG,Option.some.injEq] at hst
   subst hst
   refine (show WC _ _ _ _ [(0,au d),(1,str name),(2,.slice (some ⟨b0,o0,none⟩) L c0),(8,au bt),(9,au bl),(10,au bi),(11,au bf),(12,.func (.func 227) #[] #[au bi,au bt,au bf,au bl]),(44,.slice (some ⟨b0,o0,none⟩) L c0),(45,.int .i64 (L:Int)),(46,.int .i64 (L:Int))] w from ?_)
   refine gx ?_
   have hs3:Sat W0 (blk bi 93 [vi]::cC vi s.inb::blk bt 193 [au p]::blk p 200 [str name,str e.key,str ez.key,.int .i64 (L:Int),au d,bv]::aE 3 bv 282 s.blocks.length (cM s.blocks).flatten::blk bf 9 [str s.first]::blk bl 93 [vl]::cC vl s.file::ob true b0 (.cells all.toArray E0 (0,0))::ag d D::F) w:=hs.to
   clear hs
   refine il rfl rfl rfl rfl (met (uF (P:=⟨bi,bt,bf,bl,p,d,name,e.key,ez.key,L⟩) (V:=⟨vi,vl,bv⟩) (F:=ob true b0 (.cells all.toArray E0 (0,0))::ag d D::F) hs3 hfl) ?_)
   rintro _ w ⟨u,⟨vi2,vl2,bv2⟩,rfl,hs⟩
   dsimp only [JP,List.cons_append,List.nil_append] at hs
   clear hs3
   refine ⟨_,rfl,?_⟩
   refine gx ?_
   have hs:=(hs.take (.there (.there (.there (.there .here)))))
   have hbl:send.blocks.length=(cM send.blocks).length:=by simp [cM]
   rw [hbl] at hs
   have hs:=(Sat.jK (qp _) hs).take (.there (.there (.there (.there .here))))
   have hs:=hs.share
   obtain ⟨a6,c6,rfl,hc6⟩:=(hs.take (.there .here)).iw
   have hTok:zT ⟨name,e.key,ez.key,L,send.blocks⟩:=⟨by show send.blocks.length≤_;omega,by show L≤_;omega,fun b hb=>by
    have:=List.all_eq_true.1 g4 b hb
    simp only [Bool.and_eq_true,Nat.ble_eq,bJ] at this
    omega⟩
   refine bU [blk bt 193 [au p],sT p 200 [str name,str e.key,str ez.key,.int .i64 (L:Int),au d,.slice a6 (cM send.blocks).length c6]] [(0,false),(1,false),(2,false),(3,false),(4,false),(6,false),(7,false),(8,false),(9,false),(10,false),(5,true),(11,true),(12,false)] hs.to (by kernel_rfl) fun w hs=>?_
   refine gx ?_
   refine ae (met (gw (v:=.slice none 0 0) (bs:=[]) (s:=e.key) (hs.cP (k:=1) (E:=5)) (by simp) (by omega)) ?_)
   clear hs
   rintro _ w ⟨v1,rfl,hs⟩
   refine ⟨_,rfl,gx ?_⟩
   refine ae (met (gw (s:=ez.key) hs (by simp only [List.length_append,Pure.dg,Pure.aU,List.length_nil];omega) (by omega)) ?_)
   clear hs
   rintro _ w ⟨v2,rfl,hs⟩
   refine ⟨_,rfl,gx ?_⟩
   refine ae (met (dr (N:=L) (k:=4) hs (by omega) (by simp only [List.length_append,Pure.dg,Pure.aU,List.length_nil];omega)) ?_)
   clear hs
   rintro _ w ⟨v3,rfl,hs⟩
   refine ⟨_,rfl,gx ?_⟩
   have hn:(cM send.blocks).length≤1048576:=by omega
   refine aL (α:=Nat×Value) (fun z=>[(0,au d),(1,str name),(8,au bt),(9,au bl),(15,z.2),(98,.slice a6 (cM send.blocks).length c6),(99,.int .i64 ((cM send.blocks).length:Int)),(100,.int .i64 (z.1:Int))])
    (fun z w=>z.1≤send.blocks.length∧Sat W0 (cC z.2 (bE e.key++bE ez.key++bM L 4++((send.blocks.take z.1).map fun b=>bE b.1++bM b.2.1 4++bM b.2.2 4).flatten)::sT p 200 [str name,str e.key,str ez.key,.int .i64 (L:Int),au d,.slice a6 (cM send.blocks).length c6]::jm 3 (.slice a6 (cM send.blocks).length c6) (cM send.blocks)::blk bt 193 [au p]::blk bl 93 [vl2]::cC vl2 send.file::ag d D::F) w) (fun z=>send.blocks.length-z.1) (0,v3) ⟨rfl,rfl,rfl,rfl,rfl,rfl,rfl,rfl,trivial⟩ ⟨Nat.zero_le _,?_⟩ ?_
   ·dsimp only
    rw [List.take_zero,List.map_nil,List.flatten_nil,List.append_nil]
    exact hs.to
   clear hs
   rintro ⟨j,v4⟩ w ⟨hj,hs⟩
   dsimp only at hj hs
   by_cases hlt:j<send.blocks.length
   ·have hg:send.blocks[j]?=some send.blocks[j]:=List.getElem?_eq_getElem hlt
    generalize send.blocks[j]=bk at hg
    have htk:send.blocks.take (j+1)=send.blocks.take j++[bk]:=by
     rw [List.take_add_one,hg];rfl
    obtain ⟨z0,⟨hv,hzc,hseg⟩,hs2⟩:=(hs.take (.there (.there .here))).mK (by intro hn0;rw [hn0] at hbl;simp at hbl;rw [hbl] at hlt;simp at hlt)
    obtain ⟨rfl,_,rfl⟩:=Value.slice.inj hv
    have hrowj:=hseg.row (i:=j) (x:=sU bk) (qp _) (by simp [cM,hg])
    have hbk:=List.all_eq_true.1 g4 bk (List.mem_of_getElem? hg)
    simp only [Bool.and_eq_true,Nat.ble_eq,bJ] at hbk
    obtain ⟨⟨k1,k2⟩,k3⟩:=hbk
    have hfb:((send.blocks.take j).map fun b=>bE b.1++bM b.2.1 4++bM b.2.2 4).flatten.length≤276824064:=wU g4 (by omega)
    have hlt':j<(cM send.blocks).length:=by omega
    refine gx ?_
    refine cL (i:=j) rfl rfl rfl rfl rfl hlt' rfl ?_
    refine dz (sU bk) hs2 rfl rfl rfl (by repeat (first|exact Take.here|apply Take.there)) hrowj rfl ?_
    refine aS hs2 fun w b17 hs=>?_
    refine cZ (vs:=sU bk) hs ?_
    clear hs
    intro w hs
    clear hs2
    refine gx ?_
    refine ae (met (gw (s:=bk.1) (hs.take (.there (.there (.there .here)))) (by simp only [List.length_append,Pure.dg,Pure.aU,List.length_nil];omega) (by omega)) ?_)
    clear hs
    rintro _ w ⟨v5,rfl,hs⟩
    refine ⟨_,rfl,gx ?_⟩
    refine bU [blk b17 282 (sU bk)] [(0,false),(1,false),(2,false),(3,false),(5,false),(6,false),(7,false),(4,true),(8,true),(9,false)] hs (by kernel_rfl) fun w hs=>?_
    have w1:IntKind.u64.wrap (bk.2.1:Int)=(bk.2.1:Int):=IntWalk.u64_in _ (by omega)
    have w2:IntKind.u64.wrap (bk.2.2:Int)=(bk.2.2:Int):=IntWalk.u64_in _ (by omega)
    refine gx ?_
    try rw [w1,w2]
    refine ae (met (dr (N:=bk.2.1) (k:=4) hs (by omega) (by simp only [List.length_append,Pure.dg,Pure.aU,List.length_nil];omega)) ?_)
    clear hs
    rintro _ w ⟨v6,rfl,hs⟩
    refine ⟨_,rfl,gx ?_⟩
    refine ae (met (dr (N:=bk.2.2) (k:=4) hs (by omega) (by simp only [List.length_append,Pure.dg,Pure.aU,List.length_nil];omega)) ?_)
    clear hs
    rintro _ w ⟨v7,rfl,hs⟩
    refine ⟨_,rfl,gx ?_⟩
    refine aB (j+1,v7) ⟨rfl,rfl,rfl,rfl,rfl,rfl,rfl,rfl,trivial⟩ ⟨by show j+1≤_;omega,?_⟩ (by show _-(j+1)<_-j;omega)
    dsimp only
    rw [htk,List.map_append,List.flatten_append,List.map_cons,List.map_nil,List.flatten_cons,List.flatten_nil,List.append_nil]
    simp only [List.append_assoc] at hs ⊢
    exact hs.to
   ·have hjn:j=send.blocks.length:=by omega
    subst hjn
    rw [List.take_length] at hs
    have hfb:((send.blocks).map fun b=>bE b.1++bM b.2.1 4++bM b.2.2 4).flatten.length≤276824064:=by
     have:=wU (j:=send.blocks.length) g4 (by omega)
     rwa [List.take_length] at this
    have hlB:bE e.key++bE ez.key++bM L 4++((send.blocks).map fun b=>bE b.1++bM b.2.1 4++bM b.2.2 4).flatten=ir e.key ez.key L send.blocks:=rfl
    have hlen2:(ir e.key ez.key L send.blocks).length≤300000000:=by rw [← hlB];simp only [List.length_append,Pure.dg,Pure.aU];omega
    rw [hlB] at hs
    have hnlt:¬ send.blocks.length<(cM send.blocks).length:=by omega
    obtain ⟨a7,c7,rfl,-⟩:=(hs.take (.there (.there (.there (.there (.there .here)))))).ay
    have hfl2:send.file.length≤1099511627776:=by rw [← bJ];exact g1
    refine gx ?_
    refine ae (met (dr (v:=.slice none 0 0) (bs:=[]) (N:=send.file.length) (k:=8) (hs.cP (k:=1) (E:=5)) (by omega) (by simp)) ?_)
    clear hs
    rintro _ w ⟨v8,rfl,hs⟩
    refine ⟨_,rfl,gx ?_⟩
    refine ae (met (kH hs (by simp)) ?_)
    clear hs
    rintro _ w ⟨v9,rfl,hs⟩
    refine ⟨_,rfl,?_⟩
    simp only [List.nil_append] at hs
    refine gx ?_
    have hs:=hs.to (a:=blk bl 93 [.slice a7 send.file.length c7]::cC v4 (ir e.key ez.key L send.blocks)::cC v9 (aD (bM send.file.length 8))::cC (.slice a7 send.file.length c7) send.file::sT p 200 [str name,str e.key,str ez.key,.int .i64 (L:Int),au d,.slice a6 (cM send.blocks).length c6]::jm 3 (.slice a6 (cM send.blocks).length c6) (cM send.blocks)::blk bt 193 [au p]::ag d D::F)
    refine bU [blk bl 93 [.slice a7 send.file.length c7]] [(0,false),(1,false),(4,false),(2,true),(3,true),(5,true),(6,true)] hs (by kernel_rfl) fun w hs=>?_
    refine gx ?_
    have hfr1:=ru (ir e.key ez.key L send.blocks)
    have hfr2:=ru (bM send.file.length 8)
    rw [Pure.aU] at hfr2
    refine ae (met (kH (hs.take (.there .here)) (by omega)) ?_)
    clear hs
    rintro _ w ⟨v10,rfl,hs⟩
    refine ⟨_,rfl,gx ?_⟩
    refine mx (m:=(aD (ir e.key ez.key L send.blocks)).length) (bs:=send.file) (ns:=aD (ir e.key ez.key L send.blocks)) hs rfl rfl (by repeat (first|exact Take.here|apply Take.there)) (q6 rfl (by repeat (first|exact Take.here|apply Take.there))) (by omega) rfl ?_
    clear hs
    intro v11 w hs
    refine gx ?_
    refine mx (m:=(aD (bM send.file.length 8)).length) (bs:=send.file++aD (ir e.key ez.key L send.blocks)) (ns:=aD (bM send.file.length 8)) hs rfl rfl (by repeat (first|exact Take.here|apply Take.there)) (q6 rfl (by repeat (first|exact Take.here|apply Take.there))) (by rw [List.length_append];omega) rfl ?_
    clear hs
    intro v12 w hs
    obtain ⟨a8,c8,rfl,-⟩:=hs.ay
    refine gx ?_
    refine bD hs ?_
    clear hs
    intro w hs
    subst hz
    dsimp only at h
    generalize send.file++aD (ir e.key ez.key L send.blocks)++aD (bM send.file.length 8)=file at *
    by_cases hm:D.moves.length≤gW
    ·rw [if_pos hm] at h
     rw [bJ] at hm
     refine gx ?_
     have hs:=hs.to (a:=ag d D::cC (.slice a8 file.length c8) file::blk bl 93 [.slice a8 file.length c8]::sT p 200 [str name,str e.key,str ez.key,.int .i64 (L:Int),au d,.slice a6 (cM send.blocks).length c6]::jm 3 (.slice a6 (cM send.blocks).length c6) (cM send.blocks)::blk bt 193 [au p]::F)
     refine ae (met (tY (n:=name) hs hm) ?_)
     clear hs
     rintro _ w ⟨ve,rfl,hs⟩
     refine ⟨_,rfl,?_⟩
     cases hc:gm D name with
     | some er=>
      rw [hc] at h hs
      obtain rfl:=Option.some.inj h
      obtain ⟨t,u,rfl⟩:=(hs.take (.there .here)).aW
      refine gx ?_
      exact ak rfl ⟨_,_,rfl,Sat.to (Sat.emp hs)⟩
     | none=>
      rw [hc] at h hs
      dsimp only at h
      have hve:=(hs.take (.there .here)).cF
      subst hve
      refine gx ?_
      refine ae (met (ub (n:=name) (bs:=file) (hs.eA .here (.there .here))) ?_)
      clear hs
      rintro _ w ⟨ve,rfl,hs⟩
      refine ⟨_,rfl,?_⟩
      generalize cT D name=D1 at *
      cases ha:dX D1 name file with
      | some er=>
       rw [ha] at h hs
       obtain rfl:=Option.some.inj h
       obtain ⟨t,u,rfl⟩:=(hs.take (.there (.there .here))).aW
       refine gx ?_
       exact ak rfl ⟨_,_,rfl,Sat.to (Sat.emp hs)⟩
      | none=>
       rw [ha] at h hs
       dsimp only at h
       have hve:=(hs.take (.there (.there .here))).cF
       subst hve
       generalize bZ D1 name file=D2 at *
       refine gx ?_
       have hs:=hs.to (a:=blk bt 193 [au p]::ag d D2::sT p 200 [str name,str e.key,str ez.key,.int .i64 (L:Int),au d,.slice a6 (cM send.blocks).length c6]::jm 3 (.slice a6 (cM send.blocks).length c6) (cM send.blocks)::F)
       refine bU [blk bt 193 [au p]] [(0,false),(1,false),(2,false),(3,true),(4,false),(5,false)] hs (by kernel_rfl) fun w hs=>?_
       refine gx ?_
       refine ae (met (yf (n:=name) (hs.take (.there .here))) ?_)
       clear hs
       rintro _ w ⟨ve,rfl,hs⟩
       refine ⟨_,rfl,?_⟩
       cases hf:bz D2 name with
       | some er=>
        rw [hf] at h hs
        obtain rfl:=Option.some.inj h
        refine gx ?_
        exact ak rfl ⟨_,_,rfl,Sat.to (Sat.emp hs)⟩
       | none=>
        rw [hf] at h hs
        obtain rfl:=Option.some.inj h
        refine gx ?_
        have e1:dZ l=e.key:=by cases l with|nil=>cases he|cons a b=>simp at he;rw [← he];rfl
        have e2:gl l=ez.key:=by unfold gl;rw [hez]
        refine ak rfl ⟨_,_,rfl,?_⟩
        dsimp only [dk]
        rw [e1,e2]
        have hs:=hs.to (a:=sT p 200 [str name,str e.key,str ez.key,.int .i64 (L:Int),au d,.slice a6 (cM send.blocks).length c6]::jm 3 (.slice a6 (cM send.blocks).length c6) (cM send.blocks)::ag d (dR D2 name)::ax ve none::F)
        have hs:=Sat.Io (T:=⟨name,e.key,ez.key,L,send.blocks⟩) hTok hs
        exact hs.to
    ·rw [if_neg hm] at h;cases h
end
end Go.Proofs.YtecibefflhomdaaGreatDoor
