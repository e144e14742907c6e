/-
  Part 15: WALKS slices; The engine 25 texts indexed and cut, division, cuts of array; WALKS slices.
-/
import Derived.Test.YtecibefflhomdaaGreatDoorY14
set_option maxHeartbeats 8000000
set_option maxRecDepth 100000
set_option linter.all false
namespace Go.Proofs.YtecibefflhomdaaGreatDoor
open Go
section
attribute [local irreducible] IntKind.wrap
variable {W0 w:World} {F l:List ah}
abbrev uV (n:Nat):Value:=.int .u64 (n:Int)
theorem HZ {a:Nat} (hs:Sat W0 l w):Calls Tryz.prog 253 #[uV a] w fun x w'=>x=.returned (.bool false)∧Sat W0 l w':=by
 refine enter Tryz.func253 rfl Tryz.ntmps253 Tryz.results253 rfl ?_
 refine go ?_
 refine ak rfl ⟨?_,hs⟩
 simp [tr]
theorem H0 {a b:Nat} (hs:Sat W0 l w):Calls Tryz.prog 243 #[uV a,uV b] w fun x w'=>x=.returned (.bool (decide (a<b)))∧Sat W0 l w':=by
 refine enter Tryz.func243 rfl Tryz.ntmps243 Tryz.results243 rfl ?_
 refine go ?_
 refine ae (met (HZ hs) ?_)
 rintro _ w ⟨rfl,hs⟩
 refine ⟨_,rfl,go ?_⟩
 refine ak rfl ⟨?_,hs⟩
 simp [tr]
theorem swap_perm {α:Type} (us:List α) (j:Nat) (hj:j+1<us.length):(((us.set (j+1) us[j])).set j us[j+1]).Perm us:=by
 have e1:us=us.take j++us[j]::us[j+1]::us.drop (j+2):=by
  conv=>lhs;rw [← List.take_append_drop j us,List.drop_eq_getElem_cons (by omega),List.drop_eq_getElem_cons hj]
 generalize hx:us[j]=x at *
 generalize hy:us[j+1]=y at *
 have hl:(us.take j).length=j:=by simp;omega
 generalize us.take j=A at *
 generalize us.drop (j+2)=B at *
 subst e1
 have e2:((A++x::y::B).set (j+1) x).set j y=A++y::x::B:=by
  subst hl
  rw [List.set_append_right _ _ (by omega),List.set_append_right _ _ (by omega)]
  simp
 rw [e2]
 exact List.Perm.append_left _ (List.Perm.swap _ _ _)
theorem zU {b c:Nat} {us:List Nat} {rs:List Value} (hs:Sat W0 (blk b 131 (us.map uV++rs)::F) w) (hlen:us.length≤12) :
 Calls Tryz.prog 237 #[.slice (some ⟨b,0,none⟩) us.length c,.int .i64 0,.int .i64 (us.length:Int)] w fun x w'=>∃ v,∃ us':List Nat,x=.returned v∧us'.Perm us∧Sat W0 (blk b 131 (us'.map uV++rs)::F) w':=by
 refine enter Tryz.func237 rfl Tryz.ntmps237 Tryz.results237 rfl ?_
 refine go ?_
 refine aL (α:=Nat×List Nat) (fun z=>[(0,.slice (some ⟨b,0,none⟩) us.length c),(1,.int .i64 0),(2,.int .i64 (us.length:Int)),(6,.int .i64 (z.1:Int))])
  (fun z w=>(1≤z.1∧z.1≤us.length+1∧z.2.Perm us)∧Sat W0 (blk b 131 (z.2.map uV++rs)::F) w) (fun z=>us.length+1-z.1) (1,us) ⟨rfl,rfl,rfl,rfl,trivial⟩ ⟨⟨by simp,by simp,List.Perm.refl _⟩,hs⟩ ?_
 clear hs
 rintro ⟨i,us1⟩ w ⟨⟨h1,h2,hp⟩,hs⟩
 simp only at h1 h2 hp
 by_cases hlt:i<us.length
 ·refine go ?_
  refine aL (α:=Nat×List Nat) (fun z=>[(0,.slice (some ⟨b,0,none⟩) us.length c),(1,.int .i64 0),(2,.int .i64 (us.length:Int)),(6,.int .i64 (i:Int)),(7,.int .i64 (z.1:Int))])
   (fun z w=>(z.1<us.length∧z.2.Perm us)∧Sat W0 (blk b 131 (z.2.map uV++rs)::F) w) (fun z=>z.1) (i,us1) ⟨rfl,rfl,rfl,rfl,rfl,trivial⟩ ⟨⟨hlt,hp⟩,hs⟩ ?_
  clear hs
  rintro ⟨j,us2⟩ w ⟨⟨hj,hp2⟩,hs⟩
  simp only at hj hp2
  have hl2:=hp2.length_eq
  by_cases h0:0<j
  ·obtain ⟨j,rfl⟩:∃ k,j=k+1:=⟨j-1,by omega⟩
   have hm1:j+1<(us2.map uV).length:=by simp;omega
   have hm0:j<(us2.map uV).length:=by simp;omega
   have hc1:(us2.map uV++rs)[0+(j+1)*1]?=some (uV us2[j+1]):=by
    rw [Nat.zero_add,Nat.mul_one,List.getElem?_append_left hm1,List.getElem?_eq_getElem hm1,List.getElem_map]
   have hc0:(us2.map uV++rs)[0+j*1]?=some (uV us2[j]):=by
    rw [Nat.zero_add,Nat.mul_one,List.getElem?_append_left hm0,List.getElem?_eq_getElem hm0,List.getElem_map]
   refine go ?_
   refine bH [blk b 131 (us2.map uV++rs)] [7,12] (.q 0 (.q 1 (.q 2 (.q 3 (.q 4 (.q 5 (.q 6 (.s 7 (.q 8 (.q 9 (.q 10 (.q 11 (.s 12 (.l 13 (.q 14 .nil))))))))))))))) hs (by kernel_rfl) fun w hs=>?_
   refine wH ?_
   refine rn (j:=j+1) rfl rfl rfl rfl rfl rfl rfl (by omega) rfl ?_
   refine nN rfl rfl rfl rfl .here hc1 rfl ?_
   refine wH ?_
   refine rn (j:=j) rfl rfl rfl rfl (by omega) rfl rfl (by omega) rfl ?_
   refine nN rfl rfl rfl rfl .here hc0 rfl ?_
   refine wH ?_
   refine hJ rfl ?_
   refine pr ?_
   refine ae (met (H0 hs) ?_)
   rintro _ w ⟨rfl,hs⟩
   refine ⟨_,rfl,pr ?_⟩
   generalize decide (us2[j+1]<us2[j])=q
   refine cA rfl ?_
   refine wH ?_
   refine fA ?_
   refine go ?_
   cases q with
   | true=>
    refine go ?_
    have h2:j+1+1≤us2.length:=by omega
    refine bH [blk b 131 (us2.map uV++rs)] [9,13] (.q 0 (.q 1 (.q 5 (.q 6 (.q 7 (.q 8 (.s 9 (.q 10 (.q 11 (.q 12 (.s 13 (.q 14 (.q 2 (.q 3 (.q 4 (.l 15 (.q 16 (.l 17 .nil)))))))))))))))))) hs (by kernel_rfl) fun w hs=>?_
    refine wH ?_
    refine fI (j:=j) rfl rfl rfl (by omega) rfl rfl (by omega) rfl ?_
    refine sk rfl rfl rfl .here hc0 rfl ?_
    refine wH ?_
    refine fI (j:=j+1) rfl rfl rfl rfl rfl rfl (by omega) rfl ?_
    refine sk rfl rfl rfl .here hc1 rfl ?_
    refine wH ?_
    refine fI (j:=j+1) rfl rfl rfl rfl rfl rfl (by omega) rfl ?_
    refine wH ?_
    refine hJ rfl ?_
    refine bD hs (fun w hs=>?_) (hlt:=by rw [Nat.blt_eq];simp;omega)
    refine pr ?_
    refine cA rfl ?_
    refine fI (j:=j) rfl rfl rfl (by omega) rfl rfl (by omega) rfl ?_
    refine wH ?_
    refine hJ rfl ?_
    refine bD hs (fun w hs=>?_) (hlt:=by rw [Nat.blt_eq];simp;omega)
    refine pr ?_
    refine cA rfl ?_
    refine fA ?_
    refine go ?_
    exact aB ⟨j,(us2.set (j+1) us2[j]).set j us2[j+1]⟩ ⟨rfl,rfl,rfl,rfl,by show some (Value.int .i64 _)=some (Value.int .i64 _);congr 2;show ((j+1:Nat):Int)-1=(j:Int);omega,trivial⟩ ⟨⟨by show j<us.length;omega,(swap_perm us2 j (by omega)).trans hp2⟩,by
     show Sat W0 (blk b 131 (((us2.set (j+1) us2[j]).set j us2[j+1]).map uV++rs)::F) _
     rw [List.map_set,List.map_set,← List.set_append_left _ _ (by simp;omega),← List.set_append_left _ _ (by simp;omega)]
     simpa using hs⟩ (by show j<j+1;omega)
   | false=>
    refine go ?_
    exact aB ⟨i+1,us2⟩ ⟨rfl,rfl,rfl,rfl,trivial⟩ ⟨⟨by simp,by show i+1≤us.length+1;omega,hp2⟩,hs⟩ (by show us.length+1-(i+1)<us.length+1-i;omega)
  ·have h00:j=0:=by omega
   subst h00
   refine go ?_
   refine bU (l:=blk b 131 (us2.map uV++rs)::F) [] [(0,false),(1,false),(2,false),(3,false),(4,false),(5,false),(6,false),(7,false),(8,false),(9,false),(10,false),(11,false),(12,false),(13,false),(14,false)] hs.to (by kernel_rfl) fun w hs=>?_
   refine go ?_
   exact aB ⟨i+1,us2⟩ ⟨rfl,rfl,rfl,rfl,trivial⟩ ⟨⟨by simp,by show i+1≤us.length+1;omega,hp2⟩,hs⟩ (by show us.length+1-(i+1)<us.length+1-i;omega)
 ·refine go ?_
  exact gB rfl ⟨_,us1,rfl,hp,hs⟩
end
section
attribute [local semireducible] WL WC WQ
attribute [local semireducible] WT
section
variable {ops:Array Oper} {Q:Exit→Act→World→Prop} {S:World→Prop} {K:List Nat} {n:Nat} {ds:Md} {e:Env} {w w':World} {b:Bool} {t t':OT} {rest:List Oper}
variable {op:Op} {ty:TypeId} {pos:String} {af:Array Edge} {d i j:Nat} {v u:Value}
theorem Ef {x y:Operand} {tt:Nat} {s:Bs} {k:IntKind} {Y:Int} {m:Nat} {c:UInt8} {uu:Unit} {a:Act} {ww:World} {g:Option (Nat×Bool)} (ha:Fr n ds e a) (hx:ev e x=some (str s)) (hy:ev e y=some (.int k Y)) (hY:Y=(m:Int)) (ht:lk vE tt=some uu) (hc:s[m]?=some c) :
 (execOp a.eval ⟨some d,.index tt x y,ty,pos,af,g⟩).run Tryz.prog ww=.ok (.value (bV c)) ww:=by
 subst hY
 have h1:m<s.length:=(List.getElem?_eq_some_iff.1 hc).1
 have h3:(⟨s.toArray⟩:ByteArray)[m]?=some c:=by
  have h4:=(List.getElem?_eq_some_iff.1 hc).2
  rw [getElem?_pos (⟨s.toArray⟩:ByteArray) m (by show m<s.toArray.size;simpa using h1)]
  congr 1
 simp [execOp,ha.ev hx,ha.ev hy,Instr.index,asIntOf,cB (iO ht),h3,bV]
theorem Mh {x y:Operand} {tt:Nat} {s:Bs} {k:IntKind} {Y:Int} {m:Nat} {c:UInt8} {uu:Unit} (hx:ev e x=some (str s)) (hy:ev e y=some (.int k Y)) (hY:Y=(m:Int)) (ht:lk vE tt=some uu) (hc:s[m]?=some c) (hd:Nat.blt d n=true)
 (kk:WL ops Q n ds rest ((d,bV c)::e) w):WL ops Q n ds (⟨some d,.index tt x y,ty,pos,af,none⟩::rest) e w:=
 cj (fun a ha=>Ef ha hx hy hY ht hc) hd kk
theorem jh {x y:Operand} {tt:Nat} {s:Bs} {k:IntKind} {Y:Int} {m:Nat} {c:UInt8} {uu:Unit} (ho:ops[i]?=some ⟨some d,.index tt x y,ty,pos,af,none⟩) (hx:ev e x=some (str s)) (hy:ev e y=some (.int k Y)) (hY:Y=(m:Int)) (ht:lk vE tt=some uu) (hc:s[m]?=some c) (hd:Nat.blt d n=true)
 (kk:WT ops Q S K n ds b t ((d,bV c)::e) w):WT ops Q S K n ds b (.q i t) e w:=
 zP ho (fun _ _ ha=>Ef ha hx hy hY ht hc) hd kk
theorem pw {x y:Operand} {k:IntKind} {tt ty2 N M:Nat} {X Y:Int} (hx:ev e x=some (.int k X)) (hy:ev e y=some (.int k Y)) (hX:X=(N:Int)) (hY:Y=(M:Int)) (hM:0<M) (hw:k.wrap ((N / M:Nat):Int)=((N / M:Nat):Int)) (hd:Nat.blt d n=true)
 (kk:WL ops Q n ds rest ((d,.int k ((N / M:Nat):Int))::e) w):WL ops Q n ds (⟨some d,.binOp .quo tt x y ty2,ty,pos,af,none⟩::rest) e w:=by
 subst hX hY
 refine cj (fun a ha=>?_) hd kk
 have h2:¬ ((M:Int)=0):=by omega
 have h3:¬ (M=0):=by omega
 have hdiv:Int.tdiv (N:Int) (M:Int)=((N / M:Nat):Int):=by rw [Int.tdiv_eq_ediv_of_nonneg (by omega)];norm_cast
 simp [execOp,ha.ev hx,ha.ev hy,eqGuard,Go.binOp,Op.intDiv,h3,hdiv]
 exact_mod_cast hw
theorem kM {x y:Operand} {k:IntKind} {tt ty2 N M:Nat} {X Y:Int} (hx:ev e x=some (.int k X)) (hy:ev e y=some (.int k Y)) (hX:X=(N:Int)) (hY:Y=(M:Int)) (hM:0<M) (hd:Nat.blt d n=true)
 (kk:WL ops Q n ds rest ((d,.int k ((N%M:Nat):Int))::e) w):WL ops Q n ds (⟨some d,.binOp .rem tt x y ty2,ty,pos,af,none⟩::rest) e w:=by
 subst hX hY
 refine cj (fun a ha=>?_) hd kk
 have h3:¬ (M=0):=by omega
 have hmod:Int.tmod (N:Int) (M:Int)=((N%M:Nat):Int):=by rw [Int.tmod_eq_emod_of_nonneg (by omega)];norm_cast
 simp [execOp,ha.ev hx,ha.ev hy,eqGuard,Go.binOp,Op.intDiv,h3,hmod]
theorem Eg {x:Operand} {lo hi:Option Operand} {tt:Nat} {s:Bs} {uu:Unit} (l' h':Nat) (hx:ev e x=some (str s)) (ht:lk vE tt=some uu)
 (hlo:match lo with|none=>l'=0|some y=>∃ k Y,ev e y=some (.int k Y)∧Y=(l':Int)) (hhi:match hi with|none=>h'=s.length|some y=>∃ k Y,ev e y=some (.int k Y)∧Y=(h':Int)) (h1:l'≤h') (h2:h'≤s.length) (hd:Nat.blt d n=true)
 (kk:WL ops Q n ds rest ((d,str ((s.drop l').take (h'-l')))::e) w):WL ops Q n ds (⟨some d,.slice tt x lo hi none,ty,pos,af,none⟩::rest) e w:=by
 refine cj (fun a ha=>?_) hd kk
 have hu:=iO ht
 have hsz:(⟨s.toArray⟩:ByteArray).size=s.length:=by simp [ByteArray.size]
 have hex:(⟨s.toArray⟩:ByteArray).extract l' h'=⟨((s.drop l').take (h'-l')).toArray⟩:=by
  apply ByteArray.ext;simp [ByteArray.data_extract,List.extract_eq_take_drop]
 have e0:s.length≤h'↔h'=s.length:=by omega
 cases lo with
 | none=>
  simp only at hlo;subst hlo
  cases hi with
  | none=>simp only at hhi;subst hhi;simp [execOp,ha.ev hx,Instr.sliceAt,Instr.slice,cB hu,Instr.sliceBounds,hsz]
  | some y=>obtain ⟨k,Y,hy,rfl⟩:=hhi;simp [execOp,ha.ev hx,ha.ev hy,Instr.sliceAt,Instr.slice,cB hu,Instr.sliceBounds,Instr.sliceBound,asIntOf,hsz,h2];simpa using hex
 | some z=>
  obtain ⟨k,Y,hz,rfl⟩:=hlo
  cases hi with
  | none=>simp only at hhi;subst hhi;simp [execOp,ha.ev hx,ha.ev hz,Instr.sliceAt,Instr.slice,cB hu,Instr.sliceBounds,Instr.sliceBound,asIntOf,hsz,h1];simpa using hex
  | some y=>obtain ⟨k,Y,hy,rfl⟩:=hhi;simp [execOp,ha.ev hx,ha.ev hz,ha.ev hy,Instr.sliceAt,Instr.slice,cB hu,Instr.sliceBounds,Instr.sliceBound,asIntOf,hsz,h1,h2];simpa using hex
theorem Eh {x y:Operand} {tt bb k h':Nat} {p:Nat×Nat} {Y:Int} (hx:ev e x=some (.pointer (some ⟨bb,0,none⟩))) (ht:lk vC tt=some p) (hsz:lk df p.2=some k) (hy:ev e y=some (.int .i64 Y)) (hY:Y=(h':Int)) (h1:h'≤p.1) (hd:Nat.blt d n=true)
 (kk:WL ops Q n ds rest ((d,.slice (some ⟨bb,0,none⟩) h' p.1)::e) w):WL ops Q n ds (⟨some d,.slice tt x none (some y) none,ty,pos,af,none⟩::rest) e w:=by
 subst hY
 refine cj (fun a ha=>?_) hd kk
 have hu:=lM ht
 by_cases h0:p.1=0
 ·simp [execOp,ha.ev hx,ha.ev hy,Instr.sliceAt,Instr.sureAddr,cB hu,dq hsz,Instr.sliceBounds,Instr.sliceBound,asIntOf,h1,h0]
  omega
 ·simp [execOp,ha.ev hx,ha.ev hy,Instr.sliceAt,Instr.sureAddr,cB hu,dq hsz,Instr.sliceBounds,Instr.sliceBound,asIntOf,h1,h0,add_eq]
end
end
section
attribute [local irreducible] IntKind.wrap
variable {W0 w:World} {F l:List ah}
theorem H2 {b c lim:Nat} {us:List Nat} {rs:List Value} (hs:Sat W0 (blk b 131 (us.map uV++rs)::F) w) (hlen:us.length≤12) :
 Calls Tryz.prog 232 #[.slice (some ⟨b,0,none⟩) us.length c,.int .i64 0,.int .i64 (us.length:Int),.int .i64 (lim:Int)] w fun x w'=>∃ v,∃ us':List Nat,x=.returned v∧us'.Perm us∧Sat W0 (blk b 131 (us'.map uV++rs)::F) w':=by
 refine enter Tryz.func232 rfl Tryz.ntmps232 Tryz.results232 rfl ?_
 refine go ?_
 refine aL (α:=Unit) (fun z=>[(0,.slice (some ⟨b,0,none⟩) us.length c),(1,.int .i64 0),(2,.int .i64 (us.length:Int)),(3,.int .i64 (lim:Int))])
  (fun z w=>Sat W0 (blk b 131 (us.map uV++rs)::F) w) (fun z=>0) () ⟨rfl,rfl,rfl,rfl,trivial⟩ hs ?_
 clear hs
 rintro _ w hs
 refine go ?_
 refine ae (met (zU hs hlen) ?_)
 rintro _ w ⟨v,us1,rfl,hp,hs⟩
 refine ⟨v,rfl,go ?_⟩
 exact ak rfl ⟨_,us1,rfl,hp,hs⟩
def Mi (n:Nat):Nat:=bif Nat.beq n 0 then 0 else Nat.log2 n+1
def B4:Bs:=(List.range 256).map fun n=>UInt8.ofNat (Mi n)
theorem FH:(List.range 256).all (fun n=>match B4[n]? with|some c=>Nat.blt n (2^c.toNat)&&Nat.ble c.toNat 8&&(Nat.beq n 0||Nat.ble (2^c.toNat) (2*n))|none=>false)=true:=by kernel_rfl
theorem zV {n:Nat} (h:n<256):∃ c,B4[n]?=some c∧n<2^c.toNat∧c.toNat≤8∧(0<n→2^c.toNat≤2*n):=by
 have h1:=List.all_eq_true.1 FH n (List.mem_range.2 h)
 split at h1
 ·rename_i c hc
  simp only [Bool.and_eq_true,Bool.or_eq_true,Nat.blt_eq,Nat.ble_eq,Nat.beq_eq] at h1
  exact ⟨c,hc,h1.1.1,h1.1.2,fun h0=>h1.2.resolve_left (by omega)⟩
 ·cases h1
theorem B5 {n m k:Nat} (h:n / 2^m<2^k):n<2^(m+k):=by
 rw [Nat.pow_add]
 have:=Nat.lt_mul_of_div_lt h (Nat.two_pow_pos m)
 rwa [Nat.mul_comm] at this
theorem uv {n:Nat} (hn:n<18446744073709551616) (hs:Sat W0 l w):Calls Tryz.prog 159 #[uV n] w fun x w'=>∃ k:Nat,x=.returned (.int .i64 (k:Int))∧(n<2^k∧k≤64∧(0<n→2^k≤2*n))∧Sat W0 l w':=by
 refine enter Tryz.func159 rfl Tryz.ntmps159 Tryz.results159 rfl ?_
 refine dU ?_
 refine pr ?_
 refine db rfl ?_
 refine eB (α:=Nat×Nat) (fun z=>[(0,uV z.1),(2,.int .i64 (z.2:Int))]) (fun z w=>(n / 2^z.2=z.1∧z.1<2^32∧z.2≤32∧(0<n→0<z.1))∧Sat W0 l w) ?_ ?_
 ·by_cases h:4294967296≤n
  ·refine go ?_
   refine q7 (N:=n) (m:=32) rfl rfl rfl (by decide) rfl ?_
   refine go ?_
   exact bg (n / 2^32,32) ⟨rfl,rfl,trivial⟩ ⟨⟨rfl,by show n / 2^32<2^32;omega,by simp,fun _=>by show 0<n / 2^32;omega⟩,hs⟩
  ·refine go ?_
   exact bg (n,0) ⟨rfl,rfl,trivial⟩ ⟨⟨by simp,by show n<2^32;omega,by simp,fun h=>h⟩,hs⟩
 clear hs hn
 rintro ⟨x,m⟩ w ⟨⟨h1,h2,h3,h4⟩,hs⟩
 simp only at h1 h2 h3 h4
 refine eB (α:=Nat×Nat) (fun z=>[(0,uV z.1),(2,.int .i64 (z.2:Int))]) (fun z w=>(n / 2^z.2=z.1∧z.1<2^16∧z.2≤48∧(0<n→0<z.1))∧Sat W0 l w) ?_ ?_
 ·by_cases h:65536≤x
  ·refine go ?_
   refine q7 (N:=x) (m:=16) rfl rfl rfl (by decide) rfl ?_
   refine go ?_
   exact bg (x / 2^16,m+16) ⟨rfl,by show some (Value.int .i64 _)=some (Value.int .i64 _);simp,trivial⟩ ⟨⟨by show n / 2^(m+16)=x / 2^16;rw [Nat.pow_add,← Nat.div_div_eq_div_mul,h1],by show x / 2^16<2^16;omega,by show m+16≤48;omega,fun _=>by show 0<x / 2^16;omega⟩,hs⟩
  ·refine go ?_
   exact bg (x,m) ⟨rfl,rfl,trivial⟩ ⟨⟨h1,by show x<2^16;omega,by show m≤48;omega,h4⟩,hs⟩
 clear hs h1 h2 h3 h4 x m
 rintro ⟨x,m⟩ w ⟨⟨h1,h2,h3,h4⟩,hs⟩
 simp only at h1 h2 h3 h4
 refine eB (α:=Nat×Nat) (fun z=>[(0,uV z.1),(2,.int .i64 (z.2:Int))]) (fun z w=>(n / 2^z.2=z.1∧z.1<2^8∧z.2≤56∧(0<n→0<z.1))∧Sat W0 l w) ?_ ?_
 ·by_cases h:256≤x
  ·refine go ?_
   refine q7 (N:=x) (m:=8) rfl rfl rfl (by decide) rfl ?_
   refine go ?_
   exact bg (x / 2^8,m+8) ⟨rfl,by show some (Value.int .i64 _)=some (Value.int .i64 _);simp,trivial⟩ ⟨⟨by show n / 2^(m+8)=x / 2^8;rw [Nat.pow_add,← Nat.div_div_eq_div_mul,h1],by show x / 2^8<2^8;omega,by show m+8≤56;omega,fun _=>by show 0<x / 2^8;omega⟩,hs⟩
  ·refine go ?_
   exact bg (x,m) ⟨rfl,rfl,trivial⟩ ⟨⟨h1,by show x<2^8;omega,by show m≤56;omega,h4⟩,hs⟩
 clear hs h1 h2 h3 h4 x m
 rintro ⟨x,m⟩ w ⟨⟨h1,h2,h3,h4⟩,hs⟩
 simp only at h1 h2 h3 h4
 obtain ⟨c,hc,hc1,hc2,hc3⟩:=zV h2
 refine go ?_
 have hb:(bV (UInt8.ofNat x):Value)=.int .u8 (x:Int):=by simp [bV];omega
 refine Mh (s:=B4) (m:=x) (by kernel_rfl) rfl (by simp;omega) rfl hc rfl ?_
 refine go ?_
 refine ak rfl ⟨m+c.toNat,?_,⟨B5 (by rw [h1];exact hc1),by omega,fun h0=>?_⟩,hs⟩
 ·simp [tr]
 ·have e1:=hc3 (h4 h0)
  have e2:2^m*x≤n:=by rw [← h1];exact Nat.mul_div_le n (2^m)
  rw [Nat.pow_add]
  have e3:2^m*2^c.toNat≤2^m*(2*x):=Nat.mul_le_mul_left _ e1
  have e4:2^m*(2*x)=2*(2^m*x):=by rw [Nat.mul_left_comm]
  omega
theorem wI {n:Nat} (hn:n<18446744073709551616) (hs:Sat W0 l w):Calls Tryz.prog 88 #[.int .u64 (n:Int)] w fun x w'=>∃ k:Nat,x=.returned (.int .i64 (k:Int))∧Sat W0 l w':=by
 refine enter Tryz.func88 rfl Tryz.ntmps88 Tryz.results88 rfl ?_
 refine go ?_
 refine ae (met (uv hn hs) ?_)
 rintro _ w ⟨k,rfl,_,hs⟩
 refine ⟨_,rfl,go ?_⟩
 exact ak rfl ⟨k,rfl,hs⟩
theorem B6 {v:Value} {us:List Nat} (hs:Sat W0 (aE 1 v 131 us.length (us.map uV)::F) w) (h0:0<us.length) (hlen:us.length≤12) :
 Calls Tryz.prog 226 #[v] w fun x w'=>∃ u,∃ us':List Nat,x=.returned u∧us'.Perm us∧Sat W0 (aE 1 v 131 us'.length (us'.map uV)::F) w':=by
 obtain ⟨b,cap,rs,rfl,q1,q2,q3,hs⟩:=hs.dV h0
 refine enter Tryz.func226 rfl Tryz.ntmps226 Tryz.results226 rfl ?_
 refine go ?_
 refine ae (met (wI (n:=us.length) (by omega) hs) ?_)
 rintro _ w ⟨k,rfl,hs⟩
 refine ⟨_,rfl,go ?_⟩
 refine ae (met (H2 hs hlen) ?_)
 rintro _ w ⟨v,us1,rfl,hp,hs⟩
 refine ⟨_,rfl,go ?_⟩
 refine gB rfl ⟨_,us1,rfl,hp,?_⟩
 have hl:=hp.length_eq
 rw [← hl] at q1 q3 ⊢
 exact Sat.dK (k:=1) hs q1 q2 q3 (by simp) (fun u hu=>by obtain ⟨x,_,rfl⟩:=List.mem_map.1 hu;rfl)
end
end Go.Proofs.YtecibefflhomdaaGreatDoor
