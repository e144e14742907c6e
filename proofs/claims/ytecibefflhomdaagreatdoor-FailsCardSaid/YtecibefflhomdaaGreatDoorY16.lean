/-
  Part 16: WALKS strconv; WALKS strconv.
-/
import Derived.Test.YtecibefflhomdaaGreatDoorY15
set_option maxHeartbeats 8000000
set_option maxRecDepth 100000
set_option linter.all false
namespace Go.Proofs.YtecibefflhomdaaGreatDoor
open Go
section
attribute [local irreducible] IntKind.wrap
open Go.Proofs.YtecibefflhomdaaGreatDoor.Pure (D jz dec)
variable {W0 w:World} {F l:List ah}
section
variable {ops:Array Oper} {Q:Exit→Act→World→Prop} {S:World→Prop} {K:List Nat} {n:Nat} {ds:Md} {e:Env} {b:Bool} {t:OT}
variable {op:Op} {ty:TypeId} {pos:String} {af:Array Edge} {d i:Nat}
theorem px {x:Int} (ho:ops[i]?=some ⟨some d,op,ty,pos,af,none⟩) (hv:yv e op=some (.int .u32 (IntKind.u32.wrap x))) (h1:0≤x) (h2:x≤4294967295) (hd:Nat.blt d n=true)
 (k:WT ops Q S K n ds b t ((d,.int .u32 x)::e) w):WT ops Q S K n ds b (.q i t) e w:=dN ho (by rw [hv,IntWalk.u32_in _ ⟨h1,h2⟩]) hd k
end
def fV:Bs:=(List.range 100).flatMap fun i=>[UInt8.ofNat (48+i / 10),UInt8.ofNat (48+i%10)]
def Nw (s:Bs) (i:Nat):Bool:=(match s[2*i]? with|some c=>Nat.beq c.toNat (48+i / 10)|none=>false)&&(match s[2*i+1]? with|some c=>Nat.beq c.toNat (48+i%10)|none=>false)
theorem FI:(List.range 100).all (Nw fV)=true:=by kernel_rfl
theorem du {i:Nat} (h:i<100):fV[2*i]?=some (UInt8.ofNat (48+i / 10))∧fV[2*i+1]?=some (UInt8.ofNat (48+i%10)):=by
 have h1:=List.all_eq_true.1 FI i (List.mem_range.2 h)
 simp only [Nw,Bool.and_eq_true] at h1
 obtain ⟨h1,h2⟩:=h1
 constructor
 ·split at h1
  ·rename_i c hc
   rw [hc];simp only [Nat.beq_eq] at h1
   rw [← h1];simp
  ·cases h1
 ·split at h2
  ·rename_i c hc
   rw [hc];simp only [Nat.beq_eq] at h2
   rw [← h2];simp
  ·cases h2
def GV (N k n:Nat) (Z:List Value) (i:Nat) (cs:List Value):Prop:=cs.length=N∧cs.drop i=(D (k-i) n).map bV++Z
theorem FJ {cs:List Value} {j:Nat} {u v:Value} (h:j+2≤cs.length):((cs.set (j+1) v).set j u).drop j=u::v::cs.drop (j+2):=by
 obtain ⟨A,x,B,rfl,hA,hx⟩:=Ni (i:=j) (m:=2) h
 subst hA
 obtain ⟨x1,x2,rfl⟩:∃ x1 x2,x=[x1,x2]:=by
  match x,hx with
  | [a,b],_=>exact ⟨a,b,rfl⟩
 rw [List.set_append_right _ _ (by omega),List.set_append_right _ _ (by omega)]
 simp
theorem GV.pair {N k n j:Nat} {Z cs:List Value} (h:GV N k n Z (j+2) cs) (hj:j+2≤k) (hk:k≤N) {x q m:Nat} (hm:m=k-(j+2)) (hq:q=n / 10^m) (hx:x=q%100) :
 GV N k n Z j ((cs.set (0+(j+1)*1) (bV (UInt8.ofNat (48+x%10)))).set (0+j*1) (bV (UInt8.ofNat (48+x / 10)))):=by
 obtain ⟨h1,h2⟩:=h
 subst hq
 refine ⟨by simp [h1],?_⟩
 rw [Nat.zero_add,Nat.mul_one,Nat.zero_add,Nat.mul_one,FJ (by omega),h2]
 have e1:k-j=m+2:=by omega
 rw [e1,Pure.Nn _ _ x hx,← hm]
 rfl
theorem GV.one {N k n:Nat} {Z cs:List Value} (h:GV N k n Z 1 cs) (hk:1≤k) (hN:k≤N) {x:Nat} (hx:x=n / 10^(k-1)%10):GV N k n Z 0 (cs.set 0 (bV (UInt8.ofNat (48+x)))):=by
 obtain ⟨h1,h2⟩:=h
 refine ⟨by simp [h1],?_⟩
 obtain ⟨c,r,rfl⟩:∃ c r,cs=c::r:=by
  cases cs with
  | nil=>simp at h1;omega
  | cons c r=>exact ⟨c,r,rfl⟩
 simp only [List.drop_succ_cons,List.drop_zero,List.set_cons_zero] at h2 ⊢
 obtain ⟨m,rfl⟩:∃ m,k=m+1:=⟨k-1,by omega⟩
 rw [Nat.sub_zero,Pure.x7,h2]
 simp at hx
 rw [hx];simp
theorem H3 {n:Nat} (h:n≤18446744073709551615):IntKind.u64.wrap (n:Int)=(n:Int):=IntWalk.u64_in _ ⟨by omega,by omega⟩
theorem l8 {n:Nat} (h:n≤4294967295):IntKind.u32.wrap (n:Int)=(n:Int):=IntWalk.u32_in _ ⟨by omega,by omega⟩
theorem zW {bb k n:Nat} {Z cs:List Value} (hs:Sat W0 (blk bb 362 cs::F) w) (hF:GV 24 k n Z k cs) (hk:1≤k) (hk2:k≤20) (hn:n<10^k) (hn64:n<18446744073709551616) :
 Calls Tryz.prog 235 #[.slice (some ⟨bb,0,none⟩) k 24,uV n] w fun x w'=>∃ u cs',x=.returned u∧GV 24 k n Z 0 cs'∧Sat W0 (blk bb 362 cs'::F) w':=by
 refine enter Tryz.func235 rfl Tryz.ntmps235 Tryz.results235 rfl ?_
 refine dU ?_
 refine pr ?_
 refine db rfl ?_
 refine eB (α:=Nat×Nat×List Value) (fun z=>[(0,.slice (some ⟨bb,0,none⟩) k 24),(1,uV z.2.1),(4,.int .i64 (z.1:Int))]) (fun z w=>(z.1<8∧z.1≤k∧z.2.1=n / 10^(k-z.1)∧GV 24 k n Z z.1 z.2.2)∧Sat W0 (blk bb 362 z.2.2::F) w) ?_ ?_
 ·refine ik ?_
  refine aL (α:=Nat×Nat×List Value) (fun z=>[(0,.slice (some ⟨bb,0,none⟩) k 24),(1,uV z.2.1),(4,.int .i64 (z.1:Int))]) (fun z w=>(z.1≤k∧z.2.1=n / 10^(k-z.1)∧z.2.1<18446744073709551616∧GV 24 k n Z z.1 z.2.2)∧Sat W0 (blk bb 362 z.2.2::F) w) (fun z=>z.1) (k,n,cs) ⟨rfl,rfl,rfl,trivial⟩ ⟨⟨by simp,by simp,hn64,hF⟩,hs⟩ ?_
  clear hs hF hn64
  rintro ⟨i,q,cs⟩ w ⟨⟨h1,h2,h3,hf⟩,hs⟩
  simp only at h1 h2 h3 hf
  replace hs:Sat W0 (blk bb 362 cs::F) w:=hs
  refine (show WC _ _ _ _ [(0,.slice (some ⟨bb,0,none⟩) k 24),(1,uV q),(4,.int .i64 (i:Int))] w from ?_)
  have hN:=hf.1
  by_cases h8:8≤i
  ·obtain ⟨i,rfl⟩:∃ j,i=j+8:=⟨i-8,by omega⟩
   refine go ?_
   refine kM (N:=q) (M:=100000000) rfl rfl rfl rfl (by decide) rfl ?_
   refine go ?_
   refine pw (N:=q) (M:=100000000) rfl rfl rfl rfl (by decide) (H3 (by omega)) rfl ?_
   refine go ?_
   refine pw (N:=q%100000000) (M:=10000) rfl rfl rfl rfl (by decide) (l8 (by omega)) rfl ?_
   refine go ?_
   refine kM (N:=q%100000000) (M:=10000) rfl rfl rfl rfl (by decide) rfl ?_
   refine go ?_
   refine pw (N:=q%100000000%10000) (M:=100) rfl rfl rfl rfl (by decide) (l8 (by omega)) rfl ?_
   refine go ?_
   refine kM (N:=q%100000000%10000) (M:=100) rfl rfl rfl rfl (by decide) rfl ?_
   refine go ?_
   refine pw (N:=q%100000000 / 10000) (M:=100) rfl rfl rfl rfl (by decide) (l8 (by omega)) rfl ?_
   refine go ?_
   refine kM (N:=q%100000000 / 10000) (M:=100) rfl rfl rfl rfl (by decide) rfl ?_
   refine go ?_
   have p1:n / 10^(k-(i+6))=q / 100:=by rw [h2,Nat.div_div_eq_div_mul,show k-(i+6)=k-(i+8)+2 by omega,Nat.pow_add]
   have p2:n / 10^(k-(i+4))=q / 10000:=by rw [h2,Nat.div_div_eq_div_mul,show k-(i+4)=k-(i+8)+4 by omega,Nat.pow_add]
   have p3:n / 10^(k-(i+2))=q / 1000000:=by rw [h2,Nat.div_div_eq_div_mul,show k-(i+2)=k-(i+8)+6 by omega,Nat.pow_add]
   have p4:n / 10^(k-i)=q / 100000000:=by rw [h2,Nat.div_div_eq_div_mul,show k-i=k-(i+8)+8 by omega,Nat.pow_add]
   refine bH [] [] (.q 0 (.q 1 (.q 2 (.q 6 (.q 7 (.q 8 (.q 9 (.q 10 (.q 11 (.q 3 (.q 4 (.q 5 (.l 12 (.q 13 (.l 14 .nil))))))))))))))) hs (by kernel_rfl) fun w hs=>?_
   refine dN rfl rfl rfl ?_
   refine dN rfl rfl rfl ?_
   refine nM rfl rfl (by omega) (by omega) rfl ?_
   refine dN rfl rfl rfl ?_
   refine px rfl rfl (by omega) (by omega) rfl ?_
   refine jh (s:=fV) (m:=2*(q%100000000%10000%100)+1) rfl (by kernel_rfl) rfl (by omega) rfl (du (by omega)).2 rfl ?_
   refine dN rfl rfl rfl ?_
   refine jh (s:=fV) (m:=2*(q%100000000%10000%100)) rfl (by kernel_rfl) rfl (by omega) rfl (du (by omega)).1 rfl ?_
   refine fI (j:=i+6+1) rfl rfl rfl (by omega) rfl rfl (by omega) rfl ?_
   refine dN rfl rfl rfl ?_
   refine dN rfl rfl rfl ?_
   refine nM rfl rfl (by omega) (by omega) rfl ?_
   refine hJ rfl ?_
   refine bD hs (fun w hs=>?_) (hlt:=by rw [Nat.blt_eq];omega)
   refine pr ?_
   refine cA rfl ?_
   refine fI (j:=i+6) rfl rfl rfl (by omega) rfl rfl (by omega) rfl ?_
   refine hJ rfl ?_
   refine bD hs (fun w hs=>?_) (hlt:=by rw [Nat.blt_eq,List.length_set];omega)
   refine pr ?_
   refine cA rfl ?_
   refine fA ?_
   have hf:=hf.pair (j:=i+6) (by omega) (by omega) (x:=q%100000000%10000%100) rfl h2 (by omega)
   revert hf
   generalize List.set (List.set _ _ _) _ _=cs1 at hs ⊢
   intro hf
   have hN:=hf.1
   refine go ?_
   refine bH [] [] (.q 0 (.q 1 (.q 2 (.q 6 (.q 7 (.q 8 (.q 9 (.q 10 (.q 11 (.q 3 (.q 4 (.q 5 (.l 12 (.q 13 (.l 14 .nil))))))))))))))) hs (by kernel_rfl) fun w hs=>?_
   refine dN rfl rfl rfl ?_
   refine dN rfl rfl rfl ?_
   refine nM rfl rfl (by omega) (by omega) rfl ?_
   refine dN rfl rfl rfl ?_
   refine px rfl rfl (by omega) (by omega) rfl ?_
   refine jh (s:=fV) (m:=2*(q%100000000%10000 / 100)+1) rfl (by kernel_rfl) rfl (by omega) rfl (du (by omega)).2 rfl ?_
   refine dN rfl rfl rfl ?_
   refine jh (s:=fV) (m:=2*(q%100000000%10000 / 100)) rfl (by kernel_rfl) rfl (by omega) rfl (du (by omega)).1 rfl ?_
   refine fI (j:=i+4+1) rfl rfl rfl (by omega) rfl rfl (by omega) rfl ?_
   refine dN rfl rfl rfl ?_
   refine dN rfl rfl rfl ?_
   refine nM rfl rfl (by omega) (by omega) rfl ?_
   refine hJ rfl ?_
   refine bD hs (fun w hs=>?_) (hlt:=by rw [Nat.blt_eq];omega)
   refine pr ?_
   refine cA rfl ?_
   refine fI (j:=i+4) rfl rfl rfl (by omega) rfl rfl (by omega) rfl ?_
   refine hJ rfl ?_
   refine bD hs (fun w hs=>?_) (hlt:=by rw [Nat.blt_eq,List.length_set];omega)
   refine pr ?_
   refine cA rfl ?_
   refine fA ?_
   have hf:=hf.pair (j:=i+4) (by omega) (by omega) (x:=q%100000000%10000 / 100) rfl p1.symm (by omega)
   revert hf
   generalize List.set (List.set _ _ _) _ _=cs1 at hs ⊢
   intro hf
   have hN:=hf.1
   refine go ?_
   refine bH [] [] (.q 0 (.q 1 (.q 2 (.q 6 (.q 7 (.q 8 (.q 9 (.q 10 (.q 11 (.q 3 (.q 4 (.q 5 (.l 12 (.q 13 (.l 14 .nil))))))))))))))) hs (by kernel_rfl) fun w hs=>?_
   refine dN rfl rfl rfl ?_
   refine dN rfl rfl rfl ?_
   refine nM rfl rfl (by omega) (by omega) rfl ?_
   refine dN rfl rfl rfl ?_
   refine px rfl rfl (by omega) (by omega) rfl ?_
   refine jh (s:=fV) (m:=2*(q%100000000 / 10000%100)+1) rfl (by kernel_rfl) rfl (by omega) rfl (du (by omega)).2 rfl ?_
   refine dN rfl rfl rfl ?_
   refine jh (s:=fV) (m:=2*(q%100000000 / 10000%100)) rfl (by kernel_rfl) rfl (by omega) rfl (du (by omega)).1 rfl ?_
   refine fI (j:=i+2+1) rfl rfl rfl (by omega) rfl rfl (by omega) rfl ?_
   refine dN rfl rfl rfl ?_
   refine dN rfl rfl rfl ?_
   refine nM rfl rfl (by omega) (by omega) rfl ?_
   refine hJ rfl ?_
   refine bD hs (fun w hs=>?_) (hlt:=by rw [Nat.blt_eq];omega)
   refine pr ?_
   refine cA rfl ?_
   refine fI (j:=i+2) rfl rfl rfl (by omega) rfl rfl (by omega) rfl ?_
   refine hJ rfl ?_
   refine bD hs (fun w hs=>?_) (hlt:=by rw [Nat.blt_eq,List.length_set];omega)
   refine pr ?_
   refine cA rfl ?_
   refine fA ?_
   have hf:=hf.pair (j:=i+2) (by omega) (by omega) (x:=q%100000000 / 10000%100) rfl p2.symm (by omega)
   revert hf
   generalize List.set (List.set _ _ _) _ _=cs1 at hs ⊢
   intro hf
   have hN:=hf.1
   refine go ?_
   refine bH [] [] (.q 0 (.q 1 (.q 2 (.q 6 (.q 7 (.q 8 (.q 9 (.q 10 (.q 11 (.q 3 (.q 4 (.q 5 (.l 12 (.q 13 (.l 14 .nil))))))))))))))) hs (by kernel_rfl) fun w hs=>?_
   refine dN rfl rfl rfl ?_
   refine dN rfl rfl rfl ?_
   refine nM rfl rfl (by omega) (by omega) rfl ?_
   refine dN rfl rfl rfl ?_
   refine px rfl rfl (by omega) (by omega) rfl ?_
   refine jh (s:=fV) (m:=2*(q%100000000 / 10000 / 100)+1) rfl (by kernel_rfl) rfl (by omega) rfl (du (by omega)).2 rfl ?_
   refine dN rfl rfl rfl ?_
   refine jh (s:=fV) (m:=2*(q%100000000 / 10000 / 100)) rfl (by kernel_rfl) rfl (by omega) rfl (du (by omega)).1 rfl ?_
   refine fI (j:=i+1) rfl rfl rfl (by omega) rfl rfl (by omega) rfl ?_
   refine dN rfl rfl rfl ?_
   refine dN rfl rfl rfl ?_
   refine nM rfl rfl (by omega) (by omega) rfl ?_
   refine hJ rfl ?_
   refine bD hs (fun w hs=>?_) (hlt:=by rw [Nat.blt_eq];omega)
   refine pr ?_
   refine cA rfl ?_
   refine fI (j:=i) rfl rfl rfl (by omega) rfl rfl (by omega) rfl ?_
   refine hJ rfl ?_
   refine bD hs (fun w hs=>?_) (hlt:=by rw [Nat.blt_eq,List.length_set];omega)
   refine pr ?_
   refine cA rfl ?_
   refine fA ?_
   have hf:=hf.pair (j:=i) (by omega) (by omega) (x:=q%100000000 / 10000 / 100) rfl p3.symm (by omega)
   revert hf
   generalize List.set (List.set _ _ _) _ _=cs1 at hs ⊢
   intro hf
   have hN:=hf.1
   refine go ?_
   exact aB (i,q / 100000000,_) ⟨rfl,rfl,by show some (Value.int .i64 _)=some (Value.int .i64 _);congr 2;omega,trivial⟩ ⟨⟨by show i≤k;omega,p4.symm,by show q / 100000000<_;omega,hf⟩,hs⟩ (by show i<i+8;omega)
  ·refine go ?_
   exact bg (i,q,cs) ⟨rfl,rfl,rfl,trivial⟩ ⟨⟨by show i<8;omega,h1,h2,hf⟩,hs⟩
 clear hs hF hn64 cs
 rintro ⟨i,q,cs⟩ w ⟨⟨h8,h1,h2,hf⟩,hs⟩
 simp only at h8 h1 h2 hf
 replace hs:Sat W0 (blk bb 362 cs::F) w:=hs
 refine (show WC _ _ _ _ [(0,.slice (some ⟨bb,0,none⟩) k 24),(1,uV q),(4,.int .i64 (i:Int))] w from ?_)
 have hN:=hf.1
 have hq:q<10^i:=by
  rw [h2];apply Nat.div_lt_of_lt_mul;rw [← Nat.pow_add,show k-i+i=k by omega];exact hn
 have hq8:q<100000000:=Nat.lt_of_lt_of_le hq (by
  have:10^i≤10^8:=Nat.pow_le_pow_right (by omega) (by omega)
  omega)
 refine dU ?_
 refine pr ?_
 refine db rfl ?_
 refine eB (α:=Nat×Nat×List Value) (fun z=>[(0,.slice (some ⟨bb,0,none⟩) k 24),(12,.int .u32 (z.2.1:Int)),(4,.int .i64 (z.1:Int))]) (fun z w=>(z.1<4∧z.1≤k∧z.2.1=n / 10^(k-z.1)∧z.2.1<10^z.1∧GV 24 k n Z z.1 z.2.2)∧Sat W0 (blk bb 362 z.2.2::F) w) ?_ ?_
 ·by_cases h4:4≤i
  ·obtain ⟨i,rfl⟩:∃ j,i=j+4:=⟨i-4,by omega⟩
   refine go ?_
   refine kM (N:=q) (M:=10000) rfl rfl rfl rfl (by decide) rfl ?_
   refine go ?_
   refine pw (N:=q) (M:=10000) rfl rfl rfl rfl (by decide) (l8 (by omega)) rfl ?_
   refine go ?_
   refine pw (N:=q%10000) (M:=100) rfl rfl rfl rfl (by decide) (l8 (by omega)) rfl ?_
   refine go ?_
   refine kM (N:=q%10000) (M:=100) rfl rfl rfl rfl (by decide) rfl ?_
   refine go ?_
   have p1:n / 10^(k-(i+2))=q / 100:=by rw [h2,Nat.div_div_eq_div_mul,show k-(i+2)=k-(i+4)+2 by omega,Nat.pow_add]
   have p2:n / 10^(k-i)=q / 10000:=by rw [h2,Nat.div_div_eq_div_mul,show k-i=k-(i+4)+4 by omega,Nat.pow_add]
   have e4:10^(i+4)=10^i*10000:=Nat.pow_add ..
   refine bH [] [] (.q 0 (.q 1 (.q 2 (.q 6 (.q 7 (.q 8 (.q 9 (.q 10 (.q 11 (.q 3 (.q 4 (.q 5 (.l 12 (.q 13 (.l 14 .nil))))))))))))))) hs (by kernel_rfl) fun w hs=>?_
   refine dN rfl rfl rfl ?_
   refine dN rfl rfl rfl ?_
   refine nM rfl rfl (by omega) (by omega) rfl ?_
   refine dN rfl rfl rfl ?_
   refine px rfl rfl (by omega) (by omega) rfl ?_
   refine jh (s:=fV) (m:=2*(q%10000%100)+1) rfl (by kernel_rfl) rfl (by omega) rfl (du (by omega)).2 rfl ?_
   refine dN rfl rfl rfl ?_
   refine jh (s:=fV) (m:=2*(q%10000%100)) rfl (by kernel_rfl) rfl (by omega) rfl (du (by omega)).1 rfl ?_
   refine fI (j:=i+2+1) rfl rfl rfl (by omega) rfl rfl (by omega) rfl ?_
   refine dN rfl rfl rfl ?_
   refine dN rfl rfl rfl ?_
   refine nM rfl rfl (by omega) (by omega) rfl ?_
   refine hJ rfl ?_
   refine bD hs (fun w hs=>?_) (hlt:=by rw [Nat.blt_eq];omega)
   refine pr ?_
   refine cA rfl ?_
   refine fI (j:=i+2) rfl rfl rfl (by omega) rfl rfl (by omega) rfl ?_
   refine hJ rfl ?_
   refine bD hs (fun w hs=>?_) (hlt:=by rw [Nat.blt_eq,List.length_set];omega)
   refine pr ?_
   refine cA rfl ?_
   refine fA ?_
   have hf:=hf.pair (j:=i+2) (by omega) (by omega) (x:=q%10000%100) rfl h2 (by omega)
   revert hf
   generalize List.set (List.set _ _ _) _ _=cs1 at hs ⊢
   intro hf
   have hN:=hf.1
   refine go ?_
   refine bH [] [] (.q 0 (.q 1 (.q 2 (.q 6 (.q 7 (.q 8 (.q 9 (.q 10 (.q 11 (.q 3 (.q 4 (.q 5 (.l 12 (.q 13 (.l 14 .nil))))))))))))))) hs (by kernel_rfl) fun w hs=>?_
   refine dN rfl rfl rfl ?_
   refine dN rfl rfl rfl ?_
   refine nM rfl rfl (by omega) (by omega) rfl ?_
   refine dN rfl rfl rfl ?_
   refine px rfl rfl (by omega) (by omega) rfl ?_
   refine jh (s:=fV) (m:=2*(q%10000 / 100)+1) rfl (by kernel_rfl) rfl (by omega) rfl (du (by omega)).2 rfl ?_
   refine dN rfl rfl rfl ?_
   refine jh (s:=fV) (m:=2*(q%10000 / 100)) rfl (by kernel_rfl) rfl (by omega) rfl (du (by omega)).1 rfl ?_
   refine fI (j:=i+1) rfl rfl rfl (by omega) rfl rfl (by omega) rfl ?_
   refine dN rfl rfl rfl ?_
   refine dN rfl rfl rfl ?_
   refine nM rfl rfl (by omega) (by omega) rfl ?_
   refine hJ rfl ?_
   refine bD hs (fun w hs=>?_) (hlt:=by rw [Nat.blt_eq];omega)
   refine pr ?_
   refine cA rfl ?_
   refine fI (j:=i) rfl rfl rfl (by omega) rfl rfl (by omega) rfl ?_
   refine hJ rfl ?_
   refine bD hs (fun w hs=>?_) (hlt:=by rw [Nat.blt_eq,List.length_set];omega)
   refine pr ?_
   refine cA rfl ?_
   refine fA ?_
   have hf:=hf.pair (j:=i) (by omega) (by omega) (x:=q%10000 / 100) rfl p1.symm (by omega)
   revert hf
   generalize List.set (List.set _ _ _) _ _=cs1 at hs ⊢
   intro hf
   have hN:=hf.1
   refine go ?_
   exact bg (i,q / 10000,_) ⟨rfl,rfl,by show some (Value.int .i64 _)=some (Value.int .i64 _);congr 2;omega,trivial⟩ ⟨⟨by show i<4;omega,by show i≤k;omega,p2.symm,by show q / 10000<10^i;omega,hf⟩,hs⟩
  ·refine go ?_
   exact bg (i,q,cs) ⟨rfl,rfl,rfl,trivial⟩ ⟨⟨by show i<4;omega,h1,h2,hq,hf⟩,hs⟩
 clear hs hf hN hq hq8 h8 h1 h2 cs i q
 rintro ⟨i,q,cs⟩ w ⟨⟨h8,h1,h2,hq,hf⟩,hs⟩
 simp only at h8 h1 h2 hq hf
 replace hs:Sat W0 (blk bb 362 cs::F) w:=hs
 refine (show WC _ _ _ _ [(0,.slice (some ⟨bb,0,none⟩) k 24),(12,.int .u32 (q:Int)),(4,.int .i64 (i:Int))] w from ?_)
 have hN:=hf.1
 have hq8:q<10000:=Nat.lt_of_lt_of_le hq (by
  have:10^i≤10^4:=Nat.pow_le_pow_right (by omega) (by omega)
  omega)
 refine eB (α:=Nat×Nat×List Value) (fun z=>[(0,.slice (some ⟨bb,0,none⟩) k 24),(12,.int .u32 (z.2.1:Int)),(4,.int .i64 (z.1:Int))]) (fun z w=>(z.1<2∧z.1≤k∧z.2.1=n / 10^(k-z.1)∧z.2.1<10^z.1∧GV 24 k n Z z.1 z.2.2)∧Sat W0 (blk bb 362 z.2.2::F) w) ?_ ?_
 ·by_cases h4:2≤i
  ·obtain ⟨i,rfl⟩:∃ j,i=j+2:=⟨i-2,by omega⟩
   refine go ?_
   refine kM (N:=q) (M:=100) rfl rfl rfl rfl (by decide) rfl ?_
   refine go ?_
   refine pw (N:=q) (M:=100) rfl rfl rfl rfl (by decide) (l8 (by omega)) rfl ?_
   refine go ?_
   have p2:n / 10^(k-i)=q / 100:=by rw [h2,Nat.div_div_eq_div_mul,show k-i=k-(i+2)+2 by omega,Nat.pow_add]
   have e4:10^(i+2)=10^i*100:=Nat.pow_add ..
   refine bH [] [] (.q 0 (.q 1 (.q 2 (.q 6 (.q 7 (.q 8 (.q 9 (.q 10 (.q 11 (.q 3 (.q 4 (.q 5 (.l 12 (.q 13 (.l 14 .nil))))))))))))))) hs (by kernel_rfl) fun w hs=>?_
   refine dN rfl rfl rfl ?_
   refine dN rfl rfl rfl ?_
   refine nM rfl rfl (by omega) (by omega) rfl ?_
   refine dN rfl rfl rfl ?_
   refine px rfl rfl (by omega) (by omega) rfl ?_
   refine jh (s:=fV) (m:=2*(q%100)+1) rfl (by kernel_rfl) rfl (by omega) rfl (du (by omega)).2 rfl ?_
   refine dN rfl rfl rfl ?_
   refine jh (s:=fV) (m:=2*(q%100)) rfl (by kernel_rfl) rfl (by omega) rfl (du (by omega)).1 rfl ?_
   refine fI (j:=i+1) rfl rfl rfl (by omega) rfl rfl (by omega) rfl ?_
   refine dN rfl rfl rfl ?_
   refine dN rfl rfl rfl ?_
   refine nM rfl rfl (by omega) (by omega) rfl ?_
   refine hJ rfl ?_
   refine bD hs (fun w hs=>?_) (hlt:=by rw [Nat.blt_eq];omega)
   refine pr ?_
   refine cA rfl ?_
   refine fI (j:=i) rfl rfl rfl (by omega) rfl rfl (by omega) rfl ?_
   refine hJ rfl ?_
   refine bD hs (fun w hs=>?_) (hlt:=by rw [Nat.blt_eq,List.length_set];omega)
   refine pr ?_
   refine cA rfl ?_
   refine fA ?_
   have hf:=hf.pair (j:=i) (by omega) (by omega) (x:=q%100) rfl h2 (by omega)
   revert hf
   generalize List.set (List.set _ _ _) _ _=cs1 at hs ⊢
   intro hf
   have hN:=hf.1
   refine go ?_
   exact bg (i,q / 100,_) ⟨rfl,rfl,by show some (Value.int .i64 _)=some (Value.int .i64 _);congr 2;omega,trivial⟩ ⟨⟨by show i<2;omega,by show i≤k;omega,p2.symm,by show q / 100<10^i;omega,hf⟩,hs⟩
  ·refine go ?_
   exact bg (i,q,cs) ⟨rfl,rfl,rfl,trivial⟩ ⟨⟨by show i<2;omega,h1,h2,hq,hf⟩,hs⟩
 clear hs hf hN hq hq8 h8 h1 h2 cs i q
 rintro ⟨i,q,cs⟩ w ⟨⟨h8,h1,h2,hq,hf⟩,hs⟩
 simp only at h8 h1 h2 hq hf
 replace hs:Sat W0 (blk bb 362 cs::F) w:=hs
 refine (show WC _ _ _ _ [(0,.slice (some ⟨bb,0,none⟩) k 24),(12,.int .u32 (q:Int)),(4,.int .i64 (i:Int))] w from ?_)
 have hN:=hf.1
 by_cases h0:0<i
 ·obtain rfl:i=1:=by omega
  have hq1:q<10:=by simpa using hq
  refine go ?_
  refine cL (i:=0) rfl rfl rfl rfl rfl (by omega) rfl ?_
  refine bD hs (fun w hs=>?_) (hlt:=by rw [Nat.blt_eq];omega)
  refine go ?_
  exact gB rfl ⟨_,_,rfl,hf.one (by omega) (by omega) (x:=q) (by omega),hs⟩
 ·obtain rfl:i=0:=by omega
  refine go ?_
  exact gB rfl ⟨_,_,rfl,hf,hs⟩
end
section
attribute [local irreducible] IntKind.wrap
open Go.Proofs.YtecibefflhomdaaGreatDoor.Pure (D jz dec)
variable {W0 w:World} {F l:List ah}
def jB (W0:World):Prop:=∀ i,i<20→W0.cell? ⟨1,i,none⟩=some (uV (10^i))
theorem Sat.mM {a:Addr} {v:Value} (h:Sat W0 l w) (hc:W0.cell? a=some v):w.cell? a=some v:=by
 obtain ⟨_,_,_,_,hp,h1,h2,_⟩:=h
 unfold World.cell? at hc ⊢
 cases ho:W0.heap[a.block]? with
 | none=>rw [ho] at hc;cases hc
 | some o=>
  have:=h1 _ _ (h2 _ _ ho)
  rw [this];rw [ho] at hc;exact hc
section
variable {ops:Array Oper} {Q:Exit→Act→World→Prop} {n:Nat} {ds:Md} {e:Env} {rest:List Oper} {ty:TypeId} {pos:String} {af:Array Edge} {d:Nat}
attribute [local semireducible] WL WC WQ
theorem yn {x:Operand} {T bb o:Nat} {v:Value} (hx:ev e x=some (.pointer (some ⟨bb,o,none⟩))) (hT:lk kZ T=some false) (hc:w.cell? ⟨bb,o,none⟩=some v) (hd:Nat.blt d n=true)
 (k:WL ops Q n ds rest ((d,v)::e) w):WL ops Q n ds (⟨some d,.load T x,ty,pos,af,none⟩::rest) e w:=
 cj (fun a ha=>by simp [execOp,ha.ev hx,Instr.loadAt,Instr.sureAddr,cK hT hc]) hd k
end
theorem Mj:Tryz.prog.underlying 372=some (.array 20 131):=by
 have h:(match Tryz.prog.underlying 372 with|some (.array a b)=>some (a,b)|_=>none)=some (20,131):=by kernel_rfl
 split at h
 ·rename_i a b he
  rw [he]
  simp only [Option.some.injEq,Prod.mk.injEq] at h
  rw [h.1,h.2]
 ·cases h
section
variable {ops:Array Oper} {Q:Exit→Act→World→Prop} {n:Nat} {ds:Md} {e:Env} {rest:List Oper} {ty:TypeId} {pos:String} {af:Array Edge} {d:Nat}
attribute [local semireducible] WL WC WQ
theorem H4 {x y:Operand} {b:Nat} {i:Nat} (hx:ev e x=some (.pointer (some ⟨b,0,none⟩))) (hy:ev e y=some (.int .i64 (i:Int))) (h1:i<20) (hd:Nat.blt d n=true)
 (kk:WL ops Q n ds rest ((d,.pointer (some ⟨b,i,none⟩))::e) w) :
 WL ops Q n ds (⟨some d,.indexAddr 372 x y,ty,pos,af,none⟩::rest) e w:=
 cj (fun a ha=>by simp [execOp,ha.ev hx,ha.ev hy,Instr.indexAt,asIntOf,cB Mj,dq (t:=131) (k:=1) rfl,h1,add_eq,Instr.sureAddr]) hd kk
end
def Bu (k:Nat):Nat:=k*78913 / 2^18
theorem Mk:(List.range 65).all (fun k=>Nat.ble (2^k) (10^(Bu k+1))&&Nat.blt (Bu k) 20&&(Nat.beq (Bu k) 0||Nat.ble (10^(Bu k-1)*2) (2^k)))=true:=by kernel_rfl
theorem H5 {k:Nat} (h:k≤64):2^k≤10^(Bu k+1)∧Bu k<20∧(Bu k=0∨10^(Bu k-1)*2≤2^k):=by
 have h1:=List.all_eq_true.1 Mk k (List.mem_range.2 (by omega))
 simp only [Bool.and_eq_true,Bool.or_eq_true,Nat.blt_eq,Nat.ble_eq,Nat.beq_eq] at h1
 exact ⟨h1.1.1,h1.1.2,h1.2⟩
theorem B7 {k:Nat} (hk:k≤64) (hs:Sat W0 l w):Calls Tryz.prog 246 #[.int .i64 (k:Int)] w fun x w'=>x=.returned (.int .i64 (Bu k:Int))∧Sat W0 l w':=by
 refine enter Tryz.func246 rfl Tryz.ntmps246 Tryz.results246 rfl ?_
 refine go ?_
 refine q7 (N:=k*78913) (m:=18) (by show some (Value.int .i64 ((k:Int)*78913))=some (.int .i64 ((k*78913:Nat):Int));rw [Int.natCast_mul];rfl) rfl rfl (by decide) rfl ?_
 refine go ?_
 exact ak rfl ⟨rfl,hs⟩
theorem B8 {c:Bool} (hs:Sat W0 l w):Calls Tryz.prog 247 #[.bool c] w fun x w'=>(∃ m:Nat,x=.returned (.int .i64 (m:Int))∧m≤1∧(c=true↔m=1))∧Sat W0 l w':=by
 cases c with
 | true=>
  refine enter Tryz.func247 rfl Tryz.ntmps247 Tryz.results247 rfl ?_
  refine go ?_
  exact ak rfl ⟨⟨1,rfl,by simp,by simp⟩,hs⟩
 | false=>
  refine enter Tryz.func247 rfl Tryz.ntmps247 Tryz.results247 rfl ?_
  refine go ?_
  exact ak rfl ⟨⟨0,rfl,by simp,by simp⟩,hs⟩
theorem uw {n:Nat} (h0:0<n) (hn:n<18446744073709551616) (hW:jB W0) (hs:Sat W0 l w):Calls Tryz.prog 234 #[uV n] w fun x w'=>x=.returned (.int .i64 (jz 20 n:Int))∧Sat W0 l w':=by
 refine enter Tryz.func234 rfl Tryz.ntmps234 Tryz.results234 rfl ?_
 refine go ?_
 refine ae (met (uv hn hs) ?_)
 rintro _ w ⟨k,rfl,⟨k1,k2,k3⟩,hs⟩
 refine ⟨_,rfl,?_⟩
 refine pr ?_
 refine ae (met (B7 k2 hs) ?_)
 rintro _ w ⟨rfl,hs⟩
 refine ⟨_,rfl,go ?_⟩
 obtain ⟨q1,q2,q3⟩:=H5 k2
 refine H4 rfl rfl q2 rfl ?_
 refine yn rfl rfl (hs.mM (hW _ q2)) rfl ?_
 refine go ?_
 refine ae (met (B8 hs) ?_)
 rintro _ w ⟨⟨m,rfl,hm,hcm⟩,hs⟩
 refine ⟨_,rfl,go ?_⟩
 refine ak rfl ⟨?_,hs⟩
 have k3:=k3 h0
 rw [decide_eq_true_eq] at hcm
 show Ending.returned (.int .i64 ((Bu k:Int)+(m:Int)))=_
 congr 2
 by_cases hc:10^Bu k≤n
 ·have e1:=Pure.xZ (Bu k) 20 n (by omega) (.inl hc) (by omega)
  have hc':m=1:=hcm.1 (by omega)
  rw [e1]
  omega
 ·have e0:Bu k≠0:=fun h=>by rw [h] at hc;simp at hc;omega
  have q3:=q3.resolve_left e0
  have e1:=Pure.xZ (Bu k-1) 20 n (by omega) (.inl (by omega)) (by rw [show Bu k-1+1=Bu k by omega];omega)
  have hc':m≠1:=fun h=>by have:=hcm.2 h;omega
  rw [e1]
  omega
def B9:Bs:=((List.range 10).map fun i=>UInt8.ofNat (48+i))++(List.range 26).map fun i=>UInt8.ofNat (97+i)
theorem Ku:(List.range 10).all (fun n=>((B9.drop n).take 1).map UInt8.toNat==(dec n).map UInt8.toNat)=true:=by kernel_rfl
theorem H6:(List.range 100).all (fun n=>Nat.blt n 10||((fV.drop (2*n)).take 2).map UInt8.toNat==(dec n).map UInt8.toNat)=true:=by kernel_rfl
theorem toNat_inj:∀ {a b:Bs},a.map UInt8.toNat=b.map UInt8.toNat→a=b
 | [],[],_=>rfl
 | x::a,y::b,h=>by
  simp only [List.map_cons,List.cons.injEq] at h
  rw [toNat_inj h.2,UInt8.toNat_inj.1 h.1]
 | [],_::_,h=>by cases h
 | _::_,[],h=>by cases h
theorem zX {n:Nat} (h:n<100) (hs:Sat W0 l w):Calls Tryz.prog 233 #[.int .i64 (n:Int)] w fun x w'=>x=.returned (str (dec n))∧Sat W0 l w':=by
 refine enter Tryz.func233 rfl Tryz.ntmps233 Tryz.results233 rfl ?_
 refine dU ?_
 refine pr ?_
 refine db rfl ?_
 by_cases h10:n<10
 ·have e1:=List.all_eq_true.1 Ku n (List.mem_range.2 h10)
  have e2:(B9.drop n).take (n+1-n)=dec n:=by rw [show n+1-n=1 by omega];exact toNat_inj (eq_of_beq e1)
  refine go ?_
  refine Eg (s:=B9) n (n+1) (by kernel_rfl) rfl ⟨_,_,rfl,rfl⟩ ⟨_,_,rfl,by omega⟩ (by omega) (by show n+1≤36;omega) rfl ?_
  rw [e2]
  refine go ?_
  exact ak rfl ⟨rfl,hs⟩
 ·have e1:=List.all_eq_true.1 H6 n (List.mem_range.2 h)
  have e0:Nat.blt n 10=false:=by cases hb:Nat.blt n 10 with|false=>rfl|true=>rw [Nat.blt_eq] at hb;omega
  rw [e0,Bool.false_or] at e1
  have e2:(fV.drop (2*n)).take (2*n+2-2*n)=dec n:=by rw [show 2*n+2-2*n=2 by omega];exact toNat_inj (eq_of_beq e1)
  refine go ?_
  refine Eg (s:=fV) (2*n) (2*n+2) (by kernel_rfl) rfl ⟨_,_,rfl,by omega⟩ ⟨_,_,rfl,by omega⟩ (by omega) (by show 2*n+2≤200;omega) rfl ?_
  rw [e2]
  refine go ?_
  exact ak rfl ⟨rfl,hs⟩
theorem H7:∀ f n,1≤jz f n
 | 0,_=>by simp [jz]
 | f+1,n=>by unfold jz;split<;>omega
theorem Ei:∀ (k f n:Nat),1≤k→n<10^k→jz f n≤k
 | 0,_,_,h,_=>by omega
 | k+1,f,n,_,h=>by
  cases f with
  | zero=>simp [jz]
  | succ f=>
   unfold jz
   split
   ·omega
   ·rename_i h10
    cases k with
    | zero=>omega
    | succ k=>
     have e2:10^(k+1+1)=10^(k+1)*10:=Nat.pow_succ ..
     have:=Ei (k+1) f (n / 10) (by omega) (by omega)
     omega
theorem H8 {n:Nat} (hn:n<18446744073709551616) (hW:jB W0) (hs:Sat W0 F w):Calls Tryz.prog 228 #[uV n,.int .i64 10] w fun x w'=>x=.returned (str (dec n))∧Sat W0 F w':=by
 refine enter Tryz.func228 rfl Tryz.ntmps228 Tryz.results228 rfl ?_
 refine dU ?_
 refine pr ?_
 refine db rfl ?_
 by_cases h:n<100
 ·refine go ?_
  refine ae (met (zX h hs) ?_)
  rintro _ w ⟨rfl,hs⟩
  refine ⟨_,rfl,go ?_⟩
  exact ak rfl ⟨rfl,hs⟩
 ·refine go ?_
  refine aS hs fun w bb hs=>?_
  refine go ?_
  refine ae (met (uw (by omega) hn hW hs) ?_)
  rintro _ w ⟨rfl,hs⟩
  refine ⟨_,rfl,go ?_⟩
  have hk1:jz 20 n≤20:=Ei 20 20 n (by omega) (by omega)
  have hk0:=H7 20 n
  have hlt:n<10^jz 20 n:=Pure.x6 20 n (by omega)
  generalize hk:jz 20 n=k at *
  refine Eh (p:=(24,5)) (h':=k) rfl rfl rfl rfl rfl (by show k≤24;omega) rfl ?_
  refine go ?_
  refine ae (met (zW (k:=k) (n:=n) hs ⟨rfl,by rw [Nat.sub_self];rfl⟩ hk0 hk1 hlt hn) ?_)
  rintro _ w ⟨u,cs',rfl,hF,hs⟩
  refine ⟨_,rfl,go ?_⟩
  refine Eh (p:=(24,5)) (h':=k) rfl rfl rfl rfl rfl (by show k≤24;omega) rfl ?_
  obtain ⟨hl,hd⟩:=hF
  rw [List.drop_zero,Nat.sub_zero] at hd
  refine Ht (dec n) hs rfl .here ?_ ?_ rfl ?_
  ·intro j u hj
   have hdec:dec n=D k n:=by unfold dec;rw [hk]
   rw [hdec] at hj
   rw [hd,Nat.zero_add,List.getElem?_append_left (List.getElem?_eq_some_iff.1 hj).1]
   exact hj
  ·unfold dec;rw [hk];exact Pure.DT k n
  refine go ?_
  exact ak rfl ⟨rfl,hs.drop⟩
theorem FK {n:Nat} (hn:n<18446744073709551616) (hW:jB W0) (hs:Sat W0 F w):Calls Tryz.prog 209 #[uV n,.int .i64 10] w fun x w'=>x=.returned (str (dec n))∧Sat W0 F w':=by
 refine enter Tryz.func209 rfl Tryz.ntmps209 Tryz.results209 rfl ?_
 refine go ?_
 refine ae (met (H8 hn hW hs) ?_)
 rintro _ w ⟨rfl,hs⟩
 refine ⟨_,rfl,go ?_⟩
 exact ak rfl ⟨rfl,hs⟩
end
end Go.Proofs.YtecibefflhomdaaGreatDoor
