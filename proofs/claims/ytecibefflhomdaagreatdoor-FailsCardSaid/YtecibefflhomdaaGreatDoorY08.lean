/-
  Part 8: PLAIN numbers as decimal text; PLAIN what is written is read again; PLAIN the order of keys and of entries; PLAIN what a merge leaves out.
-/
import Derived.Test.YtecibefflhomdaaGreatDoorY07
set_option maxHeartbeats 8000000
set_option maxRecDepth 100000
set_option linter.all false
namespace Go.Proofs.YtecibefflhomdaaGreatDoor.Pure
open Go
def D:Nat→Nat→List UInt8
 | 0,_=>[]
 | k+1,n=>D k (n / 10)++[UInt8.ofNat (48+n%10)]
def jz:Nat→Nat→Nat
 | 0,_=>1
 | f+1,n=>if n<10 then 1 else jz f (n / 10)+1
def dec (n:Nat):List UInt8:=D (jz 20 n) n
theorem DT:∀ k n,(D k n).length=k
 | 0,_=>rfl
 | k+1,n=>by simp [D,DT k]
theorem xZ:∀ (k f n:Nat),k≤f→(10^k≤n∨k=0)→n<10^(k+1)→jz f n=k+1
 | 0,f,n,_,_,h=>by
  cases f with
  | zero=>rfl
  | succ f=>simp [jz];intro h2;omega
 | k+1,f,n,hf,h1,h2=>by
  cases f with
  | zero=>omega
  | succ f=>
   have h1:10^(k+1)≤n:=by rcases h1 with h|h;exact h;omega
   have hp:1≤10^k:=Nat.one_le_pow _ _ (by omega)
   have e1:10^(k+1)=10^k*10:=Nat.pow_succ ..
   have e2:10^(k+1+1)=10^(k+1)*10:=Nat.pow_succ ..
   have:¬ n<10:=by omega
   simp only [jz,if_neg this]
   rw [xZ k f (n / 10) (by omega) (.inl (by omega)) (by omega)]
theorem x6:∀ (f n:Nat),n<10^(f+1)→n<10^jz f n
 | 0,n,h=>by simpa [jz] using h
 | f+1,n,h=>by
  unfold jz
  split
  ·simpa
  ·have:=x6 f (n / 10) (by have e2:10^(f+1+1)=10^(f+1)*10:=Nat.pow_succ ..;omega)
   have e1:10^(jz f (n / 10)+1)=10^(jz f (n / 10))*10:=Nat.pow_succ ..
   omega
theorem x7:∀ (k n:Nat),D (k+1) n=UInt8.ofNat (48+n / 10^k%10)::D k n
 | 0,n=>by simp [D]
 | k+1,n=>by
  have h:=x7 k (n / 10)
  show D (k+1) (n / 10)++[UInt8.ofNat (48+n%10)]=_
  rw [h,Nat.div_div_eq_div_mul,show 10*10^k=10^(k+1) by rw [Nat.pow_succ,Nat.mul_comm]]
  rfl
theorem Nn (k n x:Nat) (hx:x=n / 10^k%100):D (k+2) n=UInt8.ofNat (48+x / 10)::UInt8.ofNat (48+x%10)::D k n:=by
 rw [x7 (k+1),x7 k]
 have e1:n / 10^(k+1)=n / 10^k / 10:=by rw [Nat.pow_succ,← Nat.div_div_eq_div_mul]
 rw [e1]
 generalize n / 10^k=q at *
 subst hx
 congr 3<;>omega
def val (l:List UInt8):Nat:=l.foldl (fun a c=>a*10+(c.toNat-48)) 0
theorem Lm:∀ k n,val (D k n)=n%10^k
 | 0,n=>by simp [D,val,Nat.mod_one]
 | k+1,n=>by
  have h:=Lm k (n / 10)
  unfold val at *
  simp only [D,List.foldl_append,List.foldl_cons,List.foldl_nil,h]
  have e1:(UInt8.ofNat (48+n%10)).toNat=48+n%10:=by simp;omega
  rw [e1]
  have e2:n%10^(k+1)=n / 10%10^k*10+n%10:=by
   rw [Nat.pow_succ,Nat.mul_comm,Nat.mod_mul];omega
  rw [e2];omega
theorem DU {n:Nat} (h:n<10^21):val (dec n)=n:=by
 unfold dec
 rw [Lm,Nat.mod_eq_of_lt (x6 20 n h)]
theorem DW {n m:Nat} (hn:n<10^21) (hm:m<10^21) (h:dec n=dec m):n=m:=by
 rw [← DU hn,h,DU hm]
theorem Fs (bs:Bs):∀ n,bs.foldl (fun n x=>n*256+x.toNat) n=n*256^bs.length+j3 bs:=by
 induction bs with
 | nil=>intro n;simp [j3]
 | cons x r ih=>
  intro n
  have h1:=ih (n*256+x.toNat)
  have h2:=ih (0*256+x.toNat)
  simp only [List.foldl_cons,List.length_cons,j3] at *
  rw [h1,h2]
  rw [Nat.pow_succ]
  simp only [Nat.add_mul,Nat.mul_assoc,Nat.mul_comm 256 (256^r.length)]
  omega
theorem HC (x:UInt8) (bs:Bs):j3 (x::bs)=x.toNat*256^bs.length+j3 bs:=by
 have:=Fs bs (0*256+x.toNat)
 simp only [j3,List.foldl_cons] at *
 rw [this];simp
theorem tL (N:Nat):∀ k,j3 (bM N k)=N%256^k
 | 0=>by simp [bM,j3,Nat.mod_one]
 | k+1=>by
  rw [bM,HC,tL N k,aU]
  have e1:(UInt8.ofNat (N / 2^(8*k))).toNat=N / 256^k%256:=by
   rw [show (2:Nat)^(8*k)=256^k by rw [Nat.pow_mul]]
   simp
  rw [e1,Nat.pow_succ,Nat.mod_mul,Nat.mul_comm (256^k)]
  omega
theorem oq {a rest:Bs} {n:Int} (h:n=(a.length:Int)):Rd.bytes ⟨a++rest,false⟩ n=(a,⟨rest,false⟩):=by
 subst h
 unfold Rd.bytes
 rw [if_neg (by simp;omega)]
 simp
theorem iv {N k:Nat} (h:N<256^k) (rest:Bs):Rd.num ⟨bM N k++rest,false⟩ k=(N,⟨rest,false⟩):=by
 unfold Rd.num
 rw [oq (by simp),tL,Nat.mod_eq_of_lt h]
theorem kI {s:Bs} (h:s.length≤255) (rest:Bs):Rd.text ⟨bE s++rest,false⟩=(s,⟨rest,false⟩):=by
 unfold Rd.text
 have e:bE s++rest=bM s.length 1++(s++rest):=by simp [bE,bM]
 rw [e,iv (by omega)]
 exact oq rfl
def bG (e:az):az:=if e.del=true then { e with val:=[] } else e
@[simp] theorem kn (e:az):(bG e).key=e.key:=by unfold bG;split<;>rfl
@[simp] theorem ot (e:az):(bG e).seq=e.seq:=by unfold bG;split<;>rfl
@[simp] theorem wm (e:az):(bG e).del=e.del:=by unfold bG;split<;>rfl
@[simp] theorem BT (e:az):bG (bG e)=bG e:=by
 unfold bG;split<;>simp_all
@[simp] theorem rh (e:az):cY (bG e)=cY e:=by
 unfold bG;split<;>simp_all [cY]
structure lQ (e:az):Prop where
 key:e.key.length≤8
 val:e.del=false→e.val.length≤16
 seq:e.seq<18446744073709551616
 kne:e.key≠[]
theorem lQ.norm {e:az} (h:lQ e):lQ (bG e):=⟨by simpa using h.key,fun hd=>by
 have hd':e.del=false:=by simpa using hd
 have:bG e=e:=by unfold bG;simp [hd']
 rw [this];exact h.val hd',by simpa using h.seq,by simpa using h.kne⟩
theorem wq {e:az} (h:lQ e) (rest:Bs):Rd.entry ⟨cY e++rest,false⟩=(bG e,⟨rest,false⟩):=by
 have hk:=h.key
 have e1:cY e++rest=bE e.key++(bM e.seq 8++((if e.del then [255] else bE e.val)++rest)):=by simp [cY]
 unfold Rd.entry
 rw [e1]
 simp only [kI (s:=e.key) (by omega),iv (N:=e.seq) (k:=8) h.seq]
 cases hd:e.del with
 | true=>
  simp only [if_true,List.cons_append,List.nil_append,List.head?_cons]
  rw [show (255:UInt8)::rest=[255]++rest from rfl,oq (by simp)]
  simp [bG,hd]
 | false=>
  have hv:=h.val hd
  simp only [Bool.false_eq_true,if_false]
  have hne:(bE e.val++rest).head?≠some 255:=by
   simp only [bE,List.cons_append,List.head?_cons,ne_eq,Option.some.injEq]
   intro hh
   have:(UInt8.ofNat e.val.length).toNat=255:=by rw [hh];rfl
   simp at this;omega
  rw [if_neg hne,kI (by omega)]
  simp only [bG,hd,Bool.false_eq_true,if_false]
  rw [← hd]
theorem lR {b:Bs} (h:b.length<4294967296) (rest:Bs):bI (aD b++rest)=some (b,rest):=by
 have e1:aD b++rest=bM b.length 4++(bM (4294967295-b.length) 4++(bM (we b) 4++(b++rest))):=by simp [aD]
 unfold bI
 rw [e1]
 simp only [iv (N:=b.length) (k:=4) h,iv (N:=4294967295-b.length) (k:=4) (by omega),iv (N:=we b) (k:=4) (BL b)]
 rw [if_neg (by omega),oq rfl]
 simp
theorem ou:bI []=none:=by decide
theorem lS (e:az):10≤(cY e).length:=by
 unfold cY;split<;>simp<;>omega
theorem DX {e:az} (h:lQ e):(cY e).length≤34:=by
 have hk:=h.key
 unfold cY;cases hd:e.del
 ·have hv:=h.val hd;simp;omega
 ·simp;omega
theorem HD {r:Rd} (e:az) (rest:Bs) (h:r=⟨cY e++rest,false⟩):r.rest≠[]:=by
 subst h;intro h;have:=lS e;simp at h;rw [h.1] at this;simp at this
theorem aN:∀ a:Bs,aQ a a=false
 | []=>rfl
 | a::x=>by simp [aQ,aN x]
theorem dj:∀ {a b c:Bs},aQ a b=true→aQ b c=true→aQ a c=true
 | [],[],_,h,_=>by simp [aQ] at h
 | [],_::_,[],_,k=>by simp [aQ] at k
 | [],_::_,_::_,_,_=>rfl
 | _::_,[],_,h,_=>by simp [aQ] at h
 | _::_,_::_,[],_,k=>by simp [aQ] at k
 | a::x,b::y,c::z,h,k=>by
  simp only [aQ,Bool.or_eq_true,decide_eq_true_eq,Bool.and_eq_true,UInt8.lt_iff_toNat_lt,← UInt8.toNat_inj] at *
  rcases h with h|⟨h,h'⟩<;>rcases k with k|⟨k,k'⟩
  ·exact .inl (by omega)
  ·exact .inl (by omega)
  ·exact .inl (by omega)
  ·exact .inr ⟨by omega,dj h' k'⟩
theorem cz {a b:Bs} (h:aQ a b=true):aQ b a=false:=by
 cases hb:aQ b a with
 | false=>rfl
 | true=>have:=dj h hb;rw [aN] at this;cases this
theorem ew:∀ (a b:Bs),aQ a b=true∨a=b∨aQ b a=true
 | [],[]=>.inr (.inl rfl)
 | [],_::_=>.inl rfl
 | _::_,[]=>.inr (.inr rfl)
 | a::x,b::y=>by
  have ih:=ew x y
  simp only [aQ,Bool.or_eq_true,decide_eq_true_eq,Bool.and_eq_true,UInt8.lt_iff_toNat_lt,← UInt8.toNat_inj,List.cons.injEq]
  rcases Nat.lt_trichotomy a.toNat b.toNat with h|h|h
  ·exact .inl (.inl h)
  ·rcases ih with ih|ih|ih
   ·exact .inl (.inr ⟨h,ih⟩)
   ·exact .inr (.inl ⟨h,ih⟩)
   ·exact .inr (.inr (.inr ⟨h.symm,ih⟩))
  ·exact .inr (.inr (.inl h))
theorem jJ {a b:Bs} (h:aQ a b=true):a≠b:=fun e=>by subst e;rw [aN] at h;cases h
theorem zy (a:Bs):aQ a []=false:=by cases a<;>rfl
theorem oN {a b c:Bs} (h:aQ b a=false) (k:aQ b c=true):aQ a c=true:=by
 rcases ew a b with h1|h1|h1
 ·exact dj h1 k
 ·exact h1▸k
 ·rw [h] at h1;cases h1
theorem pg {a b c:Bs} (h:aQ a b=true) (k:aQ c b=false):aQ a c=true:=by
 rcases ew b c with h1|h1|h1
 ·exact dj h h1
 ·exact h1▸h
 ·rw [k] at h1;cases h1
theorem ri {a b c:Bs} (h:aQ b a=false) (k:aQ c b=false):aQ c a=false:=by
 cases hc:aQ c a with
 | false=>rfl
 | true=>have:=pg hc h;rw [k] at this;cases this
theorem p8 {a b:Bs} (h:aQ a b=false) (k:aQ b a=false):a=b:=by
 rcases ew a b with h1|h1|h1
 ·rw [h] at h1;cases h1
 ·exact h1
 ·rw [k] at h1;cases h1
theorem bQ {a b:az}:less a b=true↔aQ a.key b.key=true∨(a.key=b.key∧b.seq<a.seq):=by
 unfold less
 by_cases h:a.key=b.key
 ·simp [h,aN]
 ·simp [h]
theorem jR (a:az):less a a=false:=by
 cases h:less a a with
 | false=>rfl
 | true=>rcases bQ.1 h with h1|h1
         ·rw [aN] at h1;cases h1
         ·omega
theorem kJ {a b c:az} (h:less a b=true) (k:less b c=true):less a c=true:=by
 rw [bQ] at *
 rcases h with h|⟨h,h'⟩<;>rcases k with k|⟨k,k'⟩
 ·exact .inl (dj h k)
 ·exact .inl (k▸h)
 ·exact .inl (h▸k)
 ·exact .inr ⟨h.trans k,by omega⟩
theorem BU (a b:az):less a b=true∨(a.key=b.key∧a.seq=b.seq)∨less b a=true:=by
 rw [bQ,bQ]
 rcases ew a.key b.key with h|h|h
 ·exact .inl (.inl h)
 ·rcases Nat.lt_trichotomy a.seq b.seq with k|k|k
  ·exact .inr (.inr (.inr ⟨h.symm,k⟩))
  ·exact .inr (.inl ⟨h,k⟩)
  ·exact .inl (.inr ⟨h,k⟩)
 ·exact .inr (.inr (.inl h))
theorem BV {a b:az} (h:less a b=true):less b a=false:=by
 cases hb:less b a with
 | false=>rfl
 | true=>have:=kJ h hb;rw [jR] at this;cases this
abbrev fS (l:List az):Prop:=l.Pairwise fun a b=>less a b=true
theorem x8 {l:List az} {e:az} (hl:fS l):∀ (f lo hi:Nat),hi-lo≤f→hi≤l.length→lo≤hi →
 (∀ i,i<lo→less (l.getD i default) e=true)→(∀ i,hi≤i→i<l.length→less (l.getD i default) e=false) →
 (∀ i,i<dt l e f lo hi→less (l.getD i default) e=true)∧(∀ i,dt l e f lo hi≤i→i<l.length→less (l.getD i default) e=false):=by
 intro f
 induction f with
 | zero=>
  intro lo hi h1 h2 h3 ha hb
  have:lo=hi:=by omega
  subst this
  exact ⟨ha,hb⟩
 | succ f ih=>
  intro lo hi h1 h2 h3 ha hb
  unfold dt
  split
  ·rename_i hlt
   have hm:(lo+hi) / 2<l.length:=by omega
   have hmono:∀ i j,i<j→j<l.length→less (l.getD i default) (l.getD j default)=true:=fun i j hij hj=>by
    have:=List.pairwise_iff_getElem.1 hl i j (by omega) hj hij
    simpa [List.getD,List.getElem?_eq_getElem (show i<l.length by omega),List.getElem?_eq_getElem hj] using this
   split
   ·rename_i hless
    refine ih _ _ (by omega) h2 (by omega) (fun i hi'=>?_) hb
    rcases Nat.lt_or_ge i ((lo+hi) / 2) with h|h
    ·exact kJ (hmono i _ h hm) hless
    ·have:i=(lo+hi) / 2:=by omega
     subst this;exact hless
   ·rename_i hless
    have hless:less (l.getD ((lo+hi) / 2) default) e=false:=by simpa using hless
    refine ih _ _ (by omega) (by omega) (by omega) ha (fun i hi' hil=>?_)
    rcases Nat.lt_or_ge ((lo+hi) / 2) i with h|h
    ·have h5:=hmono _ i h hil
     cases hc:less (l.getD i default) e with
     | false=>rfl
     | true=>rw [kJ h5 hc] at hless;cases hless
    ·have:i=(lo+hi) / 2:=by omega
     subst this;exact hless
  ·rename_i hlt
   have:lo=hi:=by omega
   subst this
   exact ⟨ha,hb⟩
theorem mA {l:List az} {e:az} (hl:fS l) :
 (∀ x∈l.take (aZ l e),less x e=true)∧(∀ x∈l.drop (aZ l e),less x e=false):=by
 obtain ⟨h1,h2⟩:=x8 (e:=e) hl l.length 0 l.length (by omega) (Nat.le_refl _) (Nat.zero_le _) (fun i h=>by omega) (fun i h h'=>by omega)
 constructor
 ·intro x hx
  obtain ⟨i,hi⟩:=List.mem_iff_getElem?.1 hx
  rw [List.getElem?_take] at hi
  split at hi
  ·rename_i hlt
   have:=h1 i hlt
   simpa [List.getD,hi] using this
  ·cases hi
 ·intro x hx
  obtain ⟨i,hi⟩:=List.mem_iff_getElem?.1 hx
  rw [List.getElem?_drop] at hi
  have hlt:=(List.getElem?_eq_some_iff.1 hi).1
  have:=h2 _ (Nat.le_add_right _ i) hlt
  unfold aZ at hi
  simpa [List.getD,hi] using this
theorem iW {l:List az} {e x:az}:x∈dT l e↔x=e∨x∈l:=by
 unfold dT
 rw [List.mem_append,List.mem_cons]
 conv=>rhs;rw [← List.take_append_drop (aZ l e) l,List.mem_append]
 constructor
 ·rintro (h|h|h)
  ·exact .inr (.inl h)
  ·exact .inl h
  ·exact .inr (.inr h)
 ·rintro (h|h|h)
  ·exact .inr (.inl h)
  ·exact .inl h
  ·exact .inr (.inr h)
theorem nC {l:List az} {e:az} (hl:fS l) (hn:∀ x∈l,¬ (x.key=e.key∧x.seq=e.seq)):fS (dT l e):=by
 obtain ⟨h1,h2⟩:=mA (e:=e) hl
 have hd:=List.take_append_drop (aZ l e) l
 rw [← hd] at hl
 obtain ⟨p1,p2,p3⟩:=List.pairwise_append.1 hl
 unfold dT
 refine List.pairwise_append.2 ⟨p1,List.pairwise_cons.2 ⟨fun x hx=>?_,p2⟩,fun x hx y hy=>?_⟩
 ·have:=h2 x hx
  rcases BU e x with h|h|h
  ·exact h
  ·exact absurd ⟨h.1.symm,h.2.symm⟩ (hn x (List.mem_of_mem_drop hx))
  ·rw [this] at h;cases h
 ·rcases List.mem_cons.1 hy with rfl|hy
  ·exact h1 x hx
  ·exact p3 x hx y hy
def gd (l:List az) (k:Bs) (m:Nat):Option az:=l.find? fun e=>decide (e.key=k)&&decide (e.seq≤m)
theorem fT {l:List az} {k:Bs} {m:Nat} {e:az} (h:gd l k m=some e):e∈l∧e.key=k∧e.seq≤m:=by
 have h1:=List.find?_some h
 simp at h1
 exact ⟨List.mem_of_find?_eq_some h,h1.1,h1.2⟩
theorem dM {l:List az} {k:Bs} {m:Nat}:gd l k m=none↔∀ e∈l,e.key=k→m<e.seq:=by
 unfold gd
 rw [List.find?_eq_none]
 simp only [Bool.and_eq_true,decide_eq_true_eq,not_and,Nat.not_le]
theorem ov {l:List az} (hl:fS l) {k:Bs} {m:Nat} {e:az} (h:gd l k m=some e):∀ x∈l,x.key=k→x.seq≤m→x.seq≤e.seq:=by
 induction l with
 | nil=>intro x hx;cases hx
 | cons a r ih=>
  obtain ⟨p1,p2⟩:=List.pairwise_cons.1 hl
  intro x hx hk hm
  unfold gd at h
  rw [List.find?_cons] at h
  split at h
  ·rename_i ha
   simp at ha
   cases h
   rcases List.mem_cons.1 hx with rfl|hx
   ·exact Nat.le_refl _
   ·rcases bQ.1 (p1 x hx) with h1|h1
    ·rw [hk,ha.1,aN] at h1;cases h1
    ·omega
  ·rename_i ha
   rcases List.mem_cons.1 hx with rfl|hx
   ·simp [hk,hm] at ha
   ·exact ih p2 h x hx hk hm
theorem tM {l:List az} (hl:fS l) {k:Bs} {m:Nat} {e:az} (h1:e∈l) (h2:e.key=k) (h3:e.seq≤m) (h4:∀ x∈l,x.key=k→x.seq≤m→x.seq≤e.seq):gd l k m=some e:=by
 cases hv:gd l k m with
 | none=>have:=dM.1 hv e h1 h2;omega
 | some x=>
  obtain ⟨a1,a2,a3⟩:=fT hv
  have b1:=h4 x a1 a2 a3
  have b2:=ov hl hv e h1 h2 h3
  have:x=e:=by
   rcases List.mem_iff_getElem.1 a1 with ⟨i,hi,rfl⟩
   rcases List.mem_iff_getElem.1 h1 with ⟨j,hj,rfl⟩
   have hne:∀ i j (hi:i<l.length) (hj:j<l.length),i<j→l[i].key=l[j].key→l[i].seq=l[j].seq→False:=fun i j hi hj hij e1 e2=>by
    rcases bQ.1 (List.pairwise_iff_getElem.1 hl i j hi hj hij) with h|h
    ·rw [e1,aN] at h;cases h
    ·omega
   rcases Nat.lt_trichotomy i j with h|h|h
   ·exact (hne i j hi hj h (a2.trans h2.symm) (by omega)).elim
   ·subst h;rfl
   ·exact (hne j i hj hi h (h2.trans a2.symm) (by omega)).elim
  rw [this]
structure Kp where
 out:List az
 same:List az
 later:az
 any:Bool
def iX:Nat→List az→List az
 | 0,l=>l
 | f+1,l=>match l.getLast? with
  | some e=>if e.del=true then iX f l.dropLast else l
  | none=>l
def gk (bottom:Bool) (s:Kp):Kp:={ s with out:=s.out++(if bottom=true then iX s.same.length s.same else s.same),same:=[] }
def gr (s:Kp) (e:az):Bool:=!s.any||decide (e.key≠s.later.key)
def keeps (ms:List Nat) (s:Kp) (e:az):Bool:=ms.any fun m=>decide (e.seq≤m)&&(gr s e||decide (m<s.later.seq))
def kK (ms:List Nat) (bottom:Bool) (s:Kp) (e:az):Kp:=
 { (if gr s e=true then gk bottom s else s) with
   same:=if keeps ms s e=true then (if gr s e=true then gk bottom s else s).same++[e] else (if gr s e=true then gk bottom s else s).same,later:=e,any:=true }
def GQ:Kp:=⟨[],[],default,false⟩
def seen (ms:List Nat) (l:List az) (e:az):Bool:=ms.any fun m=>decide (gd l e.key m=some e)
def kl (ms:List Nat) (l:List az):List az:=l.filter (seen ms l)
def holds (l:List az) (e:az):Bool:=l.any fun x=>decide (x.key=e.key)&&decide (x.seq≤e.seq)&&!x.del
def dE (ms:List Nat) (bottom:Bool) (l:List az):List az:=if bottom=true then (kl ms l).filter (holds (kl ms l)) else kl ms l
theorem gL {a b:List az} (h:fS (a++b)):fS a∧fS b∧∀ x∈a,∀ y∈b,less x y=true:=List.pairwise_append.1 h
theorem sg:∀ (n:Nat) (l:List az),n=l.length→fS l→(∀ x∈l,∀ y∈l,x.key=y.key)→iX n l=l.filter (holds l)
 | 0,l,h,_,_=>by have:=List.eq_nil_of_length_eq_zero h.symm;subst this;rfl
 | n+1,l,h,hs,hk=>by
  have hne:l≠[]:=by intro h';subst h';simp at h
  obtain ⟨a,e,rfl⟩:∃ a e,l=a++[e]:=⟨l.dropLast,l.getLast hne,(List.dropLast_concat_getLast hne).symm⟩
  obtain ⟨s1,s2,s3⟩:=gL hs
  have hlast:∀ x∈a,e.seq<x.seq:=fun x hx=>by
   have hkk:=hk x (List.mem_append_left _ hx) e (by simp)
   rcases bQ.1 (s3 x hx e (by simp)) with h1|h1
   ·rw [hkk,aN] at h1;cases h1
   ·exact h1.2
  simp only [iX,List.getLast?_append,List.getLast?_singleton,Option.some_or]
  cases hd:e.del with
  | true=>
   simp only [if_true,List.dropLast_concat]
   rw [sg n a (by simp at h;omega) s1 (fun x hx y hy=>hk x (List.mem_append_left _ hx) y (List.mem_append_left _ hy))]
   rw [List.filter_append]
   have he:holds (a++[e]) e=false:=by
    unfold holds
    rw [List.any_eq_false]
    intro x hx
    rcases List.mem_append.1 hx with hx|hx
    ·have:=hlast x hx;simp;omega
    ·simp at hx;subst hx;simp [hd]
   simp only [List.filter_cons,he,List.filter_nil,Bool.false_eq_true,if_false,List.append_nil]
   refine List.filter_congr fun x hx=>?_
   unfold holds
   rw [List.any_append]
   simp [hd]
  | false=>
   simp only [Bool.false_eq_true,if_false]
   symm
   rw [List.filter_eq_self]
   intro x hx
   unfold holds
   rw [List.any_eq_true]
   refine ⟨e,by simp,?_⟩
   have hkk:=hk x hx e (by simp)
   rcases List.mem_append.1 hx with hx|hx
   ·have:=hlast x hx;simp [hkk,hd];omega
   ·simp at hx;subst hx;simp [hd]
theorem ow (a b:List az) (k:Bs) (m:Nat):gd (a++b) k m=(gd a k m).or (gd b k m):=by
 unfold gd;rw [List.find?_append]
theorem Kc {p r:List az} {e:az} (hs:fS (p++e::r)) (ms:List Nat) :
 seen ms (p++e::r) e=ms.any fun m=>decide (e.seq≤m)&&p.all fun x=>!decide (x.key=e.key)||decide (m<x.seq):=by
 unfold seen
 congr 1
 funext m
 rw [Bool.eq_iff_iff]
 simp only [decide_eq_true_eq,Bool.and_eq_true,List.all_eq_true,Bool.or_eq_true,Bool.not_eq_true',decide_eq_false_iff_not]
 obtain ⟨s1,s2,s3⟩:=gL hs
 rw [ow]
 have hcons:gd (e::r) e.key m=if e.seq≤m then some e else gd r e.key m:=by
  unfold gd;rw [List.find?_cons];by_cases h:e.seq≤m<;>simp [h]
 rw [hcons]
 constructor
 ·intro h
  cases hv:gd p e.key m with
  | some x=>
   rw [hv] at h
   simp at h;subst h
   obtain ⟨a1,-,-⟩:=fT hv
   have:=s3 x a1 x (by simp)
   rw [jR] at this;cases this
  | none=>
   rw [hv] at h
   simp only [Option.none_or] at h
   refine ⟨?_,fun x hx=>?_⟩
   ·by_cases hle:e.seq≤m
    ·exact hle
    ·rw [if_neg hle] at h
     obtain ⟨a1,-,a3⟩:=fT h
     exact absurd a3 hle
   ·by_cases hk:x.key=e.key
    ·exact .inr (dM.1 hv x hx hk)
    ·exact .inl hk
 ·rintro ⟨h1,h2⟩
  have hv:gd p e.key m=none:=dM.2 fun x hx hk=>by
   rcases h2 x hx with h|h
   ·exact absurd hk h
   ·exact h
  rw [hv,if_pos h1];rfl
theorem zA {p r:List az} {z e:az} (hs:fS (p++e::r)) (hz:p.getLast?=some z) {x:az} (hx:x∈p) (hk:x.key=e.key):z.key=e.key∧z.seq≤x.seq:=by
 have hne:p≠[]:=by intro h;subst h;cases hx
 obtain ⟨a,rfl⟩:∃ a,p=a++[z]:=by
  refine ⟨p.dropLast,?_⟩
  rw [List.getLast?_eq_some_getLast hne] at hz
  simp only [Option.some.injEq] at hz
  rw [← hz];exact (List.dropLast_concat_getLast hne).symm
 obtain ⟨s1,s2,s3⟩:=gL hs
 obtain ⟨t1,t2,t3⟩:=gL s1
 rcases List.mem_append.1 hx with h|h
 ·have h1:=t3 x h z (by simp)
  have h2:=s3 z (by simp) e (by simp)
  rcases bQ.1 h1 with h1|h1<;>rcases bQ.1 h2 with h2|h2
  ·have:=dj h1 h2;rw [hk,aN] at this;cases this
  ·rw [hk,h2.1,aN] at h1;cases h1
  ·rw [← h1.1,hk,aN] at h2;cases h2
  ·exact ⟨h2.1,by omega⟩
 ·simp at h;subst h;exact ⟨hk,Nat.le_refl _⟩
structure Ft (ms:List Nat) (bottom:Bool) (l p:List az) (s:Kp):Prop where
 any:s.any=!p.isEmpty
 last:s.any=true→p.getLast?=some s.later
 same:s.same=(p.filter (seen ms l)).filter fun e=>s.any&&decide (e.key=s.later.key)
 out:s.out=(p.filter fun e=>seen ms l e&&(!bottom||holds (kl ms l) e)).filter fun e=>!(s.any&&decide (e.key=s.later.key))
theorem tN {ms:List Nat} {l:List az} {e:az}:e∈kl ms l↔e∈l∧seen ms l e=true:=by simp [kl]
theorem zB {ms:List Nat} {bottom:Bool} {l p r:List az} {s:Kp} (hl:l=p++r) (hs:fS l) (h:Ft ms bottom l p s) (hr:s.any=true→∀ x∈r,x.key≠s.later.key) :
 (gk bottom s).out=p.filter fun e=>seen ms l e&&(!bottom||holds (kl ms l) e):=by
 unfold gk
 simp only
 rw [h.out]
 cases ha:s.any with
 | false=>
  have hp:p=[]:=by have:=h.any;rw [ha] at this;cases p with|nil=>rfl|cons a b=>simp at this
  have hsame:=h.same
  rw [hp] at hsame ⊢
  simp at hsame
  simp [hsame,iX]
 | true=>
  have hlast:=h.last ha
  have hsame:=h.same
  rw [ha] at hsame
  simp only [Bool.true_and] at hsame ⊢
  have hps:fS p:=by rw [hl] at hs;exact (gL hs).1
  have hss:fS s.same:=by rw [hsame];exact (hps.filter _).filter _
  have key:(if bottom=true then iX s.same.length s.same else s.same)=(p.filter fun e=>seen ms l e&&(!bottom||holds (kl ms l) e)).filter fun e=>decide (e.key=s.later.key):=by
   cases bottom with
   | false=>
    simp only [Bool.false_eq_true,if_false,Bool.not_false,Bool.true_or,Bool.and_true]
    exact hsame
   | true=>
    simp only [if_true,Bool.not_true,Bool.false_or]
    rw [sg _ _ rfl hss (fun x hx y hy=>by
     rw [hsame] at hx hy
     simp at hx hy
     rw [hx.2.1,hy.2.1])]
    refine (congrArg (fun z=>z.filter (holds s.same)) hsame).trans ?_
    simp only [List.filter_filter]
    refine List.filter_congr fun x hx=>?_
    by_cases hk:x.key=s.later.key
    ·simp only [hk,decide_true,Bool.true_and]
     rw [Bool.and_comm]
     congr 1
     unfold holds
     rw [Bool.eq_iff_iff,List.any_eq_true,List.any_eq_true]
     constructor
     ·rintro ⟨y,hy,h1⟩
      rw [hsame] at hy
      simp at hy
      exact ⟨y,tN.2 ⟨by rw [hl];exact List.mem_append_left _ hy.1,hy.2.2⟩,h1⟩
     ·rintro ⟨y,hy,h1⟩
      obtain ⟨y1,y2⟩:=tN.1 hy
      refine ⟨y,?_,h1⟩
      simp only [Bool.and_eq_true,decide_eq_true_eq] at h1
      have hyk:y.key=s.later.key:=h1.1.1.trans hk
      rw [hsame]
      simp only [List.mem_filter,decide_eq_true_eq]
      rw [hl] at y1
      rcases List.mem_append.1 y1 with y1|y1
      ·exact ⟨⟨y1,y2⟩,hyk⟩
      ·exact absurd hyk (hr ha y y1)
    ·simp [hk]
  rw [key]
  have hne:p≠[]:=by intro h;subst h;cases hlast
  have split:∀ (q:List az),fS q→(∀ x∈q,x.key=s.later.key∨aQ x.key s.later.key=true)→q.filter (fun e=>!decide (e.key=s.later.key))++q.filter (fun e=>decide (e.key=s.later.key))=q:=by
   intro q
   induction q with
   | nil=>intro _ _;rfl
   | cons a q ih=>
    intro hq hb
    obtain ⟨q1,q2⟩:=List.pairwise_cons.1 hq
    by_cases hk:a.key=s.later.key
    ·have hall:∀ x∈q,x.key=s.later.key:=fun x hx=>by
      rcases hb x (List.mem_cons_of_mem _ hx) with h|h
      ·exact h
      ·rcases bQ.1 (q1 x hx) with h1|h1
       ·rw [hk] at h1;have:=dj h h1;rw [aN] at this;cases this
       ·rw [← h1.1];exact hk
     have e1:(a::q).filter (fun e=>!decide (e.key=s.later.key))=[]:=by
      rw [List.filter_eq_nil_iff];intro x hx
      rcases List.mem_cons.1 hx with rfl|hx
      ·simp [hk]
      ·simp [hall x hx]
     have e2:(a::q).filter (fun e=>decide (e.key=s.later.key))=a::q:=by
      rw [List.filter_eq_self];intro x hx
      rcases List.mem_cons.1 hx with rfl|hx
      ·simp [hk]
      ·simp [hall x hx]
     rw [e1,e2];rfl
    ·have:=ih q2 fun x hx=>hb x (List.mem_cons_of_mem _ hx)
     simp only [List.filter_cons,hk,decide_false,Bool.not_false,if_true,Bool.false_eq_true,if_false,List.cons_append,this]
  refine split _ (hps.filter _) fun x hx=>?_
  have hxp:=(List.mem_filter.1 hx).1
  obtain ⟨a,hp⟩:∃ a,p=a++[s.later]:=by
   refine ⟨p.dropLast,?_⟩
   rw [List.getLast?_eq_some_getLast hne] at hlast
   simp only [Option.some.injEq] at hlast
   rw [← hlast];exact (List.dropLast_concat_getLast hne).symm
  rw [hp] at hxp hps
  rcases List.mem_append.1 hxp with h|h
  ·rcases bQ.1 ((gL hps).2.2 x h s.later (by simp)) with h|h
   ·exact .inr h
   ·exact .inl h.1
  ·simp at h;subst h;exact .inl rfl
theorem HE {ms:List Nat} {bottom:Bool} {l p r:List az} {e:az} {s:Kp} (hl:l=p++e::r) (hs:fS l) (h:Ft ms bottom l p s):Ft ms bottom l (p++[e]) (kK ms bottom s e):=by
 have hseen:keeps ms s e=seen ms l e:=by
  rw [hl,Kc (hl▸hs)]
  unfold keeps
  congr 1
  funext m
  congr 1
  unfold gr
  cases ha:s.any with
  | false=>
   have hp:p=[]:=by have:=h.any;rw [ha] at this;cases p with|nil=>rfl|cons a b=>simp at this
   subst hp;simp
  | true=>
   have hlast:=h.last ha
   have hmem:s.later∈p:=List.mem_of_getLast? hlast
   simp only [Bool.not_true,Bool.false_or]
   rw [Bool.eq_iff_iff]
   simp only [Bool.or_eq_true,decide_eq_true_eq,List.all_eq_true,Bool.not_eq_true',decide_eq_false_iff_not]
   constructor
   ·intro hh x hx
    by_cases hk:x.key=e.key
    ·obtain ⟨k1,k2⟩:=zA (hl▸hs) hlast hx hk
     rcases hh with hh|hh
     ·exact absurd k1.symm hh
     ·exact .inr (by omega)
    ·exact .inl hk
   ·intro hh
    rcases hh _ hmem with h1|h1
    ·exact .inl fun h2=>h1 h2.symm
    ·exact .inr h1
 have hfst:gr s e=true→s.any=true→∀ x∈e::r,x.key≠s.later.key:=by
  intro hf ha x hx hk
  have hne:e.key≠s.later.key:=by unfold gr at hf;rw [ha] at hf;simpa using hf
  rcases List.mem_cons.1 hx with rfl|hx
  ·exact hne hk
  ·have hmem:s.later∈p:=List.mem_of_getLast? (h.last ha)
   obtain ⟨s1,s2,s3⟩:=gL (hl▸hs)
   have h1:=s3 _ hmem e (by simp)
   have h2:=(List.pairwise_cons.1 s2).1 x hx
   rcases bQ.1 h1 with h1|h1
   ·rcases bQ.1 h2 with h2|h2
    ·have:=dj h1 h2;rw [hk,aN] at this;cases this
    ·rw [h2.1,hk,aN] at h1;cases h1
   ·exact hne h1.1.symm
 have hother:gr s e=true→∀ x∈p,x.key≠e.key:=by
  intro hf x hx hk
  have ha:s.any=true:=by have:=h.any;rw [this];cases p with|nil=>cases hx|cons a b=>rfl
  have:=(zA (hl▸hs) (h.last ha) hx hk).1
  exact hfst hf ha e (by simp) this.symm
 have hdone:=fun hf=>zB (r:=e::r) hl hs h (hfst hf)
 unfold kK
 rw [hseen]
 by_cases hf:gr s e=true
 ·have hd:=hdone hf
  simp only [hf,if_true]
  refine ⟨by simp,fun _=>by simp,?_,?_⟩
  ·have e1:(gk bottom s).same=[]:=rfl
   simp only [e1,Bool.true_and,List.filter_append]
   have e2:(p.filter (seen ms l)).filter (fun x=>decide (x.key=e.key))=[]:=by
    rw [List.filter_eq_nil_iff];intro x hx
    simpa using hother hf x (List.mem_filter.1 hx).1
   rw [e2]
   cases hsn:seen ms l e<;>simp [hsn]
  ·simp only [Bool.true_and]
   rw [hd,List.filter_append,List.filter_append]
   have e2:(p.filter fun e=>seen ms l e&&(!bottom||holds (kl ms l) e)).filter (fun x=>!decide (x.key=e.key))=p.filter fun e=>seen ms l e&&(!bottom||holds (kl ms l) e):=by
    rw [List.filter_eq_self];intro x hx
    simpa using hother hf x (List.mem_filter.1 hx).1
   rw [e2]
   have e3:([e].filter fun e=>seen ms l e&&(!bottom||holds (kl ms l) e)).filter (fun x=>!decide (x.key=e.key))=[]:=by
    rw [List.filter_eq_nil_iff];intro x hx
    have:=(List.mem_filter.1 hx).1
    simp at this;subst this;simp
   rw [e3];simp
 ·have hf':gr s e=false:=by simpa using hf
  obtain ⟨ha,hk⟩:s.any=true∧e.key=s.later.key:=by
   unfold gr at hf'
   simp at hf'
   exact hf'
  simp only [hf',Bool.false_eq_true,if_false]
  refine ⟨by simp,fun _=>by simp,?_,?_⟩
  ·simp only [Bool.true_and,List.filter_append]
   have:=h.same
   rw [ha] at this
   simp only [Bool.true_and] at this
   rw [hk,← this]
   cases hsn:seen ms l e<;>simp [hsn,hk]
  ·simp only [Bool.true_and]
   have:=h.out
   rw [ha] at this
   simp only [Bool.true_and] at this
   rw [List.filter_append,List.filter_append,hk,← this]
   have e3:([e].filter fun e=>seen ms l e&&(!bottom||holds (kl ms l) e)).filter (fun x=>!decide (x.key=s.later.key))=[]:=by
    rw [List.filter_eq_nil_iff];intro x hx
    have:=(List.mem_filter.1 hx).1
    simp at this;subst this;simp [hk]
   rw [e3];simp
theorem wu {ms:List Nat} {bottom:Bool} {l:List az} (hs:fS l):∀ (r p:List az) (s:Kp),l=p++r→Ft ms bottom l p s→Ft ms bottom l l (r.foldl (kK ms bottom) s)
 | [],p,s,hl,h=>by simp at hl;subst hl;exact h
 | e::r,p,s,hl,h=>wu hs r (p++[e]) _ (by rw [hl];simp) (HE hl hs h)
theorem Kd {ms:List Nat} {bottom:Bool} {l:List az} (hs:fS l):(gk bottom (l.foldl (kK ms bottom) GQ)).out=dE ms bottom l:=by
 have h0:Ft ms bottom l [] GQ:=⟨rfl,fun h=>(by cases h),rfl,rfl⟩
 have h:=wu hs l [] GQ rfl h0
 rw [zB (r:=[]) (by simp) hs h (fun _ x hx=>by cases hx)]
 unfold dE
 cases bottom with
 | false=>simp [kl]
 | true=>simp [kl,List.filter_filter,Bool.and_comm]
end Go.Proofs.YtecibefflhomdaaGreatDoor.Pure
