/-
  Part 8: PLAIN numbers as decimal text; PLAIN what is written is read again; PLAIN the order of keys and of entries; PLAIN what a merge leaves out.
-/
import Derived.Test.YtecibefflhomdaaGreatDoorW07
set_option maxHeartbeats 8000000
set_option maxRecDepth 100000
set_option linter.all false
namespace Go.Proofs.YtecibefflhomdaaGreatDoor.Pure
open Go
def D:Nat→Nat→List UInt8
 | 0,_=>[]
 | k+1,n=>D k (n / 10)++[UInt8.ofNat (48+n%10)]
def jo:Nat→Nat→Nat
 | 0,_=>1
 | f+1,n=>if n<10 then 1 else jo f (n / 10)+1
def dec (n:Nat):List UInt8:=D (jo 20 n) n
theorem Dn:∀ k n,(D k n).length=k
 | 0,_=>rfl
 | k+1,n=>by simp [D,Dn k]
theorem xR:∀ (k f n:Nat),k≤f→(10^k≤n∨k=0)→n<10^(k+1)→jo f n=k+1
 | 0,f,n,_,_,h=>by
  cases f with
  | zero=>rfl
  | succ f=>simp [jo];intro h2;omega
 | k+1,f,n,hf,h1,h2=>by
  cases f with
  | zero=>omega
  | succ f=>
   have h1:10^(k+1)≤n:=by rcases h1 with h|h;exact h;omega
   have hp:1≤10^k:=Nat.one_le_pow _ _ (by omega)
   have e1:10^(k+1)=10^k*10:=Nat.pow_succ ..
   have e2:10^(k+1+1)=10^(k+1)*10:=Nat.pow_succ ..
   have:¬ n<10:=by omega
   simp only [jo,if_neg this]
   rw [xR k f (n / 10) (by omega) (.inl (by omega)) (by omega)]
theorem xS:∀ (f n:Nat),n<10^(f+1)→n<10^jo f n
 | 0,n,h=>by simpa [jo] using h
 | f+1,n,h=>by
  unfold jo
  split
  ·simpa
  ·have:=xS f (n / 10) (by have e2:10^(f+1+1)=10^(f+1)*10:=Nat.pow_succ ..;omega)
   have e1:10^(jo f (n / 10)+1)=10^(jo f (n / 10))*10:=Nat.pow_succ ..
   omega
theorem xT:∀ (k n:Nat),D (k+1) n=UInt8.ofNat (48+n / 10^k%10)::D k n
 | 0,n=>by simp [D]
 | k+1,n=>by
  have h:=xT k (n / 10)
  show D (k+1) (n / 10)++[UInt8.ofNat (48+n%10)]=_
  rw [h,Nat.div_div_eq_div_mul,show 10*10^k=10^(k+1) by rw [Nat.pow_succ,Nat.mul_comm]]
  rfl
theorem MP (k n x:Nat) (hx:x=n / 10^k%100):D (k+2) n=UInt8.ofNat (48+x / 10)::UInt8.ofNat (48+x%10)::D k n:=by
 rw [xT (k+1),xT k]
 have e1:n / 10^(k+1)=n / 10^k / 10:=by rw [Nat.pow_succ,← Nat.div_div_eq_div_mul]
 rw [e1]
 generalize n / 10^k=q at *
 subst hx
 congr 3<;>omega
def val (l:List UInt8):Nat:=l.foldl (fun a c=>a*10+(c.toNat-48)) 0
theorem KO:∀ k n,val (D k n)=n%10^k
 | 0,n=>by simp [D,val,Nat.mod_one]
 | k+1,n=>by
  have h:=KO k (n / 10)
  unfold val at *
  simp only [D,List.foldl_append,List.foldl_cons,List.foldl_nil,h]
  have e1:(UInt8.ofNat (48+n%10)).toNat=48+n%10:=by simp;omega
  rw [e1]
  have e2:n%10^(k+1)=n / 10%10^k*10+n%10:=by
   rw [Nat.pow_succ,Nat.mul_comm,Nat.mod_mul];omega
  rw [e2];omega
theorem Dp {n:Nat} (h:n<10^21):val (dec n)=n:=by
 unfold dec
 rw [KO,Nat.mod_eq_of_lt (xS 20 n h)]
theorem Dq {n m:Nat} (hn:n<10^21) (hm:m<10^21) (h:dec n=dec m):n=m:=by
 rw [← Dp hn,h,Dp hm]
theorem ES (bs:Bs):∀ n,bs.foldl (fun n x=>n*256+x.toNat) n=n*256^bs.length+iL bs:=by
 induction bs with
 | nil=>intro n;simp [iL]
 | cons x r ih=>
  intro n
  have h1:=ih (n*256+x.toNat)
  have h2:=ih (0*256+x.toNat)
  simp only [List.foldl_cons,List.length_cons,iL] at *
  rw [h1,h2]
  rw [Nat.pow_succ]
  simp only [Nat.add_mul,Nat.mul_assoc,Nat.mul_comm 256 (256^r.length)]
  omega
theorem Hb (x:UInt8) (bs:Bs):iL (x::bs)=x.toNat*256^bs.length+iL bs:=by
 have:=ES bs (0*256+x.toNat)
 simp only [iL,List.foldl_cons] at *
 rw [this];simp
theorem tI (N:Nat):∀ k,iL (bz N k)=N%256^k
 | 0=>by simp [bz,iL,Nat.mod_one]
 | k+1=>by
  rw [bz,Hb,tI N k,aD]
  have e1:(UInt8.ofNat (N / 2^(8*k))).toNat=N / 256^k%256:=by
   rw [show (2:Nat)^(8*k)=256^k by rw [Nat.pow_mul]]
   simp
  rw [e1,Nat.pow_succ,Nat.mod_mul,Nat.mul_comm (256^k)]
  omega
theorem og {a rest:Bs} {n:Int} (h:n=(a.length:Int)):Rd.bytes ⟨a++rest,false⟩ n=(a,⟨rest,false⟩):=by
 subst h
 unfold Rd.bytes
 rw [if_neg (by simp;omega)]
 simp
theorem gU {N k:Nat} (h:N<256^k) (rest:Bs):Rd.num ⟨bz N k++rest,false⟩ k=(N,⟨rest,false⟩):=by
 unfold Rd.num
 rw [og (by simp),tI,Nat.mod_eq_of_lt h]
theorem kA {s:Bs} (h:s.length≤255) (rest:Bs):Rd.text ⟨bB s++rest,false⟩=(s,⟨rest,false⟩):=by
 unfold Rd.text
 have e:bB s++rest=bz s.length 1++(s++rest):=by simp [bB,bz]
 rw [e,gU (by omega)]
 exact og rfl
def bD (e:ay):ay:=if e.del=true then { e with val:=[] } else e
@[simp] theorem j7 (e:ay):(bD e).key=e.key:=by unfold bD;split<;>rfl
@[simp] theorem oh (e:ay):(bD e).seq=e.seq:=by unfold bD;split<;>rfl
@[simp] theorem wa (e:ay):(bD e).del=e.del:=by unfold bD;split<;>rfl
@[simp] theorem BF (e:ay):bD (bD e)=bD e:=by
 unfold bD;split<;>simp_all
@[simp] theorem q9 (e:ay):cU (bD e)=cU e:=by
 unfold bD;split<;>simp_all [cU]
structure lx (e:ay):Prop where
 key:e.key.length≤8
 val:e.del=false→e.val.length≤16
 seq:e.seq<18446744073709551616
 kne:e.key≠[]
theorem lx.norm {e:ay} (h:lx e):lx (bD e):=⟨by simpa using h.key,fun hd=>by
 have hd':e.del=false:=by simpa using hd
 have:bD e=e:=by unfold bD;simp [hd']
 rw [this];exact h.val hd',by simpa using h.seq,by simpa using h.kne⟩
theorem wb {e:ay} (h:lx e) (rest:Bs):Rd.entry ⟨cU e++rest,false⟩=(bD e,⟨rest,false⟩):=by
 have hk:=h.key
 have e1:cU e++rest=bB e.key++(bz e.seq 8++((if e.del then [255] else bB e.val)++rest)):=by simp [cU]
 unfold Rd.entry
 rw [e1]
 simp only [kA (s:=e.key) (by omega),gU (N:=e.seq) (k:=8) h.seq]
 cases hd:e.del with
 | true=>
  simp only [if_true,List.cons_append,List.nil_append,List.head?_cons]
  rw [show (255:UInt8)::rest=[255]++rest from rfl,og (by simp)]
  simp [bD,hd]
 | false=>
  have hv:=h.val hd
  simp only [Bool.false_eq_true,if_false]
  have hne:(bB e.val++rest).head?≠some 255:=by
   simp only [bB,List.cons_append,List.head?_cons,ne_eq,Option.some.injEq]
   intro hh
   have:(UInt8.ofNat e.val.length).toNat=255:=by rw [hh];rfl
   simp at this;omega
  rw [if_neg hne,kA (by omega)]
  simp only [bD,hd,Bool.false_eq_true,if_false]
  rw [← hd]
theorem jq {b:Bs} (h:b.length<4294967296) (rest:Bs):bu (az b++rest)=some (b,rest):=by
 have e1:az b++rest=bz b.length 4++(bz (4294967295-b.length) 4++(bz (qT b) 4++(b++rest))):=by simp [az]
 unfold bu
 rw [e1]
 simp only [gU (N:=b.length) (k:=4) h,gU (N:=4294967295-b.length) (k:=4) (by omega),gU (N:=qT b) (k:=4) (xE b)]
 rw [if_neg (by omega),og rfl]
 simp
theorem om:bu []=none:=by decide
theorem pU (e:ay):10≤(cU e).length:=by
 unfold cU;split<;>simp<;>omega
theorem Dr {e:ay} (h:lx e):(cU e).length≤34:=by
 have hk:=h.key
 unfold cU;cases hd:e.del
 ·have hv:=h.val hd;simp;omega
 ·simp;omega
theorem Hc {r:Rd} (e:ay) (rest:Bs) (h:r=⟨cU e++rest,false⟩):r.rest≠[]:=by
 subst h;intro h;have:=pU e;simp at h;rw [h.1] at this;simp at this
theorem aM:∀ a:Bs,aQ a a=false
 | []=>rfl
 | a::x=>by simp [aQ,aM x]
theorem dt:∀ {a b c:Bs},aQ a b=true→aQ b c=true→aQ a c=true
 | [],[],_,h,_=>by simp [aQ] at h
 | [],_::_,[],_,k=>by simp [aQ] at k
 | [],_::_,_::_,_,_=>rfl
 | _::_,[],_,h,_=>by simp [aQ] at h
 | _::_,_::_,[],_,k=>by simp [aQ] at k
 | a::x,b::y,c::z,h,k=>by
  simp only [aQ,Bool.or_eq_true,decide_eq_true_eq,Bool.and_eq_true,UInt8.lt_iff_toNat_lt,← UInt8.toNat_inj] at *
  rcases h with h|⟨h,h'⟩<;>rcases k with k|⟨k,k'⟩
  ·exact .inl (by omega)
  ·exact .inl (by omega)
  ·exact .inl (by omega)
  ·exact .inr ⟨by omega,dt h' k'⟩
theorem cw {a b:Bs} (h:aQ a b=true):aQ b a=false:=by
 cases hb:aQ b a with
 | false=>rfl
 | true=>have:=dt h hb;rw [aM] at this;cases this
theorem eh:∀ (a b:Bs),aQ a b=true∨a=b∨aQ b a=true
 | [],[]=>.inr (.inl rfl)
 | [],_::_=>.inl rfl
 | _::_,[]=>.inr (.inr rfl)
 | a::x,b::y=>by
  have ih:=eh x y
  simp only [aQ,Bool.or_eq_true,decide_eq_true_eq,Bool.and_eq_true,UInt8.lt_iff_toNat_lt,← UInt8.toNat_inj,List.cons.injEq]
  rcases Nat.lt_trichotomy a.toNat b.toNat with h|h|h
  ·exact .inl (.inl h)
  ·rcases ih with ih|ih|ih
   ·exact .inl (.inr ⟨h,ih⟩)
   ·exact .inr (.inl ⟨h,ih⟩)
   ·exact .inr (.inr (.inr ⟨h.symm,ih⟩))
  ·exact .inr (.inr (.inl h))
theorem jB {a b:Bs} (h:aQ a b=true):a≠b:=fun e=>by subst e;rw [aM] at h;cases h
theorem zo (a:Bs):aQ a []=false:=by cases a<;>rfl
theorem oI {a b c:Bs} (h:aQ b a=false) (k:aQ b c=true):aQ a c=true:=by
 rcases eh a b with h1|h1|h1
 ·exact dt h1 k
 ·exact h1▸k
 ·rw [h] at h1;cases h1
theorem o5 {a b c:Bs} (h:aQ a b=true) (k:aQ c b=false):aQ a c=true:=by
 rcases eh b c with h1|h1|h1
 ·exact dt h h1
 ·exact h1▸h
 ·rw [k] at h1;cases h1
theorem re {a b c:Bs} (h:aQ b a=false) (k:aQ c b=false):aQ c a=false:=by
 cases hc:aQ c a with
 | false=>rfl
 | true=>have:=o5 hc h;rw [k] at this;cases this
theorem pV {a b:Bs} (h:aQ a b=false) (k:aQ b a=false):a=b:=by
 rcases eh a b with h1|h1|h1
 ·rw [h] at h1;cases h1
 ·exact h1
 ·rw [k] at h1;cases h1
theorem bK {a b:ay}:less a b=true↔aQ a.key b.key=true∨(a.key=b.key∧b.seq<a.seq):=by
 unfold less
 by_cases h:a.key=b.key
 ·simp [h,aM]
 ·simp [h]
theorem jK (a:ay):less a a=false:=by
 cases h:less a a with
 | false=>rfl
 | true=>rcases bK.1 h with h1|h1
         ·rw [aM] at h1;cases h1
         ·omega
theorem kB {a b c:ay} (h:less a b=true) (k:less b c=true):less a c=true:=by
 rw [bK] at *
 rcases h with h|⟨h,h'⟩<;>rcases k with k|⟨k,k'⟩
 ·exact .inl (dt h k)
 ·exact .inl (k▸h)
 ·exact .inl (h▸k)
 ·exact .inr ⟨h.trans k,by omega⟩
theorem BG (a b:ay):less a b=true∨(a.key=b.key∧a.seq=b.seq)∨less b a=true:=by
 rw [bK,bK]
 rcases eh a.key b.key with h|h|h
 ·exact .inl (.inl h)
 ·rcases Nat.lt_trichotomy a.seq b.seq with k|k|k
  ·exact .inr (.inr (.inr ⟨h.symm,k⟩))
  ·exact .inr (.inl ⟨h,k⟩)
  ·exact .inl (.inr ⟨h,k⟩)
 ·exact .inr (.inr (.inl h))
theorem BH {a b:ay} (h:less a b=true):less b a=false:=by
 cases hb:less b a with
 | false=>rfl
 | true=>have:=kB h hb;rw [jK] at this;cases this
abbrev fJ (l:List ay):Prop:=l.Pairwise fun a b=>less a b=true
theorem xU {l:List ay} {e:ay} (hl:fJ l):∀ (f lo hi:Nat),hi-lo≤f→hi≤l.length→lo≤hi →
 (∀ i,i<lo→less (l.getD i default) e=true)→(∀ i,hi≤i→i<l.length→less (l.getD i default) e=false) →
 (∀ i,i<dg l e f lo hi→less (l.getD i default) e=true)∧(∀ i,dg l e f lo hi≤i→i<l.length→less (l.getD i default) e=false):=by
 intro f
 induction f with
 | zero=>
  intro lo hi h1 h2 h3 ha hb
  have:lo=hi:=by omega
  subst this
  exact ⟨ha,hb⟩
 | succ f ih=>
  intro lo hi h1 h2 h3 ha hb
  unfold dg
  split
  ·rename_i hlt
   have hm:(lo+hi) / 2<l.length:=by omega
   have hmono:∀ i j,i<j→j<l.length→less (l.getD i default) (l.getD j default)=true:=fun i j hij hj=>by
    have:=List.pairwise_iff_getElem.1 hl i j (by omega) hj hij
    simpa [List.getD,List.getElem?_eq_getElem (show i<l.length by omega),List.getElem?_eq_getElem hj] using this
   split
   ·rename_i hless
    refine ih _ _ (by omega) h2 (by omega) (fun i hi'=>?_) hb
    rcases Nat.lt_or_ge i ((lo+hi) / 2) with h|h
    ·exact kB (hmono i _ h hm) hless
    ·have:i=(lo+hi) / 2:=by omega
     subst this;exact hless
   ·rename_i hless
    have hless:less (l.getD ((lo+hi) / 2) default) e=false:=by simpa using hless
    refine ih _ _ (by omega) (by omega) (by omega) ha (fun i hi' hil=>?_)
    rcases Nat.lt_or_ge ((lo+hi) / 2) i with h|h
    ·have h5:=hmono _ i h hil
     cases hc:less (l.getD i default) e with
     | false=>rfl
     | true=>rw [kB h5 hc] at hless;cases hless
    ·have:i=(lo+hi) / 2:=by omega
     subst this;exact hless
  ·rename_i hlt
   have:lo=hi:=by omega
   subst this
   exact ⟨ha,hb⟩
theorem my {l:List ay} {e:ay} (hl:fJ l) :
 (∀ x∈l.take (aY l e),less x e=true)∧(∀ x∈l.drop (aY l e),less x e=false):=by
 obtain ⟨h1,h2⟩:=xU (e:=e) hl l.length 0 l.length (by omega) (Nat.le_refl _) (Nat.zero_le _) (fun i h=>by omega) (fun i h h'=>by omega)
 constructor
 ·intro x hx
  obtain ⟨i,hi⟩:=List.mem_iff_getElem?.1 hx
  rw [List.getElem?_take] at hi
  split at hi
  ·rename_i hlt
   have:=h1 i hlt
   simpa [List.getD,hi] using this
  ·cases hi
 ·intro x hx
  obtain ⟨i,hi⟩:=List.mem_iff_getElem?.1 hx
  rw [List.getElem?_drop] at hi
  have hlt:=(List.getElem?_eq_some_iff.1 hi).1
  have:=h2 _ (Nat.le_add_right _ i) hlt
  unfold aY at hi
  simpa [List.getD,hi] using this
theorem iQ {l:List ay} {e x:ay}:x∈dG l e↔x=e∨x∈l:=by
 unfold dG
 rw [List.mem_append,List.mem_cons]
 conv=>rhs;rw [← List.take_append_drop (aY l e) l,List.mem_append]
 constructor
 ·rintro (h|h|h)
  ·exact .inr (.inl h)
  ·exact .inl h
  ·exact .inr (.inr h)
 ·rintro (h|h|h)
  ·exact .inr (.inl h)
  ·exact .inl h
  ·exact .inr (.inr h)
theorem nz {l:List ay} {e:ay} (hl:fJ l) (hn:∀ x∈l,¬ (x.key=e.key∧x.seq=e.seq)):fJ (dG l e):=by
 obtain ⟨h1,h2⟩:=my (e:=e) hl
 have hd:=List.take_append_drop (aY l e) l
 rw [← hd] at hl
 obtain ⟨p1,p2,p3⟩:=List.pairwise_append.1 hl
 unfold dG
 refine List.pairwise_append.2 ⟨p1,List.pairwise_cons.2 ⟨fun x hx=>?_,p2⟩,fun x hx y hy=>?_⟩
 ·have:=h2 x hx
  rcases BG e x with h|h|h
  ·exact h
  ·exact absurd ⟨h.1.symm,h.2.symm⟩ (hn x (List.mem_of_mem_drop hx))
  ·rw [this] at h;cases h
 ·rcases List.mem_cons.1 hy with rfl|hy
  ·exact h1 x hx
  ·exact p3 x hx y hy
def fS (l:List ay) (k:Bs) (m:Nat):Option ay:=l.find? fun e=>decide (e.key=k)&&decide (e.seq≤m)
theorem gd {l:List ay} {k:Bs} {m:Nat} {e:ay} (h:fS l k m=some e):e∈l∧e.key=k∧e.seq≤m:=by
 have h1:=List.find?_some h
 simp at h1
 exact ⟨List.mem_of_find?_eq_some h,h1.1,h1.2⟩
theorem dy {l:List ay} {k:Bs} {m:Nat}:fS l k m=none↔∀ e∈l,e.key=k→m<e.seq:=by
 unfold fS
 rw [List.find?_eq_none]
 simp only [Bool.and_eq_true,decide_eq_true_eq,not_and,Nat.not_le]
theorem oo {l:List ay} (hl:fJ l) {k:Bs} {m:Nat} {e:ay} (h:fS l k m=some e):∀ x∈l,x.key=k→x.seq≤m→x.seq≤e.seq:=by
 induction l with
 | nil=>intro x hx;cases hx
 | cons a r ih=>
  obtain ⟨p1,p2⟩:=List.pairwise_cons.1 hl
  intro x hx hk hm
  unfold fS at h
  rw [List.find?_cons] at h
  split at h
  ·rename_i ha
   simp at ha
   cases h
   rcases List.mem_cons.1 hx with rfl|hx
   ·exact Nat.le_refl _
   ·rcases bK.1 (p1 x hx) with h1|h1
    ·rw [hk,ha.1,aM] at h1;cases h1
    ·omega
  ·rename_i ha
   rcases List.mem_cons.1 hx with rfl|hx
   ·simp [hk,hm] at ha
   ·exact ih p2 h x hx hk hm
theorem tJ {l:List ay} (hl:fJ l) {k:Bs} {m:Nat} {e:ay} (h1:e∈l) (h2:e.key=k) (h3:e.seq≤m) (h4:∀ x∈l,x.key=k→x.seq≤m→x.seq≤e.seq):fS l k m=some e:=by
 cases hv:fS l k m with
 | none=>have:=dy.1 hv e h1 h2;omega
 | some x=>
  obtain ⟨a1,a2,a3⟩:=gd hv
  have b1:=h4 x a1 a2 a3
  have b2:=oo hl hv e h1 h2 h3
  have:x=e:=by
   rcases List.mem_iff_getElem.1 a1 with ⟨i,hi,rfl⟩
   rcases List.mem_iff_getElem.1 h1 with ⟨j,hj,rfl⟩
   have hne:∀ i j (hi:i<l.length) (hj:j<l.length),i<j→l[i].key=l[j].key→l[i].seq=l[j].seq→False:=fun i j hi hj hij e1 e2=>by
    rcases bK.1 (List.pairwise_iff_getElem.1 hl i j hi hj hij) with h|h
    ·rw [e1,aM] at h;cases h
    ·omega
   rcases Nat.lt_trichotomy i j with h|h|h
   ·exact (hne i j hi hj h (a2.trans h2.symm) (by omega)).elim
   ·subst h;rfl
   ·exact (hne j i hj hi h (h2.trans a2.symm) (by omega)).elim
  rw [this]
structure Kp where
 out:List ay
 same:List ay
 later:ay
 any:Bool
def iR:Nat→List ay→List ay
 | 0,l=>l
 | f+1,l=>match l.getLast? with
  | some e=>if e.del=true then iR f l.dropLast else l
  | none=>l
def fV (bottom:Bool) (s:Kp):Kp:={ s with out:=s.out++(if bottom=true then iR s.same.length s.same else s.same),same:=[] }
def gg (s:Kp) (e:ay):Bool:=!s.any||decide (e.key≠s.later.key)
def keeps (ms:List Nat) (s:Kp) (e:ay):Bool:=ms.any fun m=>decide (e.seq≤m)&&(gg s e||decide (m<s.later.seq))
def kC (ms:List Nat) (bottom:Bool) (s:Kp) (e:ay):Kp:=
 { (if gg s e=true then fV bottom s else s) with
   same:=if keeps ms s e=true then (if gg s e=true then fV bottom s else s).same++[e] else (if gg s e=true then fV bottom s else s).same,later:=e,any:=true }
def Gq:Kp:=⟨[],[],default,false⟩
def seen (ms:List Nat) (l:List ay) (e:ay):Bool:=ms.any fun m=>decide (fS l e.key m=some e)
def kl (ms:List Nat) (l:List ay):List ay:=l.filter (seen ms l)
def holds (l:List ay) (e:ay):Bool:=l.any fun x=>decide (x.key=e.key)&&decide (x.seq≤e.seq)&&!x.del
def ey (ms:List Nat) (bottom:Bool) (l:List ay):List ay:=if bottom=true then (kl ms l).filter (holds (kl ms l)) else kl ms l
theorem gH {a b:List ay} (h:fJ (a++b)):fJ a∧fJ b∧∀ x∈a,∀ y∈b,less x y=true:=List.pairwise_append.1 h
theorem r7:∀ (n:Nat) (l:List ay),n=l.length→fJ l→(∀ x∈l,∀ y∈l,x.key=y.key)→iR n l=l.filter (holds l)
 | 0,l,h,_,_=>by have:=List.eq_nil_of_length_eq_zero h.symm;subst this;rfl
 | n+1,l,h,hs,hk=>by
  have hne:l≠[]:=by intro h';subst h';simp at h
  obtain ⟨a,e,rfl⟩:∃ a e,l=a++[e]:=⟨l.dropLast,l.getLast hne,(List.dropLast_concat_getLast hne).symm⟩
  obtain ⟨s1,s2,s3⟩:=gH hs
  have hlast:∀ x∈a,e.seq<x.seq:=fun x hx=>by
   have hkk:=hk x (List.mem_append_left _ hx) e (by simp)
   rcases bK.1 (s3 x hx e (by simp)) with h1|h1
   ·rw [hkk,aM] at h1;cases h1
   ·exact h1.2
  simp only [iR,List.getLast?_append,List.getLast?_singleton,Option.some_or]
  cases hd:e.del with
  | true=>
   simp only [if_true,List.dropLast_concat]
   rw [r7 n a (by simp at h;omega) s1 (fun x hx y hy=>hk x (List.mem_append_left _ hx) y (List.mem_append_left _ hy))]
   rw [List.filter_append]
   have he:holds (a++[e]) e=false:=by
    unfold holds
    rw [List.any_eq_false]
    intro x hx
    rcases List.mem_append.1 hx with hx|hx
    ·have:=hlast x hx;simp;omega
    ·simp at hx;subst hx;simp [hd]
   simp only [List.filter_cons,he,List.filter_nil,Bool.false_eq_true,if_false,List.append_nil]
   refine List.filter_congr fun x hx=>?_
   unfold holds
   rw [List.any_append]
   simp [hd]
  | false=>
   simp only [Bool.false_eq_true,if_false]
   symm
   rw [List.filter_eq_self]
   intro x hx
   unfold holds
   rw [List.any_eq_true]
   refine ⟨e,by simp,?_⟩
   have hkk:=hk x hx e (by simp)
   rcases List.mem_append.1 hx with hx|hx
   ·have:=hlast x hx;simp [hkk,hd];omega
   ·simp at hx;subst hx;simp [hd]
theorem oq (a b:List ay) (k:Bs) (m:Nat):fS (a++b) k m=(fS a k m).or (fS b k m):=by
 unfold fS;rw [List.find?_append]
theorem JO {p r:List ay} {e:ay} (hs:fJ (p++e::r)) (ms:List Nat) :
 seen ms (p++e::r) e=ms.any fun m=>decide (e.seq≤m)&&p.all fun x=>!decide (x.key=e.key)||decide (m<x.seq):=by
 unfold seen
 congr 1
 funext m
 rw [Bool.eq_iff_iff]
 simp only [decide_eq_true_eq,Bool.and_eq_true,List.all_eq_true,Bool.or_eq_true,Bool.not_eq_true',decide_eq_false_iff_not]
 obtain ⟨s1,s2,s3⟩:=gH hs
 rw [oq]
 have hcons:fS (e::r) e.key m=if e.seq≤m then some e else fS r e.key m:=by
  unfold fS;rw [List.find?_cons];by_cases h:e.seq≤m<;>simp [h]
 rw [hcons]
 constructor
 ·intro h
  cases hv:fS p e.key m with
  | some x=>
   rw [hv] at h
   simp at h;subst h
   obtain ⟨a1,-,-⟩:=gd hv
   have:=s3 x a1 x (by simp)
   rw [jK] at this;cases this
  | none=>
   rw [hv] at h
   simp only [Option.none_or] at h
   refine ⟨?_,fun x hx=>?_⟩
   ·by_cases hle:e.seq≤m
    ·exact hle
    ·rw [if_neg hle] at h
     obtain ⟨a1,-,a3⟩:=gd h
     exact absurd a3 hle
   ·by_cases hk:x.key=e.key
    ·exact .inr (dy.1 hv x hx hk)
    ·exact .inl hk
 ·rintro ⟨h1,h2⟩
  have hv:fS p e.key m=none:=dy.2 fun x hx hk=>by
   rcases h2 x hx with h|h
   ·exact absurd hk h
   ·exact h
  rw [hv,if_pos h1];rfl
theorem zp {p r:List ay} {z e:ay} (hs:fJ (p++e::r)) (hz:p.getLast?=some z) {x:ay} (hx:x∈p) (hk:x.key=e.key):z.key=e.key∧z.seq≤x.seq:=by
 have hne:p≠[]:=by intro h;subst h;cases hx
 obtain ⟨a,rfl⟩:∃ a,p=a++[z]:=by
  refine ⟨p.dropLast,?_⟩
  rw [List.getLast?_eq_some_getLast hne] at hz
  simp only [Option.some.injEq] at hz
  rw [← hz];exact (List.dropLast_concat_getLast hne).symm
 obtain ⟨s1,s2,s3⟩:=gH hs
 obtain ⟨t1,t2,t3⟩:=gH s1
 rcases List.mem_append.1 hx with h|h
 ·have h1:=t3 x h z (by simp)
  have h2:=s3 z (by simp) e (by simp)
  rcases bK.1 h1 with h1|h1<;>rcases bK.1 h2 with h2|h2
  ·have:=dt h1 h2;rw [hk,aM] at this;cases this
  ·rw [hk,h2.1,aM] at h1;cases h1
  ·rw [← h1.1,hk,aM] at h2;cases h2
  ·exact ⟨h2.1,by omega⟩
 ·simp at h;subst h;exact ⟨hk,Nat.le_refl _⟩
structure ET (ms:List Nat) (bottom:Bool) (l p:List ay) (s:Kp):Prop where
 any:s.any=!p.isEmpty
 last:s.any=true→p.getLast?=some s.later
 same:s.same=(p.filter (seen ms l)).filter fun e=>s.any&&decide (e.key=s.later.key)
 out:s.out=(p.filter fun e=>seen ms l e&&(!bottom||holds (kl ms l) e)).filter fun e=>!(s.any&&decide (e.key=s.later.key))
theorem tK {ms:List Nat} {l:List ay} {e:ay}:e∈kl ms l↔e∈l∧seen ms l e=true:=by simp [kl]
theorem zq {ms:List Nat} {bottom:Bool} {l p r:List ay} {s:Kp} (hl:l=p++r) (hs:fJ l) (h:ET ms bottom l p s) (hr:s.any=true→∀ x∈r,x.key≠s.later.key) :
 (fV bottom s).out=p.filter fun e=>seen ms l e&&(!bottom||holds (kl ms l) e):=by
 unfold fV
 simp only
 rw [h.out]
 cases ha:s.any with
 | false=>
  have hp:p=[]:=by have:=h.any;rw [ha] at this;cases p with|nil=>rfl|cons a b=>simp at this
  have hsame:=h.same
  rw [hp] at hsame ⊢
  simp at hsame
  simp [hsame,iR]
 | true=>
  have hlast:=h.last ha
  have hsame:=h.same
  rw [ha] at hsame
  simp only [Bool.true_and] at hsame ⊢
  have hps:fJ p:=by rw [hl] at hs;exact (gH hs).1
  have hss:fJ s.same:=by rw [hsame];exact (hps.filter _).filter _
  have key:(if bottom=true then iR s.same.length s.same else s.same)=(p.filter fun e=>seen ms l e&&(!bottom||holds (kl ms l) e)).filter fun e=>decide (e.key=s.later.key):=by
   cases bottom with
   | false=>
    simp only [Bool.false_eq_true,if_false,Bool.not_false,Bool.true_or,Bool.and_true]
    exact hsame
   | true=>
    simp only [if_true,Bool.not_true,Bool.false_or]
    rw [r7 _ _ rfl hss (fun x hx y hy=>by
     rw [hsame] at hx hy
     simp at hx hy
     rw [hx.2.1,hy.2.1])]
    refine (congrArg (fun z=>z.filter (holds s.same)) hsame).trans ?_
    simp only [List.filter_filter]
    refine List.filter_congr fun x hx=>?_
    by_cases hk:x.key=s.later.key
    ·simp only [hk,decide_true,Bool.true_and]
     rw [Bool.and_comm]
     congr 1
     unfold holds
     rw [Bool.eq_iff_iff,List.any_eq_true,List.any_eq_true]
     constructor
     ·rintro ⟨y,hy,h1⟩
      rw [hsame] at hy
      simp at hy
      exact ⟨y,tK.2 ⟨by rw [hl];exact List.mem_append_left _ hy.1,hy.2.2⟩,h1⟩
     ·rintro ⟨y,hy,h1⟩
      obtain ⟨y1,y2⟩:=tK.1 hy
      refine ⟨y,?_,h1⟩
      simp only [Bool.and_eq_true,decide_eq_true_eq] at h1
      have hyk:y.key=s.later.key:=h1.1.1.trans hk
      rw [hsame]
      simp only [List.mem_filter,decide_eq_true_eq]
      rw [hl] at y1
      rcases List.mem_append.1 y1 with y1|y1
      ·exact ⟨⟨y1,y2⟩,hyk⟩
      ·exact absurd hyk (hr ha y y1)
    ·simp [hk]
  rw [key]
  have hne:p≠[]:=by intro h;subst h;cases hlast
  have split:∀ (q:List ay),fJ q→(∀ x∈q,x.key=s.later.key∨aQ x.key s.later.key=true)→q.filter (fun e=>!decide (e.key=s.later.key))++q.filter (fun e=>decide (e.key=s.later.key))=q:=by
   intro q
   induction q with
   | nil=>intro _ _;rfl
   | cons a q ih=>
    intro hq hb
    obtain ⟨q1,q2⟩:=List.pairwise_cons.1 hq
    by_cases hk:a.key=s.later.key
    ·have hall:∀ x∈q,x.key=s.later.key:=fun x hx=>by
      rcases hb x (List.mem_cons_of_mem _ hx) with h|h
      ·exact h
      ·rcases bK.1 (q1 x hx) with h1|h1
       ·rw [hk] at h1;have:=dt h h1;rw [aM] at this;cases this
       ·rw [← h1.1];exact hk
     have e1:(a::q).filter (fun e=>!decide (e.key=s.later.key))=[]:=by
      rw [List.filter_eq_nil_iff];intro x hx
      rcases List.mem_cons.1 hx with rfl|hx
      ·simp [hk]
      ·simp [hall x hx]
     have e2:(a::q).filter (fun e=>decide (e.key=s.later.key))=a::q:=by
      rw [List.filter_eq_self];intro x hx
      rcases List.mem_cons.1 hx with rfl|hx
      ·simp [hk]
      ·simp [hall x hx]
     rw [e1,e2];rfl
    ·have:=ih q2 fun x hx=>hb x (List.mem_cons_of_mem _ hx)
     simp only [List.filter_cons,hk,decide_false,Bool.not_false,if_true,Bool.false_eq_true,if_false,List.cons_append,this]
  refine split _ (hps.filter _) fun x hx=>?_
  have hxp:=(List.mem_filter.1 hx).1
  obtain ⟨a,hp⟩:∃ a,p=a++[s.later]:=by
   refine ⟨p.dropLast,?_⟩
   rw [List.getLast?_eq_some_getLast hne] at hlast
   simp only [Option.some.injEq] at hlast
   rw [← hlast];exact (List.dropLast_concat_getLast hne).symm
  rw [hp] at hxp hps
  rcases List.mem_append.1 hxp with h|h
  ·rcases bK.1 ((gH hps).2.2 x h s.later (by simp)) with h|h
   ·exact .inr h
   ·exact .inl h.1
  ·simp at h;subst h;exact .inl rfl
theorem Hd {ms:List Nat} {bottom:Bool} {l p r:List ay} {e:ay} {s:Kp} (hl:l=p++e::r) (hs:fJ l) (h:ET ms bottom l p s):ET ms bottom l (p++[e]) (kC ms bottom s e):=by
 have hseen:keeps ms s e=seen ms l e:=by
  rw [hl,JO (hl▸hs)]
  unfold keeps
  congr 1
  funext m
  congr 1
  unfold gg
  cases ha:s.any with
  | false=>
   have hp:p=[]:=by have:=h.any;rw [ha] at this;cases p with|nil=>rfl|cons a b=>simp at this
   subst hp;simp
  | true=>
   have hlast:=h.last ha
   have hmem:s.later∈p:=List.mem_of_getLast? hlast
   simp only [Bool.not_true,Bool.false_or]
   rw [Bool.eq_iff_iff]
   simp only [Bool.or_eq_true,decide_eq_true_eq,List.all_eq_true,Bool.not_eq_true',decide_eq_false_iff_not]
   constructor
   ·intro hh x hx
    by_cases hk:x.key=e.key
    ·obtain ⟨k1,k2⟩:=zp (hl▸hs) hlast hx hk
     rcases hh with hh|hh
     ·exact absurd k1.symm hh
     ·exact .inr (by omega)
    ·exact .inl hk
   ·intro hh
    rcases hh _ hmem with h1|h1
    ·exact .inl fun h2=>h1 h2.symm
    ·exact .inr h1
 have hfst:gg s e=true→s.any=true→∀ x∈e::r,x.key≠s.later.key:=by
  intro hf ha x hx hk
  have hne:e.key≠s.later.key:=by unfold gg at hf;rw [ha] at hf;simpa using hf
  rcases List.mem_cons.1 hx with rfl|hx
  ·exact hne hk
  ·have hmem:s.later∈p:=List.mem_of_getLast? (h.last ha)
   obtain ⟨s1,s2,s3⟩:=gH (hl▸hs)
   have h1:=s3 _ hmem e (by simp)
   have h2:=(List.pairwise_cons.1 s2).1 x hx
   rcases bK.1 h1 with h1|h1
   ·rcases bK.1 h2 with h2|h2
    ·have:=dt h1 h2;rw [hk,aM] at this;cases this
    ·rw [h2.1,hk,aM] at h1;cases h1
   ·exact hne h1.1.symm
 have hother:gg s e=true→∀ x∈p,x.key≠e.key:=by
  intro hf x hx hk
  have ha:s.any=true:=by have:=h.any;rw [this];cases p with|nil=>cases hx|cons a b=>rfl
  have:=(zp (hl▸hs) (h.last ha) hx hk).1
  exact hfst hf ha e (by simp) this.symm
 have hdone:=fun hf=>zq (r:=e::r) hl hs h (hfst hf)
 unfold kC
 rw [hseen]
 by_cases hf:gg s e=true
 ·have hd:=hdone hf
  simp only [hf,if_true]
  refine ⟨by simp,fun _=>by simp,?_,?_⟩
  ·have e1:(fV bottom s).same=[]:=rfl
   simp only [e1,Bool.true_and,List.filter_append]
   have e2:(p.filter (seen ms l)).filter (fun x=>decide (x.key=e.key))=[]:=by
    rw [List.filter_eq_nil_iff];intro x hx
    simpa using hother hf x (List.mem_filter.1 hx).1
   rw [e2]
   cases hsn:seen ms l e<;>simp [hsn]
  ·simp only [Bool.true_and]
   rw [hd,List.filter_append,List.filter_append]
   have e2:(p.filter fun e=>seen ms l e&&(!bottom||holds (kl ms l) e)).filter (fun x=>!decide (x.key=e.key))=p.filter fun e=>seen ms l e&&(!bottom||holds (kl ms l) e):=by
    rw [List.filter_eq_self];intro x hx
    simpa using hother hf x (List.mem_filter.1 hx).1
   rw [e2]
   have e3:([e].filter fun e=>seen ms l e&&(!bottom||holds (kl ms l) e)).filter (fun x=>!decide (x.key=e.key))=[]:=by
    rw [List.filter_eq_nil_iff];intro x hx
    have:=(List.mem_filter.1 hx).1
    simp at this;subst this;simp
   rw [e3];simp
 ·have hf':gg s e=false:=by simpa using hf
  obtain ⟨ha,hk⟩:s.any=true∧e.key=s.later.key:=by
   unfold gg at hf'
   simp at hf'
   exact hf'
  simp only [hf',Bool.false_eq_true,if_false]
  refine ⟨by simp,fun _=>by simp,?_,?_⟩
  ·simp only [Bool.true_and,List.filter_append]
   have:=h.same
   rw [ha] at this
   simp only [Bool.true_and] at this
   rw [hk,← this]
   cases hsn:seen ms l e<;>simp [hsn,hk]
  ·simp only [Bool.true_and]
   have:=h.out
   rw [ha] at this
   simp only [Bool.true_and] at this
   rw [List.filter_append,List.filter_append,hk,← this]
   have e3:([e].filter fun e=>seen ms l e&&(!bottom||holds (kl ms l) e)).filter (fun x=>!decide (x.key=s.later.key))=[]:=by
    rw [List.filter_eq_nil_iff];intro x hx
    have:=(List.mem_filter.1 hx).1
    simp at this;subst this;simp [hk]
   rw [e3];simp
theorem wc {ms:List Nat} {bottom:Bool} {l:List ay} (hs:fJ l):∀ (r p:List ay) (s:Kp),l=p++r→ET ms bottom l p s→ET ms bottom l l (r.foldl (kC ms bottom) s)
 | [],p,s,hl,h=>by simp at hl;subst hl;exact h
 | e::r,p,s,hl,h=>wc hs r (p++[e]) _ (by rw [hl];simp) (Hd hl hs h)
theorem JP {ms:List Nat} {bottom:Bool} {l:List ay} (hs:fJ l):(fV bottom (l.foldl (kC ms bottom) Gq)).out=ey ms bottom l:=by
 have h0:ET ms bottom l [] Gq:=⟨rfl,fun h=>(by cases h),rfl,rfl⟩
 have h:=wc hs l [] Gq rfl h0
 rw [zq (r:=[]) (by simp) hs h (fun _ x hx=>by cases hx)]
 unfold ey
 cases bottom with
 | false=>simp [kl]
 | true=>simp [kl,List.filter_filter,Bool.and_comm]
end Go.Proofs.YtecibefflhomdaaGreatDoor.Pure
