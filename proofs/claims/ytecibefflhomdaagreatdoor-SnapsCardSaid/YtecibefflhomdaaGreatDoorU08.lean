/-
  Part 8: PLAIN numbers as decimal text; PLAIN what is written is read again; PLAIN the order of keys and of entries; PLAIN what a merge leaves out.
-/
import Derived.Test.YtecibefflhomdaaGreatDoorU07
set_option maxHeartbeats 8000000
set_option maxRecDepth 100000
set_option linter.all false
namespace Go.Proofs.YtecibefflhomdaaGreatDoor.Pure
open Go
def D:Nat→Nat→List UInt8
 | 0,_=>[]
 | k+1,n=>D k (n / 10)++[UInt8.ofNat (48+n%10)]
def nDig:Nat→Nat→Nat
 | 0,_=>1
 | f+1,n=>if n<10 then 1 else nDig f (n / 10)+1
def dec (n:Nat):List UInt8:=D (nDig 20 n) n
theorem D_len:∀ k n,(D k n).length=k
 | 0,_=>rfl
 | k+1,n=>by simp [D,D_len k]
theorem nDig_eq:∀ (k f n:Nat),k≤f→(10^k≤n∨k=0)→n<10^(k+1)→nDig f n=k+1
 | 0,f,n,_,_,h=>by
  cases f with
  | zero=>rfl
  | succ f=>simp [nDig];intro h2;omega
 | k+1,f,n,hf,h1,h2=>by
  cases f with
  | zero=>omega
  | succ f=>
   have h1:10^(k+1)≤n:=by rcases h1 with h|h;exact h;omega
   have hp:1≤10^k:=Nat.one_le_pow _ _ (by omega)
   have e1:10^(k+1)=10^k*10:=Nat.pow_succ ..
   have e2:10^(k+1+1)=10^(k+1)*10:=Nat.pow_succ ..
   have:¬ n<10:=by omega
   simp only [nDig,if_neg this]
   rw [nDig_eq k f (n / 10) (by omega) (.inl (by omega)) (by omega)]
theorem nDig_lt:∀ (f n:Nat),n<10^(f+1)→n<10^nDig f n
 | 0,n,h=>by simpa [nDig] using h
 | f+1,n,h=>by
  unfold nDig
  split
  ·simpa
  ·have:=nDig_lt f (n / 10) (by have e2:10^(f+1+1)=10^(f+1)*10:=Nat.pow_succ ..;omega)
   have e1:10^(nDig f (n / 10)+1)=10^(nDig f (n / 10))*10:=Nat.pow_succ ..
   omega
theorem D_cons:∀ (k n:Nat),D (k+1) n=UInt8.ofNat (48+n / 10^k%10)::D k n
 | 0,n=>by simp [D]
 | k+1,n=>by
  have h:=D_cons k (n / 10)
  show D (k+1) (n / 10)++[UInt8.ofNat (48+n%10)]=_
  rw [h,Nat.div_div_eq_div_mul,show 10*10^k=10^(k+1) by rw [Nat.pow_succ,Nat.mul_comm]]
  rfl
theorem D_two (k n x:Nat) (hx:x=n / 10^k%100):D (k+2) n=UInt8.ofNat (48+x / 10)::UInt8.ofNat (48+x%10)::D k n:=by
 rw [D_cons (k+1),D_cons k]
 have e1:n / 10^(k+1)=n / 10^k / 10:=by rw [Nat.pow_succ,← Nat.div_div_eq_div_mul]
 rw [e1]
 generalize n / 10^k=q at *
 subst hx
 congr 3<;>omega
def val (l:List UInt8):Nat:=l.foldl (fun a c=>a*10+(c.toNat-48)) 0
theorem val_D:∀ k n,val (D k n)=n%10^k
 | 0,n=>by simp [D,val,Nat.mod_one]
 | k+1,n=>by
  have h:=val_D k (n / 10)
  unfold val at *
  simp only [D,List.foldl_append,List.foldl_cons,List.foldl_nil,h]
  have e1:(UInt8.ofNat (48+n%10)).toNat=48+n%10:=by simp;omega
  rw [e1]
  have e2:n%10^(k+1)=n / 10%10^k*10+n%10:=by
   rw [Nat.pow_succ,Nat.mul_comm,Nat.mod_mul];omega
  rw [e2];omega
theorem val_dec {n:Nat} (h:n<10^21):val (dec n)=n:=by
 unfold dec
 rw [val_D,Nat.mod_eq_of_lt (nDig_lt 20 n h)]
theorem dec_inj {n m:Nat} (hn:n<10^21) (hm:m<10^21) (h:dec n=dec m):n=m:=by
 rw [← val_dec hn,h,val_dec hm]
theorem beN_foldl (bs:Bs):∀ n,bs.foldl (fun n x=>n*256+x.toNat) n=n*256^bs.length+beN bs:=by
 induction bs with
 | nil=>intro n;simp [beN]
 | cons x r ih=>
  intro n
  have h1:=ih (n*256+x.toNat)
  have h2:=ih (0*256+x.toNat)
  simp only [List.foldl_cons,List.length_cons,beN] at *
  rw [h1,h2]
  rw [Nat.pow_succ]
  simp only [Nat.add_mul,Nat.mul_assoc,Nat.mul_comm 256 (256^r.length)]
  omega
theorem beN_cons (x:UInt8) (bs:Bs):beN (x::bs)=x.toNat*256^bs.length+beN bs:=by
 have:=beN_foldl bs (0*256+x.toNat)
 simp only [beN,List.foldl_cons] at *
 rw [this];simp
theorem beN_numB (N:Nat):∀ k,beN (numB N k)=N%256^k
 | 0=>by simp [numB,beN,Nat.mod_one]
 | k+1=>by
  rw [numB,beN_cons,beN_numB N k,numB_length]
  have e1:(UInt8.ofNat (N / 2^(8*k))).toNat=N / 256^k%256:=by
   rw [show (2:Nat)^(8*k)=256^k by rw [Nat.pow_mul]]
   simp
  rw [e1,Nat.pow_succ,Nat.mod_mul,Nat.mul_comm (256^k)]
  omega
theorem bytes_app {a rest:Bs} {n:Int} (h:n=(a.length:Int)):Rd.bytes ⟨a++rest,false⟩ n=(a,⟨rest,false⟩):=by
 subst h
 unfold Rd.bytes
 rw [if_neg (by simp;omega)]
 simp
theorem num_app {N k:Nat} (h:N<256^k) (rest:Bs):Rd.num ⟨numB N k++rest,false⟩ k=(N,⟨rest,false⟩):=by
 unfold Rd.num
 rw [bytes_app (by simp),beN_numB,Nat.mod_eq_of_lt h]
theorem text_app {s:Bs} (h:s.length≤255) (rest:Bs):Rd.text ⟨textB s++rest,false⟩=(s,⟨rest,false⟩):=by
 unfold Rd.text
 have e:textB s++rest=numB s.length 1++(s++rest):=by simp [textB,numB]
 rw [e,num_app (by omega)]
 exact bytes_app rfl
def normE (e:Ent):Ent:=if e.del=true then { e with val:=[] } else e
@[simp] theorem normE_key (e:Ent):(normE e).key=e.key:=by unfold normE;split<;>rfl
@[simp] theorem normE_seq (e:Ent):(normE e).seq=e.seq:=by unfold normE;split<;>rfl
@[simp] theorem normE_del (e:Ent):(normE e).del=e.del:=by unfold normE;split<;>rfl
@[simp] theorem normE_norm (e:Ent):normE (normE e)=normE e:=by
 unfold normE;split<;>simp_all
@[simp] theorem putB_norm (e:Ent):putB (normE e)=putB e:=by
 unfold normE;split<;>simp_all [putB]
structure EOk (e:Ent):Prop where
 key:e.key.length≤8
 val:e.del=false→e.val.length≤16
 seq:e.seq<18446744073709551616
theorem EOk.norm {e:Ent} (h:EOk e):EOk (normE e):=⟨by simpa using h.key,fun hd=>by
 have hd':e.del=false:=by simpa using hd
 have:normE e=e:=by unfold normE;simp [hd']
 rw [this];exact h.val hd',by simpa using h.seq⟩
theorem entry_app {e:Ent} (h:EOk e) (rest:Bs):Rd.entry ⟨putB e++rest,false⟩=(normE e,⟨rest,false⟩):=by
 have hk:=h.key
 have e1:putB e++rest=textB e.key++(numB e.seq 8++((if e.del then [255] else textB e.val)++rest)):=by simp [putB]
 unfold Rd.entry
 rw [e1]
 simp only [text_app (s:=e.key) (by omega),num_app (N:=e.seq) (k:=8) h.seq]
 cases hd:e.del with
 | true=>
  simp only [if_true,List.cons_append,List.nil_append,List.head?_cons]
  rw [show (255:UInt8)::rest=[255]++rest from rfl,bytes_app (by simp)]
  simp [normE,hd]
 | false=>
  have hv:=h.val hd
  simp only [Bool.false_eq_true,if_false]
  have hne:(textB e.val++rest).head?≠some 255:=by
   simp only [textB,List.cons_append,List.head?_cons,ne_eq,Option.some.injEq]
   intro hh
   have:(UInt8.ofNat e.val.length).toNat=255:=by rw [hh];rfl
   simp at this;omega
  rw [if_neg hne,text_app (by omega)]
  simp only [normE,hd,Bool.false_eq_true,if_false]
  rw [← hd]
theorem frame_app {b:Bs} (h:b.length<4294967296) (rest:Bs):openB (frameB b++rest)=some (b,rest):=by
 have e1:frameB b++rest=numB b.length 4++(numB (4294967295-b.length) 4++(numB (crc b) 4++(b++rest))):=by simp [frameB]
 unfold openB
 rw [e1]
 simp only [num_app (N:=b.length) (k:=4) h,num_app (N:=4294967295-b.length) (k:=4) (by omega),num_app (N:=crc b) (k:=4) (crc_lt b)]
 rw [if_neg (by omega),bytes_app rfl]
 simp
theorem openB_nil:openB []=none:=by decide
theorem putB_pos (e:Ent):10≤(putB e).length:=by
 unfold putB;split<;>simp<;>omega
theorem putB_le {e:Ent} (h:EOk e):(putB e).length≤34:=by
 have hk:=h.key
 unfold putB;cases hd:e.del
 ·have hv:=h.val hd;simp;omega
 ·simp;omega
theorem entry_ne {r:Rd} (e:Ent) (rest:Bs) (h:r=⟨putB e++rest,false⟩):r.rest≠[]:=by
 subst h;intro h;have:=putB_pos e;simp at h;rw [h.1] at this;simp at this
theorem bltB_irrefl:∀ a:Bs,bltB a a=false
 | []=>rfl
 | a::x=>by simp [bltB,bltB_irrefl x]
theorem bltB_trans:∀ {a b c:Bs},bltB a b=true→bltB b c=true→bltB a c=true
 | [],[],_,h,_=>by simp [bltB] at h
 | [],_::_,[],_,k=>by simp [bltB] at k
 | [],_::_,_::_,_,_=>rfl
 | _::_,[],_,h,_=>by simp [bltB] at h
 | _::_,_::_,[],_,k=>by simp [bltB] at k
 | a::x,b::y,c::z,h,k=>by
  simp only [bltB,Bool.or_eq_true,decide_eq_true_eq,Bool.and_eq_true,UInt8.lt_iff_toNat_lt,← UInt8.toNat_inj] at *
  rcases h with h|⟨h,h'⟩<;>rcases k with k|⟨k,k'⟩
  ·exact .inl (by omega)
  ·exact .inl (by omega)
  ·exact .inl (by omega)
  ·exact .inr ⟨by omega,bltB_trans h' k'⟩
theorem bltB_asymm {a b:Bs} (h:bltB a b=true):bltB b a=false:=by
 cases hb:bltB b a with
 | false=>rfl
 | true=>have:=bltB_trans h hb;rw [bltB_irrefl] at this;cases this
theorem bltB_total:∀ (a b:Bs),bltB a b=true∨a=b∨bltB b a=true
 | [],[]=>.inr (.inl rfl)
 | [],_::_=>.inl rfl
 | _::_,[]=>.inr (.inr rfl)
 | a::x,b::y=>by
  have ih:=bltB_total x y
  simp only [bltB,Bool.or_eq_true,decide_eq_true_eq,Bool.and_eq_true,UInt8.lt_iff_toNat_lt,← UInt8.toNat_inj,List.cons.injEq]
  rcases Nat.lt_trichotomy a.toNat b.toNat with h|h|h
  ·exact .inl (.inl h)
  ·rcases ih with ih|ih|ih
   ·exact .inl (.inr ⟨h,ih⟩)
   ·exact .inr (.inl ⟨h,ih⟩)
   ·exact .inr (.inr (.inr ⟨h.symm,ih⟩))
  ·exact .inr (.inr (.inl h))
theorem bltB_ne {a b:Bs} (h:bltB a b=true):a≠b:=fun e=>by subst e;rw [bltB_irrefl] at h;cases h
theorem bltB_nil (a:Bs):bltB a []=false:=by cases a<;>rfl
theorem bltB_le_trans {a b c:Bs} (h:bltB b a=false) (k:bltB b c=true):bltB a c=true:=by
 rcases bltB_total a b with h1|h1|h1
 ·exact bltB_trans h1 k
 ·exact h1▸k
 ·rw [h] at h1;cases h1
theorem bltB_lt_le {a b c:Bs} (h:bltB a b=true) (k:bltB c b=false):bltB a c=true:=by
 rcases bltB_total b c with h1|h1|h1
 ·exact bltB_trans h h1
 ·exact h1▸h
 ·rw [k] at h1;cases h1
theorem ble_trans {a b c:Bs} (h:bltB b a=false) (k:bltB c b=false):bltB c a=false:=by
 cases hc:bltB c a with
 | false=>rfl
 | true=>have:=bltB_lt_le hc h;rw [k] at this;cases this
theorem ble_antisymm {a b:Bs} (h:bltB a b=false) (k:bltB b a=false):a=b:=by
 rcases bltB_total a b with h1|h1|h1
 ·rw [h] at h1;cases h1
 ·exact h1
 ·rw [k] at h1;cases h1
theorem less_iff {a b:Ent}:less a b=true↔bltB a.key b.key=true∨(a.key=b.key∧b.seq<a.seq):=by
 unfold less
 by_cases h:a.key=b.key
 ·simp [h,bltB_irrefl]
 ·simp [h]
theorem less_irrefl (a:Ent):less a a=false:=by
 cases h:less a a with
 | false=>rfl
 | true=>rcases less_iff.1 h with h1|h1
         ·rw [bltB_irrefl] at h1;cases h1
         ·omega
theorem less_trans {a b c:Ent} (h:less a b=true) (k:less b c=true):less a c=true:=by
 rw [less_iff] at *
 rcases h with h|⟨h,h'⟩<;>rcases k with k|⟨k,k'⟩
 ·exact .inl (bltB_trans h k)
 ·exact .inl (k▸h)
 ·exact .inl (h▸k)
 ·exact .inr ⟨h.trans k,by omega⟩
theorem less_total (a b:Ent):less a b=true∨(a.key=b.key∧a.seq=b.seq)∨less b a=true:=by
 rw [less_iff,less_iff]
 rcases bltB_total a.key b.key with h|h|h
 ·exact .inl (.inl h)
 ·rcases Nat.lt_trichotomy a.seq b.seq with k|k|k
  ·exact .inr (.inr (.inr ⟨h.symm,k⟩))
  ·exact .inr (.inl ⟨h,k⟩)
  ·exact .inl (.inr ⟨h,k⟩)
 ·exact .inr (.inr (.inl h))
theorem less_asymm {a b:Ent} (h:less a b=true):less b a=false:=by
 cases hb:less b a with
 | false=>rfl
 | true=>have:=less_trans h hb;rw [less_irrefl] at this;cases this
abbrev Srt (l:List Ent):Prop:=l.Pairwise fun a b=>less a b=true
theorem searchG_spec {l:List Ent} {e:Ent} (hl:Srt l):∀ (f lo hi:Nat),hi-lo≤f→hi≤l.length→lo≤hi →
 (∀ i,i<lo→less (l.getD i default) e=true)→(∀ i,hi≤i→i<l.length→less (l.getD i default) e=false) →
 (∀ i,i<searchG l e f lo hi→less (l.getD i default) e=true)∧(∀ i,searchG l e f lo hi≤i→i<l.length→less (l.getD i default) e=false):=by
 intro f
 induction f with
 | zero=>
  intro lo hi h1 h2 h3 ha hb
  have:lo=hi:=by omega
  subst this
  exact ⟨ha,hb⟩
 | succ f ih=>
  intro lo hi h1 h2 h3 ha hb
  unfold searchG
  split
  ·rename_i hlt
   have hm:(lo+hi) / 2<l.length:=by omega
   have hmono:∀ i j,i<j→j<l.length→less (l.getD i default) (l.getD j default)=true:=fun i j hij hj=>by
    have:=List.pairwise_iff_getElem.1 hl i j (by omega) hj hij
    simpa [List.getD,List.getElem?_eq_getElem (show i<l.length by omega),List.getElem?_eq_getElem hj] using this
   split
   ·rename_i hless
    refine ih _ _ (by omega) h2 (by omega) (fun i hi'=>?_) hb
    rcases Nat.lt_or_ge i ((lo+hi) / 2) with h|h
    ·exact less_trans (hmono i _ h hm) hless
    ·have:i=(lo+hi) / 2:=by omega
     subst this;exact hless
   ·rename_i hless
    have hless:less (l.getD ((lo+hi) / 2) default) e=false:=by simpa using hless
    refine ih _ _ (by omega) (by omega) (by omega) ha (fun i hi' hil=>?_)
    rcases Nat.lt_or_ge ((lo+hi) / 2) i with h|h
    ·have h5:=hmono _ i h hil
     cases hc:less (l.getD i default) e with
     | false=>rfl
     | true=>rw [less_trans h5 hc] at hless;cases hless
    ·have:i=(lo+hi) / 2:=by omega
     subst this;exact hless
  ·rename_i hlt
   have:lo=hi:=by omega
   subst this
   exact ⟨ha,hb⟩
theorem searchL_spec {l:List Ent} {e:Ent} (hl:Srt l) :
 (∀ x∈l.take (searchL l e),less x e=true)∧(∀ x∈l.drop (searchL l e),less x e=false):=by
 obtain ⟨h1,h2⟩:=searchG_spec (e:=e) hl l.length 0 l.length (by omega) (Nat.le_refl _) (Nat.zero_le _) (fun i h=>by omega) (fun i h h'=>by omega)
 constructor
 ·intro x hx
  obtain ⟨i,hi⟩:=List.mem_iff_getElem?.1 hx
  rw [List.getElem?_take] at hi
  split at hi
  ·rename_i hlt
   have:=h1 i hlt
   simpa [List.getD,hi] using this
  ·cases hi
 ·intro x hx
  obtain ⟨i,hi⟩:=List.mem_iff_getElem?.1 hx
  rw [List.getElem?_drop] at hi
  have hlt:=(List.getElem?_eq_some_iff.1 hi).1
  have:=h2 _ (Nat.le_add_right _ i) hlt
  unfold searchL at hi
  simpa [List.getD,hi] using this
theorem addL_mem {l:List Ent} {e x:Ent}:x∈addL l e↔x=e∨x∈l:=by
 unfold addL
 rw [List.mem_append,List.mem_cons]
 conv=>rhs;rw [← List.take_append_drop (searchL l e) l,List.mem_append]
 constructor
 ·rintro (h|h|h)
  ·exact .inr (.inl h)
  ·exact .inl h
  ·exact .inr (.inr h)
 ·rintro (h|h|h)
  ·exact .inr (.inl h)
  ·exact .inl h
  ·exact .inr (.inr h)
theorem addL_srt {l:List Ent} {e:Ent} (hl:Srt l) (hn:∀ x∈l,¬ (x.key=e.key∧x.seq=e.seq)):Srt (addL l e):=by
 obtain ⟨h1,h2⟩:=searchL_spec (e:=e) hl
 have hd:=List.take_append_drop (searchL l e) l
 rw [← hd] at hl
 obtain ⟨p1,p2,p3⟩:=List.pairwise_append.1 hl
 unfold addL
 refine List.pairwise_append.2 ⟨p1,List.pairwise_cons.2 ⟨fun x hx=>?_,p2⟩,fun x hx y hy=>?_⟩
 ·have:=h2 x hx
  rcases less_total e x with h|h|h
  ·exact h
  ·exact absurd ⟨h.1.symm,h.2.symm⟩ (hn x (List.mem_of_mem_drop hx))
  ·rw [this] at h;cases h
 ·rcases List.mem_cons.1 hy with rfl|hy
  ·exact h1 x hx
  ·exact p3 x hx y hy
def vis (l:List Ent) (k:Bs) (m:Nat):Option Ent:=l.find? fun e=>decide (e.key=k)&&decide (e.seq≤m)
theorem vis_some {l:List Ent} {k:Bs} {m:Nat} {e:Ent} (h:vis l k m=some e):e∈l∧e.key=k∧e.seq≤m:=by
 have h1:=List.find?_some h
 simp at h1
 exact ⟨List.mem_of_find?_eq_some h,h1.1,h1.2⟩
theorem vis_none {l:List Ent} {k:Bs} {m:Nat}:vis l k m=none↔∀ e∈l,e.key=k→m<e.seq:=by
 unfold vis
 rw [List.find?_eq_none]
 simp only [Bool.and_eq_true,decide_eq_true_eq,not_and,Nat.not_le]
theorem vis_max {l:List Ent} (hl:Srt l) {k:Bs} {m:Nat} {e:Ent} (h:vis l k m=some e):∀ x∈l,x.key=k→x.seq≤m→x.seq≤e.seq:=by
 induction l with
 | nil=>intro x hx;cases hx
 | cons a r ih=>
  obtain ⟨p1,p2⟩:=List.pairwise_cons.1 hl
  intro x hx hk hm
  unfold vis at h
  rw [List.find?_cons] at h
  split at h
  ·rename_i ha
   simp at ha
   cases h
   rcases List.mem_cons.1 hx with rfl|hx
   ·exact Nat.le_refl _
   ·rcases less_iff.1 (p1 x hx) with h1|h1
    ·rw [hk,ha.1,bltB_irrefl] at h1;cases h1
    ·omega
  ·rename_i ha
   rcases List.mem_cons.1 hx with rfl|hx
   ·simp [hk,hm] at ha
   ·exact ih p2 h x hx hk hm
theorem vis_of {l:List Ent} (hl:Srt l) {k:Bs} {m:Nat} {e:Ent} (h1:e∈l) (h2:e.key=k) (h3:e.seq≤m) (h4:∀ x∈l,x.key=k→x.seq≤m→x.seq≤e.seq):vis l k m=some e:=by
 cases hv:vis l k m with
 | none=>have:=vis_none.1 hv e h1 h2;omega
 | some x=>
  obtain ⟨a1,a2,a3⟩:=vis_some hv
  have b1:=h4 x a1 a2 a3
  have b2:=vis_max hl hv e h1 h2 h3
  have:x=e:=by
   rcases List.mem_iff_getElem.1 a1 with ⟨i,hi,rfl⟩
   rcases List.mem_iff_getElem.1 h1 with ⟨j,hj,rfl⟩
   have hne:∀ i j (hi:i<l.length) (hj:j<l.length),i<j→l[i].key=l[j].key→l[i].seq=l[j].seq→False:=fun i j hi hj hij e1 e2=>by
    rcases less_iff.1 (List.pairwise_iff_getElem.1 hl i j hi hj hij) with h|h
    ·rw [e1,bltB_irrefl] at h;cases h
    ·omega
   rcases Nat.lt_trichotomy i j with h|h|h
   ·exact (hne i j hi hj h (a2.trans h2.symm) (by omega)).elim
   ·subst h;rfl
   ·exact (hne j i hj hi h (h2.trans a2.symm) (by omega)).elim
  rw [this]
structure Kp where
 out:List Ent
 same:List Ent
 later:Ent
 any:Bool
def trimL:Nat→List Ent→List Ent
 | 0,l=>l
 | f+1,l=>match l.getLast? with
  | some e=>if e.del=true then trimL f l.dropLast else l
  | none=>l
def doneK (bottom:Bool) (s:Kp):Kp:={ s with out:=s.out++(if bottom=true then trimL s.same.length s.same else s.same),same:=[] }
def isFst (s:Kp) (e:Ent):Bool:=!s.any||decide (e.key≠s.later.key)
def keeps (ms:List Nat) (s:Kp) (e:Ent):Bool:=ms.any fun m=>decide (e.seq≤m)&&(isFst s e||decide (m<s.later.seq))
def keepP (ms:List Nat) (bottom:Bool) (s:Kp) (e:Ent):Kp:=
 { (if isFst s e=true then doneK bottom s else s) with
   same:=if keeps ms s e=true then (if isFst s e=true then doneK bottom s else s).same++[e] else (if isFst s e=true then doneK bottom s else s).same,later:=e,any:=true }
def kp0:Kp:=⟨[],[],default,false⟩
def seen (ms:List Nat) (l:List Ent) (e:Ent):Bool:=ms.any fun m=>decide (vis l e.key m=some e)
def kl (ms:List Nat) (l:List Ent):List Ent:=l.filter (seen ms l)
def holds (l:List Ent) (e:Ent):Bool:=l.any fun x=>decide (x.key=e.key)&&decide (x.seq≤e.seq)&&!x.del
def keptL (ms:List Nat) (bottom:Bool) (l:List Ent):List Ent:=if bottom=true then (kl ms l).filter (holds (kl ms l)) else kl ms l
theorem srt_append {a b:List Ent} (h:Srt (a++b)):Srt a∧Srt b∧∀ x∈a,∀ y∈b,less x y=true:=List.pairwise_append.1 h
theorem trim_filter:∀ (n:Nat) (l:List Ent),n=l.length→Srt l→(∀ x∈l,∀ y∈l,x.key=y.key)→trimL n l=l.filter (holds l)
 | 0,l,h,_,_=>by have:=List.eq_nil_of_length_eq_zero h.symm;subst this;rfl
 | n+1,l,h,hs,hk=>by
  have hne:l≠[]:=by intro h';subst h';simp at h
  obtain ⟨a,e,rfl⟩:∃ a e,l=a++[e]:=⟨l.dropLast,l.getLast hne,(List.dropLast_concat_getLast hne).symm⟩
  obtain ⟨s1,s2,s3⟩:=srt_append hs
  have hlast:∀ x∈a,e.seq<x.seq:=fun x hx=>by
   have hkk:=hk x (List.mem_append_left _ hx) e (by simp)
   rcases less_iff.1 (s3 x hx e (by simp)) with h1|h1
   ·rw [hkk,bltB_irrefl] at h1;cases h1
   ·exact h1.2
  simp only [trimL,List.getLast?_append,List.getLast?_singleton,Option.some_or]
  cases hd:e.del with
  | true=>
   simp only [if_true,List.dropLast_concat]
   rw [trim_filter n a (by simp at h;omega) s1 (fun x hx y hy=>hk x (List.mem_append_left _ hx) y (List.mem_append_left _ hy))]
   rw [List.filter_append]
   have he:holds (a++[e]) e=false:=by
    unfold holds
    rw [List.any_eq_false]
    intro x hx
    rcases List.mem_append.1 hx with hx|hx
    ·have:=hlast x hx;simp;omega
    ·simp at hx;subst hx;simp [hd]
   simp only [List.filter_cons,he,List.filter_nil,Bool.false_eq_true,if_false,List.append_nil]
   refine List.filter_congr fun x hx=>?_
   unfold holds
   rw [List.any_append]
   simp [hd]
  | false=>
   simp only [Bool.false_eq_true,if_false]
   symm
   rw [List.filter_eq_self]
   intro x hx
   unfold holds
   rw [List.any_eq_true]
   refine ⟨e,by simp,?_⟩
   have hkk:=hk x hx e (by simp)
   rcases List.mem_append.1 hx with hx|hx
   ·have:=hlast x hx;simp [hkk,hd];omega
   ·simp at hx;subst hx;simp [hd]
theorem vis_app (a b:List Ent) (k:Bs) (m:Nat):vis (a++b) k m=(vis a k m).or (vis b k m):=by
 unfold vis;rw [List.find?_append]
theorem seen_at {p r:List Ent} {e:Ent} (hs:Srt (p++e::r)) (ms:List Nat) :
 seen ms (p++e::r) e=ms.any fun m=>decide (e.seq≤m)&&p.all fun x=>!decide (x.key=e.key)||decide (m<x.seq):=by
 unfold seen
 congr 1
 funext m
 rw [Bool.eq_iff_iff]
 simp only [decide_eq_true_eq,Bool.and_eq_true,List.all_eq_true,Bool.or_eq_true,Bool.not_eq_true',decide_eq_false_iff_not]
 obtain ⟨s1,s2,s3⟩:=srt_append hs
 rw [vis_app]
 have hcons:vis (e::r) e.key m=if e.seq≤m then some e else vis r e.key m:=by
  unfold vis;rw [List.find?_cons];by_cases h:e.seq≤m<;>simp [h]
 rw [hcons]
 constructor
 ·intro h
  cases hv:vis p e.key m with
  | some x=>
   rw [hv] at h
   simp at h;subst h
   obtain ⟨a1,-,-⟩:=vis_some hv
   have:=s3 x a1 x (by simp)
   rw [less_irrefl] at this;cases this
  | none=>
   rw [hv] at h
   simp only [Option.none_or] at h
   refine ⟨?_,fun x hx=>?_⟩
   ·by_cases hle:e.seq≤m
    ·exact hle
    ·rw [if_neg hle] at h
     obtain ⟨a1,-,a3⟩:=vis_some h
     exact absurd a3 hle
   ·by_cases hk:x.key=e.key
    ·exact .inr (vis_none.1 hv x hx hk)
    ·exact .inl hk
 ·rintro ⟨h1,h2⟩
  have hv:vis p e.key m=none:=vis_none.2 fun x hx hk=>by
   rcases h2 x hx with h|h
   ·exact absurd hk h
   ·exact h
  rw [hv,if_pos h1];rfl
theorem last_key {p r:List Ent} {z e:Ent} (hs:Srt (p++e::r)) (hz:p.getLast?=some z) {x:Ent} (hx:x∈p) (hk:x.key=e.key):z.key=e.key∧z.seq≤x.seq:=by
 have hne:p≠[]:=by intro h;subst h;cases hx
 obtain ⟨a,rfl⟩:∃ a,p=a++[z]:=by
  refine ⟨p.dropLast,?_⟩
  rw [List.getLast?_eq_some_getLast hne] at hz
  simp only [Option.some.injEq] at hz
  rw [← hz];exact (List.dropLast_concat_getLast hne).symm
 obtain ⟨s1,s2,s3⟩:=srt_append hs
 obtain ⟨t1,t2,t3⟩:=srt_append s1
 rcases List.mem_append.1 hx with h|h
 ·have h1:=t3 x h z (by simp)
  have h2:=s3 z (by simp) e (by simp)
  rcases less_iff.1 h1 with h1|h1<;>rcases less_iff.1 h2 with h2|h2
  ·have:=bltB_trans h1 h2;rw [hk,bltB_irrefl] at this;cases this
  ·rw [hk,h2.1,bltB_irrefl] at h1;cases h1
  ·rw [← h1.1,hk,bltB_irrefl] at h2;cases h2
  ·exact ⟨h2.1,by omega⟩
 ·simp at h;subst h;exact ⟨hk,Nat.le_refl _⟩
structure KInv (ms:List Nat) (bottom:Bool) (l p:List Ent) (s:Kp):Prop where
 any:s.any=!p.isEmpty
 last:s.any=true→p.getLast?=some s.later
 same:s.same=(p.filter (seen ms l)).filter fun e=>s.any&&decide (e.key=s.later.key)
 out:s.out=(p.filter fun e=>seen ms l e&&(!bottom||holds (kl ms l) e)).filter fun e=>!(s.any&&decide (e.key=s.later.key))
theorem mem_kl {ms:List Nat} {l:List Ent} {e:Ent}:e∈kl ms l↔e∈l∧seen ms l e=true:=by simp [kl]
theorem done_inv {ms:List Nat} {bottom:Bool} {l p r:List Ent} {s:Kp} (hl:l=p++r) (hs:Srt l) (h:KInv ms bottom l p s) (hr:s.any=true→∀ x∈r,x.key≠s.later.key) :
 (doneK bottom s).out=p.filter fun e=>seen ms l e&&(!bottom||holds (kl ms l) e):=by
 unfold doneK
 simp only
 rw [h.out]
 cases ha:s.any with
 | false=>
  have hp:p=[]:=by have:=h.any;rw [ha] at this;cases p with|nil=>rfl|cons a b=>simp at this
  have hsame:=h.same
  rw [hp] at hsame ⊢
  simp at hsame
  simp [hsame,trimL]
 | true=>
  have hlast:=h.last ha
  have hsame:=h.same
  rw [ha] at hsame
  simp only [Bool.true_and] at hsame ⊢
  have hps:Srt p:=by rw [hl] at hs;exact (srt_append hs).1
  have hss:Srt s.same:=by rw [hsame];exact (hps.filter _).filter _
  have key:(if bottom=true then trimL s.same.length s.same else s.same)=(p.filter fun e=>seen ms l e&&(!bottom||holds (kl ms l) e)).filter fun e=>decide (e.key=s.later.key):=by
   cases bottom with
   | false=>
    simp only [Bool.false_eq_true,if_false,Bool.not_false,Bool.true_or,Bool.and_true]
    exact hsame
   | true=>
    simp only [if_true,Bool.not_true,Bool.false_or]
    rw [trim_filter _ _ rfl hss (fun x hx y hy=>by
     rw [hsame] at hx hy
     simp at hx hy
     rw [hx.2.1,hy.2.1])]
    refine (congrArg (fun z=>z.filter (holds s.same)) hsame).trans ?_
    simp only [List.filter_filter]
    refine List.filter_congr fun x hx=>?_
    by_cases hk:x.key=s.later.key
    ·simp only [hk,decide_true,Bool.true_and]
     rw [Bool.and_comm]
     congr 1
     unfold holds
     rw [Bool.eq_iff_iff,List.any_eq_true,List.any_eq_true]
     constructor
     ·rintro ⟨y,hy,h1⟩
      rw [hsame] at hy
      simp at hy
      exact ⟨y,mem_kl.2 ⟨by rw [hl];exact List.mem_append_left _ hy.1,hy.2.2⟩,h1⟩
     ·rintro ⟨y,hy,h1⟩
      obtain ⟨y1,y2⟩:=mem_kl.1 hy
      refine ⟨y,?_,h1⟩
      simp only [Bool.and_eq_true,decide_eq_true_eq] at h1
      have hyk:y.key=s.later.key:=h1.1.1.trans hk
      rw [hsame]
      simp only [List.mem_filter,decide_eq_true_eq]
      rw [hl] at y1
      rcases List.mem_append.1 y1 with y1|y1
      ·exact ⟨⟨y1,y2⟩,hyk⟩
      ·exact absurd hyk (hr ha y y1)
    ·simp [hk]
  rw [key]
  have hne:p≠[]:=by intro h;subst h;cases hlast
  have split:∀ (q:List Ent),Srt q→(∀ x∈q,x.key=s.later.key∨bltB x.key s.later.key=true)→q.filter (fun e=>!decide (e.key=s.later.key))++q.filter (fun e=>decide (e.key=s.later.key))=q:=by
   intro q
   induction q with
   | nil=>intro _ _;rfl
   | cons a q ih=>
    intro hq hb
    obtain ⟨q1,q2⟩:=List.pairwise_cons.1 hq
    by_cases hk:a.key=s.later.key
    ·have hall:∀ x∈q,x.key=s.later.key:=fun x hx=>by
      rcases hb x (List.mem_cons_of_mem _ hx) with h|h
      ·exact h
      ·rcases less_iff.1 (q1 x hx) with h1|h1
       ·rw [hk] at h1;have:=bltB_trans h h1;rw [bltB_irrefl] at this;cases this
       ·rw [← h1.1];exact hk
     have e1:(a::q).filter (fun e=>!decide (e.key=s.later.key))=[]:=by
      rw [List.filter_eq_nil_iff];intro x hx
      rcases List.mem_cons.1 hx with rfl|hx
      ·simp [hk]
      ·simp [hall x hx]
     have e2:(a::q).filter (fun e=>decide (e.key=s.later.key))=a::q:=by
      rw [List.filter_eq_self];intro x hx
      rcases List.mem_cons.1 hx with rfl|hx
      ·simp [hk]
      ·simp [hall x hx]
     rw [e1,e2];rfl
    ·have:=ih q2 fun x hx=>hb x (List.mem_cons_of_mem _ hx)
     simp only [List.filter_cons,hk,decide_false,Bool.not_false,if_true,Bool.false_eq_true,if_false,List.cons_append,this]
  refine split _ (hps.filter _) fun x hx=>?_
  have hxp:=(List.mem_filter.1 hx).1
  obtain ⟨a,hp⟩:∃ a,p=a++[s.later]:=by
   refine ⟨p.dropLast,?_⟩
   rw [List.getLast?_eq_some_getLast hne] at hlast
   simp only [Option.some.injEq] at hlast
   rw [← hlast];exact (List.dropLast_concat_getLast hne).symm
  rw [hp] at hxp hps
  rcases List.mem_append.1 hxp with h|h
  ·rcases less_iff.1 ((srt_append hps).2.2 x h s.later (by simp)) with h|h
   ·exact .inr h
   ·exact .inl h.1
  ·simp at h;subst h;exact .inl rfl
theorem keep_inv {ms:List Nat} {bottom:Bool} {l p r:List Ent} {e:Ent} {s:Kp} (hl:l=p++e::r) (hs:Srt l) (h:KInv ms bottom l p s):KInv ms bottom l (p++[e]) (keepP ms bottom s e):=by
 have hseen:keeps ms s e=seen ms l e:=by
  rw [hl,seen_at (hl▸hs)]
  unfold keeps
  congr 1
  funext m
  congr 1
  unfold isFst
  cases ha:s.any with
  | false=>
   have hp:p=[]:=by have:=h.any;rw [ha] at this;cases p with|nil=>rfl|cons a b=>simp at this
   subst hp;simp
  | true=>
   have hlast:=h.last ha
   have hmem:s.later∈p:=List.mem_of_getLast? hlast
   simp only [Bool.not_true,Bool.false_or]
   rw [Bool.eq_iff_iff]
   simp only [Bool.or_eq_true,decide_eq_true_eq,List.all_eq_true,Bool.not_eq_true',decide_eq_false_iff_not]
   constructor
   ·intro hh x hx
    by_cases hk:x.key=e.key
    ·obtain ⟨k1,k2⟩:=last_key (hl▸hs) hlast hx hk
     rcases hh with hh|hh
     ·exact absurd k1.symm hh
     ·exact .inr (by omega)
    ·exact .inl hk
   ·intro hh
    rcases hh _ hmem with h1|h1
    ·exact .inl fun h2=>h1 h2.symm
    ·exact .inr h1
 have hfst:isFst s e=true→s.any=true→∀ x∈e::r,x.key≠s.later.key:=by
  intro hf ha x hx hk
  have hne:e.key≠s.later.key:=by unfold isFst at hf;rw [ha] at hf;simpa using hf
  rcases List.mem_cons.1 hx with rfl|hx
  ·exact hne hk
  ·have hmem:s.later∈p:=List.mem_of_getLast? (h.last ha)
   obtain ⟨s1,s2,s3⟩:=srt_append (hl▸hs)
   have h1:=s3 _ hmem e (by simp)
   have h2:=(List.pairwise_cons.1 s2).1 x hx
   rcases less_iff.1 h1 with h1|h1
   ·rcases less_iff.1 h2 with h2|h2
    ·have:=bltB_trans h1 h2;rw [hk,bltB_irrefl] at this;cases this
    ·rw [h2.1,hk,bltB_irrefl] at h1;cases h1
   ·exact hne h1.1.symm
 have hother:isFst s e=true→∀ x∈p,x.key≠e.key:=by
  intro hf x hx hk
  have ha:s.any=true:=by have:=h.any;rw [this];cases p with|nil=>cases hx|cons a b=>rfl
  have:=(last_key (hl▸hs) (h.last ha) hx hk).1
  exact hfst hf ha e (by simp) this.symm
 have hdone:=fun hf=>done_inv (r:=e::r) hl hs h (hfst hf)
 unfold keepP
 rw [hseen]
 by_cases hf:isFst s e=true
 ·have hd:=hdone hf
  simp only [hf,if_true]
  refine ⟨by simp,fun _=>by simp,?_,?_⟩
  ·have e1:(doneK bottom s).same=[]:=rfl
   simp only [e1,Bool.true_and,List.filter_append]
   have e2:(p.filter (seen ms l)).filter (fun x=>decide (x.key=e.key))=[]:=by
    rw [List.filter_eq_nil_iff];intro x hx
    simpa using hother hf x (List.mem_filter.1 hx).1
   rw [e2]
   cases hsn:seen ms l e<;>simp [hsn]
  ·simp only [Bool.true_and]
   rw [hd,List.filter_append,List.filter_append]
   have e2:(p.filter fun e=>seen ms l e&&(!bottom||holds (kl ms l) e)).filter (fun x=>!decide (x.key=e.key))=p.filter fun e=>seen ms l e&&(!bottom||holds (kl ms l) e):=by
    rw [List.filter_eq_self];intro x hx
    simpa using hother hf x (List.mem_filter.1 hx).1
   rw [e2]
   have e3:([e].filter fun e=>seen ms l e&&(!bottom||holds (kl ms l) e)).filter (fun x=>!decide (x.key=e.key))=[]:=by
    rw [List.filter_eq_nil_iff];intro x hx
    have:=(List.mem_filter.1 hx).1
    simp at this;subst this;simp
   rw [e3];simp
 ·have hf':isFst s e=false:=by simpa using hf
  obtain ⟨ha,hk⟩:s.any=true∧e.key=s.later.key:=by
   unfold isFst at hf'
   simp at hf'
   exact hf'
  simp only [hf',Bool.false_eq_true,if_false]
  refine ⟨by simp,fun _=>by simp,?_,?_⟩
  ·simp only [Bool.true_and,List.filter_append]
   have:=h.same
   rw [ha] at this
   simp only [Bool.true_and] at this
   rw [hk,← this]
   cases hsn:seen ms l e<;>simp [hsn,hk]
  ·simp only [Bool.true_and]
   have:=h.out
   rw [ha] at this
   simp only [Bool.true_and] at this
   rw [List.filter_append,List.filter_append,hk,← this]
   have e3:([e].filter fun e=>seen ms l e&&(!bottom||holds (kl ms l) e)).filter (fun x=>!decide (x.key=s.later.key))=[]:=by
    rw [List.filter_eq_nil_iff];intro x hx
    have:=(List.mem_filter.1 hx).1
    simp at this;subst this;simp [hk]
   rw [e3];simp
theorem keep_fold {ms:List Nat} {bottom:Bool} {l:List Ent} (hs:Srt l):∀ (r p:List Ent) (s:Kp),l=p++r→KInv ms bottom l p s→KInv ms bottom l l (r.foldl (keepP ms bottom) s)
 | [],p,s,hl,h=>by simp at hl;subst hl;exact h
 | e::r,p,s,hl,h=>keep_fold hs r (p++[e]) _ (by rw [hl];simp) (keep_inv hl hs h)
theorem kept_eq {ms:List Nat} {bottom:Bool} {l:List Ent} (hs:Srt l):(doneK bottom (l.foldl (keepP ms bottom) kp0)).out=keptL ms bottom l:=by
 have h0:KInv ms bottom l [] kp0:=⟨rfl,fun h=>(by cases h),rfl,rfl⟩
 have h:=keep_fold hs l [] kp0 rfl h0
 rw [done_inv (r:=[]) (by simp) hs h (fun _ x hx=>by cases hx)]
 unfold keptL
 cases bottom with
 | false=>simp [kl]
 | true=>simp [kl,List.filter_filter,Bool.and_comm]
end Go.Proofs.YtecibefflhomdaaGreatDoor.Pure
