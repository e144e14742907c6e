/-
  Part 42: THE FRAME from a walk of a law's function to the card; WALKS deeds; PLAIN how the tables stand; PLAIN a byte that is changed in a frame is found; PLAIN one byte of one file is another.
-/
import Derived.Test.YtecibefflhomdaaGreatDoorW41
set_option maxHeartbeats 8000000
set_option maxRecDepth 100000
set_option linter.all false
namespace Go.Proofs.YtecibefflhomdaaGreatDoor
open Go
section
open Go Go.ChangeShapes Go.WideShapes
section
variable {H:Type} {enc:TypeId×Value→H}
theorem yH {C:Checked} {os:Os} {f:FuncId} {fn:Func} {s:ChangeSpec} {F:Stop.Interp} {conds:List PathCond} {apart fresh handsOn:Bool} {Xp:World→Prop}
 (hXp:∀ w w':World,w.heap=w'.heap→Xp w→Xp w') (own:ownKnob C.prog.godebug=none) (started:os.Started) (noInit:C.prog.inits.idxOf? f=none) (hfn:C.prog.funcs[f]?=some fn)
 (witness:∃ (w:World) (tape:Tape) (i:Input),w.os=os∧(w.forCall tape i).Shaped C.prog∧i.vars=[]∧Input.okWide C.prog (w.forCall tape i) .any w.heap.size f i ∧
   ((s.pre enc C.prog fn conds apart (w.forCall tape i).memory i.args∧Xp (w.forCall tape i).memory)∧sizedMet enc C.prog fn (OpenSpec.ofChange s) apart (w.forCall tape i).memory i.args)∧({ calm:=true }:Assume).holds C.prog (lone (Frame.enter C.prog f i.args .normal) [] (w.forCall tape i)))
 (contract:∀ (W:World) (base:Nat) (args:Array Value) (ds gs:List (DataW H)) (before:List MemPlace),
   (∀ (j:Nat) t v,fn.params[j]?=some t→args[j]?=some v→Value.okWide C.prog W .any base t v) →
   DataW.Whole enc C.prog fn.params.toList s.vars apart W args.toList ds gs before →
   (DataW.weightsEach C.prog (fn.params.toList++s.plain.varTypes C.prog) (ds++gs)).all (· ≤ reachBytes)=true→Xp W →
   Calls C.prog f args W fun
    | .returned v,W'=>W'.os=W.os∧s.post enc C.prog fn apart fresh handsOn false W args v W'
    | _,_=>False) :
 ReturnsInLeavingWide { calm:=true } C os f .any (fun w args=>(s.pre enc C.prog fn conds apart w args∧Xp w)∧sizedMet enc C.prog fn (OpenSpec.ofChange s) apart w args) ((OpenSpec.ofChange s).postWith enc C.prog fn F (outsideKept [.timePasses]) apart fresh handsOn):=by
 refine returnsInLeavingWide_of_good own started witness ?_
 intro w tape i _ _ _ hok hpre _
 obtain ⟨_,_,_,fn',hfn',_,_,_,_,hval⟩:=hok
 have e:fn'=fn:=Option.some.inj (hfn'.symm.trans hfn)
 subst e
 obtain ⟨⟨⟨ds,gs,before,hw,hc⟩,hx⟩,hz⟩:=hpre
 have hw':=DataW.Whole.of_heap (w':=w.forCall tape i) (by rfl) hw
 obtain ⟨n,v,w',fr,hn,hend,hp⟩:=(contract (w.forCall tape i) w.heap.size i.args ds gs before hval hw' (hz.weights hw) (hXp (w.forCall tape i).memory (w.forCall tape i) (by rfl) hx)).done_lone noInit
 have hrun:runNT C.prog (n+1) (lone (Frame.enter C.prog f i.args .normal) [] (w.forCall tape i)) #[]=(.ended (.done v) w',(runNT C.prog (n+1) (lone (Frame.enter C.prog f i.args .normal) [] (w.forCall tape i)) #[]).2):=Prod.ext (by rw [runNT_fst,hend]) rfl
 have heq:({ w' with os:=(w.forCall tape i).os }:World)=w':=by rw [← hp.1]
 exact ⟨n,_,.done v,w',_,hrun,hn,step_of_runs hn hend,v,rfl,postWith_blind (postWith_of_post (by rw [heq];exact hp.2) (by rw [hp.1];exact .refl _)),fun said=>(no_race_of_lone C.prog n _ _ hn (by simp [lone]) rfl).2,handedOver_of_lone hn,⟨fun g hg=>by simp [lone] at hg,rfl⟩,fun i g hg hi=>by
  cases i with
  | zero=>exact absurd rfl hi
  | succ k=>simp [lone] at hg⟩
end
end
section
open Go.Proofs.YtecibefflhomdaaGreatDoor.Pure (ad bX aQ)
attribute [local irreducible] IntKind.wrap
variable {W0 w:World} {F:List ah} {v:Value}
structure tc where
 kind:Int
 lv:Value
 l:List bX
def F9 (o:tc):List Value:=[.int .i64 o.kind,o.lv]
def qQ (c:bX):Nat:=1+c.key.length+c.val.length
def Jw (o:tc):Nat:=(o.l.map qQ).sum
theorem yI {α:Type} (f:α→Nat) {l:List α} {i:Nat} {x:α} (h:l[i]?=some x):((l.take (i+1)).map f).sum=((l.take i).map f).sum+f x:=by
 rw [List.take_add_one,h];simp
theorem yJ {α:Type} (f:α→Nat) (hf:∀ x,1≤f x):∀ l:List α,l.length≤(l.map f).sum
 | []=>Nat.zero_le _
 | x::l=>by
  have:=yJ f hf l
  have:=hf x
  simp only [List.length_cons,List.map_cons,List.sum_cons]
  omega
structure yK (W0:World) (v:Value) (ds:List tc):Prop where
 rd:xn W0 2 v (ds.map F9)
 ok:∀ o∈ds,xn W0 3 o.lv (dF o.l)∧∀ c∈o.l,c.key.length≤140737488355328∧c.val.length≤140737488355328
theorem yK.len {ds:List tc} (h:yK W0 v ds):∃ a c,v=.slice a ds.length c:=by
 obtain ⟨a,c,h1⟩:=h.rd.1
 rw [List.length_map] at h1
 exact ⟨a,c,h1⟩
theorem yK.row {ds:List tc} {a:Option Addr} {n c:Nat} (h:yK W0 (.slice a n c) ds) {i:Nat} (hi:i<ds.length):∃ b q o,ds[i]?=some o∧o∈ds∧a=some ⟨b,q,none⟩ ∧
 (∀ j u,(F9 o)[j]?=some u→W0.cell? ⟨b,q+i*2+j,none⟩=some u)∧W0.cell? ⟨b,q+i*2+1,none⟩=some o.lv:=by
 have hg:ds[i]?=some ds[i]:=List.getElem?_eq_getElem hi
 obtain ⟨b,q,c,h1,h2⟩:=h.rd.row (x:=F9 ds[i]) (by rw [List.getElem?_map,hg];rfl)
 injection h1 with h3 _ _
 exact ⟨b,q,ds[i],hg,List.getElem_mem hi,h3,h2,h2 1 _ rfl⟩
theorem CW {ds:List tc} (ho:yK W0 v ds) (hs:Sat W0 F w) :
 Calls Tryz.prog 13 #[v] w fun x w'=>∃ b,x=.returned (.bool b)∧(b=true→ds.length+(ds.map Jw).sum≤1048576)∧Sat W0 F w':=by
 obtain ⟨al,cl,rfl⟩:=ho.len
 refine enter Tryz.func13 rfl Tryz.ntmps13 Tryz.results13 rfl ?_
 by_cases hbig:(ds.length:Int) > 1048576
 ·refine gy ?_
  exact ak rfl ⟨false,rfl,fun hh=>(by cases hh),hs⟩
 ·refine gy ?_
  refine aK (α:=Nat) (fun i=>[(0,.slice al ds.length cl),(3,.int .i64 ((ds.length+((ds.take i).map Jw).sum:Nat):Int)),(4,.int .i64 (i:Int))])
   (fun i w=>(i≤ds.length∧ds.length+((ds.take i).map Jw).sum≤1048576)∧Sat W0 F w) (fun i=>ds.length-i) 0 ⟨rfl,rfl,rfl,trivial⟩ ⟨⟨Nat.zero_le _,by simp;omega⟩,hs⟩ ?_
  clear hs
  rintro i w ⟨⟨hi,hle⟩,hs⟩
  by_cases hlt:i<ds.length
  ·have hlt':(i:Int)<(ds.length:Int):=by omega
   obtain ⟨b,q,o,hg,hmem,rfl,hrow,c5⟩:=ho.row hlt
   obtain ⟨hrd,hl3⟩:=ho.ok o hmem
   obtain ⟨a2,cc2,hlv⟩:=hrd.yF
   rw [hlv] at c5 hrd
   have hstep:=yI Jw hg
   generalize hn0:ds.length+((ds.take i).map Jw).sum=n0 at hle ⊢
   refine gy ?_
   refine aK (α:=Nat) (fun k=>[(0,.slice (some ⟨b,q,none⟩) ds.length cl),(3,.int .i64 ((n0+((o.l.take k).map qQ).sum:Nat):Int)),(4,.int .i64 (i:Int)),(5,.int .i64 (k:Int))])
    (fun k w=>(k≤o.l.length∧n0+((o.l.take k).map qQ).sum≤1048576)∧Sat W0 F w) (fun k=>o.l.length-k) 0 ⟨rfl,congrArg (fun z=>some (Value.int .i64 z)) (show (n0:Int)=((n0+((o.l.take 0).map qQ).sum:Nat):Int) by simp),rfl,rfl,trivial⟩ ⟨⟨Nat.zero_le _,by simp;omega⟩,hs⟩ ?_
   clear hs
   rintro k w ⟨⟨hk,hle2⟩,hs⟩
   by_cases hlk:k<o.l.length
   ·have hlk':(k:Int)<(o.l.length:Int):=by omega
    obtain ⟨b2,q2,c,hgc,hdc,rfl,-,d0,d1,d2⟩:=hrd.N6 hlk
    obtain ⟨hk1,hk2⟩:=hl3 c (List.mem_of_getElem? hgc)
    have hstep2:=yI qQ hgc
    have hcc:qQ c=1+c.key.length+c.val.length:=rfl
    have hkb:=yJ qQ (fun x=>by unfold qQ;omega) (o.l.take k)
    rw [List.length_take,Nat.min_eq_left hk] at hkb
    generalize hn1:n0+((o.l.take k).map qQ).sum=n1 at hle2 ⊢
    refine gy ?_
    refine cx [] [6,10,17,21] (.q 0 (.q 1 (.q 2 (.q 3 (.q 4 (.q 5 (.s 6 (.q 7 (.q 8 (.q 9 (.s 10 (.q 11 (.q 12 (.q 13 (.q 14 (.q 15 (.q 16 (.s 17 (.q 18 (.q 19 (.q 20 (.s 21 (.q 22 (.q 23 (.q 24 .nil))))))))))))))))))))))))) hs (by kernel_rfl) ?_
    clear hs
    intro w hs
    refine kR ?_
    by_cases hbig2:((n1:Int)+1+(c.key.length:Int)+(c.val.length:Int)) > 1048576
    ·refine gy ?_
     exact ak rfl ⟨false,rfl,fun hh=>(by cases hh),hs⟩
    ·refine gy ?_
     refine aA (k+1) ⟨rfl,?_,rfl,rfl,trivial⟩ ⟨⟨hlk,by rw [hstep2];omega⟩,hs⟩ (by show o.l.length-(k+1)<o.l.length-k;omega)
     exact congrArg (fun z=>some (Value.int .i64 z)) (show ((n1:Int)+1+(c.key.length:Int)+(c.val.length:Int))=((n0+((o.l.take (k+1)).map qQ).sum:Nat):Int) by rw [hstep2];omega)
   ·have hke:k=o.l.length:=by omega
    subst hke
    have hlk':¬ (o.l.length:Int)<(o.l.length:Int):=by omega
    rw [List.take_length] at hle2 ⊢
    have hoc:Jw o=(o.l.map qQ).sum:=rfl
    generalize hn1:n0+(o.l.map qQ).sum=n1 at hle2 ⊢
    have hbig2:¬ (n1:Int) > 1048576:=by omega
    refine gy ?_
    refine aA (i+1) ⟨rfl,?_,rfl,trivial⟩ ⟨⟨hlt,by rw [hstep];omega⟩,hs⟩ (by show ds.length-(i+1)<ds.length-i;omega)
    exact congrArg (fun z=>some (Value.int .i64 z)) (show (n1:Int)=((ds.length+((ds.take (i+1)).map Jw).sum:Nat):Int) by rw [hstep];omega)
  ·have hie:i=ds.length:=by omega
   subst hie
   have hlt':¬ (ds.length:Int)<(ds.length:Int):=by omega
   rw [List.take_length] at hle ⊢
   refine gy ?_
   exact ak rfl ⟨true,rfl,fun _=>hle,hs⟩
def pC (a:Int):Nat:=1+rU a 32
def pD (a:Int):Nat:=2+rU a 5
theorem CX {a b:Int} (hs:Sat W0 F w) :
 Calls Tryz.prog 23 #[.int .i64 a,.int .i64 b] w fun x w'=>x=.returned (.agg #[.int .i64 (pC a:Int),.int .i64 (pD b:Int)])∧Sat W0 F w':=by
 have h1:=tb a (k:=32) (by decide)
 have h2:=tb b (k:=5) (by decide)
 refine enter Tryz.func23 rfl Tryz.ntmps23 Tryz.results23 rfl ?_
 refine gy ?_
 refine aW hs ?_
 clear hs
 intro w b4 hs
 refine gy ?_
 refine js (N:=(IntKind.u64.wrap a).toNat) (M:=32) rfl rfl (CU a) rfl (by decide) rfl ?_
 show WL _ _ _ _ _ ((_,.int .u64 (rU a 32:Int))::_) _
 refine gy ?_
 refine js (N:=(IntKind.u64.wrap b).toNat) (M:=5) rfl rfl (CU b) rfl (by decide) rfl ?_
 show WL _ _ _ _ _ ((_,.int .u64 (rU b 5:Int))::_) _
 refine gy ?_
 refine bw [.int .i64 (1+(rU a 32:Int)),.int .i64 (2+(rU b 5:Int))] ?_
 refine cV (vs:=[.int .i64 (1+(rU a 32:Int)),.int .i64 (2+(rU b 5:Int))]) hs ?_
 clear hs
 intro w hs
 refine gy ?_
 refine dX ⟨_,_,b4,0,rfl,rfl,fh [.int .i64 (1+(rU a 32:Int)),.int .i64 (2+(rU b 5:Int))] hs .here rfl rfl (fX.all _),rfl⟩ ⟨?_,hs.drop⟩
 rw [show ((pC a:Nat):Int)=1+(rU a 32:Int) by unfold pC;omega,show ((pD b:Nat):Int)=2+(rU b 5:Int) by unfold pD;omega]
 rfl
theorem A5 (a b:Int):K7 (pC a) (pD b)=true:=by
 have h1:=tb a (k:=32) (by omega)
 have h2:=tb b (k:=5) (by omega)
 unfold K7 pC pD
 simp;omega
end
section
open Go.Proofs.YtecibefflhomdaaGreatDoor.Pure
def Ob (key:Bs) (T:cO):Bool:=!(aQ key T.first||aQ T.last key)
def Oc (key:Bs) (Ts:List cO):Nat:=(Ts.filter (Ob key)).length
section
variable {C:Prop} {s:St} {D D':ad} {q0:Nat} {Ls:fW} {bs:List (List bX)} {E:Nat} {key:Bs} {seq:Nat}
theorem jw.files (h:jw C s D q0 Ls bs E):(eQ D).length≤s.levels.flatten.length+2:=by
 have:=me (jU h.core.ok) (b:=aN::s.log::bO Ls) fun m hm=>by
  rcases h.known m (gk.1 hm) with h|h|h
  ·rw [h];exact List.mem_cons_self
  ·rw [h];exact List.mem_cons_of_mem _ List.mem_cons_self
  ·exact List.mem_cons_of_mem _ (List.mem_cons_of_mem _ h)
 rw [h.levels,ki,List.length_map]
 simp only [List.length_cons,bO,List.length_map] at this
 omega
end
end
end Go.Proofs.YtecibefflhomdaaGreatDoor
namespace Go.Proofs.YtecibefflhomdaaGreatDoor.Pure
open Go
def lF (a a':Bs):Prop:=∃ A x y B,a=A++x::B∧a'=A++y::B∧x≠y
theorem lF.len {a a':Bs} (h:lF a a'):a'.length=a.length:=by
 obtain ⟨A,x,y,B,rfl,rfl,_⟩:=h
 simp
theorem lF.split:∀ {a b c:Bs},lF (a++b) c→(∃ a',lF a a'∧c=a'++b)∨∃ b',lF b b'∧c=a++b'
 | [],b,c,h=>.inr ⟨c,h,rfl⟩
 | z::a,b,c,⟨A,x,y,B,h1,h2,h3⟩=>by
  cases A with
  | nil=>
   simp only [List.nil_append,List.cons_append,List.cons.injEq] at h1
   obtain ⟨rfl,rfl⟩:=h1
   exact .inl ⟨y::a,⟨[],z,y,a,rfl,rfl,h3⟩,by rw [h2];rfl⟩
  | cons w A=>
   simp only [List.cons_append,List.cons.injEq] at h1
   obtain ⟨rfl,h1⟩:=h1
   rcases lF.split (a:=a) (b:=b) (c:=A++y::B) ⟨A,x,y,B,h1,rfl,h3⟩ with ⟨a',k1,k2⟩|⟨b',k1,k2⟩
   ·obtain ⟨A2,x2,y2,B2,g1,g2,g3⟩:=k1
    exact .inl ⟨z::a',⟨z::A2,x2,y2,B2,by rw [g1];rfl,by rw [g2];rfl,g3⟩,by rw [h2,List.cons_append,k2];rfl⟩
   ·exact .inr ⟨b',k1,by rw [h2,List.cons_append,k2];rfl⟩
theorem Jc:∀ (B:Bs) {n m:Nat},n≠m→B.foldl (fun n x=>n*256+x.toNat) n≠B.foldl (fun n x=>n*256+x.toNat) m
 | [],_,_,h=>h
 | x::B,n,m,h=>Jc B (n:=n*256+x.toNat) (m:=m*256+x.toNat) (by omega)
theorem K8 {x y:UInt8} (h:x≠y):x.toNat≠y.toNat:=fun e=>h (UInt8.toNat_inj.1 e)
theorem lF.be {a a':Bs} (h:lF a a'):iL a≠iL a':=by
 obtain ⟨A,x,y,B,rfl,rfl,hxy⟩:=h
 unfold iL
 rw [List.foldl_append,List.foldl_append]
 have:=K8 hxy
 exact Jc B (n:=List.foldl (fun n x=>n*256+x.toNat) 0 A*256+x.toNat) (m:=List.foldl (fun n x=>n*256+x.toNat) 0 A*256+y.toNat) (by omega)
theorem CY {c d:Nat} (hc:c<4294967296) (hd:d<4294967296) (h:fH c=fH d):c=d:=by
 have key:∀ c,c<4294967296→(c%2=0∧fH c=c / 2∧fH c<2147483648)∨(c%2=1∧fH c=(c / 2) ^^^ 3988292384∧2147483648≤fH c):=by
  intro c hc
  unfold fH
  rw [Nat.and_one_is_mod,Nat.pow_one]
  rcases Nat.mod_two_eq_zero_or_one c with h|h
  ·rw [h]
   refine .inl ⟨rfl,by simp,?_⟩
   simp;omega
  ·rw [h]
   refine .inr ⟨rfl,rfl,?_⟩
   have:((c / 2) ^^^ 3988292384).testBit 31=true:=by
    rw [Nat.testBit_xor,Nat.testBit_lt_two_pow (x:=c / 2) (by omega)]
    decide
   exact Nat.ge_two_pow_of_testBit this
 have xinv:∀ a b p:Nat,a ^^^ p=b ^^^ p→a=b:=fun a b p e=>by
  have:=congrArg (· ^^^ p) e
  simpa [Nat.xor_assoc,Nat.xor_self,Nat.xor_zero] using this
 rcases key c hc with ⟨c1,c2,c3⟩|⟨c1,c2,c3⟩<;>rcases key d hd with ⟨d1,d2,d3⟩|⟨d1,d2,d3⟩
 ·omega
 ·omega
 ·omega
 ·rw [c2,d2] at h
  have:=xinv _ _ _ h
  omega
theorem vk:∀ (k:Nat) {c d:Nat},c<4294967296→d<4294967296→iter fH k c=iter fH k d→c=d
 | 0,_,_,_,_,h=>h
 | k+1,_,_,hc,hd,h=>CY hc hd (vk k (qW hc) (qW hd) h)
theorem Ek {a b p:Nat} (e:a ^^^ p=b ^^^ p):a=b:=by
 have:=congrArg (· ^^^ p) e
 simpa [Nat.xor_assoc,Nat.xor_self,Nat.xor_zero] using this
theorem sI:∀ (B:Bs) {c d:Nat},c<4294967296→d<4294967296→fc c B=fc d B→c=d
 | [],_,_,_,_,h=>h
 | x::B,c,d,hc,hd,h=>Ek (vk 8 (iu hc x) (iu hd x) (sI B (ni hc x) (ni hd x) h))
theorem lF.qT {a a':Bs} (h:lF a a'):Pure.qT a≠Pure.qT a':=by
 obtain ⟨A,x,y,B,rfl,rfl,hxy⟩:=h
 intro e
 unfold Pure.qT at e
 rw [kt,kt] at e
 have hA:=ks A (c:=4294967295) (by omega)
 generalize fc 4294967295 A=c at e hA
 have h1:=ks (x::B) hA
 have h2:=ks (y::B) hA
 have e2:fc (rY c x) B=fc (rY c y) B:=by
  have:fc c (x::B)=fc c (y::B):=by omega
  exact this
 have e3:=sI B (ni hA x) (ni hA y) e2
 have e4:=vk 8 (iu hA x) (iu hA y) e3
 rw [Nat.xor_comm c,Nat.xor_comm c] at e4
 exact K8 hxy (Ek e4)
theorem jd {a r:Bs} {k:Nat} (h:a.length=k):Rd.num ⟨a++r,false⟩ k=(iL a,⟨r,false⟩):=by
 subst h
 unfold Rd.num Rd.bytes
 dsimp only
 rw [if_neg (by simp only [Bool.false_eq_true,false_or,List.length_append];omega)]
 simp
theorem j6 {a r:Bs} {k:Nat} (h:a.length=k):Rd.bytes ⟨a++r,false⟩ (k:Int)=(a,⟨r,false⟩):=by
 subst h
 unfold Rd.bytes
 dsimp only
 rw [if_neg (by simp only [Bool.false_eq_true,false_or,List.length_append];omega)]
 simp
theorem td {n k:Nat} (h:n<256^k):iL (bz n k)=n:=by
 have:=congrArg Prod.fst (gU (N:=n) (k:=k) h [])
 rw [List.append_nil] at this
 have h2:=congrArg Prod.fst (jd (a:=bz n k) (r:=[]) (aD n k))
 rw [List.append_nil] at h2
 exact h2.symm.trans this
theorem xu {b f:Bs} (hb:b.length<4294967296) (h:lF (az b) f) (rest:Bs):bu (f++rest)=none:=by
 have e1:az b=bz b.length 4++(bz (4294967295-b.length) 4++(bz (qT b) 4++b)):=by simp [az]
 rw [e1] at h
 have n1:=td (n:=b.length) (k:=4) hb
 have n2:=td (n:=4294967295-b.length) (k:=4) (by omega)
 have n3:=td (n:=qT b) (k:=4) (xE b)
 unfold bu
 rcases h.split with ⟨a',k1,rfl⟩|⟨c,k1,rfl⟩
 ·have hl:=k1.len;rw [aD] at hl
  have hn:=k1.be;rw [n1] at hn
  rw [List.append_assoc,List.append_assoc]
  simp only [jd hl,jd (aD (4294967295-b.length) 4),n2]
  rw [if_pos (by omega)]
 ·rcases k1.split with ⟨a',k2,rfl⟩|⟨d,k2,rfl⟩
  ·have hl:=k2.len;rw [aD] at hl
   have hn:=k2.be;rw [n2] at hn
   have hlt:iL a'<4294967296:=by
    have:=tr a' 0 0 (by simp)
    rw [hl] at this
    exact this
   rw [List.append_assoc,List.append_assoc]
   simp only [jd (aD b.length 4),jd hl,n1]
   rw [if_pos (by omega)]
  ·rcases k2.split with ⟨a',k3,rfl⟩|⟨e,k3,rfl⟩
   ·have hl:=k3.len;rw [aD] at hl
    have hn:=k3.be;rw [n3] at hn
    rw [List.append_assoc,List.append_assoc,List.append_assoc]
    simp only [jd (aD b.length 4),jd (aD (4294967295-b.length) 4),jd hl,n1,n2,j6 (a:=b) (r:=rest) rfl]
    rw [if_neg (by omega),if_pos (.inr hn)]
   ·have hl:=k3.len
    have hn:=k3.qT
    rw [List.append_assoc,List.append_assoc,List.append_assoc]
    simp only [jd (aD b.length 4),jd (aD (4294967295-b.length) 4),jd (aD (qT b) 4),n1,n2,n3,j6 (a:=e) (r:=rest) hl]
    rw [if_neg (by omega),if_pos (.inr fun hh=>hn hh.symm)]
end Go.Proofs.YtecibefflhomdaaGreatDoor.Pure
namespace Go.Proofs.YtecibefflhomdaaGreatDoor
open Go
section
open Go.Proofs.YtecibefflhomdaaGreatDoor.Pure
theorem xv {Y e:Bs} (he:e.length=20):dV (Y++e) (((Y++e).length:Int)-20) 20=e:=by
 have:=gZ Y e []
 rw [List.append_nil] at this
 rw [show (((Y++e).length:Int)-20)=(Y.length:Int) by rw [List.length_append];omega,show (20:Int)=(e.length:Int) by omega]
 exact this
theorem Ga {Y e nm:Bs} (he:e.length=20) (h:bu e=none):l9 nm (Y++e)=some (.error (some nm,7)):=by
 unfold l9
 rw [xv he,h]
theorem rV {X g nm:Bs} (hX:X.length<4294967296):l9 nm (X++g++az (bz X.length 8))=match bu g with
 | none=>some (.error (some nm,7))
 | some y=>if g.length≤gL then some (wE nm y.1) else none:=by
 have hl:(az (bz X.length 8)).length=20:=by simp
 have hbe:iL (bz X.length 8)=X.length:=td (by omega)
 have o1:bu (az (bz X.length 8))=some (bz X.length 8,[]):=by
  have:=jq (b:=bz X.length 8) (by simp) []
  rwa [List.append_nil] at this
 have e2:dV (X++g++az (bz X.length 8)) (X.length:Int) (((X++g++az (bz X.length 8)).length:Int)-20-(X.length:Int))=g:=by
  have:=gZ X g (az (bz X.length 8))
  rw [show (((X++g++az (bz X.length 8)).length:Int)-20-(X.length:Int))=(g.length:Int) by simp only [List.length_append,hl];omega]
  exact this
 unfold l9
 rw [xv hl,o1]
 dsimp only
 rw [if_neg (by simp),hbe,if_neg (by simp only [List.length_append];omega),e2]
 cases bu g<;>rfl
theorem mT {b f:Bs} (hb:b.length<4294967296) (h:lF (az b) f):bu f=none:=by
 have:=xu hb h []
 rwa [List.append_nil] at this
section
variable {T:cO} {f f':Bs} {l:List ay} {cs:List (List ay)}
theorem KE (h:kX False f T l cs) (hc:lF f f'):kX True f' T l cs:=by
 have hlay:=h.lay.resolve_left id
 have hk:∀ e∈l,lx e:=fun e he=>(h.ents e he).1
 have hcnt:=h.count
 obtain ⟨l1,l2,l3,l4⟩:=oy h.flat h.ne hk h.some (by omega)
 have hlen:=hc.len
 have hsm:=h.small
 have hX:(bC cs).length<4294967296:=by omega
 have hhead:=h.head.resolve_right fun hh=>hh.1
 rw [hlay] at hc hhead
 unfold eR at hc hhead
 have hl20:(az (bz (bC cs).length 8)).length=20:=by simp
 generalize hLL:hU (dD l) (fN l) l.length (bN 0 cs)=L at hc hhead l4
 have hput:∀ A c B,cs=A++c::B→bC cs=bC A++(gD c++bC B)∧(dZ c).length<4294967296:=fun A c B e=>by
  have hcs:c∈cs:=by rw [e];simp
  have:=h.size c hcs
  unfold gD at this
  rw [bH] at this
  exact ⟨by rw [e,rC];simp [bC],by omega⟩
 have good:∀ c:List ay,(dZ c).length<4294967296→bu (gD c)=some (dZ c,[]):=fun c hc=>by
  have:=jq (b:=dZ c) hc []
  rwa [List.append_nil] at this
 have whole:∀ r:Bs,f'=bC cs++r→∀ A c B,cs=A++c::B→bu (dV f' ((bC A).length:Int) ((gD c).length:Int))=some (dZ c,[])∨(True∧bu (dV f' ((bC A).length:Int) ((gD c).length:Int))=none):=fun r hr A c B e=>by
  obtain ⟨e1,e2⟩:=hput A c B e
  have:=gZ (bC A) (gD c) (bC B++r)
  rw [hr,e1,List.append_assoc,List.append_assoc,← List.append_assoc,this]
  exact .inl (good c e2)
 have mk:∀ (hh:l9 T.name f'=some (.ok T)∨(True∧l9 T.name f'=some (.error (some T.name,7)))) (hb:∀ A c B,cs=A++c::B→bu (dV f' ((bC A).length:Int) ((gD c).length:Int))=some (dZ c,[])∨(True∧bu (dV f' ((bC A).length:Int) ((gD c).length:Int))=none)),kX True f' T l cs:=fun hh hb=>
  ⟨h.flat,h.ne,h.sep,h.some,h.srt,h.ents,h.BO,.inl trivial,hh,by omega,h.count,h.size,hb⟩
 rcases hc.split with ⟨a',k1,rfl⟩|⟨e',k1,rfl⟩
 ·rcases k1.split with ⟨b',k2,rfl⟩|⟨g,k2,rfl⟩
  ·
   have hbl:=k2.len
   refine mk (.inl ?_) fun A c B e=>?_
   ·rw [rV hX] at hhead
    have:bz (bC cs).length 8=bz b'.length 8:=by rw [hbl]
    rw [this,rV (by omega)]
    exact hhead
   ·obtain ⟨e1,e2⟩:=hput A c B e
    rw [e1] at k2
    rcases k2.split with ⟨A',k3,rfl⟩|⟨r,k3,rfl⟩
    ·have:=gZ A' (gD c) (bC B++(az L++az (bz (bC cs).length 8)))
     rw [k3.len] at this
     rw [List.append_assoc,List.append_assoc,List.append_assoc,← List.append_assoc,this]
     exact .inl (good c e2)
    ·rcases k3.split with ⟨g,k4,rfl⟩|⟨B',k4,rfl⟩
     ·have:=gZ (bC A) g (bC B++(az L++az (bz (bC cs).length 8)))
      rw [k4.len] at this
      rw [List.append_assoc,List.append_assoc,List.append_assoc,← List.append_assoc,this]
      exact .inr ⟨trivial,mT e2 k4⟩
     ·have:=gZ (bC A) (gD c) (B'++(az L++az (bz (bC cs).length 8)))
      rw [List.append_assoc,List.append_assoc,List.append_assoc,← List.append_assoc,this]
      exact .inl (good c e2)
  ·
   refine mk (.inr ⟨trivial,?_⟩) (whole _ (List.append_assoc _ _ _))
   rw [rV hX,mT (by omega) k2]
 ·
  refine mk (.inr ⟨trivial,?_⟩) (whole _ (List.append_assoc _ _ _))
  exact Ga (by rw [k1.len,hl20]) (mT (by simp) k1)
end
theorem El:∀ (bs:List (List bX)) (q:Nat) {f':Bs},(∀ b∈bs,FC b)→q+total bs≤4611686018427387904→lF (bA q bs) f'→∃ j junk,j≤bs.length∧f'=bA q (bs.take j)++junk∧bu junk=none
 | [],q,f',_,_,h=>by
  obtain ⟨A,x,y,B,e,_⟩:=h
  have:=congrArg List.length e
  simp [bA] at this
 | b::r,q,f',hk,hq,h=>by
  have hq':total (b::r)=b.length+total r:=by simp [total]
  have hb:=hk b List.mem_cons_self
  rcases h.split with ⟨a',k1,rfl⟩|⟨r',k1,rfl⟩
  ·refine ⟨0,_,Nat.zero_le _,rfl,xu ?_ k1 _⟩
   have he:∀ e∈aZ q b,lx e:=fun e hh=>(nX b q hb.key hb.val (by omega) e hh).1
   have h1:=jR he
   have h2:=hb.len
   rw [dH] at h1
   unfold dZ at h1
   unfold kI
   rw [List.length_append,aD];omega
  ·obtain ⟨j,junk,h1,h2,h3⟩:=El r (q+b.length) (fun x hx=>hk x (List.mem_cons_of_mem _ hx)) (by omega) k1
   exact ⟨j+1,junk,by simp only [List.length_cons];omega,by rw [h2,List.take_succ_cons,bA,List.append_assoc],h3⟩
theorem pE (bs:List (List bX)) (j:Nat):total (bs.take j)≤total bs:=by
 have:=jy (bs.take j) (bs.drop j)
 rw [List.take_append_drop] at this;omega
section
variable {s:St} {D D':ad} {q0:Nat} {Ls:fW} {bs:List (List bX)} {E:Nat}
theorem Jd (h:jw False s D q0 Ls bs E) (hlog:file D s.log=some (bA q0 bs)) (hE:E≤1048576) (hB:bs.length≤16777216) (hd:D'.Ok) {name f f':Bs} (hf:file D name=some f) (hf':file D' name=some f') (hch:lF f f') (hoth:∀ m,m≠name→file D' m=file D m) :
 name=aN∨∃ j,j≤bs.length∧RecM True D' { s with seq:=q0 } Ls (bs.take j) E∧∀ b,file D' s.log=some b→b.length≤1073741824:=by
 by_cases hs:name=aN
 ·exact .inl hs
 refine .inr ?_
 obtain ⟨k0,hk0,hk1⟩:=h.core.log
 have hk1:s.log=bU k0:=hk1
 have hlb:=ll bs q0 h.core.bsok h.core.seq
 have hcn:=h.core.cntE
 have hst:file D' aN=some (az (bL { s with seq:=q0 })):=by rw [hoth _ fun e=>hs e.symm];exact h.core.state
 by_cases hl:name=s.log
 ·subst hl
  rw [hlog] at hf
  obtain rfl:=Option.some.inj hf
  obtain ⟨j,junk,j1,j2,j3⟩:=El bs q0 h.core.bsok h.core.seq hch
  have ht:=pE bs j
  have hsq:q0+total bs≤4611686018427387904:=h.core.seq
  refine ⟨j,j1,⟨hd,h.core.levels,hst,h.core.num,by show q0+total (bs.take j)≤_;omega,by omega,h.core.lv,fun p hp=>?_,h.core.seqs,h.core.ord,h.core.log,⟨junk,by show file D' s.log=_;rw [hf',j2],j3⟩,fun b hb=>h.core.bsok b (List.mem_of_mem_take hb)⟩,fun b hb=>?_⟩
  ·obtain ⟨f,cs,a1,a2⟩:=h.core.on p hp
   refine ⟨f,cs,?_,a2.mono fun hh=>hh.elim⟩
   rw [hoth _ fun hh=>dS h.core.lv k0 (by rw [← hk1,← hh];exact List.mem_map.2 ⟨p,hp,rfl⟩)];exact a1
  ·rw [hf'] at hb
   obtain rfl:=Option.some.inj hb
   rw [hch.len];omega
 ·refine ⟨bs.length,Nat.le_refl _,?_,fun b hb=>?_⟩
  ·rw [List.take_length]
   obtain ⟨junk,g1,g2⟩:=h.core.logf
   refine ⟨hd,h.core.levels,hst,h.core.num,h.core.seq,h.core.cntE,h.core.lv,fun p hp=>?_,h.core.seqs,h.core.ord,h.core.log,⟨junk,by show file D' s.log=_;rw [hoth _ fun e=>hl e.symm];exact g1,g2⟩,h.core.bsok⟩
   obtain ⟨g,cs,a1,a2⟩:=h.core.on p hp
   by_cases hn:p.1.name=name
   ·rw [hn] at a1 ⊢
    rw [hf] at a1
    obtain rfl:=Option.some.inj a1
    exact ⟨f',cs,hf',KE a2 hch⟩
   ·exact ⟨g,cs,by rw [hoth _ hn];exact a1,a2.mono fun hh=>hh.elim⟩
  ·rw [hoth _ fun e=>hl e.symm,hlog] at hb
   obtain rfl:=Option.some.inj hb
   omega
theorem Gb {o:jX} {c:St} (hd:D.Ok) {f':Bs} (hl:(bL c).length<4294967296) (hf:file D aN=some f') (hch:lF (az (bL c)) f') :
 ∃ e D',iy o D=some (.error e,D')∧cH D D'∧(pj D e∨e.2=7):=by
 obtain ⟨x,D1,w1,w2,w3⟩:=px hd hf
 unfold iy nP
 rw [w1]
 rcases w3 with rfl|⟨e,rfl,ht⟩
 ·dsimp only
  rw [mT hl hch]
  exact ⟨_,_,rfl,w2,.inr rfl⟩
 ·dsimp only
  have h8:=ht.1
  rw [if_neg (by rw [h8];decide)]
  exact ⟨_,_,rfl,w2,.inl ht⟩
end
end
end Go.Proofs.YtecibefflhomdaaGreatDoor
