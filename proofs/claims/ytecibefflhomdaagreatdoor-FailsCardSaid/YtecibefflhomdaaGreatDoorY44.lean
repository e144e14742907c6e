/-
  Part 44: THE FRAME from a walk of a law's function to the card; WALKS deeds; PLAIN how the tables stand; PLAIN a byte that is changed in a frame is found; PLAIN a running store beside all batches that were written; WALKS a history; WALKS prefix; WALKS reopen on a new disk; WALKS deeds on a store where nothing fails; WALKS deeds on a store where nothing fails; WALKS deeds on a store where nothing fails; WALKS a disk that is filled; PLAIN a store that lives through a crash.
-/
import Derived.Test.YtecibefflhomdaaGreatDoorY43
set_option maxHeartbeats 8000000
set_option maxRecDepth 100000
set_option linter.all false
namespace Go.Proofs.YtecibefflhomdaaGreatDoor
open Go
section
open Go Go.ChangeShapes Go.WideShapes
section
variable {H:Type} {enc:TypeId×Value→H}
theorem yT {C:Checked} {os:Os} {f:FuncId} {fn:Func} {s:ChangeSpec} {F:Stop.Interp} {conds:List PathCond} {apart fresh handsOn:Bool} {Xp:World→Prop}
 (hXp:∀ w w':World,w.heap=w'.heap→Xp w→Xp w') (own:ownKnob C.prog.godebug=none) (started:os.Started) (noInit:C.prog.inits.idxOf? f=none) (hfn:C.prog.funcs[f]?=some fn)
 (witness:∃ (w:World) (tape:Tape) (i:Input),w.os=os∧(w.forCall tape i).Shaped C.prog∧i.vars=[]∧Input.okWide C.prog (w.forCall tape i) .any w.heap.size f i ∧
   ((s.pre enc C.prog fn conds apart (w.forCall tape i).memory i.args∧Xp (w.forCall tape i).memory)∧sizedMet enc C.prog fn (OpenSpec.ofChange s) apart (w.forCall tape i).memory i.args)∧({ calm:=true }:Assume).holds C.prog (lone (Frame.enter C.prog f i.args .normal) [] (w.forCall tape i)))
 (contract:∀ (W:World) (base:Nat) (args:Array Value) (ds gs:List (DataW H)) (before:List MemPlace),
   (∀ (j:Nat) t v,fn.params[j]?=some t→args[j]?=some v→Value.okWide C.prog W .any base t v) →
   DataW.Whole enc C.prog fn.params.toList s.vars apart W args.toList ds gs before →
   (DataW.weightsEach C.prog (fn.params.toList++s.plain.varTypes C.prog) (ds++gs)).all (· ≤ reachBytes)=true→Xp W →
   Calls C.prog f args W fun
    | .returned v,W'=>W'.os=W.os∧s.post enc C.prog fn apart fresh handsOn false W args v W'
    | _,_=>False) :
 ReturnsInLeavingWide { calm:=true } C os f .any (fun w args=>(s.pre enc C.prog fn conds apart w args∧Xp w)∧sizedMet enc C.prog fn (OpenSpec.ofChange s) apart w args) ((OpenSpec.ofChange s).postWith enc C.prog fn F (outsideKept [.timePasses]) apart fresh handsOn):=by
 refine returnsInLeavingWide_of_good own started witness ?_
 intro w tape i _ _ _ hok hpre _
 obtain ⟨_,_,_,fn',hfn',_,_,_,_,hval⟩:=hok
 have e:fn'=fn:=Option.some.inj (hfn'.symm.trans hfn)
 subst e
 obtain ⟨⟨⟨ds,gs,before,hw,hc⟩,hx⟩,hz⟩:=hpre
 have hw':=DataW.Whole.of_heap (w':=w.forCall tape i) (by rfl) hw
 obtain ⟨n,v,w',fr,hn,hend,hp⟩:=(contract (w.forCall tape i) w.heap.size i.args ds gs before hval hw' (hz.weights hw) (hXp (w.forCall tape i).memory (w.forCall tape i) (by rfl) hx)).done_lone noInit
 have hrun:runNT C.prog (n+1) (lone (Frame.enter C.prog f i.args .normal) [] (w.forCall tape i)) #[]=(.ended (.done v) w',(runNT C.prog (n+1) (lone (Frame.enter C.prog f i.args .normal) [] (w.forCall tape i)) #[]).2):=Prod.ext (by rw [runNT_fst,hend]) rfl
 have heq:({ w' with os:=(w.forCall tape i).os }:World)=w':=by rw [← hp.1]
 exact ⟨n,_,.done v,w',_,hrun,hn,step_of_runs hn hend,v,rfl,postWith_blind (postWith_of_post (by rw [heq];exact hp.2) (by rw [hp.1];exact .refl _)),fun said=>(no_race_of_lone C.prog n _ _ hn (by simp [lone]) rfl).2,handedOver_of_lone hn,⟨fun g hg=>by simp [lone] at hg,rfl⟩,fun i g hg hi=>by
  cases i with
  | zero=>exact absurd rfl hi
  | succ k=>simp [lone] at hg⟩
end
end
section
open Go.Proofs.YtecibefflhomdaaGreatDoor.Pure (ad bO aQ)
attribute [local irreducible] IntKind.wrap
variable {W0 w:World} {F:List ah} {v:Value}
structure vB where
 kind:Int
 lv:Value
 l:List bO
def GG (o:vB):List Value:=[.int .i64 o.kind,o.lv]
def qU (c:bO):Nat:=1+c.key.length+c.val.length
def JU (o:vB):Nat:=(o.l.map qU).sum
theorem yU {α:Type} (f:α→Nat) {l:List α} {i:Nat} {x:α} (h:l[i]?=some x):((l.take (i+1)).map f).sum=((l.take i).map f).sum+f x:=by
 rw [List.take_add_one,h];simp
theorem yV {α:Type} (f:α→Nat) (hf:∀ x,1≤f x):∀ l:List α,l.length≤(l.map f).sum
 | []=>Nat.zero_le _
 | x::l=>by
  have:=yV f hf l
  have:=hf x
  simp only [List.length_cons,List.map_cons,List.sum_cons]
  omega
structure vS (W0:World) (v:Value) (ds:List vB):Prop where
 rd:vA W0 2 v (ds.map GG)
 ok:∀ o∈ds,vA W0 3 o.lv (dw o.l)∧∀ c∈o.l,c.key.length≤140737488355328∧c.val.length≤140737488355328
theorem vS.len {ds:List vB} (h:vS W0 v ds):∃ a c,v=.slice a ds.length c:=by
 obtain ⟨a,c,h1⟩:=h.rd.1
 rw [List.length_map] at h1
 exact ⟨a,c,h1⟩
theorem vS.row {ds:List vB} {a:Option Addr} {n c:Nat} (h:vS W0 (.slice a n c) ds) {i:Nat} (hi:i<ds.length):∃ b q o,ds[i]?=some o∧o∈ds∧a=some ⟨b,q,none⟩ ∧
 (∀ j u,(GG o)[j]?=some u→W0.cell? ⟨b,q+i*2+j,none⟩=some u)∧W0.cell? ⟨b,q+i*2+1,none⟩=some o.lv:=by
 have hg:ds[i]?=some ds[i]:=List.getElem?_eq_getElem hi
 obtain ⟨b,q,c,h1,h2⟩:=h.rd.row (x:=GG ds[i]) (by rw [List.getElem?_map,hg];rfl)
 injection h1 with h3 _ _
 exact ⟨b,q,ds[i],hg,List.getElem_mem hi,h3,h2,h2 1 _ rfl⟩
theorem Dg {ds:List vB} (ho:vS W0 v ds) (hs:Sat W0 F w) :
 Calls Tryz.prog 13 #[v] w fun x w'=>∃ b,x=.returned (.bool b)∧(b=true→ds.length+(ds.map JU).sum≤1048576)∧Sat W0 F w':=by
 obtain ⟨al,cl,rfl⟩:=ho.len
 refine enter Tryz.func13 rfl Tryz.ntmps13 Tryz.results13 rfl ?_
 by_cases hbig:(ds.length:Int) > 1048576
 ·refine gy ?_
  exact ak rfl ⟨false,rfl,fun hh=>(by cases hh),hs⟩
 ·refine gy ?_
  refine aL (α:=Nat) (fun i=>[(0,.slice al ds.length cl),(3,.int .i64 ((ds.length+((ds.take i).map JU).sum:Nat):Int)),(4,.int .i64 (i:Int))])
   (fun i w=>(i≤ds.length∧ds.length+((ds.take i).map JU).sum≤1048576)∧Sat W0 F w) (fun i=>ds.length-i) 0 ⟨rfl,rfl,rfl,trivial⟩ ⟨⟨Nat.zero_le _,by simp;omega⟩,hs⟩ ?_
  clear hs
  rintro i w ⟨⟨hi,hle⟩,hs⟩
  by_cases hlt:i<ds.length
  ·have hlt':(i:Int)<(ds.length:Int):=by omega
   obtain ⟨b,q,o,hg,hmem,rfl,hrow,c5⟩:=ho.row hlt
   obtain ⟨hrd,hl3⟩:=ho.ok o hmem
   obtain ⟨a2,cc2,hlv⟩:=hrd.yN
   rw [hlv] at c5 hrd
   have hstep:=yU JU hg
   generalize hn0:ds.length+((ds.take i).map JU).sum=n0 at hle ⊢
   refine gy ?_
   refine aL (α:=Nat) (fun k=>[(0,.slice (some ⟨b,q,none⟩) ds.length cl),(3,.int .i64 ((n0+((o.l.take k).map qU).sum:Nat):Int)),(4,.int .i64 (i:Int)),(5,.int .i64 (k:Int))])
    (fun k w=>(k≤o.l.length∧n0+((o.l.take k).map qU).sum≤1048576)∧Sat W0 F w) (fun k=>o.l.length-k) 0 ⟨rfl,congrArg (fun z=>some (Value.int .i64 z)) (show (n0:Int)=((n0+((o.l.take 0).map qU).sum:Nat):Int) by simp),rfl,rfl,trivial⟩ ⟨⟨Nat.zero_le _,by simp;omega⟩,hs⟩ ?_
   clear hs
   rintro k w ⟨⟨hk,hle2⟩,hs⟩
   by_cases hlk:k<o.l.length
   ·have hlk':(k:Int)<(o.l.length:Int):=by omega
    obtain ⟨b2,q2,c,hgc,hdc,rfl,-,d0,d1,d2⟩:=hrd.OI hlk
    obtain ⟨hk1,hk2⟩:=hl3 c (List.mem_of_getElem? hgc)
    have hstep2:=yU qU hgc
    have hcc:qU c=1+c.key.length+c.val.length:=rfl
    have hkb:=yV qU (fun x=>by unfold qU;omega) (o.l.take k)
    rw [List.length_take,Nat.min_eq_left hk] at hkb
    generalize hn1:n0+((o.l.take k).map qU).sum=n1 at hle2 ⊢
    refine gy ?_
    refine bH [] [6,10,17,21] (.q 0 (.q 1 (.q 2 (.q 3 (.q 4 (.q 5 (.s 6 (.q 7 (.q 8 (.q 9 (.s 10 (.q 11 (.q 12 (.q 13 (.q 14 (.q 15 (.q 16 (.s 17 (.q 18 (.q 19 (.q 20 (.s 21 (.q 22 (.q 23 (.q 24 .nil))))))))))))))))))))))))) hs (by kernel_rfl) ?_
    clear hs
    intro w hs
    refine gg ?_
    by_cases hbig2:((n1:Int)+1+(c.key.length:Int)+(c.val.length:Int)) > 1048576
    ·refine gy ?_
     exact ak rfl ⟨false,rfl,fun hh=>(by cases hh),hs⟩
    ·refine gy ?_
     refine aB (k+1) ⟨rfl,?_,rfl,rfl,trivial⟩ ⟨⟨hlk,by rw [hstep2];omega⟩,hs⟩ (by show o.l.length-(k+1)<o.l.length-k;omega)
     exact congrArg (fun z=>some (Value.int .i64 z)) (show ((n1:Int)+1+(c.key.length:Int)+(c.val.length:Int))=((n0+((o.l.take (k+1)).map qU).sum:Nat):Int) by rw [hstep2];omega)
   ·have hke:k=o.l.length:=by omega
    subst hke
    have hlk':¬ (o.l.length:Int)<(o.l.length:Int):=by omega
    rw [List.take_length] at hle2 ⊢
    have hoc:JU o=(o.l.map qU).sum:=rfl
    generalize hn1:n0+(o.l.map qU).sum=n1 at hle2 ⊢
    have hbig2:¬ (n1:Int) > 1048576:=by omega
    refine gy ?_
    refine aB (i+1) ⟨rfl,?_,rfl,trivial⟩ ⟨⟨hlt,by rw [hstep];omega⟩,hs⟩ (by show ds.length-(i+1)<ds.length-i;omega)
    exact congrArg (fun z=>some (Value.int .i64 z)) (show (n1:Int)=((ds.length+((ds.take (i+1)).map JU).sum:Nat):Int) by rw [hstep];omega)
  ·have hie:i=ds.length:=by omega
   subst hie
   have hlt':¬ (ds.length:Int)<(ds.length:Int):=by omega
   rw [List.take_length] at hle ⊢
   refine gy ?_
   exact ak rfl ⟨true,rfl,fun _=>hle,hs⟩
def rZ (a:Int):Nat:=1+pN a 32
def r6 (a:Int):Nat:=2+pN a 5
theorem Dh {a b:Int} (hs:Sat W0 F w) :
 Calls Tryz.prog 23 #[.int .i64 a,.int .i64 b] w fun x w'=>x=.returned (.agg #[.int .i64 (rZ a:Int),.int .i64 (r6 b:Int)])∧Sat W0 F w':=by
 have h1:=qT a (k:=32) (by decide)
 have h2:=qT b (k:=5) (by decide)
 refine enter Tryz.func23 rfl Tryz.ntmps23 Tryz.results23 rfl ?_
 refine gy ?_
 refine aS hs ?_
 clear hs
 intro w b4 hs
 refine gy ?_
 refine kM (N:=(IntKind.u64.wrap a).toNat) (M:=32) rfl rfl (De a) rfl (by decide) rfl ?_
 show WL _ _ _ _ _ ((_,.int .u64 (pN a 32:Int))::_) _
 refine gy ?_
 refine kM (N:=(IntKind.u64.wrap b).toNat) (M:=5) rfl rfl (De b) rfl (by decide) rfl ?_
 show WL _ _ _ _ _ ((_,.int .u64 (pN b 5:Int))::_) _
 refine gy ?_
 refine bA [.int .i64 (1+(pN a 32:Int)),.int .i64 (2+(pN b 5:Int))] ?_
 refine cZ (vs:=[.int .i64 (1+(pN a 32:Int)),.int .i64 (2+(pN b 5:Int))]) hs ?_
 clear hs
 intro w hs
 refine gy ?_
 refine ej ⟨_,_,b4,0,rfl,rfl,fx [.int .i64 (1+(pN a 32:Int)),.int .i64 (2+(pN b 5:Int))] hs .here rfl rfl (gh.all _),rfl⟩ ⟨?_,hs.drop⟩
 rw [show ((rZ a:Nat):Int)=1+(pN a 32:Int) by unfold rZ;omega,show ((r6 b:Nat):Int)=2+(pN b 5:Int) by unfold r6;omega]
 rfl
theorem Jr (a b:Int):JS (rZ a) (r6 b)=true:=by
 have h1:=qT a (k:=32) (by omega)
 have h2:=qT b (k:=5) (by omega)
 unfold JS rZ r6
 simp;omega
end
section
open Go.Proofs.YtecibefflhomdaaGreatDoor.Pure
def OM (key:Bs) (T:cD):Bool:=!(aQ key T.first||aQ T.last key)
def ON (key:Bs) (Ts:List cD):Nat:=(Ts.filter (OM key)).length
end
end Go.Proofs.YtecibefflhomdaaGreatDoor
namespace Go.Proofs.YtecibefflhomdaaGreatDoor.Pure
open Go
theorem oh {a r:Bs} {k:Nat} (h:a.length=k):Rd.bytes ⟨a++r,false⟩ (k:Int)=(a,⟨r,false⟩):=by
 subst h
 unfold Rd.bytes
 dsimp only
 rw [if_neg (by simp only [Bool.false_eq_true,false_or,List.length_append];omega)]
 simp
end Go.Proofs.YtecibefflhomdaaGreatDoor.Pure
namespace Go.Proofs.YtecibefflhomdaaGreatDoor
open Go
section
open Go.Proofs.YtecibefflhomdaaGreatDoor.Pure
def aI (H:List (List bO)):List (Bs×Bs):=H.foldl mZ []
theorem jG (H:List (List bO)) (l:List bO):aI (H++[l])=mZ (aI H) l:=by unfold aI;rw [List.foldl_append];rfl
theorem xE:∀ (bs:List (List bO)) {ps:List (Bs×Bs)},jS ps→jS (bs.foldl mZ ps)
 | [],_,h=>h
 | b::r,_,h=>xE r (yb b h)
theorem jH (H:List (List bO)):jS (aI H):=xE H List.Pairwise.nil
theorem EO {S:List (List az)}:∀ (bs:List (List bO)) (q:Nat) (m:List az) (ps:List (Bs×Bs)),fS m→(∀ x∈m,x.seq≤q)→q+total bs≤aG→(∀ k,dP ((gd m k aG).or (fa S k aG))=aV ps k) →
 ∀ k,dP ((gd (gu q bs m) k aG).or (fa S k aG))=aV (bs.foldl mZ ps) k
 | [],_,_,_,_,_,_,h=>h
 | b::r,q,m,ps,hm,hq,ht,h=>by
  have hq':total (b::r)=b.length+total r:=by simp [total]
  refine EO r (q+b.length) _ (mZ ps b) (tP b hm hq) (fun x hx=>?_) (by omega) fun k=>mD b k aG ps _ hm hq (by omega) (h k)
  rcases (qd _).1 hx with hx|hx
  ·have:=pj b q x hx;omega
  ·have:=hq x hx;omega
section
variable {C:Prop} {o:ji} {s:St} {D D':ad} {H G:List (List bO)} {E B q0:Nat} {Ls:ga} {bs:List (List bO)}
theorem K3 (hq:q0+total bs≤4611686018427387904) (h:∀ k,dP (fa (dx Ls) k aG)=aV (aI G) k) (k:Bs):dP (fa (gu q0 bs []::dx Ls) k aG)=aV (aI (G++bs)) k:=by
 have hl:aG=18446744073709551615:=rfl
 rw [bC]
 unfold aI
 rw [List.foldl_append]
 exact EO bs q0 [] (aI G) List.Pairwise.nil (fun x hx=>by cases hx) (by omega) (fun k=>by rw [show gd [] k aG=none from rfl];exact h k) k
theorem mo (h1:jo C s D q0 Ls bs E) (h:∀ k,dP (fa (dx Ls) k aG)=aV (aI G) k) (k:Bs):gV s Ls aG k=aV (aI (G++bs)) k:=by
 unfold gV
 rw [h1.mem]
 exact K3 h1.core.seq h k
theorem sQ:∀ (bs:List (List bO)) (G:List (List bO)),total bs=0→aI (G++bs)=aI G
 | [],G,_=>by rw [List.append_nil]
 | b::r,G,h=>by
  have hq':total (b::r)=b.length+total r:=by simp [total]
  have hb:b=[]:=List.eq_nil_of_length_eq_zero (by omega)
  subst hb
  have:=sQ r (G++[[]]) (by omega)
  rw [List.append_assoc] at this
  rw [show G++[]::r=G++([[]]++r) from rfl,this,jG];rfl
end
end
section
open Go.Proofs.YtecibefflhomdaaGreatDoor.Pure (ad bO aQ mZ)
attribute [local irreducible] IntKind.wrap
variable {W0 w:World} {F:List ah} {v:Value} {hp sf:Nat} {mb:Bool} {H:List (List bO)}
abbrev j8 (us:List Value) (H:List (List bO)):ah:=star (List.zipWith gI us H)
abbrev OO (hp:Nat) (vb vp:Value) (us:List Value) (H:List (List bO)) (sf:Nat) (mb:Bool):List ah:=[blk hp 49 [vb,.int .i64 (sf:Int),.bool mb,vp],aE 1 vb 52 H.length us,j8 us H,bw vp (aI H)]
def cJ (hp:Nat) (H:List (List bO)) (sf:Nat) (mb:Bool):ah:=fun h=>∃ (vb vp:Value) (us:List Value),(us.length=H.length∧∀ u∈us,dD u=true)∧cV (OO hp vb vp us H sf mb) h
theorem Sat.gD (h:Sat W0 (cJ hp H sf mb::F) w):∃ (vb vp:Value) (us:List Value),(us.length=H.length∧∀ u∈us,dD u=true)∧Sat W0 (blk hp 49 [vb,.int .i64 (sf:Int),.bool mb,vp]::aE 1 vb 52 H.length us::j8 us H::bw vp (aI H)::F) w:=by
 obtain ⟨⟨vb,vp,us⟩,hu,hs⟩:=h.eI (φ:=fun z:Value×Value×List Value=>z.2.2.length=H.length∧∀ u∈z.2.2,dD u=true) (B:=fun z=>OO hp z.1 z.2.1 z.2.2 H sf mb) fun hp ⟨vb,vp,us,h1,h2⟩=>⟨⟨vb,vp,us⟩,h1,h2⟩
 exact ⟨vb,vp,us,hu,hs⟩
theorem Sat.eY {vb vp:Value} {us:List Value} (hu:us.length=H.length∧∀ u∈us,dD u=true) (h:Sat W0 (blk hp 49 [vb,.int .i64 (sf:Int),.bool mb,vp]::aE 1 vb 52 H.length us::j8 us H::bw vp (aI H)::F) w):Sat W0 (cJ hp H sf mb::F) w:=
 Sat.close (B:=OO hp vb vp us H sf mb) h fun hp k=>⟨vb,vp,us,hu,k⟩
theorem Sat.Di {x:Except cy (List (Bs×Bs))} (h:Sat W0 (qC v x::F) w):Sat W0 (bw v (JM x)::F) w:=by
 cases x with
 | ok l=>exact Sat.ED h
 | error e=>
  have hp:=h.fQ (φ:=v=.slice none 0 0) fun _ k=>k
  subst hp
  exact Sat.m8 h.drop (.inl rfl) (fun _=>rfl)
theorem xF {A:ah} {l:List ah} {F:List ah} {w:World} (h:Sat W0 (star l::A::F) w):Sat W0 (star (l++[A])::F) w:=by
 have h2:Sat W0 (A::star (l++[])::F) w:=by rw [List.append_nil];exact h.take (.there .here)
 exact Sat.eK h2
theorem vq {b d:Nat} {o:ji} {s:St} {D D':ad} {x:Except cy (List (Bs×Bs))} (hE:kY W0) (h:nU false none s D [] [] 0=some (x,D')) (hs:Sat W0 (dh b d o false none s::ag d D::F) w) :
 Calls Tryz.prog 32 #[au b] w fun y w'=>∃ pv,y=.returned (.tuple #[pv,.int .i64 (gn (dk x):Int)])∧Sat W0 (qC pv x::dh b d o false none s::ag d D'::F) w':=by
 refine enter Tryz.func32 rfl Tryz.ntmps32 Tryz.results32 rfl ?_
 refine gy ?_
 refine ae (met (ly h hs) ?_)
 clear hs
 rintro _ w ⟨pv,ve,rfl,hs⟩
 refine ⟨_,rfl,?_⟩
 refine gy ?_
 refine ae (met (bK hE (hs.take (.there (.there (.there .here))))) ?_)
 clear hs
 rintro _ w ⟨rfl,hs⟩
 refine ⟨_,rfl,?_⟩
 refine gy ?_
 exact ak rfl ⟨pv,rfl,hs.to⟩
theorem mW {l:List bO} {safe:Bool} (hl:vA W0 3 v (dw l)) (hlen:l.length≤1048576) (hH:H.length≤1099511627776) (hp2:(aI H).length≤549755813888) (hs:Sat W0 (cJ hp H sf mb::F) w) :
 Calls Tryz.prog 56 #[au hp,v,.bool safe] w fun y w'=>y=.returned (.tuple #[])∧Sat W0 (cJ hp (H++[l]) (if safe=true then H.length+1 else sf) mb::F) w':=by
 refine enter Tryz.func56 rfl Tryz.ntmps56 Tryz.results56 rfl ?_
 refine gy ?_
 refine ae (met (sM hl (by omega) hs) ?_)
 clear hs
 rintro _ w ⟨u,rfl,hs⟩
 refine ⟨_,rfl,?_⟩
 have hs:=hs.yP
 obtain ⟨ua,uc,rfl,-⟩:=hs.oI
 obtain ⟨vb,vp,us,hu,hs⟩:=(hs.take (.there .here)).gD
 obtain ⟨ba,bc,rfl,-⟩:=(hs.take (.there .here)).ay
 have hs:=hs.to (a:=aE 1 (.slice ba H.length bc) 52 H.length us::blk hp 49 [.slice ba H.length bc,.int .i64 (sf:Int),.bool mb,vp]::j8 us H::bw vp (aI H)::gI (.slice ua l.length uc) l::F)
 refine gy ?_
 refine fw hs ?_
 clear hs
 intro w b8 hs
 refine dF hs ?_
 clear hs
 intro v2 w hs
 have hs:=hs.to (a:=blk hp 49 [.slice ba H.length bc,.int .i64 (sf:Int),.bool mb,vp]::gI (.slice ua l.length uc) l::bw vp (aI H)::aE 1 v2 52 (H.length+1) (us++[.slice ua l.length uc])::j8 us H::F)
 obtain ⟨ca,cc,rfl,-⟩:=(hs.take (.there (.there (.there .here)))).ay
 refine gy ?_
 refine bD hs ?_
 clear hs
 intro w hs
 refine gy ?_
 refine ae (met (ti (l:=l) (hs.eA (.there (.there .here)) (.there .here)) (by omega)) ?_)
 clear hs
 rintro _ w ⟨vp2,rfl,hs⟩
 refine ⟨_,rfl,?_⟩
 rw [rT l (jH H),← jG] at hs
 obtain ⟨da,dc,rfl,-⟩:=hs.fH
 have hs:=hs.to (a:=blk hp 49 [.slice ca (H.length+1) cc,.int .i64 (sf:Int),.bool mb,vp]::aE 1 (.slice ca (H.length+1) cc) 52 (H.length+1) (us++[.slice ua l.length uc])::j8 us H::gI (.slice ua l.length uc) l::bw (.slice da (aI (H++[l])).length dc) (aI (H++[l]))::F)
 refine gy ?_
 refine bD hs ?_
 clear hs
 intro w hs
 have hfin:∀ {sf:Nat} {w:World},Sat W0 (blk hp 49 [.slice ca (H.length+1) cc,.int .i64 (sf:Int),.bool mb,.slice da (aI (H++[l])).length dc]::aE 1 (.slice ca (H.length+1) cc) 52 (H.length+1) (us++[.slice ua l.length uc])::j8 us H::gI (.slice ua l.length uc) l::bw (.slice da (aI (H++[l])).length dc) (aI (H++[l]))::F) w→Sat W0 (cJ hp (H++[l]) sf mb::F) w:=fun {sf w} h=>by
  have h1:(us++[Value.slice ua l.length uc]).length=(H++[l]).length∧∀ u∈us++[Value.slice ua l.length uc],dD u=true:=⟨by simp [hu.1],fun u h2=>by
   rcases List.mem_append.1 h2 with h2|h2
   ·exact hu.2 u h2
   ·rw [List.mem_singleton.1 h2];rfl⟩
  have e:List.zipWith gI (us++[.slice ua l.length uc]) (H++[l])=List.zipWith gI us H++[gI (.slice ua l.length uc) l]:=List.zipWith_append hu.1
  refine Sat.eY (vb:=.slice ca (H.length+1) cc) (vp:=.slice da (aI (H++[l])).length dc) h1 ?_
  rw [List.length_append,List.length_singleton]
  have h3:=xF (h.to (a:=j8 us H::gI (.slice ua l.length uc) l::blk hp 49 [.slice ca (H.length+1) cc,.int .i64 (sf:Int),.bool mb,.slice da (aI (H++[l])).length dc]::aE 1 (.slice ca (H.length+1) cc) 52 (H.length+1) (us++[.slice ua l.length uc])::bw (.slice da (aI (H++[l])).length dc) (aI (H++[l]))::F))
  unfold j8
  rw [e]
  exact h3.to
 cases safe with
 | false=>
  refine gy ?_
  exact gB rfl ⟨rfl,hfin (sf:=sf) hs⟩
 | true=>
  refine gy ?_
  refine bD hs ?_
  clear hs
  intro w hs
  refine gy ?_
  exact gB rfl ⟨rfl,hfin (sf:=H.length+1) hs⟩
end
section
open Go.Proofs.YtecibefflhomdaaGreatDoor.Pure (ad bO aQ mZ)
attribute [local irreducible] IntKind.wrap
variable {W0 w:World} {F:List ah} {v:Value} {hp sf:Nat} {mb:Bool} {H:List (List bO)}
theorem Js:∀ (H:List (List bO)) (ps:List (Bs×Bs)),Pure.jS ps→(H.foldl mZ ps).length≤ps.length+total H
 | [],_,_=>by simp [total]
 | b::r,ps,h=>by
  have h1:=Js r (mZ ps b) (Pure.yb b h)
  have h2:(mZ ps b).length≤ps.length+b.length:=by rw [← rT b h];exact EB b ps
  have hq:total (b::r)=b.length+total r:=by simp [total]
  rw [List.foldl_cons];omega
theorem iL (H:List (List bO)):(aI H).length≤total H:=by have:=Js H [] List.Pairwise.nil;unfold aI;simpa using this
theorem Bg {i:Nat} {b:List bO} (h:H[i]?=some b):total (H.take (i+1))=total (H.take i)+b.length:=by
 rw [List.take_add_one,h];show total (_++[b])=_;rw [ku];simp [total]
theorem qV (H:List (List bO)) (i:Nat):total (H.take i)≤total H:=by
 have:=ku (H.take i) (H.drop i)
 rw [List.take_append_drop] at this;omega
theorem EP (us:List Value) (H:List (List bO)):∀ A∈List.zipWith gI us H,GU A:=fun A hA=>by
 obtain ⟨x,hx,rfl⟩:=List.mem_iff_getElem.1 hA
 rw [List.getElem_zipWith];exact D9 _ _ _
theorem prefix_at {pv:Value} {l:List (Bs×Bs)} {n:Nat} (hl:l=aI (H.take n)) (hsf:sf≤n) (hnl:n≤H.length) (hH:H.length≤1099511627776) (ht:total H≤1099511627776) (hs:Sat W0 (cJ hp H sf mb::bw pv l::F) w) :
 Calls Tryz.prog 55 #[au hp,pv] w fun y w'=>y=.returned (.bool true)∧Sat W0 (cJ hp H sf mb::bw pv l::F) w':=by
 obtain ⟨la,lc,rfl,-⟩:=(hs.take (.there .here)).fH
 obtain ⟨vb,vp,us,hu,hs⟩:=hs.gD
 obtain ⟨ba,bc,rfl,-⟩:=(hs.take (.there .here)).ay
 have hfin:∀ {w:World} {G:List ah},Sat W0 (blk hp 49 [.slice ba H.length bc,.int .i64 (sf:Int),.bool mb,vp]::aE 1 (.slice ba H.length bc) 52 H.length us::j8 us H::bw vp (aI H)::G) w→Sat W0 (cJ hp H sf mb::G) w:=fun h=>Sat.eY hu h
 have hll:=iL H
 have hle:l.length≤1099511627776:=by have:=iL (H.take n);have:=qV H n;rw [hl];omega
 refine enter Tryz.func55 rfl Tryz.ntmps55 Tryz.results55 rfl ?_
 refine gy ?_
 refine aL (α:=Nat×Value) (fun q=>[(0,au hp),(1,.slice la l.length lc),(5,q.2),(6,.int .i64 (q.1:Int))])
  (fun q w=>q.1≤n∧Sat W0 (bw q.2 (aI (H.take q.1))::blk hp 49 [.slice ba H.length bc,.int .i64 (sf:Int),.bool mb,vp]::aE 1 (.slice ba H.length bc) 52 H.length us::j8 us H::bw vp (aI H)::bw (.slice la l.length lc) l::F) w)
  (fun q=>H.length-q.1) (0,.slice none 0 0) ⟨rfl,rfl,rfl,rfl,trivial⟩ ⟨Nat.zero_le _,Sat.m8 hs (.inl rfl) (fun _=>rfl)⟩ ?_
 clear hs
 rintro ⟨i,pp⟩ w ⟨hi,hs⟩
 dsimp only at hi hs ⊢
 have hi':(i:Int)≤(H.length:Int):=by omega
 obtain ⟨pa,pc,rfl,-⟩:=hs.fH
 have hpl:(aI (H.take i)).length≤1099511627776:=by have:=iL (H.take i);have:=qV H i;omega
 have hs:=hs.to (a:=blk hp 49 [.slice ba H.length bc,.int .i64 (sf:Int),.bool mb,vp]::aE 1 (.slice ba H.length bc) 52 H.length us::bw (.slice pa (aI (H.take i)).length pc) (aI (H.take i))::j8 us H::bw vp (aI H)::bw (.slice la l.length lc) l::F)
 by_cases hge:(i:Int) ≥ (sf:Int)
 ·refine gy ?_
  refine ae (met (rW (by omega) (hs.eA (.there (.there (.there (.there (.there .here))))) (.there (.there .here)))) ?_)
  clear hs
  rintro _ w ⟨rfl,hs⟩
  refine ⟨_,rfl,?_⟩
  have hs:=hs.to (a:=blk hp 49 [.slice ba H.length bc,.int .i64 (sf:Int),.bool mb,vp]::aE 1 (.slice ba H.length bc) 52 H.length us::bw (.slice pa (aI (H.take i)).length pc) (aI (H.take i))::j8 us H::bw vp (aI H)::bw (.slice la l.length lc) l::F)
  by_cases heq:l=aI (H.take i)
  ·rw [decide_eq_true heq]
   refine gy ?_
   exact ak rfl ⟨rfl,hfin hs.to⟩
  ·have hltn:i<n:=by
    rcases Nat.lt_or_ge i n with h|h
    ·exact h
    ·exfalso
     have:i=n:=by omega
     rw [this] at heq
     exact heq hl
   have hlt:i<H.length:=by omega
   have hlt':(i:Int)<(H.length:Int):=by omega
   rw [decide_eq_false heq]
   refine gy ?_
   obtain ⟨b,hb⟩:∃ b,H[i]?=some b:=⟨_,List.getElem?_eq_getElem hlt⟩
   obtain ⟨u,hub⟩:∃ u,us[i]?=some u:=⟨_,List.getElem?_eq_getElem (by rw [hu.1];exact hlt)⟩
   have htk:=Bg hb
   have htk2:=qV H (i+1)
   have e1:aI (H.take (i+1))=mZ (aI (H.take i)) b:=by rw [List.take_add_one,hb];exact jG _ _
   have hdl:=iL (H.take i)
   obtain ⟨bq,cap,rs,hv,q1,q2,q3,h3⟩:=(hs.take (.there .here)).dV (by omega)
   have hs0:=fun (_:True)=>hs
   clear hs
   obtain ⟨rfl,_,rfl⟩:=Value.slice.inj hv
   have hcell:(us++rs)[0+i*1]?=some u:=by
    rw [Nat.zero_add,Nat.mul_one,List.getElem?_append_left (List.getElem?_eq_some_iff.1 hub).1];exact hub
   refine gy ?_
   have hs:=(hs0 trivial).take (.there (.there (.there .here)))
   clear hs0
   have hs:=hs.C1 (EP us H) (dm _ hub hb)
   refine ae (met (ti (l:=b) (hs.eA (.there (.there (.there (.there .here)))) .here) (by omega)) ?_)
   clear hs
   rintro _ w ⟨p2,rfl,hs⟩
   refine ⟨_,rfl,?_⟩
   rw [rT b (jH _),← e1] at hs
   refine gy ?_
   exact aB (i+1,p2) ⟨rfl,rfl,rfl,rfl,trivial⟩ ⟨by omega,hs.to⟩ (by dsimp only;omega)
 ·have hlt:i<H.length:=by omega
  have hlt':(i:Int)<(H.length:Int):=by omega
  refine gy ?_
  obtain ⟨b,hb⟩:∃ b,H[i]?=some b:=⟨_,List.getElem?_eq_getElem hlt⟩
  obtain ⟨u,hub⟩:∃ u,us[i]?=some u:=⟨_,List.getElem?_eq_getElem (by rw [hu.1];exact hlt)⟩
  have htk:=Bg hb
  have htk2:=qV H (i+1)
  have e1:aI (H.take (i+1))=mZ (aI (H.take i)) b:=by rw [List.take_add_one,hb];exact jG _ _
  have hdl:=iL (H.take i)
  obtain ⟨bq,cap,rs,hv,q1,q2,q3,h3⟩:=(hs.take (.there .here)).dV (by omega)
  have hs0:=fun (_:True)=>hs
  clear hs
  obtain ⟨rfl,_,rfl⟩:=Value.slice.inj hv
  have hcell:(us++rs)[0+i*1]?=some u:=by
   rw [Nat.zero_add,Nat.mul_one,List.getElem?_append_left (List.getElem?_eq_some_iff.1 hub).1];exact hub
  refine gy ?_
  have hs:=(hs0 trivial).take (.there (.there (.there .here)))
  clear hs0
  have hs:=hs.C1 (EP us H) (dm _ hub hb)
  refine ae (met (ti (l:=b) (hs.eA (.there (.there (.there (.there .here)))) .here) (by omega)) ?_)
  clear hs
  rintro _ w ⟨p2,rfl,hs⟩
  refine ⟨_,rfl,?_⟩
  rw [rT b (jH _),← e1] at hs
  refine gy ?_
  exact aB (i+1,p2) ⟨rfl,rfl,rfl,rfl,trivial⟩ ⟨by omega,hs.to⟩ (by dsimp only;omega)
end
section
open Go.Proofs.YtecibefflhomdaaGreatDoor.Pure (ad bO aQ mZ)
attribute [local irreducible] IntKind.wrap
variable {W0 w:World} {F:List ah} {v:Value} {x d hp:Nat} {o:ji} {D:ad}
theorem Sat.LG (h:Sat W0 (blk hp 49 [.slice none 0 0,.int .i64 0,.bool false,.slice none 0 0]::F) w):Sat W0 (cJ hp [] 0 false::F) w:=
 Sat.eY (us:=[]) ⟨rfl,fun u hu=>by cases hu⟩ ((Sat.cP (k:=1) (E:=52) (Sat.ln (Sat.m8 (k:=2) h (.inl rfl) (fun _=>rfl)))).to)
abbrev aJ (x d:Nat) (sv:Value) (o:ji) (hp:Nat):ah:=blk x 36 [au d,sv,.int .i64 (o.memory:Int),.int .i64 (o.tables:Int),au hp]
theorem qW {s:St} {v:Value} (h:Sat W0 (EL d o v (.ok s)::F) w):∃ b,v=au b∧Sat W0 (dh b d o false none s::F) w:=by
 obtain ⟨b',rfl,hs2⟩:=h.eI (φ:=fun b'=>v=au b') (B:=fun b'=>[dh b' d o false none s]) fun hp ⟨b',h1,h2⟩=>⟨b',h1,hp,fun _=>none,fun _ _ _ _ hy=>(by cases hy),Hp.le_refl _,fun _ _ hx=>(by cases hx),h2,trivial⟩
 exact ⟨b',rfl,hs2⟩
end
section
open Go.Proofs.YtecibefflhomdaaGreatDoor.Pure (ad bO aQ mZ aV)
attribute [local irreducible] IntKind.wrap
structure SS where
 x:Nat
 d:Nat
 b:Nat
 hp:Nat
 o:ji
 s:St
 D:ad
 H:List (List bO)
 sf:Nat
def sL (X:SS) (F:List ah):List ah:=aJ X.x X.d (au X.b) X.o X.hp::dh X.b X.d X.o false none X.s::ag X.d X.D::cJ X.hp X.H X.sf false::F
variable {W0 w:World} {F:List ah} {v:Value} {X:SS} {E B N:Nat}
end
section
open Go.Proofs.YtecibefflhomdaaGreatDoor.Pure (ad bO aQ mZ aV)
attribute [local irreducible] IntKind.wrap
variable {W0 w:World} {F:List ah} {v:Value} {X:SS} {E B N:Nat}
theorem yW (ps:List (Bs×Bs)):Pure.dW ps [] [] 0=ps:=by
 unfold Pure.dW Pure.x9
 have:ps.filter (fun p=>Pure.lf [] p.1&&Pure.k9 [] p.1)=ps:=List.filter_eq_self.2 fun p _=>by
  simp [Pure.lf,Pure.k9,Pure.zy]
 rw [this];simp
end
section
open Go.Proofs.YtecibefflhomdaaGreatDoor.Pure (ad bO aQ mZ aV)
attribute [local irreducible] IntKind.wrap
variable {W0 w:World} {F:List ah} {v:Value} {X:SS} {E B N:Nat}
theorem vA.toA {l:List bO} (h:vA W0 3 v (dw l)):∃ A:ah,Mv A 3 v (dw l)∧∀ {F:List ah} {w:World},Sat W0 F w→Sat W0 (A::F) w:=by
 by_cases hne:dw l=[]
 ·exact ⟨fun _=>True,⟨h.1,h.2.1,fun hh=>absurd hne hh⟩,fun hs=>hs.Oa⟩
 ·obtain ⟨b,o,c,rfl,h2⟩:=h.chunk hne (by decide)
  exact ⟨OJ b o (dw l).flatten,⟨h.1,h.2.1,fun _=>⟨b,o,c,rfl,fun W0 F w hs j u hu=>hs.MY hu⟩⟩,h2⟩
end
section
open Go.Proofs.YtecibefflhomdaaGreatDoor.Pure (ad bO aQ mZ aV)
attribute [local irreducible] IntKind.wrap
variable {W0 w:World} {F:List ah} {v:Value} {X:SS} {E B N:Nat} {o:ji}
def Jt (ds:List vB):Nat:=(ds.map fun o=>o.l.length).sum
theorem Ju {ds:List vB} {i:Nat} {x:vB} (h:ds[i]?=some x):Jt (ds.take (i+1))=Jt (ds.take i)+x.l.length:=yU (fun o:vB=>o.l.length) h
theorem Bh (ds:List vB) (i:Nat):Jt (ds.take i)≤Jt ds:=by
 have h:Jt ds=Jt (ds.take i)+Jt (ds.drop i):=by
  unfold Jt
  rw [← List.sum_append,← List.map_append,List.take_append_drop]
 omega
theorem Jv:∀ ds:List vB,Jt ds≤(ds.map JU).sum
 | []=>Nat.le_refl _
 | o::r=>by
  have h1:=Jv r
  have h2:o.l.length≤JU o:=yV qU (fun x=>by unfold qU;omega) o.l
  unfold Jt at h1 ⊢
  simp only [List.map_cons,List.sum_cons]
  omega
end
section
open Go.Proofs.YtecibefflhomdaaGreatDoor.Pure
def GH (x:Bs×Nat):Bs×Nat:=(x.1.take x.2,(x.1.take x.2).length)
def r7 (D:ad):ad:=⟨D.safe,D.safe,[],D.nodes.map fun p=>(p.1,if p.1∈D.safe.map (·.2) then GH p.2 else p.2),D.room,0,0,D.reads,D.most⟩
structure GI (D:ad):Prop where
 ids:(D.safe.map (·.2)).Nodup
 names:(D.safe.map (·.1)).Nodup
 cut:∀ p∈D.safe,∀ x,aA D.nodes p.2=some x→x.2≤x.1.length∧x.1.length≤1048576
 Lb:D.safe.length≤1000
 mvs:D.moves.length≤1000000
def ER (o:ji) (D:ad):Out St:=dS (oV D) fun s D=>if D.now.length≤1000∧(D.now.all fun p=>fJ s p.1)=true then j6 o s D else none
theorem Bi {o:ji} {D:ad} {r:Except cy St×ad} (h:ER o D=some r):j9 o D=some r:=by
 unfold ER at h
 unfold j9
 cases hl:oV D with
 | none=>rw [hl] at h;cases h
 | some q=>
  obtain ⟨x,D1⟩:=q
  rw [hl] at h
  cases x with
  | error e=>exact h
  | ok s=>
   have h:(if D1.now.length≤1000∧(D1.now.all fun p=>fJ s p.1)=true then j6 o s D1 else none)=some r:=h
   show dS (jk s D1) _=_
   split at h
   ·rename_i hk
    have hf:(fu D1).filter (fun n=>!fJ s n)=[]:=List.filter_eq_nil_iff.2 fun n hn=>by
     have h1:n∈D1.now.map (·.1):=(mU _).mem_iff.1 hn
     obtain ⟨p,hp,rfl⟩:=List.mem_map.1 h1
     rw [List.all_eq_true.1 hk.2 p hp];simp
    have hc:jk s D1=some (.ok s,D1):=by
     unfold jk
     rw [if_pos (by rw [bJ];omega),hf];rfl
    rw [hc];exact h
   ·cases h
def OP (D:ad):Bool:=decide (D.safe.map (·.2)).Nodup&&decide (D.safe.map (·.1)).Nodup&&(D.safe.all fun p=>match aA D.nodes p.2 with|none=>true|some x=>decide (x.2≤x.1.length∧x.1.length≤1048576))&&decide (D.safe.length≤1000)&&decide (D.moves.length≤1000000)
theorem M0 {D:ad} (h:OP D=true):GI D:=by
 unfold OP at h
 simp only [Bool.and_eq_true,decide_eq_true_eq,List.all_eq_true] at h
 obtain ⟨⟨⟨⟨h1,h2⟩,h3⟩,h4⟩,h5⟩:=h
 refine ⟨h1,h2,fun p hp x hx=>?_,h4,h5⟩
 have:=h3 p hp
 rw [hx] at this
 simpa using this
def mX:ji:=⟨4,2⟩
def yX:List bO:=[⟨[107],[118],false⟩]
def yY:List bO:=[⟨[108],[119],false⟩]
def vt {α:Type} (x:Out α) (k:α→ad→Bool):Bool:=match x with
 | some (.ok a,D)=>k a D
 | _=>false
theorem oa {α:Type} {x:Out α} {k:α→ad→Bool} (h:vt x k=true):∃ a D,x=some (.ok a,D)∧k a D=true:=by
 unfold vt at h
 split at h
 ·exact ⟨_,_,rfl,h⟩
 ·cases h
def M1:Bool:=vt (ER mX (dB 1099511627776)) fun s1 D1=>vt (kR mX s1 D1 yX true) fun s2 D2=>vt (kR mX s2 D2 yY false) fun _ D3=>
 OP D3&&vt (ER mX (r7 D3)) fun s4 D4=>decide ((cI s4).length≤1000∧s4.mem.length≤1000)&&vt (vL s4 D4 [107] aG) fun v _=>decide (v=some [118])
theorem GJ:M1=true:=by kernel_rfl
theorem M3:∃ s1 D1 s2 D2 s3 D3 s4 D4 D5,j9 mX (dB 1099511627776)=some (.ok s1,D1)∧kR mX s1 D1 yX true=some (.ok s2,D2)∧kR mX s2 D2 yY false=some (.ok s3,D3)∧GI D3 ∧
 j9 mX (r7 D3)=some (.ok s4,D4)∧((cI s4).length≤1000∧s4.mem.length≤1000)∧vL s4 D4 [107] aG=some (.ok (some [118]),D5):=by
 obtain ⟨s1,D1,e1,h1⟩:=oa GJ
 obtain ⟨s2,D2,e2,h2⟩:=oa h1
 obtain ⟨s3,D3,e3,h3⟩:=oa h2
 obtain ⟨h4,h5⟩:=Bool.and_eq_true_iff.1 h3
 obtain ⟨s4,D4,e4,h6⟩:=oa h5
 obtain ⟨h7,h8⟩:=Bool.and_eq_true_iff.1 h6
 obtain ⟨v,D5,e5,h9⟩:=oa h8
 rw [of_decide_eq_true h9] at e5
 exact ⟨s1,D1,s2,D2,s3,D3,s4,D4,D5,Bi e1,e2,e3,M0 h4,Bi e4,of_decide_eq_true h7,e5⟩
end
end Go.Proofs.YtecibefflhomdaaGreatDoor
