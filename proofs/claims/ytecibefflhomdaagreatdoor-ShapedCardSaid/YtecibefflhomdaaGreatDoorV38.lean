/-
  Part 38: WALKS the statements' small functions; WALKS the document's store; WALKS the document's Do, Check, Write, at, GetAt, ScanAt.
-/
import Derived.Test.YtecibefflhomdaaGreatDoorV37
set_option maxHeartbeats 8000000
set_option maxRecDepth 100000
set_option linter.all false
namespace Go.Proofs.YtecibefflhomdaaGreatDoor
open Go
section
open Go.Proofs.YtecibefflhomdaaGreatDoor.Pure (ae cG aR bE bB jh jf)
attribute [local irreducible] IntKind.wrap
variable {W0 w:World} {F:List ax} {v:Value} {ps:List (Bs×Bs)}
def EV (W0:World) (k:Nat) (v:Value) (rows:List (List Value)):Prop:=
 (∃ a c,v=.slice a rows.length c)∧(∀ r∈rows,r.length=k)∧(rows≠[]→∃ b o c,v=.slice (some ⟨b,o,none⟩) rows.length c∧∀ j u,rows.flatten[j]?=some u→W0.cell? ⟨b,o+j,none⟩=some u)
theorem EV.row {k:Nat} {rows:List (List Value)} (h:EV W0 k v rows) {i:Nat} {x:List Value} (hx:rows[i]?=some x):∃ b o c,v=.slice (some ⟨b,o,none⟩) rows.length c∧∀ j u,x[j]?=some u→W0.cell? ⟨b,o+i*k+j,none⟩=some u:=by
 obtain ⟨b,o,c,h1,h2⟩:=h.2.2 (fun h=>by rw [h] at hx;simp at hx)
 refine ⟨b,o,c,h1,fun j u hu=>?_⟩
 have:=(ie h.2.1 hx).at j u hu
 rw [Nat.add_assoc]
 exact h2 _ _ this
theorem EV.QL {l:List cG} {a:Option Addr} {n c:Nat} (h:EV W0 3 (.slice a n c) (dR l)) {i:Nat} (hi:i<l.length):∃ b o x,l[i]?=some x∧l.drop i=x::l.drop (i+1)∧a=some ⟨b,o,none⟩ ∧
 (∀ j u,(fQ x)[j]?=some u→W0.cell? ⟨b,o+i*3+j,none⟩=some u)∧W0.cell? ⟨b,o+i*3,none⟩=some (str x.key)∧W0.cell? ⟨b,o+i*3+1,none⟩=some (str x.val)∧W0.cell? ⟨b,o+i*3+2,none⟩=some (.bool x.del):=by
 have hg:l[i]?=some l[i]:=List.getElem?_eq_getElem hi
 obtain ⟨b,o,c,h1,h2⟩:=h.row (mD hg)
 injection h1 with h3 _ _
 exact ⟨b,o,l[i],hg,List.drop_eq_getElem_cons hi,h3,h2,h2 0 _ rfl,h2 1 _ rfl,h2 2 _ rfl⟩
theorem EV.wF {l:List cG} (h:EV W0 3 v (dR l)):∃ a c,v=.slice a l.length c:=by
 obtain ⟨a,c,h1⟩:=h.1
 rw [cY] at h1
 exact ⟨a,c,h1⟩
abbrev Pg (v:Value) (l:List cG):ax:=aL 3 v 137 l.length (dR l).flatten
theorem M6 (E:Nat) (l:List cG) (p:cG):aL 3 v E (l.length+1) ((dR l).flatten++fQ p)=aL 3 v E (l++[p]).length (dR (l++[p])).flatten:=by
 rw [List.length_append];simp [dR]
abbrev sF (v:Value) (l:List cG):ax:=gr 3 v (dR l)
theorem Sat.GC {l:List cG} (h:Sat W0 (Pg v l::F) w):Sat W0 (sF v l::F) w:=by
 have h1:Sat W0 (aL 3 v 137 (dR l).length (dR l).flatten::F) w:=by rw [cY];exact h
 exact h1.ku fun r hr=>by obtain ⟨x,_,rfl⟩:=List.mem_map.1 hr;rfl
theorem Sat.GD {l:List cG} (h:Sat W0 (sF v l::F) w):∃ a c,v=.slice a l.length c∧l.length≤c:=by
 obtain ⟨a,c,h1,h2⟩:=h.ix
 rw [cY] at h1 h2
 exact ⟨a,c,h1,h2⟩
theorem Sat.NV {l:List cG} {a:Option Addr} {c i:Nat} (hs:Sat W0 (sF (.slice a l.length c) l::F) w) (hi:i<l.length) :
 ∃ (z:rO) (x:cG),l[i]?=some x∧l.drop i=x::l.drop (i+1)∧a=some ⟨z.b,z.o,none⟩∧fS z.all (z.o+i*3) (fQ x)∧z.all[z.o+i*3]?=some (str x.key)∧z.all[z.o+i*3+1]?=some (str x.val)∧z.all[z.o+i*3+2]?=some (.bool x.del) ∧
  Sat W0 (ob true z.b (.cells z.all.toArray z.E (0,0))::sF (.slice a l.length c) l::F) w:=by
 have hg:l[i]?=some l[i]:=List.getElem?_eq_getElem hi
 have hs':Sat W0 (gr 3 (.slice a (dR l).length c) (dR l)::F) w:=by rw [cY];exact hs
 obtain ⟨z,h1,h2,h3⟩:=hs'.KI (mD hg)
 rw [cY] at h3
 exact ⟨z,l[i],hg,List.drop_eq_getElem_cons hi,h1,h2,h2.1,h2.2.1,h2.2.2.1,h3⟩
theorem tu {l:List cG} (hl:EV W0 3 v (dR l)) (hlen:l.length≤1099511627776) (hs:Sat W0 F w) :
 Calls Tryz.prog 31 #[v] w fun x w'=>∃ u,x=.returned u∧Sat W0 (Pg u l::F) w':=by
 obtain ⟨a,c,rfl⟩:=hl.wF
 refine enter Tryz.func31 rfl Tryz.ntmps31 Tryz.results31 rfl ?_
 refine gy ?_
 refine aJ (α:=Nat×Value) (fun z=>[(0,.slice a l.length c),(3,z.2),(4,.int .i64 (z.1:Int))])
  (fun z w=>z.1≤l.length∧Sat W0 (Pg z.2 (l.take z.1)::F) w) (fun z=>l.length-z.1) (0,.slice none 0 0) ⟨rfl,rfl,rfl,trivial⟩ ⟨Nat.zero_le _,Sat.cH (k:=3) (E:=137) hs⟩ ?_
 clear hs
 rintro ⟨i,vo⟩ w ⟨hi,hs⟩
 dsimp only at hi hs ⊢
 obtain ⟨ao,co,rfl,-⟩:=hs.aC
 by_cases hlt:i<l.length
 ·have hlt':(i:Int)<(l.length:Int):=by omega
  obtain ⟨b,o,x,hg,hd,rfl,-,c0,c1,c2⟩:=hl.QL hlt
  have htk:(l.take i).length=i:=by rw [List.length_take];omega
  refine gy ?_
  refine bu [] [5,10,15] (.q 0 (.q 1 (.q 2 (.q 3 (.q 4 (.s 5 (.q 6 (.q 7 (.q 8 (.q 9 (.s 10 (.q 11 (.q 12 (.q 13 (.q 14 (.s 15 (.q 16 (.l 17 (.l 18 (.q 19 .nil)))))))))))))))))))) hs (by kernel_rfl) ?_
  clear hs
  intro w hs
  refine gj ?_
  refine oq (fQ x) rfl ?_
  refine gj ?_
  refine ia (fQ x) hs ?_
  clear hs
  intro w b8 hs
  refine gy ?_
  refine cD hs.to ?_
  refine gj ?_
  refine dM hs ?_
  clear hs
  intro v2 w hs
  rw [M6] at hs
  refine gy ?_
  refine cD hs.to ?_
  refine gj ?_
  refine gy ?_
  have htk:l.take (i+1)=l.take i++[x]:=by rw [List.take_add_one,hg];rfl
  refine az (i+1,v2) ⟨rfl,rfl,rfl,trivial⟩ ⟨hlt,?_⟩ (by show l.length-(i+1)<l.length-i;omega)
  rw [htk]
  exact hs
 ·have hie:i=l.length:=by omega
  subst hie
  have hlt':¬ (l.length:Int)<(l.length:Int):=by omega
  rw [List.take_length] at hs ⊢
  refine gy ?_
  exact ah rfl ⟨_,rfl,hs⟩
theorem mJ {va vb:Value} {a b:List (Bs×Bs)} (ha:a.length≤1099511627776) (hs:Sat W0 (aG va a::aG vb b::F) w) :
 Calls Tryz.prog 33 #[va,vb] w fun x w'=>x=.returned (.bool (decide (a=b)))∧Sat W0 (aG va a::aG vb b::F) w':=by
 obtain ⟨aa,ca,rfl,-⟩:=hs.iU
 obtain ⟨ab,cb,rfl,-⟩:=(hs.take (.there .here)).iU
 refine enter Tryz.func33 rfl Tryz.ntmps33 Tryz.results33 rfl ?_
 by_cases hlen:a.length=b.length
 ·have hlen':¬ ((a.length:Int)≠(b.length:Int)):=by omega
  refine gy ?_
  refine aJ (α:=Nat) (fun i=>[(0,.slice aa a.length ca),(1,.slice ab b.length cb),(5,.int .i64 (i:Int))])
   (fun i w=>(i≤a.length∧decide (a.drop i=b.drop i)=decide (a=b))∧Sat W0 (aG (.slice aa a.length ca) a::aG (.slice ab b.length cb) b::F) w) (fun i=>a.length-i) 0 ⟨rfl,rfl,rfl,trivial⟩ ⟨⟨Nat.zero_le _,by rw [List.drop_zero,List.drop_zero]⟩,hs⟩ ?_
  clear hs
  rintro i w ⟨⟨hi,hl⟩,hs⟩
  by_cases hlt:i<a.length
  ·have hlt':(i:Int)<(a.length:Int):=by omega
   have hlt2:i<b.length:=by omega
   obtain ⟨z,p,hg,hd,rfl,hseg,c0,c1,h2⟩:=hs.CA hlt
   clear hs
   obtain ⟨z2,p2,hg2,hd2,rfl,hseg2,c2,c3,h3⟩:=(h2.take (.there (.there .here))).CA hlt2
   clear h2
   rw [hd,hd2] at hl
   have hs:Sat W0 (ob true z.b (.cells z.all.toArray z.E (0,0))::ob true z2.b (.cells z2.all.toArray z2.E (0,0))::aG (.slice (some ⟨z.b,z.o,none⟩) a.length ca) a::aG (.slice (some ⟨z2.b,z2.o,none⟩) b.length cb) b::F) w:=h3.to
   clear h3
   refine gy ?_
   refine bu [ob true z.b (.cells z.all.toArray z.E (0,0)),ob true z2.b (.cells z2.all.toArray z2.E (0,0))] [4,9,16,21] (.q 0 (.q 1 (.q 2 (.q 3 (.s 4 (.q 5 (.q 6 (.q 7 (.q 8 (.s 9 (.q 10 (.q 11 (.q 12 (.q 13 (.q 14 (.q 15 (.s 16 (.q 17 (.q 18 (.q 19 (.q 20 (.s 21 (.q 22 (.q 23 .nil)))))))))))))))))))))))) hs (by kernel_rfl) ?_
   clear hs
   intro w hs
   by_cases h1:p.1=p2.1
   ·have h1':¬ (p.1≠p2.1):=by simpa using h1
    by_cases h2:p.2=p2.2
    ·have h2':¬ (p.2≠p2.2):=by simpa using h2
     have hp:p=p2:=Prod.ext h1 h2
     subst hp
     refine gj ?_
     refine gy ?_
     exact az (i+1) ⟨rfl,rfl,rfl,trivial⟩ ⟨⟨hlt,by rw [← hl];simp⟩,hs.to⟩ (by show a.length-(i+1)<a.length-i;omega)
    ·have h2':p.2≠p2.2:=h2
     refine gj ?_
     refine gy ?_
     have hne:a≠b:=fun e=>by
      subst e;rw [hg] at hg2;exact h2 (by rw [Option.some.inj hg2])
     exact ah rfl ⟨by rw [decide_eq_false hne];rfl,hs.to⟩
   ·have h1':p.1≠p2.1:=h1
    refine gj ?_
    refine gy ?_
    have hne:a≠b:=fun e=>by
     subst e;rw [hg] at hg2;exact h1 (by rw [Option.some.inj hg2])
    exact ah rfl ⟨by rw [decide_eq_false hne];rfl,hs.to⟩
  ·have hie:i=a.length:=by omega
   subst hie
   have hlt':¬ (a.length:Int)<(a.length:Int):=by omega
   refine gy ?_
   refine ah rfl ⟨?_,hs⟩
   rw [← hl,List.drop_length,hlen,List.drop_length];rfl
 ·have hlen':((a.length:Int)≠(b.length:Int)):=by omega
  refine gy ?_
  have hne:a≠b:=fun e=>hlen (by rw [e])
  exact ah rfl ⟨by rw [decide_eq_false hne];rfl,hs⟩
theorem eJ {k:Int} (hs:Sat W0 F w):Calls Tryz.prog 65 #[.int .i64 k] w fun x w'=>x=.returned (.int .i64 k)∧Sat W0 F w':=by
 refine enter Tryz.func65 rfl Tryz.ntmps65 Tryz.results65 rfl ?_
 refine gy ?_
 exact ah rfl ⟨rfl,hs⟩
end
section
open Go.Proofs.YtecibefflhomdaaGreatDoor.Pure (ae cG aR bE bB jh jf)
attribute [local irreducible] IntKind.wrap
variable {W0 w:World} {F:List ax} {v:Value} {ps:List (Bs×Bs)} {rb:Nat} {r:mM}
theorem wG:∀ (l:List ax) {r:List ax} {h:Hp},cL (l++r) h→cL r h
 | [],_,_,k=>k
 | _::l,_,_,k=>wG l (kB k)
theorem yR:∀ {l:List ax} {i:Nat} {A:ax},l[i]?=some A→∀ {r:List ax} {h:Hp},cL (l++r) h→cL (A::r) h
 | [],_,_,hi,_,_,_=>by simp at hi
 | B::l,0,A,hi,r,h,k=>by
  simp at hi;subst hi
  exact cZ (fun _=>wG l) k
 | B::l,i+1,A,hi,r,h,k=>by
  simp at hi
  exact yR hi (kB k)
theorem CB {A':ax} (hA:∀ h,A' h):∀ {l:List ax} {i:Nat} {h:Hp},cL l h→cL (l.set i A') h
 | [],_,_,k=>k
 | _::_,0,_,k=>rF (fun h _=>hA h) k
 | _::_,_+1,_,k=>cZ (fun _ k=>CB hA k) k
theorem Sat.EW {l:List ax} {i:Nat} {A:ax} (hl:∀ A∈l,F6 A) (hi:l[i]?=some A) (hs:Sat W0 (star l::F) w):Sat W0 (A::star l::F) w:=by
 have h2:=Sat.od (vV hl) hs
 exact h2.imp fun h k=>yR hi (dD k)
theorem wH {α β γ:Type} {f:α→β→γ}:∀ {a:List α} {b:List β} {x:γ},x∈List.zipWith f a b→∃ u y,u∈a∧y∈b∧x=f u y
 | [],_,_,h=>by simp at h
 | _::_,[],_,h=>by simp at h
 | u::a,y::b,x,h=>by
  rw [List.zipWith_cons_cons,List.mem_cons] at h
  rcases h with rfl|h
  ·exact ⟨u,y,by simp,by simp,rfl⟩
  ·obtain ⟨u',y',h1,h2,h3⟩:=wH h
   exact ⟨u',y',by simp [h1],by simp [h2],h3⟩
theorem nq {α β γ:Type} (f:α→β→γ):∀ (a:List α) (b:List β) (i:Nat) (x:α) (y:β),List.zipWith f (a.set i x) (b.set i y)=(List.zipWith f a b).set i (f x y)
 | [],_,i,_,_=>by simp
 | _::_,[],i,_,_=>by simp
 | _::a,_::b,0,_,_=>rfl
 | _::a,_::b,i+1,x,y=>by simp [nq f a b i x y]
theorem oF {k:Nat} {x:List Value} (hx:x.length=k):∀ (rows:List (List Value)) (i:Nat),(∀ r∈rows,r.length=k)→i<rows.length→dk rows.flatten (i*k) x=(rows.set i x).flatten
 | [],_,_,h=>by simp at h
 | r::rows,0,hk,_=>by
  have hr:r.length=k:=hk r (by simp)
  have e:dk ((r::rows).flatten) (0*k) x=x++rows.flatten:=by
   unfold dk
   rw [Nat.zero_mul,Nat.zero_add,hx,← hr];simp
  rw [e];simp
 | r::rows,i+1,hk,hi=>by
  have hr:r.length=k:=hk r (by simp)
  have ih:=oF hx rows i (fun r hr=>hk r (by simp [hr])) (by simpa using hi)
  rw [List.set_cons_succ,List.flatten_cons,List.flatten_cons,← ih]
  unfold dk
  have e1:(i+1)*k=r.length+i*k:=by rw [hr,Nat.succ_mul,Nat.add_comm]
  rw [e1,List.take_length_add_append,Nat.add_assoc,List.drop_length_add_append]
  simp
def PB (u:Value):Option (List (Bs×Bs))→ax
 | some ps=>aG u ps
 | none=>fun _=>True
theorem M7 (u:Value) (x:Option (List (Bs×Bs))):F6 (PB u x):=by
 cases x with
 | none=>exact fun _ _=>trivial
 | some ps=>exact ui _ _ _
def yS (u:Value) (x:Option (List (Bs×Bs))):List Value:=[.bool x.isSome,u]
abbrev fw (us:List Value) (l:List (Option (List (Bs×Bs)))):List (List Value):=List.zipWith yS us l
abbrev tT (v:Value) (us:List Value) (l:List (Option (List (Bs×Bs)))):ax:=aL 2 v 177 l.length (fw us l).flatten
abbrev pk (us:List Value) (l:List (Option (List (Bs×Bs)))):ax:=star (List.zipWith PB us l)
abbrev Ph (rb:Nat) (vp vs:Value) (us:List Value) (r:mM):List ax:=[blk rb 88 [vp,vs,.bool r.closed],aG vp r.pairs,tT vs us r.snaps,pk us r.snaps]
def eS (rb:Nat) (r:mM):ax:=fun h=>∃ (vp vs:Value) (us:List Value),(us.length=r.snaps.length∧∀ u∈us,df u=true)∧cL (Ph rb vp vs us r) h
theorem Sat.jD (h:Sat W0 (eS rb r::F) w):∃ (vp vs:Value) (us:List Value),(us.length=r.snaps.length∧∀ u∈us,df u=true)∧Sat W0 (blk rb 88 [vp,vs,.bool r.closed]::aG vp r.pairs::tT vs us r.snaps::pk us r.snaps::F) w:=by
 obtain ⟨⟨vp,vs,us⟩,hu,hs⟩:=h.e9 (φ:=fun z:Value×Value×List Value=>z.2.2.length=r.snaps.length∧∀ u∈z.2.2,df u=true) (B:=fun z=>Ph rb z.1 z.2.1 z.2.2 r) fun hp ⟨vp,vs,us,h1,h2⟩=>⟨⟨vp,vs,us⟩,h1,h2⟩
 exact ⟨vp,vs,us,hu,hs⟩
theorem Sat.dK {vp vs:Value} {us:List Value} (hu:us.length=r.snaps.length∧∀ u∈us,df u=true) (h:Sat W0 (blk rb 88 [vp,vs,.bool r.closed]::aG vp r.pairs::tT vs us r.snaps::pk us r.snaps::F) w):Sat W0 (eS rb r::F) w:=
 Sat.close (B:=Ph rb vp vs us r) h fun hp k=>⟨vp,vs,us,hu,k⟩
theorem oG (us:List Value) (l:List (Option (List (Bs×Bs)))):∀ r∈fw us l,r.length=2:=fun r hr=>by
 obtain ⟨x,y,_,_,rfl⟩:=wH hr
 rfl
theorem sG {us:List Value} {l:List (Option (List (Bs×Bs)))} {i:Nat} {u:Value} {x:Option (List (Bs×Bs))} (h1:us[i]?=some u) (h2:l[i]?=some x):(fw us l).flatten[0+i*2]?=some (.bool x.isSome)∧(fw us l).flatten[0+i*2+1]?=some u:=by
 have h3:(fw us l)[i]?=some (yS u x):=by rw [List.getElem?_zipWith,h1,h2]
 have h4:=ie (oG us l) h3
 rw [Nat.zero_add]
 exact ⟨h4.1,h4.2.1⟩
theorem nt (us:List Value) (l:List (Option (List (Bs×Bs)))) (h:us.length=l.length):(fw us l).length=l.length:=by simp [h]
def Qn (x:Except cx (Option Bs)):Value:=.tuple #[str (MR x),.bool (P7 x),.int .i64 (gC (cU x):Int)]
def xn (r:mM) (key:Bs):Except cx (Option Bs):=if r.closed=true then .error (none,6) else lZ r.pairs key
theorem Io {key:Bs} (hp:r.pairs.length≤1099511627776) (hs:Sat W0 (eS rb r::F) w) :
 Calls Tryz.prog 129 #[ay rb,str key] w fun x w'=>x=.returned (Qn (xn r key))∧Sat W0 (eS rb r::F) w':=by
 obtain ⟨vp,vs,us,hu,hs⟩:=hs.jD
 refine enter Tryz.func129 rfl Tryz.ntmps129 Tryz.results129 rfl ?_
 unfold xn
 generalize hc:r.closed=cl at hs
 cases cl with
 | true=>
  refine gy ?_
  exact ah rfl ⟨rfl,Sat.dK hu (by rw [hc];exact hs)⟩
 | false=>
  refine gy ?_
  refine ag (met (tq (hs.take (.there .here)) hp) ?_)
  clear hs
  rintro _ w ⟨rfl,hs⟩
  refine ⟨_,rfl,?_⟩
  refine gy ?_
  exact ah rfl ⟨rfl,Sat.dK hu (by rw [hc];exact hs.to)⟩
def kr (r:mM) (lo hi:Bs) (limit:Int):Except cx (List (Bs×Bs)):=if r.closed=true then .error (none,6) else .ok (bB r.pairs lo hi limit)
theorem ny {lo hi:Bs} {limit:Int} (hp:r.pairs.length≤1099511627776) (hs:Sat W0 (eS rb r::F) w) :
 Calls Tryz.prog 130 #[ay rb,str lo,str hi,.int .i64 limit] w fun x w'=>∃ u,x=.returned (.tuple #[u,.int .i64 (gC (cU (kr r lo hi limit)):Int)])∧Sat W0 (aG u (xh (kr r lo hi limit))::eS rb r::F) w':=by
 obtain ⟨vp,vs,us,hu,hs⟩:=hs.jD
 refine enter Tryz.func130 rfl Tryz.ntmps130 Tryz.results130 rfl ?_
 unfold kr
 generalize hc:r.closed=cl at hs
 cases cl with
 | true=>
  refine gy ?_
  exact ah rfl ⟨_,rfl,Sat.j7 (Sat.dK hu (by rw [hc];exact hs)) (.inl rfl) (fun _=>rfl)⟩
 | false=>
  refine gy ?_
  refine ag (met (rm (hs.take (.there .here)) hp) ?_)
  clear hs
  rintro _ w ⟨u,rfl,hs⟩
  refine ⟨_,rfl,?_⟩
  have hs:=hs.Am
  refine gy ?_
  refine ah rfl ⟨_,rfl,?_⟩
  have h2:=Sat.dK (F:=aG u (bB r.pairs lo hi limit)::F) hu (by rw [hc];exact hs.to)
  exact h2.to
theorem tw (hs:Sat W0 (eS rb r::F) w) :
 Calls Tryz.prog 76 #[ay rb] w fun x w'=>x=.returned (.int .i64 (if r.closed=true then 6 else 0))∧Sat W0 (eS rb { r with closed:=true }::F) w':=by
 obtain ⟨vp,vs,us,hu,hs⟩:=hs.jD
 refine enter Tryz.func76 rfl Tryz.ntmps76 Tryz.results76 rfl ?_
 generalize hc:r.closed=cl at hs
 cases cl with
 | true=>
  refine gy ?_
  exact ah rfl ⟨rfl,Sat.dK (r:={ r with closed:=true }) hu hs⟩
 | false=>
  refine gy ?_
  refine bK hs ?_
  clear hs
  intro w hs
  refine gy ?_
  exact ah rfl ⟨rfl,Sat.dK (r:={ r with closed:=true }) hu hs⟩
theorem EX (hs:Sat W0 (eS rb r::F) w) :
 Calls Tryz.prog 128 #[ay rb] w fun x w'=>∃ rb',x=.returned (ay rb')∧Sat W0 (eS rb' ⟨r.pairs,[],false⟩::F) w':=by
 obtain ⟨vp,vs,us,hu,hs⟩:=hs.jD
 obtain ⟨a,c,rfl,-⟩:=(hs.take (.there .here)).iU
 refine enter Tryz.func128 rfl Tryz.ntmps128 Tryz.results128 rfl ?_
 refine gy ?_
 refine bz [.slice a r.pairs.length c,.slice none 0 0,.bool false] ?_
 refine bR hs ?_
 clear hs
 intro w rb' hs
 refine gy ?_
 refine ah rfl ⟨_,rfl,?_⟩
 have h2:=Sat.cH (k:=2) (E:=177) hs
 have h3:Sat W0 (pk [] []::blk rb' 88 [.slice a r.pairs.length c,.slice none 0 0,.bool false]::aG (.slice a r.pairs.length c) r.pairs::aL 2 (.slice none 0 0) 177 0 []::F) w:=by
  have h4:Sat W0 (blk rb' 88 [.slice a r.pairs.length c,.slice none 0 0,.bool false]::aG (.slice a r.pairs.length c) r.pairs::aL 2 (.slice none 0 0) 177 0 []::F) w:=h2.to
  exact h4.imp fun hp k=>cT (a:=[]) k
 exact Sat.dK (r:=⟨r.pairs,[],false⟩) (us:=[]) ⟨rfl,by simp⟩ h3.to
end
section
open Go.Proofs.YtecibefflhomdaaGreatDoor.Pure (ae cG aR bE bB jh jf)
attribute [local irreducible] IntKind.wrap
variable {W0 w:World} {F:List ax} {v:Value} {ps:List (Bs×Bs)} {rb:Nat} {r:mM}
theorem M8 {vc:Value} {l:List cG} (hs:Sat W0 (aG v ps::sF vc l::F) w) (hp:ps.length+l.length≤1099511627776) :
 Calls Tryz.prog 21 #[v,vc] w fun x w'=>∃ u,x=.returned u∧Sat W0 (aG u (K4 ps l)::sF vc l::F) w':=by
 obtain ⟨a,c,rfl,-⟩:=(hs.take (.there .here)).GD
 refine enter Tryz.func21 rfl Tryz.ntmps21 Tryz.results21 rfl ?_
 refine gy ?_
 refine aJ (α:=Nat×List (Bs×Bs)×Value) (fun z=>[(0,z.2.2),(1,.slice a l.length c),(5,.int .i64 (z.1:Int))])
  (fun z w=>(z.1≤l.length∧z.2.1.length≤ps.length+z.1∧K4 z.2.1 (l.drop z.1)=K4 ps l)∧Sat W0 (aG z.2.2 z.2.1::sF (.slice a l.length c) l::F) w) (fun z=>l.length-z.1) (0,ps,v) ⟨rfl,rfl,rfl,trivial⟩ ⟨⟨Nat.zero_le _,Nat.le_refl _,by rw [List.drop_zero]⟩,hs⟩ ?_
 clear hs
 rintro ⟨i,p,vp⟩ w ⟨⟨hi,hpl,hl⟩,hs⟩
 dsimp only at hi hpl hl hs ⊢
 by_cases hlt:i<l.length
 ·have hlt':(i:Int)<(l.length:Int):=by omega
  obtain ⟨z,x,hg,hd,rfl,hseg,c0,c1,c2,h2⟩:=(hs.take (.there .here)).NV hlt
  clear hs
  have hs:Sat W0 (aG vp p::ob true z.b (.cells z.all.toArray z.E (0,0))::sF (.slice (some ⟨z.b,z.o,none⟩) l.length c) l::F) w:=h2.to
  clear h2
  rw [hd] at hl
  refine gy ?_
  refine ag (met (Im hs (by omega)) ?_)
  clear hs
  rintro _ w ⟨u,rfl,hs⟩
  refine ⟨_,rfl,?_⟩
  have hs:=hs.Am
  have hlen:=wD x.key x.val p x.del
  have hlen:(ju x.key x.val x.del p).length≤ps.length+(i+1):=by split at hlen<;>omega
  refine gy ?_
  exact az (i+1,ju x.key x.val x.del p,u) ⟨rfl,rfl,rfl,trivial⟩ ⟨⟨hlt,hlen,hl⟩,hs.to⟩ (by show l.length-(i+1)<l.length-i;omega)
 ·have hie:i=l.length:=by omega
  subst hie
  have hlt':¬ (l.length:Int)<(l.length:Int):=by omega
  rw [List.drop_length] at hl
  have hl:p=K4 ps l:=hl
  subst hl
  refine gy ?_
  exact ah rfl ⟨_,rfl,hs⟩
theorem EY {vc:Value} {l:List cG} (hlen:l.length≤1099511627776) (hs:Sat W0 (sF vc l::F) w) :
 Calls Tryz.prog 85 #[vc] w fun x w'=>x=.returned (.int .i64 (lx l:Int))∧Sat W0 (sF vc l::F) w':=by
 obtain ⟨a,c,rfl,-⟩:=hs.GD
 refine enter Tryz.func85 rfl Tryz.ntmps85 Tryz.results85 rfl ?_
 unfold lx
 by_cases h8:8<l.length
 ·have h8':(l.length:Int) > 8:=by omega
  rw [if_pos h8]
  refine gy ?_
  exact ah rfl ⟨rfl,hs⟩
 ·have h8':¬ (l.length:Int) > 8:=by omega
  rw [if_neg h8]
  refine gy ?_
  refine aJ (α:=Nat) (fun i=>[(0,.slice a l.length c),(3,.int .i64 (i:Int))])
   (fun i w=>(i≤l.length∧sD (l.drop i)=sD l)∧Sat W0 (sF (.slice a l.length c) l::F) w) (fun i=>l.length-i) 0 ⟨rfl,rfl,trivial⟩ ⟨⟨Nat.zero_le _,by rw [List.drop_zero]⟩,hs⟩ ?_
  clear hs
  rintro i w ⟨⟨hi,hl⟩,hs⟩
  by_cases hlt:i<l.length
  ·have hlt':(i:Int)<(l.length:Int):=by omega
   obtain ⟨z,x,hg,hd,rfl,hseg,c0,c1,c2,h2⟩:=hs.NV hlt
   clear hs
   rw [hd] at hl
   have hl:(if x.key.length=0∨8<x.key.length then 3 else if x.del=false∧16<x.val.length then 4 else sD (l.drop (i+1)))=sD l:=hl
   by_cases h1:(x.key.length:Int)=0
   ·rw [if_pos (.inl (by omega))] at hl
    refine gy ?_
    exact ah rfl ⟨by rw [← hl];rfl,h2.drop⟩
   ·by_cases h3:(x.key.length:Int) > 8
    ·rw [if_pos (.inr (by omega))] at hl
     refine gy ?_
     exact ah rfl ⟨by rw [← hl];rfl,h2.drop⟩
    ·rw [if_neg (by omega)] at hl
     cases hdel:x.del with
     | true=>
      rw [hdel] at c2 hl
      rw [if_neg (by simp)] at hl
      refine gy ?_
      exact az (i+1) ⟨rfl,rfl,trivial⟩ ⟨⟨hlt,hl⟩,h2.drop⟩ (by show l.length-(i+1)<l.length-i;omega)
     | false=>
      rw [hdel] at c2 hl
      by_cases h4:(x.val.length:Int) > 16
      ·rw [if_pos ⟨rfl,by omega⟩] at hl
       refine gy ?_
       exact ah rfl ⟨by rw [← hl];rfl,h2.drop⟩
      ·rw [if_neg (by omega)] at hl
       refine gy ?_
       exact az (i+1) ⟨rfl,rfl,trivial⟩ ⟨⟨hlt,hl⟩,h2.drop⟩ (by show l.length-(i+1)<l.length-i;omega)
  ·have hie:i=l.length:=by omega
   subst hie
   have hlt':¬ (l.length:Int)<(l.length:Int):=by omega
   rw [List.drop_length] at hl
   refine gy ?_
   exact ah rfl ⟨by rw [← hl];rfl,hs⟩
def lM (r:mM) (l:List cG):Nat:=if r.closed=true then 6 else lx l
def ly (r:mM) (l:List cG):mM:=if r.closed=true then r else if lx l=0 then { r with pairs:=K4 r.pairs l } else r
theorem tz {vc:Value} {l:List cG} (hp:r.pairs.length+l.length≤1099511627776) (hs:Sat W0 (eS rb r::sF vc l::F) w) :
 Calls Tryz.prog 70 #[ay rb,vc] w fun x w'=>x=.returned (.int .i64 (lM r l:Int))∧Sat W0 (eS rb (ly r l)::F) w':=by
 obtain ⟨vp,vs,us,hu,hs⟩:=hs.jD
 refine enter Tryz.func70 rfl Tryz.ntmps70 Tryz.results70 rfl ?_
 unfold lM ly
 generalize hc:r.closed=cl at hs
 cases cl with
 | true=>
  refine gy ?_
  refine ah rfl ⟨rfl,Sat.dK (r:=r) hu (by rw [hc];exact hs.to)⟩
 | false=>
  refine gy ?_
  refine ag (met (EY (by omega) (hs.take (.there (.there (.there (.there .here)))))) ?_)
  clear hs
  rintro _ w ⟨rfl,hs⟩
  refine ⟨_,rfl,?_⟩
  simp only [Bool.false_eq_true,if_false]
  by_cases h0:lx l=0
  ·have h0':(lx l:Int)=0:=by omega
   rw [if_pos h0]
   refine gy ?_
   refine ag (met (M8 (hs.to (a:=aG vp r.pairs::sF vc l::blk rb 88 [vp,vs,.bool false]::tT vs us r.snaps::pk us r.snaps::F)) hp) ?_)
   clear hs
   rintro _ w ⟨u,rfl,hs⟩
   refine ⟨_,rfl,?_⟩
   obtain ⟨au,cu,rfl,-⟩:=hs.iU
   refine gy ?_
   refine bK hs ?_
   clear hs
   intro w hs
   refine gy ?_
   refine ah rfl ⟨rfl,?_⟩
   exact Sat.dK (r:=⟨K4 r.pairs l,r.snaps,false⟩) (vp:=.slice au (K4 r.pairs l).length cu) hu hs.to
  ·have h0':¬ (lx l:Int)=0:=by omega
   rw [if_neg h0]
   refine gy ?_
   exact ah rfl ⟨rfl,Sat.dK hu (by rw [hc];exact hs.to)⟩
def wY (r:mM) (n:Int):Except cx (List (Bs×Bs)):=if r.closed=true then .error (none,6) else match il r n with
 | none=>.error (none,5)
 | some ps=>.ok ps
theorem wI {n:Int} (hs:Sat W0 (eS rb r::F) w) :
 Calls Tryz.prog 137 #[ay rb,.int .i64 n] w fun x w'=>∃ u,x=.returned (.tuple #[u,.int .i64 (gC (cU (wY r n)):Int)])∧Sat W0 (aG u (xh (wY r n))::eS rb r::F) w':=by
 obtain ⟨vp,vs,us,hu,hs⟩:=hs.jD
 refine enter Tryz.func137 rfl Tryz.ntmps137 Tryz.results137 rfl ?_
 obtain ⟨aas,cs,rfl,hcs1,hcs2⟩:=(hs.take (.there (.there .here))).aC
 have hsn:r.snaps.length≤9223372036854775807:=by simp only [maxLen] at hcs2;omega
 have hno:∀ k:Nat,Sat W0 (blk rb 88 [vp,.slice aas r.snaps.length cs,.bool r.closed]::aG vp r.pairs::tT (.slice aas r.snaps.length cs) us r.snaps::pk us r.snaps::F) w →
  Sat W0 (aG (.slice none 0 0) []::eS rb r::F) w:=fun k h=>Sat.j7 (Sat.dK hu h) (.inl rfl) (fun _=>rfl)
 unfold wY
 generalize hc:r.closed=cl at hs hno
 cases cl with
 | true=>
  refine gy ?_
  exact ah rfl ⟨_,rfl,hno 0 hs⟩
 | false=>
  simp only [Bool.false_eq_true,if_false]
  unfold il
  by_cases h1:n<1
  ·rw [if_neg (by omega)]
   refine gy ?_
   exact ah rfl ⟨_,rfl,hno 0 hs⟩
  ·by_cases h2:n > (r.snaps.length:Int)
   ·rw [if_neg (by omega)]
    refine gy ?_
    exact ah rfl ⟨_,rfl,hno 0 hs⟩
   ·rw [if_pos (by omega)]
    obtain ⟨i,hi⟩:∃ i:Nat,n=(i:Int)+1:=⟨(n-1).toNat,by omega⟩
    subst hi
    have hlt:i<r.snaps.length:=by omega
    have hi2:((i:Int)+1)-1=(i:Int):=by omega
    have e1:((i:Int)+1-1).toNat=i:=by omega
    rw [e1,List.getD_eq_getElem?_getD]
    have hg:r.snaps[i]?=some r.snaps[i]:=List.getElem?_eq_getElem hlt
    have hgu:us[i]?=some (us[i]'(by omega)):=List.getElem?_eq_getElem (by omega)
    rw [hg]
    generalize r.snaps[i]=x at hg
    generalize us[i]'(by omega)=u at hgu
    obtain ⟨e2,e3⟩:=sG hgu hg
    obtain ⟨bs,cap,rest,hv,q1,q2,q3,h3⟩:=(hs.take (.there (.there .here))).dw (by omega)
    clear hs
    obtain ⟨rfl,_,rfl⟩:=Value.slice.inj hv
    have e2':((fw us r.snaps).flatten++rest)[0+i*2]?=some (.bool x.isSome):=by
     rw [List.getElem?_append_left (List.getElem?_eq_some_iff.1 e2).1];exact e2
    have e3':((fw us r.snaps).flatten++rest)[0+i*2+1]?=some u:=by
     rw [List.getElem?_append_left (List.getElem?_eq_some_iff.1 e3).1];exact e3
    have hs:Sat W0 (blk bs 177 ((fw us r.snaps).flatten++rest)::blk rb 88 [vp,.slice (some ⟨bs,0,none⟩) r.snaps.length cs,.bool false]::aG vp r.pairs::pk us r.snaps::F) w:=h3.to
    have hback:∀ w,Sat W0 (blk bs 177 ((fw us r.snaps).flatten++rest)::blk rb 88 [vp,.slice (some ⟨bs,0,none⟩) r.snaps.length cs,.bool false]::aG vp r.pairs::pk us r.snaps::F) w →
     Sat W0 (blk rb 88 [vp,.slice (some ⟨bs,0,none⟩) r.snaps.length cs,.bool false]::aG vp r.pairs::tT (.slice (some ⟨bs,0,none⟩) r.snaps.length cs) us r.snaps::pk us r.snaps::F) w:=by
     intro w h
     have hcl:=Sat.dg (k:=2) (len:=r.snaps.length) h q1 q2 q3 (by rw [ic (oG us r.snaps),nt us r.snaps hu.1]) (fun y hy=>by
      obtain ⟨row,hr,hy⟩:=List.mem_flatten.1 hy
      obtain ⟨i,hi⟩:=List.mem_iff_getElem?.1 hr
      obtain ⟨x1,y1,hx1,hy1,rfl⟩:=wH hr
      simp [yS] at hy
      rcases hy with rfl|rfl
      ·rfl
      ·exact hu.2 _ hx1)
     exact hcl.to
    clear h3
    cases x with
    | none=>
     refine gy ?_
     exact ah rfl ⟨_,rfl,hno 0 (hback _ hs)⟩
    | some ps=>
     refine gy ?_
     have h4:=hback _ hs
     have h5:=Sat.EW (i:=i) (A:=PB u (some ps)) (fun A hA=>by obtain ⟨x1,y1,_,_,rfl⟩:=wH hA;exact M7 _ _) (by rw [List.getElem?_zipWith,hgu,hg]) (h4.take (.there (.there (.there .here))))
     refine ah rfl ⟨_,rfl,?_⟩
     have h6:Sat W0 (aG u ps::blk rb 88 [vp,.slice (some ⟨bs,0,none⟩) r.snaps.length cs,.bool false]::aG vp r.pairs::tT (.slice (some ⟨bs,0,none⟩) r.snaps.length cs) us r.snaps::pk us r.snaps::F) w:=h5.to
     have h7:=Sat.dK (F:=aG u ps::F) hu (by rw [hc];exact h6.to)
     exact h7.to
end
end Go.Proofs.YtecibefflhomdaaGreatDoor
