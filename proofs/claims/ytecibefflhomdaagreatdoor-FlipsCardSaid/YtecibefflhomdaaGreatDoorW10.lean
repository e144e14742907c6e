/-
  Part 10: The engine 15 append of one element; WALKS package api; WALKS package api; WALKS package api; WALKS package api; WALKS package api; WALKS package api.
-/
import Derived.Test.YtecibefflhomdaaGreatDoorW09
set_option maxHeartbeats 8000000
set_option maxRecDepth 100000
set_option linter.all false
namespace Go.Proofs.YtecibefflhomdaaGreatDoor
open Go
section
variable {ops:Array Oper} {Q:Exit→Act→World→Prop} {n:Nat} {ds:Md} {e:Env} {w w':World} {rest:List Oper}
variable {op:Op} {ty:TypeId} {pos:String} {af:Array Edge} {d:Nat} {v u:Value} {W0:World} {l l' r r':List ah}
theorem eA {x y:Operand} {t k E len by_ b c:Nat} {cs news z:List Value} (hs:Sat W0 l w) (kk:∀ v' w',Sat W0 (aI k v' E (len+1) (cs++news)::r') w'→WL ops Q n ds rest ((d,v')::e) w')
 (hx:ev e x=some v:=by rfl) (hy:ev e y=some (.slice (some ⟨b,0,none⟩) 1 c):=by rfl) (ht:lk cY t=some E:=by rfl) (hsz:lk cS E=some k:=by rfl) (hby:lk qU E=some by_:=by rfl) (hz:lk jh E=some z:=by rfl) (hzl:z.length=k:=by rfl)
 (tk:Take (aI k v E len cs) l r:=by repeat (first|exact Take.here|apply Take.there)) (tk':Take (blk b E news) r r':=by repeat (first|exact Take.here|apply Take.there))
 (hn:news.length=1*k:=by rfl) (h1:news.all ej=true:=by rfl) (hd:Nat.blt d n=true:=by rfl) (hm:len+1≤maxLen:=by simp only [maxLen];omega) (hb:(len+1)*by_≤140737488355328:=by omega) :
 WL ops Q n ds (⟨some d,.call { callee:=.builtin .append,args:=#[x,y],argTypes:=#[t,t] },ty,pos,af,none⟩::rest) e w:=by
 have hs2:=hs.fG tk tk'
 refine od hs2 hx hy .here (BA (all:=news) ht (.there .here) hn (fun j u hu=>by simpa using hu) (List.all_eq_true.1 h1)) ht hsz hby hz hzl hm hb hd fun v' w' h=>kk v' w' ?_
 exact h.imp fun _ k=>du (fun _=>j5) k
theorem iT {parts:Array (Nat×Operand)} {t E k len:Nat} {ps:List (Nat×Value)} {z:List Value} (cs:List Value) (hs:Sat W0 l w)
 (kk:∀ w' b,Sat W0 (blk b E cs::l) w'→WL ops Q n ds rest ((d,.slice (some ⟨b,0,none⟩) len len)::e) w')
 (hp:za e parts.toList=some ps:=by rfl) (ht:lk cY t=some E:=by rfl) (hsz:lk cS E=some k:=by rfl) (hz:lk jh E=some z:=by rfl)
 (hzz:Nat.beq z.length 0=false:=by rfl) (hsmall:Nat.ble (len*k) 1000=true:=by rfl) (hf:mV (fun i=>some (i*k,k)) ((List.range (len*k)).map fun i=>z.getD (i%z.length) undef) ps=some cs:=by rfl) (hd:Nat.blt d n=true:=by rfl) :
 WL ops Q n ds (⟨some d,.buildSlice t len parts,ty,pos,af,none⟩::rest) e w:=G0 hs hp ht hsz hz hzz hsmall hf hd kk
end
section
variable {W0 w:World} {l:List ah}
theorem Sat.zu {A:ah} {B:List ah} (h:Sat W0 (star B::A::l) w):Sat W0 (star (B++[A])::l) w:=by
 refine h.imp fun hp k=>?_
 have k2:cR (B++([A]++l)) hp:=dw k
 rw [← List.append_assoc] at k2
 exact dx k2
theorem Sat.tQ {A:ah} {B:List ah} (h:Sat W0 (A::star B::l) w):Sat W0 (star (A::B)::l) w:=by
 refine h.imp fun hp k=>?_
 have k2:cR ((A::B)++l) hp:=du (fun _=>dw) k
 exact dx k2
theorem Sat.mD (h:Sat W0 l w):Sat W0 (star []::l) w:=h.imp fun hp k=>dx (a:=[]) k
theorem Dt {A:ah} {B C:List ah} {hp:Hp}:cR (star (B++A::C)::l) hp↔cR (A::star (B++C)::l) hp:=by
 have tk:∀ (B:List ah) (r:List ah),Take A (B++A::r) (B++r):=by
  intro B
  induction B with
  | nil=>intro r;exact .here
  | cons x B ih=>intro r;exact .there (ih r)
 constructor
 ·intro k
  have k1:=dw k
  rw [List.append_assoc,List.cons_append] at k1
  have k2:=(tk B (C++l)).to k1
  refine du (fun _ k=>?_) k2
  rw [← List.append_assoc] at k
  exact dx k
 ·intro k
  have k2:cR (A::(B++(C++l))) hp:=du (fun _ k=>by have:=dw k;rwa [List.append_assoc] at this) k
  have k1:=(tk B (C++l)).back k2
  rw [← List.cons_append,← List.append_assoc] at k1
  exact dx k1
theorem Sat.fL {A:ah} {B C:List ah} (h:Sat W0 (star (B++A::C)::l) w):Sat W0 (A::star (B++C)::l) w:=h.imp fun _=>Dt.1
theorem Sat.gu {A:ah} {B C:List ah} (h:Sat W0 (A::star (B++C)::l) w):Sat W0 (star (B++A::C)::l) w:=h.imp fun _=>Dt.2
end
section
open Go.Proofs.YtecibefflhomdaaGreatDoor.Pure (ad ax bZ ew fu)
attribute [local irreducible] IntKind.wrap
variable {W0 w:World} {F l:List ah} {v:Value} {d:Nat} {D:ad}
theorem Sat.wi {ms:List (List (Bs×Option Nat))} (h:Sat W0 (ei v ms::F) w):∃ vs,vs.length=ms.length∧Sat W0 ([aI 1 v 143 ms.length vs,star (List.zipWith yW vs ms)]++F) w:=h.fg fun hp ⟨vs,h1,k⟩=>⟨vs,h1,k⟩
theorem Sat.mE {ms:List (List (Bs×Option Nat))} {vs:List Value} (h1:vs.length=ms.length) (h:Sat W0 (aI 1 v 143 ms.length vs::star (List.zipWith yW vs ms)::F) w):Sat W0 (ei v ms::F) w:=Sat.close (B:=[aI 1 v 143 ms.length vs,star (List.zipWith yW vs ms)]) h fun hp k=>⟨vs,h1,k⟩
abbrev named (D:ad) (mvs:List (Bs×Option Nat)):ad:={ D with now:=fu D.now mvs,moves:=D.moves++[mvs] }
theorem rh {z:DV} {mvs:List (Bs×Option Nat)} (hs:Sat W0 (yW v mvs::fB d z D++F) w) (hl:mvs.length<1000) (hm:D.moves.length≤1099511627776) :
 Calls Tryz.prog 140 #[au d,v] w fun x w'=>x=.returned (.tuple #[])∧∃ mv',Sat W0 (fB d ⟨z.bn,z.bs,mv'⟩ (named D mvs)++F) w':=by
 obtain ⟨b,c0,rfl⟩:∃ b c,v=.slice (some ⟨b,0,none⟩) mvs.length c:=hs.fT fun _ ⟨b,c,h,_⟩=>⟨b,c,h⟩
 dsimp only [fB,aU,List.cons_append,List.nil_append] at hs
 refine enter Tryz.func140 rfl Tryz.ntmps140 Tryz.results140 rfl ?_
 refine go ?_
 refine ae (met (zt (kvs:=D.now) (mvs:=mvs) (F:=[blk d 111 (aU z D),aO bP z.bs (aJ D.safe),ei z.mv D.moves,star (D.nodes.map di)]++F) hs.to hl) ?_)
 rintro _ w ⟨rfl,hs⟩
 refine ⟨_,rfl,go ?_⟩
 dsimp only [List.cons_append,List.nil_append] at hs
 obtain ⟨vs,hvs,hs⟩:=(hs.take (.there (.there (.there (.there .here))))).wi
 dsimp only [List.cons_append,List.nil_append] at hs
 obtain ⟨a2,c2,hmv,-⟩:=hs.aB
 refine fy hs fun w b1 hs=>?_
 refine eA hs fun mv' w hs=>?_
 refine go ?_
 obtain ⟨a,c,rfl,_⟩:=hs.aB
 refine bI hs fun w hs=>?_
 refine go ?_
 have e1:List.zipWith yW (vs++[.slice (some ⟨b,0,none⟩) mvs.length c0]) (D.moves++[mvs])=List.zipWith yW vs D.moves++[yW (.slice (some ⟨b,0,none⟩) mvs.length c0) mvs]:=by
  rw [List.zipWith_append hvs];rfl
 have h2:=(hs.fG (.there .here) (.there (.there .here))).zu
 rw [← e1] at h2
 have h3:Sat W0 (ei (.slice a (D.moves.length+1) c) (D.moves++[mvs])::aO bP z.bn (aJ (fu D.now mvs))::blk d 111 ((aU z D).set (0+2) (.slice a (D.moves.length+1) c))::aO bP z.bs (aJ D.safe)::star (D.nodes.map di)::F) w:=
  Sat.mE (vs:=vs++[.slice (some ⟨b,0,none⟩) mvs.length c0]) (by simp [hvs]) (by rw [List.length_append];exact h2.take (.there .here))
 exact gE rfl ⟨rfl,.slice a (D.moves.length+1) c,h3.to⟩
theorem JR {p:Nat×(Bs×Nat)} {h:Hp} (k:di p h):∃ o,h p.1=some (false,o):=by
 obtain ⟨v,h1,_,_,l1,_,ha,_⟩:=k
 exact ⟨_,l1 _ _ ha⟩
theorem zw:∀ {ns:List (Nat×(Bs×Nat))} {h:Hp},cR (ns.map di) h→∀ p∈ns,∃ o,h p.1=some (false,o)
 | q::ns,h,⟨h1,h2,_,l1,l2,ha,r⟩,p,hp=>by
  rcases List.mem_cons.1 hp with rfl|hp
  ·obtain ⟨o,ho⟩:=JR ha;exact ⟨o,l1 _ _ ho⟩
  ·obtain ⟨o,ho⟩:=zw r p hp;exact ⟨o,l2 _ _ ho⟩
theorem Sat.fresh {b:Nat} {o:Obj} {ns:List (Nat×(Bs×Nat))} (h:Sat W0 (ob false b o::star (ns.map di)::F) w):ax ns b=none:=by
 cases hg:ax ns b with
 | none=>rfl
 | some x=>
  obtain ⟨_,_,_,_,hp,_,_,h1,h2,ff,_,_,ha,h3,h4,_,l3,_,hb,_⟩:=h
  obtain ⟨o',ho⟩:=zw hb _ (Pure.dI hg)
  have:=(ff b _ _ ha (l3 _ _ ho)).2
  cases this
theorem Sat.JS {i:Nat} (h:Sat W0 (blk i 116 [.slice none 0 0,.int .i64 0]::F) w):Sat W0 (di (i,([],0))::F) w:=by
 have h2:=(Sat.tF h).take (.there .here)
 exact Sat.close (B:=[blk i 116 [.slice none 0 0,.int .i64 0],cg (.slice none 0 0) []]) h2 fun hp k=>⟨_,k⟩
def JU (D:ad) (n:Bs) (e:Option (Option Bs×Nat)) (D':ad):Prop:=
 (D.dT=true∧e=some (some n,8)∧D'=D.tick)∨(D.dT=false∧(ax D.now n).isSome=true∧e=some (some n,11)∧D'=D.tick) ∨
 (D.dT=false∧ax D.now n=none∧e=none∧∃ i,ax D.nodes i=none∧D'=D.tick.created n i)
theorem zx {n:Bs} (hs:Sat W0 (dL d D::F) w) (hm:D.moves.length≤1099511627776) :
 Calls Tryz.prog 78 #[au d,str n] w fun x w'=>∃ ve e D',x=.returned ve∧JU D n e D'∧Sat W0 (dL d D'::aL ve e::F) w':=by
 refine enter Tryz.func78 rfl Tryz.ntmps78 Tryz.results78 rfl ?_
 refine go ?_
 refine ae (met (o8 hs) ?_)
 rintro _ w ⟨rfl,hs⟩
 refine ⟨_,rfl,?_⟩
 cases ht:D.dT with
 | true=>
  refine go ?_
  refine bw [str n,.int .i64 8] ?_
  refine cC hs fun w b hs=>?_
  refine go ?_
  exact ak rfl ⟨_,_,_,rfl,.inl ⟨ht,rfl,rfl⟩,hs.o7.to⟩
 | false=>
  obtain ⟨hok,z,hs⟩:=hs.eL
  dsimp only [fB,aU,List.cons_append,List.nil_append] at hs
  have hl:=k9 D.tick.now n
  rw [Pure.ad.cP] at hl
  refine go ?_
  refine lL bP (k:=n) hs (.there .here) rfl rfl rfl sV rfl ?_
  rw [Pure.ad.cP,hl]
  cases hg:ax D.now n with
  | some j=>
   refine go ?_
   refine bw [str n,.int .i64 11] ?_
   refine cC hs fun w b hs=>?_
   refine go ?_
   exact ak rfl ⟨_,_,_,rfl,.inr (.inl ⟨ht,by simp [hg],rfl,rfl⟩),Sat.cz (z:=z) hok hs.o7.to⟩
  | none=>
   refine go ?_
   refine bw [.slice none 0 0,.int .i64 0] ?_
   refine cC hs fun w i hs=>?_
   refine bw [str n,au i] ?_
   refine iT [str n,au i] hs fun w b hs=>?_
   have hfree:ax D.tick.nodes i=none:=Sat.fresh ((hs.take (.there .here)).fG .here (.there (.there (.there (.there (.there .here))))))
   have h2:Sat W0 (yW (.slice (some ⟨b,0,none⟩) 1 1) [(n,some i)]::blk i 116 [.slice none 0 0,.int .i64 0]::fB d z D.tick++F) w:=hs.share.head fun hp k=>⟨b,1,rfl,k⟩
   have hok':=Pure.ad.Ok.created hok hfree (by rw [Pure.ad.cP];exact hg)
   refine go ?_
   refine ae (met (rh (F:=blk i 116 [.slice none 0 0,.int .i64 0]::F) h2.to (by simp) (by rw [Pure.ad.jl];omega)) ?_)
   rintro _ w ⟨rfl,mv',hs⟩
   refine ⟨_,rfl,go ?_⟩
   dsimp only [fB,aU,List.cons_append,List.nil_append] at hs
   have h3:=(((hs.take (.there (.there (.there (.there (.there .here)))))).JS).fG .here (.there (.there (.there (.there .here))))).tQ
   refine ak rfl ⟨_,_,_,rfl,.inr (.inr ⟨ht,hg,rfl,i,by rw [← Pure.ad.eg];exact hfree,rfl⟩),Sat.cz (z:=⟨z.bn,z.bs,mv'⟩) hok' ?_⟩
   exact h3.dW.to
end
section
open Go.Proofs.YtecibefflhomdaaGreatDoor.Pure (ad ax bZ ew fu)
attribute [local irreducible] IntKind.wrap
variable {W0 w:World} {F l:List ah} {v:Value} {d:Nat} {D:ad}
theorem Sat.aV {e:cy} (h:Sat W0 (aL v (some e)::F) w):∃ t u,v=.iface t u:=h.fT fun _ k=>by
 obtain ⟨s,n⟩:=e
 cases s with
 | none=>exact ⟨_,_,k⟩
 | some s=>obtain ⟨b,k,_⟩:=k;exact ⟨_,_,k⟩
theorem Sat.cD {v:Value} (h:Sat W0 (aL v none::F) w):v=.nilIface:=h.fT fun _ k=>k
theorem r9:∀ {ns:List (Nat×(Bs×Nat))} {i:Nat} {x:Bs×Nat},ax ns i=some x→∃ a b,ns=a++(i,x)::b∧∀ y,bZ ns i y=a++(i,y)::b
 | (k,v)::r,i,x,h=>by
  unfold ax at h
  by_cases hk:i=k
  ·subst hk;simp at h;subst h;exact ⟨[],r,rfl,fun y=>by simp [bZ]⟩
  ·simp only [hk,if_false] at h
   obtain ⟨a,b,h1,h2⟩:=r9 h
   exact ⟨(k,v)::a,b,by rw [h1];rfl,fun y=>by simp only [bZ,hk,if_false,h2 y];rfl⟩
theorem Sat.jN {ns:List (Nat×(Bs×Nat))} {i:Nat} {x:Bs×Nat} (hg:ax ns i=some x) (h:Sat W0 (star (ns.map di)::F) w) :
 ∃ B C v,ns.map di=B++di (i,x)::C∧(∀ y,(bZ ns i y).map di=B++di (i,y)::C)∧Sat W0 (blk i 116 [v,.int .i64 (x.2:Int)]::cg v x.1::star (B++C)::F) w:=by
 obtain ⟨a,b,h1,h2⟩:=r9 hg
 have e1:ns.map di=a.map di++di (i,x)::b.map di:=by rw [h1];simp
 rw [e1] at h
 obtain ⟨v,_,hs⟩:=h.fL.fg (φ:=fun _:Value=>True) (B:=fun v=>[blk i 116 [v,.int .i64 (x.2:Int)],cg v x.1]) fun hp ⟨v,k⟩=>⟨v,trivial,k⟩
 exact ⟨a.map di,b.map di,v,e1,fun y=>by rw [h2];simp,hs⟩
theorem Sat.jC {i:Nat} {y:Bs×Nat} {B C:List ah} (h:Sat W0 (blk i 116 [v,.int .i64 (y.2:Int)]::cg v y.1::star (B++C)::F) w):Sat W0 (star (B++di (i,y)::C)::F) w:=
 (Sat.close (B:=[blk i 116 [v,.int .i64 (y.2:Int)],cg v y.1]) h fun hp k=>⟨v,k⟩).gu
theorem j8 {n:Bs} (h:bg D n=none):D.dT=false∧∃ i,ax D.now n=some i∧nB D n=au i:=by
 unfold bg at h
 split at h
 ·cases h
 ·rename_i ht
  split at h
  ·cases h
  ·rename_i i hi
   exact ⟨by simpa using ht,i,hi,by simp [nB,ht,hi]⟩
theorem E1 {n:Bs} (hs:Sat W0 (dL d D::F) w) :
 Calls Tryz.prog 160 #[au d,str n] w fun x w'=>∃ ve,x=.returned (.tuple #[.int .i64 (match bg D n with|some _=>0|none=>match ax D.now n with|some i=>((D.aE i).length:Int)|none=>0),ve])∧Sat W0 (dL d D.tick::aL ve (bg D n)::F) w':=by
 refine enter Tryz.func160 rfl Tryz.ntmps160 Tryz.results160 rfl ?_
 refine go ?_
 refine ae (met (find_spec (n:=n) hs) ?_)
 rintro _ w ⟨ve,rfl,hs⟩
 refine ⟨_,rfl,?_⟩
 cases he:bg D n with
 | some e=>
  rw [he] at hs
  obtain ⟨t,u,rfl⟩:=(hs.take (.there .here)).aV
  refine go ?_
  exact ak rfl ⟨_,rfl,hs⟩
 | none=>
  rw [he] at hs
  obtain ⟨ht,i,hi,hp⟩:=j8 he
  have hve:=(hs.take (.there .here)).cD
  subst hve
  rw [hp,hi]
  obtain ⟨hok,z,hs⟩:=hs.eL
  dsimp only [fB,aU,List.cons_append,List.nil_append] at hs
  obtain ⟨x,hx⟩:=hok.tH (n:=n) (by rw [Pure.ad.cP];exact hi)
  obtain ⟨B,C,v,e1,e2,hs⟩:=(hs.take (.there (.there (.there (.there .here))))).jN hx
  obtain ⟨a,c,hv,-⟩:=(hs.take (.there .here)).aB
  subst hv
  have hd:D.aE i=x.1:=by unfold ad.aE;rw [← Pure.ad.eg,hx]
  dsimp only
  rw [hd]
  refine go ?_
  refine ak rfl ⟨_,rfl,Sat.cz (z:=z) hok ?_⟩
  have h2:=hs.jC (y:=x)
  rw [← e1] at h2
  exact h2.to
theorem E3 {n:Bs} (hs:Sat W0 (dL d D::F) w) :
 Calls Tryz.prog 86 #[au d,str n] w fun x w'=>∃ ve,x=.returned ve∧Sat W0 (dL d (gI D n fun i=>D.tick.laid i (D.aE i,(D.aE i).length))::aL ve (bg D n)::F) w':=by
 refine enter Tryz.func86 rfl Tryz.ntmps86 Tryz.results86 rfl ?_
 refine go ?_
 refine ae (met (find_spec (n:=n) hs) ?_)
 rintro _ w ⟨ve,rfl,hs⟩
 refine ⟨_,rfl,?_⟩
 unfold gI
 cases he:bg D n with
 | some e=>
  rw [he] at hs
  obtain ⟨t,u,rfl⟩:=(hs.take (.there .here)).aV
  refine go ?_
  exact ak rfl ⟨_,rfl,hs⟩
 | none=>
  rw [he] at hs
  obtain ⟨ht,i,hi,hp⟩:=j8 he
  have hve:=(hs.take (.there .here)).cD
  subst hve
  rw [hp,hi]
  obtain ⟨hok,z,hs⟩:=hs.eL
  dsimp only [fB,aU,List.cons_append,List.nil_append] at hs
  obtain ⟨x,hx⟩:=hok.tH (n:=n) (by rw [Pure.ad.cP];exact hi)
  obtain ⟨B,C,v,e1,e2,hs⟩:=(hs.take (.there (.there (.there (.there .here))))).jN hx
  obtain ⟨a,c,hv,-⟩:=(hs.take (.there .here)).aB
  subst hv
  have hd:D.aE i=x.1:=by unfold ad.aE;rw [← Pure.ad.eg,hx]
  have hd2:D.tick.aE i=x.1:=by rw [Pure.ad.iw,hd]
  dsimp only
  rw [hd]
  have hok':(D.tick.laid i (x.1,x.1.length)).Ok:=hok.laid (Nat.le_trans (Pure.ad.gR (k:=0) hok (by rw [hd2];rfl)) hok.used)
  refine go ?_
  refine bI hs fun w hs=>?_
  refine go ?_
  refine ak rfl ⟨_,rfl,Sat.cz (z:=z) hok' ?_⟩
  have h2:=hs.jC (y:=(x.1,x.1.length))
  rw [← e2] at h2
  exact h2.to
theorem zy {n:Bs} (hs:Sat W0 (dL d D::F) w) (hm:D.moves.length≤1099511627776) :
 Calls Tryz.prog 77 #[au d,str n] w fun x w'=>∃ ve,x=.returned ve∧Sat W0 (dL d (gI D n fun _=>D.tick.fC n)::aL ve (bg D n)::F) w':=by
 refine enter Tryz.func77 rfl Tryz.ntmps77 Tryz.results77 rfl ?_
 refine go ?_
 refine ae (met (find_spec (n:=n) hs) ?_)
 rintro _ w ⟨ve,rfl,hs⟩
 refine ⟨_,rfl,?_⟩
 unfold gI
 cases he:bg D n with
 | some e=>
  rw [he] at hs
  obtain ⟨t,u,rfl⟩:=(hs.take (.there .here)).aV
  refine go ?_
  exact ak rfl ⟨_,rfl,hs⟩
 | none=>
  rw [he] at hs
  obtain ⟨ht,i,hi,hp⟩:=j8 he
  have hve:=(hs.take (.there .here)).cD
  subst hve
  rw [hp,hi]
  obtain ⟨hok,z,hs⟩:=hs.eL
  dsimp only [fB,aU,List.cons_append,List.nil_append] at hs
  refine go ?_
  refine bw [str n,.pointer none] ?_
  refine iT [str n,.pointer none] hs fun w b hs=>?_
  have h2:Sat W0 (yW (.slice (some ⟨b,0,none⟩) 1 1) [(n,none)]::fB d z D.tick++(aL .nilIface none::F)) w:=hs.share.head fun hp k=>⟨b,1,rfl,k⟩
  refine go ?_
  refine ae (met (rh h2 (by simp) (by rw [Pure.ad.jl];omega)) ?_)
  rintro _ w ⟨rfl,mv',hs⟩
  refine ⟨_,rfl,go ?_⟩
  exact ak rfl ⟨_,rfl,Sat.cz (z:=⟨z.bn,z.bs,mv'⟩) (hok.fC n) hs⟩
theorem zA {n m:Bs} (hs:Sat W0 (dL d D::F) w) (hm:D.moves.length≤1099511627776) :
 Calls Tryz.prog 177 #[au d,str n,str m] w fun x w'=>∃ ve,x=.returned ve∧Sat W0 (dL d (gI D n fun i=>if n=m then D.tick else D.tick.renamed n m i)::aL ve (bg D n)::F) w':=by
 refine enter Tryz.func177 rfl Tryz.ntmps177 Tryz.results177 rfl ?_
 refine go ?_
 refine ae (met (find_spec (n:=n) hs) ?_)
 rintro _ w ⟨ve,rfl,hs⟩
 refine ⟨_,rfl,?_⟩
 unfold gI
 cases he:bg D n with
 | some e=>
  rw [he] at hs
  obtain ⟨t,u,rfl⟩:=(hs.take (.there .here)).aV
  refine go ?_
  exact ak rfl ⟨_,rfl,hs⟩
 | none=>
  rw [he] at hs
  obtain ⟨ht,i,hi,hp⟩:=j8 he
  have hve:=(hs.take (.there .here)).cD
  subst hve
  rw [hp,hi]
  by_cases hnm:n=m
  ·have hnn:¬ n≠m:=fun h=>h hnm
   dsimp only
   rw [if_pos hnm]
   refine go ?_
   exact ak rfl ⟨_,rfl,hs⟩
  ·have hnn:n≠m:=hnm
   dsimp only
   rw [if_neg hnm]
   obtain ⟨hok,z,hs⟩:=hs.eL
   dsimp only [fB,aU,List.cons_append,List.nil_append] at hs
   refine go ?_
   refine bw [str m,au i] ?_
   refine go ?_
   refine bw [str n,.pointer none] ?_
   refine iT [str m,au i,str n,.pointer none] hs fun w b hs=>?_
   have h2:Sat W0 (yW (.slice (some ⟨b,0,none⟩) 2 2) [(m,some i),(n,none)]::fB d z D.tick++(aL .nilIface none::F)) w:=hs.share.head fun hp k=>⟨b,2,rfl,k⟩
   refine go ?_
   refine ae (met (rh h2 (by simp) (by rw [Pure.ad.jl];omega)) ?_)
   rintro _ w ⟨rfl,mv',hs⟩
   refine ⟨_,rfl,go ?_⟩
   exact ak rfl ⟨_,rfl,Sat.cz (z:=⟨z.bn,z.bs,mv'⟩) (hok.renamed hnm (by rw [Pure.ad.cP];exact hi)) hs⟩
end
section
open Go.Proofs.YtecibefflhomdaaGreatDoor.Pure (ad ax bZ ew fu)
attribute [local irreducible] IntKind.wrap
variable {W0 w:World} {F l:List ah} {v:Value} {d:Nat} {D:ad}
theorem iU:∀ {ns:List (Bs×Nat)} {l1 l2:List (Bs×Value)} {x:Bs×Value},aJ ns=l1++x::l2→∃ a p b,ns=a++p::b∧x=(p.1,au p.2)∧l1++l2=aJ (a++b)
 | [],l1,l2,x,h=>by cases l1<;>simp [aJ] at h
 | q::ns,[],l2,x,h=>by
  simp only [aJ,List.map_cons,List.nil_append,List.cons.injEq] at h
  exact ⟨[],q,ns,rfl,h.1.symm,by simp [aJ,← h.2]⟩
 | q::ns,y::l1,l2,x,h=>by
  simp only [aJ,List.map_cons,List.cons_append,List.cons.injEq] at h
  obtain ⟨a,p,b,h1,h2,h3⟩:=iU (ns:=ns) h.2
  exact ⟨q::a,p,b,by rw [h1];rfl,h2,by simp only [List.cons_append,aJ,List.map_cons];rw [h3,← h.1];rfl⟩
theorem zB {n bs:Bs} {vb:Value} (hs:Sat W0 (dL d D::cg vb bs::F) w) :
 Calls Tryz.prog 79 #[au d,str n,vb] w fun x w'=>∃ ve,x=.returned ve∧Sat W0 (dL d (bR D n bs)::cg vb bs::aL ve (dK D n bs)::F) w':=by
 obtain ⟨ab,cb,hvb,hcb⟩:=(hs.take (.there .here)).aB
 subst hvb
 have hcb1:bs.length≤9223372036854775807:=by have:=hcb.1;have:=hcb.2;simp only [maxLen] at this;omega
 refine enter Tryz.func79 rfl Tryz.ntmps79 Tryz.results79 rfl ?_
 refine go ?_
 refine ae (met (find_spec (n:=n) hs) ?_)
 rintro _ w ⟨ve,rfl,hs⟩
 refine ⟨_,rfl,?_⟩
 unfold bR dK
 cases he:bg D n with
 | some e=>
  rw [he] at hs
  obtain ⟨t,u,rfl⟩:=(hs.take (.there .here)).aV
  refine go ?_
  exact ak rfl ⟨_,rfl,hs.to⟩
 | none=>
  rw [he] at hs
  obtain ⟨ht,i,hi,hp⟩:=j8 he
  have hve:=(hs.take (.there .here)).cD
  subst hve
  rw [hp,hi]
  obtain ⟨hok,z,hs⟩:=hs.eL
  dsimp only [fB,aU,List.cons_append,List.nil_append] at hs
  refine go ?_
  refine nt bP hs (.there .here) rfl rfl rfl fun w it hs=>?_
  refine go ?_
  have hr0:=hok.room0
  have hr1:=hok.room1
  have hus:=hok.used
  refine aK (α:=List (Bs×Nat)×Nat) (fun y=>[(0,au d),(1,str n),(2,.slice ab bs.length cb),(7,au i),(25,.pointer (some ⟨it,0,none⟩)),(9,.int .i64 (y.2:Int))])
   (fun y w=>(y.2+(y.1.map fun p=>(D.tick.aE p.2).length).sum=D.tick.used∧∀ p∈y.1,(ax D.tick.nodes p.2).isSome=true)∧∃ last,Sat W0 (fi bP z.bn it (aJ D.tick.now) (aJ y.1) last::blk d 111 (aU z D.tick)::aO bP z.bs (aJ D.tick.safe)::ei z.mv D.tick.moves::star (D.tick.nodes.map di)::aL .nilIface none::cg (.slice ab bs.length cb) bs::F) w) (fun y=>y.1.length) (D.tick.now,0) ⟨rfl,rfl,rfl,rfl,rfl,rfl,trivial⟩ ⟨⟨by simp [ad.used],hok.now⟩,none,hs⟩ ?_
  clear hs
  rintro ⟨left,u⟩ w ⟨⟨hsum,hin⟩,last,hs⟩
  dsimp only at hsum hin hs ⊢
  refine go ?_
  refine pS bP hs .here rfl rfl (fun h0=>?_) (fun l1 x l2 w hl hs=>?_)
  ·have hl0:left=[]:=by simpa [aJ] using h0
   subst hl0
   have:u=D.tick.used:=by simpa using hsum
   subst this
   have hs:=hs.lM
   clear hsum hin h0
   obtain ⟨x,hx⟩:=hok.tH (n:=n) (by rw [Pure.ad.cP];exact hi)
   obtain ⟨B,C,v,e1,e2,hs⟩:=(hs.take (.there (.there (.there (.there .here))))).jN hx
   obtain ⟨a3,c3,hv,-⟩:=(hs.take (.there .here)).aB
   subst hv
   have hd:D.aE i=x.1:=by unfold ad.aE;rw [← Pure.ad.eg,hx]
   have hd2:D.tick.aE i=x.1:=by rw [Pure.ad.iw,hd]
   have hsz:x.1.length≤D.tick.used:=by rw [← hd2];exact Pure.ad.size_le (by rw [Pure.ad.cP];exact hi)
   have hsf:mC D i=x.2:=by unfold mC;rw [← Pure.ad.eg,hx]
   have er:D.room=D.tick.room:=by simp
   have eu:D.used=D.tick.used:=by simp
   rw [er,eu,hd,hsf]
   by_cases hroom:(bs.length:Int) > D.tick.room-D.tick.used
   ·rw [if_pos hroom]
    refine go ?_
    refine bw [str n,.int .i64 9] ?_
    refine cC hs fun w b hs=>?_
    refine go ?_
    have h2:=Sat.jC (i:=i) (y:=x) (B:=B) (C:=C) (v:=.slice a3 x.1.length c3) (F:=aL (.iface 249 (.pointer (some ⟨b,0,none⟩))) (some (some n,9))::blk d 111 (aU z D.tick)::aO bP z.bn (aJ D.tick.now)::aO bP z.bs (aJ D.tick.safe)::ei z.mv D.tick.moves::cg (.slice ab bs.length cb) bs::F) hs.o7.to
    rw [← e1] at h2
    exact ak rfl ⟨_,rfl,Sat.cz (z:=z) hok h2.to⟩
   ·rw [if_neg hroom]
    have hok':(D.tick.laid i (x.1++bs,x.2)).Ok:=hok.laid (Nat.le_trans (Pure.ad.gR (k:=bs.length) hok (by rw [hd2];simp)) (by omega))
    refine go ?_
    refine Db (hm:=by omega) hs fun v' w hs=>?_
    obtain ⟨a4,c4,hv4,-⟩:=hs.aB
    subst hv4
    refine go ?_
    refine bI hs fun w hs=>?_
    refine go ?_
    have h2:=Sat.jC (i:=i) (y:=(x.1++bs,x.2)) (B:=B) (C:=C) (F:=aL .nilIface none::blk d 111 (aU z D.tick)::aO bP z.bn (aJ D.tick.now)::aO bP z.bs (aJ D.tick.safe)::ei z.mv D.tick.moves::cg (.slice ab bs.length cb) bs::F) hs.to
    rw [← e2] at h2
    exact ak rfl ⟨_,rfl,Sat.cz (z:=z) hok' h2.to⟩
  ·obtain ⟨a,p,b,rfl,rfl,hab⟩:=iU hl
   rw [hab] at hs
   obtain ⟨q,hq⟩:=Option.isSome_iff_exists.1 (hin p (by simp))
   refine go ?_
   refine ny bP hs .here rfl rfl ?_
   obtain ⟨B,C,v,e1,e2,hs⟩:=(hs.take (.there (.there (.there (.there .here))))).jN hq
   obtain ⟨a2,c2,hv,-⟩:=(hs.take (.there .here)).aB
   subst hv
   have hd:D.tick.aE p.2=q.1:=by unfold ad.aE;rw [hq]
   have hsum2:u+q.1.length+((a++b).map fun p=>(D.tick.aE p.2).length).sum=D.tick.used:=by
    simp only [List.map_append,List.map_cons,List.sum_append,List.sum_cons,hd] at hsum ⊢;omega
   refine go ?_
   refine aA (a++b,u+q.1.length) ⟨rfl,rfl,rfl,rfl,rfl,rfl,trivial⟩ ⟨⟨hsum2,fun p hp=>hin p (by simp at hp ⊢;rcases hp with h|h<;>simp [h])⟩,some (p.1,au p.2),?_⟩ (by simp)
   have h2:=hs.jC (y:=q)
   rw [← e1] at h2
   exact h2.to
end
section
open Go.Proofs.YtecibefflhomdaaGreatDoor.Pure (ad ax bZ ew fu)
attribute [local irreducible] IntKind.wrap
variable {W0 w:World} {F l:List ah} {v:Value} {d:Nat} {D:ad} {bs:Bs}
theorem Lr {a:Option Addr} {c:Nat}:xG 1 93 (.slice a 0 c) 0 [] l:=fun _ w _=>by
 cases a with
 | none=>exact Src.ofNil w (bQ (t:=93) rfl) c
 | some a=>exact Src.ofSlice w (bQ (t:=93) rfl) _ _ _ _ (by simp) (fun j u hu=>by simp at hu) (fun u hu=>by simp at hu)
theorem MS {v:Value} (hr:Ln l v bs):xG 1 93 v bs.length (bs.map bV) l:=by
 rcases hr with ⟨rfl,a,c,rfl⟩|⟨b,o,c,sh,all,E,r,rfl,tk,hcell⟩
 ·exact Lr
 ·exact BA (all:=all.toList) rfl (by simpa using tk) (by simp) (fun j u hu=>by simpa using hcell j u hu) (xH bs)
theorem tR (hs:Sat W0 l w) (hr:Ln l v bs) (hb:bs.length≤140737488355328) :
 Calls Tryz.prog 46 #[v] w fun x w'=>∃ v',x=.returned v'∧Sat W0 (cg v' bs::l) w':=by
 obtain ⟨a,c,hv⟩:∃ a c,v=.slice a bs.length c:=by
  rcases hr with ⟨rfl,a,c,rfl⟩|⟨b,o,c,_,_,_,_,rfl,_⟩<;>exact ⟨_,_,rfl⟩
 subst hv
 refine enter Tryz.func46 rfl Tryz.ntmps46 Tryz.results46 rfl ?_
 cases a with
 | none=>
  have hbs:bs=[]:=by
   rcases hr with ⟨h,_⟩|⟨b,o,c',_,_,_,_,h,_⟩
   ·exact h
   ·simp at h
  subst hbs
  refine go ?_
  exact ak rfl ⟨_,rfl,hs.tF⟩
 | some a=>
  refine go ?_
  refine iT [] hs fun w b hs2=>?_
  have hown:Sat W0 (cg (.slice (some ⟨b,0,none⟩) 0 0) []::l) w:=Sat.cT (cs:=[]) (len:=0) (rest:=[]) (by simpa using hs2) (Nat.le_refl _) (by decide) rfl rfl (by simp)
  have hr2:xG 1 93 (.slice (some a) bs.length c) bs.length (bs.map bV) (cg (.slice (some ⟨b,0,none⟩) 0 0) []::l):=fun W w h=>MS hr W w h.drop
  refine go ?_
  refine mr (m:=bs.length) hown rfl rfl .here hr2 (by simpa using hb) rfl fun v' w hs=>?_
  refine go ?_
  exact ak rfl ⟨v',rfl,by simpa using hs⟩
section
variable {ops:Array Oper} {Q:Exit→Act→World→Prop} {n:Nat} {ds:Md} {e:Env} {rest:List Oper}
variable {op:Op} {ty:TypeId} {pos:String} {af:Array Edge} {dd:Nat}
theorem Lt {x lo hi:Operand} (l' h':Nat) (hs:Sat W0 (cg v bs::l) w) (hx:ev e x=some v) (hlo:ev e lo=some (.int .i64 (l':Int))) (hhi:ev e hi=some (.int .i64 (h':Int))) (h1:l'≤h') (h2:h'≤bs.length) (hd:Nat.blt dd n=true)
 (kk:∀ v' l2,Ln l2 v' ((bs.drop l').take (h'-l'))→Sat W0 l2 w→(∀ hp,cR l2 hp→cR (cg v bs::l) hp)→WL ops Q n ds rest ((dd,v')::e) w) :
 WL ops Q n ds (⟨some dd,.slice 93 x (some lo) (some hi) none,ty,pos,af,none⟩::rest) e w:=by
 by_cases hv:v=.slice none 0 0
 ·subst hv
  obtain ⟨a,cap,e1,_⟩:=hs.aB
  have hb:bs=[]:=List.eq_nil_of_length_eq_zero (by simp at e1;omega)
  subst hb
  have hh:h'=0:=by simpa using h2
  have hl:l'=0:=by omega
  subst hh;subst hl
  exact pL hx rfl rfl hlo hhi hd (kk _ _ (.inl ⟨by simp,none,0,rfl⟩) hs fun _ h=>h)
 ·have hlen:=hs.tu
  have hone:=hs.tw
  obtain ⟨b,cap,rs,rfl,q1,q2,q3,hs2⟩:=hs.iM hv
  refine mx l' h' hx rfl rfl hlo hhi h1 (by omega) hd (kk _ (blk b 5 (bs.map bV++rs)::l) ?_ hs2 fun hp k=>vQ (fun _ ha=>⟨hlen,hone,.inr ⟨b,cap,rs,rfl,q1,q2,q3,ha⟩⟩) k)
  by_cases hz:h'-l'=0
  ·exact .inl ⟨by rw [hz];simp,_,_,by rw [hz]⟩
  ·have hne:cap≠l':=by omega
   have ec:cutAt b 0 cap l' 1=⟨b,l',none⟩:=by unfold cutAt;rw [if_neg hne];simp
   rw [ec]
   have el:((bs.drop l').take (h'-l')).length=h'-l':=by simp;omega
   refine .inr ⟨b,l',cap-l',false,_,_,_,by rw [el],.here,fun j u hu=>?_⟩
   simp only [List.getElem?_toArray]
   have hj:j<h'-l':=by have:=(List.getElem?_eq_some_iff.1 hu).1;rw [List.length_map,el] at this;exact this
   rw [List.getElem?_append_left (by simp;omega)]
   rw [List.map_take,List.map_drop,List.getElem?_take,if_pos hj,List.getElem?_drop] at hu
   exact hu
end
end
section
open Go.Proofs.YtecibefflhomdaaGreatDoor.Pure (ad ax bZ ew fu)
attribute [local irreducible] IntKind.wrap
variable {W0 w:World} {F l:List ah} {v:Value} {d:Nat} {D:ad} {bs:Bs}
theorem tS (h:D.Ok) (n:Int):(counted D n).Ok:=⟨h.now,h.safe,h.moves,h.names,h.ids,h.room0,h.room1,h.wait0,h.wait1,h.bad0,h.bad1,h.used,h.short⟩
def Du (D:ad) (nm:Bs) (at_ n:Int):Bs:=match bg D nm with
 | some _=>[]
 | none=>match ax D.now nm with
  | some i=>dV (D.aE i) at_ n
  | none=>[]
theorem zC {nm:Bs} {at_ n:Int} (hs:Sat W0 (dL d D::F) w) (ha1:-9223372036854775808≤at_) (ha2:at_≤9223372036854775807) (hn1:-9223372036854775808≤n) (hn2:n≤9223372036854775807) :
 Calls Tryz.prog 161 #[au d,str nm,.int .i64 at_,.int .i64 n] w fun x w'=>∃ v ve,x=.returned (.tuple #[v,ve])∧Sat W0 (dL d (counted D n).tick::cg v (Du D nm at_ n)::aL ve (bg D nm)::F) w':=by
 obtain ⟨hok,z,hs⟩:=hs.eL
 dsimp only [fB,aU,List.cons_append,List.nil_append] at hs
 have hok1:=tS hok n
 have hfe:bg (counted D n) nm=bg D nm:=rfl
 have hfp:nB (counted D n) nm=nB D nm:=rfl
 refine enter Tryz.func161 rfl Tryz.ntmps161 Tryz.results161 rfl ?_
 refine go ?_
 refine bI hs fun w hs=>?_
 refine go ?_
 refine bI hs fun w hs=>?_
 have hs:Sat W0 (dL d (counted D n)::F) w:=Sat.cz (z:=z) hok1 hs.to
 refine go ?_
 refine ae (met (find_spec (n:=nm) hs) ?_)
 rintro _ w ⟨ve,rfl,hs⟩
 refine ⟨_,rfl,?_⟩
 rw [hfe] at hs
 rw [hfp]
 unfold Du
 cases he:bg D nm with
 | some e=>
  rw [he] at hs
  obtain ⟨t,u,rfl⟩:=(hs.take (.there .here)).aV
  refine go ?_
  exact ak rfl ⟨_,_,rfl,(hs.tF).to⟩
 | none=>
  rw [he] at hs
  obtain ⟨ht,i,hi,hp⟩:=j8 he
  have hve:=(hs.take (.there .here)).cD
  subst hve
  rw [hp,hi]
  obtain ⟨hok,z,hs⟩:=hs.eL
  dsimp only [fB,aU,List.cons_append,List.nil_append] at hs
  obtain ⟨x,hx⟩:=hok.tH (n:=nm) (by rw [Pure.ad.cP];exact hi)
  have hx':ax D.nodes i=some x:=by rw [Pure.ad.eg] at hx;exact hx
  obtain ⟨B,C,v,e1,e2,hs⟩:=(hs.take (.there (.there (.there (.there .here))))).jN hx
  obtain ⟨a,c,hv,-⟩:=(hs.take (.there .here)).aB
  subst hv
  have hd:D.aE i=x.1:=by unfold ad.aE;rw [hx']
  have hsz:x.1.length≤4398046511104:=by
   have h1:=Pure.ad.size_le (D:=(counted D n).tick) (n:=nm) (i:=i) (by rw [Pure.ad.cP];exact hi)
   have h2:=hok.used
   have h3:(counted D n).tick.aE i=x.1:=by unfold ad.aE;rw [hx]
   rw [h3] at h1;omega
  dsimp only
  rw [hd]
  unfold dV
  obtain ⟨A,hA⟩:∃ A:Nat,min (max at_ 0) (x.1.length:Int)=A:=⟨(min (max at_ 0) (x.1.length:Int)).toNat,by omega⟩
  obtain ⟨M,hM⟩:∃ M:Nat,min (max n 0) ((x.1.length:Int)-min (max at_ 0) (x.1.length:Int))=M:=⟨(min (max n 0) ((x.1.length:Int)-min (max at_ 0) (x.1.length:Int))).toNat,by omega⟩
  rw [hM,hA]
  refine go ?_
  refine Lt (l':=A) (h':=A+M) (hs.take (.there .here)) rfl ?_ ?_ (by omega) (by omega) rfl fun v' l2 hr hs hb=>?_
  ·show some (Value.int .i64 (min (max at_ 0) (x.1.length:Int)))=_;rw [hA]
  ·show some (Value.int .i64 (min (max at_ 0) (x.1.length:Int)+min (max n 0) ((x.1.length:Int)-min (max at_ 0) (x.1.length:Int))))=_;rw [hM,hA];simp
  refine go ?_
  refine ae (met (tR hs hr (by simp;omega)) ?_)
  rintro _ w ⟨v2,rfl,hs⟩
  refine ⟨_,rfl,go ?_⟩
  have h2:=hs.imp fun _ k=>du (fun hp=>hb hp) k
  have h3:=Sat.jC (i:=i) (y:=x) (B:=B) (C:=C) (F:=cg v2 ((x.1.drop A).take (A+M-A))::aL .nilIface none::blk d 111 (aU z (counted D n).tick)::aO bP z.bn (aJ (counted D n).tick.now)::aO bP z.bs (aJ (counted D n).tick.safe)::ei z.mv (counted D n).tick.moves::F) h2.to
  rw [← e1,Nat.add_sub_cancel_left] at h3
  exact ak rfl ⟨_,_,rfl,Sat.cz (z:=z) hok h3.to⟩
end
section
open Go.Proofs.YtecibefflhomdaaGreatDoor.Pure (ad ax bZ ew fu)
attribute [local irreducible] IntKind.wrap
variable {W0 w:World} {F l:List ah} {v:Value} {d:Nat} {D:ad} {bs:Bs}
theorem wj {α β γ:Type} (f:α→β→γ):∀ {xs:List α} {ys:List β} {i:Nat} {x:α} {y:β},xs[i]?=some x→ys[i]?=some y→∃ B C,List.zipWith f xs ys=B++f x y::C
 | a::xs,b::ys,0,x,y,hx,hy=>by simp at hx hy;subst hx;subst hy;exact ⟨[],_,rfl⟩
 | a::xs,b::ys,i+1,x,y,hx,hy=>by
  simp at hx hy
  obtain ⟨B,C,h⟩:=wj f hx hy
  exact ⟨f a b::B,C,by simp [h]⟩
theorem xY (hs:Sat W0 (dL d D::F) w) :
 Calls Tryz.prog 178 #[au d] w fun x w'=>∃ ve,x=.returned ve∧Sat W0 (dL d (eX D)::aL ve (if D.dT=true then some (some [],8) else none)::F) w':=by
 refine enter Tryz.func178 rfl Tryz.ntmps178 Tryz.results178 rfl ?_
 refine go ?_
 refine ae (met (o8 hs) ?_)
 rintro _ w ⟨rfl,hs⟩
 refine ⟨_,rfl,?_⟩
 unfold eX
 cases ht:D.dT with
 | true=>
  refine go ?_
  refine bw [str [],.int .i64 8] ?_
  refine cC hs fun w b hs=>?_
  refine go ?_
  exact ak rfl ⟨_,rfl,(hs.o7 (s:=[])).to⟩
 | false=>
  obtain ⟨hok,z,hs⟩:=hs.eL
  dsimp only [fB,aU,List.cons_append,List.nil_append] at hs
  obtain ⟨vs,hvs,hs⟩:=(hs.take (.there (.there (.there .here)))).wi
  dsimp only [List.cons_append,List.nil_append] at hs
  obtain ⟨a,c,hmv,hc⟩:=hs.aB
  have hc2:D.tick.moves.length≤9223372036854775807:=by have:=hc.1;have:=hc.2;simp only [maxLen] at this;omega
  have hsh:=hok.short
  have hok':=hok.synced
  generalize hD:D.tick=E at *
  refine go ?_
  rw [hmv]
  refine go ?_
  refine aK (α:=Nat) (fun i=>[(0,au d),(13,.slice a E.moves.length c),(14,.int .i64 (E.moves.length:Int)),(15,.int .i64 (i:Int))])
   (fun i w=>i≤E.moves.length∧Sat W0 (aI 1 (.slice a E.moves.length c) 143 E.moves.length vs::star (List.zipWith yW vs E.moves)::blk d 111 (aU z E)::aO bP z.bn (aJ E.now)::aO bP z.bs (aJ ((E.moves.take i).foldl fu E.safe))::star (E.nodes.map di)::F) w) (fun i=>E.moves.length-i) 0 ⟨rfl,rfl,rfl,rfl,trivial⟩ ⟨Nat.zero_le _,by rw [← hmv];exact hs⟩ ?_
  clear hs
  rintro i w ⟨hi,hs⟩
  by_cases hlt:i<E.moves.length
  ·have hgm:E.moves[i]?=some E.moves[i]:=List.getElem?_eq_getElem hlt
   have hgv:vs[i]?=some vs[i]:=List.getElem?_eq_getElem (by omega)
   have hshort:=hsh _ (List.getElem_mem hlt)
   have hfold:(E.moves.take (i+1)).foldl fu E.safe=fu ((E.moves.take i).foldl fu E.safe) E.moves[i]:=by
    rw [List.take_succ_eq_append_getElem hlt,List.foldl_append];rfl
   generalize E.moves[i]=m at *
   generalize vs[i]=v at *
   obtain ⟨B,C,hz⟩:=wj yW hgv hgm
   obtain ⟨b,cap,rs,hv,q1,q2,q3,hs2⟩:=hs.dr (by omega)
   simp only [Value.slice.injEq] at hv
   obtain ⟨rfl,_,rfl⟩:=hv
   have hcell:(vs++rs)[0+i*1]?=some v:=by rw [Nat.zero_add,Nat.mul_one,List.getElem?_append_left (by omega)];exact hgv
   refine go ?_
   refine cK (i:=i) rfl rfl rfl rfl rfl hlt rfl ?_
   refine eE hs2 rfl rfl .here hcell rfl ?_
   rw [hz] at hs
   have h3:=(hs.take (.there .here)).fL
   refine go ?_
   refine ae (met (zt (m:=z.bs) (kvs:=(E.moves.take i).foldl fu E.safe) (mvs:=m) (v:=v) (F:=star (B++C)::aI 1 (.slice (some ⟨b,0,none⟩) E.moves.length c) 143 E.moves.length vs::blk d 111 (aU z E)::aO bP z.bn (aJ E.now)::star (E.nodes.map di)::F) h3.to hshort) ?_)
   rintro _ w ⟨rfl,hs⟩
   refine ⟨_,rfl,go ?_⟩
   refine aA (i+1) ⟨rfl,rfl,rfl,rfl,trivial⟩ ⟨hlt,?_⟩ (by omega)
   have h4:=(hs.fG (.there .here) (.there .here)).gu
   rw [← hz] at h4
   rw [hfold]
   exact h4.to
  ·have:i=E.moves.length:=by omega
   subst this
   rw [List.take_length] at hs
   refine go ?_
   refine bI hs fun w hs=>?_
   refine go ?_
   have h5:Sat W0 (ei (.slice none 0 0) []::blk d 111 ((aU z E).set (0+2) (.slice none 0 0))::aO bP z.bn (aJ E.now)::aO bP z.bs (aJ (E.moves.foldl fu E.safe))::star (E.nodes.map di)::F) w:=
    Sat.mE (vs:=[]) rfl (hs.drop.drop.mD.dA)
   exact ak rfl ⟨_,rfl,Sat.cz (z:=⟨z.bn,z.bs,.slice none 0 0⟩) hok' (h5.dW.to)⟩
theorem tT {room:Int} (h0:0≤room) (h1:room≤2199023255552):(dp room).Ok:=
 ⟨fun p hp=>by simp [dp] at hp,fun p hp=>by simp [dp] at hp,fun l hl=>by simp [dp] at hl,by simp [dp],by simp [dp],h0,h1,by simp [dp],by simp [dp],by simp [dp],by simp [dp],by simp [dp,ad.used],fun l hl=>by simp [dp] at hl⟩
theorem p9 {room:Int} (hs:Sat W0 F w) (h0:0≤room) (h1:room≤2199023255552) :
 Calls Tryz.prog 22 #[.int .i64 room] w fun x w'=>∃ d,x=.returned (au d)∧Sat W0 (dL d (dp room)::F) w':=by
 refine enter Tryz.func22 rfl Tryz.ntmps22 Tryz.results22 rfl ?_
 refine go ?_
 refine kr hs rfl fun w m1 hs=>?_
 refine kr (hs.tG bP) rfl fun w m2 hs=>?_
 refine go ?_
 refine bw [.map (some m1),.map (some m2),.slice none 0 0,.int .i64 room,.int .i64 0,.int .i64 0,.int .i64 0,.int .i64 0] ?_
 refine cC (hs.tG bP) fun w d hs=>?_
 refine go ?_
 refine ak rfl ⟨d,rfl,Sat.cz (z:=⟨m1,m2,.slice none 0 0⟩) (tT h0 h1) ?_⟩
 have h5:Sat W0 (ei (.slice none 0 0) []::star ((dp room).nodes.map di)::_) w:=Sat.mE (vs:=[]) rfl (Sat.dA (Sat.mD (Sat.mD hs)))
 exact h5.to
end
end Go.Proofs.YtecibefflhomdaaGreatDoor
