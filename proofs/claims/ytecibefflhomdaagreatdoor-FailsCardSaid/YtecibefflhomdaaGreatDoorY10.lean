/-
  Part 10: The engine 15 append of one element; WALKS package api; WALKS package api; WALKS package api; WALKS package api; WALKS package api.
-/
import Derived.Test.YtecibefflhomdaaGreatDoorY09
set_option maxHeartbeats 8000000
set_option maxRecDepth 100000
set_option linter.all false
namespace Go.Proofs.YtecibefflhomdaaGreatDoor
open Go
section
variable {ops:Array Oper} {Q:Exit→Act→World→Prop} {n:Nat} {ds:Md} {e:Env} {w w':World} {rest:List Oper}
variable {op:Op} {ty:TypeId} {pos:String} {af:Array Edge} {d:Nat} {v u:Value} {W0:World} {l l' r r':List ah}
theorem dF {x y:Operand} {t k E len by_ b c:Nat} {cs news z:List Value} (hs:Sat W0 l w) (kk:∀ v' w',Sat W0 (aE k v' E (len+1) (cs++news)::r') w'→WL ops Q n ds rest ((d,v')::e) w')
 (hx:ev e x=some v:=by rfl) (hy:ev e y=some (.slice (some ⟨b,0,none⟩) 1 c):=by rfl) (ht:lk dy t=some E:=by rfl) (hsz:lk df E=some k:=by rfl) (hby:lk qY E=some by_:=by rfl) (hz:lk js E=some z:=by rfl) (hzl:z.length=k:=by rfl)
 (tk:Take (aE k v E len cs) l r:=by repeat (first|exact Take.here|apply Take.there)) (tk':Take (blk b E news) r r':=by repeat (first|exact Take.here|apply Take.there))
 (hn:news.length=1*k:=by rfl) (h1:news.all dD=true:=by rfl) (hd:Nat.blt d n=true:=by rfl) (hm:len+1≤maxLen:=by simp only [maxLen];omega) (hb:(len+1)*by_≤140737488355328:=by omega) :
 WL ops Q n ds (⟨some d,.call { callee:=.builtin .append,args:=#[x,y],argTypes:=#[t,t] },ty,pos,af,none⟩::rest) e w:=by
 have hs2:=hs.eA tk tk'
 refine om hs2 hx hy .here (BN (all:=news) ht (.there .here) hn (fun j u hu=>by simpa using hu) (List.all_eq_true.1 h1)) ht hsz hby hz hzl hm hb hd fun v' w' h=>kk v' w' ?_
 exact h.imp fun _ k=>dH (fun _=>kj) k
theorem gN {parts:Array (Nat×Operand)} {t E k len:Nat} {ps:List (Nat×Value)} {z:List Value} (cs:List Value) (hs:Sat W0 l w)
 (kk:∀ w' b,Sat W0 (blk b E cs::l) w'→WL ops Q n ds rest ((d,.slice (some ⟨b,0,none⟩) len len)::e) w')
 (hp:zn e parts.toList=some ps:=by rfl) (ht:lk dy t=some E:=by rfl) (hsz:lk df E=some k:=by rfl) (hz:lk js E=some z:=by rfl)
 (hzz:Nat.beq z.length 0=false:=by rfl) (hsmall:Nat.ble (len*k) 1000=true:=by rfl) (hf:mY (fun i=>some (i*k,k)) ((List.range (len*k)).map fun i=>z.getD (i%z.length) undef) ps=some cs:=by rfl) (hd:Nat.blt d n=true:=by rfl) :
 WL ops Q n ds (⟨some d,.buildSlice t len parts,ty,pos,af,none⟩::rest) e w:=Hs hs hp ht hsz hz hzz hsmall hf hd kk
end
section
variable {W0 w:World} {l:List ah}
theorem Sat.zF {A:ah} {B:List ah} (h:Sat W0 (star B::A::l) w):Sat W0 (star (B++[A])::l) w:=by
 refine h.imp fun hp k=>?_
 have k2:cV (B++([A]++l)) hp:=dI k
 rw [← List.append_assoc] at k2
 exact dJ k2
theorem Sat.tT {A:ah} {B:List ah} (h:Sat W0 (A::star B::l) w):Sat W0 (star (A::B)::l) w:=by
 refine h.imp fun hp k=>?_
 have k2:cV ((A::B)++l) hp:=dH (fun _=>dI) k
 exact dJ k2
theorem Sat.ln (h:Sat W0 l w):Sat W0 (star []::l) w:=h.imp fun hp k=>dJ (a:=[]) k
theorem DZ {A:ah} {B C:List ah} {hp:Hp}:cV (star (B++A::C)::l) hp↔cV (A::star (B++C)::l) hp:=by
 have tk:∀ (B:List ah) (r:List ah),Take A (B++A::r) (B++r):=by
  intro B
  induction B with
  | nil=>intro r;exact .here
  | cons x B ih=>intro r;exact .there (ih r)
 constructor
 ·intro k
  have k1:=dI k
  rw [List.append_assoc,List.cons_append] at k1
  have k2:=(tk B (C++l)).to k1
  refine dH (fun _ k=>?_) k2
  rw [← List.append_assoc] at k
  exact dJ k
 ·intro k
  have k2:cV (A::(B++(C++l))) hp:=dH (fun _ k=>by have:=dI k;rwa [List.append_assoc] at this) k
  have k1:=(tk B (C++l)).back k2
  rw [← List.cons_append,← List.append_assoc] at k1
  exact dJ k1
theorem Sat.eS {A:ah} {B C:List ah} (h:Sat W0 (star (B++A::C)::l) w):Sat W0 (A::star (B++C)::l) w:=h.imp fun _=>DZ.1
theorem Sat.eK {A:ah} {B C:List ah} (h:Sat W0 (A::star (B++C)::l) w):Sat W0 (star (B++A::C)::l) w:=h.imp fun _=>DZ.2
end
section
open Go.Proofs.YtecibefflhomdaaGreatDoor.Pure (ad aA cx eD fE)
attribute [local irreducible] IntKind.wrap
variable {W0 w:World} {F l:List ah} {v:Value} {d:Nat} {D:ad}
theorem Sat.wA {ms:List (List (Bs×Option Nat))} (h:Sat W0 (eP v ms::F) w):∃ vs,vs.length=ms.length∧Sat W0 ([aE 1 v 143 ms.length vs,star (List.zipWith y8 vs ms)]++F) w:=h.eI fun hp ⟨vs,h1,k⟩=>⟨vs,h1,k⟩
theorem Sat.mF {ms:List (List (Bs×Option Nat))} {vs:List Value} (h1:vs.length=ms.length) (h:Sat W0 (aE 1 v 143 ms.length vs::star (List.zipWith y8 vs ms)::F) w):Sat W0 (eP v ms::F) w:=Sat.close (B:=[aE 1 v 143 ms.length vs,star (List.zipWith y8 vs ms)]) h fun hp k=>⟨vs,h1,k⟩
abbrev named (D:ad) (mvs:List (Bs×Option Nat)):ad:={ D with now:=fE D.now mvs,moves:=D.moves++[mvs] }
theorem rk {z:DV} {mvs:List (Bs×Option Nat)} (hs:Sat W0 (y8 v mvs::fK d z D++F) w) (hl:mvs.length<1000) (hm:D.moves.length≤1099511627776) :
 Calls Tryz.prog 140 #[au d,v] w fun x w'=>x=.returned (.tuple #[])∧∃ mv',Sat W0 (fK d ⟨z.bn,z.bs,mv'⟩ (named D mvs)++F) w':=by
 obtain ⟨b,c0,rfl⟩:∃ b c,v=.slice (some ⟨b,0,none⟩) mvs.length c:=hs.fQ fun _ ⟨b,c,h,_⟩=>⟨b,c,h⟩
 dsimp only [fK,aX,List.cons_append,List.nil_append] at hs
 refine enter Tryz.func140 rfl Tryz.ntmps140 Tryz.results140 rfl ?_
 refine go ?_
 refine ae (met (zE (kvs:=D.now) (mvs:=mvs) (F:=[blk d 111 (aX z D),aO cu z.bs (aM D.safe),eP z.mv D.moves,star (D.nodes.map dA)]++F) hs.to hl) ?_)
 rintro _ w ⟨rfl,hs⟩
 refine ⟨_,rfl,go ?_⟩
 dsimp only [List.cons_append,List.nil_append] at hs
 obtain ⟨vs,hvs,hs⟩:=(hs.take (.there (.there (.there (.there .here))))).wA
 dsimp only [List.cons_append,List.nil_append] at hs
 obtain ⟨a2,c2,hmv,-⟩:=hs.ay
 refine fw hs fun w b1 hs=>?_
 refine dF hs fun mv' w hs=>?_
 refine go ?_
 obtain ⟨a,c,rfl,_⟩:=hs.ay
 refine bD hs fun w hs=>?_
 refine go ?_
 have e1:List.zipWith y8 (vs++[.slice (some ⟨b,0,none⟩) mvs.length c0]) (D.moves++[mvs])=List.zipWith y8 vs D.moves++[y8 (.slice (some ⟨b,0,none⟩) mvs.length c0) mvs]:=by
  rw [List.zipWith_append hvs];rfl
 have h2:=(hs.eA (.there .here) (.there (.there .here))).zF
 rw [← e1] at h2
 have h3:Sat W0 (eP (.slice a (D.moves.length+1) c) (D.moves++[mvs])::aO cu z.bn (aM (fE D.now mvs))::blk d 111 ((aX z D).set (0+2) (.slice a (D.moves.length+1) c))::aO cu z.bs (aM D.safe)::star (D.nodes.map dA)::F) w:=
  Sat.mF (vs:=vs++[.slice (some ⟨b,0,none⟩) mvs.length c0]) (by simp [hvs]) (by rw [List.length_append];exact h2.take (.there .here))
 exact gB rfl ⟨rfl,.slice a (D.moves.length+1) c,h3.to⟩
theorem Kf {p:Nat×(Bs×Nat)} {h:Hp} (k:dA p h):∃ o,h p.1=some (false,o):=by
 obtain ⟨v,h1,_,_,l1,_,ha,_⟩:=k
 exact ⟨_,l1 _ _ ha⟩
theorem zG:∀ {ns:List (Nat×(Bs×Nat))} {h:Hp},cV (ns.map dA) h→∀ p∈ns,∃ o,h p.1=some (false,o)
 | q::ns,h,⟨h1,h2,_,l1,l2,ha,r⟩,p,hp=>by
  rcases List.mem_cons.1 hp with rfl|hp
  ·obtain ⟨o,ho⟩:=Kf ha;exact ⟨o,l1 _ _ ho⟩
  ·obtain ⟨o,ho⟩:=zG r p hp;exact ⟨o,l2 _ _ ho⟩
theorem Sat.fresh {b:Nat} {o:Obj} {ns:List (Nat×(Bs×Nat))} (h:Sat W0 (ob false b o::star (ns.map dA)::F) w):aA ns b=none:=by
 cases hg:aA ns b with
 | none=>rfl
 | some x=>
  obtain ⟨_,_,_,_,hp,_,_,h1,h2,ff,_,_,ha,h3,h4,_,l3,_,hb,_⟩:=h
  obtain ⟨o',ho⟩:=zG hb _ (Pure.dL hg)
  have:=(ff b _ _ ha (l3 _ _ ho)).2
  cases this
theorem Sat.Kg {i:Nat} (h:Sat W0 (blk i 116 [.slice none 0 0,.int .i64 0]::F) w):Sat W0 (dA (i,([],0))::F) w:=by
 have h2:=(Sat.tJ h).take (.there .here)
 exact Sat.close (B:=[blk i 116 [.slice none 0 0,.int .i64 0],cC (.slice none 0 0) []]) h2 fun hp k=>⟨_,k⟩
def Kh (D:ad) (n:Bs) (e:Option (Option Bs×Nat)) (D':ad):Prop:=
 (D.eg=true∧e=some (some n,8)∧D'=D.tick)∨(D.eg=false∧(aA D.now n).isSome=true∧e=some (some n,11)∧D'=D.tick) ∨
 (D.eg=false∧aA D.now n=none∧e=none∧∃ i,aA D.nodes i=none∧D'=D.tick.created n i)
theorem zH {n:Bs} (hs:Sat W0 (eh d D::F) w) (hm:D.moves.length≤1099511627776) :
 Calls Tryz.prog 78 #[au d,str n] w fun x w'=>∃ ve e D',x=.returned ve∧Kh D n e D'∧Sat W0 (eh d D'::ax ve e::F) w':=by
 refine enter Tryz.func78 rfl Tryz.ntmps78 Tryz.results78 rfl ?_
 refine go ?_
 refine ae (met (po hs) ?_)
 rintro _ w ⟨rfl,hs⟩
 refine ⟨_,rfl,?_⟩
 cases ht:D.eg with
 | true=>
  refine go ?_
  refine bA [str n,.int .i64 8] ?_
  refine cE hs fun w b hs=>?_
  refine go ?_
  exact ak rfl ⟨_,_,_,rfl,.inl ⟨ht,rfl,rfl⟩,hs.pk.to⟩
 | false=>
  obtain ⟨hok,z,hs⟩:=hs.eR
  dsimp only [fK,aX,List.cons_append,List.nil_append] at hs
  have hl:=nE D.tick.now n
  rw [Pure.ad.cW] at hl
  refine go ?_
  refine oo cu (k:=n) hs (.there .here) rfl rfl rfl xW rfl ?_
  rw [Pure.ad.cW,hl]
  cases hg:aA D.now n with
  | some j=>
   refine go ?_
   refine bA [str n,.int .i64 11] ?_
   refine cE hs fun w b hs=>?_
   refine go ?_
   exact ak rfl ⟨_,_,_,rfl,.inr (.inl ⟨ht,by simp [hg],rfl,rfl⟩),Sat.cU (z:=z) hok hs.pk.to⟩
  | none=>
   refine go ?_
   refine bA [.slice none 0 0,.int .i64 0] ?_
   refine cE hs fun w i hs=>?_
   refine bA [str n,au i] ?_
   refine gN [str n,au i] hs fun w b hs=>?_
   have hfree:aA D.tick.nodes i=none:=Sat.fresh ((hs.take (.there .here)).eA .here (.there (.there (.there (.there (.there .here))))))
   have h2:Sat W0 (y8 (.slice (some ⟨b,0,none⟩) 1 1) [(n,some i)]::blk i 116 [.slice none 0 0,.int .i64 0]::fK d z D.tick++F) w:=hs.share.head fun hp k=>⟨b,1,rfl,k⟩
   have hok':=Pure.ad.Ok.created hok hfree (by rw [Pure.ad.cW];exact hg)
   refine go ?_
   refine ae (met (rk (F:=blk i 116 [.slice none 0 0,.int .i64 0]::F) h2.to (by simp) (by rw [Pure.ad.jx];omega)) ?_)
   rintro _ w ⟨rfl,mv',hs⟩
   refine ⟨_,rfl,go ?_⟩
   dsimp only [fK,aX,List.cons_append,List.nil_append] at hs
   have h3:=(((hs.take (.there (.there (.there (.there (.there .here)))))).Kg).eA .here (.there (.there (.there (.there .here))))).tT
   refine ak rfl ⟨_,_,_,rfl,.inr (.inr ⟨ht,hg,rfl,i,by rw [← Pure.ad.et];exact hfree,rfl⟩),Sat.cU (z:=⟨z.bn,z.bs,mv'⟩) hok' ?_⟩
   exact h3.ei.to
end
section
open Go.Proofs.YtecibefflhomdaaGreatDoor.Pure (ad aA cx eD fE)
attribute [local irreducible] IntKind.wrap
variable {W0 w:World} {F l:List ah} {v:Value} {d:Nat} {D:ad}
theorem Sat.aW {e:cy} (h:Sat W0 (ax v (some e)::F) w):∃ t u,v=.iface t u:=h.fQ fun _ k=>by
 obtain ⟨s,n⟩:=e
 cases s with
 | none=>exact ⟨_,_,k⟩
 | some s=>obtain ⟨b,k,_⟩:=k;exact ⟨_,_,k⟩
theorem Sat.cF {v:Value} (h:Sat W0 (ax v none::F) w):v=.nilIface:=h.fQ fun _ k=>k
theorem sj:∀ {ns:List (Nat×(Bs×Nat))} {i:Nat} {x:Bs×Nat},aA ns i=some x→∃ a b,ns=a++(i,x)::b∧∀ y,cx ns i y=a++(i,y)::b
 | (k,v)::r,i,x,h=>by
  unfold aA at h
  by_cases hk:i=k
  ·subst hk;simp at h;subst h;exact ⟨[],r,rfl,fun y=>by simp [cx]⟩
  ·simp only [hk,if_false] at h
   obtain ⟨a,b,h1,h2⟩:=sj h
   exact ⟨(k,v)::a,b,by rw [h1];rfl,fun y=>by simp only [cx,hk,if_false,h2 y];rfl⟩
theorem Sat.kL {ns:List (Nat×(Bs×Nat))} {i:Nat} {x:Bs×Nat} (hg:aA ns i=some x) (h:Sat W0 (star (ns.map dA)::F) w) :
 ∃ B C v,ns.map dA=B++dA (i,x)::C∧(∀ y,(cx ns i y).map dA=B++dA (i,y)::C)∧Sat W0 (blk i 116 [v,.int .i64 (x.2:Int)]::cC v x.1::star (B++C)::F) w:=by
 obtain ⟨a,b,h1,h2⟩:=sj hg
 have e1:ns.map dA=a.map dA++dA (i,x)::b.map dA:=by rw [h1];simp
 rw [e1] at h
 obtain ⟨v,_,hs⟩:=h.eS.eI (φ:=fun _:Value=>True) (B:=fun v=>[blk i 116 [v,.int .i64 (x.2:Int)],cC v x.1]) fun hp ⟨v,k⟩=>⟨v,trivial,k⟩
 exact ⟨a.map dA,b.map dA,v,e1,fun y=>by rw [h2];simp,hs⟩
theorem Sat.lp {i:Nat} {y:Bs×Nat} {B C:List ah} (h:Sat W0 (blk i 116 [v,.int .i64 (y.2:Int)]::cC v y.1::star (B++C)::F) w):Sat W0 (star (B++dA (i,y)::C)::F) w:=
 (Sat.close (B:=[blk i 116 [v,.int .i64 (y.2:Int)],cC v y.1]) h fun hp k=>⟨v,k⟩).eK
theorem ko {n:Bs} (h:bz D n=none):D.eg=false∧∃ i,aA D.now n=some i∧nF D n=au i:=by
 unfold bz at h
 split at h
 ·cases h
 ·rename_i ht
  split at h
  ·cases h
  ·rename_i i hi
   exact ⟨by simpa using ht,i,hi,by simp [nF,ht,hi]⟩
theorem Fy {n:Bs} (hs:Sat W0 (eh d D::F) w) :
 Calls Tryz.prog 160 #[au d,str n] w fun x w'=>∃ ve,x=.returned (.tuple #[.int .i64 (match bz D n with|some _=>0|none=>match aA D.now n with|some i=>((D.aH i).length:Int)|none=>0),ve])∧Sat W0 (eh d D.tick::ax ve (bz D n)::F) w':=by
 refine enter Tryz.func160 rfl Tryz.ntmps160 Tryz.results160 rfl ?_
 refine go ?_
 refine ae (met (find_spec (n:=n) hs) ?_)
 rintro _ w ⟨ve,rfl,hs⟩
 refine ⟨_,rfl,?_⟩
 cases he:bz D n with
 | some e=>
  rw [he] at hs
  obtain ⟨t,u,rfl⟩:=(hs.take (.there .here)).aW
  refine go ?_
  exact ak rfl ⟨_,rfl,hs⟩
 | none=>
  rw [he] at hs
  obtain ⟨ht,i,hi,hp⟩:=ko he
  have hve:=(hs.take (.there .here)).cF
  subst hve
  rw [hp,hi]
  obtain ⟨hok,z,hs⟩:=hs.eR
  dsimp only [fK,aX,List.cons_append,List.nil_append] at hs
  obtain ⟨x,hx⟩:=hok.xY (n:=n) (by rw [Pure.ad.cW];exact hi)
  obtain ⟨B,C,v,e1,e2,hs⟩:=(hs.take (.there (.there (.there (.there .here))))).kL hx
  obtain ⟨a,c,hv,-⟩:=(hs.take (.there .here)).ay
  subst hv
  have hd:D.aH i=x.1:=by unfold ad.aH;rw [← Pure.ad.et,hx]
  dsimp only
  rw [hd]
  refine go ?_
  refine ak rfl ⟨_,rfl,Sat.cU (z:=z) hok ?_⟩
  have h2:=hs.lp (y:=x)
  rw [← e1] at h2
  exact h2.to
theorem Fz {n:Bs} (hs:Sat W0 (eh d D::F) w) :
 Calls Tryz.prog 86 #[au d,str n] w fun x w'=>∃ ve,x=.returned ve∧Sat W0 (eh d (gM D n fun i=>D.tick.laid i (D.aH i,(D.aH i).length))::ax ve (bz D n)::F) w':=by
 refine enter Tryz.func86 rfl Tryz.ntmps86 Tryz.results86 rfl ?_
 refine go ?_
 refine ae (met (find_spec (n:=n) hs) ?_)
 rintro _ w ⟨ve,rfl,hs⟩
 refine ⟨_,rfl,?_⟩
 unfold gM
 cases he:bz D n with
 | some e=>
  rw [he] at hs
  obtain ⟨t,u,rfl⟩:=(hs.take (.there .here)).aW
  refine go ?_
  exact ak rfl ⟨_,rfl,hs⟩
 | none=>
  rw [he] at hs
  obtain ⟨ht,i,hi,hp⟩:=ko he
  have hve:=(hs.take (.there .here)).cF
  subst hve
  rw [hp,hi]
  obtain ⟨hok,z,hs⟩:=hs.eR
  dsimp only [fK,aX,List.cons_append,List.nil_append] at hs
  obtain ⟨x,hx⟩:=hok.xY (n:=n) (by rw [Pure.ad.cW];exact hi)
  obtain ⟨B,C,v,e1,e2,hs⟩:=(hs.take (.there (.there (.there (.there .here))))).kL hx
  obtain ⟨a,c,hv,-⟩:=(hs.take (.there .here)).ay
  subst hv
  have hd:D.aH i=x.1:=by unfold ad.aH;rw [← Pure.ad.et,hx]
  have hd2:D.tick.aH i=x.1:=by rw [Pure.ad.iB,hd]
  dsimp only
  rw [hd]
  have hok':(D.tick.laid i (x.1,x.1.length)).Ok:=hok.laid (Nat.le_trans (Pure.ad.km (k:=0) hok (by rw [hd2];rfl)) hok.used)
  refine go ?_
  refine bD hs fun w hs=>?_
  refine go ?_
  refine ak rfl ⟨_,rfl,Sat.cU (z:=z) hok' ?_⟩
  have h2:=hs.lp (y:=(x.1,x.1.length))
  rw [← e2] at h2
  exact h2.to
theorem zI {n:Bs} (hs:Sat W0 (eh d D::F) w) (hm:D.moves.length≤1099511627776) :
 Calls Tryz.prog 77 #[au d,str n] w fun x w'=>∃ ve,x=.returned ve∧Sat W0 (eh d (gM D n fun _=>D.tick.fL n)::ax ve (bz D n)::F) w':=by
 refine enter Tryz.func77 rfl Tryz.ntmps77 Tryz.results77 rfl ?_
 refine go ?_
 refine ae (met (find_spec (n:=n) hs) ?_)
 rintro _ w ⟨ve,rfl,hs⟩
 refine ⟨_,rfl,?_⟩
 unfold gM
 cases he:bz D n with
 | some e=>
  rw [he] at hs
  obtain ⟨t,u,rfl⟩:=(hs.take (.there .here)).aW
  refine go ?_
  exact ak rfl ⟨_,rfl,hs⟩
 | none=>
  rw [he] at hs
  obtain ⟨ht,i,hi,hp⟩:=ko he
  have hve:=(hs.take (.there .here)).cF
  subst hve
  rw [hp,hi]
  obtain ⟨hok,z,hs⟩:=hs.eR
  dsimp only [fK,aX,List.cons_append,List.nil_append] at hs
  refine go ?_
  refine bA [str n,.pointer none] ?_
  refine gN [str n,.pointer none] hs fun w b hs=>?_
  have h2:Sat W0 (y8 (.slice (some ⟨b,0,none⟩) 1 1) [(n,none)]::fK d z D.tick++(ax .nilIface none::F)) w:=hs.share.head fun hp k=>⟨b,1,rfl,k⟩
  refine go ?_
  refine ae (met (rk h2 (by simp) (by rw [Pure.ad.jx];omega)) ?_)
  rintro _ w ⟨rfl,mv',hs⟩
  refine ⟨_,rfl,go ?_⟩
  exact ak rfl ⟨_,rfl,Sat.cU (z:=⟨z.bn,z.bs,mv'⟩) (hok.fL n) hs⟩
theorem zJ {n m:Bs} (hs:Sat W0 (eh d D::F) w) (hm:D.moves.length≤1099511627776) :
 Calls Tryz.prog 177 #[au d,str n,str m] w fun x w'=>∃ ve,x=.returned ve∧Sat W0 (eh d (gM D n fun i=>if n=m then D.tick else D.tick.renamed n m i)::ax ve (bz D n)::F) w':=by
 refine enter Tryz.func177 rfl Tryz.ntmps177 Tryz.results177 rfl ?_
 refine go ?_
 refine ae (met (find_spec (n:=n) hs) ?_)
 rintro _ w ⟨ve,rfl,hs⟩
 refine ⟨_,rfl,?_⟩
 unfold gM
 cases he:bz D n with
 | some e=>
  rw [he] at hs
  obtain ⟨t,u,rfl⟩:=(hs.take (.there .here)).aW
  refine go ?_
  exact ak rfl ⟨_,rfl,hs⟩
 | none=>
  rw [he] at hs
  obtain ⟨ht,i,hi,hp⟩:=ko he
  have hve:=(hs.take (.there .here)).cF
  subst hve
  rw [hp,hi]
  by_cases hnm:n=m
  ·have hnn:¬ n≠m:=fun h=>h hnm
   dsimp only
   rw [if_pos hnm]
   refine go ?_
   exact ak rfl ⟨_,rfl,hs⟩
  ·have hnn:n≠m:=hnm
   dsimp only
   rw [if_neg hnm]
   obtain ⟨hok,z,hs⟩:=hs.eR
   dsimp only [fK,aX,List.cons_append,List.nil_append] at hs
   refine go ?_
   refine bA [str m,au i] ?_
   refine go ?_
   refine bA [str n,.pointer none] ?_
   refine gN [str m,au i,str n,.pointer none] hs fun w b hs=>?_
   have h2:Sat W0 (y8 (.slice (some ⟨b,0,none⟩) 2 2) [(m,some i),(n,none)]::fK d z D.tick++(ax .nilIface none::F)) w:=hs.share.head fun hp k=>⟨b,2,rfl,k⟩
   refine go ?_
   refine ae (met (rk h2 (by simp) (by rw [Pure.ad.jx];omega)) ?_)
   rintro _ w ⟨rfl,mv',hs⟩
   refine ⟨_,rfl,go ?_⟩
   exact ak rfl ⟨_,rfl,Sat.cU (z:=⟨z.bn,z.bs,mv'⟩) (hok.renamed hnm (by rw [Pure.ad.cW];exact hi)) hs⟩
end
section
open Go.Proofs.YtecibefflhomdaaGreatDoor.Pure (ad aA cx eD fE)
attribute [local irreducible] IntKind.wrap
variable {W0 w:World} {F l:List ah} {v:Value} {d:Nat} {D:ad}
theorem iZ:∀ {ns:List (Bs×Nat)} {l1 l2:List (Bs×Value)} {x:Bs×Value},aM ns=l1++x::l2→∃ a p b,ns=a++p::b∧x=(p.1,au p.2)∧l1++l2=aM (a++b)
 | [],l1,l2,x,h=>by cases l1<;>simp [aM] at h
 | q::ns,[],l2,x,h=>by
  simp only [aM,List.map_cons,List.nil_append,List.cons.injEq] at h
  exact ⟨[],q,ns,rfl,h.1.symm,by simp [aM,← h.2]⟩
 | q::ns,y::l1,l2,x,h=>by
  simp only [aM,List.map_cons,List.cons_append,List.cons.injEq] at h
  obtain ⟨a,p,b,h1,h2,h3⟩:=iZ (ns:=ns) h.2
  exact ⟨q::a,p,b,by rw [h1];rfl,h2,by simp only [List.cons_append,aM,List.map_cons];rw [h3,← h.1];rfl⟩
theorem zK {n bs:Bs} {vb:Value} (hs:Sat W0 (eh d D::cC vb bs::F) w) :
 Calls Tryz.prog 79 #[au d,str n,vb] w fun x w'=>∃ ve,x=.returned ve∧Sat W0 (eh d (bZ D n bs)::cC vb bs::ax ve (dX D n bs)::F) w':=by
 obtain ⟨ab,cb,hvb,hcb⟩:=(hs.take (.there .here)).ay
 subst hvb
 have hcb1:bs.length≤9223372036854775807:=by have:=hcb.1;have:=hcb.2;simp only [maxLen] at this;omega
 refine enter Tryz.func79 rfl Tryz.ntmps79 Tryz.results79 rfl ?_
 refine go ?_
 refine ae (met (find_spec (n:=n) hs) ?_)
 rintro _ w ⟨ve,rfl,hs⟩
 refine ⟨_,rfl,?_⟩
 unfold bZ dX
 cases he:bz D n with
 | some e=>
  rw [he] at hs
  obtain ⟨t,u,rfl⟩:=(hs.take (.there .here)).aW
  refine go ?_
  exact ak rfl ⟨_,rfl,hs.to⟩
 | none=>
  rw [he] at hs
  obtain ⟨ht,i,hi,hp⟩:=ko he
  have hve:=(hs.take (.there .here)).cF
  subst hve
  rw [hp,hi]
  obtain ⟨hok,z,hs⟩:=hs.eR
  dsimp only [fK,aX,List.cons_append,List.nil_append] at hs
  refine go ?_
  refine nA cu hs (.there .here) rfl rfl rfl fun w it hs=>?_
  refine go ?_
  have hr0:=hok.room0
  have hr1:=hok.room1
  have hus:=hok.used
  refine aL (α:=List (Bs×Nat)×Nat) (fun y=>[(0,au d),(1,str n),(2,.slice ab bs.length cb),(7,au i),(25,.pointer (some ⟨it,0,none⟩)),(9,.int .i64 (y.2:Int))])
   (fun y w=>(y.2+(y.1.map fun p=>(D.tick.aH p.2).length).sum=D.tick.used∧∀ p∈y.1,(aA D.tick.nodes p.2).isSome=true)∧∃ last,Sat W0 (fy cu z.bn it (aM D.tick.now) (aM y.1) last::blk d 111 (aX z D.tick)::aO cu z.bs (aM D.tick.safe)::eP z.mv D.tick.moves::star (D.tick.nodes.map dA)::ax .nilIface none::cC (.slice ab bs.length cb) bs::F) w) (fun y=>y.1.length) (D.tick.now,0) ⟨rfl,rfl,rfl,rfl,rfl,rfl,trivial⟩ ⟨⟨by simp [ad.used],hok.now⟩,none,hs⟩ ?_
  clear hs
  rintro ⟨left,u⟩ w ⟨⟨hsum,hin⟩,last,hs⟩
  dsimp only at hsum hin hs ⊢
  refine go ?_
  refine pZ cu hs .here rfl rfl (fun h0=>?_) (fun l1 x l2 w hl hs=>?_)
  ·have hl0:left=[]:=by simpa [aM] using h0
   subst hl0
   have:u=D.tick.used:=by simpa using hsum
   subst this
   have hs:=hs.lP
   clear hsum hin h0
   obtain ⟨x,hx⟩:=hok.xY (n:=n) (by rw [Pure.ad.cW];exact hi)
   obtain ⟨B,C,v,e1,e2,hs⟩:=(hs.take (.there (.there (.there (.there .here))))).kL hx
   obtain ⟨a3,c3,hv,-⟩:=(hs.take (.there .here)).ay
   subst hv
   have hd:D.aH i=x.1:=by unfold ad.aH;rw [← Pure.ad.et,hx]
   have hd2:D.tick.aH i=x.1:=by rw [Pure.ad.iB,hd]
   have hsz:x.1.length≤D.tick.used:=by rw [← hd2];exact Pure.ad.size_le (by rw [Pure.ad.cW];exact hi)
   have hsf:mE D i=x.2:=by unfold mE;rw [← Pure.ad.et,hx]
   have er:D.room=D.tick.room:=by simp
   have eu:D.used=D.tick.used:=by simp
   rw [er,eu,hd,hsf]
   by_cases hroom:(bs.length:Int) > D.tick.room-D.tick.used
   ·rw [if_pos hroom]
    refine go ?_
    refine bA [str n,.int .i64 9] ?_
    refine cE hs fun w b hs=>?_
    refine go ?_
    have h2:=Sat.lp (i:=i) (y:=x) (B:=B) (C:=C) (v:=.slice a3 x.1.length c3) (F:=ax (.iface 249 (.pointer (some ⟨b,0,none⟩))) (some (some n,9))::blk d 111 (aX z D.tick)::aO cu z.bn (aM D.tick.now)::aO cu z.bs (aM D.tick.safe)::eP z.mv D.tick.moves::cC (.slice ab bs.length cb) bs::F) hs.pk.to
    rw [← e1] at h2
    exact ak rfl ⟨_,rfl,Sat.cU (z:=z) hok h2.to⟩
   ·rw [if_neg hroom]
    have hok':(D.tick.laid i (x.1++bs,x.2)).Ok:=hok.laid (Nat.le_trans (Pure.ad.km (k:=bs.length) hok (by rw [hd2];simp)) (by omega))
    refine go ?_
    refine DF (hm:=by omega) hs fun v' w hs=>?_
    obtain ⟨a4,c4,hv4,-⟩:=hs.ay
    subst hv4
    refine go ?_
    refine bD hs fun w hs=>?_
    refine go ?_
    have h2:=Sat.lp (i:=i) (y:=(x.1++bs,x.2)) (B:=B) (C:=C) (F:=ax .nilIface none::blk d 111 (aX z D.tick)::aO cu z.bn (aM D.tick.now)::aO cu z.bs (aM D.tick.safe)::eP z.mv D.tick.moves::cC (.slice ab bs.length cb) bs::F) hs.to
    rw [← e2] at h2
    exact ak rfl ⟨_,rfl,Sat.cU (z:=z) hok' h2.to⟩
  ·obtain ⟨a,p,b,rfl,rfl,hab⟩:=iZ hl
   rw [hab] at hs
   obtain ⟨q,hq⟩:=Option.isSome_iff_exists.1 (hin p (by simp))
   refine go ?_
   refine nB cu hs .here rfl rfl ?_
   obtain ⟨B,C,v,e1,e2,hs⟩:=(hs.take (.there (.there (.there (.there .here))))).kL hq
   obtain ⟨a2,c2,hv,-⟩:=(hs.take (.there .here)).ay
   subst hv
   have hd:D.tick.aH p.2=q.1:=by unfold ad.aH;rw [hq]
   have hsum2:u+q.1.length+((a++b).map fun p=>(D.tick.aH p.2).length).sum=D.tick.used:=by
    simp only [List.map_append,List.map_cons,List.sum_append,List.sum_cons,hd] at hsum ⊢;omega
   refine go ?_
   refine aB (a++b,u+q.1.length) ⟨rfl,rfl,rfl,rfl,rfl,rfl,trivial⟩ ⟨⟨hsum2,fun p hp=>hin p (by simp at hp ⊢;rcases hp with h|h<;>simp [h])⟩,some (p.1,au p.2),?_⟩ (by simp)
   have h2:=hs.lp (y:=q)
   rw [← e1] at h2
   exact h2.to
end
section
open Go.Proofs.YtecibefflhomdaaGreatDoor.Pure (ad aA cx eD fE)
attribute [local irreducible] IntKind.wrap
variable {W0 w:World} {F l:List ah} {v:Value} {d:Nat} {D:ad} {bs:Bs}
theorem L4 {a:Option Addr} {c:Nat}:xN 1 93 (.slice a 0 c) 0 [] l:=fun _ w _=>by
 cases a with
 | none=>exact Src.ofNil w (bX (t:=93) rfl) c
 | some a=>exact Src.ofSlice w (bX (t:=93) rfl) _ _ _ _ (by simp) (fun j u hu=>by simp at hu) (fun u hu=>by simp at hu)
theorem Nq {v:Value} (hr:LW l v bs):xN 1 93 v bs.length (bs.map bV) l:=by
 rcases hr with ⟨rfl,a,c,rfl⟩|⟨b,o,c,sh,all,E,r,rfl,tk,hcell⟩
 ·exact L4
 ·exact BN (all:=all.toList) rfl (by simpa using tk) (by simp) (fun j u hu=>by simpa using hcell j u hu) (BO bs)
theorem tU (hs:Sat W0 l w) (hr:LW l v bs) (hb:bs.length≤140737488355328) :
 Calls Tryz.prog 46 #[v] w fun x w'=>∃ v',x=.returned v'∧Sat W0 (cC v' bs::l) w':=by
 obtain ⟨a,c,hv⟩:∃ a c,v=.slice a bs.length c:=by
  rcases hr with ⟨rfl,a,c,rfl⟩|⟨b,o,c,_,_,_,_,rfl,_⟩<;>exact ⟨_,_,rfl⟩
 subst hv
 refine enter Tryz.func46 rfl Tryz.ntmps46 Tryz.results46 rfl ?_
 cases a with
 | none=>
  have hbs:bs=[]:=by
   rcases hr with ⟨h,_⟩|⟨b,o,c',_,_,_,_,h,_⟩
   ·exact h
   ·simp at h
  subst hbs
  refine go ?_
  exact ak rfl ⟨_,rfl,hs.tJ⟩
 | some a=>
  refine go ?_
  refine gN [] hs fun w b hs2=>?_
  have hown:Sat W0 (cC (.slice (some ⟨b,0,none⟩) 0 0) []::l) w:=Sat.dK (cs:=[]) (len:=0) (rest:=[]) (by simpa using hs2) (Nat.le_refl _) (by decide) rfl rfl (by simp)
  have hr2:xN 1 93 (.slice (some a) bs.length c) bs.length (bs.map bV) (cC (.slice (some ⟨b,0,none⟩) 0 0) []::l):=fun W w h=>Nq hr W w h.drop
  refine go ?_
  refine mx (m:=bs.length) hown rfl rfl .here hr2 (by simpa using hb) rfl fun v' w hs=>?_
  refine go ?_
  exact ak rfl ⟨v',rfl,by simpa using hs⟩
section
variable {ops:Array Oper} {Q:Exit→Act→World→Prop} {n:Nat} {ds:Md} {e:Env} {rest:List Oper}
variable {op:Op} {ty:TypeId} {pos:String} {af:Array Edge} {dd:Nat}
theorem L5 {x lo hi:Operand} (l' h':Nat) (hs:Sat W0 (cC v bs::l) w) (hx:ev e x=some v) (hlo:ev e lo=some (.int .i64 (l':Int))) (hhi:ev e hi=some (.int .i64 (h':Int))) (h1:l'≤h') (h2:h'≤bs.length) (hd:Nat.blt dd n=true)
 (kk:∀ v' l2,LW l2 v' ((bs.drop l').take (h'-l'))→Sat W0 l2 w→(∀ hp,cV l2 hp→cV (cC v bs::l) hp)→WL ops Q n ds rest ((dd,v')::e) w) :
 WL ops Q n ds (⟨some dd,.slice 93 x (some lo) (some hi) none,ty,pos,af,none⟩::rest) e w:=by
 by_cases hv:v=.slice none 0 0
 ·subst hv
  obtain ⟨a,cap,e1,_⟩:=hs.ay
  have hb:bs=[]:=List.eq_nil_of_length_eq_zero (by simp at e1;omega)
  subst hb
  have hh:h'=0:=by simpa using h2
  have hl:l'=0:=by omega
  subst hh;subst hl
  exact pT hx rfl rfl hlo hhi hd (kk _ _ (.inl ⟨by simp,none,0,rfl⟩) hs fun _ h=>h)
 ·have hlen:=hs.tB
  have hone:=hs.tC
  obtain ⟨b,cap,rs,rfl,q1,q2,q3,hs2⟩:=hs.iT hv
  refine mz l' h' hx rfl rfl hlo hhi h1 (by omega) hd (kk _ (blk b 5 (bs.map bV++rs)::l) ?_ hs2 fun hp k=>vW (fun _ ha=>⟨hlen,hone,.inr ⟨b,cap,rs,rfl,q1,q2,q3,ha⟩⟩) k)
  by_cases hz:h'-l'=0
  ·exact .inl ⟨by rw [hz];simp,_,_,by rw [hz]⟩
  ·have hne:cap≠l':=by omega
   have ec:cutAt b 0 cap l' 1=⟨b,l',none⟩:=by unfold cutAt;rw [if_neg hne];simp
   rw [ec]
   have el:((bs.drop l').take (h'-l')).length=h'-l':=by simp;omega
   refine .inr ⟨b,l',cap-l',false,_,_,_,by rw [el],.here,fun j u hu=>?_⟩
   simp only [List.getElem?_toArray]
   have hj:j<h'-l':=by have:=(List.getElem?_eq_some_iff.1 hu).1;rw [List.length_map,el] at this;exact this
   rw [List.getElem?_append_left (by simp;omega)]
   rw [List.map_take,List.map_drop,List.getElem?_take,if_pos hj,List.getElem?_drop] at hu
   exact hu
end
end
section
open Go.Proofs.YtecibefflhomdaaGreatDoor.Pure (ad aA cx eD fE)
attribute [local irreducible] IntKind.wrap
variable {W0 w:World} {F l:List ah} {v:Value} {d:Nat} {D:ad} {bs:Bs}
theorem tV (h:D.Ok) (n:Int):(counted D n).Ok:=⟨h.now,h.safe,h.moves,h.names,h.ids,h.room0,h.room1,h.wait0,h.wait1,h.bad0,h.bad1,h.used,h.short⟩
def D6 (D:ad) (nm:Bs) (at_ n:Int):Bs:=match bz D nm with
 | some _=>[]
 | none=>match aA D.now nm with
  | some i=>fz (D.aH i) at_ n
  | none=>[]
theorem zL {nm:Bs} {at_ n:Int} (hs:Sat W0 (eh d D::F) w) (ha1:-9223372036854775808≤at_) (ha2:at_≤9223372036854775807) (hn1:-9223372036854775808≤n) (hn2:n≤9223372036854775807) :
 Calls Tryz.prog 161 #[au d,str nm,.int .i64 at_,.int .i64 n] w fun x w'=>∃ v ve,x=.returned (.tuple #[v,ve])∧Sat W0 (eh d (counted D n).tick::cC v (D6 D nm at_ n)::ax ve (bz D nm)::F) w':=by
 obtain ⟨hok,z,hs⟩:=hs.eR
 dsimp only [fK,aX,List.cons_append,List.nil_append] at hs
 have hok1:=tV hok n
 have hfe:bz (counted D n) nm=bz D nm:=rfl
 have hfp:nF (counted D n) nm=nF D nm:=rfl
 refine enter Tryz.func161 rfl Tryz.ntmps161 Tryz.results161 rfl ?_
 refine go ?_
 refine bD hs fun w hs=>?_
 refine go ?_
 refine bD hs fun w hs=>?_
 have hs:Sat W0 (eh d (counted D n)::F) w:=Sat.cU (z:=z) hok1 hs.to
 refine go ?_
 refine ae (met (find_spec (n:=nm) hs) ?_)
 rintro _ w ⟨ve,rfl,hs⟩
 refine ⟨_,rfl,?_⟩
 rw [hfe] at hs
 rw [hfp]
 unfold D6
 cases he:bz D nm with
 | some e=>
  rw [he] at hs
  obtain ⟨t,u,rfl⟩:=(hs.take (.there .here)).aW
  refine go ?_
  exact ak rfl ⟨_,_,rfl,(hs.tJ).to⟩
 | none=>
  rw [he] at hs
  obtain ⟨ht,i,hi,hp⟩:=ko he
  have hve:=(hs.take (.there .here)).cF
  subst hve
  rw [hp,hi]
  obtain ⟨hok,z,hs⟩:=hs.eR
  dsimp only [fK,aX,List.cons_append,List.nil_append] at hs
  obtain ⟨x,hx⟩:=hok.xY (n:=nm) (by rw [Pure.ad.cW];exact hi)
  have hx':aA D.nodes i=some x:=by rw [Pure.ad.et] at hx;exact hx
  obtain ⟨B,C,v,e1,e2,hs⟩:=(hs.take (.there (.there (.there (.there .here))))).kL hx
  obtain ⟨a,c,hv,-⟩:=(hs.take (.there .here)).ay
  subst hv
  have hd:D.aH i=x.1:=by unfold ad.aH;rw [hx']
  have hsz:x.1.length≤4398046511104:=by
   have h1:=Pure.ad.size_le (D:=(counted D n).tick) (n:=nm) (i:=i) (by rw [Pure.ad.cW];exact hi)
   have h2:=hok.used
   have h3:(counted D n).tick.aH i=x.1:=by unfold ad.aH;rw [hx]
   rw [h3] at h1;omega
  dsimp only
  rw [hd]
  unfold fz
  obtain ⟨A,hA⟩:∃ A:Nat,min (max at_ 0) (x.1.length:Int)=A:=⟨(min (max at_ 0) (x.1.length:Int)).toNat,by omega⟩
  obtain ⟨M,hM⟩:∃ M:Nat,min (max n 0) ((x.1.length:Int)-min (max at_ 0) (x.1.length:Int))=M:=⟨(min (max n 0) ((x.1.length:Int)-min (max at_ 0) (x.1.length:Int))).toNat,by omega⟩
  rw [hM,hA]
  refine go ?_
  refine L5 (l':=A) (h':=A+M) (hs.take (.there .here)) rfl ?_ ?_ (by omega) (by omega) rfl fun v' l2 hr hs hb=>?_
  ·show some (Value.int .i64 (min (max at_ 0) (x.1.length:Int)))=_;rw [hA]
  ·show some (Value.int .i64 (min (max at_ 0) (x.1.length:Int)+min (max n 0) ((x.1.length:Int)-min (max at_ 0) (x.1.length:Int))))=_;rw [hM,hA];simp
  refine go ?_
  refine ae (met (tU hs hr (by simp;omega)) ?_)
  rintro _ w ⟨v2,rfl,hs⟩
  refine ⟨_,rfl,go ?_⟩
  have h2:=hs.imp fun _ k=>dH (fun hp=>hb hp) k
  have h3:=Sat.lp (i:=i) (y:=x) (B:=B) (C:=C) (F:=cC v2 ((x.1.drop A).take (A+M-A))::ax .nilIface none::blk d 111 (aX z (counted D n).tick)::aO cu z.bn (aM (counted D n).tick.now)::aO cu z.bs (aM (counted D n).tick.safe)::eP z.mv (counted D n).tick.moves::F) h2.to
  rw [← e1,Nat.add_sub_cancel_left] at h3
  exact ak rfl ⟨_,_,rfl,Sat.cU (z:=z) hok h3.to⟩
end
end Go.Proofs.YtecibefflhomdaaGreatDoor
