/-
  Part 10: The engine 15 append of one element; WALKS package api; WALKS package api; WALKS package api; WALKS package api; WALKS package api.
-/
import Derived.Test.YtecibefflhomdaaGreatDoorV09
set_option maxHeartbeats 8000000
set_option maxRecDepth 100000
set_option linter.all false
namespace Go.Proofs.YtecibefflhomdaaGreatDoor
open Go
section
variable {ops:Array Oper} {Q:Exit→Act→World→Prop} {n:Nat} {ds:Md} {e:Env} {w w':World} {rest:List Oper}
variable {op:Op} {ty:TypeId} {pos:String} {af:Array Edge} {d:Nat} {v u:Value} {W0:World} {l l' r r':List ax}
theorem dM {x y:Operand} {t k E len by_ b c:Nat} {cs news z:List Value} (hs:Sat W0 l w) (kk:∀ v' w',Sat W0 (aL k v' E (len+1) (cs++news)::r') w'→WL ops Q n ds rest ((d,v')::e) w')
 (hx:ev e x=some v:=by rfl) (hy:ev e y=some (.slice (some ⟨b,0,none⟩) 1 c):=by rfl) (ht:lk du t=some E:=by rfl) (hsz:lk dq E=some k:=by rfl) (hby:lk rG E=some by_:=by rfl) (hz:lk jH E=some z:=by rfl) (hzl:z.length=k:=by rfl)
 (tk:Take (aL k v E len cs) l r:=by repeat (first|exact Take.here|apply Take.there)) (tk':Take (blk b E news) r r':=by repeat (first|exact Take.here|apply Take.there))
 (hn:news.length=1*k:=by rfl) (h1:news.all df=true:=by rfl) (hd:Nat.blt d n=true:=by rfl) (hm:len+1≤maxLen:=by simp only [maxLen];omega) (hb:(len+1)*by_≤140737488355328:=by omega) :
 WL ops Q n ds (⟨some d,.call { callee:=.builtin .append,args:=#[x,y],argTypes:=#[t,t] },ty,pos,af,none⟩::rest) e w:=by
 have hs2:=hs.fg tk tk'
 refine mf hs2 hx hy .here (Dw (all:=news) ht (.there .here) hn (fun j u hu=>by simpa using hu) (List.all_eq_true.1 h1)) ht hsz hby hz hzl hm hb hd fun v' w' h=>kk v' w' ?_
 exact h.imp fun _ k=>cZ (fun _=>kB) k
theorem ia {parts:Array (Nat×Operand)} {t E k len:Nat} {ps:List (Nat×Value)} {z:List Value} (cs:List Value) (hs:Sat W0 l w)
 (kk:∀ w' b,Sat W0 (blk b E cs::l) w'→WL ops Q n ds rest ((d,.slice (some ⟨b,0,none⟩) len len)::e) w')
 (hp:AW e parts.toList=some ps:=by rfl) (ht:lk du t=some E:=by rfl) (hsz:lk dq E=some k:=by rfl) (hz:lk jH E=some z:=by rfl)
 (hzz:Nat.beq z.length 0=false:=by rfl) (hsmall:Nat.ble (len*k) 1000=true:=by rfl) (hf:nE (fun i=>some (i*k,k)) ((List.range (len*k)).map fun i=>z.getD (i%z.length) undef) ps=some cs:=by rfl) (hd:Nat.blt d n=true:=by rfl) :
 WL ops Q n ds (⟨some d,.buildSlice t len parts,ty,pos,af,none⟩::rest) e w:=Jy hs hp ht hsz hz hzz hsmall hf hd kk
end
section
variable {W0 w:World} {l:List ax}
theorem Sat.Bc {A:ax} {B:List ax} (h:Sat W0 (star B::A::l) w):Sat W0 (star (B++[A])::l) w:=by
 refine h.imp fun hp k=>?_
 have k2:cL (B++([A]++l)) hp:=dD k
 rw [← List.append_assoc] at k2
 exact cT k2
theorem Sat.u9 {A:ax} {B:List ax} (h:Sat W0 (A::star B::l) w):Sat W0 (star (A::B)::l) w:=by
 refine h.imp fun hp k=>?_
 have k2:cL ((A::B)++l) hp:=cZ (fun _=>dD) k
 exact cT k2
theorem Sat.oW (h:Sat W0 l w):Sat W0 (star []::l) w:=h.imp fun hp k=>cT (a:=[]) k
theorem F1 {A:ax} {B C:List ax} {hp:Hp}:cL (star (B++A::C)::l) hp↔cL (A::star (B++C)::l) hp:=by
 have tk:∀ (B:List ax) (r:List ax),Take A (B++A::r) (B++r):=by
  intro B
  induction B with
  | nil=>intro r;exact .here
  | cons x B ih=>intro r;exact .there (ih r)
 constructor
 ·intro k
  have k1:=dD k
  rw [List.append_assoc,List.cons_append] at k1
  have k2:=(tk B (C++l)).to k1
  refine cZ (fun _ k=>?_) k2
  rw [← List.append_assoc] at k
  exact cT k
 ·intro k
  have k2:cL (A::(B++(C++l))) hp:=cZ (fun _ k=>by have:=dD k;rwa [List.append_assoc] at this) k
  have k1:=(tk B (C++l)).back k2
  rw [← List.cons_append,← List.append_assoc] at k1
  exact cT k1
theorem Sat.eU {A:ax} {B C:List ax} (h:Sat W0 (star (B++A::C)::l) w):Sat W0 (A::star (B++C)::l) w:=h.imp fun _=>F1.1
theorem Sat.eY {A:ax} {B C:List ax} (h:Sat W0 (A::star (B++C)::l) w):Sat W0 (star (B++A::C)::l) w:=h.imp fun _=>F1.2
end
section
open Go.Proofs.YtecibefflhomdaaGreatDoor.Pure (ae aD cz dI fG)
attribute [local irreducible] IntKind.wrap
variable {W0 w:World} {F l:List ax} {v:Value} {d:Nat} {D:ae}
theorem Sat.xT {ms:List (List (Bs×Option Nat))} (h:Sat W0 (eX v ms::F) w):∃ vs,vs.length=ms.length∧Sat W0 ([aL 1 v 143 ms.length vs,star (List.zipWith Ba vs ms)]++F) w:=h.e9 fun hp ⟨vs,h1,k⟩=>⟨vs,h1,k⟩
theorem Sat.pV {ms:List (List (Bs×Option Nat))} {vs:List Value} (h1:vs.length=ms.length) (h:Sat W0 (aL 1 v 143 ms.length vs::star (List.zipWith Ba vs ms)::F) w):Sat W0 (eX v ms::F) w:=Sat.close (B:=[aL 1 v 143 ms.length vs,star (List.zipWith Ba vs ms)]) h fun hp k=>⟨vs,h1,k⟩
abbrev named (D:ae) (mvs:List (Bs×Option Nat)):ae:={ D with now:=fG D.now mvs,moves:=D.moves++[mvs] }
theorem rW {z:DV} {mvs:List (Bs×Option Nat)} (hs:Sat W0 (Ba v mvs::gd d z D++F) w) (hl:mvs.length<1000) (hm:D.moves.length≤1099511627776) :
 Calls Tryz.prog 140 #[ay d,v] w fun x w'=>x=.returned (.tuple #[])∧∃ mv',Sat W0 (gd d ⟨z.bn,z.bs,mv'⟩ (named D mvs)++F) w':=by
 obtain ⟨b,c0,rfl⟩:∃ b c,v=.slice (some ⟨b,0,none⟩) mvs.length c:=hs.fT fun _ ⟨b,c,h,_⟩=>⟨b,c,h⟩
 dsimp only [gd,aX,List.cons_append,List.nil_append] at hs
 refine enter Tryz.func140 rfl Tryz.ntmps140 Tryz.results140 rfl ?_
 refine go ?_
 refine ag (met (Bb (kvs:=D.now) (mvs:=mvs) (F:=[blk d 111 (aX z D),aM cS z.bs (aW D.safe),eX z.mv D.moves,star (D.nodes.map dX)]++F) hs.to hl) ?_)
 rintro _ w ⟨rfl,hs⟩
 refine ⟨_,rfl,go ?_⟩
 dsimp only [List.cons_append,List.nil_append] at hs
 obtain ⟨vs,hvs,hs⟩:=(hs.take (.there (.there (.there (.there .here))))).xT
 dsimp only [List.cons_append,List.nil_append] at hs
 obtain ⟨a2,c2,hmv,-⟩:=hs.aC
 refine fL hs fun w b1 hs=>?_
 refine dM hs fun mv' w hs=>?_
 refine go ?_
 obtain ⟨a,c,rfl,_⟩:=hs.aC
 refine bK hs fun w hs=>?_
 refine go ?_
 have e1:List.zipWith Ba (vs++[.slice (some ⟨b,0,none⟩) mvs.length c0]) (D.moves++[mvs])=List.zipWith Ba vs D.moves++[Ba (.slice (some ⟨b,0,none⟩) mvs.length c0) mvs]:=by
  rw [List.zipWith_append hvs];rfl
 have h2:=(hs.fg (.there .here) (.there (.there .here))).Bc
 rw [← e1] at h2
 have h3:Sat W0 (eX (.slice a (D.moves.length+1) c) (D.moves++[mvs])::aM cS z.bn (aW (fG D.now mvs))::blk d 111 ((aX z D).set (0+2) (.slice a (D.moves.length+1) c))::aM cS z.bs (aW D.safe)::star (D.nodes.map dX)::F) w:=
  Sat.pV (vs:=vs++[.slice (some ⟨b,0,none⟩) mvs.length c0]) (by simp [hvs]) (by rw [List.length_append];exact h2.take (.there .here))
 exact km rfl ⟨rfl,.slice a (D.moves.length+1) c,h3.to⟩
theorem Mx {p:Nat×(Bs×Nat)} {h:Hp} (k:dX p h):∃ o,h p.1=some (false,o):=by
 obtain ⟨v,h1,_,_,l1,_,ha,_⟩:=k
 exact ⟨_,l1 _ _ ha⟩
theorem Bd:∀ {ns:List (Nat×(Bs×Nat))} {h:Hp},cL (ns.map dX) h→∀ p∈ns,∃ o,h p.1=some (false,o)
 | q::ns,h,⟨h1,h2,_,l1,l2,ha,r⟩,p,hp=>by
  rcases List.mem_cons.1 hp with rfl|hp
  ·obtain ⟨o,ho⟩:=Mx ha;exact ⟨o,l1 _ _ ho⟩
  ·obtain ⟨o,ho⟩:=Bd r p hp;exact ⟨o,l2 _ _ ho⟩
theorem Sat.fresh {b:Nat} {o:Obj} {ns:List (Nat×(Bs×Nat))} (h:Sat W0 (ob false b o::star (ns.map dX)::F) w):aD ns b=none:=by
 cases hg:aD ns b with
 | none=>rfl
 | some x=>
  obtain ⟨_,_,_,_,hp,_,_,h1,h2,ff,_,_,ha,h3,h4,_,l3,_,hb,_⟩:=h
  obtain ⟨o',ho⟩:=Bd hb _ (Pure.dh hg)
  have:=(ff b _ _ ha (l3 _ _ ho)).2
  cases this
theorem Sat.My {i:Nat} (h:Sat W0 (blk i 116 [.slice none 0 0,.int .i64 0]::F) w):Sat W0 (dX (i,([],0))::F) w:=by
 have h2:=(Sat.uT h).take (.there .here)
 exact Sat.close (B:=[blk i 116 [.slice none 0 0,.int .i64 0],cI (.slice none 0 0) []]) h2 fun hp k=>⟨_,k⟩
def Mz (D:ae) (n:Bs) (e:Option (Option Bs×Nat)) (D':ae):Prop:=
 (D.eh=true∧e=some (some n,8)∧D'=D.tick)∨(D.eh=false∧(aD D.now n).isSome=true∧e=some (some n,11)∧D'=D.tick) ∨
 (D.eh=false∧aD D.now n=none∧e=none∧∃ i,aD D.nodes i=none∧D'=D.tick.created n i)
theorem Be {n:Bs} (hs:Sat W0 (eB d D::F) w) (hm:D.moves.length≤1099511627776) :
 Calls Tryz.prog 78 #[ay d,str n] w fun x w'=>∃ ve e D',x=.returned ve∧Mz D n e D'∧Sat W0 (eB d D'::aH ve e::F) w':=by
 refine enter Tryz.func78 rfl Tryz.ntmps78 Tryz.results78 rfl ?_
 refine go ?_
 refine ag (met (pU hs) ?_)
 rintro _ w ⟨rfl,hs⟩
 refine ⟨_,rfl,?_⟩
 cases ht:D.eh with
 | true=>
  refine go ?_
  refine bz [str n,.int .i64 8] ?_
  refine bR hs fun w b hs=>?_
  refine go ?_
  exact ah rfl ⟨_,_,_,rfl,.inl ⟨ht,rfl,rfl⟩,hs.pT.to⟩
 | false=>
  obtain ⟨hok,z,hs⟩:=hs.fp
  dsimp only [gd,aX,List.cons_append,List.nil_append] at hs
  have hl:=n4 D.tick.now n
  rw [Pure.ae.cX] at hl
  refine go ?_
  refine oP cS (k:=n) hs (.there .here) rfl rfl rfl zt rfl ?_
  rw [Pure.ae.cX,hl]
  cases hg:aD D.now n with
  | some j=>
   refine go ?_
   refine bz [str n,.int .i64 11] ?_
   refine bR hs fun w b hs=>?_
   refine go ?_
   exact ah rfl ⟨_,_,_,rfl,.inr (.inl ⟨ht,by simp [hg],rfl,rfl⟩),Sat.db (z:=z) hok hs.pT.to⟩
  | none=>
   refine go ?_
   refine bz [.slice none 0 0,.int .i64 0] ?_
   refine bR hs fun w i hs=>?_
   refine bz [str n,ay i] ?_
   refine ia [str n,ay i] hs fun w b hs=>?_
   have hfree:aD D.tick.nodes i=none:=Sat.fresh ((hs.take (.there .here)).fg .here (.there (.there (.there (.there (.there .here))))))
   have h2:Sat W0 (Ba (.slice (some ⟨b,0,none⟩) 1 1) [(n,some i)]::blk i 116 [.slice none 0 0,.int .i64 0]::gd d z D.tick++F) w:=hs.share.head fun hp k=>⟨b,1,rfl,k⟩
   have hok':=Pure.ae.Ok.created hok hfree (by rw [Pure.ae.cX];exact hg)
   refine go ?_
   refine ag (met (rW (F:=blk i 116 [.slice none 0 0,.int .i64 0]::F) h2.to (by simp) (by rw [Pure.ae.jK];omega)) ?_)
   rintro _ w ⟨rfl,mv',hs⟩
   refine ⟨_,rfl,go ?_⟩
   dsimp only [gd,aX,List.cons_append,List.nil_append] at hs
   have h3:=(((hs.take (.there (.there (.there (.there (.there .here)))))).My).fg .here (.there (.there (.there (.there .here))))).u9
   refine ah rfl ⟨_,_,_,rfl,.inr (.inr ⟨ht,hg,rfl,i,by rw [← Pure.ae.ep];exact hfree,rfl⟩),Sat.db (z:=⟨z.bn,z.bs,mv'⟩) hok' ?_⟩
   exact h3.ej.to
end
section
open Go.Proofs.YtecibefflhomdaaGreatDoor.Pure (ae aD cz dI fG)
attribute [local irreducible] IntKind.wrap
variable {W0 w:World} {F l:List ax} {v:Value} {d:Nat} {D:ae}
theorem Sat.aQ {e:cx} (h:Sat W0 (aH v (some e)::F) w):∃ t u,v=.iface t u:=h.fT fun _ k=>by
 obtain ⟨s,n⟩:=e
 cases s with
 | none=>exact ⟨_,_,k⟩
 | some s=>obtain ⟨b,k,_⟩:=k;exact ⟨_,_,k⟩
theorem Sat.cA {v:Value} (h:Sat W0 (aH v none::F) w):v=.nilIface:=h.fT fun _ k=>k
theorem sS:∀ {ns:List (Nat×(Bs×Nat))} {i:Nat} {x:Bs×Nat},aD ns i=some x→∃ a b,ns=a++(i,x)::b∧∀ y,cz ns i y=a++(i,y)::b
 | (k,v)::r,i,x,h=>by
  unfold aD at h
  by_cases hk:i=k
  ·subst hk;simp at h;subst h;exact ⟨[],r,rfl,fun y=>by simp [cz]⟩
  ·simp only [hk,if_false] at h
   obtain ⟨a,b,h1,h2⟩:=sS h
   exact ⟨(k,v)::a,b,by rw [h1];rfl,fun y=>by simp only [cz,hk,if_false,h2 y];rfl⟩
theorem Sat.mq {ns:List (Nat×(Bs×Nat))} {i:Nat} {x:Bs×Nat} (hg:aD ns i=some x) (h:Sat W0 (star (ns.map dX)::F) w) :
 ∃ B C v,ns.map dX=B++dX (i,x)::C∧(∀ y,(cz ns i y).map dX=B++dX (i,y)::C)∧Sat W0 (blk i 116 [v,.int .i64 (x.2:Int)]::cI v x.1::star (B++C)::F) w:=by
 obtain ⟨a,b,h1,h2⟩:=sS hg
 have e1:ns.map dX=a.map dX++dX (i,x)::b.map dX:=by rw [h1];simp
 rw [e1] at h
 obtain ⟨v,_,hs⟩:=h.eU.e9 (φ:=fun _:Value=>True) (B:=fun v=>[blk i 116 [v,.int .i64 (x.2:Int)],cI v x.1]) fun hp ⟨v,k⟩=>⟨v,trivial,k⟩
 exact ⟨a.map dX,b.map dX,v,e1,fun y=>by rw [h2];simp,hs⟩
theorem Sat.mY {i:Nat} {y:Bs×Nat} {B C:List ax} (h:Sat W0 (blk i 116 [v,.int .i64 (y.2:Int)]::cI v y.1::star (B++C)::F) w):Sat W0 (star (B++dX (i,y)::C)::F) w:=
 (Sat.close (B:=[blk i 116 [v,.int .i64 (y.2:Int)],cI v y.1]) h fun hp k=>⟨v,k⟩).eY
theorem kE {n:Bs} (h:bx D n=none):D.eh=false∧∃ i,aD D.now n=some i∧n5 D n=ay i:=by
 unfold bx at h
 split at h
 ·cases h
 ·rename_i ht
  split at h
  ·cases h
  ·rename_i i hi
   exact ⟨by simpa using ht,i,hi,by simp [n5,ht,hi]⟩
theorem Hm {n:Bs} (hs:Sat W0 (eB d D::F) w) :
 Calls Tryz.prog 160 #[ay d,str n] w fun x w'=>∃ ve,x=.returned (.tuple #[.int .i64 (match bx D n with|some _=>0|none=>match aD D.now n with|some i=>((D.aK i).length:Int)|none=>0),ve])∧Sat W0 (eB d D.tick::aH ve (bx D n)::F) w':=by
 refine enter Tryz.func160 rfl Tryz.ntmps160 Tryz.results160 rfl ?_
 refine go ?_
 refine ag (met (find_spec (n:=n) hs) ?_)
 rintro _ w ⟨ve,rfl,hs⟩
 refine ⟨_,rfl,?_⟩
 cases he:bx D n with
 | some e=>
  rw [he] at hs
  obtain ⟨t,u,rfl⟩:=(hs.take (.there .here)).aQ
  refine go ?_
  exact ah rfl ⟨_,rfl,hs⟩
 | none=>
  rw [he] at hs
  obtain ⟨ht,i,hi,hp⟩:=kE he
  have hve:=(hs.take (.there .here)).cA
  subst hve
  rw [hp,hi]
  obtain ⟨hok,z,hs⟩:=hs.fp
  dsimp only [gd,aX,List.cons_append,List.nil_append] at hs
  obtain ⟨x,hx⟩:=hok.zx (n:=n) (by rw [Pure.ae.cX];exact hi)
  obtain ⟨B,C,v,e1,e2,hs⟩:=(hs.take (.there (.there (.there (.there .here))))).mq hx
  obtain ⟨a,c,hv,-⟩:=(hs.take (.there .here)).aC
  subst hv
  have hd:D.aK i=x.1:=by unfold ae.aK;rw [← Pure.ae.ep,hx]
  dsimp only
  rw [hd]
  refine go ?_
  refine ah rfl ⟨_,rfl,Sat.db (z:=z) hok ?_⟩
  have h2:=hs.mY (y:=x)
  rw [← e1] at h2
  exact h2.to
theorem Hn {n:Bs} (hs:Sat W0 (eB d D::F) w) :
 Calls Tryz.prog 86 #[ay d,str n] w fun x w'=>∃ ve,x=.returned ve∧Sat W0 (eB d (hU D n fun i=>D.tick.laid i (D.aK i,(D.aK i).length))::aH ve (bx D n)::F) w':=by
 refine enter Tryz.func86 rfl Tryz.ntmps86 Tryz.results86 rfl ?_
 refine go ?_
 refine ag (met (find_spec (n:=n) hs) ?_)
 rintro _ w ⟨ve,rfl,hs⟩
 refine ⟨_,rfl,?_⟩
 unfold hU
 cases he:bx D n with
 | some e=>
  rw [he] at hs
  obtain ⟨t,u,rfl⟩:=(hs.take (.there .here)).aQ
  refine go ?_
  exact ah rfl ⟨_,rfl,hs⟩
 | none=>
  rw [he] at hs
  obtain ⟨ht,i,hi,hp⟩:=kE he
  have hve:=(hs.take (.there .here)).cA
  subst hve
  rw [hp,hi]
  obtain ⟨hok,z,hs⟩:=hs.fp
  dsimp only [gd,aX,List.cons_append,List.nil_append] at hs
  obtain ⟨x,hx⟩:=hok.zx (n:=n) (by rw [Pure.ae.cX];exact hi)
  obtain ⟨B,C,v,e1,e2,hs⟩:=(hs.take (.there (.there (.there (.there .here))))).mq hx
  obtain ⟨a,c,hv,-⟩:=(hs.take (.there .here)).aC
  subst hv
  have hd:D.aK i=x.1:=by unfold ae.aK;rw [← Pure.ae.ep,hx]
  have hd2:D.tick.aK i=x.1:=by rw [Pure.ae.iY,hd]
  dsimp only
  rw [hd]
  have hok':(D.tick.laid i (x.1,x.1.length)).Ok:=hok.laid (Nat.le_trans (Pure.ae.kC (k:=0) hok (by rw [hd2];rfl)) hok.used)
  refine go ?_
  refine bK hs fun w hs=>?_
  refine go ?_
  refine ah rfl ⟨_,rfl,Sat.db (z:=z) hok' ?_⟩
  have h2:=hs.mY (y:=(x.1,x.1.length))
  rw [← e2] at h2
  exact h2.to
theorem Bf {n:Bs} (hs:Sat W0 (eB d D::F) w) (hm:D.moves.length≤1099511627776) :
 Calls Tryz.prog 77 #[ay d,str n] w fun x w'=>∃ ve,x=.returned ve∧Sat W0 (eB d (hU D n fun _=>D.tick.fV n)::aH ve (bx D n)::F) w':=by
 refine enter Tryz.func77 rfl Tryz.ntmps77 Tryz.results77 rfl ?_
 refine go ?_
 refine ag (met (find_spec (n:=n) hs) ?_)
 rintro _ w ⟨ve,rfl,hs⟩
 refine ⟨_,rfl,?_⟩
 unfold hU
 cases he:bx D n with
 | some e=>
  rw [he] at hs
  obtain ⟨t,u,rfl⟩:=(hs.take (.there .here)).aQ
  refine go ?_
  exact ah rfl ⟨_,rfl,hs⟩
 | none=>
  rw [he] at hs
  obtain ⟨ht,i,hi,hp⟩:=kE he
  have hve:=(hs.take (.there .here)).cA
  subst hve
  rw [hp,hi]
  obtain ⟨hok,z,hs⟩:=hs.fp
  dsimp only [gd,aX,List.cons_append,List.nil_append] at hs
  refine go ?_
  refine bz [str n,.pointer none] ?_
  refine ia [str n,.pointer none] hs fun w b hs=>?_
  have h2:Sat W0 (Ba (.slice (some ⟨b,0,none⟩) 1 1) [(n,none)]::gd d z D.tick++(aH .nilIface none::F)) w:=hs.share.head fun hp k=>⟨b,1,rfl,k⟩
  refine go ?_
  refine ag (met (rW h2 (by simp) (by rw [Pure.ae.jK];omega)) ?_)
  rintro _ w ⟨rfl,mv',hs⟩
  refine ⟨_,rfl,go ?_⟩
  exact ah rfl ⟨_,rfl,Sat.db (z:=⟨z.bn,z.bs,mv'⟩) (hok.fV n) hs⟩
theorem Bg {n m:Bs} (hs:Sat W0 (eB d D::F) w) (hm:D.moves.length≤1099511627776) :
 Calls Tryz.prog 177 #[ay d,str n,str m] w fun x w'=>∃ ve,x=.returned ve∧Sat W0 (eB d (hU D n fun i=>if n=m then D.tick else D.tick.renamed n m i)::aH ve (bx D n)::F) w':=by
 refine enter Tryz.func177 rfl Tryz.ntmps177 Tryz.results177 rfl ?_
 refine go ?_
 refine ag (met (find_spec (n:=n) hs) ?_)
 rintro _ w ⟨ve,rfl,hs⟩
 refine ⟨_,rfl,?_⟩
 unfold hU
 cases he:bx D n with
 | some e=>
  rw [he] at hs
  obtain ⟨t,u,rfl⟩:=(hs.take (.there .here)).aQ
  refine go ?_
  exact ah rfl ⟨_,rfl,hs⟩
 | none=>
  rw [he] at hs
  obtain ⟨ht,i,hi,hp⟩:=kE he
  have hve:=(hs.take (.there .here)).cA
  subst hve
  rw [hp,hi]
  by_cases hnm:n=m
  ·have hnn:¬ n≠m:=fun h=>h hnm
   dsimp only
   rw [if_pos hnm]
   refine go ?_
   exact ah rfl ⟨_,rfl,hs⟩
  ·have hnn:n≠m:=hnm
   dsimp only
   rw [if_neg hnm]
   obtain ⟨hok,z,hs⟩:=hs.fp
   dsimp only [gd,aX,List.cons_append,List.nil_append] at hs
   refine go ?_
   refine bz [str m,ay i] ?_
   refine go ?_
   refine bz [str n,.pointer none] ?_
   refine ia [str m,ay i,str n,.pointer none] hs fun w b hs=>?_
   have h2:Sat W0 (Ba (.slice (some ⟨b,0,none⟩) 2 2) [(m,some i),(n,none)]::gd d z D.tick++(aH .nilIface none::F)) w:=hs.share.head fun hp k=>⟨b,2,rfl,k⟩
   refine go ?_
   refine ag (met (rW h2 (by simp) (by rw [Pure.ae.jK];omega)) ?_)
   rintro _ w ⟨rfl,mv',hs⟩
   refine ⟨_,rfl,go ?_⟩
   exact ah rfl ⟨_,rfl,Sat.db (z:=⟨z.bn,z.bs,mv'⟩) (hok.renamed hnm (by rw [Pure.ae.cX];exact hi)) hs⟩
end
section
open Go.Proofs.YtecibefflhomdaaGreatDoor.Pure (ae aD cz dI fG)
attribute [local irreducible] IntKind.wrap
variable {W0 w:World} {F l:List ax} {v:Value} {d:Nat} {D:ae}
theorem kt:∀ {ns:List (Bs×Nat)} {l1 l2:List (Bs×Value)} {x:Bs×Value},aW ns=l1++x::l2→∃ a p b,ns=a++p::b∧x=(p.1,ay p.2)∧l1++l2=aW (a++b)
 | [],l1,l2,x,h=>by cases l1<;>simp [aW] at h
 | q::ns,[],l2,x,h=>by
  simp only [aW,List.map_cons,List.nil_append,List.cons.injEq] at h
  exact ⟨[],q,ns,rfl,h.1.symm,by simp [aW,← h.2]⟩
 | q::ns,y::l1,l2,x,h=>by
  simp only [aW,List.map_cons,List.cons_append,List.cons.injEq] at h
  obtain ⟨a,p,b,h1,h2,h3⟩:=kt (ns:=ns) h.2
  exact ⟨q::a,p,b,by rw [h1];rfl,h2,by simp only [List.cons_append,aW,List.map_cons];rw [h3,← h.1];rfl⟩
theorem Bh {n bs:Bs} {vb:Value} (hs:Sat W0 (eB d D::cI vb bs::F) w) :
 Calls Tryz.prog 79 #[ay d,str n,vb] w fun x w'=>∃ ve,x=.returned ve∧Sat W0 (eB d (cg D n bs)::cI vb bs::aH ve (dW D n bs)::F) w':=by
 obtain ⟨ab,cb,hvb,hcb⟩:=(hs.take (.there .here)).aC
 subst hvb
 have hcb1:bs.length≤9223372036854775807:=by have:=hcb.1;have:=hcb.2;simp only [maxLen] at this;omega
 refine enter Tryz.func79 rfl Tryz.ntmps79 Tryz.results79 rfl ?_
 refine go ?_
 refine ag (met (find_spec (n:=n) hs) ?_)
 rintro _ w ⟨ve,rfl,hs⟩
 refine ⟨_,rfl,?_⟩
 unfold cg dW
 cases he:bx D n with
 | some e=>
  rw [he] at hs
  obtain ⟨t,u,rfl⟩:=(hs.take (.there .here)).aQ
  refine go ?_
  exact ah rfl ⟨_,rfl,hs.to⟩
 | none=>
  rw [he] at hs
  obtain ⟨ht,i,hi,hp⟩:=kE he
  have hve:=(hs.take (.there .here)).cA
  subst hve
  rw [hp,hi]
  obtain ⟨hok,z,hs⟩:=hs.fp
  dsimp only [gd,aX,List.cons_append,List.nil_append] at hs
  refine go ?_
  refine qu cS hs (.there .here) rfl rfl rfl fun w it hs=>?_
  refine go ?_
  have hr0:=hok.room0
  have hr1:=hok.room1
  have hus:=hok.used
  refine aJ (α:=List (Bs×Nat)×Nat) (fun y=>[(0,ay d),(1,str n),(2,.slice ab bs.length cb),(7,ay i),(25,.pointer (some ⟨it,0,none⟩)),(9,.int .i64 (y.2:Int))])
   (fun y w=>(y.2+(y.1.map fun p=>(D.tick.aK p.2).length).sum=D.tick.used∧∀ p∈y.1,(aD D.tick.nodes p.2).isSome=true)∧∃ last,Sat W0 (gL cS z.bn it (aW D.tick.now) (aW y.1) last::blk d 111 (aX z D.tick)::aM cS z.bs (aW D.tick.safe)::eX z.mv D.tick.moves::star (D.tick.nodes.map dX)::aH .nilIface none::cI (.slice ab bs.length cb) bs::F) w) (fun y=>y.1.length) (D.tick.now,0) ⟨rfl,rfl,rfl,rfl,rfl,rfl,trivial⟩ ⟨⟨by simp [ae.used],hok.now⟩,none,hs⟩ ?_
  clear hs
  rintro ⟨left,u⟩ w ⟨⟨hsum,hin⟩,last,hs⟩
  dsimp only at hsum hin hs ⊢
  refine go ?_
  refine uf cS hs .here rfl rfl (fun h0=>?_) (fun l1 x l2 w hl hs=>?_)
  ·have hl0:left=[]:=by simpa [aW] using h0
   subst hl0
   have:u=D.tick.used:=by simpa using hsum
   subst this
   have hs:=hs.oQ
   clear hsum hin h0
   obtain ⟨x,hx⟩:=hok.zx (n:=n) (by rw [Pure.ae.cX];exact hi)
   obtain ⟨B,C,v,e1,e2,hs⟩:=(hs.take (.there (.there (.there (.there .here))))).mq hx
   obtain ⟨a3,c3,hv,-⟩:=(hs.take (.there .here)).aC
   subst hv
   have hd:D.aK i=x.1:=by unfold ae.aK;rw [← Pure.ae.ep,hx]
   have hd2:D.tick.aK i=x.1:=by rw [Pure.ae.iY,hd]
   have hsz:x.1.length≤D.tick.used:=by rw [← hd2];exact Pure.ae.size_le (by rw [Pure.ae.cX];exact hi)
   have hsf:mX D i=x.2:=by unfold mX;rw [← Pure.ae.ep,hx]
   have er:D.room=D.tick.room:=by simp
   have eu:D.used=D.tick.used:=by simp
   rw [er,eu,hd,hsf]
   by_cases hroom:(bs.length:Int) > D.tick.room-D.tick.used
   ·rw [if_pos hroom]
    refine go ?_
    refine bz [str n,.int .i64 9] ?_
    refine bR hs fun w b hs=>?_
    refine go ?_
    have h2:=Sat.mY (i:=i) (y:=x) (B:=B) (C:=C) (v:=.slice a3 x.1.length c3) (F:=aH (.iface 249 (.pointer (some ⟨b,0,none⟩))) (some (some n,9))::blk d 111 (aX z D.tick)::aM cS z.bn (aW D.tick.now)::aM cS z.bs (aW D.tick.safe)::eX z.mv D.tick.moves::cI (.slice ab bs.length cb) bs::F) hs.pT.to
    rw [← e1] at h2
    exact ah rfl ⟨_,rfl,Sat.db (z:=z) hok h2.to⟩
   ·rw [if_neg hroom]
    have hok':(D.tick.laid i (x.1++bs,x.2)).Ok:=hok.laid (Nat.le_trans (Pure.ae.kC (k:=bs.length) hok (by rw [hd2];simp)) (by omega))
    refine go ?_
    refine FK (hm:=by omega) hs fun v' w hs=>?_
    obtain ⟨a4,c4,hv4,-⟩:=hs.aC
    subst hv4
    refine go ?_
    refine bK hs fun w hs=>?_
    refine go ?_
    have h2:=Sat.mY (i:=i) (y:=(x.1++bs,x.2)) (B:=B) (C:=C) (F:=aH .nilIface none::blk d 111 (aX z D.tick)::aM cS z.bn (aW D.tick.now)::aM cS z.bs (aW D.tick.safe)::eX z.mv D.tick.moves::cI (.slice ab bs.length cb) bs::F) hs.to
    rw [← e2] at h2
    exact ah rfl ⟨_,rfl,Sat.db (z:=z) hok' h2.to⟩
  ·obtain ⟨a,p,b,rfl,rfl,hab⟩:=kt hl
   rw [hab] at hs
   obtain ⟨q,hq⟩:=Option.isSome_iff_exists.1 (hin p (by simp))
   refine go ?_
   refine qv cS hs .here rfl rfl ?_
   obtain ⟨B,C,v,e1,e2,hs⟩:=(hs.take (.there (.there (.there (.there .here))))).mq hq
   obtain ⟨a2,c2,hv,-⟩:=(hs.take (.there .here)).aC
   subst hv
   have hd:D.tick.aK p.2=q.1:=by unfold ae.aK;rw [hq]
   have hsum2:u+q.1.length+((a++b).map fun p=>(D.tick.aK p.2).length).sum=D.tick.used:=by
    simp only [List.map_append,List.map_cons,List.sum_append,List.sum_cons,hd] at hsum ⊢;omega
   refine go ?_
   refine az (a++b,u+q.1.length) ⟨rfl,rfl,rfl,rfl,rfl,rfl,trivial⟩ ⟨⟨hsum2,fun p hp=>hin p (by simp at hp ⊢;rcases hp with h|h<;>simp [h])⟩,some (p.1,ay p.2),?_⟩ (by simp)
   have h2:=hs.mY (y:=q)
   rw [← e1] at h2
   exact h2.to
end
section
open Go.Proofs.YtecibefflhomdaaGreatDoor.Pure (ae aD cz dI fG)
attribute [local irreducible] IntKind.wrap
variable {W0 w:World} {F l:List ax} {v:Value} {d:Nat} {D:ae} {bs:Bs}
theorem Oo {a:Option Addr} {c:Nat}:tL 1 93 (.slice a 0 c) 0 [] l:=fun _ w _=>by
 cases a with
 | none=>exact Src.ofNil w (bQ (t:=93) rfl) c
 | some a=>exact Src.ofSlice w (bQ (t:=93) rfl) _ _ _ _ (by simp) (fun j u hu=>by simp at hu) (fun u hu=>by simp at hu)
theorem PK {v:Value} (hr:Oj l v bs):tL 1 93 v bs.length (bs.map bV) l:=by
 rcases hr with ⟨rfl,a,c,rfl⟩|⟨b,o,c,sh,all,E,r,rfl,tk,hcell⟩
 ·exact Oo
 ·exact Dw (all:=all.toList) rfl (by simpa using tk) (by simp) (fun j u hu=>by simpa using hcell j u hu) (Jw bs)
theorem vd (hs:Sat W0 l w) (hr:Oj l v bs) (hb:bs.length≤140737488355328) :
 Calls Tryz.prog 46 #[v] w fun x w'=>∃ v',x=.returned v'∧Sat W0 (cI v' bs::l) w':=by
 obtain ⟨a,c,hv⟩:∃ a c,v=.slice a bs.length c:=by
  rcases hr with ⟨rfl,a,c,rfl⟩|⟨b,o,c,_,_,_,_,rfl,_⟩<;>exact ⟨_,_,rfl⟩
 subst hv
 refine enter Tryz.func46 rfl Tryz.ntmps46 Tryz.results46 rfl ?_
 cases a with
 | none=>
  have hbs:bs=[]:=by
   rcases hr with ⟨h,_⟩|⟨b,o,c',_,_,_,_,h,_⟩
   ·exact h
   ·simp at h
  subst hbs
  refine go ?_
  exact ah rfl ⟨_,rfl,hs.uT⟩
 | some a=>
  refine go ?_
  refine ia [] hs fun w b hs2=>?_
  have hown:Sat W0 (cI (.slice (some ⟨b,0,none⟩) 0 0) []::l) w:=Sat.dg (cs:=[]) (len:=0) (rest:=[]) (by simpa using hs2) (Nat.le_refl _) (by decide) rfl rfl (by simp)
  have hr2:tL 1 93 (.slice (some a) bs.length c) bs.length (bs.map bV) (cI (.slice (some ⟨b,0,none⟩) 0 0) []::l):=fun W w h=>PK hr W w h.drop
  refine go ?_
  refine mR (m:=bs.length) hown rfl rfl .here hr2 (by simpa using hb) rfl fun v' w hs=>?_
  refine go ?_
  exact ah rfl ⟨v',rfl,by simpa using hs⟩
section
variable {ops:Array Oper} {Q:Exit→Act→World→Prop} {n:Nat} {ds:Md} {e:Env} {rest:List Oper}
variable {op:Op} {ty:TypeId} {pos:String} {af:Array Edge} {dd:Nat}
theorem Oq {x lo hi:Operand} (l' h':Nat) (hs:Sat W0 (cI v bs::l) w) (hx:ev e x=some v) (hlo:ev e lo=some (.int .i64 (l':Int))) (hhi:ev e hi=some (.int .i64 (h':Int))) (h1:l'≤h') (h2:h'≤bs.length) (hd:Nat.blt dd n=true)
 (kk:∀ v' l2,Oj l2 v' ((bs.drop l').take (h'-l'))→Sat W0 l2 w→(∀ hp,cL l2 hp→cL (cI v bs::l) hp)→WL ops Q n ds rest ((dd,v')::e) w) :
 WL ops Q n ds (⟨some dd,.slice 93 x (some lo) (some hi) none,ty,pos,af,none⟩::rest) e w:=by
 by_cases hv:v=.slice none 0 0
 ·subst hv
  obtain ⟨a,cap,e1,_⟩:=hs.aC
  have hb:bs=[]:=List.eq_nil_of_length_eq_zero (by simp at e1;omega)
  subst hb
  have hh:h'=0:=by simpa using h2
  have hl:l'=0:=by omega
  subst hh;subst hl
  exact tZ hx rfl rfl hlo hhi hd (kk _ _ (.inl ⟨by simp,none,0,rfl⟩) hs fun _ h=>h)
 ·have hlen:=hs.uL
  have hone:=hs.uM
  obtain ⟨b,cap,rs,rfl,q1,q2,q3,hs2⟩:=hs.lD hv
  refine mT l' h' hx rfl rfl hlo hhi h1 (by omega) hd (kk _ (blk b 5 (bs.map bV++rs)::l) ?_ hs2 fun hp k=>rF (fun _ ha=>⟨hlen,hone,.inr ⟨b,cap,rs,rfl,q1,q2,q3,ha⟩⟩) k)
  by_cases hz:h'-l'=0
  ·exact .inl ⟨by rw [hz];simp,_,_,by rw [hz]⟩
  ·have hne:cap≠l':=by omega
   have ec:cutAt b 0 cap l' 1=⟨b,l',none⟩:=by unfold cutAt;rw [if_neg hne];simp
   rw [ec]
   have el:((bs.drop l').take (h'-l')).length=h'-l':=by simp;omega
   refine .inr ⟨b,l',cap-l',false,_,_,_,by rw [el],.here,fun j u hu=>?_⟩
   simp only [List.getElem?_toArray]
   have hj:j<h'-l':=by have:=(List.getElem?_eq_some_iff.1 hu).1;rw [List.length_map,el] at this;exact this
   rw [List.getElem?_append_left (by simp;omega)]
   rw [List.map_take,List.map_drop,List.getElem?_take,if_pos hj,List.getElem?_drop] at hu
   exact hu
end
end
section
open Go.Proofs.YtecibefflhomdaaGreatDoor.Pure (ae aD cz dI fG)
attribute [local irreducible] IntKind.wrap
variable {W0 w:World} {F l:List ax} {v:Value} {d:Nat} {D:ae} {bs:Bs}
theorem vg (h:D.Ok) (n:Int):(counted D n).Ok:=⟨h.now,h.safe,h.moves,h.names,h.ids,h.room0,h.room1,h.wait0,h.wait1,h.bad0,h.bad1,h.used,h.short⟩
def F2 (D:ae) (nm:Bs) (at_ n:Int):Bs:=match bx D nm with
 | some _=>[]
 | none=>match aD D.now nm with
  | some i=>fB (D.aK i) at_ n
  | none=>[]
theorem Bi {nm:Bs} {at_ n:Int} (hs:Sat W0 (eB d D::F) w) (ha1:-9223372036854775808≤at_) (ha2:at_≤9223372036854775807) (hn1:-9223372036854775808≤n) (hn2:n≤9223372036854775807) :
 Calls Tryz.prog 161 #[ay d,str nm,.int .i64 at_,.int .i64 n] w fun x w'=>∃ v ve,x=.returned (.tuple #[v,ve])∧Sat W0 (eB d (counted D n).tick::cI v (F2 D nm at_ n)::aH ve (bx D nm)::F) w':=by
 obtain ⟨hok,z,hs⟩:=hs.fp
 dsimp only [gd,aX,List.cons_append,List.nil_append] at hs
 have hok1:=vg hok n
 have hfe:bx (counted D n) nm=bx D nm:=rfl
 have hfp:n5 (counted D n) nm=n5 D nm:=rfl
 refine enter Tryz.func161 rfl Tryz.ntmps161 Tryz.results161 rfl ?_
 refine go ?_
 refine bK hs fun w hs=>?_
 refine go ?_
 refine bK hs fun w hs=>?_
 have hs:Sat W0 (eB d (counted D n)::F) w:=Sat.db (z:=z) hok1 hs.to
 refine go ?_
 refine ag (met (find_spec (n:=nm) hs) ?_)
 rintro _ w ⟨ve,rfl,hs⟩
 refine ⟨_,rfl,?_⟩
 rw [hfe] at hs
 rw [hfp]
 unfold F2
 cases he:bx D nm with
 | some e=>
  rw [he] at hs
  obtain ⟨t,u,rfl⟩:=(hs.take (.there .here)).aQ
  refine go ?_
  exact ah rfl ⟨_,_,rfl,(hs.uT).to⟩
 | none=>
  rw [he] at hs
  obtain ⟨ht,i,hi,hp⟩:=kE he
  have hve:=(hs.take (.there .here)).cA
  subst hve
  rw [hp,hi]
  obtain ⟨hok,z,hs⟩:=hs.fp
  dsimp only [gd,aX,List.cons_append,List.nil_append] at hs
  obtain ⟨x,hx⟩:=hok.zx (n:=nm) (by rw [Pure.ae.cX];exact hi)
  have hx':aD D.nodes i=some x:=by rw [Pure.ae.ep] at hx;exact hx
  obtain ⟨B,C,v,e1,e2,hs⟩:=(hs.take (.there (.there (.there (.there .here))))).mq hx
  obtain ⟨a,c,hv,-⟩:=(hs.take (.there .here)).aC
  subst hv
  have hd:D.aK i=x.1:=by unfold ae.aK;rw [hx']
  have hsz:x.1.length≤4398046511104:=by
   have h1:=Pure.ae.size_le (D:=(counted D n).tick) (n:=nm) (i:=i) (by rw [Pure.ae.cX];exact hi)
   have h2:=hok.used
   have h3:(counted D n).tick.aK i=x.1:=by unfold ae.aK;rw [hx]
   rw [h3] at h1;omega
  dsimp only
  rw [hd]
  unfold fB
  obtain ⟨A,hA⟩:∃ A:Nat,min (max at_ 0) (x.1.length:Int)=A:=⟨(min (max at_ 0) (x.1.length:Int)).toNat,by omega⟩
  obtain ⟨M,hM⟩:∃ M:Nat,min (max n 0) ((x.1.length:Int)-min (max at_ 0) (x.1.length:Int))=M:=⟨(min (max n 0) ((x.1.length:Int)-min (max at_ 0) (x.1.length:Int))).toNat,by omega⟩
  rw [hM,hA]
  refine go ?_
  refine Oq (l':=A) (h':=A+M) (hs.take (.there .here)) rfl ?_ ?_ (by omega) (by omega) rfl fun v' l2 hr hs hb=>?_
  ·show some (Value.int .i64 (min (max at_ 0) (x.1.length:Int)))=_;rw [hA]
  ·show some (Value.int .i64 (min (max at_ 0) (x.1.length:Int)+min (max n 0) ((x.1.length:Int)-min (max at_ 0) (x.1.length:Int))))=_;rw [hM,hA];simp
  refine go ?_
  refine ag (met (vd hs hr (by simp;omega)) ?_)
  rintro _ w ⟨v2,rfl,hs⟩
  refine ⟨_,rfl,go ?_⟩
  have h2:=hs.imp fun _ k=>cZ (fun hp=>hb hp) k
  have h3:=Sat.mY (i:=i) (y:=x) (B:=B) (C:=C) (F:=cI v2 ((x.1.drop A).take (A+M-A))::aH .nilIface none::blk d 111 (aX z (counted D n).tick)::aM cS z.bn (aW (counted D n).tick.now)::aM cS z.bs (aW (counted D n).tick.safe)::eX z.mv (counted D n).tick.moves::F) h2.to
  rw [← e1,Nat.add_sub_cancel_left] at h3
  exact ah rfl ⟨_,_,rfl,Sat.db (z:=z) hok h3.to⟩
end
end Go.Proofs.YtecibefflhomdaaGreatDoor
