/-
  Part 1: The engine 1 separation-logic chunk lists over the model's h; THE TABLES OF THE TYPES that the walked functions use, print.
-/
import Derived.Calls
import Derived.Tactics
import Derived.Laws.World
import Derived.KernelRfl
import Derived.Test.YtecibefflhomdaaGreatDoorProg
set_option maxHeartbeats 8000000
set_option maxRecDepth 100000
set_option linter.all false
namespace Go.Proofs.YtecibefflhomdaaGreatDoor
open Go
abbrev Hp:=Nat→Option (Bool×Obj)
abbrev ah:=Hp→Prop
def Hp.fits (a b:Hp):Prop:=∀ i x y,a i=some x→b i=some y→x=y∧x.1=true
def Hp.le (a b:Hp):Prop:=∀ i x,a i=some x→b i=some x
def Hp.un (a b:Hp):Hp:=fun i=>match a i with|some x=>some x|none=>b i
theorem Hp.le_refl (a:Hp):Hp.le a a:=fun _ _ h=>h
theorem Hp.le_trans {a b c:Hp} (h:Hp.le a b) (k:Hp.le b c):Hp.le a c:=fun i x hx=>k i x (h i x hx)
theorem Hp.od {a b:Hp} (h:Hp.fits a b):Hp.fits b a:=fun i x y hx hy=>by
 obtain ⟨e,s⟩:=h i y x hy hx;subst e;exact ⟨rfl,s⟩
theorem Hp.ju {a b a' b':Hp} (h:Hp.fits a b) (ha:Hp.le a' a) (hb:Hp.le b' b):Hp.fits a' b':=
 fun i x y hx hy=>h i x y (ha i x hx) (hb i y hy)
theorem Hp.mq (a b:Hp):Hp.le a (Hp.un a b):=fun i x hx=>by simp [Hp.un,hx]
theorem Hp.lh {a b:Hp} (h:Hp.fits a b):Hp.le b (Hp.un a b):=fun i x hx=>by
 unfold Hp.un
 cases ha:a i with
 | none=>simpa using hx
 | some y=>simp only [];rw [(h i y x ha hx).1]
theorem Hp.y9 {a b c:Hp} (ha:Hp.le a c) (hb:Hp.le b c):Hp.le (Hp.un a b) c:=fun i x hx=>by
 unfold Hp.un at hx
 cases h:a i with
 | none=>rw [h] at hx;exact hb i x hx
 | some y=>rw [h] at hx;simp only [Option.some.injEq] at hx;subst hx;exact ha i y h
theorem Hp.xH {a b c:Hp} (h1:Hp.fits a b) (h2:Hp.fits a c):Hp.fits a (Hp.un b c):=fun i x y hx hy=>by
 unfold Hp.un at hy
 cases h:b i with
 | none=>rw [h] at hy;exact h2 i x y hx hy
 | some z=>rw [h] at hy;simp only [Option.some.injEq] at hy;subst hy;exact h1 i x z hx h
def cV:List ah→ah
 | [],_=>True
 | A::l,h=>∃ h1 h2,Hp.fits h1 h2∧Hp.le h1 h∧Hp.le h2 h∧A h1∧cV l h2
theorem vV:∀ {l:List ah} {h h':Hp},Hp.le h h'→cV l h→cV l h'
 | [],_,_,_,_=>trivial
 | _::_,_,_,hle,⟨h1,h2,f,l1,l2,a,r⟩=>⟨h1,h2,f,Hp.le_trans l1 hle,Hp.le_trans l2 hle,a,r⟩
theorem ki {A B:ah} {l:List ah} {h:Hp} (H:cV (A::B::l) h):cV (B::A::l) h:=by
 obtain ⟨h1,h2,f,l1,l2,a,h3,h4,f',l3,l4,b,r⟩:=H
 have f13:=Hp.ju f (Hp.le_refl _) l3
 have f14:=Hp.ju f (Hp.le_refl _) l4
 refine ⟨h3,Hp.un h1 h4,Hp.xH (Hp.od f13) f',Hp.le_trans l3 l2,Hp.y9 l1 (Hp.le_trans l4 l2),b,h1,h4,f14,Hp.mq _ _,Hp.lh f14,a,r⟩
theorem dH {A:ah} {l l':List ah} (H:∀ h,cV l h→cV l' h) {h:Hp} (k:cV (A::l) h):cV (A::l') h:=by
 obtain ⟨h1,h2,f,l1,l2,a,r⟩:=k
 exact ⟨h1,h2,f,l1,l2,a,H _ r⟩
theorem vW {A A':ah} {l:List ah} (H:∀ h,A h→A' h) {h:Hp} (k:cV (A::l) h):cV (A'::l) h:=by
 obtain ⟨h1,h2,f,l1,l2,a,r⟩:=k
 exact ⟨h1,h2,f,l1,l2,H _ a,r⟩
theorem kj {A:ah} {l:List ah} {h:Hp} (k:cV (A::l) h):cV l h:=by
 obtain ⟨h1,h2,f,l1,l2,a,r⟩:=k
 exact vV l2 r
theorem jM:∀ {a b:List ah} {h1 h2 h:Hp},Hp.fits h1 h2→Hp.le h1 h→Hp.le h2 h→cV a h1→cV b h2→cV (a++b) h
 | [],_,_,_,_,_,_,l2,_,r=>vV l2 r
 | A::a,b,h1,h2,h,f,l1,l2,⟨k1,k2,f',m1,m2,ha,r⟩,rb=>by
  have f1:=Hp.ju f m1 (Hp.le_refl _)
  have f2:=Hp.ju f m2 (Hp.le_refl _)
  refine ⟨k1,Hp.un k2 h2,Hp.xH f' f1,Hp.le_trans m1 l1,Hp.y9 (Hp.le_trans m2 l1) l2,ha,?_⟩
  exact jM f2 (Hp.mq _ _) (Hp.lh f2) r rb
theorem kv:∀ {a b:List ah} {h:Hp},cV (a++b) h→∃ h1 h2,Hp.fits h1 h2∧Hp.le h1 h∧Hp.le h2 h∧cV a h1∧cV b h2
 | [],b,h,r=>⟨fun _=>none,h,fun _ _ _ hx=>(by cases hx),fun _ _ hx=>(by cases hx),Hp.le_refl _,trivial,r⟩
 | A::a,b,h,⟨k1,k2,f,l1,l2,ha,r⟩=>by
  obtain ⟨h1,h2,f',m1,m2,ra,rb⟩:=kv r
  have g1:=Hp.ju f (Hp.le_refl _) m1
  have g2:=Hp.ju f (Hp.le_refl _) m2
  refine ⟨Hp.un k1 h1,h2,Hp.od (Hp.xH (Hp.od g2) (Hp.od f')),Hp.y9 l1 (Hp.le_trans m1 l2),Hp.le_trans m2 l2,⟨k1,h1,g1,Hp.mq _ _,Hp.lh g1,ha,ra⟩,rb⟩
def star (l:List ah):ah:=cV l
theorem dI {a b:List ah} {h:Hp} (k:cV (star a::b) h):cV (a++b) h:=by
 obtain ⟨h1,h2,f,l1,l2,ra,rb⟩:=k
 exact jM f l1 l2 ra rb
theorem dJ {a b:List ah} {h:Hp} (k:cV (a++b) h):cV (star a::b) h:=by
 obtain ⟨h1,h2,f,l1,l2,ra,rb⟩:=kv k
 exact ⟨h1,h2,f,l1,l2,ra,rb⟩
inductive Take:ah→List ah→List ah→Prop
 | here {A:ah} {l:List ah}:Take A (A::l) l
 | there {A B:ah} {l r:List ah}:Take A l r→Take A (B::l) (B::r)
theorem Take.to {A:ah} {l r:List ah} (t:Take A l r):∀ {h:Hp},cV l h→cV (A::r) h:=by
 induction t with
 | here=>exact fun k=>k
 | there _ ih=>exact fun k=>ki (dH (fun h=>ih) k)
theorem Take.back {A:ah} {l r:List ah} (t:Take A l r):∀ {h:Hp},cV (A::r) h→cV l h:=by
 induction t with
 | here=>exact fun k=>k
 | there _ ih=>exact fun k=>dH (fun h=>ih) (ki k)
inductive ic:List ah→ah→ah→List ah→Prop
 | here {A B:ah} {l:List ah}:ic (A::l) A B (B::l)
 | there {A B C:ah} {l l':List ah}:ic l A B l'→ic (C::l) A B (C::l')
theorem ic.take {l l':List ah} {A B:ah} (t:ic l A B l'):∃ r,Take A l r∧Take B l' r:=by
 induction t with
 | here=>exact ⟨_,.here,.here⟩
 | there _ ih=>obtain ⟨r,h1,h2⟩:=ih;exact ⟨_,.there h1,.there h2⟩
def ob (sh:Bool) (b:Nat) (o:Obj):ah:=fun h=>h b=some (sh,o)
abbrev blk (b:Nat) (T:TypeId) (cs:List Value):ah:=ob false b (.cells cs.toArray T (0,0))
abbrev sT (b:Nat) (T:TypeId) (cs:List Value):ah:=ob true b (.cells cs.toArray T (0,0))
structure Sat (W0:World) (l:List ah) (w:World):Prop where
 os:w.os=W0.os
 tape:w.tape=W0.tape
 output:w.output=W0.output
 size:W0.heap.size≤w.heap.size
 mem:∃ h:Hp,(∀ i x,h i=some x→w.heap[i]?=some x.2)∧(∀ i o,W0.heap[i]?=some o→h i=some (true,o))∧cV l h
section
variable {W0 w:World} {l l':List ah}
theorem Sat.imp (h:Sat W0 l w) (k:∀ h,cV l h→cV l' h):Sat W0 l' w:=by
 obtain ⟨a,b,c,d,hp,e,f,g⟩:=h
 exact ⟨a,b,c,d,hp,e,f,k _ g⟩
theorem Sat.drew (h:Sat W0 l w):Sat W0 l { w with drawn:=w.drawn+1 }:=⟨h.1,h.2,h.3,h.4,h.5⟩
theorem Sat.refl (W:World):Sat W [] W:=⟨rfl,rfl,rfl,Nat.le_refl _,fun i=>(W.heap[i]?).map fun o=>(true,o),fun i x hx=>by
 simp only [Option.map_eq_some_iff] at hx
 obtain ⟨o,ho,rfl⟩:=hx
 exact ho,
 fun i o ho=>by simp only [ho,Option.map_some],trivial⟩
theorem Sat.take {A:ah} {r:List ah} (h:Sat W0 l w) (t:Take A l r):Sat W0 (A::r) w:=h.imp fun _=>t.to
theorem Sat.mr {A:ah} {r:List ah} (h:Sat W0 (A::r) w) (t:Take A l r):Sat W0 l w:=h.imp fun _=>t.back
theorem Sat.eA {A B:ah} {r r':List ah} (h:Sat W0 l w) (t:Take A l r) (t':Take B r r'):Sat W0 (A::B::r') w:=
 h.imp fun _ k=>dH (fun _=>t'.to) (t.to k)
theorem Sat.drop {A:ah} (h:Sat W0 (A::l) w):Sat W0 l w:=h.imp fun _=>kj
theorem Sat.eI {A:ah} {α:Sort _} {φ:α→Prop} {B:α→List ah} (h:Sat W0 (A::l) w) (k:∀ h,A h→∃ x,φ x∧cV (B x) h):∃ x,φ x∧Sat W0 (B x++l) w:=by
 obtain ⟨a,b,c,d,hp,e,f,h1,h2,ff,l1,l2,ha,r⟩:=h
 obtain ⟨x,hx,hB⟩:=k _ ha
 exact ⟨x,hx,a,b,c,d,hp,e,f,jM ff l1 l2 hB r⟩
theorem Sat.close {A:ah} {B:List ah} (h:Sat W0 (B++l) w) (k:∀ h,cV B h→A h):Sat W0 (A::l) w:=
 h.imp fun _ r=>by
  obtain ⟨h1,h2,f,l1,l2,ra,rb⟩:=kv r
  exact ⟨h1,h2,f,l1,l2,k _ ra,rb⟩
theorem Sat.head {A A':ah} (h:Sat W0 (A::l) w) (k:∀ h,A h→A' h):Sat W0 (A'::l) w:=h.imp fun _=>vW k
theorem Sat.fC {sh:Bool} {b:Nat} {o:Obj} (h:Sat W0 (ob sh b o::l) w):w.heap[b]?=some o:=by
 obtain ⟨_,_,_,_,hp,e,_,h1,h2,_,l1,_,ha,_⟩:=h
 exact e b _ (l1 b _ ha)
theorem Sat.at {sh:Bool} {b:Nat} {o:Obj} {r:List ah} (h:Sat W0 l w) (t:Take (ob sh b o) l r):w.heap[b]?=some o:=(h.take t).fC
theorem Sat.G1 {b:Nat} {o:Obj} (h:Sat W0 (ob false b o::l) w):W0.heap.size≤b:=by
 obtain ⟨_,_,_,_,hp,e,f,h1,h2,_,l1,_,ha,_⟩:=h
 rcases Nat.lt_or_ge b W0.heap.size with hlt|hge
 ·have:=f b _ (Array.getElem?_eq_getElem hlt)
  rw [l1 b _ ha] at this
  cases this
 ·exact hge
theorem Sat.kx {b:Nat} {o o':Obj} (h:Sat W0 (ob false b o::l) w) {w':World}
 (hos:w'.os=w.os) (ht:w'.tape=w.tape) (ho:w'.output=w.output) (hsz:w'.heap.size=w.heap.size)
 (hb:w'.heap[b]?=some o') (hne:∀ i,i≠b→w'.heap[i]?=w.heap[i]?):Sat W0 (ob false b o'::l) w':=by
 have hold:=h.G1
 obtain ⟨a,bb,c,d,hp,e,f,h1,h2,ff,l1,l2,ha,r⟩:=h
 refine ⟨hos.trans a,ht.trans bb,ho.trans c,hsz▸d,fun i=>if i=b then some (false,o') else hp i,?_,?_,fun i=>if i=b then some (false,o') else none,h2,?_,?_,?_,by simp [ob],r⟩
 ·intro i x hx
  by_cases hi:i=b
  ·subst hi;simp at hx;subst hx;exact hb
  ·simp [hi] at hx;rw [hne i hi];exact e i x hx
 ·intro i o'' hi'
  have hlt:i<W0.heap.size:=(Array.getElem?_eq_some_iff.1 hi').1
  have:i≠b:=by omega
  simp [this,f i o'' hi']
 ·intro i x y hx hy
  by_cases hi:i=b
  ·subst hi
   have:=(ff i _ _ ha hy).2
   cases this
  ·simp [hi] at hx
 ·intro i x hx
  by_cases hi:i=b
  ·simpa [hi] using hx
  ·simp [hi] at hx
 ·intro i x hx
  by_cases hi:i=b
  ·subst hi
   have:=(ff i _ _ ha hx).2
   cases this
  ·simp [hi];exact l2 i x hx
theorem Sat.new (h:Sat W0 l w) (o:Obj) (sh:Bool):Sat W0 (ob sh w.heap.size o::l) { w with heap:=w.heap.push o }:=by
 obtain ⟨a,b,c,d,hp,e,f,r⟩:=h
 have hfree:hp w.heap.size=none:=by
  cases hx:hp w.heap.size with
  | none=>rfl
  | some x=>
   have:=(Array.getElem?_eq_some_iff.1 (e _ x hx)).1
   omega
 refine ⟨a,b,c,by simp;omega,fun i=>if i=w.heap.size then some (sh,o) else hp i,?_,?_,fun i=>if i=w.heap.size then some (sh,o) else none,hp,?_,?_,?_,by simp [ob],r⟩
 ·intro i x hx
  by_cases hi:i=w.heap.size
  ·simp [hi] at hx;subst hx;subst hi;simp
  ·simp [hi] at hx
   show (w.heap.push o)[i]?=some x.2
   rw [Array.getElem?_push,if_neg hi]
   exact e i x hx
 ·intro i o' ho
  have hlt:i<W0.heap.size:=(Array.getElem?_eq_some_iff.1 ho).1
  have:i≠w.heap.size:=by omega
  simp [this,f i o' ho]
 ·intro i x y hx hy
  by_cases hi:i=w.heap.size
  ·subst hi;rw [hfree] at hy;cases hy
  ·simp [hi] at hx
 ·intro i x hx
  by_cases hi:i=w.heap.size
  ·simpa [hi] using hx
  ·simp [hi] at hx
 ·intro i x hx
  by_cases hi:i=w.heap.size
  ·subst hi;rw [hfree] at hx;cases hx
  ·simp [hi];exact hx
theorem Sat.old {b:Nat} {o:Obj} (h:Sat W0 l w) (hb:W0.heap[b]?=some o):Sat W0 (ob true b o::l) w:=by
 obtain ⟨a,bb,c,d,hp,e,f,r⟩:=h
 refine ⟨a,bb,c,d,hp,e,f,fun i=>if i=b then some (true,o) else none,hp,?_,?_,Hp.le_refl _,by simp [ob],r⟩
 ·intro i x y hx hy
  by_cases hi:i=b
  ·subst hi;simp at hx;subst hx;rw [f _ _ hb] at hy;cases hy;exact ⟨rfl,rfl⟩
  ·simp [hi] at hx
 ·intro i x hx
  by_cases hi:i=b
  ·subst hi;simp at hx;subst hx;exact f _ _ hb
  ·simp [hi] at hx
theorem Sat.dup {b:Nat} {o:Obj} (h:Sat W0 (ob true b o::l) w):Sat W0 (ob true b o::ob true b o::l) w:=by
 obtain ⟨a,bb,c,d,hp,e,f,h1,h2,ff,l1,l2,ha,r⟩:=h
 refine ⟨a,bb,c,d,hp,e,f,fun i=>if i=b then some (true,o) else none,Hp.un h1 h2,?_,?_,Hp.y9 l1 l2,by simp [ob],h1,h2,ff,Hp.mq _ _,Hp.lh ff,ha,r⟩
 ·intro i x y hx hy
  by_cases hi:i=b
  ·subst hi
   simp at hx;subst hx
   have:=Hp.y9 l1 l2 i y hy
   rw [l1 i _ ha] at this
   cases this;exact ⟨rfl,rfl⟩
  ·simp [hi] at hx
 ·intro i x hx
  by_cases hi:i=b
  ·subst hi;simp at hx;subst hx;exact l1 i _ ha
  ·simp [hi] at hx
theorem Sat.share {b:Nat} {o:Obj} (h:Sat W0 (ob false b o::l) w):Sat W0 (ob true b o::l) w:=by
 have hold:=h.G1
 obtain ⟨a,bb,c,d,hp,e,f,h1,h2,ff,l1,l2,ha,r⟩:=h
 refine ⟨a,bb,c,d,fun i=>if i=b then some (true,o) else hp i,?_,?_,fun i=>if i=b then some (true,o) else none,h2,?_,?_,?_,by simp [ob],r⟩
 ·intro i x hx
  by_cases hi:i=b
  ·subst hi;simp at hx;subst hx;exact e _ (false,o) (l1 _ _ ha)
  ·simp [hi] at hx;exact e i x hx
 ·intro i o'' hi'
  have hlt:i<W0.heap.size:=(Array.getElem?_eq_some_iff.1 hi').1
  have:i≠b:=by omega
  simp [this,f i o'' hi']
 ·intro i x y hx hy
  by_cases hi:i=b
  ·subst hi
   have:=(ff i _ _ ha hy).2
   cases this
  ·simp [hi] at hx
 ·intro i x hx
  by_cases hi:i=b
  ·simpa [hi] using hx
  ·simp [hi] at hx
 ·intro i x hx
  by_cases hi:i=b
  ·subst hi
   have:=(ff i _ _ ha hx).2
   cases this
  ·simp [hi];exact l2 i x hx
theorem Sat.cell {sh:Bool} {b:Nat} {T:TypeId} {cs:List Value} {r:List ah} (h:Sat W0 l w) (t:Take (ob sh b (.cells cs.toArray T (0,0))) l r) (o:Nat) :
 w.cell? ⟨b,o,none⟩=cs[o]?:=by
 simp [World.cell?,h.at t]
theorem Sat.free {sh:Bool} {b:Nat} {T:TypeId} {cs:List Value} {r:List ah} (h:Sat W0 l w) (t:Take (ob sh b (.cells cs.toArray T (0,0))) l r) (o:Nat) :
 w.frozen? ⟨b,o,none⟩=false:=by
 simp only [World.frozen?,h.at t]
 simp
theorem Sat.setCell {b:Nat} {T:TypeId} {cs:List Value} (h:Sat W0 l w) {l':List ah} {o:Nat} {v:Value}
 (t:ic l (blk b T cs) (blk b T (cs.set o v)) l'):Sat W0 l' (w.setCell ⟨b,o,none⟩ v):=by
 obtain ⟨r,t1,t2⟩:=t.take
 have k:=h.take t1
 have hb:=k.fC
 have hlt:b<w.heap.size:=(Array.getElem?_eq_some_iff.1 hb).1
 refine Sat.mr (Sat.kx k rfl rfl rfl ?_ ?_ ?_) t2
 ·simp [World.setCell]
 ·simp [World.setCell,Array.getElem?_modify,hb]
 ·intro i hi
  simp only [World.setCell,Array.getElem?_modify]
  rw [if_neg (by omega)]
end
def lk {α:Type}:List (Nat×α)→Nat→Option α
 | [],_=>none
 | (k,v)::e,t=>bif Nat.beq k t then some v else lk e t
theorem xI {α:Type}:∀ {l:List (Nat×α)} {t:Nat} {v:α},lk l t=some v→(t,v)∈l
 | (k,u)::e,t,v,h=>by
  unfold lk at h
  cases hk:Nat.beq k t with
  | true=>rw [hk] at h;simp at h;subst h;have:=Nat.eq_of_beq_eq_true hk;subst this;exact List.mem_cons_self
  | false=>rw [hk] at h;exact List.mem_cons_of_mem _ (xI h)
def df:List (Nat×Nat):=[(1,1),(3,1),(4,1),(5,1),(9,1),(17,1),(20,1),(21,1),(22,1),(23,1),(24,1),(29,1),(30,1),(31,1),(33,2),(34,1),(36,5),(41,1),(44,1),(46,1),(47,1),(49,4),(52,1),(54,1),(61,6),(65,1),(68,1),(70,1),(73,1),(74,1),(84,6),(86,1),(88,3),(89,1),(91,7),(92,1),(93,1),(95,4),(100,3),(104,2),(107,1),(108,1),(109,1),(111,8),(113,1),(116,2),(117,1),(118,1),(120,1),(121,1),(123,0),(124,1),(126,2),(128,2),(129,1),(130,4),(131,1),(133,17),(134,1),(136,1),(137,3),(143,1),(147,2),(150,1),(151,0),(152,0),(154,1),(156,2),(158,2),(160,1),(164,1),(166,4),(177,2),(190,2),(193,1),(197,1),(198,1),(200,6),(202,1),(203,1),(205,3),(208,1),(210,1),(216,2),(218,1),(220,1),(224,1),(249,1),(251,2),(256,4),(258,1),(261,1),(282,3),(283,1),(288,1),(301,1),(304,1),(305,1),(306,1),(308,1),(312,1),(325,1),(331,1),(338,1),(341,1),(346,1),(347,1),(349,5),(362,24)]
def qY:List (Nat×Nat):=[(1,8),(3,8),(4,1),(5,1),(9,16),(17,8),(20,16),(21,4),(22,24),(23,8),(24,8),(29,24),(30,8),(31,8),(33,16),(34,8),(36,40),(41,16),(44,8),(46,24),(47,24),(49,64),(52,24),(54,24),(61,64),(65,24),(68,24),(70,24),(73,24),(74,24),(84,80),(86,24),(88,56),(89,8),(91,88),(92,24),(93,24),(95,56),(100,40),(104,32),(107,8),(108,8),(109,24),(111,80),(113,8),(116,32),(117,8),(118,24),(120,24),(121,8),(124,4),(126,8),(128,8),(129,24),(130,96),(131,8),(133,208),(134,24),(136,8),(137,40),(143,24),(147,32),(150,8),(154,8),(156,16),(158,32),(160,24),(164,24),(166,56),(177,32),(190,32),(193,8),(197,8),(198,24),(200,88),(202,8),(203,8),(205,24),(208,16),(210,1),(216,24),(218,8),(220,8),(224,8),(249,8),(251,24),(256,48),(258,24),(261,16),(282,32),(283,8),(288,8),(301,16),(304,16),(305,16),(306,24),(308,24),(312,8),(325,8),(331,24),(338,16),(341,24),(346,24),(347,8),(349,56),(362,24)]
def kZ:List (Nat×Bool):=[(1,false),(3,false),(4,false),(5,false),(9,false),(17,false),(20,false),(21,false),(22,false),(23,false),(24,false),(29,false),(30,false),(31,false),(33,true),(34,false),(36,true),(41,false),(44,false),(46,false),(47,false),(49,true),(52,false),(54,false),(61,true),(65,false),(68,false),(70,false),(73,false),(74,false),(84,true),(86,false),(88,true),(89,false),(91,true),(92,false),(93,false),(95,true),(100,true),(104,true),(107,false),(108,false),(109,false),(111,true),(113,false),(116,true),(117,false),(118,false),(120,true),(121,false),(123,true),(124,false),(126,true),(128,true),(129,false),(130,true),(131,false),(133,true),(134,false),(136,false),(137,true),(143,false),(147,true),(150,false),(151,true),(152,true),(154,true),(156,true),(158,true),(160,false),(164,false),(166,true),(177,true),(190,true),(193,false),(197,false),(198,false),(200,true),(202,false),(203,false),(205,true),(208,false),(210,false),(216,true),(218,false),(220,false),(224,false),(249,false),(251,true),(256,true),(258,false),(261,false),(282,true),(283,false),(288,false),(301,false),(304,false),(305,false),(306,false),(308,false),(312,false),(325,false),(331,false),(338,false),(341,false),(346,false),(347,false),(349,true),(362,true)]
def js:List (Nat×List Value):=[(1,[.nilFunc]),(3,[.int .i64 0]),(4,[.bool false]),(5,[.int .u8 0]),(9,[.string ⟨#[]⟩]),(17,[.pointer none]),(20,[.nilIface]),(21,[.int .i32 0]),(22,[.slice none 0 0]),(23,[.int .u64 0]),(24,[.nilFunc]),(29,[.slice none 0 0]),(30,[.pointer none]),(31,[.pointer none]),(33,[.int .i64 0,.int .i64 0]),(34,[.pointer none]),(36,[.pointer none,.pointer none,.int .i64 0,.int .i64 0,.pointer none]),(41,[.nilIface]),(44,[.int .i64 0]),(46,[.slice none 0 0]),(47,[.slice none 0 0]),(49,[.slice none 0 0,.int .i64 0,.bool false,.slice none 0 0]),(52,[.slice none 0 0]),(54,[.slice none 0 0]),(61,[.slice none 0 0,.int .i64 0,.int .u64 0,.int .u64 0,.bool false,.int .i64 0]),(65,[.slice none 0 0]),(68,[.slice none 0 0]),(70,[.slice none 0 0]),(73,[.slice none 0 0]),(74,[.slice none 0 0]),(84,[.int .i64 0,.int .i64 0,.int .i64 0,.string ⟨#[]⟩,.string ⟨#[]⟩,.slice none 0 0]),(86,[.slice none 0 0]),(88,[.slice none 0 0,.slice none 0 0,.bool false]),(89,[.pointer none]),(91,[.pointer none,.pointer none,.pointer none,.int .i64 0,.int .i64 0,.slice none 0 0,.slice none 0 0]),(92,[.slice none 0 0]),(93,[.slice none 0 0]),(95,[.int .i64 0,.int .i64 0,.string ⟨#[]⟩,.slice none 0 0]),(100,[.string ⟨#[]⟩,.string ⟨#[]⟩,.bool false]),(104,[.int .i64 0,.slice none 0 0]),(107,[.nilFunc]),(108,[.map none]),(109,[.slice none 0 0]),(111,[.map none,.map none,.slice none 0 0,.int .i64 0,.int .i64 0,.int .i64 0,.int .i64 0,.int .i64 0]),(113,[.pointer none]),(116,[.slice none 0 0,.int .i64 0]),(117,[.pointer none]),(118,[.slice none 0 0]),(120,[.slice none 0 0]),(121,[.map none]),(124,[.int .u32 0]),(126,[.int .i32 0,.int .u32 0]),(128,[.int .i32 0,.int .u32 0]),(129,[.slice none 0 0]),(130,[.slice none 0 0,.slice none 0 0,.slice none 0 0,.slice none 0 0]),(131,[.int .u64 0]),(133,[.int .i32 0,.int .u32 0,.pointer none,.int .i64 0,.int .i64 0,.bool false,.nilIface,.slice none 0 0,.slice none 0 0,.slice none 0 0,.slice none 0 0,.pointer none,.string ⟨#[]⟩,.int .u64 0,.int .u64 0,.map none,.int .i64 0]),(134,[.slice none 0 0]),(136,[.pointer none]),(137,[.string ⟨#[]⟩,.string ⟨#[]⟩,.bool false]),(143,[.slice none 0 0]),(147,[.string ⟨#[]⟩,.string ⟨#[]⟩]),(150,[.chan none]),(154,[.int .u64 0]),(156,[.int .u64 0,.int .u32 0]),(158,[.string ⟨#[]⟩,.string ⟨#[]⟩]),(160,[.slice none 0 0]),(164,[.slice none 0 0]),(166,[.string ⟨#[]⟩,.string ⟨#[]⟩,.string ⟨#[]⟩,.int .i64 0]),(177,[.bool false,.slice none 0 0]),(190,[.slice none 0 0,.bool false]),(193,[.pointer none]),(197,[.map none]),(198,[.slice none 0 0]),(200,[.string ⟨#[]⟩,.string ⟨#[]⟩,.string ⟨#[]⟩,.int .i64 0,.pointer none,.slice none 0 0]),(202,[.pointer none]),(203,[.int .u64 0]),(205,[.pointer none,.pointer none,.int .u64 0]),(208,[.nilIface]),(210,[.int .u8 0]),(216,[.string ⟨#[]⟩,.pointer none]),(218,[.pointer none]),(220,[.int .i64 0]),(224,[.pointer none]),(249,[.pointer none]),(251,[.string ⟨#[]⟩,.int .i64 0]),(256,[.string ⟨#[]⟩,.string ⟨#[]⟩,.bool false,.int .u64 0]),(258,[.slice none 0 0]),(261,[.nilIface]),(282,[.string ⟨#[]⟩,.int .i64 0,.int .i64 0]),(283,[.pointer none]),(288,[.nilFunc]),(301,[.nilIface]),(304,[.nilIface]),(305,[.nilIface]),(306,[.slice none 0 0]),(308,[.slice none 0 0]),(312,[.pointer none]),(325,[.pointer none]),(331,[.slice none 0 0]),(338,[.nilIface]),(341,[.slice none 0 0]),(346,[.slice none 0 0]),(347,[.pointer none]),(349,[.string ⟨#[]⟩,.string ⟨#[]⟩,.bool false,.int .u64 0,.nilFunc]),(362,[.int .u8 0,.int .u8 0,.int .u8 0,.int .u8 0,.int .u8 0,.int .u8 0,.int .u8 0,.int .u8 0,.int .u8 0,.int .u8 0,.int .u8 0,.int .u8 0,.int .u8 0,.int .u8 0,.int .u8 0,.int .u8 0,.int .u8 0,.int .u8 0,.int .u8 0,.int .u8 0,.int .u8 0,.int .u8 0,.int .u8 0,.int .u8 0])]
def JV:List (Nat×List (Option Nat)):=[(33,[some 0,some 1]),(36,[some 0,some 1,some 2,some 4]),(49,[some 0,some 1,some 2,some 3]),(61,[some 0,some 1,some 2,some 3,some 4,some 5]),(84,[some 0,some 1,some 2,some 3,some 4,some 5]),(88,[some 0,some 1,some 2]),(91,[some 0,some 1,some 2,some 3,some 4,some 5,some 6]),(95,[some 0,some 1,some 2,some 3]),(100,[some 0,some 1,some 2]),(104,[some 0,some 1]),(111,[some 0,some 1,some 2,some 3,some 4,some 5,some 6,some 7]),(116,[some 0,some 1]),(120,[some 0]),(126,[some 0,some 1]),(128,[none,some 0]),(133,[some 0,some 2,some 3,some 5,some 6,some 7,some 11,some 12,some 13,some 14,some 15,some 16]),(137,[some 0,some 1,some 2]),(147,[some 0,some 1]),(154,[none,none,some 0]),(156,[none,some 0,some 1]),(158,[some 0,some 1]),(166,[some 0,some 1,some 2,some 3]),(177,[some 0,some 1]),(190,[some 0,some 1]),(200,[some 0,some 4,some 5]),(205,[some 0,some 1,some 2]),(216,[some 0,some 1]),(251,[some 0,some 1]),(256,[some 0,some 1,some 2,some 3]),(282,[some 0,some 1,some 2]),(349,[some 0,some 4])]
def lC:List (Nat×List (Nat×Nat)):=[(33,[(0,1),(1,1)]),(36,[(0,1),(1,1),(2,2),(4,1)]),(49,[(0,1),(1,1),(2,1),(3,1)]),(61,[(0,1),(1,1),(2,1),(3,1),(4,1),(5,1)]),(84,[(0,1),(1,1),(2,1),(3,1),(4,1),(5,1)]),(88,[(0,1),(1,1),(2,1)]),(91,[(0,1),(1,1),(2,1),(3,1),(4,1),(5,1),(6,1)]),(95,[(0,1),(1,1),(2,1),(3,1)]),(100,[(0,1),(1,1),(2,1)]),(104,[(0,1),(1,1)]),(111,[(0,1),(1,1),(2,1),(3,1),(4,1),(5,1),(6,1),(7,1)]),(116,[(0,1),(1,1)]),(120,[(0,1)]),(126,[(0,1),(1,1)]),(128,[(0,0),(0,2)]),(133,[(0,2),(2,1),(3,2),(5,1),(6,1),(7,4),(11,1),(12,1),(13,1),(14,1),(15,1),(16,1)]),(137,[(0,1),(1,1),(2,1)]),(147,[(0,1),(1,1)]),(154,[(0,0),(0,0),(0,1)]),(156,[(0,0),(0,1),(1,1)]),(158,[(0,1),(1,1)]),(166,[(0,1),(1,1),(2,1),(3,1)]),(177,[(0,1),(1,1)]),(190,[(0,1),(1,1)]),(200,[(0,4),(4,1),(5,1)]),(205,[(0,1),(1,1),(2,1)]),(216,[(0,1),(1,1)]),(251,[(0,1),(1,1)]),(256,[(0,1),(1,1),(2,1),(3,1)]),(282,[(0,1),(1,1),(2,1)]),(349,[(0,4),(4,1)])]
def EU:List (Nat×IntKind):=[(3,.i64),(5,.u8),(21,.i32),(23,.u64),(44,.i64),(124,.u32),(131,.u64),(203,.u64),(210,.u8),(220,.i64)]
def dy:List (Nat×Nat):=[(22,104),(29,9),(46,158),(47,52),(52,137),(54,61),(65,84),(68,73),(70,44),(73,100),(74,147),(86,177),(92,95),(93,5),(109,143),(118,256),(129,193),(134,107),(143,216),(160,164),(164,166),(198,282),(258,261),(306,41),(308,288),(331,129),(341,131),(346,347)]
def vC:List (Nat×(Nat×Nat)):=[(130,(4,129)),(362,(24,5))]
def G2:List (Nat×Nat):=[(17,392),(30,111),(31,133),(34,49),(89,88),(113,116),(117,120),(136,44),(193,200),(218,156),(224,124),(249,251),(283,249),(312,41),(325,126),(347,349)]
def vD:List (Nat×(Nat×Nat)):=[(108,(9,113)),(121,(3,131)),(197,(9,3))]
def tj:List (Nat×Unit):=[(20,()),(41,()),(208,()),(261,()),(301,()),(304,()),(305,()),(338,())]
def vE:List (Nat×Unit):=[(9,())]
def za:List (Nat×Unit):=[(1,()),(3,()),(4,()),(5,()),(9,()),(17,()),(21,()),(22,()),(23,()),(24,()),(29,()),(30,()),(31,()),(33,()),(34,()),(36,()),(44,()),(46,()),(47,()),(49,()),(52,()),(54,()),(61,()),(65,()),(68,()),(70,()),(73,()),(74,()),(84,()),(86,()),(88,()),(89,()),(91,()),(92,()),(93,()),(95,()),(100,()),(104,()),(107,()),(108,()),(109,()),(111,()),(113,()),(116,()),(117,()),(118,()),(120,()),(121,()),(123,()),(124,()),(126,()),(128,()),(129,()),(130,()),(131,()),(133,()),(134,()),(136,()),(137,()),(143,()),(147,()),(150,()),(151,()),(152,()),(154,()),(156,()),(158,()),(160,()),(164,()),(166,()),(177,()),(190,()),(193,()),(197,()),(198,()),(200,()),(202,()),(203,()),(205,()),(210,()),(216,()),(218,()),(220,()),(224,()),(249,()),(251,()),(256,()),(258,()),(282,()),(283,()),(288,()),(306,()),(308,()),(312,()),(325,()),(331,()),(341,()),(346,()),(347,()),(349,()),(362,())]
def G3 (p:Program) (t:Nat):Option Unit:=match p.underlying t with|some (.interface _)=>none|some _=>some ()|none=>none
def G4 (p:Program) (t:Nat):Option Nat:=(p.info? t).map (·.size)
def Bx (p:Program) (t:Nat):Option Nat:=(p.info? t).map (·.bytes)
def LI (p:Program) (t:Nat):Option Bool:=match p.underlying t with|some (.struct _)|some (.array _ _)=>some true|some _=>some false|none=>none
def Dx (p:Program) (t:Nat):Option (List Value):=((p.info? t).bind (·.zero)).map (·.cells.toList)
def LJ (p:Program) (t:Nat):Option (List (Option Nat)):=match p.underlying t with
 | some (.struct fs)=>some (fs.toList.map fun f=>if p.cellsOf f.type=0 then none else some f.offset)
 | _=>none
def Bz (p:Program) (t:Nat):Option (List (Nat×Nat)):=match p.underlying t with
 | some (.struct fs)=>some (fs.toList.map fun f=>(f.offset,p.cellsOf f.type))
 | _=>none
def LK (p:Program) (t:Nat):Option IntKind:=match p.underlying t with|some (.int k)=>some k|_=>none
def BA (p:Program) (t:Nat):Option Nat:=match p.underlying t with|some (.slice e)=>some e|_=>none
def LL (p:Program) (t:Nat):Option (Nat×Nat):=match p.underlying t with|some (.array n e)=>some (n,e)|_=>none
def LM (p:Program) (t:Nat):Option Nat:=match p.underlying t with|some (.pointer e)=>some e|_=>none
def LN (p:Program) (t:Nat):Option (Nat×Nat):=match p.underlying t with|some (.map k e)=>some (k,e)|_=>none
def BB (p:Program) (t:Nat):Option Unit:=match p.underlying t with|some (.interface _)=>some ()|_=>none
def LO (p:Program) (t:Nat):Option Unit:=match p.underlying t with|some .string=>some ()|_=>none
theorem ie {α:Type} {f:Nat→Option α} {l:List (Nat×α)} (h:l.map (fun p=>f p.1)=l.map fun p=>some p.2) {t:Nat} {v:α} (k:lk l t=some v):f t=some v:=by
 have hm:=xI k
 obtain ⟨i,hi⟩:=List.mem_iff_getElem?.1 hm
 have h1:(l.map fun p=>f p.1)[i]?=some (f t):=by simp [hi]
 have h2:(l.map fun p=>some p.2)[i]?=some (some v):=by simp [hi]
 rw [h,h2] at h1
 exact (Option.some.inj h1).symm
theorem EV:df.map (fun p=>G4 Tryz.prog p.1)=df.map (fun p=>some p.2):=by kernel_rfl
theorem G5 {t:Nat} {v:_} (h:lk df t=some v):G4 Tryz.prog t=some v:=ie EV h
theorem BC:qY.map (fun p=>Bx Tryz.prog p.1)=qY.map (fun p=>some p.2):=by kernel_rfl
theorem EW {t:Nat} {v:_} (h:lk qY t=some v):Bx Tryz.prog t=some v:=ie BC h
theorem G6:kZ.map (fun p=>LI Tryz.prog p.1)=kZ.map (fun p=>some p.2):=by kernel_rfl
theorem JW {t:Nat} {v:_} (h:lk kZ t=some v):LI Tryz.prog t=some v:=ie G6 h
theorem EX:js.map (fun p=>Dx Tryz.prog p.1)=js.map (fun p=>some p.2):=by kernel_rfl
theorem zd {t:Nat} {v:_} (h:lk js t=some v):Dx Tryz.prog t=some v:=ie EX h
theorem G7:JV.map (fun p=>LJ Tryz.prog p.1)=JV.map (fun p=>some p.2):=by kernel_rfl
theorem JX {t:Nat} {v:_} (h:lk JV t=some v):LJ Tryz.prog t=some v:=ie G7 h
theorem BD:lC.map (fun p=>Bz Tryz.prog p.1)=lC.map (fun p=>some p.2):=by kernel_rfl
theorem EY {t:Nat} {v:_} (h:lk lC t=some v):Bz Tryz.prog t=some v:=ie BD h
theorem G8:EU.map (fun p=>LK Tryz.prog p.1)=EU.map (fun p=>some p.2):=by kernel_rfl
theorem JY {t:Nat} {v:_} (h:lk EU t=some v):LK Tryz.prog t=some v:=ie G8 h
theorem BE:dy.map (fun p=>BA Tryz.prog p.1)=dy.map (fun p=>some p.2):=by kernel_rfl
theorem EZ {t:Nat} {v:_} (h:lk dy t=some v):BA Tryz.prog t=some v:=ie BE h
theorem G9:vC.map (fun p=>LL Tryz.prog p.1)=vC.map (fun p=>some p.2):=by kernel_rfl
theorem JZ {t:Nat} {v:_} (h:lk vC t=some v):LL Tryz.prog t=some v:=ie G9 h
theorem Ha:G2.map (fun p=>LM Tryz.prog p.1)=G2.map (fun p=>some p.2):=by kernel_rfl
theorem J0 {t:Nat} {v:_} (h:lk G2 t=some v):LM Tryz.prog t=some v:=ie Ha h
theorem Hb:vD.map (fun p=>LN Tryz.prog p.1)=vD.map (fun p=>some p.2):=by kernel_rfl
theorem J1 {t:Nat} {v:_} (h:lk vD t=some v):LN Tryz.prog t=some v:=ie Hb h
theorem BF:tj.map (fun p=>BB Tryz.prog p.1)=tj.map (fun p=>some p.2):=by kernel_rfl
theorem E1 {t:Nat} {v:_} (h:lk tj t=some v):BB Tryz.prog t=some v:=ie BF h
theorem Hc:vE.map (fun p=>LO Tryz.prog p.1)=vE.map (fun p=>some p.2):=by kernel_rfl
theorem J2 {t:Nat} {v:_} (h:lk vE t=some v):LO Tryz.prog t=some v:=ie Hc h
theorem E3:za.map (fun p=>G3 Tryz.prog p.1)=za.map (fun p=>some p.2):=by kernel_rfl
theorem Hd {t:Nat} {v:_} (h:lk za t=some v):G3 Tryz.prog t=some v:=ie E3 h
end Go.Proofs.YtecibefflhomdaaGreatDoor
