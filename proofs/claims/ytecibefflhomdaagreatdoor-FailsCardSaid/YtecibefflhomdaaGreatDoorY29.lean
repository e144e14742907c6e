/-
  Part 29: PLAIN tables on a disk that may fail, of which some bytes ma; PLAIN rows gone through, several rows as one, loops over the.
-/
import Derived.Test.YtecibefflhomdaaGreatDoorY28
set_option maxHeartbeats 8000000
set_option maxRecDepth 100000
set_option linter.all false
namespace Go.Proofs.YtecibefflhomdaaGreatDoor
open Go
section
open Go.Proofs.YtecibefflhomdaaGreatDoor.Pure
def qX (C:Prop) (D:ad) (e:cy):Prop:=qE D e∨(C∧e.2=7)
theorem qX.before {C:Prop} {D D':ad} {e:cy} (h:cS D D') (k:qX C D' e):qX C D e:=k.imp (fun k=>k.before h) id
def uP (nm f:Bs):Option (Except cy cD):=match bI (fz f ((f.length:Int)-20) 20) with
 | none=>some (.error (some nm,7))
 | some z=>if z.1.length≠8 then some (.error (some nm,7)) else if f.length<j3 z.1 then some (.error (some nm,7)) else
  match bI (fz f (j3 z.1:Int) ((f.length:Int)-20-(j3 z.1:Int))) with
  | none=>some (.error (some nm,7))
  | some y=>if (fz f (j3 z.1:Int) ((f.length:Int)-20-(j3 z.1:Int))).length≤gW then some (Ab nm y.1) else none
theorem qG {D:ad} {n b:Bs} (he:bz D n=none) (hf:file D n=some b) (a k:Int):iC D n a k=fz b a k:=by
 unfold iC;rw [he,jC,hf];rfl
theorem Ar {D:ad} {n b:Bs} (he:bz D n=none) (hf:file D n=some b):jU D n=b.length:=by
 unfold jU;rw [he,jC,hf];rfl
theorem FY {D:ad} {nm f:Bs} (hd:D.Ok) (hf:file D nm=some f) {x:Except cy cD} (hx:uP nm f=some x) :
 ∃ y D',wO D nm=some (y,D')∧cO D D'∧(y=x∨∃ e,y=.error e∧qE D e):=by
 unfold wO
 rcases fe hf with h1|⟨e,h1,ht⟩
 ·rw [h1]
  dsimp only
  have hf2:file D.tick nm=some f:=by rw [iE];exact hf
  have s1:=cO.tick hd
  rcases fe hf2 with h2|⟨e,h2,ht⟩
  ·rw [h2]
   dsimp only
   rw [Ar h1 hf,qG h2 hf2]
   have s2:=s1.trans (cO.read s1.later.ok 20)
   unfold uP at hx
   cases ho:bI (fz f ((f.length:Int)-20) 20) with
   | none=>
    rw [ho] at hx;cases hx
    exact ⟨_,_,rfl,s2,.inl rfl⟩
   | some z=>
    rw [ho] at hx
    dsimp only at hx ⊢
    by_cases h8:z.1.length≠8
    ·rw [if_pos h8] at hx ⊢;cases hx;exact ⟨_,_,rfl,s2,.inl rfl⟩
    ·rw [if_neg h8] at hx ⊢
     by_cases hl:f.length<j3 z.1
     ·rw [if_pos hl] at hx ⊢;cases hx;exact ⟨_,_,rfl,s2,.inl rfl⟩
     ·rw [if_neg hl] at hx ⊢
      unfold Cc
      have hf3:file (counted D.tick 20).tick nm=some f:=by rw [iE];exact hf2
      rcases fe hf3 with h3|⟨e,h3,ht⟩
      ·rw [h3]
       dsimp only
       rw [qG h3 hf3]
       have s3:=s2.trans (cO.read s2.later.ok ((f.length:Int)-20-(j3 z.1:Int)))
       cases ho2:bI (fz f (j3 z.1:Int) ((f.length:Int)-20-(j3 z.1:Int))) with
       | none=>
        rw [ho2] at hx;cases hx
        exact ⟨_,_,rfl,s3,.inl rfl⟩
       | some y=>
        rw [ho2] at hx
        dsimp only at hx ⊢
        split at hx
        ·rename_i hb
         rw [if_pos hb];cases hx
         exact ⟨_,_,rfl,s3,.inl rfl⟩
        ·cases hx
      ·rw [h3]
       exact ⟨_,_,rfl,s2.trans (cO.read s2.later.ok _),.inr ⟨e,rfl,ht.before s2.later⟩⟩
  ·rw [h2]
   exact ⟨_,_,rfl,s1.trans (cO.read s1.later.ok 20),.inr ⟨e,rfl,ht.before s1.later⟩⟩
 ·rw [h1]
  exact ⟨_,_,rfl,cO.tick hd,.inr ⟨e,rfl,ht⟩⟩
structure mi (C:Prop) (f:Bs) (T:cD) (l:List az) (cs:List (List az)):Prop where
 flat:cs.flatten=l
 ne:∀ c∈cs,c≠[]
 sep:cs.Pairwise vO
 some:l≠[]
 srt:fS l
 ents:∀ e∈l,lQ e∧bG e=e
 Ec:T=⟨T.name,dZ l,gl l,l.length,bW 0 cs⟩
 lay:C∨f=eU l cs
 head:uP T.name f=Option.some (.ok T)∨(C∧uP T.name f=Option.some (.error (Option.some T.name,7)))
 small:f.length≤130*l.length
 count:l.length≤99
 size:∀ c∈cs,(jr c).length≤512
 blk:∀ A c B,cs=A++c::B→bI (fz f ((cg A).length:Int) ((jr c).length:Int))=Option.some (e9 c,[])∨(C∧bI (fz f ((cg A).length:Int) ((jr c).length:Int))=none)
section
variable {C:Prop} {D:ad} {f:Bs} {T:cD} {l:List az} {cs:List (List az)}
theorem IG (f:Bs) (a n:Int):(fz f a n).length≤f.length:=by
 simp only [fz,List.length_take,List.length_drop];omega
theorem As {c:List az} (h:∀ e∈c,bG e=e):c.map bG=c:=by
 induction c with
 | nil=>rfl
 | cons e r ih=>rw [List.map_cons,h e List.mem_cons_self,ih fun x hx=>h x (List.mem_cons_of_mem _ hx)]
theorem xa (h:mi C f T l cs) (hd:D.Ok) (hf:file D T.name=some f) {A B:List (List az)} {c:List az} (hc:cs=A++c::B) :
 ∃ x,oQ D T A.length=some (x,(counted D ((jr c).length:Int)).tick)∧(x=.ok c∨∃ e,x=.error e∧qX C D e):=by
 have hb:T.blocks[A.length]?=some (dZ c,(cg A).length,(jr c).length):=by
  rw [h.Ec,hc];have:=FX A B c 0;rw [Nat.zero_add] at this;exact this
 have hcl:∀ e∈c,e∈l:=fun e he=>by rw [← h.flat,hc];simp only [List.flatten_append,List.flatten_cons,List.mem_append];exact .inr (.inl he)
 unfold oQ
 rw [hb]
 dsimp only
 rcases fe hf with h1|⟨e,h1,ht⟩
 ·rw [h1]
  dsimp only
  rw [qG h1 hf]
  have hpl:=IG f ((cg A).length:Int) ((jr c).length:Int)
  have h2:=h.small;have h3:=h.count
  rcases h.blk A c B hc with ho|⟨hC,ho⟩
  ·rw [CF ho (by omega) fun e he=>(h.ents e (hcl e he)).1,As fun e he=>(h.ents e (hcl e he)).2]
   exact ⟨_,rfl,.inl rfl⟩
  ·unfold rp
   rw [ho]
   exact ⟨_,rfl,.inr ⟨_,rfl,.inr ⟨hC,rfl⟩⟩⟩
 ·rw [h1]
  exact ⟨_,rfl,.inr ⟨e,rfl,.inl ht⟩⟩
theorem Ev (key:Bs):∀ (cs:List (List az)) (c0:List az) (a:Nat),fS (c0::cs).flatten→(∀ c∈c0::cs,c≠[])→(c0::cs).Pairwise vO →
 ∃ A c B,c0::cs=A++c::B∧A.length=zR key (bW a cs)∧(∀ x∈A.flatten,aQ x.key key=true)∧∀ y∈B.flatten,aQ key y.key=true
 | [],c0,a,_,_,_=>⟨[],c0,[],rfl,rfl,by simp,by simp⟩
 | c1::cs,c0,a,hs,hn,hp=>by
  obtain ⟨e1,r1,he1⟩:=List.exists_cons_of_ne_nil (hn c1 (by simp))
  have hf1:dZ c1=e1.key:=by rw [he1];rfl
  unfold bW zR
  by_cases hk:aQ key (dZ c1)=true
  ·rw [if_pos hk]
   refine ⟨[],c0,c1::cs,rfl,rfl,by simp,fun y hy=>?_⟩
   rw [List.flatten_cons] at hs
   have hs2:=(List.pairwise_append.1 hs).2.1
   rw [List.flatten_cons,he1,List.cons_append] at hs2 hy
   rw [hf1] at hk
   rcases List.mem_cons.1 hy with rfl|hy
   ·exact hk
   ·rcases bQ.1 ((List.pairwise_cons.1 hs2).1 y hy) with h1|h1
    ·exact dj hk h1
    ·rw [← h1.1];exact hk
  ·rw [if_neg hk]
   rw [List.flatten_cons] at hs
   obtain ⟨A,c,B,h1,h2,h3,h4⟩:=Ev key cs c1 (a+(jr c1).length) (List.pairwise_append.1 hs).2.1 (fun c hc=>hn c (List.mem_cons_of_mem _ hc)) (List.pairwise_cons.1 hp).2
   refine ⟨c0::A,c,B,by rw [h1];rfl,by simp [h2],fun x hx=>?_,h4⟩
   rw [List.flatten_cons] at hx
   rcases List.mem_append.1 hx with hx|hx
   ·have h5:=(List.pairwise_cons.1 hp).1 c1 (by simp) x hx e1 (by rw [he1];simp)
    rw [hf1] at hk
    exact pg h5 (by simpa using hk)
   ·exact h3 x hx
theorem xd (h:mi C f T l cs) (key:Bs):∃ A c B,cs=A++c::B∧A.length=j4 T key∧(∀ x∈A.flatten,aQ x.key key=true)∧∀ y∈B.flatten,aQ key y.key=true:=by
 cases hcs:cs with
 | nil=>exact absurd (by rw [← h.flat,hcs];rfl) h.some
 | cons c0 r=>
  have h1:=h.srt;rw [← h.flat,hcs] at h1
  have h2:=h.ne;rw [hcs] at h2
  have h3:=h.sep;rw [hcs] at h3
  obtain ⟨A,c,B,e1,e2,e3,e4⟩:=Ev key r c0 (0+(jr c0).length) h1 h2 h3
  refine ⟨A,c,B,e1,?_,e3,e4⟩
  rw [e2];unfold j4;rw [h.Ec,hcs];rfl
theorem yD {A:List az} {key:Bs} {m:Nat} (h:∀ x∈A,x.key≠key):gd A key m=none:=dM.2 fun x hx hk=>absurd hk (h x hx)
theorem FZ {l:List az} (hs:fS l):∀ x∈l,aQ x.key (dZ l)=false:=by
 cases l with
 | nil=>intro x hx;cases hx
 | cons e r=>
  intro x hx
  rcases List.mem_cons.1 hx with rfl|hx
  ·exact aN _
  ·rcases bQ.1 ((List.pairwise_cons.1 hs).1 x hx) with h1|h1
   ·exact cz h1
   ·show aQ x.key e.key=false;rw [h1.1];exact aN _
theorem IH {l:List az} (hs:fS l):∀ x∈l,aQ (gl l) x.key=false:=by
 intro x hx
 have hne:l≠[]:=by intro h;rw [h] at hx;cases hx
 have hd:=List.dropLast_concat_getLast hne
 have hl:gl l=(l.getLast hne).key:=by unfold gl;rw [List.getLast?_eq_some_getLast hne]
 rw [hl]
 rw [← hd] at hs hx
 rcases List.mem_append.1 hx with hx|hx
 ·rcases bQ.1 ((List.pairwise_append.1 hs).2.2 x hx (l.getLast hne) (by simp)) with h1|h1
  ·exact cz h1
  ·rw [h1.1];exact aN _
 ·simp at hx;rw [hx];exact aN _
theorem F0 (h:mi C f T l cs) (hd:D.Ok) (hf:file D T.name=some f) (key:Bs) (seq:Nat) :
 ∃ x D',um D T key seq=some (x,D')∧(D'=D∨∃ c∈cs,D'=(counted D ((jr c).length:Int)).tick)∧(x=.ok (gd l key seq)∨∃ e,x=.error e∧qX C D e):=by
 unfold um
 by_cases hr:aQ key T.first=true∨aQ T.last key=true
 ·rw [if_pos hr]
  refine ⟨_,_,rfl,.inl rfl,.inl ?_⟩
  rw [yD fun x hx hk=>?_]
  subst hk
  rw [h.Ec] at hr
  rcases hr with hr|hr
  ·rw [FZ h.srt x hx] at hr;cases hr
  ·rw [IH h.srt x hx] at hr;cases hr
 ·rw [if_neg hr]
  obtain ⟨A,c,B,e1,e2,e3,e4⟩:=xd h key
  obtain ⟨x,h1,h2⟩:=xa h hd hf e1
  rw [← e2,h1]
  have hc:c∈cs:=by rw [e1];simp
  rcases h2 with rfl|⟨e,rfl,hb⟩
  ·refine ⟨_,_,rfl,.inr ⟨c,hc,rfl⟩,.inl ?_⟩
   have e5:l=A.flatten++(c++B.flatten):=by rw [← h.flat,e1];simp
   rw [e5,ow,ow,yD fun x hx hk=>jJ (e3 x hx) hk,yD (A:=B.flatten) fun x hx hk=>jJ (e4 x hx) hk.symm]
   simp [l7,gd]
  ·exact ⟨_,_,rfl,.inr ⟨c,hc,rfl⟩,.inr ⟨e,rfl,hb⟩⟩
theorem cO.KD {D D':ad} (hd:D.Ok) (h:D'=D∨∃ c∈cs,D'=(YtecibefflhomdaaGreatDoor.counted D ((jr c).length:Int)).tick):cO D D':=by
 rcases h with rfl|⟨c,_,rfl⟩
 ·exact cO.refl hd
 ·exact cO.read hd _
def fW (key:Bs) (l:List az):List az:=l.filter fun e=>!aQ e.key key
theorem rH (h:mi C f T l cs) (key:Bs):∀ (fuel:Nat) (D:ad) (i:Nat) (buf:List az),D.Ok→file D T.name=some f→i≤cs.length→buf.length+(cs.drop i).flatten.length+2*(cs.length-i)+1≤fuel →
 ∃ x D',l6 T key fuel D i buf=some (x,D')∧cO D D'∧((∃ e,x=.error e∧qX C D e)∨∃ o i' buf',x=.ok (o,i',buf')∧i'≤cs.length∧buf'.length+(cs.drop i').flatten.length≤buf.length+(cs.drop i).flatten.length∧o=(fW key (buf++(cs.drop i).flatten)).head?∧fW key (buf'++(cs.drop i').flatten)=(fW key (buf++(cs.drop i).flatten)).tail)
 | 0,D,i,buf,hd,hf,hi,hfu=>by omega
 | fuel+1,D,i,[],hd,hf,hi,hfu=>by
  unfold l6
  have hbl:T.blocks.length=cs.length:=by rw [h.Ec];simp
  by_cases he:i=T.blocks.length
  ·rw [if_pos he]
   refine ⟨_,_,rfl,cO.refl hd,.inr ⟨none,i,[],rfl,hi,by simp,?_,?_⟩⟩
   ·rw [List.drop_of_length_le (by omega)];rfl
   ·rw [List.drop_of_length_le (by omega)];rfl
  ·rw [if_neg he]
   have hlt:i<cs.length:=by omega
   have hsp:cs=cs.take i++cs[i]::cs.drop (i+1):=by rw [← List.drop_eq_getElem_cons hlt,List.take_append_drop]
   obtain ⟨x,h1,h2⟩:=xa h hd hf hsp
   rw [List.length_take,Nat.min_eq_left hi] at h1
   rw [h1]
   have hdr:(cs.drop i).flatten=cs[i]++(cs.drop (i+1)).flatten:=by rw [List.drop_eq_getElem_cons hlt,List.flatten_cons]
   rcases h2 with rfl|⟨e,rfl,hb⟩
   ·have s1:=cO.read hd ((jr cs[i]).length:Int)
    have hdl:(cs.drop i).flatten.length=cs[i].length+(cs.drop (i+1)).flatten.length:=by rw [hdr,List.length_append]
    obtain ⟨x,D',k1,k2,k3⟩:=rH h key fuel _ (i+1) cs[i] s1.later.ok (by rw [s1.file];exact hf) (by omega) (by simp only [List.length_nil] at hfu;omega)
    refine ⟨x,D',k1,s1.trans k2,?_⟩
    rcases k3 with ⟨e,k3,k4⟩|⟨o,i',buf',k3,k4,k5,k6,k7⟩
    ·exact .inl ⟨e,k3,k4.before s1.later⟩
    ·refine .inr ⟨o,i',buf',k3,k4,by simp only [List.length_nil];omega,?_,?_⟩
     ·rw [k6,List.nil_append,hdr]
     ·rw [k7,List.nil_append,hdr]
   ·exact ⟨_,_,rfl,cO.read hd _,.inl ⟨e,rfl,hb⟩⟩
 | fuel+1,D,i,e::buf,hd,hf,hi,hfu=>by
  unfold l6
  by_cases hk:aQ e.key key=true
  ·rw [if_pos hk]
   obtain ⟨x,D',k1,k2,k3⟩:=rH h key fuel D i buf hd hf hi (by simp only [List.length_cons] at hfu;omega)
   have hfk:fW key (e::buf++(cs.drop i).flatten)=fW key (buf++(cs.drop i).flatten):=by
    unfold fW;rw [List.cons_append,List.filter_cons,if_neg (by simp [hk])]
   refine ⟨x,D',k1,k2,?_⟩
   rw [hfk]
   rcases k3 with k3|⟨o,i',buf',k3,k4,k5,k6,k7⟩
   ·exact .inl k3
   ·exact .inr ⟨o,i',buf',k3,k4,by simp only [List.length_cons];omega,k6,k7⟩
  ·rw [if_neg hk]
   have hfk:fW key (e::buf++(cs.drop i).flatten)=e::fW key (buf++(cs.drop i).flatten):=by
    unfold fW;rw [List.cons_append,List.filter_cons,if_pos (by simpa using hk)]
   refine ⟨_,_,rfl,cO.refl hd,.inr ⟨some e,i,buf,rfl,hi,by simp only [List.length_cons];omega,?_,?_⟩⟩
   ·rw [hfk];rfl
   ·rw [hfk];rfl
end
end
section
open Go.Proofs.YtecibefflhomdaaGreatDoor.Pure
def Au (C:Prop) (fl:Bs→Option Bs) (M:List az):It→List az→Prop
 | .mem i,R=>R=M.drop i
 | .Ec T key i buf,R=>∃ f l cs,fl T.name=some f∧mi C f T l cs∧i≤cs.length∧buf.length+(cs.drop i).flatten.length≤10000∧R=fW key (buf++(cs.drop i).flatten)
theorem head_drop {α:Type} (M:List α) (i:Nat):M[i]?=(M.drop i).head?:=by rw [List.head?_drop]
section
variable {C:Prop} {D:ad} {M:List az}
theorem rI {it:It} {R:List az} (hd:D.Ok) (h:Au C (file D) M it R) :
 ∃ x D',nc M D it=some (x,D')∧cO D D'∧((∃ e,x=.error e∧qX C D e)∨∃ o it',x=.ok (o,it')∧o=R.head?∧Au C (file D) M it' R.tail):=by
 cases it with
 | mem i=>
  have hR:R=M.drop i:=h
  subst hR
  unfold nc
  dsimp only
  cases hg:M[i]? with
  | none=>
   have:M.drop i=[]:=List.drop_eq_nil_of_le (List.getElem?_eq_none_iff.1 hg)
   exact ⟨_,_,rfl,cO.refl hd,.inr ⟨none,.mem i,rfl,by rw [this];rfl,by show _=_;rw [this];rfl⟩⟩
  | some e=>
   exact ⟨_,_,rfl,cO.refl hd,.inr ⟨some e,.mem (i+1),rfl,by rw [← head_drop,hg],by show _=_;rw [List.tail_drop]⟩⟩
 | Ec T key i buf=>
  obtain ⟨f,l,cs,h1,h2,h3,h4,h5⟩:=h
  have hcl:=kt h2.ne
  have h6:=h2.count
  rw [h2.flat] at hcl
  obtain ⟨x,D',k1,k2,k3⟩:=rH h2 key gW D i buf hd h1 h3 (by rw [bJ];omega)
  unfold nc
  dsimp only
  rw [k1]
  rcases k3 with ⟨e,rfl,k4⟩|⟨o,i',buf',rfl,k4,k5,k6,k7⟩
  ·exact ⟨_,_,rfl,k2,.inl ⟨e,rfl,k4⟩⟩
  ·exact ⟨_,_,rfl,k2,.inr ⟨o,_,rfl,by rw [h5];exact k6,f,l,cs,h1,h2,k4,by omega,by rw [h5,k7]⟩⟩
inductive ia (C:Prop) (fl:Bs→Option Bs) (M:List az):List (az×It)→List (List az)→Prop
 | nil:ia C fl M [] []
 | cons {h:az×It} {r:List az} {hs:List (az×It)} {Rs:List (List az)}:Au C fl M h.2 r→fS (h.1::r)→ia C fl M hs Rs→ia C fl M (h::hs) ((h.1::r)::Rs)
inductive nW (C:Prop) (fl:Bs→Option Bs) (M:List az):List It→List (List az)→Prop
 | nil:nW C fl M [] []
 | cons {it:It} {r:List az} {its:List It} {Rs:List (List az)}:Au C fl M it r→fS r→nW C fl M its Rs→nW C fl M (it::its) (r::Rs)
variable {fl:Bs→Option Bs}
theorem ia.app {a b:List (az×It)} {A B:List (List az)} (h:ia C fl M a A) (k:ia C fl M b B):ia C fl M (a++b) (A++B):=by
 induction h with
 | nil=>exact k
 | cons h1 h2 _ ih=>exact .cons h1 h2 ih
theorem ia.split:∀ {a:List (az×It)} {h:az×It} {b:List (az×It)} {Rs:List (List az)},ia C fl M (a++h::b) Rs →
 ∃ RA r RB,Rs=RA++(h.1::r)::RB∧ia C fl M a RA∧Au C fl M h.2 r∧fS (h.1::r)∧ia C fl M b RB
 | [],h,b,_,.cons h1 h2 h3=>⟨[],_,_,rfl,.nil,h1,h2,h3⟩
 | x::a,h,b,_,.cons h1 h2 h3=>by
  obtain ⟨RA,r,RB,e,k1,k2,k3,k4⟩:=ia.split h3
  exact ⟨_::RA,r,RB,by rw [e];rfl,.cons h1 h2 k1,k2,k3,k4⟩
theorem ia.least {hs:List (az×It)} {Rs:List (List az)} (h:ia C fl M hs Rs):∀ x∈Rs.flatten,∃ p∈hs,p.1=x∨less p.1 x=true:=by
 induction h with
 | nil=>intro x hx;cases hx
 | cons h1 h2 _ ih=>
  intro x hx
  rw [List.flatten_cons] at hx
  rcases List.mem_append.1 hx with hx|hx
  ·refine ⟨_,List.mem_cons_self,?_⟩
   rcases List.mem_cons.1 hx with rfl|hx
   ·exact .inl rfl
   ·exact .inr ((List.pairwise_cons.1 h2).1 x hx)
  ·obtain ⟨p,hp,hh⟩:=ih x hx
   exact ⟨p,List.mem_cons_of_mem _ hp,hh⟩
theorem ia.mem {hs:List (az×It)} {Rs:List (List az)} (h:ia C fl M hs Rs):∀ p∈hs,p.1∈Rs.flatten:=by
 induction h with
 | nil=>intro x hx;cases hx
 | cons h1 h2 _ ih=>
  intro p hp
  rw [List.flatten_cons]
  rcases List.mem_cons.1 hp with rfl|hp
  ·simp
  ·exact List.mem_append_right _ (ih p hp)
theorem Av (hs:List az):∀ n,(n=0∨gF hs n<n)∧∀ j,j<n→less (hs.getD j default) (hs.getD (gF hs n) default)=false
 | 0=>⟨.inl rfl,fun j h=>by omega⟩
 | n+1=>by
  obtain ⟨h1,h2⟩:=Av hs n
  have e:gF hs (n+1)=if less (hs.getD n default) (hs.getD (gF hs n) default)=true then n else gF hs n:=by
   unfold gF;rw [List.range_succ,List.foldl_append];rfl
  rw [e]
  by_cases hc:less (hs.getD n default) (hs.getD (gF hs n) default)=true
  ·rw [if_pos hc]
   refine ⟨.inr (by omega),fun j hj=>?_⟩
   by_cases hjn:j=n
   ·rw [hjn];exact jR _
   ·have:=h2 j (by omega)
    cases hl:less (hs.getD j default) (hs.getD n default) with
    | false=>rfl
    | true=>rw [kJ hl hc] at this;cases this
  ·rw [if_neg hc]
   refine ⟨.inr ?_,fun j hj=>?_⟩
   ·rcases h1 with rfl|h1
    ·show gF hs 0<1;exact Nat.zero_lt_one
    ·omega
   ·by_cases hjn:j=n
    ·rw [hjn];simpa using hc
    ·exact h2 j (by omega)
theorem CG {its:List It} {Rr:List (List az)} (h:nW C (file D) M its Rr):∀ {D':ad} {acc:List (az×It)} {Ra:List (List az)},cO D D'→ia C (file D) M acc Ra →
 ∃ x D2,lF M its acc D'=some (x,D2)∧cO D D2∧((∃ e,x=.error e∧qX C D e)∨∃ hs Rs,x=.ok hs∧ia C (file D) M hs Rs∧Rs.flatten=Ra.flatten++Rr.flatten):=by
 induction h with
 | nil=>intro D' acc Ra hD ha;exact ⟨_,_,rfl,hD,.inr ⟨acc,Ra,rfl,ha,by simp⟩⟩
 | @cons it r its Rs h1 h2 h3 ih=>
  intro D' acc Ra hD ha
  have hfl:file D'=file D:=funext hD.file
  obtain ⟨x,D2,k1,k2,k3⟩:=rI (C:=C) (M:=M) hD.later.ok (by rw [hfl];exact h1)
  unfold lF
  rw [k1]
  rcases k3 with ⟨e,rfl,k4⟩|⟨o,it',rfl,rfl,k4⟩
  ·exact ⟨_,_,rfl,hD.trans k2,.inl ⟨e,rfl,k4.before hD.later⟩⟩
  ·rw [hfl] at k4
   cases r with
   | nil=>
    obtain ⟨x,D3,m1,m2,m3⟩:=ih (hD.trans k2) ha
    exact ⟨x,D3,m1,m2,by simpa using m3⟩
   | cons e r=>
    obtain ⟨x,D3,m1,m2,m3⟩:=ih (acc:=acc++[(e,it')]) (Ra:=Ra++[e::r]) (hD.trans k2) (ha.app (.cons k4 h2 .nil))
    refine ⟨x,D3,m1,m2,?_⟩
    rcases m3 with m3|⟨hs,Rs,m3,m4,m5⟩
    ·exact .inl m3
    ·exact .inr ⟨hs,Rs,m3,m4,by rw [m5];simp⟩
def sW (C:Prop) (fl:Bs→Option Bs) (M:List az) (g:Mg) (R:List az):Prop:=
 if g.started=true then ∃ Rs,ia C fl M g.heads Rs∧R.Perm Rs.flatten
 else g.heads=[]∧g.rows.length≤1099511627776∧∃ Rs,nW C fl M g.rows Rs∧R.Perm Rs.flatten
theorem CH {g:Mg} {R:List az} (hd:D.Ok) (h:sW C (file D) M g R) :
 ∃ x D',ym M D g=some (x,D')∧cO D D'∧((∃ e,x=.error e∧qX C D e)∨∃ hs Rs,x=.ok hs∧ia C (file D) M hs Rs∧R.Perm Rs.flatten):=by
 unfold sW at h
 unfold ym
 split at h
 ·rename_i hs
  obtain ⟨Rs,h1,h2⟩:=h
  rw [if_pos hs]
  exact ⟨_,_,rfl,cO.refl hd,.inr ⟨_,Rs,rfl,h1,h2⟩⟩
 ·rename_i hs
  obtain ⟨h0,hl,Rs,h1,h2⟩:=h
  rw [if_neg hs,if_pos (by rw [bJ];exact hl),h0]
  obtain ⟨x,D',k1,k2,k3⟩:=CG h1 (cO.refl hd) (ia.nil (C:=C) (fl:=file D) (M:=M))
  refine ⟨x,D',k1,k2,?_⟩
  rcases k3 with k3|⟨hs,Rs',k3,k4,k5⟩
  ·exact .inl k3
  ·exact .inr ⟨hs,Rs',k3,k4,by rw [k5];simpa using h2⟩
theorem II {hs:List (az×It)} {Rs:List (List az)} {R:List az} {rows:List It} (hd:D.Ok) (hh:ia C (file D) M hs Rs) (hR:fS R) (hp:R.Perm Rs.flatten) :
 ∃ x D',HY M D rows hs=some (x,D')∧cO D D'∧((∃ e,x=.error e∧qX C D e)∨∃ o g,x=.ok (o,g)∧o=R.head?∧sW C (file D) M g R.tail):=by
 unfold HY
 cases hs with
 | nil=>
  cases hh
  have:R=[]:=List.Perm.eq_nil (by simpa using hp)
  subst this
  exact ⟨_,_,rfl,cO.refl hd,.inr ⟨none,⟨true,rows,[]⟩,rfl,rfl,[],.nil,by simp⟩⟩
 | cons h0 hr=>
  obtain ⟨b1,b2⟩:=Av ((h0::hr).map (·.1)) (h0::hr).length
  have hb:gF ((h0::hr).map (·.1)) (h0::hr).length<(h0::hr).length:=by
   rcases b1 with b1|b1
   ·simp at b1
   ·exact b1
  generalize gF ((h0::hr).map (·.1)) (h0::hr).length=b at hb b2
  generalize hhs:h0::hr=hs at *
  have hsp:hs=hs.take b++hs[b]::hs.drop (b+1):=by rw [← List.drop_eq_getElem_cons hb,List.take_append_drop]
  have hA:(hs.take b).length=b:=by rw [List.length_take];omega
  generalize hs.take b=A at hsp hA
  generalize hs.drop (b+1)=B at hsp
  rw [List.getElem?_eq_getElem hb]
  have hm:hs[b]∈hs:=List.getElem_mem hb
  have hmin:∀ p∈hs,less p.1 hs[b].1=false:=by
   intro p hp
   obtain ⟨j,hj,rfl⟩:=List.mem_iff_getElem.1 hp
   have:=b2 j hj
   simpa [List.getD,hj,hb] using this
  generalize hs[b]=h at *
  have hh':=hh
  rw [hsp] at hh'
  obtain ⟨RA,r,RB,e,k1,k2,k3,k4⟩:=hh'.split
  have hin:h.1∈R:=hp.mem_iff.2 (hh.mem h hm)
  obtain ⟨R',rfl⟩:∃ R',R=h.1::R':=by
   cases R with
   | nil=>cases hin
   | cons x R'=>
    refine ⟨R',?_⟩
    rcases List.mem_cons.1 hin with hx|hx
    ·rw [hx]
    ·have h1:=(List.pairwise_cons.1 hR).1 _ hx
     obtain ⟨p,hp1,hp2⟩:=hh.least x (hp.mem_iff.1 List.mem_cons_self)
     have h2:=hmin p hp1
     rcases hp2 with rfl|hp2
     ·rw [h2] at h1;cases h1
     ·rw [kJ hp2 h1] at h2;cases h2
  have hp':R'.Perm (RA.flatten++(r++RB.flatten)):=by
   rw [e] at hp
   simp only [List.flatten_append,List.flatten_cons,List.cons_append] at hp
   exact (hp.trans List.perm_middle).cons_inv
  dsimp only
  obtain ⟨x,D',m1,m2,m3⟩:=rI (C:=C) (M:=M) hd k2
  rw [m1]
  rcases m3 with ⟨e',rfl,m4⟩|⟨o,it',rfl,rfl,m4⟩
  ·exact ⟨_,_,rfl,m2,.inl ⟨e',rfl,m4⟩⟩
  ·cases r with
   | nil=>
    refine ⟨_,_,rfl,m2,.inr ⟨_,_,rfl,rfl,?_⟩⟩
    unfold sW
    rw [if_pos rfl]
    refine ⟨RA++RB,?_,by simpa using hp'⟩
    have:hs.eraseIdx b=A++B:=by rw [hsp,← hA,List.eraseIdx_append_of_length_le (Nat.le_refl _)];simp
    rw [this];exact k1.app k4
   | cons e2 r2=>
    refine ⟨_,_,rfl,m2,.inr ⟨_,_,rfl,rfl,?_⟩⟩
    unfold sW
    rw [if_pos rfl]
    refine ⟨RA++(e2::r2)::RB,?_,by simpa using hp'⟩
    have:hs.set b (e2,it')=A++(e2,it')::B:=by rw [hsp,← hA];simp
    rw [this];exact k1.app (.cons m4 (List.pairwise_cons.1 k3).2 k4)
theorem F1 {g:Mg} {R:List az} (hd:D.Ok) (hR:fS R) (h:sW C (file D) M g R) :
 ∃ x D',zS M D g=some (x,D')∧cO D D'∧((∃ e,x=.error e∧qX C D e)∨∃ o g',x=.ok (o,g')∧o=R.head?∧sW C (file D) M g' R.tail):=by
 obtain ⟨x,D1,k1,k2,k3⟩:=CH hd h
 unfold zS
 rw [k1]
 rcases k3 with ⟨e,rfl,k4⟩|⟨hs,Rs,rfl,k4,k5⟩
 ·exact ⟨_,_,rfl,k2,.inl ⟨e,rfl,k4⟩⟩
 ·have hfl:file D1=file D:=funext k2.file
  rw [← hfl] at k4
  obtain ⟨x,D2,m1,m2,m3⟩:=II (rows:=g.rows) k2.later.ok k4 hR k5
  rw [hfl] at m3
  refine ⟨x,D2,m1,k2.trans m2,?_⟩
  rcases m3 with ⟨e,m3,m4⟩|m3
  ·exact .inl ⟨e,m3,m4.before k2.later⟩
  ·exact .inr m3
def CI (C:Prop) (fl:Bs→Option Bs) (M:List az):Nx→List az→Prop
 | .one it,R=>Au C fl M it R
 | .mg g,R=>sW C fl M g R
theorem F2 {n:Nx} {R:List az} (hd:D.Ok) (hR:fS R) (h:CI C (file D) M n R) :
 ∃ x D',so M D n=some (x,D')∧cO D D'∧((∃ e,x=.error e∧qX C D e)∨∃ o n',x=.ok (o,n')∧o=R.head?∧CI C (file D) M n' R.tail):=by
 cases n with
 | one it=>
  obtain ⟨x,D',k1,k2,k3⟩:=rI hd h
  unfold so
  dsimp only
  rw [k1]
  rcases k3 with ⟨e,rfl,k4⟩|⟨o,it',rfl,k3,k4⟩
  ·exact ⟨_,_,rfl,k2,.inl ⟨e,rfl,k4⟩⟩
  ·exact ⟨_,_,rfl,k2,.inr ⟨o,.one it',rfl,k3,k4⟩⟩
 | mg g=>
  obtain ⟨x,D',k1,k2,k3⟩:=F1 hd hR h
  unfold so
  dsimp only
  rw [k1]
  rcases k3 with ⟨e,rfl,k4⟩|⟨o,it',rfl,k3,k4⟩
  ·exact ⟨_,_,rfl,k2,.inl ⟨e,rfl,k4⟩⟩
  ·exact ⟨_,_,rfl,k2,.inr ⟨o,.mg it',rfl,k3,k4⟩⟩
theorem rJ {σ:Type} {body:σ→az→Option (σ×Bool)} {g:σ→az→σ×Bool} {Sz:Nat→σ→Prop} {N:Nat} (hbody:∀ k s e,k≤N→Sz k s→body s e=some (g s e)∧Sz (k+1) (g s e).1) :
 ∀ (R:List az) (f k:Nat) (n:Nx) (D:ad) (s:σ),D.Ok→fS R→CI C (file D) M n R→R.length<f→k+R.length≤N→Sz k s →
 ∃ s' o D' j,oR M body f n D s=some (s',o,D')∧cO D D'∧j≤k+R.length∧Sz j s'∧((∃ e,o=some e∧qX C D e)∨(o=none∧s'=nD g R s))
 | R,0,k,n,D,s,_,_,_,hf,_,_=>by omega
 | R,f+1,k,n,D,s,hd,hR,hn,hf,hk,hs=>by
  obtain ⟨x,D1,k1,k2,k3⟩:=F2 hd hR hn
  unfold oR
  rw [k1]
  rcases k3 with ⟨e,rfl,k4⟩|⟨o,n',rfl,rfl,k4⟩
  ·exact ⟨_,_,_,k,rfl,k2,by omega,hs,.inl ⟨e,rfl,k4⟩⟩
  ·cases R with
   | nil=>exact ⟨_,_,_,k,rfl,k2,by omega,hs,.inr ⟨rfl,rfl⟩⟩
   | cons e R=>
    simp only [List.length_cons] at hf hk
    obtain ⟨b1,b2⟩:=hbody k s e (by omega) hs
    dsimp only [List.head?_cons]
    rw [b1]
    have hfl:file D1=file D:=funext k2.file
    cases hb:(g s e).2 with
    | true=>
     have hg:g s e=((g s e).1,true):=by rw [← hb]
     rw [hg]
     dsimp only
     obtain ⟨s',o,D2,j,m1,m2,m3,m4,m5⟩:=rJ hbody R f (k+1) n' D1 (g s e).1 k2.later.ok (List.pairwise_cons.1 hR).2 (by rw [hfl];exact k4) (by omega) (by omega) b2
     refine ⟨s',o,D2,j,m1,k2.trans m2,by simp only [List.length_cons];omega,m4,?_⟩
     rcases m5 with ⟨e',m5,m6⟩|⟨m5,m6⟩
     ·exact .inl ⟨e',m5,m6.before k2.later⟩
     ·exact .inr ⟨m5,by rw [m6];show _=nD g (e::R) s;rw [nD,if_pos hb]⟩
    | false=>
     have hg:g s e=((g s e).1,false):=by rw [← hb]
     rw [hg]
     dsimp only
     refine ⟨_,_,_,k+1,rfl,k2,by simp only [List.length_cons];omega,b2,.inr ⟨rfl,?_⟩⟩
     show _=nD g (e::R) s
     rw [nD,if_neg (by rw [hb];simp)]
end
end
end Go.Proofs.YtecibefflhomdaaGreatDoor
