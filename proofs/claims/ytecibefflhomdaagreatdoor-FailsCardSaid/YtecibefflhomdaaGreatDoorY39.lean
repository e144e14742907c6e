/-
  Part 39: WALKS table; WALKS package levels.
-/
import Derived.Test.YtecibefflhomdaaGreatDoorY38
set_option maxHeartbeats 8000000
set_option maxRecDepth 100000
set_option linter.all false
namespace Go.Proofs.YtecibefflhomdaaGreatDoor
open Go
section
open Go.Proofs.YtecibefflhomdaaGreatDoor.Pure (ad az Rd bI less aQ aZ bM bE aD cY dec j3)
attribute [local irreducible] IntKind.wrap
variable {W0 w:World} {F:List ah} {v:Value} {d p:Nat} {D D':ad}
theorem xD (h:D.Ok) (nm:Bs):(fileOf D nm).length≤4398046511104:=by
 have h3:=h.used
 have h2:(fileOf D nm).length≤D.used:=by
  unfold fileOf
  cases hg:Pure.aA D.now nm with
  | none=>simp
  | some j=>exact Pure.ad.size_le hg
 omega
theorem qS (h:D.Ok) (nm:Bs) (a n:Int):(iC D nm a n).length≤4398046511104:=by
 have h1:=xD h nm
 unfold iC
 split
 ·simp
 ·simp only [fz,List.length_take,List.length_drop];omega
theorem Je (h:D.Ok) (nm:Bs):jU D nm≤4398046511104:=by
 unfold jU;split
 ·omega
 ·exact xD h nm
theorem Jf {n:Int} (h0:9223372036854775808≤n) (h1:n≤18446744073709551615):IntKind.i64.wrap n=n-18446744073709551616:=by rw [IntKind.wrap_i64];omega
theorem KV {bs:Bs} (h:bs.length=8):(Rd.num ⟨bs,false⟩ 8).1=j3 bs:=by
 unfold Pure.Rd.num Pure.Rd.bytes
 rw [if_neg (by simp [h])]
 simp [← h]
theorem A4 {r:Rd} (h:¬ (r.rest≠[]∧r.bad=false)) (f:Nat):fB f r=([],r.bad):=by
 cases f with
 | zero=>rfl
 | succ f=>unfold fB;rw [if_neg h]
theorem A5 {r:Rd} (h:r.rest≠[]∧r.bad=false) (f:Nat):fB (f+1) r=((r.text.1,(r.text.2.num 4).1,((r.text.2.num 4).2.num 4).1)::(fB f ((r.text.2.num 4).2.num 4).2).1,(fB f ((r.text.2.num 4).2.num 4).2).2):=by
 conv=>lhs;unfold fB
 rw [if_pos h]
theorem KW {r:Rd} (hb:r.bad=false) (hr:r.rest≠[]):r.text.2.rest.length<r.rest.length:=by
 have h1:(r.num 1).2.rest.length<r.rest.length:=by
  have hpos:0<r.rest.length:=List.length_pos_iff.2 hr
  unfold Pure.Rd.num Pure.Rd.bytes
  rw [if_neg (by simp [hb];omega)]
  simp;omega
 exact Nat.lt_of_le_of_lt (Pure.Rd.gK _ _) h1
theorem sN:∀ (f:Nat) (r:Rd),∀ b∈(fB f r).1,b.2.1≤4611686018427387904∧b.2.2≤4611686018427387904
 | 0,r,b,h=>by cases h
 | f+1,r,b,h=>by
  unfold fB at h
  split at h
  ·rcases List.mem_cons.1 h with rfl|h
   ·have h1:=r.text.2.kE 4
    have h2:=(r.text.2.num 4).2.kE 4
    dsimp only;omega
   ·exact sN f _ b h
  ·cases h
theorem vk:∀ (f:Nat) (r:Rd),(fB f r).1.length≤f
 | 0,_=>Nat.le_refl _
 | f+1,r=>by unfold fB;split<;>simp [vk f]
theorem C7 {nm:Bs} {x:Except cy cD} (h:wO D nm=some (x,D')) (hs:Sat W0 (ag d D::F) w) :
 Calls Tryz.prog 95 #[au d,str nm] w fun y w'=>∃ tv ve,y=.returned (.tuple #[tv,ve])∧Sat W0 (ag d D'::ax ve (dk x)::Kz d tv x::F) w':=by
 have hok:=hs.M7
 have hsz:=Je hok nm
 unfold wO at h
 refine enter Tryz.func95 rfl Tryz.ntmps95 Tryz.results95 rfl ?_
 refine gx ?_
 refine ae (met (HJ (n:=nm) hs) ?_)
 rintro _ w ⟨ve,rfl,hs⟩
 refine ⟨_,rfl,?_⟩
 cases hf:bz D nm with
 | some e=>
  rw [hf] at h hs
  simp only [Option.some.injEq,Prod.mk.injEq] at h
  obtain ⟨rfl,rfl⟩:=h
  obtain ⟨t,u,rfl⟩:=(hs.take (.there .here)).aW
  refine gx ?_
  exact ak rfl ⟨_,_,rfl,Sat.to (Sat.emp hs)⟩
 | none=>
  rw [hf] at h hs
  dsimp only at h
  have hve:=(hs.take (.there .here)).cF
  subst hve
  generalize hN:jU D nm=N at *
  refine gx ?_
  refine ae (met (qi (nm:=nm) (at_:=(N:Int)-20) (n:=20) hs (by omega) (by omega) (by omega) (by omega)) ?_)
  rintro _ w ⟨rv,ve,rfl,hs⟩
  refine ⟨_,rfl,?_⟩
  cases hf2:bz D.tick nm with
  | some e=>
   rw [hf2] at h hs
   simp only [Option.some.injEq,Prod.mk.injEq] at h
   obtain ⟨rfl,rfl⟩:=h
   obtain ⟨t,u,rfl⟩:=(hs.take (.there (.there .here))).aW
   refine gx ?_
   exact ak rfl ⟨_,_,rfl,Sat.to (Sat.emp hs)⟩
  | none=>
   rw [hf2] at h hs
   dsimp only at h
   have hve:=(hs.take (.there (.there .here))).cF
   subst hve
   have hbl:=qS hok.tick nm ((N:Int)-20) 20
   have hs:=(hs.take (.there .here)).nt
   generalize iC D.tick nm ((N:Int)-20) 20=bs at *
   refine gx ?_
   refine ae (met (lW hs (by omega)) ?_)
   rintro _ w ⟨v1,v2,rfl,hs⟩
   refine ⟨_,rfl,?_⟩
   generalize hD2:(counted D.tick 20).tick=D2 at *
   cases ho:bI bs with
   | none=>
    rw [ho] at h hs
    simp only [Option.some.injEq,Prod.mk.injEq] at h
    obtain ⟨rfl,rfl⟩:=h
    refine gx ?_
    refine ae (met (dY (nm:=nm) hs) ?_)
    rintro _ w ⟨ve,rfl,hs⟩
    refine ⟨_,rfl,gx ?_⟩
    exact ak rfl ⟨_,_,rfl,Sat.to (Sat.emp hs)⟩
   | some z=>
    rw [ho] at h hs
    dsimp only at h hs
    obtain ⟨a1,c1,rfl,hc1⟩:=hs.fD
    by_cases h8:z.1.length≠8
    ·rw [if_pos h8] at h
     simp only [Option.some.injEq,Prod.mk.injEq] at h
     obtain ⟨rfl,rfl⟩:=h
     refine gx ?_
     refine ae (met (dY (nm:=nm) hs) ?_)
     rintro _ w ⟨ve,rfl,hs⟩
     refine ⟨_,rfl,gx ?_⟩
     exact ak rfl ⟨_,_,rfl,Sat.to (Sat.emp hs)⟩
    ·rw [if_neg h8] at h
     have h8':z.1.length=8:=by omega
     refine gx ?_
     refine bA [.slice a1 z.1.length c1,.bool false] ?_
     refine cE hs fun w r hs=>?_
     have hs:=Sat.fN (rd:=⟨z.1,false⟩) hs
     refine gx ?_
     refine ae (met (fc (K:=8) hs (by show z.1.length≤_;omega) (by omega)) ?_)
     rintro _ w ⟨rfl,hs⟩
     refine ⟨_,rfl,?_⟩
     have hnl:=Pure.Rd.kE ⟨z.1,false⟩ 8
     rw [KV h8'] at hnl ⊢
     generalize hA:j3 z.1=A at *
     by_cases hbig:N<A
     ·rw [if_pos hbig] at h
      simp only [Option.some.injEq,Prod.mk.injEq] at h
      obtain ⟨rfl,rfl⟩:=h
      by_cases hneg:9223372036854775808≤A
      ·refine eO (v:=.int .i64 ((A:Int)-18446744073709551616)) (by
        show some (Value.int .i64 (IntKind.i64.wrap (A:Int)))=_
        rw [Jf (by omega) (by omega)]) rfl ?_
       refine gx ?_
       refine ae (met (dY (nm:=nm) hs) ?_)
       rintro _ w ⟨ve,rfl,hs⟩
       refine ⟨_,rfl,gx ?_⟩
       exact ak rfl ⟨_,_,rfl,Sat.to (Sat.emp hs)⟩
      ·refine gx ?_
       refine ae (met (dY (nm:=nm) hs) ?_)
       rintro _ w ⟨ve,rfl,hs⟩
       refine ⟨_,rfl,gx ?_⟩
       exact ak rfl ⟨_,_,rfl,Sat.to (Sat.emp hs)⟩
     ·rw [if_neg hbig] at h
      unfold Cc at h
      have hdk:=(hs.take (.there (.there .here))).M7
      refine gx ?_
      refine ae (met (qi (nm:=nm) (at_:=(A:Int)) (n:=(N:Int)-20-(A:Int)) (hs.take (.there (.there .here))) (by omega) (by omega) (by omega) (by omega)) ?_)
      rintro _ w ⟨rv,ve,rfl,hs⟩
      refine ⟨_,rfl,?_⟩
      cases hf3:bz D2 nm with
      | some e=>
       rw [hf3] at h hs
       simp only [Option.some.injEq,Prod.mk.injEq] at h
       obtain ⟨rfl,rfl⟩:=h
       obtain ⟨t,u,rfl⟩:=(hs.take (.there (.there .here))).aW
       refine gx ?_
       exact ak rfl ⟨_,_,rfl,Sat.to (Sat.emp hs)⟩
      | none=>
       rw [hf3] at h hs
       dsimp only at h
       have hve:=(hs.take (.there (.there .here))).cF
       subst hve
       have hbl:=qS hdk nm (A:Int) ((N:Int)-20-(A:Int))
       have hs:=(hs.take (.there .here)).nt
       generalize iC D2 nm (A:Int) ((N:Int)-20-(A:Int))=bs2 at *
       refine gx ?_
       refine ae (met (lW hs (by omega)) ?_)
       rintro _ w ⟨v1,v2,rfl,hs⟩
       refine ⟨_,rfl,?_⟩
       generalize hD3:(counted D2 ((N:Int)-20-(A:Int))).tick=D3 at *
       cases ho2:bI bs2 with
       | none=>
        rw [ho2] at h hs
        simp only [Option.some.injEq,Prod.mk.injEq] at h
        obtain ⟨rfl,rfl⟩:=h
        refine gx ?_
        refine ae (met (dY (nm:=nm) hs) ?_)
        rintro _ w ⟨ve,rfl,hs⟩
        refine ⟨_,rfl,gx ?_⟩
        exact ak rfl ⟨_,_,rfl,Sat.to (Sat.emp hs)⟩
       | some y=>
        rw [ho2] at h hs
        dsimp only at h hs
        by_cases hb2:bs2.length≤gW
        ·rw [if_pos hb2,Option.some.injEq,Prod.mk.injEq] at h
         rw [bJ] at hb2
         obtain ⟨hx,rfl⟩:=h
         have hyl:=l9 ho2
         generalize y.1=ys at *
         obtain ⟨a3,c3,rfl,hc3⟩:=hs.fD
         refine gx ?_
         refine bA [.slice a3 ys.length c3,.bool false] ?_
         refine cE hs fun w r2 hs=>?_
         have hs:=Sat.fN (rd:=⟨ys,false⟩) hs
         refine gx ?_
         refine bA [str [],str [],str [],.int .i64 0,au d,.slice none 0 0] ?_
         refine cE hs fun w p hs=>?_
         refine gx ?_
         refine ae (met (gO (hs.take (.there .here)) (by show ys.length≤_;omega)) ?_)
         rintro _ w ⟨rfl,hs⟩
         refine ⟨_,rfl,gx ?_⟩
         have r1:=Pure.Rd.iA ⟨ys,false⟩
         have r1':(Rd.text ⟨ys,false⟩).2.rest.length≤ys.length:=r1
         refine ae (met (gO hs (by omega)) ?_)
         rintro _ w ⟨rfl,hs⟩
         refine ⟨_,rfl,gx ?_⟩
         have r2':=(Rd.text ⟨ys,false⟩).2.iA
         refine ae (met (fc (K:=4) hs (by omega) (by omega)) ?_)
         rintro _ w ⟨rfl,hs⟩
         refine ⟨_,rfl,?_⟩
         have r3:=(Rd.text ⟨ys,false⟩).2.text.2.di 4
         have r4:=(Rd.text ⟨ys,false⟩).2.text.2.kE 4
         refine gx ?_
         refine bD hs fun w hs=>?_
         refine gx ?_
         refine bD hs fun w hs=>?_
         refine gx ?_
         refine bD hs fun w hs=>?_
         refine gx ?_
         refine bD hs fun w hs=>?_
         refine gx ?_
         unfold Ab at hx
         dsimp only at hx
         generalize (Rd.text ⟨ys,false⟩).1=n1 at *
         generalize (Rd.text ⟨ys,false⟩).2=q1 at *
         generalize q1.text.1=n2 at *
         generalize q1.text.2=q2 at *
         generalize (q2.num 4).1=n3 at *
         generalize (q2.num 4).2=q3 at *
         have pn:=sN ys.length q3
         have pl:=vk ys.length q3
         refine aL (α:=Nat×Rd×List (Bs×Nat×Nat)×Value) (fun z=>[(0,au d),(1,str nm),(12,au r2),(15,au p)])
          (fun z w=>(z.2.2.1++(fB z.1 z.2.1).1=(fB ys.length q3).1∧(fB z.1 z.2.1).2=(fB ys.length q3).2∧z.2.1.rest.length≤z.1∧z.2.2.1.length+z.1≤ys.length) ∧
            Sat W0 (vJ r2 z.2.1::blk p 200 [str nm,str n1,str n2,.int .i64 (n3:Int),au d,z.2.2.2]::aE 3 z.2.2.2 282 z.2.2.1.length (cM z.2.2.1).flatten::ag d D3::F) w) (fun z=>z.1) (ys.length,q3,[],.slice none 0 0) ⟨rfl,rfl,rfl,rfl,trivial⟩ ⟨⟨rfl,rfl,by dsimp only;omega,by simp⟩,Sat.to (Sat.cP (k:=3) (E:=282) hs)⟩ ?_
         clear hs
         rintro ⟨f,rd,acc,bv⟩ w ⟨⟨g1,g2,g3,g4⟩,hs⟩
         dsimp only at g1 g2 g3 g4 hs ⊢
         obtain ⟨vr,-,hs⟩:=hs.nH
         dsimp only [List.cons_append,List.nil_append] at hs
         obtain ⟨a4,c4,rfl,hc4⟩:=(hs.take (.there .here)).fD
         obtain ⟨a5,c5,rfl,hc5⟩:=(hs.take (.there (.there (.there .here)))).ay
         by_cases hgo:rd.rest≠[]∧rd.bad=false
         ·obtain ⟨j1,j2⟩:=hgo
          have hpos:(rd.rest.length:Int) > 0:=by have:=List.length_pos_iff.2 j1;omega
          have hlt:=KW j2 j1
          have s1:=rd.text.2.di 4
          have s2:=(rd.text.2.num 4).2.di 4
          have s3:=rd.text.2.kE 4
          have s4:=(rd.text.2.num 4).2.kE 4
          obtain ⟨f,rfl⟩:∃ f',f=f'+1:=⟨f-1,by have:=List.length_pos_iff.2 j1;omega⟩
          rw [A5 ⟨j1,j2⟩] at g1 g2
          rw [j2] at hs
          refine gx ?_
          have hs:=Sat.fN (rd:=rd) (by rw [j2];exact hs)
          refine bU [blk p 200 [str nm,str n1,str n2,.int .i64 (n3:Int),au d,.slice a5 acc.length c5]] [(0,false),(1,false),(2,false),(3,false),(4,false),(5,false),(7,false),(10,false),(6,true),(8,true),(9,false),(11,true),(12,false),(13,false),(14,true),(15,true),(16,false),(17,false),(18,true)] (hs.take (.there .here)) (by kernel_rfl) fun w hs=>?_
          refine gx ?_
          refine ae (met (gO (hs.take (.there .here)) (by omega)) ?_)
          rintro _ w ⟨rfl,hs⟩
          refine ⟨_,rfl,gx ?_⟩
          refine ae (met (fc (K:=4) hs (by omega) (by omega)) ?_)
          rintro _ w ⟨rfl,hs⟩
          refine ⟨_,rfl,gx ?_⟩
          refine ae (met (fc (K:=4) hs (by omega) (by omega)) ?_)
          rintro _ w ⟨rfl,hs⟩
          refine ⟨_,rfl,gx ?_⟩
          refine qy (sU (rd.text.1,(rd.text.2.num 4).1,((rd.text.2.num 4).2.num 4).1)) rfl ?_
          refine gx ?_
          refine gN (sU (rd.text.1,(rd.text.2.num 4).1,((rd.text.2.num 4).2.num 4).1)) hs (fun w b2 hs=>?_)
          refine gx ?_
          refine dF hs fun v2 w hs=>?_
          obtain ⟨a6,c6,rfl,-⟩:=hs.ay
          refine gx ?_
          refine bD hs fun w hs=>?_
          refine gx ?_
          refine aB (f,((rd.text.2.num 4).2.num 4).2,acc++[(rd.text.1,(rd.text.2.num 4).1,((rd.text.2.num 4).2.num 4).1)],.slice a6 (acc.length+1) c6) ⟨rfl,rfl,rfl,rfl,trivial⟩ ⟨⟨?_,g2,?_,?_⟩,?_⟩ (by show f<f+1;omega)
          ·dsimp only;rw [List.append_assoc];exact g1
          ·dsimp only;omega
          ·dsimp only;rw [List.length_append];simp only [List.length_cons,List.length_nil];omega
          ·dsimp only
           rw [Ah,List.length_append]
           exact hs.to
         ·have hst:=A4 hgo f
          have hacc:acc=(fB ys.length q3).1:=by rw [← g1,hst];simp
          have hbad:rd.bad=(fB ys.length q3).2:=by rw [← g2,hst]
          rw [← hacc] at hx
          by_cases hr:rd.rest=[]
          ·have hnp:¬ (rd.rest.length:Int) > 0:=by rw [hr];simp
           cases hb:rd.bad with
           | true=>
            rw [hb] at hs hbad
            have hp2:=hbad.symm
            rw [if_pos (.inl hp2)] at hx
            subst hx
            refine gx ?_
            refine ae (met (dY (nm:=nm) hs) ?_)
            rintro _ w ⟨ve,rfl,hs⟩
            refine ⟨_,rfl,gx ?_⟩
            exact ak rfl ⟨_,_,rfl,Sat.to (Sat.emp hs)⟩
           | false=>
            rw [hb] at hs hbad
            have hp2:=hbad.symm
            by_cases hac:acc=[]
            ·rw [if_pos (.inr hac)] at hx
             subst hx
             have hl0:(acc.length:Int)=0:=by rw [hac];rfl
             refine gx ?_
             refine ae (met (dY (nm:=nm) hs) ?_)
             rintro _ w ⟨ve,rfl,hs⟩
             refine ⟨_,rfl,gx ?_⟩
             exact ak rfl ⟨_,_,rfl,Sat.to (Sat.emp hs)⟩
            ·rw [if_neg (by rintro (h1|h1);rw [hp2] at h1;cases h1;exact hac h1)] at hx
             subst hx
             have hl0:¬ (acc.length:Int)=0:=by
              intro h1;exact hac (List.eq_nil_of_length_eq_zero (by omega))
             refine gx ?_
             refine ak rfl ⟨_,_,rfl,?_⟩
             have hTok:zT ⟨nm,n1,n2,n3,acc⟩:=⟨by show acc.length≤_;omega,by show n3≤_;omega,fun b hb=>pn b (by rw [← hacc];exact hb)⟩
             have hbl:acc.length=(cM acc).length:=by simp [cM]
             have hs:=hs.take (.there (.there (.there .here)))
             rw [hbl] at hs
             have hs:=(Sat.jK (qp _) hs).take (.there (.there (.there .here)))
             have hs:=hs.share
             rw [← hbl] at hs
             have hs:=hs.to (a:=sT p 200 [str nm,str n1,str n2,.int .i64 (n3:Int),au d,.slice a5 acc.length c5]::jm 3 (.slice a5 acc.length c5) (cM acc)::ag d D3::F)
             have hs:=Sat.ei (Sat.Io (T:=⟨nm,n1,n2,n3,acc⟩) hTok hs)
             exact hs.to
          ·have hb:rd.bad=true:=by
            cases hb:rd.bad with
            | true=>rfl
            | false=>exact absurd ⟨hr,hb⟩ hgo
           have hpos:(rd.rest.length:Int) > 0:=by have:=List.length_pos_iff.2 hr;omega
           rw [hb] at hs hbad
           have hp2:=hbad.symm
           rw [if_pos (.inl hp2)] at hx
           subst hx
           refine gx ?_
           refine ae (met (dY (nm:=nm) hs) ?_)
           rintro _ w ⟨ve,rfl,hs⟩
           refine ⟨_,rfl,gx ?_⟩
           exact ak rfl ⟨_,_,rfl,Sat.to (Sat.emp hs)⟩
        ·rw [if_neg hb2] at h;cases h
end
section
open Go.Proofs.YtecibefflhomdaaGreatDoor.Pure (ad az Rd bI dT)
attribute [local irreducible] IntKind.wrap
variable {W0 w:World} {F:List ah} {b d:Nat} {D D':ad} {K:SK} {z:SZ} {s:St}
theorem C8 {bs:Bs} {z:Bs×Bs} (h:bI bs=some z):z.2.length≤bs.length:=by
 have ho:bI bs=(let n:=Rd.num ⟨bs,false⟩ 4
  let t:=n.2.num 4
  let s:=t.2.num 4
  if n.1≠4294967295-t.1 then none else
  let i:=s.2.bytes (n.1:Int)
  if i.2.bad=true∨Pure.we i.1≠s.1 then none else some (i.1,i.2.rest)):=rfl
 rw [h] at ho
 dsimp only at ho
 split at ho
 ·cases ho
 ·split at ho
  ·cases ho
  ·simp only [Option.some.injEq] at ho
   subst ho
   have b1:(Rd.num ⟨bs,false⟩ 4).2.rest.length≤bs.length:=Pure.Rd.di ⟨bs,false⟩ 4
   have b2:=(Rd.num ⟨bs,false⟩ 4).2.di 4
   have b3:=((Rd.num ⟨bs,false⟩ 4).2.num 4).2.di 4
   have b4:=Pure.Rd.gK (((Rd.num ⟨bs,false⟩ 4).2.num 4).2.num 4).2 ((Rd.num ⟨bs,false⟩ 4).1:Int)
   exact Nat.le_trans b4 (Nat.le_trans b3 (Nat.le_trans b2 b1))
theorem C9 (r:Rd):r.entry.2.rest.length≤r.rest.length:=by
 have h2:r.text.2.rest.length≤r.rest.length:=Pure.Rd.iA r
 have h3:=r.text.2.di 8
 have he:r.entry=if (r.text.2.num 8).2.rest.head?=some 255 then (⟨r.text.1,[],true,(r.text.2.num 8).1⟩,((r.text.2.num 8).2.bytes 1).2)
  else (⟨r.text.1,(r.text.2.num 8).2.text.1,false,(r.text.2.num 8).1⟩,(r.text.2.num 8).2.text.2):=rfl
 rw [he]
 split
 ·have:=Pure.Rd.gK (r.text.2.num 8).2 1;dsimp only;omega
 ·have:=Pure.Rd.iA (r.text.2.num 8).2;dsimp only;omega
abbrev EK (s:St) (q:Nat) (m:List az):St:={ s with seq:=q,mem:=m }
structure O2 where
 v:Value
 bs:Bs
 f:Nat
 q:Nat
 m:List az
structure O3 where
 rd:Rd
 f:Nat
 q:Nat
 m:List az
theorem A6 {x:Except cy St} (h:qz s D=some (x,D')) (hE:kY W0) (hs:Sat W0 (ni b K s::ag K.d D::F) w) :
 Calls Tryz.prog 97 #[au b] w fun y w'=>∃ ve,y=.returned ve∧Sat W0 (Bv b K x::ag K.d D'::ax ve (dk x)::F) w':=by
 obtain ⟨hl,z,hs⟩:=hs.gQ
 refine enter Tryz.func97 rfl Tryz.ntmps97 Tryz.results97 rfl ?_
 refine gx ?_
 refine bU [blk b 133 (aj K z s)] [(0,false),(1,false),(2,false),(3,false),(4,false),(5,false),(6,false),(7,false),(8,true),(9,false),(10,false),(11,false),(12,false),(13,false)] hs (by kernel_rfl) ?_
 clear hs
 intro w hs
 refine gx ?_
 have hok:=(hs.take (.there (.there (.there (.there .here))))).M7
 refine ae (met (vj (n:=s.log) (hs.take (.there (.there (.there (.there .here)))))) ?_)
 clear hs
 rintro _ w ⟨v,ve,rfl,hs⟩
 refine ⟨_,rfl,?_⟩
 unfold qz at h
 have hlen:(okB (ij D s.log).1).length≤4398046511104:=by
  unfold ij
  split
  ·simp [okB]
  ·split
   ·simp [okB]
   ·exact qS hok.tick _ _ _
 generalize hwd:ij D s.log=wd at h hs hlen
 obtain ⟨xw,D1⟩:=wd
 dsimp only at h hs hlen
 cases xw with
 | error e=>
  simp only [Option.some.injEq,Prod.mk.injEq] at h
  obtain ⟨rfl,rfl⟩:=h
  obtain ⟨t,u,rfl⟩:=(hs.take (.there (.there .here))).aW
  refine gx ?_
  refine ae (met (rX hE (hs.take (.there (.there .here)))) ?_)
  clear hs
  rintro _ w ⟨ve,rfl,hs⟩
  refine ⟨_,rfl,?_⟩
  refine gx ?_
  exact ak rfl ⟨_,rfl,Sat.jW (Sat.bP (z:=z) hl hs.to)⟩
 | ok bytes=>
  have hve:=(hs.take (.there (.there .here))).cF
  subst hve
  simp only [Option.map_eq_some_iff,Prod.mk.injEq] at h
  obtain ⟨s',hrp,rfl,rfl⟩:=h
  have hs:=(hs.take (.there .here)).nt
  refine gx ?_
  refine aL (α:=O2) (fun y=>[(0,au b),(3,y.v)])
   (fun y w=>(lx y.f y.bs (EK s y.q y.m)=some s'∧y.bs.length≤4398046511104)∧Sat W0 (vw y.v y.bs::blk b 133 (aj K z (EK s y.q y.m))::dQ K.d z s.levels::aR z.m y.m::aO bB z.sn (aC s.snaps)::ag K.d D1::F) w) (fun y=>y.f)
   ⟨v,bytes,bytes.length+1,s.seq,s.mem⟩ ⟨rfl,rfl,trivial⟩ ⟨⟨hrp,hlen⟩,hs.to⟩ ?_
  clear hs hrp hlen
  rintro ⟨v,bs,f,q,m⟩ w ⟨⟨hrp,hlen⟩,hs⟩
  dsimp only at hrp hlen hs
  cases f with
  | zero=>cases hrp
  | succ f=>
  have hfin:∀ (q:Nat) (m:List az) (w:World),Sat W0 (blk b 133 (aj K z (EK s q m))::dQ K.d z s.levels::aR z.m m::aO bB z.sn (aC s.snaps)::ag K.d D1::F) w→EK s q m=s'→∃ ve,Ending.returned .nilIface=Ending.returned ve∧Sat W0 (Bv b K (.ok s')::ag K.d D1::ax ve none::F) w:=by
   intro q m w hs he
   subst he
   refine ⟨_,rfl,?_⟩
   have:=Sat.ei (Sat.bP (K:=K) (z:=z) (s:=EK s q m) hl hs)
   exact this.to
  unfold lx at hrp
  refine gx ?_
  refine ae (met (lW hs (by omega)) ?_)
  clear hs
  rintro _ w ⟨v1,v2,rfl,hs⟩
  refine ⟨_,rfl,?_⟩
  cases ho:bI bs with
  | none=>
   rw [ho] at hrp hs
   simp only [Option.some.injEq] at hrp
   refine gx ?_
   exact ak rfl (hfin q m w hs.drop.drop hrp)
  | some zz=>
   obtain ⟨i,rest⟩:=zz
   have hl1:=l9 ho
   have hl2:=C8 ho
   rw [ho] at hrp hs
   dsimp only at hrp hs hl1 hl2
   obtain ⟨a1,c1,rfl,-⟩:=hs.fD
   refine gx ?_
   refine bA [.slice a1 i.length c1,.bool false] ?_
   refine cE hs ?_
   clear hs
   intro w r hs
   have hs:=Sat.fN (rd:=⟨i,false⟩) hs
   refine gx ?_
   refine bU [blk b 133 (aj K z (EK s q m))] [(0,false),(2,false),(3,false),(4,false),(5,false),(1,true),(6,false)] hs (by kernel_rfl) ?_
   clear hs
   intro w hs
   refine gx ?_
   refine ae (met (fc (K:=8) hs (by dsimp only;omega) (by omega)) ?_)
   clear hs
   rintro _ w ⟨rfl,hs⟩
   refine ⟨_,rfl,?_⟩
   have hn:=Pure.Rd.di ⟨i,false⟩ 8
   generalize hnu:Rd.num ⟨i,false⟩ 8=nu at hs hrp hn
   obtain ⟨q8,rd⟩:=nu
   dsimp only at hs hrp hn
   by_cases hq:q8=q
   ·rw [if_neg (by omega)] at hrp
    have hq':¬ ((q8:Nat):Int)≠(q:Int):=by omega
    refine gx ?_
    refine aL (α:=O3) (fun y=>[(0,au b),(6,v2),(8,au r)])
     (fun y w=>((match kS y.f y.rd (EK s y.q y.m) with|none=>none|some (s',true)=>some s'|some (s',false)=>lx f rest s')=some s'∧y.rd.rest.length≤4398046511104) ∧
       Sat W0 (vJ r y.rd::vw v2 rest::blk b 133 (aj K z (EK s y.q y.m))::dQ K.d z s.levels::aR z.m y.m::aO bB z.sn (aC s.snaps)::ag K.d D1::F) w) (fun y=>y.f)
     ⟨rd,i.length+1,q,m⟩ ⟨rfl,rfl,rfl,trivial⟩ ⟨⟨hrp,by dsimp only;omega⟩,hs⟩ ?_
    clear hs hrp hnu hn hq hq'
    rintro ⟨rd,g,q,m⟩ w ⟨⟨hrp,hlr⟩,hs⟩
    dsimp only at hrp hlr hs
    cases g with
    | zero=>cases hrp
    | succ g=>
    unfold kS at hrp
    obtain ⟨vr,-,hs⟩:=hs.nH
    dsimp only [List.cons_append,List.nil_append] at hs
    obtain ⟨ar,cr,rfl,-⟩:=(hs.take (.there .here)).fD
    by_cases hre:rd.rest=[]
    ·rw [if_pos hre] at hrp
     dsimp only at hrp
     have hl0:¬ ((rd.rest.length:Int) > 0):=by rw [hre];simp
     refine gx ?_
     refine aB ⟨v2,rest,f,q,m⟩ ⟨rfl,rfl,trivial⟩ ⟨⟨hrp,by dsimp only;omega⟩,?_⟩ (by dsimp only;omega)
     exact hs.to
    ·rw [if_neg hre] at hrp
     have hl0:((rd.rest.length:Int) > 0):=by have:=List.length_pos_iff.2 hre;omega
     refine gx ?_
     have hs:=Sat.fN hs
     refine ae (met (uf hs (by omega)) ?_)
     clear hs
     rintro _ w ⟨rfl,hs⟩
     refine ⟨_,rfl,?_⟩
     have her:=C9 rd
     generalize hen:rd.entry=en at hs hrp her
     obtain ⟨e,rd2⟩:=en
     dsimp only at hs hrp her
     refine gx ?_
     refine aS hs ?_
     clear hs
     intro w b9 hs
     refine gx ?_
     refine cZ (vs:=aF e) hs ?_
     clear hs
     intro w hs
     obtain ⟨vr2,-,hs⟩:=(hs.take (.there .here)).nH
     dsimp only [List.cons_append,List.nil_append] at hs
     cases hb:rd2.bad with
     | true=>
      rw [hb] at hrp hs
      refine gx ?_
      simp only [if_true,Option.some.injEq] at hrp
      exact ak rfl (hfin q m w hs.to hrp)
     | false=>
      have hs:=hs
      rw [hb] at hrp hs
      rw [if_neg (by simp)] at hrp
      have hm:m.length≤1048576:=by
       by_cases hm:m.length≤1048576
       ·exact hm
       ·exfalso
        have hm':¬ (EK s q m).mem.length≤1048576:=hm
        rw [if_neg hm'] at hrp;cases hrp
      have hm':(EK s q m).mem.length≤1048576:=hm
      rw [if_pos hm'] at hrp
      refine gx ?_
      refine bD hs ?_
      clear hs
      intro w hs
      have hs:Sat W0 (blk b9 256 (aF e)::blk b 133 (aj K z (EK s e.seq m))::blk r 190 [vr2,.bool false]::vw vr2 rd2.rest::aR z.m m::vw v2 rest::dQ K.d z s.levels::aO bB z.sn (aC s.snaps)::ag K.d D1::F) w:=hs.to
      refine gx ?_
      refine bU [blk b9 256 (aF e),blk b 133 (aj K z (EK s e.seq m))] [(0,false),(1,false),(2,false),(3,false),(4,false),(5,true)] hs (by kernel_rfl) ?_
      clear hs
      intro w hs
      refine gx ?_
      refine ae (met (Al (e:=e) (hs.take (.there (.there (.there (.there .here))))) (by omega)) ?_)
      clear hs
      rintro _ w ⟨rfl,hs⟩
      refine ⟨_,rfl,?_⟩
      refine gx ?_
      refine aB ⟨rd2,g,e.seq,dT m e⟩ ⟨rfl,rfl,rfl,trivial⟩ ⟨⟨hrp,by dsimp only;omega⟩,?_⟩ (by dsimp only;omega)
      have hs:Sat W0 (vJ r rd2::vw v2 rest::blk b 133 (aj K z (EK s e.seq (dT m e)))::dQ K.d z s.levels::aR z.m (dT m e)::aO bB z.sn (aC s.snaps)::ag K.d D1::F) w:=Sat.fN (rd:=rd2) (r:=r) (vr:=vr2) (by rw [hb];exact hs.to (a:=blk r 190 [vr2,.bool false]::vw vr2 rd2.rest::vw v2 rest::blk b 133 (aj K z (EK s e.seq (dT m e)))::dQ K.d z s.levels::aR z.m (dT m e)::aO bB z.sn (aC s.snaps)::ag K.d D1::F))
      exact hs
   ·rw [if_pos hq] at hrp
    simp only [Option.some.injEq] at hrp
    have hq':((q8:Nat):Int)≠(q:Int):=by omega
    refine gx ?_
    exact ak rfl (hfin q m w hs.drop.drop hrp)
end
end Go.Proofs.YtecibefflhomdaaGreatDoor
