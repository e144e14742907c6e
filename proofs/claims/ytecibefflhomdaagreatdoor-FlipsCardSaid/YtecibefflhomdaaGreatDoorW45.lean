/-
  Part 45: WALKS package api; WALKS Flip, abstractly; PLAIN a store that lives through a crash.
-/
import Derived.Test.YtecibefflhomdaaGreatDoorW44
set_option maxHeartbeats 8000000
set_option maxRecDepth 100000
set_option linter.all false
namespace Go.Proofs.YtecibefflhomdaaGreatDoor
open Go
section
open Go.Proofs.YtecibefflhomdaaGreatDoor.Pure (ad lF ax bZ)
section
variable {ops:Array Oper} {Q:Exit→Act→World→Prop} {n:Nat} {ds:Md} {e:Env} {w w':World} {rest:List Oper}
variable {op:Op} {ty:TypeId} {pos:String} {af:Array Edge} {d:Nat} {v u:Value} {W0:World} {l l' r r':List ah}
attribute [local semireducible] WL WC WQ
theorem Jl {x y:Operand} {t E k b o len c i:Nat} {ik:IntKind} {Y:Int} (hx:ev e x=some (.slice (some ⟨b,o,none⟩) len c)) (hy:ev e y=some (.int ik Y)) (hY:Y=(i:Int)) (ht:lk cY t=some E) (hsz:lk cS E=some k)
 (h1:i<len) (hd:Nat.blt d n=true) (kk:WL ops Q n ds rest ((d,.pointer (some ⟨b,o+i*k,none⟩))::e) w) :
 WL ops Q n ds (⟨some d,.indexAddr t x y,ty,pos,af,none⟩::rest) e w:=by
 subst hY
 have h0:(0:Int)≤(i:Int):=by omega
 have h1':(i:Int)<(len:Int):=by omega
 exact bW (fun a ha=>by simp [execOp,ha.ev hx,ha.ev hy,Instr.indexAt,asIntOf,cj (bQ ht),cW hsz,h0,h1',h1,add_eq]) hd kk
end
theorem Mt {j:Nat} (h:j<8):IntKind.u8.wrap ((1*2^j:Nat):Int)=((2^j:Nat):Int):=by
 have:j=0∨j=1∨j=2∨j=3∨j=4∨j=5∨j=6∨j=7:=by omega
 rcases this with rfl|rfl|rfl|rfl|rfl|rfl|rfl|rfl<;>rfl
theorem Gf {m:Nat} (h:m<18446744073709551616):IntKind.u64.wrap (m:Int)=(m:Int):=by
 simp only [IntKind.wrap,IntKind.bits,IntKind.signed];simp;omega
attribute [local irreducible] IntKind.wrap
variable {W0 w:World} {F:List ah} {d:Nat} {D:ad} {n:Bs}
def NG (D:ad) (n:Bs) (D':ad):Prop:=D'=D∨∃ i x k y,ax D.now n=some i∧ax D.nodes i=some x∧(∃ z,x.1[k]?=some z∧y≠z)∧D'=D.laid i (x.1.set k y,x.2)
theorem Gg (c:UInt8) {j:Nat} (h:j<8):c.toNat ^^^ 2^j<256∧UInt8.ofNat (c.toNat ^^^ 2^j)≠c:=by
 have h2:2^j<256:=by
  have:2^j<2^8:=Nat.pow_lt_pow_right (by omega) h
  omega
 have h1:c.toNat ^^^ 2^j<256:=Nat.xor_lt_two_pow (n:=8) c.toNat_lt h2
 refine ⟨h1,fun e=>?_⟩
 have e2:=congrArg UInt8.toNat e
 rw [UInt8.toNat_ofNat',Nat.mod_eq_of_lt h1] at e2
 have e3:c.toNat ^^^ (c.toNat ^^^ 2^j)=c.toNat ^^^ c.toNat:=by rw [e2]
 rw [← Nat.xor_assoc,Nat.xor_self,Nat.zero_xor] at e3
 have:0<2^j:=Nat.pow_pos (by omega)
 omega
theorem Gh {bit:Nat} (hs:Sat W0 (dL d D::F) w) :
 Calls Tryz.prog 17 #[au d,str n,.int .u64 (bit:Int)] w fun x w'=>x=.returned (.tuple #[])∧∃ D',NG D n D'∧Sat W0 (dL d D'::F) w':=by
 obtain ⟨hok,z,hs⟩:=hs.eL
 refine enter Tryz.func17 rfl Tryz.ntmps17 Tryz.results17 rfl ?_
 dsimp only [fB,aU,List.cons_append,List.nil_append] at hs
 refine gy ?_
 refine lL bP (k:=n) hs (.there .here) rfl rfl rfl sV rfl ?_
 rw [k9]
 cases hi:ax D.now n with
 | none=>
  refine gy ?_
  exact gE rfl ⟨rfl,D,.inl rfl,Sat.cz (z:=z) hok hs⟩
 | some i=>
  obtain ⟨x,hx⟩:=hok.tH hi
  obtain ⟨B,C,v,e1,e2,hs⟩:=(hs.take (.there (.there (.there (.there .here))))).jN hx
  obtain ⟨a3,c3,rfl,-⟩:=(hs.take (.there .here)).aB
  show WL _ _ _ _ _ ((_,au i)::_) _
  have hnode:∀ {y:Bs×Nat} {v:Value} {w:World},(D.laid i y).Ok→Sat W0 (blk i 116 [v,.int .i64 (y.2:Int)]::cg v y.1::star (B++C)::blk d 111 (aU z D)::aO bP z.bn (aJ D.now)::aO bP z.bs (aJ D.safe)::ei z.mv D.moves::F) w→Sat W0 (dL d (D.laid i y)::F) w:=fun {y v w} hk h=>by
   have h2:=Sat.jC (i:=i) (y:=y) (B:=B) (C:=C) h
   rw [← e2] at h2
   exact Sat.cz (z:=z) hk h2.to
  have hsame:D.laid i x=D∨(D.laid i x).Ok:=.inr (hok.laid (Nat.le_trans (Pure.ad.gR (k:=0) hok (by rw [Nat.add_zero];unfold ad.aE;rw [hx])) hok.used))
  have hml:x.1.length≤4398046511104:=by
   have h1:=Pure.ad.size_le hi
   have h2:=hok.used
   unfold ad.aE at h1
   rw [hx] at h1
   exact Nat.le_trans h1 h2
  by_cases hl:0<x.1.length
  ·have hl':(x.1.length:Int) > 0:=by omega
   obtain ⟨b,cap,rest,hv,q1,q2,q3,hs⟩:=(hs.take (.there .here)).dr hl
   obtain ⟨rfl,_,rfl⟩:=Value.slice.inj hv
   have hs:=hs.to (a:=blk b 5 (x.1.map bV++rest)::blk i 116 [.slice (some ⟨b,0,none⟩) x.1.length c3,.int .i64 (x.2:Int)]::star (B++C)::blk d 111 (aU z D)::aO bP z.bn (aJ D.now)::aO bP z.bs (aJ D.safe)::ei z.mv D.moves::F)
   refine gy ?_
   refine js (N:=bit) (M:=8*x.1.length) rfl rfl rfl (by omega) (by omega) rfl ?_
   have hp:bit%(8*x.1.length)<8*x.1.length:=Nat.mod_lt _ (by omega)
   generalize bit%(8*x.1.length)=p at hp ⊢
   have hk:p / 8<x.1.length:=by omega
   have hj:p%8<8:=by omega
   have hg:x.1[p / 8]?=some x.1[p / 8]:=List.getElem?_eq_getElem hk
   generalize x.1[p / 8]=c at hg
   have hcell:(x.1.map bV++rest)[0+p / 8*1]?=some (bV c):=by
    rw [Nat.zero_add,Nat.mul_one,List.getElem?_append_left (by simpa using hk),List.getElem?_map,hg];rfl
   obtain ⟨f1,f2⟩:=Gg c hj
   refine gy ?_
   refine nK (N:=p) (M:=8) rfl rfl rfl rfl (by omega) (Gf (by omega)) rfl ?_
   refine Jl (i:=p / 8) rfl rfl rfl rfl rfl hk rfl ?_
   refine gy ?_
   refine js (N:=p) (M:=8) rfl rfl rfl rfl (by omega) rfl ?_
   refine G1 (N:=1) (m:=p%8) (M:=2^(p%8)) rfl rfl rfl (by show p%8≤8;omega) (Mt hj) rfl ?_
   refine pM (N:=c.toNat) (M:=2^(p%8)) (R:=c.toNat ^^^ 2^(p%8)) rfl rfl rfl c.toNat_lt ?_ rfl rfl ?_
   ·have:2^(p%8)<2^8:=Nat.pow_lt_pow_right (by omega) hj
    exact this
   refine Jl (i:=p / 8) rfl rfl rfl rfl rfl hk rfl ?_
   have hbv:(.int .u8 ((c.toNat ^^^ 2^(p%8):Nat):Int):Value)=bV (UInt8.ofNat (c.toNat ^^^ 2^(p%8))):=by
    show _=Value.int .u8 ((UInt8.ofNat (c.toNat ^^^ 2^(p%8))).toNat:Int)
    rw [UInt8.toNat_ofNat',Nat.mod_eq_of_lt f1]
   rw [hbv]
   generalize UInt8.ofNat (c.toNat ^^^ 2^(p%8))=y at f2 ⊢
   refine bI (hlt:=by rw [Nat.blt_eq,List.length_append,List.length_map];omega) hs ?_
   clear hs
   intro w hs
   have hset:(x.1.map bV++rest).set (0+p / 8*1) (bV y)=(x.1.set (p / 8) y).map bV++rest:=by
    rw [Nat.zero_add,Nat.mul_one,List.set_append_left _ _ (by simpa using hk),List.map_set]
   rw [hset] at hs
   have hlen:(x.1.set (p / 8) y).length=x.1.length:=List.length_set
   have hs:=Sat.cT (k:=1) (len:=x.1.length) hs q1 q2 q3 (by simp) (xH _)
   have hok':(D.laid i (x.1.set (p / 8) y,x.2)).Ok:=hok.laid (Nat.le_trans (Pure.ad.gR (k:=0) hok (by rw [Nat.add_zero,hlen];unfold ad.aE;rw [hx])) hok.used)
   refine gy ?_
   refine gE rfl ⟨rfl,_,.inr ⟨i,x,p / 8,y,hi,hx,⟨c,hg,f2⟩,rfl⟩,hnode (y:=(x.1.set (p / 8) y,x.2)) (v:=.slice (some ⟨b,0,none⟩) x.1.length c3) hok' ?_⟩
   have hb:cg (.slice (some ⟨b,0,none⟩) x.1.length c3) (x.1.set (p / 8) y)=aI 1 (.slice (some ⟨b,0,none⟩) x.1.length c3) 5 x.1.length ((x.1.set (p / 8) y).map bV):=by unfold cg;rw [hlen]
   rw [hb]
   exact hs.to
  ·have hl':¬ (x.1.length:Int) > 0:=by omega
   refine gy ?_
   have h2:=Sat.jC (i:=i) (y:=x) (B:=B) (C:=C) hs
   rw [← e1] at h2
   exact gE rfl ⟨rfl,D,.inl rfl,Sat.cz (z:=z) hok h2.to⟩
end
section
open Go.Proofs.YtecibefflhomdaaGreatDoor.Pure (ad bX lF ax bZ pY aR)
attribute [local irreducible] IntKind.wrap
variable {W0 w:World} {F:List ah} {d:Nat} {D:ad} {n:Bs}
theorem Ba:∀ {l:Bs} {k:Nat} {z y:UInt8},l[k]?=some z→y≠z→lF l (l.set k y)
 | [],_,_,_,h,_=>by simp at h
 | a::l,0,z,y,h,hy=>by
  simp at h;subst h
  exact ⟨[],a,y,l,rfl,rfl,fun e=>hy e.symm⟩
 | a::l,k+1,z,y,h,hy=>by
  obtain ⟨A,p,q,B,h1,h2,h3⟩:=Ba (l:=l) (k:=k) (by simpa using h) hy
  exact ⟨a::A,p,q,B,by rw [h1];rfl,by rw [List.set_cons_succ,h2];rfl,h3⟩
theorem Jm {e:cy} (h:e.2=7):((ir (some e):Nat):Int)=7:=by
 obtain ⟨a,b⟩:=e
 have h:b=7:=h
 subst h
 cases a<;>rfl
theorem Mu {bit:Nat} (hs:Sat W0 (ag d D::F) w) :
 Calls Tryz.prog 17 #[au d,str n,.int .u64 (bit:Int)] w fun x w'=>x=.returned (.tuple #[])∧∃ D',(D'=D∨∃ i x k y z,ax D.now n=some i∧ax D.nodes i=some x∧x.1[k]?=some z∧y≠z∧D'=D.laid i (x.1.set k y,x.2)∧D'.Ok)∧Sat W0 (ag d D'::F) w':=by
 obtain ⟨D0,f,h,h0,hs⟩:=hs.mW
 have hcl:=Gh (n:=n) (bit:=bit) hs
 clear hs
 refine hcl.mono ?_
 rintro _ w ⟨rfl,D1,hd,hs⟩
 refine ⟨rfl,?_⟩
 rcases hd with rfl|⟨i0,x,k,y,h1,h2,⟨z,h3,h4⟩,rfl⟩
 ·exact ⟨D,.inl rfl,hs.gJ h⟩
 ·rw [h.now] at h1
  cases hg:ax D.now n with
  | none=>rw [hg] at h1;cases h1
  | some i=>
   rw [hg] at h1
   cases h1
   have hi:=h.has hg
   obtain ⟨x',hx'⟩:=Option.isSome_iff_exists.1 hi
   have:=h.nodes i x' hx'
   rw [h2] at this
   obtain rfl:=Option.some.inj this
   have hok:(D.laid i (x.1.set k y,x.2)).Ok:=h.ok.laid (Nat.le_trans (Pure.ad.gR (k:=0) h.ok (by rw [Nat.add_zero];unfold ad.aE;rw [hx'];exact List.length_set)) h.ok.used)
   exact ⟨_,.inr ⟨i,x,k,y,z,rfl,hx',h3,h4,rfl,hok⟩,hs.gJ (h.laid hi _ hok)⟩
theorem KI {D2 D3:ad} (hc:Calm D) (k:nZ D D2) (h:D3=D2∨∃ i x k y z,ax D2.now n=some i∧ax D2.nodes i=some x∧x.1[k]?=some z∧y≠z∧D3=D2.laid i (x.1.set k y,x.2)∧D3.Ok):Jg D D3:=by
 have hc2:=hc.copy k
 rcases h with rfl|⟨i,x,j,y,z,h1,h2,h3,h4,rfl,h5⟩
 ·exact ⟨k.ok,hc2,k.moves,.inl k.file⟩
 ·have hf:=rA k.ok h1 (x.1.set j y,x.2)
  have hold:file D2 n=some x.1:=by unfold file;rw [h1];show some (D2.aE i)=_;unfold ad.aE;rw [h2]
  refine ⟨h5,⟨hc2.bad,hc2.room⟩,k.moves,.inr ⟨n,x.1,x.1.set j y,by rw [← k.file];exact hold,by rw [hf,if_pos rfl],Ba h3 h4,fun m hm=>by rw [hf,if_neg hm];exact k.file m⟩⟩
theorem Gi {x hp b sf:Nat} {mb:Bool} {o o2:jX} {s:St} {H G:List (List bX)} {sv dv:Value} {E B:Nat} {ps:List (Bs×Bs)} {pv:Value} (hE:kP W0) (hi:fa True o2 s D G E B) (hc:Calm D) (hEE:E≤1048576) (hH:H.length≤1048577) (hb:∀ c∈H,FC c) (hps:ps.length≤1048576) (hG:(aG G).length≤1048576)
 (hs:Sat W0 (blk x 36 [dv,sv,.int .i64 (o.memory:Int),.int .i64 (o.tables:Int),au hp]::ep hp H sf mb::fx b d o2 false none s::ag d D::aX pv ps::F) w) :
 Calls Tryz.prog 20 #[au x,au b,pv] w fun y w'=>∃ r D',y=.returned (.bool r)∧(ps=aG G→r=true)∧fa True o2 s D' G E B∧Calm D' ∧
  Sat W0 (blk x 36 [dv,sv,.int .i64 (o.memory:Int),.int .i64 (o.tables:Int),au hp]::ep hp H sf mb::fx b d o2 false none s::ag d D'::aX pv ps::F) w':=by
 obtain ⟨pa,pc,rfl,-⟩:=(hs.take (.there (.there (.there (.there .here))))).fZ
 obtain ⟨vb,vp,us,hu,hs2⟩:=(hs.take (.there .here)).lG
 obtain ⟨ba,bc,rfl,-⟩:=(hs2.take (.there .here)).aB
 have hs:Sat W0 (blk x 36 [dv,sv,.int .i64 (o.memory:Int),.int .i64 (o.tables:Int),au hp]::blk hp 49 [.slice ba H.length bc,.int .i64 (sf:Int),.bool mb,vp]::aI 1 (.slice ba H.length bc) 52 H.length us::mj us H::aX vp (aG H)::fx b d o2 false none s::ag d D::aX (.slice pa ps.length pc) ps::F) w:=hs2.to
 clear hs2
 refine enter Tryz.func20 rfl Tryz.ntmps20 Tryz.results20 rfl ?_
 refine gy ?_
 refine aK (α:=Nat×ad) (fun q=>[(0,au x),(1,au b),(2,.slice pa ps.length pc),(7,.int .i64 (q.1:Int))])
  (fun q w=>(q.1≤H.length∧fa True o2 s q.2 G E B∧Calm q.2)∧Sat W0 (blk x 36 [dv,sv,.int .i64 (o.memory:Int),.int .i64 (o.tables:Int),au hp]::blk hp 49 [.slice ba H.length bc,.int .i64 (sf:Int),.bool mb,vp]::aI 1 (.slice ba H.length bc) 52 H.length us::mj us H::aX vp (aG H)::fx b d o2 false none s::ag d q.2::aX (.slice pa ps.length pc) ps::F) w) (fun q=>H.length-q.1) (0,D) ⟨rfl,rfl,rfl,rfl,trivial⟩ ⟨⟨Nat.zero_le _,hi,hc⟩,hs⟩ ?_
 clear hs hi hc
 rintro ⟨i,D⟩ w ⟨⟨hil,hi,hc⟩,hs⟩
 dsimp only at hil hi hc hs ⊢
 by_cases hlt:i<H.length
 ·have hlt':(i:Int)<(H.length:Int):=by omega
  obtain ⟨ch,hch⟩:∃ ch,H[i]?=some ch:=⟨_,List.getElem?_eq_getElem hlt⟩
  obtain ⟨u,hub⟩:∃ u,us[i]?=some u:=⟨_,List.getElem?_eq_getElem (by rw [hu.1];exact hlt)⟩
  have hcl:=hb ch (List.mem_of_getElem? hch)
  have hcl8:=hcl.len
  obtain ⟨bq,cap,rs,hv,q1,q2,q3,h3⟩:=(hs.take (.there (.there .here))).dr (by omega)
  have hs0:=fun (_:True)=>h3
  clear hs
  obtain ⟨rfl,_,rfl⟩:=Value.slice.inj hv
  have hcell:(us++rs)[0+i*1]?=some u:=by
   rw [Nat.zero_add,Nat.mul_one,List.getElem?_append_left (List.getElem?_eq_some_iff.1 hub).1];exact hub
  have hs:=(h3.take (.there (.there (.there .here)))).yG (te us H) (db _ hub hch)
  clear h3 hs0
  have hclose:∀ {w:World} {D':ad},Sat W0 (blk bq 52 (us++rs)::blk x 36 [dv,sv,.int .i64 (o.memory:Int),.int .i64 (o.tables:Int),au hp]::blk hp 49 [.slice (some ⟨bq,0,none⟩) H.length bc,.int .i64 (sf:Int),.bool mb,vp]::mj us H::aX vp (aG H)::fx b d o2 false none s::ag d D'::aX (.slice pa ps.length pc) ps::F) w →
   Sat W0 (blk x 36 [dv,sv,.int .i64 (o.memory:Int),.int .i64 (o.tables:Int),au hp]::ep hp H sf mb::fx b d o2 false none s::ag d D'::aX (.slice pa ps.length pc) ps::F) w:=fun {w D'} h=>by
   have h1:=Sat.cT (k:=1) (len:=H.length) h q1 q2 q3 (by rw [hu.1,Nat.mul_one]) hu.2
   have h2:=Sat.iq (hp:=hp) (sf:=sf) (mb:=mb) (vb:=.slice (some ⟨bq,0,none⟩) H.length bc) (vp:=vp) hu (h1.to (a:=blk hp 49 [.slice (some ⟨bq,0,none⟩) H.length bc,.int .i64 (sf:Int),.bool mb,vp]::aI 1 (.slice (some ⟨bq,0,none⟩) H.length bc) 52 H.length us::mj us H::aX vp (aG H)::blk x 36 [dv,sv,.int .i64 (o.memory:Int),.int .i64 (o.tables:Int),au hp]::fx b d o2 false none s::ag d D'::aX (.slice pa ps.length pc) ps::F))
   exact h2.to
  obtain ⟨ua,uc,rfl,-⟩:=hs.qN
  have hs:=hs.to (a:=blk bq 52 (us++rs)::blk x 36 [dv,sv,.int .i64 (o.memory:Int),.int .i64 (o.tables:Int),au hp]::blk hp 49 [.slice (some ⟨bq,0,none⟩) H.length bc,.int .i64 (sf:Int),.bool mb,vp]::jz (.slice ua ch.length uc) ch::mj us H::aX vp (aG H)::fx b d o2 false none s::ag d D::aX (.slice pa ps.length pc) ps::F)
  refine gy ?_
  refine aK (α:=Nat×ad) (fun q=>[(0,au x),(1,au b),(2,.slice pa ps.length pc),(7,.int .i64 (i:Int)),(8,.int .i64 (q.1:Int))])
   (fun q w=>(q.1≤ch.length∧fa True o2 s q.2 G E B∧Calm q.2)∧Sat W0 (blk bq 52 (us++rs)::blk x 36 [dv,sv,.int .i64 (o.memory:Int),.int .i64 (o.tables:Int),au hp]::blk hp 49 [.slice (some ⟨bq,0,none⟩) H.length bc,.int .i64 (sf:Int),.bool mb,vp]::jz (.slice ua ch.length uc) ch::mj us H::aX vp (aG H)::fx b d o2 false none s::ag d q.2::aX (.slice pa ps.length pc) ps::F) w) (fun q=>ch.length-q.1) (0,D) ⟨rfl,rfl,rfl,rfl,rfl,trivial⟩ ⟨⟨Nat.zero_le _,hi,hc⟩,hs⟩ ?_
  clear hs hi hc
  rintro ⟨k,D⟩ w ⟨⟨hkl,hi,hc⟩,hs⟩
  dsimp only at hkl hi hc hs ⊢
  by_cases hlk:k<ch.length
  ·have hlk':(k:Int)<(ch.length:Int):=by omega
   obtain ⟨z,c,hgc,-,rfl,hseg,c0,c1,c2,hs⟩:=(hs.take (.there (.there (.there .here)))).IU hlk
   have hkc:=hcl.key c (List.mem_of_getElem? hgc)
   have hs:=hs.to (a:=blk bq 52 (us++rs)::blk x 36 [dv,sv,.int .i64 (o.memory:Int),.int .i64 (o.tables:Int),au hp]::blk hp 49 [.slice (some ⟨bq,0,none⟩) H.length bc,.int .i64 (sf:Int),.bool mb,vp]::ob true z.b (.cells z.all.toArray z.E (0,0))::jz (.slice (some ⟨z.b,z.o,none⟩) ch.length uc) ch::mj us H::aX vp (aG H)::fx b d o2 false none s::ag d D::aX (.slice pa ps.length pc) ps::F)
   obtain ⟨r,D',e1,e2,e3,e4⟩:=La hi hEE c.key
   have hc':=hc.later e2.later
   refine gy ?_
   refine ae (met (ow e1 (hs.fG (.there (.there (.there (.there (.there (.there (.there .here))))))) (.there (.there (.there (.there (.there (.there (.there .here))))))))) ?_)
   clear hs
   rintro _ w ⟨ve,rfl,hs⟩
   refine ⟨_,rfl,?_⟩
   refine gy ?_
   refine ae (met (cF hE (hs.take (.there (.there .here)))) ?_)
   clear hs
   rintro _ w ⟨rfl,hs⟩
   refine ⟨_,rfl,?_⟩
   have hs:=hs.to (a:=aX (.slice pa ps.length pc) ps::blk bq 52 (us++rs)::blk x 36 [dv,sv,.int .i64 (o.memory:Int),.int .i64 (o.tables:Int),au hp]::blk hp 49 [.slice (some ⟨bq,0,none⟩) H.length bc,.int .i64 (sf:Int),.bool mb,vp]::jz (.slice (some ⟨z.b,z.o,none⟩) ch.length uc) ch::mj us H::aX vp (aG H)::fx b d o2 false none s::ag d D'::F)
   refine gy ?_
   refine ae (met (rS hs (by omega)) ?_)
   clear hs
   rintro _ w ⟨rfl,hs⟩
   refine ⟨_,rfl,?_⟩
   have hs:=hs.to (a:=blk bq 52 (us++rs)::blk x 36 [dv,sv,.int .i64 (o.memory:Int),.int .i64 (o.tables:Int),au hp]::blk hp 49 [.slice (some ⟨bq,0,none⟩) H.length bc,.int .i64 (sf:Int),.bool mb,vp]::jz (.slice (some ⟨z.b,z.o,none⟩) ch.length uc) ch::mj us H::aX vp (aG H)::fx b d o2 false none s::ag d D'::aX (.slice pa ps.length pc) ps::F)
   rcases e4 with ⟨e,hr,hbad⟩|hr
   ·have h7:=hc.seven (.inl hbad)
    rw [hr]
    have hn7:((ir (dC (.error e:Except cy (Option Bs))):Nat):Int)=7:=Jm h7
    refine gy ?_
    exact aA (k+1,D') ⟨rfl,rfl,rfl,rfl,rfl,trivial⟩ ⟨⟨hlk,e3,hc'⟩,hs⟩ (by dsimp only;omega)
   ·have er:jc (aG G) c.key=.ok (aR (aG G) c.key):=by unfold jc;exact if_neg (by have:=List.length_pos_iff.2 hkc.2;omega)
    rw [hr,er]
    have hn0:((ir (dC (.ok (aR (aG G) c.key):Except cy (Option Bs))):Nat):Int)=0:=rfl
    have hb1:MH (.ok (aR (aG G) c.key):Except cy (Option Bs))=sQ (aR (aG G) c.key):=by cases aR (aG G) c.key<;>rfl
    have hb2:MI (.ok (aR (aG G) c.key):Except cy (Option Bs))=(aR (aG G) c.key).isSome:=by cases aR (aG G) c.key<;>rfl
    rw [hb1,hb2]
    by_cases hv:sQ (aR (aG G) c.key)=sQ (aR ps c.key)
    ·have hv':¬ (sQ (aR (aG G) c.key)≠sQ (aR ps c.key)):=fun h=>h hv
     by_cases hb3:(aR (aG G) c.key).isSome=(aR ps c.key).isSome
     ·refine gy ?_
      refine vj false rfl rfl (by rw [hb3];simp) rfl ?_
      refine gy ?_
      exact aA (k+1,D') ⟨rfl,rfl,rfl,rfl,rfl,trivial⟩ ⟨⟨hlk,e3,hc'⟩,hs⟩ (by dsimp only;omega)
     ·refine gy ?_
      refine vj true rfl rfl (by simpa using hb3) rfl ?_
      refine gy ?_
      exact ak rfl ⟨false,D',rfl,fun h=>absurd (by rw [h]) hb3,e3,hc',hclose hs.to⟩
    ·refine gy ?_
     exact ak rfl ⟨false,D',rfl,fun h=>absurd (by rw [h]) hv,e3,hc',hclose hs.to⟩
  ·have hke:k=ch.length:=by omega
   subst hke
   have hlk':¬ (ch.length:Int)<(ch.length:Int):=by omega
   have hs1:=fun (_:True)=>Sat.cT (k:=1) (len:=H.length) (hs.to (a:=blk bq 52 (us++rs)::blk x 36 [dv,sv,.int .i64 (o.memory:Int),.int .i64 (o.tables:Int),au hp]::blk hp 49 [.slice (some ⟨bq,0,none⟩) H.length bc,.int .i64 (sf:Int),.bool mb,vp]::mj us H::aX vp (aG H)::fx b d o2 false none s::ag d D::aX (.slice pa ps.length pc) ps::F)) q1 q2 q3 (by rw [hu.1,Nat.mul_one]) hu.2
   refine gy ?_
   exact aA (i+1,D) ⟨rfl,rfl,rfl,rfl,trivial⟩ ⟨⟨hlt,hi,hc⟩,(hs1 trivial).to⟩ (by dsimp only;omega)
 ·have hie:i=H.length:=by omega
  subst hie
  have hlt':¬ (H.length:Int)<(H.length:Int):=by omega
  have hfin:∀ {w:World} {D':ad},Sat W0 (blk x 36 [dv,sv,.int .i64 (o.memory:Int),.int .i64 (o.tables:Int),au hp]::blk hp 49 [.slice ba H.length bc,.int .i64 (sf:Int),.bool mb,vp]::aI 1 (.slice ba H.length bc) 52 H.length us::mj us H::aX vp (aG H)::fx b d o2 false none s::ag d D'::aX (.slice pa ps.length pc) ps::F) w →
   Sat W0 (blk x 36 [dv,sv,.int .i64 (o.memory:Int),.int .i64 (o.tables:Int),au hp]::ep hp H sf mb::fx b d o2 false none s::ag d D'::aX (.slice pa ps.length pc) ps::F) w:=fun {w D'} h1=>by
   have h2:=Sat.iq (hp:=hp) (sf:=sf) (mb:=mb) (vb:=.slice ba H.length bc) (vp:=vp) hu (h1.to (a:=blk hp 49 [.slice ba H.length bc,.int .i64 (sf:Int),.bool mb,vp]::aI 1 (.slice ba H.length bc) 52 H.length us::mj us H::aX vp (aG H)::blk x 36 [dv,sv,.int .i64 (o.memory:Int),.int .i64 (o.tables:Int),au hp]::fx b d o2 false none s::ag d D'::aX (.slice pa ps.length pc) ps::F))
   exact h2.to
  obtain ⟨r,D',e1,e2,e3,e4⟩:=yQ hi hEE
  have hc':=hc.later e2.later
  refine gy ?_
  refine ae (met (nQ e1 (hs.fG (.there (.there (.there (.there (.there .here))))) (.there (.there (.there (.there (.there .here))))))) ?_)
  clear hs
  rintro _ w ⟨qv,ve,rfl,hs⟩
  refine ⟨_,rfl,?_⟩
  refine gy ?_
  refine ae (met (cF hE (hs.take (.there (.there (.there .here))))) ?_)
  clear hs
  rintro _ w ⟨rfl,hs⟩
  refine ⟨_,rfl,?_⟩
  have hs:=hs.to (a:=wP qv r::aX (.slice pa ps.length pc) ps::blk x 36 [dv,sv,.int .i64 (o.memory:Int),.int .i64 (o.tables:Int),au hp]::blk hp 49 [.slice ba H.length bc,.int .i64 (sf:Int),.bool mb,vp]::aI 1 (.slice ba H.length bc) 52 H.length us::mj us H::aX vp (aG H)::fx b d o2 false none s::ag d D'::F)
  rcases e4 with ⟨e,hr,hbad⟩|hr
  ·have h7:=hc.seven (.inl hbad)
   rw [hr] at hs ⊢
   have hn7:((ir (dC (.error e:Except cy (List (Bs×Bs)))):Nat):Int)=7:=Jm h7
   have hq:=hs.fT (φ:=qv=.slice none 0 0) fun _ k=>k
   subst hq
   have hs:=hs.yL
   refine gy ?_
   refine ae (met (oD (by simp [MZ]) hs) ?_)
   clear hs
   rintro _ w ⟨rfl,hs⟩
   refine ⟨_,rfl,?_⟩
   refine gy ?_
   exact ak rfl ⟨true,D',rfl,fun _=>rfl,e3,hc',hfin hs.to⟩
  ·rw [hr] at hs ⊢
   have hn0:((ir (dC (.ok (aG G):Except cy (List (Bs×Bs)))):Nat):Int)=0:=rfl
   have hs:=hs.yL
   obtain ⟨qa,qc,rfl,-⟩:=hs.fZ
   refine gy ?_
   refine ae (met (oD (by show (aG G).length≤_;omega) hs) ?_)
   clear hs
   rintro _ w ⟨rfl,hs⟩
   refine ⟨_,rfl,?_⟩
   refine gy ?_
   exact ak rfl ⟨_,D',rfl,fun h=>by rw [h];exact decide_eq_true rfl,e3,hc',hfin hs.to⟩
end
section
open Go.Proofs.YtecibefflhomdaaGreatDoor.Pure
def Gj (x:Bs×Nat):Bs×Nat:=(x.1.take x.2,(x.1.take x.2).length)
def rW (D:ad):ad:=⟨D.safe,D.safe,[],D.nodes.map fun p=>(p.1,if p.1∈D.safe.map (·.2) then Gj p.2 else p.2),D.room,0,0,D.reads,D.most⟩
structure Gk (D:ad):Prop where
 ids:(D.safe.map (·.2)).Nodup
 names:(D.safe.map (·.1)).Nodup
 cut:∀ p∈D.safe,∀ x,ax D.nodes p.2=some x→x.2≤x.1.length∧x.1.length≤1048576
 few:D.safe.length≤1000
 mvs:D.moves.length≤1000000
def Eo (o:jX) (D:ad):Out St:=dE (nP D) fun s D=>if D.now.length≤1000∧(D.now.all fun p=>fO s p.1)=true then jW o s D else none
theorem Bb {o:jX} {D:ad} {r:Except cy St×ad} (h:Eo o D=some r):iy o D=some r:=by
 unfold Eo at h
 unfold iy
 cases hl:nP D with
 | none=>rw [hl] at h;cases h
 | some q=>
  obtain ⟨x,D1⟩:=q
  rw [hl] at h
  cases x with
  | error e=>exact h
  | ok s=>
   have h:(if D1.now.length≤1000∧(D1.now.all fun p=>fO s p.1)=true then jW o s D1 else none)=some r:=h
   show dE (ja s D1) _=_
   split at h
   ·rename_i hk
    have hf:(eQ D1).filter (fun n=>!fO s n)=[]:=List.filter_eq_nil_iff.2 fun n hn=>by
     have h1:n∈D1.now.map (·.1):=(mS _).mem_iff.1 hn
     obtain ⟨p,hp,rfl⟩:=List.mem_map.1 h1
     rw [List.all_eq_true.1 hk.2 p hp];simp
    have hc:ja s D1=some (.ok s,D1):=by
     unfold ja
     rw [if_pos (by rw [bG];omega),hf];rfl
    rw [hc];exact h
   ·cases h
def Oe (D:ad):Bool:=decide (D.safe.map (·.2)).Nodup&&decide (D.safe.map (·.1)).Nodup&&(D.safe.all fun p=>match ax D.nodes p.2 with|none=>true|some x=>decide (x.2≤x.1.length∧x.1.length≤1048576))&&decide (D.safe.length≤1000)&&decide (D.moves.length≤1000000)
theorem Mv {D:ad} (h:Oe D=true):Gk D:=by
 unfold Oe at h
 simp only [Bool.and_eq_true,decide_eq_true_eq,List.all_eq_true] at h
 obtain ⟨⟨⟨⟨h1,h2⟩,h3⟩,h4⟩,h5⟩:=h
 refine ⟨h1,h2,fun p hp x hx=>?_,h4,h5⟩
 have:=h3 p hp
 rw [hx] at this
 simpa using this
def mU:jX:=⟨4,2⟩
def yR:List bX:=[⟨[107],[118],false⟩]
def yS:List bX:=[⟨[108],[119],false⟩]
def vu {α:Type} (x:Out α) (k:α→ad→Bool):Bool:=match x with
 | some (.ok a,D)=>k a D
 | _=>false
theorem n8 {α:Type} {x:Out α} {k:α→ad→Bool} (h:vu x k=true):∃ a D,x=some (.ok a,D)∧k a D=true:=by
 unfold vu at h
 split at h
 ·exact ⟨_,_,rfl,h⟩
 ·cases h
def Mw:Bool:=vu (Eo mU (dp 1099511627776)) fun s1 D1=>vu (kJ mU s1 D1 yR true) fun s2 D2=>vu (kJ mU s2 D2 yS false) fun _ D3=>
 Oe D3&&vu (Eo mU (rW D3)) fun s4 D4=>decide ((cB s4).length≤1000∧s4.mem.length≤1000)&&vu (vK s4 D4 [107] aH) fun v _=>decide (v=some [118])
theorem Gl:Mw=true:=by kernel_rfl
theorem Mx:∃ s1 D1 s2 D2 s3 D3 s4 D4 D5,iy mU (dp 1099511627776)=some (.ok s1,D1)∧kJ mU s1 D1 yR true=some (.ok s2,D2)∧kJ mU s2 D2 yS false=some (.ok s3,D3)∧Gk D3 ∧
 iy mU (rW D3)=some (.ok s4,D4)∧((cB s4).length≤1000∧s4.mem.length≤1000)∧vK s4 D4 [107] aH=some (.ok (some [118]),D5):=by
 obtain ⟨s1,D1,e1,h1⟩:=n8 Gl
 obtain ⟨s2,D2,e2,h2⟩:=n8 h1
 obtain ⟨s3,D3,e3,h3⟩:=n8 h2
 obtain ⟨h4,h5⟩:=Bool.and_eq_true_iff.1 h3
 obtain ⟨s4,D4,e4,h6⟩:=n8 h5
 obtain ⟨h7,h8⟩:=Bool.and_eq_true_iff.1 h6
 obtain ⟨v,D5,e5,h9⟩:=n8 h8
 rw [of_decide_eq_true h9] at e5
 exact ⟨s1,D1,s2,D2,s3,D3,s4,D4,D5,Bb e1,e2,e3,Mv h4,Bb e4,of_decide_eq_true h7,e5⟩
end
end Go.Proofs.YtecibefflhomdaaGreatDoor
