/-
  Part 41: WALKS package levels; WALKS package levels; WALKS package plain; WALKS the statements' world; PLAIN LAWS the statements' world beside the document's; WALKS the statements' world; WALKS the statements' world.
-/
import Derived.Test.YtecibefflhomdaaGreatDoorY37
import Derived.Test.YtecibefflhomdaaGreatDoorY40
import Derived.Laws.StructEq
set_option maxHeartbeats 8000000
set_option maxRecDepth 100000
set_option linter.all false
namespace Go.Proofs.YtecibefflhomdaaGreatDoor
open Go
section
open Go.Proofs.YtecibefflhomdaaGreatDoor.Pure (ad aA cx cQ)
attribute [local irreducible] IntKind.wrap
variable {W0 w:World} {F:List ah} {b d:Nat} {D D':ad} {K:SK} {z:SZ} {s:St}
theorem Dc {x:Except cy St} (h:j6 K.o s D=some (x,D')) (hW:jB W0) (hs:Sat W0 (ni b K s::ag K.d D::F) w) :
 Calls Tryz.prog 49 #[au b] w fun y w'=>∃ ve,y=.returned ve∧Sat W0 (Bv b K x::ag K.d D'::ax ve (dk x)::F) w':=by
 unfold j6 at h
 refine enter Tryz.func49 rfl Tryz.ntmps49 Tryz.results49 rfl ?_
 obtain ⟨hl,z,hs⟩:=hs.gQ
 refine gx ?_
 refine ae (met (ug (hs.take (.there (.there .here)))) ?_)
 clear hs
 rintro _ w ⟨rfl,hs⟩
 refine ⟨_,rfl,?_⟩
 by_cases hm:0<s.mem.length
 ·rw [if_pos hm] at h
  have hm':(s.mem.length:Int) > 0:=by omega
  have hs:=Sat.bP (z:=z) hl (hs.to (a:=blk b 133 (aj K z s)::dQ K.d z s.levels::aR z.m s.mem::aO bB z.sn (aC s.snaps)::ag K.d D::F))
  refine gx ?_
  refine ae (met (nQ h hW hs) ?_)
  clear hs
  rintro _ w ⟨ve,rfl,hs⟩
  refine ⟨_,rfl,gx ?_⟩
  exact ak rfl ⟨_,rfl,hs⟩
 ·rw [if_neg hm] at h
  have hm':¬ (s.mem.length:Int) > 0:=by omega
  refine gx ?_
  cases hcm:gG s D true with
  | none=>rw [hcm] at h;cases h
  | some r=>
   obtain ⟨xc,D1⟩:=r
   rw [hcm] at h
   refine ae (met (uK hcm hl hW (hs.to (a:=blk b 133 (aj K z s)::dQ K.d z s.levels::ag K.d D::aR z.m s.mem::aO bB z.sn (aC s.snaps)::F))) ?_)
   clear hs hcm
   rintro _ w ⟨ve,s',rfl,hs',⟨nu,lo,hs2⟩,hs⟩
   refine ⟨_,rfl,?_⟩
   have hl3:s'.levels.length=4:=by rw [hs2];exact hl
   have hcl:Sat W0 (ni b K s'::ag K.d D1::ax ve (dk xc)::F) w:=by
    refine Sat.bP (z:=z) hl3 ?_
    have e1:s'.levels=s.levels:=by rw [hs2]
    have e2:s'.mem=s.mem:=by rw [hs2]
    have e3:s'.snaps=s.snaps:=by rw [hs2]
    rw [e1,e2,e3]
    exact hs.to
   clear hs
   cases xc with
   | error e=>
    simp only [dS,Option.some.injEq,Prod.mk.injEq] at h
    obtain ⟨rfl,rfl⟩:=h
    obtain ⟨t,u,rfl⟩:=(hcl.take (.there (.there .here))).aW
    refine gx ?_
    refine ak rfl ⟨_,rfl,?_⟩
    exact Sat.jW (e:=e) hcl
   | ok s3=>
    obtain rfl:=hs' s3 rfl
    simp only [dS] at h
    have hve:=(hcl.take (.there (.there .here))).cF
    subst hve
    refine gx ?_
    refine ae (met (sC h hW hcl) ?_)
    clear hcl
    rintro _ w ⟨ve,rfl,hs⟩
    refine ⟨_,rfl,gx ?_⟩
    exact ak rfl ⟨_,rfl,hs.to⟩
def N9 (o:ji):Nat→St→ad→Out St
 | 0,_,D=>j9 o D
 | 1,s,D=>dS (jk s D) fun s D=>j6 o s D
 | 2,s,D=>j6 o s D
 | _,s,D=>some (.ok s,D)
theorem Jg {o:ji} {i:Nat} {s:St} {D D':ad} {x:Except cy St} (h:N9 o i s D=some (x,D')) (hi:i<3) :
 ∃ y D1,(match i with|0=>oV D|1=>jk s D|_=>j6 o s D)=some (y,D1)∧((∃ e,y=.error e∧x=.error e∧D'=D1)∨∃ s1,y=.ok s1∧N9 o (i+1) s1 D1=some (x,D')):=by
 have key:∀ (a:Out St) (k:St→ad→Out St),dS a k=some (x,D')→∃ y D1,a=some (y,D1)∧((∃ e,y=.error e∧x=.error e∧D'=D1)∨∃ s1,y=.ok s1∧k s1 D1=some (x,D')):=by
  intro a k h
  cases a with
  | none=>cases h
  | some r=>
   obtain ⟨y,D1⟩:=r
   cases y with
   | error e=>simp only [dS,Option.some.injEq,Prod.mk.injEq] at h;exact ⟨_,_,rfl,.inl ⟨e,rfl,h.1.symm,h.2.symm⟩⟩
   | ok s1=>exact ⟨_,_,rfl,.inr ⟨s1,rfl,h⟩⟩
 match i,hi with
 | 0,_=>exact key _ _ h
 | 1,_=>exact key _ _ h
 | 2,_=>
  refine ⟨x,D',h,?_⟩
  cases x with
  | error e=>exact .inl ⟨e,rfl,rfl,rfl⟩
  | ok s1=>exact .inr ⟨s1,rfl,rfl⟩
def EL (d:Nat) (o:ji) (v:Value):Except cy St→ah
 | .ok s=>fun h=>∃ b,v=au b∧dh b d o false none s h
 | .error _=>fun _=>v=.pointer none
theorem mV {o:ji} {x:Except cy St} (h1:1≤o.memory∧o.memory≤32) (h2:2≤o.tables∧o.tables≤6) (h:j9 o D=some (x,D')) (hW:jB W0) (hE:kY W0) (hs:Sat W0 (ag d D::F) w) :
 Calls Tryz.prog 18 #[au d,.agg #[.int .i64 (o.memory:Int),.int .i64 (o.tables:Int)]] w fun y w'=>∃ pv ve,y=.returned (.tuple #[pv,ve])∧Sat W0 (EL d o pv x::ag d D'::ax ve (dk x)::F) w':=by
 refine enter Tryz.func18 rfl Tryz.ntmps18 Tryz.results18 rfl ?_
 have g1:¬ ((o.memory:Int)<1):=by omega
 have g2:¬ ((o.memory:Int) > 32):=by omega
 have g3:¬ ((o.tables:Int)<2):=by omega
 have g4:¬ ((o.tables:Int) > 6):=by omega
 refine gx ?_
 refine cE hs ?_
 clear hs
 intro w b3 hs
 refine gx ?_
 refine bA [.slice none 0 0] ?_
 refine cE hs ?_
 clear hs
 intro w m hs
 refine gx ?_
 refine kC hs rfl ?_
 clear hs
 intro w sn hs
 have hs:=hs.tK bB
 refine gx ?_
 refine bA (aj (KS d o false .nilIface 0) ⟨m,.slice none 0 0,.slice none 0 0,.slice none 0 0,.slice none 0 0,sn⟩ oU) ?_
 refine cE hs ?_
 clear hs
 intro w b hs
 refine gx ?_
 refine gN [.func (.func 47) #[au b] #[],.func (.func 48) #[au b] #[],.func (.func 49) #[au b] #[]] hs ?_
 clear hs
 intro w bf hs
 have h0:Sat W0 (aR m []::dQ d ⟨m,.slice none 0 0,.slice none 0 0,.slice none 0 0,.slice none 0 0,sn⟩ [[],[],[],[]]::blk bf 107 [.func (.func 47) #[au b] #[],.func (.func 48) #[au b] #[],.func (.func 49) #[au b] #[]]::blk b 133 (aj (KS d o false .nilIface 0) ⟨m,.slice none 0 0,.slice none 0 0,.slice none 0 0,.slice none 0 0,sn⟩ oU)::aO bB sn []::ag d D::F) w:=by
  have h2:=Sat.wP (d:=d) (Sat.wP (d:=d) (Sat.wP (d:=d) (Sat.wP (d:=d) hs)))
  have h3:=h2.Cu (z:=⟨m,.slice none 0 0,.slice none 0 0,.slice none 0 0,.slice none 0 0,sn⟩) (t0:=[]) (t1:=[]) (t2:=[]) (t3:=[])
  have h4:=Sat.cP (k:=4) (E:=256) h3
  have h5:=Sat.jd (m:=m) (v:=.slice none 0 0) (l:=[]) (h4.to (a:=blk m 120 [.slice none 0 0]::jc (.slice none 0 0) []::dQ d ⟨m,.slice none 0 0,.slice none 0 0,.slice none 0 0,.slice none 0 0,sn⟩ [[],[],[],[]]::blk bf 107 [.func (.func 47) #[au b] #[],.func (.func 48) #[au b] #[],.func (.func 49) #[au b] #[]]::blk b 133 (aj (KS d o false .nilIface 0) ⟨m,.slice none 0 0,.slice none 0 0,.slice none 0 0,.slice none 0 0,sn⟩ oU)::aO bB sn []::ag d D::F))
  exact h5
 clear hs
 have hs:=Sat.bP (K:=KS d o false .nilIface 0) (z:=⟨m,.slice none 0 0,.slice none 0 0,.slice none 0 0,.slice none 0 0,sn⟩) (s:=oU) (b:=b) rfl (h0.to (a:=blk b 133 (aj (KS d o false .nilIface 0) ⟨m,.slice none 0 0,.slice none 0 0,.slice none 0 0,.slice none 0 0,sn⟩ oU)::dQ d ⟨m,.slice none 0 0,.slice none 0 0,.slice none 0 0,.slice none 0 0,sn⟩ [[],[],[],[]]::aR m []::aO bB sn []::ag d D::blk bf 107 [.func (.func 47) #[au b] #[],.func (.func 48) #[au b] #[],.func (.func 49) #[au b] #[]]::F))
 clear h0
 refine gx ?_
 refine aL (α:=Nat×St×ad) (fun q=>[(6,au b),(42,.slice (some ⟨bf,0,none⟩) 3 3),(43,.int .i64 3),(44,.int .i64 (q.1:Int))])
  (fun q w=>(q.1≤3∧(q.1=0→q.2.1=oU)∧N9 o q.1 q.2.1 q.2.2=some (x,D'))∧Sat W0 (ni b (KS d o false .nilIface 0) q.2.1::ag d q.2.2::blk bf 107 [.func (.func 47) #[au b] #[],.func (.func 48) #[au b] #[],.func (.func 49) #[au b] #[]]::F) w) (fun q=>3-q.1) (0,oU,D) ⟨rfl,rfl,rfl,rfl,trivial⟩ ⟨⟨Nat.zero_le _,fun _=>rfl,h⟩,hs⟩ ?_
 clear hs h
 rintro ⟨i,s,D1⟩ w ⟨⟨hi,hi0,h⟩,hs⟩
 dsimp only at hi hi0 h hs ⊢
 by_cases hlt:i<3
 ·have hint:((i:Int)<3):=by omega
  obtain ⟨y,D2,hy,hr⟩:=Jg h hlt
  have hend:∀ (ve:Value) (w:World),Sat W0 (Bv b (KS d o false .nilIface 0) y::ag d D2::ax ve (dk y)::blk bf 107 [.func (.func 47) #[au b] #[],.func (.func 48) #[au b] #[],.func (.func 49) #[au b] #[]]::F) w →
   (∃ e,y=.error e∧Sat W0 (EL d o (.pointer none) x::ag d D'::ax ve (dk x)::F) w)∨∃ s1,y=.ok s1∧ve=.nilIface∧N9 o (i+1) s1 D2=some (x,D')∧Sat W0 (ni b (KS d o false .nilIface 0) s1::ag d D2::blk bf 107 [.func (.func 47) #[au b] #[],.func (.func 48) #[au b] #[],.func (.func 49) #[au b] #[]]::F) w:=by
   intro ve w hs
   rcases hr with ⟨e,rfl,rfl,rfl⟩|⟨s1,rfl,hr⟩
   ·refine .inl ⟨e,rfl,?_⟩
    have h2:=hs.to (a:=ag d D'::ax ve (dk (.error e:Except cy St))::F)
    exact h2.imp fun hp r=>⟨fun _=>none,hp,fun _ _ _ hx=>(by cases hx),fun _ _ hx=>(by cases hx),Hp.le_refl _,rfl,r⟩
   ·have hve:=(hs.take (.there (.there .here))).cF
    exact .inr ⟨s1,rfl,hve,hr,hs.to⟩
  obtain ⟨f,hf1,hf2,hcall⟩:∃ f,([.func (.func 47) #[au b] #[],.func (.func 48) #[au b] #[],.func (.func 49) #[au b] #[]]:List Value)[0+i*1]?=some (.func (.func f) #[au b] #[])∧lk tu f=some () ∧
   Calls Tryz.prog f #[au b] w fun z w'=>∃ ve,z=.returned ve∧Sat W0 (Bv b (KS d o false .nilIface 0) y::ag d D2::ax ve (dk y)::blk bf 107 [.func (.func 47) #[au b] #[],.func (.func 48) #[au b] #[],.func (.func 49) #[au b] #[]]::F) w':=by
   match i,hlt,hi0,hy with
   | 0,_,hi0,hy=>
    have:=hi0 rfl
    subst this
    exact ⟨47,rfl,rfl,GC (K:=KS d o false .nilIface 0) hy hE hs⟩
   | 1,_,_,hy=>exact ⟨48,rfl,rfl,Db (K:=KS d o false .nilIface 0) hy hs⟩
   | 2,_,_,hy=>exact ⟨49,rfl,rfl,Dc (K:=KS d o false .nilIface 0) hy hW hs⟩
  refine gx ?_
  refine cL (i:=i) rfl rfl rfl rfl rfl hlt rfl ?_
  refine eC hs rfl rfl (.there (.there .here)) hf1 rfl ?_
  refine gx ?_
  refine il rfl hf2 rfl rfl (met hcall ?_)
  clear hs hcall
  rintro _ w ⟨ve,rfl,hs⟩
  refine ⟨_,rfl,?_⟩
  cases y with
  | error e=>
   obtain ⟨t,u,rfl⟩:=(hs.take (.there (.there .here))).aW
   rcases hend _ w hs with ⟨e',_,hs⟩|⟨s1,h1,_⟩
   ·refine gx ?_
    exact ak rfl ⟨_,_,rfl,hs⟩
   ·cases h1
  | ok s2=>
   rcases hend _ w hs with ⟨e',h1,_⟩|⟨s1,h1,rfl,h3,h4⟩
   ·cases h1
   ·cases h1
    clear hs
    refine gx ?_
    exact aB (i+1,s2,D2) ⟨rfl,rfl,rfl,rfl,trivial⟩ ⟨⟨hlt,fun hh=>(by omega),h3⟩,h4⟩ (by show 3-(i+1)<3-i;omega)
 ·have hie:i=3:=by omega
  subst hie
  simp only [N9,Option.some.injEq,Prod.mk.injEq] at h
  obtain ⟨rfl,rfl⟩:=h
  refine gx ?_
  refine ak rfl ⟨_,_,rfl,?_⟩
  have hs:=Sat.ei hs
  have hs:=Sat.ei hs
  have hs:=Sat.yC (o:=o) (cl:=false) (be:=none) (br:=.nilIface) (hs.to (a:=ni b (KS d o false .nilIface 0) s::ax .nilIface none::ag d D1::ax .nilIface none::F))
  exact hs.head fun _ k=>⟨b,rfl,k⟩
end
section
open Go.Proofs.YtecibefflhomdaaGreatDoor.Pure (ad)
attribute [local irreducible] IntKind.wrap
variable {W0 w:World} {F:List ah} {v:Value} {b d:Nat} {o:ji} {cl:Bool} {be:Option cy} {s:St} {D D':ad}
theorem Dd {a3:Nat} (hs:Sat W0 (blk a3 31 [au b]::dh b d o cl be s::F) w) :
 Calls Tryz.prog 216 #[au a3] w fun y w'=>y=.returned (.bool (jl cl be).isNone)∧Sat W0 (blk a3 31 [au b]::dh b d o cl be s::F) w':=by
 obtain ⟨hl,br,z,hs⟩:=(hs.take (.there .here)).nT
 refine nK Tryz.func216 rfl Tryz.ntmps216 Tryz.results216 rfl ?_
 refine gx ?_
 refine lq hs ?_
 clear hs
 intro w hs
 have hs:Sat W0 (blk b 133 (aj (KS d o cl br 1) z s)::ax br be::dQ d z s.levels::aR z.m s.mem::aO bB z.sn (aC s.snaps)::blk a3 31 [au b]::F) w:=hs
 refine gx ?_
 refine jV rfl ?_
 refine gx ?_
 refine ae (met (gP (K:=KS d o cl br 1) (be:=be) hs) ?_)
 clear hs
 rintro _ w ⟨ve,rfl,hs⟩
 refine ⟨_,rfl,?_⟩
 have hb:vM (KS d o cl br 1) be=jl cl be:=rfl
 rw [hb] at hs
 cases hbx:jl cl be with
 | some e=>
  rw [hbx] at hs
  obtain ⟨t,u,rfl⟩:=hs.aW
  refine gx ?_
  refine ft (.inl rfl) hs ?_
  clear hs
  intro w hs
  have hs:=Sat.fP (z:=z) hl (hs.to (a:=blk b 133 (aj (KS d o cl br 0) z s)::dQ d z s.levels::aR z.m s.mem::aO bB z.sn (aC s.snaps)::ax br be::blk a3 31 [au b]::F))
  exact ⟨rfl,hs.to⟩
 | none=>
  rw [hbx] at hs
  have hve:=hs.cF
  subst hve
  refine gx ?_
  refine ft (.inl rfl) hs ?_
  clear hs
  intro w hs
  have hs:=Sat.fP (z:=z) hl (hs.to (a:=blk b 133 (aj (KS d o cl br 0) z s)::dQ d z s.levels::aR z.m s.mem::aO bB z.sn (aC s.snaps)::ax br be::blk a3 31 [au b]::F))
  exact ⟨rfl,hs.to⟩
def KX (b:Nat) (v:Value) (x:Except cy (List (Bs×Bs))):ah:=fun h=>∃ a3 a7 a8 a9 pv ve,v=.func (.func 217) #[] #[au a7,au a8,au a9]∧cV [blk a7 74 [pv],blk a8 41 [ve],blk a9 24 [.func (.func 216) #[] #[au a3]],blk a3 31 [au b],qC pv x,ax ve (dk x)] h
theorem Jh {lo hi:Bs} {x:Except cy (List (Bs×Bs))} (h:nU cl be s D lo hi 0=some (x,D')) (hs:Sat W0 (dh b d o cl be s::ag d D::F) w) :
 Calls Tryz.prog 185 #[au b,str lo,str hi] w fun y w'=>∃ av,y=.returned av∧Sat W0 (KX b av x::dh b d o cl be s::ag d D'::F) w':=by
 refine enter Tryz.func185 rfl Tryz.ntmps185 Tryz.results185 rfl ?_
 refine gx ?_
 refine cE hs ?_
 clear hs
 intro w a3 hs
 refine gx ?_
 refine ae (met (ly h (F:=blk a3 31 [au b]::F) hs.to) ?_)
 clear hs
 rintro _ w ⟨pv,ve,rfl,hs⟩
 refine ⟨_,rfl,?_⟩
 refine gx ?_
 refine aS hs ?_
 clear hs
 intro w a7 hs
 refine gx ?_
 refine aS hs ?_
 clear hs
 intro w a8 hs
 have h1:dD pv=true:=by
  have:=(hs.take (.there (.there .here))).fQ (φ:=dD pv=true) fun _ k=>by
   cases x with
   | ok l=>
    obtain ⟨_,_,k|⟨_,_,_,rfl,_⟩⟩:=k
    ·obtain ⟨rfl,_⟩:=k;rfl
    ·rfl
   | error e=>have k:pv=.slice none 0 0:=k;subst k;rfl
  exact this
 have h2:dD ve=true:=Sat.C5 (hs.take (.there (.there (.there (.there (.there .here))))))
 refine gx ?_
 refine bD hs (h1:=h1) ?_
 clear hs
 intro w hs
 refine gx ?_
 refine bD hs (h1:=h2) ?_
 clear hs
 intro w hs
 refine gx ?_
 refine aS hs ?_
 clear hs
 intro w a9 hs
 refine gx ?_
 refine bD hs ?_
 clear hs
 intro w hs
 refine gx ?_
 refine ak rfl ⟨_,rfl,?_⟩
 exact Sat.close (B:=[blk a7 74 [pv],blk a8 41 [ve],blk a9 24 [.func (.func 216) #[] #[au a3]],blk a3 31 [au b],qC pv x,ax ve (dk x)]) hs.to fun hp k=>⟨a3,a7,a8,a9,pv,ve,rfl,k⟩
def MW {σ:Type} (body:σ→Bs×Bs→σ×Bool):List (Bs×Bs)→σ→σ
 | [],s=>s
 | p::r,s=>if (body s p).2=true then MW body r (body s p).1 else (body s p).1
def yQ {σ:Type} (body:σ→Bs×Bs→σ×Bool) (cl:Bool) (be:Option cy) (ps:List (Bs×Bs)) (s:σ):σ:=if jl cl be=none then MW body ps s else s
theorem Sat.KY {x:Except cy (List (Bs×Bs))} (h:Sat W0 (KX b v x::F) w):∃ a3 a7 a8 a9 pv ve,v=.func (.func 217) #[] #[au a7,au a8,au a9]∧Sat W0 (blk a7 74 [pv]::blk a8 41 [ve]::blk a9 24 [.func (.func 216) #[] #[au a3]]::blk a3 31 [au b]::qC pv x::ax ve (dk x)::F) w:=by
 obtain ⟨⟨a3,a7,a8,a9,pv,ve⟩,hv,hs⟩:=h.eI (φ:=fun z:Nat×Nat×Nat×Nat×Value×Value=>v=.func (.func 217) #[] #[au z.2.1,au z.2.2.1,au z.2.2.2.1])
  (B:=fun z=>[blk z.2.1 74 [z.2.2.2.2.1],blk z.2.2.1 41 [z.2.2.2.2.2],blk z.2.2.2.1 24 [.func (.func 216) #[] #[au z.1]],blk z.1 31 [au b],qC z.2.2.2.2.1 x,ax z.2.2.2.2.2 (dk x)]) fun hp ⟨a3,a7,a8,a9,pv,ve,hv,k⟩=>⟨⟨a3,a7,a8,a9,pv,ve⟩,hv,k⟩
 exact ⟨a3,a7,a8,a9,pv,ve,hv,hs⟩
theorem Ji {ps:List (Bs×Bs)} {i:Nat} {p:Bs×Bs} (h:ps[i]?=some p):(eX ps).flatten[i*2]?=some (str p.1)∧(eX ps).flatten[i*2+1]?=some (str p.2):=by
 have hk:∀ r∈eX ps,r.length=2:=fun r hr=>by obtain ⟨x,_,rfl⟩:=List.mem_map.1 hr;rfl
 have h1:=ja hk (r:=gR p) (i:=i) (by unfold eX;rw [List.getElem?_map,h];rfl)
 exact ⟨h1.1,h1.2.1⟩
theorem MX {Q:Exit→Act→World→Prop} {n:Nat} {ds:Md} {e:Env} {g:Operand} {pt1 pt2:Tmp} {asg bd:Code} {σ:Type} {body:σ→Bs×Bs→σ×Bool} {C:σ→List ah} {id:Nat} {s0:σ} {ps:List (Bs×Bs)} {x:Except cy (List (Bs×Bs))} {av:Value}
 (Iv:Nat→σ→Prop) (hI0:Iv 0 s0) (hI:∀ i s p,Iv i s→Iv (i+1) (body s p).1) (hps:JM x=ps) (hr:ds.round=none) (hp1:Nat.blt pt1 n=true) (hp2:Nat.blt pt2 n=true) (hg:ev e g=some av)
 (hs:Sat W0 (KX b av x::dh b d o cl be s::(C s0++F)) w)
 (kb:∀ i s p L rc G w,Iv i s→i<ps.length→rc.state=.ready→Sat W0 (ob false L (.loop rc)::(C s++G)) w →
   WC asg (FE L bd fun y w'=>((body s p).2=true∧y=.returned (.bool true)∧Sat W0 (ob false L (.loop { rc with state:=.ready,pending:=none })::(C (body s p).1++G)) w') ∨
    ((body s p).2=false∧y=.returned (.bool false)∧Sat W0 (ob false L (.loop { rc with state:=.done,pending:=some (.exit id) })::(C (body s p).1++G)) w')) n ⟨some L,[]⟩ ((pt2,str p.2)::(pt1,str p.1)::e) w)
 (ke:∀ x Dk w,x=.normal∨x=.exit id→Sat W0 (ob false Dk (.deferred (some []))::dh b d o cl be s::(C (yQ body cl be ps s0)++F)) w→WQ Q x n ⟨none,jf Dk::ds.ds⟩ e w) :
 WC (.rangeFunc g #[pt1,pt2] asg bd) Q n ds e w:=by
 obtain ⟨a3,a7,a8,a9,pv,ve,rfl,h2⟩:=hs.KY
 clear hs
 have hs:=h2
 clear h2
 have hve:ps≠[]→ve=.nilIface:=by
  intro hne
  cases x with
  | ok l=>exact (hs.take (.there (.there (.there (.there (.there .here)))))).cF
  | error e=>exact absurd hps.symm hne
 have hs:Sat W0 (blk a7 74 [pv]::blk a8 41 [ve]::blk a9 24 [.func (.func 216) #[] #[au a3]]::blk a3 31 [au b]::iD pv ps::ax ve (dk x)::dh b d o cl be s::(C s0++F)) w:=by
  cases x with
  | ok l=>have hps:l=ps:=hps;subst hps;exact hs
  | error e=>
   have hps:[]=ps:=hps
   subst hps
   have hp:=(hs.take (.there (.there (.there (.there .here))))).fQ (φ:=pv=.slice none 0 0) fun _ k=>k
   subst hp
   have h2:=Sat.cP (k:=2) (E:=147) hs
   exact h2.to
 clear hps
 refine zO (uu:=()) hr hs hg rfl fun fn tm L Dk w1 hsz hget hs=>?_
 refine enter (args:=[.func (.yield L) #[] #[],au a7,au a8,au a9]) Tryz.func217 rfl Tryz.ntmps217 Tryz.results217 rfl ?_
 generalize hrc:({ state:=.ready,pending:=none,fn:=fn,tmps:=tm,params:=#[pt1,pt2],assign:=asg,body:=bd,defers:=Dk }:Loop)=rc at *
 obtain ⟨al,cap,rfl,hc1,hc2⟩:=(hs.take (.there (.there (.there (.there (.there (.there .here))))))).ay
 have hpl:ps.length≤9223372036854775807:=by simp only [maxLen] at hc2;omega
 generalize hfin:yQ body cl be ps s0=s1 at ke
 refine gx ?_
 refine aL (α:=Nat×σ) (fun z=>[(0,.func (.yield L) #[] #[]),(1,au a7),(2,au a8),(3,au a9),(7,.slice al ps.length cap),(8,.int .i64 (ps.length:Int)),(9,.int .i64 (z.1:Int))])
  (fun z w=>(Iv z.1 z.2∧z.1≤ps.length∧yQ body cl be (ps.drop z.1) z.2=s1∧(jl cl be=none∨z.1=0))∧Sat W0 (ob false L (.loop rc)::ob false Dk (.deferred (some []))::blk a7 74 [.slice al ps.length cap]::blk a8 41 [ve]::blk a9 24 [.func (.func 216) #[] #[au a3]]::blk a3 31 [au b]::iD (.slice al ps.length cap) ps::dh b d o cl be s::(C z.2++F)) w) (fun z=>ps.length-z.1) (0,s0) ⟨rfl,rfl,rfl,rfl,rfl,rfl,rfl,trivial⟩ ⟨⟨hI0,Nat.zero_le _,hfin,.inr rfl⟩,hs.to⟩ ?_
 clear hs hfin
 rintro ⟨i,s'⟩ w ⟨⟨hIv,hi,hfin,hbg⟩,hs⟩
 dsimp only at hIv hi hfin hbg hs ⊢
 have hret:∀ (s2:σ) (rc2:Loop) (w:World),s2=s1→((rc2=rc)∨rc2={ rc with state:=.done,pending:=some (.exit id) })→Sat W0 (ob false L (.loop rc2)::ob false Dk (.deferred (some []))::dh b d o cl be s::(C s2++F)) w →
  ∃ v,Ending.returned (.tuple #[])=.returned v∧∃ (rc:Loop) (l3:List ah),Sat W0 (ob false L (.loop rc)::l3) w∧(rc.state==.busy)=false ∧
   ((rc.pending=none∧∀ w4,Sat W0 (ob false L (.loop { rc with state:=.exhausted })::l3) w4→WQ Q .normal n ⟨none,jf Dk::ds.ds⟩ e w4) ∨
    ∃ id,rc.pending=some (.exit id)∧∀ w4,Sat W0 (ob false L (.loop { rc with state:=.exhausted })::l3) w4→WQ Q (.exit id) n ⟨none,jf Dk::ds.ds⟩ e w4):=by
  intro s2 rc2 w he hrc2 h7
  subst he
  rcases hrc2 with h8|h8
  ·exact ⟨_,rfl,rc2,_,h7,by rw [h8,← hrc];rfl,.inl ⟨by rw [h8,← hrc],fun w4 h4=>ke .normal Dk w4 (.inl rfl) h4.drop⟩⟩
  ·exact ⟨_,rfl,rc2,_,h7,by rw [h8];rfl,.inr ⟨id,by rw [h8],fun w4 h4=>ke (.exit id) Dk w4 (.inr rfl) h4.drop⟩⟩
 by_cases hlt:i<ps.length
 ·have hg:ps[i]?=some ps[i]:=List.getElem?_eq_getElem hlt
  have hdr:ps.drop i=ps[i]::ps.drop (i+1):=List.drop_eq_getElem_cons hlt
  generalize ps[i]=p at hg hdr
  obtain ⟨bq,cap2,rs,hv,q1,q2,q3,hs2⟩:=(hs.take (.there (.there (.there (.there (.there (.there .here))))))).dV (by omega)
  obtain ⟨rfl,_,rfl⟩:=Value.slice.inj hv
  obtain ⟨e1,e2⟩:=Ji hg
  have hseg:gh ((eX ps).flatten++rs) (0+i*2) (gR p):=by
   have hl:=List.getElem?_eq_some_iff.1 e2
   refine ⟨?_,?_,trivial⟩
   ·rw [Nat.zero_add,List.getElem?_append_left (by have:=hl.1;omega)];exact e1
   ·rw [Nat.zero_add,List.getElem?_append_left hl.1];exact e2
  have hve:=hve (fun hn=>by rw [hn] at hlt;simp at hlt)
  subst hve
  refine gx ?_
  refine cL (i:=i) rfl rfl rfl rfl rfl hlt rfl ?_
  refine dz (gR p) hs2 rfl rfl rfl .here hseg rfl ?_
  clear hs2
  refine gx ?_
  refine aS hs ?_
  clear hs
  intro w b6 hs
  refine gx ?_
  refine cZ (vs:=gR p) hs ?_
  clear hs
  intro w hs
  refine gz ?_
  refine db rfl ?_
  refine dU ?_
  refine ui rfl ?_
  refine Kt ?_
  refine yj ?_
  refine sa rfl ?_
  refine il rfl rfl rfl rfl (met (Dd (hs.to (a:=blk a3 31 [au b]::dh b d o cl be s::blk b6 147 (gR p)::ob false L (.loop rc)::ob false Dk (.deferred (some []))::blk a7 74 [.slice (some ⟨bq,0,none⟩) ps.length cap]::blk a8 41 [.nilIface]::blk a9 24 [.func (.func 216) #[] #[au a3]]::iD (.slice (some ⟨bq,0,none⟩) ps.length cap) ps::(C s'++F)))) ?_)
  clear hs
  rintro _ w ⟨rfl,hs⟩
  refine ⟨_,rfl,?_⟩
  by_cases hbx:jl cl be=none
  ·rw [hbx]
   dsimp only [Option.isNone]
   unfold yQ at hfin
   rw [if_pos hbx,hdr] at hfin
   unfold MW at hfin
   refine Kt ?_
   refine HN rfl ?_
   have hs:=Sat.oz (X:=[blk b6 147 (gR p),ob false Dk (.deferred (some [])),blk a7 74 [.slice (some ⟨bq,0,none⟩) ps.length cap],blk a8 41 [.nilIface],blk a9 24 [.func (.func 216) #[] #[au a3]],blk a3 31 [au b],iD (.slice (some ⟨bq,0,none⟩) ps.length cap) ps,dh b d o cl be s]) (Y:=ob false L (.loop rc)::C s') (F:=F) (hs.to (a:=blk b6 147 (gR p)::ob false Dk (.deferred (some []))::blk a7 74 [.slice (some ⟨bq,0,none⟩) ps.length cap]::blk a8 41 [.nilIface]::blk a9 24 [.func (.func 216) #[] #[au a3]]::blk a3 31 [au b]::iD (.slice (some ⟨bq,0,none⟩) ps.length cap) ps::dh b d o cl be s::ob false L (.loop rc)::(C s'++F)))
   have hst:rc.state=.ready:=by rw [← hrc]
   have hk:=kb i s' p L rc _ w hIv hlt hst hs
   have hIn:=hI i s' p hIv
   refine wE hs rfl rfl (by rw [← hrc];rfl) rfl ?_
   have hset:∀ (tm:Array Value) (e:Env) (pt:Nat) (u:Value),tm.size=n→pt<n→(∀ t v,lk e t=some v→tm[t]?=some v)→∀ t v,lk ((pt,u)::e) t=some v→(tm.setIfInBounds pt u)[t]?=some v:=by
    intro tm e pt u hsz hd' hget t v hv
    unfold lk at hv
    cases hk:Nat.beq pt t with
    | true=>
     rw [hk] at hv
     simp only [cond_true,Option.some.injEq] at hv
     subst hv
     have:=Nat.eq_of_beq_eq_true hk
     subst this
     simp [hsz,hd']
    | false=>
     rw [hk] at hv
     have hne:pt≠t:=Nat.ne_of_beq_eq_false hk
     rw [Array.getElem?_setIfInBounds_ne hne]
     exact hget t v hv
   have hround:=zN (n:=n) (e:=(pt2,str p.2)::(pt1,str p.1)::e) (tm:=(tm.setIfInBounds pt1 (str p.1)).setIfInBounds pt2 (str p.2)) (fn:=fn) (by simp [hsz]) (hset _ _ pt2 (str p.2) (by simp [hsz]) (by simpa [Nat.blt_eq] using hp2) (hset tm e pt1 (str p.1) hsz (by simpa [Nat.blt_eq] using hp1) hget)) hk
   have efold:(rc.params.zip ([str p.1,str p.2]:List Value).toArray).foldl (fun tmps (t,a)=>tmps.setIfInBounds t a) rc.tmps=(tm.setIfInBounds pt1 (str p.1)).setIfInBounds pt2 (str p.2):=by rw [← hrc];simp
   have e1:rc.fn=fn:=by rw [← hrc]
   have e2:rc.assign=asg:=by rw [← hrc]
   have e3:rc.body=bd:=by rw [← hrc]
   have e4:({ rc with state:=.ready,pending:=none }:Loop)=rc:=by rw [← hrc]
   show RoundIn Fence.wide 0 Tryz.prog L rc.fn ((rc.params.zip ([str p.1,str p.2]:List Value).toArray).foldl (fun tmps (t,a)=>tmps.setIfInBounds t a) rc.tmps) rc.assign rc.body w _
   rw [efold,e1,e2,e3]
   refine hround.mono ?_
   generalize hbd:body s' p=bp at hfin hIn
   obtain ⟨s2,c⟩:=bp
   rintro y w' (⟨hc,rfl,hs⟩|⟨hc,rfl,hs⟩)
   ·refine ⟨_,rfl,?_⟩
    rw [e4] at hs
    dsimp only at hc hs hfin
    rw [if_pos hc] at hfin
    have hs:=Sat.oz (X:=ob false L (.loop rc)::C s2) (F:=F) hs
    refine Kt ?_
    refine gx ?_
    refine aB (i+1,s2) ⟨rfl,rfl,rfl,rfl,rfl,rfl,rfl,trivial⟩ ⟨⟨hIn,hlt,by unfold yQ;rw [if_pos hbx];exact hfin,.inl rfl⟩,hs.to⟩ (by show _-(i+1)<_-i;omega)
   ·refine ⟨_,rfl,?_⟩
    dsimp only at hc hs hfin
    rw [if_neg (by rw [hc];simp)] at hfin
    have hs:=Sat.oz (X:=ob false L (.loop { rc with state:=.done,pending:=some (.exit id) })::C s2) (F:=F) hs
    refine Kt ?_
    refine gx ?_
    exact ak rfl (hret s2 _ _ hfin (.inr rfl) hs.to)
  ·have hi0:i=0:=hbg.resolve_left hbx
   subst hi0
   have hfin:s'=s1:=by
    unfold yQ at hfin
    rw [if_neg hbx] at hfin
    exact hfin
   have hno:(jl cl be).isNone=false:=by
    cases hh:jl cl be with
    | none=>exact absurd hh hbx
    | some _=>rfl
   rw [hno]
   refine Kt ?_
   refine yj ?_
   refine tw rfl rfl rfl ?_
   refine Kt ?_
   refine gx ?_
   exact ak rfl (hret s' rc _ hfin (.inl rfl) hs.to)
 ·have hie:i=ps.length:=by omega
  subst hie
  have hfin:s'=s1:=by
   rw [List.drop_length] at hfin
   unfold yQ at hfin
   split at hfin<;>exact hfin
  have hnl:¬ ((ps.length:Int)<(ps.length:Int)):=by omega
  refine gx ?_
  exact gB rfl (hret s' rc w hfin (.inl rfl) hs.to)
end
section
open Go.Proofs.YtecibefflhomdaaGreatDoor.Pure (ad bO)
attribute [local irreducible] IntKind.wrap
variable {W0 w:World} {F:List ah} {v:Value} {b d:Nat} {o:ji} {cl:Bool} {be:Option cy} {s:St} {D D':ad}
def KZ (c:Nat) (acc:List (Bs×Bs)):ah:=fun h=>∃ v,cV [blk c 74 [v],iD v acc] h
theorem Sat.EM {c:Nat} {acc:List (Bs×Bs)} (h:Sat W0 (KZ c acc::F) w):∃ v,Sat W0 (blk c 74 [v]::iD v acc::F) w:=by
 obtain ⟨v,_,hs⟩:=h.eI (φ:=fun _:Value=>True) (B:=fun v=>[blk c 74 [v],iD v acc]) fun hp ⟨v,k⟩=>⟨v,trivial,k⟩
 exact ⟨v,hs⟩
theorem Sat.A8 {c:Nat} {acc:List (Bs×Bs)} (h:Sat W0 (blk c 74 [v]::iD v acc::F) w):Sat W0 (KZ c acc::F) w:=Sat.close (B:=[blk c 74 [v],iD v acc]) h fun hp k=>⟨v,k⟩
def GD (n:Int) (acc:List (Bs×Bs)) (p:Bs×Bs):List (Bs×Bs)×Bool:=(acc++[p],decide (((acc.length+1:Nat):Int)≠n))
theorem yR {lo hi:Bs} {n:Int} {x:Except cy (List (Bs×Bs))} (hn:¬ n≤0) (hn2:n≤9223372036854775807) (h:nU cl be s D lo hi 0=some (x,D')) (hlen:(JM x).length≤1099511627776) (hs:Sat W0 (dh b d o cl be s::ag d D::F) w) :
 Calls Tryz.prog 107 #[au b,str lo,str hi,.int .i64 n] w fun y w'=>∃ pv,y=.returned pv∧Sat W0 (iD pv (yQ (GD n) cl be (JM x) [])::dh b d o cl be s::ag d D'::F) w':=by
 refine B0 Tryz.func107 rfl Tryz.ntmps107 Tryz.results107 rfl ?_
 refine gx ?_
 refine cE hs ?_
 clear hs
 intro w b7 hs
 refine gx ?_
 refine aS hs ?_
 clear hs
 intro w b9 hs
 refine gx ?_
 refine ae (met (Jh h (F:=blk b9 74 [.slice none 0 0]::blk b7 3 [.int .i64 n]::F) hs.to) ?_)
 clear hs
 rintro _ w ⟨av,rfl,hs⟩
 refine ⟨_,rfl,?_⟩
 have hs:=Sat.cP (k:=2) (E:=147) hs
 have hs:=Sat.A8 (c:=b9) (v:=.slice none 0 0) (acc:=[]) (hs.to (a:=blk b9 74 [.slice none 0 0]::iD (.slice none 0 0) []::KX b av x::dh b d o cl be s::blk b7 3 [.int .i64 n]::ag d D'::F))
 refine gz ?_
 refine db rfl ?_
 refine ik ?_
 refine MX (C:=fun k=>[KZ b9 k,blk b7 3 [.int .i64 n]]) (body:=GD n) (id:=0) (s0:=[]) (F:=ag d D'::F) (x:=x) (fun i k=>k.length=i) rfl (fun i k p h=>by simp [GD,h]) rfl rfl rfl rfl rfl hs.to ?_ ?_
 ·clear hs
  intro i k p L rc G w hki hil hst hs
  dsimp only [List.cons_append,List.nil_append] at hs
  refine gx ?_
  refine uj hs hst fun w hs=>?_
  obtain ⟨pv,hs⟩:=Sat.EM (hs.take (.there .here))
  obtain ⟨ap,cp,rfl,-⟩:=(hs.take (.there .here)).ay
  refine gx ?_
  refine bA (gR p) ?_
  refine gx ?_
  refine gN (gR p) hs ?_
  clear hs
  intro w b2 hs
  refine gx ?_
  refine dF hs ?_
  clear hs
  intro v2 w hs
  obtain ⟨a7,c7,rfl,-⟩:=hs.ay
  refine gx ?_
  refine bD hs ?_
  clear hs
  intro w hs
  have e1:aE 2 (.slice a7 (k.length+1) c7) 147 (k.length+1) ((eX k).flatten++gR p)=iD (.slice a7 (k.length+1) c7) (k++[p]):=by
   rw [← pB];show _=aE 2 _ 147 (k++[p]).length _;rw [List.length_append];rfl
  rw [e1] at hs
  have hcl:∀ (st:Loop) (w:World),Sat W0 (ob false L (.loop st)::iD (.slice a7 (k.length+1) c7) (k++[p])::blk b9 74 [.slice a7 (k.length+1) c7]::blk b7 3 [.int .i64 n]::G) w→Sat W0 (ob false L (.loop st)::([KZ b9 (k++[p]),blk b7 3 [.int .i64 n]]++G)) w:=by
   intro st w hs
   have hs:=Sat.A8 (c:=b9) (v:=.slice a7 (k.length+1) c7) (acc:=k++[p]) (hs.to (a:=blk b9 74 [.slice a7 (k.length+1) c7]::iD (.slice a7 (k.length+1) c7) (k++[p])::ob false L (.loop st)::blk b7 3 [.int .i64 n]::G))
   exact hs.to
  by_cases he:((k.length+1:Nat):Int)=n
  ·have he':(((k.length+1:Nat):Int))=n:=he
   refine gx ?_
   refine oO (hs.take (.there (.there .here))) fun w hs=>.inr ⟨by simp [GD,he],rfl,?_⟩
   exact hcl _ _ hs.to
  ·have he':¬ (((k.length+1:Nat):Int))=n:=he
   refine gx ?_
   refine je (hs.take (.there (.there .here))) fun w hs=>.inl ⟨by simp [GD];omega,rfl,?_⟩
   exact hcl _ _ hs.to
 ·clear hs
  intro x' Dk w hx' hs
  dsimp only [List.cons_append,List.nil_append] at hs
  obtain ⟨pv,hs⟩:=Sat.EM (hs.take (.there (.there .here)))
  obtain ⟨ap,cp,rfl,-⟩:=(hs.take (.there .here)).ay
  rcases hx' with rfl|rfl
  ·refine gx ?_
   refine ql (hs.take (.there (.there .here))) rfl ?_
   clear hs
   intro w hs
   exact ⟨_,rfl,hs.to⟩
  ·refine gx ?_
   refine ql (hs.take (.there (.there .here))) rfl ?_
   clear hs
   intro w hs
   exact ⟨_,rfl,hs.to⟩
end
section
open Go.Proofs.YtecibefflhomdaaGreatDoor.Pure (ad bO aQ aV dW lf k9)
attribute [local irreducible] IntKind.wrap
section
variable {ops:Array Oper} {Q:Exit→Act→World→Prop} {n:Nat} {ds:Md} {e:Env} {w w':World} {rest:List Oper}
variable {op:Op} {ty:TypeId} {pos:String} {af:Array Edge} {d:Nat} {v u:Value}
attribute [local semireducible] WL WC WQ
theorem Jj (k:Nat) (p q:Bool) (w:World):(Op.equalIn (k+1) 4 (.bool p) (.bool q)).run Tryz.prog w=.ok (p==q) w:=by
 unfold Op.equalIn
 simp only [Sem.run_bind,cB Tryz.underlying4,Result.andThen_ok]
 rfl
theorem Jk (p q:Bool) (w:World):(Op.equal 4 (.bool p) (.bool q)).run Tryz.prog w=.ok (p==q) w:=Jj 9999 p q w
theorem yS {t2:TypeId} {x y:Operand} {p q:Bool} (b:Bool) (hx:ev e x=some (.bool p)) (hy:ev e y=some (.bool q)) (hb:(!(p==q))=b) (hd:Nat.blt d n=true)
 (k:WL ops Q n ds rest ((d,.bool b)::e) w):WL ops Q n ds (⟨some d,.binOp .neq 4 x y t2,ty,pos,af,none⟩::rest) e w:=by
 refine yM (vx:=.bool p) (vy:=.bool q) hx hy (by simp [eqGuard]) ?_ hd k
 subst hb
 simp [Go.binOp,Jk]
end
variable {W0 w:World} {F:List ah} {v:Value} {rb:Nat} {r:GX}
theorem De (a:Int):IntKind.u64.wrap a=(((IntKind.u64.wrap a).toNat:Nat):Int):=by
 rw [IntKind.wrap_u64]
 omega
def pN (a:Int) (k:Nat):Nat:=(IntKind.u64.wrap a).toNat%k
theorem qT (a:Int) {k:Nat} (h:0<k):pN a k<k:=Nat.mod_lt _ h
def JS (m t:Nat):Bool:=decide (1≤m∧m≤32∧2≤t∧t≤6)
end
section
open Go.Proofs.YtecibefflhomdaaGreatDoor.Pure
structure WS where
 b:Nat
 d:Nat
 rb:Nat
 vo:Value
 vw:Value
 o:ji
 s:St
 D:ad
 r:GX
 det:Option (Nat×ad)
 out:List (Bs×Bs)
variable {X:WS} {E B N:Nat}
theorem EN:∀ l:List bO,gn (pM l)=rU l
 | []=>rfl
 | c::r=>by
  unfold pM rU
  by_cases h1:c.key.length=0∨8<c.key.length
  ·rw [if_pos h1,if_pos h1];rfl
  ·rw [if_neg h1,if_neg h1]
   by_cases h2:c.del=false∧16<c.val.length
   ·rw [if_pos h2,if_pos h2];rfl
   ·rw [if_neg h2,if_neg h2];exact EN r
theorem A9:∀ l:List bO,pM l=none↔rU l=0
 | []=>by simp [pM,rU]
 | c::r=>by
  unfold pM rU
  by_cases h1:c.key.length=0∨8<c.key.length
  ·rw [if_pos h1,if_pos h1];simp
  ·rw [if_neg h1,if_neg h1]
   by_cases h2:c.del=false∧16<c.val.length
   ·rw [if_pos h2,if_pos h2];simp
   ·rw [if_neg h2,if_neg h2];exact A9 r
theorem K0 (cl:Bool) (r:GX) (hr:r.closed=cl) (l:List bO):gn (mn cl none l)=EF r l∧(mn cl none l=none↔(cl=false∧fY l=0)):=by
 subst hr
 unfold mn EF fY jl
 cases r.closed with
 | true=>simp [gn]
 | false=>
  simp only [Bool.false_eq_true,if_false]
  by_cases h8:8<l.length
  ·simp [h8,gn]
  ·simp only [h8,if_false,true_and]
   exact ⟨EN l,A9 l⟩
end
section
open Go.Proofs.YtecibefflhomdaaGreatDoor.Pure (ad bO aQ aV dW lf k9)
attribute [local irreducible] IntKind.wrap
variable {W0 w:World} {F:List ah} {p:Nat} {X:WS} {E B N:Nat}
theorem Sat.Oa (h:Sat W0 F w):Sat W0 ((fun _=>True)::F) w:=h.imp fun hp r=>⟨fun _=>none,hp,fun _ _ _ hx=>(by cases hx),fun _ _ hx=>(by cases hx),Hp.le_refl _,trivial,r⟩
end
section
open Go.Proofs.YtecibefflhomdaaGreatDoor.Pure (ad bO aQ aV dW lf k9)
attribute [local irreducible] IntKind.wrap
variable {W0 w:World} {F l:List ah} {p k:Nat} {X:WS} {E B N:Nat} {v:Value} {rows:List (List Value)}
def OJ (b o:Nat) (cs:List Value):ah:=fun h=>∃ c E fr,h b=some (true,.cells c E fr)∧∀ j u,cs[j]?=some u→c[o+j]?=some u
theorem Sat.MY {b o j:Nat} {cs:List Value} {u:Value} (h:Sat W0 (OJ b o cs::l) w) (hu:cs[j]?=some u):w.cell? ⟨b,o+j,none⟩=some u:=by
 obtain ⟨_,_,_,_,hp,h1,_,k⟩:=h
 obtain ⟨x1,x2,_,l1,_,⟨c,E,fr,hb,hc⟩,_⟩:=k
 have:=h1 _ _ (l1 _ _ hb)
 unfold World.cell?
 rw [this]
 exact hc j u hu
theorem vA.chunk (h:vA W0 k v rows) (hne:rows≠[]) (hk:0<k):∃ b o c,v=.slice (some ⟨b,o,none⟩) rows.length c∧∀ {l:List ah} {w:World},Sat W0 l w→Sat W0 (OJ b o rows.flatten::l) w:=by
 obtain ⟨b,o,c,h1,h2⟩:=h.2.2 hne
 refine ⟨b,o,c,h1,fun {l w} hs=>?_⟩
 have hlen:0<rows.flatten.length:=by
  rw [nI h.2.1]
  have:0<rows.length:=by cases rows with|nil=>exact absurd rfl hne|cons _ _=>simp
  exact Nat.mul_pos this hk
 have h3:=h2 0 _ (List.getElem?_eq_getElem hlen)
 unfold World.cell? at h3
 cases hb:W0.heap[b]? with
 | none=>rw [show W0.heap[(⟨b,o+0,none⟩:Addr).block]?=_ from hb] at h3;cases h3
 | some ob0=>
  rw [show W0.heap[(⟨b,o+0,none⟩:Addr).block]?=_ from hb] at h3
  cases ob0 with
  | cells cc EE fr=>
   have h4:=hs.old hb
   refine h4.head fun hp k=>⟨cc,EE,fr,k,fun j u hu=>?_⟩
   have h5:=h2 j u hu
   unfold World.cell? at h5
   rw [show W0.heap[(⟨b,o+j,none⟩:Addr).block]?=_ from hb] at h5
   exact h5
  | _=>cases h3
theorem Ba (l:List bO):∀ u∈(dw l).flatten,dD u=true:=fun u hu=>by
 obtain ⟨r,hr,hu⟩:=List.mem_flatten.1 hu
 obtain ⟨c,_,rfl⟩:=List.mem_map.1 hr
 simp [j5] at hu
 rcases hu with rfl|rfl|rfl<;>rfl
end
end Go.Proofs.YtecibefflhomdaaGreatDoor
