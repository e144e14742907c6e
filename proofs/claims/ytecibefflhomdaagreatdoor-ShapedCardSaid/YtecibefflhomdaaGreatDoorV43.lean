/-
  Part 43: WALKS package levels; WALKS package levels; WALKS package plain.
-/
import Derived.Test.YtecibefflhomdaaGreatDoorV42
set_option maxHeartbeats 8000000
set_option maxRecDepth 100000
set_option linter.all false
namespace Go.Proofs.YtecibefflhomdaaGreatDoor
open Go
section
open Go.Proofs.YtecibefflhomdaaGreatDoor.Pure (ae aD cz cW)
attribute [local irreducible] IntKind.wrap
variable {W0 w:World} {F:List ax} {b d:Nat} {D D':ae} {K:SK} {z:SZ} {s:St}
theorem Fc {x:Except cx St} (h:lX K.o s D=some (x,D')) (hW:jF W0) (hs:Sat W0 (nM b K s::aj K.d D::F) w) :
 Calls Tryz.prog 49 #[ay b] w fun y w'=>∃ ve,y=.returned ve∧Sat W0 (Df b K x::aj K.d D'::aH ve (cU x)::F) w':=by
 unfold lX at h
 refine enter Tryz.func49 rfl Tryz.ntmps49 Tryz.results49 rfl ?_
 obtain ⟨hl,z,hs⟩:=hs.gB
 refine gx ?_
 refine ag (met (vu (hs.take (.there (.there .here)))) ?_)
 clear hs
 rintro _ w ⟨rfl,hs⟩
 refine ⟨_,rfl,?_⟩
 by_cases hm:0<s.mem.length
 ·rw [if_pos hm] at h
  have hm':(s.mem.length:Int) > 0:=by omega
  have hs:=Sat.bM (z:=z) hl (hs.to (a:=blk b 133 (ak K z s)::dE K.d z s.levels::aO z.m s.mem::aM aY z.sn (aA s.snaps)::aj K.d D::F))
  refine gx ?_
  refine ag (met (ou h hW hs) ?_)
  clear hs
  rintro _ w ⟨ve,rfl,hs⟩
  refine ⟨_,rfl,gx ?_⟩
  exact ah rfl ⟨_,rfl,hs⟩
 ·rw [if_neg hm] at h
  have hm':¬ (s.mem.length:Int) > 0:=by omega
  refine gx ?_
  cases hcm:gP s D true with
  | none=>rw [hcm] at h;cases h
  | some r=>
   obtain ⟨xc,D1⟩:=r
   rw [hcm] at h
   refine ag (met (vT hcm hl hW (hs.to (a:=blk b 133 (ak K z s)::dE K.d z s.levels::aj K.d D::aO z.m s.mem::aM aY z.sn (aA s.snaps)::F))) ?_)
   clear hs hcm
   rintro _ w ⟨ve,s',rfl,hs',⟨nu,lo,hs2⟩,hs⟩
   refine ⟨_,rfl,?_⟩
   have hl3:s'.levels.length=4:=by rw [hs2];exact hl
   have hcl:Sat W0 (nM b K s'::aj K.d D1::aH ve (cU xc)::F) w:=by
    refine Sat.bM (z:=z) hl3 ?_
    have e1:s'.levels=s.levels:=by rw [hs2]
    have e2:s'.mem=s.mem:=by rw [hs2]
    have e3:s'.snaps=s.snaps:=by rw [hs2]
    rw [e1,e2,e3]
    exact hs.to
   clear hs
   cases xc with
   | error e=>
    simp only [ei,Option.some.injEq,Prod.mk.injEq] at h
    obtain ⟨rfl,rfl⟩:=h
    obtain ⟨t,u,rfl⟩:=(hcl.take (.there (.there .here))).aQ
    refine gx ?_
    refine ah rfl ⟨_,rfl,?_⟩
    exact Sat.j8 (e:=e) hcl
   | ok s3=>
    obtain rfl:=hs' s3 rfl
    simp only [ei] at h
    have hve:=(hcl.take (.there (.there .here))).cA
    subst hve
    refine gx ?_
    refine ag (met (td h hW hcl) ?_)
    clear hcl
    rintro _ w ⟨ve,rfl,hs⟩
    refine ⟨_,rfl,gx ?_⟩
    exact ah rfl ⟨_,rfl,hs.to⟩
theorem Au {m t:Nat} {dv:Value} (h:m<1∨32<m∨t<2∨6<t) (hs:Sat W0 F w) :
 Calls Tryz.prog 18 #[dv,.agg #[.int .i64 (m:Int),.int .i64 (t:Int)]] w fun y w'=>∃ ve,y=.returned (.tuple #[.pointer none,ve])∧Sat W0 (aH ve (some (none,1))::F) w':=by
 refine enter Tryz.func18 rfl Tryz.ntmps18 Tryz.results18 rfl ?_
 refine gx ?_
 refine bR hs ?_
 clear hs
 intro w b3 hs
 by_cases h1:(m:Int)<1
 ·refine gx ?_
  exact ah rfl ⟨_,rfl,(hs.drop.jN (k:=1))⟩
 ·by_cases h2:(m:Int) > 32
  ·refine gx ?_
   exact ah rfl ⟨_,rfl,(hs.drop.jN (k:=1))⟩
  ·by_cases h3:(t:Int)<2
   ·refine gx ?_
    exact ah rfl ⟨_,rfl,(hs.drop.jN (k:=1))⟩
   ·have h4:(t:Int) > 6:=by omega
    refine gx ?_
    exact ah rfl ⟨_,rfl,(hs.drop.jN (k:=1))⟩
def Qr (o:nH):Nat→St→ae→Out St
 | 0,_,D=>nI o D
 | 1,s,D=>ei (lp s D) fun s D=>lX o s D
 | 2,s,D=>lX o s D
 | _,s,D=>some (.ok s,D)
theorem Ll {o:nH} {i:Nat} {s:St} {D D':ae} {x:Except cx St} (h:Qr o i s D=some (x,D')) (hi:i<3) :
 ∃ y D1,(match i with|0=>tg D|1=>lp s D|_=>lX o s D)=some (y,D1)∧((∃ e,y=.error e∧x=.error e∧D'=D1)∨∃ s1,y=.ok s1∧Qr o (i+1) s1 D1=some (x,D')):=by
 have key:∀ (a:Out St) (k:St→ae→Out St),ei a k=some (x,D')→∃ y D1,a=some (y,D1)∧((∃ e,y=.error e∧x=.error e∧D'=D1)∨∃ s1,y=.ok s1∧k s1 D1=some (x,D')):=by
  intro a k h
  cases a with
  | none=>cases h
  | some r=>
   obtain ⟨y,D1⟩:=r
   cases y with
   | error e=>simp only [ei,Option.some.injEq,Prod.mk.injEq] at h;exact ⟨_,_,rfl,.inl ⟨e,rfl,h.1.symm,h.2.symm⟩⟩
   | ok s1=>exact ⟨_,_,rfl,.inr ⟨s1,rfl,h⟩⟩
 match i,hi with
 | 0,_=>exact key _ _ h
 | 1,_=>exact key _ _ h
 | 2,_=>
  refine ⟨x,D',h,?_⟩
  cases x with
  | error e=>exact .inl ⟨e,rfl,rfl,rfl⟩
  | ok s1=>exact .inr ⟨s1,rfl,rfl⟩
def NY (d:Nat) (o:nH) (v:Value):Except cx St→ax
 | .ok s=>fun h=>∃ b,v=ay b∧fy b d o false none s h
 | .error _=>fun _=>v=.pointer none
theorem Fe {o:nH} {x:Except cx St} (h1:1≤o.memory∧o.memory≤32) (h2:2≤o.tables∧o.tables≤6) (h:nI o D=some (x,D')) (hW:jF W0) (hE:iD W0) (hs:Sat W0 (aj d D::F) w) :
 Calls Tryz.prog 18 #[ay d,.agg #[.int .i64 (o.memory:Int),.int .i64 (o.tables:Int)]] w fun y w'=>∃ pv ve,y=.returned (.tuple #[pv,ve])∧Sat W0 (NY d o pv x::aj d D'::aH ve (cU x)::F) w':=by
 refine enter Tryz.func18 rfl Tryz.ntmps18 Tryz.results18 rfl ?_
 have g1:¬ ((o.memory:Int)<1):=by omega
 have g2:¬ ((o.memory:Int) > 32):=by omega
 have g3:¬ ((o.tables:Int)<2):=by omega
 have g4:¬ ((o.tables:Int) > 6):=by omega
 refine gx ?_
 refine bR hs ?_
 clear hs
 intro w b3 hs
 refine gx ?_
 refine bz [.slice none 0 0] ?_
 refine bR hs ?_
 clear hs
 intro w m hs
 refine gx ?_
 refine mQ hs rfl ?_
 clear hs
 intro w sn hs
 have hs:=hs.zs aY
 refine gx ?_
 refine bz (ak (KS d o false .nilIface 0) ⟨m,.slice none 0 0,.slice none 0 0,.slice none 0 0,.slice none 0 0,sn⟩ pC) ?_
 refine bR hs ?_
 clear hs
 intro w b hs
 refine gx ?_
 refine ia [.func (.func 47) #[ay b] #[],.func (.func 48) #[ay b] #[],.func (.func 49) #[ay b] #[]] hs ?_
 clear hs
 intro w bf hs
 have h0:Sat W0 (aO m []::dE d ⟨m,.slice none 0 0,.slice none 0 0,.slice none 0 0,.slice none 0 0,sn⟩ [[],[],[],[]]::blk bf 107 [.func (.func 47) #[ay b] #[],.func (.func 48) #[ay b] #[],.func (.func 49) #[ay b] #[]]::blk b 133 (ak (KS d o false .nilIface 0) ⟨m,.slice none 0 0,.slice none 0 0,.slice none 0 0,.slice none 0 0,sn⟩ pC)::aM aY sn []::aj d D::F) w:=by
  have h2:=Sat.ye (d:=d) (Sat.ye (d:=d) (Sat.ye (d:=d) (Sat.ye (d:=d) hs)))
  have h3:=h2.Eo (z:=⟨m,.slice none 0 0,.slice none 0 0,.slice none 0 0,.slice none 0 0,sn⟩) (t0:=[]) (t1:=[]) (t2:=[]) (t3:=[])
  have h4:=Sat.cH (k:=4) (E:=256) h3
  have h5:=Sat.jx (m:=m) (v:=.slice none 0 0) (l:=[]) (h4.to (a:=blk m 120 [.slice none 0 0]::jw (.slice none 0 0) []::dE d ⟨m,.slice none 0 0,.slice none 0 0,.slice none 0 0,.slice none 0 0,sn⟩ [[],[],[],[]]::blk bf 107 [.func (.func 47) #[ay b] #[],.func (.func 48) #[ay b] #[],.func (.func 49) #[ay b] #[]]::blk b 133 (ak (KS d o false .nilIface 0) ⟨m,.slice none 0 0,.slice none 0 0,.slice none 0 0,.slice none 0 0,sn⟩ pC)::aM aY sn []::aj d D::F))
  exact h5
 clear hs
 have hs:=Sat.bM (K:=KS d o false .nilIface 0) (z:=⟨m,.slice none 0 0,.slice none 0 0,.slice none 0 0,.slice none 0 0,sn⟩) (s:=pC) (b:=b) rfl (h0.to (a:=blk b 133 (ak (KS d o false .nilIface 0) ⟨m,.slice none 0 0,.slice none 0 0,.slice none 0 0,.slice none 0 0,sn⟩ pC)::dE d ⟨m,.slice none 0 0,.slice none 0 0,.slice none 0 0,.slice none 0 0,sn⟩ [[],[],[],[]]::aO m []::aM aY sn []::aj d D::blk bf 107 [.func (.func 47) #[ay b] #[],.func (.func 48) #[ay b] #[],.func (.func 49) #[ay b] #[]]::F))
 clear h0
 refine gx ?_
 refine aJ (α:=Nat×St×ae) (fun q=>[(6,ay b),(42,.slice (some ⟨bf,0,none⟩) 3 3),(43,.int .i64 3),(44,.int .i64 (q.1:Int))])
  (fun q w=>(q.1≤3∧(q.1=0→q.2.1=pC)∧Qr o q.1 q.2.1 q.2.2=some (x,D'))∧Sat W0 (nM b (KS d o false .nilIface 0) q.2.1::aj d q.2.2::blk bf 107 [.func (.func 47) #[ay b] #[],.func (.func 48) #[ay b] #[],.func (.func 49) #[ay b] #[]]::F) w) (fun q=>3-q.1) (0,pC,D) ⟨rfl,rfl,rfl,rfl,trivial⟩ ⟨⟨Nat.zero_le _,fun _=>rfl,h⟩,hs⟩ ?_
 clear hs h
 rintro ⟨i,s,D1⟩ w ⟨⟨hi,hi0,h⟩,hs⟩
 dsimp only at hi hi0 h hs ⊢
 by_cases hlt:i<3
 ·have hint:((i:Int)<3):=by omega
  obtain ⟨y,D2,hy,hr⟩:=Ll h hlt
  have hend:∀ (ve:Value) (w:World),Sat W0 (Df b (KS d o false .nilIface 0) y::aj d D2::aH ve (cU y)::blk bf 107 [.func (.func 47) #[ay b] #[],.func (.func 48) #[ay b] #[],.func (.func 49) #[ay b] #[]]::F) w →
   (∃ e,y=.error e∧Sat W0 (NY d o (.pointer none) x::aj d D'::aH ve (cU x)::F) w)∨∃ s1,y=.ok s1∧ve=.nilIface∧Qr o (i+1) s1 D2=some (x,D')∧Sat W0 (nM b (KS d o false .nilIface 0) s1::aj d D2::blk bf 107 [.func (.func 47) #[ay b] #[],.func (.func 48) #[ay b] #[],.func (.func 49) #[ay b] #[]]::F) w:=by
   intro ve w hs
   rcases hr with ⟨e,rfl,rfl,rfl⟩|⟨s1,rfl,hr⟩
   ·refine .inl ⟨e,rfl,?_⟩
    have h2:=hs.to (a:=aj d D'::aH ve (cU (.error e:Except cx St))::F)
    exact h2.imp fun hp r=>⟨fun _=>none,hp,fun _ _ _ hx=>(by cases hx),fun _ _ hx=>(by cases hx),Hp.le_refl _,rfl,r⟩
   ·have hve:=(hs.take (.there (.there .here))).cA
    exact .inr ⟨s1,rfl,hve,hr,hs.to⟩
  obtain ⟨f,hf1,hf2,hcall⟩:∃ f,([.func (.func 47) #[ay b] #[],.func (.func 48) #[ay b] #[],.func (.func 49) #[ay b] #[]]:List Value)[0+i*1]?=some (.func (.func f) #[ay b] #[])∧lk uG f=some () ∧
   Calls Tryz.prog f #[ay b] w fun z w'=>∃ ve,z=.returned ve∧Sat W0 (Df b (KS d o false .nilIface 0) y::aj d D2::aH ve (cU y)::blk bf 107 [.func (.func 47) #[ay b] #[],.func (.func 48) #[ay b] #[],.func (.func 49) #[ay b] #[]]::F) w':=by
   match i,hlt,hi0,hy with
   | 0,_,hi0,hy=>
    have:=hi0 rfl
    subst this
    exact ⟨47,rfl,rfl,ID (K:=KS d o false .nilIface 0) hy hE hs⟩
   | 1,_,_,hy=>exact ⟨48,rfl,rfl,Fb (K:=KS d o false .nilIface 0) hy hs⟩
   | 2,_,_,hy=>exact ⟨49,rfl,rfl,Fc (K:=KS d o false .nilIface 0) hy hW hs⟩
  refine gx ?_
  refine cN (i:=i) rfl rfl rfl rfl rfl hlt rfl ?_
  refine eF hs rfl rfl (.there (.there .here)) hf1 rfl ?_
  refine gx ?_
  refine iM rfl hf2 rfl rfl (met hcall ?_)
  clear hs hcall
  rintro _ w ⟨ve,rfl,hs⟩
  refine ⟨_,rfl,?_⟩
  cases y with
  | error e=>
   obtain ⟨t,u,rfl⟩:=(hs.take (.there (.there .here))).aQ
   rcases hend _ w hs with ⟨e',_,hs⟩|⟨s1,h1,_⟩
   ·refine gx ?_
    exact ah rfl ⟨_,_,rfl,hs⟩
   ·cases h1
  | ok s2=>
   rcases hend _ w hs with ⟨e',h1,_⟩|⟨s1,h1,rfl,h3,h4⟩
   ·cases h1
   ·cases h1
    clear hs
    refine gx ?_
    exact az (i+1,s2,D2) ⟨rfl,rfl,rfl,rfl,trivial⟩ ⟨⟨hlt,fun hh=>(by omega),h3⟩,h4⟩ (by show 3-(i+1)<3-i;omega)
 ·have hie:i=3:=by omega
  subst hie
  simp only [Qr,Option.some.injEq,Prod.mk.injEq] at h
  obtain ⟨rfl,rfl⟩:=h
  refine gx ?_
  refine ah rfl ⟨_,_,rfl,?_⟩
  have hs:=Sat.ej hs
  have hs:=Sat.ej hs
  have hs:=Sat.z8 (o:=o) (cl:=false) (be:=none) (br:=.nilIface) (hs.to (a:=nM b (KS d o false .nilIface 0) s::aH .nilIface none::aj d D1::aH .nilIface none::F))
  exact hs.head fun _ k=>⟨b,rfl,k⟩
end
section
open Go.Proofs.YtecibefflhomdaaGreatDoor.Pure (ae)
attribute [local irreducible] IntKind.wrap
variable {W0 w:World} {F:List ax} {v:Value} {b d:Nat} {o:nH} {cl:Bool} {be:Option cx} {s:St} {D D':ae}
theorem Ff {a3:Nat} (hs:Sat W0 (blk a3 31 [ay b]::fy b d o cl be s::F) w) :
 Calls Tryz.prog 216 #[ay a3] w fun y w'=>y=.returned (.bool (eW cl be).isNone)∧Sat W0 (blk a3 31 [ay b]::fy b d o cl be s::F) w':=by
 obtain ⟨hl,br,z,hs⟩:=(hs.take (.there .here)).kp
 refine kn Tryz.func216 rfl Tryz.ntmps216 Tryz.results216 rfl ?_
 refine gx ?_
 refine iT hs ?_
 clear hs
 intro w hs
 have hs:Sat W0 (blk b 133 (ak (KS d o cl br 1) z s)::aH br be::dE d z s.levels::aO z.m s.mem::aM aY z.sn (aA s.snaps)::blk a3 31 [ay b]::F) w:=hs
 refine gx ?_
 refine gH rfl ?_
 refine gx ?_
 refine ag (met (fP (K:=KS d o cl br 1) (be:=be) hs) ?_)
 clear hs
 rintro _ w ⟨ve,rfl,hs⟩
 refine ⟨_,rfl,?_⟩
 have hb:tO (KS d o cl br 1) be=eW cl be:=rfl
 rw [hb] at hs
 cases hbx:eW cl be with
 | some e=>
  rw [hbx] at hs
  obtain ⟨t,u,rfl⟩:=hs.aQ
  refine gx ?_
  refine dp (.inl rfl) hs ?_
  clear hs
  intro w hs
  have hs:=Sat.dJ (z:=z) hl (hs.to (a:=blk b 133 (ak (KS d o cl br 0) z s)::dE d z s.levels::aO z.m s.mem::aM aY z.sn (aA s.snaps)::aH br be::blk a3 31 [ay b]::F))
  exact ⟨rfl,hs.to⟩
 | none=>
  rw [hbx] at hs
  have hve:=hs.cA
  subst hve
  refine gx ?_
  refine dp (.inl rfl) hs ?_
  clear hs
  intro w hs
  have hs:=Sat.dJ (z:=z) hl (hs.to (a:=blk b 133 (ak (KS d o cl br 0) z s)::dE d z s.levels::aO z.m s.mem::aM aY z.sn (aA s.snaps)::aH br be::blk a3 31 [ay b]::F))
  exact ⟨rfl,hs.to⟩
def Fg (b:Nat) (v:Value) (x:Except cx (List (Bs×Bs))):ax:=fun h=>∃ a3 a7 a8 a9 pv ve,v=.func (.func 217) #[] #[ay a7,ay a8,ay a9]∧cL [blk a7 74 [pv],blk a8 41 [ve],blk a9 24 [.func (.func 216) #[] #[ay a3]],blk a3 31 [ay b],pD pv x,aH ve (cU x)] h
theorem CJ {lo hi:Bs} {x:Except cx (List (Bs×Bs))} (h:p9 cl be s D lo hi 0=some (x,D')) (hs:Sat W0 (fy b d o cl be s::aj d D::F) w) :
 Calls Tryz.prog 185 #[ay b,str lo,str hi] w fun y w'=>∃ av,y=.returned av∧Sat W0 (Fg b av x::fy b d o cl be s::aj d D'::F) w':=by
 refine enter Tryz.func185 rfl Tryz.ntmps185 Tryz.results185 rfl ?_
 refine gx ?_
 refine bR hs ?_
 clear hs
 intro w a3 hs
 refine gx ?_
 refine ag (met (ti h (F:=blk a3 31 [ay b]::F) hs.to) ?_)
 clear hs
 rintro _ w ⟨pv,ve,rfl,hs⟩
 refine ⟨_,rfl,?_⟩
 refine gx ?_
 refine aS hs ?_
 clear hs
 intro w a7 hs
 refine gx ?_
 refine aS hs ?_
 clear hs
 intro w a8 hs
 have h1:df pv=true:=by
  have:=(hs.take (.there (.there .here))).fT (φ:=df pv=true) fun _ k=>by
   cases x with
   | ok l=>
    obtain ⟨_,_,k|⟨_,_,_,rfl,_⟩⟩:=k
    ·obtain ⟨rfl,_⟩:=k;rfl
    ·rfl
   | error e=>have k:pv=.slice none 0 0:=k;subst k;rfl
  exact this
 have h2:df ve=true:=Sat.As (hs.take (.there (.there (.there (.there (.there .here))))))
 refine gx ?_
 refine bK hs (h1:=h1) ?_
 clear hs
 intro w hs
 refine gx ?_
 refine bK hs (h1:=h2) ?_
 clear hs
 intro w hs
 refine gx ?_
 refine aS hs ?_
 clear hs
 intro w a9 hs
 refine gx ?_
 refine bK hs ?_
 clear hs
 intro w hs
 refine gx ?_
 refine ah rfl ⟨_,rfl,?_⟩
 exact Sat.close (B:=[blk a7 74 [pv],blk a8 41 [ve],blk a9 24 [.func (.func 216) #[] #[ay a3]],blk a3 31 [ay b],pD pv x,aH ve (cU x)]) hs.to fun hp k=>⟨a3,a7,a8,a9,pv,ve,rfl,k⟩
def xq {σ:Type} (body:σ→Bs×Bs→σ×Bool):List (Bs×Bs)→σ→σ
 | [],s=>s
 | p::r,s=>if (body s p).2=true then xq body r (body s p).1 else (body s p).1
def rr {σ:Type} (body:σ→Bs×Bs→σ×Bool) (cl:Bool) (be:Option cx) (ps:List (Bs×Bs)) (s:σ):σ:=if eW cl be=none then xq body ps s else s
theorem Sat.Nh {x:Except cx (List (Bs×Bs))} (h:Sat W0 (Fg b v x::F) w):∃ a3 a7 a8 a9 pv ve,v=.func (.func 217) #[] #[ay a7,ay a8,ay a9]∧Sat W0 (blk a7 74 [pv]::blk a8 41 [ve]::blk a9 24 [.func (.func 216) #[] #[ay a3]]::blk a3 31 [ay b]::pD pv x::aH ve (cU x)::F) w:=by
 obtain ⟨⟨a3,a7,a8,a9,pv,ve⟩,hv,hs⟩:=h.e9 (φ:=fun z:Nat×Nat×Nat×Nat×Value×Value=>v=.func (.func 217) #[] #[ay z.2.1,ay z.2.2.1,ay z.2.2.2.1])
  (B:=fun z=>[blk z.2.1 74 [z.2.2.2.2.1],blk z.2.2.1 41 [z.2.2.2.2.2],blk z.2.2.2.1 24 [.func (.func 216) #[] #[ay z.1]],blk z.1 31 [ay b],pD z.2.2.2.2.1 x,aH z.2.2.2.2.2 (cU x)]) fun hp ⟨a3,a7,a8,a9,pv,ve,hv,k⟩=>⟨⟨a3,a7,a8,a9,pv,ve⟩,hv,k⟩
 exact ⟨a3,a7,a8,a9,pv,ve,hv,hs⟩
theorem Lm {ps:List (Bs×Bs)} {i:Nat} {p:Bs×Bs} (h:ps[i]?=some p):(eQ ps).flatten[i*2]?=some (str p.1)∧(eQ ps).flatten[i*2+1]?=some (str p.2):=by
 have hk:∀ r∈eQ ps,r.length=2:=fun r hr=>by obtain ⟨x,_,rfl⟩:=List.mem_map.1 hr;rfl
 have h1:=ie hk (r:=gk p) (i:=i) (by unfold eQ;rw [List.getElem?_map,h];rfl)
 exact ⟨h1.1,h1.2.1⟩
theorem Ln {Q:Exit→Act→World→Prop} {n:Nat} {ds:Md} {e:Env} {g:Operand} {pt1 pt2:Tmp} {asg bd:Code} {σ:Type} {body:σ→Bs×Bs→σ×Bool} {C:σ→List ax} {id:Nat} {s0:σ} {ps:List (Bs×Bs)} {x:Except cx (List (Bs×Bs))} {av:Value}
 (Iv:Nat→σ→Prop) (hI0:Iv 0 s0) (hI:∀ i s p,Iv i s→Iv (i+1) (body s p).1) (hps:xh x=ps) (hr:ds.round=none) (hp1:Nat.blt pt1 n=true) (hp2:Nat.blt pt2 n=true) (hg:ev e g=some av)
 (hs:Sat W0 (Fg b av x::fy b d o cl be s::(C s0++F)) w)
 (kb:∀ i s p L rc G w,Iv i s→i<ps.length→rc.state=.ready→Sat W0 (ob false L (.loop rc)::(C s++G)) w →
   WC asg (Hs L bd fun y w'=>((body s p).2=true∧y=.returned (.bool true)∧Sat W0 (ob false L (.loop { rc with state:=.ready,pending:=none })::(C (body s p).1++G)) w') ∨
    ((body s p).2=false∧y=.returned (.bool false)∧Sat W0 (ob false L (.loop { rc with state:=.done,pending:=some (.exit id) })::(C (body s p).1++G)) w')) n ⟨some L,[]⟩ ((pt2,str p.2)::(pt1,str p.1)::e) w)
 (ke:∀ x Dk w,x=.normal∨x=.exit id→Sat W0 (ob false Dk (.deferred (some []))::fy b d o cl be s::(C (rr body cl be ps s0)++F)) w→WQ Q x n ⟨none,jy Dk::ds.ds⟩ e w) :
 WC (.rangeFunc g #[pt1,pt2] asg bd) Q n ds e w:=by
 obtain ⟨a3,a7,a8,a9,pv,ve,rfl,h2⟩:=hs.Nh
 clear hs
 have hs:=h2
 clear h2
 have hve:ps≠[]→ve=.nilIface:=by
  intro hne
  cases x with
  | ok l=>exact (hs.take (.there (.there (.there (.there (.there .here)))))).cA
  | error e=>exact absurd hps.symm hne
 have hs:Sat W0 (blk a7 74 [pv]::blk a8 41 [ve]::blk a9 24 [.func (.func 216) #[] #[ay a3]]::blk a3 31 [ay b]::gI pv ps::aH ve (cU x)::fy b d o cl be s::(C s0++F)) w:=by
  cases x with
  | ok l=>have hps:l=ps:=hps;subst hps;exact hs
  | error e=>
   have hps:[]=ps:=hps
   subst hps
   have hp:=(hs.take (.there (.there (.there (.there .here))))).fT (φ:=pv=.slice none 0 0) fun _ k=>k
   subst hp
   have h2:=Sat.cH (k:=2) (E:=147) hs
   exact h2.to
 clear hps
 refine Bo (uu:=()) hr hs hg rfl fun fn tm L Dk w1 hsz hget hs=>?_
 refine enter (args:=[.func (.yield L) #[] #[],ay a7,ay a8,ay a9]) Tryz.func217 rfl Tryz.ntmps217 Tryz.results217 rfl ?_
 generalize hrc:({ state:=.ready,pending:=none,fn:=fn,tmps:=tm,params:=#[pt1,pt2],assign:=asg,body:=bd,defers:=Dk }:Loop)=rc at *
 obtain ⟨al,cap,rfl,hc1,hc2⟩:=(hs.take (.there (.there (.there (.there (.there (.there .here))))))).aC
 have hpl:ps.length≤9223372036854775807:=by simp only [maxLen] at hc2;omega
 generalize hfin:rr body cl be ps s0=s1 at ke
 refine gx ?_
 refine aJ (α:=Nat×σ) (fun z=>[(0,.func (.yield L) #[] #[]),(1,ay a7),(2,ay a8),(3,ay a9),(7,.slice al ps.length cap),(8,.int .i64 (ps.length:Int)),(9,.int .i64 (z.1:Int))])
  (fun z w=>(Iv z.1 z.2∧z.1≤ps.length∧rr body cl be (ps.drop z.1) z.2=s1∧(eW cl be=none∨z.1=0))∧Sat W0 (ob false L (.loop rc)::ob false Dk (.deferred (some []))::blk a7 74 [.slice al ps.length cap]::blk a8 41 [ve]::blk a9 24 [.func (.func 216) #[] #[ay a3]]::blk a3 31 [ay b]::gI (.slice al ps.length cap) ps::fy b d o cl be s::(C z.2++F)) w) (fun z=>ps.length-z.1) (0,s0) ⟨rfl,rfl,rfl,rfl,rfl,rfl,rfl,trivial⟩ ⟨⟨hI0,Nat.zero_le _,hfin,.inr rfl⟩,hs.to⟩ ?_
 clear hs hfin
 rintro ⟨i,s'⟩ w ⟨⟨hIv,hi,hfin,hbg⟩,hs⟩
 dsimp only at hIv hi hfin hbg hs ⊢
 have hret:∀ (s2:σ) (rc2:Loop) (w:World),s2=s1→((rc2=rc)∨rc2={ rc with state:=.done,pending:=some (.exit id) })→Sat W0 (ob false L (.loop rc2)::ob false Dk (.deferred (some []))::fy b d o cl be s::(C s2++F)) w →
  ∃ v,Ending.returned (.tuple #[])=.returned v∧∃ (rc:Loop) (l3:List ax),Sat W0 (ob false L (.loop rc)::l3) w∧(rc.state==.busy)=false ∧
   ((rc.pending=none∧∀ w4,Sat W0 (ob false L (.loop { rc with state:=.exhausted })::l3) w4→WQ Q .normal n ⟨none,jy Dk::ds.ds⟩ e w4) ∨
    ∃ id,rc.pending=some (.exit id)∧∀ w4,Sat W0 (ob false L (.loop { rc with state:=.exhausted })::l3) w4→WQ Q (.exit id) n ⟨none,jy Dk::ds.ds⟩ e w4):=by
  intro s2 rc2 w he hrc2 h7
  subst he
  rcases hrc2 with h8|h8
  ·exact ⟨_,rfl,rc2,_,h7,by rw [h8,← hrc];rfl,.inl ⟨by rw [h8,← hrc],fun w4 h4=>ke .normal Dk w4 (.inl rfl) h4.drop⟩⟩
  ·exact ⟨_,rfl,rc2,_,h7,by rw [h8];rfl,.inr ⟨id,by rw [h8],fun w4 h4=>ke (.exit id) Dk w4 (.inr rfl) h4.drop⟩⟩
 by_cases hlt:i<ps.length
 ·have hg:ps[i]?=some ps[i]:=List.getElem?_eq_getElem hlt
  have hdr:ps.drop i=ps[i]::ps.drop (i+1):=List.drop_eq_getElem_cons hlt
  generalize ps[i]=p at hg hdr
  obtain ⟨bq,cap2,rs,hv,q1,q2,q3,hs2⟩:=(hs.take (.there (.there (.there (.there (.there (.there .here))))))).dw (by omega)
  obtain ⟨rfl,_,rfl⟩:=Value.slice.inj hv
  obtain ⟨e1,e2⟩:=Lm hg
  have hseg:fS ((eQ ps).flatten++rs) (0+i*2) (gk p):=by
   have hl:=List.getElem?_eq_some_iff.1 e2
   refine ⟨?_,?_,trivial⟩
   ·rw [Nat.zero_add,List.getElem?_append_left (by have:=hl.1;omega)];exact e1
   ·rw [Nat.zero_add,List.getElem?_append_left hl.1];exact e2
  have hve:=hve (fun hn=>by rw [hn] at hlt;simp at hlt)
  subst hve
  refine gx ?_
  refine cN (i:=i) rfl rfl rfl rfl rfl hlt rfl ?_
  refine dF (gk p) hs2 rfl rfl rfl .here hseg rfl ?_
  clear hs2
  refine gx ?_
  refine aS hs ?_
  clear hs
  intro w b6 hs
  refine gx ?_
  refine da (vs:=gk p) hs ?_
  clear hs
  intro w hs
  refine gE ?_
  refine cV rfl ?_
  refine dV ?_
  refine vA rfl ?_
  refine MH ?_
  refine zM ?_
  refine sM rfl ?_
  refine iM rfl rfl rfl rfl (met (Ff (hs.to (a:=blk a3 31 [ay b]::fy b d o cl be s::blk b6 147 (gk p)::ob false L (.loop rc)::ob false Dk (.deferred (some []))::blk a7 74 [.slice (some ⟨bq,0,none⟩) ps.length cap]::blk a8 41 [.nilIface]::blk a9 24 [.func (.func 216) #[] #[ay a3]]::gI (.slice (some ⟨bq,0,none⟩) ps.length cap) ps::(C s'++F)))) ?_)
  clear hs
  rintro _ w ⟨rfl,hs⟩
  refine ⟨_,rfl,?_⟩
  by_cases hbx:eW cl be=none
  ·rw [hbx]
   dsimp only [Option.isNone]
   unfold rr at hfin
   rw [if_pos hbx,hdr] at hfin
   unfold xq at hfin
   refine MH ?_
   refine JS rfl ?_
   have hs:=Sat.o5 (X:=[blk b6 147 (gk p),ob false Dk (.deferred (some [])),blk a7 74 [.slice (some ⟨bq,0,none⟩) ps.length cap],blk a8 41 [.nilIface],blk a9 24 [.func (.func 216) #[] #[ay a3]],blk a3 31 [ay b],gI (.slice (some ⟨bq,0,none⟩) ps.length cap) ps,fy b d o cl be s]) (Y:=ob false L (.loop rc)::C s') (F:=F) (hs.to (a:=blk b6 147 (gk p)::ob false Dk (.deferred (some []))::blk a7 74 [.slice (some ⟨bq,0,none⟩) ps.length cap]::blk a8 41 [.nilIface]::blk a9 24 [.func (.func 216) #[] #[ay a3]]::blk a3 31 [ay b]::gI (.slice (some ⟨bq,0,none⟩) ps.length cap) ps::fy b d o cl be s::ob false L (.loop rc)::(C s'++F)))
   have hst:rc.state=.ready:=by rw [← hrc]
   have hk:=kb i s' p L rc _ w hIv hlt hst hs
   have hIn:=hI i s' p hIv
   refine xW hs rfl rfl (by rw [← hrc];rfl) rfl ?_
   have hset:∀ (tm:Array Value) (e:Env) (pt:Nat) (u:Value),tm.size=n→pt<n→(∀ t v,lk e t=some v→tm[t]?=some v)→∀ t v,lk ((pt,u)::e) t=some v→(tm.setIfInBounds pt u)[t]?=some v:=by
    intro tm e pt u hsz hd' hget t v hv
    unfold lk at hv
    cases hk:Nat.beq pt t with
    | true=>
     rw [hk] at hv
     simp only [cond_true,Option.some.injEq] at hv
     subst hv
     have:=Nat.eq_of_beq_eq_true hk
     subst this
     simp [hsz,hd']
    | false=>
     rw [hk] at hv
     have hne:pt≠t:=Nat.ne_of_beq_eq_false hk
     rw [Array.getElem?_setIfInBounds_ne hne]
     exact hget t v hv
   have hround:=Bn (n:=n) (e:=(pt2,str p.2)::(pt1,str p.1)::e) (tm:=(tm.setIfInBounds pt1 (str p.1)).setIfInBounds pt2 (str p.2)) (fn:=fn) (by simp [hsz]) (hset _ _ pt2 (str p.2) (by simp [hsz]) (by simpa [Nat.blt_eq] using hp2) (hset tm e pt1 (str p.1) hsz (by simpa [Nat.blt_eq] using hp1) hget)) hk
   have efold:(rc.params.zip ([str p.1,str p.2]:List Value).toArray).foldl (fun tmps (t,a)=>tmps.setIfInBounds t a) rc.tmps=(tm.setIfInBounds pt1 (str p.1)).setIfInBounds pt2 (str p.2):=by rw [← hrc];simp
   have e1:rc.fn=fn:=by rw [← hrc]
   have e2:rc.assign=asg:=by rw [← hrc]
   have e3:rc.body=bd:=by rw [← hrc]
   have e4:({ rc with state:=.ready,pending:=none }:Loop)=rc:=by rw [← hrc]
   show RoundIn Fence.wide 0 Tryz.prog L rc.fn ((rc.params.zip ([str p.1,str p.2]:List Value).toArray).foldl (fun tmps (t,a)=>tmps.setIfInBounds t a) rc.tmps) rc.assign rc.body w _
   rw [efold,e1,e2,e3]
   refine hround.mono ?_
   generalize hbd:body s' p=bp at hfin hIn
   obtain ⟨s2,c⟩:=bp
   rintro y w' (⟨hc,rfl,hs⟩|⟨hc,rfl,hs⟩)
   ·refine ⟨_,rfl,?_⟩
    rw [e4] at hs
    dsimp only at hc hs hfin
    rw [if_pos hc] at hfin
    have hs:=Sat.o5 (X:=ob false L (.loop rc)::C s2) (F:=F) hs
    refine MH ?_
    refine gx ?_
    refine az (i+1,s2) ⟨rfl,rfl,rfl,rfl,rfl,rfl,rfl,trivial⟩ ⟨⟨hIn,hlt,by unfold rr;rw [if_pos hbx];exact hfin,.inl rfl⟩,hs.to⟩ (by show _-(i+1)<_-i;omega)
   ·refine ⟨_,rfl,?_⟩
    dsimp only at hc hs hfin
    rw [if_neg (by rw [hc];simp)] at hfin
    have hs:=Sat.o5 (X:=ob false L (.loop { rc with state:=.done,pending:=some (.exit id) })::C s2) (F:=F) hs
    refine MH ?_
    refine gx ?_
    exact ah rfl (hret s2 _ _ hfin (.inr rfl) hs.to)
  ·have hi0:i=0:=hbg.resolve_left hbx
   subst hi0
   have hfin:s'=s1:=by
    unfold rr at hfin
    rw [if_neg hbx] at hfin
    exact hfin
   have hno:(eW cl be).isNone=false:=by
    cases hh:eW cl be with
    | none=>exact absurd hh hbx
    | some _=>rfl
   rw [hno]
   refine MH ?_
   refine zM ?_
   refine uH rfl rfl rfl ?_
   refine MH ?_
   refine gx ?_
   exact ah rfl (hret s' rc _ hfin (.inl rfl) hs.to)
 ·have hie:i=ps.length:=by omega
  subst hie
  have hfin:s'=s1:=by
   rw [List.drop_length] at hfin
   unfold rr at hfin
   split at hfin<;>exact hfin
  have hnl:¬ ((ps.length:Int)<(ps.length:Int)):=by omega
  refine gx ?_
  exact km rfl (hret s' rc w hfin (.inl rfl) hs.to)
end
section
open Go.Proofs.YtecibefflhomdaaGreatDoor.Pure (ae cG)
attribute [local irreducible] IntKind.wrap
variable {W0 w:World} {F:List ax} {v:Value} {b d:Nat} {o:nH} {cl:Bool} {be:Option cx} {s:St} {D D':ae}
def Lo (c:Nat) (acc:List (Bs×Bs)):ax:=fun h=>∃ v,cL [blk c 74 [v],gI v acc] h
theorem Sat.uy {c:Nat} {acc:List (Bs×Bs)} (h:Sat W0 (Lo c acc::F) w):∃ v,Sat W0 (blk c 74 [v]::gI v acc::F) w:=by
 obtain ⟨v,_,hs⟩:=h.e9 (φ:=fun _:Value=>True) (B:=fun v=>[blk c 74 [v],gI v acc]) fun hp ⟨v,k⟩=>⟨v,trivial,k⟩
 exact ⟨v,hs⟩
theorem Sat.ru {c:Nat} {acc:List (Bs×Bs)} (h:Sat W0 (blk c 74 [v]::gI v acc::F) w):Sat W0 (Lo c acc::F) w:=Sat.close (B:=[blk c 74 [v],gI v acc]) h fun hp k=>⟨v,k⟩
def xr (n:Int) (acc:List (Bs×Bs)) (p:Bs×Bs):List (Bs×Bs)×Bool:=(acc++[p],decide (((acc.length+1:Nat):Int)≠n))
theorem CK (n:Nat):∀ (ps acc:List (Bs×Bs)),acc.length<n→xq (xr (n:Int)) ps acc=acc++ps.take (n-acc.length)
 | [],acc,_=>by simp [xq]
 | p::r,acc,h=>by
  unfold xq xr
  dsimp only
  by_cases he:acc.length+1=n
  ·rw [if_neg (by simp [he])]
   have:n-acc.length=1:=by omega
   rw [this];simp
  ·rw [if_pos (by simp;omega)]
   have ih:=CK n r (acc++[p]) (by simp;omega)
   unfold xr at ih
   rw [ih]
   have:n-acc.length=(n-(acc.length+1))+1:=by omega
   rw [this,List.take_succ_cons];simp
theorem Av {lo hi:Bs} {n:Int} (hn:n≤0) (hs:Sat W0 F w) :
 Calls Tryz.prog 107 #[ay b,str lo,str hi,.int .i64 n] w fun y w'=>∃ pv,y=.returned pv∧Sat W0 (gI pv []::F) w':=by
 refine vB Tryz.func107 rfl Tryz.ntmps107 Tryz.results107 rfl ?_
 refine gx ?_
 refine bR hs ?_
 clear hs
 intro w b7 hs
 refine gx ?_
 refine aS hs ?_
 clear hs
 intro w b9 hs
 refine gx ?_
 exact JV rfl ⟨_,rfl,Sat.cH (k:=2) (E:=147) hs.drop.drop⟩
theorem Aw {lo hi:Bs} {n:Int} {x:Except cx (List (Bs×Bs))} (hn:¬ n≤0) (hn2:n≤9223372036854775807) (h:p9 cl be s D lo hi 0=some (x,D')) (hlen:(xh x).length≤1099511627776) (hs:Sat W0 (fy b d o cl be s::aj d D::F) w) :
 Calls Tryz.prog 107 #[ay b,str lo,str hi,.int .i64 n] w fun y w'=>∃ pv,y=.returned pv∧Sat W0 (gI pv (rr (xr n) cl be (xh x) [])::fy b d o cl be s::aj d D'::F) w':=by
 refine vB Tryz.func107 rfl Tryz.ntmps107 Tryz.results107 rfl ?_
 refine gx ?_
 refine bR hs ?_
 clear hs
 intro w b7 hs
 refine gx ?_
 refine aS hs ?_
 clear hs
 intro w b9 hs
 refine gx ?_
 refine ag (met (CJ h (F:=blk b9 74 [.slice none 0 0]::blk b7 3 [.int .i64 n]::F) hs.to) ?_)
 clear hs
 rintro _ w ⟨av,rfl,hs⟩
 refine ⟨_,rfl,?_⟩
 have hs:=Sat.cH (k:=2) (E:=147) hs
 have hs:=Sat.ru (c:=b9) (v:=.slice none 0 0) (acc:=[]) (hs.to (a:=blk b9 74 [.slice none 0 0]::gI (.slice none 0 0) []::Fg b av x::fy b d o cl be s::blk b7 3 [.int .i64 n]::aj d D'::F))
 refine gE ?_
 refine cV rfl ?_
 refine gW ?_
 refine Ln (C:=fun k=>[Lo b9 k,blk b7 3 [.int .i64 n]]) (body:=xr n) (id:=0) (s0:=[]) (F:=aj d D'::F) (x:=x) (fun i k=>k.length=i) rfl (fun i k p h=>by simp [xr,h]) rfl rfl rfl rfl rfl hs.to ?_ ?_
 ·clear hs
  intro i k p L rc G w hki hil hst hs
  dsimp only [List.cons_append,List.nil_append] at hs
  refine gx ?_
  refine qH hs hst fun w hs=>?_
  obtain ⟨pv,hs⟩:=Sat.uy (hs.take (.there .here))
  obtain ⟨ap,cp,rfl,-⟩:=(hs.take (.there .here)).aC
  refine gx ?_
  refine bz (gk p) ?_
  refine gx ?_
  refine ia (gk p) hs ?_
  clear hs
  intro w b2 hs
  refine gx ?_
  refine dM hs ?_
  clear hs
  intro v2 w hs
  obtain ⟨a7,c7,rfl,-⟩:=hs.aC
  refine gx ?_
  refine bK hs ?_
  clear hs
  intro w hs
  have e1:aL 2 (.slice a7 (k.length+1) c7) 147 (k.length+1) ((eQ k).flatten++gk p)=gI (.slice a7 (k.length+1) c7) (k++[p]):=by
   rw [← ng];show _=aL 2 _ 147 (k++[p]).length _;rw [List.length_append];rfl
  rw [e1] at hs
  have hcl:∀ (st:Loop) (w:World),Sat W0 (ob false L (.loop st)::gI (.slice a7 (k.length+1) c7) (k++[p])::blk b9 74 [.slice a7 (k.length+1) c7]::blk b7 3 [.int .i64 n]::G) w→Sat W0 (ob false L (.loop st)::([Lo b9 (k++[p]),blk b7 3 [.int .i64 n]]++G)) w:=by
   intro st w hs
   have hs:=Sat.ru (c:=b9) (v:=.slice a7 (k.length+1) c7) (acc:=k++[p]) (hs.to (a:=blk b9 74 [.slice a7 (k.length+1) c7]::gI (.slice a7 (k.length+1) c7) (k++[p])::ob false L (.loop st)::blk b7 3 [.int .i64 n]::G))
   exact hs.to
  by_cases he:((k.length+1:Nat):Int)=n
  ·have he':(((k.length+1:Nat):Int))=n:=he
   refine gx ?_
   refine pr (hs.take (.there (.there .here))) fun w hs=>.inr ⟨by simp [xr,he],rfl,?_⟩
   exact hcl _ _ hs.to
  ·have he':¬ (((k.length+1:Nat):Int))=n:=he
   refine gx ?_
   refine iy (hs.take (.there (.there .here))) fun w hs=>.inl ⟨by simp [xr];omega,rfl,?_⟩
   exact hcl _ _ hs.to
 ·clear hs
  intro x' Dk w hx' hs
  dsimp only [List.cons_append,List.nil_append] at hs
  obtain ⟨pv,hs⟩:=Sat.uy (hs.take (.there (.there .here)))
  obtain ⟨ap,cp,rfl,-⟩:=(hs.take (.there .here)).aC
  rcases hx' with rfl|rfl
  ·refine gx ?_
   refine oZ (hs.take (.there (.there .here))) rfl ?_
   clear hs
   intro w hs
   exact ⟨_,rfl,hs.to⟩
  ·refine gx ?_
   refine oZ (hs.take (.there (.there .here))) rfl ?_
   clear hs
   intro w hs
   exact ⟨_,rfl,hs.to⟩
def CL (acc:List (Bs×Bs)) (p:Bs×Bs):List (Bs×Bs)×Bool:=(acc++[p],true)
theorem CM:∀ (ps acc:List (Bs×Bs)),xq CL ps acc=acc++ps
 | [],acc=>by simp [xq]
 | p::r,acc=>by
  unfold xq CL
  dsimp only
  rw [if_pos rfl]
  have ih:=CM r (acc++[p])
  unfold CL at ih
  rw [ih];simp
theorem Fh {lo hi:Bs} {c:cG} {x:Except cx (List (Bs×Bs))} {be2 e2:Option cx} {s2:St} {D2:ae} (hE:iD W0) (h:p9 cl be s D lo hi 0=some (x,D')) (hlen:(xh x).length≤1099511627776)
 (hW:∀ (A:ax) (v:Value) (G:List ax) (w:World),NK A 3 v (dR [c])→Sat W0 (fy b d o cl be s::aj d D'::A::G) w→Calls Tryz.prog 41 #[ay b,v,.bool false] w fun y w'=>∃ ve,y=.returned ve∧Sat W0 (fy b d o cl be2 s2::aj d D2::aH ve e2::A::G) w')
 (hs:Sat W0 (fy b d o cl be s::aj d D::F) w) :
 Calls Tryz.prog 193 #[ay b,str lo,str hi,.agg (fQ c).toArray] w fun y w'=>∃ pv,y=.returned (.tuple #[pv,.int .i64 (gC e2:Int)])∧Sat W0 (gI pv (rr CL cl be2 (xh x) [])::fy b d o cl be2 s2::aj d D2::F) w':=by
 refine vB Tryz.func193 rfl Tryz.ntmps193 Tryz.results193 rfl ?_
 refine gx ?_
 refine bR hs ?_
 clear hs
 intro w b7 hs
 refine gx ?_
 refine ag (met (CJ h (F:=blk b7 100 [str c.key,str c.val,.bool c.del]::F) hs.to) ?_)
 clear hs
 rintro _ w ⟨av,rfl,hs⟩
 refine ⟨_,rfl,?_⟩
 refine gx ?_
 refine ia (fQ c) hs ?_
 clear hs
 intro w bl hs
 have hs:=Sat.dg (k:=3) (E:=100) (len:=1) (b:=bl) (cap:=1) (cs:=fQ c) (rest:=[]) (by rw [List.append_nil];exact hs) (by omega) (by decide) rfl rfl (fun u hu=>by simp [fQ] at hu;rcases hu with rfl|rfl|rfl<;>rfl)
 have hA:NK (aL 3 (.slice (some ⟨bl,0,none⟩) 1 1) 100 1 (fQ c)) 3 (.slice (some ⟨bl,0,none⟩) 1 1) (dR [c]):=by
  have:=Sat.Gm (k:=3) (E:=100) (rows:=dR [c]) (v:=.slice (some ⟨bl,0,none⟩) 1 1) (F:=Fg b av x::fy b d o cl be s::aj d D'::blk b7 100 [str c.key,str c.val,.bool c.del]::F) (w:=w) (W0:=W0) (fun r hr=>by simp [dR] at hr;subst hr;rfl) (by
   show Sat W0 (aL 3 _ 100 1 (dR [c]).flatten::_) w
   have e:(dR [c]).flatten=fQ c:=by simp [dR]
   rw [e];exact hs)
  have e:(dR [c]).flatten=fQ c:=by simp [dR]
  rw [e] at this
  exact this
 refine gx ?_
 refine ag (met (hW _ _ (Fg b av x::F) _ hA (hs.to)) ?_)
 clear hs
 rintro _ w ⟨ve,rfl,hs⟩
 refine ⟨_,rfl,?_⟩
 have h1:=Sat.As (hs.take (.there (.there .here)))
 refine gx ?_
 refine aS hs ?_
 clear hs
 intro w b12 hs
 have hs:=Sat.cH (k:=2) (E:=147) hs
 have hs:=Sat.ru (c:=b12) (v:=.slice none 0 0) (acc:=[]) (hs.to (a:=blk b12 74 [.slice none 0 0]::gI (.slice none 0 0) []::Fg b av x::fy b d o cl be2 s2::aj d D2::aH ve e2::F))
 refine gE ?_
 refine cV rfl ?_
 refine dV ?_
 refine dV ?_
 refine gE ?_
 refine cV rfl ?_
 refine gW ?_
 refine Ln (C:=fun k=>[Lo b12 k]) (body:=CL) (id:=0) (s0:=[]) (F:=aj d D2::aH ve e2::F) (x:=x) (fun i k=>k.length=i) rfl (fun i k p h=>by simp [CL,h]) rfl rfl rfl rfl rfl hs.to ?_ ?_
 ·clear hs
  intro i k p L rc G w hki hil hst hs
  dsimp only [List.cons_append,List.nil_append] at hs
  refine gx ?_
  refine qH hs hst fun w hs=>?_
  obtain ⟨pv,hs⟩:=Sat.uy (hs.take (.there .here))
  obtain ⟨ap,cp,rfl,-⟩:=(hs.take (.there .here)).aC
  refine gx ?_
  refine bz (gk p) ?_
  refine gx ?_
  refine ia (gk p) hs ?_
  clear hs
  intro w b2 hs
  refine gx ?_
  refine dM hs ?_
  clear hs
  intro v2 w hs
  obtain ⟨a7,c7,rfl,-⟩:=hs.aC
  refine gx ?_
  refine bK hs ?_
  clear hs
  intro w hs
  have e1:aL 2 (.slice a7 (k.length+1) c7) 147 (k.length+1) ((eQ k).flatten++gk p)=gI (.slice a7 (k.length+1) c7) (k++[p]):=by
   rw [← ng];show _=aL 2 _ 147 (k++[p]).length _;rw [List.length_append];rfl
  rw [e1] at hs
  refine gx ?_
  refine iy (hs.take (.there (.there .here))) fun w hs=>.inl ⟨rfl,rfl,?_⟩
  have hs:=Sat.ru (c:=b12) (v:=.slice a7 (k.length+1) c7) (acc:=k++[p]) (hs.to (a:=blk b12 74 [.slice a7 (k.length+1) c7]::gI (.slice a7 (k.length+1) c7) (k++[p])::ob false L (.loop { rc with state:=.ready,pending:=none })::G))
  exact hs.to
 ·clear hs
  intro x' Dk w hx' hs
  dsimp only [List.cons_append,List.nil_append] at hs
  obtain ⟨pv,hs⟩:=Sat.uy (hs.take (.there (.there .here)))
  obtain ⟨ap,cp,rfl,-⟩:=(hs.take (.there .here)).aC
  rcases hx' with rfl|rfl
  all_goals
   refine gx ?_
   refine bu [blk b12 74 [.slice ap (rr CL cl be2 (xh x) []).length cp]] [0] (.s 0 (.q 1 (.l 2 (.q 3 (.q 4 .nil))))) hs (by kernel_rfl) ?_
   clear hs
   intro w hs
   refine nP ?_
   refine ag (met (eA hE (hs.take (.there (.there (.there (.there (.there .here)))))) ) ?_)
   clear hs
   rintro _ w ⟨rfl,hs⟩
   refine ⟨_,rfl,?_⟩
   refine gx ?_
   refine cD hs.to ?_
   refine nP ?_
   refine gx ?_
   refine oZ (hs.take (.there (.there (.there .here)))) rfl ?_
   clear hs
   intro w hs
   exact ⟨_,rfl,hs.to⟩
end
end Go.Proofs.YtecibefflhomdaaGreatDoor
