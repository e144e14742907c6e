/-
  Part 46: WALKS package levels; WALKS package levels.
-/
import Derived.Test.YtecibefflhomdaaGreatDoorU45
set_option maxHeartbeats 8000000
set_option maxRecDepth 100000
set_option linter.all false
namespace Go.Proofs.YtecibefflhomdaaGreatDoor
open Go
section
open Go.Proofs.YtecibefflhomdaaGreatDoor.Pure (PDisk aget aput aget_put)
attribute [local irreducible] IntKind.wrap
variable {W0 w:World} {F:List HProp} {b d:Nat} {D D':PDisk} {K:SK} {z:SZ} {s:St}
theorem renew_spec {x:Except Err St} (h:renewS K.o s D=some (x,D')) (hW:PowW W0) (hs:Sat W0 (stD b K s::DiskA K.d D::F) w) :
 Calls Tryz.prog 49 #[idV b] w fun y w'=>∃ ve,y=.returned ve∧Sat W0 (stX b K x::DiskA K.d D'::errC ve (errX x)::F) w':=by
 unfold renewS at h
 refine enter Tryz.func49 rfl Tryz.ntmps49 Tryz.results49 rfl ?_
 obtain ⟨hl,z,hs⟩:=hs.sdOpen
 refine gx ?_
 refine w_call (met (len_spec (hs.take (.there (.there .here)))) ?_)
 clear hs
 rintro _ w ⟨rfl,hs⟩
 refine ⟨_,rfl,?_⟩
 by_cases hm:0<s.mem.length
 ·rw [if_pos hm] at h
  have hm':(s.mem.length:Int) > 0:=by omega
  have hs:=Sat.sdClose (z:=z) hl (hs.to (a:=blk b 133 (stCells K z s)::lvS K.d z s.levels::memC z.m s.mem::mapH keyI z.sn (snapsV s.snaps)::DiskA K.d D::F))
  refine gx ?_
  refine w_call (met (flush_spec' h hW hs) ?_)
  clear hs
  rintro _ w ⟨ve,rfl,hs⟩
  refine ⟨_,rfl,gx ?_⟩
  exact wq_ret rfl ⟨_,rfl,hs⟩
 ·rw [if_neg hm] at h
  have hm':¬ (s.mem.length:Int) > 0:=by omega
  refine gx ?_
  cases hcm:commitS s D true with
  | none=>rw [hcm] at h;cases h
  | some r=>
   obtain ⟨xc,D1⟩:=r
   rw [hcm] at h
   refine w_call (met (commit_s hcm hl hW (hs.to (a:=blk b 133 (stCells K z s)::lvS K.d z s.levels::DiskA K.d D::memC z.m s.mem::mapH keyI z.sn (snapsV s.snaps)::F))) ?_)
   clear hs hcm
   rintro _ w ⟨ve,s',rfl,hs',⟨nu,lo,hs2⟩,hs⟩
   refine ⟨_,rfl,?_⟩
   have hl3:s'.levels.length=4:=by rw [hs2];exact hl
   have hcl:Sat W0 (stD b K s'::DiskA K.d D1::errC ve (errX xc)::F) w:=by
    refine Sat.sdClose (z:=z) hl3 ?_
    have e1:s'.levels=s.levels:=by rw [hs2]
    have e2:s'.mem=s.mem:=by rw [hs2]
    have e3:s'.snaps=s.snaps:=by rw [hs2]
    rw [e1,e2,e3]
    exact hs.to
   clear hs
   cases xc with
   | error e=>
    simp only [bindO,Option.some.injEq,Prod.mk.injEq] at h
    obtain ⟨rfl,rfl⟩:=h
    obtain ⟨t,u,rfl⟩:=(hcl.take (.there (.there .here))).errIface
    refine gx ?_
    refine wq_ret rfl ⟨_,rfl,?_⟩
    exact Sat.stErr (e:=e) hcl
   | ok s3=>
    obtain rfl:=hs' s3 rfl
    simp only [bindO] at h
    have hve:=(hcl.take (.there (.there .here))).errIs
    subst hve
    refine gx ?_
    refine w_call (met (settle_spec h hW hcl) ?_)
    clear hcl
    rintro _ w ⟨ve,rfl,hs⟩
    refine ⟨_,rfl,gx ?_⟩
    exact wq_ret rfl ⟨_,rfl,hs.to⟩
theorem open_refused {m t:Nat} {dv:Value} (h:m<1∨32<m∨t<2∨6<t) (hs:Sat W0 F w) :
 Calls Tryz.prog 18 #[dv,.agg #[.int .i64 (m:Int),.int .i64 (t:Int)]] w fun y w'=>∃ ve,y=.returned (.tuple #[.pointer none,ve])∧Sat W0 (errC ve (some (none,1))::F) w':=by
 refine enter Tryz.func18 rfl Tryz.ntmps18 Tryz.results18 rfl ?_
 refine gx ?_
 refine w_box hs ?_
 clear hs
 intro w b3 hs
 by_cases h1:(m:Int)<1
 ·refine gx ?_
  exact wq_ret rfl ⟨_,rfl,(hs.drop.errNum (k:=1))⟩
 ·by_cases h2:(m:Int) > 32
  ·refine gx ?_
   exact wq_ret rfl ⟨_,rfl,(hs.drop.errNum (k:=1))⟩
  ·by_cases h3:(t:Int)<2
   ·refine gx ?_
    exact wq_ret rfl ⟨_,rfl,(hs.drop.errNum (k:=1))⟩
   ·have h4:(t:Int) > 6:=by omega
    refine gx ?_
    exact wq_ret rfl ⟨_,rfl,(hs.drop.errNum (k:=1))⟩
def opI (o:Opt):Nat→St→PDisk→Out St
 | 0,_,D=>openS o D
 | 1,s,D=>bindO (cleanS s D) fun s D=>renewS o s D
 | 2,s,D=>renewS o s D
 | _,s,D=>some (.ok s,D)
theorem opI_next {o:Opt} {i:Nat} {s:St} {D D':PDisk} {x:Except Err St} (h:opI o i s D=some (x,D')) (hi:i<3) :
 ∃ y D1,(match i with|0=>loadS D|1=>cleanS s D|_=>renewS o s D)=some (y,D1)∧((∃ e,y=.error e∧x=.error e∧D'=D1)∨∃ s1,y=.ok s1∧opI o (i+1) s1 D1=some (x,D')):=by
 have key:∀ (a:Out St) (k:St→PDisk→Out St),bindO a k=some (x,D')→∃ y D1,a=some (y,D1)∧((∃ e,y=.error e∧x=.error e∧D'=D1)∨∃ s1,y=.ok s1∧k s1 D1=some (x,D')):=by
  intro a k h
  cases a with
  | none=>cases h
  | some r=>
   obtain ⟨y,D1⟩:=r
   cases y with
   | error e=>simp only [bindO,Option.some.injEq,Prod.mk.injEq] at h;exact ⟨_,_,rfl,.inl ⟨e,rfl,h.1.symm,h.2.symm⟩⟩
   | ok s1=>exact ⟨_,_,rfl,.inr ⟨s1,rfl,h⟩⟩
 match i,hi with
 | 0,_=>exact key _ _ h
 | 1,_=>exact key _ _ h
 | 2,_=>
  refine ⟨x,D',h,?_⟩
  cases x with
  | error e=>exact .inl ⟨e,rfl,rfl,rfl⟩
  | ok s1=>exact .inr ⟨s1,rfl,rfl⟩
def openC (d:Nat) (o:Opt) (v:Value):Except Err St→HProp
 | .ok s=>fun h=>∃ b,v=idV b∧srC b d o false none s h
 | .error _=>fun _=>v=.pointer none
theorem lopen_spec {o:Opt} {x:Except Err St} (h1:1≤o.memory∧o.memory≤32) (h2:2≤o.tables∧o.tables≤6) (h:openS o D=some (x,D')) (hW:PowW W0) (hE:ErrW W0) (hs:Sat W0 (DiskA d D::F) w) :
 Calls Tryz.prog 18 #[idV d,.agg #[.int .i64 (o.memory:Int),.int .i64 (o.tables:Int)]] w fun y w'=>∃ pv ve,y=.returned (.tuple #[pv,ve])∧Sat W0 (openC d o pv x::DiskA d D'::errC ve (errX x)::F) w':=by
 refine enter Tryz.func18 rfl Tryz.ntmps18 Tryz.results18 rfl ?_
 have g1:¬ ((o.memory:Int)<1):=by omega
 have g2:¬ ((o.memory:Int) > 32):=by omega
 have g3:¬ ((o.tables:Int)<2):=by omega
 have g4:¬ ((o.tables:Int) > 6):=by omega
 refine gx ?_
 refine w_box hs ?_
 clear hs
 intro w b3 hs
 refine gx ?_
 refine w_build [.slice none 0 0] ?_
 refine w_box hs ?_
 clear hs
 intro w m hs
 refine gx ?_
 refine wl_makeMap hs rfl ?_
 clear hs
 intro w sn hs
 have hs:=hs.mapNew keyI
 refine gx ?_
 refine w_build (stCells (KS d o false .nilIface 0) ⟨m,.slice none 0 0,.slice none 0 0,.slice none 0 0,.slice none 0 0,sn⟩ st0) ?_
 refine w_box hs ?_
 clear hs
 intro w b hs
 refine gx ?_
 refine w_lit [.func (.func 47) #[idV b] #[],.func (.func 48) #[idV b] #[],.func (.func 49) #[idV b] #[]] hs ?_
 clear hs
 intro w bf hs
 have h0:Sat W0 (memC m []::lvS d ⟨m,.slice none 0 0,.slice none 0 0,.slice none 0 0,.slice none 0 0,sn⟩ [[],[],[],[]]::blk bf 107 [.func (.func 47) #[idV b] #[],.func (.func 48) #[idV b] #[],.func (.func 49) #[idV b] #[]]::blk b 133 (stCells (KS d o false .nilIface 0) ⟨m,.slice none 0 0,.slice none 0 0,.slice none 0 0,.slice none 0 0,sn⟩ st0)::mapH keyI sn []::DiskA d D::F) w:=by
  have h2:=Sat.lvNil (d:=d) (Sat.lvNil (d:=d) (Sat.lvNil (d:=d) (Sat.lvNil (d:=d) hs)))
  have h3:=h2.lvJoin (z:=⟨m,.slice none 0 0,.slice none 0 0,.slice none 0 0,.slice none 0 0,sn⟩) (t0:=[]) (t1:=[]) (t2:=[]) (t3:=[])
  have h4:=Sat.ownNil (k:=4) (E:=256) h3
  have h5:=Sat.memClose (m:=m) (v:=.slice none 0 0) (l:=[]) (h4.to (a:=blk m 120 [.slice none 0 0]::entS (.slice none 0 0) []::lvS d ⟨m,.slice none 0 0,.slice none 0 0,.slice none 0 0,.slice none 0 0,sn⟩ [[],[],[],[]]::blk bf 107 [.func (.func 47) #[idV b] #[],.func (.func 48) #[idV b] #[],.func (.func 49) #[idV b] #[]]::blk b 133 (stCells (KS d o false .nilIface 0) ⟨m,.slice none 0 0,.slice none 0 0,.slice none 0 0,.slice none 0 0,sn⟩ st0)::mapH keyI sn []::DiskA d D::F))
  exact h5
 clear hs
 have hs:=Sat.sdClose (K:=KS d o false .nilIface 0) (z:=⟨m,.slice none 0 0,.slice none 0 0,.slice none 0 0,.slice none 0 0,sn⟩) (s:=st0) (b:=b) rfl (h0.to (a:=blk b 133 (stCells (KS d o false .nilIface 0) ⟨m,.slice none 0 0,.slice none 0 0,.slice none 0 0,.slice none 0 0,sn⟩ st0)::lvS d ⟨m,.slice none 0 0,.slice none 0 0,.slice none 0 0,.slice none 0 0,sn⟩ [[],[],[],[]]::memC m []::mapH keyI sn []::DiskA d D::blk bf 107 [.func (.func 47) #[idV b] #[],.func (.func 48) #[idV b] #[],.func (.func 49) #[idV b] #[]]::F))
 clear h0
 refine gx ?_
 refine wc_loop (α:=Nat×St×PDisk) (fun q=>[(6,idV b),(42,.slice (some ⟨bf,0,none⟩) 3 3),(43,.int .i64 3),(44,.int .i64 (q.1:Int))])
  (fun q w=>(q.1≤3∧(q.1=0→q.2.1=st0)∧opI o q.1 q.2.1 q.2.2=some (x,D'))∧Sat W0 (stD b (KS d o false .nilIface 0) q.2.1::DiskA d q.2.2::blk bf 107 [.func (.func 47) #[idV b] #[],.func (.func 48) #[idV b] #[],.func (.func 49) #[idV b] #[]]::F) w) (fun q=>3-q.1) (0,st0,D) ⟨rfl,rfl,rfl,rfl,trivial⟩ ⟨⟨Nat.zero_le _,fun _=>rfl,h⟩,hs⟩ ?_
 clear hs h
 rintro ⟨i,s,D1⟩ w ⟨⟨hi,hi0,h⟩,hs⟩
 dsimp only at hi hi0 h hs ⊢
 by_cases hlt:i<3
 ·have hint:((i:Int)<3):=by omega
  obtain ⟨y,D2,hy,hr⟩:=opI_next h hlt
  have hend:∀ (ve:Value) (w:World),Sat W0 (stX b (KS d o false .nilIface 0) y::DiskA d D2::errC ve (errX y)::blk bf 107 [.func (.func 47) #[idV b] #[],.func (.func 48) #[idV b] #[],.func (.func 49) #[idV b] #[]]::F) w →
   (∃ e,y=.error e∧Sat W0 (openC d o (.pointer none) x::DiskA d D'::errC ve (errX x)::F) w)∨∃ s1,y=.ok s1∧ve=.nilIface∧opI o (i+1) s1 D2=some (x,D')∧Sat W0 (stD b (KS d o false .nilIface 0) s1::DiskA d D2::blk bf 107 [.func (.func 47) #[idV b] #[],.func (.func 48) #[idV b] #[],.func (.func 49) #[idV b] #[]]::F) w:=by
   intro ve w hs
   rcases hr with ⟨e,rfl,rfl,rfl⟩|⟨s1,rfl,hr⟩
   ·refine .inl ⟨e,rfl,?_⟩
    have h2:=hs.to (a:=DiskA d D'::errC ve (errX (.error e:Except Err St))::F)
    exact h2.imp fun hp r=>⟨fun _=>none,hp,fun _ _ _ hx=>(by cases hx),fun _ _ hx=>(by cases hx),Hp.le_refl _,rfl,r⟩
   ·have hve:=(hs.take (.there (.there .here))).errIs
    exact .inr ⟨s1,rfl,hve,hr,hs.to⟩
  obtain ⟨f,hf1,hf2,hcall⟩:∃ f,([.func (.func 47) #[idV b] #[],.func (.func 48) #[idV b] #[],.func (.func 49) #[idV b] #[]]:List Value)[0+i*1]?=some (.func (.func f) #[idV b] #[])∧lk tFun f=some () ∧
   Calls Tryz.prog f #[idV b] w fun z w'=>∃ ve,z=.returned ve∧Sat W0 (stX b (KS d o false .nilIface 0) y::DiskA d D2::errC ve (errX y)::blk bf 107 [.func (.func 47) #[idV b] #[],.func (.func 48) #[idV b] #[],.func (.func 49) #[idV b] #[]]::F) w':=by
   match i,hlt,hi0,hy with
   | 0,_,hi0,hy=>
    have:=hi0 rfl
    subst this
    exact ⟨47,rfl,rfl,load_spec (K:=KS d o false .nilIface 0) hy hE hs⟩
   | 1,_,_,hy=>exact ⟨48,rfl,rfl,clean_spec (K:=KS d o false .nilIface 0) hy hs⟩
   | 2,_,_,hy=>exact ⟨49,rfl,rfl,renew_spec (K:=KS d o false .nilIface 0) hy hW hs⟩
  refine gx ?_
  refine wl_ixn (i:=i) rfl rfl rfl rfl rfl hlt rfl ?_
  refine wl_ld hs rfl rfl (.there (.there .here)) hf1 rfl ?_
  refine gx ?_
  refine wl_callv rfl hf2 rfl rfl (met hcall ?_)
  clear hs hcall
  rintro _ w ⟨ve,rfl,hs⟩
  refine ⟨_,rfl,?_⟩
  cases y with
  | error e=>
   obtain ⟨t,u,rfl⟩:=(hs.take (.there (.there .here))).errIface
   rcases hend _ w hs with ⟨e',_,hs⟩|⟨s1,h1,_⟩
   ·refine gx ?_
    exact wq_ret rfl ⟨_,_,rfl,hs⟩
   ·cases h1
  | ok s2=>
   rcases hend _ w hs with ⟨e',h1,_⟩|⟨s1,h1,rfl,h3,h4⟩
   ·cases h1
   ·cases h1
    clear hs
    refine gx ?_
    exact wq_round (i+1,s2,D2) ⟨rfl,rfl,rfl,rfl,trivial⟩ ⟨⟨hlt,fun hh=>(by omega),h3⟩,h4⟩ (by show 3-(i+1)<3-i;omega)
 ·have hie:i=3:=by omega
  subst hie
  simp only [opI,Option.some.injEq,Prod.mk.injEq] at h
  obtain ⟨rfl,rfl⟩:=h
  refine gx ?_
  refine wq_ret rfl ⟨_,_,rfl,?_⟩
  have hs:=Sat.errNil hs
  have hs:=Sat.errNil hs
  have hs:=Sat.srShut (o:=o) (cl:=false) (be:=none) (br:=.nilIface) (hs.to (a:=stD b (KS d o false .nilIface 0) s::errC .nilIface none::DiskA d D1::errC .nilIface none::F))
  exact hs.head fun _ k=>⟨b,rfl,k⟩
end
section
open Go.Proofs.YtecibefflhomdaaGreatDoor.Pure (PDisk)
attribute [local irreducible] IntKind.wrap
variable {W0 w:World} {F:List HProp} {v:Value} {b d:Nat} {o:Opt} {cl:Bool} {be:Option Err} {s:St} {D D':PDisk}
theorem openF_spec {a3:Nat} (hs:Sat W0 (blk a3 31 [idV b]::srC b d o cl be s::F) w) :
 Calls Tryz.prog 216 #[idV a3] w fun y w'=>y=.returned (.bool (begX cl be).isNone)∧Sat W0 (blk a3 31 [idV b]::srC b d o cl be s::F) w':=by
 obtain ⟨hl,br,z,hs⟩:=(hs.take (.there .here)).srOpen
 refine enterD Tryz.func216 rfl Tryz.ntmps216 Tryz.results216 rfl ?_
 refine gx ?_
 refine wl_lock hs ?_
 clear hs
 intro w hs
 have hs:Sat W0 (blk b 133 (stCells (KS d o cl br 1) z s)::errC br be::lvS d z s.levels::memC z.m s.mem::mapH keyI z.sn (snapsV s.snaps)::blk a3 31 [idV b]::F) w:=hs
 refine gx ?_
 refine wl_defer rfl ?_
 refine gx ?_
 refine w_call (met (begin_spec (K:=KS d o cl br 1) (be:=be) hs) ?_)
 clear hs
 rintro _ w ⟨ve,rfl,hs⟩
 refine ⟨_,rfl,?_⟩
 have hb:begE (KS d o cl br 1) be=begX cl be:=rfl
 rw [hb] at hs
 cases hbx:begX cl be with
 | some e=>
  rw [hbx] at hs
  obtain ⟨t,u,rfl⟩:=hs.errIface
  refine gx ?_
  refine wq_retU (.inl rfl) hs ?_
  clear hs
  intro w hs
  have hs:=Sat.srClose (z:=z) hl (hs.to (a:=blk b 133 (stCells (KS d o cl br 0) z s)::lvS d z s.levels::memC z.m s.mem::mapH keyI z.sn (snapsV s.snaps)::errC br be::blk a3 31 [idV b]::F))
  exact ⟨rfl,hs.to⟩
 | none=>
  rw [hbx] at hs
  have hve:=hs.errIs
  subst hve
  refine gx ?_
  refine wq_retU (.inl rfl) hs ?_
  clear hs
  intro w hs
  have hs:=Sat.srClose (z:=z) hl (hs.to (a:=blk b 133 (stCells (KS d o cl br 0) z s)::lvS d z s.levels::memC z.m s.mem::mapH keyI z.sn (snapsV s.snaps)::errC br be::blk a3 31 [idV b]::F))
  exact ⟨rfl,hs.to⟩
def allC (b:Nat) (v:Value) (x:Except Err (List (Bs×Bs))):HProp:=fun h=>∃ a3 a7 a8 a9 pv ve,v=.func (.func 217) #[] #[idV a7,idV a8,idV a9]∧sepL [blk a7 74 [pv],blk a8 41 [ve],blk a9 24 [.func (.func 216) #[] #[idV a3]],blk a3 31 [idV b],pairX pv x,errC ve (errX x)] h
theorem all_spec {lo hi:Bs} {x:Except Err (List (Bs×Bs))} (h:scanPP cl be s D lo hi 0=some (x,D')) (hs:Sat W0 (srC b d o cl be s::DiskA d D::F) w) :
 Calls Tryz.prog 185 #[idV b,str lo,str hi] w fun y w'=>∃ av,y=.returned av∧Sat W0 (allC b av x::srC b d o cl be s::DiskA d D'::F) w':=by
 refine enter Tryz.func185 rfl Tryz.ntmps185 Tryz.results185 rfl ?_
 refine gx ?_
 refine w_box hs ?_
 clear hs
 intro w a3 hs
 refine gx ?_
 refine w_call (met (scanPP_spec h (F:=blk a3 31 [idV b]::F) hs.to) ?_)
 clear hs
 rintro _ w ⟨pv,ve,rfl,hs⟩
 refine ⟨_,rfl,?_⟩
 refine gx ?_
 refine w_alloc hs ?_
 clear hs
 intro w a7 hs
 refine gx ?_
 refine w_alloc hs ?_
 clear hs
 intro w a8 hs
 have h1:isOne pv=true:=by
  have:=(hs.take (.there (.there .here))).pure1 (φ:=isOne pv=true) fun _ k=>by
   cases x with
   | ok l=>
    obtain ⟨_,_,k|⟨_,_,_,rfl,_⟩⟩:=k
    ·obtain ⟨rfl,_⟩:=k;rfl
    ·rfl
   | error e=>have k:pv=.slice none 0 0:=k;subst k;rfl
  exact this
 have h2:isOne ve=true:=Sat.errOne (hs.take (.there (.there (.there (.there (.there .here))))))
 refine gx ?_
 refine w_st hs (h1:=h1) ?_
 clear hs
 intro w hs
 refine gx ?_
 refine w_st hs (h1:=h2) ?_
 clear hs
 intro w hs
 refine gx ?_
 refine w_alloc hs ?_
 clear hs
 intro w a9 hs
 refine gx ?_
 refine w_st hs ?_
 clear hs
 intro w hs
 refine gx ?_
 refine wq_ret rfl ⟨_,rfl,?_⟩
 exact Sat.close (B:=[blk a7 74 [pv],blk a8 41 [ve],blk a9 24 [.func (.func 216) #[] #[idV a3]],blk a3 31 [idV b],pairX pv x,errC ve (errX x)]) hs.to fun hp k=>⟨a3,a7,a8,a9,pv,ve,rfl,k⟩
def allF {σ:Type} (body:σ→Bs×Bs→σ×Bool):List (Bs×Bs)→σ→σ
 | [],s=>s
 | p::r,s=>if (body s p).2=true then allF body r (body s p).1 else (body s p).1
def allE {σ:Type} (body:σ→Bs×Bs→σ×Bool) (cl:Bool) (be:Option Err) (ps:List (Bs×Bs)) (s:σ):σ:=if begX cl be=none then allF body ps s else s
theorem Sat.allOpen {x:Except Err (List (Bs×Bs))} (h:Sat W0 (allC b v x::F) w):∃ a3 a7 a8 a9 pv ve,v=.func (.func 217) #[] #[idV a7,idV a8,idV a9]∧Sat W0 (blk a7 74 [pv]::blk a8 41 [ve]::blk a9 24 [.func (.func 216) #[] #[idV a3]]::blk a3 31 [idV b]::pairX pv x::errC ve (errX x)::F) w:=by
 obtain ⟨⟨a3,a7,a8,a9,pv,ve⟩,hv,hs⟩:=h.open1 (φ:=fun z:Nat×Nat×Nat×Nat×Value×Value=>v=.func (.func 217) #[] #[idV z.2.1,idV z.2.2.1,idV z.2.2.2.1])
  (B:=fun z=>[blk z.2.1 74 [z.2.2.2.2.1],blk z.2.2.1 41 [z.2.2.2.2.2],blk z.2.2.2.1 24 [.func (.func 216) #[] #[idV z.1]],blk z.1 31 [idV b],pairX z.2.2.2.2.1 x,errC z.2.2.2.2.2 (errX x)]) fun hp ⟨a3,a7,a8,a9,pv,ve,hv,k⟩=>⟨⟨a3,a7,a8,a9,pv,ve⟩,hv,k⟩
 exact ⟨a3,a7,a8,a9,pv,ve,hv,hs⟩
theorem pairs_at {ps:List (Bs×Bs)} {i:Nat} {p:Bs×Bs} (h:ps[i]?=some p):(pairsC ps).flatten[i*2]?=some (str p.1)∧(pairsC ps).flatten[i*2+1]?=some (str p.2):=by
 have hk:∀ r∈pairsC ps,r.length=2:=fun r hr=>by obtain ⟨x,_,rfl⟩:=List.mem_map.1 hr;rfl
 have h1:=rows_seg hk (r:=pairC p) (i:=i) (by unfold pairsC;rw [List.getElem?_map,h];rfl)
 exact ⟨h1.1,h1.2.1⟩
theorem wc_all {Q:Exit→Act→World→Prop} {n:Nat} {ds:Md} {e:Env} {g:Operand} {pt1 pt2:Tmp} {asg bd:Code} {σ:Type} {body:σ→Bs×Bs→σ×Bool} {C:σ→List HProp} {id:Nat} {s0:σ} {ps:List (Bs×Bs)} {x:Except Err (List (Bs×Bs))} {av:Value}
 (Iv:Nat→σ→Prop) (hI0:Iv 0 s0) (hI:∀ i s p,Iv i s→Iv (i+1) (body s p).1) (hps:okL x=ps) (hr:ds.round=none) (hp1:Nat.blt pt1 n=true) (hp2:Nat.blt pt2 n=true) (hg:ev e g=some av)
 (hs:Sat W0 (allC b av x::srC b d o cl be s::(C s0++F)) w)
 (kb:∀ i s p L rc G w,Iv i s→i<ps.length→rc.state=.ready→Sat W0 (ob false L (.loop rc)::(C s++G)) w →
   WC asg (BegQ L bd fun y w'=>((body s p).2=true∧y=.returned (.bool true)∧Sat W0 (ob false L (.loop { rc with state:=.ready,pending:=none })::(C (body s p).1++G)) w') ∨
    ((body s p).2=false∧y=.returned (.bool false)∧Sat W0 (ob false L (.loop { rc with state:=.done,pending:=some (.exit id) })::(C (body s p).1++G)) w')) n ⟨some L,[]⟩ ((pt2,str p.2)::(pt1,str p.1)::e) w)
 (ke:∀ x Dk w,x=.normal∨x=.exit id→Sat W0 (ob false Dk (.deferred (some []))::srC b d o cl be s::(C (allE body cl be ps s0)++F)) w→WQ Q x n ⟨none,markOf Dk::ds.ds⟩ e w) :
 WC (.rangeFunc g #[pt1,pt2] asg bd) Q n ds e w:=by
 obtain ⟨a3,a7,a8,a9,pv,ve,rfl,h2⟩:=hs.allOpen
 clear hs
 have hs:=h2
 clear h2
 have hve:ps≠[]→ve=.nilIface:=by
  intro hne
  cases x with
  | ok l=>exact (hs.take (.there (.there (.there (.there (.there .here)))))).errIs
  | error e=>exact absurd hps.symm hne
 have hs:Sat W0 (blk a7 74 [pv]::blk a8 41 [ve]::blk a9 24 [.func (.func 216) #[] #[idV a3]]::blk a3 31 [idV b]::pairS pv ps::errC ve (errX x)::srC b d o cl be s::(C s0++F)) w:=by
  cases x with
  | ok l=>have hps:l=ps:=hps;subst hps;exact hs
  | error e=>
   have hps:[]=ps:=hps
   subst hps
   have hp:=(hs.take (.there (.there (.there (.there .here))))).pure1 (φ:=pv=.slice none 0 0) fun _ k=>k
   subst hp
   have h2:=Sat.ownNil (k:=2) (E:=147) hs
   exact h2.to
 clear hps
 refine wc_range (uu:=()) hr hs hg rfl fun fn tm L Dk w1 hsz hget hs=>?_
 refine enter (args:=[.func (.yield L) #[] #[],idV a7,idV a8,idV a9]) Tryz.func217 rfl Tryz.ntmps217 Tryz.results217 rfl ?_
 generalize hrc:({ state:=.ready,pending:=none,fn:=fn,tmps:=tm,params:=#[pt1,pt2],assign:=asg,body:=bd,defers:=Dk }:Loop)=rc at *
 obtain ⟨al,cap,rfl,hc1,hc2⟩:=(hs.take (.there (.there (.there (.there (.there (.there .here))))))).ownShape
 have hpl:ps.length≤9223372036854775807:=by simp only [maxLen] at hc2;omega
 generalize hfin:allE body cl be ps s0=s1 at ke
 refine gx ?_
 refine wc_loop (α:=Nat×σ) (fun z=>[(0,.func (.yield L) #[] #[]),(1,idV a7),(2,idV a8),(3,idV a9),(7,.slice al ps.length cap),(8,.int .i64 (ps.length:Int)),(9,.int .i64 (z.1:Int))])
  (fun z w=>(Iv z.1 z.2∧z.1≤ps.length∧allE body cl be (ps.drop z.1) z.2=s1∧(begX cl be=none∨z.1=0))∧Sat W0 (ob false L (.loop rc)::ob false Dk (.deferred (some []))::blk a7 74 [.slice al ps.length cap]::blk a8 41 [ve]::blk a9 24 [.func (.func 216) #[] #[idV a3]]::blk a3 31 [idV b]::pairS (.slice al ps.length cap) ps::srC b d o cl be s::(C z.2++F)) w) (fun z=>ps.length-z.1) (0,s0) ⟨rfl,rfl,rfl,rfl,rfl,rfl,rfl,trivial⟩ ⟨⟨hI0,Nat.zero_le _,hfin,.inr rfl⟩,hs.to⟩ ?_
 clear hs hfin
 rintro ⟨i,s'⟩ w ⟨⟨hIv,hi,hfin,hbg⟩,hs⟩
 dsimp only at hIv hi hfin hbg hs ⊢
 have hret:∀ (s2:σ) (rc2:Loop) (w:World),s2=s1→((rc2=rc)∨rc2={ rc with state:=.done,pending:=some (.exit id) })→Sat W0 (ob false L (.loop rc2)::ob false Dk (.deferred (some []))::srC b d o cl be s::(C s2++F)) w →
  ∃ v,Ending.returned (.tuple #[])=.returned v∧∃ (rc:Loop) (l3:List HProp),Sat W0 (ob false L (.loop rc)::l3) w∧(rc.state==.busy)=false ∧
   ((rc.pending=none∧∀ w4,Sat W0 (ob false L (.loop { rc with state:=.exhausted })::l3) w4→WQ Q .normal n ⟨none,markOf Dk::ds.ds⟩ e w4) ∨
    ∃ id,rc.pending=some (.exit id)∧∀ w4,Sat W0 (ob false L (.loop { rc with state:=.exhausted })::l3) w4→WQ Q (.exit id) n ⟨none,markOf Dk::ds.ds⟩ e w4):=by
  intro s2 rc2 w he hrc2 h7
  subst he
  rcases hrc2 with h8|h8
  ·exact ⟨_,rfl,rc2,_,h7,by rw [h8,← hrc];rfl,.inl ⟨by rw [h8,← hrc],fun w4 h4=>ke .normal Dk w4 (.inl rfl) h4.drop⟩⟩
  ·exact ⟨_,rfl,rc2,_,h7,by rw [h8];rfl,.inr ⟨id,by rw [h8],fun w4 h4=>ke (.exit id) Dk w4 (.inr rfl) h4.drop⟩⟩
 by_cases hlt:i<ps.length
 ·have hg:ps[i]?=some ps[i]:=List.getElem?_eq_getElem hlt
  have hdr:ps.drop i=ps[i]::ps.drop (i+1):=List.drop_eq_getElem_cons hlt
  generalize ps[i]=p at hg hdr
  obtain ⟨bq,cap2,rs,hv,q1,q2,q3,hs2⟩:=(hs.take (.there (.there (.there (.there (.there (.there .here))))))).ownPos (by omega)
  obtain ⟨rfl,_,rfl⟩:=Value.slice.inj hv
  obtain ⟨e1,e2⟩:=pairs_at hg
  have hseg:Seg ((pairsC ps).flatten++rs) (0+i*2) (pairC p):=by
   have hl:=List.getElem?_eq_some_iff.1 e2
   refine ⟨?_,?_,trivial⟩
   ·rw [Nat.zero_add,List.getElem?_append_left (by have:=hl.1;omega)];exact e1
   ·rw [Nat.zero_add,List.getElem?_append_left hl.1];exact e2
  have hve:=hve (fun hn=>by rw [hn] at hlt;simp at hlt)
  subst hve
  refine gx ?_
  refine wl_ixn (i:=i) rfl rfl rfl rfl rfl hlt rfl ?_
  refine wl_ldN (pairC p) hs2 rfl rfl rfl .here hseg rfl ?_
  clear hs2
  refine gx ?_
  refine w_alloc hs ?_
  clear hs
  intro w b6 hs
  refine gx ?_
  refine w_stN (vs:=pairC p) hs ?_
  clear hs
  intro w hs
  refine gxs ?_
  refine wq_then rfl ?_
  refine wc_seq ?_
  refine wc_regionI rfl ?_
  refine goi ?_
  refine wli_one ?_
  refine wl_gT rfl ?_
  refine wl_callv rfl rfl rfl rfl (met (openF_spec (hs.to (a:=blk a3 31 [idV b]::srC b d o cl be s::blk b6 147 (pairC p)::ob false L (.loop rc)::ob false Dk (.deferred (some []))::blk a7 74 [.slice (some ⟨bq,0,none⟩) ps.length cap]::blk a8 41 [.nilIface]::blk a9 24 [.func (.func 216) #[] #[idV a3]]::pairS (.slice (some ⟨bq,0,none⟩) ps.length cap) ps::(C s'++F)))) ?_)
  clear hs
  rintro _ w ⟨rfl,hs⟩
  refine ⟨_,rfl,?_⟩
  by_cases hbx:begX cl be=none
  ·rw [hbx]
   dsimp only [Option.isNone]
   unfold allE at hfin
   rw [if_pos hbx,hdr] at hfin
   unfold allF at hfin
   refine goi ?_
   refine wli_gT rfl ?_
   have hs:=Sat.swapApp (X:=[blk b6 147 (pairC p),ob false Dk (.deferred (some [])),blk a7 74 [.slice (some ⟨bq,0,none⟩) ps.length cap],blk a8 41 [.nilIface],blk a9 24 [.func (.func 216) #[] #[idV a3]],blk a3 31 [idV b],pairS (.slice (some ⟨bq,0,none⟩) ps.length cap) ps,srC b d o cl be s]) (Y:=ob false L (.loop rc)::C s') (F:=F) (hs.to (a:=blk b6 147 (pairC p)::ob false Dk (.deferred (some []))::blk a7 74 [.slice (some ⟨bq,0,none⟩) ps.length cap]::blk a8 41 [.nilIface]::blk a9 24 [.func (.func 216) #[] #[idV a3]]::blk a3 31 [idV b]::pairS (.slice (some ⟨bq,0,none⟩) ps.length cap) ps::srC b d o cl be s::ob false L (.loop rc)::(C s'++F)))
   have hst:rc.state=.ready:=by rw [← hrc]
   have hk:=kb i s' p L rc _ w hIv hlt hst hs
   have hIn:=hI i s' p hIv
   refine wli_yield hs rfl rfl (by rw [← hrc];rfl) rfl ?_
   have hset:∀ (tm:Array Value) (e:Env) (pt:Nat) (u:Value),tm.size=n→pt<n→(∀ t v,lk e t=some v→tm[t]?=some v)→∀ t v,lk ((pt,u)::e) t=some v→(tm.setIfInBounds pt u)[t]?=some v:=by
    intro tm e pt u hsz hd' hget t v hv
    unfold lk at hv
    cases hk:Nat.beq pt t with
    | true=>
     rw [hk] at hv
     simp only [cond_true,Option.some.injEq] at hv
     subst hv
     have:=Nat.eq_of_beq_eq_true hk
     subst this
     simp [hsz,hd']
    | false=>
     rw [hk] at hv
     have hne:pt≠t:=Nat.ne_of_beq_eq_false hk
     rw [Array.getElem?_setIfInBounds_ne hne]
     exact hget t v hv
   have hround:=round_go (n:=n) (e:=(pt2,str p.2)::(pt1,str p.1)::e) (tm:=(tm.setIfInBounds pt1 (str p.1)).setIfInBounds pt2 (str p.2)) (fn:=fn) (by simp [hsz]) (hset _ _ pt2 (str p.2) (by simp [hsz]) (by simpa [Nat.blt_eq] using hp2) (hset tm e pt1 (str p.1) hsz (by simpa [Nat.blt_eq] using hp1) hget)) hk
   have efold:(rc.params.zip ([str p.1,str p.2]:List Value).toArray).foldl (fun tmps (t,a)=>tmps.setIfInBounds t a) rc.tmps=(tm.setIfInBounds pt1 (str p.1)).setIfInBounds pt2 (str p.2):=by rw [← hrc];simp
   have e1:rc.fn=fn:=by rw [← hrc]
   have e2:rc.assign=asg:=by rw [← hrc]
   have e3:rc.body=bd:=by rw [← hrc]
   have e4:({ rc with state:=.ready,pending:=none }:Loop)=rc:=by rw [← hrc]
   show RoundIn Fence.wide 0 Tryz.prog L rc.fn ((rc.params.zip ([str p.1,str p.2]:List Value).toArray).foldl (fun tmps (t,a)=>tmps.setIfInBounds t a) rc.tmps) rc.assign rc.body w _
   rw [efold,e1,e2,e3]
   refine hround.mono ?_
   generalize hbd:body s' p=bp at hfin hIn
   obtain ⟨s2,c⟩:=bp
   rintro y w' (⟨hc,rfl,hs⟩|⟨hc,rfl,hs⟩)
   ·refine ⟨_,rfl,?_⟩
    rw [e4] at hs
    dsimp only at hc hs hfin
    rw [if_pos hc] at hfin
    have hs:=Sat.swapApp (X:=ob false L (.loop rc)::C s2) (F:=F) hs
    refine goi ?_
    refine gx ?_
    refine wq_round (i+1,s2) ⟨rfl,rfl,rfl,rfl,rfl,rfl,rfl,trivial⟩ ⟨⟨hIn,hlt,by unfold allE;rw [if_pos hbx];exact hfin,.inl rfl⟩,hs.to⟩ (by show _-(i+1)<_-i;omega)
   ·refine ⟨_,rfl,?_⟩
    dsimp only at hc hs hfin
    rw [if_neg (by rw [hc];simp)] at hfin
    have hs:=Sat.swapApp (X:=ob false L (.loop { rc with state:=.done,pending:=some (.exit id) })::C s2) (F:=F) hs
    refine goi ?_
    refine gx ?_
    exact wq_ret rfl (hret s2 _ _ hfin (.inr rfl) hs.to)
  ·have hi0:i=0:=hbg.resolve_left hbx
   subst hi0
   have hfin:s'=s1:=by
    unfold allE at hfin
    rw [if_neg hbx] at hfin
    exact hfin
   have hno:(begX cl be).isNone=false:=by
    cases hh:begX cl be with
    | none=>exact absurd hh hbx
    | some _=>rfl
   rw [hno]
   refine goi ?_
   refine wli_one ?_
   refine wl_gF rfl rfl rfl ?_
   refine goi ?_
   refine gx ?_
   exact wq_ret rfl (hret s' rc _ hfin (.inl rfl) hs.to)
 ·have hie:i=ps.length:=by omega
  subst hie
  have hfin:s'=s1:=by
   rw [List.drop_length] at hfin
   unfold allE at hfin
   split at hfin<;>exact hfin
  have hnl:¬ ((ps.length:Int)<(ps.length:Int)):=by omega
  refine gx ?_
  exact wq_end rfl (hret s' rc w hfin (.inl rfl) hs.to)
end
end Go.Proofs.YtecibefflhomdaaGreatDoor
