/-
  Part 44: WALKS the statements' world; PLAIN LAWS the statements' world beside the document's; WALKS the statements' world.
-/
import Derived.Test.YtecibefflhomdaaGreatDoorV43
set_option maxHeartbeats 8000000
set_option maxRecDepth 100000
set_option linter.all false
namespace Go.Proofs.YtecibefflhomdaaGreatDoor
open Go
section
open Go.Proofs.YtecibefflhomdaaGreatDoor.Pure (ae cG aR bE bB jh jf)
attribute [local irreducible] IntKind.wrap
section
variable {ops:Array Oper} {Q:Exit→Act→World→Prop} {n:Nat} {ds:Md} {e:Env} {w w':World} {rest:List Oper}
variable {op:Op} {ty:TypeId} {pos:String} {af:Array Edge} {d:Nat} {v u:Value}
attribute [local semireducible] WL WC WQ
theorem CN (k:Nat) (p q:Bool) (w:World):(Op.equalIn (k+1) 4 (.bool p) (.bool q)).run Tryz.prog w=.ok (p==q) w:=by
 unfold Op.equalIn
 simp only [Sem.run_bind,cE Tryz.underlying4,Result.andThen_ok]
 rfl
theorem CO (p q:Bool) (w:World):(Op.equal 4 (.bool p) (.bool q)).run Tryz.prog w=.ok (p==q) w:=CN 9999 p q w
theorem Lp {t2:TypeId} {x y:Operand} {p q:Bool} (b:Bool) (hx:ev e x=some (.bool p)) (hy:ev e y=some (.bool q)) (hb:(p==q)=b) (hd:Nat.blt d n=true)
 (k:WL ops Q n ds rest ((d,.bool b)::e) w):WL ops Q n ds (⟨some d,.binOp .eql 4 x y t2,ty,pos,af,none⟩::rest) e w:=by
 refine wE (vx:=.bool p) (vy:=.bool q) hx hy (by simp [eqGuard]) ?_ hd k
 subst hb
 simp [Go.binOp,CO]
theorem Lq {t2:TypeId} {x y:Operand} {p q:Bool} (b:Bool) (hx:ev e x=some (.bool p)) (hy:ev e y=some (.bool q)) (hb:(!(p==q))=b) (hd:Nat.blt d n=true)
 (k:WL ops Q n ds rest ((d,.bool b)::e) w):WL ops Q n ds (⟨some d,.binOp .neq 4 x y t2,ty,pos,af,none⟩::rest) e w:=by
 refine wE (vx:=.bool p) (vy:=.bool q) hx hy (by simp [eqGuard]) ?_ hd k
 subst hb
 simp [Go.binOp,CO]
end
variable {W0 w:World} {F:List ax} {v:Value} {rb:Nat} {r:mM}
theorem Ax (a:Int):IntKind.u64.wrap a=(((IntKind.u64.wrap a).toNat:Nat):Int):=by
 rw [IntKind.wrap_u64]
 omega
def oI (a:Int) (k:Nat):Nat:=(IntKind.u64.wrap a).toNat%k
theorem wO {a k:Nat} (h:a<k) (h2:a≤1000):oI (a:Int) k=a:=by
 unfold oI
 rw [IntWalk.u64_in _ (by omega)]
 rw [Int.toNat_natCast,Nat.mod_eq_of_lt h]
theorem uz (a:Int) {k:Nat} (h:0<k):oI a k<k:=Nat.mod_lt _ h
theorem Lr {a b:Int} (hs:Sat W0 F w) :
 Calls Tryz.prog 126 #[.int .i64 a,.int .i64 b] w fun x w'=>x=.returned (.tuple #[.int .i64 (oI a 34:Int),.int .i64 (oI b 8:Int)])∧Sat W0 F w':=by
 have h1:=uz a (k:=34) (by decide)
 have h2:=uz b (k:=8) (by decide)
 refine enter Tryz.func126 rfl Tryz.ntmps126 Tryz.results126 rfl ?_
 refine gy ?_
 refine kY (N:=(IntKind.u64.wrap a).toNat) (M:=34) rfl rfl (Ax a) rfl (by decide) rfl ?_
 show WL _ _ _ _ _ ((_,.int .u64 (oI a 34:Int))::_) _
 refine gy ?_
 refine kY (N:=(IntKind.u64.wrap b).toNat) (M:=8) rfl rfl (Ax b) rfl (by decide) rfl ?_
 show WL _ _ _ _ _ ((_,.int .u64 (oI b 8:Int))::_) _
 refine gy ?_
 exact ah rfl ⟨rfl,hs⟩
def Fi (m t:Nat):Bool:=decide (1≤m∧m≤32∧2≤t∧t≤6)
theorem ry {m t:Nat} (hs:Sat W0 F w) :
 Calls Tryz.prog 127 #[.int .i64 (m:Int),.int .i64 (t:Int)] w fun x w'=>x=.returned (.int .i64 (if Fi m t=true then 0 else 1))∧Sat W0 F w':=by
 refine enter Tryz.func127 rfl Tryz.ntmps127 Tryz.results127 rfl ?_
 unfold Fi
 by_cases h1:(m:Int)<1
 ·rw [if_neg (by simp;omega)]
  refine gy ?_
  exact ah rfl ⟨rfl,hs⟩
 ·by_cases h2:(m:Int) > 32
  ·rw [if_neg (by simp;omega)]
   refine gy ?_
   exact ah rfl ⟨rfl,hs⟩
  ·by_cases h3:(t:Int)<2
   ·rw [if_neg (by simp;omega)]
    refine gy ?_
    exact ah rfl ⟨rfl,hs⟩
   ·by_cases h4:(t:Int) > 6
    ·rw [if_neg (by simp;omega)]
     refine gy ?_
     exact ah rfl ⟨rfl,hs⟩
    ·rw [if_pos (by simp;omega)]
     refine gy ?_
     exact ah rfl ⟨rfl,hs⟩
theorem wP {p dd m t:Nat} {a b:Int} {sv mv tv vo vw:Value} {DD:ae} (hm:oI a 34=m) (ht:oI b 8=t) (hW:jF W0) (hE:iD W0)
 (ho:Fi m t=true→∃ s D',nI ⟨m,t⟩ DD=some (.ok s,D'))
 (hs:Sat W0 (blk p 91 [ay dd,sv,ay rb,mv,tv,vo,vw]::aj dd DD::eS rb r::F) w) :
 Calls Tryz.prog 63 #[ay p,.int .i64 a,.int .i64 b] w fun x w'=>x=.returned (.bool true) ∧
  (Fi m t=true→∃ s D' b' rb',nI ⟨m,t⟩ DD=some (.ok s,D')∧Sat W0 (blk p 91 [ay dd,ay b',ay rb',.int .i64 (m:Int),.int .i64 (t:Int),vo,vw]::fy b' dd ⟨m,t⟩ false none s::aj dd D'::eS rb' ⟨r.pairs,[],false⟩::F) w') ∧
  (Fi m t=false→Sat W0 (blk p 91 [ay dd,sv,ay rb,mv,tv,vo,vw]::aj dd DD::eS rb r::F) w'):=by
 refine enter Tryz.func63 rfl Tryz.ntmps63 Tryz.results63 rfl ?_
 refine gy ?_
 refine ag (met (Lr hs) ?_)
 clear hs
 rintro _ w ⟨rfl,hs⟩
 refine ⟨_,rfl,?_⟩
 rw [hm,ht]
 refine gy ?_
 refine bz [.int .i64 (m:Int),.int .i64 (t:Int)] ?_
 cases hok:Fi m t with
 | true=>
  obtain ⟨s,D',hop⟩:=ho hok
  have hok':1≤m∧m≤32∧2≤t∧t≤6:=by simpa [Fi] using hok
  refine ag (met (Fe (o:=⟨m,t⟩) ⟨hok'.1,hok'.2.1⟩ ⟨hok'.2.2.1,hok'.2.2.2⟩ hop hW hE (hs.take (.there .here))) ?_)
  clear hs
  rintro _ w ⟨pv,ve,rfl,hs⟩
  refine ⟨_,rfl,?_⟩
  obtain ⟨b',rfl,hs2⟩:=hs.e9 (φ:=fun b'=>pv=ay b') (B:=fun b'=>[fy b' dd ⟨m,t⟩ false none s]) fun hp ⟨b',h1,h2⟩=>⟨b',h1,hp,fun _=>none,fun _ _ _ _ hy=>(by cases hy),Hp.le_refl _,fun _ _ hx=>(by cases hx),h2,trivial⟩
  have hs:Sat W0 (aH ve none::fy b' dd ⟨m,t⟩ false none s::aj dd D'::blk p 91 [ay dd,sv,ay rb,mv,tv,vo,vw]::eS rb r::F) w:=hs2.to
  clear hs2
  refine gy ?_
  refine ag (met (eA hE hs) ?_)
  clear hs
  rintro _ w ⟨rfl,hs⟩
  refine ⟨_,rfl,?_⟩
  have hs:=hs.drop
  refine gy ?_
  refine ag (met (ry hs) ?_)
  clear hs
  rintro _ w ⟨rfl,hs⟩
  refine ⟨_,rfl,?_⟩
  rw [if_pos hok]
  refine gy ?_
  refine ag (met (eJ hs) ?_)
  clear hs
  rintro _ w ⟨rfl,hs⟩
  refine ⟨_,rfl,?_⟩
  have hn:¬ ((gC none:Nat):Int)≠0:=by simp [gC]
  refine gy ?_
  refine Lq false rfl rfl rfl rfl ?_
  refine gy ?_
  refine bK hs ?_
  clear hs
  intro w hs
  refine gy ?_
  refine ag (met (EX (r:=r) (rb:=rb) (hs.take (.there (.there (.there .here))))) ?_)
  clear hs
  rintro _ w ⟨rb',rfl,hs⟩
  refine ⟨_,rfl,?_⟩
  refine gy ?_
  refine bK hs ?_
  clear hs
  intro w hs
  refine gy ?_
  refine bK hs ?_
  clear hs
  intro w hs
  refine gy ?_
  refine bK hs ?_
  clear hs
  intro w hs
  refine gy ?_
  exact ah rfl ⟨rfl,fun _=>⟨s,D',b',rb',hop,hs.to⟩,fun h=>by cases h⟩
 | false=>
  have hok':m<1∨32<m∨t<2∨6<t:=by
   have:¬ (1≤m∧m≤32∧2≤t∧t≤6):=by simpa [Fi] using hok
   omega
  refine ag (met (Au hok' hs) ?_)
  clear hs
  rintro _ w ⟨ve,rfl,hs⟩
  refine ⟨_,rfl,?_⟩
  refine gy ?_
  refine ag (met (eA hE hs) ?_)
  clear hs
  rintro _ w ⟨rfl,hs⟩
  refine ⟨_,rfl,?_⟩
  have hs:=hs.drop
  refine gy ?_
  refine ag (met (ry hs) ?_)
  clear hs
  rintro _ w ⟨rfl,hs⟩
  refine ⟨_,rfl,?_⟩
  rw [if_neg (by rw [hok];simp)]
  refine gy ?_
  refine ag (met (eJ hs) ?_)
  clear hs
  rintro _ w ⟨rfl,hs⟩
  refine ⟨_,rfl,?_⟩
  have hn:¬ ((gC (some (none,1)):Nat):Int)≠1:=by simp [gC]
  refine gy ?_
  refine Lq false rfl rfl rfl rfl ?_
  refine gy ?_
  exact ah rfl ⟨rfl,fun h=>(by cases h),fun _=>hs.to⟩
end
section
open Go.Proofs.YtecibefflhomdaaGreatDoor.Pure
structure WS where
 b:Nat
 d:Nat
 rb:Nat
 vo:Value
 vw:Value
 o:nH
 s:St
 D:ae
 r:mM
 det:Option (Nat×ae)
 out:List (Bs×Bs)
structure gU (X:WS) (E B N:Nat):Prop where
 opt:Fi X.o.memory X.o.tables=true
 att:X.det=none→Inv False (Cq X.o) X.s X.D X.r E B∧Calm X.D∧X.s.number≤N
 dtd:∀ q,X.det=some q→X.r.closed=true∧Rest False q.2 X.r.pairs E B N∧Calm q.2
 plen:X.r.pairs.length≤E
 slen:∀ ps,some ps∈X.r.snaps→ps.length≤E
 sn:X.r.snaps.length≤B
 olen:X.out.length≤E
 ssn:X.s.snap≤B
variable {X:WS} {E B N:Nat}
theorem Qs {α:Type} {x:Option α} {P:α→Prop} (hd:x=none):∀ q,x=some q→P q:=fun q hq=>by rw [hd] at hq;cases hq
theorem gU.ho (h:gU X E B N):1≤X.o.memory∧X.o.memory≤32∧2≤X.o.tables∧X.o.tables≤6:=by simpa [Fi] using h.opt
theorem gU.open_ (h:gU X E B N) (hc:X.r.closed=false):X.det=none:=by
 cases hd:X.det with
 | none=>rfl
 | some q=>have:=(h.dtd q hd).1;rw [hc] at this;cases this
theorem Rest.more {C:Prop} {D:ae} {ps:List (Bs×Bs)} {E B N E' B' N':Nat} (h:Rest C D ps E B N) (hE:E≤E') (hB:B≤B') (hN:N≤N'):Rest C D ps E' B' N':=by
 obtain ⟨⟨c,Ls,bs,h1,h2,h3,h4,h5,h6⟩,h7,h8⟩:=h
 exact ⟨⟨c,Ls,bs,h1.more hE,h2,Nat.le_trans h3 hB,Nat.le_trans h4 hN,Nat.le_trans h5 hE,h6⟩,h7,h8⟩
theorem Rest.copy {C:Prop} {D D2:ae} {ps:List (Bs×Bs)} (h:Rest C D ps E B N) (k:nk D D2):Rest C D2 ps E B N:=by
 obtain ⟨⟨c,Ls,bs,h1,h2,h3,h4,h5,h6⟩,h7,h8⟩:=h
 refine ⟨⟨c,Ls,bs,h1.files k.ok fun m _=>k.file m,h2,h3,h4,h5,fun b hb=>h6 b (by rw [← k.file];exact hb)⟩,h7,?_⟩
 have:=EP k.ok (ns:=D.now.map (·.1)) fun m hm=>by
  rw [k.file] at hm
  refine Decidable.byContradiction fun hn=>hm ?_
  unfold file
  rw [cB.2 hn];rfl
 rw [k.moves]
 rw [List.length_map] at this
 simp only [List.length_nil]
 omega
theorem gU.more (h:gU X E B N) {E' B' N':Nat} (hE:E≤E') (hB:B≤B') (hN:N≤N'):gU X E' B' N':=
 ⟨h.opt,fun hd=>⟨(h.att hd).1.more hE hB,(h.att hd).2.1,Nat.le_trans (h.att hd).2.2 hN⟩,fun q hq=>⟨(h.dtd q hq).1,(h.dtd q hq).2.1.more hE hB hN,(h.dtd q hq).2.2⟩,Nat.le_trans h.plen hE,fun ps hp=>Nat.le_trans (h.slen ps hp) hE,Nat.le_trans h.sn hB,Nat.le_trans h.olen hE,Nat.le_trans h.ssn hB⟩
theorem gU.l7 (h:gU X E B N) {D':ae} (hd:X.det=none→Inv False (Cq X.o) X.s D' X.r E B∧Calm D'):gU { X with D:=D' } E B N:=
 ⟨h.opt,fun hn=>⟨(hd hn).1,(hd hn).2,(h.att hn).2.2⟩,h.dtd,h.plen,h.slen,h.sn,h.olen,h.ssn⟩
theorem Qt (h:gU X E B N) (hE:E≤1048576) (key:Bs):∃ D',HG X.r.closed none X.s X.D key=some (xn X.r key,D')∧gU { X with D:=D' } E B N:=by
 unfold xn
 cases hc:X.r.closed with
 | true=>exact ⟨X.D,rfl,h⟩
 | false=>
  obtain ⟨h1,h2,h3⟩:=h.att (h.open_ hc)
  obtain ⟨x,D',e,hsm,hi,hx⟩:=MW h1 key
  have hg:HG false none X.s X.D key=some (x,D'):=by
   show xl X.s X.D key aE=_
   unfold xl
   rw [if_pos ⟨by have:=h1.Gw hE;omega,by have:=h1.Ah;omega⟩]
   exact e
  refine ⟨D',?_,h.l7 fun _=>⟨hi,h2.later hsm.later⟩⟩
  rw [hg]
  rcases hx with ⟨e,rfl,hb⟩|rfl
  ·exact (h2.Gz hb).elim
  ·rfl
theorem Lt (h:gU X E B N) (hE:E≤1048576) (lo hi:Bs) (limit:Int):∃ D',p9 X.r.closed none X.s X.D lo hi limit=some (kr X.r lo hi limit,D')∧gU { X with D:=D' } E B N:=by
 unfold kr
 cases hc:X.r.closed with
 | true=>exact ⟨X.D,rfl,h⟩
 | false=>
  obtain ⟨h1,h2,h3⟩:=h.att (h.open_ hc)
  obtain ⟨x,D',e,hsm,hi',hx⟩:=K2 h1 hE lo hi limit
  have hg:p9 false none X.s X.D lo hi limit=some (x,D'):=by
   show th X.s X.D lo hi limit aE=_
   unfold th
   rw [if_pos (by have:=h1.Ah;omega)]
   exact e
  refine ⟨D',?_,h.l7 fun _=>⟨hi',h2.later hsm.later⟩⟩
  rw [hg]
  rcases hx with ⟨e,rfl,hb⟩|rfl
  ·exact (h2.Gz hb).elim
  ·rfl
theorem Q1 (h:gU X E B N) (n:Int):(∃ e,GG X.r.closed none X.s n=.error e∧wY X.r n=.error e) ∨
 (X.r.closed=false∧∃ q ps,GG X.r.closed none X.s n=.ok q∧wY X.r n=.ok ps∧aD X.s.snaps n=some q∧il X.r n=some ps):=by
 unfold wY
 cases hc:X.r.closed with
 | true=>exact .inl ⟨_,rfl,rfl⟩
 | false=>
  obtain ⟨h1,h2,h3⟩:=h.att (h.open_ hc)
  have e0:GG false none X.s n=match aD X.s.snaps n with|none=>.error (none,5)|some q=>.ok q:=rfl
  rw [e0]
  cases hg:aD X.s.snaps n with
  | none=>
   have:=h1.dead n hg
   exact .inl ⟨_,rfl,by rw [this];rfl⟩
  | some q=>
   obtain ⟨ps,h4,_,_⟩:=h1.at hg
   exact .inr ⟨rfl,q,ps,rfl,by rw [h4];rfl,rfl,h4⟩
theorem Lu (h:gU X E B N) (hE:E≤1048576) (n:Int) (key:Bs):∃ D',oH X.r.closed none X.s X.D n key=some (l6 X.r n key,D')∧gU { X with D:=D' } E B N:=by
 unfold oH l6
 rcases Q1 h n with ⟨e,h1,h2⟩|⟨hc,q,ps,h1,h2,h3,h4⟩
 ·rw [h1,h2];exact ⟨X.D,rfl,h⟩
 ·rw [h1,h2]
  obtain ⟨i1,i2,i3⟩:=h.att (h.open_ hc)
  obtain ⟨x,D',e,hsm,hi,hx⟩:=H7 i1 h3 h4 key
  refine ⟨D',?_,h.l7 fun _=>⟨hi,i2.later hsm.later⟩⟩
  show xl X.s X.D key q=_
  unfold xl
  rw [if_pos ⟨by have:=i1.Gw hE;omega,by have:=i1.Ah;omega⟩,e]
  rcases hx with ⟨e,rfl,hb⟩|rfl
  ·exact (i2.Gz hb).elim
  ·rfl
theorem Ni (h:gU X E B N) (hE:E≤1048576) (n:Int) (lo hi:Bs) (limit:Int):∃ D',uw X.r.closed none X.s X.D n lo hi limit=some (nz X.r n lo hi limit,D')∧gU { X with D:=D' } E B N:=by
 unfold uw nz
 rcases Q1 h n with ⟨e,h1,h2⟩|⟨hc,q,ps,h1,h2,h3,h4⟩
 ·rw [h1,h2];exact ⟨X.D,rfl,h⟩
 ·rw [h1,h2]
  obtain ⟨i1,i2,i3⟩:=h.att (h.open_ hc)
  obtain ⟨x,D',e,hsm,hi',hx⟩:=EO i1 hE h3 h4 lo hi limit
  refine ⟨D',?_,h.l7 fun _=>⟨hi',i2.later hsm.later⟩⟩
  show th X.s X.D lo hi limit q=_
  unfold th
  rw [if_pos (by have:=i1.Ah;omega),e]
  rcases hx with ⟨e,rfl,hb⟩|rfl
  ·exact (i2.Gz hb).elim
  ·rfl
theorem Ay (h:gU X E B N) {n:Int} {ps:List (Bs×Bs)} (hr:wY X.r n=.ok ps):ps.length≤E:=by
 unfold wY at hr
 split at hr
 ·cases hr
 ·cases hg:il X.r n with
  | none=>rw [hg] at hr;cases hr
  | some q=>
   rw [hg] at hr
   have hr:q=ps:=by injection hr
   subst hr
   refine h.slen _ ?_
   unfold il at hg
   split at hg
   ·rename_i hn
    rw [List.getD_eq_getElem?_getD] at hg
    cases hq:X.r.snaps[(n-1).toNat]? with
    | none=>rw [hq] at hg;cases hg
    | some u=>
     rw [hq] at hg
     have hg:u=some q:=hg
     subst hg
     exact List.mem_iff_getElem?.2 ⟨_,hq⟩
   ·cases hg
theorem GL:∀ l:List cG,gC (qh l)=sD l
 | []=>rfl
 | c::r=>by
  unfold qh sD
  by_cases h1:c.key.length=0∨8<c.key.length
  ·rw [if_pos h1,if_pos h1];rfl
  ·rw [if_neg h1,if_neg h1]
   by_cases h2:c.del=false∧16<c.val.length
   ·rw [if_pos h2,if_pos h2];rfl
   ·rw [if_neg h2,if_neg h2];exact GL r
theorem CP:∀ l:List cG,qh l=none↔sD l=0
 | []=>by simp [qh,sD]
 | c::r=>by
  unfold qh sD
  by_cases h1:c.key.length=0∨8<c.key.length
  ·rw [if_pos h1,if_pos h1];simp
  ·rw [if_neg h1,if_neg h1]
   by_cases h2:c.del=false∧16<c.val.length
   ·rw [if_pos h2,if_pos h2];simp
   ·rw [if_neg h2,if_neg h2];exact CP r
theorem Nj (cl:Bool) (r:mM) (hr:r.closed=cl) (l:List cG):gC (nN cl none l)=lM r l∧(nN cl none l=none↔(cl=false∧lx l=0)):=by
 subst hr
 unfold nN lM lx eW
 cases r.closed with
 | true=>simp [gC]
 | false=>
  simp only [Bool.false_eq_true,if_false]
  by_cases h8:8<l.length
  ·simp [h8,gC]
  ·simp only [h8,if_false,true_and]
   exact ⟨GL l,CP l⟩
theorem Nk (l:List (Bs×Bs)) (hs:j4 l) (b:List cG):(DL l b).length≤l.length+b.length:=by rw [← ER b hs];exact GA b l
theorem Lv (h:gU X E B N) (l:List cG) (sync:Bool) (hE:E+l.length≤1048576) (hB:B<16777216) (hN:N+8388608≤4611686018427387904) :
 ∃ x s' D' D'' e,(nN X.r.closed none l=none→oo X.o X.s X.D l sync=some (x,D'))∧gC e=lM X.r l ∧
  (∀ (A:ax) (ve:Value) (F:List ax),Rb A X.b X.d X.o X.r.closed none X.s X.D D' x ve F (nN X.r.closed none l)=fy X.b X.d X.o X.r.closed none s'::aj X.d D''::aH ve e::A::F) ∧
  gU { X with s:=s',D:=D'',r:=ly X.r l } (E+l.length) (B+1) (N+8388608):=by
 obtain ⟨hn,hnone⟩:=Nj X.r.closed X.r rfl l
 cases hr:nN X.r.closed none l with
 | some e=>
  refine ⟨.error e,X.s,X.D,X.D,some e,fun hh=>(by cases hh),by rw [← hn,hr],fun _ _ _=>rfl,?_⟩
  have hw:ly X.r l=X.r:=by
   unfold ly
   split
   ·rfl
   ·rename_i hc
    rw [if_neg fun h0=>?_]
    have:=hnone.2 ⟨by simpa using hc,h0⟩
    rw [hr] at this;cases this
  rw [hw]
  exact h.more (by omega) (by omega) (by omega)
 | none=>
  obtain ⟨hc,h0⟩:=hnone.1 hr
  have hd:=h.open_ hc
  obtain ⟨i1,i2,i3⟩:=h.att hd
  have ho:=h.ho
  obtain ⟨x,D',e1,e2,e3⟩:=H9 (o:=X.o) (sync:=sync) (by omega) ho.1 i1 (O2 h0) hE hB (by omega)
  rcases e3 with ⟨e,rfl,hf,_⟩|⟨s',rfl,hi,hnum⟩
  ·exact (i2.yO hf).elim
  ·have hw:ly X.r l={ X.r with pairs:=DL X.r.pairs l }:=by
    unfold ly
    rw [if_neg (by rw [hc];simp),if_pos h0,ER l i1.srt]
   refine ⟨.ok s',s',D',D',none,fun _=>e1,by rw [← hn,hr],fun _ _ _=>by rw [hc];rfl,?_⟩
   rw [hw]
   have hss:s'.snap≤B+1:=by rw [hi.snap];have:=h.sn;show X.r.snaps.length≤_;omega
   exact ⟨h.opt,fun _=>⟨hi,i2.later e2,(by show s'.number≤_;omega)⟩,Qs hd,(by have:=Nk _ i1.srt l;have:=h.plen;show (DL X.r.pairs l).length≤_;omega),fun ps hp=>Nat.le_trans (h.slen ps hp) (by omega),(by have:=h.sn;show X.r.snaps.length≤_;omega),Nat.le_trans h.olen (by omega),hss⟩
theorem Inv.closed {C:Prop} {P:St→fU→Prop} {s:St} {D:ae} {r:mM} {c:Bool} (h:Inv C P s D r E B):Inv C P s D { r with closed:=c } E B:=
 ⟨h.run,h.srt,h.snap,h.keys,h.dead,h.live,h.seq⟩
theorem Qu (h:gU X E B N):gC (cU (tA X.r.closed none X.s))=sH X.r∧NX (tA X.r.closed none X.s)=Ap X.r∧gU { X with s:=NW X.s (tA X.r.closed none X.s),r:=yT X.r } E (B+1) N:=by
 unfold Ap yT sH tA eW
 cases hc:X.r.closed with
 | true=>exact ⟨rfl,rfl,h.more (Nat.le_refl _) (by omega) (Nat.le_refl _)⟩
 | false=>
  have hd:=h.open_ hc
  obtain ⟨i1,i2,i3⟩:=h.att hd
  have hl:=i1.live
  have h4:X.s.snaps.length≤4:=by obtain ⟨q0,Ls,bs,h1,_⟩:=i1.run;exact h1.snaps
  simp only [Bool.false_eq_true,if_false]
  by_cases he:X.s.snaps.length=4
  ·rw [if_pos he,if_pos (by omega)]
   exact ⟨rfl,rfl,h.more (Nat.le_refl _) (by omega) (Nat.le_refl _)⟩
  ·rw [if_neg he,if_neg (by omega)]
   have hi:=K3 i1 (fun s' Ls=>Cq.keep s' _ Ls) he
   have hsn:=i1.snap
   refine ⟨rfl,by rw [if_pos rfl,← hsn];rfl,?_⟩
   rw [if_pos rfl]
   refine ⟨h.opt,fun _=>⟨(hi.closed (c:=false)).more (Nat.le_refl _) (by omega),i2,i3⟩,Qs hd,h.plen,fun ps hp=>?_,?_,h.olen,?_⟩
   ·have hp:some ps∈X.r.snaps++[some X.r.pairs]:=hp
    rcases List.mem_append.1 hp with h5|h5
    ·exact h.slen ps h5
    ·have:=List.mem_singleton.1 h5
     injection this with this
     rw [this];exact h.plen
   ·have:=h.sn
    show (X.r.snaps++[some X.r.pairs]).length≤_
    simp;omega
   ·have:=h.ssn
    show X.s.snap+1≤_
    omega
theorem Q2 (h:gU X E B N) (n:Int):gC (IA X.r.closed none X.s n).1=gC (cU (wY X.r n))∧gU { X with s:=(IA X.r.closed none X.s n).2,r:=Ip X.r n } E B N:=by
 unfold IA Ip
 rcases Q1 h n with ⟨e,h1,h2⟩|⟨hc,q,ps,h1,h2,h3,h4⟩
 ·rw [h1,h2];exact ⟨rfl,h⟩
 ·rw [h1,h2]
  have hd:=h.open_ hc
  obtain ⟨i1,i2,i3⟩:=h.att hd
  refine ⟨rfl,h.opt,fun _=>⟨MX i1 (fun s' Ls=>Cq.keep s' _ Ls) h3,i2,i3⟩,Qs hd,h.plen,fun ps hp=>?_,?_,h.olen,h.ssn⟩
  ·have hp:some ps∈X.r.snaps.set (n-1).toNat none:=hp
   rcases List.mem_or_eq_of_mem_set hp with h5|h5
   ·exact h.slen ps h5
   ·cases h5
  ·have:=h.sn
   show (X.r.snaps.set _ none).length≤_
   simpa using this
theorem Lw (h:gU X E B N):gC (nA X.r.closed none X.s X.D).1=(if X.r.closed=true then 6 else 0)∧gU { X with D:=(nA X.r.closed none X.s X.D).2,r:={ X.r with closed:=true } } E B N:=by
 unfold nA eW
 cases hc:X.r.closed with
 | true=>
  refine ⟨rfl,?_⟩
  have e:{ X.r with closed:=true }=X.r:=by rw [← hc]
  simp only [if_true]
  exact ⟨h.opt,fun hd=>⟨(h.att hd).1.closed,(h.att hd).2⟩,fun q hq=>⟨rfl,(h.dtd q hq).2⟩,h.plen,h.slen,h.sn,h.olen,h.ssn⟩
 | false=>
  have hd:=h.open_ hc
  obtain ⟨i1,i2,i3⟩:=h.att hd
  obtain ⟨e1,e2,e3⟩:=Ia i1
  simp only [Bool.false_eq_true,if_false]
  refine ⟨?_,h.opt,fun _=>⟨e2.closed,i2.later e1,i3⟩,Qs hd,h.plen,h.slen,h.sn,h.olen,h.ssn⟩
  rcases e3 with e|⟨e,he,ht⟩
  ·rw [e];rfl
  ·exact (i2.yO (.inl (.inl ht))).elim
theorem Lx (h:gU X E B N) (hc:X.r.closed=false) (hE:E≤1048576) (hB:B≤16777216) (hN:N+8388608≤4611686018427387904) :
 ∃ s' D',lj X.o X.s X.D=some (.ok s',D')∧Inv False (fun s2 Ls=>Cq X.o s2 Ls∧s2.mem=[]∧pe (aN X.s) Ls) s' D' X.r E B∧gU { X with s:=s',D:=D' } E (B+1) (N+8388608):=by
 have hd:=h.open_ hc
 obtain ⟨i1,i2,i3⟩:=h.att hd
 have ho:=h.ho
 obtain ⟨x,D',e1,e2,e3⟩:=Ct (o:=X.o) (by omega) ho.2.2.1 ho.1 i1 hE hB (by omega)
 rcases e3 with ⟨e,rfl,hf,_⟩|⟨s',rfl,hi,hnum⟩
 ·exact (i2.yO hf).elim
 ·refine ⟨s',D',e1,hi,h.opt,fun _=>⟨(hi.QS fun _ hp=>hp.1).more (Nat.le_refl _) (by omega),i2.later e2,(by show s'.number≤_;omega)⟩,Qs hd,h.plen,h.slen,Nat.le_trans h.sn (by omega),h.olen,?_⟩
  have:=h.sn
  show s'.snap≤_
  rw [hi.snap];omega
end
section
open Go.Proofs.YtecibefflhomdaaGreatDoor.Pure (ae cG aR bE bB jh jf)
attribute [local irreducible] IntKind.wrap
variable {W0 w:World} {F:List ax} {p:Nat} {X:WS} {E B N:Nat}
def gD:Option (Nat×ae)→ax
 | none=>fun _=>True
 | some q=>aj q.1 q.2
def WS.l7 (X:WS):Nat:=match X.det with
 | none=>X.d
 | some q=>q.1
def WS.cur (X:WS):ae:=match X.det with
 | none=>X.D
 | some q=>q.2
abbrev bA (X:WS):List Value:=[ay X.l7,ay X.b,ay X.rb,.int .i64 (X.o.memory:Int),.int .i64 (X.o.tables:Int),X.vo,X.vw]
abbrev wL (p:Nat) (X:WS) (F:List ax):List ax:=blk p 91 (bA X)::fy X.b X.d X.o X.r.closed none X.s::aj X.d X.D::eS X.rb X.r::gD X.det::aG X.vo X.out::aG X.vw X.out::F
def iH (W0:World) (p:Nat) (F:List ax) (E B N:Nat):Ending→World→Prop:=fun x w'=>∃ X',gU X' E B N∧x=.returned (.bool true)∧Sat W0 (wL p X' F) w'
theorem Sat.Ly (h:Sat W0 F w):Sat W0 ((fun _=>True)::F) w:=h.imp fun hp r=>⟨fun _=>none,hp,fun _ _ _ hx=>(by cases hx),fun _ _ hx=>(by cases hx),Hp.le_refl _,trivial,r⟩
theorem CQ {mm tt:Int} (hW:jF W0) (hE:iD W0) (hs:Sat W0 F w) :
 Calls Tryz.prog 35 #[.int .i64 mm,.int .i64 tt] w fun x w'=>∃ p X,x=.returned (.tuple #[ay p,.bool true])∧gU X 0 0 1∧X.r=⟨[],[],false⟩∧X.out=[]∧Sat W0 (wL p X F) w':=by
 obtain ⟨m,hm⟩:∃ m,1+oI mm 32=m:=⟨_,rfl⟩
 obtain ⟨t,ht⟩:∃ t,2+oI tt 5=t:=⟨_,rfl⟩
 have hm2:=uz mm (k:=32) (by decide)
 have ht2:=uz tt (k:=5) (by decide)
 have hok:Fi m t=true:=by simp [Fi];omega
 refine enter Tryz.func35 rfl Tryz.ntmps35 Tryz.results35 rfl ?_
 refine gy ?_
 refine ag (met (Hq (room:=1099511627776) hs (by decide) (by decide)) ?_)
 clear hs
 rintro _ w ⟨dd,rfl,hs⟩
 refine ⟨_,rfl,?_⟩
 refine gy ?_
 refine bz [.slice none 0 0,.slice none 0 0,.bool false] ?_
 refine bR hs ?_
 clear hs
 intro w rb hs
 refine bz [ay dd,.pointer none,ay rb,.int .i64 0,.int .i64 0,.slice none 0 0,.slice none 0 0] ?_
 refine bR hs ?_
 clear hs
 intro w p hs
 have h1:=Sat.cH (k:=2) (E:=177) hs
 have h2:=Sat.j7 (k:=2) h1 (a:=none) (c:=0) (.inl rfl) (fun _=>rfl)
 have h3:Sat W0 (pk [] []::aG (.slice none 0 0) []::aL 2 (.slice none 0 0) 177 0 []::blk p 91 [ay dd,.pointer none,ay rb,.int .i64 0,.int .i64 0,.slice none 0 0,.slice none 0 0]::blk rb 88 [.slice none 0 0,.slice none 0 0,.bool false]::aj dd (dm 1099511627776)::F) w:=h2.imp fun hp k=>cT (a:=[]) k
 clear hs h1 h2
 have h4:=Sat.dK (rb:=rb) (r:=⟨[],[],false⟩) (us:=[]) (vp:=.slice none 0 0) (vs:=.slice none 0 0) (F:=blk p 91 [ay dd,.pointer none,ay rb,.int .i64 0,.int .i64 0,.slice none 0 0,.slice none 0 0]::aj dd (dm 1099511627776)::F) ⟨rfl,by simp⟩ h3.to
 clear h3
 have hs:Sat W0 (blk p 91 [ay dd,.pointer none,ay rb,.int .i64 0,.int .i64 0,.slice none 0 0,.slice none 0 0]::aj dd (dm 1099511627776)::eS rb ⟨[],[],false⟩::F) w:=h4.to
 clear h4
 refine gy ?_
 refine kY (N:=(IntKind.u64.wrap mm).toNat) (M:=32) rfl rfl (Ax mm) rfl (by decide) rfl ?_
 show WL _ _ _ _ _ ((_,.int .u64 (oI mm 32:Int))::_) _
 refine gy ?_
 refine kY (N:=(IntKind.u64.wrap tt).toNat) (M:=5) rfl rfl (Ax tt) rfl (by decide) rfl ?_
 show WL _ _ _ _ _ ((_,.int .u64 (oI tt 5:Int))::_) _
 refine gy ?_
 have em:(1:Int)+(oI mm 32:Int)=(m:Int):=by omega
 have et:(2:Int)+(oI tt 5:Int)=(t:Int):=by omega
 rw [em,et]
 have hd0:=pW (room:=1099511627776) (by decide) (by decide)
 have hcalm:Calm (dm 1099511627776):=⟨rfl,rfl⟩
 have hop:∃ s D',nI ⟨m,t⟩ (dm 1099511627776)=some (.ok s,D')∧de (dm 1099511627776) D'∧Inv False (Cq ⟨m,t⟩) s D' ⟨[],[],false⟩ 0 0∧s.number≤1:=by
  obtain ⟨x,D',e1,e2,e3⟩:=H8 (o:=⟨m,t⟩) (by show 1≤t;omega) (by show 1≤m;omega) hd0 (fun _=>rfl) rfl rfl
  rcases e3 with ⟨e,rfl,hf⟩|⟨s,rfl,hi,hn⟩
  ·exact (hcalm.yO hf).elim
  ·exact ⟨s,D',e1,e2,hi,hn⟩
 obtain ⟨s,D',e1,e2,hi,hn⟩:=hop
 refine ag (met (wP (m:=m) (t:=t) (wO (by omega) (by omega)) (wO (by omega) (by omega)) hW hE (fun _=>⟨s,D',e1⟩) hs) ?_)
 clear hs
 rintro _ w ⟨rfl,hh,-⟩
 obtain ⟨s2,D2,b,rb',e3,hs⟩:=hh hok
 rw [e1] at e3
 injection e3 with e3
 injection e3 with e3 e4
 injection e3 with e3
 subst e3;subst e4
 refine ⟨_,rfl,?_⟩
 refine gy ?_
 refine bu [blk p 91 [ay dd,ay b,ay rb',.int .i64 (m:Int),.int .i64 (t:Int),.slice none 0 0,.slice none 0 0]] [6] (.q 0 (.q 1 (.q 2 (.q 3 (.q 4 (.q 5 (.s 6 (.q 7 (.q 8 (.q 9 (.q 10 .nil))))))))))) hs (by kernel_rfl) ?_
 clear hs
 intro w hs
 refine gj ?_
 refine gy ?_
 refine ah rfl ⟨p,⟨b,dd,rb',.slice none 0 0,.slice none 0 0,⟨m,t⟩,s,D',⟨[],[],false⟩,none,[]⟩,rfl,?_,rfl,rfl,?_⟩
 ·exact ⟨hok,fun _=>⟨hi,hcalm.later e2,hn⟩,fun q hq=>(by cases hq),Nat.le_refl _,fun ps hp=>(by cases hp),Nat.le_refl _,Nat.le_refl _,by rw [hi.snap];exact Nat.le_refl _⟩
 ·have h1:=Sat.j7 (k:=2) hs (a:=none) (c:=0) (.inl rfl) (fun _=>rfl)
  have h2:=Sat.j7 (k:=2) h1 (a:=none) (c:=0) (.inl rfl) (fun _=>rfl)
  have h3:=h2.Ly
  exact Sat.to (h3.take (.there (.there (.there .here))))
theorem Sat.Az (X':WS) {cl:Bool} (hcl:X'.r.closed=cl) (h:Sat W0 (blk p 91 (bA X')::fy X'.b X'.d X'.o cl none X'.s::aj X'.d X'.D::eS X'.rb X'.r::gD X'.det::aG X'.vo X'.out::aG X'.vw X'.out::F) w):Sat W0 (wL p X' F) w:=by
 subst hcl;exact h
theorem Lz (r:mM):(yT r).closed=r.closed:=by unfold yT;split<;>rfl
theorem Nl (r:mM) (n:Int):(Ip r n).closed=r.closed:=by unfold Ip;split<;>rfl
theorem yW (r:mM) (l:List cG):(ly r l).closed=r.closed:=by
 unfold ly
 split
 ·rfl
 ·split<;>rfl
structure l8 where
 kind:Int
 a:Int
 b:Int
 s:Bs
 t:Bs
 lv:Value
 l:List cG
abbrev nQ (o:l8):List Value:=[.int .i64 o.kind,.int .i64 o.a,.int .i64 o.b,str o.s,str o.t,o.lv]
theorem IE {o:l8} (hk:o.kind=7) (hE:iD W0) (hB:B≤16777216) (h:gU X E B N) (hs:Sat W0 (wL p X F) w) :
 Calls Tryz.prog 38 #[ay p,.agg (nQ o).toArray] w (iH W0 p F E (B+1) N):=by
 obtain ⟨k,a,b,ss,tt,lv,l⟩:=o
 dsimp only at hk
 subst hk
 obtain ⟨e1,e2,hok⟩:=Qu h
 refine enter Tryz.func38 rfl Tryz.ntmps38 Tryz.results38 rfl ?_
 refine gy ?_
 refine bR (z:=[.int .i64 7,.int .i64 a,.int .i64 b,str ss,str tt,lv]) hs ?_
 clear hs
 intro w b3 hs
 refine gy ?_
 refine ag (met (E5 (by have:=h.ssn;omega) (hs.fg (.there (.there .here)) (.there (.there .here)))) ?_)
 clear hs
 rintro _ w ⟨ve,rfl,hs⟩
 refine ⟨_,rfl,?_⟩
 rw [e2]
 refine gy ?_
 refine ag (met (EZ (by have:=h.sn;omega) (hs.take (.there (.there (.there (.there (.there .here))))))) ?_)
 clear hs
 rintro _ w ⟨rfl,hs⟩
 refine ⟨_,rfl,?_⟩
 refine gy ?_
 refine ag (met (eA hE (hs.take (.there (.there (.there .here))))) ?_)
 clear hs
 rintro _ w ⟨rfl,hs⟩
 refine ⟨_,rfl,?_⟩
 rw [e1]
 refine gy ?_
 refine ag (met (eJ hs) ?_)
 clear hs
 rintro _ w ⟨rfl,hs⟩
 refine ⟨_,rfl,?_⟩
 refine gy ?_
 exact ah rfl ⟨_,hok,rfl,Sat.Az _ (Lz _) hs.to⟩
theorem LA {o:l8} (hk:o.kind=10) (hE:iD W0) (h:gU X E B N) (hs:Sat W0 (wL p X F) w) :
 Calls Tryz.prog 38 #[ay p,.agg (nQ o).toArray] w (iH W0 p F E B N):=by
 obtain ⟨k,a,b,ss,tt,lv,l⟩:=o
 dsimp only at hk
 subst hk
 obtain ⟨e1,hok⟩:=Q2 h a
 refine enter Tryz.func38 rfl Tryz.ntmps38 Tryz.results38 rfl ?_
 refine gy ?_
 refine bR (z:=[.int .i64 10,.int .i64 a,.int .i64 b,str ss,str tt,lv]) hs ?_
 clear hs
 intro w b3 hs
 refine gy ?_
 refine bu [blk b3 84 [.int .i64 10,.int .i64 a,.int .i64 b,str ss,str tt,lv],blk p 91 (bA X)] [3,5] (.q 0 (.q 1 (.q 2 (.s 3 (.q 4 (.s 5 (.l 6 (.q 7 .nil)))))))) hs (by kernel_rfl) ?_
 clear hs
 intro w hs
 refine gj ?_
 refine ag (met (IB (n:=a) (hs.fg (.there (.there .here)) (.there (.there .here)))) ?_)
 clear hs
 rintro _ w ⟨ve,rfl,hs⟩
 refine ⟨_,rfl,?_⟩
 refine gy ?_
 refine cD hs.to ?_
 refine gj ?_
 refine gy ?_
 refine bu [blk b3 84 [.int .i64 10,.int .i64 a,.int .i64 b,str ss,str tt,lv],blk p 91 (bA X)] [3,5] (.q 0 (.q 1 (.q 2 (.s 3 (.q 4 (.s 5 (.l 6 (.q 7 .nil)))))))) hs (by kernel_rfl) ?_
 clear hs
 intro w hs
 refine gj ?_
 refine ag (met (Iq (n:=a) (hs.take (.there (.there (.there (.there (.there .here))))))) ?_)
 clear hs
 rintro _ w ⟨rfl,hs⟩
 refine ⟨_,rfl,?_⟩
 refine gy ?_
 refine cD hs.to ?_
 refine gj ?_
 refine gy ?_
 refine ag (met (eA hE (hs.take (.there (.there (.there .here))))) ?_)
 clear hs
 rintro _ w ⟨rfl,hs⟩
 refine ⟨_,rfl,?_⟩
 rw [e1]
 refine gy ?_
 refine ag (met (eJ hs) ?_)
 clear hs
 rintro _ w ⟨rfl,hs⟩
 refine ⟨_,rfl,?_⟩
 refine gy ?_
 exact ah rfl ⟨_,hok,rfl,Sat.Az _ (Nl _ _) hs.to⟩
theorem Fj {o:l8} (hk:o.kind=5) (hE:iD W0) (h:gU X E B N) (hs:Sat W0 (wL p X F) w) :
 Calls Tryz.prog 38 #[ay p,.agg (nQ o).toArray] w (iH W0 p F E B N):=by
 obtain ⟨k,a,b,ss,tt,lv,l⟩:=o
 dsimp only at hk
 subst hk
 obtain ⟨e1,hok⟩:=Lw h
 refine enter Tryz.func38 rfl Tryz.ntmps38 Tryz.results38 rfl ?_
 refine gy ?_
 refine bR (z:=[.int .i64 5,.int .i64 a,.int .i64 b,str ss,str tt,lv]) hs ?_
 clear hs
 intro w b3 hs
 refine gy ?_
 refine ag (met (tB (hs.fg (.there (.there .here)) (.there (.there .here)))) ?_)
 clear hs
 rintro _ w ⟨ve,rfl,hs⟩
 refine ⟨_,rfl,?_⟩
 refine gy ?_
 refine ag (met (tw (hs.take (.there (.there (.there (.there (.there .here))))))) ?_)
 clear hs
 rintro _ w ⟨rfl,hs⟩
 refine ⟨_,rfl,?_⟩
 refine gy ?_
 refine ag (met (eA hE (hs.take (.there (.there (.there .here))))) ?_)
 clear hs
 rintro _ w ⟨rfl,hs⟩
 refine ⟨_,rfl,?_⟩
 have e1':(gC (nA X.r.closed none X.s X.D).1:Int)=if X.r.closed=true then 6 else 0:=by rw [e1];split<;>rfl
 rw [e1']
 refine gy ?_
 refine ag (met (eJ hs) ?_)
 clear hs
 rintro _ w ⟨rfl,hs⟩
 refine ⟨_,rfl,?_⟩
 have hrfl:(if X.r.closed=true then (6:Int) else 0)=(if X.r.closed=true then 6 else 0):=rfl
 refine gy ?_
 exact ah rfl ⟨_,hok,rfl,hs.to⟩
def NZ (X X':WS) (E B:Nat):Prop:=X'.r=X.r∧(X.r.closed=false→∃ o,Inv False (fun s2 Ls=>Cq o s2 Ls∧s2.mem=[]∧pe (aN X.s) Ls) X'.s X'.D X'.r E B)
theorem pJ {o:l8} (hk:o.kind=11) (hW:jF W0) (hE:iD W0) (h:gU X E B N) (hEE:E≤1048576) (hB:B≤16777216) (hN:N+8388608≤4611686018427387904) (hs:Sat W0 (wL p X F) w) :
 Calls Tryz.prog 38 #[ay p,.agg (nQ o).toArray] w fun x w'=>∃ X',gU X' E (B+1) (N+8388608)∧NZ X X' E B∧x=.returned (.bool true)∧Sat W0 (wL p X' F) w':=by
 obtain ⟨k,a,b,ss,tt,lv,l⟩:=o
 dsimp only at hk
 subst hk
 refine enter Tryz.func38 rfl Tryz.ntmps38 Tryz.results38 rfl ?_
 refine gy ?_
 refine bR (z:=[.int .i64 11,.int .i64 a,.int .i64 b,str ss,str tt,lv]) hs ?_
 clear hs
 intro w b3 hs
 refine gy ?_
 have hs:Sat W0 (blk b3 84 [.int .i64 11,.int .i64 a,.int .i64 b,str ss,str tt,lv]::blk p 91 (bA X)::fy X.b X.d X.o X.r.closed none X.s::aj X.d X.D::eS X.rb X.r::gD X.det::aG X.vo X.out::aG X.vw X.out::F) w:=hs
 cases hc:X.r.closed with
 | true=>
  rw [hc] at hs
  refine ag (met (xp (e:=(none,6)) rfl (hs.fg (.there (.there .here)) (.there (.there .here)))) ?_)
  clear hs
  rintro _ w ⟨ve,rfl,hs⟩
  refine ⟨_,rfl,?_⟩
  refine gy ?_
  refine ag (met (eA hE (hs.take (.there (.there .here)))) ?_)
  clear hs
  rintro _ w ⟨rfl,hs⟩
  refine ⟨_,rfl,?_⟩
  have hn:¬ ((gC (some (none,6)):Nat):Int)=0:=by simp [gC]
  have hn2:((gC (some (none,6)):Nat):Int)=6:=rfl
  refine gy ?_
  refine ag (met (eJ hs) ?_)
  clear hs
  rintro _ w ⟨rfl,hs⟩
  refine ⟨_,rfl,?_⟩
  refine gy ?_
  refine ag (met (eJ hs) ?_)
  clear hs
  rintro _ w ⟨rfl,hs⟩
  refine ⟨_,rfl,?_⟩
  obtain ⟨vp,vs,us,hu,hs⟩:=(hs.take (.there (.there (.there (.there (.there .here)))))).jD
  rw [hc] at hs
  refine gy ?_
  refine ah rfl ⟨X,h.more (Nat.le_refl _) (by omega) (by omega),⟨rfl,fun hf=>by rw [hc] at hf;cases hf⟩,rfl,?_⟩
  have h2:=Sat.dK (rb:=X.rb) (r:=X.r) hu (by rw [hc];exact hs)
  exact Sat.Az _ hc h2.to
 | false=>
  obtain ⟨s',D',e1,hinv,hok⟩:=Lx h hc hEE hB hN
  rw [hc] at hs
  refine ag (met (E6 rfl e1 hW (hs.fg (.there (.there .here)) (.there (.there .here)))) ?_)
  clear hs
  rintro _ w ⟨ve,rfl,hs⟩
  refine ⟨_,rfl,?_⟩
  have hs:Sat W0 (fy X.b X.d X.o false none s'::aj X.d D'::aH ve none::blk b3 84 [.int .i64 11,.int .i64 a,.int .i64 b,str ss,str tt,lv]::blk p 91 (bA X)::eS X.rb X.r::gD X.det::aG X.vo X.out::aG X.vw X.out::F) w:=hs
  refine gy ?_
  refine ag (met (eA hE (hs.take (.there (.there .here)))) ?_)
  clear hs
  rintro _ w ⟨rfl,hs⟩
  refine ⟨_,rfl,?_⟩
  have hn:((gC none:Nat):Int)=0:=rfl
  refine gy ?_
  refine ag (met (eJ hs) ?_)
  clear hs
  rintro _ w ⟨rfl,hs⟩
  refine ⟨_,rfl,?_⟩
  obtain ⟨vp,vs,us,hu,hs⟩:=(hs.take (.there (.there (.there (.there (.there .here)))))).jD
  rw [hc] at hs
  refine gy ?_
  refine ah rfl ⟨_,hok,⟨rfl,fun _=>⟨X.o,hinv⟩⟩,rfl,?_⟩
  have h2:=Sat.dK (rb:=X.rb) (r:=X.r) hu (by rw [hc];exact hs)
  exact Sat.Az _ hc h2.to
theorem AA {o:l8} (hk:o.kind=11) (hW:jF W0) (hE:iD W0) (h:gU X E B N) (hEE:E≤1048576) (hB:B≤16777216) (hN:N+8388608≤4611686018427387904) (hs:Sat W0 (wL p X F) w) :
 Calls Tryz.prog 38 #[ay p,.agg (nQ o).toArray] w (iH W0 p F E (B+1) (N+8388608)):=
 (pJ hk hW hE h hEE hB hN hs).mono fun _ _ ⟨X',h1,_,h3,h4⟩=>⟨X',h1,h3,h4⟩
end
end Go.Proofs.YtecibefflhomdaaGreatDoor
