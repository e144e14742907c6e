/-
  Part 38: WALKS api; WALKS package levels; WALKS errors; WALKS table.
-/
import Derived.Test.YtecibefflhomdaaGreatDoorW37
set_option maxHeartbeats 8000000
set_option maxRecDepth 100000
set_option linter.all false
namespace Go.Proofs.YtecibefflhomdaaGreatDoor
open Go
section
open Go.Proofs.YtecibefflhomdaaGreatDoor.Pure (ad ax)
attribute [local irreducible] IntKind.wrap
variable {W0 w:World} {F l:List ah} {v:Value} {d:Nat} {D:ad}
abbrev CL (v:Value) (ss:List Bs):ah:=aI 1 v 9 ss.length (ss.map str)
theorem F5 (hs:Sat W0 (dL d D::F) w) (hn:D.now.length≤1099511627776) :
 Calls Tryz.prog 15 #[au d] w fun x w'=>∃ v,x=.returned v∧Sat W0 (dL d D::CL v (eQ D)::F) w':=by
 obtain ⟨hok,z,hs⟩:=hs.eL
 dsimp only [fB,aU,List.cons_append,List.nil_append] at hs
 refine enter Tryz.func15 rfl Tryz.ntmps15 Tryz.results15 rfl ?_
 refine gx ?_
 refine nt bP hs (.there .here) rfl rfl rfl ?_
 clear hs
 intro w it hs
 have hs:=Sat.dA (k:=1) (E:=9) hs
 refine gx ?_
 refine aK (α:=List (Bs×Nat)×List Bs×Value) (fun y=>[(0,au d),(3,y.2.2),(9,.pointer (some ⟨it,0,none⟩))])
  (fun y w=>((y.2.1++y.1.map (·.1)).Perm (D.now.map (·.1)))∧∃ last,Sat W0 (CL y.2.2 y.2.1::fi bP z.bn it (aJ D.now) (aJ y.1) last::blk d 111 (aU z D)::aO bP z.bs (aJ D.safe)::ei z.mv D.moves::star (D.nodes.map di)::F) w) (fun y=>y.1.length)
  (D.now,[],.slice none 0 0) ⟨rfl,rfl,rfl,trivial⟩ ⟨.refl _,none,hs.to⟩ ?_
 clear hs
 rintro ⟨left,acc,v⟩ w ⟨hp,last,hs⟩
 dsimp only at hp hs ⊢
 refine gx ?_
 refine pS bP hs (.there .here) rfl rfl (fun h0=>?_) (fun l1 x l2 w hl hs=>?_)
 ·have hl0:left=[]:=by simpa [aJ] using h0
  subst hl0
  rw [List.map_nil,List.append_nil] at hp
  have hs:=(hs.take (.there .here)).lM
  refine gx ?_
  have hlen:acc.length≤1099511627776:=by have:=hp.length_eq;rw [List.length_map] at this;omega
  refine ae (met (CK (hs.take (.there .here)) hlen) ?_)
  clear hs
  rintro _ w ⟨u,rfl,hs⟩
  refine ⟨_,rfl,?_⟩
  have he:kM acc=eQ D:=by unfold eQ;exact oS hp
  rw [he] at hs
  refine gx ?_
  exact ak rfl ⟨_,rfl,Sat.cz (z:=z) hok hs.to⟩
 ·obtain ⟨a,p,b,rfl,rfl,hab⟩:=iU hl
  rw [hab] at hs
  have hlen:=hp.length_eq
  simp only [List.length_append,List.length_map,List.length_cons] at hlen
  refine gx ?_
  refine ny bP hs .here rfl rfl ?_
  refine gx ?_
  refine fy hs ?_
  clear hs
  intro w b2 hs
  refine gx ?_
  refine eA hs ?_
  clear hs
  intro v2 w hs
  refine gx ?_
  refine aA (a++b,acc++[p.1],v2) ⟨rfl,rfl,rfl,trivial⟩ ⟨?_,some (p.1,au p.2),?_⟩ (by simp)
  ·refine List.Perm.trans ?_ hp
   simp only [List.map_append,List.map_cons,List.append_assoc,List.singleton_append]
   refine List.Perm.append_left acc ?_
   exact List.perm_middle.symm
  ·have h3:=hs.head (A':=CL v2 (acc++[p.1])) fun hp k=>by
    unfold CL
    rw [List.length_append,List.length_singleton,List.map_append]
    exact k
   exact h3.to
theorem IY (hs:Sat W0 (ag d D::F) w) (hn:D.now.length≤1099511627776) :
 Calls Tryz.prog 15 #[au d] w fun x w'=>∃ v,x=.returned v∧Sat W0 (ag d D::CL v (eQ D)::F) w':=by
 obtain ⟨D0,f,h,h0,hs⟩:=hs.mW
 have hp:=h.perm h0
 have hl:eQ D0=eQ D:=by
  unfold eQ
  refine oS ?_
  have:=hp.map (·.1)
  rwa [List.map_map] at this
 refine (F5 hs (by have:=hp.length_eq;rw [List.length_map] at this;omega)).mono ?_
 rintro _ w' ⟨v,rfl,hs⟩
 rw [hl] at hs
 exact ⟨v,rfl,hs.gJ h⟩
end
section
open Go.Proofs.YtecibefflhomdaaGreatDoor.Pure (ad ay Rd bu less aQ aY bz bB az cU dec iL dG bX gC aZ aD dB Sc Gr lP ax bZ ew)
attribute [local irreducible] IntKind.wrap
variable {W0 w:World} {F:List ah} {v:Value} {b d m p:Nat} {o:jX} {cl:Bool} {be:Option cy} {s:St} {D D':ad}
def vd (cl:Bool) (be:Option cy) (s:St) (D:ad):Option cy×ad:=match oF cl be with
 | some e=>(some e,D)
 | none=>(bg D s.log,dU D s.log)
theorem sE (hs:Sat W0 (fx b d o cl be s::ag d D::F) w) :
 Calls Tryz.prog 44 #[au b] w fun y w'=>∃ ve,y=.returned ve∧Sat W0 (fx b d o true be s::ag d (vd cl be s D).2::aL ve (vd cl be s D).1::F) w':=by
 obtain ⟨hl,br,z,hs⟩:=hs.uK
 refine uf Tryz.func44 rfl Tryz.ntmps44 Tryz.results44 rfl ?_
 refine gx ?_
 refine qf hs ?_
 clear hs
 intro w hs
 have hs:Sat W0 (blk b 133 (aj (KS d o cl br 1) z s)::aL br be::ea d z s.levels::aS z.m s.mem::aO bF z.sn (aC s.snaps)::ag d D::F) w:=hs
 refine gx ?_
 refine nG rfl ?_
 refine gx ?_
 refine ae (met (kK (K:=KS d o cl br 1) (be:=be) hs) ?_)
 clear hs
 rintro _ w ⟨ve,rfl,hs⟩
 refine ⟨_,rfl,?_⟩
 have hb:BZ (KS d o cl br 1) be=oF cl be:=rfl
 rw [hb] at hs
 unfold vd
 refine gB ?_
 refine dk rfl ?_
 refine gx ?_
 refine bI hs ?_
 clear hs
 intro w hs
 have hs:Sat W0 (aL ve (oF cl be)::blk b 133 (aj (KS d o true br 1) z s)::aL br be::ea d z s.levels::aS z.m s.mem::aO bF z.sn (aC s.snaps)::ag d D::F) w:=hs
 cases hbx:oF cl be with
 | some e=>
  rw [hbx] at hs
  obtain ⟨t,u,rfl⟩:=hs.aV
  refine gx ?_
  refine gW (.inl rfl) hs ?_
  clear hs
  intro w hs
  exact ⟨_,rfl,Sat.jb (z:=z) hl hs.to⟩
 | none=>
  rw [hbx] at hs
  have hve:=hs.cD
  subst hve
  refine gx ?_
  refine bM [blk b 133 (aj (KS d o true br 1) z s)] [(0,false),(1,false),(2,false),(3,false),(4,false),(5,false),(6,false),(7,false),(8,true),(9,false)] hs (by kernel_rfl) ?_
  clear hs
  intro w hs
  refine gx ?_
  refine ae (met (x5 (n:=s.log) (F:=blk b 133 (aj (KS d o true br 1) z s)::aL br be::ea d z s.levels::aS z.m s.mem::aO bF z.sn (aC s.snaps)::F) hs.to) ?_)
  clear hs
  rintro _ w ⟨ve,rfl,hs⟩
  refine ⟨_,rfl,?_⟩
  refine gx ?_
  refine gW (.inl rfl) hs ?_
  clear hs
  intro w hs
  exact ⟨_,rfl,Sat.jb (z:=z) hl hs.to⟩
def N7 (b d:Nat) (o:jX) (cl:Bool):Except cy St→ah
 | .ok s=>fx b d o cl none s
 | .error e=>fun h=>∃ s,fx b d o cl (some e) s h
theorem Sat.Ef {K:SK} {x:Except cy St} (h:Sat W0 (Bh b K x::F) w):∃ s',(∀ r,x=.ok r→s'=r)∧Sat W0 (nd b K s'::F) w:=by
 cases x with
 | ok r=>exact ⟨r,fun _ hh=>(Except.ok.inj hh),h⟩
 | error e=>
  obtain ⟨s',_,hs⟩:=h.fg (φ:=fun _:St=>True) (B:=fun s'=>[nd b K s']) fun hp ⟨s',k⟩=>⟨s',trivial,hp,fun _=>none,fun _ _ _ _ hy=>(by cases hy),Hp.le_refl _,fun _ _ hx=>(by cases hx),k,trivial⟩
  exact ⟨s',fun _ hh=>(by cases hh),hs⟩
theorem Sat.Eg {x:Except cy St} {s':St} {br:Value} (hx:∀ r,x=.ok r→s'=r) (h:Sat W0 (nd b (KS d o cl br 0) s'::aL br (dC x)::F) w):Sat W0 (N7 b d o cl x::F) w:=by
 cases x with
 | ok r=>
  obtain rfl:=hx r rfl
  exact Sat.yq h
 | error e=>exact (Sat.yq h).head fun _ k=>⟨s',k⟩
theorem Sat.IZ {o':Option cy} (h:Sat W0 (aL v o'::F) w):Sat W0 (aL v o'::aL v o'::F) w:=Sat.qh (zY v o') h
theorem Sat.I0 {o':Option cy} (h:Sat W0 (aL v o'::F) w):ej v=true:=by
 cases o' with
 | none=>rw [h.cD];rfl
 | some e=>obtain ⟨t,u,rfl⟩:=h.aV;rfl
theorem CM {x:Except cy St} (hg:oF cl be=none) (h:lZ o s D=some (x,D')) (hW:jP W0) (hs:Sat W0 (fx b d o cl be s::ag d D::F) w) :
 Calls Tryz.prog 75 #[au b] w fun y w'=>∃ ve,y=.returned ve∧Sat W0 (N7 b d o cl x::ag d D'::aL ve (dC x)::F) w':=by
 obtain ⟨hl,br,z,hs⟩:=hs.uK
 refine uf Tryz.func75 rfl Tryz.ntmps75 Tryz.results75 rfl ?_
 refine gx ?_
 refine qf hs ?_
 clear hs
 intro w hs
 have hs:Sat W0 (blk b 133 (aj (KS d o cl br 1) z s)::aL br be::ea d z s.levels::aS z.m s.mem::aO bF z.sn (aC s.snaps)::ag d D::F) w:=hs
 refine gx ?_
 refine nG rfl ?_
 refine gx ?_
 refine ae (met (kK (K:=KS d o cl br 1) (be:=be) hs) ?_)
 clear hs
 rintro _ w ⟨ve,rfl,hs⟩
 refine ⟨_,rfl,?_⟩
 have hb:BZ (KS d o cl br 1) be=oF cl be:=rfl
 rw [hb] at hs
 rw [hg] at hs
 have hve:=hs.cD
 subst hve
 refine gx ?_
 have hs:=Sat.bJ (K:=KS d o cl br 1) (z:=z) hl (hs.to (a:=blk b 133 (aj (KS d o cl br 1) z s)::ea d z s.levels::aS z.m s.mem::aO bF z.sn (aC s.snaps)::ag d D::F))
 refine ae (met (ym (K:=KS d o cl br 1) h hW hs) ?_)
 clear hs
 rintro _ w ⟨ve,rfl,hs⟩
 refine ⟨_,rfl,?_⟩
 obtain ⟨s',hs',hs⟩:=hs.Ef
 obtain ⟨hl',z',hs⟩:=hs.gM
 have h1:=Sat.I0 (hs.take (.there (.there (.there (.there (.there .here))))))
 refine gx ?_
 refine bI hs (h1:=h1) ?_
 clear hs
 intro w hs
 have hs:Sat W0 (blk b 133 (aj (KS d o cl ve 1) z' s')::ea d z' s'.levels::aS z'.m s'.mem::aO bF z'.sn (aC s'.snaps)::ag d D'::aL ve (dC x)::F) w:=hs
 refine gx ?_
 refine gW (.inl rfl) hs ?_
 clear hs
 intro w hs
 refine ⟨_,rfl,?_⟩
 have hs:=Sat.IZ (hs.take (.there (.there (.there (.there (.there .here))))))
 have hs:=Sat.bJ (K:=KS d o cl ve 0) (s:=s') (z:=z') hl' (hs.to (a:=blk b 133 (aj (KS d o cl ve 0) z' s')::ea d z' s'.levels::aS z'.m s'.mem::aO bF z'.sn (aC s'.snaps)::aL ve (dC x)::ag d D'::aL ve (dC x)::F))
 exact Sat.Eg hs' hs
def pB:List bX→Option cy
 | []=>none
 | c::r=>if c.key.length=0∨8<c.key.length then some (none,3) else if c.del=false∧16<c.val.length then some (none,4) else pB r
def mh (cl:Bool) (be:Option cy) (l:List bX):Option cy:=match oF cl be with
 | some e=>some e
 | none=>if 8<l.length then some (none,2) else pB l
theorem Eh:∀ {l:List bX},pB l=none→∀ c∈l,(c.key.length≠0∧c.key.length≤8)∧(c.del=false→c.val.length≤16)
 | [],_,c,hc=>by cases hc
 | x::r,h,c,hc=>by
  unfold pB at h
  split at h
  ·cases h
  ·rename_i h1
   split at h
   ·cases h
   ·rename_i h2
    rcases List.mem_cons.1 hc with rfl|hc
    ·exact ⟨by omega,fun hd=>by
      cases Nat.lt_or_ge 16 c.val.length with
      | inl h3=>exact absurd ⟨hd,h3⟩ h2
      | inr h3=>exact h3⟩
    ·exact Eh h c hc
theorem F6 (l:List bX) (i:Nat) (c:bX) (h:l[i]?=some c):pB (l.drop i)=if c.key.length=0∨8<c.key.length then some (none,3) else if c.del=false∧16<c.val.length then some (none,4) else pB (l.drop (i+1)):=by
 have:l.drop i=c::l.drop (i+1):=by
  have hlt:=(List.getElem?_eq_some_iff.1 h).1
  rw [List.drop_eq_getElem_cons hlt,(List.getElem?_eq_some_iff.1 h).2]
 rw [this];rfl
def Om (A:ah) (b d:Nat) (o:jX) (cl:Bool) (be:Option cy) (s:St) (D:ad) (D':ad) (x:Except cy St) (ve:Value) (F:List ah):Option cy→List ah
 | some e=>fx b d o cl be s::ag d D::aL ve (some e)::A::F
 | none=>N7 b d o cl x::ag d D'::aL ve (dC x)::A::F
theorem lq {A:ah} {l:List bX} {sync:Bool} {x:Except cy St} (h:mh cl be l=none→kJ o s D l sync=some (x,D')) (hA:LU A 3 v (dF l)) (hlen:l.length≤1099511627776) (hW:jP W0) (hs:Sat W0 (fx b d o cl be s::ag d D::A::F) w) :
 Calls Tryz.prog 41 #[au b,v,.bool sync] w fun y w'=>∃ ve,y=.returned ve∧Sat W0 (Om A b d o cl be s D D' x ve F (mh cl be l)) w':=by
 obtain ⟨hl,br,z,hs⟩:=hs.uK
 refine uf Tryz.func41 rfl Tryz.ntmps41 Tryz.results41 rfl ?_
 refine gx ?_
 refine qf hs ?_
 clear hs
 intro w hs
 have hs:Sat W0 (blk b 133 (aj (KS d o cl br 1) z s)::aL br be::ea d z s.levels::aS z.m s.mem::aO bF z.sn (aC s.snaps)::ag d D::A::F) w:=hs
 refine gx ?_
 refine nG rfl ?_
 refine gx ?_
 refine ae (met (kK (K:=KS d o cl br 1) (be:=be) hs) ?_)
 clear hs
 rintro _ w ⟨ve,rfl,hs⟩
 refine ⟨_,rfl,?_⟩
 have hb:BZ (KS d o cl br 1) be=oF cl be:=rfl
 rw [hb] at hs
 obtain ⟨⟨av,cv,rfl⟩,-,-⟩:=id hA
 rw [dR]
 cases hbx:oF cl be with
 | some e=>
  have hr:mh cl be l=some e:=by unfold mh;rw [hbx]
  rw [hr]
  rw [hbx] at hs
  obtain ⟨t,u,rfl⟩:=hs.aV
  refine gx ?_
  refine gW (.inl rfl) hs ?_
  clear hs
  intro w hs
  exact ⟨_,rfl,Sat.jb (z:=z) hl hs.to⟩
 | none=>
  rw [hbx] at hs
  have hve:=hs.cD
  subst hve
  have hs:=hs.drop
  by_cases h8:8<l.length
  ·have hr:mh cl be l=some (none,2):=by unfold mh;rw [hbx];exact if_pos h8
   rw [hr]
   have h8':(l.length:Int) > 8:=by omega
   refine gx ?_
   have hs:=Sat.pg (k:=2) hs
   refine gW (.inl rfl) hs ?_
   clear hs
   intro w hs
   exact ⟨_,rfl,Sat.jb (z:=z) hl hs.to⟩
  ·have h8':¬ ((l.length:Int) > 8):=by omega
   have hr:mh cl be l=pB l:=by unfold mh;rw [hbx];exact if_neg h8
   refine gx ?_
   refine aK (α:=Nat) (fun i=>[(0,au b),(1,.slice av l.length cv),(2,.bool sync),(26,.slice av l.length cv),(27,.int .i64 (l.length:Int)),(28,.int .i64 (i:Int))])
    (fun i w=>(i≤l.length∧pB (l.drop i)=pB l)∧Sat W0 (blk b 133 (aj (KS d o cl br 1) z s)::aL br be::ea d z s.levels::aS z.m s.mem::aO bF z.sn (aC s.snaps)::ag d D::A::F) w) (fun i=>l.length-i) 0 ⟨rfl,rfl,rfl,rfl,rfl,rfl,trivial⟩ ⟨⟨Nat.zero_le _,rfl⟩,hs⟩ ?_
   clear hs
   rintro i w ⟨⟨hi,hck⟩,hs⟩
   by_cases hlt:i<l.length
   ·have hlt':(i:Int)<(l.length:Int):=by omega
    have hg:l[i]?=some l[i]:=List.getElem?_eq_getElem hlt
    have hcd:=F6 l i _ hg
    generalize l[i]=c at hg hcd
    obtain ⟨bb,o',cc,hv,hcell⟩:=hA.row (nN hg)
    rw [dR] at hv
    obtain ⟨rfl,_,rfl⟩:=Value.slice.inj hv
    have hcl:=hcell W0 _ w (hs.take (.there (.there (.there (.there (.there (.there .here)))))))
    obtain ⟨ck,cval,cd⟩:=c
    refine gx ?_
    refine cK (i:=i) rfl rfl rfl rfl rfl hlt rfl ?_
    refine yn (lC ⟨ck,cval,cd⟩) rfl rfl rfl hcl rfl ?_
    refine gx ?_
    refine aW hs ?_
    clear hs hcl
    intro w b9 hs
    refine gx ?_
    refine cV (vs:=lC ⟨ck,cval,cd⟩) hs ?_
    clear hs
    intro w hs
    by_cases hk0:ck.length=0
    ·have hk0':(ck.length:Int)=0:=by omega
     have hr2:mh cl be l=some (none,3):=by rw [hr,← hck,hcd];exact if_pos (.inl hk0)
     rw [hr2]
     refine gx ?_
     have hs:=Sat.pg (k:=3) hs
     refine gW (.inl rfl) hs ?_
     clear hs
     intro w hs
     exact ⟨_,rfl,Sat.jb (z:=z) hl hs.to⟩
    ·have hk0':¬ ((ck.length:Int)=0):=by omega
     by_cases hk8:8<ck.length
     ·have hk8':(ck.length:Int) > 8:=by omega
      have hr2:mh cl be l=some (none,3):=by rw [hr,← hck,hcd];exact if_pos (.inr hk8)
      rw [hr2]
      refine gx ?_
      have hs:=Sat.pg (k:=3) hs
      refine gW (.inl rfl) hs ?_
      clear hs
      intro w hs
      exact ⟨_,rfl,Sat.jb (z:=z) hl hs.to⟩
     ·have hk8':¬ ((ck.length:Int) > 8):=by omega
      rw [if_neg (by dsimp only;omega)] at hcd
      cases cd with
      | true=>
       rw [if_neg (by simp)] at hcd
       refine gx ?_
       exact aA (i+1) ⟨rfl,rfl,rfl,rfl,rfl,rfl,trivial⟩ ⟨⟨hlt,by rw [← hcd];exact hck⟩,hs.drop⟩ (by omega)
      | false=>
       by_cases hv16:16<cval.length
       ·have hv16':(cval.length:Int) > 16:=by omega
        have hr2:mh cl be l=some (none,4):=by rw [hr,← hck,hcd];exact if_pos ⟨rfl,hv16⟩
        rw [hr2]
        refine gx ?_
        have hs:=Sat.pg (k:=4) hs
        refine gW (.inl rfl) hs ?_
        clear hs
        intro w hs
        exact ⟨_,rfl,Sat.jb (z:=z) hl hs.to⟩
       ·have hv16':¬ ((cval.length:Int) > 16):=by omega
        rw [if_neg (fun hh=>hv16 hh.2)] at hcd
        refine gx ?_
        exact aA (i+1) ⟨rfl,rfl,rfl,rfl,rfl,rfl,trivial⟩ ⟨⟨hlt,by rw [← hcd];exact hck⟩,hs.drop⟩ (by omega)
   ·have hie:i=l.length:=by omega
    subst hie
    have hlt':¬ ((l.length:Int)<(l.length:Int)):=by omega
    rw [List.drop_length] at hck
    have hr2:mh cl be l=none:=by rw [hr,← hck];rfl
    have hw:=h hr2
    rw [hr2]
    have hok:=Eh (show pB l=none by rw [← hck];rfl)
    have hch:LV l:=⟨by omega,fun c hc=>by have:=(hok c hc).1;omega,fun c hc hd=>by have:=(hok c hc).2 hd;omega⟩
    refine gx ?_
    have hs:=Sat.bJ (K:=KS d o cl br 1) (z:=z) hl (hs.to (a:=blk b 133 (aj (KS d o cl br 1) z s)::ea d z s.levels::aS z.m s.mem::aO bF z.sn (aC s.snaps)::ag d D::A::F))
    have hA':LU A 3 (.slice av l.length cv) (dF l):=by rw [← dR];exact hA
    refine ae (met (Ab (K:=KS d o cl br 1) hw hA' hch hW hs) ?_)
    clear hs
    rintro _ w ⟨ve,rfl,hs⟩
    refine ⟨_,rfl,?_⟩
    obtain ⟨s',hs',hs⟩:=hs.Ef
    obtain ⟨hl',z',hs⟩:=hs.gM
    have h1:=Sat.I0 (hs.take (.there (.there (.there (.there (.there .here))))))
    refine gx ?_
    refine bI hs (h1:=h1) ?_
    clear hs
    intro w hs
    have hs:Sat W0 (blk b 133 (aj (KS d o cl ve 1) z' s')::ea d z' s'.levels::aS z'.m s'.mem::aO bF z'.sn (aC s'.snaps)::ag d D'::aL ve (dC x)::A::F) w:=hs
    refine gx ?_
    refine gW (.inl rfl) hs ?_
    clear hs
    intro w hs
    refine ⟨_,rfl,?_⟩
    have hs:=Sat.IZ (hs.take (.there (.there (.there (.there (.there .here))))))
    have hs:=Sat.bJ (K:=KS d o cl ve 0) (s:=s') (z:=z') hl' (hs.to (a:=blk b 133 (aj (KS d o cl ve 0) z' s')::ea d z' s'.levels::aS z'.m s'.mem::aO bF z'.sn (aC s'.snaps)::aL ve (dC x)::ag d D'::aL ve (dC x)::A::F))
    exact Sat.Eg hs' hs
end
section
open Go Go.Extern
open Go.Proofs.YtecibefflhomdaaGreatDoor.Pure (ad ay Rd bu ax)
attribute [local irreducible] IntKind.wrap
variable {W0 w:World} {F:List ah} {d:Nat} {D D':ad}
theorem Nz (k:Int) (w:World):(binOp .eql 41 .nilIface (.iface 44 (.int .i64 k))).run Tryz.prog w=.ok (.bool false) w:=by
 have h:∀ d:Nat,(Op.equalIn (d+1) 41 .nilIface (.iface 44 (.int .i64 k))).run Tryz.prog w=.ok false w:=fun d=>by
  simp [Op.equalIn,run_underlying Tryz.underlying41]
 simp only [binOp]
 simp [Op.equal,Op.maxDepth,h 9999]
theorem Ky {m:Nat} (hs:Sat W0 F w) :
 Calls Tryz.prog 90 #[.nilIface,.iface 44 (.int .i64 (m:Int))] w fun x w'=>x=.returned (.bool false)∧Sat W0 F w':=by
 refine enter Tryz.func90 rfl Tryz.ntmps90 Tryz.results90 rfl ?_
 refine gx ?_
 refine yE rfl rfl rfl (Nz _ _) rfl ?_
 refine gx ?_
 exact ak rfl ⟨rfl,hs⟩
theorem gl {s:Bs} (hs:Sat W0 F w) :
 Calls Tryz.prog 92 #[str s] w fun x w'=>∃ ve,x=.returned ve∧Sat W0 (aL ve (some (some s,7))::F) w':=by
 refine enter Tryz.func92 rfl Tryz.ntmps92 Tryz.results92 rfl ?_
 refine gx ?_
 refine bw [str s,.int .i64 7] ?_
 refine cC hs fun w b hs=>?_
 refine gx ?_
 exact ak rfl ⟨_,rfl,hs.o7⟩
theorem rT {e:cy} {ve:Value} (hE:kP W0) (hs:Sat W0 (aL ve (some e)::F) w) :
 Calls Tryz.prog 96 #[ve] w fun x w'=>∃ ve',x=.returned ve'∧Sat W0 (aL ve' (some (sx e))::F) w':=by
 obtain ⟨o,k⟩:=e
 refine enter Tryz.func96 rfl Tryz.ntmps96 Tryz.results96 rfl ?_
 cases o with
 | none=>
  have hv:=hs.AN
  subst hv
  refine gx ?_
  refine aW hs fun w b3 hs=>?_
  refine gx ?_
  refine ae (met (FY hE hs) ?_)
  clear hs
  rintro _ w ⟨rfl,hs⟩
  refine ⟨_,rfl,?_⟩
  refine gx ?_
  exact ak rfl ⟨_,rfl,hs.drop⟩
 | some s=>
  obtain ⟨b,rfl,h2⟩:=hs.IS
  clear hs
  refine gx ?_
  refine aW h2 fun w b3 h2=>?_
  refine gx ?_
  refine ae (met (FZ hE h2) ?_)
  clear h2
  rintro _ w ⟨rfl,hs⟩
  refine ⟨_,rfl,?_⟩
  unfold sx
  dsimp only
  by_cases h10:k=10
  ·have h':((k:Nat):Int)=10:=by omega
   rw [if_pos h10]
   refine gx ?_
   refine ae (met (gl (s:=s) hs) ?_)
   clear hs
   rintro _ w ⟨ve,rfl,hs⟩
   refine ⟨_,rfl,?_⟩
   refine gx ?_
   exact ak rfl ⟨_,rfl,hs.to⟩
  ·have h':¬ ((k:Nat):Int)=10:=by omega
   rw [if_neg h10]
   refine gx ?_
   exact ak rfl ⟨_,rfl,hs.drop.rR⟩
def okB:Except cy Bs→Bs
 | .ok b=>b
 | .error _=>[]
theorem vg {n:Bs} (hs:Sat W0 (ag d D::F) w) :
 Calls Tryz.prog 89 #[au d,str n] w fun x w'=>∃ v ve,x=.returned (.tuple #[v,ve])∧Sat W0 (ag d (ie D n).2::cg v (okB (ie D n).1)::aL ve (dC (ie D n).1)::F) w':=by
 refine enter Tryz.func89 rfl Tryz.ntmps89 Tryz.results89 rfl ?_
 refine gx ?_
 have hok:=hs.MA
 refine ae (met (Hi (n:=n) hs) ?_)
 clear hs
 rintro _ w ⟨ve,rfl,hs⟩
 refine ⟨_,rfl,?_⟩
 unfold ie
 cases h1:bg D n with
 | some e=>
  rw [h1] at hs
  obtain ⟨t,u,rfl⟩:=(hs.take (.there .here)).aV
  refine gx ?_
  exact ak rfl ⟨_,_,rfl,(Sat.tF hs).to⟩
 | none=>
  rw [h1] at hs
  have hve:=(hs.take (.there .here)).cD
  subst hve
  have hsz:jM D n≤9223372036854775807:=by
   unfold jM;rw [h1];dsimp only
   unfold fileOf
   cases hg:ax D.now n with
   | none=>simp
   | some i=>have:=Pure.ad.size_le hg;have:=hok.used;dsimp only;omega
  refine gx ?_
  refine ae (met (qd (nm:=n) (at_:=0) (n:=(jM D n:Int)) hs (by omega) (by omega) (by omega) (by omega)) ?_)
  clear hs
  rintro _ w ⟨v,ve,rfl,hs⟩
  refine ⟨_,rfl,?_⟩
  refine gx ?_
  cases h2:bg D.tick n with
  | some e=>
   rw [h2] at hs
   refine ak rfl ⟨_,_,rfl,?_⟩
   have e2:ix D.tick n 0 (jM D n:Int)=[]:=by unfold ix;rw [h2]
   rw [e2] at hs
   exact hs.to
  | none=>
   rw [h2] at hs
   exact ak rfl ⟨_,_,rfl,hs.to⟩
end
section
open Go.Proofs.YtecibefflhomdaaGreatDoor.Pure (ad ay Rd bu less aQ aY bz bB az cU dec iL)
attribute [local irreducible] IntKind.wrap
variable {W0 w:World} {F:List ah} {v:Value} {d p:Nat} {D D':ad}
theorem xq (h:D.Ok) (nm:Bs):(fileOf D nm).length≤4398046511104:=by
 have h3:=h.used
 have h2:(fileOf D nm).length≤D.used:=by
  unfold fileOf
  cases hg:Pure.ax D.now nm with
  | none=>simp
  | some j=>exact Pure.ad.size_le hg
 omega
theorem qP (h:D.Ok) (nm:Bs) (a n:Int):(ix D nm a n).length≤4398046511104:=by
 have h1:=xq h nm
 unfold ix
 split
 ·simp
 ·simp only [dV,List.length_take,List.length_drop];omega
theorem I1 (h:D.Ok) (nm:Bs):jM D nm≤4398046511104:=by
 unfold jM;split
 ·omega
 ·exact xq h nm
theorem I2 {n:Int} (h0:9223372036854775808≤n) (h1:n≤18446744073709551615):IntKind.i64.wrap n=n-18446744073709551616:=by rw [IntKind.wrap_i64];omega
theorem Kz {bs:Bs} (h:bs.length=8):(Rd.num ⟨bs,false⟩ 8).1=iL bs:=by
 unfold Pure.Rd.num Pure.Rd.bytes
 rw [if_neg (by simp [h])]
 simp [← h]
theorem AS {r:Rd} (h:¬ (r.rest≠[]∧r.bad=false)) (f:Nat):fp f r=([],r.bad):=by
 cases f with
 | zero=>rfl
 | succ f=>unfold fp;rw [if_neg h]
theorem AU {r:Rd} (h:r.rest≠[]∧r.bad=false) (f:Nat):fp (f+1) r=((r.text.1,(r.text.2.num 4).1,((r.text.2.num 4).2.num 4).1)::(fp f ((r.text.2.num 4).2.num 4).2).1,(fp f ((r.text.2.num 4).2.num 4).2).2):=by
 conv=>lhs;unfold fp
 rw [if_pos h]
theorem KA {r:Rd} (hb:r.bad=false) (hr:r.rest≠[]):r.text.2.rest.length<r.rest.length:=by
 have h1:(r.num 1).2.rest.length<r.rest.length:=by
  have hpos:0<r.rest.length:=List.length_pos_iff.2 hr
  unfold Pure.Rd.num Pure.Rd.bytes
  rw [if_neg (by simp [hb];omega)]
  simp;omega
 exact Nat.lt_of_le_of_lt (Pure.Rd.gG _ _) h1
theorem sF:∀ (f:Nat) (r:Rd),∀ b∈(fp f r).1,b.2.1≤4611686018427387904∧b.2.2≤4611686018427387904
 | 0,r,b,h=>by cases h
 | f+1,r,b,h=>by
  unfold fp at h
  split at h
  ·rcases List.mem_cons.1 h with rfl|h
   ·have h1:=r.text.2.ku 4
    have h2:=(r.text.2.num 4).2.ku 4
    dsimp only;omega
   ·exact sF f _ b h
  ·cases h
theorem vh:∀ (f:Nat) (r:Rd),(fp f r).1.length≤f
 | 0,_=>Nat.le_refl _
 | f+1,r=>by unfold fp;split<;>simp [vh f]
theorem CN {nm:Bs} {x:Except cy cO} (h:wF D nm=some (x,D')) (hs:Sat W0 (ag d D::F) w) :
 Calls Tryz.prog 95 #[au d,str nm] w fun y w'=>∃ tv ve,y=.returned (.tuple #[tv,ve])∧Sat W0 (ag d D'::aL ve (dC x)::Ka d tv x::F) w':=by
 have hok:=hs.MA
 have hsz:=I1 hok nm
 unfold wF at h
 refine enter Tryz.func95 rfl Tryz.ntmps95 Tryz.results95 rfl ?_
 refine gx ?_
 refine ae (met (Hi (n:=nm) hs) ?_)
 rintro _ w ⟨ve,rfl,hs⟩
 refine ⟨_,rfl,?_⟩
 cases hf:bg D nm with
 | some e=>
  rw [hf] at h hs
  simp only [Option.some.injEq,Prod.mk.injEq] at h
  obtain ⟨rfl,rfl⟩:=h
  obtain ⟨t,u,rfl⟩:=(hs.take (.there .here)).aV
  refine gx ?_
  exact ak rfl ⟨_,_,rfl,Sat.to (Sat.emp hs)⟩
 | none=>
  rw [hf] at h hs
  dsimp only at h
  have hve:=(hs.take (.there .here)).cD
  subst hve
  generalize hN:jM D nm=N at *
  refine gx ?_
  refine ae (met (qd (nm:=nm) (at_:=(N:Int)-20) (n:=20) hs (by omega) (by omega) (by omega) (by omega)) ?_)
  rintro _ w ⟨rv,ve,rfl,hs⟩
  refine ⟨_,rfl,?_⟩
  cases hf2:bg D.tick nm with
  | some e=>
   rw [hf2] at h hs
   simp only [Option.some.injEq,Prod.mk.injEq] at h
   obtain ⟨rfl,rfl⟩:=h
   obtain ⟨t,u,rfl⟩:=(hs.take (.there (.there .here))).aV
   refine gx ?_
   exact ak rfl ⟨_,_,rfl,Sat.to (Sat.emp hs)⟩
  | none=>
   rw [hf2] at h hs
   dsimp only at h
   have hve:=(hs.take (.there (.there .here))).cD
   subst hve
   have hbl:=qP hok.tick nm ((N:Int)-20) 20
   have hs:=(hs.take (.there .here)).nk
   generalize ix D.tick nm ((N:Int)-20) 20=bs at *
   refine gx ?_
   refine ae (met (lQ hs (by omega)) ?_)
   rintro _ w ⟨v1,v2,rfl,hs⟩
   refine ⟨_,rfl,?_⟩
   generalize hD2:(counted D.tick 20).tick=D2 at *
   cases ho:bu bs with
   | none=>
    rw [ho] at h hs
    simp only [Option.some.injEq,Prod.mk.injEq] at h
    obtain ⟨rfl,rfl⟩:=h
    refine gx ?_
    refine ae (met (dP (nm:=nm) hs) ?_)
    rintro _ w ⟨ve,rfl,hs⟩
    refine ⟨_,rfl,gx ?_⟩
    exact ak rfl ⟨_,_,rfl,Sat.to (Sat.emp hs)⟩
   | some z=>
    rw [ho] at h hs
    dsimp only at h hs
    obtain ⟨a1,c1,rfl,hc1⟩:=hs.ft
    by_cases h8:z.1.length≠8
    ·rw [if_pos h8] at h
     simp only [Option.some.injEq,Prod.mk.injEq] at h
     obtain ⟨rfl,rfl⟩:=h
     refine gx ?_
     refine ae (met (dP (nm:=nm) hs) ?_)
     rintro _ w ⟨ve,rfl,hs⟩
     refine ⟨_,rfl,gx ?_⟩
     exact ak rfl ⟨_,_,rfl,Sat.to (Sat.emp hs)⟩
    ·rw [if_neg h8] at h
     have h8':z.1.length=8:=by omega
     refine gx ?_
     refine bw [.slice a1 z.1.length c1,.bool false] ?_
     refine cC hs fun w r hs=>?_
     have hs:=Sat.fE (rd:=⟨z.1,false⟩) hs
     refine gx ?_
     refine ae (met (eS (K:=8) hs (by show z.1.length≤_;omega) (by omega)) ?_)
     rintro _ w ⟨rfl,hs⟩
     refine ⟨_,rfl,?_⟩
     have hnl:=Pure.Rd.ku ⟨z.1,false⟩ 8
     rw [Kz h8'] at hnl ⊢
     generalize hA:iL z.1=A at *
     by_cases hbig:N<A
     ·rw [if_pos hbig] at h
      simp only [Option.some.injEq,Prod.mk.injEq] at h
      obtain ⟨rfl,rfl⟩:=h
      by_cases hneg:9223372036854775808≤A
      ·refine eJ (v:=.int .i64 ((A:Int)-18446744073709551616)) (by
        show some (Value.int .i64 (IntKind.i64.wrap (A:Int)))=_
        rw [I2 (by omega) (by omega)]) rfl ?_
       refine gx ?_
       refine ae (met (dP (nm:=nm) hs) ?_)
       rintro _ w ⟨ve,rfl,hs⟩
       refine ⟨_,rfl,gx ?_⟩
       exact ak rfl ⟨_,_,rfl,Sat.to (Sat.emp hs)⟩
      ·refine gx ?_
       refine ae (met (dP (nm:=nm) hs) ?_)
       rintro _ w ⟨ve,rfl,hs⟩
       refine ⟨_,rfl,gx ?_⟩
       exact ak rfl ⟨_,_,rfl,Sat.to (Sat.emp hs)⟩
     ·rw [if_neg hbig] at h
      unfold BX at h
      have hdk:=(hs.take (.there (.there .here))).MA
      refine gx ?_
      refine ae (met (qd (nm:=nm) (at_:=(A:Int)) (n:=(N:Int)-20-(A:Int)) (hs.take (.there (.there .here))) (by omega) (by omega) (by omega) (by omega)) ?_)
      rintro _ w ⟨rv,ve,rfl,hs⟩
      refine ⟨_,rfl,?_⟩
      cases hf3:bg D2 nm with
      | some e=>
       rw [hf3] at h hs
       simp only [Option.some.injEq,Prod.mk.injEq] at h
       obtain ⟨rfl,rfl⟩:=h
       obtain ⟨t,u,rfl⟩:=(hs.take (.there (.there .here))).aV
       refine gx ?_
       exact ak rfl ⟨_,_,rfl,Sat.to (Sat.emp hs)⟩
      | none=>
       rw [hf3] at h hs
       dsimp only at h
       have hve:=(hs.take (.there (.there .here))).cD
       subst hve
       have hbl:=qP hdk nm (A:Int) ((N:Int)-20-(A:Int))
       have hs:=(hs.take (.there .here)).nk
       generalize ix D2 nm (A:Int) ((N:Int)-20-(A:Int))=bs2 at *
       refine gx ?_
       refine ae (met (lQ hs (by omega)) ?_)
       rintro _ w ⟨v1,v2,rfl,hs⟩
       refine ⟨_,rfl,?_⟩
       generalize hD3:(counted D2 ((N:Int)-20-(A:Int))).tick=D3 at *
       cases ho2:bu bs2 with
       | none=>
        rw [ho2] at h hs
        simp only [Option.some.injEq,Prod.mk.injEq] at h
        obtain ⟨rfl,rfl⟩:=h
        refine gx ?_
        refine ae (met (dP (nm:=nm) hs) ?_)
        rintro _ w ⟨ve,rfl,hs⟩
        refine ⟨_,rfl,gx ?_⟩
        exact ak rfl ⟨_,_,rfl,Sat.to (Sat.emp hs)⟩
       | some y=>
        rw [ho2] at h hs
        dsimp only at h hs
        by_cases hb2:bs2.length≤gL
        ·rw [if_pos hb2,Option.some.injEq,Prod.mk.injEq] at h
         rw [bG] at hb2
         obtain ⟨hx,rfl⟩:=h
         have hyl:=lY ho2
         generalize y.1=ys at *
         obtain ⟨a3,c3,rfl,hc3⟩:=hs.ft
         refine gx ?_
         refine bw [.slice a3 ys.length c3,.bool false] ?_
         refine cC hs fun w r2 hs=>?_
         have hs:=Sat.fE (rd:=⟨ys,false⟩) hs
         refine gx ?_
         refine bw [str [],str [],str [],.int .i64 0,au d,.slice none 0 0] ?_
         refine cC hs fun w p hs=>?_
         refine gx ?_
         refine ae (met (gK (hs.take (.there .here)) (by show ys.length≤_;omega)) ?_)
         rintro _ w ⟨rfl,hs⟩
         refine ⟨_,rfl,gx ?_⟩
         have r1:=Pure.Rd.iv ⟨ys,false⟩
         have r1':(Rd.text ⟨ys,false⟩).2.rest.length≤ys.length:=r1
         refine ae (met (gK hs (by omega)) ?_)
         rintro _ w ⟨rfl,hs⟩
         refine ⟨_,rfl,gx ?_⟩
         have r2':=(Rd.text ⟨ys,false⟩).2.iv
         refine ae (met (eS (K:=4) hs (by omega) (by omega)) ?_)
         rintro _ w ⟨rfl,hs⟩
         refine ⟨_,rfl,?_⟩
         have r3:=(Rd.text ⟨ys,false⟩).2.text.2.cX 4
         have r4:=(Rd.text ⟨ys,false⟩).2.text.2.ku 4
         refine gx ?_
         refine bI hs fun w hs=>?_
         refine gx ?_
         refine bI hs fun w hs=>?_
         refine gx ?_
         refine bI hs fun w hs=>?_
         refine gx ?_
         refine bI hs fun w hs=>?_
         refine gx ?_
         unfold wE at hx
         dsimp only at hx
         generalize (Rd.text ⟨ys,false⟩).1=n1 at *
         generalize (Rd.text ⟨ys,false⟩).2=q1 at *
         generalize q1.text.1=n2 at *
         generalize q1.text.2=q2 at *
         generalize (q2.num 4).1=n3 at *
         generalize (q2.num 4).2=q3 at *
         have pn:=sF ys.length q3
         have pl:=vh ys.length q3
         refine aK (α:=Nat×Rd×List (Bs×Nat×Nat)×Value) (fun z=>[(0,au d),(1,str nm),(12,au r2),(15,au p)])
          (fun z w=>(z.2.2.1++(fp z.1 z.2.1).1=(fp ys.length q3).1∧(fp z.1 z.2.1).2=(fp ys.length q3).2∧z.2.1.rest.length≤z.1∧z.2.2.1.length+z.1≤ys.length) ∧
            Sat W0 (vH r2 z.2.1::blk p 200 [str nm,str n1,str n2,.int .i64 (n3:Int),au d,z.2.2.2]::aI 3 z.2.2.2 282 z.2.2.1.length (cI z.2.2.1).flatten::ag d D3::F) w) (fun z=>z.1) (ys.length,q3,[],.slice none 0 0) ⟨rfl,rfl,rfl,rfl,trivial⟩ ⟨⟨rfl,rfl,by dsimp only;omega,by simp⟩,Sat.to (Sat.dA (k:=3) (E:=282) hs)⟩ ?_
         clear hs
         rintro ⟨f,rd,acc,bv⟩ w ⟨⟨g1,g2,g3,g4⟩,hs⟩
         dsimp only at g1 g2 g3 g4 hs ⊢
         obtain ⟨vr,-,hs⟩:=hs.nD
         dsimp only [List.cons_append,List.nil_append] at hs
         obtain ⟨a4,c4,rfl,hc4⟩:=(hs.take (.there .here)).ft
         obtain ⟨a5,c5,rfl,hc5⟩:=(hs.take (.there (.there (.there .here)))).aB
         by_cases hgo:rd.rest≠[]∧rd.bad=false
         ·obtain ⟨j1,j2⟩:=hgo
          have hpos:(rd.rest.length:Int) > 0:=by have:=List.length_pos_iff.2 j1;omega
          have hlt:=KA j2 j1
          have s1:=rd.text.2.cX 4
          have s2:=(rd.text.2.num 4).2.cX 4
          have s3:=rd.text.2.ku 4
          have s4:=(rd.text.2.num 4).2.ku 4
          obtain ⟨f,rfl⟩:∃ f',f=f'+1:=⟨f-1,by have:=List.length_pos_iff.2 j1;omega⟩
          rw [AU ⟨j1,j2⟩] at g1 g2
          rw [j2] at hs
          refine gx ?_
          have hs:=Sat.fE (rd:=rd) (by rw [j2];exact hs)
          refine bM [blk p 200 [str nm,str n1,str n2,.int .i64 (n3:Int),au d,.slice a5 acc.length c5]] [(0,false),(1,false),(2,false),(3,false),(4,false),(5,false),(7,false),(10,false),(6,true),(8,true),(9,false),(11,true),(12,false),(13,false),(14,true),(15,true),(16,false),(17,false),(18,true)] (hs.take (.there .here)) (by kernel_rfl) fun w hs=>?_
          refine gx ?_
          refine ae (met (gK (hs.take (.there .here)) (by omega)) ?_)
          rintro _ w ⟨rfl,hs⟩
          refine ⟨_,rfl,gx ?_⟩
          refine ae (met (eS (K:=4) hs (by omega) (by omega)) ?_)
          rintro _ w ⟨rfl,hs⟩
          refine ⟨_,rfl,gx ?_⟩
          refine ae (met (eS (K:=4) hs (by omega) (by omega)) ?_)
          rintro _ w ⟨rfl,hs⟩
          refine ⟨_,rfl,gx ?_⟩
          refine qu (sN (rd.text.1,(rd.text.2.num 4).1,((rd.text.2.num 4).2.num 4).1)) rfl ?_
          refine gx ?_
          refine iT (sN (rd.text.1,(rd.text.2.num 4).1,((rd.text.2.num 4).2.num 4).1)) hs (fun w b2 hs=>?_)
          refine gx ?_
          refine eA hs fun v2 w hs=>?_
          obtain ⟨a6,c6,rfl,-⟩:=hs.aB
          refine gx ?_
          refine bI hs fun w hs=>?_
          refine gx ?_
          refine aA (f,((rd.text.2.num 4).2.num 4).2,acc++[(rd.text.1,(rd.text.2.num 4).1,((rd.text.2.num 4).2.num 4).1)],.slice a6 (acc.length+1) c6) ⟨rfl,rfl,rfl,rfl,trivial⟩ ⟨⟨?_,g2,?_,?_⟩,?_⟩ (by show f<f+1;omega)
          ·dsimp only;rw [List.append_assoc];exact g1
          ·dsimp only;omega
          ·dsimp only;rw [List.length_append];simp only [List.length_cons,List.length_nil];omega
          ·dsimp only
           rw [zZ,List.length_append]
           exact hs.to
         ·have hst:=AS hgo f
          have hacc:acc=(fp ys.length q3).1:=by rw [← g1,hst];simp
          have hbad:rd.bad=(fp ys.length q3).2:=by rw [← g2,hst]
          rw [← hacc] at hx
          by_cases hr:rd.rest=[]
          ·have hnp:¬ (rd.rest.length:Int) > 0:=by rw [hr];simp
           cases hb:rd.bad with
           | true=>
            rw [hb] at hs hbad
            have hp2:=hbad.symm
            rw [if_pos (.inl hp2)] at hx
            subst hx
            refine gx ?_
            refine ae (met (dP (nm:=nm) hs) ?_)
            rintro _ w ⟨ve,rfl,hs⟩
            refine ⟨_,rfl,gx ?_⟩
            exact ak rfl ⟨_,_,rfl,Sat.to (Sat.emp hs)⟩
           | false=>
            rw [hb] at hs hbad
            have hp2:=hbad.symm
            by_cases hac:acc=[]
            ·rw [if_pos (.inr hac)] at hx
             subst hx
             have hl0:(acc.length:Int)=0:=by rw [hac];rfl
             refine gx ?_
             refine ae (met (dP (nm:=nm) hs) ?_)
             rintro _ w ⟨ve,rfl,hs⟩
             refine ⟨_,rfl,gx ?_⟩
             exact ak rfl ⟨_,_,rfl,Sat.to (Sat.emp hs)⟩
            ·rw [if_neg (by rintro (h1|h1);rw [hp2] at h1;cases h1;exact hac h1)] at hx
             subst hx
             have hl0:¬ (acc.length:Int)=0:=by
              intro h1;exact hac (List.eq_nil_of_length_eq_zero (by omega))
             refine gx ?_
             refine ak rfl ⟨_,_,rfl,?_⟩
             have hTok:zJ ⟨nm,n1,n2,n3,acc⟩:=⟨by show acc.length≤_;omega,by show n3≤_;omega,fun b hb=>pn b (by rw [← hacc];exact hb)⟩
             have hbl:acc.length=(cI acc).length:=by simp [cI]
             have hs:=hs.take (.there (.there (.there .here)))
             rw [hbl] at hs
             have hs:=(Sat.mI (ql _) hs).take (.there (.there (.there .here)))
             have hs:=hs.share
             rw [← hbl] at hs
             have hs:=hs.to (a:=tf p 200 [str nm,str n1,str n2,.int .i64 (n3:Int),au d,.slice a5 acc.length c5]::kD 3 (.slice a5 acc.length c5) (cI acc)::ag d D3::F)
             have hs:=Sat.dW (Sat.HY (T:=⟨nm,n1,n2,n3,acc⟩) hTok hs)
             exact hs.to
          ·have hb:rd.bad=true:=by
            cases hb:rd.bad with
            | true=>rfl
            | false=>exact absurd ⟨hr,hb⟩ hgo
           have hpos:(rd.rest.length:Int) > 0:=by have:=List.length_pos_iff.2 hr;omega
           rw [hb] at hs hbad
           have hp2:=hbad.symm
           rw [if_pos (.inl hp2)] at hx
           subst hx
           refine gx ?_
           refine ae (met (dP (nm:=nm) hs) ?_)
           rintro _ w ⟨ve,rfl,hs⟩
           refine ⟨_,rfl,gx ?_⟩
           exact ak rfl ⟨_,_,rfl,Sat.to (Sat.emp hs)⟩
        ·rw [if_neg hb2] at h;cases h
end
end Go.Proofs.YtecibefflhomdaaGreatDoor
