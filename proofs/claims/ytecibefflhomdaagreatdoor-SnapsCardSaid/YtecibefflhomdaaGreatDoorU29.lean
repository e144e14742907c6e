/-
  Part 29: WALKS package levels; WALKS package levels.
-/
import Derived.Test.YtecibefflhomdaaGreatDoorU28
set_option maxHeartbeats 8000000
set_option maxRecDepth 100000
set_option linter.all false
namespace Go.Proofs.YtecibefflhomdaaGreatDoor
open Go
section
open Go.Proofs.YtecibefflhomdaaGreatDoor.Pure (PDisk Ent Rd openB less bltB searchL numB textB frameB putB dec beN addL Chg chgE batchE numB_length valE Sc sc0 scanP)
attribute [local irreducible] IntKind.wrap
def scanG (s:St) (D:PDisk) (lo hi:Bs) (limit:Int) (seq:Nat):Out (List (Bs×Bs)):=if s.mem.length≤1099511627776 then scanS s D lo hi limit seq else none
def pairC (p:Bs×Bs):List Value:=[str p.1,str p.2]
def pairsC (l:List (Bs×Bs)):List (List Value):=l.map pairC
abbrev pairS (v:Value) (l:List (Bs×Bs)):HProp:=ownS 2 v 147 l.length (pairsC l).flatten
def pairX (v:Value):Except Err (List (Bs×Bs))→HProp
 | .ok l=>pairS v l
 | .error _=>fun _=>v=.slice none 0 0
variable {W0 w:World} {F:List HProp} {v:Value} {d m p:Nat} {T:Tab} {D D':PDisk} {M:List Ent}
structure ScG where
 b15:Nat
 b17:Nat
 b18:Nat
 b7:Nat
 b8:Nat
 b9:Nat
 hi:Bs
 limit:Int
 seq:Nat
abbrev scL (G:ScG) (k:Sc) (v:Value):List HProp:=
 [blk G.b15 74 [v],pairS v k.out,blk G.b17 9 [str k.last],blk G.b18 4 [.bool k.any],blk G.b7 9 [str G.hi],blk G.b8 3 [.int .i64 G.limit],blk G.b9 131 [uV G.seq]]
def scC (G:ScG) (k:Sc):HProp:=fun h=>∃ v,sepL (scL G k v) h
theorem Sat.scOpen {G:ScG} {k:Sc} (h:Sat W0 (scC G k::F) w):∃ v,Sat W0 (scL G k v++F) w:=by
 obtain ⟨v,_,hs⟩:=h.open1 (φ:=fun _:Value=>True) (B:=fun v=>scL G k v) fun hp ⟨v,k⟩=>⟨v,trivial,k⟩
 exact ⟨v,hs⟩
theorem Sat.scClose {G:ScG} {k:Sc} {v:Value} (h:Sat W0 (scL G k v++F) w):Sat W0 (scC G k::F) w:=Sat.close h fun hp q=>⟨v,q⟩
theorem pairs_cons (l:List (Bs×Bs)) (p:Bs×Bs):(pairsC (l++[p])).flatten=(pairsC l).flatten++pairC p:=by simp [pairsC]
attribute [local irreducible] ob ownS DiskA memC mapH scC errC lvC stC rvw vw tabC mgC star rangeH rwC lvS stD
theorem scan_specI {b:Nat} {K:SK} {s:St} {lo hi:Bs} {limit:Int} {seq:Nat} {x:Except Err (List (Bs×Bs))} (h:scanG s D lo hi limit seq=some (x,D')) (hs:Sat W0 (stD b K s::DiskA K.d D::F) w) :
 Calls Tryz.prog 106 #[idV b,str lo,str hi,.int .i64 limit,uV seq] w fun y w'=>∃ pv ve,y=.returned (.tuple #[pv,ve])∧Sat W0 (pairX pv x::stD b K s::DiskA K.d D'::errC ve (errX x)::F) w':=by
 unfold scanG at h
 by_cases hmx:s.mem.length≤1099511627776
 case neg=>rw [if_neg hmx] at h;cases h
 rw [if_pos hmx] at h
 unfold scanS at h
 by_cases hT:(tabsS s).length+1≤big
 case neg=>rw [if_neg hT] at h;cases h
 rw [if_pos hT] at h
 rw [big_eq] at hT
 obtain ⟨hl,z,hs⟩:=hs.sdOpen
 refine enterM Tryz.func106 rfl Tryz.ntmps106 Tryz.results106 rfl ?_
 refine gx ?_
 refine w_box (z:=[str hi]) hs ?_
 clear hs
 intro w b7 hs
 refine gx ?_
 refine w_box (z:=[.int .i64 limit]) hs ?_
 clear hs
 intro w b8 hs
 refine gx ?_
 refine w_box (z:=[uV seq]) hs ?_
 clear hs
 intro w b9 hs
 refine gx ?_
 refine w_call (met (sources_spec hl (by omega) (hs.take2 (.there (.there (.there .here))) (.there (.there (.there .here))))) ?_)
 clear hs
 rintro _ w ⟨sv,ps,rfl,hps,hs⟩
 refine ⟨_,rfl,?_⟩
 obtain ⟨ar,cr,rfl,-⟩:=hs.ownShape
 refine gx ?_
 have hs:=Sat.rwNil (d:=K.d) (m:=z.m) hs
 refine wc_loop (α:=Nat×Value) (fun q=>[(0,idV b),(1,str lo),(7,idV b7),(8,idV b8),(9,idV b9),(12,q.2),(21,.slice ar (1+ps.length) cr),(22,.int .i64 ((1+ps.length:Nat):Int)),(23,.int .i64 (q.1:Int))])
  (fun q w=>q.1≤1+ps.length∧Sat W0 (rwC K.d z.m q.2 ((fromM s.mem lo::(tabsS s).map fun T=>fromT T lo).take q.1)::ownS 1 (.slice ar (1+ps.length) cr) 261 (1+ps.length) (ifM z.m::ps.map ifT)::tbS K.d ps (tabsS s)::blk b 133 (stCells K z s)::lvS K.d z s.levels::blk b9 131 [uV seq]::blk b8 3 [.int .i64 limit]::blk b7 9 [str hi]::memC z.m s.mem::mapH keyI z.sn (snapsV s.snaps)::DiskA K.d D::F) w) (fun q=>1+ps.length-q.1) (0,.slice none 0 0) ⟨rfl,rfl,rfl,rfl,rfl,rfl,rfl,rfl,rfl,trivial⟩ ⟨by omega,hs⟩ ?_
 clear hs
 rintro ⟨i,rv⟩ w ⟨hi',hs⟩
 dsimp only at hi' hs ⊢
 by_cases hlt:i<1+ps.length
 ·have hlt':(i:Int)<((1+ps.length:Nat):Int):=by omega
  cases i with
  | zero=>
   refine gx ?_
   obtain ⟨bb,cap,rs,hv,q1,q2,q3,hs2⟩:=(hs.take (.there .here)).ownPos (by omega)
   obtain ⟨rfl,_,rfl⟩:=Value.slice.inj hv
   refine wl_ixn (i:=0) rfl rfl rfl rfl rfl (by omega) rfl ?_
   refine wl_ld (v:=ifM z.m) hs2 rfl rfl .here rfl rfl ?_
   clear hs2
   refine gx ?_
   refine wl_invoke rfl (mFrom1 _) (fun _ _=>call_of rfl) rfl rfl (met (memFrom_spec (key:=lo) (hs.take (.there (.there (.there (.there (.there (.there (.there (.there .here))))))))) hmx) ?_)
   clear hs
   rintro _ w ⟨vf,rfl,hs⟩
   refine ⟨_,rfl,?_⟩
   have hs:Sat W0 (itC K.d z.m vf (fromM s.mem lo)::memC z.m s.mem::rwC K.d z.m rv []::ownS 1 (.slice (some ⟨bb,0,none⟩) (1+ps.length) cr) 261 (1+ps.length) (ifM z.m::ps.map ifT)::tbS K.d ps (tabsS s)::blk b 133 (stCells K z s)::lvS K.d z s.levels::blk b9 131 [uV seq]::blk b8 3 [.int .i64 limit]::blk b7 9 [str hi]::mapH keyI z.sn (snapsV s.snaps)::DiskA K.d D::F) w:=hs
   obtain ⟨ff,qq,rfl⟩:=Sat.itShape hs
   refine gx ?_
   refine w_lit1 hs ?_
   clear hs
   intro w b9' hs
   obtain ⟨vs,hvs,hs⟩:=(hs.take (.there (.there (.there .here)))).rwOpen
   have hvl:vs.length=0:=by simpa using hvs
   refine w_app1 hs ?_
   clear hs
   intro va2 w hs
   have hs:=Sat.rwPush (it:=fromM s.mem lo) hvs (hs.to (a:=ownS 1 va2 288 (vs.length+1) (vs++[.func (.func ff) #[] qq])::star (List.zipWith (itC K.d z.m) vs [])::itC K.d z.m (.func (.func ff) #[] qq) (fromM s.mem lo)::ownS 1 (.slice (some ⟨bb,0,none⟩) (1+ps.length) cr) 261 (1+ps.length) (ifM z.m::ps.map ifT)::tbS K.d ps (tabsS s)::blk b 133 (stCells K z s)::lvS K.d z s.levels::blk b9 131 [uV seq]::blk b8 3 [.int .i64 limit]::blk b7 9 [str hi]::memC z.m s.mem::mapH keyI z.sn (snapsV s.snaps)::DiskA K.d D::F))
   refine gx ?_
   exact wq_round (1,va2) ⟨rfl,rfl,rfl,rfl,rfl,rfl,rfl,rfl,rfl,trivial⟩ ⟨by dsimp only;omega,hs⟩ (by dsimp only;omega)
  | succ i=>
   have hilt:i<ps.length:=by omega
   have hg:ps[i]?=some ps[i]:=List.getElem?_eq_getElem hilt
   have hT1:(tabsS s)[i]?=some ((tabsS s)[i]'(by omega)):=List.getElem?_eq_getElem (by omega)
   have htk:(fromM s.mem lo::(tabsS s).map fun T=>fromT T lo).take (i+1+1)=(fromM s.mem lo::(tabsS s).map fun T=>fromT T lo).take (i+1)++[fromT ((tabsS s)[i]'(by omega)) lo]:=by
    rw [List.take_add_one,List.getElem?_cons_succ,List.getElem?_map,hT1];rfl
   generalize (tabsS s)[i]'(by omega)=T at hT1 htk
   generalize ps[i]=p at hg
   have hz:=zipWith_at (tabC K.d) hg hT1
   refine gx ?_
   obtain ⟨bb,cap,rs,hv,q1,q2,q3,hs2⟩:=(hs.take (.there .here)).ownPos (by omega)
   obtain ⟨rfl,_,rfl⟩:=Value.slice.inj hv
   have hcell:((ifM z.m::ps.map ifT)++rs)[0+(i+1)*1]?=some (ifT p):=by
    rw [Nat.zero_add,Nat.mul_one,List.getElem?_append_left (by simp;omega),List.getElem?_cons_succ,List.getElem?_map,hg];rfl
   refine wl_ixn (i:=i+1) rfl rfl rfl rfl rfl (by omega) rfl ?_
   refine wl_ld hs2 rfl rfl .here hcell rfl ?_
   clear hs2
   have hs:=hs.take (.there (.there .here))
   unfold tbS at hs
   rw [list_split hz] at hs
   have hs:=hs.starTake
   refine gx ?_
   refine wl_invoke rfl (mFrom2 _) (fun _ _=>call_of rfl) rfl rfl (met (tabFrom_spec (key:=lo) hs) ?_)
   clear hs
   rintro _ w ⟨vf,rfl,hs⟩
   refine ⟨_,rfl,?_⟩
   have hs:=(hs.to (a:=tabC K.d p T::star (List.take i (List.zipWith (tabC K.d) ps (tabsS s))++List.drop (i+1) (List.zipWith (tabC K.d) ps (tabsS s)))::itC K.d z.m vf (fromT T lo)::rwC K.d z.m rv ((fromM s.mem lo::(tabsS s).map fun T=>fromT T lo).take (i+1))::ownS 1 (.slice (some ⟨bb,0,none⟩) (1+ps.length) cr) 261 (1+ps.length) (ifM z.m::ps.map ifT)::blk b 133 (stCells K z s)::lvS K.d z s.levels::blk b9 131 [uV seq]::blk b8 3 [.int .i64 limit]::blk b7 9 [str hi]::memC z.m s.mem::mapH keyI z.sn (snapsV s.snaps)::DiskA K.d D::F)).starPut
   rw [← list_split hz] at hs
   have hs:Sat W0 (tbS K.d ps (tabsS s)::itC K.d z.m vf (fromT T lo)::rwC K.d z.m rv ((fromM s.mem lo::(tabsS s).map fun T=>fromT T lo).take (i+1))::ownS 1 (.slice (some ⟨bb,0,none⟩) (1+ps.length) cr) 261 (1+ps.length) (ifM z.m::ps.map ifT)::blk b 133 (stCells K z s)::lvS K.d z s.levels::blk b9 131 [uV seq]::blk b8 3 [.int .i64 limit]::blk b7 9 [str hi]::memC z.m s.mem::mapH keyI z.sn (snapsV s.snaps)::DiskA K.d D::F) w:=hs
   obtain ⟨ff,qq,rfl⟩:=Sat.itShape (hs.take (.there .here))
   refine gx ?_
   refine w_lit1 hs ?_
   clear hs
   intro w b9' hs
   obtain ⟨vs,hvs,hs⟩:=(hs.take (.there (.there (.there .here)))).rwOpen
   have hvl:vs.length=i+1:=by rw [hvs];simp;omega
   refine w_app1 hs ?_
   clear hs
   intro va2 w hs
   have hs:=Sat.rwPush (it:=fromT T lo) hvs (hs.to (a:=ownS 1 va2 288 (vs.length+1) (vs++[.func (.func ff) #[] qq])::star (List.zipWith (itC K.d z.m) vs ((fromM s.mem lo::(tabsS s).map fun T=>fromT T lo).take (i+1)))::itC K.d z.m (.func (.func ff) #[] qq) (fromT T lo)::ownS 1 (.slice (some ⟨bb,0,none⟩) (1+ps.length) cr) 261 (1+ps.length) (ifM z.m::ps.map ifT)::tbS K.d ps (tabsS s)::blk b 133 (stCells K z s)::lvS K.d z s.levels::blk b9 131 [uV seq]::blk b8 3 [.int .i64 limit]::blk b7 9 [str hi]::memC z.m s.mem::mapH keyI z.sn (snapsV s.snaps)::DiskA K.d D::F))
   rw [← htk] at hs
   refine gx ?_
   exact wq_round (i+1+1,va2) ⟨rfl,rfl,rfl,rfl,rfl,rfl,rfl,rfl,rfl,trivial⟩ ⟨by dsimp only;omega,hs⟩ (by dsimp only;omega)
 ·have hie:i=1+ps.length:=by omega
  subst hie
  have hlt':¬ (((1+ps.length:Nat):Int)<((1+ps.length:Nat):Int)):=by omega
  rw [List.take_of_length_le (by simp;omega)] at hs
  refine gx ?_
  refine w_alloc hs ?_
  clear hs
  intro w b15 hs
  refine gx ?_
  refine w_alloc hs ?_
  clear hs
  intro w b16 hs
  refine gx ?_
  refine w_alloc hs ?_
  clear hs
  intro w b17 hs
  refine gx ?_
  refine w_alloc hs ?_
  clear hs
  intro w b18 hs
  refine gx ?_
  refine w_st hs ?_
  clear hs
  intro w hs
  refine gx ?_
  refine w_st hs ?_
  clear hs
  intro w hs
  refine gx ?_
  refine w_call (met (merge_spec (hs.take (.there (.there (.there (.there .here))))) ) ?_)
  clear hs
  rintro _ w ⟨vm,rfl,hs⟩
  refine ⟨_,rfl,?_⟩
  obtain ⟨k1,oe,hEach,hx⟩:∃ k1 oe,eachN s.mem (scanB hi limit seq) big (.mg ⟨false,fromM s.mem lo::(tabsS s).map fun T=>fromT T lo,[]⟩) D sc0=some (k1,oe,D')∧((∃ er,oe=some er∧x=.error er)∨(oe=none∧x=.ok k1.out)):=by
   split at h
   ·cases h
   ·rename_i k1 er D2 he
    simp only [Option.some.injEq,Prod.mk.injEq] at h
    obtain ⟨rfl,rfl⟩:=h
    exact ⟨k1,_,he,.inl ⟨_,rfl,rfl⟩⟩
   ·rename_i k1 D2 he
    simp only [Option.some.injEq,Prod.mk.injEq] at h
    obtain ⟨rfl,rfl⟩:=h
    exact ⟨k1,_,he,.inr ⟨rfl,rfl⟩⟩
  clear h
  obtain ⟨ff,qq,rfl⟩:∃ f q,vm=.func (.func f) #[] q:=by
   obtain ⟨_,zm,rfl,_⟩:=hs.mgOpen
   exact ⟨_,_,rfl⟩
  refine gx ?_
  refine w_call (met (each_spec (f:=ff) (q:=qq) (eb:=b16) hs) ?_)
  clear hs
  rintro _ w ⟨bn,bee,rfl,hs⟩
  refine ⟨_,rfl,?_⟩
  refine gx ?_
  refine WC.sub (e':=[(15,idV b15),(16,idV b16),(17,idV b17),(18,idV b18),(7,idV b7),(8,idV b8),(9,idV b9),(36,.func (.func 211) #[] #[idV bn,idV bee])]) ⟨rfl,rfl,rfl,rfl,rfl,rfl,rfl,rfl,trivial⟩ ?_
  have hs:=Sat.scClose (G:=⟨b15,b17,b18,b7,b8,b9,hi,limit,seq⟩) (k:=sc0) (v:=.slice none 0 0) (F:=blk bn 288 [.func (.func ff) #[] qq]::blk bee 312 [idV b16]::blk b16 41 [.nilIface]::nxC K.d z.m (.func (.func ff) #[] qq) (.mg ⟨false,fromM s.mem lo::(tabsS s).map fun T=>fromT T lo,[]⟩)::memC z.m s.mem::DiskA K.d D::blk b 133 (stCells K z s)::lvS K.d z s.levels::mapH keyI z.sn (snapsV s.snaps)::F)
   ((hs.ownNil (k:=2) (E:=147)).to)
  refine wc_each (v:=.func (.func ff) #[] qq) (d:=K.d) (m:=z.m) (nx:=.mg ⟨false,fromM s.mem lo::(tabsS s).map fun T=>fromT T lo,[]⟩) (C:=fun k=>[scC ⟨b15,b17,b18,b7,b8,b9,hi,limit,seq⟩ k]) (id:=2) (bn:=bn) (be:=bee) (eb:=b16) (oe:=oe) (s1:=k1) (D':=D') (F:=blk b 133 (stCells K z s)::lvS K.d z s.levels::mapH keyI z.sn (snapsV s.snaps)::F) rfl rfl rfl hEach hmx hs.to ?_ ?_
  ·clear hs hEach hx
   intro k ent k' c L rc R w hbody hst hs
   dsimp only [List.cons_append,List.nil_append] at hs
   unfold scanB at hbody
   by_cases hbig:k.out.length≤big
   case neg=>rw [if_neg hbig] at hbody;cases hbody
   rw [if_pos hbig] at hbody
   rw [big_eq] at hbig
   have hbody:=Option.some.inj hbody
   refine gxs ?_
   refine w_alloc hs ?_
   clear hs
   intro w b19 hs
   refine w_stN (vs:=entC ent) hs ?_
   clear hs
   intro w hs
   refine gxs ?_
   refine wq_begin (hs.take (.there .here)) hst fun w hs=>?_
   obtain ⟨pv,hs⟩:=Sat.scOpen (hs.take (.there (.there .here)))
   dsimp only [scL,List.cons_append,List.nil_append] at hs
   generalize hE:([(19,idV b19),(37,.agg (entC ent).toArray),(15,idV b15),(16,idV b16),(17,idV b17),(18,idV b18),(7,idV b7),(8,idV b8),(9,idV b9),(36,.func (.func 211) #[] #[idV bn,idV bee])]:Env)=E0
   obtain ⟨ap,cp,rfl,-⟩:=(hs.take (.there .here)).ownShape
   refine wc_block ?_
   refine wc_seq ?_
   generalize hc1:decide ((hi≠[]∧Pure.bltB ent.key hi=false)∨(0<limit∧(k.out.length:Int)=limit))=c1
   refine wc_cut (α:=Unit) (fun _=>(55,.bool c1)::E0) (fun _ w=>Sat W0 (scL ⟨b15,b17,b18,b7,b8,b9,hi,limit,seq⟩ k (.slice ap k.out.length cp)++blk b19 256 (entC ent)::ob false L (.loop { rc with state:=.busy })::R) w) ?_ ?_
   ·subst hE
    dsimp only [scL,List.cons_append,List.nil_append]
    by_cases hh:hi=[]
    ·subst hh
     have hh':¬ (([]:List UInt8)≠[]):=by simp
     by_cases hl:0<limit
     ·by_cases he:(k.out.length:Int)=limit
      ·have:c1=true:=by rw [← hc1];simp [hl,he]
       subst this
       refine gxs ?_
       exact wq_cut () ⟨rfl,rfl,rfl,rfl,rfl,rfl,rfl,rfl,rfl,rfl,rfl,trivial⟩ hs.to
      ·have:c1=false:=by rw [← hc1];simp [he]
       subst this
       refine gxs ?_
       exact wq_cut () ⟨rfl,rfl,rfl,rfl,rfl,rfl,rfl,rfl,rfl,rfl,rfl,trivial⟩ hs.to
     ·have:c1=false:=by rw [← hc1];simp [hl]
      subst this
      refine gxs ?_
      exact wq_cut () ⟨rfl,rfl,rfl,rfl,rfl,rfl,rfl,rfl,rfl,rfl,rfl,trivial⟩ hs.to
    ·cases hb:Pure.bltB ent.key hi with
     | false=>
      have:c1=true:=by rw [← hc1];simp [hh,hb]
      subst this
      rw [bltB_eq] at hb
      have hnb:(!ltb ent.key hi)=true:=by rw [hb];rfl
      refine gxs ?_
      exact wq_cut () ⟨rfl,rfl,rfl,rfl,rfl,rfl,rfl,rfl,rfl,rfl,rfl,trivial⟩ hs.to
     | true=>
      have hbb:=hb
      rw [bltB_eq] at hbb
      have hnb:(!ltb ent.key hi)=false:=by rw [hbb];rfl
      by_cases hl:0<limit
      ·by_cases he:(k.out.length:Int)=limit
       ·have:c1=true:=by rw [← hc1];simp [hl,he]
        subst this
        refine gxs ?_
        exact wq_cut () ⟨rfl,rfl,rfl,rfl,rfl,rfl,rfl,rfl,rfl,rfl,rfl,trivial⟩ hs.to
       ·have:c1=false:=by rw [← hc1];simp [he,hb]
        subst this
        refine gxs ?_
        exact wq_cut () ⟨rfl,rfl,rfl,rfl,rfl,rfl,rfl,rfl,rfl,rfl,rfl,trivial⟩ hs.to
      ·have:c1=false:=by rw [← hc1];simp [hl,hb]
       subst this
       refine gxs ?_
       exact wq_cut () ⟨rfl,rfl,rfl,rfl,rfl,rfl,rfl,rfl,rfl,rfl,rfl,trivial⟩ hs.to
   clear hs
   rintro-w hs
   dsimp only [scL,List.cons_append,List.nil_append] at hs
   unfold scanP at hbody
   cases c1 with
   | true=>
    rw [if_pos (of_decide_eq_true hc1)] at hbody
    obtain ⟨rfl,rfl⟩:=Prod.mk.inj hbody
    subst hE
    refine gx ?_
    refine wq_round_exit (hs.take (.there (.there (.there (.there (.there (.there (.there (.there .here))))))))) fun w hs=>.inr ⟨rfl,rfl,?_⟩
    dsimp only [List.cons_append,List.nil_append]
    have hs:=Sat.scClose (G:=⟨b15,b17,b18,b7,b8,b9,hi,limit,seq⟩) (k:=k) (v:=.slice ap k.out.length cp) (F:=ob false L (.loop { rc with state:=.done,pending:=some (.exit 2) })::R) hs.to
    exact hs.to
   | false=>
    rw [if_neg (of_decide_eq_false hc1)] at hbody
    subst hE
    refine gxs ?_
    refine wq_then rfl ?_
    refine WC.sub (e':=[(19,idV b19),(37,.agg (entC ent).toArray),(15,idV b15),(16,idV b16),(17,idV b17),(18,idV b18),(7,idV b7),(8,idV b8),(9,idV b9),(36,.func (.func 211) #[] #[idV bn,idV bee])]) ⟨rfl,rfl,rfl,rfl,rfl,rfl,rfl,rfl,rfl,rfl,trivial⟩ ?_
    generalize hE:([(19,idV b19),(37,.agg (entC ent).toArray),(15,idV b15),(16,idV b16),(17,idV b17),(18,idV b18),(7,idV b7),(8,idV b8),(9,idV b9),(36,.func (.func 211) #[] #[idV bn,idV bee])]:Env)=E0
    refine wc_seq ?_
    generalize hc2:decide (seq<ent.seq∨(k.any=true∧ent.key=k.last))=c2
    refine wc_cut (α:=Unit) (fun _=>(68,.bool c2)::E0) (fun _ w=>Sat W0 (scL ⟨b15,b17,b18,b7,b8,b9,hi,limit,seq⟩ k (.slice ap k.out.length cp)++blk b19 256 (entC ent)::ob false L (.loop { rc with state:=.busy })::R) w) ?_ ?_
    ·subst hE
     clear hbody hc1
     dsimp only [scL,List.cons_append,List.nil_append]
     obtain ⟨out,last,any⟩:=k
     dsimp only at hs hc2 ⊢
     by_cases hq:seq<ent.seq
     ·have:c2=true:=by rw [← hc2];simp [hq]
      subst this
      have hq':(seq:Int)<(ent.seq:Int):=by omega
      refine gxs ?_
      exact wq_cut () ⟨rfl,rfl,rfl,rfl,rfl,rfl,rfl,rfl,rfl,rfl,rfl,trivial⟩ hs.to
     ·have hq':¬ ((seq:Int)<(ent.seq:Int)):=by omega
      cases any with
      | false=>
       have:c2=false:=by rw [← hc2];simp [hq]
       subst this
       refine gxs ?_
       exact wq_cut () ⟨rfl,rfl,rfl,rfl,rfl,rfl,rfl,rfl,rfl,rfl,rfl,trivial⟩ hs.to
      | true=>
       by_cases hk:ent.key=last
       ·have:c2=true:=by rw [← hc2];simp [hk]
        subst this
        refine gxs ?_
        exact wq_cut () ⟨rfl,rfl,rfl,rfl,rfl,rfl,rfl,rfl,rfl,rfl,rfl,trivial⟩ hs.to
       ·have:c2=false:=by rw [← hc2];simp [hq,hk]
        subst this
        refine gxs ?_
        exact wq_cut () ⟨rfl,rfl,rfl,rfl,rfl,rfl,rfl,rfl,rfl,rfl,rfl,trivial⟩ hs.to
    clear hs
    rintro-w hs
    dsimp only [scL,List.cons_append,List.nil_append] at hs
    cases c2 with
    | true=>
     rw [if_pos (of_decide_eq_true hc2)] at hbody
     obtain ⟨rfl,rfl⟩:=Prod.mk.inj hbody
     subst hE
     refine gx ?_
     refine wq_round_end (hs.take (.there (.there (.there (.there (.there (.there (.there (.there .here))))))))) fun w hs=>.inl ⟨rfl,rfl,?_⟩
     dsimp only [List.cons_append,List.nil_append]
     have hs:=Sat.scClose (G:=⟨b15,b17,b18,b7,b8,b9,hi,limit,seq⟩) (k:=k) (v:=.slice ap k.out.length cp) (F:=ob false L (.loop { rc with state:=.ready,pending:=none })::R) hs.to
     exact hs.to
    | false=>
     rw [if_neg (of_decide_eq_false hc2)] at hbody
     obtain ⟨rfl,rfl⟩:=Prod.mk.inj hbody
     subst hE
     refine gx ?_
     refine w_st hs ?_
     clear hs
     intro w hs
     refine gx ?_
     refine w_st hs ?_
     clear hs
     intro w hs
     obtain ⟨ek,evl,ed,es⟩:=ent
     cases ed with
     | true=>
      refine gx ?_
      refine wq_round_end (hs.take (.there (.there (.there (.there (.there (.there (.there (.there .here))))))))) fun w hs=>.inl ⟨rfl,rfl,?_⟩
      dsimp only [List.cons_append,List.nil_append]
      have hs:=Sat.scClose (G:=⟨b15,b17,b18,b7,b8,b9,hi,limit,seq⟩) (k:=⟨k.out,ek,true⟩) (v:=.slice ap k.out.length cp) (F:=ob false L (.loop { rc with state:=.ready,pending:=none })::R) hs.to
      exact hs.to
     | false=>
      refine gx ?_
      refine w_build (pairC (ek,evl)) ?_
      refine gx ?_
      refine w_lit (pairC (ek,evl)) hs (fun w b2 hs=>?_)
      refine w_app1 hs ?_
      clear hs
      intro v2 w hs
      obtain ⟨a7,c7,rfl,-⟩:=hs.ownShape
      refine gx ?_
      refine w_st hs ?_
      clear hs
      intro w hs
      refine gx ?_
      have e1:ownS 2 (.slice a7 (k.out.length+1) c7) 147 (k.out.length+1) ((pairsC k.out).flatten++pairC (ek,evl))=pairS (.slice a7 (k.out.length+1) c7) (k.out++[(ek,evl)]):=by
       rw [← pairs_cons];show _=ownS 2 _ 147 (k.out++[(ek,evl)]).length _;rw [List.length_append];rfl
      rw [e1] at hs
      refine wq_round_end (hs.take (.there (.there (.there (.there (.there (.there (.there (.there .here))))))))) fun w hs=>.inl ⟨rfl,rfl,?_⟩
      dsimp only [List.cons_append,List.nil_append]
      have hs:=Sat.scClose (G:=⟨b15,b17,b18,b7,b8,b9,hi,limit,seq⟩) (k:=⟨k.out++[(ek,evl)],ek,true⟩) (v:=.slice a7 (k.out.length+1) c7) (F:=ob false L (.loop { rc with state:=.ready,pending:=none })::R) hs.to
      exact hs.to
  ·clear hs hEach
   intro xx Dk ve w hxx hs
   dsimp only [List.cons_append,List.nil_append] at hs
   obtain ⟨pv,hs⟩:=Sat.scOpen (hs.take (.there (.there (.there (.there (.there .here))))))
   dsimp only [scL,List.cons_append,List.nil_append] at hs
   obtain ⟨ap,cp,rfl,-⟩:=(hs.take (.there .here)).ownShape
   rcases hx with ⟨er,rfl,rfl⟩|⟨rfl,rfl⟩
   ·obtain ⟨t,u,rfl⟩:=(hs.take (.there (.there (.there (.there (.there (.there (.there (.there (.there .here)))))))))).errIface
    rcases hxx with rfl|rfl<;>(
     refine gx ?_
     refine wc_draw [blk b16 41 [.iface t u]] [(0,false),(1,false),(2,false)] hs (by kernel_rfl) ?_
     clear hs
     intro w hs
     refine gx ?_
     refine wq_retM (hs.take (.there (.there (.there (.there (.there (.there (.there .here)))))))) rfl ?_
     clear hs
     intro w hs
     refine ⟨_,_,rfl,?_⟩
     have hs:=Sat.sdClose (s:=s) (z:=z) hl (hs.to (a:=blk b 133 (stCells K z s)::lvS K.d z s.levels::memC z.m s.mem::mapH keyI z.sn (snapsV s.snaps)::DiskA K.d D'::errC (.iface t u) (some er)::F))
     exact hs.imp fun hp r=>⟨fun _=>none,hp,fun _ _ _ hx=>(by cases hx),fun _ _ hx=>(by cases hx),Hp.le_refl _,rfl,r⟩)
   ·have hve:=(hs.take (.there (.there (.there (.there (.there (.there (.there (.there (.there .here)))))))))).errIs
    subst hve
    rcases hxx with rfl|rfl<;>(
     refine gx ?_
     refine wq_retM (hs.take (.there (.there (.there (.there (.there (.there (.there .here)))))))) rfl ?_
     clear hs
     intro w hs
     refine ⟨_,_,rfl,?_⟩
     have hs:=Sat.sdClose (s:=s) (z:=z) hl (hs.to (a:=blk b 133 (stCells K z s)::lvS K.d z s.levels::memC z.m s.mem::mapH keyI z.sn (snapsV s.snaps)::pairS (.slice ap k1.out.length cp) k1.out::DiskA K.d D'::errC .nilIface none::F))
     exact hs.to)
end
section
open Go.Proofs.YtecibefflhomdaaGreatDoor.Pure (PDisk Ent Rd openB less bltB searchL numB textB frameB putB dec beN addL Chg chgE batchE numB_length valE Sc sc0 scanP)
attribute [local irreducible] IntKind.wrap
abbrev KS (d:Nat) (o:Opt) (cl:Bool) (br:Value) (mu:Int):SK:=⟨d,o,cl,br,.int .i32 mu⟩
def srC (b d:Nat) (o:Opt) (cl:Bool) (be:Option Err) (s:St):HProp:=fun h=>∃ br,sepL [stD b (KS d o cl br 0) s,errC br be] h
def begX (cl:Bool) (be:Option Err):Option Err:=if cl=true then some (none,6) else be
variable {W0 w:World} {F:List HProp} {v:Value} {b d m p:Nat} {o:Opt} {cl:Bool} {be:Option Err} {s:St} {D D':PDisk}
theorem Sat.srOpen (h:Sat W0 (srC b d o cl be s::F) w):s.levels.length=4∧∃ br z,Sat W0 (blk b 133 (stCells (KS d o cl br 0) z s)::errC br be::lvS d z s.levels::memC z.m s.mem::mapH keyI z.sn (snapsV s.snaps)::F) w:=by
 obtain ⟨br,_,hs⟩:=h.open1 (φ:=fun _:Value=>True) (B:=fun br=>[stD b (KS d o cl br 0) s,errC br be]) fun hp ⟨br,k⟩=>⟨br,trivial,k⟩
 obtain ⟨hl,z,hs⟩:=hs.sdOpen
 exact ⟨hl,br,z,hs.to⟩
theorem Sat.srShut {br:Value} (h:Sat W0 (stD b (KS d o cl br 0) s::errC br be::F) w):Sat W0 (srC b d o cl be s::F) w:=
 Sat.close (B:=[stD b (KS d o cl br 0) s,errC br be]) h fun hp k=>⟨br,k⟩
theorem Sat.srClose {br:Value} {z:SZ} (hl:s.levels.length=4) (h:Sat W0 (blk b 133 (stCells (KS d o cl br 0) z s)::lvS d z s.levels::memC z.m s.mem::mapH keyI z.sn (snapsV s.snaps)::errC br be::F) w):Sat W0 (srC b d o cl be s::F) w:=
 Sat.srShut (Sat.sdClose (K:=KS d o cl br 0) (z:=z) hl h)
def getP (cl:Bool) (be:Option Err) (s:St) (D:PDisk) (key:Bs):Out (Option Bs):=match begX cl be with
 | some e=>some (.error e,D)
 | none=>getG s D key latestN
theorem getP_spec {key:Bs} {x:Except Err (Option Bs)} (h:getP cl be s D key=some (x,D')) (hs:Sat W0 (srC b d o cl be s::DiskA d D::F) w) :
 Calls Tryz.prog 42 #[idV b,str key] w fun y w'=>∃ ve,y=.returned (.tuple #[str (bsX x),.bool (isX x),ve])∧Sat W0 (srC b d o cl be s::DiskA d D'::errC ve (errX x)::F) w':=by
 obtain ⟨hl,br,z,hs⟩:=hs.srOpen
 refine enterD Tryz.func42 rfl Tryz.ntmps42 Tryz.results42 rfl ?_
 refine gx ?_
 refine wl_lock hs ?_
 clear hs
 intro w hs
 have hs:Sat W0 (blk b 133 (stCells (KS d o cl br 1) z s)::errC br be::lvS d z s.levels::memC z.m s.mem::mapH keyI z.sn (snapsV s.snaps)::DiskA d D::F) w:=hs
 refine gx ?_
 refine wl_defer rfl ?_
 refine gx ?_
 refine w_call (met (begin_spec (K:=KS d o cl br 1) (be:=be) hs) ?_)
 clear hs
 rintro _ w ⟨ve,rfl,hs⟩
 refine ⟨_,rfl,?_⟩
 have hb:begE (KS d o cl br 1) be=begX cl be:=rfl
 rw [hb] at hs
 unfold getP at h
 cases hbx:begX cl be with
 | some e=>
  rw [hbx] at h hs
  simp only [Option.some.injEq,Prod.mk.injEq] at h
  obtain ⟨rfl,rfl⟩:=h
  obtain ⟨t,u,rfl⟩:=hs.errIface
  refine gx ?_
  refine wq_retU (.inl rfl) hs ?_
  clear hs
  intro w hs
  exact ⟨_,rfl,Sat.srClose (z:=z) hl hs.to⟩
 | none=>
  rw [hbx] at h hs
  have hve:=hs.errIs
  subst hve
  refine gx ?_
  have hs:=Sat.sdClose (K:=KS d o cl br 1) (z:=z) hl (hs.to (a:=blk b 133 (stCells (KS d o cl br 1) z s)::lvS d z s.levels::memC z.m s.mem::mapH keyI z.sn (snapsV s.snaps)::DiskA d D::errC br be::F))
  refine w_call (met (get_specI (K:=KS d o cl br 1) (seq:=latestN) h hs) ?_)
  clear hs
  rintro _ w ⟨ve,rfl,hs⟩
  refine ⟨_,rfl,?_⟩
  obtain ⟨hl,z,hs⟩:=hs.sdOpen
  refine gx ?_
  refine wq_retU (.inl rfl) hs ?_
  clear hs
  intro w hs
  exact ⟨_,rfl,Sat.srClose (z:=z) hl hs.to⟩
def scanPP (cl:Bool) (be:Option Err) (s:St) (D:PDisk) (lo hi:Bs) (limit:Int):Out (List (Bs×Bs)):=match begX cl be with
 | some e=>some (.error e,D)
 | none=>scanG s D lo hi limit latestN
theorem scanPP_spec {lo hi:Bs} {limit:Int} {x:Except Err (List (Bs×Bs))} (h:scanPP cl be s D lo hi limit=some (x,D')) (hs:Sat W0 (srC b d o cl be s::DiskA d D::F) w) :
 Calls Tryz.prog 52 #[idV b,str lo,str hi,.int .i64 limit] w fun y w'=>∃ pv ve,y=.returned (.tuple #[pv,ve])∧Sat W0 (pairX pv x::srC b d o cl be s::DiskA d D'::errC ve (errX x)::F) w':=by
 obtain ⟨hl,br,z,hs⟩:=hs.srOpen
 refine enterD Tryz.func52 rfl Tryz.ntmps52 Tryz.results52 rfl ?_
 refine gx ?_
 refine wl_lock hs ?_
 clear hs
 intro w hs
 have hs:Sat W0 (blk b 133 (stCells (KS d o cl br 1) z s)::errC br be::lvS d z s.levels::memC z.m s.mem::mapH keyI z.sn (snapsV s.snaps)::DiskA d D::F) w:=hs
 refine gx ?_
 refine wl_defer rfl ?_
 refine gx ?_
 refine w_call (met (begin_spec (K:=KS d o cl br 1) (be:=be) hs) ?_)
 clear hs
 rintro _ w ⟨ve,rfl,hs⟩
 refine ⟨_,rfl,?_⟩
 have hb:begE (KS d o cl br 1) be=begX cl be:=rfl
 rw [hb] at hs
 unfold scanPP at h
 cases hbx:begX cl be with
 | some e=>
  rw [hbx] at h hs
  simp only [Option.some.injEq,Prod.mk.injEq] at h
  obtain ⟨rfl,rfl⟩:=h
  obtain ⟨t,u,rfl⟩:=hs.errIface
  refine gx ?_
  refine wq_retU (.inl rfl) hs ?_
  clear hs
  intro w hs
  refine ⟨_,_,rfl,?_⟩
  have hs:=Sat.srClose (z:=z) hl (hs.to (a:=blk b 133 (stCells (KS d o cl br 0) z s)::lvS d z s.levels::memC z.m s.mem::mapH keyI z.sn (snapsV s.snaps)::errC br be::DiskA d D::errC (.iface t u) (some e)::F))
  exact hs.imp fun hp r=>⟨fun _=>none,hp,fun _ _ _ hx=>(by cases hx),fun _ _ hx=>(by cases hx),Hp.le_refl _,rfl,r⟩
 | none=>
  rw [hbx] at h hs
  have hve:=hs.errIs
  subst hve
  refine gx ?_
  have hs:=Sat.sdClose (K:=KS d o cl br 1) (z:=z) hl (hs.to (a:=blk b 133 (stCells (KS d o cl br 1) z s)::lvS d z s.levels::memC z.m s.mem::mapH keyI z.sn (snapsV s.snaps)::DiskA d D::errC br be::F))
  refine w_call (met (scan_specI (K:=KS d o cl br 1) (seq:=latestN) h hs) ?_)
  clear hs
  rintro _ w ⟨pv,ve,rfl,hs⟩
  refine ⟨_,rfl,?_⟩
  obtain ⟨hl,z,hs⟩:=(hs.take (.there .here)).sdOpen
  refine gx ?_
  refine wq_retU (.inl rfl) hs ?_
  clear hs
  intro w hs
  refine ⟨_,_,rfl,?_⟩
  have hs:=Sat.srClose (z:=z) hl (hs.to (a:=blk b 133 (stCells (KS d o cl br 0) z s)::lvS d z s.levels::memC z.m s.mem::mapH keyI z.sn (snapsV s.snaps)::errC br be::pairX pv x::DiskA d D'::errC ve (errX x)::F))
  exact hs.to
end
end Go.Proofs.YtecibefflhomdaaGreatDoor
