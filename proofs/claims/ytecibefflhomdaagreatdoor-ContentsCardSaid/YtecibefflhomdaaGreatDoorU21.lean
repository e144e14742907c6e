/-
  Part 21: WALKS package levels; The engine 26 struct values within drawn regions; WALKS a table's block is written.
-/
import Derived.Test.YtecibefflhomdaaGreatDoorU20
set_option maxHeartbeats 8000000
set_option maxRecDepth 100000
set_option linter.all false
namespace Go.Proofs.YtecibefflhomdaaGreatDoor
open Go
section
open Go.Proofs.YtecibefflhomdaaGreatDoor.Pure (PDisk Ent Rd openB less bltB searchL numB textB frameB putB dec beN Kp kp0 doneK keepP trimL isFst keeps)
attribute [local irreducible] IntKind.wrap
variable {W0 w:World} {F:List HProp} {v:Value} {d m p:Nat} {T:Tab} {D D':PDisk} {M:List Ent}
def okC {α:Type} (C:α→HProp):Except Err α→HProp
 | .ok a=>C a
 | .error _=>fun _=>True
structure KpG where
 bs:Nat
 bo:Nat
 bb:Nat
 bl:Nat
 ba:Nat
 bm:Nat
 bd:Nat
 mv:Value
 us:List Nat
 bot:Bool
abbrev kpL (G:KpG) (k:Kp) (vs vo:Value):List HProp:=
 [blk G.bs 118 [vs],entS vs k.same,blk G.bo 118 [vo],entS vo k.out,blk G.bb 4 [.bool G.bot],blk G.bl 256 (entC k.later),blk G.ba 4 [.bool k.any],blk G.bm 341 [G.mv],ownS 1 G.mv 131 G.us.length (G.us.map uV),blk G.bd 1 [.func (.func 206) #[] #[idV G.bb,idV G.bs,idV G.bo]]]
def kpC (G:KpG) (k:Kp):HProp:=fun h=>∃ z:Value×Value,sepL (kpL G k z.1 z.2) h
theorem Sat.kpOpen {G:KpG} {k:Kp} (h:Sat W0 (kpC G k::F) w):∃ vs vo,Sat W0 (kpL G k vs vo++F) w:=by
 obtain ⟨z,_,hs⟩:=h.open1 (φ:=fun _:Value×Value=>True) (B:=fun z=>kpL G k z.1 z.2) fun hp ⟨z,k⟩=>⟨z,trivial,k⟩
 exact ⟨z.1,z.2,hs⟩
theorem Sat.kpClose {G:KpG} {k:Kp} {vs vo:Value} (h:Sat W0 (kpL G k vs vo++F) w):Sat W0 (kpC G k::F) w:=Sat.close h fun hp q=>⟨(vs,vo),q⟩
theorem Sat.nxShape {nx:Nx} (h:Sat W0 (nxC d m v nx::F) w):∃ f q,v=.func (.func f) #[] q:=by
 cases nx with
 | one it=>exact Sat.itShape h
 | mg g=>exact h.pure1 fun hp ⟨_,z,hv,_⟩=>⟨214,_,hv⟩
theorem any_perm {α:Type} {a b:List α} (h:a.Perm b) (f:α→Bool):a.any f=b.any f:=by
 rw [Bool.eq_iff_iff,List.any_eq_true,List.any_eq_true]
 exact ⟨fun ⟨x,hx,hf⟩=>⟨x,h.mem_iff.1 hx,hf⟩,fun ⟨x,hx,hf⟩=>⟨x,h.mem_iff.2 hx,hf⟩⟩
attribute [local irreducible] ob ownS DiskA memC mapH nxC kpC errC lvC stC rvw vw tabC itC mgC star rangeH
theorem kept_spec {b:Nat} {K:SK} {z:SZ} {s:St} {nx:Nx} {bot:Bool} {x:Except Err (List Ent)} (h:keptS s D nx bot=some (x,D')) (hmx:s.mem.length≤1099511627776)
 (hs:Sat W0 (blk b 133 (stCells K z s)::mapH keyI z.sn (snapsV s.snaps)::nxC K.d z.m v nx::memC z.m s.mem::DiskA K.d D::F) w) :
 Calls Tryz.prog 168 #[idV b,v,.bool bot] w fun y w'=>∃ lv ve,y=.returned (.tuple #[lv,ve])∧Sat W0 (blk b 133 (stCells K z s)::mapH keyI z.sn (snapsV s.snaps)::memC z.m s.mem::DiskA K.d D'::errC ve (errX x)::okC (entS lv) x::F) w':=by
 unfold keptS at h
 split at h
 ·cases h
 rename_i hsn
 obtain ⟨f,q,rfl,hf⟩:=(hs.take (.there (.there .here))).nxShape
 refine enterM Tryz.func168 rfl Tryz.ntmps168 Tryz.results168 rfl ?_
 refine gx ?_
 refine w_box hs ?_
 clear hs
 intro w bb hs
 refine gx ?_
 refine w_call (met (moments_spec (hs.take2 (.there .here) (.there .here)) (by omega)) ?_)
 clear hs
 rintro _ w ⟨mv,us,rfl,hp,hs⟩
 refine ⟨_,rfl,?_⟩
 have hup:=fun (g:Nat→Bool)=>any_perm hp g
 have hul:us.length≤9:=by have:=hp.length_eq;simp [momentsS] at this;omega
 obtain ⟨am,cm,rfl,hcm⟩:=hs.ownShape
 refine w_alloc hs ?_
 clear hs
 intro w bm hs
 refine w_st hs ?_
 clear hs
 intro w hs
 refine gx ?_
 refine w_alloc hs ?_
 clear hs
 intro w bo hs
 refine gx ?_
 refine w_alloc hs ?_
 clear hs
 intro w bs hs
 refine gx ?_
 refine w_alloc hs ?_
 clear hs
 intro w bd hs
 refine w_st hs ?_
 clear hs
 intro w hs
 refine gx ?_
 refine w_alloc hs ?_
 clear hs
 intro w be hs
 refine gx ?_
 refine w_alloc hs ?_
 clear hs
 intro w bl hs
 refine gx ?_
 refine w_alloc hs ?_
 clear hs
 intro w ba hs
 refine w_st hs ?_
 clear hs
 intro w hs
 refine gx ?_
 refine w_call (met (each_spec (f:=f) (q:=q) (eb:=be) hs) ?_)
 clear hs
 rintro _ w ⟨bn,bee,rfl,hs⟩
 refine ⟨_,rfl,?_⟩
 obtain ⟨k1,oe,hEach,hkb,hx⟩:∃ k1 oe,eachN s.mem (keepB (momentsS s) bot) big nx D kp0=some (k1,oe,D')∧k1.out.length+k1.same.length≤1099511627776∧((∃ er,oe=some er∧x=.error er)∨(oe=none∧x=.ok (doneK bot k1).out)):=by
  split at h
  ·cases h
  ·rename_i k1 er D2 he
   split at h
   ·rename_i hb
    rw [big_eq] at hb
    simp only [Option.some.injEq,Prod.mk.injEq] at h
    obtain ⟨rfl,rfl⟩:=h
    exact ⟨k1,_,he,hb,.inl ⟨_,rfl,rfl⟩⟩
   ·cases h
  ·rename_i k1 D2 he
   split at h
   ·rename_i hb
    rw [big_eq] at hb
    simp only [Option.some.injEq,Prod.mk.injEq] at h
    obtain ⟨rfl,rfl⟩:=h
    exact ⟨k1,_,he,hb,.inr ⟨rfl,rfl⟩⟩
   ·cases h
 clear h
 refine gx ?_
 refine WC.sub (e':=[(8,idV bm),(9,idV bo),(10,idV bs),(11,idV bd),(12,idV be),(13,idV bl),(14,idV ba),(23,.func (.func 211) #[] #[idV bn,idV bee])]) ⟨rfl,rfl,rfl,rfl,rfl,rfl,rfl,rfl,trivial⟩ ?_
 have hs:=Sat.kpClose (G:=⟨bs,bo,bb,bl,ba,bm,bd,.slice am us.length cm,us,bot⟩) (k:=kp0) (vs:=.slice none 0 0) (vo:=.slice none 0 0) (F:=blk bn 288 [.func (.func f) #[] q]::blk bee 312 [idV be]::blk be 41 [.nilIface]::nxC K.d z.m (.func (.func f) #[] q) nx::memC z.m s.mem::DiskA K.d D::blk b 133 (stCells K z s)::mapH keyI z.sn (snapsV s.snaps)::F)
  (((hs.ownNil (k:=4) (E:=256)).ownNil (k:=4) (E:=256)).to)
 refine wc_each (v:=.func (.func f) #[] q) (d:=K.d) (m:=z.m) (nx:=nx) (C:=fun k=>[kpC ⟨bs,bo,bb,bl,ba,bm,bd,.slice am us.length cm,us,bot⟩ k]) (id:=0) (bn:=bn) (be:=bee) (eb:=be) (oe:=oe) (s1:=k1) (D':=D') (F:=blk b 133 (stCells K z s)::mapH keyI z.sn (snapsV s.snaps)::F) rfl rfl rfl hEach hmx hs.to ?_ ?_
 ·clear hs hEach
  intro k ent k' c L rc R w hbody hst hs
  dsimp only [List.cons_append,List.nil_append] at hs
  unfold keepB at hbody
  by_cases hbig:k.out.length+k.same.length≤big
  case neg=>rw [if_neg hbig] at hbody;cases hbody
  rw [if_pos hbig] at hbody
  rw [big_eq] at hbig
  simp only [Option.some.injEq,Prod.mk.injEq] at hbody
  obtain ⟨rfl,rfl⟩:=hbody
  refine gxs ?_
  refine w_alloc hs ?_
  clear hs
  intro w b15 hs
  refine w_stN (vs:=entC ent) hs ?_
  clear hs
  intro w hs
  refine gxs ?_
  refine wq_begin (hs.take (.there .here)) hst fun w hs=>?_
  obtain ⟨vs,vo,hs⟩:=Sat.kpOpen (hs.take (.there (.there .here)))
  dsimp only [kpL,List.cons_append,List.nil_append] at hs
  generalize hE:([(15,idV b15),(24,.agg (entC ent).toArray),(8,idV bm),(9,idV bo),(10,idV bs),(11,idV bd),(12,idV be),(13,idV bl),(14,idV ba),(23,.func (.func 211) #[] #[idV bn,idV bee])]:Env)=E0
  refine wc_block ?_
  refine wc_cut (α:=Unit) (fun _=>(16,.bool (isFst k ent))::E0) (fun _ w=>Sat W0 (kpL ⟨bs,bo,bb,bl,ba,bm,bd,.slice am us.length cm,us,bot⟩ k vs vo++blk b15 256 (entC ent)::ob false L (.loop { rc with state:=.busy })::R) w) ?_ ?_
  ·subst hE
   dsimp only [kpL,List.cons_append,List.nil_append]
   obtain ⟨out,same,later,any⟩:=k
   dsimp only at hs ⊢
   cases any with
   | false=>
    refine gxs ?_
    exact wq_cut () ⟨rfl,rfl,rfl,rfl,rfl,rfl,rfl,rfl,rfl,rfl,rfl,trivial⟩ hs.to
   | true=>
    refine gxs ?_
    exact wq_cut () ⟨rfl,rfl,rfl,rfl,rfl,rfl,rfl,rfl,rfl,rfl,rfl,trivial⟩ hs.to
  clear hs
  rintro-w hs
  dsimp only [kpL,List.cons_append,List.nil_append] at hs
  refine wc_cut (α:=Value×Value×List Ent×List Ent) (fun _=>(16,.bool (isFst k ent))::E0)
   (fun z' w=>((z'.2.2.1=if isFst k ent=true then (doneK bot k).out else k.out)∧(z'.2.2.2=if isFst k ent=true then (doneK bot k).same else k.same))∧Sat W0 (kpL ⟨bs,bo,bb,bl,ba,bm,bd,.slice am us.length cm,us,bot⟩ ⟨z'.2.2.1,z'.2.2.2,k.later,k.any⟩ z'.1 z'.2.1++blk b15 256 (entC ent)::ob false L (.loop { rc with state:=.busy })::R) w) ?_ ?_
  ·subst hE
   cases hF:isFst k ent with
   | true=>
    refine gx ?_
    refine wl_callv rfl rfl rfl rfl (met (done_spec (bb:=bb) (bs:=bs) (bo:=bo) (bot:=bot) (vs:=vs) (vo:=vo) (k:=k) (F:=blk bl 256 (entC k.later)::blk ba 4 [.bool k.any]::blk bm 341 [.slice am us.length cm]::ownS 1 (.slice am us.length cm) 131 us.length (us.map uV)::blk bd 1 [.func (.func 206) #[] #[idV bb,idV bs,idV bo]]::blk b15 256 (entC ent)::ob false L (.loop { rc with state:=.busy })::R) hs hbig) ?_)
    clear hs
    rintro _ w ⟨u,vs',vo',rfl,hs⟩
    refine ⟨_,rfl,gx ?_⟩
    dsimp only [dnL,List.cons_append,List.nil_append] at hs
    refine wq_cut (vs',vo',(doneK bot k).out,(doneK bot k).same) ⟨rfl,rfl,rfl,rfl,rfl,rfl,rfl,rfl,rfl,rfl,rfl,trivial⟩ ⟨⟨by simp,by simp⟩,hs.to⟩
   | false=>
    refine gx ?_
    refine wq_cut (vs,vo,k.out,k.same) ⟨rfl,rfl,rfl,rfl,rfl,rfl,rfl,rfl,rfl,rfl,rfl,trivial⟩ ⟨⟨by simp,by simp⟩,hs.to⟩
  clear hs
  rintro ⟨vs,vo,o,sm⟩ w ⟨⟨ho,hsm⟩,hs⟩
  dsimp only [kpL,List.cons_append,List.nil_append] at ho hsm hs
  have hsml:sm.length≤1099511627776:=by
   rw [hsm];split
   ·show ([]:List Ent).length≤_;simp
   ·omega
  refine wc_cut (α:=Value×Value×List Ent×List Ent) (fun _=>E0)
   (fun z' w=>(z'.2.2.1=o∧(z'.2.2.2=if keeps (momentsS s) k ent=true then sm++[ent] else sm))∧Sat W0 (kpL ⟨bs,bo,bb,bl,ba,bm,bd,.slice am us.length cm,us,bot⟩ ⟨z'.2.2.1,z'.2.2.2,k.later,k.any⟩ z'.1 z'.2.1++blk b15 256 (entC ent)::ob false L (.loop { rc with state:=.busy })::R) w) ?_ ?_
  ·have hkeep:keeps (momentsS s) k ent=us.any fun m=>decide (ent.seq≤m)&&(isFst k ent||decide (m<k.later.seq)):=(hup _).symm
   rw [hkeep]
   subst hE
   refine gx ?_
   refine wc_loop (α:=Nat) (fun i=>[(37,.slice am us.length cm),(38,.int .i64 (us.length:Int)),(39,.int .i64 (i:Int)),(16,.bool (isFst k ent)),(15,idV b15),(24,.agg (entC ent).toArray),(8,idV bm),(9,idV bo),(10,idV bs),(11,idV bd),(12,idV be),(13,idV bl),(14,idV ba),(23,.func (.func 211) #[] #[idV bn,idV bee])])
    (fun i w=>(i≤us.length∧(us.take i).any (fun m=>decide (ent.seq≤m)&&(isFst k ent||decide (m<k.later.seq)))=false)∧Sat W0 (kpL ⟨bs,bo,bb,bl,ba,bm,bd,.slice am us.length cm,us,bot⟩ ⟨o,sm,k.later,k.any⟩ vs vo++blk b15 256 (entC ent)::ob false L (.loop { rc with state:=.busy })::R) w) (fun i=>us.length-i) 0 ⟨rfl,rfl,rfl,rfl,rfl,rfl,rfl,rfl,rfl,rfl,rfl,rfl,rfl,rfl,trivial⟩ ⟨⟨Nat.zero_le _,by simp⟩,hs.to⟩ ?_
   clear hs
   rintro i w ⟨⟨hi,hno⟩,hs⟩
   dsimp only [kpL,List.cons_append,List.nil_append] at hs
   obtain ⟨av,cv,rfl,-⟩:=(hs.take (.there .here)).ownShape
   by_cases hlt:i<us.length
   ·have hg:us[i]?=some us[i]:=List.getElem?_eq_getElem hlt
    have htk:us.take (i+1)=us.take i++[us[i]]:=by rw [List.take_add_one,hg];rfl
    generalize us[i]=mm at hg htk
    obtain ⟨bb2,cap,rs,hv,q1,q2,q3,hs2⟩:=(hs.take (.there (.there (.there (.there (.there (.there (.there (.there .here))))))))).ownPos (by omega)
    obtain ⟨rfl,_,rfl⟩:=Value.slice.inj hv
    have hcell:(us.map uV++rs)[0+i*1]?=some (uV mm):=by
     rw [Nat.zero_add,Nat.mul_one,List.getElem?_append_left (by simpa using hlt),List.getElem?_map,hg];rfl
    refine gx ?_
    refine wl_ixn (i:=i) rfl rfl rfl rfl rfl hlt rfl ?_
    refine wl_ld hs2 rfl rfl .here hcell rfl ?_
    clear hs2
    by_cases hle:ent.seq≤mm
    ·cases hF:isFst k ent with
     | true=>
      have HK:(us.any fun m=>decide (ent.seq≤m)&&(true||decide (m<k.later.seq)))=true:=List.any_eq_true.2 ⟨mm,List.mem_of_getElem? hg,by simp [hle]⟩
      refine gx ?_
      refine w_lit (entC ent) hs (fun w b2 hs=>?_)
      refine w_app1 hs ?_
      clear hs
      intro v2 w hs
      obtain ⟨a7,c7,rfl,-⟩:=hs.ownShape
      refine gx ?_
      refine w_st hs ?_
      clear hs
      intro w hs
      refine gx ?_
      refine wq_cut (.slice a7 (sm.length+1) c7,vo,o,sm++[ent]) ⟨rfl,rfl,rfl,rfl,rfl,rfl,rfl,rfl,rfl,rfl,trivial⟩ ⟨⟨rfl,by rw [HK];rfl⟩,?_⟩
      have e1:ownS 4 (.slice a7 (sm.length+1) c7) 256 (sm.length+1) ((entsC sm).flatten++entC ent)=entS (.slice a7 (sm.length+1) c7) (sm++[ent]):=by rw [← ents_cons];show _=ownS 4 _ 256 (sm++[ent]).length _;rw [List.length_append];rfl
      rw [e1] at hs
      exact hs.to
     | false=>
      by_cases hl2:mm<k.later.seq
      ·have HK:(us.any fun m=>decide (ent.seq≤m)&&(false||decide (m<k.later.seq)))=true:=List.any_eq_true.2 ⟨mm,List.mem_of_getElem? hg,by simp [hle,hl2]⟩
       refine gx ?_
       refine w_lit (entC ent) hs (fun w b2 hs=>?_)
       refine w_app1 hs ?_
       clear hs
       intro v2 w hs
       obtain ⟨a7,c7,rfl,-⟩:=hs.ownShape
       refine gx ?_
       refine w_st hs ?_
       clear hs
       intro w hs
       refine gx ?_
       refine wq_cut (.slice a7 (sm.length+1) c7,vo,o,sm++[ent]) ⟨rfl,rfl,rfl,rfl,rfl,rfl,rfl,rfl,rfl,rfl,trivial⟩ ⟨⟨rfl,by rw [HK];rfl⟩,?_⟩
       have e1:ownS 4 (.slice a7 (sm.length+1) c7) 256 (sm.length+1) ((entsC sm).flatten++entC ent)=entS (.slice a7 (sm.length+1) c7) (sm++[ent]):=by rw [← ents_cons];show _=ownS 4 _ 256 (sm++[ent]).length _;rw [List.length_append];rfl
       rw [e1] at hs
       exact hs.to
      ·refine gx ?_
       refine wq_round (i+1) ⟨rfl,rfl,rfl,rfl,rfl,rfl,rfl,rfl,rfl,rfl,rfl,rfl,rfl,rfl,trivial⟩ ⟨⟨hlt,?_⟩,hs.to⟩ (by omega)
       rw [hF] at hno
       rw [htk,List.any_append,hno];simp [hl2]
    ·refine gx ?_
     refine wq_round (i+1) ⟨rfl,rfl,rfl,rfl,rfl,rfl,rfl,rfl,rfl,rfl,rfl,rfl,rfl,rfl,trivial⟩ ⟨⟨hlt,?_⟩,hs.to⟩ (by omega)
     rw [htk,List.any_append,hno];simp [hle]
   ·have hie:i=us.length:=by omega
    subst hie
    rw [List.take_length] at hno
    refine gx ?_
    refine wq_cut (.slice av sm.length cv,vo,o,sm) ⟨rfl,rfl,rfl,rfl,rfl,rfl,rfl,rfl,rfl,rfl,trivial⟩ ⟨⟨rfl,by rw [hno];rfl⟩,hs.to⟩
  clear hs
  rintro ⟨vs,vo,o',sm'⟩ w ⟨⟨ho',hsm'⟩,hs⟩
  dsimp only [kpL,List.cons_append,List.nil_append] at ho' hsm' hs
  subst ho'
  subst hE
  refine gx ?_
  refine w_stN (vs:=entC ent) hs ?_
  clear hs
  intro w hs
  refine gx ?_
  refine w_st hs ?_
  clear hs
  intro w hs
  refine gx ?_
  refine wq_round_end (hs.take (.there (.there (.there (.there (.there (.there (.there (.there (.there (.there (.there .here)))))))))))) fun w hs=>.inl ⟨rfl,rfl,?_⟩
  have e1:keepP (momentsS s) bot k ent=⟨o',sm',ent,true⟩:=by
   unfold keepP
   rw [hsm',ho,hsm]
   cases isFst k ent<;>simp [doneK]
  rw [e1]
  dsimp only [List.cons_append,List.nil_append]
  have hs:=Sat.kpClose (G:=⟨bs,bo,bb,bl,ba,bm,bd,.slice am us.length cm,us,bot⟩) (k:=⟨o',sm',ent,true⟩) (vs:=vs) (vo:=vo) (F:=ob false L (.loop { rc with state:=.ready,pending:=none })::R) hs.to
  exact hs.to
 ·clear hs hEach
  intro xx Dk ve w hxx hs
  dsimp only [List.cons_append,List.nil_append] at hs
  obtain ⟨vs,vo,hs⟩:=Sat.kpOpen (hs.take (.there (.there (.there (.there (.there .here))))))
  dsimp only [kpL,List.cons_append,List.nil_append] at hs
  rcases hxx with rfl|rfl<;>(
   refine gx ?_
   refine wl_callv rfl rfl rfl rfl (met (done_spec (bb:=bb) (bs:=bs) (bo:=bo) (bot:=bot) (vs:=vs) (vo:=vo) (k:=k1) (F:=blk be 41 [ve]::ob false Dk (.deferred (some []))::errC ve oe::memC z.m s.mem::DiskA K.d D'::blk b 133 (stCells K z s)::mapH keyI z.sn (snapsV s.snaps)::F) hs.to hkb) ?_)
   clear hs
   rintro _ w ⟨u,vs',vo',rfl,hs⟩
   refine ⟨_,rfl,gx ?_⟩
   dsimp only [dnL,List.cons_append,List.nil_append] at hs
   refine wc_draw [blk bo 118 [vo'],blk be 41 [ve]] [(0,false),(1,false),(2,false),(3,false)] hs (by kernel_rfl) ?_
   clear hs
   intro w hs
   refine gx ?_
   refine wq_retM (hs.take (.there (.there (.there (.there (.there (.there .here))))))) rfl ?_
   clear hs
   intro w hs
   refine ⟨_,_,rfl,?_⟩
   rcases hx with ⟨er,rfl,rfl⟩|⟨rfl,rfl⟩
   ·exact Sat.to (Sat.emp hs)
   ·exact hs.to)
end
section
attribute [local semireducible] WL WC WQ
attribute [local semireducible] WT WO
section
variable {ops:Array Oper} {Q:Exit→Act→World→Prop} {S:World→Prop} {K:List Nat} {n:Nat} {ds:Md} {e:Env} {w w':World} {b:Bool} {t:OT} {rest:List Oper} {ord:List (Nat×Bool)}
variable {op:Op} {ty:TypeId} {pos:String} {af:Array Edge} {d i j:Nat} {v u:Value}
theorem build_run {parts:Array (Nat×Operand)} {tt:Nat} {ps:List (Nat×Value)} {pl:List (Nat×Nat)} {z cs:List Value} {g:Option (Nat×Bool)} {a:Act} {w:World} (ha:Fr n ds e a) (hp:evp e parts.toList=some ps) (hpl:lk tPlace tt=some pl) (hz:lk tZero tt=some z)
 (hf:fillL (fun i=>pl[i]?) z ps=some cs):(execOp a.eval ⟨some d,.build tt parts,ty,pos,af,g⟩).run Tryz.prog w=.ok (.value (.agg cs.toArray)) w:=by
 obtain ⟨zv,hzv,hzc⟩:=zero_of (w:=w) hz
 obtain ⟨fs,hfs,rfl⟩:=kPlace_und hpl
 have hall:∀ f∈fs.toList,∃ i,Tryz.prog.info? f.type=some i:=by
  have:=List.all_eq_true.1 places_tab tt (List.mem_map.2 ⟨_,lk_mem hpl,rfl⟩)
  unfold placesB at this
  rw [hfs] at this
  intro f hf
  exact Option.isSome_iff_exists.1 (List.all_eq_true.1 this f hf)
 have e1:parts.map (fun (i,x)=>(i,a.eval x))=ps.toArray:=by
  rw [← ha.evp hp];cases parts;simp
 have hm:=mapM_places (w:=w) hall
 have hfl:=fillL_ok hf
 have hpl2:∀ (q:Array (Nat×Nat)),q=(fs.toList.map fun f=>(f.offset,Tryz.prog.cellsOf f.type)).toArray→(fun i:Nat=>q[i]?)=fun i:Nat=>(fs.toList.map fun f=>(f.offset,Tryz.prog.cellsOf f.type))[i]?:=by
  rintro q rfl;funext i;simp
 simp only [execOp,e1,Instr.build,Sem.run_bind,hzv,Result.andThen_ok,und_of hfs,hzc]
 have hmA:(fs.mapM (fun f=>do pure (f.offset,← sizeOf f.type)):Sem (Array (Nat×Nat))).run Tryz.prog w=.ok (fs.toList.map fun f=>(f.offset,Tryz.prog.cellsOf f.type)).toArray w:=by
  obtain ⟨fl⟩:=fs
  have:=List.mapM_toArray (m:=Sem) (f:=fun f:Field=>do pure (f.offset,← sizeOf f.type)) (l:=fl)
  rw [this]
  simp only [Sem.run_map,hm,Result.andThen_ok]
 rw [hmA]
 simp only [Result.andThen_ok,hpl2 _ rfl,hfl]
 simp
theorem wt_build {parts:Array (Nat×Operand)} {tt:Nat} {ps:List (Nat×Value)} {pl:List (Nat×Nat)} {z:List Value} (cs:List Value) (ho:ops[i]?=some ⟨some d,.build tt parts,ty,pos,af,none⟩) (kk:WT ops Q S K n ds b t ((d,.agg cs.toArray)::e) w)
 (hp:evp e parts.toList=some ps:=by rfl) (hpl:lk tPlace tt=some pl:=by rfl) (hz:lk tZero tt=some z:=by rfl)
 (hf:fillL (fun i=>pl[i]?) z ps=some cs:=by rfl) (hd:Nat.blt d n=true:=by rfl):WT ops Q S K n ds b (.q i t) e w:=
 wt_y ho (fun _ _ ha=>build_run ha hp hpl hz hf) hd kk
theorem wo_build {parts:Array (Nat×Operand)} {tt:Nat} {ps:List (Nat×Value)} {pl:List (Nat×Nat)} {z:List Value} (cs:List Value) (ho:ops[i]?=some ⟨some d,.build tt parts,ty,pos,af,none⟩) (kk:WO ops Q S n ds ord ((d,.agg cs.toArray)::e) w)
 (hp:evp e parts.toList=some ps:=by rfl) (hpl:lk tPlace tt=some pl:=by rfl) (hz:lk tZero tt=some z:=by rfl)
 (hf:fillL (fun i=>pl[i]?) z ps=some cs:=by rfl) (hd:Nat.blt d n=true:=by rfl):WO ops Q S n ds ((i,false)::ord) e w:=
 wo_y ho (fun _ _ ha _=>build_run ha hp hpl hz hf) hd kk
end
end
section
open Go.Proofs.YtecibefflhomdaaGreatDoor.Pure (PDisk Ent Rd openB less bltB searchL numB textB frameB putB dec)
attribute [local irreducible] IntKind.wrap
variable {W0 w:World} {F:List HProp} {v:Value}
theorem put_spec2 {x:Ent} {bs:Bs} (hs:Sat W0 (bytS v bs::F) w) (hb:bs.length≤35184372088832) (hk:x.key.length≤1000) (hv:x.del=false→x.val.length≤1000) :
 Calls Tryz.prog 145 #[v,.agg (entC x).toArray] w fun y w'=>∃ v',y=.returned v'∧Sat W0 (bytS v' (bs++putB x)::F) w':=by
 refine enter Tryz.func145 rfl Tryz.ntmps145 Tryz.results145 rfl ?_
 refine go ?_
 refine w_box (z:=entC x) hs fun w b3 hs=>?_
 refine go ?_
 refine wc_draw [blk b3 256 (entC x)] [(0,false),(1,false),(2,false),(4,false),(5,false),(3,true),(6,true),(7,false)] hs (by kernel_rfl) fun w hs=>?_
 refine go ?_
 refine w_call (met (text_spec (s:=x.key) (hs.take (.there .here)) (by omega) (by omega)) ?_)
 rintro _ w ⟨v,rfl,hs⟩
 refine ⟨v,rfl,go ?_⟩
 refine w_call (met (number_spec (N:=x.seq) (k:=8) hs (by omega) (by simp;omega)) ?_)
 rintro _ w ⟨v,rfl,hs⟩
 refine ⟨v,rfl,go ?_⟩
 refine wc_cond rfl (fun h=>?_) (fun h=>?_)
 ·refine go ?_
  refine w_lit1 hs fun w b hs=>?_
  refine w_appB1 (z:=255) hs fun v w hs=>?_
  refine go ?_
  exact wq_ret rfl ⟨v,rfl,by rw [show bs++putB x=bs++textB x.key++numB x.seq 8++[255] from by simp [putB,h]];exact hs.to⟩
 ·have hv:=hv h
  refine go ?_
  refine w_call (met (text_spec (s:=x.val) hs (by simp;omega) (by omega)) ?_)
  rintro _ w ⟨v,rfl,hs⟩
  refine ⟨v,rfl,go ?_⟩
  exact wq_ret rfl ⟨v,rfl,by rw [show bs++putB x=bs++textB x.key++numB x.seq 8++textB x.val from by simp [putB,h]];exact hs.to⟩
structure WrP where
 bi:Nat
 bt:Nat
 bf:Nat
 bl:Nat
 p:Nat
 d:Nat
 name:Bs
 first:Bs
 last:Bs
 count:Nat
structure WrV where
 vi:Value
 vl:Value
 bv:Value
abbrev wrL (P:WrP) (V:WrV) (s:Wr):List HProp:=
 [blk P.bi 93 [V.vi],bytS V.vi s.inb,blk P.bt 193 [idV P.p],blk P.p 200 [str P.name,str P.first,str P.last,.int .i64 (P.count:Int),idV P.d,V.bv],ownS 3 V.bv 282 s.blocks.length (blksC s.blocks).flatten,blk P.bf 9 [str s.first],blk P.bl 93 [V.vl],bytS V.vl s.file]
theorem frame_len (b:Bs):(frameB b).length=b.length+12:=by rw [Pure.frameB_length];omega
theorem blks_app (l:List (Bs×Nat×Nat)) (b:Bs×Nat×Nat):(blksC (l++[b])).flatten=(blksC l).flatten++blkC b:=by simp [blksC]
theorem flush_spec {P:WrP} {V:WrV} {s s':Wr} (hs:Sat W0 (wrL P V s++F) w) (h:flushW s=some s') :
 Calls Tryz.prog 227 #[idV P.bi,idV P.bt,idV P.bf,idV P.bl] w fun x w'=>∃ u V',x=.returned u∧Sat W0 (wrL P V' s'++F) w':=by
 unfold flushW at h
 split at h
 ·rename_i hb
  obtain ⟨h1,h2,h3⟩:=hb
  rw [big_eq] at h2 h3
  cases h
  dsimp only [wrL,List.cons_append,List.nil_append] at hs
  obtain ⟨a1,c1,e1,-⟩:=(hs.take (.there .here)).ownShape
  obtain ⟨a2,c2,e2,-⟩:=(hs.take (.there (.there (.there (.there (.there (.there (.there .here)))))))).ownShape
  obtain ⟨vi,vl,bv⟩:=V
  dsimp only at e1 e2 hs
  subst e1 e2
  refine enter Tryz.func227 rfl Tryz.ntmps227 Tryz.results227 rfl ?_
  refine go ?_
  refine w_call (met (frame_spec (hs.take (.there .here)) (by omega)) ?_)
  rintro _ w ⟨vf,rfl,hs⟩
  refine ⟨_,rfl,?_⟩
  obtain ⟨a3,c3,rfl,-⟩:=hs.ownShape
  refine go ?_
  have hfl:=frame_len s.inb
  refine wc_draw [blk P.bt 193 [idV P.p],blk P.p 200 [str P.name,str P.first,str P.last,.int .i64 (P.count:Int),idV P.d,bv],blk P.bf 9 [str s.first],blk P.bl 93 [.slice a2 s.file.length c2]] [(0,false),(1,false),(2,false),(3,false),(4,false),(5,false),(6,false),(7,false),(8,false),(9,false),(10,false),(11,true),(12,true),(13,false),(14,false),(15,true)] hs.to (by kernel_rfl) fun w hs=>?_
  refine go ?_
  refine wo_build (blkC (s.first,s.file.length,(frameB s.inb).length)) rfl ?_
  refine go ?_
  refine w_lit (blkC (s.first,s.file.length,(frameB s.inb).length)) hs (fun w b2 hs=>?_)
  refine go ?_
  refine w_app1 hs fun v2 w hs=>?_
  obtain ⟨a4,c4,rfl,-⟩:=hs.ownShape
  refine go ?_
  refine w_st hs fun w hs=>?_
  refine go ?_
  refine wl_appB (m:=0) (bs:=s.file) (ns:=frameB s.inb) hs rfl rfl (by repeat (first|exact Take.here|apply Take.there)) (srcOwn rfl (by repeat (first|exact Take.here|apply Take.there))) (by omega) rfl fun v3 w hs=>?_
  obtain ⟨a5,c5,rfl,-⟩:=hs.ownShape
  refine w_st hs fun w hs=>?_
  refine go ?_
  refine w_st hs fun w hs=>?_
  refine go ?_
  refine wq_end rfl ⟨_,⟨.slice none 0 0,.slice a5 (s.file++frameB s.inb).length c5,.slice a4 (s.blocks.length+1) c4⟩,rfl,?_⟩
  have hs2:=hs.ownNil (k:=1) (E:=5)
  dsimp only [wrL,List.cons_append,List.nil_append]
  rw [blks_app,List.length_append]
  exact hs2.to
 ·cases h
end
end Go.Proofs.YtecibefflhomdaaGreatDoor
