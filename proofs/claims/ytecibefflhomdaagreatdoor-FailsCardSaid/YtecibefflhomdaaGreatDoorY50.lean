/-
  Part 50: WALKS Fails; THE FRAME laws over rounds and three numbers; THE TIED CARD, its goroutines told no builder of the kit has.
-/
import Derived.Test.YtecibefflhomdaaGreatDoorY45
import Derived.Test.YtecibefflhomdaaGreatDoorY49
import Derived.SevenTiedAt
set_option maxHeartbeats 8000000
set_option maxRecDepth 100000
set_option linter.all false
namespace Go.Proofs.YtecibefflhomdaaGreatDoor
open Go
section
open Go.Proofs.YtecibefflhomdaaGreatDoor.Pure (ad bO aQ mZ aV)
attribute [local irreducible] IntKind.wrap
variable {W0 w:World} {F:List ah} {v:Value}
structure Du (W0:World) (v:Value) (rs:List vU):Prop where
 rd:vA W0 6 v (rs.map Nh)
 ok:∀ r∈rs,vS W0 r.dv r.ds∧r.after≤9223372036854775807∧r.times≤9223372036854775807
theorem Du.len {rs:List vU} (h:Du W0 v rs):∃ a c,v=.slice a rs.length c:=by
 obtain ⟨a,c,h1⟩:=h.rd.1
 rw [List.length_map] at h1
 exact ⟨a,c,h1⟩
theorem Du.row {rs:List vU} {a:Option Addr} {n c:Nat} (h:Du W0 (.slice a n c) rs) {i:Nat} (hi:i<rs.length):∃ b q r,r∈rs∧a=some ⟨b,q,none⟩ ∧
 (∀ j u,(Nh r)[j]?=some u→W0.cell? ⟨b,q+i*6+j,none⟩=some u):=by
 have hg:rs[i]?=some rs[i]:=List.getElem?_eq_getElem hi
 obtain ⟨b,q,c,h1,h2⟩:=h.rd.row (x:=Nh rs[i]) (by rw [List.getElem?_map,hg];rfl)
 injection h1 with h3 _ _
 exact ⟨b,q,rs[i],List.getElem_mem hi,h3,h2⟩
theorem GN {rs:List vU} {mm tt rr:Int} (hr:Du W0 v rs) (hW:jB W0) (hE:kY W0) (hs:Sat W0 F w) :
 Calls Tryz.prog 5 #[v,.int .i64 mm,.int .i64 tt,.int .i64 rr] w fun y w'=>y=.returned (.bool true)∧Sat W0 F w':=by
 obtain ⟨al,cl,rfl⟩:=hr.len
 have hok:=Jr mm tt
 have hrr:=qT rr (k:=100000) (by decide)
 refine enter Tryz.func5 rfl Tryz.ntmps5 Tryz.results5 rfl ?_
 refine gy ?_
 refine ae (met (Dl hW hE hs) ?_)
 clear hs
 rintro _ w ⟨rfl,hs⟩
 refine ⟨_,rfl,?_⟩
 by_cases hbig:(rs.length:Int) > 1048576
 ·refine gy ?_
  exact ak rfl ⟨rfl,hs⟩
 refine gy ?_
 refine kM (N:=(IntKind.u64.wrap rr).toNat) (M:=100000) rfl rfl (De rr) rfl (by decide) rfl ?_
 show WL _ _ _ _ _ ((_,.int .u64 (pN rr 100000:Int))::_) _
 generalize pN rr 100000=room at hrr ⊢
 refine gy ?_
 refine ae (met (wC (room:=3000+(room:Int)) hs (by omega) (by omega)) ?_)
 clear hs
 rintro _ w ⟨d,rfl,hs⟩
 refine ⟨_,rfl,?_⟩
 refine gy ?_
 refine ae (met (Dh hs) ?_)
 clear hs
 rintro _ w ⟨rfl,hs⟩
 refine ⟨_,rfl,?_⟩
 generalize hmo:rZ mm=m at hok ⊢
 generalize hto:r6 tt=t at hok ⊢
 refine gy ?_
 refine bA [.slice none 0 0,.int .i64 0,.bool false,.slice none 0 0] ?_
 refine cE hs fun w hp hs=>?_
 have hs:=Sat.LG hs
 refine gy ?_
 refine bA [au d,.pointer none,.int .i64 (m:Int),.int .i64 (t:Int),au hp] ?_
 refine cE hs fun w x hs=>?_
 have hs:Sat W0 (aJ x d (.pointer none) ⟨m,t⟩ hp::ag d (dB (3000+(room:Int)))::cJ hp [] 0 false::F) w:=hs.to
 have hok':1≤m∧m≤32∧2≤t∧t≤6:=by simpa [JS] using hok
 refine gy ?_
 refine ae (met (sR (o:=⟨m,t⟩) (j:=0) (N:=1) (S:=0) hok (Nat.le_refl _) (Nat.le_refl _) (by simp) (by simp [total]) (fun D2 hc=>Ld (o:=⟨m,t⟩) (by show 1≤t;omega) hok'.1 (by omega) (by omega) hc) hW hE hs) ?_)
 clear hs
 rintro y w hres
 obtain ⟨was,rfl,hi⟩:∃ was:Nat,y=.returned (.int .i64 (was:Int))∧((was=2∧Sat W0 F w)∨(was=0∧∃ X:SS,X.x=x∧X.o=⟨m,t⟩∧sY X 1 0 102999∧Sat W0 (sL X F) w)):=by
  rcases hres with ⟨h1,h2⟩|⟨h1,h2⟩
  ·exact ⟨2,h1,.inl ⟨rfl,h2⟩⟩
  ·exact ⟨0,h1,.inr ⟨rfl,h2⟩⟩
 clear hres
 refine ⟨_,rfl,?_⟩
 refine gy ?_
 refine aL (α:=Nat×Nat) (fun q=>[(0,.slice al rs.length cl),(10,au x),(11,.int .i64 (q.2:Int)),(12,.int .i64 (q.1:Int))])
  (fun q w=>q.1≤rs.length∧((q.2=2∧Sat W0 F w)∨(q.2=0∧∃ X:SS,X.x=x∧X.o=⟨m,t⟩∧sY X (1+q.1*2097152000000) (q.1*16777216) 102999∧Sat W0 (sL X F) w))) (fun q=>rs.length-q.1) (0,was)
  ⟨rfl,rfl,rfl,rfl,trivial⟩ ⟨Nat.zero_le _,by simpa using hi⟩ ?_
 clear hi was
 rintro ⟨i,was⟩ w ⟨hi,hst⟩
 dsimp only at hi hst ⊢
 by_cases hlt:i<rs.length
 ·have hlt':(i:Int)<(rs.length:Int):=by omega
  rcases hst with ⟨rfl,hs⟩|⟨rfl,X,rfl,hXo,hX,hs⟩
  ·have h2:¬ (((2:Nat):Int)=0):=by omega
   refine gy ?_
   exact ak rfl ⟨rfl,hs⟩
  ·have h2:(((0:Nat):Int)=0):=by omega
   obtain ⟨bq,q,r,hmem,rfl,hrow⟩:=hr.row hlt
   obtain ⟨hdw,hra,hrt⟩:=hr.ok r hmem
   obtain ⟨al2,cl2,hdv⟩:=hdw.len
   obtain ⟨dv,ds,after,dir,tail,crash,times⟩:=r
   dsimp only at hdw hra hrt hdv
   subst hdv
   refine gy ?_
   refine Eu [.slice al2 ds.length cl2,.int .i64 after,.int .u64 dir,.int .u64 tail,.bool crash,.int .i64 times] hs rfl rfl rfl hrow rfl ?_
   refine gy ?_
   refine aS hs ?_
   clear hs
   intro w b13 hs
   refine gy ?_
   refine cZ (vs:=[.slice al2 ds.length cl2,.int .i64 after,.int .u64 dir,.int .u64 tail,.bool crash,.int .i64 times]) hs ?_
   clear hs
   intro w hs
   refine gy ?_
   refine ae (met (Dg hdw hs) ?_)
   clear hs
   rintro _ w ⟨bb,rfl,hb,hs⟩
   refine ⟨_,rfl,?_⟩
   cases bb with
   | false=>
    refine gy ?_
    have hs:Sat W0 (blk b13 61 [.slice al2 ds.length cl2,.int .i64 after,.int .u64 dir,.int .u64 tail,.bool crash,.int .i64 times]::aJ X.x X.d (au X.b) X.o X.hp::dh X.b X.d X.o false none X.s::ag X.d X.D::cJ X.hp X.H X.sf false::F) w:=hs
    exact ak rfl ⟨rfl,hs.drop.drop.drop.drop.drop⟩
   | true=>
    have hb:=hb rfl
    refine gy ?_
    refine bD hs ?_
    clear hs
    intro w hs
    have hs:Sat W0 (blk b13 61 [.slice al2 ds.length cl2,.int .i64 after,.int .u64 dir,.int .u64 tail,.bool false,.int .i64 times]::aJ X.x X.d (au X.b) X.o X.hp::dh X.b X.d X.o false none X.s::ag X.d X.D::cJ X.hp X.H X.sf false::F) w:=hs
    refine gy ?_
    refine ae (met (Dt (r:=⟨.slice al2 ds.length cl2,ds,after,dir,tail,false,times⟩) (X:=X) (F:=blk b13 61 [.slice al2 ds.length cl2,.int .i64 after,.int .u64 dir,.int .u64 tail,.bool false,.int .i64 times]::F) rfl hdw hb hra hrt hW hE hX (by omega) (by omega) (by omega) hs.to) ?_)
    clear hs
    rintro y w hres
    rcases hres with ⟨rfl,hs⟩|⟨rfl,X',hx',ho',hX',hs⟩
    ·refine ⟨_,rfl,?_⟩
     refine gy ?_
     exact aB (i+1,2) ⟨rfl,rfl,rfl,rfl,trivial⟩ ⟨hlt,.inl ⟨rfl,hs.drop⟩⟩ (by show rs.length-(i+1)<rs.length-i;omega)
    ·refine ⟨_,rfl,?_⟩
     refine gy ?_
     have hs:Sat W0 (aJ X'.x X'.d (au X'.b) X'.o X'.hp::dh X'.b X'.d X'.o false none X'.s::ag X'.d X'.D::cJ X'.hp X'.H X'.sf false::blk b13 61 [.slice al2 ds.length cl2,.int .i64 after,.int .u64 dir,.int .u64 tail,.bool false,.int .i64 times]::F) w:=hs
     exact aB (i+1,0) ⟨rfl,rfl,rfl,rfl,trivial⟩ ⟨hlt,.inr ⟨rfl,X',hx',ho'.trans hXo,hX'.more (by dsimp only;omega) (by dsimp only;omega) (Nat.le_refl _),hs.to⟩⟩ (by show rs.length-(i+1)<rs.length-i;omega)
 ·have hie:i=rs.length:=by omega
  subst hie
  have hlt':¬ (rs.length:Int)<(rs.length:Int):=by omega
  rcases hst with ⟨rfl,hs⟩|⟨rfl,X,hXx,hXo,hX,hs⟩
  ·have h1:(((2:Nat):Int)≠1):=by omega
   refine gy ?_
   exact ak rfl ⟨rfl,hs⟩
  ·have h1:(((0:Nat):Int)≠1):=by omega
   refine gy ?_
   have hs:Sat W0 (aJ X.x X.d (au X.b) X.o X.hp::dh X.b X.d X.o false none X.s::ag X.d X.D::cJ X.hp X.H X.sf false::F) w:=hs
   exact ak rfl ⟨rfl,hs.drop.drop.drop.drop⟩
end
section
open Go Go.ChangeShapes Go.WideShapes Go.RowKit
theorem JG:(54:Nat)<Tryz.prog.types.size∧(3:Nat)<Tryz.prog.types.size:=⟨of_decide_eq_true (by kernel_rfl),of_decide_eq_true (by kernel_rfl)⟩
section
variable {H:Type} {enc:TypeId×Value→H} {w:World} {base fuel:Nat} {sp:Nat→Bool} {held:Bool}
theorem Ll {cs:List Value} {x:DataW H×List MemPlace} (h:DataW.trod enc Tryz.prog w base sp held fuel 61 cs=some x) (hw:Wt 61 x.1) :
 ∃ r:vU,cs=Nh r∧vS w r.dv r.ds∧r.after≤9223372036854775807∧r.times≤9223372036854775807:=by
 obtain ⟨xs,n,rfl,rfl,hl,hx,hf⟩:=DataW.trod_struct Tryz.underlying61 h
 have c61:Tryz.prog.cellsOf 61=6:=by kernel_rfl
 have c22:Tryz.prog.cellsOf 22=1:=by kernel_rfl
 have c3:Tryz.prog.cellsOf 3=1:=by kernel_rfl
 have c23:Tryz.prog.cellsOf 23=1:=by kernel_rfl
 have c4:Tryz.prog.cellsOf 4=1:=by kernel_rfl
 rw [c61] at hl
 match cs,hl with
 | [v0,v1,v2,v3,v4,v5],_=>
  match xs,hx with
  | [x0,x1,x2,x3,x4,x5],_=>
   have f0:DataW.trod enc Tryz.prog w base sp held n 22 (([v0,v1,v2,v3,v4,v5].drop 0).take (Tryz.prog.cellsOf 22))=some x0:=hf 0 _ rfl
   have f1:DataW.trod enc Tryz.prog w base sp held n 3 (([v0,v1,v2,v3,v4,v5].drop 1).take (Tryz.prog.cellsOf 3))=some x1:=hf 1 _ rfl
   have f2:DataW.trod enc Tryz.prog w base sp held n 23 (([v0,v1,v2,v3,v4,v5].drop 2).take (Tryz.prog.cellsOf 23))=some x2:=hf 2 _ rfl
   have f3:DataW.trod enc Tryz.prog w base sp held n 23 (([v0,v1,v2,v3,v4,v5].drop 3).take (Tryz.prog.cellsOf 23))=some x3:=hf 3 _ rfl
   have f4:DataW.trod enc Tryz.prog w base sp held n 4 (([v0,v1,v2,v3,v4,v5].drop 4).take (Tryz.prog.cellsOf 4))=some x4:=hf 4 _ rfl
   have f5:DataW.trod enc Tryz.prog w base sp held n 3 (([v0,v1,v2,v3,v4,v5].drop 5).take (Tryz.prog.cellsOf 3))=some x5:=hf 5 _ rfl
   rw [c22] at f0
   rw [c3] at f1 f5
   rw [c23] at f2 f3
   rw [c4] at f4
   unfold Wt DataW.weights at hw
   rw [Tryz.underlying61] at hw
   simp only [List.map_cons,List.map_nil,DataW.weightsEach] at hw
   obtain ⟨v,ds,e0,hds⟩:=Jw f0 (fun z hz=>hw z (by simp [hz]))
   obtain ⟨i1,e1,d1,g1⟩:=DataW.trod_int Tryz.underlying3 f1
   obtain ⟨i2,e2,d2,g2⟩:=DataW.trod_int Tryz.underlying23 f2
   obtain ⟨i3,e3,d3,g3⟩:=DataW.trod_int Tryz.underlying23 f3
   obtain ⟨b4,e4,d4⟩:=DataW.trod_bool Tryz.underlying4 f4
   obtain ⟨i5,e5,d5,g5⟩:=DataW.trod_int Tryz.underlying3 f5
   simp at e0 e1 e2 e3 e4 e5
   subst e0 e1 e2 e3 e4 e5
   exact ⟨⟨_,ds,i1,i2,i3,b4,i5⟩,rfl,hds,(Jn g1).2,(Jn g5).2⟩
theorem JH {cs:List Value} {x:DataW H×List MemPlace} (h:DataW.trod enc Tryz.prog w base sp held fuel 54 cs=some x) (hw:Wt 54 x.1) :
 ∃ (v:Value) (rs:List vU),cs=[v]∧Du w v rs:=by
 have c61:Tryz.prog.cellsOf 61=6:=by kernel_rfl
 obtain ⟨v,l,e5,hrd,hok,hcap⟩:=rY (α:=vU) (k:=6) (rowOf:=Nh) (R:=fun r=>vS w r.dv r.ds∧r.after≤9223372036854775807∧r.times≤9223372036854775807) Tryz.underlying54 c61 (by decide) (fun _=>rfl)
  (fun n cs y hy hwy=>Ll hy hwy) h hw
 exact ⟨v,l,e5,hrd,hok⟩
theorem trodAll_four {t t' t'' t3:TypeId} {args:Array Value} {ds:List (DataW H)} {ps:List MemPlace} {P:Program} (h:DataW.TrodAll enc P w base sp held [t,t',t'',t3] args.toList ds ps) :
 ∃ v v' v'' v3 d d' d'' d3 p p' p'' p3,args=#[v,v',v'',v3]∧ds=[d,d',d'',d3]∧ps=p++p'++p''++p3∧DataW.Trod enc P w base sp held t v d p∧DataW.Trod enc P w base sp held t' v' d' p'∧DataW.Trod enc P w base sp held t'' v'' d'' p''∧DataW.Trod enc P w base sp held t3 v3 d3 p3:=by
 obtain ⟨v,vs,d,ds',p,q,hargs,rfl,rfl,hd,hrest⟩:=trodAll_cons h
 obtain ⟨v',vs',d',ds'',p',q',rfl,rfl,rfl,hd',hrest'⟩:=trodAll_cons hrest
 obtain ⟨v'',vs'',d'',ds''',p'',q'',rfl,rfl,rfl,hd'',hrest''⟩:=trodAll_cons hrest'
 obtain ⟨v3,vs3,d3,ds3,p3,q3,rfl,rfl,rfl,hd3,hrest3⟩:=trodAll_cons hrest''
 obtain ⟨rfl,rfl,rfl⟩:=trodAll_nil hrest3
 exact ⟨v,v',v'',v3,d,d',d'',d3,p,p',p'',p3,by cases args;simp_all,rfl,by simp,hd,hd',hd'',hd3⟩
end
section
variable {H:Type} {enc:TypeId×Value→H}
theorem OR {f:FuncId} {fn:Func} {s:ChangeSpec} (hpar:fn.params=#[54,3,3,3]) (hres:fn.resultTypes=#[4]) (hvars:s.vars=[]) (hs:∀ d1 d2 d3 d4:DataW H,s.fn H [d1,d2,d3,d4]={ results:=[.lit (.bool true)],args:=[d1,d2,d3,d4] })
 (walk:∀ (W:World) (v:Value) (ops:List vU) (a b c:Int),Du W v ops→jB W→kY W→Calls Tryz.prog f #[v,.int .i64 a,.int .i64 b,.int .i64 c] W fun x w'=>x=.returned (.bool true)∧Sat W [] w')
 (W:World) (base:Nat) (args:Array Value) (ds gs:List (DataW H)) (before:List MemPlace)
 (hval:∀ (j:Nat) t v,fn.params[j]?=some t→args[j]?=some v→Value.okWide Tryz.prog W .any base t v)
 (hW:DataW.Whole enc Tryz.prog fn.params.toList s.vars false W args.toList ds gs before)
 (hwt:(DataW.weightsEach Tryz.prog (fn.params.toList++s.plain.varTypes Tryz.prog) (ds++gs)).all (· ≤ reachBytes)=true) (hX:laidMetH Tryz.prog o5 W) (fresh:Bool) :
 Calls Tryz.prog f args W fun
  | .returned v,W'=>W'.os=W.os∧s.post enc Tryz.prog fn false fresh false false W args v W'
  | _,_=>False:=by
 have hW':=hW
 obtain ⟨p,q,hA,hV,rfl,hfz,hnd⟩:=hW
 have hA0:=hA
 rw [hpar] at hA hval hwt
 rw [hvars] at hV
 obtain ⟨v0,v1,v2,v3,d0,d1,d2,d3,p0,p1,p2,p3,rfl,rfl,rfl,h0,h1,h2,h3⟩:=trodAll_four hA
 obtain ⟨rfl,rfl⟩:gs=[]∧q=[]:=by
  cases gs with
  | nil=>exact ⟨rfl,hV⟩
  | cons g r=>exact absurd hV (by intro h;cases h)
 obtain ⟨n1,rfl,rfl,rfl,_⟩:=open_int Tryz.underlying3 (hval 1 3 v1 rfl rfl) h1
 obtain ⟨n2,rfl,rfl,rfl,_⟩:=open_int Tryz.underlying3 (hval 2 3 v2 rfl rfl) h2
 obtain ⟨n3,rfl,rfl,rfl,_⟩:=open_int Tryz.underlying3 (hval 3 3 v3 rfl rfl) h3
 obtain ⟨al,len,cap,rfl⟩:=okWide_slice Tryz.underlying54 (hval 0 54 v0 rfl rfl)
 obtain ⟨fuel,hf⟩:=h0
 have hw0:Wt 54 d0:=fun x hx=>by
  have h3:=List.all_eq_true.1 hwt x (by
   show x∈DataW.weightsEach Tryz.prog (54::_) (d0::_)
   unfold DataW.weightsEach
   exact List.mem_append_left _ hx)
  have h4:x≤reachBytes:=by simpa using h3
  unfold reachBytes at h4
  omega
 obtain ⟨v,ops,e1,ho⟩:=JH hf hw0
 have e1:Value.slice al len cap=v:=by simpa [Value.cells] using e1
 subst e1
 refine (walk W _ ops n1 n2 n3 ho (K2 hX) (K1 hX)).mono ?_
 rintro x W' ⟨rfl,hsat⟩
 show W'.os=W.os∧s.post enc Tryz.prog fn false fresh false false W _ _ W'
 refine ⟨hsat.os,_,_,_,[],p0++[]++[]++[],[],hW',?_,?_,?_,Be hsat _,?_⟩
 ·rw [List.append_nil,hs,hres]
  exact trodAll_mk1 (shut_bool Tryz.underlying4 true)
 ·rw [List.append_nil,hs]
  exact Df (by
   rw [hpar]
   intro t ht
   simp at ht
   rcases ht with rfl|rfl
   ·exact JG.1
   ·exact JG.2) hA0 hsat
 ·rw [List.append_nil,hs,hvars]
  exact rfl
 ·intro h
  cases h
theorem JI {os:Os} {f:FuncId} {fn:Func} {s:ChangeSpec}
 (hok:Input.okWideB Tryz.prog ((World.doorLaid Tryz.prog 400 os).forCall (fun _ _=>0) ⟨#[],#[.slice none 0 0,.int .i64 0,.int .i64 0,.int .i64 0],[]⟩) f ⟨#[],#[.slice none 0 0,.int .i64 0,.int .i64 0,.int .i64 0],[]⟩=true)
 (hpre:s.preB enc Tryz.prog fn [] false ((World.doorLaid Tryz.prog 400 os).forCall (fun _ _=>0) ⟨#[],#[.slice none 0 0,.int .i64 0,.int .i64 0,.int .i64 0],[]⟩).memory #[.slice none 0 0,.int .i64 0,.int .i64 0,.int .i64 0] 8=true)
 (hsz:s.sizedB enc Tryz.prog fn false ((World.doorLaid Tryz.prog 400 os).forCall (fun _ _=>0) ⟨#[],#[.slice none 0 0,.int .i64 0,.int .i64 0,.int .i64 0],[]⟩).memory #[.slice none 0 0,.int .i64 0,.int .i64 0,.int .i64 0] 8=true) :
 ∃ (w:World) (tape:Tape) (i:Input),w.os=os∧(w.forCall tape i).Shaped Tryz.prog∧i.vars=[]∧Input.okWide Tryz.prog (w.forCall tape i) .any w.heap.size f i ∧
  ((s.pre enc Tryz.prog fn [] false (w.forCall tape i).memory i.args∧laidMetH Tryz.prog o5 (w.forCall tape i).memory)∧sizedMet enc Tryz.prog fn (OpenSpec.ofChange s) false (w.forCall tape i).memory i.args)∧({ calm:=true }:Assume).holds Tryz.prog (lone (Frame.enter Tryz.prog f i.args .normal) [] (w.forCall tape i)):=
 ⟨World.doorLaid Tryz.prog 400 os,fun _ _=>0,⟨#[],#[.slice none 0 0,.int .i64 0,.int .i64 0,.int .i64 0],[]⟩,rfl,Bf os _,(Input.okWide_of_okWideB (base:=0) hok).1,(Input.okWide_of_okWideB hok).2,⟨⟨ChangeSpec.pre_of_preB hpre,GF os _⟩,sizedMet_of_sizedB hsz⟩,by
   simp only [Assume.holds]
   exact ⟨by simp,fun _ _ _ _=>rfl,by simp,by simp,by simp⟩⟩
end
end
theorem GP {p:Pinned} {s:OpenSpec} {c:OpenClaim} {kinds:List LaidKind} {har:Bool×String} (hc:c.holds p s) (hw:c.wfByText s=true) (htie:c.laidByTextAt .later p kinds true)
 (hst:c.start=.entering) (hnb:c.noBlocks=false∧c.again=false) (hm:p.checked.prog.mainIs=some (har.1,har.2.toList))
 {f:FuncId} {fn:Func} (hf:p.checked.prog.funcNamed c.func=some f) (hfn:p.checked.prog.funcs[f]?=some fn) (hlook:true=p.checked.prog.looks []) (hps:(fn.params.toList.all fun t=>!p.checked.prog.wantsStandIn t)=true)
 (hg:true=c.goesBy p.checked.prog) :
 Claim7.holds p (.plain s) { stood:={ row:=c,standIns:=[],harness:=har,looks:=true },kinds:=[],alts:=[],goes:=true,laidByText:=true,laidKinds:=kinds,laidTests:=true,laidLooks:=.later }:=by
 have h6:Claim7.isSixth { stood:={ row:=c,standIns:=[],harness:=har,looks:=true },kinds:=[] }=false:=by simp [Claim7.isSixth]
 have hl:∀ f' fn',p.checked.prog.funcNamed c.func=some f'→p.checked.prog.funcs[f']?=some fn'→true=p.checked.prog.looks []∧∀ (j:Nat) t,fn'.params[j]?=some t→p.checked.prog.wantsStandIn t=false:=by
  intro f' fn' h1 h2
  obtain rfl:f=f':=Option.some.inj (hf.symm.trans h1)
  obtain rfl:fn=fn':=Option.some.inj (hfn.symm.trans h2)
  refine ⟨hlook,fun j t ht=>?_⟩
  have:=List.all_eq_true.1 hps t (List.mem_of_getElem? (by simpa using ht))
  simpa using this
 exact ⟨Claim7.tied_new_at .later kinds true (Claim7.new_of_sixth hc har true hst hnb hm h6 hl) hw,(fun D hD=>by cases hD),htie,(fun h=>by cases h),hg⟩
end Go.Proofs.YtecibefflhomdaaGreatDoor
