/-
  Part 48: THE FRAME from a walk of a law's function to the card; WALKS plays; THE FRAME laws over a script and two numbers; WALKS the store's Shape; WALKS within, twice.
-/
import Derived.Test.YtecibefflhomdaaGreatDoorV47
import Derived.Laws.MakeOwn
set_option maxHeartbeats 8000000
set_option maxRecDepth 100000
set_option linter.all false
namespace Go.Proofs.YtecibefflhomdaaGreatDoor
open Go
section
open Go Go.ChangeShapes Go.WideShapes
section
variable {H:Type} {enc:TypeId×Value→H}
theorem AH {C:Checked} {os:Os} {f:FuncId} {fn:Func} {s:ChangeSpec} {F:Stop.Interp} {conds:List PathCond} {apart fresh handsOn:Bool} {Xp:World→Prop}
 (hXp:∀ w w':World,w.heap=w'.heap→Xp w→Xp w') (own:ownKnob C.prog.godebug=none) (started:os.Started) (noInit:C.prog.inits.idxOf? f=none) (hfn:C.prog.funcs[f]?=some fn)
 (witness:∃ (w:World) (tape:Tape) (i:Input),w.os=os∧(w.forCall tape i).Shaped C.prog∧i.vars=[]∧Input.okWide C.prog (w.forCall tape i) .any w.heap.size f i ∧
   ((s.pre enc C.prog fn conds apart (w.forCall tape i).memory i.args∧Xp (w.forCall tape i).memory)∧sizedMet enc C.prog fn (OpenSpec.ofChange s) apart (w.forCall tape i).memory i.args)∧({ calm:=true }:Assume).holds C.prog (lone (Frame.enter C.prog f i.args .normal) [] (w.forCall tape i)))
 (contract:∀ (W:World) (base:Nat) (args:Array Value) (ds gs:List (DataW H)) (before:List MemPlace),
   (∀ (j:Nat) t v,fn.params[j]?=some t→args[j]?=some v→Value.okWide C.prog W .any base t v) →
   DataW.Whole enc C.prog fn.params.toList s.vars apart W args.toList ds gs before →
   (DataW.weightsEach C.prog (fn.params.toList++s.plain.varTypes C.prog) (ds++gs)).all (· ≤ reachBytes)=true→Xp W →
   Calls C.prog f args W fun
    | .returned v,W'=>W'.os=W.os∧s.post enc C.prog fn apart fresh handsOn false W args v W'
    | _,_=>False) :
 ReturnsInLeavingWide { calm:=true } C os f .any (fun w args=>(s.pre enc C.prog fn conds apart w args∧Xp w)∧sizedMet enc C.prog fn (OpenSpec.ofChange s) apart w args) ((OpenSpec.ofChange s).postWith enc C.prog fn F (outsideKept [.timePasses]) apart fresh handsOn):=by
 refine returnsInLeavingWide_of_good own started witness ?_
 intro w tape i _ _ _ hok hpre _
 obtain ⟨_,_,_,fn',hfn',_,_,_,_,hval⟩:=hok
 have e:fn'=fn:=Option.some.inj (hfn'.symm.trans hfn)
 subst e
 obtain ⟨⟨⟨ds,gs,before,hw,hc⟩,hx⟩,hz⟩:=hpre
 have hw':=DataW.Whole.of_heap (w':=w.forCall tape i) (by rfl) hw
 obtain ⟨n,v,w',fr,hn,hend,hp⟩:=(contract (w.forCall tape i) w.heap.size i.args ds gs before hval hw' (hz.weights hw) (hXp (w.forCall tape i).memory (w.forCall tape i) (by rfl) hx)).done_lone noInit
 have hrun:runNT C.prog (n+1) (lone (Frame.enter C.prog f i.args .normal) [] (w.forCall tape i)) #[]=(.ended (.done v) w',(runNT C.prog (n+1) (lone (Frame.enter C.prog f i.args .normal) [] (w.forCall tape i)) #[]).2):=Prod.ext (by rw [runNT_fst,hend]) rfl
 have heq:({ w' with os:=(w.forCall tape i).os }:World)=w':=by rw [← hp.1]
 exact ⟨n,_,.done v,w',_,hrun,hn,step_of_runs hn hend,v,rfl,postWith_blind (postWith_of_post (by rw [heq];exact hp.2) (by rw [hp.1];exact .refl _)),fun said=>(no_race_of_lone C.prog n _ _ hn (by simp [lone]) rfl).2,handedOver_of_lone hn,⟨fun g hg=>by simp [lone] at hg,rfl⟩,fun i g hg hi=>by
  cases i with
  | zero=>exact absurd rfl hi
  | succ k=>simp [lone] at hg⟩
end
end
section
open Go.Proofs.YtecibefflhomdaaGreatDoor.Pure (ae cG aR bE bB jh jf rU)
attribute [local irreducible] IntKind.wrap
variable {W0 w:World} {F:List ax} {p:Nat} {X:WS} {E B N:Nat} {v:Value}
def iK (ops:List l8):Nat:=(ops.map fun o=>o.l.length).sum
theorem C3 (o:l8):o.l.length≤l9 o:=by
 have:=AF gQ (fun x=>by unfold gQ;omega) o.l
 unfold l9;omega
theorem yZ:∀ ops:List l8,iK ops≤(ops.map l9).sum
 | []=>Nat.le_refl _
 | o::r=>by
  have h1:=yZ r
  have h2:=C3 o
  unfold iK at h1 ⊢
  simp only [List.map_cons,List.sum_cons]
  omega
theorem C4 {ops:List l8} {i:Nat} {o:l8} (h:ops[i]?=some o):iK (ops.take (i+1))=iK (ops.take i)+o.l.length:=wQ (fun o:l8=>o.l.length) h
theorem C5 (ops:List l8) (i:Nat):iK (ops.take i)≤iK ops:=by
 have h:iK ops=iK (ops.take i)+iK (ops.drop i):=by
  unfold iK
  rw [← List.sum_append,← List.map_append,List.take_append_drop]
 omega
end
section
open Go Go.ChangeShapes Go.WideShapes Go.RowKit
theorem LO:400 ≥ 0∧(65:Nat)<Tryz.prog.types.size∧(3:Nat)<Tryz.prog.types.size:=⟨by decide,of_decide_eq_true (by kernel_rfl),of_decide_eq_true (by kernel_rfl)⟩
section
variable {H:Type} {enc:TypeId×Value→H}
theorem Q6 {f:FuncId} {fn:Func} {s:ChangeSpec} (hpar:fn.params=#[65,3,3]) (hres:fn.resultTypes=#[4]) (hvars:s.vars=[]) (hs:∀ d1 d2 d3:DataW H,s.fn H [d1,d2,d3]={ results:=[.lit (.bool true)],args:=[d1,d2,d3] })
 (walk:∀ (W:World) (v:Value) (ops:List l8) (a b:Int),CX W v ops→jF W→iD W→Calls Tryz.prog f #[v,.int .i64 a,.int .i64 b] W fun x w'=>x=.returned (.bool true)∧Sat W [] w')
 (W:World) (base:Nat) (args:Array Value) (ds gs:List (DataW H)) (before:List MemPlace)
 (hval:∀ (j:Nat) t v,fn.params[j]?=some t→args[j]?=some v→Value.okWide Tryz.prog W .any base t v)
 (hW:DataW.Whole enc Tryz.prog fn.params.toList s.vars false W args.toList ds gs before)
 (hwt:(DataW.weightsEach Tryz.prog (fn.params.toList++s.plain.varTypes Tryz.prog) (ds++gs)).all (· ≤ reachBytes)=true) (hX:laidMetH Tryz.prog pK W) (fresh:Bool) :
 Calls Tryz.prog f args W fun
  | .returned v,W'=>W'.os=W.os∧s.post enc Tryz.prog fn false fresh false false W args v W'
  | _,_=>False:=by
 have hW':=hW
 obtain ⟨p,q,hA,hV,rfl,hfz,hnd⟩:=hW
 have hA0:=hA
 rw [hpar] at hA hval hwt
 rw [hvars] at hV
 obtain ⟨v0,v1,v2,d0,d1,d2,p0,p1,p2,rfl,rfl,rfl,h0,h1,h2⟩:=trodAll_three hA
 obtain ⟨rfl,rfl⟩:gs=[]∧q=[]:=by
  cases gs with
  | nil=>exact ⟨rfl,hV⟩
  | cons g r=>exact absurd hV (by intro h;cases h)
 obtain ⟨n1,rfl,rfl,rfl,_⟩:=open_int Tryz.underlying3 (hval 1 3 v1 rfl rfl) h1
 obtain ⟨n2,rfl,rfl,rfl,_⟩:=open_int Tryz.underlying3 (hval 2 3 v2 rfl rfl) h2
 obtain ⟨al,len,cap,rfl⟩:=okWide_slice Tryz.underlying65 (hval 0 65 v0 rfl rfl)
 obtain ⟨fuel,hf⟩:=h0
 have hw0:Wt 65 d0:=fun x hx=>by
  have h3:=List.all_eq_true.1 hwt x (by
   show x∈DataW.weightsEach Tryz.prog (65::_) (d0::_)
   unfold DataW.weightsEach
   exact List.mem_append_left _ hx)
  have h4:x≤reachBytes:=by simpa using h3
  unfold reachBytes at h4
  omega
 obtain ⟨v,ops,e1,ho⟩:=LK hf hw0
 have e1:Value.slice al len cap=v:=by simpa [Value.cells] using e1
 subst e1
 refine (walk W _ ops n1 n2 ho (Ns hX) (Nr hX)).mono ?_
 rintro x W' ⟨rfl,hsat⟩
 show W'.os=W.os∧s.post enc Tryz.prog fn false fresh false false W _ _ W'
 refine ⟨hsat.os,_,_,_,[],p0++[]++[],[],hW',?_,?_,?_,C1 hsat _,?_⟩
 ·rw [List.append_nil,hs,hres]
  exact trodAll_mk1 (shut_bool Tryz.underlying4 true)
 ·rw [List.append_nil,hs]
  exact Fx (by
   rw [hpar]
   intro t ht
   simp at ht
   rcases ht with rfl|rfl
   ·exact LO.2.1
   ·exact LO.2.2) hA0 hsat
 ·rw [List.append_nil,hs,hvars]
  exact rfl
 ·intro h
  cases h
theorem LP {os:Os} {f:FuncId} {fn:Func} {s:ChangeSpec}
 (hok:Input.okWideB Tryz.prog ((World.doorLaid Tryz.prog 400 os).forCall (fun _ _=>0) ⟨#[],#[.slice none 0 0,.int .i64 0,.int .i64 0],[]⟩) f ⟨#[],#[.slice none 0 0,.int .i64 0,.int .i64 0],[]⟩=true)
 (hpre:s.preB enc Tryz.prog fn [] false ((World.doorLaid Tryz.prog 400 os).forCall (fun _ _=>0) ⟨#[],#[.slice none 0 0,.int .i64 0,.int .i64 0],[]⟩).memory #[.slice none 0 0,.int .i64 0,.int .i64 0] 8=true)
 (hsz:s.sizedB enc Tryz.prog fn false ((World.doorLaid Tryz.prog 400 os).forCall (fun _ _=>0) ⟨#[],#[.slice none 0 0,.int .i64 0,.int .i64 0],[]⟩).memory #[.slice none 0 0,.int .i64 0,.int .i64 0] 8=true) :
 ∃ (w:World) (tape:Tape) (i:Input),w.os=os∧(w.forCall tape i).Shaped Tryz.prog∧i.vars=[]∧Input.okWide Tryz.prog (w.forCall tape i) .any w.heap.size f i ∧
  ((s.pre enc Tryz.prog fn [] false (w.forCall tape i).memory i.args∧laidMetH Tryz.prog pK (w.forCall tape i).memory)∧sizedMet enc Tryz.prog fn (OpenSpec.ofChange s) false (w.forCall tape i).memory i.args)∧({ calm:=true }:Assume).holds Tryz.prog (lone (Frame.enter Tryz.prog f i.args .normal) [] (w.forCall tape i)):=
 ⟨World.doorLaid Tryz.prog 400 os,fun _ _=>0,⟨#[],#[.slice none 0 0,.int .i64 0,.int .i64 0],[]⟩,rfl,C2 os _,(Input.okWide_of_okWideB (base:=0) hok).1,(Input.okWide_of_okWideB hok).2,⟨⟨ChangeSpec.pre_of_preB hpre,IL os _⟩,sizedMet_of_sizedB hsz⟩,by
   simp only [Assume.holds]
   exact ⟨by simp,fun _ _ _ _=>rfl,by simp,by simp,by simp⟩⟩
end
end
section
open Go.Proofs.YtecibefflhomdaaGreatDoor.Pure (ae cG aR)
section
variable {ops:Array Oper} {Q:Exit→Act→World→Prop} {n:Nat} {ds:Md} {e:Env} {w w':World} {rest:List Oper}
variable {op:Op} {ty:TypeId} {pos:String} {af:Array Edge} {d:Nat} {v u:Value} {W0:World} {l l' r r':List ax}
attribute [local semireducible] WL WC WQ
theorem LQ (hs:Sat W0 l w) (hd:Nat.blt d n=true)
 (kk:∀ w' b,Sat W0 (blk b 164 [.slice none 0 0,.slice none 0 0,.slice none 0 0,.slice none 0 0]::l) w'→WL ops Q n ds rest ((d,.slice (some ⟨b,0,none⟩) 4 4)::e) w') :
 WL ops Q n ds (⟨some d,.makeSlice 160 (.const (.int .i64 4)) (.const (.int .i64 4)),ty,pos,af,none⟩::rest) e w:=by
 obtain ⟨i,hi⟩:∃ i,Tryz.prog.info? 164=some i:=by
  cases h:Tryz.prog.info? 164 with
  | some i=>exact ⟨i,rfl⟩
  | none=>
   have:(Tryz.prog.info? 164).isSome=true:=by kernel_rfl
   rw [h] at this;cases this
 have hz:i.zero=some (.slice none 0 0):=by
  have:(Tryz.prog.info? 164).bind (·.zero)=some (.slice none 0 0):=by kernel_rfl
  rw [hi] at this;exact this
 have hsz:i.size=1:=by
  have:(Tryz.prog.info? 164).map (·.size)=some 1:=by kernel_rfl
  rw [hi] at this;exact Option.some.inj this
 have hby:i.bytes=24:=by
  have:(Tryz.prog.info? 164).map (·.bytes)=some 24:=by kernel_rfl
  rw [hi] at this;exact Option.some.inj this
 refine bX (w':={ w with heap:=w.heap.push (.cells #[.slice none 0 0,.slice none 0 0,.slice none 0 0,.slice none 0 0] 164) }) (v:=.slice (some ⟨w.heap.size,0,none⟩) 4 4) (fun a ha=>?_) hd (kk _ _ (hs.new _ false))
 have h:=run_make (P:=Tryz.prog) w 160 164 i _ (bQ rfl) hi hz .i64 .i64 4 4 (by omega) (by omega) (by omega) (by omega)
 simp only [execOp,Act.eval]
 have e1:madeCells (Value.slice none 0 0).cells (Int.toNat 4*i.size)=#[.slice none 0 0,.slice none 0 0,.slice none 0 0,.slice none 0 0]:=by
  rw [hsz];kernel_rfl
 rw [Sem.run_bind,h,Result.andThen_ok,e1]
 rfl
end
variable {W0 w:World} {F:List ax} {v:Value} {b d:Nat} {o:nH} {cl:Bool} {be:Option cx} {s:St} {D:ae}
def sJ (T:bN):List Value:=[str T.name,str T.first,str T.last,.int .i64 (T.count:Int)]
def ea (Ts:List bN):List (List Value):=Ts.map sJ
theorem Nt (Ts:List bN):∀ r∈ea Ts,r.length=4:=fun r hr=>by
 obtain ⟨T,_,rfl⟩:=List.mem_map.1 hr
 rfl
def oK (v:Value) (Ls:List (List bN)):ax:=fun h=>∃ us:List Value,us.length=Ls.length∧cL [gr 1 v (us.map fun u=>[u]),star (List.zipWith (fun u Ts=>gr 4 u (ea Ts)) us Ls)] h
def PC (v:Value) (Ls:List (List bN)):Option cx→ax
 | some _=>fun _=>v=.slice none 0 0
 | none=>oK v Ls
def I5 (Ls:List (List bN)) (i:Nat):List (List bN):=Ls.take i++List.replicate (4-i) []
abbrev I6 (u:Value) (Ts:List bN):ax:=aL 4 u 166 Ts.length (ea Ts).flatten
def LR (us:List Value) (Ls:List (List bN)):ax:=star (List.zipWith I6 us Ls)
theorem Nu {Ls:List (List bN)} (h:Ls.length=4) {i:Nat} (hi:i<4):(I5 Ls i)[i]?=some []:=by
 obtain ⟨a,b,c,d,rfl⟩:=four h
 match i,hi with
 | 0,_=>rfl
 | 1,_=>rfl
 | 2,_=>rfl
 | 3,_=>rfl
theorem Nv {Ls:List (List bN)} (h:Ls.length=4) {i:Nat} {Ts:List bN} (hi:i<4) (hg:Ls[i]?=some Ts):(I5 Ls i).set i Ts=I5 Ls (i+1):=by
 obtain ⟨a,b,c,d,rfl⟩:=four h
 match i,hi,hg with
 | 0,_,rfl=>rfl
 | 1,_,rfl=>rfl
 | 2,_,rfl=>rfl
 | 3,_,rfl=>rfl
theorem Nw {Ls:List (List bN)} (h:Ls.length=4) (i:Nat) (hi:i≤4):(I5 Ls i).length=4:=by
 unfold I5;simp;omega
theorem IM (A B:List bN):ea (A++B)=ea A++ea B:=List.map_append
theorem Sat.LS {u:Value} {Ts:List bN} {F:List ax} {w:World} (h:Sat W0 (I6 u Ts::F) w):Sat W0 (gr 4 u (ea Ts)::F) w:=by
 have e:(ea Ts).length=Ts.length:=by simp [ea]
 unfold I6 at h
 rw [← e] at h
 exact Sat.ku (Nt Ts) h
theorem Sat.GO:∀ {us:List Value} {Ls:List (List bN)},us.length=Ls.length→∀ {F:List ax} {w:World},Sat W0 (LR us Ls::F) w→Sat W0 (star (List.zipWith (fun u Ts=>gr 4 u (ea Ts)) us Ls)::F) w
 | [],[],_,F,w,h=>h
 | u::us,T::Ls,hl,F,w,h=>by
  have h1:=Sat.eU (B:=[]) (A:=I6 u T) (C:=List.zipWith I6 us Ls) h
  have h2:=Sat.GO (us:=us) (Ls:=Ls) (by simpa using hl) (h1.take (.there .here))
  have h3:=(h2.take (.there .here)).LS (Ts:=T)
  exact Sat.eY (B:=[]) h3
theorem Sat.LU:∀ {us:List Value} {Ls:List (List bN)},us.length=Ls.length→∀ {F:List ax} {w:World},Sat W0 (LR us Ls::F) w→∀ u∈us,df u=true
 | [],[],_,F,w,h,u,hu=>by cases hu
 | u::us,T::Ls,hl,F,w,h,x,hx=>by
  have h1:=Sat.eU (B:=[]) (A:=I6 u T) (C:=List.zipWith I6 us Ls) h
  rcases List.mem_cons.1 hx with rfl|hx
  ·obtain ⟨a,c,rfl,-⟩:=h1.aC
   rfl
  ·exact Sat.LU (us:=us) (Ls:=Ls) (by simpa using hl) (h1.take (.there .here)) x hx
theorem N4:∀ us:List Value,(us.map fun u=>[u]).flatten=us
 | []=>rfl
 | u::us=>by simp [N4 us]
theorem Sat.LV {b:Nat} {us:List Value} {F:List ax} {w:World} (h4:us.length=4) (h1:∀ u∈us,df u=true) (h:Sat W0 (blk b 164 us::F) w):Sat W0 (gr 1 (.slice (some ⟨b,0,none⟩) 4 4) (us.map fun u=>[u])::F) w:=by
 have e:(us.map fun u=>[u]).length=4:=by simpa using h4
 have h2:Sat W0 (aL 1 (.slice (some ⟨b,0,none⟩) (us.map fun u=>[u]).length 4) 164 (us.map fun u=>[u]).length (us.map fun u=>[u]).flatten::F) w:=by
  rw [N4,e]
  exact Sat.dg (rest:=[]) (by rw [List.append_nil];exact h) (by omega) (by decide) rfl (by omega) h1
 rw [e] at h2
 rw [← e] at h2 ⊢
 exact Sat.ku (fun r hr=>by
  obtain ⟨u,_,rfl⟩:=List.mem_map.1 hr
  rfl) h2
theorem qi (hL:eW cl be=none→∀ Ts∈s.levels,Ts.length≤1099511627776) (hs:Sat W0 (fy b d o cl be s::F) w) :
 Calls Tryz.prog 64 #[ay b] w fun y w'=>∃ v ve,y=.returned (.tuple #[v,ve])∧Sat W0 (PC v s.levels (eW cl be)::fy b d o cl be s::aH ve (eW cl be)::F) w':=by
 obtain ⟨hl,br,z,hs⟩:=hs.kp
 refine kn Tryz.func64 rfl Tryz.ntmps64 Tryz.results64 rfl ?_
 refine gy ?_
 refine iT hs ?_
 clear hs
 intro w hs
 have hs:Sat W0 (blk b 133 (ak (KS d o cl br 1) z s)::aH br be::dE d z s.levels::aO z.m s.mem::aM aY z.sn (aA s.snaps)::F) w:=hs
 refine gy ?_
 refine gH rfl ?_
 refine gy ?_
 refine ag (met (fP (K:=KS d o cl br 1) (be:=be) hs) ?_)
 clear hs
 rintro _ w ⟨ve,rfl,hs⟩
 refine ⟨_,rfl,?_⟩
 have hb:tO (KS d o cl br 1) be=eW cl be:=rfl
 rw [hb] at hs
 cases hbx:eW cl be with
 | some e=>
  rw [hbx] at hs
  obtain ⟨t,u,rfl⟩:=hs.aQ
  refine gy ?_
  refine dp (.inl rfl) hs ?_
  clear hs
  intro w hs
  refine ⟨_,_,rfl,?_⟩
  have hs:=Sat.dJ (s:=s) (cl:=cl) (be:=be) (o:=o) (d:=d) (b:=b) (br:=br) (z:=z) hl (hs.to (a:=blk b 133 (ak (KS d o cl br 0) z s)::dE d z s.levels::aO z.m s.mem::aM aY z.sn (aA s.snaps)::aH br be::aH (.iface t u) (some e)::F))
  exact Sat.close (B:=[]) (A:=PC (.slice none 0 0) s.levels (some e)) hs fun _ _=>rfl
 | none=>
  rw [hbx] at hs
  have hL:=hL hbx
  have hve:=hs.cA
  subst hve
  refine gy ?_
  refine LQ hs rfl ?_
  clear hs
  intro w b5 hs
  refine gy ?_
  obtain ⟨t0,t1,t2,t3,hlv⟩:=four hl
  have hs:Sat W0 (blk b5 164 [.slice none 0 0,.slice none 0 0,.slice none 0 0,.slice none 0 0]::blk b 133 (ak (KS d o cl br 1) z s)::aH br be::dE d z s.levels::aO z.m s.mem::aM aY z.sn (aA s.snaps)::aH .nilIface none::F) w:=hs.to
  generalize hF:aH .nilIface none::F=F' at hs
  have hn:Sat W0 (LR [.slice none 0 0,.slice none 0 0,.slice none 0 0,.slice none 0 0] (I5 s.levels 0)::blk b5 164 [.slice none 0 0,.slice none 0 0,.slice none 0 0,.slice none 0 0]::blk b 133 (ak (KS d o cl br 1) z s)::aH br be::dE d z s.levels::aO z.m s.mem::aM aY z.sn (aA s.snaps)::F') w:=by
   have e0:I5 s.levels 0=[[],[],[],[]]:=rfl
   rw [e0]
   exact Sat.eY (B:=[]) (Sat.cH (Sat.eY (B:=[]) (Sat.cH (Sat.eY (B:=[]) (Sat.cH (Sat.eY (B:=[]) (Sat.cH (Sat.oW hs))))))))
  clear hs
  refine aJ (α:=Nat×List Value) (fun q=>[(5,.slice (some ⟨b5,0,none⟩) 4 4),(26,.agg #[z.l0,z.l1,z.l2,z.l3]),(27,.int .i64 (q.1:Int))])
   (fun q w=>q.1≤4∧q.2.length=4∧Sat W0 (LR q.2 (I5 s.levels q.1)::blk b5 164 q.2::blk b 133 (ak (KS d o cl br 1) z s)::aH br be::dE d z s.levels::aO z.m s.mem::aM aY z.sn (aA s.snaps)::F') w)
   (fun q=>4-q.1) (0,[.slice none 0 0,.slice none 0 0,.slice none 0 0,.slice none 0 0]) ⟨rfl,rfl,rfl,trivial⟩ ⟨by omega,rfl,hn⟩ ?_
  clear hn
  rintro ⟨i,outs⟩ w ⟨hi,ho,hs⟩
  dsimp only at hi ho hs ⊢
  by_cases hlt:i<4
  ·have hint:(i:Int)<4:=by omega
   have hgl:s.levels[i]?=some (s.levels[i]'(by omega)):=List.getElem?_eq_getElem (by omega)
   have hgo:outs[i]?=some (outs[i]'(by omega)):=List.getElem?_eq_getElem (by omega)
   have hset:outs.set i (outs[i]'(by omega))=outs:=List.set_getElem_self _
   have hls:=Nv hl hlt hgl
   have hTl:=hL _ (List.mem_of_getElem? hgl)
   generalize s.levels[i]'(by omega)=Ts at hgl hls hTl
   generalize outs[i]'(by omega)=u0 at hgo hset
   obtain ⟨lv,hgv,hs⟩:=(hs.take (.there (.there (.there (.there .here))))).ot hgl hlt
   obtain ⟨ps,hps,hs⟩:=hs.iW
   obtain ⟨al,cl2,rfl,-⟩:=hs.aC
   have hz:=dN I6 hgo (Nu hl hlt)
   have hsp:=dx hz
   have hs:=hs.take (.there (.there (.there .here)))
   unfold LR at hs
   rw [hsp] at hs
   have hs:=hs.eU
   have hzs:=fun u=>nf I6 (xs:=outs) (ys:=I5 s.levels i) (i:=i) u Ts (by omega) (by rw [Nw hl i (by omega)];omega)
   rw [hls] at hzs
   generalize hRR:star ((List.zipWith I6 outs (I5 s.levels i)).take i++(List.zipWith I6 outs (I5 s.levels i)).drop (i+1))=RR at hs
   rw [← hset] at hs
   refine gy ?_
   refine Ed (m:=i) (vs:=[z.l0,z.l1,z.l2,z.l3]) rfl rfl rfl rfl rfl rfl hlt hgv rfl ?_
   refine gy ?_
   refine aJ (α:=Nat×Value) (fun q=>[(5,.slice (some ⟨b5,0,none⟩) 4 4),(26,.agg #[z.l0,z.l1,z.l2,z.l3]),(27,.int .i64 (i:Int)),(6,.int .i64 (i:Int)),(31,.slice al ps.length cl2),(32,.int .i64 (ps.length:Int)),(33,.int .i64 (q.1:Int))])
    (fun q w=>q.1≤ps.length∧Sat W0 (aL 4 q.2 166 (Ts.take q.1).length (ea (Ts.take q.1)).flatten::blk b5 164 (outs.set i q.2)::aL 1 (.slice al ps.length cl2) 193 ps.length (ps.map ay)::star (List.zipWith (cF d) ps Ts)::Em d z s.levels i::RR::blk b 133 (ak (KS d o cl br 1) z s)::aH br be::aO z.m s.mem::aM aY z.sn (aA s.snaps)::F') w)
    (fun q=>ps.length-q.1) (0,u0) ⟨rfl,rfl,rfl,rfl,rfl,rfl,rfl,trivial⟩ ⟨Nat.zero_le _,hs.to⟩ ?_
   clear hs
   rintro ⟨j,u⟩ w ⟨hj,hs⟩
   dsimp only at hj hs ⊢
   by_cases hlj:j<ps.length
   ·have gp:ps[j]?=some ps[j]:=List.getElem?_eq_getElem hlj
    have gT:Ts[j]?=some (Ts[j]'(by omega)):=List.getElem?_eq_getElem (by omega)
    have htj:Ts.take (j+1)=Ts.take j++[Ts[j]'(by omega)]:=by rw [List.take_add_one,gT];rfl
    have hzj:=dN (cF d) gp gT
    generalize Ts[j]'(by omega)=T at gT htj hzj
    generalize ps[j]=p at gp hzj
    have hlj':(j:Int)<(ps.length:Int):=by omega
    obtain ⟨bq,cap,rs,hv,q1,q2,q3,hs2⟩:=(hs.take (.there (.there .here))).dw (by omega)
    obtain ⟨rfl,_,rfl⟩:=Value.slice.inj hv
    have hcell:(ps.map ay++rs)[0+j*1]?=some (ay p):=by
     rw [Nat.zero_add,Nat.mul_one,List.getElem?_append_left (by simpa using hlj),List.getElem?_map,gp];rfl
    refine gy ?_
    refine eF hs2 rfl rfl .here hcell rfl ?_
    clear hs2
    have hs:=hs.take (.there (.there (.there .here)))
    have hs:=hs.EW (fun A hA=>by
     obtain ⟨x,hx,rfl⟩:=List.mem_iff_getElem.1 hA
     rw [List.getElem_zipWith];exact qN _ _ _) hzj
    obtain ⟨bv,hs⟩:=hs.lG
    have hs:=hs.to (a:=tI p 200 [str T.name,str T.first,str T.last,.int .i64 (T.count:Int),ay d,bv]::aL 4 u 166 (Ts.take j).length (ea (Ts.take j)).flatten::blk b5 164 (outs.set i u)::aL 1 (.slice (some ⟨bq,0,none⟩) ps.length cl2) 193 ps.length (ps.map ay)::star (List.zipWith (cF d) ps Ts)::Em d z s.levels i::RR::blk b 133 (ak (KS d o cl br 1) z s)::aH br be::aO z.m s.mem::aM aY z.sn (aA s.snaps)::F')
    have hcu:(outs.set i u)[0+i*1]?=some u:=by
     rw [Nat.zero_add,Nat.mul_one,List.getElem?_set_self (by omega)]
    have hlen:(outs.set i u).length=4:=by simpa using ho
    refine gy ?_
    refine bu [blk b5 164 (outs.set i u),tI p 200 [str T.name,str T.first,str T.last,.int .i64 (T.count:Int),ay d,bv]] [5,9] (.q 0 (.q 1 (.q 2 (.q 3 (.q 4 (.s 5 (.q 6 (.q 7 (.q 8 (.s 9 (.l 10 (.l 11 (.q 12 (.l 13 .nil)))))))))))))) hs (by kernel_rfl) ?_
    clear hs
    intro w hs
    refine gj ?_
    refine J6 (sJ T) rfl rfl rfl rfl (.there .here) ⟨rfl,rfl,rfl,rfl,trivial⟩ rfl ?_
    refine gj ?_
    refine ia (sJ T) hs ?_
    clear hs
    intro w b8 hs
    have htl:(Ts.take j).length≤1099511627776:=by simp;omega
    refine gy ?_
    refine cD hs.to ?_
    refine gj ?_
    refine dM hs ?_
    clear hs
    intro v2 w hs
    obtain ⟨a2,c2,rfl,-⟩:=hs.aC
    refine gy ?_
    refine cD hs.to ?_
    refine gj ?_
    refine bK (hlt:=by rw [hlen,Nat.blt_eq];omega) hs ?_
    clear hs
    intro w hs
    have e7:(outs.set i u).set (0+i*1) (.slice a2 ((Ts.take j).length+1) c2)=outs.set i (.slice a2 ((Ts.take j).length+1) c2):=by
     rw [Nat.zero_add,Nat.mul_one,List.set_set]
    rw [e7] at hs
    refine gy ?_
    refine dT rfl ?_
    refine gj ?_
    refine gy ?_
    refine az (j+1,.slice a2 ((Ts.take j).length+1) c2) ⟨rfl,rfl,rfl,rfl,rfl,rfl,rfl,trivial⟩ ⟨hlj,?_⟩ (by dsimp only;omega)
    dsimp only
    rw [htj,IM,List.flatten_append,List.length_append]
    show Sat W0 (aL 4 _ 166 ((Ts.take j).length+1) ((ea (Ts.take j)).flatten++sJ T)::_) w
    exact hs.to
   ·have hje:j=ps.length:=by omega
    subst hje
    have hlj':¬ (ps.length:Int)<(ps.length:Int):=by omega
    have htk:Ts.take ps.length=Ts:=by rw [hps,List.take_length]
    rw [htk] at hs
    refine gy ?_
    have hs:=Sat.En (z:=z) hgl hgv (Sat.jA hps (hs.to (a:=aL 1 (.slice al ps.length cl2) 193 ps.length (ps.map ay)::star (List.zipWith (cF d) ps Ts)::Em d z s.levels i::aL 4 u 166 Ts.length (ea Ts).flatten::RR::blk b5 164 (outs.set i u)::blk b 133 (ak (KS d o cl br 1) z s)::aH br be::aO z.m s.mem::aM aY z.sn (aA s.snaps)::F')))
    have hs:=hs.to (a:=I6 u Ts::RR::blk b5 164 (outs.set i u)::blk b 133 (ak (KS d o cl br 1) z s)::aH br be::dE d z s.levels::aO z.m s.mem::aM aY z.sn (aA s.snaps)::F')
    rw [← hRR] at hs
    have hs:=hs.eY
    rw [← hzs u] at hs
    refine az (i+1,outs.set i u) ⟨rfl,rfl,rfl,trivial⟩ ⟨hlt,by simpa using ho,hs.to⟩ (by dsimp only;omega)
  ·have hie:i=4:=by omega
   subst hie
   have hlt':¬ ((4:Nat):Int)<4:=by omega
   have e4:I5 s.levels 4=s.levels:=by rw [hlv];rfl
   rw [e4] at hs
   refine gy ?_
   refine dp (.inl rfl) (hs.take (.there (.there .here))) ?_
   clear hs
   intro w hs
   refine ⟨_,_,rfl,?_⟩
   subst hF
   have hou:=Sat.LU (by omega) (hs.take (.there .here))
   have hs:=Sat.GO (by omega) (hs.take (.there .here))
   have hs:=Sat.LV ho hou (hs.take (.there (.there .here)))
   have hs:=Sat.dJ (s:=s) (cl:=cl) (be:=be) (o:=o) (d:=d) (b:=b) (br:=br) (z:=z) hl (hs.to (a:=blk b 133 (ak (KS d o cl br 0) z s)::dE d z s.levels::aO z.m s.mem::aM aY z.sn (aA s.snaps)::aH br be::gr 1 (.slice (some ⟨b5,0,none⟩) 4 4) (outs.map fun u=>[u])::star (List.zipWith (fun u Ts=>gr 4 u (ea Ts)) outs s.levels)::aH .nilIface none::F))
   have hs:=hs.to (a:=gr 1 (.slice (some ⟨b5,0,none⟩) 4 4) (outs.map fun u=>[u])::star (List.zipWith (fun u Ts=>gr 4 u (ea Ts)) outs s.levels)::fy b d o cl be s::aH .nilIface none::F)
   have hs:=Sat.close (B:=[gr 1 (.slice (some ⟨b5,0,none⟩) 4 4) (outs.map fun u=>[u]),star (List.zipWith (fun u Ts=>gr 4 u (ea Ts)) outs s.levels)]) (A:=oK (.slice (some ⟨b5,0,none⟩) 4 4) s.levels) hs fun _ k=>⟨outs,by omega,k⟩
   exact hs
end
section
open Go.Proofs.YtecibefflhomdaaGreatDoor.Pure (ae cG aR)
attribute [local irreducible] IntKind.wrap
variable {W0 w:World} {F:List ax} {v:Value}
theorem tH {ss:List Bs} {n:Bs} (hs:Sat W0 (mK v ss::F) w) (hp:ss.length≤1099511627776) :
 Calls Tryz.prog 66 #[v,str n] w fun x w'=>x=.returned (.bool (decide (n∈ss)))∧Sat W0 (mK v ss::F) w':=by
 obtain ⟨a,c,rfl,hc,hc2⟩:=hs.aC
 refine enter Tryz.func66 rfl Tryz.ntmps66 Tryz.results66 rfl ?_
 refine gy ?_
 refine aJ (α:=Nat) (fun i=>[(0,.slice a ss.length c),(1,str n),(5,.int .i64 (i:Int))])
  (fun i w=>(i≤ss.length∧(n∈ss.drop i↔n∈ss))∧Sat W0 (mK (.slice a ss.length c) ss::F) w) (fun i=>ss.length-i) 0 ⟨rfl,rfl,rfl,trivial⟩ ⟨⟨Nat.zero_le _,by rw [List.drop_zero]⟩,hs⟩ ?_
 clear hs
 rintro i w ⟨⟨hi,hl⟩,hs⟩
 by_cases hlt:i<ss.length
 ·have hlt':(i:Int)<(ss.length:Int):=by omega
  obtain ⟨b,cap,rs,hv,q1,q2,q3,h2⟩:=hs.dw (by omega)
  obtain ⟨rfl,_,rfl⟩:=Value.slice.inj hv
  have hg:ss[i]?=some ss[i]:=List.getElem?_eq_getElem hlt
  have hd:ss.drop i=ss[i]::ss.drop (i+1):=List.drop_eq_getElem_cons hlt
  generalize ss[i]=m at hg hd
  rw [hd,List.mem_cons] at hl
  have hcell:(ss.map str++rs)[0+i*1]?=some (str m):=by
   rw [Nat.zero_add,Nat.mul_one,List.getElem?_append_left (by simpa using hlt),List.getElem?_map,hg];rfl
  clear hs
  by_cases hk:m=n
  ·refine gy ?_
   refine ah rfl ⟨?_,Sat.dg h2 q1 q2 q3 (by simp) (by simp [df])⟩
   rw [decide_eq_true (hl.1 (.inl hk.symm))];rfl
  ·refine gy ?_
   exact az (i+1) ⟨rfl,rfl,rfl,trivial⟩ ⟨⟨hlt,⟨fun h=>hl.1 (.inr h),fun h=>(hl.2 h).resolve_left fun e=>hk e.symm⟩⟩,Sat.dg h2 q1 q2 q3 (by simp) (by simp [df])⟩ (by show ss.length-(i+1)<ss.length-i;omega)
 ·have hie:i=ss.length:=by omega
  subst hie
  have hlt':¬ (ss.length:Int)<(ss.length:Int):=by omega
  rw [List.drop_length] at hl
  refine gy ?_
  refine ah rfl ⟨?_,hs⟩
  rw [decide_eq_false (fun h=>by cases hl.2 h)];rfl
def tU (us:List Value) (Ls:List (List bN)):ax:=star (List.zipWith (fun u Ts=>gr 4 u (ea Ts)) us Ls)
theorem GP (us:List Value) (Ls:List (List bN)):∀ A∈List.zipWith (fun u Ts=>gr 4 u (ea Ts)) us Ls,F6 A:=fun A hA=>by
 obtain ⟨x,hx,rfl⟩:=List.mem_iff_getElem.1 hA
 rw [List.getElem_zipWith];exact ui _ _ _
theorem C6 (v:Value) (Ls:List (List bN)):F6 (oK v Ls):=fun h ⟨us,h1,k⟩=>
 ⟨us,h1,qJ (l:=[gr 1 v (us.map fun u=>[u]),star (List.zipWith (fun u Ts=>gr 4 u (ea Ts)) us Ls)]) (fun A hA=>by
   simp at hA;rcases hA with rfl|rfl
   ·exact ui _ _ _
   ·exact vV (GP us Ls)) h k⟩
theorem Sat.AI {Ls:List (List bN)} (hne:Ls≠[]) (h:Sat W0 (oK v Ls::F) w):∃ (us:List Value) (z:rO),us.length=Ls.length∧v=.slice (some ⟨z.b,z.o,none⟩) Ls.length z.c∧(∀ i u,us[i]?=some u→z.all[z.o+i*1]?=some u) ∧
 Sat W0 (ob true z.b (.cells z.all.toArray z.E (0,0))::tU us Ls::F) w:=by
 obtain ⟨us,hu,hs⟩:=h.e9 (φ:=fun us:List Value=>us.length=Ls.length) (B:=fun us=>[gr 1 v (us.map fun u=>[u]),tU us Ls]) fun hp ⟨us,h1,k⟩=>⟨us,h1,k⟩
 obtain ⟨z,⟨hv,hle,hseg⟩,hs⟩:=Sat.kX hs (by
  intro e
  have:=congrArg List.length e
  rw [List.length_map,hu] at this
  exact hne (List.eq_nil_of_length_eq_zero this))
 rw [List.length_map,hu] at hv hle
 refine ⟨us,z,hu,hv,fun i u hi=>?_,hs.to⟩
 have:=hseg.row (k:=1) (i:=i) (x:=[u]) (fun r hr=>by obtain ⟨u,_,rfl⟩:=List.mem_map.1 hr;rfl) (by rw [List.getElem?_map,hi];rfl)
 exact this.1
theorem Sat.Fy {Ls:List (List bN)} {us:List Value} {i:Nat} {u:Value} {Ts:List bN} (hu:us[i]?=some u) (hT:Ls[i]?=some Ts) (h:Sat W0 (tU us Ls::F) w):Sat W0 (gr 4 u (ea Ts)::tU us Ls::F) w:=
 h.EW (GP us Ls) (dN _ hu hT)
theorem pj (Ts:List bN):(ea Ts).length=Ts.length:=List.length_map _
theorem Sat.nD {u:Value} {Ts:List bN} (h:Sat W0 (gr 4 u (ea Ts)::F) w):∃ a c,u=.slice a Ts.length c:=by
 obtain ⟨a,c,e,_⟩:=h.ix
 rw [pj] at e
 exact ⟨a,c,e⟩
theorem Sat.LW {a:Option Addr} {c k:Nat} {Ts:List bN} {T:bN} (hT:Ts[k]?=some T) (h:Sat W0 (gr 4 (.slice a Ts.length c) (ea Ts)::F) w):∃ z:rO,a=some ⟨z.b,z.o,none⟩∧fS z.all (z.o+k*4) (sJ T) ∧
 z.all[z.o+k*4]?=some (str T.name)∧z.all[z.o+k*4+1]?=some (str T.first)∧z.all[z.o+k*4+2]?=some (str T.last)∧z.all[z.o+k*4+3]?=some (.int .i64 (T.count:Int)) ∧
 Sat W0 (ob true z.b (.cells z.all.toArray z.E (0,0))::gr 4 (.slice a Ts.length c) (ea Ts)::F) w:=by
 rw [← pj Ts] at h ⊢
 obtain ⟨z,h1,h2,h3⟩:=h.KI (i:=k) (x:=sJ T) (by unfold ea;rw [List.getElem?_map,hT];rfl)
 exact ⟨z,h1,h2,h2.1,h2.2.1,h2.2.2.1,h2.2.2.2.1,h3⟩
def LX:List Bs→List Bs→Bool
 | _,[]=>true
 | acc,n::r=>if n∈acc then false else LX (acc++[n]) r
def im (Ls:List (List bN)):List Bs:=Ls.flatten.map (·.name)
theorem Fz {Ls:List (List bN)} (h4:Ls.length=4) (hT:Ls.flatten.length≤1099511627776) (hs:Sat W0 (oK v Ls::F) w) :
 Calls Tryz.prog 67 #[v] w fun x w'=>x=.returned (.bool (LX [] (im Ls)))∧Sat W0 F w':=by
 obtain ⟨us,z,hu,rfl,hz,hs⟩:=hs.AI (by intro e;rw [e] at h4;cases h4)
 refine enter Tryz.func67 rfl Tryz.ntmps67 Tryz.results67 rfl ?_
 refine gy ?_
 rw [h4]
 have hn:Sat W0 (mK (.slice none 0 0) []::ob true z.b (.cells z.all.toArray z.E (0,0))::tU us Ls::F) w:=Sat.cH hs
 clear hs
 refine aJ (α:=Nat×Value×List Bs) (fun q=>[(0,.slice (some ⟨z.b,z.o,none⟩) 4 z.c),(3,q.2.1),(4,.int .i64 (q.1:Int))])
  (fun q w=>(q.1≤4∧LX q.2.2 (im (Ls.drop q.1))=LX [] (im Ls)∧q.2.2.length+(im (Ls.drop q.1)).length=(im Ls).length)∧Sat W0 (mK q.2.1 q.2.2::ob true z.b (.cells z.all.toArray z.E (0,0))::tU us Ls::F) w) (fun q=>4-q.1) (0,.slice none 0 0,[]) ⟨rfl,rfl,rfl,trivial⟩ ⟨⟨by omega,by rw [List.drop_zero],by simp⟩,hn⟩ ?_
 clear hn
 rintro ⟨i,nv,acc⟩ w ⟨⟨hi,ht,hlen⟩,hs⟩
 dsimp only at hi ht hlen hs ⊢
 by_cases hlt:i<4
 ·have hlt':(i:Int)<4:=by omega
  have hgl:Ls[i]?=some (Ls[i]'(by omega)):=List.getElem?_eq_getElem (by omega)
  have hdl:Ls.drop i=Ls[i]'(by omega)::Ls.drop (i+1):=List.drop_eq_getElem_cons (by omega)
  obtain ⟨u,hgu⟩:∃ u,us[i]?=some u:=⟨_,List.getElem?_eq_getElem (by omega)⟩
  generalize Ls[i]'(by omega)=Ts at hgl hdl
  have hcu:=hz i u hgu
  have hs:=Sat.Fy hgu hgl (hs.take (.there (.there .here)))
  obtain ⟨a,c,rfl⟩:=hs.nD
  have hTl:Ts.length≤1099511627776:=by
   have h2:Ts.length≤Ls.flatten.length:=by rw [dx hgl];simp;omega
   omega
  have hnt:(im Ls).length=Ls.flatten.length:=by unfold im;rw [List.length_map]
  have e1:im (Ls.drop i)=Ts.map (·.name)++im (Ls.drop (i+1)):=by rw [hdl];simp [im]
  rw [e1] at ht hlen
  refine gy ?_
  refine aJ (α:=Nat×Value×List Bs) (fun q=>[(0,.slice (some ⟨z.b,z.o,none⟩) 4 z.c),(3,q.2.1),(4,.int .i64 (i:Int)),(5,.int .i64 (q.1:Int))])
   (fun q w=>(q.1≤Ts.length∧LX q.2.2 ((Ts.drop q.1).map (·.name)++im (Ls.drop (i+1)))=LX [] (im Ls)∧q.2.2.length+((Ts.drop q.1).map (·.name)++im (Ls.drop (i+1))).length=(im Ls).length) ∧
     Sat W0 (mK q.2.1 q.2.2::gr 4 (.slice a Ts.length c) (ea Ts)::ob true z.b (.cells z.all.toArray z.E (0,0))::tU us Ls::F) w) (fun q=>Ts.length-q.1) (0,nv,acc) ⟨rfl,rfl,rfl,rfl,trivial⟩ ⟨⟨Nat.zero_le _,by rw [List.drop_zero];exact ht,by rw [List.drop_zero];exact hlen⟩,hs.to⟩ ?_
  clear hs ht hlen
  rintro ⟨k,nv,acc⟩ w ⟨⟨hk,ht,hlen⟩,hs⟩
  dsimp only at hk ht hlen hs ⊢
  by_cases hlk:k<Ts.length
  ·have hlk':(k:Int)<(Ts.length:Int):=by omega
   have hgT:Ts[k]?=some Ts[k]:=List.getElem?_eq_getElem hlk
   have hdT:Ts.drop k=Ts[k]::Ts.drop (k+1):=List.drop_eq_getElem_cons hlk
   generalize Ts[k]=T at hgT hdT
   rw [hdT,List.map_cons,List.cons_append] at ht hlen
   simp only [List.length_cons] at hlen
   obtain ⟨y,rfl,hseg,c0,c1,c2,c3,hs⟩:=Sat.LW hgT (hs.take (.there .here))
   refine gy ?_
   refine ag (met (tH (n:=T.name) (hs.take (.there (.there .here))) (by omega)) ?_)
   clear hs
   rintro _ w ⟨rfl,hs⟩
   refine ⟨_,rfl,?_⟩
   have ht:(if T.name∈acc then false else LX (acc++[T.name]) ((Ts.drop (k+1)).map (·.name)++im (Ls.drop (i+1))))=LX [] (im Ls):=ht
   by_cases hin:T.name∈acc
   ·rw [if_pos hin] at ht
    rw [decide_eq_true hin]
    refine gy ?_
    refine ah rfl ⟨?_,hs.to⟩
    rw [← ht];rfl
   ·rw [if_neg hin] at ht
    rw [decide_eq_false hin]
    obtain ⟨a2,c2,rfl,-⟩:=hs.aC
    have hal:acc.length≤1099511627776:=by omega
    refine gy ?_
    refine fL hs ?_
    clear hs
    intro w b8 hs
    refine dM hs ?_
    clear hs
    intro v2 w hs
    refine gy ?_
    refine az (k+1,v2,acc++[T.name]) ⟨rfl,rfl,rfl,rfl,trivial⟩ ⟨⟨hlk,ht,by rw [List.length_append];simp only [List.length_singleton];omega⟩,?_⟩ (by dsimp only;omega)
    dsimp only
    rw [mK,List.length_append,List.map_append]
    exact hs.to
  ·have hke:k=Ts.length:=by omega
   subst hke
   have hlk':¬ (Ts.length:Int)<(Ts.length:Int):=by omega
   rw [List.drop_length,List.map_nil,List.nil_append] at ht hlen
   refine gy ?_
   exact az (i+1,nv,acc) ⟨rfl,rfl,rfl,trivial⟩ ⟨⟨by omega,ht,hlen⟩,hs.to⟩ (by dsimp only;omega)
 ·have hie:i=4:=by omega
  subst hie
  have hlt':¬ ((4:Nat):Int)<4:=by omega
  rw [show Ls.drop 4=[] from List.drop_of_length_le (by omega)] at ht
  refine gy ?_
  refine ah rfl ⟨?_,hs.to⟩
  rw [← ht];rfl
end
end Go.Proofs.YtecibefflhomdaaGreatDoor
