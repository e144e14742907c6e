/-
  Part 48: WALKS the store's Shape; WALKS a store that a fault came to answers the same error; WALKS a batch out of memory of one's own.
-/
import Derived.Test.YtecibefflhomdaaGreatDoorY47
import Derived.Laws.MakeOwn
set_option maxHeartbeats 8000000
set_option maxRecDepth 100000
set_option linter.all false
namespace Go.Proofs.YtecibefflhomdaaGreatDoor
open Go
section
open Go.Proofs.YtecibefflhomdaaGreatDoor.Pure (ad bO aQ)
section
variable {ops:Array Oper} {Q:Exit→Act→World→Prop} {n:Nat} {ds:Md} {e:Env} {w w':World} {rest:List Oper}
variable {op:Op} {ty:TypeId} {pos:String} {af:Array Edge} {d:Nat} {v u:Value} {W0:World} {l l' r r':List ah}
attribute [local semireducible] WL WC WQ
theorem JA (hs:Sat W0 l w) (hd:Nat.blt d n=true)
 (kk:∀ w' b,Sat W0 (blk b 164 [.slice none 0 0,.slice none 0 0,.slice none 0 0,.slice none 0 0]::l) w'→WL ops Q n ds rest ((d,.slice (some ⟨b,0,none⟩) 4 4)::e) w') :
 WL ops Q n ds (⟨some d,.makeSlice 160 (.const (.int .i64 4)) (.const (.int .i64 4)),ty,pos,af,none⟩::rest) e w:=by
 obtain ⟨i,hi⟩:∃ i,Tryz.prog.info? 164=some i:=by
  cases h:Tryz.prog.info? 164 with
  | some i=>exact ⟨i,rfl⟩
  | none=>
   have:(Tryz.prog.info? 164).isSome=true:=by kernel_rfl
   rw [h] at this;cases this
 have hz:i.zero=some (.slice none 0 0):=by
  have:(Tryz.prog.info? 164).bind (·.zero)=some (.slice none 0 0):=by kernel_rfl
  rw [hi] at this;exact this
 have hsz:i.size=1:=by
  have:(Tryz.prog.info? 164).map (·.size)=some 1:=by kernel_rfl
  rw [hi] at this;exact Option.some.inj this
 have hby:i.bytes=24:=by
  have:(Tryz.prog.info? 164).map (·.bytes)=some 24:=by kernel_rfl
  rw [hi] at this;exact Option.some.inj this
 refine cj (w':={ w with heap:=w.heap.push (.cells #[.slice none 0 0,.slice none 0 0,.slice none 0 0,.slice none 0 0] 164) }) (v:=.slice (some ⟨w.heap.size,0,none⟩) 4 4) (fun a ha=>?_) hd (kk _ _ (hs.new _ false))
 have h:=run_make (P:=Tryz.prog) w 160 164 i _ (bX rfl) hi hz .i64 .i64 4 4 (by omega) (by omega) (by omega) (by omega)
 simp only [execOp,Act.eval]
 have e1:madeCells (Value.slice none 0 0).cells (Int.toNat 4*i.size)=#[.slice none 0 0,.slice none 0 0,.slice none 0 0,.slice none 0 0]:=by
  rw [hsz];kernel_rfl
 rw [Sem.run_bind,h,Result.andThen_ok,e1]
 rfl
end
variable {W0 w:World} {F:List ah} {v:Value} {b d:Nat} {o:ji} {cl:Bool} {be:Option cy} {s:St} {D:ad}
def Lf (T:cD):List Value:=[str T.name,str T.first,str T.last,.int .i64 (T.count:Int)]
def j0 (Ts:List cD):List (List Value):=Ts.map Lf
theorem Lg (Ts:List cD):∀ r∈j0 Ts,r.length=4:=fun r hr=>by
 obtain ⟨T,_,rfl⟩:=List.mem_map.1 hr
 rfl
def Og (v:Value) (Ls:List (List cD)):ah:=fun h=>∃ us:List Value,us.length=Ls.length∧cV [jm 1 v (us.map fun u=>[u]),star (List.zipWith (fun u Ts=>jm 4 u (j0 Ts)) us Ls)] h
def OY (v:Value) (Ls:List (List cD)):Option cy→ah
 | some _=>fun _=>v=.slice none 0 0
 | none=>Og v Ls
def GY (Ls:List (List cD)) (i:Nat):List (List cD):=Ls.take i++List.replicate (4-i) []
abbrev GZ (u:Value) (Ts:List cD):ah:=aE 4 u 166 Ts.length (j0 Ts).flatten
def JB (us:List Value) (Ls:List (List cD)):ah:=star (List.zipWith GZ us Ls)
theorem Lh {Ls:List (List cD)} (h:Ls.length=4) {i:Nat} (hi:i<4):(GY Ls i)[i]?=some []:=by
 obtain ⟨a,b,c,d,rfl⟩:=four h
 match i,hi with
 | 0,_=>rfl
 | 1,_=>rfl
 | 2,_=>rfl
 | 3,_=>rfl
theorem Li {Ls:List (List cD)} (h:Ls.length=4) {i:Nat} {Ts:List cD} (hi:i<4) (hg:Ls[i]?=some Ts):(GY Ls i).set i Ts=GY Ls (i+1):=by
 obtain ⟨a,b,c,d,rfl⟩:=four h
 match i,hi,hg with
 | 0,_,rfl=>rfl
 | 1,_,rfl=>rfl
 | 2,_,rfl=>rfl
 | 3,_,rfl=>rfl
theorem Lj {Ls:List (List cD)} (h:Ls.length=4) (i:Nat) (hi:i≤4):(GY Ls i).length=4:=by
 unfold GY;simp;omega
theorem GM (A B:List cD):j0 (A++B)=j0 A++j0 B:=List.map_append
theorem Sat.JC {u:Value} {Ts:List cD} {F:List ah} {w:World} (h:Sat W0 (GZ u Ts::F) w):Sat W0 (jm 4 u (j0 Ts)::F) w:=by
 have e:(j0 Ts).length=Ts.length:=by simp [j0]
 unfold GZ at h
 rw [← e] at h
 exact Sat.jK (Lg Ts) h
theorem Sat.ET:∀ {us:List Value} {Ls:List (List cD)},us.length=Ls.length→∀ {F:List ah} {w:World},Sat W0 (JB us Ls::F) w→Sat W0 (star (List.zipWith (fun u Ts=>jm 4 u (j0 Ts)) us Ls)::F) w
 | [],[],_,F,w,h=>h
 | u::us,T::Ls,hl,F,w,h=>by
  have h1:=Sat.eS (B:=[]) (A:=GZ u T) (C:=List.zipWith GZ us Ls) h
  have h2:=Sat.ET (us:=us) (Ls:=Ls) (by simpa using hl) (h1.take (.there .here))
  have h3:=(h2.take (.there .here)).JC (Ts:=T)
  exact Sat.eK (B:=[]) h3
theorem Sat.JD:∀ {us:List Value} {Ls:List (List cD)},us.length=Ls.length→∀ {F:List ah} {w:World},Sat W0 (JB us Ls::F) w→∀ u∈us,dD u=true
 | [],[],_,F,w,h,u,hu=>by cases hu
 | u::us,T::Ls,hl,F,w,h,x,hx=>by
  have h1:=Sat.eS (B:=[]) (A:=GZ u T) (C:=List.zipWith GZ us Ls) h
  rcases List.mem_cons.1 hx with rfl|hx
  ·obtain ⟨a,c,rfl,-⟩:=h1.ay
   rfl
  ·exact Sat.JD (us:=us) (Ls:=Ls) (by simpa using hl) (h1.take (.there .here)) x hx
theorem LH:∀ us:List Value,(us.map fun u=>[u]).flatten=us
 | []=>rfl
 | u::us=>by simp [LH us]
theorem Sat.JE {b:Nat} {us:List Value} {F:List ah} {w:World} (h4:us.length=4) (h1:∀ u∈us,dD u=true) (h:Sat W0 (blk b 164 us::F) w):Sat W0 (jm 1 (.slice (some ⟨b,0,none⟩) 4 4) (us.map fun u=>[u])::F) w:=by
 have e:(us.map fun u=>[u]).length=4:=by simpa using h4
 have h2:Sat W0 (aE 1 (.slice (some ⟨b,0,none⟩) (us.map fun u=>[u]).length 4) 164 (us.map fun u=>[u]).length (us.map fun u=>[u]).flatten::F) w:=by
  rw [LH,e]
  exact Sat.dK (rest:=[]) (by rw [List.append_nil];exact h) (by omega) (by decide) rfl (by omega) h1
 rw [e] at h2
 rw [← e] at h2 ⊢
 exact Sat.jK (fun r hr=>by
  obtain ⟨u,_,rfl⟩:=List.mem_map.1 hr
  rfl) h2
theorem Dq (hL:jl cl be=none→∀ Ts∈s.levels,Ts.length≤1099511627776) (hs:Sat W0 (dh b d o cl be s::F) w) :
 Calls Tryz.prog 64 #[au b] w fun y w'=>∃ v ve,y=.returned (.tuple #[v,ve])∧Sat W0 (OY v s.levels (jl cl be)::dh b d o cl be s::ax ve (jl cl be)::F) w':=by
 obtain ⟨hl,br,z,hs⟩:=hs.nT
 refine nK Tryz.func64 rfl Tryz.ntmps64 Tryz.results64 rfl ?_
 refine gy ?_
 refine lq hs ?_
 clear hs
 intro w hs
 have hs:Sat W0 (blk b 133 (aj (KS d o cl br 1) z s)::ax br be::dQ d z s.levels::aR z.m s.mem::aO bB z.sn (aC s.snaps)::F) w:=hs
 refine gy ?_
 refine jV rfl ?_
 refine gy ?_
 refine ae (met (gP (K:=KS d o cl br 1) (be:=be) hs) ?_)
 clear hs
 rintro _ w ⟨ve,rfl,hs⟩
 refine ⟨_,rfl,?_⟩
 have hb:vM (KS d o cl br 1) be=jl cl be:=rfl
 rw [hb] at hs
 cases hbx:jl cl be with
 | some e=>
  rw [hbx] at hs
  obtain ⟨t,u,rfl⟩:=hs.aW
  refine gy ?_
  refine ft (.inl rfl) hs ?_
  clear hs
  intro w hs
  refine ⟨_,_,rfl,?_⟩
  have hs:=Sat.fP (s:=s) (cl:=cl) (be:=be) (o:=o) (d:=d) (b:=b) (br:=br) (z:=z) hl (hs.to (a:=blk b 133 (aj (KS d o cl br 0) z s)::dQ d z s.levels::aR z.m s.mem::aO bB z.sn (aC s.snaps)::ax br be::ax (.iface t u) (some e)::F))
  exact Sat.close (B:=[]) (A:=OY (.slice none 0 0) s.levels (some e)) hs fun _ _=>rfl
 | none=>
  rw [hbx] at hs
  have hL:=hL hbx
  have hve:=hs.cF
  subst hve
  refine gy ?_
  refine JA hs rfl ?_
  clear hs
  intro w b5 hs
  refine gy ?_
  obtain ⟨t0,t1,t2,t3,hlv⟩:=four hl
  have hs:Sat W0 (blk b5 164 [.slice none 0 0,.slice none 0 0,.slice none 0 0,.slice none 0 0]::blk b 133 (aj (KS d o cl br 1) z s)::ax br be::dQ d z s.levels::aR z.m s.mem::aO bB z.sn (aC s.snaps)::ax .nilIface none::F) w:=hs.to
  generalize hF:ax .nilIface none::F=F' at hs
  have hn:Sat W0 (JB [.slice none 0 0,.slice none 0 0,.slice none 0 0,.slice none 0 0] (GY s.levels 0)::blk b5 164 [.slice none 0 0,.slice none 0 0,.slice none 0 0,.slice none 0 0]::blk b 133 (aj (KS d o cl br 1) z s)::ax br be::dQ d z s.levels::aR z.m s.mem::aO bB z.sn (aC s.snaps)::F') w:=by
   have e0:GY s.levels 0=[[],[],[],[]]:=rfl
   rw [e0]
   exact Sat.eK (B:=[]) (Sat.cP (Sat.eK (B:=[]) (Sat.cP (Sat.eK (B:=[]) (Sat.cP (Sat.eK (B:=[]) (Sat.cP (Sat.ln hs))))))))
  clear hs
  refine aL (α:=Nat×List Value) (fun q=>[(5,.slice (some ⟨b5,0,none⟩) 4 4),(26,.agg #[z.l0,z.l1,z.l2,z.l3]),(27,.int .i64 (q.1:Int))])
   (fun q w=>q.1≤4∧q.2.length=4∧Sat W0 (JB q.2 (GY s.levels q.1)::blk b5 164 q.2::blk b 133 (aj (KS d o cl br 1) z s)::ax br be::dQ d z s.levels::aR z.m s.mem::aO bB z.sn (aC s.snaps)::F') w)
   (fun q=>4-q.1) (0,[.slice none 0 0,.slice none 0 0,.slice none 0 0,.slice none 0 0]) ⟨rfl,rfl,rfl,trivial⟩ ⟨by omega,rfl,hn⟩ ?_
  clear hn
  rintro ⟨i,outs⟩ w ⟨hi,ho,hs⟩
  dsimp only at hi ho hs ⊢
  by_cases hlt:i<4
  ·have hint:(i:Int)<4:=by omega
   have hgl:s.levels[i]?=some (s.levels[i]'(by omega)):=List.getElem?_eq_getElem (by omega)
   have hgo:outs[i]?=some (outs[i]'(by omega)):=List.getElem?_eq_getElem (by omega)
   have hset:outs.set i (outs[i]'(by omega))=outs:=List.set_getElem_self _
   have hls:=Li hl hlt hgl
   have hTl:=hL _ (List.mem_of_getElem? hgl)
   generalize s.levels[i]'(by omega)=Ts at hgl hls hTl
   generalize outs[i]'(by omega)=u0 at hgo hset
   obtain ⟨lv,hgv,hs⟩:=(hs.take (.there (.there (.there (.there .here))))).nP hgl hlt
   obtain ⟨ps,hps,hs⟩:=hs.ix
   obtain ⟨al,cl2,rfl,-⟩:=hs.ay
   have hz:=dm GZ hgo (Lh hl hlt)
   have hsp:=dG hz
   have hs:=hs.take (.there (.there (.there .here)))
   unfold JB at hs
   rw [hsp] at hs
   have hs:=hs.eS
   have hzs:=fun u=>mQ GZ (xs:=outs) (ys:=GY s.levels i) (i:=i) u Ts (by omega) (by rw [Lj hl i (by omega)];omega)
   rw [hls] at hzs
   generalize hRR:star ((List.zipWith GZ outs (GY s.levels i)).take i++(List.zipWith GZ outs (GY s.levels i)).drop (i+1))=RR at hs
   rw [← hset] at hs
   refine gy ?_
   refine Ci (m:=i) (vs:=[z.l0,z.l1,z.l2,z.l3]) rfl rfl rfl rfl rfl rfl hlt hgv rfl ?_
   refine gy ?_
   refine aL (α:=Nat×Value) (fun q=>[(5,.slice (some ⟨b5,0,none⟩) 4 4),(26,.agg #[z.l0,z.l1,z.l2,z.l3]),(27,.int .i64 (i:Int)),(6,.int .i64 (i:Int)),(31,.slice al ps.length cl2),(32,.int .i64 (ps.length:Int)),(33,.int .i64 (q.1:Int))])
    (fun q w=>q.1≤ps.length∧Sat W0 (aE 4 q.2 166 (Ts.take q.1).length (j0 (Ts.take q.1)).flatten::blk b5 164 (outs.set i q.2)::aE 1 (.slice al ps.length cl2) 193 ps.length (ps.map au)::star (List.zipWith (cG d) ps Ts)::Cs d z s.levels i::RR::blk b 133 (aj (KS d o cl br 1) z s)::ax br be::aR z.m s.mem::aO bB z.sn (aC s.snaps)::F') w)
    (fun q=>ps.length-q.1) (0,u0) ⟨rfl,rfl,rfl,rfl,rfl,rfl,rfl,trivial⟩ ⟨Nat.zero_le _,hs.to⟩ ?_
   clear hs
   rintro ⟨j,u⟩ w ⟨hj,hs⟩
   dsimp only at hj hs ⊢
   by_cases hlj:j<ps.length
   ·have gp:ps[j]?=some ps[j]:=List.getElem?_eq_getElem hlj
    have gT:Ts[j]?=some (Ts[j]'(by omega)):=List.getElem?_eq_getElem (by omega)
    have htj:Ts.take (j+1)=Ts.take j++[Ts[j]'(by omega)]:=by rw [List.take_add_one,gT];rfl
    have hzj:=dm (cG d) gp gT
    generalize Ts[j]'(by omega)=T at gT htj hzj
    generalize ps[j]=p at gp hzj
    have hlj':(j:Int)<(ps.length:Int):=by omega
    obtain ⟨bq,cap,rs,hv,q1,q2,q3,hs2⟩:=(hs.take (.there (.there .here))).dV (by omega)
    obtain ⟨rfl,_,rfl⟩:=Value.slice.inj hv
    have hcell:(ps.map au++rs)[0+j*1]?=some (au p):=by
     rw [Nat.zero_add,Nat.mul_one,List.getElem?_append_left (by simpa using hlj),List.getElem?_map,gp];rfl
    refine gy ?_
    refine eC hs2 rfl rfl .here hcell rfl ?_
    clear hs2
    have hs:=hs.take (.there (.there (.there .here)))
    have hs:=hs.C1 (fun A hA=>by
     obtain ⟨x,hx,rfl⟩:=List.mem_iff_getElem.1 hA
     rw [List.getElem_zipWith];exact qt _ _ _) hzj
    obtain ⟨bv,hs⟩:=hs.lr
    have hs:=hs.to (a:=sT p 200 [str T.name,str T.first,str T.last,.int .i64 (T.count:Int),au d,bv]::aE 4 u 166 (Ts.take j).length (j0 (Ts.take j)).flatten::blk b5 164 (outs.set i u)::aE 1 (.slice (some ⟨bq,0,none⟩) ps.length cl2) 193 ps.length (ps.map au)::star (List.zipWith (cG d) ps Ts)::Cs d z s.levels i::RR::blk b 133 (aj (KS d o cl br 1) z s)::ax br be::aR z.m s.mem::aO bB z.sn (aC s.snaps)::F')
    have hcu:(outs.set i u)[0+i*1]?=some u:=by
     rw [Nat.zero_add,Nat.mul_one,List.getElem?_set_self (by omega)]
    have hlen:(outs.set i u).length=4:=by simpa using ho
    refine gy ?_
    refine bH [blk b5 164 (outs.set i u),sT p 200 [str T.name,str T.first,str T.last,.int .i64 (T.count:Int),au d,bv]] [5,9] (.q 0 (.q 1 (.q 2 (.q 3 (.q 4 (.s 5 (.q 6 (.q 7 (.q 8 (.s 9 (.l 10 (.l 11 (.q 12 (.l 13 .nil)))))))))))))) hs (by kernel_rfl) ?_
    clear hs
    intro w hs
    refine gg ?_
    refine B2 (Lf T) rfl rfl rfl rfl (.there .here) ⟨rfl,rfl,rfl,rfl,trivial⟩ rfl ?_
    refine gg ?_
    refine gN (Lf T) hs ?_
    clear hs
    intro w b8 hs
    have htl:(Ts.take j).length≤1099511627776:=by simp;omega
    refine gy ?_
    refine cX hs.to ?_
    refine gg ?_
    refine dF hs ?_
    clear hs
    intro v2 w hs
    obtain ⟨a2,c2,rfl,-⟩:=hs.ay
    refine gy ?_
    refine cX hs.to ?_
    refine gg ?_
    refine bD (hlt:=by rw [hlen,Nat.blt_eq];omega) hs ?_
    clear hs
    intro w hs
    have e7:(outs.set i u).set (0+i*1) (.slice a2 ((Ts.take j).length+1) c2)=outs.set i (.slice a2 ((Ts.take j).length+1) c2):=by
     rw [Nat.zero_add,Nat.mul_one,List.set_set]
    rw [e7] at hs
    refine gy ?_
    refine cA rfl ?_
    refine gg ?_
    refine gy ?_
    refine aB (j+1,.slice a2 ((Ts.take j).length+1) c2) ⟨rfl,rfl,rfl,rfl,rfl,rfl,rfl,trivial⟩ ⟨hlj,?_⟩ (by dsimp only;omega)
    dsimp only
    rw [htj,GM,List.flatten_append,List.length_append]
    show Sat W0 (aE 4 _ 166 ((Ts.take j).length+1) ((j0 (Ts.take j)).flatten++Lf T)::_) w
    exact hs.to
   ·have hje:j=ps.length:=by omega
    subst hje
    have hlj':¬ (ps.length:Int)<(ps.length:Int):=by omega
    have htk:Ts.take ps.length=Ts:=by rw [hps,List.take_length]
    rw [htk] at hs
    refine gy ?_
    have hs:=Sat.Ct (z:=z) hgl hgv (Sat.jj hps (hs.to (a:=aE 1 (.slice al ps.length cl2) 193 ps.length (ps.map au)::star (List.zipWith (cG d) ps Ts)::Cs d z s.levels i::aE 4 u 166 Ts.length (j0 Ts).flatten::RR::blk b5 164 (outs.set i u)::blk b 133 (aj (KS d o cl br 1) z s)::ax br be::aR z.m s.mem::aO bB z.sn (aC s.snaps)::F')))
    have hs:=hs.to (a:=GZ u Ts::RR::blk b5 164 (outs.set i u)::blk b 133 (aj (KS d o cl br 1) z s)::ax br be::dQ d z s.levels::aR z.m s.mem::aO bB z.sn (aC s.snaps)::F')
    rw [← hRR] at hs
    have hs:=hs.eK
    rw [← hzs u] at hs
    refine aB (i+1,outs.set i u) ⟨rfl,rfl,rfl,trivial⟩ ⟨hlt,by simpa using ho,hs.to⟩ (by dsimp only;omega)
  ·have hie:i=4:=by omega
   subst hie
   have hlt':¬ ((4:Nat):Int)<4:=by omega
   have e4:GY s.levels 4=s.levels:=by rw [hlv];rfl
   rw [e4] at hs
   refine gy ?_
   refine ft (.inl rfl) (hs.take (.there (.there .here))) ?_
   clear hs
   intro w hs
   refine ⟨_,_,rfl,?_⟩
   subst hF
   have hou:=Sat.JD (by omega) (hs.take (.there .here))
   have hs:=Sat.ET (by omega) (hs.take (.there .here))
   have hs:=Sat.JE ho hou (hs.take (.there (.there .here)))
   have hs:=Sat.fP (s:=s) (cl:=cl) (be:=be) (o:=o) (d:=d) (b:=b) (br:=br) (z:=z) hl (hs.to (a:=blk b 133 (aj (KS d o cl br 0) z s)::dQ d z s.levels::aR z.m s.mem::aO bB z.sn (aC s.snaps)::ax br be::jm 1 (.slice (some ⟨b5,0,none⟩) 4 4) (outs.map fun u=>[u])::star (List.zipWith (fun u Ts=>jm 4 u (j0 Ts)) outs s.levels)::ax .nilIface none::F))
   have hs:=hs.to (a:=jm 1 (.slice (some ⟨b5,0,none⟩) 4 4) (outs.map fun u=>[u])::star (List.zipWith (fun u Ts=>jm 4 u (j0 Ts)) outs s.levels)::dh b d o cl be s::ax .nilIface none::F)
   have hs:=Sat.close (B:=[jm 1 (.slice (some ⟨b5,0,none⟩) 4 4) (outs.map fun u=>[u]),star (List.zipWith (fun u Ts=>jm 4 u (j0 Ts)) outs s.levels)]) (A:=Og (.slice (some ⟨b5,0,none⟩) 4 4) s.levels) hs fun _ k=>⟨outs,by omega,k⟩
   exact hs
end
section
open Go.Proofs.YtecibefflhomdaaGreatDoor.Pure (ad bO aQ mZ aV)
attribute [local irreducible] IntKind.wrap
variable {W0 w:World} {F:List ah} {v:Value} {N S L b d x hp:Nat} {o:ji} {s:St} {D:ad} {e:cy}
theorem oc {n:Int} (hs:Sat W0 F w):Calls Tryz.prog 57 #[.int .i64 n] w fun y w'=>y=.returned (.bool (decide (n=8∨n=9)))∧Sat W0 F w':=by
 refine enter Tryz.func57 rfl Tryz.ntmps57 Tryz.results57 rfl ?_
 by_cases h8:n=8
 ·rw [decide_eq_true (.inl h8)]
  refine gy ?_
  exact ak rfl ⟨rfl,hs⟩
 ·by_cases h9:n=9
  ·rw [decide_eq_true (.inr h9)]
   refine gy ?_
   exact ak rfl ⟨rfl,hs⟩
  ·rw [decide_eq_false (by omega)]
   refine gy ?_
   exact ak rfl ⟨rfl,hs⟩
theorem Dr (hs:Sat W0 (dh b d o false (some e) s::ag d D::F) w) :
 Calls Tryz.prog 71 #[au b] w fun y w'=>∃ ve,y=.returned (.tuple #[.int .i64 0,ve])∧Sat W0 (dh b d o false (some e) s::ag d D::ax ve (some e)::F) w':=by
 obtain ⟨hl,br,z,hs⟩:=hs.nT
 refine nK Tryz.func71 rfl Tryz.ntmps71 Tryz.results71 rfl ?_
 refine gx ?_
 refine lq hs ?_
 clear hs
 intro w hs
 have hs:Sat W0 (blk b 133 (aj (KS d o false br 1) z s)::ax br (some e)::dQ d z s.levels::aR z.m s.mem::aO bB z.sn (aC s.snaps)::ag d D::F) w:=hs
 refine gx ?_
 refine jV rfl ?_
 refine gx ?_
 refine ae (met (gP (K:=KS d o false br 1) (be:=some e) hs) ?_)
 clear hs
 rintro _ w ⟨ve,rfl,hs⟩
 refine ⟨_,rfl,?_⟩
 have hb:vM (KS d o false br 1) (some e)=some e:=rfl
 rw [hb] at hs
 obtain ⟨t,u,rfl⟩:=hs.aW
 refine gx ?_
 refine ft (.inl rfl) hs ?_
 clear hs
 intro w hs
 exact ⟨_,rfl,Sat.fP (z:=z) hl hs.to⟩
theorem Ds {n:Nat} (he:e.2=n) (hW:jB W0) (hE:kY W0) (hs:Sat W0 (aJ x d (au b) o hp::dh b d o false (some e) s::ag d D::F) w) :
 Calls Tryz.prog 58 #[au x,.int .i64 (n:Int)] w fun y w'=>y=.returned (.bool true)∧Sat W0 (aJ x d (au b) o hp::dh b d o true (some e) s::ag d D::F) w':=by
 have e1:FU false (some e) s D [97]=some (.error e,D):=rfl
 have e3:nU false (some e) s D [] [] 1=some (.error e,D):=rfl
 have e4:nU false (some e) s D [] [] 0=some (.error e,D):=rfl
 have hd:vA W0 3 (.slice none 0 0) (dw []):=⟨⟨none,0,rfl⟩,fun r hr=>(by cases hr),fun h=>absurd rfl h⟩
 obtain ⟨A,hA,hAi⟩:=hd.toA
 refine enter Tryz.func58 rfl Tryz.ntmps58 Tryz.results58 rfl ?_
 refine gy ?_
 refine ae (met (oB e1 (hs.eA (.there .here) (.there .here))) ?_)
 clear hs
 rintro _ w ⟨v1,rfl,hs⟩
 refine ⟨_,rfl,?_⟩
 have hs:=hAi hs
 have hs:Sat W0 (aJ x d (au b) o hp::dh b d o false (some e) s::ag d D::A::ax v1 (some e)::F) w:=hs.to
 refine gy ?_
 refine ae (met (jZ (l:=[]) (sync:=false) (x:=.error e) (D':=D) (fun hh=>(by cases hh)) hA (by simp) hW (hs.to (a:=dh b d o false (some e) s::ag d D::A::aJ x d (au b) o hp::ax v1 (some e)::F))) ?_)
 clear hs
 rintro _ w ⟨v2,rfl,hs⟩
 refine ⟨_,rfl,?_⟩
 have hs:Sat W0 (dh b d o false (some e) s::ag d D::ax v2 (some e)::A::aJ x d (au b) o hp::ax v1 (some e)::F) w:=hs
 have hs:=hs.to (a:=aJ x d (au b) o hp::dh b d o false (some e) s::ag d D::ax v1 (some e)::ax v2 (some e)::F)
 refine gy ?_
 refine ae (met (ly e3 (hs.eA (.there .here) (.there .here))) ?_)
 clear hs
 rintro _ w ⟨p3,v3,rfl,hs⟩
 refine ⟨_,rfl,?_⟩
 have hs:Sat W0 (aJ x d (au b) o hp::dh b d o false (some e) s::ag d D::ax v1 (some e)::ax v2 (some e)::ax v3 (some e)::F) w:=hs.drop.to
 refine gy ?_
 refine ae (met (Dr (hs.eA (.there .here) (.there .here))) ?_)
 clear hs
 rintro _ w ⟨v4,rfl,hs⟩
 refine ⟨_,rfl,?_⟩
 have hs:=hs.to (a:=aJ x d (au b) o hp::dh b d o false (some e) s::ag d D::ax v1 (some e)::ax v2 (some e)::ax v3 (some e)::ax v4 (some e)::F)
 refine gy ?_
 refine ae (met (Dq (fun hh=>(by cases hh)) (hs.take (.there .here))) ?_)
 clear hs
 rintro _ w ⟨p5,v5,rfl,hs⟩
 refine ⟨_,rfl,?_⟩
 have hs:Sat W0 (dh b d o false (some e) s::ax v5 (some e)::aJ x d (au b) o hp::ag d D::ax v1 (some e)::ax v2 (some e)::ax v3 (some e)::ax v4 (some e)::F) w:=hs.drop
 have hs:=hs.to (a:=aJ x d (au b) o hp::dh b d o false (some e) s::ag d D::ax v1 (some e)::ax v2 (some e)::ax v3 (some e)::ax v4 (some e)::ax v5 (some e)::F)
 refine gy ?_
 refine ae (met (yR (n:=3) (by omega) (by omega) e4 (by simp [JM]) (hs.eA (.there .here) (.there .here))) ?_)
 clear hs
 rintro _ w ⟨p6,rfl,hs⟩
 refine ⟨_,rfl,?_⟩
 have e6:yQ (GD 3) false (some e) (JM (.error e:Except cy (List (Bs×Bs)))) []=[]:=rfl
 rw [e6] at hs
 have hs:=Sat.ED hs
 obtain ⟨pa,pc,rfl,-⟩:=hs.fH
 have hs:=hs.to (a:=aJ x d (au b) o hp::dh b d o false (some e) s::ag d D::ax v1 (some e)::ax v2 (some e)::ax v3 (some e)::ax v4 (some e)::ax v5 (some e)::F)
 refine gy ?_
 refine ae (met (iK (hs.eA (.there .here) (.there .here))) ?_)
 clear hs
 rintro _ w ⟨v7,rfl,hs⟩
 refine ⟨_,rfl,?_⟩
 have hs:Sat W0 (dh b d o true (some e) s::ag d D::ax v7 (some e)::aJ x d (au b) o hp::ax v1 (some e)::ax v2 (some e)::ax v3 (some e)::ax v4 (some e)::ax v5 (some e)::F) w:=hs.to
 have hs:=hs.to (a:=aJ x d (au b) o hp::dh b d o true (some e) s::ag d D::ax v1 (some e)::ax v2 (some e)::ax v3 (some e)::ax v4 (some e)::ax v5 (some e)::ax v7 (some e)::F)
 refine gy ?_
 refine ae (met (iK (hs.eA (.there .here) (.there .here))) ?_)
 clear hs
 rintro _ w ⟨v8,rfl,hs⟩
 refine ⟨_,rfl,?_⟩
 have hs:Sat W0 (dh b d o true (some e) s::ag d D::ax v8 (some (none,6))::aJ x d (au b) o hp::ax v1 (some e)::ax v2 (some e)::ax v3 (some e)::ax v4 (some e)::ax v5 (some e)::ax v7 (some e)::F) w:=hs.to
 have hs:=hs.to (a:=aJ x d (au b) o hp::dh b d o true (some e) s::ag d D::ax v1 (some e)::ax v2 (some e)::ax v3 (some e)::ax v4 (some e)::ax v5 (some e)::ax v7 (some e)::ax v8 (some (none,6))::F)
 have hq:((gn (some e):Nat):Int)=(n:Int):=by show ((e.2:Nat):Int)=_;omega
 have h6:((gn (some (none,6)):Nat):Int)=6:=rfl
 refine gy ?_
 refine ae (met (bK hE (hs.take (.there (.there (.there .here))))) ?_)
 clear hs
 rintro _ w ⟨rfl,hs⟩
 refine ⟨_,rfl,?_⟩
 have hs:=hs.to (a:=aJ x d (au b) o hp::dh b d o true (some e) s::ag d D::ax v1 (some e)::ax v2 (some e)::ax v3 (some e)::ax v4 (some e)::ax v5 (some e)::ax v7 (some e)::ax v8 (some (none,6))::F)
 refine gy ?_
 refine ae (met (bK hE (hs.take (.there (.there (.there (.there .here)))))) ?_)
 clear hs
 rintro _ w ⟨rfl,hs⟩
 refine ⟨_,rfl,?_⟩
 have hs:=hs.to (a:=aJ x d (au b) o hp::dh b d o true (some e) s::ag d D::ax v1 (some e)::ax v2 (some e)::ax v3 (some e)::ax v4 (some e)::ax v5 (some e)::ax v7 (some e)::ax v8 (some (none,6))::F)
 refine gy ?_
 refine ae (met (bK hE (hs.take (.there (.there (.there (.there (.there .here))))))) ?_)
 clear hs
 rintro _ w ⟨rfl,hs⟩
 refine ⟨_,rfl,?_⟩
 have hs:=hs.to (a:=aJ x d (au b) o hp::dh b d o true (some e) s::ag d D::ax v1 (some e)::ax v2 (some e)::ax v3 (some e)::ax v4 (some e)::ax v5 (some e)::ax v7 (some e)::ax v8 (some (none,6))::F)
 refine gy ?_
 refine ae (met (bK hE (hs.take (.there (.there (.there (.there (.there (.there .here)))))))) ?_)
 clear hs
 rintro _ w ⟨rfl,hs⟩
 refine ⟨_,rfl,?_⟩
 have hs:=hs.to (a:=aJ x d (au b) o hp::dh b d o true (some e) s::ag d D::ax v1 (some e)::ax v2 (some e)::ax v3 (some e)::ax v4 (some e)::ax v5 (some e)::ax v7 (some e)::ax v8 (some (none,6))::F)
 refine gy ?_
 refine ae (met (bK hE (hs.take (.there (.there (.there (.there (.there (.there (.there .here))))))))) ?_)
 clear hs
 rintro _ w ⟨rfl,hs⟩
 refine ⟨_,rfl,?_⟩
 have hs:=hs.to (a:=aJ x d (au b) o hp::dh b d o true (some e) s::ag d D::ax v1 (some e)::ax v2 (some e)::ax v3 (some e)::ax v4 (some e)::ax v5 (some e)::ax v7 (some e)::ax v8 (some (none,6))::F)
 refine gy ?_
 refine ae (met (bK hE (hs.take (.there (.there (.there (.there (.there (.there (.there (.there .here)))))))))) ?_)
 clear hs
 rintro _ w ⟨rfl,hs⟩
 refine ⟨_,rfl,?_⟩
 have hs:=hs.to (a:=aJ x d (au b) o hp::dh b d o true (some e) s::ag d D::ax v1 (some e)::ax v2 (some e)::ax v3 (some e)::ax v4 (some e)::ax v5 (some e)::ax v7 (some e)::ax v8 (some (none,6))::F)
 refine gy ?_
 refine ae (met (bK hE (hs.take (.there (.there (.there (.there (.there (.there (.there (.there (.there .here))))))))))) ?_)
 clear hs
 rintro _ w ⟨rfl,hs⟩
 refine ⟨_,rfl,?_⟩
 have hs:=hs.to (a:=aJ x d (au b) o hp::dh b d o true (some e) s::ag d D::ax v1 (some e)::ax v2 (some e)::ax v3 (some e)::ax v4 (some e)::ax v5 (some e)::ax v7 (some e)::ax v8 (some (none,6))::F)
 refine gy ?_
 exact ak rfl ⟨rfl,hs.to⟩
end
section
open Go.Proofs.YtecibefflhomdaaGreatDoor.Pure (ad bO aQ mZ aV)
attribute [local irreducible] IntKind.wrap
variable {W0 w:World} {F:List ah} {v:Value} {x d hp sf:Nat} {mb:Bool} {H:List (List bO)} {o:ji} {D:ad}
def iz (l:List (Bs×Bs)):List bO:=l.map fun p=>⟨p.1,p.2,false⟩
@[simp] theorem vu (l:List (Bs×Bs)):(iz l).length=l.length:=List.length_map _
theorem Bp:∀ (b a:List (Bs×Bs)),Pure.jS (a++b)→mZ a (iz b)=a++b
 | [],a,_=>by rw [List.append_nil];rfl
 | p::r,a,h=>by
  have h1:=List.pairwise_append.1 h
  have e:Pure.ph a p.1 p.2 false=a++[p]:=by
   unfold Pure.ph
   have e1:a.filter (fun q=>aQ q.1 p.1)=a:=List.filter_eq_self.2 fun q hq=>h1.2.2 q hq p List.mem_cons_self
   have e2:a.filter (fun q=>aQ p.1 q.1)=[]:=List.filter_eq_nil_iff.2 fun q hq=>by
    have h2:=h1.2.2 q hq p List.mem_cons_self
    intro h3
    have h4:=Pure.dj h2 h3
    rw [Pure.aN] at h4;cases h4
   rw [e1,e2];simp
  show mZ (Pure.ph a p.1 p.2 false) (iz r)=_
  rw [e,Bp r (a++[p]) (by rw [List.append_assoc];exact h),List.append_assoc];rfl
theorem JF {l:List (Bs×Bs)} (h:Pure.jS l):aI [iz l]=l:=Bp l [] h
theorem y5 {l:List bO} (hlen:l.length≤1099511627776) (hs:Sat W0 (gI v l::F) w) :
 Calls Tryz.prog 31 #[v] w fun x w'=>∃ u,x=.returned u∧Sat W0 (C0 u l::gI v l::F) w':=by
 obtain ⟨a,c,rfl,-⟩:=hs.oI
 refine enter Tryz.func31 rfl Tryz.ntmps31 Tryz.results31 rfl ?_
 refine gy ?_
 refine aL (α:=Nat×Value) (fun z=>[(0,.slice a l.length c),(3,z.2),(4,.int .i64 (z.1:Int))])
  (fun z w=>z.1≤l.length∧Sat W0 (C0 z.2 (l.take z.1)::gI (.slice a l.length c) l::F) w) (fun z=>l.length-z.1) (0,.slice none 0 0) ⟨rfl,rfl,rfl,trivial⟩ ⟨Nat.zero_le _,Sat.cP (k:=3) (E:=137) hs⟩ ?_
 clear hs
 rintro ⟨i,vo⟩ w ⟨hi,hs⟩
 dsimp only at hi hs ⊢
 obtain ⟨ao,co,rfl,-⟩:=hs.ay
 by_cases hlt:i<l.length
 ·have hlt':(i:Int)<(l.length:Int):=by omega
  obtain ⟨z,x,hg,hd,rfl,hseg,c0,c1,c2,h2⟩:=(hs.take (.there .here)).Ja hlt
  clear hs
  have htk:(l.take i).length=i:=by rw [List.length_take];omega
  have hs:Sat W0 (ob true z.b (.cells z.all.toArray z.E (0,0))::C0 (.slice ao (l.take i).length co) (l.take i)::gI (.slice (some ⟨z.b,z.o,none⟩) l.length c) l::F) w:=h2.to
  clear h2
  refine gy ?_
  refine bH [ob true z.b (.cells z.all.toArray z.E (0,0))] [5,10,15] (.q 0 (.q 1 (.q 2 (.q 3 (.q 4 (.s 5 (.q 6 (.q 7 (.q 8 (.q 9 (.s 10 (.q 11 (.q 12 (.q 13 (.q 14 (.s 15 (.q 16 (.l 17 (.l 18 (.q 19 .nil)))))))))))))))))))) hs (by kernel_rfl) ?_
  clear hs
  intro w hs
  refine gg ?_
  refine mf (j5 x) rfl ?_
  refine gg ?_
  refine gN (j5 x) hs ?_
  clear hs
  intro w b8 hs
  refine gy ?_
  refine cX hs.to ?_
  refine gg ?_
  refine dF hs ?_
  clear hs
  intro v2 w hs
  rw [yO] at hs
  refine gy ?_
  refine cX hs.to ?_
  refine gg ?_
  refine gy ?_
  have htk:l.take (i+1)=l.take i++[x]:=by rw [List.take_add_one,hg];rfl
  refine aB (i+1,v2) ⟨rfl,rfl,rfl,trivial⟩ ⟨hlt,?_⟩ (by show l.length-(i+1)<l.length-i;omega)
  rw [htk]
  exact hs.to
 ·have hie:i=l.length:=by omega
  subst hie
  have hlt':¬ (l.length:Int)<(l.length:Int):=by omega
  rw [List.take_length] at hs ⊢
  refine gy ?_
  exact ak rfl ⟨_,rfl,hs⟩
theorem Bq {l:List bO} {safe:Bool} (hlen:l.length≤1048576) (hH:H.length≤1099511627776) (hp2:(aI H).length≤549755813888) (hs:Sat W0 (gI v l::cJ hp H sf mb::F) w) :
 Calls Tryz.prog 56 #[au hp,v,.bool safe] w fun y w'=>y=.returned (.tuple #[])∧Sat W0 (cJ hp (H++[l]) (if safe=true then H.length+1 else sf) mb::F) w':=by
 refine enter Tryz.func56 rfl Tryz.ntmps56 Tryz.results56 rfl ?_
 refine gy ?_
 refine ae (met (y5 (by omega) hs) ?_)
 clear hs
 rintro _ w ⟨u,rfl,hs⟩
 refine ⟨_,rfl,?_⟩
 have hs:=(hs.to (a:=C0 u l::cJ hp H sf mb::F)).yP
 obtain ⟨ua,uc,rfl,-⟩:=hs.oI
 obtain ⟨vb,vp,us,hu,hs⟩:=(hs.take (.there .here)).gD
 obtain ⟨ba,bc,rfl,-⟩:=(hs.take (.there .here)).ay
 have hs:=hs.to (a:=aE 1 (.slice ba H.length bc) 52 H.length us::blk hp 49 [.slice ba H.length bc,.int .i64 (sf:Int),.bool mb,vp]::j8 us H::bw vp (aI H)::gI (.slice ua l.length uc) l::F)
 refine gy ?_
 refine fw hs ?_
 clear hs
 intro w b8 hs
 refine dF hs ?_
 clear hs
 intro v2 w hs
 have hs:=hs.to (a:=blk hp 49 [.slice ba H.length bc,.int .i64 (sf:Int),.bool mb,vp]::gI (.slice ua l.length uc) l::bw vp (aI H)::aE 1 v2 52 (H.length+1) (us++[.slice ua l.length uc])::j8 us H::F)
 obtain ⟨ca,cc,rfl,-⟩:=(hs.take (.there (.there (.there .here)))).ay
 refine gy ?_
 refine bD hs ?_
 clear hs
 intro w hs
 refine gy ?_
 refine ae (met (ti (l:=l) (hs.eA (.there (.there .here)) (.there .here)) (by omega)) ?_)
 clear hs
 rintro _ w ⟨vp2,rfl,hs⟩
 refine ⟨_,rfl,?_⟩
 rw [rT l (jH H),← jG] at hs
 obtain ⟨da,dc,rfl,-⟩:=hs.fH
 have hs:=hs.to (a:=blk hp 49 [.slice ca (H.length+1) cc,.int .i64 (sf:Int),.bool mb,vp]::aE 1 (.slice ca (H.length+1) cc) 52 (H.length+1) (us++[.slice ua l.length uc])::j8 us H::gI (.slice ua l.length uc) l::bw (.slice da (aI (H++[l])).length dc) (aI (H++[l]))::F)
 refine gy ?_
 refine bD hs ?_
 clear hs
 intro w hs
 have hfin:∀ {sf:Nat} {w:World},Sat W0 (blk hp 49 [.slice ca (H.length+1) cc,.int .i64 (sf:Int),.bool mb,.slice da (aI (H++[l])).length dc]::aE 1 (.slice ca (H.length+1) cc) 52 (H.length+1) (us++[.slice ua l.length uc])::j8 us H::gI (.slice ua l.length uc) l::bw (.slice da (aI (H++[l])).length dc) (aI (H++[l]))::F) w→Sat W0 (cJ hp (H++[l]) sf mb::F) w:=fun {sf w} h=>by
  have h1:(us++[Value.slice ua l.length uc]).length=(H++[l]).length∧∀ u∈us++[Value.slice ua l.length uc],dD u=true:=⟨by simp [hu.1],fun u h2=>by
   rcases List.mem_append.1 h2 with h2|h2
   ·exact hu.2 u h2
   ·rw [List.mem_singleton.1 h2];rfl⟩
  have e:List.zipWith gI (us++[.slice ua l.length uc]) (H++[l])=List.zipWith gI us H++[gI (.slice ua l.length uc) l]:=List.zipWith_append hu.1
  refine Sat.eY (vb:=.slice ca (H.length+1) cc) (vp:=.slice da (aI (H++[l])).length dc) h1 ?_
  rw [List.length_append,List.length_singleton]
  have h3:=xF (h.to (a:=j8 us H::gI (.slice ua l.length uc) l::blk hp 49 [.slice ca (H.length+1) cc,.int .i64 (sf:Int),.bool mb,.slice da (aI (H++[l])).length dc]::aE 1 (.slice ca (H.length+1) cc) 52 (H.length+1) (us++[.slice ua l.length uc])::bw (.slice da (aI (H++[l])).length dc) (aI (H++[l]))::F))
  unfold j8
  rw [e]
  exact h3.to
 cases safe with
 | false=>
  refine gy ?_
  exact gB rfl ⟨rfl,hfin (sf:=sf) hs⟩
 | true=>
  refine gy ?_
  refine bD hs ?_
  clear hs
  intro w hs
  refine gy ?_
  exact gB rfl ⟨rfl,hfin (sf:=H.length+1) hs⟩
end
end Go.Proofs.YtecibefflhomdaaGreatDoor
