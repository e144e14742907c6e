/-
  Part 45: WALKS the statements' world; WALKS the statements' world; WALKS the statements' world.
-/
import Derived.Test.YtecibefflhomdaaGreatDoorV44
import Derived.Laws.StructEq
set_option maxHeartbeats 8000000
set_option maxRecDepth 100000
set_option linter.all false
namespace Go.Proofs.YtecibefflhomdaaGreatDoor
open Go
section
open Go.Proofs.YtecibefflhomdaaGreatDoor.Pure (ae cG aR bE bB jh jf)
attribute [local irreducible] IntKind.wrap
section
variable {ops:Array Oper} {Q:Exit→Act→World→Prop} {S:World→Prop} {K:List Nat} {n:Nat} {ds:Md} {e:Env} {w w':World} {bb:Bool} {t:OT} {rest:List Oper}
variable {op:Op} {ty:TypeId} {pos:String} {af:Array Edge} {d i:Nat} {v u:Value}
attribute [local semireducible] WL WC WQ WT
theorem LB {bo:BinOp} {tt t2:TypeId} {x y:Operand} {vx vy z:Value} (ho:ops[i]?=some ⟨some d,.binOp bo tt x y t2,ty,pos,af,none⟩) (hx:ev e x=some vx) (hy:ev e y=some vy) (hg:∀ w,(eqGuard bo tt x y vx vy).run Tryz.prog w=.ok () w) (hr:∀ w,(Go.binOp bo tt vx vy).run Tryz.prog w=.ok z w) (hd:Nat.blt d n=true)
 (k:WT ops Q S K n ds bb t ((d,z)::e) w):WT ops Q S K n ds bb (.q i t) e w:=
 DQ ho (fun a w' ha=>by simp [execOp,ha.ev hx,ha.ev hy,hg,hr]) hd k
theorem LC (X:Int) (w:World):(Go.binOp .rem 3 (.int .i64 X) (.int .i64 2)).run Tryz.prog w=.ok (.int .i64 (X.tmod 2)) w:=by
 simp [Go.binOp,Op.intDiv]
theorem GM (k:Nat) (a:Bs) (w:World):(Op.equalIn (k+1) 9 (str a) (str a)).run Tryz.prog w=.ok true w:=by
 unfold Op.equalIn
 simp only [Sem.run_bind,cE Tryz.underlying9,Result.andThen_ok]
 have:((⟨a.toArray⟩:ByteArray)==⟨a.toArray⟩)=true:=by rw [DC];simp
 rw [this];rfl
theorem AB {t off:Nat} {xs:Array Value} {v:Value} (hT:lk ks t=some false) (hx:xs[off]?=some v) (w:World):(part t xs off).run Tryz.prog w=.ok v w:=by
 unfold part
 simp [rI hT,hx]
theorem Pk (x:cG) (w:World):(Op.equal 100 (.agg (fQ x).toArray) (.agg (fQ x).toArray)).run Tryz.prog w=.ok true w:=by
 have hf:Tryz.prog.fieldsOf 100=#[{ name := "Key",type:=9,offset:=0,embedded:=false,tag := "",pkgPath := "",byteOffset:=0 },{ name := "Value",type:=9,offset:=1,embedded:=false,tag := "",pkgPath := "",byteOffset:=16 },{ name := "Delete",type:=4,offset:=2,embedded:=false,tag := "",pkgPath := "",byteOffset:=32 }]:=by
  unfold Program.fieldsOf;rw [Tryz.underlying100]
 unfold Op.equal
 refine (run_equalIn_struct w 9999 100 _ _ (by rw [hf];exact Tryz.underlying100) (by kernel_rfl)).trans ?_
 rw [hf]
 have p0:(part 9 (fQ x).toArray 0).run Tryz.prog w=.ok (str x.key) w:=AB rfl rfl w
 have p1:(part 9 (fQ x).toArray 1).run Tryz.prog w=.ok (str x.val) w:=AB rfl rfl w
 have p2:(part 4 (fQ x).toArray 2).run Tryz.prog w=.ok (.bool x.del) w:=AB rfl rfl w
 have q0:(Op.equalIn 9999 9 (str x.key) (str x.key)).run Tryz.prog w=.ok true w:=GM 9998 x.key w
 have q1:(Op.equalIn 9999 9 (str x.val) (str x.val)).run Tryz.prog w=.ok true w:=GM 9998 x.val w
 have q2:(Op.equalIn 9999 4 (.bool x.del) (.bool x.del)).run Tryz.prog w=.ok true w:=by
  have:=CN 9998 x.del x.del w
  rw [beq_self_eq_true] at this;exact this
 have s0:("Key" : String) ≠ "_" := by decide
 have s1:("Value" : String) ≠ "_" := by decide
 have s2:("Delete" : String) ≠ "_" := by decide
 simp only [Op.eqFields,Sem.run_bind,p0,p1,p2,q0,q1,q2,s0,s1,s2,ne_eq,not_false_eq_true,if_true,Result.andThen_ok,Bool.not_true,Bool.false_eq_true,if_false]
 rfl
theorem Nn (x:cG) (w:World):(Go.binOp .neq 100 (.agg (fQ x).toArray) (.agg (fQ x).toArray)).run Tryz.prog w=.ok (.bool false) w:=by
 simp [Go.binOp,Pk]
theorem IG (x:cG) (a b:Operand) (w:World):(eqGuard .neq 100 a b (.agg (fQ x).toArray) (.agg (fQ x).toArray)).run Tryz.prog w=.ok () w:=by
 have:Tryz.prog.eqGuardType Tryz.prog.depth 100=false:=by kernel_rfl
 simp [eqGuard,this]
end
variable {W0 w:World} {F l:List ax} {p k:Nat} {X:WS} {E B N:Nat} {v:Value} {rows:List (List Value)}
def Q3 (b o:Nat) (cs:List Value):ax:=fun h=>∃ c E fr,h b=some (true,.cells c E fr)∧∀ j u,cs[j]?=some u→c[o+j]?=some u
theorem Sat.Pl {b o j:Nat} {cs:List Value} {u:Value} (h:Sat W0 (Q3 b o cs::l) w) (hu:cs[j]?=some u):w.cell? ⟨b,o+j,none⟩=some u:=by
 obtain ⟨_,_,_,_,hp,h1,_,k⟩:=h
 obtain ⟨x1,x2,_,l1,_,⟨c,E,fr,hb,hc⟩,_⟩:=k
 have:=h1 _ _ (l1 _ _ hb)
 unfold World.cell?
 rw [this]
 exact hc j u hu
theorem EV.chunk (h:EV W0 k v rows) (hne:rows≠[]) (hk:0<k):∃ b o c,v=.slice (some ⟨b,o,none⟩) rows.length c∧∀ {l:List ax} {w:World},Sat W0 l w→Sat W0 (Q3 b o rows.flatten::l) w:=by
 obtain ⟨b,o,c,h1,h2⟩:=h.2.2 hne
 refine ⟨b,o,c,h1,fun {l w} hs=>?_⟩
 have hlen:0<rows.flatten.length:=by
  rw [ic h.2.1]
  have:0<rows.length:=by cases rows with|nil=>exact absurd rfl hne|cons _ _=>simp
  exact Nat.mul_pos this hk
 have h3:=h2 0 _ (List.getElem?_eq_getElem hlen)
 unfold World.cell? at h3
 cases hb:W0.heap[b]? with
 | none=>rw [show W0.heap[(⟨b,o+0,none⟩:Addr).block]?=_ from hb] at h3;cases h3
 | some ob0=>
  rw [show W0.heap[(⟨b,o+0,none⟩:Addr).block]?=_ from hb] at h3
  cases ob0 with
  | cells cc EE fr=>
   have h4:=hs.old hb
   refine h4.head fun hp k=>⟨cc,EE,fr,k,fun j u hu=>?_⟩
   have h5:=h2 j u hu
   unfold World.cell? at h5
   rw [show W0.heap[(⟨b,o+j,none⟩:Addr).block]?=_ from hb] at h5
   exact h5
  | _=>cases h3
theorem Pm {b o c tx e' m:Nat} {news:List Value} (hk:lk du tx=some e') (hl:news.length=m*k) (h1:∀ u∈news,df u=true):tL k tx (.slice (some ⟨b,o,none⟩) m c) m news (Q3 b o news::l):=fun _ w h=>
 Src.ofSlice w (bQ hk) _ _ _ _ hl (fun j u hu=>by rw [add_eq];exact h.Pl hu) (fun u hu=>zh (h1 u hu))
theorem Pn {tx e':Nat} (hk:lk du tx=some e') (h:EV W0 k v rows) (hk0:0<k) (h1:∀ u∈rows.flatten,df u=true) (hs:Sat W0 l w):∃ A:ax,Sat W0 (A::l) w∧∀ r,tL k tx v rows.length rows.flatten (A::r):=by
 by_cases hne:rows=[]
 ·subst hne
  obtain ⟨a,c,rfl⟩:=h.1
  refine ⟨fun _=>True,hs.Ly,fun r=>?_⟩
  cases a with
  | none=>exact Oe hk
  | some ad=>exact fun _ w _=>Src.ofSlice w (bQ hk) _ _ _ _ (by simp) (fun j u hu=>by simp at hu) (fun u hu=>by simp at hu)
 ·obtain ⟨b,o,c,rfl,h2⟩:=h.chunk hne hk0
  exact ⟨_,h2 hs,fun r=>Pm hk (ic h.2.1) h1⟩
theorem CR (l:List cG):∀ u∈(dR l).flatten,df u=true:=fun u hu=>by
 obtain ⟨r,hr,hu⟩:=List.mem_flatten.1 hu
 obtain ⟨c,_,rfl⟩:=List.mem_map.1 hr
 simp [fQ] at hu
 rcases hu with rfl|rfl|rfl<;>rfl
theorem Fl (l:List cG):∀ r∈dR l,r.length=3:=fun r hr=>by
 obtain ⟨c,_,rfl⟩:=List.mem_map.1 hr
 rfl
def CS:List Value:=[str [109,105,110,101],str [109,105,110,101],.bool false]
def eK (l:List cG) (i:Nat):List (List Value):=List.replicate i CS++(dR l).drop i
theorem nB (l:List cG) (i:Nat):∀ r∈eK l i,r.length=3:=fun r hr=>by
 rcases List.mem_append.1 hr with h|h
 ·rw [(List.mem_replicate.1 h).2];rfl
 ·exact Fl l r (List.mem_of_mem_drop h)
theorem nC {l:List cG} {i:Nat} (h:i≤l.length):(eK l i).length=l.length:=by simp [eK];omega
theorem CU {l:List cG} {i:Nat} {c:cG} (h:l[i]?=some c):(eK l i)[i]?=some (fQ c):=by
 unfold eK
 rw [List.getElem?_append_right (by simp),List.length_replicate,Nat.sub_self,List.getElem?_drop,Nat.add_zero]
 exact mD h
theorem AD {l:List cG} {i:Nat} (h:i<l.length):(eK l i).set i CS=eK l (i+1):=by
 unfold eK
 rw [List.set_append_right _ _ (by simp),List.length_replicate,Nat.sub_self]
 have hd:(dR l).drop i=(dR l)[i]'(by simpa using h)::(dR l).drop (i+1):=List.drop_eq_getElem_cons (by simpa using h)
 rw [hd,List.set_cons_zero,List.replicate_succ']
 simp
theorem Fo (l:List cG):eK l 0=dR l:=by simp [eK]
theorem fS.Qv {cs r:List Value}:∀ {vs:List Value} {o:Nat},fS cs o vs→fS (cs++r) o vs
 | [],_,_=>trivial
 | _::_,_,h=>⟨by rw [List.getElem?_append_left (List.getElem?_eq_some_iff.1 h.1).1];exact h.1,fS.Qv h.2⟩
theorem Fp {A r x:List Value} {o:Nat} (h:o+x.length≤A.length):dk (A++r) o x=dk A o x++r:=by
 unfold dk
 rw [List.take_append_of_le_length (by omega),List.drop_append_of_le_length (by omega)]
 simp
theorem IH (a b:Operand) (x y:Value) (w:World):(eqGuard .rem 3 a b x y).run Tryz.prog w=.ok () w:=by simp [eqGuard]
theorem Fq {o:l8} (hk:o.kind=1) (hW:jF W0) (hE:iD W0) (hl:EV W0 3 o.lv (dR o.l)) (h:gU X E B N) (hEE:E+o.l.length≤1048576) (hB:B<16777216) (hN:N+8388608≤4611686018427387904) (hs:Sat W0 (wL p X F) w) :
 Calls Tryz.prog 38 #[ay p,.agg (nQ o).toArray] w (iH W0 p F (E+o.l.length) (B+1) (N+8388608)):=by
 obtain ⟨kk,a,b,ss,tt,lv,l⟩:=o
 dsimp only at hk hl hEE
 subst hk
 obtain ⟨al,cl,rfl⟩:=hl.wF
 have hs:Sat W0 (blk p 91 (bA X)::fy X.b X.d X.o X.r.closed none X.s::aj X.d X.D::eS X.rb X.r::gD X.det::aG X.vo X.out::aG X.vw X.out::F) w:=hs
 refine enter Tryz.func38 rfl Tryz.ntmps38 Tryz.results38 rfl ?_
 refine gy ?_
 refine bR (z:=[.int .i64 1,.int .i64 a,.int .i64 b,str ss,str tt,.slice al l.length cl]) hs ?_
 clear hs
 intro w b3 hs
 refine gy ?_
 have hs:=Sat.cH (k:=3) (E:=100) hs
 obtain ⟨A,hs2,hsrc⟩:=Pn (tx:=73) rfl hl (by decide) (CR l) hs
 clear hs
 rw [cY] at hsrc
 refine mf (x:=.tmp 40) (y:=.tmp 42) (len:=0) (m:=l.length) (cs:=[]) (z:=[.string ⟨#[]⟩,.string ⟨#[]⟩,.bool false]) hs2 rfl rfl (.there .here) (hsrc _) rfl rfl rfl rfl rfl (by simp only [maxLen];omega) (by omega) rfl ?_
 clear hs2 hsrc
 intro v5 w hs
 rw [Nat.zero_add,List.nil_append] at hs
 have hs:Sat W0 (aL 3 v5 100 (dR l).length (dR l).flatten::blk b3 84 [.int .i64 1,.int .i64 a,.int .i64 b,str ss,str tt,.slice al l.length cl]::blk p 91 (bA X)::fy X.b X.d X.o X.r.closed none X.s::aj X.d X.D::eS X.rb X.r::gD X.det::aG X.vo X.out::aG X.vw X.out::F) w:=by
  rw [cY];exact hs.to
 have hrd:=Sat.Gm (Fl l) hs
 obtain ⟨x,s',D',D'',er,e1,e2,e3,hok⟩:=Lv h l (decide (a.tmod 2≠0)) hEE hB hN
 refine gy ?_
 refine bu [blk b3 84 [.int .i64 1,.int .i64 a,.int .i64 b,str ss,str tt,.slice al l.length cl],blk p 91 (bA X)] [3,6] (.q 0 (.q 1 (.q 2 (.s 3 (.q 4 (.q 5 (.s 6 (.q 7 (.q 8 (.l 9 (.q 10 .nil))))))))))) hs (by kernel_rfl) ?_
 clear hs
 intro w hs
 refine gj ?_
 refine LB (z:=.int .i64 (a.tmod 2)) rfl rfl rfl (IH _ _ _ _) (LC a) rfl ?_
 refine gj ?_
 refine ag (met (tC (x:=x) e1 hrd (by omega) hW (hs.FE (.there (.there (.there .here))) (.there (.there (.there .here))) .here)) ?_)
 clear hs
 rintro _ w ⟨ve,rfl,hs⟩
 refine ⟨_,rfl,?_⟩
 rw [e3] at hs
 refine gy ?_
 refine cD hs.to ?_
 refine gj ?_
 refine gy ?_
 refine ag (met (tu hl (by omega) hs) ?_)
 clear hs
 rintro _ w ⟨u,rfl,hs⟩
 refine ⟨_,rfl,?_⟩
 have hs:=hs.GC
 refine gy ?_
 refine ag (met (tz (by have:=h.plen;omega) (hs.fg (.there (.there (.there (.there (.there (.there (.there .here))))))) .here)) ?_)
 clear hs
 rintro _ w ⟨rfl,hs⟩
 refine ⟨_,rfl,?_⟩
 refine gy ?_
 refine ag (met (eA hE (hs.take (.there (.there (.there .here))))) ?_)
 clear hs
 rintro _ w ⟨rfl,hs⟩
 refine ⟨_,rfl,?_⟩
 rw [e2]
 obtain ⟨a5,c5,rfl,-⟩:=(hs.take (.there (.there (.there (.there .here))))).aC
 rw [cY] at hs ⊢
 have hs:Sat W0 (aL 3 (.slice a5 l.length c5) 100 l.length (eK l 0).flatten::blk b3 84 [.int .i64 1,.int .i64 a,.int .i64 b,str ss,str tt,.slice al l.length cl]::blk p 91 (bA X)::fy X.b X.d X.o X.r.closed none s'::aj X.d D''::eS X.rb (ly X.r l)::gD X.det::aG X.vo X.out::aG X.vw X.out::F) w:=by
  rw [Fo];exact hs.to
 refine gy ?_
 refine aJ (α:=Nat) (fun i=>[(3,ay b3),(5,.slice a5 l.length c5),(8,.int .i64 (lM X.r l:Int)),(9,.int .i64 (lM X.r l:Int)),(10,.int .i64 (i:Int))])
  (fun i w=>i≤l.length∧Sat W0 (aL 3 (.slice a5 l.length c5) 100 l.length (eK l i).flatten::blk b3 84 [.int .i64 1,.int .i64 a,.int .i64 b,str ss,str tt,.slice al l.length cl]::blk p 91 (bA X)::fy X.b X.d X.o X.r.closed none s'::aj X.d D''::eS X.rb (ly X.r l)::gD X.det::aG X.vo X.out::aG X.vw X.out::F) w) (fun i=>l.length-i) 0 ⟨rfl,rfl,rfl,rfl,rfl,trivial⟩ ⟨Nat.zero_le _,hs⟩ ?_
 clear hs
 rintro i w ⟨hi,hs⟩
 by_cases hlt:i<l.length
 ·have hlt':(i:Int)<(l.length:Int):=by omega
  obtain ⟨bw,ow,c,hg,hd,rfl,hcW,-⟩:=hl.QL hlt
  obtain ⟨b5,cap,rest,hv,q1,q2,q3,h3⟩:=hs.dw (by omega)
  clear hs
  obtain ⟨rfl,_,rfl⟩:=Value.slice.inj hv
  rename_i hs
  have hfl:(eK l i).flatten.length=l.length*3:=by rw [ic (nB l i),nC hi]
  have hseg:fS ((eK l i).flatten++rest) (0+i*3) (fQ c):=by
   rw [Nat.zero_add];exact (ie (nB l i) (CU hg)).Qv
  have hs:=h3
  clear h3
  refine gy ?_
  refine bu [blk b5 100 ((eK l i).flatten++rest),blk b3 84 [.int .i64 1,.int .i64 a,.int .i64 b,str ss,str tt,.slice (some ⟨bw,ow,none⟩) l.length cl]] [3,5,8] (.q 0 (.q 1 (.q 2 (.s 3 (.q 4 (.s 5 (.q 6 (.q 7 (.s 8 (.q 9 .nil)))))))))) hs (by kernel_rfl) ?_
  clear hs
  intro w hs
  refine gj ?_
  refine J6 (fQ c) rfl rfl rfl rfl .here hseg rfl ?_
  refine gj ?_
  refine Gp (fQ c) rfl rfl rfl rfl hcW rfl ?_
  refine LB (z:=.bool false) rfl rfl rfl (IG c _ _) (Nn c) rfl ?_
  refine gj ?_
  refine gy ?_
  refine bz CS ?_
  refine gy ?_
  have e7:dk ((eK l i).flatten++rest) (0+i*3) CS=(eK l (i+1)).flatten++rest:=by
   rw [Nat.zero_add,Fp (by rw [hfl];show i*3+3≤_;omega),oF (k:=3) rfl _ _ (nB l i) (by rw [nC hi];exact hlt),AD hlt]
  refine uI (o:=0+i*3) hs rfl rfl rfl rfl (by rw [e7];exact gV.here) (by rw [List.length_append,hfl];show 0+i*3+3≤_;omega) ?_
  clear hs
  intro w hs
  have hs:=Sat.dg (k:=3) (len:=l.length) hs q1 q2 q3 (by rw [ic (nB l (i+1)),nC hlt]) (fun y hy=>by
   obtain ⟨r,hr,hy⟩:=List.mem_flatten.1 hy
   rcases List.mem_append.1 hr with h4|h4
   ·rw [(List.mem_replicate.1 h4).2] at hy
    simp [CS] at hy
    rcases hy with rfl|rfl<;>rfl
   ·exact CR l y (List.mem_flatten.2 ⟨r,List.mem_of_mem_drop h4,hy⟩))
  refine gy ?_
  exact az (i+1) ⟨rfl,rfl,rfl,rfl,rfl,trivial⟩ ⟨hlt,hs⟩ (by show l.length-(i+1)<l.length-i;omega)
 ·have hie:i=l.length:=by omega
  subst hie
  have hlt':¬ (l.length:Int)<(l.length:Int):=by omega
  refine gy ?_
  refine ag (met (eJ hs) ?_)
  clear hs
  rintro _ w ⟨rfl,hs⟩
  refine ⟨_,rfl,?_⟩
  refine gy ?_
  exact ah rfl ⟨_,hok,rfl,Sat.Az _ (yW _ _) hs.to⟩
end
section
open Go.Proofs.YtecibefflhomdaaGreatDoor.Pure (ae cG aR bE bB jh jf rU)
attribute [local irreducible] IntKind.wrap
variable {W0 w:World} {F:List ax} {p:Nat} {X:WS} {E B N:Nat} {v:Value}
structure II (W0:World) (o:l8):Prop where
 a1:-9223372036854775808≤o.a
 a2:o.a≤9223372036854775807
 b1:-9223372036854775808≤o.b
 b2:o.b≤9223372036854775807
 rd:EV W0 3 o.lv (dR o.l)
 cap:∀ a n c,o.lv=.slice a n c→n≤c
theorem Sat.GN {x:Except cx (List (Bs×Bs))} (h:Sat W0 (pD v x::F) w):Sat W0 (aG v (xh x)::F) w:=by
 cases x with
 | ok l=>exact Sat.uv h
 | error e=>
  have hp:=h.fT (φ:=v=.slice none 0 0) fun _ k=>k
  subst hp
  exact Sat.j7 h.drop (.inl rfl) (fun _=>rfl)
theorem rz (l:List (Bs×Bs)) (lo hi:Bs) (limit:Int):(bB l lo hi limit).length≤l.length:=by
 unfold bB rU
 have:=List.length_filter_le (fun p:Bs×Bs=>jh lo p.1&&jf hi p.1) l
 split
 ·rw [List.length_take];omega
 ·exact this
theorem ph (h:gU X E B N) (lo hi:Bs) (limit:Int):(xh (kr X.r lo hi limit)).length≤E:=by
 unfold kr
 split
 ·exact Nat.zero_le _
 ·exact Nat.le_trans (rz _ _ _ _) h.plen
theorem CV (h:gU X E B N) (n:Int) (lo hi:Bs) (limit:Int):(xh (nz X.r n lo hi limit)).length≤E:=by
 unfold nz
 cases hr:wY X.r n with
 | error e=>exact Nat.zero_le _
 | ok ps=>exact Nat.le_trans (rz _ _ _ _) (Ay h hr)
theorem yX {o:l8} {D':ae} (hk:o.kind=2) (hE:iD W0) (h:gU X E B N) (hEE:E≤1048576) (e1:HG X.r.closed none X.s X.D o.s=some (xn X.r o.s,D')) (hs:Sat W0 (wL p X F) w) :
 Calls Tryz.prog 69 #[ay p,.agg (nQ o).toArray] w fun x w'=>x=.returned (.bool true)∧Sat W0 (wL p { X with D:=D' } F) w':=by
 obtain ⟨kk,a,b,ss,tt,lv,l⟩:=o
 dsimp only at hk e1
 subst hk
 refine enter Tryz.func69 rfl Tryz.ntmps69 Tryz.results69 rfl ?_
 refine gy ?_
 refine bR (z:=[.int .i64 2,.int .i64 a,.int .i64 b,str ss,str tt,lv]) hs ?_
 clear hs
 intro w b3 hs
 refine gy ?_
 refine bu [blk b3 84 [.int .i64 2,.int .i64 a,.int .i64 b,str ss,str tt,lv],blk p 91 (bA X)] [3,5] (.q 0 (.q 1 (.q 2 (.s 3 (.q 4 (.s 5 (.l 6 (.q 7 (.q 8 (.q 9 (.q 10 (.q 11 (.q 12 (.q 13 .nil)))))))))))))) hs (by kernel_rfl) ?_
 clear hs
 intro w hs
 refine gj ?_
 refine ag (met (HH e1 (hs.fg (.there (.there .here)) (.there (.there .here)))) ?_)
 clear hs
 rintro _ w ⟨ve,rfl,hs⟩
 refine ⟨_,rfl,?_⟩
 refine gy ?_
 refine cD hs.to ?_
 refine gj ?_
 refine gy ?_
 refine bu [blk b3 84 [.int .i64 2,.int .i64 a,.int .i64 b,str ss,str tt,lv],blk p 91 (bA X)] [3,5] (.q 0 (.q 1 (.q 2 (.s 3 (.q 4 (.s 5 (.l 6 (.q 7 (.q 8 (.q 9 (.q 10 (.q 11 (.q 12 (.q 13 .nil)))))))))))))) hs (by kernel_rfl) ?_
 clear hs
 intro w hs
 refine gj ?_
 refine ag (met (Io (by have:=h.plen;omega) (hs.take (.there (.there (.there (.there (.there .here))))))) ?_)
 clear hs
 rintro _ w ⟨rfl,hs⟩
 refine ⟨_,rfl,?_⟩
 refine gy ?_
 refine cD hs.to ?_
 refine gj ?_
 refine gy ?_
 refine ag (met (eA hE (hs.take (.there (.there (.there .here))))) ?_)
 clear hs
 rintro _ w ⟨rfl,hs⟩
 refine ⟨_,rfl,?_⟩
 have hv:MR (xn X.r ss)=MR (xn X.r ss):=rfl
 refine gy ?_
 refine Lp true rfl rfl (by simp) rfl ?_
 refine gy ?_
 refine ag (met (eJ hs) ?_)
 clear hs
 rintro _ w ⟨rfl,hs⟩
 refine ⟨_,rfl,?_⟩
 refine gy ?_
 exact ah rfl ⟨rfl,hs.to⟩
theorem LD {o:l8} (hk:o.kind=2) (hE:iD W0) (h:gU X E B N) (hEE:E≤1048576) (hs:Sat W0 (wL p X F) w) :
 Calls Tryz.prog 69 #[ay p,.agg (nQ o).toArray] w (iH W0 p F E B N):=by
 obtain ⟨D',e1,hok⟩:=Qt h hEE o.s
 exact (yX hk hE h hEE e1 hs).mono fun x w' hx=>⟨_,hok,hx.1,hx.2⟩
theorem tF {o:l8} {D':ae} (hk:o.kind=8) (hE:iD W0) (h:gU X E B N) (hEE:E≤1048576) (e1:oH X.r.closed none X.s X.D o.a o.s=some (l6 X.r o.a o.s,D')) (hs:Sat W0 (wL p X F) w) :
 Calls Tryz.prog 69 #[ay p,.agg (nQ o).toArray] w fun x w'=>x=.returned (.bool true)∧Sat W0 (wL p { X with D:=D' } F) w':=by
 obtain ⟨kk,a,b,ss,tt,lv,l⟩:=o
 dsimp only at hk e1
 subst hk
 refine enter Tryz.func69 rfl Tryz.ntmps69 Tryz.results69 rfl ?_
 refine gy ?_
 refine bR (z:=[.int .i64 8,.int .i64 a,.int .i64 b,str ss,str tt,lv]) hs ?_
 clear hs
 intro w b3 hs
 refine gy ?_
 refine bu [blk b3 84 [.int .i64 8,.int .i64 a,.int .i64 b,str ss,str tt,lv],blk p 91 (bA X)] [3,5,7] (.q 0 (.q 1 (.q 2 (.s 3 (.q 4 (.s 5 (.q 6 (.s 7 (.l 8 (.q 9 (.q 10 (.q 11 (.q 12 (.q 13 (.q 14 (.q 15 .nil)))))))))))))))) hs (by kernel_rfl) ?_
 clear hs
 intro w hs
 refine gj ?_
 refine ag (met (CE e1 (hs.fg (.there (.there .here)) (.there (.there .here)))) ?_)
 clear hs
 rintro _ w ⟨ve,rfl,hs⟩
 refine ⟨_,rfl,?_⟩
 refine gy ?_
 refine cD hs.to ?_
 refine gj ?_
 refine gy ?_
 refine bu [blk b3 84 [.int .i64 8,.int .i64 a,.int .i64 b,str ss,str tt,lv],blk p 91 (bA X)] [3,5,7] (.q 0 (.q 1 (.q 2 (.s 3 (.q 4 (.s 5 (.q 6 (.s 7 (.l 8 (.q 9 (.q 10 (.q 11 (.q 12 (.q 13 (.q 14 (.q 15 .nil)))))))))))))))) hs (by kernel_rfl) ?_
 clear hs
 intro w hs
 refine gj ?_
 refine ag (met (CC (fun ps hp=>by have:=Ay h hp;omega) (hs.take (.there (.there (.there (.there (.there .here))))))) ?_)
 clear hs
 rintro _ w ⟨rfl,hs⟩
 refine ⟨_,rfl,?_⟩
 refine gy ?_
 refine cD hs.to ?_
 refine gj ?_
 refine gy ?_
 refine ag (met (eA hE (hs.take (.there (.there (.there .here))))) ?_)
 clear hs
 rintro _ w ⟨rfl,hs⟩
 refine ⟨_,rfl,?_⟩
 have hv:MR (l6 X.r a ss)=MR (l6 X.r a ss):=rfl
 refine gy ?_
 refine Lp true rfl rfl (by simp) rfl ?_
 refine gy ?_
 refine ag (met (eJ hs) ?_)
 clear hs
 rintro _ w ⟨rfl,hs⟩
 refine ⟨_,rfl,?_⟩
 refine gy ?_
 exact ah rfl ⟨rfl,hs.to⟩
theorem Fs {o:l8} (hk:o.kind=8) (hE:iD W0) (h:gU X E B N) (hEE:E≤1048576) (hs:Sat W0 (wL p X F) w) :
 Calls Tryz.prog 69 #[ay p,.agg (nQ o).toArray] w (iH W0 p F E B N):=by
 obtain ⟨D',e1,hok⟩:=Lu h hEE o.a o.s
 exact (tF hk hE h hEE e1 hs).mono fun x w' hx=>⟨_,hok,hx.1,hx.2⟩
theorem IJ {o:l8} (hk:o.kind=3) (hE:iD W0) (h:gU X E B N) (hEE:E≤1048576) (hs:Sat W0 (wL p X F) w) :
 Calls Tryz.prog 69 #[ay p,.agg (nQ o).toArray] w (iH W0 p F E B N):=by
 obtain ⟨kk,a,b,ss,tt,lv,l⟩:=o
 dsimp only at hk
 subst hk
 obtain ⟨D',e1,hok⟩:=Lt h hEE ss tt a
 refine enter Tryz.func69 rfl Tryz.ntmps69 Tryz.results69 rfl ?_
 refine gy ?_
 refine bR (z:=[.int .i64 3,.int .i64 a,.int .i64 b,str ss,str tt,lv]) hs ?_
 clear hs
 intro w b3 hs
 refine gy ?_
 refine bu [blk b3 84 [.int .i64 3,.int .i64 a,.int .i64 b,str ss,str tt,lv],blk p 91 (bA X)] [3,5,7,9] (.q 0 (.q 1 (.q 2 (.s 3 (.q 4 (.s 5 (.q 6 (.s 7 (.q 8 (.s 9 (.l 10 (.q 11 (.q 12 (.q 13 (.q 14 (.q 15 .nil)))))))))))))))) hs (by kernel_rfl) ?_
 clear hs
 intro w hs
 refine gj ?_
 refine ag (met (ti e1 (hs.fg (.there (.there .here)) (.there (.there .here)))) ?_)
 clear hs
 rintro _ w ⟨pv,ve,rfl,hs⟩
 refine ⟨_,rfl,?_⟩
 have hs:=hs.GN
 refine gy ?_
 refine cD hs.to ?_
 refine gj ?_
 refine gy ?_
 refine bu [blk b3 84 [.int .i64 3,.int .i64 a,.int .i64 b,str ss,str tt,lv],blk p 91 (bA X)] [3,5,7,9] (.q 0 (.q 1 (.q 2 (.s 3 (.q 4 (.s 5 (.q 6 (.s 7 (.q 8 (.s 9 (.l 10 (.q 11 (.q 12 (.q 13 (.q 14 (.q 15 .nil)))))))))))))))) hs (by kernel_rfl) ?_
 clear hs
 intro w hs
 refine gj ?_
 refine ag (met (ny (by have:=h.plen;omega) (hs.take (.there (.there (.there (.there (.there (.there .here)))))))) ?_)
 clear hs
 rintro _ w ⟨u,rfl,hs⟩
 refine ⟨_,rfl,?_⟩
 refine gy ?_
 refine cD hs.to ?_
 refine gj ?_
 refine gy ?_
 refine ag (met (eA hE (hs.take (.there (.there (.there (.there (.there .here))))))) ?_)
 clear hs
 rintro _ w ⟨rfl,hs⟩
 refine ⟨_,rfl,?_⟩
 have hlen:=ph h ss tt a
 refine gy ?_
 refine ag (met (mJ (by omega) (hs.fg (.there (.there (.there .here))) (.there .here))) ?_)
 clear hs
 rintro _ w ⟨rfl,hs⟩
 refine ⟨_,rfl,?_⟩
 rw [decide_eq_true rfl]
 obtain ⟨a1,c1,rfl,-⟩:=hs.iU
 obtain ⟨a2,c2,rfl,-⟩:=(hs.take (.there .here)).iU
 refine gy ?_
 refine bK hs ?_
 clear hs
 intro w hs
 refine gy ?_
 refine bK hs ?_
 clear hs
 intro w hs
 refine gy ?_
 refine ag (met (eJ hs) ?_)
 clear hs
 rintro _ w ⟨rfl,hs⟩
 refine ⟨_,rfl,?_⟩
 refine gy ?_
 refine ah rfl ⟨{ X with D:=D',vo:=.slice a1 (xh (kr X.r ss tt a)).length c1,vw:=.slice a2 (xh (kr X.r ss tt a)).length c2,out:=xh (kr X.r ss tt a) },⟨hok.opt,hok.att,hok.dtd,hok.plen,hok.slen,hok.sn,hlen,hok.ssn⟩,rfl,hs.to⟩
theorem CW {o:l8} (hk:o.kind=9) (hE:iD W0) (h:gU X E B N) (hEE:E≤1048576) (hs:Sat W0 (wL p X F) w) :
 Calls Tryz.prog 69 #[ay p,.agg (nQ o).toArray] w (iH W0 p F E B N):=by
 obtain ⟨kk,a,b,ss,tt,lv,l⟩:=o
 dsimp only at hk
 subst hk
 obtain ⟨D',e1,hok⟩:=Ni h hEE a ss tt b
 refine enter Tryz.func69 rfl Tryz.ntmps69 Tryz.results69 rfl ?_
 refine gy ?_
 refine bR (z:=[.int .i64 9,.int .i64 a,.int .i64 b,str ss,str tt,lv]) hs ?_
 clear hs
 intro w b3 hs
 refine gy ?_
 refine bu [blk b3 84 [.int .i64 9,.int .i64 a,.int .i64 b,str ss,str tt,lv],blk p 91 (bA X)] [3,5,7,9,11] (.q 0 (.q 1 (.q 2 (.s 3 (.q 4 (.s 5 (.q 6 (.s 7 (.q 8 (.s 9 (.q 10 (.s 11 (.l 12 (.q 13 (.q 14 (.q 15 (.q 16 (.q 17 .nil)))))))))))))))))) hs (by kernel_rfl) ?_
 clear hs
 intro w hs
 refine gj ?_
 refine ag (met (Ar e1 (hs.fg (.there (.there .here)) (.there (.there .here)))) ?_)
 clear hs
 rintro _ w ⟨pv,ve,rfl,hs⟩
 refine ⟨_,rfl,?_⟩
 have hs:=hs.GN
 refine gy ?_
 refine cD hs.to ?_
 refine gj ?_
 refine gy ?_
 refine bu [blk b3 84 [.int .i64 9,.int .i64 a,.int .i64 b,str ss,str tt,lv],blk p 91 (bA X)] [3,5,7,9,11] (.q 0 (.q 1 (.q 2 (.s 3 (.q 4 (.s 5 (.q 6 (.s 7 (.q 8 (.s 9 (.q 10 (.s 11 (.l 12 (.q 13 (.q 14 (.q 15 (.q 16 (.q 17 .nil)))))))))))))))))) hs (by kernel_rfl) ?_
 clear hs
 intro w hs
 refine gj ?_
 refine ag (met (Ao (fun ps hp=>by have:=Ay h hp;omega) (hs.take (.there (.there (.there (.there (.there (.there .here)))))))) ?_)
 clear hs
 rintro _ w ⟨u,rfl,hs⟩
 refine ⟨_,rfl,?_⟩
 refine gy ?_
 refine cD hs.to ?_
 refine gj ?_
 refine gy ?_
 refine ag (met (eA hE (hs.take (.there (.there (.there (.there (.there .here))))))) ?_)
 clear hs
 rintro _ w ⟨rfl,hs⟩
 refine ⟨_,rfl,?_⟩
 have hlen:=CV h a ss tt b
 refine gy ?_
 refine ag (met (mJ (by omega) (hs.fg (.there (.there (.there .here))) (.there .here))) ?_)
 clear hs
 rintro _ w ⟨rfl,hs⟩
 refine ⟨_,rfl,?_⟩
 rw [decide_eq_true rfl]
 refine gy ?_
 refine ag (met (eJ hs) ?_)
 clear hs
 rintro _ w ⟨rfl,hs⟩
 refine ⟨_,rfl,?_⟩
 refine gy ?_
 exact ah rfl ⟨_,hok,rfl,hs.to⟩
end
section
open Go.Proofs.YtecibefflhomdaaGreatDoor.Pure (ae cG aR bE bB jh jf rU)
attribute [local irreducible] IntKind.wrap
variable {W0 w:World} {F:List ax} {p:Nat} {X:WS} {E B N:Nat} {v:Value}
theorem Ft (r:mM) (lo hi:Bs) {a:Int} (ha:0<a):rr (xr a) r.closed none (xh (kr r lo hi 0)) []=xh (kr r lo hi a):=by
 unfold kr rr eW
 cases r.closed with
 | true=>rfl
 | false=>
  simp only [Bool.false_eq_true,if_false,if_true]
  obtain ⟨n,rfl⟩:∃ n:Nat,a=(n:Int):=⟨a.toNat,by omega⟩
  have h1:=CK n (bB r.pairs lo hi 0) [] (by simp;omega)
  show xq (xr (n:Int)) (bB r.pairs lo hi 0) []=_
  rw [h1]
  show []++(bB r.pairs lo hi 0).take (n-0)=bB r.pairs lo hi n
  unfold bB rU
  rw [if_neg (by omega),if_pos ha]
  simp
theorem LF (r:mM) (lo hi:Bs):rr CL r.closed none (xh (kr r lo hi 0)) []=xh (kr r lo hi 0):=by
 unfold kr rr eW
 cases r.closed with
 | true=>rfl
 | false=>
  simp only [Bool.false_eq_true,if_false,if_true]
  rw [CM];rfl
theorem Fu {o:l8} (hk:o.l≠[]) (ho:II W0 o) (hW:jF W0) (hE:iD W0) (h:gU X E B N) (hEE:E+o.l.length≤1048576) (hB:B<16777216) (hN:N+8388608≤4611686018427387904) (hs:Sat W0 (wL p X F) w) :
 Calls Tryz.prog 131 #[ay p,.agg (nQ o).toArray] w (iH W0 p F (E+o.l.length) (B+1) (N+8388608)):=by
 obtain ⟨kk,a,b,ss,tt,lv,l⟩:=o
 have hl:=ho.rd
 have hcap:=ho.cap
 clear ho
 dsimp only at hk hl hcap hEE
 obtain ⟨al,cl,rfl⟩:=hl.wF
 have hpos:0<l.length:=by cases l with|nil=>exact absurd rfl hk|cons _ _=>simp
 have hcl:=hcap _ _ _ rfl
 obtain ⟨bw,ow,c,hg,hd,rfl,hcW,-⟩:=hl.QL hpos
 obtain ⟨D1,e1,hok1⟩:=Lt h (by omega) ss tt 0
 obtain ⟨x,s',D',D'',er,f1,f2,f3,hok⟩:=Lv hok1 [c] false (by simp;omega) hB hN
 have f2:gC er=lM X.r [c]:=f2
 have hs:Sat W0 (blk p 91 (bA X)::fy X.b X.d X.o X.r.closed none X.s::aj X.d X.D::eS X.rb X.r::gD X.det::aG X.vo X.out::aG X.vw X.out::F) w:=hs
 have hlen:=ph h ss tt 0
 refine enter Tryz.func131 rfl Tryz.ntmps131 Tryz.results131 rfl ?_
 refine gy ?_
 refine bR (z:=[.int .i64 kk,.int .i64 a,.int .i64 b,str ss,str tt,.slice (some ⟨bw,ow,none⟩) l.length cl]) hs ?_
 clear hs
 intro w b3 hs
 refine gy ?_
 refine bu [blk b3 84 [.int .i64 kk,.int .i64 a,.int .i64 b,str ss,str tt,.slice (some ⟨bw,ow,none⟩) l.length cl],blk p 91 (bA X)] [3,5,7,9,11] (.q 0 (.q 1 (.q 2 (.s 3 (.q 4 (.s 5 (.q 6 (.s 7 (.q 8 (.s 9 (.q 10 (.s 11 (.l 12 (.q 13 (.q 14 (.q 15 (.q 16 (.q 17 .nil)))))))))))))))))) hs (by kernel_rfl) ?_
 clear hs
 intro w hs
 refine gj ?_
 refine Gp (fQ c) rfl rfl rfl rfl hcW rfl ?_
 refine gj ?_
 refine ag (met (Fh (be2:=none) (e2:=er) (s2:=s') (D2:=D'') hE e1 (by omega) (fun A v G w hA hs=>?_) (hs.fg (.there (.there .here)) (.there (.there .here)))) ?_)
 ·refine (tC (x:=x) f1 hA (by simp) hW hs).mono ?_
  rintro _ w' ⟨ve,rfl,hs⟩
  rw [f3] at hs
  exact ⟨ve,rfl,hs⟩
 clear hs
 rintro _ w ⟨pv,rfl,hs⟩
 refine ⟨_,rfl,?_⟩
 rw [LF] at hs
 have hs:=Sat.uv hs
 rw [f2]
 refine gy ?_
 refine cD hs.to ?_
 refine gj ?_
 refine gy ?_
 refine bu [blk b3 84 [.int .i64 kk,.int .i64 a,.int .i64 b,str ss,str tt,.slice (some ⟨bw,ow,none⟩) l.length cl],blk p 91 (bA X)] [3,5,7] (.q 0 (.q 1 (.q 2 (.s 3 (.q 4 (.s 5 (.q 6 (.s 7 (.l 8 (.q 9 (.q 10 (.q 11 (.q 12 (.q 13 .nil)))))))))))))) hs (by kernel_rfl) ?_
 clear hs
 intro w hs
 refine gj ?_
 refine ag (met (ny (by have:=h.plen;omega) (hs.take (.there (.there (.there (.there (.there .here))))))) ?_)
 clear hs
 rintro _ w ⟨u,rfl,hs⟩
 refine ⟨_,rfl,?_⟩
 refine gy ?_
 refine cD hs.to ?_
 refine gj ?_
 refine gy ?_
 refine mT (len:=l.length) (cap:=cl) 0 1 rfl rfl rfl rfl rfl (by omega) (by omega) rfl ?_
 have ec:cutAt bw ow cl 0 3=⟨bw,ow,none⟩:=by
  unfold cutAt
  rw [if_neg (by omega),Nat.zero_mul,Nat.add_zero]
 rw [ec]
 have hl1:EV W0 3 (.slice (some ⟨bw,ow,none⟩) (1-0) (cl-0)) (dR [c]):=by
  refine ⟨⟨_,_,rfl⟩,Fl _,fun _=>⟨bw,ow,_,rfl,fun j u hu=>?_⟩⟩
  have:(dR [c]).flatten=fQ c:=by simp [dR]
  rw [this] at hu
  exact hcW j u hu
 refine gy ?_
 refine ag (met (tu hl1 (by simp) hs) ?_)
 clear hs
 rintro _ w ⟨u2,rfl,hs⟩
 refine ⟨_,rfl,?_⟩
 have hs:=hs.GC
 refine gy ?_
 refine ag (met (tz (by have:=h.plen;simp;omega) (hs.fg (.there (.there .here)) .here)) ?_)
 clear hs
 rintro _ w ⟨rfl,hs⟩
 refine ⟨_,rfl,?_⟩
 refine gy ?_
 refine ag (met (mJ (by omega) (hs.fg (.there (.there .here)) (.there .here))) ?_)
 clear hs
 rintro _ w ⟨rfl,hs⟩
 refine ⟨_,rfl,?_⟩
 rw [decide_eq_true rfl]
 refine gy ?_
 refine ag (met (eJ hs) ?_)
 clear hs
 rintro _ w ⟨rfl,hs⟩
 refine ⟨_,rfl,?_⟩
 refine gy ?_
 exact ah rfl ⟨_,hok.more (by simp;omega) (Nat.le_refl _) (Nat.le_refl _),rfl,Sat.Az _ (yW _ _) hs.to⟩
theorem AE {o:l8} (hk:o.kind=4) (ho:II W0 o) (hW:jF W0) (hE:iD W0) (h:gU X E B N) (hEE:E+o.l.length≤1048576) (hB:B<16777216) (hN:N+8388608≤4611686018427387904) (hs:Sat W0 (wL p X F) w) :
 Calls Tryz.prog 69 #[ay p,.agg (nQ o).toArray] w (iH W0 p F (E+o.l.length) (B+1) (N+8388608)):=by
 have hlater:=fun (w:World) (G:List ax) (hne:o.l≠[]) (hs:Sat W0 (wL p X G) w)=>Fu hne ho hW hE h hEE hB hN hs
 obtain ⟨kk,a,b,ss,tt,lv,l⟩:=o
 have hl:=ho.rd
 have ha2:=ho.a2
 clear ho
 dsimp only at hk hl hEE hlater ha2
 subst hk
 obtain ⟨al,cl,rfl⟩:=hl.wF
 have hs:Sat W0 (blk p 91 (bA X)::fy X.b X.d X.o X.r.closed none X.s::aj X.d X.D::eS X.rb X.r::gD X.det::aG X.vo X.out::aG X.vw X.out::F) w:=hs
 refine enter Tryz.func69 rfl Tryz.ntmps69 Tryz.results69 rfl ?_
 refine gy ?_
 refine bR (z:=[.int .i64 4,.int .i64 a,.int .i64 b,str ss,str tt,.slice al l.length cl]) hs ?_
 clear hs
 intro w b3 hs
 by_cases hc:a<0∧0<l.length
 ·obtain ⟨c1,c2⟩:=hc
  have c2':(l.length:Int) > 0:=by omega
  refine gy ?_
  refine ag (met (hlater w (blk b3 84 [.int .i64 4,.int .i64 a,.int .i64 b,str ss,str tt,.slice al l.length cl]::F) (fun hh=>by rw [hh] at c2;simp at c2) hs.to) ?_)
  clear hs
  rintro _ w ⟨X',hok,rfl,hs⟩
  refine ⟨_,rfl,?_⟩
  refine gy ?_
  exact ah rfl ⟨X',hok,rfl,Sat.Az _ rfl hs.to⟩
 ·have hcc:¬ a<0∨(a<0∧¬ ((l.length:Int) > 0)):=by omega
  clear hc hlater
  have hgo:∀ {e:Env},True:=fun {_}=>trivial
  by_cases hpos:a≤0
  ·rcases hcc with c1|⟨c1,c2⟩
   all_goals
    refine gy ?_
    refine bu [blk b3 84 [.int .i64 4,.int .i64 a,.int .i64 b,str ss,str tt,.slice al l.length cl],blk p 91 (bA X)] [3,5,7,9] (.q 0 (.q 1 (.q 2 (.s 3 (.q 4 (.s 5 (.q 6 (.s 7 (.q 8 (.s 9 (.l 10 (.q 11 .nil)))))))))))) hs (by kernel_rfl) ?_
    clear hs
    intro w hs
    refine gj ?_
    refine ag (met (Av hpos hs) ?_)
    clear hs
    rintro _ w ⟨pv,rfl,hs⟩
    refine ⟨_,rfl,?_⟩
    have hs:=Sat.uv hs
    refine gy ?_
    refine cD hs.to ?_
    refine gj ?_
    refine gy ?_
    refine bu [blk b3 84 [.int .i64 4,.int .i64 a,.int .i64 b,str ss,str tt,.slice al l.length cl],blk p 91 (bA X)] [3,5,7,9] (.q 0 (.q 1 (.q 2 (.s 3 (.q 4 (.s 5 (.q 6 (.s 7 (.q 8 (.s 9 (.l 10 (.q 11 (.q 12 (.q 13 (.q 14 (.q 15 .nil)))))))))))))))) hs (by kernel_rfl) ?_
    clear hs
    intro w hs
    refine gj ?_
    refine ag (met (ny (by have:=h.plen;omega) (hs.take (.there (.there (.there (.there (.there .here))))))) ?_)
    clear hs
    rintro _ w ⟨u,rfl,hs⟩
    refine ⟨_,rfl,?_⟩
    refine gy ?_
    refine cD hs.to ?_
    refine gj ?_
    have hs:=Sat.j7 (k:=2) hs (a:=none) (c:=0) (.inl rfl) (fun _=>rfl)
    refine gy ?_
    refine ag (met (mJ (b:=[]) (by simp) (hs.fg (.there (.there (.there .here))) .here)) ?_)
    clear hs
    rintro _ w ⟨rfl,hs⟩
    refine ⟨_,rfl,?_⟩
    rw [decide_eq_true rfl]
    refine gy ?_
    exact ah rfl ⟨X,h.more (by omega) (by omega) (by omega),rfl,Sat.Az _ rfl hs.to⟩
  ·have c1:¬ a<0:=by omega
   obtain ⟨D1,e1,hok1⟩:=Lt h (by omega) ss tt 0
   have hlen:=ph h ss tt 0
   have hlen2:=ph h ss tt a
   refine gy ?_
   refine bu [blk b3 84 [.int .i64 4,.int .i64 a,.int .i64 b,str ss,str tt,.slice al l.length cl],blk p 91 (bA X)] [3,5,7,9] (.q 0 (.q 1 (.q 2 (.s 3 (.q 4 (.s 5 (.q 6 (.s 7 (.q 8 (.s 9 (.l 10 (.q 11 .nil)))))))))))) hs (by kernel_rfl) ?_
   clear hs
   intro w hs
   refine gj ?_
   refine ag (met (Aw hpos ha2 e1 (by omega) (hs.fg (.there (.there .here)) (.there (.there .here)))) ?_)
   clear hs
   rintro _ w ⟨pv,rfl,hs⟩
   refine ⟨_,rfl,?_⟩
   rw [Ft X.r ss tt (by omega)] at hs
   have hs:=Sat.uv hs
   refine gy ?_
   refine cD hs.to ?_
   refine gj ?_
   refine gy ?_
   refine bu [blk b3 84 [.int .i64 4,.int .i64 a,.int .i64 b,str ss,str tt,.slice al l.length cl],blk p 91 (bA X)] [3,5,7,9] (.q 0 (.q 1 (.q 2 (.s 3 (.q 4 (.s 5 (.q 6 (.s 7 (.q 8 (.s 9 (.l 10 (.q 11 (.q 12 (.q 13 (.q 14 (.q 15 .nil)))))))))))))))) hs (by kernel_rfl) ?_
   clear hs
   intro w hs
   refine gj ?_
   refine ag (met (ny (by have:=h.plen;omega) (hs.take (.there (.there (.there (.there (.there .here))))))) ?_)
   clear hs
   rintro _ w ⟨u,rfl,hs⟩
   refine ⟨_,rfl,?_⟩
   refine gy ?_
   refine cD hs.to ?_
   refine gj ?_
   refine gy ?_
   refine ag (met (mJ (by omega) (hs.fg (.there (.there .here)) .here)) ?_)
   clear hs
   rintro _ w ⟨rfl,hs⟩
   refine ⟨_,rfl,?_⟩
   rw [decide_eq_true rfl]
   refine gy ?_
   exact ah rfl ⟨_,hok1.more (by omega) (by omega) (by omega),rfl,hs.to⟩
end
end Go.Proofs.YtecibefflhomdaaGreatDoor
