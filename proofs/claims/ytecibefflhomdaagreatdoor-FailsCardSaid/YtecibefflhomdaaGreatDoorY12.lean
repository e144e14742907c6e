/-
  Part 12: WALKS package codec; WALKS package rows; The engine 18 views of rows that nobody writes any more; The engine 16 sync.
-/
import Derived.Test.YtecibefflhomdaaGreatDoorY11
import Derived.Conc.MuLone
set_option maxHeartbeats 8000000
set_option maxRecDepth 100000
set_option linter.all false
namespace Go.Proofs.YtecibefflhomdaaGreatDoor
open Go
section
open Go.Proofs.YtecibefflhomdaaGreatDoor.Pure (bM bE we kD wc iS aD aU az cY Rd j3 bI pd xM)
attribute [local irreducible] IntKind.wrap
variable {W0 w:World} {F:List ah} {v vr:Value} {bs:Bs} {r:Nat} {rd:Rd}
theorem gO (hs:Sat W0 (vJ r rd::F) w) (hl:rd.rest.length≤140737488355328) :
 Calls Tryz.prog 94 #[.pointer (some ⟨r,0,none⟩)] w fun x w'=>x=.returned (str rd.text.1)∧Sat W0 (vJ r rd.text.2::F) w':=by
 have h1:=rd.kE 1
 have h2:=rd.di 1
 refine enter Tryz.func94 rfl Tryz.ntmps94 Tryz.results94 rfl ?_
 refine go ?_
 refine ae (met (fc (K:=1) hs hl (by omega)) ?_)
 rintro _ w ⟨rfl,hs⟩
 refine ⟨_,rfl,go ?_⟩
 refine ae (met (mI (N:=((rd.num 1).1:Int)) hs (by omega) (by omega) (by omega)) ?_)
 rintro _ w ⟨v,rfl,hs⟩
 refine ⟨v,rfl,go ?_⟩
 refine Kb hs (.there .here) rfl rfl ?_
 refine go ?_
 exact ak rfl ⟨rfl,hs.to⟩
theorem gh.all (vs:List Value):gh vs 0 vs:=by
 have key:∀ (vs pre:List Value),gh (pre++vs) pre.length vs:=by
  intro vs
  induction vs with
  | nil=>intro _;trivial
  | cons v r ih=>intro pre;exact ⟨by simp,by have:=ih (pre++[v]);simpa using this⟩
 exact key vs []
theorem uf (hs:Sat W0 (vJ r rd::F) w) (hl:rd.rest.length≤140737488355328) :
 Calls Tryz.prog 167 #[.pointer (some ⟨r,0,none⟩)] w fun x w'=>x=.returned (.agg (aF rd.entry.1).toArray)∧Sat W0 (vJ r rd.entry.2::F) w':=by
 have h1:=rd.iA
 have h2:=rd.text.2.di 8
 refine enter Tryz.func167 rfl Tryz.ntmps167 Tryz.results167 rfl ?_
 refine go ?_
 refine aS hs fun w b2 hs=>?_
 refine go ?_
 refine ae (met (gO (hs.take (.there .here)) hl) ?_)
 rintro _ w ⟨rfl,hs⟩
 refine ⟨_,rfl,go ?_⟩
 refine ae (met (fc (K:=8) hs (by omega) (by omega)) ?_)
 rintro _ w ⟨rfl,hs⟩
 refine ⟨_,rfl,go ?_⟩
 refine bA [str rd.text.1,str [],.bool false,.int .u64 ((rd.text.2.num 8).1:Int)] ?_
 refine aS hs fun w b3 hs=>?_
 refine cZ hs fun w hs=>?_
 have he:rd.entry=if (rd.text.2.num 8).2.rest.head?=some 255 then (⟨rd.text.1,[],true,(rd.text.2.num 8).1⟩,((rd.text.2.num 8).2.bytes 1).2)
  else (⟨rd.text.1,(rd.text.2.num 8).2.text.1,false,(rd.text.2.num 8).1⟩,(rd.text.2.num 8).2.text.2):=rfl
 rw [he]
 clear he
 generalize rd.text.1=key at *
 generalize (rd.text.2.num 8).1=seq at *
 generalize (rd.text.2.num 8).2=r1 at *
 have hl1:r1.rest.length≤140737488355328:=by omega
 obtain ⟨vr,-,hs⟩:=(hs.take (.there .here)).nH
 dsimp only [List.cons_append,List.nil_append] at hs
 obtain ⟨rs,bad⟩:=r1
 dsimp only at hs hl1 ⊢
 obtain ⟨a,c,rfl,hc⟩:=(hs.take (.there .here)).fD
 by_cases hp:(rs.length:Int) > 0
 ·obtain ⟨z,⟨hv,hzc,hcell⟩,hs2⟩:=(hs.take (.there .here)).q9 (by intro h;subst h;simp at hp)
  obtain ⟨rfl,rfl⟩:a=some ⟨z.b,z.o,none⟩∧c=z.c:=by simpa using hv
  have hp':0<rs.length:=by omega
  have hbyte:=(rs[0]).toNat_lt
  have hc1:z.all[z.o+0*1]?=some (bV rs[0]):=hcell 0 _ (by simp [hp'])
  have hh:rs.head?=some rs[0]:=by rw [List.head?_eq_getElem?,List.getElem?_eq_getElem hp']
  refine go ?_
  refine cL (i:=0) rfl rfl rfl rfl rfl hp' rfl ?_
  refine sa rfl ?_
  refine eC hs2 rfl rfl .here hc1 rfl ?_
  by_cases h255:((rs[0]).toNat:Int)=255
  ·have h255':rs.head?=some 255:=by rw [hh];congr 1;apply UInt8.toNat_inj.1;show (rs[0]).toNat=255;omega
   rw [if_pos h255']
   refine go ?_
   refine ae (met (mI (rd:=⟨rs,bad⟩) (N:=1) (Sat.fN (rd:=⟨rs,bad⟩) hs.to) hl1 (by omega) (by omega)) ?_)
   rintro _ w ⟨v,rfl,hs⟩
   refine ⟨_,rfl,go ?_⟩
   refine bD hs fun w hs=>?_
   refine go ?_
   refine cZ hs fun w hs=>?_
   refine go ?_
   exact ej ⟨_,_,b2,0,rfl,rfl,fx _ hs (.there (.there (.there .here))) rfl rfl (gh.all _),rfl⟩ ⟨rfl,hs.to⟩
  ·have h255':rs.head?≠some 255:=by rw [hh];intro h;simp only [Option.some.injEq] at h;exact h255 (by rw [h];rfl)
   rw [if_neg h255']
   refine go ?_
   refine ae (met (gO (rd:=⟨rs,bad⟩) (Sat.fN (rd:=⟨rs,bad⟩) hs.to) hl1) ?_)
   rintro _ w ⟨rfl,hs⟩
   refine ⟨_,rfl,go ?_⟩
   refine bD hs fun w hs=>?_
   refine go ?_
   refine cZ hs fun w hs=>?_
   refine go ?_
   exact ej ⟨_,_,b2,0,rfl,rfl,fx _ hs (.there (.there .here)) rfl rfl (gh.all _),rfl⟩ ⟨rfl,hs.to⟩
 ·have h255':rs.head?≠some 255:=by rw [show rs=[] from List.eq_nil_of_length_eq_zero (by omega)];simp
  rw [if_neg h255']
  refine go ?_
  refine ae (met (gO (rd:=⟨rs,bad⟩) (Sat.fN (rd:=⟨rs,bad⟩) hs.to) hl1) ?_)
  rintro _ w ⟨rfl,hs⟩
  refine ⟨_,rfl,go ?_⟩
  refine bD hs fun w hs=>?_
  refine go ?_
  refine cZ hs fun w hs=>?_
  refine go ?_
  exact ej ⟨_,_,b2,0,rfl,rfl,fx _ hs (.there (.there .here)) rfl rfl (gh.all _),rfl⟩ ⟨rfl,hs.to⟩
theorem L6 (hs:Sat W0 (vw v bs::F) w) (hb:bs.length≤140737488355328) :
 Calls Tryz.prog 165 #[v] w fun x w'=>x=.returned (.int .u32 (we bs:Nat))∧Sat W0 (vw v bs::F) w':=by
 obtain ⟨l',hr,hs',hk⟩:=hs.Ox .here
 exact (zs hs' hr hb).mono fun x w' h=>⟨h.1,hk _ h.2⟩
theorem lW (hs:Sat W0 (vw v bs::F) w) (hl:bs.length≤140737488355328) :
 Calls Tryz.prog 91 #[v] w fun x w'=>∃ v1 v2,x=.returned (.tuple #[v1,v2,.bool (bI bs).isSome]) ∧
  Sat W0 (vw v1 (match bI bs with|some z=>z.1|none=>[])::vw v2 (match bI bs with|some z=>z.2|none=>bs)::F) w':=by
 obtain ⟨a,c,rfl,hc⟩:=hs.fD
 refine enter Tryz.func91 rfl Tryz.ntmps91 Tryz.results91 rfl ?_
 have hs0:Sat W0 (vw (.slice a bs.length c) bs::vw (.slice a bs.length c) bs::F) w:=hs.zt fun _=>Hw
 refine go ?_
 refine bA [.slice a bs.length c,.bool false] ?_
 refine cE hs0 fun w r hs=>?_
 have hs:=Sat.fN (rd:=⟨bs,false⟩) hs
 have b1:(Rd.num ⟨bs,false⟩ 4).2.rest.length≤bs.length:=Rd.di ⟨bs,false⟩ 4
 have b2:=(Rd.num ⟨bs,false⟩ 4).2.di 4
 have b3:=((Rd.num ⟨bs,false⟩ 4).2.num 4).2.di 4
 have n1:=Rd.kE ⟨bs,false⟩ 4
 have n2:=(Rd.num ⟨bs,false⟩ 4).2.kE 4
 have n3:=((Rd.num ⟨bs,false⟩ 4).2.num 4).2.kE 4
 refine go ?_
 refine ae (met (fc (K:=4) hs hl (by omega)) ?_)
 rintro _ w ⟨rfl,hs⟩
 refine ⟨_,rfl,go ?_⟩
 refine ae (met (fc (K:=4) hs (by omega) (by omega)) ?_)
 rintro _ w ⟨rfl,hs⟩
 refine ⟨_,rfl,go ?_⟩
 refine ae (met (fc (K:=4) hs (by omega) (by omega)) ?_)
 rintro _ w ⟨rfl,hz⟩
 refine ⟨_,rfl,?_⟩
 clear hs hs0
 have ho:bI bs=(let n:=Rd.num ⟨bs,false⟩ 4
  let t:=n.2.num 4
  let s:=t.2.num 4
  if n.1≠4294967295-t.1 then none else
  let i:=s.2.bytes (n.1:Int)
  if i.2.bad=true∨we i.1≠s.1 then none else some (i.1,i.2.rest)):=rfl
 dsimp only at ho
 have b4:=(((Rd.num ⟨bs,false⟩ 4).2.num 4).2.num 4).2.gK ((Rd.num ⟨bs,false⟩ 4).1:Int)
 have b5:=(((Rd.num ⟨bs,false⟩ 4).2.num 4).2.num 4).2.oh ((Rd.num ⟨bs,false⟩ 4).1:Int)
 generalize (((Rd.num ⟨bs,false⟩ 4).2.num 4).2.num 4).1=s at *
 generalize (((Rd.num ⟨bs,false⟩ 4).2.num 4).2.num 4).2=r3 at *
 generalize ((Rd.num ⟨bs,false⟩ 4).2.num 4).1=t at *
 generalize ((Rd.num ⟨bs,false⟩ 4).2.num 4).2=r2 at *
 generalize (Rd.num ⟨bs,false⟩ 4).1=n at *
 generalize (Rd.num ⟨bs,false⟩ 4).2=r1 at *
 refine go ?_
 refine tG (N:=t) rfl (by omega) rfl ?_
 by_cases hn:(n:Int)=((4294967295-t:Nat):Int)
 ·have hn':¬ n≠4294967295-t:=by omega
  have hnn:¬ (n:Int)≠((4294967295-t:Nat):Int):=by omega
  rw [if_neg hn'] at ho
  refine go ?_
  refine ae (met (mI (N:=(n:Int)) hz (by omega) (by omega) (by omega)) ?_)
  rintro _ w ⟨v1,rfl,hs⟩
  refine ⟨_,rfl,?_⟩
  generalize r3.bytes (n:Int)=q at *
  obtain ⟨i,r4,bad⟩:=q
  dsimp only at ho b4 b5 hs
  obtain ⟨a1,c1,rfl,hc1⟩:=(hs.take (.there .here)).fD
  obtain ⟨vr,-,hs⟩:=hs.nH
  dsimp only [List.cons_append,List.nil_append] at hs
  have hcrc:=Pure.BL i
  cases bad with
  | true=>
   rw [if_pos (.inl rfl)] at ho
   rw [ho]
   refine go ?_
   exact ak rfl ⟨_,_,rfl,(hs.oL (.inl rfl) (fun _=>rfl)).to⟩
  | false=>
   refine go ?_
   refine ae (met (L6 (hs.take (.there (.there .here))) (by omega)) ?_)
   rintro _ w ⟨rfl,hs⟩
   refine ⟨_,rfl,?_⟩
   by_cases hs2:((we i:Nat):Int)=(s:Int)
   ·have hss:¬ ((we i:Nat):Int)≠(s:Int):=by omega
    rw [if_neg (by simp;omega)] at ho
    rw [ho]
    refine go ?_
    refine bU [blk r 190 [vr,.bool false]] [(0,false),(1,false),(2,false),(3,false),(4,false),(5,false),(6,false),(7,false)] hs.to (by kernel_rfl) fun w hs=>?_
    refine go ?_
    exact ak rfl ⟨_,_,rfl,hs.to⟩
   ·have hss:((we i:Nat):Int)≠(s:Int):=hs2
    rw [if_pos (by simp;omega)] at ho
    rw [ho]
    refine go ?_
    exact ak rfl ⟨_,_,rfl,(hs.oL (.inl rfl) (fun _=>rfl)).to⟩
 ·have hn':n≠4294967295-t:=by omega
  have hnn:(n:Int)≠((4294967295-t:Nat):Int):=hn
  rw [if_pos hn'] at ho
  rw [ho]
  refine go ?_
  exact ak rfl ⟨_,_,rfl,(hz.oL (.inl rfl) (fun _=>rfl)).to⟩
end
section
open Go.Proofs.YtecibefflhomdaaGreatDoor.Pure (az less aQ aZ dt dT jy gY lj)
attribute [local irreducible] IntKind.wrap
section
variable {ops:Array Oper} {Q:Exit→Act→World→Prop} {n:Nat} {ds:Md} {e:Env} {w w':World} {rest:List Oper} {ord:List (Nat×Bool)}
variable {op:Op} {ty:TypeId} {pos:String} {af:Array Edge} {d i:Nat} {v u:Value} {W0:World} {l l' r r':List ah}
theorem Kj {x:Operand} {t ty2 N:Nat} {X:Int} (hx:ev e x=some (.int .i64 X)) (hX:X=(N:Int)) (hN:N≤9223372036854775807) (hd:Nat.blt d n=true)
 (kk:WL ops Q n ds rest ((d,.int .i64 ((N / 2:Nat):Int))::e) w):WL ops Q n ds (⟨some d,.binOp .quo t x (.const (.int .i64 2)) ty2,ty,pos,af,none⟩::rest) e w:=by
 subst hX
 refine cj (fun a ha=>?_) hd kk
 have h2:IntKind.i64.wrap ((N:Int) / 2)=(N:Int) / 2:=wrap_i64 (by omega) (by omega)
 have h3:=ha.ev hx
 have h4:a.eval (.const (.int .i64 2))=.int .i64 2:=rfl
 simp [execOp,h3,h4,eqGuard,Go.binOp,Op.intDiv,h2]
theorem Kk {x y:Operand} {t ts E E2 k b o dl dc b2 o2 sl sc:Nat} {sh:Bool} {all cs:List Value} (news:List Value) (hs:Sat W0 l w) (hx:ev e x=some (.slice (some ⟨b,o,none⟩) dl dc)) (hy:ev e y=some (.slice (some ⟨b2,o2,none⟩) sl sc))
 (ht:lk dy t=some E) (hsz:lk df E=some k) (tk2:Take (ob sh b2 (.cells all.toArray E2 (0,0))) l r) (hsrc:gh all o2 news) (hlen:news.length=min sl dl*k) (h1:∀ u∈news,dD u=true)
 (tk:ic l (blk b E cs) (blk b E (eV cs o news)) l') (hfit:o+news.length≤cs.length) (hd:Nat.blt d n=true) (kk:∀ w',Sat W0 l' w'→WL ops Q n ds rest ((d,.int .i64 ((min sl dl:Nat):Int))::e) w') :
 WL ops Q n ds (⟨some d,.call { callee:=.builtin .copy,args:=#[x,y],argTypes:=#[t,ts] },ty,pos,af,none⟩::rest) e w:=by
 obtain ⟨r1,t1,t2⟩:=tk.take
 refine cj (w':=w.setRow b (eV cs o news).toArray) (fun a ha=>?_) hd (kk _ (o9 hs tk))
 have hl:=run_loadCells_list (P:=Tryz.prog) w ⟨b2,o2,none⟩ news (fun j v hj=>by rw [add_eq,hs.cell tk2];exact hsrc.at j v hj)
 have hst:=run_storeCells_at Tryz.prog b o E news 0 cs.toArray w (hs.at t1) (by simpa using hfit) (fun v hv=>(gJ (h1 v hv)).2)
 obtain ⟨i,hi,rfl⟩:=mw hsz
 have e1:Nat.min sl dl*i.size=news.length:=hlen.symm
 simp only [execOp,resolve,List.map_toArray,List.map_cons,List.map_nil,ha.ev hx,ha.ev hy,invoke,Go.builtin,Sem.run_bind,Sem.run_pure,Result.andThen_ok]
 simp [Builtin.copy_,cB (bX ht),Builtin.lenOf,Builtin.firstCells,sizeOf,typeInfo,hi,e1,hl,hst,eV,goInt]
theorem D7 {x:Operand} {lo hi:Option Operand} {t E k b o len cap:Nat} {dd:Option Nat} {a:Act} {ww:World} (l' h':Nat) (ha:Fr n ds e a) (hx:ev e x=some (.slice (some ⟨b,o,none⟩) len cap)) (ht:lk dy t=some E) (hsz:lk df E=some k)
 (hlo:match lo with|none=>l'=0|some y=>ev e y=some (.int .i64 (l':Int))) (hhi:match hi with|none=>h'=len|some y=>ev e y=some (.int .i64 (h':Int)))
 (h1:l'≤h') (h2:h'≤cap):(execOp a.eval ⟨dd,.slice t x lo hi none,ty,pos,af,none⟩).run Tryz.prog ww=.ok (.value (.slice (some (cutAt b o cap l' k)) (h'-l') (cap-l'))) ww:=by
 have hu:=bX ht
 have e1:(if cap=l' then (some ⟨b,o,none⟩:Option Addr) else Option.map (fun x:Addr=>x.add (l'*k)) (some (⟨b,o,none⟩:Addr)))=some (cutAt b o cap l' k):=by
  unfold cutAt;split<;>simp [add_eq]
 have c1:(l':Int)≤h':=by omega
 have c2:(h':Int)≤cap:=by omega
 cases lo with
 | none=>
  simp only at hlo;subst hlo
  cases hi with
  | none=>simp only at hhi;subst hhi;simp [execOp,ha.ev hx,Instr.sliceAt,Instr.slice,cB hu,dq hsz,Instr.sliceBounds,← e1]
  | some y=>simp [execOp,ha.ev hx,ha.ev hhi,Instr.sliceAt,Instr.slice,cB hu,dq hsz,Instr.sliceBounds,Instr.sliceBound,asIntOf,h2,← e1]
 | some z=>
  cases hi with
  | none=>simp only at hhi;subst hhi;simp [execOp,ha.ev hx,ha.ev hlo,Instr.sliceAt,Instr.slice,cB hu,dq hsz,Instr.sliceBounds,Instr.sliceBound,asIntOf,h1,← e1]
  | some y=>simp [execOp,ha.ev hx,ha.ev hlo,ha.ev hhi,Instr.sliceAt,Instr.slice,cB hu,dq hsz,Instr.sliceBounds,Instr.sliceBound,asIntOf,h1,h2,← e1]
theorem yh {S:World→Prop} {x:Operand} {lo hi:Option Operand} {t E k b o len cap:Nat} (l' h':Nat) (ho:ops[i]?=some ⟨some d,.slice t x lo hi none,ty,pos,af,none⟩) (hx:ev e x=some (.slice (some ⟨b,o,none⟩) len cap)) (ht:lk dy t=some E) (hsz:lk df E=some k)
 (hlo:match lo with|none=>l'=0|some y=>ev e y=some (.int .i64 (l':Int))) (hhi:match hi with|none=>h'=len|some y=>ev e y=some (.int .i64 (h':Int)))
 (h1:l'≤h') (h2:h'≤cap) (hd:Nat.blt d n=true) (kk:WO ops Q S n ds ord ((d,.slice (some (cutAt b o cap l' k)) (h'-l') (cap-l'))::e) w):WO ops Q S n ds ((i,false)::ord) e w:=
 Fg ho (fun a w' ha _=>D7 l' h' ha hx ht hsz (by cases lo<;>exact hlo) (by cases hi<;>exact hhi) h1 h2) hd kk
theorem pq {S:World→Prop} {x y:Operand} {t E k b o len c j:Nat} {Y:Int} (ho:ops[i]?=some ⟨some d,.indexAddr t x y,ty,pos,af,none⟩) (hx:ev e x=some (.slice (some ⟨b,o,none⟩) len c)) (hy:ev e y=some (.int .i64 Y)) (hY:Y=(j:Int)) (ht:lk dy t=some E) (hsz:lk df E=some k)
 (h1:j<len) (hd:Nat.blt d n=true) (kk:WO ops Q S n ds ord ((d,.pointer (some ⟨b,o+j*k,none⟩))::e) w):WO ops Q S n ds ((i,false)::ord) e w:=by
 subst hY
 refine Fg ho (fun a w' ha _=>?_) hd kk
 have h0:(0:Int)≤(j:Int):=by omega
 have h1':(j:Int)<(len:Int):=by omega
 have h3:¬ len≤j:=by omega
 simp [execOp,ha.ev hx,ha.ev hy,Instr.indexAt,asIntOf,cB (bX ht),dq hsz,h0,h1',h3,add_eq]
end
theorem gZ:∀ a b:Bs,aQ a b=o8 a b
 | _,[]=>by simp [aQ,o8]
 | [],_::_=>rfl
 | a::x,b::y=>by simp only [aQ,o8,gZ x y]
theorem gh.app {cs rest:List Value} {o:Nat}:∀ {vs:List Value},gh cs o vs→gh (cs++rest) o vs:=by
 intro vs
 induction vs generalizing o with
 | nil=>intro _;trivial
 | cons v r ih=>intro ⟨h1,h2⟩;exact ⟨by rw [List.getElem?_append_left (List.getElem?_eq_some_iff.1 h1).1];exact h1,ih h2⟩
theorem gh.pre {cs:List Value} (pre:List Value) {o:Nat}:∀ {vs:List Value},gh cs o vs→gh (pre++cs) (pre.length+o) vs:=by
 intro vs
 induction vs generalizing o with
 | nil=>intro _;trivial
 | cons v r ih=>intro ⟨h1,h2⟩;exact ⟨by rw [List.getElem?_append_right (by omega),Nat.add_sub_cancel_left];exact h1,by have:=ih h2;rwa [← Nat.add_assoc] at this⟩
theorem nI {k:Nat}:∀ {rows:List (List Value)},(∀ r∈rows,r.length=k)→rows.flatten.length=rows.length*k
 | [],_=>by simp
 | r::rows,h=>by
  rw [List.flatten_cons,List.length_append,h r List.mem_cons_self,nI fun x hx=>h x (List.mem_cons_of_mem _ hx),List.length_cons,Nat.add_mul,Nat.one_mul,Nat.add_comm]
theorem ja {k:Nat}:∀ {rows:List (List Value)} {i:Nat} {r:List Value},(∀ r∈rows,r.length=k)→rows[i]?=some r→gh rows.flatten (i*k) r
 | r0::rows,0,r,_,hr=>by
  simp at hr;subst hr
  rw [List.flatten_cons,Nat.zero_mul];exact (gh.all r0).app
 | r0::rows,i+1,r,h,hr=>by
  have:=ja (i:=i) (fun x hx=>h x (List.mem_cons_of_mem _ hx)) (by simpa using hr)
  have h2:=gh.pre r0 this
  rw [h r0 List.mem_cons_self] at h2
  rw [List.flatten_cons,Nat.add_mul,Nat.one_mul,Nat.add_comm];exact h2
def bu (l:List az):List (List Value):=l.map aF
@[simp] theorem jb (l:List az):(bu l).length=l.length:=by simp [bu]
theorem gE (l:List az):∀ r∈bu l,r.length=4:=fun r hr=>by obtain ⟨e,_,rfl⟩:=List.mem_map.1 hr;rfl
abbrev jc (v:Value) (l:List az):ah:=aE 4 v 256 l.length (bu l).flatten
def aR (m:Nat) (l:List az):ah:=fun h=>∃ v,cV [blk m 120 [v],jc v l] h
variable {W0 w:World} {F:List ah} {v:Value} {m:Nat} {l:List az}
theorem Sat.qj (h:Sat W0 (aR m l::F) w):∃ v,Sat W0 (blk m 120 [v]::jc v l::F) w:=by
 obtain ⟨v,_,hs⟩:=h.eI (φ:=fun _:Value=>True) (B:=fun v=>[blk m 120 [v],jc v l]) fun hp ⟨v,k⟩=>⟨v,trivial,k⟩
 exact ⟨v,hs⟩
theorem Sat.jd (h:Sat W0 (blk m 120 [v]::jc v l::F) w):Sat W0 (aR m l::F) w:=Sat.close (B:=[blk m 120 [v],jc v l]) h fun hp k=>⟨v,k⟩
theorem wD {a b:az} (hs:Sat W0 F w):Calls Tryz.prog 215 #[.agg (aF a).toArray,.agg (aF b).toArray] w fun x w'=>x=.returned (.bool (less a b))∧Sat W0 F w':=by
 refine enter Tryz.func215 rfl Tryz.ntmps215 Tryz.results215 rfl ?_
 refine go ?_
 refine cE (z:=aF a) hs fun w b1 hs=>?_
 refine cE (z:=aF b) hs fun w b2 hs=>?_
 unfold less
 by_cases hk:a.key=b.key
 ·have hk':¬ a.key≠b.key:=fun h=>h hk
  rw [if_neg hk']
  refine go ?_
  exact ak rfl ⟨by show Ending.returned (.bool (decide ((b.seq:Int)<(a.seq:Int))))=_;rw [decide_eq_decide.2 (show ((b.seq:Int)<(a.seq:Int))↔b.seq<a.seq by omega)],hs.to⟩
 ·have hk':a.key≠b.key:=hk
  rw [if_pos hk',gZ]
  refine go ?_
  exact ak rfl ⟨rfl,hs.to⟩
theorem Sat.rl (h:Sat W0 (jc v l::F) w):∃ a c,v=.slice a l.length c∧l.length≤9223372036854775807:=by
 obtain ⟨a,c,hv,h1,h2⟩:=h.ay
 exact ⟨a,c,hv,by simp only [maxLen] at h2;omega⟩
theorem ug (hs:Sat W0 (aR m l::F) w):Calls Tryz.prog 98 #[au m] w fun x w'=>x=.returned (.int .i64 (l.length:Int))∧Sat W0 (aR m l::F) w':=by
 obtain ⟨v,hs⟩:=hs.qj
 obtain ⟨a,c,rfl,-⟩:=(hs.take (.there .here)).rl
 refine enter Tryz.func98 rfl Tryz.ntmps98 Tryz.results98 rfl ?_
 refine go ?_
 exact ak rfl ⟨rfl,hs.jd⟩
theorem nJ {e:az} (hs:Sat W0 (aR m l::F) w) (hmx:l.length≤1099511627776):Calls Tryz.prog 198 #[au m,.agg (aF e).toArray] w fun x w'=>x=.returned (.int .i64 (aZ l e:Int))∧Sat W0 (aR m l::F) w':=by
 obtain ⟨v,hs⟩:=hs.qj
 obtain ⟨a,c,rfl,hmax⟩:=(hs.take (.there .here)).rl
 refine enter Tryz.func198 rfl Tryz.ntmps198 Tryz.results198 rfl ?_
 refine go ?_
 refine cE (z:=aF e) hs fun w b1 hs=>?_
 refine go ?_
 refine bU [blk m 120 [.slice a l.length c]] [(0,false),(1,false),(2,false),(3,false),(4,false),(5,false),(6,false)] hs (by kernel_rfl) fun w hs=>?_
 refine go ?_
 refine aL (α:=Nat×Nat) (fun z=>[(0,au m),(3,au b1),(5,.int .i64 (z.1:Int)),(6,.int .i64 (z.2:Int))])
  (fun z w=>(z.1≤z.2∧z.2≤l.length∧dt l e l.length z.1 z.2=aZ l e)∧Sat W0 (blk b1 256 (aF e)::blk m 120 [.slice a l.length c]::jc (.slice a l.length c) l::F) w) (fun z=>z.2-z.1) (0,l.length) ⟨rfl,rfl,rfl,rfl,trivial⟩ ⟨⟨Nat.zero_le _,Nat.le_refl _,rfl⟩,hs.to⟩ ?_
 clear hs
 rintro ⟨lo,hi⟩ w ⟨⟨h1,h2,h3⟩,hs⟩
 dsimp only at h1 h2 h3 hs ⊢
 by_cases hlt:lo<hi
 ·have hmid:(lo+hi) / 2<l.length:=by omega
  have hstep:dt l e l.length lo hi=if less l[(lo+hi) / 2] e=true then dt l e l.length ((lo+hi) / 2+1) hi else dt l e l.length lo ((lo+hi) / 2):=by
   obtain ⟨f,hf⟩:∃ f,l.length=f+1:=⟨l.length-1,by omega⟩
   rw [hf,dt,if_pos hlt,show l.getD ((lo+hi) / 2) default=l[(lo+hi) / 2] from by simp [List.getD,hmid]]
   rw [gY l e f (f+1) ((lo+hi) / 2+1) hi (by omega) (by omega),gY l e f (f+1) lo ((lo+hi) / 2) (by omega) (by omega)]
  refine go ?_
  refine Kj (N:=lo+hi) rfl (by omega) (by omega) rfl ?_
  refine go ?_
  obtain ⟨b,cap,rs,hv,q1,q2,q3,hs2⟩:=(hs.take (.there (.there .here))).dV (by omega)
  simp only [Value.slice.injEq] at hv
  obtain ⟨rfl,_,rfl⟩:=hv
  have hseg:gh ((bu l).flatten++rs) (0+(lo+hi) / 2*4) (aF l[(lo+hi) / 2]):=by
   rw [Nat.zero_add]
   exact (ja (gE l) (by simp [bu,hmid])).app
  refine bU (l:=blk b 256 ((bu l).flatten++rs)::blk b1 256 (aF e)::blk m 120 [.slice (some ⟨b,0,none⟩) l.length c]::F) [blk b 256 ((bu l).flatten++rs),blk b1 256 (aF e),blk m 120 [.slice (some ⟨b,0,none⟩) l.length c]] [(0,false),(1,false),(2,false),(3,false),(4,false),(5,false),(6,false),(7,false),(8,true)] hs2 (by kernel_rfl) fun w hs=>?_
  refine go ?_
  refine pq (j:=(lo+hi) / 2) rfl rfl rfl rfl rfl rfl hmid rfl ?_
  refine fR (aF l[(lo+hi) / 2]) rfl rfl rfl rfl .here hseg rfl ?_
  refine go ?_
  refine ae (met (wD (a:=l[(lo+hi) / 2]) (b:=e) hs) ?_)
  rintro _ w ⟨rfl,hs⟩
  refine ⟨_,rfl,?_⟩
  have mk:∀ w,Sat W0 (blk b 256 ((bu l).flatten++rs)::blk b1 256 (aF e)::blk m 120 [.slice (some ⟨b,0,none⟩) l.length c]::F) w→Sat W0 (blk b1 256 (aF e)::blk m 120 [.slice (some ⟨b,0,none⟩) l.length c]::jc (.slice (some ⟨b,0,none⟩) l.length c) l::F) w:=fun w hs=>by
   have:=Sat.dK (k:=4) (len:=l.length) hs q1 q2 q3 (by rw [nI (gE l),jb]) (fun u hu=>by
    obtain ⟨r,hr,hur⟩:=List.mem_flatten.1 hu
    obtain ⟨x,_,rfl⟩:=List.mem_map.1 hr
    simp [aF] at hur;rcases hur with rfl|rfl|rfl|rfl<;>rfl)
   exact this.to
  rw [hstep] at h3
  cases hl:less l[(lo+hi) / 2] e with
  | true=>
   rw [hl,if_pos rfl] at h3
   refine go ?_
   exact aB ((lo+hi) / 2+1,hi) ⟨rfl,rfl,rfl,rfl,trivial⟩ ⟨⟨by omega,h2,h3⟩,mk _ hs⟩ (by simp;omega)
  | false=>
   rw [hl,if_neg (by simp)] at h3
   refine go ?_
   exact aB (lo,(lo+hi) / 2) ⟨rfl,rfl,rfl,rfl,trivial⟩ ⟨⟨by omega,by omega,h3⟩,mk _ hs⟩ (by simp;omega)
 ·have he:aZ l e=lo:=by
   rw [← h3]
   cases hf:l.length with
   | zero=>simp [dt]
   | succ f=>unfold dt;rw [if_neg hlt]
  refine go ?_
  exact ak rfl ⟨by rw [he];rfl,Sat.jd (v:=.slice a l.length c) hs.to⟩
theorem uh (e:az):(aF e).all dD=true:=rfl
theorem lX (l:List az):∀ u∈(bu l).flatten,dD u=true:=fun u hu=>by
 obtain ⟨r,hr,hur⟩:=List.mem_flatten.1 hu
 obtain ⟨x,_,rfl⟩:=List.mem_map.1 hr
 exact List.all_eq_true.1 (uh x) u hur
theorem mJ (l:List az):(bu l).flatten.length=l.length*4:=by rw [nI (gE l),jb]
theorem lY (l:List az) (e:az):(bu (l++[e])).flatten=(bu l).flatten++aF e:=by simp [bu]
def ef (l:List az):List Value:=(bu l).flatten
theorem lZ (a b:List az):ef (a++b)=ef a++ef b:=by simp [ef,bu]
theorem te (e:az) (b:List az):ef (e::b)=aF e++ef b:=by simp [ef,bu]
@[simp] theorem Oy:ef []=[]:=rfl
theorem lE (l:List az):(ef l).length=l.length*4:=mJ l
end
def jm (k:Nat) (v:Value) (rows:List (List Value)):ah:=fun h=>(∀ r∈rows,r.length=k) ∧
 ((v=.slice none 0 0∧rows=[])∨∃ b o c,v=.slice (some ⟨b,o,none⟩) rows.length c∧rows.length≤c∧(rows=[]∨∃ all E,h b=some (true,.cells all E (0,0))∧gh all.toList o rows.flatten))
section
variable {ops:Array Oper} {Q:Exit→Act→World→Prop} {n:Nat} {ds:Md} {e:Env} {w w':World} {rest:List Oper}
variable {op:Op} {ty:TypeId} {pos:String} {af:Array Edge} {d:Nat} {v u:Value} {W0:World} {l l' r r':List ah} {k:Nat} {rows:List (List Value)}
theorem Kl {h:Hp} (q:jm k v rows h):∃ h1,Hp.le h1 h∧(∀ i x,h1 i=some x→x.1=true)∧jm k v rows h1:=by
 obtain ⟨hk,q⟩:=q
 rcases q with ⟨rfl,rfl⟩|⟨b,o,c,rfl,hc,q⟩
 ·exact ⟨fun _=>none,fun _ _ hx=>(by cases hx),fun _ _ hx=>(by cases hx),hk,.inl ⟨rfl,rfl⟩⟩
 ·rcases q with rfl|⟨all,E,hb,hcell⟩
  ·exact ⟨fun _=>none,fun _ _ hx=>(by cases hx),fun _ _ hx=>(by cases hx),hk,.inr ⟨b,o,c,rfl,hc,.inl rfl⟩⟩
  ·refine ⟨fun i=>if i=b then some (true,.cells all E (0,0)) else none,fun i x hx=>?_,fun i x hx=>?_,hk,.inr ⟨b,o,c,rfl,hc,.inr ⟨all,E,by simp,hcell⟩⟩⟩
   ·by_cases hi:i=b
    ·subst hi;simp at hx;subst hx;exact hb
    ·simp [hi] at hx
   ·by_cases hi:i=b
    ·subst hi;simp at hx;subst hx;rfl
    ·simp [hi] at hx
theorem Sat.iw (h:Sat W0 (jm k v rows::l) w):∃ a c,v=.slice a rows.length c∧rows.length≤c:=h.fQ fun _ q=>by
 rcases q.2 with ⟨rfl,rfl⟩|⟨b,o,c,rfl,hc,_⟩
 ·exact ⟨none,0,rfl,by simp⟩
 ·exact ⟨_,c,rfl,hc⟩
theorem Sat.OS (h:Sat W0 (jm k v rows::l) w):∀ r∈rows,r.length=k:=h.fQ fun _ q=>q.1
theorem Sat.mK (h:Sat W0 (jm k v rows::l) w) (hne:rows≠[]):∃ z:vH,(v=.slice (some ⟨z.b,z.o,none⟩) rows.length z.c∧rows.length≤z.c∧gh z.all z.o rows.flatten)∧Sat W0 (ob true z.b (.cells z.all.toArray z.E (0,0))::jm k v rows::l) w:=by
 obtain ⟨z,hz,h1⟩:=(h.zt fun _=>Kl).eI (φ:=fun z:vH=>v=.slice (some ⟨z.b,z.o,none⟩) rows.length z.c∧rows.length≤z.c∧gh z.all z.o rows.flatten) (B:=fun z:vH=>[ob true z.b (.cells z.all.toArray z.E (0,0))]) fun hp q=>by
  obtain ⟨_,q⟩:=q
  rcases q with ⟨_,rfl⟩|⟨b,o,c,rfl,hc,rfl|⟨all,E,hb,hcell⟩⟩
  ·exact (hne rfl).elim
  ·exact (hne rfl).elim
  ·refine ⟨⟨b,o,c,all.toList,E⟩,⟨rfl,hc,hcell⟩,hp,fun _=>none,fun _ _ _ _ hy=>(by cases hy),Hp.le_refl _,fun _ _ hx=>(by cases hx),?_,trivial⟩
   simpa [ob] using hb
 exact ⟨z,hz,h1⟩
theorem gh.row {all:List Value} {o i:Nat} {x:List Value} (hk:∀ r∈rows,r.length=k) (h:gh all o rows.flatten) (hx:rows[i]?=some x):gh all (o+i*k) x:=by
 have h1:=ja hk hx
 have key:∀ (vs:List Value) (p:Nat),gh rows.flatten p vs→gh all (o+p) vs:=by
  intro vs
  induction vs with
  | nil=>intro _ _;trivial
  | cons v r ih=>intro p ⟨h2,h3⟩;exact ⟨h.at p v h2,by have:=ih (p+1) h3;rwa [← Nat.add_assoc] at this⟩
 exact key x _ h1
theorem gh.sub {all:List Value}:∀ {xs ys:List Value} {o:Nat},gh all o (xs++ys)→gh all o xs∧gh all (o+xs.length) ys
 | [],ys,o,h=>⟨trivial,h⟩
 | x::xs,ys,o,⟨h1,h2⟩=>by
  obtain ⟨a,b⟩:=gh.sub h2
  exact ⟨⟨h1,a⟩,by rw [List.length_cons,show o+(xs.length+1)=o+1+xs.length from by omega];exact b⟩
theorem yi {z:vH} {c:Nat} (hk:∀ r∈rows,r.length=k) (hc:rows.length≤c) (hseg:gh z.all z.o rows.flatten) {h:Hp} (q:ob true z.b (.cells z.all.toArray z.E (0,0)) h):jm k (.slice (some ⟨z.b,z.o,none⟩) rows.length c) rows h:=
 ⟨hk,.inr ⟨z.b,z.o,c,rfl,hc,.inr ⟨_,_,q,by simpa using hseg⟩⟩⟩
theorem Sat.m8 {a:Option Addr} (h:Sat W0 l w) (ha:a=none∨∃ b o,a=some ⟨b,o,none⟩) {c:Nat} (hn:a=none→c=0):Sat W0 (jm k (.slice a 0 c) []::l) w:=
 h.imp fun hp r=>⟨fun _=>none,hp,fun _ _ _ hx=>(by cases hx),fun _ _ hx=>(by cases hx),Hp.le_refl _,(by
  refine ⟨by simp,?_⟩
  rcases ha with rfl|⟨b,o,rfl⟩
  ·rw [hn rfl];exact .inl ⟨rfl,rfl⟩
  ·exact .inr ⟨b,o,c,rfl,Nat.zero_le _,.inl rfl⟩),r⟩
theorem Sat.Nr (h:Sat W0 (jm k v []::l) w):v=.slice none 0 0∨∃ b o c,v=.slice (some ⟨b,o,none⟩) 0 c:=h.fQ fun _ q=>by
 rcases q.2 with ⟨rfl,_⟩|⟨b,o,c,rfl,_,_⟩
 ·exact .inl rfl
 ·exact .inr ⟨b,o,c,rfl⟩
theorem BZ {x y:Operand} {t E m:Nat} {Y:Int} (hs:Sat W0 (jm k v rows::l) w) (hx:ev e x=some v) (hy:ev e y=some (.int .i64 Y)) (hY:Y=(m:Int)) (ht:lk dy t=some E) (hsz:lk df E=some k) (hm:m≤rows.length) (hd:Nat.blt d n=true)
 (kk:∀ v',Sat W0 (jm k v' (rows.drop m)::jm k v rows::l) w→WL ops Q n ds rest ((d,v')::e) w):WL ops Q n ds (⟨some d,.slice t x (some y) none none,ty,pos,af,none⟩::rest) e w:=by
 subst hY
 have hk:=hs.OS
 by_cases hb:rows=[]
 ·subst hb
  have hm0:m=0:=by simpa using hm
  subst hm0
  rcases hs.Nr with rfl|⟨b,o,c,rfl⟩
  ·exact pT hx ht hsz hy trivial hd (kk _ (hs.m8 (.inl rfl) (fun _=>rfl)))
  ·refine mz 0 0 hx ht hsz hy rfl (Nat.le_refl _) (Nat.zero_le _) hd (kk _ ?_)
   have:cutAt b o c 0 k=⟨b,o,none⟩:=by unfold cutAt;split<;>simp
   rw [this]
   exact hs.m8 (.inr ⟨b,o,rfl⟩) (fun h=>by cases h)
 ·obtain ⟨z,⟨rfl,hc,hseg⟩,h2⟩:=hs.mK hb
  refine mz m rows.length hx ht hsz hy rfl hm hc hd ?_
  have e2:rows.length-m=(rows.drop m).length:=by simp
  by_cases hfull:z.c=m
  ·have hall:rows.drop m=[]:=List.drop_of_length_le (by omega)
   have e1:cutAt z.b z.o z.c m k=⟨z.b,z.o,none⟩:=by unfold cutAt;rw [if_pos hfull]
   rw [e1,e2,hall]
   have:=kk (.slice (some ⟨z.b,z.o,none⟩) 0 (z.c-m)) (by rw [hall];exact hs.m8 (.inr ⟨_,_,rfl⟩) (fun h=>by cases h))
   exact this
  ·have e1:cutAt z.b z.o z.c m k=⟨z.b,z.o+m*k,none⟩:=by unfold cutAt;rw [if_neg hfull]
   rw [e1,e2]
   refine kk _ (h2.head fun hp q=>yi (z:=⟨z.b,z.o+m*k,z.c,z.all,z.E⟩) (fun r hr=>hk r (List.mem_of_mem_drop hr)) (by simp;omega) ?_ q)
   have h3:rows.flatten=(rows.take m).flatten++(rows.drop m).flatten:=by rw [← List.flatten_append,List.take_append_drop]
   rw [h3] at hseg
   have h4:=hseg.sub.2
   rw [nI (fun r hr=>hk r (List.mem_of_mem_take hr)),List.length_take,Nat.min_eq_left hm] at h4
   exact h4
theorem Sat.jK {E:Nat} (hk:∀ r∈rows,r.length=k) (h:Sat W0 (aE k v E rows.length rows.flatten::l) w):Sat W0 (jm k v rows::l) w:=by
 by_cases hv:v=.slice none 0 0
 ·subst hv
  obtain ⟨a,cap,e,_⟩:=h.ay
  have hb:rows=[]:=List.eq_nil_of_length_eq_zero (by simp at e;omega)
  subst hb
  exact h.drop.m8 (.inl rfl) (fun _=>rfl)
 ·obtain ⟨b,cap,rest,rfl,h1,h2,h3,hs⟩:=h.iT hv
  exact hs.share.head fun hp q=>yi (z:=⟨b,0,cap,_,E⟩) hk h1 (gh.all _).app q
end
abbrev FD (v:Value) (l:List Pure.az):ah:=jm 4 v (bu l)
section
attribute [local semireducible] WL WC WQ
abbrev L7:Go.Conc.Locks.MuLink:={ lock:=80,unlock:=81,ilock:=142,iunlock:=143,lockSlow:=195,unlockSlow:=197,disable:=109,enable:=110,acquire:=121,relMerge:=108,cas32:=194,add32:=196,tMutex:=128,tIMutex:=126,tPMutex:=252,tPIMutex:=325,tPI32:=327,tUP:=202,tNoCopy:=123,tU32:=124 }
theorem Ln:Go.Conc.Locks.MuLib Tryz.prog L7:=
 ⟨Tryz.func80,Tryz.func81,Tryz.func142,Tryz.func143,Tryz.func109,Tryz.func110,Tryz.func121,Tryz.func108,Tryz.func194,Tryz.func196,Tryz.underlying126,Tryz.runUnderlying126,Tryz.sizeOf126,Tryz.isAgg126,Tryz.zeroValue126,Tryz.underlying128,Tryz.runUnderlying128,Tryz.sizeOf128,Tryz.isAgg128,Tryz.zeroValue128,Tryz.underlying252,Tryz.runUnderlying252,Tryz.sizeOf252,Tryz.isAgg252,Tryz.zeroValue252,Tryz.underlying325,Tryz.runUnderlying325,Tryz.sizeOf325,Tryz.isAgg325,Tryz.zeroValue325,Tryz.underlying327,Tryz.runUnderlying327,Tryz.sizeOf327,Tryz.isAgg327,Tryz.zeroValue327,Tryz.underlying202,Tryz.runUnderlying202,Tryz.sizeOf202,Tryz.isAgg202,Tryz.zeroValue202,Tryz.underlying123,Tryz.runUnderlying123,Tryz.sizeOf123,Tryz.isAgg123,Tryz.zeroValue123,Tryz.underlying21,Tryz.runUnderlying21,Tryz.sizeOf21,Tryz.isAgg21,Tryz.zeroValue21,(by kernel_rfl)⟩
section
variable {ops:Array Oper} {Q:Exit→Act→World→Prop} {n:Nat} {ds:Md} {e:Env} {w w':World} {rest:List Oper}
variable {op:Op} {ty:TypeId} {pos:String} {af:Array Edge} {d:Nat} {v u:Value} {W0:World} {l l' r r':List ah}
theorem lq {x:Operand} {at_:Array TypeId} {b o E:Nat} {cs:List Value} (hs:Sat W0 l w) (k:∀ w',Sat W0 l' w'→WL ops Q n ds rest ((d,.tuple #[])::e) w')
 (hx:ev e x=some (.pointer (some ⟨b,o,none⟩)):=by rfl) (tk:ic l (blk b E cs) (blk b E (cs.set o (.int .i32 1))) l':=by repeat (first|exact ic.here|apply ic.there)) (hc:cs[o]?=some (.int .i32 0):=by rfl) (hd:Nat.blt d n=true:=by rfl) :
 WL ops Q n ds (⟨some d,.call { callee:=.value (.func 80),args:=#[x],argTypes:=at_ },ty,pos,af,none⟩::rest) e w:=by
 obtain ⟨r,t1,t2⟩:=tk.take
 refine DC (vs:=[.pointer (some ⟨b,o,none⟩)]) (f:=80) rfl (by simp [sZ,hx]) hd ?_
 refine (MuLone.lock_free Ln ⟨b,o,none⟩ w ((hs.cell t1 o).trans hc) (hs.free t1 o)).mono ?_
 rintro _ w' ⟨rfl,rfl⟩
 exact ⟨_,rfl,k _ (hs.setCell tk)⟩
theorem jV {x:Operand} {at_:Array TypeId} {f:Nat} (hx:ev e x=some v) (k:WL ops Q n ⟨ds.round,{ target:=.fn (.func f) #[],args:=#[v] }::ds.ds⟩ rest e w) :
 WL ops Q n ds (⟨none,.defer { callee:=.value (.func f),args:=#[x],argTypes:=at_ },ty,pos,af,none⟩::rest) e w:=fun a ha=>by
 refine wpList_plain rfl fun K hK=>?_
 unfold Oper.wp
 have hr:(execOp a.eval ⟨none,.defer { callee:=.value (.func f),args:=#[x],argTypes:=at_ },ty,pos,af,none⟩).run Tryz.prog w=.ok (.defer { target:=.fn (.func f) #[],args:=#[v] }) w:=by
  have h1:=ha.ev hx
  have h2:a.eval (.func f)=.func (.func f) #[] #[]:=rfl
  simp [execOp,resolve,h1,h2,Deferred.ofValue]
 rw [hr,Oper.upon_defer]
 exact hK _ _ (k _ ⟨ha.size,by simp [Act.put,ha.defers],ha.get⟩)
end
def Km (rs:List ResultVar) (R:Ending→World→Prop):Exit→Act→World→Prop
 | .normal,a,w | .ret,a,w=>∃ fn:Func,fn.results=rs.toArray∧Leaves Tryz.prog fn a.tmps R a.defers .returning w
 | _,_,_=>False
instance {rs:List ResultVar} {R:Ending→World→Prop}:k8 (Km rs R):=⟨fun _ _ h=>h⟩
instance {rs:List ResultVar} {R:Ending→World→Prop}:pV (Km rs R):=⟨fun _ _ _ _ _ h=>h⟩
theorem kg {fn fn':Func} (h:fn.results=fn'.results) {tmps:Array Value} {R:Ending→World→Prop}:∀ {ds:List Deferred} {u:FrameMode} {w:World},Leaves Tryz.prog fn tmps R ds u w→Leaves Tryz.prog fn' tmps R ds u w
 | [],.returning,w,⟨v,h1,h2⟩=>⟨v,by rw [← jI h];exact h1,h2⟩
 | [],.panicking c,w,k=>k
 | d::ds,u,w,⟨h1,fv,cap,f,args,h2,h3,h4⟩=>⟨h1,fv,cap,f,args,h2,h3,h4.mono fun e u' w' k=>by
  cases e with
  | returned v=>exact kg h k
  | panicked c=>exact kg h k
  | outgrown=>exact k⟩
section
variable {n:Nat} {e:Env} {w:World} {W0:World} {l l' r:List ah}
theorem nK {f:FuncId} {fn:Func} {body:Code} {n:Nat} {rs:List ResultVar} {args:List Value} {R:Ending→World→Prop}
 (hf:Tryz.prog.funcs[f]?=some fn) (hb:fn.body=some body) (hn:fn.ntmps=n) (hr:fn.results=rs.toArray) (hle:Nat.ble args.length n=true)
 (k:WC body (Km rs R) n LP (zf 0 args) w):Calls Tryz.prog f args.toArray w R:=by
 refine calls_of_wp_defers hf hb ?_
 rw [hn]
 refine wp_mono (wpIn_wide.1 (k _ (BJ hle))) ?_
 intro ex a w h
 cases ex with
 | normal=>obtain ⟨fn',hr',h⟩:=h;exact kg (hr'.trans hr.symm) h
 | ret=>obtain ⟨fn',hr',h⟩:=h;exact kg (hr'.trans hr.symm) h
 | panic chain=>exact h.elim
 | exit id=>exact h.elim
 | goto l=>exact h.elim
 | outgrown=>exact h.elim
theorem ft {x:Exit} (hx:x=.ret∨x=.normal) {rs:List ResultVar} {R:Ending→World→Prop} {vs:List Value} {b o E:Nat} {cs:List Value} (hs:Sat W0 l w)
 (k:∀ w',Sat W0 l' w'→R (.returned (tr vs)) w') (h:vF e rs=some vs:=by rfl)
 (tk:ic l (blk b E cs) (blk b E (cs.set o (.int .i32 0))) l':=by repeat (first|exact ic.here|apply ic.there)) (hc:cs[o]?=some (.int .i32 1):=by rfl) :
 WQ (Km rs R) x n ⟨none,[{ target:=.fn (.func 81) #[],args:=#[.pointer (some ⟨b,o,none⟩)] }]⟩ e w:=fun a ha=>by
 obtain ⟨r,t1,t2⟩:=tk.take
 have key:∃ fn:Func,fn.results=rs.toArray∧Leaves Tryz.prog fn a.tmps R a.defers .returning w:=by
  refine ⟨{ (default:Func) with results:=rs.toArray },rfl,?_⟩
  rw [ha.defers]
  refine leaves_cons (f:=81) (args:=#[.pointer (some ⟨b,o,none⟩)]) (by simp) ?_ ?_
  ·simp only [invoke]
   rw [show (#[Value.pointer (some ⟨b,o,none⟩)]++#[]:Array Value)=#[Value.pointer (some ⟨b,o,none⟩)] from rfl]
   exact og (f:=81) (u:=()) rfl
  ·refine (MuLone.unlock_deferred Ln ⟨b,o,none⟩ .returning w ((hs.cell t1 o).trans hc) (hs.free t1 o)).mono ?_
   rintro _ u' w' ⟨rfl,rfl,rfl⟩
   exact ⟨_,pR ha rfl h _,k _ (hs.setCell tk)⟩
 rcases hx with rfl|rfl<;>exact key
end
end
end Go.Proofs.YtecibefflhomdaaGreatDoor
