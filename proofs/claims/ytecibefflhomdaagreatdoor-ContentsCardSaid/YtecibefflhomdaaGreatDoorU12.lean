/-
  Part 12: WALKS package codec; WALKS package rows; The engine 18 views of rows that nobody writes any more.
-/
import Derived.Test.YtecibefflhomdaaGreatDoorU11
set_option maxHeartbeats 8000000
set_option maxRecDepth 100000
set_option linter.all false
namespace Go.Proofs.YtecibefflhomdaaGreatDoor
open Go
section
open Go.Proofs.YtecibefflhomdaaGreatDoor.Pure (numB textB crc crcBit crcUp crcFrom frameB numB_length Ent putB Rd beN openB beN_append beN_lt)
attribute [local irreducible] IntKind.wrap
variable {W0 w:World} {F:List HProp} {v vr:Value} {bs:Bs} {r:Nat} {rd:Rd}
theorem rtext_spec (hs:Sat W0 (rdR r rd::F) w) (hl:rd.rest.length≤140737488355328) :
 Calls Tryz.prog 94 #[.pointer (some ⟨r,0,none⟩)] w fun x w'=>x=.returned (str rd.text.1)∧Sat W0 (rdR r rd.text.2::F) w':=by
 have h1:=rd.num_lt 1
 have h2:=rd.num_rest 1
 refine enter Tryz.func94 rfl Tryz.ntmps94 Tryz.results94 rfl ?_
 refine go ?_
 refine w_call (met (rnum_spec (K:=1) hs hl (by omega)) ?_)
 rintro _ w ⟨rfl,hs⟩
 refine ⟨_,rfl,go ?_⟩
 refine w_call (met (bytes_spec (N:=((rd.num 1).1:Int)) hs (by omega) (by omega) (by omega)) ?_)
 rintro _ w ⟨v,rfl,hs⟩
 refine ⟨v,rfl,go ?_⟩
 refine wl_vstr hs (.there .here) rfl rfl ?_
 refine go ?_
 exact wq_ret rfl ⟨rfl,hs.to⟩
theorem Seg.all (vs:List Value):Seg vs 0 vs:=by
 have key:∀ (vs pre:List Value),Seg (pre++vs) pre.length vs:=by
  intro vs
  induction vs with
  | nil=>intro _;trivial
  | cons v r ih=>intro pre;exact ⟨by simp,by have:=ih (pre++[v]);simpa using this⟩
 exact key vs []
theorem entry_spec (hs:Sat W0 (rdR r rd::F) w) (hl:rd.rest.length≤140737488355328) :
 Calls Tryz.prog 167 #[.pointer (some ⟨r,0,none⟩)] w fun x w'=>x=.returned (.agg (entC rd.entry.1).toArray)∧Sat W0 (rdR r rd.entry.2::F) w':=by
 have h1:=rd.text_rest
 have h2:=rd.text.2.num_rest 8
 refine enter Tryz.func167 rfl Tryz.ntmps167 Tryz.results167 rfl ?_
 refine go ?_
 refine w_alloc hs fun w b2 hs=>?_
 refine go ?_
 refine w_call (met (rtext_spec (hs.take (.there .here)) hl) ?_)
 rintro _ w ⟨rfl,hs⟩
 refine ⟨_,rfl,go ?_⟩
 refine w_call (met (rnum_spec (K:=8) hs (by omega) (by omega)) ?_)
 rintro _ w ⟨rfl,hs⟩
 refine ⟨_,rfl,go ?_⟩
 refine w_build [str rd.text.1,str [],.bool false,.int .u64 ((rd.text.2.num 8).1:Int)] ?_
 refine w_alloc hs fun w b3 hs=>?_
 refine w_stN hs fun w hs=>?_
 have he:rd.entry=if (rd.text.2.num 8).2.rest.head?=some 255 then (⟨rd.text.1,[],true,(rd.text.2.num 8).1⟩,((rd.text.2.num 8).2.bytes 1).2)
  else (⟨rd.text.1,(rd.text.2.num 8).2.text.1,false,(rd.text.2.num 8).1⟩,(rd.text.2.num 8).2.text.2):=rfl
 rw [he]
 clear he
 generalize rd.text.1=key at *
 generalize (rd.text.2.num 8).1=seq at *
 generalize (rd.text.2.num 8).2=r1 at *
 have hl1:r1.rest.length≤140737488355328:=by omega
 obtain ⟨vr,-,hs⟩:=(hs.take (.there .here)).rdOpen
 dsimp only [List.cons_append,List.nil_append] at hs
 obtain ⟨rs,bad⟩:=r1
 dsimp only at hs hl1 ⊢
 obtain ⟨a,c,rfl,hc⟩:=(hs.take (.there .here)).vwShape
 by_cases hp:(rs.length:Int) > 0
 ·obtain ⟨z,⟨hv,hzc,hcell⟩,hs2⟩:=(hs.take (.there .here)).vwOpen (by intro h;subst h;simp at hp)
  obtain ⟨rfl,rfl⟩:a=some ⟨z.b,z.o,none⟩∧c=z.c:=by simpa using hv
  have hp':0<rs.length:=by omega
  have hbyte:=(rs[0]).toNat_lt
  have hc1:z.all[z.o+0*1]?=some (bV rs[0]):=hcell 0 _ (by simp [hp'])
  have hh:rs.head?=some rs[0]:=by rw [List.head?_eq_getElem?,List.getElem?_eq_getElem hp']
  refine go ?_
  refine wl_ixn (i:=0) rfl rfl rfl rfl rfl hp' rfl ?_
  refine wl_gT rfl ?_
  refine wl_ld hs2 rfl rfl .here hc1 rfl ?_
  by_cases h255:((rs[0]).toNat:Int)=255
  ·have h255':rs.head?=some 255:=by rw [hh];congr 1;apply UInt8.toNat_inj.1;show (rs[0]).toNat=255;omega
   rw [if_pos h255']
   refine go ?_
   refine w_call (met (bytes_spec (rd:=⟨rs,bad⟩) (N:=1) (Sat.rdClose (rd:=⟨rs,bad⟩) hs.to) hl1 (by omega) (by omega)) ?_)
   rintro _ w ⟨v,rfl,hs⟩
   refine ⟨_,rfl,go ?_⟩
   refine w_st hs fun w hs=>?_
   refine go ?_
   refine w_stN hs fun w hs=>?_
   refine go ?_
   exact wq_retw ⟨_,_,b2,0,rfl,rfl,ld_res _ hs (.there (.there (.there .here))) rfl rfl (Seg.all _),rfl⟩ ⟨rfl,hs.to⟩
  ·have h255':rs.head?≠some 255:=by rw [hh];intro h;simp only [Option.some.injEq] at h;exact h255 (by rw [h];rfl)
   rw [if_neg h255']
   refine go ?_
   refine w_call (met (rtext_spec (rd:=⟨rs,bad⟩) (Sat.rdClose (rd:=⟨rs,bad⟩) hs.to) hl1) ?_)
   rintro _ w ⟨rfl,hs⟩
   refine ⟨_,rfl,go ?_⟩
   refine w_st hs fun w hs=>?_
   refine go ?_
   refine w_stN hs fun w hs=>?_
   refine go ?_
   exact wq_retw ⟨_,_,b2,0,rfl,rfl,ld_res _ hs (.there (.there .here)) rfl rfl (Seg.all _),rfl⟩ ⟨rfl,hs.to⟩
 ·have h255':rs.head?≠some 255:=by rw [show rs=[] from List.eq_nil_of_length_eq_zero (by omega)];simp
  rw [if_neg h255']
  refine go ?_
  refine w_call (met (rtext_spec (rd:=⟨rs,bad⟩) (Sat.rdClose (rd:=⟨rs,bad⟩) hs.to) hl1) ?_)
  rintro _ w ⟨rfl,hs⟩
  refine ⟨_,rfl,go ?_⟩
  refine w_st hs fun w hs=>?_
  refine go ?_
  refine w_stN hs fun w hs=>?_
  refine go ?_
  exact wq_retw ⟨_,_,b2,0,rfl,rfl,ld_res _ hs (.there (.there .here)) rfl rfl (Seg.all _),rfl⟩ ⟨rfl,hs.to⟩
theorem sum_vw (hs:Sat W0 (vw v bs::F) w) (hb:bs.length≤140737488355328) :
 Calls Tryz.prog 165 #[v] w fun x w'=>x=.returned (.int .u32 (crc bs:Nat))∧Sat W0 (vw v bs::F) w':=by
 obtain ⟨l',hr,hs',hk⟩:=hs.rdVw .here
 exact (sum_spec hs' hr hb).mono fun x w' h=>⟨h.1,hk _ h.2⟩
theorem open_spec (hs:Sat W0 (vw v bs::F) w) (hl:bs.length≤140737488355328) :
 Calls Tryz.prog 91 #[v] w fun x w'=>∃ v1 v2,x=.returned (.tuple #[v1,v2,.bool (openB bs).isSome]) ∧
  Sat W0 (vw v1 (match openB bs with|some z=>z.1|none=>[])::vw v2 (match openB bs with|some z=>z.2|none=>bs)::F) w':=by
 obtain ⟨a,c,rfl,hc⟩:=hs.vwShape
 refine enter Tryz.func91 rfl Tryz.ntmps91 Tryz.results91 rfl ?_
 have hs0:Sat W0 (vw (.slice a bs.length c) bs::vw (.slice a bs.length c) bs::F) w:=hs.dupOf fun _=>vw_dup
 refine go ?_
 refine w_build [.slice a bs.length c,.bool false] ?_
 refine w_box hs0 fun w r hs=>?_
 have hs:=Sat.rdClose (rd:=⟨bs,false⟩) hs
 have b1:(Rd.num ⟨bs,false⟩ 4).2.rest.length≤bs.length:=Rd.num_rest ⟨bs,false⟩ 4
 have b2:=(Rd.num ⟨bs,false⟩ 4).2.num_rest 4
 have b3:=((Rd.num ⟨bs,false⟩ 4).2.num 4).2.num_rest 4
 have n1:=Rd.num_lt ⟨bs,false⟩ 4
 have n2:=(Rd.num ⟨bs,false⟩ 4).2.num_lt 4
 have n3:=((Rd.num ⟨bs,false⟩ 4).2.num 4).2.num_lt 4
 refine go ?_
 refine w_call (met (rnum_spec (K:=4) hs hl (by omega)) ?_)
 rintro _ w ⟨rfl,hs⟩
 refine ⟨_,rfl,go ?_⟩
 refine w_call (met (rnum_spec (K:=4) hs (by omega) (by omega)) ?_)
 rintro _ w ⟨rfl,hs⟩
 refine ⟨_,rfl,go ?_⟩
 refine w_call (met (rnum_spec (K:=4) hs (by omega) (by omega)) ?_)
 rintro _ w ⟨rfl,hz⟩
 refine ⟨_,rfl,?_⟩
 clear hs hs0
 have ho:openB bs=(let n:=Rd.num ⟨bs,false⟩ 4
  let t:=n.2.num 4
  let s:=t.2.num 4
  if n.1≠4294967295-t.1 then none else
  let i:=s.2.bytes (n.1:Int)
  if i.2.bad=true∨crc i.1≠s.1 then none else some (i.1,i.2.rest)):=rfl
 dsimp only at ho
 have b4:=(((Rd.num ⟨bs,false⟩ 4).2.num 4).2.num 4).2.bytes_rest ((Rd.num ⟨bs,false⟩ 4).1:Int)
 have b5:=(((Rd.num ⟨bs,false⟩ 4).2.num 4).2.num 4).2.bytes_len ((Rd.num ⟨bs,false⟩ 4).1:Int)
 generalize (((Rd.num ⟨bs,false⟩ 4).2.num 4).2.num 4).1=s at *
 generalize (((Rd.num ⟨bs,false⟩ 4).2.num 4).2.num 4).2=r3 at *
 generalize ((Rd.num ⟨bs,false⟩ 4).2.num 4).1=t at *
 generalize ((Rd.num ⟨bs,false⟩ 4).2.num 4).2=r2 at *
 generalize (Rd.num ⟨bs,false⟩ 4).1=n at *
 generalize (Rd.num ⟨bs,false⟩ 4).2=r1 at *
 refine go ?_
 refine wl_not32 (N:=t) rfl (by omega) rfl ?_
 by_cases hn:(n:Int)=((4294967295-t:Nat):Int)
 ·have hn':¬ n≠4294967295-t:=by omega
  have hnn:¬ (n:Int)≠((4294967295-t:Nat):Int):=by omega
  rw [if_neg hn'] at ho
  refine go ?_
  refine w_call (met (bytes_spec (N:=(n:Int)) hz (by omega) (by omega) (by omega)) ?_)
  rintro _ w ⟨v1,rfl,hs⟩
  refine ⟨_,rfl,?_⟩
  generalize r3.bytes (n:Int)=q at *
  obtain ⟨i,r4,bad⟩:=q
  dsimp only at ho b4 b5 hs
  obtain ⟨a1,c1,rfl,hc1⟩:=(hs.take (.there .here)).vwShape
  obtain ⟨vr,-,hs⟩:=hs.rdOpen
  dsimp only [List.cons_append,List.nil_append] at hs
  have hcrc:=Pure.crc_lt i
  cases bad with
  | true=>
   rw [if_pos (.inl rfl)] at ho
   rw [ho]
   refine go ?_
   exact wq_ret rfl ⟨_,_,rfl,(hs.vwEmp (.inl rfl) (fun _=>rfl)).to⟩
  | false=>
   refine go ?_
   refine w_call (met (sum_vw (hs.take (.there (.there .here))) (by omega)) ?_)
   rintro _ w ⟨rfl,hs⟩
   refine ⟨_,rfl,?_⟩
   by_cases hs2:((crc i:Nat):Int)=(s:Int)
   ·have hss:¬ ((crc i:Nat):Int)≠(s:Int):=by omega
    rw [if_neg (by simp;omega)] at ho
    rw [ho]
    refine go ?_
    refine wc_draw [blk r 190 [vr,.bool false]] [(0,false),(1,false),(2,false),(3,false),(4,false),(5,false),(6,false),(7,false)] hs.to (by kernel_rfl) fun w hs=>?_
    refine go ?_
    exact wq_ret rfl ⟨_,_,rfl,hs.to⟩
   ·have hss:((crc i:Nat):Int)≠(s:Int):=hs2
    rw [if_pos (by simp;omega)] at ho
    rw [ho]
    refine go ?_
    exact wq_ret rfl ⟨_,_,rfl,(hs.vwEmp (.inl rfl) (fun _=>rfl)).to⟩
 ·have hn':n≠4294967295-t:=by omega
  have hnn:(n:Int)≠((4294967295-t:Nat):Int):=hn
  rw [if_pos hn'] at ho
  rw [ho]
  refine go ?_
  exact wq_ret rfl ⟨_,_,rfl,(hz.vwEmp (.inl rfl) (fun _=>rfl)).to⟩
end
section
open Go.Proofs.YtecibefflhomdaaGreatDoor.Pure (Ent less bltB searchL searchG addL searchL_le searchG_fuel addL_length)
attribute [local irreducible] IntKind.wrap
section
variable {ops:Array Oper} {Q:Exit→Act→World→Prop} {n:Nat} {ds:Md} {e:Env} {w w':World} {rest:List Oper} {ord:List (Nat×Bool)}
variable {op:Op} {ty:TypeId} {pos:String} {af:Array Edge} {d i:Nat} {v u:Value} {W0:World} {l l' r r':List HProp}
theorem wl_half {x:Operand} {t ty2 N:Nat} {X:Int} (hx:ev e x=some (.int .i64 X)) (hX:X=(N:Int)) (hN:N≤9223372036854775807) (hd:Nat.blt d n=true)
 (kk:WL ops Q n ds rest ((d,.int .i64 ((N / 2:Nat):Int))::e) w):WL ops Q n ds (⟨some d,.binOp .quo t x (.const (.int .i64 2)) ty2,ty,pos,af,none⟩::rest) e w:=by
 subst hX
 refine wl_run (fun a ha=>?_) hd kk
 have h2:IntKind.i64.wrap ((N:Int) / 2)=(N:Int) / 2:=wrap_i64 (by omega) (by omega)
 have h3:=ha.ev hx
 have h4:a.eval (.const (.int .i64 2))=.int .i64 2:=rfl
 simp [execOp,h3,h4,eqGuard,Go.binOp,Op.intDiv,h2]
theorem wl_copy {x y:Operand} {t ts E E2 k b o dl dc b2 o2 sl sc:Nat} {sh:Bool} {all cs:List Value} (news:List Value) (hs:Sat W0 l w) (hx:ev e x=some (.slice (some ⟨b,o,none⟩) dl dc)) (hy:ev e y=some (.slice (some ⟨b2,o2,none⟩) sl sc))
 (ht:lk tSlice t=some E) (hsz:lk tSize E=some k) (tk2:Take (ob sh b2 (.cells all.toArray E2 (0,0))) l r) (hsrc:Seg all o2 news) (hlen:news.length=min sl dl*k) (h1:∀ u∈news,isOne u=true)
 (tk:Repl l (blk b E cs) (blk b E (splice cs o news)) l') (hfit:o+news.length≤cs.length) (hd:Nat.blt d n=true) (kk:∀ w',Sat W0 l' w'→WL ops Q n ds rest ((d,.int .i64 ((min sl dl:Nat):Int))::e) w') :
 WL ops Q n ds (⟨some d,.call { callee:=.builtin .copy,args:=#[x,y],argTypes:=#[t,ts] },ty,pos,af,none⟩::rest) e w:=by
 obtain ⟨r1,t1,t2⟩:=tk.take
 refine wl_run (w':=w.setRow b (splice cs o news).toArray) (fun a ha=>?_) hd (kk _ (setRow_sat hs tk))
 have hl:=run_loadCells_list (P:=Tryz.prog) w ⟨b2,o2,none⟩ news (fun j v hj=>by rw [add_eq,hs.cell tk2];exact hsrc.at j v hj)
 have hst:=run_storeCells_at Tryz.prog b o E news 0 cs.toArray w (hs.at t1) (by simpa using hfit) (fun v hv=>(isOne_cells (h1 v hv)).2)
 obtain ⟨i,hi,rfl⟩:=kSize_info hsz
 have e1:Nat.min sl dl*i.size=news.length:=hlen.symm
 simp only [execOp,resolve,List.map_toArray,List.map_cons,List.map_nil,ha.ev hx,ha.ev hy,invoke,Go.builtin,Sem.run_bind,Sem.run_pure,Result.andThen_ok]
 simp [Builtin.copy_,und_of (kSlice_und ht),Builtin.lenOf,Builtin.firstCells,sizeOf,typeInfo,hi,e1,hl,hst,splice,goInt]
theorem cut_run {x:Operand} {lo hi:Option Operand} {t E k b o len cap:Nat} {dd:Option Nat} {a:Act} {ww:World} (l' h':Nat) (ha:Fr n ds e a) (hx:ev e x=some (.slice (some ⟨b,o,none⟩) len cap)) (ht:lk tSlice t=some E) (hsz:lk tSize E=some k)
 (hlo:match lo with|none=>l'=0|some y=>ev e y=some (.int .i64 (l':Int))) (hhi:match hi with|none=>h'=len|some y=>ev e y=some (.int .i64 (h':Int)))
 (h1:l'≤h') (h2:h'≤cap):(execOp a.eval ⟨dd,.slice t x lo hi none,ty,pos,af,none⟩).run Tryz.prog ww=.ok (.value (.slice (some (cutAt b o cap l' k)) (h'-l') (cap-l'))) ww:=by
 have hu:=kSlice_und ht
 have e1:(if cap=l' then (some ⟨b,o,none⟩:Option Addr) else Option.map (fun x:Addr=>x.add (l'*k)) (some (⟨b,o,none⟩:Addr)))=some (cutAt b o cap l' k):=by
  unfold cutAt;split<;>simp [add_eq]
 have c1:(l':Int)≤h':=by omega
 have c2:(h':Int)≤cap:=by omega
 cases lo with
 | none=>
  simp only at hlo;subst hlo
  cases hi with
  | none=>simp only at hhi;subst hhi;simp [execOp,ha.ev hx,Instr.sliceAt,Instr.slice,und_of hu,size_of hsz,Instr.sliceBounds,← e1]
  | some y=>simp [execOp,ha.ev hx,ha.ev hhi,Instr.sliceAt,Instr.slice,und_of hu,size_of hsz,Instr.sliceBounds,Instr.sliceBound,asIntOf,h2,← e1]
 | some z=>
  cases hi with
  | none=>simp only at hhi;subst hhi;simp [execOp,ha.ev hx,ha.ev hlo,Instr.sliceAt,Instr.slice,und_of hu,size_of hsz,Instr.sliceBounds,Instr.sliceBound,asIntOf,h1,← e1]
  | some y=>simp [execOp,ha.ev hx,ha.ev hlo,ha.ev hhi,Instr.sliceAt,Instr.slice,und_of hu,size_of hsz,Instr.sliceBounds,Instr.sliceBound,asIntOf,h1,h2,← e1]
theorem wo_cut {S:World→Prop} {x:Operand} {lo hi:Option Operand} {t E k b o len cap:Nat} (l' h':Nat) (ho:ops[i]?=some ⟨some d,.slice t x lo hi none,ty,pos,af,none⟩) (hx:ev e x=some (.slice (some ⟨b,o,none⟩) len cap)) (ht:lk tSlice t=some E) (hsz:lk tSize E=some k)
 (hlo:match lo with|none=>l'=0|some y=>ev e y=some (.int .i64 (l':Int))) (hhi:match hi with|none=>h'=len|some y=>ev e y=some (.int .i64 (h':Int)))
 (h1:l'≤h') (h2:h'≤cap) (hd:Nat.blt d n=true) (kk:WO ops Q S n ds ord ((d,.slice (some (cutAt b o cap l' k)) (h'-l') (cap-l'))::e) w):WO ops Q S n ds ((i,false)::ord) e w:=
 wo_y ho (fun a w' ha _=>cut_run l' h' ha hx ht hsz (by cases lo<;>exact hlo) (by cases hi<;>exact hhi) h1 h2) hd kk
theorem wo_ixn {S:World→Prop} {x y:Operand} {t E k b o len c j:Nat} {Y:Int} (ho:ops[i]?=some ⟨some d,.indexAddr t x y,ty,pos,af,none⟩) (hx:ev e x=some (.slice (some ⟨b,o,none⟩) len c)) (hy:ev e y=some (.int .i64 Y)) (hY:Y=(j:Int)) (ht:lk tSlice t=some E) (hsz:lk tSize E=some k)
 (h1:j<len) (hd:Nat.blt d n=true) (kk:WO ops Q S n ds ord ((d,.pointer (some ⟨b,o+j*k,none⟩))::e) w):WO ops Q S n ds ((i,false)::ord) e w:=by
 subst hY
 refine wo_y ho (fun a w' ha _=>?_) hd kk
 have h0:(0:Int)≤(j:Int):=by omega
 have h1':(j:Int)<(len:Int):=by omega
 have h3:¬ len≤j:=by omega
 simp [execOp,ha.ev hx,ha.ev hy,Instr.indexAt,asIntOf,und_of (kSlice_und ht),size_of hsz,h0,h1',h3,add_eq]
end
theorem bltB_eq:∀ a b:Bs,bltB a b=ltb a b
 | _,[]=>by simp [bltB,ltb]
 | [],_::_=>rfl
 | a::x,b::y=>by simp only [bltB,ltb,bltB_eq x y]
theorem Seg.app {cs rest:List Value} {o:Nat}:∀ {vs:List Value},Seg cs o vs→Seg (cs++rest) o vs:=by
 intro vs
 induction vs generalizing o with
 | nil=>intro _;trivial
 | cons v r ih=>intro ⟨h1,h2⟩;exact ⟨by rw [List.getElem?_append_left (List.getElem?_eq_some_iff.1 h1).1];exact h1,ih h2⟩
theorem Seg.pre {cs:List Value} (pre:List Value) {o:Nat}:∀ {vs:List Value},Seg cs o vs→Seg (pre++cs) (pre.length+o) vs:=by
 intro vs
 induction vs generalizing o with
 | nil=>intro _;trivial
 | cons v r ih=>intro ⟨h1,h2⟩;exact ⟨by rw [List.getElem?_append_right (by omega),Nat.add_sub_cancel_left];exact h1,by have:=ih h2;rwa [← Nat.add_assoc] at this⟩
theorem flat_len {k:Nat}:∀ {rows:List (List Value)},(∀ r∈rows,r.length=k)→rows.flatten.length=rows.length*k
 | [],_=>by simp
 | r::rows,h=>by
  rw [List.flatten_cons,List.length_append,h r List.mem_cons_self,flat_len fun x hx=>h x (List.mem_cons_of_mem _ hx),List.length_cons,Nat.add_mul,Nat.one_mul,Nat.add_comm]
theorem rows_seg {k:Nat}:∀ {rows:List (List Value)} {i:Nat} {r:List Value},(∀ r∈rows,r.length=k)→rows[i]?=some r→Seg rows.flatten (i*k) r
 | r0::rows,0,r,_,hr=>by
  simp at hr;subst hr
  rw [List.flatten_cons,Nat.zero_mul];exact (Seg.all r0).app
 | r0::rows,i+1,r,h,hr=>by
  have:=rows_seg (i:=i) (fun x hx=>h x (List.mem_cons_of_mem _ hx)) (by simpa using hr)
  have h2:=Seg.pre r0 this
  rw [h r0 List.mem_cons_self] at h2
  rw [List.flatten_cons,Nat.add_mul,Nat.one_mul,Nat.add_comm];exact h2
def entsC (l:List Ent):List (List Value):=l.map entC
@[simp] theorem entsC_length (l:List Ent):(entsC l).length=l.length:=by simp [entsC]
theorem entsC_k (l:List Ent):∀ r∈entsC l,r.length=4:=fun r hr=>by obtain ⟨e,_,rfl⟩:=List.mem_map.1 hr;rfl
abbrev entS (v:Value) (l:List Ent):HProp:=ownS 4 v 256 l.length (entsC l).flatten
def memC (m:Nat) (l:List Ent):HProp:=fun h=>∃ v,sepL [blk m 120 [v],entS v l] h
variable {W0 w:World} {F:List HProp} {v:Value} {m:Nat} {l:List Ent}
theorem Sat.memOpen (h:Sat W0 (memC m l::F) w):∃ v,Sat W0 (blk m 120 [v]::entS v l::F) w:=by
 obtain ⟨v,_,hs⟩:=h.open1 (φ:=fun _:Value=>True) (B:=fun v=>[blk m 120 [v],entS v l]) fun hp ⟨v,k⟩=>⟨v,trivial,k⟩
 exact ⟨v,hs⟩
theorem Sat.memClose (h:Sat W0 (blk m 120 [v]::entS v l::F) w):Sat W0 (memC m l::F) w:=Sat.close (B:=[blk m 120 [v],entS v l]) h fun hp k=>⟨v,k⟩
theorem less_spec {a b:Ent} (hs:Sat W0 F w):Calls Tryz.prog 215 #[.agg (entC a).toArray,.agg (entC b).toArray] w fun x w'=>x=.returned (.bool (less a b))∧Sat W0 F w':=by
 refine enter Tryz.func215 rfl Tryz.ntmps215 Tryz.results215 rfl ?_
 refine go ?_
 refine w_box (z:=entC a) hs fun w b1 hs=>?_
 refine w_box (z:=entC b) hs fun w b2 hs=>?_
 unfold less
 by_cases hk:a.key=b.key
 ·have hk':¬ a.key≠b.key:=fun h=>h hk
  rw [if_neg hk']
  refine go ?_
  exact wq_ret rfl ⟨by show Ending.returned (.bool (decide ((b.seq:Int)<(a.seq:Int))))=_;rw [decide_eq_decide.2 (show ((b.seq:Int)<(a.seq:Int))↔b.seq<a.seq by omega)],hs.to⟩
 ·have hk':a.key≠b.key:=hk
  rw [if_pos hk',bltB_eq]
  refine go ?_
  exact wq_ret rfl ⟨rfl,hs.to⟩
theorem Sat.entLen (h:Sat W0 (entS v l::F) w):∃ a c,v=.slice a l.length c∧l.length≤9223372036854775807:=by
 obtain ⟨a,c,hv,h1,h2⟩:=h.ownShape
 exact ⟨a,c,hv,by simp only [maxLen] at h2;omega⟩
theorem len_spec (hs:Sat W0 (memC m l::F) w):Calls Tryz.prog 98 #[idV m] w fun x w'=>x=.returned (.int .i64 (l.length:Int))∧Sat W0 (memC m l::F) w':=by
 obtain ⟨v,hs⟩:=hs.memOpen
 obtain ⟨a,c,rfl,-⟩:=(hs.take (.there .here)).entLen
 refine enter Tryz.func98 rfl Tryz.ntmps98 Tryz.results98 rfl ?_
 refine go ?_
 exact wq_ret rfl ⟨rfl,hs.memClose⟩
theorem search_spec {e:Ent} (hs:Sat W0 (memC m l::F) w) (hmx:l.length≤1099511627776):Calls Tryz.prog 198 #[idV m,.agg (entC e).toArray] w fun x w'=>x=.returned (.int .i64 (searchL l e:Int))∧Sat W0 (memC m l::F) w':=by
 obtain ⟨v,hs⟩:=hs.memOpen
 obtain ⟨a,c,rfl,hmax⟩:=(hs.take (.there .here)).entLen
 refine enter Tryz.func198 rfl Tryz.ntmps198 Tryz.results198 rfl ?_
 refine go ?_
 refine w_box (z:=entC e) hs fun w b1 hs=>?_
 refine go ?_
 refine wc_draw [blk m 120 [.slice a l.length c]] [(0,false),(1,false),(2,false),(3,false),(4,false),(5,false),(6,false)] hs (by kernel_rfl) fun w hs=>?_
 refine go ?_
 refine wc_loop (α:=Nat×Nat) (fun z=>[(0,idV m),(3,idV b1),(5,.int .i64 (z.1:Int)),(6,.int .i64 (z.2:Int))])
  (fun z w=>(z.1≤z.2∧z.2≤l.length∧searchG l e l.length z.1 z.2=searchL l e)∧Sat W0 (blk b1 256 (entC e)::blk m 120 [.slice a l.length c]::entS (.slice a l.length c) l::F) w) (fun z=>z.2-z.1) (0,l.length) ⟨rfl,rfl,rfl,rfl,trivial⟩ ⟨⟨Nat.zero_le _,Nat.le_refl _,rfl⟩,hs.to⟩ ?_
 clear hs
 rintro ⟨lo,hi⟩ w ⟨⟨h1,h2,h3⟩,hs⟩
 dsimp only at h1 h2 h3 hs ⊢
 by_cases hlt:lo<hi
 ·have hmid:(lo+hi) / 2<l.length:=by omega
  have hstep:searchG l e l.length lo hi=if less l[(lo+hi) / 2] e=true then searchG l e l.length ((lo+hi) / 2+1) hi else searchG l e l.length lo ((lo+hi) / 2):=by
   obtain ⟨f,hf⟩:∃ f,l.length=f+1:=⟨l.length-1,by omega⟩
   rw [hf,searchG,if_pos hlt,show l.getD ((lo+hi) / 2) default=l[(lo+hi) / 2] from by simp [List.getD,hmid]]
   rw [searchG_fuel l e f (f+1) ((lo+hi) / 2+1) hi (by omega) (by omega),searchG_fuel l e f (f+1) lo ((lo+hi) / 2) (by omega) (by omega)]
  refine go ?_
  refine wl_half (N:=lo+hi) rfl (by omega) (by omega) rfl ?_
  refine go ?_
  obtain ⟨b,cap,rs,hv,q1,q2,q3,hs2⟩:=(hs.take (.there (.there .here))).ownPos (by omega)
  simp only [Value.slice.injEq] at hv
  obtain ⟨rfl,_,rfl⟩:=hv
  have hseg:Seg ((entsC l).flatten++rs) (0+(lo+hi) / 2*4) (entC l[(lo+hi) / 2]):=by
   rw [Nat.zero_add]
   exact (rows_seg (entsC_k l) (by simp [entsC,hmid])).app
  refine wc_draw (l:=blk b 256 ((entsC l).flatten++rs)::blk b1 256 (entC e)::blk m 120 [.slice (some ⟨b,0,none⟩) l.length c]::F) [blk b 256 ((entsC l).flatten++rs),blk b1 256 (entC e),blk m 120 [.slice (some ⟨b,0,none⟩) l.length c]] [(0,false),(1,false),(2,false),(3,false),(4,false),(5,false),(6,false),(7,false),(8,true)] hs2 (by kernel_rfl) fun w hs=>?_
  refine go ?_
  refine wo_ixn (j:=(lo+hi) / 2) rfl rfl rfl rfl rfl rfl hmid rfl ?_
  refine wo_ldN (entC l[(lo+hi) / 2]) rfl rfl rfl rfl .here hseg rfl ?_
  refine go ?_
  refine w_call (met (less_spec (a:=l[(lo+hi) / 2]) (b:=e) hs) ?_)
  rintro _ w ⟨rfl,hs⟩
  refine ⟨_,rfl,?_⟩
  have mk:∀ w,Sat W0 (blk b 256 ((entsC l).flatten++rs)::blk b1 256 (entC e)::blk m 120 [.slice (some ⟨b,0,none⟩) l.length c]::F) w→Sat W0 (blk b1 256 (entC e)::blk m 120 [.slice (some ⟨b,0,none⟩) l.length c]::entS (.slice (some ⟨b,0,none⟩) l.length c) l::F) w:=fun w hs=>by
   have:=Sat.ownClose (k:=4) (len:=l.length) hs q1 q2 q3 (by rw [flat_len (entsC_k l),entsC_length]) (fun u hu=>by
    obtain ⟨r,hr,hur⟩:=List.mem_flatten.1 hu
    obtain ⟨x,_,rfl⟩:=List.mem_map.1 hr
    simp [entC] at hur;rcases hur with rfl|rfl|rfl|rfl<;>rfl)
   exact this.to
  rw [hstep] at h3
  cases hl:less l[(lo+hi) / 2] e with
  | true=>
   rw [hl,if_pos rfl] at h3
   refine go ?_
   exact wq_round ((lo+hi) / 2+1,hi) ⟨rfl,rfl,rfl,rfl,trivial⟩ ⟨⟨by omega,h2,h3⟩,mk _ hs⟩ (by simp;omega)
  | false=>
   rw [hl,if_neg (by simp)] at h3
   refine go ?_
   exact wq_round (lo,(lo+hi) / 2) ⟨rfl,rfl,rfl,rfl,trivial⟩ ⟨⟨by omega,by omega,h3⟩,mk _ hs⟩ (by simp;omega)
 ·have he:searchL l e=lo:=by
   rw [← h3]
   cases hf:l.length with
   | zero=>simp [searchG]
   | succ f=>unfold searchG;rw [if_neg hlt]
  refine go ?_
  exact wq_ret rfl ⟨by rw [he];rfl,Sat.memClose (v:=.slice a l.length c) hs.to⟩
theorem entC_one (e:Ent):(entC e).all isOne=true:=rfl
theorem entsC_one (l:List Ent):∀ u∈(entsC l).flatten,isOne u=true:=fun u hu=>by
 obtain ⟨r,hr,hur⟩:=List.mem_flatten.1 hu
 obtain ⟨x,_,rfl⟩:=List.mem_map.1 hr
 exact List.all_eq_true.1 (entC_one x) u hur
theorem entsC_flat (l:List Ent):(entsC l).flatten.length=l.length*4:=by rw [flat_len (entsC_k l),entsC_length]
theorem ents_cons (l:List Ent) (e:Ent):(entsC (l++[e])).flatten=(entsC l).flatten++entC e:=by simp [entsC]
def ef (l:List Ent):List Value:=(entsC l).flatten
theorem ef_append (a b:List Ent):ef (a++b)=ef a++ef b:=by simp [ef,entsC]
theorem ef_cons (e:Ent) (b:List Ent):ef (e::b)=entC e++ef b:=by simp [ef,entsC]
@[simp] theorem ef_nil:ef []=[]:=rfl
theorem ef_len (l:List Ent):(ef l).length=l.length*4:=entsC_flat l
end
def rvw (k:Nat) (v:Value) (rows:List (List Value)):HProp:=fun h=>(∀ r∈rows,r.length=k) ∧
 ((v=.slice none 0 0∧rows=[])∨∃ b o c,v=.slice (some ⟨b,o,none⟩) rows.length c∧rows.length≤c∧(rows=[]∨∃ all E,h b=some (true,.cells all E (0,0))∧Seg all.toList o rows.flatten))
section
variable {ops:Array Oper} {Q:Exit→Act→World→Prop} {n:Nat} {ds:Md} {e:Env} {w w':World} {rest:List Oper}
variable {op:Op} {ty:TypeId} {pos:String} {af:Array Edge} {d:Nat} {v u:Value} {W0:World} {l l' r r':List HProp} {k:Nat} {rows:List (List Value)}
theorem rvw_dup {h:Hp} (q:rvw k v rows h):∃ h1,Hp.le h1 h∧(∀ i x,h1 i=some x→x.1=true)∧rvw k v rows h1:=by
 obtain ⟨hk,q⟩:=q
 rcases q with ⟨rfl,rfl⟩|⟨b,o,c,rfl,hc,q⟩
 ·exact ⟨fun _=>none,fun _ _ hx=>(by cases hx),fun _ _ hx=>(by cases hx),hk,.inl ⟨rfl,rfl⟩⟩
 ·rcases q with rfl|⟨all,E,hb,hcell⟩
  ·exact ⟨fun _=>none,fun _ _ hx=>(by cases hx),fun _ _ hx=>(by cases hx),hk,.inr ⟨b,o,c,rfl,hc,.inl rfl⟩⟩
  ·refine ⟨fun i=>if i=b then some (true,.cells all E (0,0)) else none,fun i x hx=>?_,fun i x hx=>?_,hk,.inr ⟨b,o,c,rfl,hc,.inr ⟨all,E,by simp,hcell⟩⟩⟩
   ·by_cases hi:i=b
    ·subst hi;simp at hx;subst hx;exact hb
    ·simp [hi] at hx
   ·by_cases hi:i=b
    ·subst hi;simp at hx;subst hx;rfl
    ·simp [hi] at hx
theorem Sat.rvDup (h:Sat W0 (rvw k v rows::l) w):Sat W0 (rvw k v rows::rvw k v rows::l) w:=h.dupOf fun _=>rvw_dup
theorem Sat.rvShape (h:Sat W0 (rvw k v rows::l) w):∃ a c,v=.slice a rows.length c∧rows.length≤c:=h.pure1 fun _ q=>by
 rcases q.2 with ⟨rfl,rfl⟩|⟨b,o,c,rfl,hc,_⟩
 ·exact ⟨none,0,rfl,by simp⟩
 ·exact ⟨_,c,rfl,hc⟩
theorem Sat.rvK (h:Sat W0 (rvw k v rows::l) w):∀ r∈rows,r.length=k:=h.pure1 fun _ q=>q.1
theorem Sat.rvOpen (h:Sat W0 (rvw k v rows::l) w) (hne:rows≠[]):∃ z:VwAt,(v=.slice (some ⟨z.b,z.o,none⟩) rows.length z.c∧rows.length≤z.c∧Seg z.all z.o rows.flatten)∧Sat W0 (ob true z.b (.cells z.all.toArray z.E (0,0))::rvw k v rows::l) w:=by
 obtain ⟨z,hz,h1⟩:=(h.dupOf fun _=>rvw_dup).open1 (φ:=fun z:VwAt=>v=.slice (some ⟨z.b,z.o,none⟩) rows.length z.c∧rows.length≤z.c∧Seg z.all z.o rows.flatten) (B:=fun z:VwAt=>[ob true z.b (.cells z.all.toArray z.E (0,0))]) fun hp q=>by
  obtain ⟨_,q⟩:=q
  rcases q with ⟨_,rfl⟩|⟨b,o,c,rfl,hc,rfl|⟨all,E,hb,hcell⟩⟩
  ·exact (hne rfl).elim
  ·exact (hne rfl).elim
  ·refine ⟨⟨b,o,c,all.toList,E⟩,⟨rfl,hc,hcell⟩,hp,fun _=>none,fun _ _ _ _ hy=>(by cases hy),Hp.le_refl _,fun _ _ hx=>(by cases hx),?_,trivial⟩
   simpa [ob] using hb
 exact ⟨z,hz,h1⟩
theorem Seg.row {all:List Value} {o i:Nat} {x:List Value} (hk:∀ r∈rows,r.length=k) (h:Seg all o rows.flatten) (hx:rows[i]?=some x):Seg all (o+i*k) x:=by
 have h1:=rows_seg hk hx
 have key:∀ (vs:List Value) (p:Nat),Seg rows.flatten p vs→Seg all (o+p) vs:=by
  intro vs
  induction vs with
  | nil=>intro _ _;trivial
  | cons v r ih=>intro p ⟨h2,h3⟩;exact ⟨h.at p v h2,by have:=ih (p+1) h3;rwa [← Nat.add_assoc] at this⟩
 exact key x _ h1
theorem Seg.sub {all:List Value}:∀ {xs ys:List Value} {o:Nat},Seg all o (xs++ys)→Seg all o xs∧Seg all (o+xs.length) ys
 | [],ys,o,h=>⟨trivial,h⟩
 | x::xs,ys,o,⟨h1,h2⟩=>by
  obtain ⟨a,b⟩:=Seg.sub h2
  exact ⟨⟨h1,a⟩,by rw [List.length_cons,show o+(xs.length+1)=o+1+xs.length from by omega];exact b⟩
theorem rvw_of {z:VwAt} {c:Nat} (hk:∀ r∈rows,r.length=k) (hc:rows.length≤c) (hseg:Seg z.all z.o rows.flatten) {h:Hp} (q:ob true z.b (.cells z.all.toArray z.E (0,0)) h):rvw k (.slice (some ⟨z.b,z.o,none⟩) rows.length c) rows h:=
 ⟨hk,.inr ⟨z.b,z.o,c,rfl,hc,.inr ⟨_,_,q,by simpa using hseg⟩⟩⟩
theorem Sat.rvEmp {a:Option Addr} (h:Sat W0 l w) (ha:a=none∨∃ b o,a=some ⟨b,o,none⟩) {c:Nat} (hn:a=none→c=0):Sat W0 (rvw k (.slice a 0 c) []::l) w:=
 h.imp fun hp r=>⟨fun _=>none,hp,fun _ _ _ hx=>(by cases hx),fun _ _ hx=>(by cases hx),Hp.le_refl _,(by
  refine ⟨by simp,?_⟩
  rcases ha with rfl|⟨b,o,rfl⟩
  ·rw [hn rfl];exact .inl ⟨rfl,rfl⟩
  ·exact .inr ⟨b,o,c,rfl,Nat.zero_le _,.inl rfl⟩),r⟩
theorem Sat.rvNil (h:Sat W0 (rvw k v []::l) w):v=.slice none 0 0∨∃ b o c,v=.slice (some ⟨b,o,none⟩) 0 c:=h.pure1 fun _ q=>by
 rcases q.2 with ⟨rfl,_⟩|⟨b,o,c,rfl,_,_⟩
 ·exact .inl rfl
 ·exact .inr ⟨b,o,c,rfl⟩
theorem wl_rlo {x y:Operand} {t E m:Nat} {Y:Int} (hs:Sat W0 (rvw k v rows::l) w) (hx:ev e x=some v) (hy:ev e y=some (.int .i64 Y)) (hY:Y=(m:Int)) (ht:lk tSlice t=some E) (hsz:lk tSize E=some k) (hm:m≤rows.length) (hd:Nat.blt d n=true)
 (kk:∀ v',Sat W0 (rvw k v' (rows.drop m)::rvw k v rows::l) w→WL ops Q n ds rest ((d,v')::e) w):WL ops Q n ds (⟨some d,.slice t x (some y) none none,ty,pos,af,none⟩::rest) e w:=by
 subst hY
 have hk:=hs.rvK
 by_cases hb:rows=[]
 ·subst hb
  have hm0:m=0:=by simpa using hm
  subst hm0
  rcases hs.rvNil with rfl|⟨b,o,c,rfl⟩
  ·exact wl_cut0 hx ht hsz hy trivial hd (kk _ (hs.rvEmp (.inl rfl) (fun _=>rfl)))
  ·refine wl_cut 0 0 hx ht hsz hy rfl (Nat.le_refl _) (Nat.zero_le _) hd (kk _ ?_)
   have:cutAt b o c 0 k=⟨b,o,none⟩:=by unfold cutAt;split<;>simp
   rw [this]
   exact hs.rvEmp (.inr ⟨b,o,rfl⟩) (fun h=>by cases h)
 ·obtain ⟨z,⟨rfl,hc,hseg⟩,h2⟩:=hs.rvOpen hb
  refine wl_cut m rows.length hx ht hsz hy rfl hm hc hd ?_
  have e2:rows.length-m=(rows.drop m).length:=by simp
  by_cases hfull:z.c=m
  ·have hall:rows.drop m=[]:=List.drop_of_length_le (by omega)
   have e1:cutAt z.b z.o z.c m k=⟨z.b,z.o,none⟩:=by unfold cutAt;rw [if_pos hfull]
   rw [e1,e2,hall]
   have:=kk (.slice (some ⟨z.b,z.o,none⟩) 0 (z.c-m)) (by rw [hall];exact hs.rvEmp (.inr ⟨_,_,rfl⟩) (fun h=>by cases h))
   exact this
  ·have e1:cutAt z.b z.o z.c m k=⟨z.b,z.o+m*k,none⟩:=by unfold cutAt;rw [if_neg hfull]
   rw [e1,e2]
   refine kk _ (h2.head fun hp q=>rvw_of (z:=⟨z.b,z.o+m*k,z.c,z.all,z.E⟩) (fun r hr=>hk r (List.mem_of_mem_drop hr)) (by simp;omega) ?_ q)
   have h3:rows.flatten=(rows.take m).flatten++(rows.drop m).flatten:=by rw [← List.flatten_append,List.take_append_drop]
   rw [h3] at hseg
   have h4:=hseg.sub.2
   rw [flat_len (fun r hr=>hk r (List.mem_of_mem_take hr)),List.length_take,Nat.min_eq_left hm] at h4
   exact h4
theorem Sat.rvShare {E:Nat} (hk:∀ r∈rows,r.length=k) (h:Sat W0 (ownS k v E rows.length rows.flatten::l) w):Sat W0 (rvw k v rows::l) w:=by
 by_cases hv:v=.slice none 0 0
 ·subst hv
  obtain ⟨a,cap,e,_⟩:=h.ownShape
  have hb:rows=[]:=List.eq_nil_of_length_eq_zero (by simp at e;omega)
  subst hb
  exact h.drop.rvEmp (.inl rfl) (fun _=>rfl)
 ·obtain ⟨b,cap,rest,rfl,h1,h2,h3,hs⟩:=h.ownOpen hv
  exact hs.share.head fun hp q=>rvw_of (z:=⟨b,0,cap,_,E⟩) hk h1 (Seg.all _).app q
end
abbrev entV (v:Value) (l:List Pure.Ent):HProp:=rvw 4 v (entsC l)
end Go.Proofs.YtecibefflhomdaaGreatDoor
