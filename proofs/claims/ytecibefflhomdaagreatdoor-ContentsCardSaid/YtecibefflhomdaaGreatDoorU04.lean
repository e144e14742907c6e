/-
  Part 4: The engine 6 numbers of fixed width; The engine 7 slices that one owns and appends to; The engine 8 rules; The engine 9 rules.
-/
import Derived.Test.YtecibefflhomdaaGreatDoorU03
import Derived.IntWalk
import Derived.Deep.AppendSrc
import Derived.Laws.BytesString
set_option maxHeartbeats 8000000
set_option maxRecDepth 100000
set_option linter.all false
namespace Go.Proofs.YtecibefflhomdaaGreatDoor
open Go
section
attribute [local semireducible] WL WC WQ
abbrev bV (x:UInt8):Value:=.int .u8 x.toNat
theorem wrap_u8 (n:Nat):(.int .u8 (IntKind.u8.wrap (n:Int)):Value)=bV (UInt8.ofNat n):=by
 rw [IntKind.wrap_u8]
 simp [bV]
section
variable {ops:Array Oper} {Q:Exit→Act→World→Prop} {n:Nat} {ds:Md} {e:Env} {w w':World} {rest:List Oper}
variable {op:Op} {ty:TypeId} {pos:String} {af:Array Edge} {d:Nat}
theorem wl_u64 {x:Int} (hv:yv e op=some (.int .u64 (IntKind.u64.wrap x))) (h1:0≤x) (h2:x≤18446744073709551615) (hd:Nat.blt d n=true)
 (k:WL ops Q n ds rest ((d,.int .u64 x)::e) w):WL ops Q n ds (⟨some d,op,ty,pos,af,none⟩::rest) e w:=
 wl_p (by rw [hv,IntWalk.u64_in _ ⟨h1,h2⟩]) hd k
theorem wl_u32 {x:Int} (hv:yv e op=some (.int .u32 (IntKind.u32.wrap x))) (h1:0≤x) (h2:x≤4294967295) (hd:Nat.blt d n=true)
 (k:WL ops Q n ds rest ((d,.int .u32 x)::e) w):WL ops Q n ds (⟨some d,op,ty,pos,af,none⟩::rest) e w:=
 wl_p (by rw [hv,IntWalk.u32_in _ ⟨h1,h2⟩]) hd k
theorem wl_u8 {m:Nat} (hv:yv e op=some (.int .u8 (IntKind.u8.wrap (m:Int)))) (hd:Nat.blt d n=true)
 (k:WL ops Q n ds rest ((d,bV (UInt8.ofNat m))::e) w):WL ops Q n ds (⟨some d,op,ty,pos,af,none⟩::rest) e w:=
 wl_p (by rw [hv,wrap_u8]) hd k
end
attribute [local irreducible] WL WC WQ
end
section
attribute [local semireducible] WL WC WQ
def ownS (k:Nat) (v:Value) (E len:Nat) (cs:List Value):HProp:=fun h=>
 cs.length=len*k∧(∀ u∈cs,isOne u=true)∧((v=.slice none 0 0∧len=0) ∨
  ∃ b cap rest,v=.slice (some ⟨b,0,none⟩) len cap∧len≤cap∧cap≤maxLen∧rest.length=(cap-len)*k∧h b=some (false,.cells (cs++rest).toArray E (0,0)))
section
variable {W0 w w':World} {l r l':List HProp} {k E len:Nat} {v:Value} {cs:List Value}
theorem ownS_nil (h:Hp):ownS k (.slice none 0 0) E 0 [] h:=⟨by simp,by simp,.inl ⟨rfl,rfl⟩⟩
theorem Sat.ownNil (h:Sat W0 l w):Sat W0 (ownS k (.slice none 0 0) E 0 []::l) w:=
 h.imp fun hp r=>⟨fun _=>none,hp,fun _ _ _ hx=>(by cases hx),fun _ _ hx=>(by cases hx),Hp.le_refl _,ownS_nil _,r⟩
theorem Sat.pure1 {A:HProp} {φ:Prop} (h:Sat W0 (A::l) w) (k:∀ h,A h→φ):φ:=by
 obtain ⟨_,_,_,_,hp,_,_,h1,_,_,_,_,ha,_⟩:=h
 exact k _ ha
theorem Sat.ownLen (h:Sat W0 (ownS k v E len cs::l) w):cs.length=len*k:=h.pure1 fun _ a=>a.1
theorem Sat.ownOne (h:Sat W0 (ownS k v E len cs::l) w):∀ u∈cs,isOne u=true:=h.pure1 fun _ a=>a.2.1
theorem Sat.ownShape (h:Sat W0 (ownS k v E len cs::l) w):∃ a cap,v=.slice a len cap∧len≤cap∧cap≤maxLen:=h.pure1 fun _ a=>by
 rcases a.2.2 with ⟨rfl,rfl⟩|⟨b,cap,rest,rfl,h1,h2,_⟩
 ·exact ⟨none,0,rfl,Nat.le_refl _,by decide⟩
 ·exact ⟨_,cap,rfl,h1,h2⟩
theorem Sat.ownOpen (h:Sat W0 (ownS k v E len cs::l) w) (hn:v≠.slice none 0 0) :
 ∃ b cap rest,v=.slice (some ⟨b,0,none⟩) len cap∧len≤cap∧cap≤maxLen∧rest.length=(cap-len)*k∧Sat W0 (blk b E (cs++rest)::l) w:=by
 obtain ⟨a,b,c,d,hp,e,f,h1,h2,ff,l1,l2,ha,r⟩:=h
 rcases ha.2.2 with ⟨rfl,_⟩|⟨g,cap,rest,rfl,k1,k2,k3,k4⟩
 ·exact (hn rfl).elim
 ·exact ⟨g,cap,rest,rfl,k1,k2,k3,a,b,c,d,hp,e,f,h1,h2,ff,l1,l2,k4,r⟩
theorem Sat.ownPos (h:Sat W0 (ownS k v E len cs::l) w) (hn:0<len) :
 ∃ b cap rest,v=.slice (some ⟨b,0,none⟩) len cap∧len≤cap∧cap≤maxLen∧rest.length=(cap-len)*k∧Sat W0 (blk b E (cs++rest)::l) w:=by
 refine h.ownOpen fun hv=>?_
 subst hv
 obtain ⟨a,cap,h1,_⟩:=h.ownShape
 simp at h1;omega
theorem Sat.ownClose {b cap:Nat} {rest:List Value} (h:Sat W0 (blk b E (cs++rest)::l) w) (h1:len≤cap) (h2:cap≤maxLen) (h3:rest.length=(cap-len)*k) (h4:cs.length=len*k)
 (h5:∀ u∈cs,isOne u=true):Sat W0 (ownS k (.slice (some ⟨b,0,none⟩) len cap) E len cs::l) w:=
 h.head fun _ ha=>⟨h4,h5,.inr ⟨b,cap,rest,rfl,h1,h2,h3,ha⟩⟩
theorem Sat.grew {g':Nat} {o':Obj} (h:Sat W0 l w) (hos:w'.os=w.os) (ht:w'.tape=w.tape) (ho:w'.output=w.output) (hsz:w.heap.size≤w'.heap.size)
 (hb:∀ i,i<w.heap.size→w'.heap[i]?=w.heap[i]?) (hg:w'.heap[g']?=some o') (hnew:w.heap.size≤g'):Sat W0 (ob false g' o'::l) w':=by
 obtain ⟨a,bb,c,d,hp,e,f,r⟩:=h
 have hlt:∀ i x,hp i=some x→i<w.heap.size:=fun i x hx=>(Array.getElem?_eq_some_iff.1 (e i x hx)).1
 have hfree:hp g'=none:=by
  cases hx:hp g' with
  | none=>rfl
  | some x=>have:=hlt _ _ hx;omega
 refine ⟨hos.trans a,ht.trans bb,ho.trans c,Nat.le_trans d hsz,fun i=>if i=g' then some (false,o') else hp i,?_,?_,fun i=>if i=g' then some (false,o') else none,hp,?_,?_,?_,by simp [ob],r⟩
 ·intro i x hx
  by_cases hi:i=g'
  ·subst hi;simp at hx;subst hx;exact hg
  ·simp [hi] at hx;rw [hb i (hlt _ _ hx)];exact e i x hx
 ·intro i o'' hi'
  have hlt':i<W0.heap.size:=(Array.getElem?_eq_some_iff.1 hi').1
  have h2:i≠g':=by omega
  simp [h2,f i o'' hi']
 ·intro i x y hx hy
  by_cases hi:i=g'
  ·subst hi;rw [hfree] at hy;cases hy
  ·simp [hi] at hx
 ·intro i x hx
  by_cases hi:i=g'
  ·simpa [hi] using hx
  ·simp [hi] at hx
 ·intro i x hx
  by_cases hi:i=g'
  ·subst hi;rw [hfree] at hx;cases hx
  ·simp [hi];exact hx
def SrcL (k:Nat) (tx:TypeId) (x:Value) (m:Nat) (news:List Value) (l:List HProp):Prop:=∀ W0 w,Sat W0 l w→Src Tryz.prog k tx x m news w
theorem one_ok {u:Value} (h:isOne u=true):u.oneCell'=true:=(isOne_cells h).2
theorem srcNil {tx c e':Nat} (hk:lk tSlice tx=some e'):SrcL k tx (.slice none 0 c) 0 [] l:=fun _ w _=>Src.ofNil w (kSlice_und hk) c
theorem srcBlk {sh:Bool} {tx e' b o m c E':Nat} {all news:List Value} (hk:lk tSlice tx=some e') (t:Take (ob sh b (.cells all.toArray E' (0,0))) l r) (hl:news.length=m*k)
 (hn:∀ j u,news[j]?=some u→all[o+j]?=some u) (h1:∀ u∈news,isOne u=true):SrcL k tx (.slice (some ⟨b,o,none⟩) m c) m news l:=fun _ w h=>
 Src.ofSlice w (kSlice_und hk) _ _ _ _ hl (fun j u hu=>by rw [add_eq,h.cell t];exact hn j u hu) (fun u hu=>one_ok (h1 u hu))
theorem srcOwn {tx e' m:Nat} {x:Value} {news:List Value} {E':Nat} (hk:lk tSlice tx=some e') (t:Take (ownS k x E' m news) l r):SrcL k tx x m news l:=fun W0 w h=>by
 have h':=h.take t
 have hlen:=h'.ownLen
 have hone:=h'.ownOne
 by_cases hv:x=.slice none 0 0
 ·subst hv
  obtain ⟨a,cap,e,_⟩:=h'.ownShape
  simp at e;obtain ⟨_,rfl,_⟩:=e
  have:news=[]:=List.eq_nil_of_length_eq_zero (by simpa using hlen)
  subst this
  exact Src.ofNil w (kSlice_und hk) 0
 ·obtain ⟨b,cap,rest,rfl,k1,k2,k3,hs⟩:=h'.ownOpen hv
  refine Src.ofSlice w (kSlice_und hk) _ _ _ _ hlen (fun j u hu=>?_) (fun u hu=>one_ok (hone u hu))
  have hj:=(List.getElem?_eq_some_iff.1 hu).1
  rw [add_eq,hs.cell .here,Nat.zero_add,List.getElem?_append_left hj];exact hu
theorem srcStr {tx:Nat} {u:Unit} {s:List UInt8} (hk:lk tStr tx=some u):SrcL 1 tx (str s) s.length (s.map fun b=>.int .u8 b.toNat) l:=fun _ w _=>Src.ofString w (kStr_und hk) ⟨s.toArray⟩
set_option maxRecDepth 100000 in
theorem Sat.append {t tx ty m by_:Nat} {x:Value} {news:List Value} (h:Sat W0 l w) (tk:Take (ownS k v E len cs) l r) (src:SrcL k tx x m news l) (ht:lk tSlice t=some E) (hsz:lk tSize E=some k) (hby:lk tBytes E=some by_)
 {z:List Value} (hz:lk tZero E=some z) (hzl:z.length=k) (hm:len+m≤maxLen) (hb:(len+m)*by_≤140737488355328) :
 ∃ v' w',(Builtin.append_ #[t,tx] ty #[v,x]).run Tryz.prog w=.ok v' w'∧Sat W0 (ownS k v' E (len+m) (cs++news)::r) w':=by
 have hsrc:=src W0 w h
 have h':=h.take tk
 have hlen:=h'.ownLen
 have hone:=h'.ownOne
 obtain ⟨i,hi,rfl⟩:=kSize_info hsz
 have hby':i.bytes=by_:=by have:=tBytes_ok hby;unfold kBytes at this;rw [hi] at this;simpa using this
 obtain ⟨zv,hzv,hzc⟩:∃ zv,i.zero=some zv∧zv.cells=z.toArray:=by
  have:=tZero_ok hz
  unfold kZero at this
  simp only [Option.map_eq_some_iff,Option.bind_eq_some_iff] at this
  obtain ⟨v,⟨j,hj,hv⟩,rfl⟩:=this
  rw [hi] at hj;cases hj
  exact ⟨v,hv,by simp⟩
 subst hby'
 have honen:∀ u∈news,isOne u=true:=fun u hu=>by
  have:=hsrc.one u hu
  cases u<;>first|rfl|simp [Value.oneCell'] at this
 have honea:∀ u∈cs++news,isOne u=true:=fun u hu=>by
  rcases List.mem_append.1 hu with h|h
  ·exact hone u h
  ·exact honen u h
 have hlena:(cs++news).length=(len+m)*i.size:=by rw [List.length_append,hlen,hsrc.newsLen,Nat.add_mul]
 have hu:=kSlice_und ht
 have hsmall:((len+m:Nat):Int)≤9223372036854775807:=by simp only [maxLen] at hm;omega
 have hcap:=fun old=>grownCap_ge w (len+m) old E
 have hcapm:=fun old=>grownCap_le_maxLen w (len+m) old E hm
 have hzz:∀ N,(Builtin.zeroCells zv.cells N).toList.length=N*i.size:=fun N=>by
  rw [Array.length_toList,size_zeroCells,hzc,List.size_toArray,hzl]
 have grown:∀ old,∀ w'',w''=w.drew.alloc (.cells ((cs++news).toArray++Builtin.zeroCells zv.cells (grownCap w (len+m) old E-(len+m))) E)→∀ l',Sat W0 l' w →
  Sat W0 (ownS i.size (.slice (some ⟨w.heap.size,0,none⟩) (len+m) (grownCap w (len+m) old E)) E (len+m) (cs++news)::l') w'':=by
  rintro old _ rfl l' hs
  refine Sat.ownClose (b:=w.heap.size) (rest:=(Builtin.zeroCells zv.cells (grownCap w (len+m) old E-(len+m))).toList) ?_ (hcap old) (hcapm old) (hzz _) hlena honea
  have e:((cs++news)++(Builtin.zeroCells zv.cells (grownCap w (len+m) old E-(len+m))).toList).toArray=(cs++news).toArray++Builtin.zeroCells zv.cells (grownCap w (len+m) old E-(len+m)):=by
   apply Array.ext';simp
  refine hs.grew rfl rfl rfl (by simp) (fun j hj=>heap_alloc_old w.drew _ j hj) ?_ (Nat.le_refl _)
  rw [e]
  exact heap_alloc_new w.drew _
 by_cases hv:v=.slice none 0 0
 ·subst hv
  obtain ⟨a,cap,e,_⟩:=h'.ownShape
  simp only [Value.slice.injEq] at e;obtain ⟨_,rfl,rfl⟩:=e
  have hcs:cs=[]:=List.eq_nil_of_length_eq_zero (by simpa using hlen)
  subst hcs
  by_cases hm0:m=0
  ·subst hm0
   have hn:news=[]:=List.eq_nil_of_length_eq_zero (by simpa using hsrc.newsLen)
   subst hn
   refine ⟨.slice none 0 0,w,?_,by simpa using h'⟩
   rcases hsrc.kind with ⟨e',hk⟩|hk<;>simp [Builtin.append_,run_underlying hu,run_underlying hk,sizeOf,typeInfo,hi,hsrc.len,hsrc.cells]
  ·have hrun:=run_append_grow_src (P:=Tryz.prog) w t tx ty E i zv hu hi hzv none 0 0 [] (run_firstCells_none w.drew i.size 0 0 0) x m news hsrc (by omega) hsmall (by
    have:=growslice_fits (need:=0+m) (old:=0) (bytes:=i.bytes) (by omega) hb;exact this)
   refine ⟨_,_,hrun,?_⟩
   have:=grown 0 _ rfl r h'.drop
   simpa using this
 ·obtain ⟨b,cap,rest,rfl,k1,k2,k3,hs⟩:=h'.ownOpen hv
  have hcell:=fun j=>hs.cell (.here) j
  by_cases hroom:len+m≤cap
  ·have hrl:news.length≤rest.length:=by
    rw [hsrc.newsLen,k3];exact Nat.mul_le_mul_right _ (by omega)
   have hrun:=run_append_room_src (P:=Tryz.prog) w t tx ty E i hu hi b 0 len cap x m news hsrc hroom
    (fun j hj=>by rw [hcell,Nat.zero_add,← hlen,List.getElem?_append_right (by omega),Nat.add_sub_cancel_left,List.getElem?_eq_getElem (by omega)];rfl)
    (fun j hj=>hs.free .here _)
   refine ⟨_,_,hrun,?_⟩
   have hst:=run_storeCells_at Tryz.prog b (0+len*i.size) E news 0 (cs++rest).toArray w hs.at_head (by simp [hlen];omega) hsrc.one
   have hst2:=run_storeCells_cells (P:=Tryz.prog) b (0+len*i.size) news 0 w (fun j hj=>by rw [hcell,Nat.zero_add,← hlen,Nat.add_zero,List.getElem?_append_right (by omega),Nat.add_sub_cancel_left,List.getElem?_eq_getElem (by omega)];rfl)
    (fun j hj=>hs.free .here _) hsrc.one
   rw [hst] at hst2
   simp only [Nat.add_zero,Nat.zero_add,Result.ok.injEq,true_and] at hst2
   rw [Nat.zero_add,← hst2]
   have e2:(List.take (len*i.size) (cs++rest).toArray.toList++news++List.drop (len*i.size+news.length) (cs++rest).toArray.toList)=(cs++news)++rest.drop news.length:=by
    simp only [← hlen]
    rw [List.take_left,List.drop_append,List.drop_of_length_le (by omega),Nat.add_sub_cancel_left,List.nil_append]
   rw [e2]
   refine Sat.ownClose (rest:=rest.drop news.length) ?_ hroom k2 (by rw [List.length_drop,k3,hsrc.newsLen,← Nat.sub_mul];congr 1;omega) hlena honea
   exact Sat.set_head hs rfl rfl rfl (by simp [World.setRow]) (setRow_heap w b _ _ _ _ hs.at_head) fun i hi=>setRow_other w b i _ hi
  ·have hfc:=run_firstCells_some (P:=Tryz.prog) w.drew i.size len ⟨b,0,none⟩ len cap cs hlen (fun j u hu=>by
    have hj:=(List.getElem?_eq_some_iff.1 hu).1
    show w.cell? _=_
    rw [add_eq,hcell,Nat.zero_add,List.getElem?_append_left hj];exact hu)
   have hrun:=run_append_grow_src (P:=Tryz.prog) w t tx ty E i zv hu hi hzv (some ⟨b,0,none⟩) len cap cs hfc x m news hsrc (by omega) hsmall (growslice_fits (by omega) hb)
   exact ⟨_,_,hrun,grown cap _ rfl r h'.drop⟩
end
end
section
attribute [local semireducible] WL WC WQ
abbrev bytS (v:Value) (bs:Bs):HProp:=ownS 1 v 5 bs.length (bs.map bV)
theorem bV_one (bs:Bs):∀ u∈bs.map bV,isOne u=true:=fun u hu=>by obtain ⟨x,_,rfl⟩:=List.mem_map.1 hu;rfl
section
variable {ops:Array Oper} {Q:Exit→Act→World→Prop} {n:Nat} {ds:Md} {e:Env} {w w':World} {rest:List Oper}
variable {op:Op} {ty:TypeId} {pos:String} {af:Array Edge} {d:Nat} {v u:Value} {W0:World} {l l' r r':List HProp}
theorem wl_append {x y:Operand} {t tx k E len m by_:Nat} {cs news z:List Value} (hs:Sat W0 l w) (hx:ev e x=some v) (hy:ev e y=some u) (tk:Take (ownS k v E len cs) l r)
 (src:SrcL k tx u m news l) (ht:lk tSlice t=some E) (hsz:lk tSize E=some k) (hby:lk tBytes E=some by_) (hz:lk tZero E=some z) (hzl:z.length=k)
 (hm:len+m≤maxLen) (hb:(len+m)*by_≤140737488355328) (hd:Nat.blt d n=true)
 (kk:∀ v' w',Sat W0 (ownS k v' E (len+m) (cs++news)::r) w'→WL ops Q n ds rest ((d,v')::e) w') :
 WL ops Q n ds (⟨some d,.call { callee:=.builtin .append,args:=#[x,y],argTypes:=#[t,tx] },ty,pos,af,none⟩::rest) e w:=by
 obtain ⟨v',w',hr,hs'⟩:=hs.append (ty:=ty) tk src ht hsz hby hz hzl hm hb
 refine wl_run (w':=w') (v:=v') (fun a ha=>?_) hd (kk v' w' hs')
 simp [execOp,resolve,invoke,Go.builtin,ha.ev hx,ha.ev hy,hr]
theorem wl_appB {x y:Operand} {tx m:Nat} {bs ns:Bs} (hs:Sat W0 l w) (hx:ev e x=some v) (hy:ev e y=some u) (tk:Take (bytS v bs) l r)
 (src:SrcL 1 tx u ns.length (ns.map bV) l) (hm:bs.length+ns.length≤140737488355328) (hd:Nat.blt d n=true)
 (kk:∀ v' w',Sat W0 (bytS v' (bs++ns)::r) w'→WL ops Q n ds rest ((d,v')::e) w') :
 WL ops Q n ds (⟨some d,.call { callee:=.builtin .append,args:=#[x,y],argTypes:=#[93,tx] },ty,pos,af,none⟩::rest) e w:=
 wl_append hs hx hy tk src rfl rfl rfl rfl rfl (by unfold maxLen;omega) (by omega) hd fun v' w' h=>kk v' w' (by
  have:bytS v' (bs++ns)=ownS 1 v' 5 (bs.length+ns.length) (bs.map bV++ns.map bV):=by unfold bytS;rw [List.length_append,List.map_append]
  rw [this];exact h)
theorem wl_appB1 {x y:Operand} {b c:Nat} {bs:Bs} (z:UInt8) (hs:Sat W0 l w) (hx:ev e x=some v) (hy:ev e y=some (.slice (some ⟨b,0,none⟩) 1 c)) (tk:Take (bytS v bs) l r)
 (tk':Take (blk b 5 [bV z]) r r') (hm:bs.length+1≤140737488355328) (hd:Nat.blt d n=true)
 (kk:∀ v' w',Sat W0 (bytS v' (bs++[z])::r') w'→WL ops Q n ds rest ((d,v')::e) w') :
 WL ops Q n ds (⟨some d,.call { callee:=.builtin .append,args:=#[x,y],argTypes:=#[93,93] },ty,pos,af,none⟩::rest) e w:=by
 have hs2:=hs.take2 tk tk'
 refine wl_appB (m:=1) (ns:=[z]) hs2 hx hy .here (srcBlk (all:=[bV z]) rfl (.there .here) rfl (fun j u hu=>by simpa using hu) (bV_one [z])) (by simpa using hm) hd fun v' w' h=>kk v' w' ?_
 exact h.imp fun _ k=>sepL_tail (fun _=>sepL_drop) k
theorem splice_mid (A:List Value) (x:List Value) (vs B:List Value) (h:x.length=vs.length):splice (A++(x++B)) A.length vs=A++(vs++B):=by
 unfold splice
 rw [List.take_left,List.drop_append,List.drop_of_length_le (by omega),Nat.add_sub_cancel_left,List.nil_append,List.append_assoc]
 congr 2
 rw [← h,List.drop_left]
theorem cut3 {cs:List Value} {i m:Nat} (h:i+m≤cs.length):∃ A x B,cs=A++(x++B)∧A.length=i∧x.length=m:=
 ⟨cs.take i,(cs.drop i).take m,(cs.drop i).drop m,by rw [List.take_append_drop,List.take_append_drop],by simp;omega,by simp;omega⟩
theorem set_splice (cs:List Value) (i:Nat) (v:Value) (vs:List Value) (h:i+(v::vs).length≤cs.length):splice (cs.set i v) (i+1) vs=splice cs i (v::vs):=by
 obtain ⟨A,x,B,rfl,rfl,hx⟩:=cut3 h
 obtain ⟨y,ys,rfl⟩:∃ y ys,x=y::ys:=by cases x<;>simp at hx;exact ⟨_,_,rfl⟩
 rw [splice_mid A (y::ys) (v::vs) B hx]
 have e:(A++(y::ys++B)).set A.length v=(A++[v])++(ys++B):=by simp
 rw [e,show A.length+1=(A++[v]).length from by simp,splice_mid _ ys vs B (by simpa using hx)]
 simp
theorem foldl_set:∀ (vs:List Value) (j off:Nat) (A:Array Value),off+j+vs.length≤A.size →
 (vs.zipIdx j).foldl (fun cs p=>cs.setIfInBounds (off+p.2) p.1) A=(splice A.toList (off+j) vs).toArray
 | [],j,off,A,h=>by apply Array.ext';simp [splice]
 | v::vs,j,off,A,h=>by
  simp only [List.length_cons] at h
  rw [List.zipIdx_cons,List.foldl_cons,foldl_set vs (j+1) off _ (by simp;omega)]
  have e:(A.setIfInBounds (off+j) v).toList=A.toList.set (off+j) v:=by simp
  rw [e,← Nat.add_assoc,set_splice _ _ _ _ (by simp;omega)]
def fillL (place:Nat→Option (Nat×Nat)) (cells:List Value):List (Nat×Value)→Option (List Value)
 | []=>some cells
 | (i,v)::rest=>match place i with
  | none=>none
  | some (off,size)=>bif Nat.beq v.cells.toList.length size&&Nat.ble (off+v.cells.toList.length) cells.length then fillL place (splice cells off v.cells.toList) rest else none
theorem fillL_ok {place:Nat→Option (Nat×Nat)}:∀ {ps:List (Nat×Value)} {cells cs:List Value},fillL place cells ps=some cs→Instr.fill place cells.toArray ps=some cs.toArray
 | [],cells,cs,h=>by simp only [fillL,Option.some.injEq] at h;subst h;rfl
 | (i,v)::rest,cells,cs,h=>by
  unfold fillL at h
  unfold Instr.fill
  split at h
  ·cases h
  ·rename_i off size hp
   rw [hp]
   cases hc:(Nat.beq v.cells.toList.length size&&Nat.ble (off+v.cells.toList.length) cells.length) with
   | false=>rw [hc] at h;cases h
   | true=>
    rw [hc] at h
    simp only [Bool.and_eq_true,Nat.beq_eq,Nat.ble_eq,Array.length_toList] at hc
    simp only [cond_true] at h
    simp only []
    rw [if_neg (by simp;omega)]
    have hfold:Array.foldl (fun cs (x:Value×Nat)=>match x with|(c,j)=>cs.setIfInBounds (off+j) c) cells.toArray v.cells.zipIdx=(splice cells off v.cells.toList).toArray:=by
     rw [← Array.foldl_toList]
     have:=foldl_set v.cells.toList 0 off cells.toArray (by simp;omega)
     rw [Nat.add_zero] at this
     rw [← this]
     simp
    rw [hfold]
    exact fillL_ok h
def evp (e:Env):List (Nat×Operand)→Option (List (Nat×Value))
 | []=>some []
 | (i,x)::r=>match ev e x with
  | some v=>match evp e r with
   | some vs=>some ((i,v)::vs)
   | none=>none
  | none=>none
theorem Fr.evp {a:Act} (h:Fr n ds e a):∀ {xs:List (Nat×Operand)} {vs:List (Nat×Value)},evp e xs=some vs→xs.map (fun p=>(p.1,a.eval p.2))=vs
 | [],vs,k=>by simpa [YtecibefflhomdaaGreatDoor.evp] using k
 | (i,x)::r,vs,k=>by
  unfold YtecibefflhomdaaGreatDoor.evp at k
  split at k
  ·rename_i v hv
   split at k
   ·rename_i us hu
    simp only [Option.some.injEq] at k;subst k
    simp [h.ev hv,h.evp hu]
   ·cases k
  ·cases k
theorem kPlace_und {t:Nat} {pl:List (Nat×Nat)} (h:lk tPlace t=some pl):∃ fs,Tryz.prog.underlying t=some (.struct fs)∧pl=fs.toList.map fun f=>(f.offset,Tryz.prog.cellsOf f.type):=by
 have:=tPlace_ok h
 unfold kPlace at this
 split at this
 ·rename_i fs hfs;simp only [Option.some.injEq] at this;exact ⟨fs,hfs,this.symm⟩
 ·cases this
def placesB (p:Program) (t:Nat):Bool:=match p.underlying t with
 | some (.struct fs)=>fs.toList.all fun f=>(p.info? f.type).isSome
 | _=>false
theorem places_tab:(tPlace.map fun q=>q.1).all (placesB Tryz.prog)=true:=by kernel_rfl
theorem mapM_places {fs:List Field} (h:∀ f∈fs,∃ i,Tryz.prog.info? f.type=some i):(List.mapM (fun f=>do pure (f.offset,← sizeOf f.type)) fs:Sem (List (Nat×Nat))).run Tryz.prog w=.ok (fs.map fun f=>(f.offset,Tryz.prog.cellsOf f.type)) w:=by
 induction fs with
 | nil=>rfl
 | cons f r ih=>
  obtain ⟨i,hi⟩:=h f List.mem_cons_self
  have hc:Tryz.prog.cellsOf f.type=i.size:=by simp [Program.cellsOf,hi]
  rw [List.mapM_cons]
  have hsz:(sizeOf f.type).run Tryz.prog w=.ok i.size w:=by simp [sizeOf,typeInfo,hi]
  simp only [Sem.run_bind,Sem.run_pure,Result.andThen_ok,hsz,ih fun g hg=>h g (List.mem_cons_of_mem _ hg),List.map_cons,hc]
theorem wl_build {parts:Array (Nat×Operand)} {t:Nat} {ps:List (Nat×Value)} {pl:List (Nat×Nat)} {z cs:List Value} (hp:evp e parts.toList=some ps) (hpl:lk tPlace t=some pl) (hz:lk tZero t=some z)
 (hf:fillL (fun i=>pl[i]?) z ps=some cs) (hd:Nat.blt d n=true) (k:WL ops Q n ds rest ((d,.agg cs.toArray)::e) w):WL ops Q n ds (⟨some d,.build t parts,ty,pos,af,none⟩::rest) e w:=by
 refine wl_run (fun a ha=>?_) hd k
 obtain ⟨zv,hzv,hzc⟩:=zero_of (w:=w) hz
 obtain ⟨fs,hfs,rfl⟩:=kPlace_und hpl
 have hall:∀ f∈fs.toList,∃ i,Tryz.prog.info? f.type=some i:=by
  have:=List.all_eq_true.1 places_tab t (List.mem_map.2 ⟨_,lk_mem hpl,rfl⟩)
  unfold placesB at this
  rw [hfs] at this
  intro f hf
  exact Option.isSome_iff_exists.1 (List.all_eq_true.1 this f hf)
 have e1:parts.map (fun (i,x)=>(i,a.eval x))=ps.toArray:=by
  rw [← ha.evp hp];cases parts;simp
 have hm:=mapM_places (w:=w) hall
 have hfl:=fillL_ok hf
 have hpl2:∀ (q:Array (Nat×Nat)),q=(fs.toList.map fun f=>(f.offset,Tryz.prog.cellsOf f.type)).toArray→(fun i:Nat=>q[i]?)=fun i:Nat=>(fs.toList.map fun f=>(f.offset,Tryz.prog.cellsOf f.type))[i]?:=by
  rintro q rfl;funext i;simp
 simp only [execOp,e1,Instr.build,Sem.run_bind,hzv,Result.andThen_ok,und_of hfs,hzc]
 have hmA:(fs.mapM (fun f=>do pure (f.offset,← sizeOf f.type)):Sem (Array (Nat×Nat))).run Tryz.prog w=.ok (fs.toList.map fun f=>(f.offset,Tryz.prog.cellsOf f.type)).toArray w:=by
  obtain ⟨fl⟩:=fs
  have:=List.mapM_toArray (m:=Sem) (f:=fun f:Field=>do pure (f.offset,← sizeOf f.type)) (l:=fl)
  rw [this]
  simp only [Sem.run_map,hm,Result.andThen_ok]
 rw [hmA]
 simp only [Result.andThen_ok,hpl2 _ rfl,hfl]
 simp
set_option maxRecDepth 100000 in
theorem wl_lit {parts:Array (Nat×Operand)} {t E k len:Nat} {ps:List (Nat×Value)} {z cs:List Value} (hs:Sat W0 l w) (hp:evp e parts.toList=some ps) (ht:lk tSlice t=some E) (hsz:lk tSize E=some k) (hz:lk tZero E=some z)
 (hzz:Nat.beq z.length 0=false) (hsmall:Nat.ble (len*k) 1000=true) (hf:fillL (fun i=>some (i*k,k)) ((List.range (len*k)).map fun i=>z.getD (i%z.length) undef) ps=some cs) (hd:Nat.blt d n=true)
 (kk:∀ w' b,Sat W0 (blk b E cs::l) w'→WL ops Q n ds rest ((d,.slice (some ⟨b,0,none⟩) len len)::e) w') :
 WL ops Q n ds (⟨some d,.buildSlice t len parts,ty,pos,af,none⟩::rest) e w:=by
 have hk':len*k≤1000:=by simpa using hsmall
 have hz0:z.length≠0:=Nat.ne_of_beq_eq_false hzz
 obtain ⟨zv,hzv,hzc⟩:=zero_of (w:=w) hz
 refine wl_run (w':={ w with heap:=w.heap.push (.cells cs.toArray E) }) (v:=.slice (some ⟨w.heap.size,0,none⟩) len len) (fun a ha=>?_) hd (kk _ _ (hs.new _ false))
 have e1:parts.map (fun (i,x)=>(i,a.eval x))=ps.toArray:=by
  rw [← ha.evp hp];cases parts;simp
 have hfl:=fillL_ok hf
 have hnot:¬ (len*k > 2^24):=by omega
 have hA:Instr.fill (fun i=>some (i*k,k)) ((Array.range (len*k)).map fun i=>(if len*k=0 then #[] else zv.cells)[i%(if len*k=0 then #[] else zv.cells).size]!) ps=some cs.toArray:=by
  rw [← hfl]
  congr 1
  apply Array.ext'
  simp only [Array.toList_map,Array.toList_range,List.toList_toArray]
  refine List.map_congr_left fun i hi=>?_
  have hne:¬ len*k=0:=by intro h;rw [h] at hi;simp at hi
  have:i%z.length<z.length:=Nat.mod_lt _ (by omega)
  simp [hne,hzc,this,List.getD]
 simp only [execOp,e1,Instr.buildSlice,Sem.run_bind,und_of (kSlice_und ht),size_of hsz,Result.andThen_ok,if_neg hnot,newRow]
 by_cases h0:len*k=0
 ·simp only [if_pos h0] at hA ⊢
  simp only [Sem.run_bind,Sem.run_pure,Result.andThen_ok,hA,run_newObj]
 ·simp only [if_neg h0] at hA ⊢
  simp only [Sem.run_bind,Sem.run_pure,Result.andThen_ok,hzv,hA,run_newObj]
theorem wl_lit1 {x:Operand} {t E:Nat} {z:Value} (hs:Sat W0 l w) (hx:ev e x=some v) (ht:lk tSlice t=some E) (hsz:lk tSize E=some 1) (hz:lk tZero E=some [z]) (h1:isOne v=true) (hd:Nat.blt d n=true)
 (kk:∀ w' b,Sat W0 (blk b E [v]::l) w'→WL ops Q n ds rest ((d,.slice (some ⟨b,0,none⟩) 1 1)::e) w') :
 WL ops Q n ds (⟨some d,.buildSlice t 1 #[(0,x)],ty,pos,af,none⟩::rest) e w:=by
 have hc:v.cells.toList=[v]:=by rw [(isOne_cells h1).1]
 refine wl_lit (ps:=[(0,v)]) (z:=[z]) (cs:=[v]) hs ?_ ht hsz hz rfl rfl ?_ hd kk
 ·simp [evp,hx]
 ·simp [fillL,hc,splice];rfl
end
end
section
attribute [local semireducible] WL WC WQ
section
variable {ops:Array Oper} {Q:Exit→Act→World→Prop} {n:Nat} {ds:Md} {e:Env} {w w':World} {rest:List Oper}
variable {op:Op} {ty:TypeId} {pos:String} {af:Array Edge} {d:Nat} {v u:Value} {W0:World} {l l' r r':List HProp}
theorem wl_ix {x y:Operand} {t E k b o len c:Nat} {i:Int} (hx:ev e x=some (.slice (some ⟨b,o,none⟩) len c)) (hy:ev e y=some (.int .i64 i)) (ht:lk tSlice t=some E) (hsz:lk tSize E=some k)
 (h0:0≤i) (h1:i<(len:Int)) (hd:Nat.blt d n=true) (kk:WL ops Q n ds rest ((d,.pointer (some ⟨b,o+i.toNat*k,none⟩))::e) w) :
 WL ops Q n ds (⟨some d,.indexAddr t x y,ty,pos,af,none⟩::rest) e w:=
 wl_run (fun a ha=>by simp [execOp,ha.ev hx,ha.ev hy,Instr.indexAt,asIntOf,und_of (kSlice_und ht),size_of hsz,h0,h1,add_eq]) hd kk
theorem wl_ixn {x y:Operand} {t E k b o len c i:Nat} {Y:Int} (hx:ev e x=some (.slice (some ⟨b,o,none⟩) len c)) (hy:ev e y=some (.int .i64 Y)) (hY:Y=(i:Int)) (ht:lk tSlice t=some E) (hsz:lk tSize E=some k)
 (h1:i<len) (hd:Nat.blt d n=true) (kk:WL ops Q n ds rest ((d,.pointer (some ⟨b,o+i*k,none⟩))::e) w) :
 WL ops Q n ds (⟨some d,.indexAddr t x y,ty,pos,af,none⟩::rest) e w:=
 wl_ix hx (hY▸hy) ht hsz (by omega) (by omega) hd (by simpa using kk)
theorem wl_ixa {x y:Operand} {t b o k:Nat} {p:Nat×Nat} {i:Int} (hx:ev e x=some (.pointer (some ⟨b,o,none⟩))) (hy:ev e y=some (.int .i64 i)) (ht:lk tArr t=some p) (hsz:lk tSize p.2=some k)
 (h0:0≤i) (h1:i<(p.1:Int)) (hd:Nat.blt d n=true) (kk:WL ops Q n ds rest ((d,.pointer (some ⟨b,o+i.toNat*k,none⟩))::e) w) :
 WL ops Q n ds (⟨some d,.indexAddr t x y,ty,pos,af,none⟩::rest) e w:=
 wl_run (fun a ha=>by simp [execOp,ha.ev hx,ha.ev hy,Instr.indexAt,asIntOf,und_of (kArr_und ht),size_of hsz,h0,h1,add_eq,Instr.sureAddr]) hd kk
def cutAt (b o:Nat) (cap l k:Nat):Addr:=if cap=l then ⟨b,o,none⟩ else ⟨b,o+l*k,none⟩
theorem wl_cut {x:Operand} {lo hi:Option Operand} {t E k b o len cap:Nat} (l' h':Nat) (hx:ev e x=some (.slice (some ⟨b,o,none⟩) len cap)) (ht:lk tSlice t=some E) (hsz:lk tSize E=some k)
 (hlo:match lo with|none=>l'=0|some y=>ev e y=some (.int .i64 (l':Int))) (hhi:match hi with|none=>h'=len|some y=>ev e y=some (.int .i64 (h':Int)))
 (h1:l'≤h') (h2:h'≤cap) (hd:Nat.blt d n=true) (kk:WL ops Q n ds rest ((d,.slice (some (cutAt b o cap l' k)) (h'-l') (cap-l'))::e) w) :
 WL ops Q n ds (⟨some d,.slice t x lo hi none,ty,pos,af,none⟩::rest) e w:=by
 refine wl_run (fun a ha=>?_) hd kk
 have hu:=kSlice_und ht
 have e1:(if cap=l' then (some ⟨b,o,none⟩:Option Addr) else Option.map (fun x:Addr=>x.add (l'*k)) (some (⟨b,o,none⟩:Addr)))=some (cutAt b o cap l' k):=by
  unfold cutAt;split<;>simp [add_eq]
 have c1:(l':Int)≤h':=by omega
 have c2:(h':Int)≤cap:=by omega
 cases lo with
 | none=>
  simp only at hlo;subst hlo
  cases hi with
  | none=>simp only at hhi;subst hhi;simp [execOp,ha.ev hx,Instr.sliceAt,Instr.slice,und_of hu,size_of hsz,Instr.sliceBounds,← e1]
  | some y=>simp [execOp,ha.ev hx,ha.ev hhi,Instr.sliceAt,Instr.slice,und_of hu,size_of hsz,Instr.sliceBounds,Instr.sliceBound,asIntOf,h2,← e1]
 | some z=>
  cases hi with
  | none=>simp only at hhi;subst hhi;simp [execOp,ha.ev hx,ha.ev hlo,Instr.sliceAt,Instr.slice,und_of hu,size_of hsz,Instr.sliceBounds,Instr.sliceBound,asIntOf,h1,← e1]
  | some y=>simp [execOp,ha.ev hx,ha.ev hlo,ha.ev hhi,Instr.sliceAt,Instr.slice,und_of hu,size_of hsz,Instr.sliceBounds,Instr.sliceBound,asIntOf,h1,h2,← e1]
theorem wl_cut0 {x:Operand} {lo hi:Option Operand} {t E k c:Nat} (hx:ev e x=some (.slice none 0 c)) (ht:lk tSlice t=some E) (hsz:lk tSize E=some k)
 (hlo:match lo with|none=>True|some y=>ev e y=some (.int .i64 0)) (hhi:match hi with|none=>True|some y=>ev e y=some (.int .i64 0)) (hd:Nat.blt d n=true)
 (kk:WL ops Q n ds rest ((d,.slice none 0 c)::e) w) :
 WL ops Q n ds (⟨some d,.slice t x lo hi none,ty,pos,af,none⟩::rest) e w:=by
 refine wl_run (fun a ha=>?_) hd kk
 have hu:=kSlice_und ht
 cases lo<;>cases hi<;>simp only at hlo hhi<;>(try have q1:=ha.ev hlo)<;>(try have q2:=ha.ev hhi)<;>simp_all [execOp,ha.ev hx,Instr.sliceAt,Instr.slice,und_of hu,size_of hsz,Instr.sliceBounds,Instr.sliceBound,asIntOf]
theorem wl_shr {x y:Operand} {k ky:IntKind} {t ty2 N m:Nat} {Y:Int} (hx:ev e x=some (.int k (N:Int))) (hy:ev e y=some (.int ky Y)) (hY:Y=(m:Int)) (hm:m≤k.bits) (hd:Nat.blt d n=true)
 (kk:WL ops Q n ds rest ((d,.int k ((N / 2^m:Nat):Int))::e) w):WL ops Q n ds (⟨some d,.binOp .shr t x y ty2,ty,pos,af,none⟩::rest) e w:=by
 subst hY
 refine wl_run (fun a ha=>?_) hd kk
 have h2:¬ ((m:Int)<0):=by omega
 have hmin:min m k.bits=m:=by omega
 have hdiv:Int.fdiv (N:Int) (2^m)=((N / 2^m:Nat):Int):=by
  rw [Int.fdiv_eq_ediv_of_nonneg _ (by exact_mod_cast Nat.zero_le _)];norm_cast
 simp [execOp,ha.ev hx,ha.ev hy,eqGuard,Go.binOp,Op.shift,h2,hmin,hdiv]
theorem wl_shl {x y:Operand} {k ky:IntKind} {t ty2 N m:Nat} {Y:Int} (hx:ev e x=some (.int k (N:Int))) (hy:ev e y=some (.int ky Y)) (hY:Y=(m:Int)) (hm:m≤k.bits) {M:Nat} (hM:k.wrap ((N*2^m:Nat):Int)=(M:Int)) (hd:Nat.blt d n=true)
 (kk:WL ops Q n ds rest ((d,.int k (M:Int))::e) w):WL ops Q n ds (⟨some d,.binOp .shl t x y ty2,ty,pos,af,none⟩::rest) e w:=by
 subst hY
 refine wl_run (fun a ha=>?_) hd kk
 have h2:¬ ((m:Int)<0):=by omega
 have hmin:min m k.bits=m:=by omega
 rw [← hM]
 simp [execOp,ha.ev hx,ha.ev hy,eqGuard,Go.binOp,Op.shift,h2,hmin]
def bitN:BinOp→Nat→Nat→Option Nat
 | .and,a,b=>some (a &&& b)
 | .or,a,b=>some (a ||| b)
 | .xor,a,b=>some (a ^^^ b)
 | _,_,_=>none
theorem wl_bits {bo:BinOp} {x y:Operand} {k:IntKind} {t ty2 N M R:Nat} (hx:ev e x=some (.int k (N:Int))) (hy:ev e y=some (.int k (M:Int))) (hk:k.signed=false) (hN:N<2^k.bits) (hM:M<2^k.bits) (hR:bitN bo N M=some R) (hd:Nat.blt d n=true)
 (kk:WL ops Q n ds rest ((d,.int k (R:Int))::e) w):WL ops Q n ds (⟨some d,.binOp bo t x y ty2,ty,pos,af,none⟩::rest) e w:=by
 refine wl_run (fun a ha=>?_) hd kk
 have hof:∀ m:Nat,BitVec.ofInt k.bits (m:Int)=BitVec.ofNat k.bits m:=fun m=>by simp
 have hw:∀ m:Nat,m<2^k.bits→k.wrap (m:Int)=m:=fun m hm=>by
  have hmi:((m:Int))%(2^k.bits:Int)=m:=Int.emod_eq_of_lt (by omega) (by exact_mod_cast hm)
  simp only [IntKind.wrap,hk,Bool.false_and,Bool.false_eq_true,if_false,hmi]
 cases bo<;>simp only [bitN,Option.some.injEq,reduceCtorEq] at hR<;>subst hR
 ·have:=hw (N &&& M) (Nat.and_lt_two_pow _ hM)
  simp [execOp,ha.ev hx,ha.ev hy,eqGuard,Go.binOp,Op.intBits,hof,BitVec.toNat_and,Nat.mod_eq_of_lt hN,Nat.mod_eq_of_lt hM,this]
 ·have:=hw (N ||| M) (Nat.or_lt_two_pow hN hM)
  simp [execOp,ha.ev hx,ha.ev hy,eqGuard,Go.binOp,Op.intBits,hof,BitVec.toNat_or,Nat.mod_eq_of_lt hN,Nat.mod_eq_of_lt hM,this]
 ·have:=hw (N ^^^ M) (Nat.xor_lt_two_pow hN hM)
  simp [execOp,ha.ev hx,ha.ev hy,eqGuard,Go.binOp,Op.intBits,hof,BitVec.toNat_xor,Nat.mod_eq_of_lt hN,Nat.mod_eq_of_lt hM,this]
theorem wl_not32 {x:Operand} {t N:Nat} (hx:ev e x=some (.int .u32 (N:Int))) (hN:N<4294967296) (hd:Nat.blt d n=true)
 (kk:WL ops Q n ds rest ((d,.int .u32 ((4294967295-N:Nat):Int))::e) w):WL ops Q n ds (⟨some d,.unOp .xor t x,ty,pos,af,none⟩::rest) e w:=by
 refine wl_run (fun a ha=>?_) hd kk
 have h1:(4294967295#32 ^^^ BitVec.ofNat 32 N).toNat=4294967295-N:=by
  have e1:(4294967295#32)=BitVec.allOnes 32:=by decide
  rw [e1,BitVec.allOnes_xor,BitVec.toNat_not,BitVec.toNat_ofNat,Nat.mod_eq_of_lt (by omega)]
 have h2:IntKind.u32.wrap (((4294967295-N:Nat)):Int)=((4294967295-N:Nat):Int):=IntWalk.u32_in _ (by omega)
 simp [execOp,ha.ev hx,Op.unary,Op.intBits,IntKind.signed,IntKind.max,IntKind.bits]
 exact (congrArg (fun m:Nat=>IntKind.u32.wrap (m:Int)) h1).trans h2
theorem pushes (bs:Bs):∀ s:ByteArray,(bs.map fun x=>((x.toNat:Int))).foldl (fun r n=>r.push (UInt8.ofNat n.toNat)) s=⟨(s.data.toList++bs).toArray⟩:=by
 induction bs with
 | nil=>intro s;simp
 | cons x r ih=>
  intro s
  simp only [List.map_cons,List.foldl_cons,ih]
  simp [ByteArray.push]
theorem bytesString {b o len c:Nat} {bs:Bs} (h:∀ j u,(bs.map bV)[j]?=some u→w.cell? ⟨b,o+j,none⟩=some u) (hl:bs.length=len):(Conv.bytesToString (.slice (some ⟨b,o,none⟩) len c)).run Tryz.prog w=.ok (str bs) w:=by
 have h1:=run_loadCells_list (P:=Tryz.prog) w ⟨b,o,none⟩ (bs.map bV) (fun j u hj=>by rw [add_eq];exact h j u hj)
 rw [List.length_map,hl] at h1
 have h2:=run_bytesToString (P:=Tryz.prog) w ⟨b,o,none⟩ len c (bs.map fun x=>((x.toNat:Int))) (by rw [h1,List.map_map];rfl)
 rw [h2,pushes]
 simp [str]
theorem wl_str {x:Operand} {sh:Bool} {b o len c E:Nat} {all:List Value} (bs:Bs) (hs:Sat W0 l w) (hx:ev e x=some (.slice (some ⟨b,o,none⟩) len c)) (t:Take (ob sh b (.cells all.toArray E (0,0))) l r)
 (hb:∀ j u,(bs.map bV)[j]?=some u→all[o+j]?=some u) (hl:bs.length=len) (hd:Nat.blt d n=true) (kk:WL ops Q n ds rest ((d,str bs)::e) w) :
 WL ops Q n ds (⟨some d,.convert 93 9 x,ty,pos,af,none⟩::rest) e w:=by
 refine wl_run (fun a ha=>?_) hd kk
 have h1:=bytesString (w:=w) (c:=c) (fun j u hj=>by rw [hs.cell t];exact hb j u hj) hl
 simp [execOp,ha.ev hx,run_convert_bytes_string w 93 9 5 _ len c (kSlice_und rfl) (kInt_und rfl) (kStr_und (t:=9) rfl),h1]
theorem wl_str0 {x:Operand} {len c:Nat} (hx:ev e x=some (.slice none len c)) (hd:Nat.blt d n=true) (kk:WL ops Q n ds rest ((d,str [])::e) w) :
 WL ops Q n ds (⟨some d,.convert 93 9 x,ty,pos,af,none⟩::rest) e w:=by
 refine wl_run (fun a ha=>?_) hd kk
 simp [execOp,ha.ev hx,run_convert_bytes_string w 93 9 5 _ len c (kSlice_und rfl) (kInt_und rfl) (kStr_und (t:=9) rfl),Conv.bytesToString]
 rfl
end
end
end Go.Proofs.YtecibefflhomdaaGreatDoor
