/-
  Part 4: The engine 8 rules; The engine 9 rules; The engine 10 the rules once more, with all that Lean can fi.
-/
import Derived.Test.YtecibefflhomdaaGreatDoorY03
import Derived.Laws.BytesString
set_option maxHeartbeats 8000000
set_option maxRecDepth 100000
set_option linter.all false
namespace Go.Proofs.YtecibefflhomdaaGreatDoor
open Go
section
attribute [local semireducible] WL WC WQ
abbrev cC (v:Value) (bs:Bs):ah:=aE 1 v 5 bs.length (bs.map bV)
theorem BO (bs:Bs):∀ u∈bs.map bV,dD u=true:=fun u hu=>by obtain ⟨x,_,rfl⟩:=List.mem_map.1 hu;rfl
section
variable {ops:Array Oper} {Q:Exit→Act→World→Prop} {n:Nat} {ds:Md} {e:Env} {w w':World} {rest:List Oper}
variable {op:Op} {ty:TypeId} {pos:String} {af:Array Edge} {d:Nat} {v u:Value} {W0:World} {l l' r r':List ah}
theorem om {x y:Operand} {t tx k E len m by_:Nat} {cs news z:List Value} (hs:Sat W0 l w) (hx:ev e x=some v) (hy:ev e y=some u) (tk:Take (aE k v E len cs) l r)
 (src:xN k tx u m news l) (ht:lk dy t=some E) (hsz:lk df E=some k) (hby:lk qY E=some by_) (hz:lk js E=some z) (hzl:z.length=k)
 (hm:len+m≤maxLen) (hb:(len+m)*by_≤140737488355328) (hd:Nat.blt d n=true)
 (kk:∀ v' w',Sat W0 (aE k v' E (len+m) (cs++news)::r) w'→WL ops Q n ds rest ((d,v')::e) w') :
 WL ops Q n ds (⟨some d,.call { callee:=.builtin .append,args:=#[x,y],argTypes:=#[t,tx] },ty,pos,af,none⟩::rest) e w:=by
 obtain ⟨v',w',hr,hs'⟩:=hs.append (ty:=ty) tk src ht hsz hby hz hzl hm hb
 refine cj (w':=w') (v:=v') (fun a ha=>?_) hd (kk v' w' hs')
 simp [execOp,resolve,invoke,Go.builtin,ha.ev hx,ha.ev hy,hr]
theorem mx {x y:Operand} {tx m:Nat} {bs ns:Bs} (hs:Sat W0 l w) (hx:ev e x=some v) (hy:ev e y=some u) (tk:Take (cC v bs) l r)
 (src:xN 1 tx u ns.length (ns.map bV) l) (hm:bs.length+ns.length≤140737488355328) (hd:Nat.blt d n=true)
 (kk:∀ v' w',Sat W0 (cC v' (bs++ns)::r) w'→WL ops Q n ds rest ((d,v')::e) w') :
 WL ops Q n ds (⟨some d,.call { callee:=.builtin .append,args:=#[x,y],argTypes:=#[93,tx] },ty,pos,af,none⟩::rest) e w:=
 om hs hx hy tk src rfl rfl rfl rfl rfl (by unfold maxLen;omega) (by omega) hd fun v' w' h=>kk v' w' (by
  have:cC v' (bs++ns)=aE 1 v' 5 (bs.length+ns.length) (bs.map bV++ns.map bV):=by unfold cC;rw [List.length_append,List.map_append]
  rw [this];exact h)
theorem zl {x y:Operand} {b c:Nat} {bs:Bs} (z:UInt8) (hs:Sat W0 l w) (hx:ev e x=some v) (hy:ev e y=some (.slice (some ⟨b,0,none⟩) 1 c)) (tk:Take (cC v bs) l r)
 (tk':Take (blk b 5 [bV z]) r r') (hm:bs.length+1≤140737488355328) (hd:Nat.blt d n=true)
 (kk:∀ v' w',Sat W0 (cC v' (bs++[z])::r') w'→WL ops Q n ds rest ((d,v')::e) w') :
 WL ops Q n ds (⟨some d,.call { callee:=.builtin .append,args:=#[x,y],argTypes:=#[93,93] },ty,pos,af,none⟩::rest) e w:=by
 have hs2:=hs.eA tk tk'
 refine mx (m:=1) (ns:=[z]) hs2 hx hy .here (BN (all:=[bV z]) rfl (.there .here) rfl (fun j u hu=>by simpa using hu) (BO [z])) (by simpa using hm) hd fun v' w' h=>kk v' w' ?_
 exact h.imp fun _ k=>dH (fun _=>kj) k
theorem my (A:List Value) (x:List Value) (vs B:List Value) (h:x.length=vs.length):eV (A++(x++B)) A.length vs=A++(vs++B):=by
 unfold eV
 rw [List.take_left,List.drop_append,List.drop_of_length_le (by omega),Nat.add_sub_cancel_left,List.nil_append,List.append_assoc]
 congr 2
 rw [← h,List.drop_left]
theorem Ni {cs:List Value} {i m:Nat} (h:i+m≤cs.length):∃ A x B,cs=A++(x++B)∧A.length=i∧x.length=m:=
 ⟨cs.take i,(cs.drop i).take m,(cs.drop i).drop m,by rw [List.take_append_drop,List.take_append_drop],by simp;omega,by simp;omega⟩
theorem BP (cs:List Value) (i:Nat) (v:Value) (vs:List Value) (h:i+(v::vs).length≤cs.length):eV (cs.set i v) (i+1) vs=eV cs i (v::vs):=by
 obtain ⟨A,x,B,rfl,rfl,hx⟩:=Ni h
 obtain ⟨y,ys,rfl⟩:∃ y ys,x=y::ys:=by cases x<;>simp at hx;exact ⟨_,_,rfl⟩
 rw [my A (y::ys) (v::vs) B hx]
 have e:(A++(y::ys++B)).set A.length v=(A++[v])++(ys++B):=by simp
 rw [e,show A.length+1=(A++[v]).length from by simp,my _ ys vs B (by simpa using hx)]
 simp
theorem wi:∀ (vs:List Value) (j off:Nat) (A:Array Value),off+j+vs.length≤A.size →
 (vs.zipIdx j).foldl (fun cs p=>cs.setIfInBounds (off+p.2) p.1) A=(eV A.toList (off+j) vs).toArray
 | [],j,off,A,h=>by apply Array.ext';simp [eV]
 | v::vs,j,off,A,h=>by
  simp only [List.length_cons] at h
  rw [List.zipIdx_cons,List.foldl_cons,wi vs (j+1) off _ (by simp;omega)]
  have e:(A.setIfInBounds (off+j) v).toList=A.toList.set (off+j) v:=by simp
  rw [e,← Nat.add_assoc,BP _ _ _ _ (by simp;omega)]
def mY (place:Nat→Option (Nat×Nat)) (cells:List Value):List (Nat×Value)→Option (List Value)
 | []=>some cells
 | (i,v)::rest=>match place i with
  | none=>none
  | some (off,size)=>bif Nat.beq v.cells.toList.length size&&Nat.ble (off+v.cells.toList.length) cells.length then mY place (eV cells off v.cells.toList) rest else none
theorem pS {place:Nat→Option (Nat×Nat)}:∀ {ps:List (Nat×Value)} {cells cs:List Value},mY place cells ps=some cs→Instr.fill place cells.toArray ps=some cs.toArray
 | [],cells,cs,h=>by simp only [mY,Option.some.injEq] at h;subst h;rfl
 | (i,v)::rest,cells,cs,h=>by
  unfold mY at h
  unfold Instr.fill
  split at h
  ·cases h
  ·rename_i off size hp
   rw [hp]
   cases hc:(Nat.beq v.cells.toList.length size&&Nat.ble (off+v.cells.toList.length) cells.length) with
   | false=>rw [hc] at h;cases h
   | true=>
    rw [hc] at h
    simp only [Bool.and_eq_true,Nat.beq_eq,Nat.ble_eq,Array.length_toList] at hc
    simp only [cond_true] at h
    simp only []
    rw [if_neg (by simp;omega)]
    have hfold:Array.foldl (fun cs (x:Value×Nat)=>match x with|(c,j)=>cs.setIfInBounds (off+j) c) cells.toArray v.cells.zipIdx=(eV cells off v.cells.toList).toArray:=by
     rw [← Array.foldl_toList]
     have:=wi v.cells.toList 0 off cells.toArray (by simp;omega)
     rw [Nat.add_zero] at this
     rw [← this]
     simp
    rw [hfold]
    exact pS h
def zn (e:Env):List (Nat×Operand)→Option (List (Nat×Value))
 | []=>some []
 | (i,x)::r=>match ev e x with
  | some v=>match zn e r with
   | some vs=>some ((i,v)::vs)
   | none=>none
  | none=>none
theorem Fr.zn {a:Act} (h:Fr n ds e a):∀ {xs:List (Nat×Operand)} {vs:List (Nat×Value)},zn e xs=some vs→xs.map (fun p=>(p.1,a.eval p.2))=vs
 | [],vs,k=>by simpa [YtecibefflhomdaaGreatDoor.zn] using k
 | (i,x)::r,vs,k=>by
  unfold YtecibefflhomdaaGreatDoor.zn at k
  split at k
  ·rename_i v hv
   split at k
   ·rename_i us hu
    simp only [Option.some.injEq] at k;subst k
    simp [h.ev hv,h.zn hu]
   ·cases k
  ·cases k
theorem tD {t:Nat} {pl:List (Nat×Nat)} (h:lk lC t=some pl):∃ fs,Tryz.prog.underlying t=some (.struct fs)∧pl=fs.toList.map fun f=>(f.offset,Tryz.prog.cellsOf f.type):=by
 have:=EY h
 unfold Bz at this
 split at this
 ·rename_i fs hfs;simp only [Option.some.injEq] at this;exact ⟨fs,hfs,this.symm⟩
 ·cases this
def xO (p:Program) (t:Nat):Bool:=match p.underlying t with
 | some (.struct fs)=>fs.toList.all fun f=>(p.info? f.type).isSome
 | _=>false
theorem tE:(lC.map fun q=>q.1).all (xO Tryz.prog)=true:=by kernel_rfl
theorem sd {fs:List Field} (h:∀ f∈fs,∃ i,Tryz.prog.info? f.type=some i):(List.mapM (fun f=>do pure (f.offset,← sizeOf f.type)) fs:Sem (List (Nat×Nat))).run Tryz.prog w=.ok (fs.map fun f=>(f.offset,Tryz.prog.cellsOf f.type)) w:=by
 induction fs with
 | nil=>rfl
 | cons f r ih=>
  obtain ⟨i,hi⟩:=h f List.mem_cons_self
  have hc:Tryz.prog.cellsOf f.type=i.size:=by simp [Program.cellsOf,hi]
  rw [List.mapM_cons]
  have hsz:(sizeOf f.type).run Tryz.prog w=.ok i.size w:=by simp [sizeOf,typeInfo,hi]
  simp only [Sem.run_bind,Sem.run_pure,Result.andThen_ok,hsz,ih fun g hg=>h g (List.mem_cons_of_mem _ hg),List.map_cons,hc]
theorem Hr {parts:Array (Nat×Operand)} {t:Nat} {ps:List (Nat×Value)} {pl:List (Nat×Nat)} {z cs:List Value} (hp:zn e parts.toList=some ps) (hpl:lk lC t=some pl) (hz:lk js t=some z)
 (hf:mY (fun i=>pl[i]?) z ps=some cs) (hd:Nat.blt d n=true) (k:WL ops Q n ds rest ((d,.agg cs.toArray)::e) w):WL ops Q n ds (⟨some d,.build t parts,ty,pos,af,none⟩::rest) e w:=by
 refine cj (fun a ha=>?_) hd k
 obtain ⟨zv,hzv,hzc⟩:=s9 (w:=w) hz
 obtain ⟨fs,hfs,rfl⟩:=tD hpl
 have hall:∀ f∈fs.toList,∃ i,Tryz.prog.info? f.type=some i:=by
  have:=List.all_eq_true.1 tE t (List.mem_map.2 ⟨_,xI hpl,rfl⟩)
  unfold xO at this
  rw [hfs] at this
  intro f hf
  exact Option.isSome_iff_exists.1 (List.all_eq_true.1 this f hf)
 have e1:parts.map (fun (i,x)=>(i,a.eval x))=ps.toArray:=by
  rw [← ha.zn hp];cases parts;simp
 have hm:=sd (w:=w) hall
 have hfl:=pS hf
 have hpl2:∀ (q:Array (Nat×Nat)),q=(fs.toList.map fun f=>(f.offset,Tryz.prog.cellsOf f.type)).toArray→(fun i:Nat=>q[i]?)=fun i:Nat=>(fs.toList.map fun f=>(f.offset,Tryz.prog.cellsOf f.type))[i]?:=by
  rintro q rfl;funext i;simp
 simp only [execOp,e1,Instr.build,Sem.run_bind,hzv,Result.andThen_ok,cB hfs,hzc]
 have hmA:(fs.mapM (fun f=>do pure (f.offset,← sizeOf f.type)):Sem (Array (Nat×Nat))).run Tryz.prog w=.ok (fs.toList.map fun f=>(f.offset,Tryz.prog.cellsOf f.type)).toArray w:=by
  obtain ⟨fl⟩:=fs
  have:=List.mapM_toArray (m:=Sem) (f:=fun f:Field=>do pure (f.offset,← sizeOf f.type)) (l:=fl)
  rw [this]
  simp only [Sem.run_map,hm,Result.andThen_ok]
 rw [hmA]
 simp only [Result.andThen_ok,hpl2 _ rfl,hfl]
 simp
set_option maxRecDepth 100000 in
theorem Hs {parts:Array (Nat×Operand)} {t E k len:Nat} {ps:List (Nat×Value)} {z cs:List Value} (hs:Sat W0 l w) (hp:zn e parts.toList=some ps) (ht:lk dy t=some E) (hsz:lk df E=some k) (hz:lk js E=some z)
 (hzz:Nat.beq z.length 0=false) (hsmall:Nat.ble (len*k) 1000=true) (hf:mY (fun i=>some (i*k,k)) ((List.range (len*k)).map fun i=>z.getD (i%z.length) undef) ps=some cs) (hd:Nat.blt d n=true)
 (kk:∀ w' b,Sat W0 (blk b E cs::l) w'→WL ops Q n ds rest ((d,.slice (some ⟨b,0,none⟩) len len)::e) w') :
 WL ops Q n ds (⟨some d,.buildSlice t len parts,ty,pos,af,none⟩::rest) e w:=by
 have hk':len*k≤1000:=by simpa using hsmall
 have hz0:z.length≠0:=Nat.ne_of_beq_eq_false hzz
 obtain ⟨zv,hzv,hzc⟩:=s9 (w:=w) hz
 refine cj (w':={ w with heap:=w.heap.push (.cells cs.toArray E) }) (v:=.slice (some ⟨w.heap.size,0,none⟩) len len) (fun a ha=>?_) hd (kk _ _ (hs.new _ false))
 have e1:parts.map (fun (i,x)=>(i,a.eval x))=ps.toArray:=by
  rw [← ha.zn hp];cases parts;simp
 have hfl:=pS hf
 have hnot:¬ (len*k > 2^24):=by omega
 have hA:Instr.fill (fun i=>some (i*k,k)) ((Array.range (len*k)).map fun i=>(if len*k=0 then #[] else zv.cells)[i%(if len*k=0 then #[] else zv.cells).size]!) ps=some cs.toArray:=by
  rw [← hfl]
  congr 1
  apply Array.ext'
  simp only [Array.toList_map,Array.toList_range,List.toList_toArray]
  refine List.map_congr_left fun i hi=>?_
  have hne:¬ len*k=0:=by intro h;rw [h] at hi;simp at hi
  have:i%z.length<z.length:=Nat.mod_lt _ (by omega)
  simp [hne,hzc,this,List.getD]
 simp only [execOp,e1,Instr.buildSlice,Sem.run_bind,cB (bX ht),dq hsz,Result.andThen_ok,if_neg hnot,newRow]
 by_cases h0:len*k=0
 ·simp only [if_pos h0] at hA ⊢
  simp only [Sem.run_bind,Sem.run_pure,Result.andThen_ok,hA,run_newObj]
 ·simp only [if_neg h0] at hA ⊢
  simp only [Sem.run_bind,Sem.run_pure,Result.andThen_ok,hzv,hA,run_newObj]
theorem J6 {x:Operand} {t E:Nat} {z:Value} (hs:Sat W0 l w) (hx:ev e x=some v) (ht:lk dy t=some E) (hsz:lk df E=some 1) (hz:lk js E=some [z]) (h1:dD v=true) (hd:Nat.blt d n=true)
 (kk:∀ w' b,Sat W0 (blk b E [v]::l) w'→WL ops Q n ds rest ((d,.slice (some ⟨b,0,none⟩) 1 1)::e) w') :
 WL ops Q n ds (⟨some d,.buildSlice t 1 #[(0,x)],ty,pos,af,none⟩::rest) e w:=by
 have hc:v.cells.toList=[v]:=by rw [(gJ h1).1]
 refine Hs (ps:=[(0,v)]) (z:=[z]) (cs:=[v]) hs ?_ ht hsz hz rfl rfl ?_ hd kk
 ·simp [zn,hx]
 ·simp [mY,hc,eV];rfl
end
end
section
attribute [local semireducible] WL WC WQ
section
variable {ops:Array Oper} {Q:Exit→Act→World→Prop} {n:Nat} {ds:Md} {e:Env} {w w':World} {rest:List Oper}
variable {op:Op} {ty:TypeId} {pos:String} {af:Array Edge} {d:Nat} {v u:Value} {W0:World} {l l' r r':List ah}
theorem Nj {x y:Operand} {t E k b o len c:Nat} {i:Int} (hx:ev e x=some (.slice (some ⟨b,o,none⟩) len c)) (hy:ev e y=some (.int .i64 i)) (ht:lk dy t=some E) (hsz:lk df E=some k)
 (h0:0≤i) (h1:i<(len:Int)) (hd:Nat.blt d n=true) (kk:WL ops Q n ds rest ((d,.pointer (some ⟨b,o+i.toNat*k,none⟩))::e) w) :
 WL ops Q n ds (⟨some d,.indexAddr t x y,ty,pos,af,none⟩::rest) e w:=
 cj (fun a ha=>by simp [execOp,ha.ev hx,ha.ev hy,Instr.indexAt,asIntOf,cB (bX ht),dq hsz,h0,h1,add_eq]) hd kk
theorem cL {x y:Operand} {t E k b o len c i:Nat} {Y:Int} (hx:ev e x=some (.slice (some ⟨b,o,none⟩) len c)) (hy:ev e y=some (.int .i64 Y)) (hY:Y=(i:Int)) (ht:lk dy t=some E) (hsz:lk df E=some k)
 (h1:i<len) (hd:Nat.blt d n=true) (kk:WL ops Q n ds rest ((d,.pointer (some ⟨b,o+i*k,none⟩))::e) w) :
 WL ops Q n ds (⟨some d,.indexAddr t x y,ty,pos,af,none⟩::rest) e w:=
 Nj hx (hY▸hy) ht hsz (by omega) (by omega) hd (by simpa using kk)
theorem tF {x y:Operand} {t b o k:Nat} {p:Nat×Nat} {i:Int} (hx:ev e x=some (.pointer (some ⟨b,o,none⟩))) (hy:ev e y=some (.int .i64 i)) (ht:lk vC t=some p) (hsz:lk df p.2=some k)
 (h0:0≤i) (h1:i<(p.1:Int)) (hd:Nat.blt d n=true) (kk:WL ops Q n ds rest ((d,.pointer (some ⟨b,o+i.toNat*k,none⟩))::e) w) :
 WL ops Q n ds (⟨some d,.indexAddr t x y,ty,pos,af,none⟩::rest) e w:=
 cj (fun a ha=>by simp [execOp,ha.ev hx,ha.ev hy,Instr.indexAt,asIntOf,cB (lM ht),dq hsz,h0,h1,add_eq,Instr.sureAddr]) hd kk
def cutAt (b o:Nat) (cap l k:Nat):Addr:=if cap=l then ⟨b,o,none⟩ else ⟨b,o+l*k,none⟩
theorem mz {x:Operand} {lo hi:Option Operand} {t E k b o len cap:Nat} (l' h':Nat) (hx:ev e x=some (.slice (some ⟨b,o,none⟩) len cap)) (ht:lk dy t=some E) (hsz:lk df E=some k)
 (hlo:match lo with|none=>l'=0|some y=>ev e y=some (.int .i64 (l':Int))) (hhi:match hi with|none=>h'=len|some y=>ev e y=some (.int .i64 (h':Int)))
 (h1:l'≤h') (h2:h'≤cap) (hd:Nat.blt d n=true) (kk:WL ops Q n ds rest ((d,.slice (some (cutAt b o cap l' k)) (h'-l') (cap-l'))::e) w) :
 WL ops Q n ds (⟨some d,.slice t x lo hi none,ty,pos,af,none⟩::rest) e w:=by
 refine cj (fun a ha=>?_) hd kk
 have hu:=bX ht
 have e1:(if cap=l' then (some ⟨b,o,none⟩:Option Addr) else Option.map (fun x:Addr=>x.add (l'*k)) (some (⟨b,o,none⟩:Addr)))=some (cutAt b o cap l' k):=by
  unfold cutAt;split<;>simp [add_eq]
 have c1:(l':Int)≤h':=by omega
 have c2:(h':Int)≤cap:=by omega
 cases lo with
 | none=>
  simp only at hlo;subst hlo
  cases hi with
  | none=>simp only at hhi;subst hhi;simp [execOp,ha.ev hx,Instr.sliceAt,Instr.slice,cB hu,dq hsz,Instr.sliceBounds,← e1]
  | some y=>simp [execOp,ha.ev hx,ha.ev hhi,Instr.sliceAt,Instr.slice,cB hu,dq hsz,Instr.sliceBounds,Instr.sliceBound,asIntOf,h2,← e1]
 | some z=>
  cases hi with
  | none=>simp only at hhi;subst hhi;simp [execOp,ha.ev hx,ha.ev hlo,Instr.sliceAt,Instr.slice,cB hu,dq hsz,Instr.sliceBounds,Instr.sliceBound,asIntOf,h1,← e1]
  | some y=>simp [execOp,ha.ev hx,ha.ev hlo,ha.ev hhi,Instr.sliceAt,Instr.slice,cB hu,dq hsz,Instr.sliceBounds,Instr.sliceBound,asIntOf,h1,h2,← e1]
theorem pT {x:Operand} {lo hi:Option Operand} {t E k c:Nat} (hx:ev e x=some (.slice none 0 c)) (ht:lk dy t=some E) (hsz:lk df E=some k)
 (hlo:match lo with|none=>True|some y=>ev e y=some (.int .i64 0)) (hhi:match hi with|none=>True|some y=>ev e y=some (.int .i64 0)) (hd:Nat.blt d n=true)
 (kk:WL ops Q n ds rest ((d,.slice none 0 c)::e) w) :
 WL ops Q n ds (⟨some d,.slice t x lo hi none,ty,pos,af,none⟩::rest) e w:=by
 refine cj (fun a ha=>?_) hd kk
 have hu:=bX ht
 cases lo<;>cases hi<;>simp only at hlo hhi<;>(try have q1:=ha.ev hlo)<;>(try have q2:=ha.ev hhi)<;>simp_all [execOp,ha.ev hx,Instr.sliceAt,Instr.slice,cB hu,dq hsz,Instr.sliceBounds,Instr.sliceBound,asIntOf]
theorem q7 {x y:Operand} {k ky:IntKind} {t ty2 N m:Nat} {Y:Int} (hx:ev e x=some (.int k (N:Int))) (hy:ev e y=some (.int ky Y)) (hY:Y=(m:Int)) (hm:m≤k.bits) (hd:Nat.blt d n=true)
 (kk:WL ops Q n ds rest ((d,.int k ((N / 2^m:Nat):Int))::e) w):WL ops Q n ds (⟨some d,.binOp .shr t x y ty2,ty,pos,af,none⟩::rest) e w:=by
 subst hY
 refine cj (fun a ha=>?_) hd kk
 have h2:¬ ((m:Int)<0):=by omega
 have hmin:min m k.bits=m:=by omega
 have hdiv:Int.fdiv (N:Int) (2^m)=((N / 2^m:Nat):Int):=by
  rw [Int.fdiv_eq_ediv_of_nonneg _ (by exact_mod_cast Nat.zero_le _)];norm_cast
 simp [execOp,ha.ev hx,ha.ev hy,eqGuard,Go.binOp,Op.shift,h2,hmin,hdiv]
theorem LS {x y:Operand} {k ky:IntKind} {t ty2 N m:Nat} {Y:Int} (hx:ev e x=some (.int k (N:Int))) (hy:ev e y=some (.int ky Y)) (hY:Y=(m:Int)) (hm:m≤k.bits) {M:Nat} (hM:k.wrap ((N*2^m:Nat):Int)=(M:Int)) (hd:Nat.blt d n=true)
 (kk:WL ops Q n ds rest ((d,.int k (M:Int))::e) w):WL ops Q n ds (⟨some d,.binOp .shl t x y ty2,ty,pos,af,none⟩::rest) e w:=by
 subst hY
 refine cj (fun a ha=>?_) hd kk
 have h2:¬ ((m:Int)<0):=by omega
 have hmin:min m k.bits=m:=by omega
 rw [← hM]
 simp [execOp,ha.ev hx,ha.ev hy,eqGuard,Go.binOp,Op.shift,h2,hmin]
def LU:BinOp→Nat→Nat→Option Nat
 | .and,a,b=>some (a &&& b)
 | .or,a,b=>some (a ||| b)
 | .xor,a,b=>some (a ^^^ b)
 | _,_,_=>none
theorem tb {bo:BinOp} {x y:Operand} {k:IntKind} {t ty2 N M R:Nat} (hx:ev e x=some (.int k (N:Int))) (hy:ev e y=some (.int k (M:Int))) (hk:k.signed=false) (hN:N<2^k.bits) (hM:M<2^k.bits) (hR:LU bo N M=some R) (hd:Nat.blt d n=true)
 (kk:WL ops Q n ds rest ((d,.int k (R:Int))::e) w):WL ops Q n ds (⟨some d,.binOp bo t x y ty2,ty,pos,af,none⟩::rest) e w:=by
 refine cj (fun a ha=>?_) hd kk
 have hof:∀ m:Nat,BitVec.ofInt k.bits (m:Int)=BitVec.ofNat k.bits m:=fun m=>by simp
 have hw:∀ m:Nat,m<2^k.bits→k.wrap (m:Int)=m:=fun m hm=>by
  have hmi:((m:Int))%(2^k.bits:Int)=m:=Int.emod_eq_of_lt (by omega) (by exact_mod_cast hm)
  simp only [IntKind.wrap,hk,Bool.false_and,Bool.false_eq_true,if_false,hmi]
 cases bo<;>simp only [LU,Option.some.injEq,reduceCtorEq] at hR<;>subst hR
 ·have:=hw (N &&& M) (Nat.and_lt_two_pow _ hM)
  simp [execOp,ha.ev hx,ha.ev hy,eqGuard,Go.binOp,Op.intBits,hof,BitVec.toNat_and,Nat.mod_eq_of_lt hN,Nat.mod_eq_of_lt hM,this]
 ·have:=hw (N ||| M) (Nat.or_lt_two_pow hN hM)
  simp [execOp,ha.ev hx,ha.ev hy,eqGuard,Go.binOp,Op.intBits,hof,BitVec.toNat_or,Nat.mod_eq_of_lt hN,Nat.mod_eq_of_lt hM,this]
 ·have:=hw (N ^^^ M) (Nat.xor_lt_two_pow hN hM)
  simp [execOp,ha.ev hx,ha.ev hy,eqGuard,Go.binOp,Op.intBits,hof,BitVec.toNat_xor,Nat.mod_eq_of_lt hN,Nat.mod_eq_of_lt hM,this]
theorem tG {x:Operand} {t N:Nat} (hx:ev e x=some (.int .u32 (N:Int))) (hN:N<4294967296) (hd:Nat.blt d n=true)
 (kk:WL ops Q n ds rest ((d,.int .u32 ((4294967295-N:Nat):Int))::e) w):WL ops Q n ds (⟨some d,.unOp .xor t x,ty,pos,af,none⟩::rest) e w:=by
 refine cj (fun a ha=>?_) hd kk
 have h1:(4294967295#32 ^^^ BitVec.ofNat 32 N).toNat=4294967295-N:=by
  have e1:(4294967295#32)=BitVec.allOnes 32:=by decide
  rw [e1,BitVec.allOnes_xor,BitVec.toNat_not,BitVec.toNat_ofNat,Nat.mod_eq_of_lt (by omega)]
 have h2:IntKind.u32.wrap (((4294967295-N:Nat)):Int)=((4294967295-N:Nat):Int):=IntWalk.u32_in _ (by omega)
 simp [execOp,ha.ev hx,Op.unary,Op.intBits,IntKind.signed,IntKind.max,IntKind.bits]
 exact (congrArg (fun m:Nat=>IntKind.u32.wrap (m:Int)) h1).trans h2
theorem LV (bs:Bs):∀ s:ByteArray,(bs.map fun x=>((x.toNat:Int))).foldl (fun r n=>r.push (UInt8.ofNat n.toNat)) s=⟨(s.data.toList++bs).toArray⟩:=by
 induction bs with
 | nil=>intro s;simp
 | cons x r ih=>
  intro s
  simp only [List.map_cons,List.foldl_cons,ih]
  simp [ByteArray.push]
theorem se {b o len c:Nat} {bs:Bs} (h:∀ j u,(bs.map bV)[j]?=some u→w.cell? ⟨b,o+j,none⟩=some u) (hl:bs.length=len):(Conv.bytesToString (.slice (some ⟨b,o,none⟩) len c)).run Tryz.prog w=.ok (str bs) w:=by
 have h1:=run_loadCells_list (P:=Tryz.prog) w ⟨b,o,none⟩ (bs.map bV) (fun j u hj=>by rw [add_eq];exact h j u hj)
 rw [List.length_map,hl] at h1
 have h2:=run_bytesToString (P:=Tryz.prog) w ⟨b,o,none⟩ len c (bs.map fun x=>((x.toNat:Int))) (by rw [h1,List.map_map];rfl)
 rw [h2,LV]
 simp [str]
theorem Ht {x:Operand} {sh:Bool} {b o len c E:Nat} {all:List Value} (bs:Bs) (hs:Sat W0 l w) (hx:ev e x=some (.slice (some ⟨b,o,none⟩) len c)) (t:Take (ob sh b (.cells all.toArray E (0,0))) l r)
 (hb:∀ j u,(bs.map bV)[j]?=some u→all[o+j]?=some u) (hl:bs.length=len) (hd:Nat.blt d n=true) (kk:WL ops Q n ds rest ((d,str bs)::e) w) :
 WL ops Q n ds (⟨some d,.convert 93 9 x,ty,pos,af,none⟩::rest) e w:=by
 refine cj (fun a ha=>?_) hd kk
 have h1:=se (w:=w) (c:=c) (fun j u hj=>by rw [hs.cell t];exact hb j u hj) hl
 simp [execOp,ha.ev hx,run_convert_bytes_string w 93 9 5 _ len c (bX rfl) (kz rfl) (iO (t:=9) rfl),h1]
theorem J7 {x:Operand} {len c:Nat} (hx:ev e x=some (.slice none len c)) (hd:Nat.blt d n=true) (kk:WL ops Q n ds rest ((d,str [])::e) w) :
 WL ops Q n ds (⟨some d,.convert 93 9 x,ty,pos,af,none⟩::rest) e w:=by
 refine cj (fun a ha=>?_) hd kk
 simp [execOp,ha.ev hx,run_convert_bytes_string w 93 9 5 _ len c (bX rfl) (kz rfl) (iO (t:=9) rfl),Conv.bytesToString]
 rfl
end
end
section
variable {ops:Array Oper} {Q:Exit→Act→World→Prop} {n:Nat} {ds:Md} {e:Env} {w w':World} {rest:List Oper}
variable {op:Op} {ty:TypeId} {pos:String} {af:Array Edge} {d:Nat} {v u:Value} {W0:World} {l l' r r':List ah}
theorem cE {T:Nat} {x:Operand} {z:List Value} (hs:Sat W0 l w)
 (k:∀ w' b,Sat W0 (blk b T z::l) w'→WL ops Q n ds rest ((d,.pointer (some ⟨b,0,none⟩))::e) w')
 (hx:ev e x=some v:=by rfl) (hz:v.cells=z.toArray:=by rfl) (hd:Nat.blt d n=true:=by rfl):WL ops Q n ds (⟨some d,.box T x,ty,pos,af,none⟩::rest) e w:=LQ hs hx hz hd k
theorem aS {T:Nat} {z:List Value} (hs:Sat W0 l w)
 (k:∀ w' b,Sat W0 (blk b T z::l) w'→WL ops Q n ds rest ((d,.pointer (some ⟨b,0,none⟩))::e) w')
 (hz:lk js T=some z:=by rfl) (hd:Nat.blt d n=true:=by rfl):WL ops Q n ds (⟨some d,.alloc T,ty,pos,af,none⟩::rest) e w:=Hn hs hz hd k
theorem bD {x y:Operand} {T b o E:Nat} {cs:List Value} (hs:Sat W0 l w) (k:∀ w',Sat W0 l' w'→WL ops Q n ds rest e w')
 (hx:ev e x=some (.pointer (some ⟨b,o,none⟩)):=by rfl) (hy:ev e y=some v:=by rfl) (hz:lk df T=some 1:=by rfl)
 (t:ic l (blk b E cs) (blk b E (cs.set o v)) l':=by repeat (first|exact ic.here|apply ic.there)) (h1:dD v=true:=by rfl) (hlt:Nat.blt o cs.length=true:=by rfl) :
 WL ops Q n ds (⟨none,.store T x y,ty,pos,af,none⟩::rest) e w:=zj hs hx hy hz h1 t hlt k
theorem fw {x:Operand} {t E:Nat} {z:Value} (hs:Sat W0 l w)
 (kk:∀ w' b,Sat W0 (blk b E [v]::l) w'→WL ops Q n ds rest ((d,.slice (some ⟨b,0,none⟩) 1 1)::e) w')
 (hx:ev e x=some v:=by rfl) (ht:lk dy t=some E:=by rfl) (hsz:lk df E=some 1:=by rfl) (hz:lk js E=some [z]:=by rfl) (h1:dD v=true:=by rfl) (hd:Nat.blt d n=true:=by rfl) :
 WL ops Q n ds (⟨some d,.buildSlice t 1 #[(0,x)],ty,pos,af,none⟩::rest) e w:=J6 hs hx ht hsz hz h1 hd kk
theorem xP {x y:Operand} {b c:Nat} {bs:Bs} {z:UInt8} (hs:Sat W0 l w) (kk:∀ v' w',Sat W0 (cC v' (bs++[z])::r') w'→WL ops Q n ds rest ((d,v')::e) w')
 (hx:ev e x=some v:=by rfl) (hy:ev e y=some (.slice (some ⟨b,0,none⟩) 1 c):=by rfl) (tk:Take (cC v bs) l r:=by repeat (first|exact Take.here|apply Take.there))
 (tk':Take (blk b 5 [bV z]) r r':=by repeat (first|exact Take.here|apply Take.there)) (hd:Nat.blt d n=true:=by rfl) (hm:bs.length+1≤140737488355328:=by simp<;>omega) :
 WL ops Q n ds (⟨some d,.call { callee:=.builtin .append,args:=#[x,y],argTypes:=#[93,93] },ty,pos,af,none⟩::rest) e w:=zl z hs hx hy tk tk' hm hd kk
theorem J8 {x y:Operand} {bs s:Bs} (hs:Sat W0 l w) (kk:∀ v' w',Sat W0 (cC v' (bs++s)::r) w'→WL ops Q n ds rest ((d,v')::e) w')
 (hx:ev e x=some v:=by rfl) (hy:ev e y=some (str s):=by rfl) (tk:Take (cC v bs) l r:=by repeat (first|exact Take.here|apply Take.there))
 (hd:Nat.blt d n=true:=by rfl) (hm:bs.length+s.length≤140737488355328:=by simp<;>omega) :
 WL ops Q n ds (⟨some d,.call { callee:=.builtin .append,args:=#[x,y],argTypes:=#[93,9] },ty,pos,af,none⟩::rest) e w:=mx (m:=s.length) hs hx hy tk (LR rfl) hm hd kk
theorem DF {x y:Operand} {bs ns:Bs} (hs:Sat W0 l w) (kk:∀ v' w',Sat W0 (cC v' (bs++ns)::r) w'→WL ops Q n ds rest ((d,v')::e) w')
 (hx:ev e x=some v:=by rfl) (hy:ev e y=some u:=by rfl) (tk:Take (cC v bs) l r:=by repeat (first|exact Take.here|apply Take.there))
 (tk':Take (cC u ns) l r':=by repeat (first|exact Take.here|apply Take.there))
 (hd:Nat.blt d n=true:=by rfl) (hm:bs.length+ns.length≤140737488355328:=by simp<;>omega) :
 WL ops Q n ds (⟨some d,.call { callee:=.builtin .append,args:=#[x,y],argTypes:=#[93,93] },ty,pos,af,none⟩::rest) e w:=mx (m:=ns.length) hs hx hy tk (q6 rfl tk') hm hd kk
theorem fx {T b o E:Nat} {sh:Bool} {cs:List Value} (vs:List Value) (hs:Sat W0 l w) (t:Take (ob sh b (.cells cs.toArray E (0,0))) l r) (hT:lk kZ T=some true) (hz:lk df T=some vs.length) (hc:gh cs o vs) :
 (loadVar T ⟨b,o,none⟩).run Tryz.prog w=.ok (.agg vs.toArray) w:=iR hT hz (hs.cell t) hc
theorem cZ {x y:Operand} {T b E:Nat} {cs vs:List Value} (hs:Sat W0 l w) (k:∀ w',Sat W0 l' w'→WL ops Q n ds rest e w') (hx:ev e x=some (.pointer (some ⟨b,0,none⟩)):=by rfl) (hy:ev e y=some (.agg vs.toArray):=by rfl) (hz:lk df T=some vs.length:=by rfl)
 (t:ic l (blk b E cs) (blk b E vs) l':=by repeat (first|exact ic.here|apply ic.there)) (hl:vs.length=cs.length:=by rfl) (h1:vs.all dD=true:=by rfl) :
 WL ops Q n ds (⟨none,.store T x y,ty,pos,af,none⟩::rest) e w:=
 BK hs hx hy hz h1 (by
  have:eV cs 0 vs=vs:=by unfold eV;rw [Nat.zero_add,hl];simp
  rw [this];exact t) (by omega) k
theorem bA {parts:Array (Nat×Operand)} {t:Nat} {ps:List (Nat×Value)} {pl:List (Nat×Nat)} {z:List Value} (cs:List Value) (k:WL ops Q n ds rest ((d,.agg cs.toArray)::e) w)
 (hp:zn e parts.toList=some ps:=by rfl) (hpl:lk lC t=some pl:=by rfl) (hz:lk js t=some z:=by rfl)
 (hf:mY (fun i=>pl[i]?) z ps=some cs:=by rfl) (hd:Nat.blt d n=true:=by rfl):WL ops Q n ds (⟨some d,.build t parts,ty,pos,af,none⟩::rest) e w:=Hr hp hpl hz hf hd k
theorem zo {p:Prop} [Decidable p] (hv:yv e op=some (.bool (decide p))) (hp:p) (hd:Nat.blt d n=true) (k:WL ops Q n ds rest ((d,.bool true)::e) w):WL ops Q n ds (⟨some d,op,ty,pos,af,none⟩::rest) e w:=eO (by rw [hv];simp [hp]) hd k
theorem zp {p:Prop} [Decidable p] (hv:yv e op=some (.bool (decide p))) (hp:¬ p) (hd:Nat.blt d n=true) (k:WL ops Q n ds rest ((d,.bool false)::e) w):WL ops Q n ds (⟨some d,op,ty,pos,af,none⟩::rest) e w:=eO (by rw [hv];simp [hp]) hd k
theorem zq {b:Bool} (hv:yv e op=some (.bool b)) (hp:b=true) (hd:Nat.blt d n=true) (k:WL ops Q n ds rest ((d,.bool true)::e) w):WL ops Q n ds (⟨some d,op,ty,pos,af,none⟩::rest) e w:=eO (by rw [hv,hp]) hd k
theorem zr {b:Bool} (hv:yv e op=some (.bool b)) (hp:b=false) (hd:Nat.blt d n=true) (k:WL ops Q n ds rest ((d,.bool false)::e) w):WL ops Q n ds (⟨some d,op,ty,pos,af,none⟩::rest) e w:=eO (by rw [hv,hp]) hd k
theorem ae {f:FuncId} {xs:Array Operand} {at_:Array TypeId} {vs:List Value} {u:Unit}
 (h:Calls Tryz.prog f vs.toArray w fun x w'=>∃ v,x=.returned v∧WL ops Q n ds rest ((d,v)::e) w')
 (hf:lk tu f=some u:=by rfl) (hx:sZ e xs.toList=some vs:=by rfl) (hd:Nat.blt d n=true:=by rfl) :
 WL ops Q n ds (⟨some d,.call { callee:=.value (.func f),args:=xs,argTypes:=at_ },ty,pos,af,none⟩::rest) e w:=DC hf hx hd h
theorem met {f:FuncId} {vs:Array Value} {R R':Ending→World→Prop} (h:Calls Tryz.prog f vs w R) (k:∀ x w',R x w'→R' x w'):Calls Tryz.prog f vs w R':=h.mono k
end
end Go.Proofs.YtecibefflhomdaaGreatDoor
