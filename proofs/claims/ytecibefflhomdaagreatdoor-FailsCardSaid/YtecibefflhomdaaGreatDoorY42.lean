/-
  Part 42: THE FRAME the statements' data, out of the reading of the ar; THE FRAME from a contract of a law's function, walked in one.
-/
import Derived.Test.YtecibefflhomdaaGreatDoorY41
import Derived.ChangeShapes
import Derived.ChangeArms
import Derived.SizedLaws
import Derived.Conc.HoldsTime
import Derived.Handed
import Derived.Test.YtecibefflhomdaaGreatDoorCards
import Derived.Test.YtecibefflhomdaaGreatDoorTie
set_option maxHeartbeats 8000000
set_option maxRecDepth 100000
set_option linter.all false
namespace Go.Proofs.YtecibefflhomdaaGreatDoor
open Go
section
open Go.Proofs.YtecibefflhomdaaGreatDoor.Pure (bO)
section
variable {H:Type} {enc:TypeId×Value→H} {w:World} {base fuel:Nat} {sp:Nat→Bool} {held:Bool}
def Wt (t:TypeId) (d:DataW H):Prop:=∀ x∈DataW.weights Tryz.prog t d,x≤140737488355328
theorem sP {α:Type} {P:Nat→α→Prop}:∀ n:Nat,(∀ i,i<n→∃ a,P i a)→∃ l:List α,l.length=n∧∀ i a,l[i]?=some a→P i a
 | 0,_=>⟨[],rfl,fun i a h=>by simp at h⟩
 | n+1,h=>by
  obtain ⟨l,h1,h2⟩:=sP n fun i hi=>h i (by omega)
  obtain ⟨a,ha⟩:=h n (by omega)
  refine ⟨l++[a],by simp [h1],fun i b hb=>?_⟩
  by_cases hi:i<l.length
  ·rw [List.getElem?_append_left hi] at hb;exact h2 i b hb
  ·have hlt:=(List.getElem?_eq_some_iff.1 hb).1
   simp at hlt
   have:i=l.length:=by omega
   subst this
   rw [List.getElem?_append_right (Nat.le_refl _)] at hb
   simp at hb
   subst hb
   rw [h1];exact ha
theorem Bb {k:Nat} {u:Value}:∀ {rows:List (List Value)} {j:Nat},(∀ r∈rows,r.length=k)→rows.flatten[j]?=some u→∃ i r row,rows[i]?=some row∧j=i*k+r∧row[r]?=some u
 | [],_,_,h=>by simp at h
 | r::rows,j,hk,h=>by
  rw [List.flatten_cons] at h
  have hr:r.length=k:=hk r (by simp)
  by_cases hj:j<r.length
  ·rw [List.getElem?_append_left hj] at h
   exact ⟨0,j,r,rfl,by simp,h⟩
  ·rw [List.getElem?_append_right (by omega)] at h
   obtain ⟨i,r',row,h1,h2,h3⟩:=Bb (fun r hr=>hk r (by simp [hr])) h
   exact ⟨i+1,r',row,by simpa using h1,by rw [Nat.succ_mul];omega,h3⟩
theorem Jl {e:TypeId} {y:DataW H}:∀ {l:List (DataW H)},(∀ x∈DataW.weightsAll Tryz.prog e l,x≤140737488355328)→y∈l→Wt e y
 | d::r,h,hy=>by
  unfold DataW.weightsAll at h
  rcases List.mem_cons.1 hy with rfl|hy
  ·exact fun x hx=>h x (List.mem_append_left _ hx)
  ·exact Jl (fun x hx=>h x (List.mem_append_right _ hx)) hy
theorem rY {α:Type} {t e k:Nat} {rowOf:α→List Value} {R:α→Prop} {cs:List Value} {x:DataW H×List MemPlace} (ht:Tryz.prog.underlying t=some (.slice e)) (hc:Tryz.prog.cellsOf e=k) (hk:0<k) (hrow:∀ a,(rowOf a).length=k)
 (helem:∀ n cs y,DataW.trod enc Tryz.prog w base sp held n e cs=some y→Wt e y.1→∃ a,cs=rowOf a∧R a)
 (h:DataW.trod enc Tryz.prog w base sp held fuel t cs=some x) (hw:Wt t x.1) :
 ∃ (v:Value) (l:List α),cs=[v]∧vA w k v (l.map rowOf)∧(∀ a∈l,R a)∧∀ a n c,v=.slice a n c→n≤c:=by
 rcases DataW.trod_slice ht h with ⟨rfl,rfl⟩|⟨a,len,cap,elems,rest,n,rfl,rfl,rfl,_,hle,_,hlen,hel,_,_⟩
 ·exact ⟨_,[],rfl,⟨⟨none,0,rfl⟩,by simp,fun hh=>absurd rfl hh⟩,by simp,fun a n c hh=>by injection hh with _ h2 h3;omega⟩
 ·have hwe:∀ y∈elems,Wt e y.1:=fun y hy=>by
   unfold Wt DataW.weights at hw
   rw [ht] at hw
   exact Jl (l:=elems.map (·.1)) (fun z hz=>hw z (List.mem_cons_of_mem _ (List.mem_append_left _ hz))) (List.mem_map.2 ⟨y,hy,rfl⟩)
  have hall:∀ i,i<len→∃ b:α,R b∧∀ j u,(rowOf b)[j]?=some u→w.cell? ((a.add (i*k)).add j)=some u:=by
   intro i hi
   have h1:=hel i hi
   have hi':i<elems.length:=by omega
   rw [List.getElem?_eq_getElem hi',hc] at h1
   obtain ⟨ci,h2,h3⟩:=Option.bind_eq_some_iff.1 h1
   obtain ⟨b,rfl,hb⟩:=helem n ci _ h3 (hwe _ (List.getElem_mem hi'))
   obtain ⟨_,h5,h6⟩:=World.cells?_some h2
   refine ⟨b,hb,fun j u hu=>?_⟩
   have hj:j<k:=by rw [← hrow b];exact (List.getElem?_eq_some_iff.1 hu).1
   rw [h6 j hj];exact hu
  obtain ⟨l,hl1,hl2⟩:=sP (P:=fun i b=>R b∧∀ j u,(rowOf b)[j]?=some u→w.cell? ((a.add (i*k)).add j)=some u) len hall
  have hlm:(l.map rowOf).length=len:=by rw [List.length_map,hl1]
  refine ⟨_,l,rfl,⟨⟨some a,cap,by rw [hlm]⟩,fun r hr=>?_,fun hne=>?_⟩,fun b hb=>?_,fun a' n' c' hh=>by injection hh with _ h2 h3;omega⟩
  ·obtain ⟨b,_,rfl⟩:=List.mem_map.1 hr;exact hrow b
  ·have hpos:0<l.length:=by cases l with|nil=>exact absurd rfl hne|cons _ _=>simp
   have h0:=(hl2 0 _ (List.getElem?_eq_getElem hpos)).2 0 _ (List.getElem?_eq_getElem (by rw [hrow];exact hk))
   have hsp:a.spot=none:=by
    have:=World.cell?_spot h0
    simpa [Addr.add] using this
   obtain ⟨b0,o0,s0⟩:=a
   have hsp:s0=none:=hsp
   subst hsp
   refine ⟨b0,o0,cap,by rw [hlm],fun j u hu=>?_⟩
   obtain ⟨i,r,row,g1,rfl,g3⟩:=Bb (k:=k) (fun r hr=>by obtain ⟨b,_,rfl⟩:=List.mem_map.1 hr;exact hrow b) hu
   rw [List.getElem?_map] at g1
   obtain ⟨b,g4,rfl⟩:=Option.map_eq_some_iff.1 g1
   have:=(hl2 i b g4).2 r u g3
   rw [add_eq,add_eq] at this
   rw [← Nat.add_assoc];exact this
  ·obtain ⟨i,hi⟩:=List.mem_iff_getElem?.1 hb
   exact (hl2 i b hi).1
theorem Jm {cs:List Value} {x:DataW H×List MemPlace} (h:DataW.trod enc Tryz.prog w base sp held fuel 100 cs=some x) (hw:Wt 100 x.1) :
 ∃ c:bO,cs=j5 c∧c.key.length≤140737488355328∧c.val.length≤140737488355328:=by
 obtain ⟨xs,n,rfl,rfl,hl,hx,hf⟩:=DataW.trod_struct Tryz.underlying100 h
 have c100:Tryz.prog.cellsOf 100=3:=by kernel_rfl
 have c9:Tryz.prog.cellsOf 9=1:=by kernel_rfl
 have c4:Tryz.prog.cellsOf 4=1:=by kernel_rfl
 rw [c100] at hl
 match cs,hl with
 | [v0,v1,v2],_=>
  match xs,hx with
  | [x0,x1,x2],_=>
   have f0:DataW.trod enc Tryz.prog w base sp held n 9 (([v0,v1,v2].drop 0).take (Tryz.prog.cellsOf 9))=some x0:=hf 0 _ rfl
   have f1:DataW.trod enc Tryz.prog w base sp held n 9 (([v0,v1,v2].drop 1).take (Tryz.prog.cellsOf 9))=some x1:=hf 1 _ rfl
   have f2:DataW.trod enc Tryz.prog w base sp held n 4 (([v0,v1,v2].drop 2).take (Tryz.prog.cellsOf 4))=some x2:=hf 2 _ rfl
   rw [c9] at f0 f1
   rw [c4] at f2
   obtain ⟨s0,e0,d0,_⟩:=DataW.trod_string Tryz.underlying9 (show _=some x0 from f0)
   obtain ⟨s1,e1,d1,_⟩:=DataW.trod_string Tryz.underlying9 (show _=some x1 from f1)
   obtain ⟨b2,e2,d2⟩:=DataW.trod_bool Tryz.underlying4 (show _=some x2 from f2)
   simp at e0 e1 e2
   subst e0 e1 e2 d0 d1 d2
   unfold Wt DataW.weights at hw
   rw [Tryz.underlying100] at hw
   simp only [List.map_cons,List.map_nil] at hw
   obtain ⟨⟨l0⟩⟩:=s0
   obtain ⟨⟨l1⟩⟩:=s1
   refine ⟨⟨l0,l1,b2⟩,rfl,hw _ ?_,hw _ ?_⟩
   ·simp [DataW.weightsEach,DataW.weights]
   ·simp [DataW.weightsEach,DataW.weights]
theorem Jn {n:Int} (h:(Lit.int .i64 n).wf=true):-9223372036854775808≤n∧n≤9223372036854775807:=by
 simp only [Lit.wf,Bool.and_eq_true,decide_eq_true_eq] at h
 exact ⟨h.1,h.2⟩
end
end
theorem Jo:ownKnob Tryz.prog.godebug=none:=by kernel_rfl
end Go.Proofs.YtecibefflhomdaaGreatDoor
