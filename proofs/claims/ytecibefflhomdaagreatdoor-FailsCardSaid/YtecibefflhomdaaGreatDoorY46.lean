/-
  Part 46: PLAIN a running store on a small disk that may fail, beside ; WALKS deeds on a store over a disk that may fail.
-/
import Derived.Test.YtecibefflhomdaaGreatDoorY44
set_option maxHeartbeats 8000000
set_option maxRecDepth 100000
set_option linter.all false
namespace Go.Proofs.YtecibefflhomdaaGreatDoor
open Go
section
open Go.Proofs.YtecibefflhomdaaGreatDoor.Pure
theorem K8 {D:ad} (h:D.Ok) {ns:List Bs} (hn:ns.Nodup) (hk:∀ m∈ns,file D m≠none):(ns.map fun n=>(fileOf D n).length).sum≤D.used:=by
 unfold ad.used
 have key:∀ (ns:List Bs) (l:List (Bs×Nat)),ns.Nodup→(∀ n∈ns,∃ p∈l,p.1=n)→(∀ p∈l,aA D.now p.1=some p.2)→(ns.map fun n=>(fileOf D n).length).sum≤(l.map fun p=>(D.aH p.2).length).sum:=by
  intro ns
  induction ns with
  | nil=>intro l _ _ _;simp
  | cons n r ih=>
   intro l hn hs hg
   rw [List.nodup_cons] at hn
   obtain ⟨p,hp,rfl⟩:=hs n List.mem_cons_self
   have h2:(fileOf D p.1).length=(D.aH p.2).length:=by unfold fileOf;rw [hg p hp]
   obtain ⟨A,B,e⟩:=List.append_of_mem hp
   have h1:=ih (A++B) hn.2 (fun x hx=>by
    obtain ⟨q,hq,hqx⟩:=hs x (List.mem_cons_of_mem _ hx)
    have hne:q≠p:=fun hh=>hn.1 (by rw [← hh,hqx];exact hx)
    refine ⟨q,?_,hqx⟩
    rw [e] at hq
    rcases List.mem_append.1 hq with hq|hq
    ·exact List.mem_append_left _ hq
    ·rcases List.mem_cons.1 hq with hq|hq
     ·exact absurd hq hne
     ·exact List.mem_append_right _ hq) fun q hq=>hg q (by
    rw [e]
    rcases List.mem_append.1 hq with hq|hq
    ·exact List.mem_append_left _ hq
    ·exact List.mem_append_right _ (List.mem_cons_of_mem _ hq))
   rw [e]
   simp only [List.map_append,List.map_cons,List.sum_append,List.sum_cons] at h1 ⊢
   omega
 refine key ns D.now hn (fun n hm=>?_) fun p hp=>de h.names hp
 have h1:=hk n hm
 rw [Ne,kr] at h1
 cases hg:aA D.now n with
 | none=>exact absurd hg h1
 | some i=>exact ⟨(n,i),dL hg,rfl⟩
theorem lS (e:az):1≤(cY e).length:=by unfold cY;simp only [List.length_append,dg];omega
theorem r8:∀ l:List az,l.length≤((l.map cY).flatten).length
 | []=>Nat.le_refl _
 | e::r=>by
  have h1:=lS e
  have h2:=r8 r
  simp only [List.map_cons,List.flatten_cons,List.length_append,List.length_cons];omega
theorem Bm:∀ cs:List (List az),cs.flatten.length≤(cg cs).length
 | []=>Nat.le_refl _
 | c::r=>by
  have h1:=r8 c
  have h2:=Bm r
  unfold cg at h2 ⊢
  unfold jr e9
  simp only [List.map_cons,List.flatten_cons,List.length_append,bL]
  unfold jr e9 at h2
  omega
theorem ES:∀ (bs:List (List bO)) (q:Nat),total bs≤(bF q bs).length
 | [],_=>by simp [total]
 | b::r,q=>by
  have h1:=ES r (q+b.length)
  have h2:=r8 (bj q b)
  rw [pH] at h2
  have h3:total (b::r)=b.length+total r:=by simp [total]
  unfold bF kQ
  simp only [List.length_append,bL]
  omega
theorem oK {D:ad} {c:St} {Ls:ga} {bs:List (List bO)} {E:Nat} (h:RecM False D c Ls bs E):cnt Ls+total bs≤D.used∧bs.length≤D.used∧∀ b,file D c.log=some b→b.length≤D.used:=by
 obtain ⟨junk,hj,_⟩:=h.logf
 obtain ⟨k,_,hk⟩:=h.log
 have hnd:(c.log::bN Ls).Nodup:=by
  rw [List.nodup_cons]
  exact ⟨by rw [hk];exact ea h.lv k,h.lv.nodup⟩
 have h1:=K8 h.ok hnd fun m hm=>by
  rcases List.mem_cons.1 hm with hm|hm
  ·rw [hm,hj];simp
  ·obtain ⟨p,hp,rfl⟩:=List.mem_map.1 hm
   obtain ⟨f,cs,h1,_⟩:=h.on p hp
   rw [h1];simp
 have h2:cnt Ls≤((bN Ls).map fun n=>(fileOf D n).length).sum:=by
  unfold cnt bN
  rw [List.map_map]
  have key:∀ l:List (cD×List az),(∀ p∈l,∃ f cs,file D p.1.name=some f∧mi False f p.1 p.2 cs)→(l.map (·.2.length)).sum≤(l.map ((fun n=>(fileOf D n).length) ∘ fun p=>p.1.name)).sum:=by
   intro l
   induction l with
   | nil=>intro _;simp
   | cons p r ih=>
    intro hh
    obtain ⟨f,cs,h1,h2⟩:=hh p List.mem_cons_self
    have h3:=ih fun x hx=>hh x (List.mem_cons_of_mem _ hx)
    have h4:(fileOf D p.1.name).length=f.length:=by rw [jC,h1];rfl
    have h5:f=eU p.2 cs:=by rcases h2.lay with h|h;exact h.elim;exact h
    have h6:=Bm cs
    rw [h2.flat] at h6
    have h7:(cg cs).length≤f.length:=by rw [h5];unfold eU;simp only [List.length_append];omega
    simp only [List.map_cons,List.sum_cons,Function.comp];omega
  exact key _ h.on
 have h3:(fileOf D c.log).length=(bF c.seq bs++junk).length:=by rw [jC,hj];rfl
 rw [List.map_cons,List.sum_cons,h3,List.length_append] at h1
 have h4:=ES bs c.seq
 have h5:=u9 bs c.seq
 refine ⟨by omega,by omega,fun b hb=>?_⟩
 rw [hj] at hb
 obtain rfl:=Option.some.inj hb
 rw [List.length_append];omega
theorem RecM.cap {C:Prop} {D:ad} {c:St} {Ls:ga} {bs:List (List bO)} {E E':Nat} (h:RecM C D c Ls bs E) (hE:cnt Ls+total bs≤E'):RecM C D c Ls bs E':=
 ⟨h.ok,h.levels,h.state,h.num,h.seq,hE,h.lv,h.on,h.seqs,h.ord,h.log,h.logf,h.bsok⟩
structure Small (D:ad):Prop where
 room:D.room≤102999
 fits:(D.used:Int)≤D.room
theorem Small.used {D:ad} (h:Small D):D.used≤102999:=by have:=h.room;have:=h.fits;omega
theorem Small.later {D D':ad} (h:Small D) (k:cS D D'):Small D':=⟨by rw [k.room];exact h.room,k.fits h.fits⟩
structure eH (o:ji) (s:St) (D:ad) (H:List (List bO)) (B S:Nat):Prop where
 run:∃ q0 Ls bs G,jo False s D q0 Ls bs 102999∧file D s.log=some (bF q0 bs)∧bs.length≤B∧OB o s Ls∧H=G++bs∧∀ k,dP (fa (dx Ls) k aG)=aV (aI G) k
 snaps:s.snaps=[]
 seq:s.seq≤S
 small:Small D
structure lK (D:ad) (H:List (List bO)) (N S:Nat):Prop where
 rec_:∃ c Ls bs,RecM False D c Ls bs 102999∧(∀ k,iy c Ls bs k=aV (aI H) k)∧c.seq+total bs≤S∧c.number≤N
 now:D.now.length≤1000000
 small:Small D
section
variable {o:ji} {s:St} {D D':ad} {H G:List (List bO)} {E B S N q0:Nat} {Ls:ga} {bs:List (List bO)}
theorem jo.Dm {E:Nat} (h:jo False s D q0 Ls bs E) (hs:Small D):jo False s D q0 Ls bs 102999∧bs.length≤102999:=by
 obtain ⟨h1,h2,_⟩:=oK h.core
 have:=hs.used
 exact ⟨⟨h.core.cap (by omega),h.mem,h.seq,h.logf,h.known,h.moves,h.snaps⟩,by omega⟩
theorem eH.same (h:eH o s D H B S) (k:cO D D'):eH o s D' H B S:=by
 obtain ⟨q0,Ls,bs,G,h1,h2,h3⟩:=h.run
 exact ⟨⟨q0,Ls,bs,G,h1.same k,by rw [k.file];exact h2,h3⟩,h.snaps,h.seq,h.small.later k.later⟩
theorem eH.K9 (h:eH o s D H B S) (hok:D'.Ok) (hf:∀ m,file D' m=file D m) (hm:D'.moves=D.moves) (hs:Small D'):eH o s D' H B S:=by
 obtain ⟨q0,Ls,bs,G,h1,h2,h3⟩:=h.run
 exact ⟨⟨q0,Ls,bs,G,⟨h1.core.files hok fun m _=>hf m,h1.mem,h1.seq,by rw [hf];exact h1.logf,fun m hh=>h1.known m (by rw [← hf];exact hh),by rw [hm];exact h1.moves,h1.snaps⟩,by rw [hf];exact h2,h3⟩,h.snaps,h.seq,hs⟩
theorem lK.K9 (h:lK D H N S) (hok:D'.Ok) (hf:∀ m,file D' m=file D m) (hs:Small D'):lK D' H N S:=by
 obtain ⟨c,Ls,bs,h1,h2⟩:=h.rec_
 refine ⟨⟨c,Ls,bs,h1.files hok fun m _=>hf m,h2⟩,?_,hs⟩
 have h3:=u1 hok (ns:=fu D) fun m hm=>by rw [hf] at hm;exact iJ.2 hm
 rw [jF] at h3
 exact Nat.le_trans h3 h.now
theorem lK.more {N' S':Nat} (h:lK D H N S) (hN:N≤N') (hS:S≤S'):lK D H N' S':=by
 obtain ⟨c,Ls,bs,h1,h2,h3,h4⟩:=h.rec_
 exact ⟨⟨c,Ls,bs,h1,h2,by omega,by omega⟩,h.now,h.small⟩
theorem eH.ok (h:eH o s D H B S):D.Ok:=by obtain ⟨q0,Ls,bs,G,h1,_⟩:=h.run;exact h1.core.ok
theorem eH.more {B' S':Nat} (h:eH o s D H B S) (hB:B≤B') (hS:S≤S'):eH o s D H B' S':=by
 obtain ⟨q0,Ls,bs,G,h1,h2,h3,h4⟩:=h.run
 exact ⟨⟨q0,Ls,bs,G,h1,h2,Nat.le_trans h3 hB,h4⟩,h.snaps,Nat.le_trans h.seq hS,h.small⟩
theorem eH.tight (h:eH o s D H B S):eH o s D H 102999 S:=by
 obtain ⟨q0,Ls,bs,G,h1,h2,h3,h4⟩:=h.run
 exact ⟨⟨q0,Ls,bs,G,h1,h2,(h1.Dm h.small).2,h4⟩,h.snaps,h.seq,h.small⟩
theorem eH.swap (h:eH o s D H 0 S) (hH:aI G=aI H):eH o s D G 0 S:=by
 obtain ⟨q0,Ls,bs,G0,h1,h2,h3,h4,rfl,h5⟩:=h.run
 have hb:bs=[]:=List.eq_nil_of_length_eq_zero (by omega)
 subst hb
 rw [List.append_nil] at hH
 exact ⟨⟨q0,Ls,[],G,h1,h2,h3,h4,by rw [List.append_nil],fun k=>by rw [hH];exact h5 k⟩,h.snaps,h.seq,h.small⟩
theorem eH.Jx (h:eH o s D H B S):s.mem.length≤102999:=by
 obtain ⟨q0,Ls,bs,G,h1,_⟩:=h.run
 have:=h1.core.cntE;rw [h1.qM.2];omega
theorem eH.La (h:eH o s D H B S):(cI s).length≤1048576:=by
 obtain ⟨q0,Ls,bs,G,h1,_⟩:=h.run
 obtain ⟨ps,p1,_,_,p4,_⟩:=u2 h1.levels h1.core.lv.len
 rw [p1,List.length_map,p4];exact h1.core.CQ (by omega)
theorem GK:∀ {ps:List (Bs×Bs)},jS ps→∀ {ks:List Bs},(∀ k,aV ps k≠none→k∈ks)→ps.length≤ks.length:=by
 intro ps hs ks hk
 have h1:(ps.map (·.1)).Nodup:=by
  refine List.pairwise_map.2 (hs.imp fun {a b} hab he=>?_)
  have h2:aQ a.1 b.1=true:=hab
  rw [he,aN] at h2;cases h2
 have h2:=mj h1 fun k hk'=>hk k (by
  obtain ⟨p,hp,rfl⟩:=List.mem_map.1 hk'
  have:aV ps p.1=some p.2:=wv hs hp
  rw [this];simp)
 rwa [List.length_map] at h2
theorem eH.Lb (h:eH o s D H 0 S):(aI H).length≤102999:=by
 obtain ⟨q0,Ls,bs,G,h1,h2,h3,h4,rfl,h5⟩:=h.run
 have hb:bs=[]:=List.eq_nil_of_length_eq_zero (by omega)
 subst hb
 rw [List.append_nil]
 have h6:=GK (jH G) (ks:=((Ls.flatten.map (·.2)).flatten).map (·.key)) fun k hk=>by
  rw [← h5 k] at hk
  cases hv:fa (dx Ls) k aG with
  | none=>rw [hv] at hk;exact absurd rfl hk
  | some e=>
   obtain ⟨l,hl,hv⟩:=wy hv
   obtain ⟨v1,v2,_⟩:=fT hv
   obtain ⟨p,hp,rfl⟩:=AP hl h1.core.lv.len
   exact List.mem_map.2 ⟨e,List.mem_flatten.2 ⟨_,List.mem_map.2 ⟨p,hp,rfl⟩,v1⟩,v2⟩
 have h7:=h1.core.cntE
 rw [List.length_map,iI] at h6
 unfold cnt at h7
 omega
theorem eH.get (h:eH o s D H B S) (key:Bs):∃ x D',vL s D key aG=some (x,D')∧cO D D'∧eH o s D' H B S∧((∃ e,x=.error e∧qX False D e)∨x=j7 (aI H) key):=by
 obtain ⟨q0,Ls,bs,G,h1,h2,h3,h4,rfl,h5⟩:=h.run
 obtain ⟨x,D',k1,k2,k3⟩:=IU h1 key aG
 refine ⟨x,D',k1,k2,h.same k2,?_⟩
 unfold j7
 rcases k3 with ⟨k3,k4⟩|⟨k3,⟨e,k4,k5⟩|k4⟩
 ·exact .inr (by rw [if_pos k3];exact k4)
 ·exact .inl ⟨e,k4,k5⟩
 ·refine .inr ?_
  rw [if_neg k3,k4]
  congr 1
  exact mo h1 h5 key
theorem eH.scan (h:eH o s D H B S) (lo hi:Bs) (limit:Int):∃ x D',Ae s D lo hi limit aG=some (x,D')∧cO D D'∧eH o s D' H B S∧((∃ e,x=.error e∧qX False D e)∨x=.ok (dW (aI H) lo hi limit)):=by
 obtain ⟨q0,Ls,bs,G,h1,h2,h3,h4,rfl,h5⟩:=h.run
 obtain ⟨x,D',k1,k2,k3⟩:=Gb h1 (by omega) lo hi limit aG (jH _) (mo h1 h5)
 exact ⟨x,D',k1,k2,h.same k2,k3⟩
theorem yZ {c:St} {E:Nat} (hR:RecM False D' c Ls bs E) (hL:Left D' c N E) (hE:E≤330000) (hs:Small D') (hv:∀ k,iy c Ls bs k=aV (aI H) k) (hq:c.seq+total bs≤S):lK D' H N S:=by
 obtain ⟨h1,h2,_⟩:=oK hR
 have:=hs.used
 have:=hL.now
 exact ⟨⟨c,Ls,bs,hR.cap (by omega),hv,hq,hL.num⟩,by omega,hs⟩
theorem eH.write {l:List bO} {sync:Bool} (ho:1≤o.tables) (hom:1≤o.memory) (h:eH o s D H B S) (hl:JR l) (hS:S+8≤4611686018427387904) (hn:s.number+1000000≤4611686018427387904) :
 ∃ x D',kR o s D l sync=some (x,D')∧cS D D'∧((∃ e,x=.error e∧sF False D e∧(lK D' H (s.number+1000000) (S+8)∨lK D' (H++[l]) (s.number+1000000) (S+8))) ∨
  ∃ s',x=.ok s'∧eH o s' D' (H++[l]) 102999 (S+8)∧s'.number≤s.number+1000000):=by
 have hsq:=h.seq
 have hsn:=h.snaps
 have hll:=hl.len
 obtain ⟨q0,Ls,bs,G,h1,h2,h3,h4,rfl,h5⟩:=h.tight.run
 obtain ⟨x,D',k1,k2,k3⟩:=Gk (sync:=sync) ho hom h1 h2 hl (by omega) (by omega) (by omega) (by omega) h4.1 (mo h1 h5) fun m hm=>by rw [hsn] at hm;cases hm
 have hsm:=h.small.later k2
 refine ⟨x,D',k1,k2,?_⟩
 rcases k3 with ⟨e,rfl,b,c',Ls',bs',⟨c1,c2⟩,c3⟩|⟨s',q2,Ls',bs',rfl,a1,a2,a3,a4,a5,a6,a7,a8,a9,a10⟩
 ·refine .inl ⟨e,rfl,b,?_⟩
  rcases c3 with ⟨c3,c4⟩|⟨c3,c4⟩
  ·exact .inl ((yZ c1 c2 (by omega) hsm c4 (S:=S+8) (by omega)).more (by omega) (Nat.le_refl _))
  ·exact .inr ((yZ (H:=G++bs++[l]) c1 c2 (by omega) hsm (fun k=>by rw [jG];exact c4 k) (S:=S+8) (by omega)).more (by omega) (Nat.le_refl _))
 ·obtain ⟨b1,b2⟩:=a1.Dm hsm
  refine .inr ⟨s',rfl,⟨?_,by rw [a4];exact hsn,by omega,hsm⟩,by omega⟩
  rcases a10 with ⟨c1,⟨rfl,rfl⟩|⟨c2,rfl⟩⟩
  ·exact ⟨q2,_,_,G,b1,a2,b2,⟨c1,h4.2⟩,by rw [List.append_assoc],h5⟩
  ·refine ⟨q2,Ls',[],G++bs++[l],b1,a2,by simp,⟨c1,c2⟩,by rw [List.append_nil],fun k=>?_⟩
   have:=a7 k
   unfold gV at this
   rw [a1.mem,bC] at this
   rw [jG]
   exact this
theorem eH.Lc (ho:1≤o.tables) (ho2:2≤o.tables) (hom:1≤o.memory) (h:eH o s D H B S) (hS:S≤4611686018427387904) (hn:s.number+1000000≤4611686018427387904) :
 ∃ x D',me o s D=some (x,D')∧cS D D'∧((∃ e,x=.error e∧sF False D e∧lK D' H (s.number+1000000) S) ∨
  ∃ s',x=.ok s'∧eH o s' D' H 102999 S∧s'.number≤s.number+1000000):=by
 have hsq:=h.seq
 have hsn:=h.snaps
 obtain ⟨q0,Ls,bs,G,h1,h2,h3,h4,rfl,h5⟩:=h.tight.run
 obtain ⟨x,D',k1,k2,k3⟩:=AU ho h1 h2 (by omega) (by omega) (by omega)
 have hsm:=h.small.later k2
 have hse:=mo h1 h5
 refine ⟨x,D',k1,k2,?_⟩
 rcases k3 with ⟨e,rfl,b,c',Ls',bs',⟨c1,c2⟩,c3⟩|⟨s',q2,Ls',bs',rfl,a1,a2,a3,a4,a5,a6,a7,a8,a9,a10,a11,a12,a13⟩
 ·refine .inl ⟨e,rfl,b,?_⟩
  refine (yZ (H:=G++bs) c1 c2 (by omega) hsm (fun k=>?_) (S:=S) ?_).more (by omega) (Nat.le_refl _)
  ·rcases c3 with ⟨c3,c4⟩|⟨c3,c4⟩<;>rw [c4 k]<;>exact hse k
  ·rcases c3 with ⟨c3,c4⟩|⟨c3,c4⟩<;>omega
 ·have hok:OB o s' Ls':=by
   refine ⟨by rw [a10];simp;omega,?_⟩
   obtain ⟨R,ls,_,rfl,_⟩:=a11
   exact ⟨by simp;omega,by simp,by simp⟩
  have hv:∀ k,dP (fa (dx Ls') k aG)=aV (aI (G++bs)) k:=fun k=>by
   have h6:=a7 k
   rw [hse k] at h6
   unfold gV at h6
   rw [a10,bC] at h6
   exact h6
  obtain ⟨b1,b2⟩:=a1.Dm hsm
  refine .inr ⟨s',rfl,⟨?_,by rw [a4];exact hsn,by omega,hsm⟩,by omega⟩
  rcases a13 with rfl|rfl
  ·exact ⟨q2,Ls',[],G++bs,b1,a2,by simp,hok,by rw [List.append_nil],hv⟩
  ·exact ⟨q2,Ls',_,G,b1,a2,h3,hok,rfl,fun k=>by rw [hv k,sQ _ _ a12]⟩
theorem eH.sync (h:eH o s D H B S):cS D (dR D s.log)∧eH o s (dR D s.log) H B S∧(bz D s.log=none∨∃ e,bz D s.log=some e∧qE D e):=by
 obtain ⟨q0,Ls,bs,G,h1,h2,h3⟩:=h.run
 obtain ⟨y1,y2,y3,y4⟩:=qF h1.core.ok s.log
 exact ⟨y3,h.K9 y3.ok y1 y4 (h.small.later y3),fe h2⟩
theorem eH.rest (h:eH o s D H B S):lK D H s.number S:=by
 have hsq:=h.seq
 obtain ⟨q0,Ls,bs,G,h1,h2,h3,h4,rfl,h5⟩:=h.run
 have h6:=h1.now
 have h7:=h1.seq
 refine ⟨⟨_,Ls,bs,h1.core,fun k=>?_,by show q0+total bs≤S;omega,Nat.le_refl _⟩,by omega,h.small⟩
 exact (h1.iy k).trans (mo h1 h5 k)
theorem Jy {c:St} (ho:1≤o.tables) (hom:1≤o.memory) (h:RecM False D c Ls bs 102999) (hv:∀ k,iy c Ls bs k=aV (aI H) k) (hs:Small D) (hq:c.seq+total bs≤S)
 (hm:D.moves.length+D.now.length≤2097152∨(D.moves.length≤2097152∧D.now.length≤2097152∧∀ m,file D m≠none→pF c Ls m)) (hnow:D.now.length≤200000∨D.bad=0) (hnum:c.number+1000000≤4611686018427387904) :
 ∃ x D',j9 o D=some (x,D')∧cS D D'∧((∃ e,x=.error e∧sF False D e∧(D.now.length≤200000→lK D' H (c.number+1000000) S))∨∃ s',x=.ok s'∧eH o s' D' H 0 S∧s'.number≤c.number+1000000):=by
 obtain ⟨hb1,hb2,hb3⟩:=oK h
 have hu:=hs.used
 obtain ⟨x,D',k1,k2,k3⟩:=IY ho h (fun b hb=>by have:=hb3 b hb;omega) (by omega) (by omega) hm (by omega)
 have hsm:=hs.later k2
 refine ⟨x,D',k1,k2,?_⟩
 rcases k3 with ⟨e,rfl,b,c',Ls',bs',⟨c1,c2⟩,c3,c4⟩|⟨s',Ls',rfl,a2,a3,a4,a5,a6,a7,a8,a9,a10⟩
 ·refine .inl ⟨e,rfl,b,fun hn=>?_⟩
  have h8:=oK c1
  have h9:=hsm.used
  have h10:=c2.now
  have h11:=c2.num
  exact ⟨⟨c',Ls',bs',c1,fun k=>(c4 k).trans (hv k),by omega,by omega⟩,by omega,hsm⟩
 ·exact .inr ⟨s',rfl,⟨⟨_,Ls',[],H,a2,by rw [a9];rfl,by simp,⟨by rw [a4];simp;omega,a10⟩,by rw [List.append_nil],fun k=>(a3 k).trans (hv k)⟩,a5,by omega,hsm⟩,by omega⟩
theorem eH.again (ho:1≤o.tables) (hom:1≤o.memory) (h:eH o s D H B S) (hn:s.number+1000000≤4611686018427387904) :
 ∃ x D',j9 o D=some (x,D')∧cS D D'∧((∃ e,x=.error e∧sF False D e∧lK D' H (s.number+1000000) S)∨∃ s',x=.ok s'∧eH o s' D' H 0 S∧s'.number≤s.number+1000000):=by
 have hsq:=h.seq
 obtain ⟨q0,Ls,bs,G,h1,h2,h3,h4,rfl,h5⟩:=h.run
 have h6:=h1.now
 have h7:=h1.seq
 have hmv:=h1.moves
 obtain ⟨x,D',k1,k2,k3⟩:=Jy (H:=G++bs) (S:=S) ho hom h1.core (fun k=>(h1.iy k).trans (mo h1 h5 k)) h.small (by show q0+total bs≤S;omega) (.inr ⟨hmv,by omega,fun m hm=>h1.known m hm⟩) (.inl (by omega)) hn
 refine ⟨x,D',k1,k2,?_⟩
 rcases k3 with ⟨e,a1,a2,a3⟩|k3
 ·exact .inl ⟨e,a1,a2,a3 (by omega)⟩
 ·exact .inr k3
theorem lK.open (ho:1≤o.tables) (hom:1≤o.memory) (h:lK D H N S) (k:rS D D') (hn:N+1000000≤4611686018427387904) :
 ∃ x D2,j9 o D'=some (x,D2)∧cS D' D2∧((∃ e,x=.error e∧e.2=9)∨∃ s',x=.ok s'∧eH o s' D2 H 0 S∧s'.number≤N+1000000):=by
 obtain ⟨c,Ls,bs,h1,h2,h3,h4⟩:=h.rec_
 have hsm:Small D':=⟨by rw [k.room];exact h.small.room,by rw [k.room,k.used];exact h.small.fits⟩
 have hnow:D'.now.length≤1000000:=by
  have h5:=u1 k.ok (ns:=fu D) fun m hm=>by rw [k.file] at hm;exact iJ.2 hm
  rw [jF] at h5
  exact Nat.le_trans h5 h.now
 obtain ⟨x,D2,k1,k2,k3⟩:=Jy (H:=H) (S:=S) ho hom (h1.files k.ok fun m _=>k.file m) h2 hsm h3 (.inl (by rw [k.moves];simp only [List.length_nil];omega)) (.inr k.bad) (by omega)
 refine ⟨x,D2,k1,k2,?_⟩
 rcases k3 with ⟨e,a1,a2,_⟩|⟨s',a1,a2,a3⟩
 ·refine .inl ⟨e,a1,?_⟩
  rcases a2 with (a2|a2)|a2
  ·have:=a2.2;have:=k.bad;omega
  ·exact a2.1.elim
  ·exact a2.1
 ·exact .inr ⟨s',a1,a2,by omega⟩
theorem Ld (ho:1≤o.tables) (hom:1≤o.memory) {r:Int} (h0:0≤r) (h1:r≤102999) (k:rS (dB r) D') :
 ∃ x D2,j9 o D'=some (x,D2)∧cS D' D2∧((∃ e,x=.error e∧e.2=9)∨∃ s',x=.ok s'∧eH o s' D2 [] 0 0∧s'.number≤1):=by
 obtain ⟨x,D2,a1,a2,a3⟩:=Gl (o:=o) ho hom k.ok (fun m=>by rw [k.file];rfl) k.bad k.moves
 have hsm:Small D':=⟨by rw [k.room];exact h1,by rw [k.room,k.used];exact h0⟩
 refine ⟨x,D2,a1,a2,?_⟩
 rcases a3 with ⟨e,b1,b2⟩|⟨s',b1,b2,b3⟩
 ·refine .inl ⟨e,b1,?_⟩
  rcases b2 with (b2|b2)|b2
  ·have:=b2.2;have:=k.bad;omega
  ·exact b2.1.elim
  ·exact b2.1
 ·have hsn:=b2.live
  have hsq:=b2.seq
  obtain ⟨q0,Ls,bs,c1,c2,c3,c5,c6,c7⟩:=b2.run
  have hb:bs=[]:=List.eq_nil_of_length_eq_zero (by omega)
  subst hb
  refine .inr ⟨s',b1,⟨⟨q0,Ls,[],[],c1.more (by omega),c2,by simp,c7,rfl,fun k=>?_⟩,List.eq_nil_of_length_eq_zero hsn,hsq,hsm.later a2⟩,b3⟩
  have:=c5 k
  unfold gV at this
  rw [c1.mem,bC] at this
  exact this
end
end
section
open Go.Proofs.YtecibefflhomdaaGreatDoor.Pure (ad bO aQ mZ aV)
attribute [local irreducible] IntKind.wrap
structure sY (X:SS) (N S L:Nat):Prop where
 opt:JS X.o.memory X.o.tables=true
 inv:eH X.o X.s X.D X.H 102999 S
 num:X.s.number≤N
 hlen:X.H.length≤L
 tot:total X.H≤L
 sfb:X.sf≤X.H.length
theorem sY.ho {X:SS} {N S L:Nat} (h:sY X N S L):1≤X.o.memory∧X.o.memory≤32∧2≤X.o.tables∧X.o.tables≤6:=by simpa [JS] using h.opt
theorem sY.more {X:SS} {N S L N' S' L':Nat} (h:sY X N S L) (hN:N≤N') (hS:S≤S') (hL:L≤L'):sY X N' S' L':=
 ⟨h.opt,h.inv.more (Nat.le_refl _) hS,Nat.le_trans h.num hN,Nat.le_trans h.hlen hL,Nat.le_trans h.tot hL,h.sfb⟩
structure FB where
 x:Nat
 d:Nat
 hp:Nat
 o:ji
 D:ad
 H:List (List bO)
 sf:Nat
 mb:Bool
structure Le (Y:FB) (N S L:Nat):Prop where
 opt:JS Y.o.memory Y.o.tables=true
 rec_:∃ j,Y.H.length≤j+Y.mb.toNat∧j≤Y.H.length∧lK Y.D (Y.H.take j) N S
 hlen:Y.H.length≤L
 tot:total Y.H≤L
 sfb:Y.sf+Y.mb.toNat≤Y.H.length
theorem Le.more {Y:FB} {N S L N' S' L':Nat} (h:Le Y N S L) (hN:N≤N') (hS:S≤S') (hL:L≤L'):Le Y N' S' L':=by
 obtain ⟨j,h1,h2,h3⟩:=h.rec_
 exact ⟨h.opt,⟨j,h1,h2,h3.more hN hS⟩,Nat.le_trans h.hlen hL,Nat.le_trans h.tot hL,h.sfb⟩
def OW (Y:FB) (b:Nat) (cl:Bool) (e:cy) (s:St) (F:List ah):List ah:=aJ Y.x Y.d (au b) Y.o Y.hp::dh b Y.d Y.o cl (some e) s::ag Y.d Y.D::cJ Y.hp Y.H Y.sf Y.mb::F
def OX (Y:FB) (F:List ah):List ah:=aJ Y.x Y.d (.pointer none) Y.o Y.hp::ag Y.d Y.D::cJ Y.hp Y.H Y.sf Y.mb::F
def o7 (W0:World) (r:Bool) (x:Nat) (o:ji) (F:List ah) (N S L:Nat):Ending→World→Prop:=fun y w'=>
 ∃ n:Nat,y=.returned (.tuple #[.int .i64 (n:Int),.bool false]) ∧
  (((n=0∨(r=true∧(n=8∨n=9)))∧∃ X',X'.x=x∧X'.o=o∧sY X' N S L∧Sat W0 (sL X' F) w') ∨
   (r=false∧(n=8∨n=9)∧∃ Y:FB,Y.x=x∧Y.o=o∧Le Y N S L∧((∃ b e s,e.2=n∧Sat W0 (OW Y b false e s F) w')∨Sat W0 (OX Y F) w')))
theorem o7.more {W0:World} {r:Bool} {x:Nat} {o:ji} {F:List ah} {N S L N' S' L':Nat} {y:Ending} {w:World} (h:o7 W0 r x o F N S L y w) (hN:N≤N') (hS:S≤S') (hL:L≤L'):o7 W0 r x o F N' S' L' y w:=by
 obtain ⟨n,h1,h⟩:=h
 refine ⟨n,h1,?_⟩
 rcases h with ⟨h2,X',a,b,c,e⟩|⟨h2,h3,Y,a,b,c,e⟩
 ·exact .inl ⟨h2,X',a,b,c.more hN hS hL,e⟩
 ·exact .inr ⟨h2,h3,Y,a,b,c.more hN hS hL,e⟩
theorem sF.num {D:ad} {e:cy} (h:sF False D e):e.2=8∨e.2=9:=by
 rcases h with (h|h)|h
 ·exact .inl h.1
 ·exact h.1.elim
 ·exact .inr h.1
variable {W0 w:World} {F:List ah} {v:Value} {X:SS} {N S L:Nat}
theorem y0 {b d:Nat} {o:ji} {cl:Bool} {e:cy} (h:Sat W0 (Ov b d o cl (.error e)::F) w):∃ s,Sat W0 (dh b d o cl (some e) s::F) w:=by
 obtain ⟨s,-,hs2⟩:=h.eI (φ:=fun _=>True) (B:=fun s=>[dh b d o cl (some e) s]) fun hp ⟨s,h2⟩=>⟨s,trivial,hp,fun _=>none,fun _ _ _ _ hy=>(by cases hy),Hp.le_refl _,fun _ _ hx=>(by cases hx),h2,trivial⟩
 exact ⟨s,hs2⟩
theorem xG {d:Nat} {o:ji} {v:Value} {e:cy} (h:Sat W0 (EL d o v (.error e)::F) w):v=.pointer none∧Sat W0 F w:=by
 obtain ⟨_,h1,hs2⟩:=h.eI (φ:=fun _:Unit=>v=.pointer none) (B:=fun _=>[]) fun hp h1=>⟨(),h1,trivial⟩
 exact ⟨h1,hs2⟩
theorem vT {o:vB} (hk:o.kind=2) (hW:jB W0) (hE:kY W0) (h:sY X N S L) (hS:S≤4611686018427387904) (hN:N+1000000≤4611686018427387904) (hs:Sat W0 (sL X F) w) :
 Calls Tryz.prog 43 #[au X.x,.agg (GG o).toArray] w (o7 W0 false X.x X.o F (N+1000000) S L):=by
 obtain ⟨kk,lv,l⟩:=o
 dsimp only at hk
 subst hk
 have ho:=h.ho
 obtain ⟨r,D',e1,e2,e3⟩:=h.inv.Lc (by omega) ho.2.2.1 ho.1 hS (by have:=h.num;omega)
 refine enter Tryz.func43 rfl Tryz.ntmps43 Tryz.results43 rfl ?_
 refine gy ?_
 refine cE (z:=[.int .i64 2,lv]) hs ?_
 clear hs
 intro w b3 hs
 have hs:Sat W0 (blk b3 104 [.int .i64 2,lv]::aJ X.x X.d (au X.b) X.o X.hp::dh X.b X.d X.o false none X.s::ag X.d X.D::cJ X.hp X.H X.sf false::F) w:=hs
 refine gy ?_
 refine ae (met (C6 rfl e1 hW (hs.eA (.there (.there .here)) (.there (.there .here)))) ?_)
 clear hs
 rintro _ w ⟨ve,rfl,hs⟩
 refine ⟨_,rfl,?_⟩
 rcases e3 with ⟨e,rfl,hf,hi⟩|⟨s',rfl,hi,hn⟩
 ·have hnum:=hf.num
  obtain ⟨s',hs⟩:=y0 hs
  have hs:Sat W0 (dh X.b X.d X.o false (some e) s'::ag X.d D'::ax ve (some e)::blk b3 104 [.int .i64 2,lv]::aJ X.x X.d (au X.b) X.o X.hp::cJ X.hp X.H X.sf false::F) w:=hs
  refine gy ?_
  refine ae (met (bK hE (hs.take (.there (.there .here)))) ?_)
  clear hs
  rintro _ w ⟨rfl,hs⟩
  refine ⟨_,rfl,?_⟩
  have hn0:¬ ((gn (some e):Nat):Int)=0:=by show ¬ ((e.2:Nat):Int)=0;omega
  refine gy ?_
  exact ak rfl ⟨e.2,rfl,.inr ⟨rfl,hnum,⟨X.x,X.d,X.hp,X.o,D',X.H,X.sf,false⟩,rfl,rfl,⟨h.opt,⟨X.H.length,by simp,Nat.le_refl _,by rw [List.take_length];exact hi.more (by have:=h.num;omega) (Nat.le_refl _)⟩,h.hlen,h.tot,h.sfb⟩,.inl ⟨X.b,e,s',rfl,hs.to⟩⟩⟩
 have hs:Sat W0 (dh X.b X.d X.o false none s'::ag X.d D'::ax ve none::blk b3 104 [.int .i64 2,lv]::aJ X.x X.d (au X.b) X.o X.hp::cJ X.hp X.H X.sf false::F) w:=hs
 refine gy ?_
 refine ae (met (bK hE (hs.take (.there (.there .here)))) ?_)
 clear hs
 rintro _ w ⟨rfl,hs⟩
 refine ⟨_,rfl,?_⟩
 have hn0:((gn none:Nat):Int)=0:=rfl
 obtain ⟨vb,vp,us,hu,hs2⟩:=(hs.take (.there (.there (.there (.there (.there .here)))))).gD
 obtain ⟨ba,bc,rfl,-⟩:=(hs2.take (.there .here)).ay
 have hs:Sat W0 (aJ X.x X.d (au X.b) X.o X.hp::blk X.hp 49 [.slice ba X.H.length bc,.int .i64 (X.sf:Int),.bool false,vp]::aE 1 (.slice ba X.H.length bc) 52 X.H.length us::j8 us X.H::bw vp (aI X.H)::dh X.b X.d X.o false none s'::ag X.d D'::F) w:=hs2.to
 clear hs2
 refine gy ?_
 refine bH [aJ X.x X.d (au X.b) X.o X.hp,blk X.hp 49 [.slice ba X.H.length bc,.int .i64 (X.sf:Int),.bool false,vp]] [3,7,10] (.q 0 (.q 1 (.q 2 (.s 3 (.q 4 (.q 5 (.q 6 (.s 7 (.q 8 (.q 9 (.s 10 (.q 11 (.q 12 (.q 13 (.l 14 .nil))))))))))))))) hs (by kernel_rfl) ?_
 clear hs
 intro w hs
 refine gg ?_
 refine bD hs ?_
 clear hs
 intro w hs
 refine gy ?_
 refine cA rfl ?_
 refine gg ?_
 refine gy ?_
 refine ak rfl ⟨0,rfl,.inl ⟨.inl rfl,⟨X.x,X.d,X.b,X.hp,X.o,s',D',X.H,X.H.length⟩,rfl,rfl,⟨h.opt,hi,by show s'.number≤_;have:=h.num;omega,h.hlen,h.tot,Nat.le_refl _⟩,?_⟩⟩
 have h2:=Sat.eY (sf:=X.H.length) (mb:=false) (hp:=X.hp) hu (hs.to (a:=blk X.hp 49 [.slice ba X.H.length bc,.int .i64 (X.H.length:Int),.bool false,vp]::aE 1 (.slice ba X.H.length bc) 52 X.H.length us::j8 us X.H::bw vp (aI X.H)::aJ X.x X.d (au X.b) X.o X.hp::dh X.b X.d X.o false none s'::ag X.d D'::F))
 exact h2.to
theorem Bn {o:vB} (hk:o.kind=3) (hW:jB W0) (hE:kY W0) (h:sY X N S L) (hS:S≤4611686018427387904) (hN:N+1000000≤4611686018427387904) (hs:Sat W0 (sL X F) w) :
 Calls Tryz.prog 43 #[au X.x,.agg (GG o).toArray] w (o7 W0 false X.x X.o F (N+1000000) S L):=by
 obtain ⟨kk,lv,l⟩:=o
 dsimp only at hk
 subst hk
 have ho:=h.ho
 obtain ⟨c1,c2,c3⟩:=h.inv.sync
 refine enter Tryz.func43 rfl Tryz.ntmps43 Tryz.results43 rfl ?_
 refine gy ?_
 refine cE (z:=[.int .i64 3,lv]) hs ?_
 clear hs
 intro w b3 hs
 have hs:Sat W0 (blk b3 104 [.int .i64 3,lv]::aJ X.x X.d (au X.b) X.o X.hp::dh X.b X.d X.o false none X.s::ag X.d X.D::cJ X.hp X.H X.sf false::F) w:=hs
 refine gy ?_
 refine ae (met (iK (hs.eA (.there (.there .here)) (.there (.there .here)))) ?_)
 clear hs
 rintro _ w ⟨ve,rfl,hs⟩
 refine ⟨_,rfl,?_⟩
 have ecl:pL false none X.s X.D=(bz X.D X.s.log,dR X.D X.s.log):=rfl
 rw [ecl] at hs
 rcases c3 with c3|⟨e,c3,ht⟩
 case inr=>
  rw [c3] at hs
  have hnum:e.2=8∨e.2=9:=.inl ht.1
  have hs:Sat W0 (aJ X.x X.d (au X.b) X.o X.hp::ag X.d (dR X.D X.s.log)::ax ve (some e)::cJ X.hp X.H X.sf false::F) w:=hs.to
  refine gy ?_
  refine ae (met (bK hE (hs.take (.there (.there .here)))) ?_)
  clear hs
  rintro _ w ⟨rfl,hs⟩
  refine ⟨_,rfl,?_⟩
  have hn0:((gn (some e):Nat):Int)≠0:=by show ((e.2:Nat):Int)≠0;omega
  have hs:=hs.to (a:=aJ X.x X.d (au X.b) X.o X.hp::ag X.d (dR X.D X.s.log)::cJ X.hp X.H X.sf false::F)
  refine gy ?_
  refine bD hs ?_
  clear hs
  intro w hs
  refine gy ?_
  exact ak rfl ⟨e.2,rfl,.inr ⟨rfl,hnum,⟨X.x,X.d,X.hp,X.o,dR X.D X.s.log,X.H,X.sf,false⟩,rfl,rfl,⟨h.opt,⟨X.H.length,by simp,Nat.le_refl _,by rw [List.take_length];exact c2.rest.more (by have:=h.num;omega) (Nat.le_refl _)⟩,h.hlen,h.tot,h.sfb⟩,.inr hs.to⟩⟩
 rw [c3] at hs
 obtain ⟨r,D',e1,e2,e3⟩:=c2.again (by omega) ho.1 (by have:=h.num;omega)
 have hs:Sat W0 (aJ X.x X.d (au X.b) X.o X.hp::ag X.d (dR X.D X.s.log)::ax ve none::cJ X.hp X.H X.sf false::F) w:=hs.to
 refine gy ?_
 refine ae (met (bK hE (hs.take (.there (.there .here)))) ?_)
 clear hs
 rintro _ w ⟨rfl,hs⟩
 refine ⟨_,rfl,?_⟩
 have hn0:((gn none:Nat):Int)=0:=rfl
 have hs:=hs.to (a:=aJ X.x X.d (au X.b) X.o X.hp::ag X.d (dR X.D X.s.log)::cJ X.hp X.H X.sf false::F)
 refine gy ?_
 refine bD hs ?_
 clear hs
 intro w hs
 obtain ⟨vb,vp,us,hu,hs2⟩:=(hs.take (.there (.there .here))).gD
 obtain ⟨ba,bc,rfl,-⟩:=(hs2.take (.there .here)).ay
 have hs:Sat W0 (aJ X.x X.d (.pointer none) X.o X.hp::blk X.hp 49 [.slice ba X.H.length bc,.int .i64 (X.sf:Int),.bool false,vp]::aE 1 (.slice ba X.H.length bc) 52 X.H.length us::j8 us X.H::bw vp (aI X.H)::ag X.d (dR X.D X.s.log)::F) w:=hs2.to
 clear hs2
 refine gy ?_
 refine bH [aJ X.x X.d (.pointer none) X.o X.hp,blk X.hp 49 [.slice ba X.H.length bc,.int .i64 (X.sf:Int),.bool false,vp]] [3,7,10] (.q 0 (.q 1 (.q 2 (.s 3 (.q 4 (.q 5 (.q 6 (.s 7 (.q 8 (.q 9 (.s 10 (.q 11 (.q 12 (.q 13 (.l 14 .nil))))))))))))))) hs (by kernel_rfl) ?_
 clear hs
 intro w hs
 refine gg ?_
 refine bD hs ?_
 clear hs
 intro w hs
 refine gy ?_
 refine cA rfl ?_
 refine gg ?_
 have h2:=Sat.eY (sf:=X.H.length) (mb:=false) (hp:=X.hp) hu (hs.to (a:=blk X.hp 49 [.slice ba X.H.length bc,.int .i64 (X.H.length:Int),.bool false,vp]::aE 1 (.slice ba X.H.length bc) 52 X.H.length us::j8 us X.H::bw vp (aI X.H)::aJ X.x X.d (.pointer none) X.o X.hp::ag X.d (dR X.D X.s.log)::F))
 have hs:Sat W0 (aJ X.x X.d (.pointer none) X.o X.hp::ag X.d (dR X.D X.s.log)::cJ X.hp X.H X.H.length false::F) w:=h2.to
 clear h2
 refine gy ?_
 refine bH [aJ X.x X.d (.pointer none) X.o X.hp] [3,7] (.q 0 (.q 1 (.q 2 (.s 3 (.q 4 (.q 5 (.q 6 (.s 7 (.l 8 (.q 9 (.q 10 (.q 11 (.q 12 (.q 13 .nil)))))))))))))) hs (by kernel_rfl) ?_
 clear hs
 intro w hs
 refine gg ?_
 refine B2 [.int .i64 (X.o.memory:Int),.int .i64 (X.o.tables:Int)] rfl rfl rfl rfl .here ⟨rfl,rfl,trivial⟩ rfl ?_
 refine gg ?_
 refine ae (met (mV (o:=X.o) ⟨ho.1,ho.2.1⟩ ⟨ho.2.2.1,ho.2.2.2⟩ e1 hW hE (hs.take (.there .here))) ?_)
 clear hs
 rintro _ w ⟨sv,ve,rfl,hs⟩
 refine ⟨_,rfl,?_⟩
 rcases e3 with ⟨e,rfl,hf,hi⟩|⟨s',rfl,hi,hn⟩
 ·have hnum:=hf.num
  obtain ⟨rfl,hs2⟩:=xG hs
  have hs:Sat W0 (aJ X.x X.d (.pointer none) X.o X.hp::ag X.d D'::ax ve (some e)::cJ X.hp X.H X.H.length false::F) w:=hs2.to
  clear hs2
  refine gy ?_
  refine cX hs.to ?_
  refine gg ?_
  refine gy ?_
  refine ae (met (bK hE (hs.take (.there (.there .here)))) ?_)
  clear hs
  rintro _ w ⟨rfl,hs⟩
  refine ⟨_,rfl,?_⟩
  have hn0:((gn (some e):Nat):Int)≠0:=by show ((e.2:Nat):Int)≠0;omega
  have hs:=hs.to (a:=aJ X.x X.d (.pointer none) X.o X.hp::ag X.d D'::cJ X.hp X.H X.H.length false::F)
  refine gy ?_
  refine bD hs ?_
  clear hs
  intro w hs
  refine gy ?_
  refine yS false rfl rfl (by simp [gn]) rfl ?_
  refine gy ?_
  exact ak rfl ⟨e.2,rfl,.inr ⟨rfl,hnum,⟨X.x,X.d,X.hp,X.o,D',X.H,X.H.length,false⟩,rfl,rfl,⟨h.opt,⟨X.H.length,by simp,Nat.le_refl _,by rw [List.take_length];exact hi.more (by have:=h.num;omega) (Nat.le_refl _)⟩,h.hlen,h.tot,Nat.le_refl _⟩,.inr hs.to⟩⟩
 obtain ⟨b,rfl,hs2⟩:=qW hs
 have hs:Sat W0 (aJ X.x X.d (.pointer none) X.o X.hp::dh b X.d X.o false none s'::ag X.d D'::ax ve none::cJ X.hp X.H X.H.length false::F) w:=hs2.to
 clear hs2
 refine gy ?_
 refine cX hs.to ?_
 refine gg ?_
 refine gy ?_
 refine ae (met (bK hE (hs.take (.there (.there (.there .here))))) ?_)
 clear hs
 rintro _ w ⟨rfl,hs⟩
 refine ⟨_,rfl,?_⟩
 have hn0:((gn none:Nat):Int)=0:=rfl
 have hs:=hs.to (a:=aJ X.x X.d (.pointer none) X.o X.hp::dh b X.d X.o false none s'::ag X.d D'::cJ X.hp X.H X.H.length false::F)
 refine gy ?_
 refine bD hs ?_
 clear hs
 intro w hs
 refine gy ?_
 refine yS false rfl rfl (by simp [gn]) rfl ?_
 refine gy ?_
 exact ak rfl ⟨0,rfl,.inl ⟨.inl rfl,⟨X.x,X.d,b,X.hp,X.o,s',D',X.H,X.H.length⟩,rfl,rfl,⟨h.opt,hi.more (Nat.zero_le _) (Nat.le_refl _),by show s'.number≤_;have:=h.num;omega,h.hlen,h.tot,Nat.le_refl _⟩,hs.to⟩⟩
end
end Go.Proofs.YtecibefflhomdaaGreatDoor
