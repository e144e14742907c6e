/-
  Part 39: WALKS the document's GetAt, ScanAt, Release, Snapshot; WALKS api; WALKS slices; WALKS slices.
-/
import Derived.Test.YtecibefflhomdaaGreatDoorV38
import Derived.Shelf.Sort.Plain
set_option maxHeartbeats 8000000
set_option maxRecDepth 100000
set_option linter.all false
namespace Go.Proofs.YtecibefflhomdaaGreatDoor
open Go
section
open Go.Proofs.YtecibefflhomdaaGreatDoor.Pure (ae cG aR bE bB jh jf)
attribute [local irreducible] IntKind.wrap
variable {W0 w:World} {F:List ax} {v:Value} {ps:List (Bs×Bs)} {rb:Nat} {r:mM}
def l6 (r:mM) (n:Int) (key:Bs):Except cx (Option Bs):=match wY r n with
 | .error e=>.error e
 | .ok ps=>lZ ps key
theorem An {n:Int} {e:cx} (h:wY r n=.error e):(e.2:Int)≠0:=by
 unfold wY at h
 split at h
 ·cases h;simp
 ·split at h<;>cases h
  simp
theorem CC {n:Int} {key:Bs} (hp:∀ ps,wY r n=.ok ps→ps.length≤1099511627776) (hs:Sat W0 (eS rb r::F) w) :
 Calls Tryz.prog 133 #[ay rb,.int .i64 n,str key] w fun x w'=>x=.returned (Qn (l6 r n key))∧Sat W0 (eS rb r::F) w':=by
 refine enter Tryz.func133 rfl Tryz.ntmps133 Tryz.results133 rfl ?_
 refine gy ?_
 refine ag (met (wI (n:=n) hs) ?_)
 clear hs
 rintro _ w ⟨u,rfl,hs⟩
 refine ⟨_,rfl,?_⟩
 unfold l6
 cases hx:wY r n with
 | error e=>
  rw [hx] at hs
  have hne:(gC (cU (.error e:Except cx (List (Bs×Bs)))):Int)≠0:=An hx
  refine gy ?_
  exact ah rfl ⟨rfl,hs.drop⟩
 | ok ps=>
  rw [hx] at hs
  have hne:¬ ((gC (cU (.ok ps:Except cx (List (Bs×Bs)))):Int)≠0):=by simp [cU,gC]
  refine gy ?_
  refine ag (met (tq (ps:=ps) hs (hp ps hx)) ?_)
  clear hs
  rintro _ w ⟨rfl,hs⟩
  refine ⟨_,rfl,?_⟩
  refine gy ?_
  exact ah rfl ⟨rfl,hs.drop⟩
def nz (r:mM) (n:Int) (lo hi:Bs) (limit:Int):Except cx (List (Bs×Bs)):=match wY r n with
 | .error e=>.error e
 | .ok ps=>.ok (bB ps lo hi limit)
theorem Ao {n:Int} {lo hi:Bs} {limit:Int} (hp:∀ ps,wY r n=.ok ps→ps.length≤1099511627776) (hs:Sat W0 (eS rb r::F) w) :
 Calls Tryz.prog 135 #[ay rb,.int .i64 n,str lo,str hi,.int .i64 limit] w fun x w'=>∃ u,x=.returned (.tuple #[u,.int .i64 (gC (cU (nz r n lo hi limit)):Int)])∧Sat W0 (aG u (xh (nz r n lo hi limit))::eS rb r::F) w':=by
 refine enter Tryz.func135 rfl Tryz.ntmps135 Tryz.results135 rfl ?_
 refine gy ?_
 refine ag (met (wI (n:=n) hs) ?_)
 clear hs
 rintro _ w ⟨u,rfl,hs⟩
 refine ⟨_,rfl,?_⟩
 unfold nz
 cases hx:wY r n with
 | error e=>
  rw [hx] at hs
  have hne:(gC (cU (.error e:Except cx (List (Bs×Bs)))):Int)≠0:=An hx
  refine gy ?_
  exact ah rfl ⟨_,rfl,Sat.j7 hs.drop (.inl rfl) (fun _=>rfl)⟩
 | ok ps=>
  rw [hx] at hs
  have hne:¬ ((gC (cU (.ok ps:Except cx (List (Bs×Bs)))):Int)≠0):=by simp [cU,gC]
  refine gy ?_
  refine ag (met (rm (ps:=ps) hs (hp ps hx)) ?_)
  clear hs
  rintro _ w ⟨u2,rfl,hs⟩
  refine ⟨_,rfl,?_⟩
  have hs:=hs.Am
  refine gy ?_
  exact ah rfl ⟨_,rfl,hs.to⟩
def Ip (r:mM) (n:Int):mM:=match wY r n with
 | .error _=>r
 | .ok _=>{ r with snaps:=r.snaps.set (n-1).toNat none }
theorem Iq {n:Int} (hs:Sat W0 (eS rb r::F) w) :
 Calls Tryz.prog 74 #[ay rb,.int .i64 n] w fun x w'=>x=.returned (.int .i64 (gC (cU (wY r n)):Int))∧Sat W0 (eS rb (Ip r n)::F) w':=by
 refine enter Tryz.func74 rfl Tryz.ntmps74 Tryz.results74 rfl ?_
 refine gy ?_
 refine ag (met (wI (n:=n) hs) ?_)
 clear hs
 rintro _ w ⟨u,rfl,hs⟩
 refine ⟨_,rfl,?_⟩
 unfold Ip
 cases hx:wY r n with
 | error e=>
  rw [hx] at hs
  have hne:¬ ((gC (cU (.error e:Except cx (List (Bs×Bs)))):Int)=0):=An hx
  refine gy ?_
  exact ah rfl ⟨rfl,hs.drop⟩
 | ok ps=>
  rw [hx] at hs
  have hne:((gC (cU (.ok ps:Except cx (List (Bs×Bs)))):Int)=0):=by simp [cU,gC]
  have hin:1≤n∧n≤(r.snaps.length:Int):=by
   unfold wY at hx
   split at hx
   ·cases hx
   ·unfold il at hx
    by_cases hh:1≤n∧n≤(r.snaps.length:Int)
    ·exact hh
    ·rw [if_neg hh] at hx;cases hx
  obtain ⟨i,hi⟩:∃ i:Nat,n=(i:Int)+1:=⟨(n-1).toNat,by omega⟩
  subst hi
  have hlt:i<r.snaps.length:=by omega
  have hi2:((i:Int)+1)-1=(i:Int):=by omega
  have e1:((i:Int)+1-1).toNat=i:=by omega
  rw [e1]
  clear hx
  obtain ⟨vp,vs,us,hu,hs⟩:=(hs.drop).jD
  obtain ⟨bs,cap,rest,rfl,q1,q2,q3,h3⟩:=(hs.take (.there (.there .here))).dw (by omega)
  clear hs
  have hfl:(fw us r.snaps).flatten.length=r.snaps.length*2:=by rw [ic (oG us r.snaps),nt us r.snaps hu.1]
  have hs:Sat W0 (blk bs 177 ((fw us r.snaps).flatten++rest)::blk rb 88 [vp,.slice (some ⟨bs,0,none⟩) r.snaps.length cap,.bool r.closed]::aG vp r.pairs::pk us r.snaps::F) w:=h3.to
  clear h3
  have hsn:r.snaps.length≤9223372036854775807:=by simp only [maxLen] at q2;omega
  refine gy ?_
  refine bz [.bool false,.slice none 0 0] ?_
  refine gy ?_
  have e2:dk ((fw us r.snaps).flatten++rest) (0+i*2) [.bool false,.slice none 0 0]=(fw (us.set i (.slice none 0 0)) (r.snaps.set i none)).flatten++rest:=by
   have e3:=oF (x:=[.bool false,.slice none 0 0]) (k:=2) rfl (fw us r.snaps) i (oG us r.snaps) (by rw [nt us r.snaps hu.1];exact hlt)
   have e4:fw (us.set i (.slice none 0 0)) (r.snaps.set i none)=(fw us r.snaps).set i [.bool false,.slice none 0 0]:=nq _ _ _ _ _ _
   rw [e4]
   rw [← e3,Nat.zero_add]
   unfold dk
   rw [List.take_append_of_le_length (by omega),List.drop_append_of_le_length (by rw [hfl];show i*2+2≤_;omega)]
   simp
  refine uI (o:=0+i*2) hs rfl rfl rfl rfl (by rw [e2];exact gV.here) (by rw [List.length_append,hfl];show 0+i*2+2≤_;omega) ?_
  clear hs
  intro w hs
  refine gy ?_
  refine ah rfl ⟨rfl,?_⟩
  have hu2:(us.set i (.slice none 0 0)).length=(r.snaps.set i none).length∧∀ y∈us.set i (.slice none 0 0),df y=true:=⟨by simp [hu.1],fun y hy=>by
   rcases List.mem_or_eq_of_mem_set hy with h|rfl
   ·exact hu.2 _ h
   ·rfl⟩
  have hl2:(r.snaps.set i none).length=r.snaps.length:=by simp
  have hcl:=Sat.dg (k:=2) (len:=(r.snaps.set i none).length) (cap:=cap) hs (by rw [hl2];exact q1) q2 (by rw [hl2];exact q3) (by rw [ic (oG _ _),nt _ _ hu2.1]) (fun y hy=>by
   obtain ⟨row,hr,hy⟩:=List.mem_flatten.1 hy
   obtain ⟨x1,y1,hx1,hy1,rfl⟩:=wH hr
   simp [yS] at hy
   rcases hy with rfl|rfl
   ·rfl
   ·exact hu2.2 _ hx1)
  clear hs
  have h6:Sat W0 (tT (.slice (some ⟨bs,0,none⟩) r.snaps.length cap) (us.set i (.slice none 0 0)) (r.snaps.set i none)::blk rb 88 [vp,.slice (some ⟨bs,0,none⟩) r.snaps.length cap,.bool r.closed]::aG vp r.pairs::pk us r.snaps::F) w:=by
   rw [hl2] at hcl
   show Sat W0 (aL 2 _ 177 (r.snaps.set i none).length _::_) w
   rw [hl2]
   exact hcl
  have h6:=h6.take (.there (.there (.there .here)))
  have h7:=h6.head (A':=pk (us.set i (.slice none 0 0)) (r.snaps.set i none)) fun hp k=>by
   show cL (List.zipWith PB (us.set i _) (r.snaps.set i none)) hp
   rw [nq]
   exact CB (fun _=>trivial) k
  have h8:=Sat.dK (rb:=rb) (r:={ r with snaps:=r.snaps.set i none }) (vp:=vp) (vs:=.slice (some ⟨bs,0,none⟩) r.snaps.length cap) (us:=us.set i (.slice none 0 0)) (F:=F) hu2 h7.to
  exact h8
def sH (r:mM):Nat:=if r.closed=true then 6 else if 4≤live r then 2 else 0
def yT (r:mM):mM:=if sH r=0 then { r with snaps:=r.snaps++[some r.pairs] } else r
def Ap (r:mM):Nat:=if sH r=0 then r.snaps.length+1 else 0
theorem Ir {l:List (Option (List (Bs×Bs)))} {i:Nat} {x:Option (List (Bs×Bs))} (h:l[i]?=some x):((l.take (i+1)).filter Option.isSome).length=((l.take i).filter Option.isSome).length+(if x.isSome=true then 1 else 0):=by
 rw [List.take_add_one,h,List.filter_append,List.length_append]
 cases x<;>rfl
theorem EZ (hsn:r.snaps.length≤1099511627776) (hs:Sat W0 (eS rb r::F) w) :
 Calls Tryz.prog 72 #[ay rb] w fun x w'=>x=.returned (.tuple #[.int .i64 (Ap r:Int),.int .i64 (sH r:Int)])∧Sat W0 (eS rb (yT r)::F) w':=by
 obtain ⟨vp,vs,us,hu,hs⟩:=hs.jD
 refine enter Tryz.func72 rfl Tryz.ntmps72 Tryz.results72 rfl ?_
 obtain ⟨aas,cs,rfl,hcs1,hcs2⟩:=(hs.take (.there (.there .here))).aC
 unfold Ap yT sH
 generalize hc:r.closed=cl at hs
 cases cl with
 | true=>
  refine gy ?_
  exact ah rfl ⟨rfl,Sat.dK (r:=r) hu (by rw [hc];exact hs)⟩
 | false=>
  simp only [Bool.false_eq_true,if_false]
  refine gy ?_
  refine aJ (α:=Nat) (fun i=>[(0,ay rb),(4,.int .i64 (((r.snaps.take i).filter Option.isSome).length:Int)),(5,.int .i64 (i:Int))])
   (fun i w=>i≤r.snaps.length∧Sat W0 (blk rb 88 [vp,.slice aas r.snaps.length cs,.bool false]::aG vp r.pairs::tT (.slice aas r.snaps.length cs) us r.snaps::pk us r.snaps::F) w) (fun i=>r.snaps.length-i) 0 ⟨rfl,rfl,rfl,trivial⟩ ⟨Nat.zero_le _,hs⟩ ?_
  clear hs
  rintro i w ⟨hi,hs⟩
  have hcnt:((r.snaps.take i).filter Option.isSome).length≤i:=Nat.le_trans (List.length_filter_le _ _) (by rw [List.length_take];omega)
  by_cases hlt:i<r.snaps.length
  ·have hlt':(i:Int)<(r.snaps.length:Int):=by omega
   have hg:r.snaps[i]?=some r.snaps[i]:=List.getElem?_eq_getElem hlt
   have hgu:us[i]?=some (us[i]'(by omega)):=List.getElem?_eq_getElem (by omega)
   generalize r.snaps[i]=x at hg
   generalize us[i]'(by omega)=u at hgu
   obtain ⟨e2,e3⟩:=sG hgu hg
   have hlv:=Ir hg
   obtain ⟨bs,cap,rest,hv,q1,q2,q3,h3⟩:=(hs.take (.there (.there .here))).dw (by omega)
   have hs0:=fun (_:True)=>hs
   clear hs
   obtain ⟨rfl,_,rfl⟩:=Value.slice.inj hv
   have e2':((fw us r.snaps).flatten++rest)[0+i*2]?=some (.bool x.isSome):=by
    rw [List.getElem?_append_left (List.getElem?_eq_some_iff.1 e2).1];exact e2
   cases hxs:x.isSome with
   | true=>
    rw [hxs] at e2' hlv
    refine gy ?_
    refine az (i+1) ⟨rfl,?_,rfl,trivial⟩ ⟨hlt,hs0 trivial⟩ (by show r.snaps.length-(i+1)<r.snaps.length-i;omega)
    rw [hlv];rfl
   | false=>
    rw [hxs] at e2' hlv
    refine gy ?_
    refine az (i+1) ⟨rfl,?_,rfl,trivial⟩ ⟨hlt,hs0 trivial⟩ (by show r.snaps.length-(i+1)<r.snaps.length-i;omega)
    rw [hlv];rfl
  ·have hie:i=r.snaps.length:=by omega
   subst hie
   have hlt':¬ (r.snaps.length:Int)<(r.snaps.length:Int):=by omega
   rw [List.take_length] at hcnt ⊢
   have hlive:(r.snaps.filter Option.isSome).length=live r:=rfl
   rw [hlive] at hcnt ⊢
   by_cases h4:4≤live r
   ·have h4':(live r:Int) ≥ 4:=by omega
    rw [if_pos h4]
    refine gy ?_
    exact ah rfl ⟨rfl,Sat.dK (r:=r) hu (by rw [hc];exact hs)⟩
   ·have h4':¬ (live r:Int) ≥ 4:=by omega
    rw [if_neg h4]
    obtain ⟨ap,cp,rfl,-⟩:=(hs.take (.there .here)).iU
    refine gy ?_
    refine bu [blk rb 88 [.slice ap r.pairs.length cp,.slice aas r.snaps.length cs,.bool false]] [4,8] (.q 0 (.q 1 (.q 2 (.q 3 (.s 4 (.q 5 (.q 6 (.q 7 (.s 8 (.q 9 (.l 10 (.l 11 (.q 12 (.q 13 (.l 14 .nil))))))))))))))) hs (by kernel_rfl) ?_
    clear hs
    intro w hs
    refine gj ?_
    refine oq [.bool true,.slice ap r.pairs.length cp] rfl ?_
    refine gj ?_
    refine ia [.bool true,.slice ap r.pairs.length cp] hs ?_
    clear hs
    intro w b8 hs
    refine gy ?_
    refine cD hs.to ?_
    refine gj ?_
    refine dM hs ?_
    clear hs
    intro v2 w hs
    obtain ⟨a2,c2,rfl,-⟩:=hs.aC
    refine gy ?_
    refine cD hs.to ?_
    refine gj ?_
    refine bK hs ?_
    clear hs
    intro w hs
    refine gy ?_
    refine dT rfl ?_
    refine gj ?_
    refine gy ?_
    refine ah rfl ⟨rfl,?_⟩
    have h2:=(hs.take (.there (.there .here))).PL
    have h3:Sat W0 (pk us r.snaps::aG (.slice ap r.pairs.length cp) r.pairs::aL 2 (.slice a2 (r.snaps.length+1) c2) 177 (r.snaps.length+1) ((fw us r.snaps).flatten++[.bool true,.slice ap r.pairs.length cp])::blk rb 88 [.slice ap r.pairs.length cp,.slice a2 (r.snaps.length+1) c2,.bool false]::aG (.slice ap r.pairs.length cp) r.pairs::F) w:=h2.to
    have h4:Sat W0 (pk (us++[.slice ap r.pairs.length cp]) (r.snaps++[some r.pairs])::aL 2 (.slice a2 (r.snaps.length+1) c2) 177 (r.snaps.length+1) ((fw us r.snaps).flatten++[.bool true,.slice ap r.pairs.length cp])::blk rb 88 [.slice ap r.pairs.length cp,.slice a2 (r.snaps.length+1) c2,.bool false]::aG (.slice ap r.pairs.length cp) r.pairs::F) w:=by
     refine h3.imp fun hp k=>?_
     show cL (star (List.zipWith PB (us++[_]) (r.snaps++[some r.pairs]))::_) hp
     rw [List.zipWith_append (by exact hu.1)]
     refine cT (a:=List.zipWith PB us r.snaps++[aG _ r.pairs]) ?_
     rw [List.append_assoc]
     exact dD k
    have e5:(fw us r.snaps).flatten++[.bool true,.slice ap r.pairs.length cp]=(fw (us++[.slice ap r.pairs.length cp]) (r.snaps++[some r.pairs])).flatten:=by
     show _=(List.zipWith yS (us++[_]) (r.snaps++[some r.pairs])).flatten
     rw [List.zipWith_append (by exact hu.1),List.flatten_append]
     simp [yS]
    rw [e5] at h4
    have e6:(r.snaps++[some r.pairs]).length=r.snaps.length+1:=by simp
    refine Sat.dK (rb:=rb) (r:=⟨r.pairs,r.snaps++[some r.pairs],false⟩) (vp:=.slice ap r.pairs.length cp) (vs:=.slice a2 (r.snaps.length+1) c2) (us:=us++[.slice ap r.pairs.length cp]) ⟨by simp [hu.1],fun y hy=>by
     rcases List.mem_append.1 hy with h|h
     ·exact hu.2 _ h
     ·rw [List.mem_singleton.1 h];rfl⟩ ?_
    show Sat W0 (_::_::aL 2 _ 177 (r.snaps++[some r.pairs]).length _::_) w
    rw [e6]
    exact h4.to
end
section
open Go.Proofs.YtecibefflhomdaaGreatDoor.Pure (ae aD cz cW jU di cB dh)
attribute [local irreducible] IntKind.wrap
variable {W0 w:World} {F l:List ax} {v:Value} {d:Nat} {D:ae} {bs:Bs}
abbrev Cp:=Bs×Nat×Bs
abbrev qj (cp:List Cp):List (Bs×Nat):=cp.map fun c=>(c.1,c.2.1)
abbrev Dg (cp:List Cp):List (Nat×(Bs×Nat)):=cp.map fun c=>(c.2.1,(c.2.2,c.2.2.length))
abbrev Lf (cp:List Cp):List (Bs×Bs):=cp.map fun c=>(c.1,c.2.2)
abbrev xo (room:Int) (cp:List Cp):ae:=⟨qj cp,qj cp,[],Dg cp,room,0,0,0,0⟩
abbrev rn (D:ae) (l:List (Bs×Nat)):List (Bs×Bs):=l.map fun p=>(p.1,D.aK p.2)
theorem rp {κ α:Type} [DecidableEq κ]:∀ {l:List (κ×α)} {x:κ} {u:α},aD l x=none→cz l x u=l++[(x,u)]
 | [],_,_,_=>rfl
 | (k,v)::r,x,u,h=>by
  unfold aD at h
  by_cases hx:x=k
  ·rw [if_pos hx] at h;cases h
  ·rw [if_neg hx] at h
   unfold cz
   rw [if_neg hx,rp h];rfl
theorem Is {κ α:Type} [DecidableEq κ] {a b:List (κ×α)} (hb:(b.map (·.1)).Nodup) (h:a.Perm b) (x:κ):aD a x=aD b x:=by
 have ha:(a.map (·.1)).Nodup:=(h.map (·.1)).nodup_iff.2 hb
 cases hx:aD b x with
 | none=>
  rw [cB] at hx ⊢
  exact fun hm=>hx ((h.map (·.1)).mem_iff.1 hm)
 | some u=>exact di ha (h.mem_iff.2 (dh hx))
theorem GF {cp:List Cp} {room:Int} (hid:(cp.map (·.2.1)).Nodup) {c:Cp} (hc:c∈cp):(xo room cp).aK c.2.1=c.2.2:=by
 have h1:aD (Dg cp) c.2.1=some (c.2.2,c.2.2.length):=di (by rw [List.map_map];exact hid) (List.mem_map.2 ⟨c,hc,rfl⟩)
 unfold ae.aK
 show (match aD (Dg cp) c.2.1 with|some x=>x.1|none=>[])=_
 rw [h1]
theorem M9 {cp:List Cp} {room:Int} (hid:(cp.map (·.2.1)).Nodup) (m:Bs):file (xo room cp) m=aD (Lf cp) m:=by
 unfold file
 show (aD (qj cp) m).map _=_
 have key:∀ l:List Cp,(∀ c∈l,c∈cp)→(aD (qj l) m).map (xo room cp).aK=aD (Lf l) m:=by
  intro l
  induction l with
  | nil=>intro _;rfl
  | cons c r ih=>
   intro hl
   have ih:=ih fun c hc=>hl c (List.mem_cons_of_mem _ hc)
   simp only [qj,Lf,List.map_cons,aD] at ih ⊢
   by_cases hm:m=c.1
   ·rw [if_pos hm,if_pos hm,Option.map_some,GF hid (hl c (by simp))]
   ·rw [if_neg hm,if_neg hm];exact ih
 exact key cp fun _ h=>h
theorem CD (D:ae) (m:Bs):∀ l:List (Bs×Nat),aD (rn D l) m=(aD l m).map D.aK
 | []=>rfl
 | p::r=>by
  simp only [rn,List.map_cons,aD]
  by_cases hm:m=p.1
  ·rw [if_pos hm,if_pos hm];rfl
  ·rw [if_neg hm,if_neg hm];exact CD D m r
theorem Na {cp:List Cp} (hok:D.Ok) (hid:(cp.map (·.2.1)).Nodup) (hp:(Lf cp).Perm (rn D D.now)):nk D (xo D.room cp):=by
 have hkeys:((rn D D.now).map (·.1)).Nodup:=by rw [List.map_map];exact hok.names
 have hn:(cp.map (·.1)).Nodup:=by
  have:=(hp.map (·.1)).nodup_iff.2 hkeys
  rwa [List.map_map] at this
 have hu:(xo D.room cp).used=D.used:=by
  unfold ae.used
  have h1:((xo D.room cp).now.map fun p=>((xo D.room cp).aK p.2).length)=(Lf cp).map fun e=>e.2.length:=by
   show (qj cp).map _=_
   rw [List.map_map,List.map_map]
   exact List.map_congr_left fun c hc=>by show ((xo D.room cp).aK c.2.1).length=_;rw [GF hid hc];rfl
  have h2:(D.now.map fun p=>(D.aK p.2).length)=(rn D D.now).map fun e=>e.2.length:=by rw [List.map_map];rfl
  rw [h1,h2]
  exact (hp.map _).sum_nat
 have hsome:∀ p∈qj cp,(aD (Dg cp) p.2).isSome=true:=by
  intro p hp
  obtain ⟨c,hc,rfl⟩:=List.mem_map.1 hp
  cases h:aD (Dg cp) c.2.1 with
  | some _=>rfl
  | none=>exact absurd (List.mem_map.2 ⟨_,List.mem_map.2 ⟨c,hc,rfl⟩,rfl⟩) (cB.1 h)
 refine ⟨⟨hsome,hsome,fun l hl=>by simp at hl,by rw [List.map_map];exact hn,by rw [List.map_map];exact hid,hok.room0,hok.room1,by simp,by simp,by simp,by simp,by rw [hu];exact hok.used,fun l hl=>by simp at hl⟩,fun m=>?_,rfl,rfl,rfl,hu⟩
 rw [M9 hid,Is hkeys hp m,CD]
 rfl
theorem Sat.Qo (hs:Sat W0 (cI v bs::l) w):∃ A:ax,Oj (A::l) v bs∧Sat W0 (A::l) w∧∀ hp,A hp→cI v bs hp:=by
 by_cases hb:bs=[]
 ·subst hb
  obtain ⟨a,c,rfl,-⟩:=hs.aC
  exact ⟨_,.inl ⟨rfl,a,c,rfl⟩,hs,fun _ h=>h⟩
 ·have hpos:0<bs.length:=(by cases bs with|nil=>exact absurd rfl hb|cons _ _=>simp)
  have hlen:=hs.uL
  have hone:=hs.uM
  obtain ⟨b,cap,rs,rfl,q1,q2,q3,hs2⟩:=hs.dw hpos
  refine ⟨blk b 5 (bs.map bV++rs),.inr ⟨b,0,cap,false,_,_,_,rfl,.here,fun j u hu=>?_⟩,hs2,fun hp k=>⟨hlen,hone,.inr ⟨b,cap,rs,rfl,q1,q2,q3,k⟩⟩⟩
  simp only [List.getElem?_toArray,Nat.zero_add]
  rw [List.getElem?_append_left (List.getElem?_eq_some_iff.1 hu).1];exact hu
theorem Iu (hs:Sat W0 (eB d D::F) w) :
 Calls Tryz.prog 16 #[ay d] w fun x w'=>∃ c cp,x=.returned (ay c)∧nk D (xo D.room cp)∧Sat W0 (eB c (xo D.room cp)::eB d D::F) w':=by
 obtain ⟨hok,z,hs⟩:=hs.fp
 dsimp only [gd,aX,List.cons_append,List.nil_append] at hs
 refine enter Tryz.func16 rfl Tryz.ntmps16 Tryz.results16 rfl ?_
 refine gy ?_
 refine ag (met (qE hs hok.room0 hok.room1) ?_)
 clear hs
 rintro _ w ⟨c,rfl,hs⟩
 refine ⟨_,rfl,?_⟩
 obtain ⟨-,zc,hs⟩:=hs.fp
 dsimp only [gd,aX,List.cons_append,List.nil_append] at hs
 refine gy ?_
 refine qu cS hs (.there (.there (.there (.there (.there (.there .here)))))) rfl rfl rfl ?_
 clear hs
 intro w it hs
 refine gy ?_
 refine aJ (α:=List (Bs×Nat)×List Cp) (fun _=>[(3,ay c),(15,.pointer (some ⟨it,0,none⟩))])
  (fun y w=>(((Lf y.2++rn D y.1).Perm (rn D D.now))∧(y.2.map (·.2.1)).Nodup∧(∀ p∈y.1,p∈D.now))∧∃ last,Sat W0 (gL cS z.bn it (aW D.now) (aW y.1) last::blk c 111 (aX zc (xo D.room y.2))::aM cS zc.bn (aW (qj y.2))::aM cS zc.bs (aW (qj y.2))::eX zc.mv []::star ((Dg y.2).map dX)::blk d 111 (aX z D)::aM cS z.bs (aW D.safe)::eX z.mv D.moves::star (D.nodes.map dX)::F) w)
  (fun y=>y.1.length) (D.now,[]) ⟨rfl,rfl,trivial⟩ ⟨⟨by simp,by simp,fun _ h=>h⟩,none,hs.to⟩ ?_
 clear hs
 rintro ⟨left,cp⟩ w ⟨⟨hp,hid,hsub⟩,last,hs⟩
 dsimp only at hp hid hsub hs ⊢
 refine gy ?_
 refine uf cS hs .here rfl rfl (fun h0=>?_) (fun l1 x l2 w hl hs=>?_)
 ·have hl0:left=[]:=by simpa [aW] using h0
  subst hl0
  have hp:(Lf cp).Perm (rn D D.now):=by simpa using hp
  have hcp:=Na hok hid hp
  have hs:=hs.oQ
  refine gy ?_
  refine ah rfl ⟨_,cp,rfl,hcp,?_⟩
  have h2:=Sat.db (z:=z) (d:=d) (D:=D) (F:=gd c zc (xo D.room cp)++F) hok hs.to
  exact Sat.db (z:=zc) (d:=c) (D:=xo D.room cp) (F:=eB d D::F) hcp.ok h2.to
 ·obtain ⟨a,p,b,rfl,rfl,hab⟩:=kt hl
  rw [hab] at hs
  have hpn:p∈D.now:=hsub p (by simp)
  obtain ⟨x,hx⟩:∃ x,aD D.nodes p.2=some x:=Option.isSome_iff_exists.1 (hok.now p hpn)
  have hdata:D.aK p.2=x.1:=by unfold ae.aK;rw [hx]
  have hkeys:((rn D D.now).map (·.1)).Nodup:=by rw [List.map_map];exact hok.names
  have hnew:aD (qj cp) p.1=none:=by
   rw [cB]
   intro hm
   have h1:=(hp.map (·.1)).nodup_iff.2 hkeys
   rw [List.map_append,List.nodup_append] at h1
   refine h1.2.2 p.1 ?_ p.1 ?_ rfl
   ·rw [List.map_map] at hm ⊢;exact hm
   ·rw [List.map_map];exact List.mem_map.2 ⟨p,by simp,rfl⟩
  have hperm:(Lf cp++(p.1,x.1)::rn D (a++b)).Perm (rn D D.now):=by
   refine List.Perm.trans ?_ hp
   refine List.Perm.append_left _ ?_
   simp only [rn,List.map_append,List.map_cons]
   rw [← hdata]
   exact List.perm_middle.symm
  have hsz:x.1.length≤4398046511104:=by
   have h1:aD D.now p.1=some p.2:=di hok.names hpn
   have h2:=Pure.ae.size_le (D:=D) (n:=p.1) (i:=p.2) h1
   have h3:=hok.used
   rw [hdata] at h2;omega
  refine gy ?_
  refine qv cS hs .here rfl rfl ?_
  refine gy ?_
  obtain ⟨B,C,vn,e1,e2,hs⟩:=(hs.take (.there (.there (.there (.there (.there (.there (.there (.there (.there .here)))))))))).mq hx
  obtain ⟨an,cn,rfl,-⟩:=(hs.take (.there .here)).aC
  obtain ⟨A,hrd,hs2,hback⟩:=(hs.take (.there .here)).Qo
  clear hs
  rename Sat W0 _ w=>hs
  refine bu [blk c 111 (aX zc (xo D.room cp)),blk p.2 116 [.slice an x.1.length cn,.int .i64 (x.2:Int)]] [3,8,13] (.q 0 (.q 1 (.q 2 (.s 3 (.q 4 (.q 5 (.q 6 (.q 7 (.s 8 (.q 10 (.q 11 (.q 12 (.s 13 (.q 14 (.l 9 (.q 15 (.l 16 (.l 17 .nil)))))))))))))))))) hs (by kernel_rfl) ?_
  clear hs
  intro w hs
  refine gj ?_
  refine ag (met (vd hs hrd (by omega)) ?_)
  clear hs
  rintro _ w ⟨v2,rfl,hs⟩
  refine ⟨_,rfl,?_⟩
  obtain ⟨a2,c2,rfl,-⟩:=hs.aC
  refine gy ?_
  refine cD hs.to ?_
  refine gj ?_
  refine oq [.slice a2 x.1.length c2,.int .i64 (x.1.length:Int)] rfl ?_
  refine gj ?_
  refine bR hs ?_
  clear hs
  intro w i hs
  refine gy ?_
  refine cD hs.to ?_
  refine gj ?_
  refine jo cS hs (k:=p.1) (v:=ay i) (by repeat (first|exact gV.here|apply gV.there)) rfl rfl rfl rfl ?_
  clear hs
  intro w hs
  refine gy ?_
  refine dT rfl ?_
  refine gj ?_
  refine gy ?_
  have hs:Sat W0 (aM cS zc.bn (aW (qj cp++[(p.1,i)]))::aM cS zc.bs (aW (qj cp))::blk c 111 (aX zc (xo D.room cp))::blk i 116 [.slice a2 x.1.length c2,.int .i64 (x.1.length:Int)]::cI (.slice a2 x.1.length c2) x.1::star ((Dg cp).map dX)::A::blk p.2 116 [.slice an x.1.length cn,.int .i64 (x.2:Int)]::star (B++C)::gL cS z.bn it (aW D.now) (aW (a++b)) (some (p.1,ay p.2))::eX zc.mv []::blk d 111 (aX z D)::aM cS z.bs (aW D.safe)::eX z.mv D.moves::F) w:=by
   rw [← rp hnew,kW]
   exact hs.to
  refine bu [blk c 111 (aX zc (xo D.room cp))] [3,8] (.q 0 (.q 1 (.q 2 (.s 3 (.q 4 (.q 5 (.q 6 (.q 7 (.s 8 (.q 9 (.l 10 (.l 11 .nil)))))))))))) hs (by kernel_rfl) ?_
  clear hs
  intro w hs
  refine gj ?_
  have hlook:aD (aW (qj cp++[(p.1,i)])) p.1=some (ay i):=by
   rw [← rp hnew,kW,jU]
  refine oP cS hs .here rfl rfl rfl zt rfl ?_
  rw [hlook]
  refine gy ?_
  refine cD hs.to ?_
  refine gj ?_
  refine jo cS hs (k:=p.1) (v:=ay i) (.there .here) rfl rfl rfl rfl ?_
  clear hs
  intro w hs
  have hfr:aD (Dg cp) i=none:=Sat.fresh (F:=F) (hs.to (a:=blk i 116 [.slice a2 x.1.length c2,.int .i64 (x.1.length:Int)]::star ((Dg cp).map dX)::F))
  have h1:=hs.to (a:=A::aM cS zc.bn (aW (qj cp++[(p.1,i)]))::aM cS zc.bs (cz (aW (qj cp)) p.1 (ay i))::blk c 111 (aX zc (xo D.room cp))::blk i 116 [.slice a2 x.1.length c2,.int .i64 (x.1.length:Int)]::cI (.slice a2 x.1.length c2) x.1::star ((Dg cp).map dX)::blk p.2 116 [.slice an x.1.length cn,.int .i64 (x.2:Int)]::star (B++C)::gL cS z.bn it (aW D.now) (aW (a++b)) (some (p.1,ay p.2))::eX zc.mv []::blk d 111 (aX z D)::aM cS z.bs (aW D.safe)::eX z.mv D.moves::F)
  clear hs
  have h1:=h1.head hback
  have h2:=Sat.mY (i:=p.2) (y:=x) (B:=B) (C:=C) (F:=aM cS zc.bn (aW (qj cp++[(p.1,i)]))::aM cS zc.bs (cz (aW (qj cp)) p.1 (ay i))::blk c 111 (aX zc (xo D.room cp))::blk i 116 [.slice a2 x.1.length c2,.int .i64 (x.1.length:Int)]::cI (.slice a2 x.1.length c2) x.1::star ((Dg cp).map dX)::gL cS z.bn it (aW D.now) (aW (a++b)) (some (p.1,ay p.2))::eX zc.mv []::blk d 111 (aX z D)::aM cS z.bs (aW D.safe)::eX z.mv D.moves::F) h1.to
  rw [← e1] at h2
  clear h1
  have h3:Sat W0 (dX (i,(x.1,x.1.length))::star ((Dg cp).map dX)::star (D.nodes.map dX)::aM cS zc.bn (aW (qj cp++[(p.1,i)]))::aM cS zc.bs (cz (aW (qj cp)) p.1 (ay i))::blk c 111 (aX zc (xo D.room cp))::gL cS z.bn it (aW D.now) (aW (a++b)) (some (p.1,ay p.2))::eX zc.mv []::blk d 111 (aX z D)::aM cS z.bs (aW D.safe)::eX z.mv D.moves::F) w:=
   Sat.close (B:=[blk i 116 [.slice a2 x.1.length c2,.int .i64 (x.1.length:Int)],cI (.slice a2 x.1.length c2) x.1]) h2.to fun hp k=>⟨_,k⟩
  clear h2
  have h4:Sat W0 (star ((Dg (cp++[(p.1,i,x.1)])).map dX)::star (D.nodes.map dX)::aM cS zc.bn (aW (qj cp++[(p.1,i)]))::aM cS zc.bs (cz (aW (qj cp)) p.1 (ay i))::blk c 111 (aX zc (xo D.room cp))::gL cS z.bn it (aW D.now) (aW (a++b)) (some (p.1,ay p.2))::eX zc.mv []::blk d 111 (aX z D)::aM cS z.bs (aW D.safe)::eX z.mv D.moves::F) w:=by
   refine (h3.take (.there .here)).imp fun hp k=>?_
   have e:(Dg (cp++[(p.1,i,x.1)])).map dX=(Dg cp).map dX++[dX (i,(x.1,x.1.length))]:=by simp [Dg]
   rw [e]
   refine cT ?_
   rw [List.append_assoc]
   exact dD k
  have e7:cz (aW (qj cp)) p.1 (ay i)=aW (qj (cp++[(p.1,i,x.1)])):=by
   rw [← kW,rp hnew];simp [qj]
  have e8:qj cp++[(p.1,i)]=qj (cp++[(p.1,i,x.1)]):=by simp [qj]
  rw [e7,e8] at h4
  refine gy ?_
  refine dT rfl ?_
  refine gj ?_
  refine gy ?_
  refine az (a++b,cp++[(p.1,i,x.1)]) ⟨rfl,rfl,trivial⟩ ⟨⟨?_,?_,?_⟩,some (p.1,ay p.2),h4.to⟩ (by simp)
  ·have e:Lf (cp++[(p.1,i,x.1)])++rn D (a++b)=Lf cp++(p.1,x.1)::rn D (a++b):=by simp [Lf]
   rw [e];exact hperm
  ·rw [List.map_append]
   refine List.nodup_append.2 ⟨hid,by simp,fun u hu u' hu' he=>?_⟩
   simp at hu'
   subst hu'
   subst he
   rw [cB,List.map_map] at hfr
   exact hfr hu
  ·intro q hq
   refine hsub q ?_
   simp only [List.mem_append,List.mem_cons] at hq ⊢
   rcases hq with h|h
   ·exact .inl h
   ·exact .inr (.inr h)
theorem Pj (hs:Sat W0 (aj d D::F) w) :
 Calls Tryz.prog 16 #[ay d] w fun x w'=>∃ c D2,x=.returned (ay c)∧nk D D2∧Sat W0 (aj c D2::aj d D::F) w':=by
 obtain ⟨D0,f,h,h0,hs⟩:=hs.n7
 have hu:=h.used h0
 refine (Iu hs).mono ?_
 rintro _ w' ⟨c,cp,rfl,hc,hs⟩
 have hfile:∀ m,file D0 m=file D m:=fun m=>by
  unfold file
  rw [h.now m]
  cases hm:aD D.now m with
  | none=>rfl
  | some i=>simp only [Option.map_some];rw [h.oX (h.has hm)]
 have h2:=(hs.take (.there .here)).iV h
 have hid:∀ n,aD (qj cp) n=(aD (qj cp) n).map id:=fun n=>by cases aD (qj cp) n<;>rfl
 refine ⟨c,xo D0.room cp,rfl,⟨hc.ok,fun m=>by rw [hc.file,hfile],by rw [hc.room,h.room],rfl,rfl,by rw [hc.used,hu]⟩,?_⟩
 refine Sat.iV (f:=id) ⟨hid,hid,rfl,fun i x hx=>hx,fun i j _ _ he=>he,?_,?_,rfl,rfl,rfl,rfl,rfl,hc.ok⟩ h2.to
 ·exact hc.ok.names
 ·exact hc.ok.names
end
section
open Go.Proofs.YtecibefflhomdaaGreatDoor.Pure (ae aR rT qy ew cC aP)
attribute [local irreducible] IntKind.wrap
def Qp:Shelf.Ren where
 f:=fun x=>match x with|190=>45|125=>88|258=>87|128=>158|129=>159|302=>149|303=>150|304=>151|305=>152|306=>153|307=>154|308=>155|309=>156|310=>157|333=>199|329=>200|330=>201|334=>202|335=>203|336=>204|344=>225|n=>n
 t:=fun x=>match x with|31=>29|9=>9|3=>3|46=>23|0=>0|51=>124|53=>131|4=>4|183=>266|182=>265|131=>271|5=>5|218=>332|222=>335|228=>355|229=>169|n=>n
 g:=fun n=>n
theorem Nb:Go.Proofs.Lays.n190 Tryz.prog Qp where
 mixed:=by kernel_rfl
 f125:=by kernel_rfl
 f128:=by kernel_rfl
 f129:=by kernel_rfl
 f190:=by kernel_rfl
 f258:=by kernel_rfl
 f302:=by kernel_rfl
 f303:=by kernel_rfl
 f304:=by kernel_rfl
 f305:=by kernel_rfl
 f306:=by kernel_rfl
 f307:=by kernel_rfl
 f308:=by kernel_rfl
 f309:=by kernel_rfl
 f310:=by kernel_rfl
 f329:=by kernel_rfl
 f330:=by kernel_rfl
 f333:=by kernel_rfl
 f334:=by kernel_rfl
 f335:=by kernel_rfl
 f336:=by kernel_rfl
 f344:=by kernel_rfl
 t0:=Tryz.underlying0
 a0:=Tryz.isAgg0
 z0:=Tryz.sizeOf0
 v0:=Tryz.zeroValue0
 t3:=Tryz.underlying3
 a3:=Tryz.isAgg3
 z3:=Tryz.sizeOf3
 v3:=Tryz.zeroValue3
 t4:=Tryz.underlying4
 a4:=Tryz.isAgg4
 z4:=Tryz.sizeOf4
 v4:=Tryz.zeroValue4
 t5:=Tryz.underlying5
 a5:=Tryz.isAgg5
 z5:=Tryz.sizeOf5
 v5:=Tryz.zeroValue5
 t9:=Tryz.underlying9
 a9:=Tryz.isAgg9
 z9:=Tryz.sizeOf9
 v9:=Tryz.zeroValue9
 t31:=Tryz.underlying29
 a31:=Tryz.isAgg29
 z31:=Tryz.sizeOf29
 v31:=Tryz.zeroValue29
 t46:=Tryz.underlying23
 a46:=Tryz.isAgg23
 z46:=Tryz.sizeOf23
 v46:=Tryz.zeroValue23
 t51:=Tryz.underlying124
 a51:=Tryz.isAgg124
 z51:=Tryz.sizeOf124
 v51:=Tryz.zeroValue124
 t53:=Tryz.underlying131
 a53:=Tryz.isAgg131
 z53:=Tryz.sizeOf131
 v53:=Tryz.zeroValue131
 t131:=Tryz.underlying271
 a131:=Tryz.isAgg271
 z131:=Tryz.sizeOf271
 v131:=Tryz.zeroValue271
 t182:=Tryz.underlying265
 a182:=Tryz.isAgg265
 z182:=Tryz.sizeOf265
 v182:=Tryz.zeroValue265
 t183:=Tryz.underlying266
 a183:=Tryz.isAgg266
 z183:=Tryz.sizeOf266
 v183:=Tryz.zeroValue266
 t218:=Tryz.underlying332
 a218:=Tryz.isAgg332
 z218:=Tryz.sizeOf332
 v218:=Tryz.zeroValue332
 t222:=Tryz.underlying335
 a222:=Tryz.isAgg335
 z222:=Tryz.sizeOf335
 v222:=Tryz.zeroValue335
 t228:=Tryz.underlying355
 a228:=Tryz.isAgg355
 z228:=Tryz.sizeOf355
 v228:=Tryz.zeroValue355
 t229:=Tryz.underlying169
 a229:=Tryz.isAgg169
 z229:=Tryz.sizeOf169
 v229:=Tryz.zeroValue169
theorem lt_iff:∀ (a b:Bs),a<b↔aR a b=true
 | _,[]=>by simp [aR]
 | [],_::_=>by simp [aR]
 | a::x,b::y=>by
  rw [List.cons_lt_cons_iff,lt_iff x y]
  simp [aR]
theorem Nc (a b:Bs):decide (a≤b)=!aR b a:=by
 have h:a≤b↔¬ (b<a):=Iff.rfl
 cases hb:aR b a with
 | true=>simp [h,lt_iff,hb]
 | false=>simp [h,lt_iff,hb]
theorem pI {a b:List Bs} (h:a.Perm b):ln a=ln b:=by
 unfold ln
 have e:(fun x y:Bs=>decide (x≤y))=fun x y=>!aR y x:=funext fun x=>funext fun y=>Nc x y
 rw [e]
 have htr:∀ a b c:Bs,(!aR b a)=true→(!aR c b)=true→(!aR c a)=true:=fun a b c h1 h2=>by
  simp only [Bool.not_eq_true'] at h1 h2 ⊢
  exact rT h1 h2
 have hto:∀ a b:Bs,((!aR b a)||(!aR a b))=true:=fun a b=>by
  rcases ew a b with h|h|h
  ·rw [cC h];rfl
  ·rw [h,aP];rfl
  ·rw [cC h];simp
 refine List.Perm.eq_of_pairwise (le:=fun x y=>(!aR y x)=true) ?_ (List.pairwise_mergeSort htr hto a) (List.pairwise_mergeSort htr hto b) (((List.mergeSort_perm a _).trans h).trans (List.mergeSort_perm b _).symm)
 intro x y _ _ h1 h2
 simp only [Bool.not_eq_true'] at h1 h2
 exact qy h2 h1
end
section
open Go.Proofs.YtecibefflhomdaaGreatDoor.Pure (ae aD)
attribute [local irreducible] IntKind.wrap
variable {W0 w:World} {F l:List ax} {v:Value} {d:Nat} {D:ae}
theorem Sat.grow (h:Sat W0 l w) (os:Array Obj):Sat W0 l (Go.Sort.grow w os):=by
 obtain ⟨a,b,c,d,hp,e,f,r⟩:=h
 refine ⟨a,b,c,by simp [Go.Sort.grow];omega,hp,fun i x hx=>?_,f,r⟩
 have h1:=e i x hx
 have h2:=(Array.getElem?_eq_some_iff.1 h1).1
 show (w.heap++os)[i]?=_
 rw [Array.getElem?_append_left h2];exact h1
theorem Iw (ss ss':List Bs) (rest:List Value) (hl:ss'.length=ss.length):Go.Sort.putCells Go.Proofs.encStr 0 ss'.toArray ((ss.map str++rest).toArray)=(ss'.map str++rest).toArray:=by
 apply Array.ext'
 apply List.ext_getElem?
 intro j
 simp only [Go.Sort.putCells]
 rw [Array.getElem?_toList,Array.getElem?_mapIdx,Array.getElem?_toList]
 simp only [List.getElem?_toArray]
 by_cases hj:j<ss'.length
 ·rw [List.getElem?_append_left (by simp;omega),List.getElem?_append_left (by simpa using hj),List.getElem?_map,List.getElem?_map,List.getElem?_eq_getElem (by omega),List.getElem?_eq_getElem hj]
  simp [hj]
 ·rw [List.getElem?_append_right (by simp;omega),List.getElem?_append_right (by simp;omega)]
  have e1:(ss.map str).length=(ss'.map str).length:=by simp [hl]
  rw [e1]
  cases rest[j-(ss'.map str).length]? with
  | none=>rfl
  | some x=>simp [hj]
theorem E1 {b c:Nat} {ss:List Bs} {rest:List Value} (hs:Sat W0 (blk b 9 (ss.map str++rest)::F) w) (hlen:ss.length≤1099511627776) :
 Calls Tryz.prog 45 #[.slice (some ⟨b,0,none⟩) ss.length c] w fun x w'=>x=.returned (.tuple #[])∧Sat W0 (blk b 9 ((ln ss).map str++rest)::F) w':=by
 have hb:=hs.fE
 have hlt:b<w.heap.size:=(Array.getElem?_eq_some_iff.1 hb).1
 refine (Go.Proofs.Any.slices_Sort_string Nb b 0 c ss w (fun j hj=>?_) hlt (by omega)).mono ?_
 ·have hj':j<ss.length:=by simpa using hj
  refine ⟨?_,hs.free .here _⟩
  rw [hs.cell .here,Nat.zero_add,List.getElem?_append_left (by simpa using hj'),List.getElem?_map,List.getElem?_eq_getElem hj']
  simp [hj']
 ·rintro x w' ⟨rfl,n,os,rfl⟩
  refine ⟨rfl,Sat.grow ?_ os⟩
  have hl:(ln ss).length=ss.length:=(List.mergeSort_perm ss _).length_eq
  refine Sat.kJ (w:=w) (o:=.cells (ss.map str++rest).toArray 9 (0,0)) hs rfl rfl rfl ?_ ?_ ?_
  ·simp [Go.Sort.putRow,Go.Sort.mapBlock,Go.Sort.ahead]
  ·simp only [Go.Sort.putRow,Go.Sort.mapBlock,Go.Sort.ahead,Array.getElem?_modify,hb]
   simp only [if_true,Option.map_some,Go.Sort.onCells]
   have:=Iw ss (ln ss) rest hl
   unfold ln at this ⊢
   rw [this]
  ·intro i hi
   simp only [Go.Sort.putRow,Go.Sort.mapBlock,Go.Sort.ahead,Array.getElem?_modify]
   rw [if_neg (by omega)]
theorem Lg {v:Value} (hs:Sat W0 F w):Calls Tryz.prog 149 #[v,.int .i64 0,.int .i64 0] w fun x w'=>∃ u,x=.returned u∧Sat W0 F w':=by
 refine enter Tryz.func149 rfl Tryz.ntmps149 Tryz.results149 rfl ?_
 refine gx ?_
 refine aJ (α:=Unit) (fun z=>[(0,v),(1,.int .i64 0),(2,.int .i64 0),(6,.int .i64 1)]) (fun z w=>Sat W0 F w) (fun z=>0) () ⟨rfl,rfl,rfl,rfl,trivial⟩ hs ?_
 clear hs
 rintro _ w hs
 refine gx ?_
 exact km rfl ⟨_,rfl,hs⟩
theorem Ix (hs:Sat W0 F w):Calls Tryz.prog 45 #[.slice none 0 0] w fun x w'=>∃ u,x=.returned u∧Sat W0 F w':=by
 refine enter Tryz.func45 rfl Tryz.ntmps45 Tryz.results45 rfl ?_
 refine gx ?_
 refine ag (met (x6 (n:=0) (by omega) hs) ?_)
 clear hs
 rintro _ w ⟨k,rfl,hs⟩
 refine ⟨_,rfl,?_⟩
 refine gx ?_
 refine ag (f:=87) ?_
 refine met (R:=fun x w'=>∃ u,x=.returned u∧Sat W0 F w') ?_ ?_
 ·refine enter Tryz.func87 rfl Tryz.ntmps87 Tryz.results87 rfl ?_
  refine gx ?_
  refine aJ (α:=Unit) (fun z=>[(0,.slice none 0 0),(1,.int .i64 0),(2,.int .i64 0),(3,.int .i64 (k:Int))]) (fun z w=>Sat W0 F w) (fun z=>0) () ⟨rfl,rfl,rfl,rfl,trivial⟩ hs ?_
  clear hs
  rintro _ w hs
  refine gx ?_
  refine ag (met (Lg hs) ?_)
  clear hs
  rintro _ w ⟨u,rfl,hs⟩
  refine ⟨_,rfl,?_⟩
  refine gx ?_
  exact ah rfl ⟨_,rfl,hs⟩
 ·clear hs
  rintro _ w ⟨u,rfl,hs⟩
  refine ⟨_,rfl,?_⟩
  refine gx ?_
  exact km rfl ⟨_,rfl,hs⟩
theorem E3 {ss:List Bs} (hs:Sat W0 (aL 1 v 9 ss.length (ss.map str)::F) w) (hlen:ss.length≤1099511627776) :
 Calls Tryz.prog 45 #[v] w fun x w'=>∃ u,x=.returned u∧Sat W0 (aL 1 v 9 (ln ss).length ((ln ss).map str)::F) w':=by
 have hl:(ln ss).length=ss.length:=(List.mergeSort_perm ss _).length_eq
 by_cases hv:v=.slice none 0 0
 ·subst hv
  have h0:ss=[]:=by
   obtain ⟨a,c,h1,h2,_⟩:=hs.aC
   simp only [Value.slice.injEq] at h1
   exact List.eq_nil_of_length_eq_zero h1.2.1.symm
  subst h0
  refine (Ix hs).mono ?_
  rintro x w' ⟨u,rfl,hs⟩
  exact ⟨u,rfl,by simpa [ln] using hs⟩
 ·obtain ⟨b,cap,rest,rfl,q1,q2,q3,h2⟩:=hs.lD hv
  refine (E1 h2 hlen).mono ?_
  rintro x w' ⟨rfl,hs⟩
  refine ⟨_,rfl,?_⟩
  rw [← hl] at q1 q3 ⊢
  refine Sat.dg hs q1 q2 q3 (by simp) fun u hu=>?_
  obtain ⟨x,_,rfl⟩:=List.mem_map.1 hu
  rfl
end
end Go.Proofs.YtecibefflhomdaaGreatDoor
