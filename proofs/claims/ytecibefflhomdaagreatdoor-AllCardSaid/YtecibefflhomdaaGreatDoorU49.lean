/-
  Part 49: WALKS the statements' world; WALKS the statements' world; WALKS the statements' world.
-/
import Derived.Test.YtecibefflhomdaaGreatDoorU48
set_option maxHeartbeats 8000000
set_option maxRecDepth 100000
set_option linter.all false
namespace Go.Proofs.YtecibefflhomdaaGreatDoor
open Go
section
open Go.Proofs.YtecibefflhomdaaGreatDoor.Pure (PDisk Chg bltB lookP betweenP inLo inHi limT)
attribute [local irreducible] IntKind.wrap
variable {W0 w:World} {F:List HProp} {p:Nat} {X:WS} {E B N:Nat} {v:Value}
structure OpOk (W0:World) (o:OpV):Prop where
 a1:-9223372036854775808≤o.a
 a2:o.a≤9223372036854775807
 b1:-9223372036854775808≤o.b
 b2:o.b≤9223372036854775807
 rd:RdW W0 3 o.lv (chgsC o.l)
 cap:∀ a n c,o.lv=.slice a n c→n≤c
theorem Sat.pxShare {x:Except Err (List (Bs×Bs))} (h:Sat W0 (pairX v x::F) w):Sat W0 (pairV v (okL x)::F) w:=by
 cases x with
 | ok l=>exact Sat.pvShare h
 | error e=>
  have hp:=h.pure1 (φ:=v=.slice none 0 0) fun _ k=>k
  subst hp
  exact Sat.rvEmp h.drop (.inl rfl) (fun _=>rfl)
theorem betweenP_len (l:List (Bs×Bs)) (lo hi:Bs) (limit:Int):(betweenP l lo hi limit).length≤l.length:=by
 unfold betweenP limT
 have:=List.length_filter_le (fun p:Bs×Bs=>inLo lo p.1&&inHi hi p.1) l
 split
 ·rw [List.length_take];omega
 ·exact this
theorem rScan_len (h:WOk X E B N) (lo hi:Bs) (limit:Int):(okL (rScan X.r lo hi limit)).length≤E:=by
 unfold rScan
 split
 ·exact Nat.zero_le _
 ·exact Nat.le_trans (betweenP_len _ _ _ _) h.plen
theorem rScanAt_len (h:WOk X E B N) (n:Int) (lo hi:Bs) (limit:Int):(okL (rScanAt X.r n lo hi limit)).length≤E:=by
 unfold rScanAt
 cases hr:rAt X.r n with
 | error e=>exact Nat.zero_le _
 | ok ps=>exact Nat.le_trans (betweenP_len _ _ _ _) (rAt_len h hr)
theorem read_get {o:OpV} (hk:o.kind=2) (hE:ErrW W0) (h:WOk X E B N) (hEE:E≤1048576) (hs:Sat W0 (wL p X F) w) :
 Calls Tryz.prog 69 #[idV p,.agg (opC o).toArray] w (StepR W0 p F E B N):=by
 obtain ⟨kk,a,b,ss,tt,lv,l⟩:=o
 dsimp only at hk
 subst hk
 obtain ⟨D',e1,hok⟩:=wGet h hEE ss
 refine enter Tryz.func69 rfl Tryz.ntmps69 Tryz.results69 rfl ?_
 refine gy ?_
 refine w_box (z:=[.int .i64 2,.int .i64 a,.int .i64 b,str ss,str tt,lv]) hs ?_
 clear hs
 intro w b3 hs
 refine gy ?_
 refine wc_tree [blk b3 84 [.int .i64 2,.int .i64 a,.int .i64 b,str ss,str tt,lv],blk p 91 (wCells X)] [3,5] (.q 0 (.q 1 (.q 2 (.s 3 (.q 4 (.s 5 (.l 6 (.q 7 (.q 8 (.q 9 (.q 10 (.q 11 (.q 12 (.q 13 .nil)))))))))))))) hs (by kernel_rfl) ?_
 clear hs
 intro w hs
 refine gyt ?_
 refine w_call (met (getP_spec e1 (hs.take2 (.there (.there .here)) (.there (.there .here)))) ?_)
 clear hs
 rintro _ w ⟨ve,rfl,hs⟩
 refine ⟨_,rfl,?_⟩
 refine gy ?_
 refine wq_wt hs.to ?_
 refine gyt ?_
 refine gy ?_
 refine wc_tree [blk b3 84 [.int .i64 2,.int .i64 a,.int .i64 b,str ss,str tt,lv],blk p 91 (wCells X)] [3,5] (.q 0 (.q 1 (.q 2 (.s 3 (.q 4 (.s 5 (.l 6 (.q 7 (.q 8 (.q 9 (.q 10 (.q 11 (.q 12 (.q 13 .nil)))))))))))))) hs (by kernel_rfl) ?_
 clear hs
 intro w hs
 refine gyt ?_
 refine w_call (met (rget_spec (by have:=h.plen;omega) (hs.take (.there (.there (.there (.there (.there .here))))))) ?_)
 clear hs
 rintro _ w ⟨rfl,hs⟩
 refine ⟨_,rfl,?_⟩
 refine gy ?_
 refine wq_wt hs.to ?_
 refine gyt ?_
 refine gy ?_
 refine w_call (met (tell_spec hE (hs.take (.there (.there (.there .here))))) ?_)
 clear hs
 rintro _ w ⟨rfl,hs⟩
 refine ⟨_,rfl,?_⟩
 have hv:bsX (rGet X.r ss)=bsX (rGet X.r ss):=rfl
 refine gy ?_
 refine wl_beq true rfl rfl (by simp) rfl ?_
 refine gy ?_
 refine w_call (met (num_spec hs) ?_)
 clear hs
 rintro _ w ⟨rfl,hs⟩
 refine ⟨_,rfl,?_⟩
 refine gy ?_
 exact wq_ret rfl ⟨_,hok,rfl,hs.to⟩
theorem read_getAt {o:OpV} (hk:o.kind=8) (hE:ErrW W0) (h:WOk X E B N) (hEE:E≤1048576) (hs:Sat W0 (wL p X F) w) :
 Calls Tryz.prog 69 #[idV p,.agg (opC o).toArray] w (StepR W0 p F E B N):=by
 obtain ⟨kk,a,b,ss,tt,lv,l⟩:=o
 dsimp only at hk
 subst hk
 obtain ⟨D',e1,hok⟩:=wGetAt h hEE a ss
 refine enter Tryz.func69 rfl Tryz.ntmps69 Tryz.results69 rfl ?_
 refine gy ?_
 refine w_box (z:=[.int .i64 8,.int .i64 a,.int .i64 b,str ss,str tt,lv]) hs ?_
 clear hs
 intro w b3 hs
 refine gy ?_
 refine wc_tree [blk b3 84 [.int .i64 8,.int .i64 a,.int .i64 b,str ss,str tt,lv],blk p 91 (wCells X)] [3,5,7] (.q 0 (.q 1 (.q 2 (.s 3 (.q 4 (.s 5 (.q 6 (.s 7 (.l 8 (.q 9 (.q 10 (.q 11 (.q 12 (.q 13 (.q 14 (.q 15 .nil)))))))))))))))) hs (by kernel_rfl) ?_
 clear hs
 intro w hs
 refine gyt ?_
 refine w_call (met (getAtP_spec e1 (hs.take2 (.there (.there .here)) (.there (.there .here)))) ?_)
 clear hs
 rintro _ w ⟨ve,rfl,hs⟩
 refine ⟨_,rfl,?_⟩
 refine gy ?_
 refine wq_wt hs.to ?_
 refine gyt ?_
 refine gy ?_
 refine wc_tree [blk b3 84 [.int .i64 8,.int .i64 a,.int .i64 b,str ss,str tt,lv],blk p 91 (wCells X)] [3,5,7] (.q 0 (.q 1 (.q 2 (.s 3 (.q 4 (.s 5 (.q 6 (.s 7 (.l 8 (.q 9 (.q 10 (.q 11 (.q 12 (.q 13 (.q 14 (.q 15 .nil)))))))))))))))) hs (by kernel_rfl) ?_
 clear hs
 intro w hs
 refine gyt ?_
 refine w_call (met (rgetAt_spec (fun ps hp=>by have:=rAt_len h hp;omega) (hs.take (.there (.there (.there (.there (.there .here))))))) ?_)
 clear hs
 rintro _ w ⟨rfl,hs⟩
 refine ⟨_,rfl,?_⟩
 refine gy ?_
 refine wq_wt hs.to ?_
 refine gyt ?_
 refine gy ?_
 refine w_call (met (tell_spec hE (hs.take (.there (.there (.there .here))))) ?_)
 clear hs
 rintro _ w ⟨rfl,hs⟩
 refine ⟨_,rfl,?_⟩
 have hv:bsX (rGetAt X.r a ss)=bsX (rGetAt X.r a ss):=rfl
 refine gy ?_
 refine wl_beq true rfl rfl (by simp) rfl ?_
 refine gy ?_
 refine w_call (met (num_spec hs) ?_)
 clear hs
 rintro _ w ⟨rfl,hs⟩
 refine ⟨_,rfl,?_⟩
 refine gy ?_
 exact wq_ret rfl ⟨_,hok,rfl,hs.to⟩
theorem read_scan {o:OpV} (hk:o.kind=3) (hE:ErrW W0) (h:WOk X E B N) (hEE:E≤1048576) (hs:Sat W0 (wL p X F) w) :
 Calls Tryz.prog 69 #[idV p,.agg (opC o).toArray] w (StepR W0 p F E B N):=by
 obtain ⟨kk,a,b,ss,tt,lv,l⟩:=o
 dsimp only at hk
 subst hk
 obtain ⟨D',e1,hok⟩:=wScan h hEE ss tt a
 refine enter Tryz.func69 rfl Tryz.ntmps69 Tryz.results69 rfl ?_
 refine gy ?_
 refine w_box (z:=[.int .i64 3,.int .i64 a,.int .i64 b,str ss,str tt,lv]) hs ?_
 clear hs
 intro w b3 hs
 refine gy ?_
 refine wc_tree [blk b3 84 [.int .i64 3,.int .i64 a,.int .i64 b,str ss,str tt,lv],blk p 91 (wCells X)] [3,5,7,9] (.q 0 (.q 1 (.q 2 (.s 3 (.q 4 (.s 5 (.q 6 (.s 7 (.q 8 (.s 9 (.l 10 (.q 11 (.q 12 (.q 13 (.q 14 (.q 15 .nil)))))))))))))))) hs (by kernel_rfl) ?_
 clear hs
 intro w hs
 refine gyt ?_
 refine w_call (met (scanPP_spec e1 (hs.take2 (.there (.there .here)) (.there (.there .here)))) ?_)
 clear hs
 rintro _ w ⟨pv,ve,rfl,hs⟩
 refine ⟨_,rfl,?_⟩
 have hs:=hs.pxShare
 refine gy ?_
 refine wq_wt hs.to ?_
 refine gyt ?_
 refine gy ?_
 refine wc_tree [blk b3 84 [.int .i64 3,.int .i64 a,.int .i64 b,str ss,str tt,lv],blk p 91 (wCells X)] [3,5,7,9] (.q 0 (.q 1 (.q 2 (.s 3 (.q 4 (.s 5 (.q 6 (.s 7 (.q 8 (.s 9 (.l 10 (.q 11 (.q 12 (.q 13 (.q 14 (.q 15 .nil)))))))))))))))) hs (by kernel_rfl) ?_
 clear hs
 intro w hs
 refine gyt ?_
 refine w_call (met (rscan_spec (by have:=h.plen;omega) (hs.take (.there (.there (.there (.there (.there (.there .here)))))))) ?_)
 clear hs
 rintro _ w ⟨u,rfl,hs⟩
 refine ⟨_,rfl,?_⟩
 refine gy ?_
 refine wq_wt hs.to ?_
 refine gyt ?_
 refine gy ?_
 refine w_call (met (tell_spec hE (hs.take (.there (.there (.there (.there (.there .here))))))) ?_)
 clear hs
 rintro _ w ⟨rfl,hs⟩
 refine ⟨_,rfl,?_⟩
 have hlen:=rScan_len h ss tt a
 refine gy ?_
 refine w_call (met (same_spec (by omega) (hs.take2 (.there (.there (.there .here))) (.there .here))) ?_)
 clear hs
 rintro _ w ⟨rfl,hs⟩
 refine ⟨_,rfl,?_⟩
 rw [decide_eq_true rfl]
 obtain ⟨a1,c1,rfl,-⟩:=hs.pvShape
 obtain ⟨a2,c2,rfl,-⟩:=(hs.take (.there .here)).pvShape
 refine gy ?_
 refine w_st hs ?_
 clear hs
 intro w hs
 refine gy ?_
 refine w_st hs ?_
 clear hs
 intro w hs
 refine gy ?_
 refine w_call (met (num_spec hs) ?_)
 clear hs
 rintro _ w ⟨rfl,hs⟩
 refine ⟨_,rfl,?_⟩
 refine gy ?_
 refine wq_ret rfl ⟨{ X with D:=D',vo:=.slice a1 (okL (rScan X.r ss tt a)).length c1,vw:=.slice a2 (okL (rScan X.r ss tt a)).length c2,out:=okL (rScan X.r ss tt a) },⟨hok.opt,hok.att,hok.dtd,hok.plen,hok.slen,hok.sn,hlen,hok.ssn⟩,rfl,hs.to⟩
theorem read_scanAt {o:OpV} (hk:o.kind=9) (hE:ErrW W0) (h:WOk X E B N) (hEE:E≤1048576) (hs:Sat W0 (wL p X F) w) :
 Calls Tryz.prog 69 #[idV p,.agg (opC o).toArray] w (StepR W0 p F E B N):=by
 obtain ⟨kk,a,b,ss,tt,lv,l⟩:=o
 dsimp only at hk
 subst hk
 obtain ⟨D',e1,hok⟩:=wScanAt h hEE a ss tt b
 refine enter Tryz.func69 rfl Tryz.ntmps69 Tryz.results69 rfl ?_
 refine gy ?_
 refine w_box (z:=[.int .i64 9,.int .i64 a,.int .i64 b,str ss,str tt,lv]) hs ?_
 clear hs
 intro w b3 hs
 refine gy ?_
 refine wc_tree [blk b3 84 [.int .i64 9,.int .i64 a,.int .i64 b,str ss,str tt,lv],blk p 91 (wCells X)] [3,5,7,9,11] (.q 0 (.q 1 (.q 2 (.s 3 (.q 4 (.s 5 (.q 6 (.s 7 (.q 8 (.s 9 (.q 10 (.s 11 (.l 12 (.q 13 (.q 14 (.q 15 (.q 16 (.q 17 .nil)))))))))))))))))) hs (by kernel_rfl) ?_
 clear hs
 intro w hs
 refine gyt ?_
 refine w_call (met (scanAtP_spec e1 (hs.take2 (.there (.there .here)) (.there (.there .here)))) ?_)
 clear hs
 rintro _ w ⟨pv,ve,rfl,hs⟩
 refine ⟨_,rfl,?_⟩
 have hs:=hs.pxShare
 refine gy ?_
 refine wq_wt hs.to ?_
 refine gyt ?_
 refine gy ?_
 refine wc_tree [blk b3 84 [.int .i64 9,.int .i64 a,.int .i64 b,str ss,str tt,lv],blk p 91 (wCells X)] [3,5,7,9,11] (.q 0 (.q 1 (.q 2 (.s 3 (.q 4 (.s 5 (.q 6 (.s 7 (.q 8 (.s 9 (.q 10 (.s 11 (.l 12 (.q 13 (.q 14 (.q 15 (.q 16 (.q 17 .nil)))))))))))))))))) hs (by kernel_rfl) ?_
 clear hs
 intro w hs
 refine gyt ?_
 refine w_call (met (rscanAt_spec (fun ps hp=>by have:=rAt_len h hp;omega) (hs.take (.there (.there (.there (.there (.there (.there .here)))))))) ?_)
 clear hs
 rintro _ w ⟨u,rfl,hs⟩
 refine ⟨_,rfl,?_⟩
 refine gy ?_
 refine wq_wt hs.to ?_
 refine gyt ?_
 refine gy ?_
 refine w_call (met (tell_spec hE (hs.take (.there (.there (.there (.there (.there .here))))))) ?_)
 clear hs
 rintro _ w ⟨rfl,hs⟩
 refine ⟨_,rfl,?_⟩
 have hlen:=rScanAt_len h a ss tt b
 refine gy ?_
 refine w_call (met (same_spec (by omega) (hs.take2 (.there (.there (.there .here))) (.there .here))) ?_)
 clear hs
 rintro _ w ⟨rfl,hs⟩
 refine ⟨_,rfl,?_⟩
 rw [decide_eq_true rfl]
 refine gy ?_
 refine w_call (met (num_spec hs) ?_)
 clear hs
 rintro _ w ⟨rfl,hs⟩
 refine ⟨_,rfl,?_⟩
 refine gy ?_
 exact wq_ret rfl ⟨_,hok,rfl,hs.to⟩
end
section
open Go.Proofs.YtecibefflhomdaaGreatDoor.Pure (PDisk Chg bltB lookP betweenP inLo inHi limT)
attribute [local irreducible] IntKind.wrap
variable {W0 w:World} {F:List HProp} {p:Nat} {X:WS} {E B N:Nat} {v:Value}
theorem collect_eq (r:RSt) (lo hi:Bs) {a:Int} (ha:0<a):allE (colF a) r.closed none (okL (rScan r lo hi 0)) []=okL (rScan r lo hi a):=by
 unfold rScan allE begX
 cases r.closed with
 | true=>rfl
 | false=>
  simp only [Bool.false_eq_true,if_false,if_true]
  obtain ⟨n,rfl⟩:∃ n:Nat,a=(n:Int):=⟨a.toNat,by omega⟩
  have h1:=colF_all n (betweenP r.pairs lo hi 0) [] (by simp;omega)
  show allF (colF (n:Int)) (betweenP r.pairs lo hi 0) []=_
  rw [h1]
  show []++(betweenP r.pairs lo hi 0).take (n-0)=betweenP r.pairs lo hi n
  unfold betweenP limT
  rw [if_neg (by omega),if_pos ha]
  simp
theorem later_eq (r:RSt) (lo hi:Bs):allE latF r.closed none (okL (rScan r lo hi 0)) []=okL (rScan r lo hi 0):=by
 unfold rScan allE begX
 cases r.closed with
 | true=>rfl
 | false=>
  simp only [Bool.false_eq_true,if_false,if_true]
  rw [latF_all];rfl
theorem read_later {o:OpV} (hk:o.l≠[]) (ho:OpOk W0 o) (hW:PowW W0) (hE:ErrW W0) (h:WOk X E B N) (hEE:E+o.l.length≤1048576) (hB:B<16777216) (hN:N+8388608≤4611686018427387904) (hs:Sat W0 (wL p X F) w) :
 Calls Tryz.prog 131 #[idV p,.agg (opC o).toArray] w (StepR W0 p F (E+o.l.length) (B+1) (N+8388608)):=by
 obtain ⟨kk,a,b,ss,tt,lv,l⟩:=o
 have hl:=ho.rd
 have hcap:=ho.cap
 clear ho
 dsimp only at hk hl hcap hEE
 obtain ⟨al,cl,rfl⟩:=hl.chgLen
 have hpos:0<l.length:=by cases l with|nil=>exact absurd rfl hk|cons _ _=>simp
 have hcl:=hcap _ _ _ rfl
 obtain ⟨bw,ow,c,hg,hd,rfl,hcW,-⟩:=hl.chg hpos
 obtain ⟨D1,e1,hok1⟩:=wScan h (by omega) ss tt 0
 obtain ⟨x,s',D',D'',er,f1,f2,f3,hok⟩:=wWrite hok1 [c] false (by simp;omega) hB hN
 have f2:numE er=rWriteN X.r [c]:=f2
 have hs:Sat W0 (blk p 91 (wCells X)::srC X.b X.d X.o X.r.closed none X.s::DiskA X.d X.D::refC X.rb X.r::detC X.det::pairV X.vo X.out::pairV X.vw X.out::F) w:=hs
 have hlen:=rScan_len h ss tt 0
 refine enter Tryz.func131 rfl Tryz.ntmps131 Tryz.results131 rfl ?_
 refine gy ?_
 refine w_box (z:=[.int .i64 kk,.int .i64 a,.int .i64 b,str ss,str tt,.slice (some ⟨bw,ow,none⟩) l.length cl]) hs ?_
 clear hs
 intro w b3 hs
 refine gy ?_
 refine wc_tree [blk b3 84 [.int .i64 kk,.int .i64 a,.int .i64 b,str ss,str tt,.slice (some ⟨bw,ow,none⟩) l.length cl],blk p 91 (wCells X)] [3,5,7,9,11] (.q 0 (.q 1 (.q 2 (.s 3 (.q 4 (.s 5 (.q 6 (.s 7 (.q 8 (.s 9 (.q 10 (.s 11 (.l 12 (.q 13 (.q 14 (.q 15 (.q 16 (.q 17 .nil)))))))))))))))))) hs (by kernel_rfl) ?_
 clear hs
 intro w hs
 refine gyt ?_
 refine wt_ldoN (chgC c) rfl rfl rfl rfl hcW rfl ?_
 refine gyt ?_
 refine w_call (met (later_spec (be2:=none) (e2:=er) (s2:=s') (D2:=D'') hE e1 (by omega) (fun A v G w hA hs=>?_) (hs.take2 (.there (.there .here)) (.there (.there .here)))) ?_)
 ·refine (writeP_spec (x:=x) f1 hA (by simp) hW hs).mono ?_
  rintro _ w' ⟨ve,rfl,hs⟩
  rw [f3] at hs
  exact ⟨ve,rfl,hs⟩
 clear hs
 rintro _ w ⟨pv,rfl,hs⟩
 refine ⟨_,rfl,?_⟩
 rw [later_eq] at hs
 have hs:=Sat.pvShare hs
 rw [f2]
 refine gy ?_
 refine wq_wt hs.to ?_
 refine gyt ?_
 refine gy ?_
 refine wc_tree [blk b3 84 [.int .i64 kk,.int .i64 a,.int .i64 b,str ss,str tt,.slice (some ⟨bw,ow,none⟩) l.length cl],blk p 91 (wCells X)] [3,5,7] (.q 0 (.q 1 (.q 2 (.s 3 (.q 4 (.s 5 (.q 6 (.s 7 (.l 8 (.q 9 (.q 10 (.q 11 (.q 12 (.q 13 .nil)))))))))))))) hs (by kernel_rfl) ?_
 clear hs
 intro w hs
 refine gyt ?_
 refine w_call (met (rscan_spec (by have:=h.plen;omega) (hs.take (.there (.there (.there (.there (.there .here))))))) ?_)
 clear hs
 rintro _ w ⟨u,rfl,hs⟩
 refine ⟨_,rfl,?_⟩
 refine gy ?_
 refine wq_wt hs.to ?_
 refine gyt ?_
 refine gy ?_
 refine wl_cut (len:=l.length) (cap:=cl) 0 1 rfl rfl rfl rfl rfl (by omega) (by omega) rfl ?_
 have ec:cutAt bw ow cl 0 3=⟨bw,ow,none⟩:=by
  unfold cutAt
  rw [if_neg (by omega),Nat.zero_mul,Nat.add_zero]
 rw [ec]
 have hl1:RdW W0 3 (.slice (some ⟨bw,ow,none⟩) (1-0) (cl-0)) (chgsC [c]):=by
  refine ⟨⟨_,_,rfl⟩,chgs_k _,fun _=>⟨bw,ow,_,rfl,fun j u hu=>?_⟩⟩
  have:(chgsC [c]).flatten=chgC c:=by simp [chgsC]
  rw [this] at hu
  exact hcW j u hu
 refine gy ?_
 refine w_call (met (theirs_spec hl1 (by simp) hs) ?_)
 clear hs
 rintro _ w ⟨u2,rfl,hs⟩
 refine ⟨_,rfl,?_⟩
 have hs:=hs.cgShare
 refine gy ?_
 refine w_call (met (rwrite_spec (by have:=h.plen;simp;omega) (hs.take2 (.there (.there .here)) .here)) ?_)
 clear hs
 rintro _ w ⟨rfl,hs⟩
 refine ⟨_,rfl,?_⟩
 refine gy ?_
 refine w_call (met (same_spec (by omega) (hs.take2 (.there (.there .here)) (.there .here))) ?_)
 clear hs
 rintro _ w ⟨rfl,hs⟩
 refine ⟨_,rfl,?_⟩
 rw [decide_eq_true rfl]
 refine gy ?_
 refine w_call (met (num_spec hs) ?_)
 clear hs
 rintro _ w ⟨rfl,hs⟩
 refine ⟨_,rfl,?_⟩
 refine gy ?_
 exact wq_ret rfl ⟨_,hok.more (by simp;omega) (Nat.le_refl _) (Nat.le_refl _),rfl,Sat.wMk _ (rWrite_cl _ _) hs.to⟩
theorem read_collect {o:OpV} (hk:o.kind=4) (ho:OpOk W0 o) (hW:PowW W0) (hE:ErrW W0) (h:WOk X E B N) (hEE:E+o.l.length≤1048576) (hB:B<16777216) (hN:N+8388608≤4611686018427387904) (hs:Sat W0 (wL p X F) w) :
 Calls Tryz.prog 69 #[idV p,.agg (opC o).toArray] w (StepR W0 p F (E+o.l.length) (B+1) (N+8388608)):=by
 have hlater:=fun (w:World) (G:List HProp) (hne:o.l≠[]) (hs:Sat W0 (wL p X G) w)=>read_later hne ho hW hE h hEE hB hN hs
 obtain ⟨kk,a,b,ss,tt,lv,l⟩:=o
 have hl:=ho.rd
 have ha2:=ho.a2
 clear ho
 dsimp only at hk hl hEE hlater ha2
 subst hk
 obtain ⟨al,cl,rfl⟩:=hl.chgLen
 have hs:Sat W0 (blk p 91 (wCells X)::srC X.b X.d X.o X.r.closed none X.s::DiskA X.d X.D::refC X.rb X.r::detC X.det::pairV X.vo X.out::pairV X.vw X.out::F) w:=hs
 refine enter Tryz.func69 rfl Tryz.ntmps69 Tryz.results69 rfl ?_
 refine gy ?_
 refine w_box (z:=[.int .i64 4,.int .i64 a,.int .i64 b,str ss,str tt,.slice al l.length cl]) hs ?_
 clear hs
 intro w b3 hs
 by_cases hc:a<0∧0<l.length
 ·obtain ⟨c1,c2⟩:=hc
  have c2':(l.length:Int) > 0:=by omega
  refine gy ?_
  refine w_call (met (hlater w (blk b3 84 [.int .i64 4,.int .i64 a,.int .i64 b,str ss,str tt,.slice al l.length cl]::F) (fun hh=>by rw [hh] at c2;simp at c2) hs.to) ?_)
  clear hs
  rintro _ w ⟨X',hok,rfl,hs⟩
  refine ⟨_,rfl,?_⟩
  refine gy ?_
  exact wq_ret rfl ⟨X',hok,rfl,Sat.wMk _ rfl hs.to⟩
 ·have hcc:¬ a<0∨(a<0∧¬ ((l.length:Int) > 0)):=by omega
  clear hc hlater
  have hgo:∀ {e:Env},True:=fun {_}=>trivial
  by_cases hpos:a≤0
  ·rcases hcc with c1|⟨c1,c2⟩
   all_goals
    refine gy ?_
    refine wc_tree [blk b3 84 [.int .i64 4,.int .i64 a,.int .i64 b,str ss,str tt,.slice al l.length cl],blk p 91 (wCells X)] [3,5,7,9] (.q 0 (.q 1 (.q 2 (.s 3 (.q 4 (.s 5 (.q 6 (.s 7 (.q 8 (.s 9 (.l 10 (.q 11 .nil)))))))))))) hs (by kernel_rfl) ?_
    clear hs
    intro w hs
    refine gyt ?_
    refine w_call (met (collect_none hpos hs) ?_)
    clear hs
    rintro _ w ⟨pv,rfl,hs⟩
    refine ⟨_,rfl,?_⟩
    have hs:=Sat.pvShare hs
    refine gy ?_
    refine wq_wt hs.to ?_
    refine gyt ?_
    refine gy ?_
    refine wc_tree [blk b3 84 [.int .i64 4,.int .i64 a,.int .i64 b,str ss,str tt,.slice al l.length cl],blk p 91 (wCells X)] [3,5,7,9] (.q 0 (.q 1 (.q 2 (.s 3 (.q 4 (.s 5 (.q 6 (.s 7 (.q 8 (.s 9 (.l 10 (.q 11 (.q 12 (.q 13 (.q 14 (.q 15 .nil)))))))))))))))) hs (by kernel_rfl) ?_
    clear hs
    intro w hs
    refine gyt ?_
    refine w_call (met (rscan_spec (by have:=h.plen;omega) (hs.take (.there (.there (.there (.there (.there .here))))))) ?_)
    clear hs
    rintro _ w ⟨u,rfl,hs⟩
    refine ⟨_,rfl,?_⟩
    refine gy ?_
    refine wq_wt hs.to ?_
    refine gyt ?_
    have hs:=Sat.rvEmp (k:=2) hs (a:=none) (c:=0) (.inl rfl) (fun _=>rfl)
    refine gy ?_
    refine w_call (met (same_spec (b:=[]) (by simp) (hs.take2 (.there (.there (.there .here))) .here)) ?_)
    clear hs
    rintro _ w ⟨rfl,hs⟩
    refine ⟨_,rfl,?_⟩
    rw [decide_eq_true rfl]
    refine gy ?_
    exact wq_ret rfl ⟨X,h.more (by omega) (by omega) (by omega),rfl,Sat.wMk _ rfl hs.to⟩
  ·have c1:¬ a<0:=by omega
   obtain ⟨D1,e1,hok1⟩:=wScan h (by omega) ss tt 0
   have hlen:=rScan_len h ss tt 0
   have hlen2:=rScan_len h ss tt a
   refine gy ?_
   refine wc_tree [blk b3 84 [.int .i64 4,.int .i64 a,.int .i64 b,str ss,str tt,.slice al l.length cl],blk p 91 (wCells X)] [3,5,7,9] (.q 0 (.q 1 (.q 2 (.s 3 (.q 4 (.s 5 (.q 6 (.s 7 (.q 8 (.s 9 (.l 10 (.q 11 .nil)))))))))))) hs (by kernel_rfl) ?_
   clear hs
   intro w hs
   refine gyt ?_
   refine w_call (met (collect_spec hpos ha2 e1 (by omega) (hs.take2 (.there (.there .here)) (.there (.there .here)))) ?_)
   clear hs
   rintro _ w ⟨pv,rfl,hs⟩
   refine ⟨_,rfl,?_⟩
   rw [collect_eq X.r ss tt (by omega)] at hs
   have hs:=Sat.pvShare hs
   refine gy ?_
   refine wq_wt hs.to ?_
   refine gyt ?_
   refine gy ?_
   refine wc_tree [blk b3 84 [.int .i64 4,.int .i64 a,.int .i64 b,str ss,str tt,.slice al l.length cl],blk p 91 (wCells X)] [3,5,7,9] (.q 0 (.q 1 (.q 2 (.s 3 (.q 4 (.s 5 (.q 6 (.s 7 (.q 8 (.s 9 (.l 10 (.q 11 (.q 12 (.q 13 (.q 14 (.q 15 .nil)))))))))))))))) hs (by kernel_rfl) ?_
   clear hs
   intro w hs
   refine gyt ?_
   refine w_call (met (rscan_spec (by have:=h.plen;omega) (hs.take (.there (.there (.there (.there (.there .here))))))) ?_)
   clear hs
   rintro _ w ⟨u,rfl,hs⟩
   refine ⟨_,rfl,?_⟩
   refine gy ?_
   refine wq_wt hs.to ?_
   refine gyt ?_
   refine gy ?_
   refine w_call (met (same_spec (by omega) (hs.take2 (.there (.there .here)) .here)) ?_)
   clear hs
   rintro _ w ⟨rfl,hs⟩
   refine ⟨_,rfl,?_⟩
   rw [decide_eq_true rfl]
   refine gy ?_
   exact wq_ret rfl ⟨_,hok1.more (by omega) (by omega) (by omega),rfl,hs.to⟩
end
section
open Go.Proofs.YtecibefflhomdaaGreatDoor.Pure (PDisk Chg bltB lookP betweenP inLo inHi)
attribute [local irreducible] IntKind.wrap
variable {W0 w:World} {F:List HProp} {p:Nat} {X:WS} {E B N:Nat}
def othC (X:WS):HProp:=match X.det with
 | none=>fun _=>True
 | some _=>DiskA X.d X.D
theorem Sat.curTake (h:Sat W0 (DiskA X.d X.D::detC X.det::F) w):Sat W0 (DiskA X.disk X.cur::othC X::F) w:=by
 unfold WS.disk WS.cur othC
 cases hd:X.det with
 | none=>rw [hd] at h;exact h
 | some q=>rw [hd] at h;exact h.to
theorem Sat.curBack (h:Sat W0 (DiskA X.disk X.cur::othC X::F) w):Sat W0 (DiskA X.d X.D::detC X.det::F) w:=by
 unfold WS.disk WS.cur othC at h
 cases hd:X.det with
 | none=>rw [hd] at h;exact h
 | some q=>rw [hd] at h;exact h.to
theorem wRest (h:WOk X E B N) (hc:X.r.closed=true) (hE:E≤1048576) (hB:B≤16777216) {D2:PDisk} (k:IsCopy X.cur D2):Rest False D2 X.r.pairs E B N∧Calm D2:=by
 unfold WS.cur at k
 cases hd:X.det with
 | none=>
  rw [hd] at k
  obtain ⟨i1,i2,i3⟩:=h.att hd
  exact ⟨(rest_of_inv i1 k hE hB).more (Nat.le_refl _) (Nat.le_refl _) i3,i2.copy k⟩
 | some q=>
  rw [hd] at k
  obtain ⟨_,i1,i2⟩:=h.dtd q hd
  exact ⟨i1.copy k,i2.copy k⟩
theorem wOpen (h:WOk X E B N) (hc:X.r.closed=true) (hE:E≤1048576) (hB:B≤16777216) (hN:N+8388608≤4611686018427387904) {D2:PDisk} (k:IsCopy X.cur D2) {m t:Nat} (hok:okO m t=true) :
 ∃ s D',openS ⟨m,t⟩ D2=some (.ok s,D')∧∀ b' dd rb',WOk ⟨b',dd,rb',X.vo,X.vw,⟨m,t⟩,s,D',⟨X.r.pairs,[],false⟩,none,X.out⟩ E (B+1) (N+8388608):=by
 obtain ⟨hr,hcalm⟩:=wRest h hc hE hB k
 have hok':1≤m∧m≤32∧2≤t∧t≤6:=by simpa [okO] using hok
 obtain ⟨x,D',e1,e2,e3⟩:=open_inv (o:=⟨m,t⟩) (by show 1≤t;omega) hok'.1 hr hE hB (by omega)
 rcases e3 with ⟨e,rfl,hf,_⟩|⟨s,rfl,hi,hn⟩
 ·exact (hcalm.noFlt hf).elim
 ·refine ⟨s,D',e1,fun b' dd rb'=>⟨hok,fun _=>⟨hi.more (Nat.le_refl _) (by omega),hcalm.later e2,(by show s.number≤_;omega)⟩,fun q hq=>(by cases hq),h.plen,fun ps hp=>(by cases hp),Nat.zero_le _,h.olen,?_⟩⟩
  show s.snap≤_
  rw [hi.snap];exact Nat.zero_le _
theorem wRefused (h:WOk X E B N) (hc:X.r.closed=true) (hE:E≤1048576) (hB:B≤16777216) {D2:PDisk} (k:IsCopy X.cur D2) (dd:Nat):WOk { X with det:=some (dd,D2) } E B N:=
 ⟨h.opt,fun hn=>(by cases hn),fun q hq=>by
   have hq:(dd,D2)=q:=by injection hq
   subst hq
   exact ⟨hc,wRest h hc hE hB k⟩,h.plen,h.slen,h.sn,h.olen,h.ssn⟩
theorem step_open {o:OpV} (hk:o.kind=6) (hW:PowW W0) (hE:ErrW W0) (h:WOk X E B N) (hEE:E≤1048576) (hB:B≤16777216) (hN:N+8388608≤4611686018427387904) (hs:Sat W0 (wL p X F) w) :
 Calls Tryz.prog 38 #[idV p,.agg (opC o).toArray] w (StepR W0 p F E (B+1) (N+8388608)):=by
 obtain ⟨kk,a,b,ss,tt,lv,l⟩:=o
 dsimp only at hk
 subst hk
 obtain ⟨e1,hok1⟩:=wClose h
 refine enter Tryz.func38 rfl Tryz.ntmps38 Tryz.results38 rfl ?_
 refine gy ?_
 refine w_box (z:=[.int .i64 6,.int .i64 a,.int .i64 b,str ss,str tt,lv]) hs ?_
 clear hs
 intro w b3 hs
 refine gy ?_
 refine w_call (met (closeP_spec (hs.take2 (.there (.there .here)) (.there (.there .here)))) ?_)
 clear hs
 rintro _ w ⟨ve,rfl,hs⟩
 refine ⟨_,rfl,?_⟩
 refine gy ?_
 refine w_call (met (rclose_spec (hs.take (.there (.there (.there (.there (.there .here))))))) ?_)
 clear hs
 rintro _ w ⟨rfl,hs⟩
 refine ⟨_,rfl,?_⟩
 refine gy ?_
 refine w_call (met (tell_spec hE (hs.take (.there (.there (.there .here))))) ?_)
 clear hs
 rintro _ w ⟨rfl,hs⟩
 refine ⟨_,rfl,?_⟩
 have e1':(numE (closeP X.r.closed none X.s X.D).1:Int)=if X.r.closed=true then 6 else 0:=by rw [e1];split<;>rfl
 rw [e1']
 refine gy ?_
 refine w_call (met (num_spec hs) ?_)
 clear hs
 rintro _ w ⟨rfl,hs⟩
 refine ⟨_,rfl,?_⟩
 have hrfl:¬ ((if X.r.closed=true then (6:Int) else 0)≠(if X.r.closed=true then 6 else 0)):=fun hh=>hh rfl
 generalize hX1:({ X with D:=(closeP X.r.closed none X.s X.D).2,r:={ X.r with closed:=true } }:WS)=X1 at hok1
 have hdk:X1.disk=X.disk:=by rw [← hX1];rfl
 have hcl:X1.r.closed=true:=by rw [← hX1]
 have hs:Sat W0 (DiskA X1.d X1.D::detC X1.det::blk b3 84 [.int .i64 6,.int .i64 a,.int .i64 b,str ss,str tt,lv]::blk p 91 [idV X1.disk,idV X1.b,idV X1.rb,.int .i64 (X1.o.memory:Int),.int .i64 (X1.o.tables:Int),X1.vo,X1.vw]::srC X1.b X1.d X1.o true none X1.s::refC X1.rb X1.r::pairV X1.vo X1.out::pairV X1.vw X1.out::F) w:=by
  rw [← hX1]
  exact hs.to
 rw [← hX1] at hcl
 have hcl1:X1.r.closed=true:=by rw [← hX1]
 clear hX1 hcl
 have hs:=hs.curTake
 refine gy ?_
 refine w_call (met (copy_a hs) ?_)
 clear hs
 rintro _ w ⟨dd,D2,rfl,hcp,hs⟩
 refine ⟨_,rfl,?_⟩
 refine gy ?_
 refine w_st hs ?_
 clear hs
 intro w hs
 obtain ⟨m,hm⟩:∃ m,rawN a 34=m:=⟨_,rfl⟩
 obtain ⟨t,ht⟩:∃ t,rawN b 8=t:=⟨_,rfl⟩
 refine gy ?_
 refine w_call (met (wopen_spec (m:=m) (t:=t) hm ht hW hE (fun hok=>by obtain ⟨s,D',e,_⟩:=wOpen hok1 hcl1 hEE hB hN hcp hok;exact ⟨s,D',e⟩)
  (hs.to (a:=blk p 91 [idV dd,idV X1.b,idV X1.rb,.int .i64 (X1.o.memory:Int),.int .i64 (X1.o.tables:Int),X1.vo,X1.vw]::DiskA dd D2::refC X1.rb X1.r::DiskA X1.disk X1.cur::othC X1::srC X1.b X1.d X1.o true none X1.s::pairV X1.vo X1.out::pairV X1.vw X1.out::F))) ?_)
 clear hs
 rintro _ w ⟨rfl,hyes,hno⟩
 refine ⟨_,rfl,?_⟩
 cases hok:okO m t with
 | true=>
  obtain ⟨s,D',e3,hok3⟩:=wOpen hok1 hcl1 hEE hB hN hcp hok
  obtain ⟨s2,D2',b',rb',e4,hs⟩:=hyes hok
  rw [e3] at e4
  injection e4 with e4
  injection e4 with e4 e5
  injection e4 with e4
  subst e4;subst e5
  refine gy ?_
  refine wq_ret rfl ⟨_,hok3 b' dd rb',rfl,?_⟩
  have h2:=hs.trueC
  exact Sat.to (h2.take (.there (.there (.there .here))))
 | false=>
  have hs:=hno hok
  clear hno hyes
  have h2:=Sat.curBack (X:=X1) (F:=blk p 91 [idV dd,idV X1.b,idV X1.rb,.int .i64 (X1.o.memory:Int),.int .i64 (X1.o.tables:Int),X1.vo,X1.vw]::DiskA dd D2::refC X1.rb X1.r::srC X1.b X1.d X1.o true none X1.s::pairV X1.vo X1.out::pairV X1.vw X1.out::F) hs.to
  clear hs
  have hs:=h2
  clear h2
  refine gy ?_
  refine wq_ret rfl ⟨_,(wRefused hok1 hcl1 hEE hB hcp dd).more (Nat.le_refl _) (by omega) (by omega),rfl,?_⟩
  exact Sat.wMk _ hcl1 hs.to
end
end Go.Proofs.YtecibefflhomdaaGreatDoor
