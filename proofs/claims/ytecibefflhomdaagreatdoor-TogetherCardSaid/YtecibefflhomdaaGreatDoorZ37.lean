/-
  Part 37: WALKS package rows; WALKS package rows; WALKS package levels.
-/
import Derived.Test.YtecibefflhomdaaGreatDoorZ03
import Derived.Test.YtecibefflhomdaaGreatDoorZ35
import Derived.Test.YtecibefflhomdaaGreatDoorZ36
set_option maxHeartbeats 8000000
set_option maxRecDepth 100000
set_option linter.all false
namespace Go.Proofs.YtecibefflhomdaaGreatDoor
open Go Proofs.Tryz
section
variable[Bs0:Base][NQ]
open Pure (ad ay Rd bF less aO aU)
attribute [local irreducible] IntKind.wrap
variable{W0 w:Xo}{F:Xn ae}{v:Xp}{d m p:Nat}{T:dB}{D D':ad}{M:Xn ay}{it:It}{g:Mg}
variable {α β γ:Type} {i:Nat}
theorem fV (f:α->β->γ) {xs:Xn α} {Y:Xn β} {x:α} {y:β} (h:xs[i]?=some x) (H:Y[i]?=some y):(List.zipWith f xs Y)[i]?=some (f x y):=by
 simp[aav,h,H]
def vV {Z:Xn ae} {h:Nat} {x:ay×It} {l r:Xn ae} (b:Sat W0 l w) (t:Take (star Z) l r) (c:Z[i]?=some (fq d m h x)):aR (loadVar 256 ⟨h,0+0,none⟩) w (.agg (aD x.1).toArray):=by
 have H:=b.take t;rw[eT c]at H;obtain⟨v,a⟩:=H.ie.FZ;exact lG rfl rfl (a.cell .here) (iZ.all (aD x.1)).app (a.CH .here (iZ.all (aD x.1)).app (.inl rfl))
theorem zy(h:Xn ay)(i:Nat):iU h (i+1)=if less (h.getD i default) (h.getD (iU h i) default)=true then i else iU h i:=by
 unfold iU;rw[List.range_succ,Zq];rfl
def zA(H:Xn ay):∀i,0<i->iU H i<i
 | 0,h=>by omega
 | i+1,_=>by
  rw[zy];split
  .omega
  .cases i with
   | zero=>simp[iU]
   | succ i=>have:=zA H (i+1) (by omega);omega
def OP(h:Xn ay)(i:Nat):iU h i<=i:=by
 cases i with
 | zero=>simp[iU]
 | succ i=>have:=zA h (i+1) (by omega);omega
theorem wN (f:α->β->γ):∀{xs:Xn α} {Y:Xn β} {i:Nat} {x:α} {y:β},xs[i]?=some x->i<Y.length->List.zipWith f xs (Y.set i y)=(List.zipWith f xs Y).take i++f x y::(List.zipWith f xs Y).drop (i+1)
 | a::xs,b::Y,0,x,y,h,_=>by simp at h;subst h;simp
 | a::xs,b::Y,i+1,x,y,h,H=>by
  simp at h H;simp[wN f h H]
theorem su (f:α->β->γ):∀{xs:Xn α} {y:Xn β} {i:Nat},xs.length=y.length->List.zipWith f (xs.eraseIdx i) (y.eraseIdx i)=(List.zipWith f xs y).take i++(List.zipWith f xs y).drop (i+1)
 | [],[],i,_=>by simp
 | a::xs,b::y,0,_=>by simp
 | a::xs,b::y,i+1,h=>by
  simp at h;simp[su f (i:=i) h]
theorem wO:∀{Z:Xn α} {i:Nat},Z.eraseIdx i=Z.take i++Z.drop (i+1)
 | [],i=>by simp
 | z::Z,0=>by simp
 | z::Z,i+1=>by simp[wO (Z:=Z) (i:=i)]
theorem F0{z:Uw}{x:Except eX (Option ay×Mg)}(h:DX M D g=some (x,D'))(U:g.started=false->g.heads=[])(hmx:M.length<=1099511627776)(f:Sat W0 (Ux d m z g++(aZ m M::ah d D::F)) w) :
 Calls Tryz.prog 214 #[ax z.bs,ax z.bst,ax z.bh] w (OM W0 (TK d m (Vu z)) m d M x D' F):=by
 obtain⟨B,bst,bh,n,rv⟩:=z;obtain⟨started,rows,heads⟩:=g;dsimp only[Ux,List.cons_append,List.nil_append] at f U |-;unfold DX Cs at h;dsimp only at h;refine enter Tryz.func214 rfl Tryz.ntmps214 Tryz.results214 rfl ?_;refine dW ?_;refine uk ?_;refine aS f fun w s f=>?_;refine uk ?_;refine bT rfl ?_;refine dx (α:=ad×List (ay×It)) (fun _=>[(0,ax B),(1,ax bst),(2,ax bh),(3,ax s)])
  (fun z w=>Mr M z.1 rows z.2=some (x,D')/\Sat W0 (blk B 4 [.bool true]::blk bst 107 [.func (.func 212) #[] #[ax n,ax bh]]::Gv d m bh z.2::blk s 256 (aD gQ)::aZ m M::ah d z.1::F) w) ?_ ?_
 ·cases started with
  | true=>
   rw[if_pos rfl] at h;refine go ?_;exact aH (D,heads) ⟨rfl,rfl,rfl,rfl,trivial⟩ ⟨h,f.to⟩
  | false=>
   have hh:=U rfl;subst hh;rw[if_neg (by simp)] at h;by_cases hbig:rows.length<=jJ
   ·rw[if_pos hbig] at h;rw[bC] at hbig;cases hst:nU M rows [] D with
    | none=>rw[hst] at h;cases h
    | some y=>
     obtain⟨y,C⟩:=y;rw[hst] at h;refine go ?_;refine bJ f fun w f=>?_;refine go ?_;have f:=Sat.imp (f.to (a:=star [blk n 308 [rv],Dn d m rv rows]::Gv d m bh []::aZ m M::ah d D::blk B 4 [.bool true]::blk bst 107 [.func (.func 212) #[] #[ax n,ax bh]]::blk s 256 (aD gQ)::F)) fun _ k=>cD k;dsimp only[List.cons_append,List.nil_append] at f;refine kL rfl rfl rfl rfl (met (HM hst hbig hmx f) ?_);rintro _ w ⟨ve,rfl,f⟩;refine⟨_,rfl,?_⟩;cases y with
     | error e=>
      simp only[Option.some.injEq,Prod.mk.injEq] at h;obtain⟨rfl,rfl⟩:=h;obtain⟨t,u,rfl⟩:=(f.take dt).bp;refine go ?_;refine cx (aD gQ) ?_;refine go ?_;refine fG (vs:=aD gQ) f fun w f=>?_;refine go ?_;exact iW ⟨_,_,s,0,rfl,rfl,kM (aD gQ) f (.there (.there (.there (.there (.there (.there .here)))))) rfl rfl (iZ.all _),_,_,rfl,rfl,_,_,rfl,rfl,rfl⟩ ⟨_,rfl,Sat.emp f.to⟩
     | ok hl=>
      have hve:=(f.take dt).ee;subst hve;dsimp only at h;refine go ?_;exact aH (C,hl) ⟨rfl,rfl,rfl,rfl,trivial⟩ ⟨h,f.to⟩
   ·rw[if_neg hbig] at h;cases h
 ·clear h U;rintro⟨D,heads⟩ w ⟨h,f⟩;dsimp only at h f;unfold Mr at h;obtain⟨hv,ps,hps,f⟩:=(f.take iB).ON;obtain⟨a,c,rfl,hc⟩:=(f.take dt).aC;simp only[maxLen] at hc;cases heads with
  | nil=>
   have V:ps=[]:=List.eq_nil_of_length_eq_zero hps;subst V;simp only[List.map_nil,List.length_nil,iU,List.range_zero,List.foldl_nil,List.getElem?_nil,Option.some.injEq,Prod.mk.injEq] at h;obtain⟨rfl,rfl⟩:=h;refine go ?_;refine cx (aD gQ) ?_;refine fG (vs:=aD gQ) f fun w f=>?_;refine go ?_;refine iW ⟨_,_,s,0,rfl,rfl,kM (aD gQ) f (.there (.there (.there (.there (.there .here))))) rfl rfl (iZ.all _),_,_,rfl,rfl,_,_,rfl,rfl,rfl⟩ ⟨_,rfl,?_⟩;have f:=Sat.uw (d:=d) (m:=m) (bh:=bh) (hl:=[]) (hv:=.slice a 0 c) (ps:=[]) rfl (F:=blk B 4 [.bool true]::blk bst 107 [.func (.func 212) #[] #[ax n,ax bh]]::(fun _=>True)::aW .nilIface none::aZ m M::ah d D::F) ((Sat.iy (Sat.emp f)).to);exact Sat.xD (z:=⟨B,bst,bh,n,rv⟩) (g:=⟨true,rows,[]⟩) (fun h=>by cases h) (F:=aW .nilIface none::aZ m M::ah d D::F) f.to
  | cons x0 W=>
   have hpos:0<ps.length:=by rw[hps];simp
   generalize hH:x0::W=H at *;have hbl:iU (H.map (·.1)) H.length<H.length:=zA _ _ (by rw[<- hps];exact hpos);obtain⟨b,cap,r,hv,q1,q2,q3,f⟩:=(f.take dt).iv hpos;obtain⟨rfl,_,rfl⟩:=Value.slice.inj hv;have hcellAt:∀ i Y,ps[i]?=some Y->(ps.map ax++r)[0+i*1]?=some (ax Y):=fun i Y Q=>by
    rw[Nat.zero_add,Nat.mul_one,List.getElem?_append_left (by have:=(List.getElem?_eq_some_iff.1 Q).1;simpa using this),List.getElem?_map,Q];rfl
   have hne:¬ (ps.length:Int)=0:=by omega
   refine go ?_;refine aL (α:=Nat×Nat) (fun z=>[(0,ax B),(1,ax bst),(2,ax bh),(3,ax s),(7,.int .i64 (z.2:Int)),(25,.int .i64 (ps.length:Int)),(26,.int .i64 (z.1:Int))])
    (fun z w=>(z.1<=ps.length/\z.2=iU (H.map (·.1)) z.1)/\Sat W0 (blk b 347 (ps.map ax++r)::blk bh 346 [.slice (some ⟨b,0,none⟩) ps.length c]::star (List.zipWith (fq d m) ps H)::blk B 4 [.bool true]::blk bst 107 [.func (.func 212) #[] #[ax n,ax bh]]::blk s 256 (aD gQ)::aZ m M::ah d D::F) w) (fun z=>ps.length-z.1) (0,0) ⟨rfl,rfl,rfl,rfl,rfl,rfl,rfl,trivial⟩ ⟨⟨Nat.zero_le _,rfl⟩,f.to⟩ ?_
   clear f;rintro⟨i,best⟩ w ⟨⟨Q,hbest⟩,f⟩;dsimp only at Q hbest f |-;by_cases hlt:i<ps.length
   ·have hblt:best<ps.length:=by have:=OP (H.map (·.1)) i;omega
    have gi:ps[i]?=some ps[i]:=List.getElem?_eq_getElem hlt;have G:ps[best]?=some ps[best]:=List.getElem?_eq_getElem hblt;have J:H[i]?=some (H[i]'(by omega)):=List.getElem?_eq_getElem (by omega);have A:H[best]?=some (H[best]'(by omega)):=List.getElem?_eq_getElem (by omega);have zi:=fV (fq d m) gi J;have Z:=fV (fq d m) G A;have ci:=hcellAt i _ gi;have R:=hcellAt best _ G;have hsucc:=zy (H.map (·.1)) i;rw[<- hbest,show(H.map (·.1)).getD i default=(H[i]'(by omega)).1 from by simp[List.getD,J],show(H.map (·.1)).getD best default=(H[best]'(by omega)).1 from by simp[List.getD,A]] at hsucc;generalize H[i]'(by omega)=xi at *;generalize H[best]'(by omega)=X at *;generalize ps[i]=pi at *;generalize ps[best]=P at *;refine go ?_;refine bU [blk b 347 (ps.map ax++r),blk bh 346 [.slice (some ⟨b,0,none⟩) ps.length c],star (List.zipWith (fq d m) ps H)] [(0,false),(1,false),(2,false),(3,false),(4,false),(5,false),(6,false),(7,false),(8,false),(9,false),(10,false),(11,false),(12,false),(13,false),(14,true)] f (by kernel_rfl) fun w f=>?_;refine go ?_;refine sY (j:=i) rfl rfl rfl rfl rfl rfl hlt rfl ?_;refine tR rfl rfl rfl .here ci rfl ?_;refine go ?_;refine KP (v:=.agg (aD xi.1).toArray) rfl (fun a w' K hS=>by
     have L:a.eval (.tmp 34)=.pointer (some ⟨pi,0+0,none⟩):=K.ev rfl;have N:=vV hS (.there (.there .here)) zi;simp only[execOp,L,Instr.loadAt,Instr.sureAddr];exact aR.bind (aR.bind (aR.pure _) N) (aR.pure _)) rfl ?_
    refine go ?_;refine sY (j:=best) rfl rfl rfl rfl rfl rfl hblt rfl ?_;refine tR rfl rfl rfl .here R rfl ?_;refine go ?_;refine KP (v:=.agg (aD X.1).toArray) rfl (fun a w' K hS=>by
     have L:a.eval (.tmp 41)=.pointer (some ⟨P,0+0,none⟩):=K.ev rfl;have N:=vV hS (.there (.there .here)) Z;simp only[execOp,L,Instr.loadAt,Instr.sureAddr];exact aR.bind (aR.bind (aR.pure _) N) (aR.pure _)) rfl ?_
    refine go ?_;refine ak (met (BR (a:=xi.1) (b:=X.1) f) ?_);rintro _ w ⟨rfl,f⟩;refine⟨_,rfl,?_⟩;cases hl:less xi.1 X.1 with
    | true=>
     rw[hl,if_pos rfl] at hsucc;refine go ?_;exact az (i+1,i) ⟨rfl,rfl,rfl,rfl,rfl,rfl,rfl,trivial⟩ ⟨⟨hlt,hsucc.symm⟩,f⟩ (by dsimp only;omega)
    | false=>
     rw[hl,if_neg (by simp)] at hsucc;refine go ?_;exact az (i+1,best) ⟨rfl,rfl,rfl,rfl,rfl,rfl,rfl,trivial⟩ ⟨⟨hlt,hsucc.symm⟩,f⟩ (by dsimp only;omega)
   ·have hie:i=H.length:=by omega
    subst hie;rw[<- hbest] at h hbl;have hblt:best<ps.length:=by omega
    have G:ps[best]?=some ps[best]:=List.getElem?_eq_getElem hblt;have A:H[best]?=some H[best]:=List.getElem?_eq_getElem hbl;have Z:=fV (fq d m) G A;have R:=hcellAt best _ G;rw[A] at h;have hset:∀ y,List.zipWith (fq d m) ps (H.set best y)=(List.zipWith (fq d m) ps H).take best++fq d m ps[best] y::(List.zipWith (fq d m) ps H).drop (best+1):=fun y=>wN _ G hbl;generalize H[best]=X at *;generalize ps[best]=P at *;dsimp only at h;cases hn:pW M D X.2 with
    | none=>rw[hn] at h;cases h
    | some y=>
     obtain⟨y,C⟩:=y;rw[hn] at h;refine go ?_;refine de (i:=best) rfl rfl rfl rfl rfl hblt rfl ?_;refine fF f rfl rfl .here R rfl ?_;refine go ?_;refine fY (v:=.agg (aD X.1).toArray) (fun w1 aa a K=>by
      have L:a.eval (.tmp 51)=.pointer (some ⟨P,0+0,none⟩):=K.ev rfl;have N:=vV (f.ry aa) (.there (.there .here)) Z;simp only[execOp,L,Instr.loadAt,Instr.sureAddr];exact aR.bind (aR.bind (aR.pure _) N) (aR.pure _)) rfl ?_
     refine aS f fun w b9 f=>?_;refine fG (vs:=aD X.1) f fun w f=>?_;refine go ?_;refine de (i:=best) rfl rfl rfl rfl rfl hblt rfl ?_;refine fF f rfl rfl (.there .here) R rfl ?_;have f:=f.take IQ;rw[eT Z] at f;obtain⟨S,f⟩:=f.ie.FZ;have f:=f.to (a:=blk P 349 (aD X.1++[S])::ov d m S X.2::aZ m M::ah d D::star ((List.zipWith (fq d m) ps H).take best++(List.zipWith (fq d m) ps H).drop (best+1))::blk b9 256 (aD X.1)::blk b 347 (ps.map ax++r)::blk bh 346 [.slice (some ⟨b,0,none⟩) ps.length c]::blk B 4 [.bool true]::blk bst 107 [.func (.func 212) #[] #[ax n,ax bh]]::blk s 256 (aD gQ)::F);refine go ?_;refine ak (met (BX hn f hmx) ?_);rintro _ w ⟨ve,rfl,f⟩;refine⟨_,rfl,?_⟩;cases y with
     | error e=>
      simp only[Option.some.injEq,Prod.mk.injEq] at h;obtain⟨rfl,rfl⟩:=h;obtain⟨t,u,rfl⟩:=(f.take iB).bp;refine go ?_;refine cx (aD gQ) ?_;refine go ?_;refine fG (vs:=aD gQ) f fun w f=>?_;refine go ?_;exact iW ⟨_,_,s,0,rfl,rfl,kM (aD gQ) f (.there (.there (.there (.there (.there (.there (.there (.there (.there (.there (.there .here))))))))))) rfl rfl (iZ.all _),_,_,rfl,rfl,_,_,rfl,rfl,rfl⟩ ⟨_,rfl,Sat.emp f.to⟩
     | ok q=>
      obtain⟨o,I⟩:=q;have hve:=(f.take iB).ee;subst hve;cases o with
      | some e=>
       dsimp only at h;simp only[Option.some.injEq,Prod.mk.injEq] at h;obtain⟨rfl,rfl⟩:=h;refine go ?_;refine fG (vs:=aD X.1) f fun w f=>?_;refine go ?_;refine iW ⟨_,_,s,0,rfl,rfl,kM (aD X.1) f (.there (.there (.there (.there (.there (.there (.there (.there (.there (.there (.there .here))))))))))) rfl rfl (iZ.all _),_,_,rfl,rfl,_,_,rfl,rfl,rfl⟩ ⟨_,rfl,?_⟩;have f:=Sat.BW (x:=(e,I)) (f.to (a:=blk P 349 (aD e++[S])::ov d m S I::star ((List.zipWith (fq d m) ps H).take best++(List.zipWith (fq d m) ps H).drop (best+1))::blk b 347 (ps.map ax++r)::blk bh 346 [.slice (some ⟨b,0,none⟩) ps.length c]::blk B 4 [.bool true]::blk bst 107 [.func (.func 212) #[] #[ax n,ax bh]]::aW .nilIface none::aZ m M::ah d C::F));have f:=f.jG;rw[<- hset (e,I)] at f;have f:=Sat.gE (k:=1) (len:=ps.length) (cs:=ps.map ax) (f.to (a:=blk b 347 (ps.map ax++r)::blk bh 346 [.slice (some ⟨b,0,none⟩) ps.length c]::star (List.zipWith (fq d m) ps (H.set best (e,I)))::blk B 4 [.bool true]::blk bst 107 [.func (.func 212) #[] #[ax n,ax bh]]::aW .nilIface none::aZ m M::ah d C::F)) q1 q2 q3 (by simp) (fun u E=>by obtain⟨x,_,rfl⟩:=List.mem_map.1 E;rfl);have f:=Sat.uw (hl:=H.set best (e,I)) (bh:=bh) (ps:=ps) (by simp[hps]) (f.to (a:=blk bh 346 [.slice (some ⟨b,0,none⟩) ps.length c]::aE 1 (.slice (some ⟨b,0,none⟩) ps.length c) 347 ps.length (ps.map ax)::star (List.zipWith (fq d m) ps (H.set best (e,I)))::blk B 4 [.bool true]::blk bst 107 [.func (.func 212) #[] #[ax n,ax bh]]::aW .nilIface none::aZ m M::ah d C::F));exact Sat.xD (z:=⟨B,bst,bh,n,rv⟩) (g:=⟨true,rows,H.set best (e,I)⟩) (fun h=>by cases h) (F:=aW .nilIface none::aZ m M::ah d C::F) ((Sat.emp f).to)
      | none=>
       dsimp only at h;simp only[Option.some.injEq,Prod.mk.injEq] at h;obtain⟨rfl,rfl⟩:=h;refine go ?_;refine bU (l:=blk b 347 (ps.map ax++r)::blk bh 346 [.slice (some ⟨b,0,none⟩) ps.length c]::star ((List.zipWith (fq d m) ps H).take best++(List.zipWith (fq d m) ps H).drop (best+1))::blk b9 256 (aD X.1)::blk B 4 [.bool true]::blk bst 107 [.func (.func 212) #[] #[ax n,ax bh]]::aW .nilIface none::aZ m M::ah d C::blk s 256 (aD gQ)::F) [blk bh 346 [.slice (some ⟨b,0,none⟩) ps.length c]] [(0,false),(1,false),(2,false),(3,false),(4,false),(5,false),(6,false),(7,true),(8,true)] f.to (by kernel_rfl) fun w f=>?_;refine go ?_;refine De 0 best rfl rfl rfl rfl rfl rfl (Nat.zero_le _) (by omega) rfl ?_;refine go ?_;refine De (best+1) ps.length rfl rfl rfl rfl (by show some (Value.int .i64 ((best:Int)+1))=_;rfl) rfl (by omega) q1 rfl ?_;have e0:cutAt b 0 c 0 1=⟨b,0,none⟩:=by unfold cutAt;split<;>simp
       rw[e0,Nat.sub_zero,Nat.sub_zero];have hcs:(ps.map ax++r).length=c*1:=by rw[List.length_append,List.length_map,q3];omega
       have hone:∀ u∈ps.map ax,dk u=true:=fun u E=>by obtain⟨x,_,rfl⟩:=List.mem_map.1 E;rfl
       obtain⟨o,ho,hseg⟩:∃ o,cutAt b 0 c (best+1) 1=⟨b,o,none⟩/\iZ (ps.map ax++r) o ((ps.map ax).drop (best+1)):=by
        by_cases O:c=best+1
        ·refine⟨0,by unfold cutAt;rw[if_pos O],?_⟩;rw[List.drop_of_length_le (by simp;omega)];trivial
        ·refine⟨0+(best+1)*1,by unfold cutAt;rw[if_neg O],?_⟩;have e1:ps.map ax++r=(ps.map ax).take (best+1)++((ps.map ax).drop (best+1)++r):=by rw[<- List.append_assoc,List.take_append_drop]
         have e2:0+(best+1)*1=((ps.map ax).take (best+1)).length+0:=by rw[List.length_take,List.length_map];omega
         rw[e1,e2];exact iZ.pre _ (iZ.all _).app
       rw[ho];refine go ?_;refine Oq (news:=(ps.map ax).drop (best+1)) f rfl rfl rfl rfl rfl hcs hseg (by rw[List.length_drop,List.length_map];omega) (fun u E=>hone u (List.mem_of_mem_drop E)) (by omega) rfl fun w f=>?_;refine go ?_;refine bJ f fun w f=>?_;refine go ?_;refine fG (vs:=aD X.1) f fun w f=>?_;refine go ?_;refine iW ⟨_,_,s,0,rfl,rfl,kM (aD X.1) f (.there (.there (.there (.there (.there (.there (.there (.there (.there .here))))))))) rfl rfl (iZ.all _),_,_,rfl,rfl,_,_,rfl,rfl,rfl⟩ ⟨_,rfl,?_⟩;obtain⟨rs2,hrs2,hsp⟩:∃ rs2:List Value,rs2.length=(c-(best+(ps.length-(best+1))))*1/\dL (ps.map ax++r) (best*1) ((ps.map ax).drop (best+1))=(ps.eraseIdx best).map ax++rs2:=by
        refine⟨(ps.map ax++r).drop (best*1+((ps.map ax).drop (best+1)).length),?_,?_⟩
        ·rw[List.length_drop,hcs,List.length_drop,List.length_map];omega
        ·unfold dL;rw[wO,List.map_append,List.map_take,List.map_drop,List.take_append_of_le_length (by simp;omega),Nat.mul_one]
       rw[hsp] at f;have hlen:(ps.eraseIdx best).length=best+(ps.length-(best+1)):=by rw[List.length_eraseIdx];simp[hblt];omega
       have f:=Sat.gE (k:=1) (len:=best+(ps.length-(best+1))) (cs:=(ps.eraseIdx best).map ax) f (by omega) q2 hrs2 (by rw[List.length_map,hlen,Nat.mul_one]) (fun u E=>by obtain⟨x,_,rfl⟩:=List.mem_map.1 E;rfl);rw[<- su (fq d m) hps] at f;rw[<- hlen] at f;have f:=Sat.uw (hl:=H.eraseIdx best) (bh:=bh) (ps:=ps.eraseIdx best) (by rw[List.length_eraseIdx,List.length_eraseIdx,hps]) (f.to (a:=blk bh 346 [.slice (some ⟨b,0,none⟩) (ps.eraseIdx best).length c]::aE 1 (.slice (some ⟨b,0,none⟩) (ps.eraseIdx best).length c) 347 (ps.eraseIdx best).length ((ps.eraseIdx best).map ax)::star (List.zipWith (fq d m) (ps.eraseIdx best) (H.eraseIdx best))::blk B 4 [.bool true]::blk bst 107 [.func (.func 212) #[] #[ax n,ax bh]]::aW .nilIface none::aZ m M::ah d C::F));exact Sat.xD (z:=⟨B,bst,bh,n,rv⟩) (g:=⟨true,rows,H.eraseIdx best⟩) (fun h=>by cases h) (F:=aW .nilIface none::aZ m M::ah d C::F) ((Sat.emp f).to)
variable{W0 w:Xo}{F:Xn ae}{v:Xp}{d m p:Nat}{T:dB}{D D':ad}{M:Xn ay}{nx:Nx}
def Ju(d m:Nat)(v:Xp):Nx->ae
 | .one it=>ov d m v it
 | .mg g=>TK d m v g
def F2{x:YH eX (XB ay×Nx)}(h:wj M D nx=some (x,D'))(H:Sat W0 (Ju d m v nx::aZ m M::ah d D::F) w)(a:M.length<=1099511627776) :
 ∃f q,v=.func (.func f) #[] q/\lk vC f=some ()/\Calls prog f (#[].toList++[]++q.toList).toArray w (OM W0 (Ju d m v) m d M x D' F):=by
 cases nx with
 | one it=>
  unfold wj at h;simp only[Yw,XI]at h;obtain⟨⟨y,j⟩,b,rfl,rfl⟩:=h;obtain⟨f,q,rfl,k,l⟩:=wM b H a;refine⟨f,q,rfl,k,l.mono ?_⟩;rintro _ W ⟨V,rfl,H⟩;refine⟨V,?_,?_⟩
  .cases y with
   | error e=>rfl
   | ok z=>obtain⟨o,I⟩:=z;cases o<;>rfl
  .cases y with
   | error e=>exact H
   | ok z=>obtain⟨o,I⟩:=z;exact H
 | mg g=>
  unfold wj at h;simp only[Yw,XI]at h;obtain⟨⟨y,j⟩,b,rfl,rfl⟩:=h;obtain⟨n,z,rfl,c⟩:=Sat.OO H;refine⟨214,_,rfl,rfl,(F0 b n a c).mono ?_⟩;rintro _ W ⟨V,rfl,H⟩;refine⟨V,?_,?_⟩
  .cases y with
   | error e=>rfl
   | ok z=>obtain⟨o,I⟩:=z;cases o<;>rfl
  .cases y with
   | error e=>exact H
   | ok z=>obtain⟨o,I⟩:=z;exact H
variable {eb:Nat}
def BZ {f:Nat} {q:Xv Xp} (h:Sat W0 F w):
 Calls prog 183 #[.func (.func f) #[] q,ax eb] w λy w'=>∃b B,y=.returned (.func (.func 211) #[] #[ax b,ax B])/\Sat W0 (blk b 288 [.func (.func f) #[] q]::blk B 312 [ax eb]::F) w':=by
 refine enter func183 rfl ntmps183 results183 rfl ?_;refine go ?_;refine eB h λw b h=>?_;refine eB h λw B h=>?_;refine go ?_;exact an rfl ⟨_,_,rfl,h.to⟩
theorem Sat.Dp{X Y:Xn ae}(h:Sat W0 (X++(Y++F)) w):Sat W0 (Y++(X++F)) w:=h.imp λH k=>cD (bH (λ_=>cD) (ft (bH (λ_=>cu) (cu k))))
def Jv {Q:YL->Act->Xo->Prop} {n:Nat} {V:Md} {e:Env} {g:XZ} {P:Tmp} {asg bd:Code} {σ:Type} {body:σ->ay->XB (σ×XN)} {C:σ->Xn ae} {ff id:Nat} {Z s1:σ} {oe:XB eX} {bn be:Nat} (hr:V.round=none) (aa:Nat.blt P n=true) (hg:ev e g=some (.func (.func 211) #[] #[ax bn,ax be])) (h:sd M body ff nx D Z=some (s1,oe,D')) (ab:M.length<=1099511627776) (H:Sat W0 (blk bn 288 [v]::blk be 312 [ax eb]::blk eb 41 [.nilIface]::Ju d m v nx::aZ m M::ah d D::(C Z++F)) w) (kb:∀s E S c L rc G w,body s E=some (S,c)->rc.state=.ready->Sat W0 (ob false L (.loop rc)::(C s++G)) w ->
   WC asg (Oj L bd λy w'=>(c=true/\y=.returned (.bool true)/\Sat W0 (ob false L (.loop { rc with state:=.ready,pending:=none })::(C S++G)) w') \/
    (c=false/\y=.returned (.bool false)/\Sat W0 (ob false L (.loop { rc with state:=.done,pending:=some (.exit id) })::(C S++G)) w')) n ⟨some L,[]⟩ ((P,.agg (aD E).toArray)::e) w) (ke:∀x j ve w,x=.normal\/x=.exit id->Sat W0 (ob false j (.deferred (some []))::blk eb 41 [ve]::aW ve oe::aZ m M::ah d D'::(C s1++F)) w->WQ Q x n ⟨none,q8 j::V.ds⟩ e w):
 WC (.rangeFunc g #[P] asg bd) Q n V e w:=by
 refine Om (uu:=()) hr H hg rfl λfn tm L j w1 J K H=>?_;refine enter (args:=[.func (.yield L) #[] #[],ax bn,ax be]) func211 rfl ntmps211 results211 rfl ?_;generalize b:({ state:=.ready,pending:=none,fn:=fn,tmps:=tm,params:=#[P],assign:=asg,body:=bd,defers:=j }:Loop)=rc at *;refine go ?_;refine aL (α:=σ×Nx×ad×Nat) (λz=>[(0,.func (.yield L) #[] #[]),(1,ax bn),(2,ax be)])
  (λz w=>sd M body z.2.2.2 z.2.1 z.2.2.1 z.1=some (s1,oe,D')/\Sat W0 (ob false L (.loop rc)::ob false j (.deferred (some []))::blk bn 288 [v]::blk be 312 [ax eb]::blk eb 41 [.nilIface]::Ju d m v z.2.1::aZ m M::ah d z.2.2.1::(C z.1++F)) w) (λz=>z.2.2.2) (Z,nx,D,ff) ⟨rfl,rfl,rfl,Xr⟩ ⟨h,H⟩ ?_
 clear H h;rintro⟨s,nx,D,f⟩ w ⟨h,H⟩;dsimp only at h H |-;cases f with
 | zero=>cases h
 | succ f=>
  unfold sd at h;cases hn:wj M D nx with
  | none=>rw[hn]at h;cases h
  | some y=>
   obtain⟨y,A⟩:=y;rw[hn]at h;have H:=H.to (a:=Ju d m v nx::aZ m M::ah d D::ob false L (.loop rc)::ob false j (.deferred (some []))::blk bn 288 [v]::blk be 312 [ax eb]::blk eb 41 [.nilIface]::(C s++F));obtain⟨R,U,rfl,ac,l⟩:=F2 hn H ab;refine go ?_;refine kL rfl ac rfl rfl (l.mono ?_);rintro _ w ⟨ve,rfl,H⟩;refine⟨_,rfl,go ?_⟩;refine aS H λw b4 H=>?_;refine fG (vs:=aD (BV y)) H λw H=>?_;cases y with
   | error er=>
    simp only[Xs,XI]at h;obtain⟨rfl,rfl,rfl⟩:=h;obtain⟨t,u,rfl⟩:=(H.take iB).bp;refine go ?_;refine bJ H λw H=>?_;refine go ?_;refine an rfl ⟨_,rfl,rc,_,H.to (a:=ob false L (.loop rc)::ob false j (.deferred (some []))::blk eb 41 [.iface t u]::aW (.iface t u) (some er)::aZ m M::ah d A::(C s++F)),by rw[<- b];rfl,.inl ⟨by rw[<- b],λW O=>ke .normal j _ W (.inl rfl) O.drop⟩⟩
   | ok z=>
    obtain⟨o,N⟩:=z;have af:=(H.take iB).ee;subst af;cases o with
    | none=>
     simp only[Xs,XI]at h;obtain⟨rfl,rfl,rfl⟩:=h;refine go ?_;refine an rfl ⟨_,rfl,rc,_,H.to (a:=ob false L (.loop rc)::ob false j (.deferred (some []))::blk eb 41 [.nilIface]::aW .nilIface none::aZ m M::ah d A::(C s++F)),by rw[<- b];rfl,.inl ⟨by rw[<- b],λW O=>ke .normal j _ W (.inl rfl) O.drop⟩⟩
    | some E=>
     dsimp only at h;cases q:body s E with
     | none=>rw[q]at h;cases h
     | some y=>
      obtain⟨S,c⟩:=y;rw[q]at h;refine uk ?_;refine bT rfl ?_;refine dW ?_;refine dW ?_;refine uk ?_;refine bT rfl ?_;refine uk ?_;refine bT rfl ?_;refine dW ?_;refine Hz rfl ?_;refine Wz ?_;refine Tx rfl ?_;have H:=Sat.Dp (X:=[blk b4 256 (aD E),Ju d m (.func (.func R) #[] U) N,aW .nilIface none,aZ m M,ah d A,ob false j (.deferred (some [])),blk bn 288 [.func (.func R) #[] U],blk be 312 [ax eb],blk eb 41 [.nilIface]]) (Y:=ob false L (.loop rc)::C s) (F:=F) (H.to (a:=blk b4 256 (aD E)::Ju d m (.func (.func R) #[] U) N::aW .nilIface none::aZ m M::ah d A::ob false j (.deferred (some []))::blk bn 288 [.func (.func R) #[] U]::blk be 312 [ax eb]::blk eb 41 [.nilIface]::ob false L (.loop rc)::(C s++F)));have ag:rc.state=.ready:=by rw[<- b]
      have B:=kb s E S c L rc _ w q ag H;refine Lh H rfl rfl (by rw[<- b];rfl) rfl ?_;have k:=Ol (n:=n) (e:=(P,.agg (aD E).toArray)::e) (tm:=tm.setIfInBounds P (.agg (aD E).toArray)) (fn:=fn) (by simp[J]) (λt v I=>by
       have ai:P<n:=by simpa[YK]using aa
       unfold lk at I;cases B:Nat.beq P t with
       | true=>
        rw[B]at I;simp only[abK,Xs]at I;subst I;have:=YX B;subst this;simp[J,ai]
       | false=>
        rw[B]at I;have al:P≠t:=ZS B;rw[XJ al];exact K t v I) B
      have r:(rc.params.zip ([Value.agg (aD E).toArray]:Xn Xp).toArray).foldl (λtmps (t,a)=>tmps.setIfInBounds t a) rc.tmps=tm.setIfInBounds P (.agg (aD E).toArray):=by rw[<- b];simp
      have e1:rc.fn=fn:=by rw[<- b]
      have e2:rc.assign=asg:=by rw[<- b]
      have e3:rc.body=bd:=by rw[<- b]
      have e4:({ rc with state:=.ready,pending:=none }:Loop)=rc:=by rw[<- b]
      show iO L rc.fn ((rc.params.zip ([Value.agg (aD E).toArray]:Xn Xp).toArray).foldl (λtmps (t,a)=>tmps.setIfInBounds t a) rc.tmps) rc.assign rc.body w _;rw[r,e1,e2,e3];refine iO.mono k ?_;rintro y w' (⟨rfl,rfl,H⟩|⟨rfl,rfl,H⟩)
      .refine⟨_,rfl,?_⟩;rw[e4]at H;have H:=Sat.Dp (X:=ob false L (.loop rc)::C S) (F:=F) H;refine Wz ?_;refine go ?_;exact az (S,N,A,f) ⟨rfl,rfl,rfl,Xr⟩ ⟨h,H.to⟩ (by show f<f+1;omega)
      .refine⟨_,rfl,?_⟩;simp only[Xs,XI]at h;obtain⟨rfl,rfl,rfl⟩:=h;have H:=Sat.Dp (X:=ob false L (.loop { rc with state:=.done,pending:=some (.exit id) })::C S) (F:=F) H;refine Wz ?_;refine go ?_;refine an rfl ⟨_,rfl,{ rc with state:=.done,pending:=some (.exit id) },_,H.to (a:=ob false L (.loop { rc with state:=.done,pending:=some (.exit id) })::ob false j (.deferred (some []))::blk eb 41 [.nilIface]::aW .nilIface none::aZ m M::ah d A::(C S++F)),rfl,.inr ⟨id,rfl,λW O=>ke (.exit id) j _ W (.inr rfl) O.drop⟩⟩
open Pure (ad ay Rd bF less aO aU bA aX aA dz dec my Kp Mm im nB dS iT keeps)
section
variable{ops:Xv Yf}{Q:YL->Act->Xo->Prop}{n:Nat}{ds:Md}{e:Env}{w w':Xo}{rest:Xn Yf}
variable{op:Op}{ty:XO}{pos:YG}{af:Xv Edge}{d:Nat}{v u:Xp}{W0:Xo}{l l' r r':Xn ae}
theorem zB{x y:XZ}{t c:XO}{a b:Bs}(A:ev e x=some (str a))(B:ev e y=some (str b))(hl:a.length+b.length<=4611686018427387904)(C:Nat.blt d n=true)
 (kk:WL ops Q n ds rest ((d,str (a++b))::e) w):WL ops Q n ds (⟨some d,.binOp .add t x y c,ty,pos,af,none⟩::rest) e w:=by
 refine ey (λw E q es=>?_) C kk;have G:=q.ev A;have I:=q.ev B;have H:¬((((⟨a.toArray⟩:ByteArray).size+(⟨b.toArray⟩:ByteArray).size:Nat):Int) > IntKind.i64.max):=by
  show¬ (((a.toArray.size+b.toArray.size:Nat):Int) > 9223372036854775807);simp;omega
 have h:(⟨a.toArray⟩:ByteArray)++⟨b.toArray⟩=⟨(a++b).toArray⟩:=by
  apply ByteArray.ext;simp
 have s:∀es,(eqGuard .add t x y (str a) (str b)).runT prog w es=(.ok () w,es):=λes=>by simp only[eqGuard];split<;>simp[Yo]
 have z:∀es,(Go.binOp .add t (str a) (str b)).runT prog w es=(.ok (str (a++b)) w,es):=λes=>by
  simp only[Go.binOp,Op.stringOp];rw[Xx H,h];rfl
 have f:(eqGuard .add t x y (str a) (str b)).run prog w=.ok () w:=by have:=s #[];rw[Yo]at this;exact(Zz this).1
 have j:∀es,(eqGuard .add t x y (str a) (str b)).events prog w es=es:=λes=>by have:=s es;rw[Yo]at this;exact(Zz this).2
 have k:(Go.binOp .add t (str a) (str b)).run prog w=.ok (str (a++b)) w:=by have:=z #[];rw[Yo]at this;exact(Zz this).1
 have o:∀es,(Go.binOp .add t (str a) (str b)).events prog w es=es:=λes=>by have:=z es;rw[Yo]at this;exact(Zz this).2
 simp[Yo,execOp,G,I,f,j,k,o]
end
variable{W0 w:Xo}{F:Xn ae}{v:Xp}{d m p:Nat}{T:dB}{D D':ad}{M:Xn ay}
def eW(d:Nat)(v:Xp)(t:Xn dB):ae:=λh=>∃P:Xn Nat,P.length=t.length/\cj [aE 1 v 193 P.length (P.map ax),star (List.zipWith (du d) P t)] h
variable {Ts:Xn dB}
theorem Sat.lD (h:Sat W0 (eW d v Ts::F) w):∃P:Xn Nat,P.length=Ts.length/\Sat W0 (aE 1 v 193 P.length (P.map ax)::star (List.zipWith (du d) P Ts)::F) w:=
 h.gD λ_ ⟨P,H,k⟩=>⟨P,H,k⟩
theorem Sat.lJ {ps:Xn Nat} (h1:ps.length=Ts.length) (h:Sat W0 (aE 1 v 193 ps.length (ps.map ax)::star (List.zipWith (du d) ps Ts)::F) w):Sat W0 (eW d v Ts::F) w:=
 Sat.close (B:=[aE 1 v 193 ps.length (ps.map ax),star (List.zipWith (du d) ps Ts)]) h λ_ k=>⟨ps,h1,k⟩
def Sat.B0(h:Sat W0 F w):Sat W0 (eW d (.slice none 0 0) []::F) w:=by
 refine Sat.lJ (ps:=[]) rfl (Sat.ep (h.imp λa k=>?_));exact⟨λ_=>none,a,λ_ _ _ H=>(by cases H),λ_ _ H=>(by cases H),Hp.le_refl _,Xr,k⟩
structure SZ where
 m:Nat
 l0:Xp
 l1:Xp
 l2:Xp
 l3:Xp
 sn:Nat
structure SK where
 d:Nat
 o:pX
 cl:XN
 br:Xp
 mu:Xp
def aN(l:Xn (Int×Nat)):Xn (Int×Xp):=l.map λp=>(p.1,uV p.2)
def WE:Xp->Xp
 | .int _ _=>.int .u32 0
 | _=>hole
abbrev aj(K:SK)(z:SZ)(s:St):Xn Xp:=
 [K.mu,WE K.mu,ax K.d,.int .i64 (K.o.memory:Int),.int .i64 (K.o.tables:Int),.bool K.cl,K.br,z.l0,z.l1,z.l2,z.l3,ax z.m,str s.log,uV s.seq,uV s.number,.map (some z.sn),.int .i64 (s.snap:Int)]
abbrev Xm(b:Nat)(K:SK)(z:SZ)(s:St):Xn ae:=
 [blk b 133 (aj K z s),eW K.d z.l0 (s.levels.getD 0 []),eW K.d z.l1 (s.levels.getD 1 []),eW K.d z.l2 (s.levels.getD 2 []),eW K.d z.l3 (s.levels.getD 3 []),aZ z.m s.mem,bg cB z.sn (aN s.snaps)]
def W6(b:Nat)(K:SK)(s:St):ae:=λh=>s.levels.length=4/\∃z,cj (Xm b K z s) h
theorem F3:∀(f n:Nat),Pure.lX f n<=f+1
 | 0,_=>XD _
 | f+1,n=>by
  unfold Pure.lX;have:=F3 f (n / 10);split<;>omega
theorem OQ(v:Xp)(o:XB eX):Qc (aW v o):=λh k=>by
 match o,k with
 | none,k=>exact k
 | some (none,_),k=>exact k
 | some (some _,_),⟨b,H,a⟩=>exact⟨b,H,by simp[Hp.sh,a]⟩
variable {b:Nat} {K:SK} {z:SZ} {s:St}
def ta {kind:Bs} (h:Sat W0 (blk b 133 (aj K z s)::F) w) (c:kind.length<=1000) (e:s.number<=4611686018427387904) (H:ou W0):
 Calls prog 171 #[ax b,str kind] w λx w'=>x=.returned (str (kind++dec (s.number+1)))/\Sat W0 (blk b 133 (aj K z { s with number:=s.number+1 })::F) w':=by
 refine enter func171 rfl ntmps171 results171 rfl ?_;refine go ?_;refine bJ h λw h=>?_;have h:Sat W0 (blk b 133 (aj K z { s with number:=s.number+1 })::F) w:=h;refine go ?_;refine ak (met (Lp (n:=s.number+1) (by omega) H h) ?_);rintro _ w ⟨rfl,h⟩;refine⟨_,rfl,?_⟩;have a:(dec (s.number+1)).length<=1000:=by
  unfold Pure.dec;rw[Pure.Is];have:=F3 20 (s.number+1);omega
 refine zB rfl rfl (by omega) rfl ?_;refine go ?_;exact an rfl ⟨rfl,h⟩
def Vv(K:SK)(be:XB eX):XB eX:=if K.cl=true then some (none,6)else be
theorem Sat.TL{k:Nat}(h:Sat W0 F w):Sat W0 (aW (.iface 44 (.int .i64 (k:Int))) (some (none,k))::F) w:=h.imp λa r=>⟨λ_=>none,a,λ_ _ _ H=>(by cases H),λ_ _ H=>(by cases H),Hp.le_refl _,rfl,r⟩
def zC {be:XB eX} (h:Sat W0 (blk b 133 (aj K z s)::aW K.br be::F) w):
 Calls prog 82 #[ax b] w λx w'=>∃V,x=.returned V/\Sat W0 (aW V (Vv K be)::blk b 133 (aj K z s)::aW K.br be::F) w':=by
 refine enter func82 rfl ntmps82 results82 rfl ?_;obtain⟨d,o,c,B,a⟩:=K;dsimp only at h |-;unfold Vv;cases c with
 | true=>
  refine go ?_;exact an rfl ⟨_,rfl,Sat.TL (k:=6) h⟩
 | false=>
  refine go ?_;exact an rfl ⟨_,rfl,(Sat.zl (OQ _ _) (h.take dt)).to⟩
def Dq (h:Sat W0 (blk b 133 (aj K z s)::bg cB z.sn (aN s.snaps)::F) w) (hl:s.snaps.length<=8):
 Calls prog 205 #[ax b] w λx w'=>∃(f:Xp) (us:Xn Nat),x=.returned f/\us.Perm (aJ s)/\Sat W0 (aE 1 f 131 us.length (us.map uV)::blk b 133 (aj K z s)::bg cB z.sn (aN s.snaps)::F) w':=by
 refine enter func205 rfl ntmps205 results205 rfl ?_;refine go ?_;refine eS h λw B h=>?_;refine go ?_;refine y6 cB h (.there (.there .here)) rfl rfl rfl λw it h=>?_;refine go ?_;have a:=Sat.gE (k:=1) (cap:=1) (len:=1) (cs:=[bO].map uV) (rest:=[]) (E:=131) (h.take dt) (XD _) (by simp[maxLen]) rfl rfl (by simp[dk]);refine aL (α:=Xn Nat×Xn (Int×Nat)×XB (Int×Xp)×Xp) (λZ=>[(0,ax b),(3,Z.2.2.2),(11,.pointer (some ⟨it,0,none⟩))])
  (λZ w=>(Z.1++Z.2.1.map (·.2)).Perm (aJ s)/\Sat W0 (aE 1 Z.2.2.2 131 Z.1.length (Z.1.map uV)::l9 cB z.sn it (aN s.snaps) (aN Z.2.1) Z.2.2.1::blk b 133 (aj K z s)::F) w) (λZ=>Z.2.1.length) ([bO],s.snaps,none,.slice (some ⟨B,0,none⟩) 1 1) ⟨rfl,rfl,rfl,Xr⟩ ⟨.refl _,a.to⟩ ?_
 clear h a;rintro⟨us,left,L,f⟩ w ⟨H,h⟩;dsimp only at H h |-;have c:us.length+left.length=s.snaps.length+1:=by
  have:=H.length_eq;simpa[aJ]using this
 refine go ?_;refine C6 cB h (.there .here) rfl rfl (λq=>?_) (λt x A w e h=>?_)
 .have j:left=[]:=by unfold aN at q;simpa using q
  subst j;simp only[List.map_nil,Yj]at H;have h:=(h.take dt).vP;refine go ?_;refine ak (met (HF (h.take dt) (by have:=H.length_eq;simp[aJ]at this;omega) (by have:=H.length_eq;simp[aJ]at this;omega)) ?_);rintro _ w ⟨u,U,rfl,l,h⟩;refine⟨_,rfl,go ?_⟩;exact an rfl ⟨_,U,rfl,l.trans H,h.to⟩
 .unfold aN at e;obtain⟨n,C,rfl,rfl,o⟩:=List.map_eq_append_iff.1 e;obtain⟨y,N,rfl,rfl,rfl⟩:=List.map_eq_cons_iff.1 o;have r:(n.map λp:Int×Nat=>(p.1,uV p.2))++(N.map λp=>(p.1,uV p.2))=aN (n++N):=by simp[aN]
  rw[r]at h;refine go ?_;refine y7 cB h .here rfl rfl ?_;refine go ?_;refine eS h λw G h=>?_;simp only[Xu,X5]at c;refine dZ h λV w h=>?_;refine go ?_;refine az (us++[y.2],n++N,some (y.1,uV y.2),V) ⟨rfl,rfl,rfl,Xr⟩ ⟨?_,?_⟩ (by dsimp only;simp)
  .refine List.Perm.trans ?_ H;dsimp only;simp only[XK,XP,XS,List.cons_append,List.nil_append];refine aau _ ?_;exact(List.perm_middle).symm
  .dsimp only;rw[XK,Xu];exact h.to
