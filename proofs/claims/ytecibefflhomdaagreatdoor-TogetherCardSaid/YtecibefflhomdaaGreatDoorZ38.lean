/-
  Part 38: The engine 26 'gx'; WALKS package levels; WALKS package levels; The engine 26 struct values within drawn regions; WALKS a table's block is written.
-/
import Derived.Test.YtecibefflhomdaaGreatDoorZ37
set_option maxHeartbeats 8000000
set_option maxRecDepth 100000
set_option linter.all false
namespace Go.Proofs.YtecibefflhomdaaGreatDoor
open Go Proofs.Tryz
section
variable[Bs0:Base][NQ]
section
variable{ops:Xv Yf}{Q:YL->Act->Xo->Prop}{n:Nat}{ds:Md}{e:Env}{w:Xo}{rest:Xn Yf}{ord:Xn (Nat×XN)}{S:Xo->Prop}
variable{op:Op}{ty:XO}{pos:YG}{af:Xv Edge}{d i j:Nat}{v:Xp}{b b':XN}
theorem TM{l:Xn Yf}(k:WL ops Q n ds l e w):WL ops Q n ds l e w:=k
theorem TN{c:Code}(k:WC c Q n ds e w):WC c Q n ds e w:=k
theorem TO{x:YL}(k:WQ Q x n ds e w):WQ Q x n ds e w:=k
theorem Vx(k:WO ops Q S n ds ord e w):WO ops Q S n ds ord e w:=k
variable {dst:XB Nat} {t:XO} {x:XZ}
theorem OR {bo:BinOp} {t2:XO} {y:XZ} (k:WL ops Q n ds (⟨dst,.binOp bo t x y t2,ty,pos,af,none⟩::rest) e w):WL ops Q n ds (⟨dst,.binOp bo t x y t2,ty,pos,af,none⟩::rest) e w:=k
theorem OS {s:XO} (k:WL ops Q n ds (⟨dst,.convert s t x,ty,pos,af,none⟩::rest) e w):WL ops Q n ds (⟨dst,.convert s t x,ty,pos,af,none⟩::rest) e w:=k
theorem OU {B:Builtin} {xs:Xv XZ} {T:Xv XO} (k:WL ops Q n ds (⟨dst,.call { callee:=.builtin B,args:=xs,argTypes:=T },ty,pos,af,none⟩::rest) e w):WL ops Q n ds (⟨dst,.call { callee:=.builtin B,args:=xs,argTypes:=T },ty,pos,af,none⟩::rest) e w:=k
theorem TP {g:Nat×XN} (k:WL ops Q n ds (⟨dst,op,ty,pos,af,some g⟩::rest) e w):WL ops Q n ds (⟨dst,op,ty,pos,af,some g⟩::rest) e w:=k
theorem TQ (k:WL ops Q n ds (⟨dst,.load t x,ty,pos,af,none⟩::rest) e w):WL ops Q n ds (⟨dst,.load t x,ty,pos,af,none⟩::rest) e w:=k
def V0(ops:Xv Yf)(e:Env)(j:Nat):XN:=match ops[j]? with
 | some ⟨some t,_,_,_,_,_⟩=>match lk e t with
  | some (.bool _)=>false
  | some _=>true
  | none=>false
 | _=>false
theorem wP{a:Act}(c:Fr n ds e a)(h:V0 ops e j=true):yielded ops a.tmps j=none:=by
 unfold V0 at h;split at h
 .rename_i t _ _ _ _ _ f;split at h
  .cases h
  .rename_i v H g;have:=c.get t _ g;cases v with
   | bool b=>exact(H b rfl).elim
   | _=>simp[yielded,f,this]
  .cases h
 .cases h
def OV(h:V0 ops e j=true)(c:Nat.blt d n=true)(k:WL ops Q n ds rest ((d,undef)::e) w):WL ops Q n ds (⟨some d,op,ty,pos,af,some (j,b')⟩::rest) e w:=by
 unfold WL at *;intro a H;simp only[rX,Region.wanted,wP H h];exact k _ (H.put c)
def Sq(f:ops[i]?=some ⟨some d,op,ty,pos,af,some (j,b')⟩)(h:V0 ops e j=true)(g:Nat.blt d n=true)(k:WO ops Q S n ds ord ((d,undef)::e) w):WO ops Q S n ds ((i,false)::ord) e w:=by
 unfold WO at *;intro a H c;exact⟨_,undef,f,.inr ⟨by simp[Region.wanted,wP H h],rfl⟩,c,k _ (H.put g) c⟩
theorem OW{x:Int}(h:ops[i]?=some ⟨some d,op,ty,pos,af,none⟩)(hv:yv e op=some (.int .u64 (IntKind.u64.wrap x)))(h1:0<=x)(H:x<=18446744073709551615)(a:Nat.blt d n=true)
 (k:WO ops Q S n ds ord ((d,.int .u64 x)::e) w):WO ops Q S n ds ((i,false)::ord) e w:=qh h (by rw[hv,ZM _ ⟨h1,H⟩]) a k
theorem Sr(h:ops[i]?=some ⟨some d,op,ty,pos,af,none⟩)(hv:yv e op=some (.bool b))(H:b=true)(a:Nat.blt d n=true)(k:WO ops Q S n ds ord ((d,.bool true)::e) w):WO ops Q S n ds ((i,false)::ord) e w:=qh h (by rw[hv,H]) a k
theorem Ss(h:ops[i]?=some ⟨some d,op,ty,pos,af,none⟩)(hv:yv e op=some (.bool b))(H:b=false)(a:Nat.blt d n=true)(k:WO ops Q S n ds ord ((d,.bool false)::e) w):WO ops Q S n ds ((i,false)::ord) e w:=qh h (by rw[hv,H]) a k
end
variable {G G':Prop}
theorem gx (k:G') (h:CS G'->G:=by
 (intro k
  repeat (first
   | (refine TM ?_
      first
       | refine lz ?_
       | refine dE (op:=.fieldAddr _ _ _) rfl rfl ?_
       | refine dE (op:=.nilCheck _) rfl rfl ?_
       | (refine TQ ?_
          first
           | refine fF (by assumption) rfl rfl (by repeat constructor) (by rfl) rfl ?_
           | refine dX [_,_] (by assumption) rfl rfl rfl (by repeat constructor) (by exact⟨rfl,rfl,Xr⟩) rfl ?_
           | refine dX [_,_,_] (by assumption) rfl rfl rfl (by repeat constructor) (by exact⟨rfl,rfl,rfl,Xr⟩) rfl ?_
           | refine dX [_,_,_,_] (by assumption) rfl rfl rfl (by repeat constructor) (by exact⟨rfl,rfl,rfl,rfl,Xr⟩) rfl ?_
           | refine dX [_,_,_,_,_] (by assumption) rfl rfl rfl (by repeat constructor) (by exact⟨rfl,rfl,rfl,rfl,rfl,Xr⟩) rfl ?_
           | refine dX [_,_,_,_,_,_] (by assumption) rfl rfl rfl (by repeat constructor) (by exact⟨rfl,rfl,rfl,rfl,rfl,rfl,Xr⟩) rfl ?_)
       | (refine OR ?_
          first
           | refine E1 rfl (by omega) (by omega) rfl ?_
           | refine qG rfl (by omega) (by omega) rfl ?_
           | refine E6 rfl (by first|assumption|omega) rfl ?_
           | refine E7 rfl (by first|assumption|omega) rfl ?_
           | refine E8 rfl (by assumption) rfl ?_
           | refine E9 rfl (by assumption) rfl ?_
           | refine vF rfl (by omega) (by omega) rfl ?_
           | refine dE rfl rfl ?_)
       | (refine OS ?_
          first
           | refine E1 rfl (by omega) (by omega) rfl ?_
           | refine qG rfl (by omega) (by omega) rfl ?_
           | refine vF rfl (by omega) (by omega) rfl ?_
           | refine IY rfl rfl ?_
           | refine dE rfl rfl ?_)
       | (refine TP ?_
          first
           | refine sk rfl ?_
           | refine Bw rfl rfl rfl ?_
           | refine OV rfl rfl ?_)
       | (refine OU ?_
          refine dE rfl rfl ?_)
       | refine dE (op:=.move _) (ty:=4) rfl rfl ?_
       | refine dE (op:=.move _) rfl rfl ?_
       | refine dE (op:=.assign _) rfl rfl ?_
       | refine dE (op:=.extract _ _) rfl rfl ?_
       | refine dE (op:=.unOp _ _ _) rfl rfl ?_
       | refine dE (op:=.pick _ _ _) rfl rfl ?_
       | refine dE (op:=.makeInterface _ _) rfl rfl ?_
       | refine dE (op:=.makeFunc _ _ _) rfl rfl ?_)
   | (refine TN ?_
      first
       | refine dW ?_
       | refine kj rfl ?_
       | refine oK rfl ?_
       | refine mS rfl ?_
       | refine jR ?_
       | refine px ?_
       | refine yA ?_
       | refine tM ?_)
   | (refine TO ?_
      first
       | refine bT rfl ?_
       | refine kJ ?_
       | refine lQ ?_
       | refine yB ?_
       | refine mT ?_
       | refine mU ?_
       | refine lR rfl ?_
       | refine kK ?_
       | refine lS ?_
       | refine CR rfl ?_
       | refine I6 (Sat.to (by assumption)) ?_)
   | (refine Vx ?_
      first
       | refine CP ?_
       | refine qh (op:=.fieldAddr _ _ _) rfl rfl rfl ?_
       | refine qh (op:=.nilCheck _) rfl rfl rfl ?_
       | refine qh (op:=.assign _) rfl rfl rfl ?_
       | refine qh (op:=.move _) rfl rfl rfl ?_
       | refine tR rfl rfl rfl (by repeat constructor) (by rfl) rfl ?_
       | refine xo rfl ?_
       | refine QO rfl rfl (by omega) (by omega) rfl ?_
       | refine OW rfl rfl (by omega) (by omega) rfl ?_
       | refine I2 rfl rfl (by first|assumption|omega) rfl ?_
       | refine I3 rfl rfl (by first|assumption|omega) rfl ?_
       | refine Sr rfl rfl (by assumption) rfl ?_
       | refine Ss rfl rfl (by assumption) rfl ?_
       | refine qh rfl rfl rfl ?_
       | refine I4 rfl rfl rfl rfl ?_
       | refine Sq rfl rfl rfl ?_
       | refine I5 rfl rfl rfl rfl ?_
       | refine CQ rfl rfl rfl rfl (by repeat constructor) (by rfl) rfl ?_
       | refine ia [_,_] rfl rfl rfl rfl (by repeat constructor) (by exact⟨rfl,rfl,Xr⟩) rfl ?_
       | refine ia [_,_,_] rfl rfl rfl rfl (by repeat constructor) (by exact⟨rfl,rfl,rfl,Xr⟩) rfl ?_
       | refine ia [_,_,_,_] rfl rfl rfl rfl (by repeat constructor) (by exact⟨rfl,rfl,rfl,rfl,Xr⟩) rfl ?_
       | refine ia [_,_,_,_,_] rfl rfl rfl rfl (by repeat constructor) (by exact⟨rfl,rfl,rfl,rfl,rfl,Xr⟩) rfl ?_))
  exact k.out)):G:=h ⟨k⟩
theorem jv (k:G') (h:CS G'->G:=by
 (intro k
  repeat (first
   | (refine TM ?_
      first
       | refine lz ?_
       | refine dE (op:=.fieldAddr _ _ _) rfl rfl ?_
       | refine dE (op:=.nilCheck _) rfl rfl ?_
       | (refine TQ ?_
          first
           | refine fF (by assumption) rfl rfl (by repeat constructor) (by rfl) rfl ?_
           | refine dX [_,_] (by assumption) rfl rfl rfl (by repeat constructor) (by exact⟨rfl,rfl,Xr⟩) rfl ?_
           | refine dX [_,_,_] (by assumption) rfl rfl rfl (by repeat constructor) (by exact⟨rfl,rfl,rfl,Xr⟩) rfl ?_
           | refine dX [_,_,_,_] (by assumption) rfl rfl rfl (by repeat constructor) (by exact⟨rfl,rfl,rfl,rfl,Xr⟩) rfl ?_
           | refine dX [_,_,_,_,_] (by assumption) rfl rfl rfl (by repeat constructor) (by exact⟨rfl,rfl,rfl,rfl,rfl,Xr⟩) rfl ?_
           | refine dX [_,_,_,_,_,_] (by assumption) rfl rfl rfl (by repeat constructor) (by exact⟨rfl,rfl,rfl,rfl,rfl,rfl,Xr⟩) rfl ?_)
       | (refine OR ?_
          first
           | refine E1 rfl (by omega) (by omega) rfl ?_
           | refine qG rfl (by omega) (by omega) rfl ?_
           | refine E6 rfl (by first|assumption|omega) rfl ?_
           | refine E7 rfl (by first|assumption|omega) rfl ?_
           | refine E8 rfl (by assumption) rfl ?_
           | refine E9 rfl (by assumption) rfl ?_
           | refine vF rfl (by omega) (by omega) rfl ?_
           | refine dE rfl rfl ?_)
       | (refine OS ?_
          first
           | refine E1 rfl (by omega) (by omega) rfl ?_
           | refine qG rfl (by omega) (by omega) rfl ?_
           | refine vF rfl (by omega) (by omega) rfl ?_
           | refine IY rfl rfl ?_
           | refine dE rfl rfl ?_)
       | (refine TP ?_
          first
           | refine sk rfl ?_
           | refine Bw rfl rfl rfl ?_
           | refine OV rfl rfl ?_)
       | (refine OU ?_
          refine dE rfl rfl ?_)
       | refine dE (op:=.move _) (ty:=4) rfl rfl ?_
       | refine dE (op:=.move _) rfl rfl ?_
       | refine dE (op:=.assign _) rfl rfl ?_
       | refine dE (op:=.extract _ _) rfl rfl ?_
       | refine dE (op:=.unOp _ _ _) rfl rfl ?_
       | refine dE (op:=.pick _ _ _) rfl rfl ?_
       | refine dE (op:=.makeInterface _ _) rfl rfl ?_
       | refine dE (op:=.makeFunc _ _ _) rfl rfl ?_)
   | (refine TN ?_
      first
       | refine kj rfl ?_
       | refine oK rfl ?_
       | refine mS rfl ?_
       | refine jR ?_
       | refine px ?_
       | refine yA ?_
       | refine tM ?_)
   | (refine TO ?_
      first
       | refine kJ ?_
       | refine lQ ?_
       | refine yB ?_
       | refine mT ?_
       | refine mU ?_
       | refine lR rfl ?_
       | refine kK ?_
       | refine lS ?_
       | refine CR rfl ?_
       | refine I6 (Sat.to (by assumption)) ?_)
   | (refine Vx ?_
      first
       | refine CP ?_
       | refine qh (op:=.fieldAddr _ _ _) rfl rfl rfl ?_
       | refine qh (op:=.nilCheck _) rfl rfl rfl ?_
       | refine qh (op:=.assign _) rfl rfl rfl ?_
       | refine qh (op:=.move _) rfl rfl rfl ?_
       | refine tR rfl rfl rfl (by repeat constructor) (by rfl) rfl ?_
       | refine xo rfl ?_
       | refine QO rfl rfl (by omega) (by omega) rfl ?_
       | refine OW rfl rfl (by omega) (by omega) rfl ?_
       | refine I2 rfl rfl (by first|assumption|omega) rfl ?_
       | refine I3 rfl rfl (by first|assumption|omega) rfl ?_
       | refine Sr rfl rfl (by assumption) rfl ?_
       | refine Ss rfl rfl (by assumption) rfl ?_
       | refine qh rfl rfl rfl ?_
       | refine I4 rfl rfl rfl rfl ?_
       | refine Sq rfl rfl rfl ?_
       | refine I5 rfl rfl rfl rfl ?_
       | refine CQ rfl rfl rfl rfl (by repeat constructor) (by rfl) rfl ?_
       | refine ia [_,_] rfl rfl rfl rfl (by repeat constructor) (by exact⟨rfl,rfl,Xr⟩) rfl ?_
       | refine ia [_,_,_] rfl rfl rfl rfl (by repeat constructor) (by exact⟨rfl,rfl,rfl,Xr⟩) rfl ?_
       | refine ia [_,_,_,_] rfl rfl rfl rfl (by repeat constructor) (by exact⟨rfl,rfl,rfl,rfl,Xr⟩) rfl ?_
       | refine ia [_,_,_,_,_] rfl rfl rfl rfl (by repeat constructor) (by exact⟨rfl,rfl,rfl,rfl,rfl,Xr⟩) rfl ?_))
  exact k.out)):G:=h ⟨k⟩
end
section
variable[Bs0:Base][NQ]
open Pure (ad ay Rd bF less aO aU bA aX aA dz dec my Kp Mm im nB dS iT keeps)
attribute [local irreducible] IntKind.wrap
variable{W0 w:Xo}{F:Xn ae}{v:Xp}{d m p:Nat}{T:dB}{D D':ad}{M:Xn ay}
variable {l:Xn ay}
theorem HN {e:ay} (h:l.getLast?=some e) (b:e.del=true):dS l.length l=dS l.dropLast.length l.dropLast:=by
 have H:l≠[]:=by intro c;subst c;cases h
 obtain⟨n,a⟩:∃n,l.length=n+1:=⟨l.length-1,by have:=Yi.2 H;omega⟩;rw[a];simp only[dS,h,b,YB];rw[aaE,a];rfl
theorem zD (h:l=[]\/∃e,l.getLast?=some e/\e.del=false):dS l.length l=l:=by
 rcases h with rfl|⟨e,h,a⟩
 .rfl
 .have H:l≠[]:=by intro b;subst b;cases h
  obtain⟨n,c⟩:∃n,l.length=n+1:=⟨l.length-1,by have:=Yi.2 H;omega⟩;rw[c];simp only[dS,h,a,XM,XV]
def Sat.TR {b c:Nat} (h:Sat W0 (kW (.slice (some ⟨b,0,none⟩) l.length c) l::F) w) (hl:0<l.length):Sat W0 (kW (.slice (some ⟨b,0,none⟩) (l.length-1) c) l.dropLast::F) w:=by
 obtain⟨B,C,r,f,n,q,Q,e⟩:=h.iv hl;obtain⟨g,_,rfl⟩:=Yk f;cases g;have a:l≠[]:=by intro i;subst i;simp at hl
 have E:l=l.dropLast++[l.getLast a]:=(Y7 a).symm;have j:(aV l).flatten=(aV l.dropLast).flatten++aD (l.getLast a):=(Zu (λz=>(aV z).flatten) E).trans (oV _ _);rw[j,XS]at e;have H:l.dropLast.length=l.length-1:=aaE;have e:=Sat.gE (k:=4) (len:=l.length-1) (cs:=(aV l.dropLast).flatten) e (by omega) q (by simp only[Xu,Q,aD,X5,List.length_nil];omega) (by rw[sZ,H]) (rQ _);rw[<- H]at e |-;exact e
abbrev Uy(bb bs bo:Nat)(bot:XN)(vs vo:Xp)(same out:Xn ay):Xn ae:=[blk bs 118 [vs],kW vs same,blk bo 118 [vo],kW vo out,blk bb 4 [.bool bot]]
def B1{bb bs bo:Nat}{bot:XN}{vs vo:Xp}{k:Kp}(h:Sat W0 (Uy bb bs bo bot vs vo k.same k.out++F) w)(U:k.out.length+k.same.length<=1099511627776) :
 Calls prog 206 #[ax bb,ax bs,ax bo] w λx w'=>∃u V q,x=.returned u/\Sat W0 (Uy bb bs bo bot V q (im bot k).same (im bot k).out++F) w':=by
 dsimp only[Uy,List.cons_append,List.nil_append]at h;refine enter func206 rfl ntmps206 results206 rfl ?_;refine dx (α:=Xp×Xn ay) (λ_=>[(0,ax bb),(1,ax bs),(2,ax bo)])
  (λz w=>(z.2=(if bot=true then dS k.same.length k.same else k.same)/\z.2.length<=k.same.length)/\Sat W0 (blk bs 118 [z.1]::kW z.1 z.2::blk bo 118 [vo]::kW vo k.out::blk bb 4 [.bool bot]::F) w) ?_ ?_
 .refine jv ?_;refine aL (α:=Xp×Xn ay) (λ_=>[(0,ax bb),(1,ax bs),(2,ax bo)])
   (λz w=>((if bot=true then dS z.2.length z.2 else z.2)=(if bot=true then dS k.same.length k.same else k.same)/\z.2.length<=k.same.length)/\Sat W0 (blk bs 118 [z.1]::kW z.1 z.2::blk bo 118 [vo]::kW vo k.out::blk bb 4 [.bool bot]::F) w) (λz=>z.2.length) (vs,k.same) ⟨rfl,rfl,rfl,Xr⟩ ⟨⟨rfl,XD _⟩,h⟩ ?_
  clear h;rintro⟨I,l⟩ w ⟨⟨e,g⟩,h⟩;dsimp only at e g h |-;obtain⟨a,c,rfl,W⟩:=(h.take dt).zg;cases bot with
  | false=>
   refine gx ?_;exact aH (.slice a l.length c,l) ⟨rfl,rfl,rfl,Xr⟩ ⟨⟨e,g⟩,h⟩
  | true=>
   simp only[YB]at e |-;by_cases s:0<l.length
   .have t:(l.length:Int) > 0:=by omega
    have H:l≠[]:=by intro J;subst J;simp at s
    obtain⟨b,K,R,L,X,Y,Z,y⟩:=(h.take dt).iv s;obtain⟨rfl,_,rfl⟩:=Yk L;have f:l[l.length-1]?=some (l.getLast H):=by rw[List.getLast_eq_getElem];exact Xq (by omega)
    have j:=(ng (k:=4) (jY l) (i:=l.length-1) (r:=aD (l.getLast H)) (by simp[aV,f])).app (rest:=R);have n:((aV l).flatten++R)[0+(l.length-1)*4+2]?=some (.bool (l.getLast H).del):=by
     rw[X0];exact j.2.2.1
    have o:l.getLast?=some (l.getLast H):=Zo H;generalize l.getLast H=z at *;refine gx ?_;refine de (i:=l.length-1) rfl rfl (by omega) rfl rfl (by omega) rfl ?_;refine gx ?_;refine fF y rfl rfl .here (by exact n) rfl ?_;cases G:z.del with
    | true=>
     refine gx ?_;have h:=((h.take dt).TR s);have N:l.dropLast.length=l.length-1:=aaE;refine qJ 0 (l.length-1) rfl rfl rfl rfl (by show some (Value.int .i64 ((l.length:Int)-1))=some (Value.int .i64 ((l.length-1:Nat):Int));congr 2;omega) (by omega) (by omega) rfl ?_;have O:cutAt b 0 c 0 4=⟨b,0,none⟩:=by unfold cutAt;split<;>simp
     rw[O,Zx,Zx];refine gx ?_;refine bJ h λw h=>?_;refine gx ?_;refine az (.slice (some ⟨b,0,none⟩) (l.length-1) c,l.dropLast) ⟨rfl,rfl,rfl,Xr⟩ ⟨⟨?_,?_⟩,h.to⟩ ?_
     .rw[<- e];exact(HN o G).symm
     .dsimp only;omega
     .dsimp only;omega
    | false=>
     refine gx ?_;have:=zD (l:=l) (.inr ⟨z,o,G⟩);rw[this]at e;exact aH (.slice (some ⟨b,0,none⟩) l.length c,l) ⟨rfl,rfl,rfl,Xr⟩ ⟨⟨e,g⟩,h⟩
   .have t:¬(l.length:Int) > 0:=by omega
    have A:l=[]:=XY (by omega);refine gx ?_;have:=zD (l:=l) (.inl A);rw[this]at e;exact aH (.slice a l.length c,l) ⟨rfl,rfl,rfl,Xr⟩ ⟨⟨e,g⟩,h⟩
 .clear h;rintro⟨I,l⟩ w ⟨⟨e,g⟩,h⟩;dsimp only at e g h;refine gx ?_;have e3:kW vo k.out=aE 4 vo 256 k.out.length (aV k.out).flatten:=rfl;refine rD (k:=4) (m:=l.length) (news:=(aV l).flatten) h rfl rfl (by repeat constructor) (vG rfl (.there .here)) rfl rfl rfl rfl rfl (by simp only[maxLen];omega) (by omega) rfl λv' w h=>?_;refine gx ?_;obtain⟨B,C,rfl,-⟩:=h.aC;refine bJ h λw h=>?_;refine gx ?_;refine bJ h λw h=>?_;refine gx ?_;refine fE rfl ⟨_,.slice none 0 0,.slice B (k.out.length+l.length) C,rfl,?_⟩;have P:(im bot k).out=k.out++l:=by unfold im;rw[e]
  have Q:(im bot k).same=[]:=rfl;rw[P,Q];have h:=Sat.ep (k:=4) (E:=256) h;have S:kW (.slice B (k.out.length+l.length) C) (k.out++l)=aE 4 (.slice B (k.out.length+l.length) C) 256 (k.out.length+l.length) ((aV k.out).flatten++(aV l).flatten):=by
   show aE 4 _ 256 (k.out++l).length (aV (k.out++l)).flatten=_;rw[Xu];simp[aV]
  dsimp only[Uy,List.cons_append,List.nil_append];rw[S];exact h.to
end
section
variable[Bs0:Base][NQ]
open Pure (ad ay Rd bF less aO aU bA aX aA dz dec my Kp Mm im nB dS iT keeps)
attribute [local irreducible] IntKind.wrap
variable{W0 w:Xo}{F:Xn ae}{v:Xp}{d m p:Nat}{T:dB}{D D':ad}{M:Xn ay}
variable {α:Type}
def Uz (C:α->ae):YH eX α->ae
 | .ok a=>C a
 | .error _=>λ_=>True
structure V1 where
 bs:Nat
 bo:Nat
 bb:Nat
 bl:Nat
 ba:Nat
 bm:Nat
 bd:Nat
 mv:Xp
 us:Xn Nat
 bot:XN
abbrev HO(G:V1)(k:Kp)(vs vo:Xp):Xn ae:=
 [blk G.bs 118 [vs],kW vs k.same,blk G.bo 118 [vo],kW vo k.out,blk G.bb 4 [.bool G.bot],blk G.bl 256 (aD k.later),blk G.ba 4 [.bool k.any],blk G.bm 341 [G.mv],aE 1 G.mv 131 G.us.length (G.us.map uV),blk G.bd 1 [.func (.func 206) #[] #[ax G.bb,ax G.bs,ax G.bo]]]
def V2(G:V1)(k:Kp):ae:=λh=>∃z:Xp×Xp,cj (HO G k z.1 z.2) h
variable {G:V1} {k:Kp}
theorem Sat.OX (h:Sat W0 (V2 G k::F) w):∃V a,Sat W0 (HO G k V a++F) w:=by
 obtain⟨z,_,H⟩:=h.gD (φ:=λ_:Xp×Xp=>True) (B:=λz=>HO G k z.1 z.2) λb ⟨z,k⟩=>⟨z,Xr,k⟩;exact⟨z.1,z.2,H⟩
theorem Sat.Jw {vs vo:Xp} (h:Sat W0 (HO G k vs vo++F) w):Sat W0 (V2 G k::F) w:=Sat.close h λH q=>⟨(vs,vo),q⟩
variable {nx:Nx}
def Sat.Ru (h:Sat W0 (Ju d m v nx::F) w):∃f q,v=.func (.func f) #[] q:=by
 cases nx with
 | one i=>exact Sat.uy h
 | mg g=>exact h.jm λa ⟨_,z,H,_⟩=>⟨214,_,H⟩
theorem OY {a b:Xn α} (h:a.Perm b) (f:α->XN):a.any f=b.any f:=by
 rw[ZV,YR,YR];exact⟨λ⟨x,H,c⟩=>⟨x,h.mem_iff.1 H,c⟩,λ⟨x,H,c⟩=>⟨x,h.mem_iff.2 H,c⟩⟩
attribute [local irreducible] ob aE ah aZ bg Ju V2 aW eW W6 nj vw du ov TK star l9
def B2 {b:Nat} {K:SK} {z:SZ} {s:St} {bot:XN} {x:YH eX (Xn ay)} (h:wm s D nx bot=some (x,D')) (hmx:s.mem.length<=1099511627776) (H:Sat W0 (blk b 133 (aj K z s)::bg cB z.sn (aN s.snaps)::Ju K.d z.m v nx::aZ z.m s.mem::ah K.d D::F) w):
 Calls prog 168 #[ax b,v,.bool bot] w λy w'=>∃lv I,y=.returned (.tuple #[lv,I])/\Sat W0 (blk b 133 (aj K z s)::bg cB z.sn (aN s.snaps)::aZ z.m s.mem::ah K.d D'::aW I (kv x)::Uz (kW lv) x::F) w':=by
 unfold wm at h;split at h
 .cases h
 rename_i hsn;obtain⟨f,q,rfl,hf⟩:=(H.take iB).Ru;refine zj func168 rfl ntmps168 results168 rfl ?_;refine gx ?_;refine eB H ?_;clear H;intro w bb H;refine gx ?_;refine ak (met (Dq (H.p7 dt (.there .here)) (by omega)) ?_);clear H;rintro _ w ⟨mv,U,rfl,hp,H⟩;refine⟨_,rfl,?_⟩;have hup:=λ(g:Nat->XN)=>OY hp g;have hul:U.length<=9:=by have:=hp.length_eq;simp[aJ]at this;omega
 obtain⟨A,n,rfl,hcm⟩:=H.aC;refine aS H ?_;clear H;intro w B H;refine bJ H ?_;clear H;intro w H;refine gx ?_;refine aS H ?_;clear H;intro w bo H;refine gx ?_;refine aS H ?_;clear H;intro w bs H;refine gx ?_;refine aS H ?_;clear H;intro w a H;refine bJ H ?_;clear H;intro w H;refine gx ?_;refine aS H ?_;clear H;intro w be H;refine gx ?_;refine aS H ?_;clear H;intro w e H;refine gx ?_;refine aS H ?_;clear H;intro w j H;refine bJ H ?_;clear H;intro w H;refine gx ?_;refine ak (met (BZ (f:=f) (q:=q) (eb:=be) H) ?_);clear H;rintro _ w ⟨bn,bee,rfl,H⟩;refine⟨_,rfl,?_⟩;obtain⟨l,oe,hEach,hkb,hx⟩:∃l oe,sd s.mem (DZ (aJ s) bot) jJ nx D Mm=some (l,oe,D')/\l.out.length+l.same.length<=1099511627776/\((∃er,oe=some er/\x=.error er)\/(oe=none/\x=.ok (im bot l).out)):=by
  split at h
  .cases h
  .rename_i l er D2 he;split at h
   .rename_i N;rw[bC]at N;simp only[Xs,XI]at h;obtain⟨rfl,rfl⟩:=h;exact⟨l,_,he,N,.inl ⟨_,rfl,rfl⟩⟩
   .cases h
  .rename_i l D2 he;split at h
   .rename_i N;rw[bC]at N;simp only[Xs,XI]at h;obtain⟨rfl,rfl⟩:=h;exact⟨l,_,he,N,.inr ⟨rfl,rfl⟩⟩
   .cases h
 clear h;refine gx ?_;refine WC.sub (e':=[(8,ax B),(9,ax bo),(10,ax bs),(11,ax a),(12,ax be),(13,ax e),(14,ax j),(23,.func (.func 211) #[] #[ax bn,ax bee])]) ⟨rfl,rfl,rfl,rfl,rfl,rfl,rfl,rfl,Xr⟩ ?_;have H:=Sat.Jw (G:=⟨bs,bo,bb,e,j,B,a,.slice A U.length n,U,bot⟩) (k:=Mm) (vs:=.slice none 0 0) (vo:=.slice none 0 0) (F:=blk bn 288 [.func (.func f) #[] q]::blk bee 312 [ax be]::blk be 41 [.nilIface]::Ju K.d z.m (.func (.func f) #[] q) nx::aZ z.m s.mem::ah K.d D::blk b 133 (aj K z s)::bg cB z.sn (aN s.snaps)::F)
  (((H.ep (k:=4) (E:=256)).ep (k:=4) (E:=256)).to)
 refine Jv (v:=.func (.func f) #[] q) (d:=K.d) (m:=z.m) (nx:=nx) (C:=λk=>[V2 ⟨bs,bo,bb,e,j,B,a,.slice A U.length n,U,bot⟩ k]) (id:=0) (bn:=bn) (be:=bee) (eb:=be) (oe:=oe) (s1:=l) (D':=D') (F:=blk b 133 (aj K z s)::bg cB z.sn (aN s.snaps)::F) rfl rfl rfl hEach hmx H.to ?_ ?_
 .clear H hEach;intro k ent k' c L J R w hbody hst H;dsimp only[List.cons_append,List.nil_append]at H;unfold DZ at hbody;by_cases hbig:k.out.length+k.same.length<=jJ
  case neg=>rw[Xx hbig]at hbody;cases hbody
  rw[XE hbig]at hbody;rw[bC]at hbig;simp only[Xs,XI]at hbody;obtain⟨rfl,rfl⟩:=hbody;refine jv ?_;refine aS H ?_;clear H;intro w b15 H;refine fG (vs:=aD ent) H ?_;clear H;intro w H;refine jv ?_;refine FP (H.take dt) hst λw H=>?_;obtain⟨vs,vo,H⟩:=Sat.OX (H.take iB);dsimp only[HO,List.cons_append,List.nil_append]at H;generalize hE:([(15,ax b15),(24,.agg (aD ent).toArray),(8,ax B),(9,ax bo),(10,ax bs),(11,ax a),(12,ax be),(13,ax e),(14,ax j),(23,.func (.func 211) #[] #[ax bn,ax bee])]:Env)=E0;refine jR ?_;refine dx (α:=Unit) (λ_=>(16,.bool (iT k ent))::E0) (λ_ w=>Sat W0 (HO ⟨bs,bo,bb,e,j,B,a,.slice A U.length n,U,bot⟩ k vs vo++blk b15 256 (aD ent)::ob false L (.loop { J with state:=.busy })::R) w) ?_ ?_
  .subst hE;dsimp only[HO,List.cons_append,List.nil_append];obtain⟨out,same,later,any⟩:=k;dsimp only at H |-;cases any with
   | false=>
    refine jv ?_;exact aH () ⟨rfl,rfl,rfl,rfl,rfl,rfl,rfl,rfl,rfl,rfl,rfl,Xr⟩ H.to
   | true=>
    refine jv ?_;exact aH () ⟨rfl,rfl,rfl,rfl,rfl,rfl,rfl,rfl,rfl,rfl,rfl,Xr⟩ H.to
  clear H;rintro-w H;dsimp only[HO,List.cons_append,List.nil_append]at H;refine dx (α:=Xp×Xp×Xn ay×Xn ay) (λ_=>(16,.bool (iT k ent))::E0)
   (λZ w=>((Z.2.2.1=if iT k ent=true then(im bot k).out else k.out)/\(Z.2.2.2=if iT k ent=true then(im bot k).same else k.same))/\Sat W0 (HO ⟨bs,bo,bb,e,j,B,a,.slice A U.length n,U,bot⟩ ⟨Z.2.2.1,Z.2.2.2,k.later,k.any⟩ Z.1 Z.2.1++blk b15 256 (aD ent)::ob false L (.loop { J with state:=.busy })::R) w) ?_ ?_
  .subst hE;cases hF:iT k ent with
   | true=>
    refine gx ?_;refine kL rfl rfl rfl rfl (met (B1 (bb:=bb) (bs:=bs) (bo:=bo) (bot:=bot) (vs:=vs) (vo:=vo) (k:=k) (F:=blk e 256 (aD k.later)::blk j 4 [.bool k.any]::blk B 341 [.slice A U.length n]::aE 1 (.slice A U.length n) 131 U.length (U.map uV)::blk a 1 [.func (.func 206) #[] #[ax bb,ax bs,ax bo]]::blk b15 256 (aD ent)::ob false L (.loop { J with state:=.busy })::R) H hbig) ?_);clear H;rintro _ w ⟨u,O,V,rfl,H⟩;refine⟨_,rfl,gx ?_⟩;dsimp only[Uy,List.cons_append,List.nil_append]at H;refine aH (O,V,(im bot k).out,(im bot k).same) ⟨rfl,rfl,rfl,rfl,rfl,rfl,rfl,rfl,rfl,rfl,rfl,Xr⟩ ⟨⟨by simp,by simp⟩,H.to⟩
   | false=>
    refine gx ?_;refine aH (vs,vo,k.out,k.same) ⟨rfl,rfl,rfl,rfl,rfl,rfl,rfl,rfl,rfl,rfl,rfl,Xr⟩ ⟨⟨by simp,by simp⟩,H.to⟩
  clear H;rintro⟨vs,vo,o,sm⟩ w ⟨⟨ho,hsm⟩,H⟩;dsimp only[HO,List.cons_append,List.nil_append]at ho hsm H;have hsml:sm.length<=1099511627776:=by
   rw[hsm];split
   .show([]:Xn ay).length<=_;simp
   .omega
  refine dx (α:=Xp×Xp×Xn ay×Xn ay) (λ_=>E0)
   (λZ w=>(Z.2.2.1=o/\(Z.2.2.2=if keeps (aJ s) k ent=true then sm++[ent]else sm))/\Sat W0 (HO ⟨bs,bo,bb,e,j,B,a,.slice A U.length n,U,bot⟩ ⟨Z.2.2.1,Z.2.2.2,k.later,k.any⟩ Z.1 Z.2.1++blk b15 256 (aD ent)::ob false L (.loop { J with state:=.busy })::R) w) ?_ ?_
  .have hkeep:keeps (aJ s) k ent=U.any λm=>decide (ent.seq<=m)&&(iT k ent||decide (m<k.later.seq)):=(hup _).symm;rw[hkeep];subst hE;refine gx ?_;refine aL (α:=Nat) (λi=>[(37,.slice A U.length n),(38,.int .i64 (U.length:Int)),(39,.int .i64 (i:Int)),(16,.bool (iT k ent)),(15,ax b15),(24,.agg (aD ent).toArray),(8,ax B),(9,ax bo),(10,ax bs),(11,ax a),(12,ax be),(13,ax e),(14,ax j),(23,.func (.func 211) #[] #[ax bn,ax bee])])
    (λi w=>(i<=U.length/\(U.take i).any (λm=>decide (ent.seq<=m)&&(iT k ent||decide (m<k.later.seq)))=false)/\Sat W0 (HO ⟨bs,bo,bb,e,j,B,a,.slice A U.length n,U,bot⟩ ⟨o,sm,k.later,k.any⟩ vs vo++blk b15 256 (aD ent)::ob false L (.loop { J with state:=.busy })::R) w) (λi=>U.length-i) 0 ⟨rfl,rfl,rfl,rfl,rfl,rfl,rfl,rfl,rfl,rfl,rfl,rfl,rfl,rfl,Xr⟩ ⟨⟨XR _,by simp⟩,H.to⟩ ?_
   clear H;rintro i w ⟨⟨hi,hno⟩,H⟩;dsimp only[HO,List.cons_append,List.nil_append]at H;obtain⟨av,cv,rfl,-⟩:=(H.take dt).aC;by_cases hlt:i<U.length
   .have P:U[i]?=some U[i]:=Xq hlt;have htk:U.take (i+1)=U.take i++[U[i]]:=by rw[YC,P];rfl
    generalize U[i]=Q at P htk;obtain⟨ab,cap,rs,hv,q1,q2,q3,S⟩:=(H.take SH).iv (by omega);obtain⟨rfl,_,rfl⟩:=Yk hv;have hcell:(U.map uV++rs)[0+i*1]?=some (uV Q):=by
     rw[X0,YA,XH (by simpa using hlt),Yy,P];rfl
    refine gx ?_;refine de (i:=i) rfl rfl rfl rfl rfl hlt rfl ?_;refine fF S rfl rfl .here hcell rfl ?_;clear S;by_cases hle:ent.seq<=Q
    .cases hF:iT k ent with
     | true=>
      have HK:(U.any λm=>decide (ent.seq<=m)&&(true||decide (m<k.later.seq)))=true:=YR.2 ⟨Q,Ya P,by simp[hle]⟩;refine gx ?_;refine jT (aD ent) H λw b2 H=>?_;refine dZ H ?_;clear H;intro v2 w H;obtain⟨r,t,rfl,-⟩:=H.aC;refine gx ?_;refine bJ H ?_;clear H;intro w H;refine gx ?_;refine aH (.slice r (sm.length+1) t,vo,o,sm++[ent]) ⟨rfl,rfl,rfl,rfl,rfl,rfl,rfl,rfl,rfl,rfl,Xr⟩ ⟨⟨rfl,by rw[HK];rfl⟩,?_⟩;have W:aE 4 (.slice r (sm.length+1) t) 256 (sm.length+1) ((aV sm).flatten++aD ent)=kW (.slice r (sm.length+1) t) (sm++[ent]):=by rw[<- oV];show _=aE 4 _ 256 (sm++[ent]).length _;rw[Xu];rfl
      rw[W]at H;exact H.to
     | false=>
      by_cases X:Q<k.later.seq
      .have HK:(U.any λm=>decide (ent.seq<=m)&&(false||decide (m<k.later.seq)))=true:=YR.2 ⟨Q,Ya P,by simp[hle,X]⟩;refine gx ?_;refine jT (aD ent) H λw b2 H=>?_;refine dZ H ?_;clear H;intro v2 w H;obtain⟨r,t,rfl,-⟩:=H.aC;refine gx ?_;refine bJ H ?_;clear H;intro w H;refine gx ?_;refine aH (.slice r (sm.length+1) t,vo,o,sm++[ent]) ⟨rfl,rfl,rfl,rfl,rfl,rfl,rfl,rfl,rfl,rfl,Xr⟩ ⟨⟨rfl,by rw[HK];rfl⟩,?_⟩;have W:aE 4 (.slice r (sm.length+1) t) 256 (sm.length+1) ((aV sm).flatten++aD ent)=kW (.slice r (sm.length+1) t) (sm++[ent]):=by rw[<- oV];show _=aE 4 _ 256 (sm++[ent]).length _;rw[Xu];rfl
       rw[W]at H;exact H.to
      .refine gx ?_;refine az (i+1) ⟨rfl,rfl,rfl,rfl,rfl,rfl,rfl,rfl,rfl,rfl,rfl,rfl,rfl,rfl,Xr⟩ ⟨⟨hlt,?_⟩,H.to⟩ (by omega);rw[hF]at hno;rw[htk,List.any_append,hno];simp[X]
    .refine gx ?_;refine az (i+1) ⟨rfl,rfl,rfl,rfl,rfl,rfl,rfl,rfl,rfl,rfl,rfl,rfl,rfl,rfl,Xr⟩ ⟨⟨hlt,?_⟩,H.to⟩ (by omega);rw[htk,List.any_append,hno];simp[hle]
   .have hie:i=U.length:=by omega
    subst hie;rw[YD]at hno;refine gx ?_;refine aH (.slice av sm.length cv,vo,o,sm) ⟨rfl,rfl,rfl,rfl,rfl,rfl,rfl,rfl,rfl,rfl,Xr⟩ ⟨⟨rfl,by rw[hno];rfl⟩,H.to⟩
  clear H;rintro⟨vs,vo,o',Y⟩ w ⟨⟨aa,hsm'⟩,H⟩;dsimp only[HO,List.cons_append,List.nil_append]at aa hsm' H;subst aa;subst hE;refine gx ?_;refine fG (vs:=aD ent) H ?_;clear H;intro w H;refine gx ?_;refine bJ H ?_;clear H;intro w H;refine gx ?_;refine mx (H.take Wa) λw H=>.inl ⟨rfl,rfl,?_⟩;have W:nB (aJ s) bot k ent=⟨o',Y,ent,true⟩:=by
   unfold nB;rw[hsm',ho,hsm];cases iT k ent<;>simp[im]
  rw[W];dsimp only[List.cons_append,List.nil_append];have H:=Sat.Jw (G:=⟨bs,bo,bb,e,j,B,a,.slice A U.length n,U,bot⟩) (k:=⟨o',Y,ent,true⟩) (vs:=vs) (vo:=vo) (F:=ob false L (.loop { J with state:=.ready,pending:=none })::R) H.to;exact H.to
 .clear H hEach;intro xx Dk I w hxx H;dsimp only[List.cons_append,List.nil_append]at H;obtain⟨vs,vo,H⟩:=Sat.OX (H.take EF);dsimp only[HO,List.cons_append,List.nil_append]at H;rcases hxx with rfl|rfl<;>(
   refine gx ?_;refine kL rfl rfl rfl rfl (met (B1 (bb:=bb) (bs:=bs) (bo:=bo) (bot:=bot) (vs:=vs) (vo:=vo) (k:=l) (F:=blk be 41 [I]::ob false Dk (.deferred (some []))::aW I oe::aZ z.m s.mem::ah K.d D'::blk b 133 (aj K z s)::bg cB z.sn (aN s.snaps)::F) H.to hkb) ?_);clear H;rintro _ w ⟨u,O,V,rfl,H⟩;refine⟨_,rfl,gx ?_⟩;dsimp only[Uy,List.cons_append,List.nil_append]at H;refine bU [blk bo 118 [V],blk be 41 [I]] [(0,false),(1,false),(2,false),(3,false)] H (by kernel_rfl) ?_;clear H;intro w H;refine gx ?_;refine Dg (H.take L9) rfl ?_;clear H;intro w H;refine⟨_,_,rfl,?_⟩;rcases hx with⟨er,rfl,rfl⟩|⟨rfl,rfl⟩
   .exact Sat.to (Sat.emp H)
   .exact H.to)
end
section
variable[Bs0:Base][NQ]
attribute [local semireducible] WL WC WQ
attribute [local semireducible] WT WO
section
variable{ops:Xv Yf}{Q:YL->Act->Xo->Prop}{S:Xo->Prop}{K:Xn Nat}{n:Nat}{ds:Md}{e:Env}{w w':Xo}{b:XN}{t:OT}{rest:Xn Yf}{ord:Xn (Nat×XN)}
variable{op:Op}{ty:XO}{pos:YG}{af:Xv Edge}{d i j:Nat}{v u:Xp}
variable {parts:Xv (Nat×XZ)} {tt:Nat} {ps:Xn (Nat×Xp)} {pl:Xn (Nat×Nat)} {z:Xn Xp}
theorem B3 {cs:List Value} {g:Option (Nat×Bool)} {a:Act} {w:World} (H:Fr n ds e a) (c:E4 e parts.toList=some ps) (hpl:lk nY tt=some pl) (k:lk kY tt=some z) (h:p8 (fun i=>pl[i]?) z ps=some cs):aR (execOp a.eval ⟨some d,.build tt parts,ty,pos,af,g⟩) w (.value (.agg cs.toArray)):=by
 obtain⟨Z,hzv,hzc⟩:=xl (w:=w) k;obtain⟨F,hfs,rfl⟩:=yG hpl;have hall:∀ f∈F.toList,∃ i,Tryz.prog.info? f.type=some i:=by
  have:=List.all_eq_true.1 yH tt (List.mem_map.2 ⟨_,CE hpl,rfl⟩);unfold CK at this;rw[hfs] at this;intro f h;exact Option.isSome_iff_exists.1 (List.all_eq_true.1 this f h)
 have E:parts.map (fun(i,x)=>(i,a.eval x))=ps.toArray:=by
  rw[<- H.E4 c];cases parts;simp
 have o:=wG (w:=w) hall;have hfl:=tP h;have hpl2:∀ (q:Array (Nat×Nat)),q=(F.toList.map fun f=>(f.offset,Tryz.prog.cellsOf f.type)).toArray->(fun i:Nat=>q[i]?)=fun i:Nat=>(F.toList.map fun f=>(f.offset,Tryz.prog.cellsOf f.type))[i]?:=by
  rintro q rfl;funext i;simp
 have hmA:(F.mapM (fun f=>do pure (f.offset,<- sizeOf f.type)):Sem (Array (Nat×Nat))).run Tryz.prog w=.ok (F.toList.map fun f=>(f.offset,Tryz.prog.cellsOf f.type)).toArray w:=by
  obtain⟨fl⟩:=F;have:=List.mapM_toArray (m:=Sem) (f:=fun f:Field=>do pure (f.offset,<- sizeOf f.type)) (l:=fl);rw[this];simp only[Sem.run_map,o,Result.andThen_ok]
 have hmQ:∀ es,(F.mapM (fun f=>do pure (f.offset,<- sizeOf f.type)):Sem (Array (Nat×Nat))).events Tryz.prog w es=es:=fun es=>by
  obtain⟨fl⟩:=F;have:=List.mapM_toArray (m:=Sem) (f:=fun f:Field=>do pure (f.offset,<- sizeOf f.type)) (l:=fl);rw[this];simp only[Sem.events_map,yI (w:=w) hall]
 refine(Still.of ?_ fun es=>?_).look
 ·simp only[execOp,E,Instr.build,Sem.run_bind,hzv,Result.andThen_ok,bx hfs,hzc];rw[hmA];simp only[Result.andThen_ok,hpl2 _ rfl,hfl];simp
 ·simp only[execOp,E,Instr.build,Sem.events_bind,Sem.run_bind,hzv,sP,Result.andThen_ok,Result.evThen_ok,bx hfs,events_underlying,hzc];rw[hmA,hmQ];simp only[Result.evThen_ok,Result.andThen_ok,hpl2 _ rfl,hfl];simp
def zE {pl:Xn (Nat×Nat)} {z:Xn Xp} (cs:Xn Xp) (H:ops[i]?=some ⟨some d,.build tt parts,ty,pos,af,none⟩) (kk:WT ops Q S K n ds b t ((d,.agg cs.toArray)::e) w) (a:E4 e parts.toList=some ps:=by rfl) (h:lk nY tt=some pl:=by rfl) (c:lk kY tt=some z:=by rfl) (f:p8 (λi=>pl[i]?) z ps=some cs:=by rfl) (g:Nat.blt d n=true:=by rfl):WT ops Q S K n ds b (.q i t) e w:=
 Ll H (λ_ _ k=>B3 k a h c f) g kk
def zF {pl:Xn (Nat×Nat)} {z:Xn Xp} (cs:Xn Xp) (H:ops[i]?=some ⟨some d,.build tt parts,ty,pos,af,none⟩) (kk:WO ops Q S n ds ord ((d,.agg cs.toArray)::e) w) (a:E4 e parts.toList=some ps:=by rfl) (h:lk nY tt=some pl:=by rfl) (c:lk kY tt=some z:=by rfl) (f:p8 (λi=>pl[i]?) z ps=some cs:=by rfl) (g:Nat.blt d n=true:=by rfl):WO ops Q S n ds ((i,false)::ord) e w:=
 KP H (λ_ _ k _=>B3 k a h c f) g kk
end
end
section
variable[Bs0:Base][NQ]
open Pure (ad ay Rd bF less aO aU bA aX aA dz dec)
attribute [local irreducible] IntKind.wrap
variable{W0 w:Xo}{F:Xn ae}{v:Xp}
def B4{x:ay}{bs:Bs}(H:Sat W0 (cP v bs::F) w)(a:bs.length<=35184372088832)(c:x.key.length<=1000)(hv:x.del=false->x.val.length<=1000) :
 Calls prog 145 #[v,.agg (aD x).toArray] w λy w'=>∃V,y=.returned V/\Sat W0 (cP V (bs++dz x)::F) w':=by
 refine enter func145 rfl ntmps145 results145 rfl ?_;refine go ?_;refine eB (z:=aD x) H λw B H=>?_;refine go ?_;refine bU [blk B 256 (aD x)] [(0,false),(1,false),(2,false),(4,false),(5,false),(3,true),(6,true),(7,false)] H (by kernel_rfl) λw H=>?_;refine go ?_;refine ak (met (iK (s:=x.key) (H.take dt) (by omega) (by omega)) ?_);rintro _ w ⟨v,rfl,H⟩;refine⟨v,rfl,go ?_⟩;refine ak (met (dm (N:=x.seq) (k:=8) H (by omega) (by simp;omega)) ?_);rintro _ w ⟨v,rfl,H⟩;refine⟨v,rfl,go ?_⟩;refine xj rfl (λh=>?_) (λh=>?_)
 .refine go ?_;refine eS H λw b H=>?_;refine CL (z:=255) H λv w H=>?_;refine go ?_;exact an rfl ⟨v,rfl,by rw[show bs++dz x=bs++aX x.key++bA x.seq 8++[255]from by simp[dz,h]];exact H.to⟩
 .have hv:=hv h;refine go ?_;refine ak (met (iK (s:=x.val) H (by simp;omega) (by omega)) ?_);rintro _ w ⟨v,rfl,H⟩;refine⟨v,rfl,go ?_⟩;exact an rfl ⟨v,rfl,by rw[show bs++dz x=bs++aX x.key++bA x.seq 8++aX x.val from by simp[dz,h]];exact H.to⟩
structure W7 where
 bi:Nat
 bt:Nat
 bf:Nat
 bl:Nat
 p:Nat
 d:Nat
 name:Bs
 first:Bs
 last:Bs
 count:Nat
structure V3 where
 vi:Xp
 vl:Xp
 bv:Xp
abbrev Qd(P:W7)(V:V3)(s:Wr):Xn ae:=
 [blk P.bi 93 [V.vi],cP V.vi s.inb,blk P.bt 193 [ax P.p],blk P.p 200 [str P.name,str P.first,str P.last,.int .i64 (P.count:Int),ax P.d,V.bv],aE 3 V.bv 282 s.blocks.length (cV s.blocks).flatten,blk P.bf 9 [str s.first],blk P.bl 93 [V.vl],cP V.vl s.file]
theorem vW(b:Bs):(aA b).length=b.length+12:=by rw[Pure.dM];omega
theorem OZ(l:Xn (Bs×Nat×Nat))(b:Bs×Nat×Nat):(cV (l++[b])).flatten=(cV l).flatten++AB b:=by simp[cV]
def zG{P:W7}{V:V3}{s s':Wr}(H:Sat W0 (Qd P V s++F) w)(h:mK s=some s') :
 Calls prog 227 #[ax P.bi,ax P.bt,ax P.bf,ax P.bl] w λx w'=>∃u c,x=.returned u/\Sat W0 (Qd P c s'++F) w':=by
 unfold mK at h;split at h
 .rename_i f;obtain⟨r,g,i⟩:=f;rw[bC]at g i;cases h;dsimp only[Qd,List.cons_append,List.nil_append]at H;obtain⟨t,y,e,-⟩:=(H.take dt).aC;obtain⟨A,C,b,-⟩:=(H.take Uk).aC;obtain⟨z,B,bv⟩:=V;dsimp only at e b H;subst e b;refine enter func227 rfl ntmps227 results227 rfl ?_;refine go ?_;refine ak (met (nf (H.take dt) (by omega)) ?_);rintro _ w ⟨D,rfl,H⟩;refine⟨_,rfl,?_⟩;obtain⟨G,I,rfl,-⟩:=H.aC;refine go ?_;have j:=vW s.inb;refine bU [blk P.bt 193 [ax P.p],blk P.p 200 [str P.name,str P.first,str P.last,.int .i64 (P.count:Int),ax P.d,bv],blk P.bf 9 [str s.first],blk P.bl 93 [.slice A s.file.length C]] [(0,false),(1,false),(2,false),(3,false),(4,false),(5,false),(6,false),(7,false),(8,false),(9,false),(10,false),(11,true),(12,true),(13,false),(14,false),(15,true)] H.to (by kernel_rfl) λw H=>?_;refine go ?_;refine zF (AB (s.first,s.file.length,(aA s.inb).length)) rfl ?_;refine go ?_;refine jT (AB (s.first,s.file.length,(aA s.inb).length)) H λw J H=>?_;refine go ?_;refine dZ H λK w H=>?_;obtain⟨l,n,rfl,-⟩:=H.aC;refine go ?_;refine bJ H λw H=>?_;refine go ?_;refine pD (m:=0) (bs:=s.file) (ns:=aA s.inb) H rfl rfl (by repeat constructor) (vG rfl (by repeat constructor)) (by omega) rfl λL w H=>?_;obtain⟨o,q,rfl,-⟩:=H.aC;refine bJ H λw H=>?_;refine go ?_;refine bJ H λw H=>?_;refine go ?_;refine fE rfl ⟨_,⟨.slice none 0 0,.slice o (s.file++aA s.inb).length q,.slice l (s.blocks.length+1) n⟩,rfl,?_⟩;have a:=H.ep (k:=1) (E:=5);dsimp only[Qd,List.cons_append,List.nil_append];rw[OZ,Xu];exact a.to
 .cases h
