/-
  Part 4: ; ; .
-/
import Derived.Test.YtecibefflhomdaaGreatDoorZ03
set_option maxHeartbeats 8000000
set_option maxRecDepth 100000
set_option linter.all false
namespace Go.Proofs.YtecibefflhomdaaGreatDoor
open Go
section
open Pure
def Ec(C:Prop)(fl:Bs->XB Bs)(M:Xn ay):It->Xn ay->Prop
 | .mem i,R=>R=M.drop i
 | .JZ T k i b,R=>∃f l c,fl T.name=some f/\rW C f T l c/\i<=c.length/\b.length+(c.drop i).flatten.length<=10000/\R=gX k (b++(c.drop i).flatten)
variable {α:Type}
def head_drop (M:Xn α) (i:Nat):M[i]?=(M.drop i).head?:=by simp
section
variable{C:Prop}{D:ad}{M:Xn ay}
variable {R:Xn ay}
def uY {it:It} (a:D.Ok) (h:Ec C (file D) M it R):
 ∃x d,pW M D it=some (x,d)/\eZ D d/\((∃e,x=.error e/\Ea C D e)\/∃o I,x=.ok (o,I)/\o=R.head?/\Ec C (file D) M I R.tail):=by
 cases it with
 | mem i=>
  subst h;unfold pW;dsimp only;cases g:M[i]? with
  | none=>
   have:M.drop i=[]:=List.drop_eq_nil_of_le (List.getElem?_eq_none_iff.1 g);exact⟨_,_,rfl,eZ.refl a,.inr ⟨none,.mem i,rfl,by grind,by show _=_;rw[this];rfl⟩⟩
  | some e=>
   exact⟨_,_,rfl,eZ.refl a,.inr ⟨some e,.mem _,rfl,by rw[<- head_drop,g],by show _=_;rw[List.tail_drop]⟩⟩
 | JZ T k i b=>
  have⟨f,l,m,j,H,n,s,t⟩:=h;have c:=mB H.ne;have u:=H.count;rw[H.flat]at c;have⟨x,d,p,q,r⟩:=uX H k jJ D i b a j n (by rw[bC];omega);unfold pW;dsimp only;rw[p];rcases r with⟨e,rfl,K⟩|⟨o,v,B,rfl,K,w,y,z⟩
  .grind
  .exact⟨_,_,rfl,q,.inr ⟨o,_,rfl,by grind,f,l,m,j,H,K,by omega,by grind⟩⟩
inductive jH(C:Prop)(fl:Bs->XB Bs)(M:Xn ay):Xn (ay×It)->Xn (Xn ay)->Prop
 | nil:jH C fl M [] []
 | cons {h:ay×It} {r:Xn ay} {hs:Xn (ay×It)} {Rs:Xn (Xn ay)}:Ec C fl M h.2 r->iz (h.1::r)->jH C fl M hs Rs->jH C fl M (h::hs) ((h.1::r)::Rs)
inductive qw(C:Prop)(fl:Bs->XB Bs)(M:Xn ay):Xn It->Xn (Xn ay)->Prop
 | nil:qw C fl M [] []
 | cons {it:It} {r:Xn ay} {its:Xn It} {Rs:Xn (Xn ay)}:Ec C fl M it r->iz r->qw C fl M its Rs->qw C fl M (it::its) (r::Rs)
variable{fl:Bs->XB Bs}
def jH.app{a b:Xn (ay×It)}{A B:Xn (Xn ay)}(h:jH C fl M a A)(k:jH C fl M b B):jH C fl M (a++b) (A++B):=by
 induction h with
 | nil=>exact k
 | cons H c _ i=>exact .cons H c i
def jH.split:∀{a:Xn (ay×It)} {h:ay×It} {b:Xn (ay×It)} {i:Xn (Xn ay)},jH C fl M (a++h::b) i ->
 ∃c r d,i=c++(h.1::r)::d/\jH C fl M a c/\Ec C fl M h.2 r/\iz (h.1::r)/\jH C fl M b d
 | [],h,b,_,.cons H f g=>⟨[],_,_,rfl,.nil,H,f,g⟩
 | x::a,h,b,_,.cons H f g=>by
  have⟨c,r,d,e,k,K,j,l⟩:=jH.split g;exact⟨_::c,r,d,by grind,.cons H f k,K,j,l⟩
variable {hs:Xn (ay×It)} {Rs:Xn (Xn ay)}
def jH.least (h:jH C fl M hs Rs):∀x∈Rs.flatten,∃p∈hs,p.1=x\/less p.1 x=true:=by
 induction h with
 | nil=>intro x H;cases H
 | cons a b _ i=>
  intro x H;rcases Xy.1 H with H|H
  .refine⟨_,XC,?_⟩;rcases XW.1 H with rfl|H
   .grind
   simp_all
  grind
def jH.mem (h:jH C fl M hs Rs):∀p∈hs,p.1∈Rs.flatten:=by
 induction h with
 | nil=>intro x H;cases H
 | cons a b _ i=>
  grind
def Ed(hs:Xn ay):∀n,(n=0\/iU hs n<n)/\∀j,j<n->less (hs.getD j default) (hs.getD (iU hs n) default)=false
 | 0=>⟨.inl rfl,λj h=>by omega⟩
 | n+1=>by
  have⟨b,c⟩:=Ed hs n;have e:iU hs (n+1)=if less (hs.getD n default) (hs.getD (iU hs n) default)=true then n else iU hs n:=by
   unfold iU;rw[List.range_succ,Zq];rfl
  rw[e];by_cases H:less (hs.getD n default) (hs.getD (iU hs n) default)=true
  .rw[XE H];refine⟨by grind,λj d=>?_⟩;by_cases a:j=n
   .rw[a];exact lL _
   .have:=c j (by omega);cases f:less _ _ with
    | false=>rfl
    | true=>rw[mH f H]at this;cases this
  .rw[Xx H];refine⟨.inr ?_,λj d=>?_⟩
   .rcases b with rfl|b
    .show iU hs 0<1;exact abu
    omega
   grind
def GI{i:Xn It}{f:Xn (Xn ay)}(h:qw C (file D) M i f):∀{D':ad} {acc:Xn (ay×It)} {a:Xn (Xn ay)},eZ D D'->jH C (file D) M acc a ->
 ∃x d,nU M i acc D'=some (x,d)/\eZ D d/\((∃e,x=.error e/\Ea C D e)\/∃hs Rs,x=.ok hs/\jH C (file D) M hs Rs/\Rs.flatten=a.flatten++f.flatten):=by
 induction h with
 | nil=>intro D' acc a H c;exact⟨_,_,rfl,H,.inr ⟨acc,a,rfl,c,by simp⟩⟩
 | @cons u r i Rs j l v g=>
  intro D' acc a H c;have b:=ZQ H.file;obtain⟨x,d,m,K,n⟩:=uY H.later.ok (by rw[b];exact j);rw[nU,m];rcases n with⟨e,rfl,k⟩|⟨o,I,rfl,rfl,k⟩
  .exact⟨_,_,rfl,H.trans K,.inl ⟨e,rfl,k.before H.later⟩⟩
  .rw[b]at k;cases r with
   | nil=>
    obtain⟨x,p,q,s,t⟩:=g (H.trans K) c
    grind
   | cons e r=>
    obtain⟨x,p,q,s,t⟩:=g (acc:=acc++[(e,I)]) (H.trans K) (c.app (.cons k l .nil))
    grind
def wX(C:Prop)(fl:Bs->XB Bs)(M:Xn ay)(g:Mg)(R:Xn ay):Prop:=
 if g.started=true then∃ Rs,jH C fl M g.heads Rs/\R.Perm Rs.flatten
 else g.heads=[]/\g.rows.length<=1099511627776/\∃Rs,qw C fl M g.rows Rs/\R.Perm Rs.flatten
variable {g:Mg}
def GJ (H:D.Ok) (h:wX C (file D) M g R):
 ∃x d,Cs M D g=some (x,d)/\eZ D d/\((∃e,x=.error e/\Ea C D e)\/∃hs Rs,x=.ok hs/\jH C (file D) M hs Rs/\R.Perm Rs.flatten):=by
 unfold wX at h;unfold Cs;split at h
 .rename_i hs;have⟨Rs,a,b⟩:=h;rw[XE hs];exact⟨_,_,rfl,eZ.refl H,by grind⟩
 .rename_i hs;have⟨c,f,Rs,a,b⟩:=h;rw[Xx hs,XE (by rw[bC];exact f),c];have⟨x,d,k,K,i⟩:=GI a (eZ.refl H) (jH.nil)
  grind
def Mx {rows:Xn It} (z:D.Ok) (n:jH C (file D) M hs Rs) (N:iz R) (a:R.Perm Rs.flatten):
 ∃x s,Mr M D rows hs=some (x,s)/\eZ D s/\((∃e,x=.error e/\Ea C D e)\/∃o g,x=.ok (o,g)/\o=R.head?/\wX C (file D) M g R.tail):=by
 unfold Mr;cases hs with
 | nil=>
  cases n;have:R=[]:=List.Perm.eq_nil (by simpa using a);subst this;exact⟨_,_,rfl,eZ.refl z,.inr ⟨none,⟨true,rows,[]⟩,rfl,rfl,[],.nil,by simp⟩⟩
 | cons c d=>
  obtain⟨Y,O⟩:=Ed ((c::d).map (·.1)) (c::d).length;have q:iU ((c::d).map (·.1)) (c::d).length<(c::d).length:=by
   grind
  generalize iU ((c::d).map (·.1)) (c::d).length=b at q O;generalize P:c::d=hs at *;have H:hs=hs.take b++hs[b]::hs.drop (b+1):=by rw[<- XX q,X9]
  have t:(hs.take b).length=b:=by rw[Yb];omega
  generalize hs.take b=A at H t;generalize hs.drop (b+1)=B at H;rw[Xq q];have Q:hs[b]∈hs:=ZA q;have i:∀p∈hs,less p.1 hs[b].1=false:=by
   intro p a;obtain⟨j,Z,rfl⟩:=Zb.1 a
   grind
  generalize hs[b]=h at *;have k:=n;rw[H]at k;obtain⟨u,r,v,e,K,S,T,F⟩:=k.split;have l:h.1∈R:=a.mem_iff.2 (n.mem h Q);obtain⟨R',rfl⟩:∃R',R=h.1::R':=by
   cases R with
   | nil=>cases l
   | cons x R'=>
    refine⟨R',?_⟩;rcases XW.1 l with w|w
    .rw[w]
    .have U:=(X1.1 N).1 _ w;obtain⟨p,y,f⟩:=n.least x (a.mem_iff.1 XC);have G:=i p y;rcases f with rfl|f
     .grind
     .rw[mH f U]at G;cases G
  have m:R'.Perm (u.flatten++(r++v.flatten)):=by
   rw[e]at a;simp only[YN,Yd,List.cons_append]at a;exact(a.trans List.perm_middle).cons_inv
  dsimp only;obtain⟨x,s,V,J,W⟩:=uY (C:=C) (M:=M) z S;rw[V];rcases W with⟨e',rfl,L⟩|⟨o,I,rfl,rfl,L⟩
  .grind
  .cases r with
   | nil=>
    refine⟨_,_,rfl,J,.inr ⟨_,_,rfl,rfl,?_⟩⟩;rw[wX,XE rfl];refine⟨u++v,?_,by simpa using m⟩;have:hs.eraseIdx b=A++B:=by rw[H,<- t,List.eraseIdx_append_of_length_le (XD _)];simp
    rw[this];exact K.app F
   | cons E X=>
    refine⟨_,_,rfl,J,.inr ⟨_,_,rfl,rfl,?_⟩⟩;unfold wX;rw[XE rfl];refine⟨u++(E::X)::v,?_,by simpa using m⟩;have:hs.set b (E,I)=A++(E,I)::B:=by rw[H,<- t];simp
    rw[this];exact K.app (.cons L (X1.1 T).2 F)
def J6 (a:D.Ok) (b:iz R) (h:wX C (file D) M g R):
 ∃x d,DX M D g=some (x,d)/\eZ D d/\((∃e,x=.error e/\Ea C D e)\/∃o G,x=.ok (o,G)/\o=R.head?/\wX C (file D) M G R.tail):=by
 have⟨x,q,c,k,f⟩:=GJ a h;unfold DX;rw[c];rcases f with⟨e,rfl,K⟩|⟨hs,Rs,rfl,K,i⟩
 .grind
 .have H:=ZQ k.file;rw[<- H]at K;obtain⟨x,j,l,n,m⟩:=Mx k.later.ok K b i;refine⟨x,j,l,k.trans n,?_⟩;rcases m with⟨e,m,p⟩|m
  .exact .inl ⟨e,m,p.before k.later⟩
  grind
def GK(C:Prop)(fl:Bs->XB Bs)(M:Xn ay):Nx->Xn ay->Prop
 | .one i,R=>Ec C fl M i R
 | .mg g,R=>wX C fl M g R
def J7 {n:Nx} (H:D.Ok) (c:iz R) (h:GK C (file D) M n R):
 ∃x d,wj M D n=some (x,d)/\eZ D d/\((∃e,x=.error e/\Ea C D e)\/∃o N,x=.ok (o,N)/\o=R.head?/\GK C (file D) M N R.tail):=by
 cases n with
 | one I=>
  have⟨x,d,b,a,k⟩:=uY H h;unfold wj;dsimp only;rw[b];rcases k with⟨e,rfl,K⟩|⟨o,i,rfl,k,K⟩
  .exact⟨_,_,rfl,a,.inl ⟨e,rfl,K⟩⟩
  .exact⟨_,_,rfl,a,.inr ⟨o,.one i,rfl,k,K⟩⟩
 | mg g=>
  have⟨x,d,b,a,k⟩:=J6 H c h;unfold wj;dsimp only;rw[b];rcases k with⟨e,rfl,K⟩|⟨o,i,rfl,k,K⟩
  .exact⟨_,_,rfl,a,.inl ⟨e,rfl,K⟩⟩
  .exact⟨_,_,rfl,a,.inr ⟨o,.mg i,rfl,k,K⟩⟩
def uZ{σ:Type}{body:σ->ay->XB (σ×XN)}{g:σ->ay->σ×XN}{Sz:Nat->σ->Prop}{N:Nat}(h:∀k s e,k<=N->Sz k s->body s e=some (g s e)/\Sz (k+1) (g s e).1) :
 ∀(R:Xn ay) (f k:Nat) (n:Nx) (D:ad) (s:σ),D.Ok->iz R->GK C (file D) M n R->R.length<f->k+R.length<=N->Sz k s ->
 ∃S o d j,sd M body f n D s=some (S,o,d)/\eZ D d/\j<=k+R.length/\Sz j S/\((∃e,o=some e/\Ea C D e)\/(o=none/\S=sb g R s))
 | R,0,k,n,D,s,_,_,_,b,_,_=>by omega
 | R,f+1,k,n,D,s,i,c,l,b,p,hs=>by
  have⟨x,q,r,K,t⟩:=J7 i c l;rw[sd,r];rcases t with⟨e,rfl,u⟩|⟨o,v,rfl,rfl,u⟩
  .exact⟨_,_,_,k,rfl,K,by omega,hs,by grind⟩
  .cases R with
   | nil=>exact⟨_,_,_,k,rfl,K,by omega,hs,.inr ⟨rfl,rfl⟩⟩
   | cons e R=>
    simp at b p;have⟨w,B⟩:=h k s e (by omega) hs;dsimp only[List.head?_cons];rw[w];have y:=ZQ K.file;cases z:(g s e).2 with
    | true=>
     have H:g s e=((g s e).1,true):=by grind
     rw[H];have⟨S,o,A,j,E,F,J,G,m⟩:=uZ h R f _ v q (g s e).1 K.later.ok (X1.1 c).2 (by grind) (by omega) (by omega) B;refine⟨S,o,A,j,E,K.trans F,by grind,G,?_⟩;rcases m with⟨I,m,a⟩|⟨m,a⟩
     .exact .inl ⟨I,m,a.before K.later⟩
     .exact .inr ⟨m,by rw[a];show _=sb g _ s;rw[sb,XE z]⟩
    | false=>
     have H:g s e=((g s e).1,false):=by grind
     rw[H];refine⟨_,_,_,k+1,rfl,K,by simp,B,.inr ⟨rfl,?_⟩⟩;rw[sb,Xx (by grind)]
end
def AQ(e:ay):dz (bX e)=dz e:=by
 unfold dz;rw[mA,uL,AP];cases h:e.del with
 | true=>simp
 | false=>simp[bX,h]
def xY(c:Xn ay):iq (c.map bX)=iq c:=by
 unfold iq;rw[Zv];congr 1;exact Y2 λe _=>AQ e
def A3(c:Xn ay):mP (c.map bX)=mP c:=by unfold mP;rw[xY]
def qx(l:Xn ay):eG (l.map bX)=eG l:=by cases l<;>simp[eG]
def xZ(l:Xn ay):jQ (l.map bX)=jQ l:=by
 unfold jQ;rw[List.getLast?_map];cases l.getLast?<;>simp
def GL(cs:Xn (Xn ay)):bN (cs.map (·.map bX))=bN cs:=by
 unfold bN;rw[Zv];congr 1;exact Y2 λc _=>A3 c
def pg:∀(cs:Xn (Xn ay)) (a:Nat),bP a (cs.map (·.map bX))=bP a cs
 | [],_=>rfl
 | c::cs,a=>by simp[bP,qx,A3,pg cs]
def GM(l:Xn ay)(cs:Xn (Xn ay)):fB (l.map bX) (cs.map (·.map bX))=fB l cs:=by
 unfold fB;rw[GL,qx,xZ,pg,XT]
def J8(a b:ay):less (bX a) (bX b)=less a b:=by unfold less;simp
variable {l:Xn ay}
def Ee (h:iz l):iz (l.map bX):=
 ZI.2 (h.imp λ{a b} H=>by rw[J8];exact H)
def Ai(b:Bs×Nat×Nat):Bs:=aX b.1++bA b.2.1 4++bA b.2.2 4
def Ef(b:Bs×Nat×Nat):(Ai b).length=b.1.length+9:=by simp[Ai]
def ya(a b:Bs)(n:Nat)(bs:Xn (Bs×Nat×Nat)):jP a b n bs=aX a++(aX b++(bA n 4++(bs.map Ai).flatten)):=by
 unfold jP Ai;rw[XS,XS]
def yb:∀(bs:Xn (Bs×Nat×Nat)) (f:Nat),(∀b∈bs,b.1.length<=255/\b.2.1<4294967296/\b.2.2<4294967296)->bs.length<=f->xR f ⟨(bs.map Ai).flatten,false⟩=(bs,false)
 | [],0,_,_=>rfl
 | [],f+1,_,_=>rfl
 | b::bs,0,_,h=>by grind
 | b::bs,f+1,H,h=>by
  have⟨a,d,g⟩:=H b XC;have e:((b::bs).map Ai).flatten=aX b.1++(bA b.2.1 4++(bA b.2.2 4++(bs.map Ai).flatten)):=by simp[Ai]
  unfold xR;rw[e,XE ⟨by intro c;simp[aX]at c,rfl⟩,ql a,nz (by omega),nz (by omega),yb bs f (λx i=>H x (by grind)) (by grind)]
def GN(bs:Xn (Bs×Nat×Nat)):bs.length<=(bs.map Ai).flatten.length:=by
 induction bs with
 | nil=>simp
 | cons b r i=>
  have:=Ef b
  grind
def Eg{bs:Xn (Bs×Nat×Nat)}(h:∀b∈bs,b.1.length<=8):(bs.map Ai).flatten.length<=17*bs.length:=by
 induction bs with
 | nil=>simp
 | cons b r i=>
  have H:=Ef b
  grind
section
variable{l:Xn ay}{cs:Xn (Xn ay)}{nm:Bs}
def yc(h:∀e∈l,qm e):(eG l).length<=8:=by
 cases l with
 | nil=>simp[eG]
 | cons e r=>exact(h e XC).key
def A4(H:∀e∈l,qm e):(jQ l).length<=8:=by
 unfold jQ;cases h:l.getLast? with
 | none=>simp
 | some e=>exact(H e (by grind)).key
def u1(g:cs.flatten=l)(H:∀c∈cs,c≠[])(d:∀e∈l,qm e)(a:l≠[])(n:l.length<=10000) :
 (fB l cs).length<=130*l.length/\l.length<=(fB l cs).length/\(bN cs).length<=46*l.length/\(jP (eG l) (jQ l) l.length (bP 0 cs)).length<=22+17*l.length:=by
 have h:∀e∈cs.flatten,qm e:=by grind
 have f:=oC H h;have i:=mB H;rw[g]at f i;have o:=yc d;have p:=A4 d;have j:=Eg λb k=>(lE H h (by rw[X0];omega) b k).1;rw[jf]at j;have q:=Yi.2 a;have m:(jP (eG l) (jQ l) l.length (bP 0 cs)).length<=22+17*l.length:=by
  rw[ya];simp only[Xu,dP,aI];omega
 have s:l.length<=(bN cs).length:=by
  have K:∀cs:Xn _,cs.flatten.length<=(bN cs).length:=by
   intro cs
   induction cs with
   | nil=>simp
   | cons c r I=>
    have:=D9 c;simp[bN,mP]at I |-;omega
  grind
 refine⟨?_,?_,f,m⟩
 .unfold fB;simp;omega
 .unfold fB;simp;omega
def J9(k:cs.flatten=l)(f:∀c∈cs,c≠[])(g:∀e∈l,qm e)(m:l≠[])(o:l.length<=10000) :
 Iz nm (jP (eG l) (jQ l) l.length (bP 0 cs))=.ok ⟨nm,eG l,jQ l,l.length,bP 0 cs⟩:=by
 have H:∀e∈cs.flatten,qm e:=by grind
 have n:=oC f H;rw[k]at n;have p:=lE f H (by rw[X0];omega);have q:=yc g;have r:=A4 g;unfold Iz;dsimp only;have i:=GN (bP 0 cs);have a:cs≠[]:=by grind
 have d:bP 0 cs≠[]:=by intro h;have:=Zu List.length h;rw[jf]at this;exact a (by grind)
 have j:=yb (bP 0 cs) (jP (eG l) (jQ l) l.length (bP 0 cs)).length (λb s=>by grind) (by
  rw[ya];simp only[Xu];omega)
 generalize t:(jP _ _ l.length _).length=L at j;rw[ya,ql (by omega)];dsimp only;rw[ql (by omega)];dsimp only;rw[nz (by omega)];dsimp only;rw[j];simp[d]
def Ka(f:cs.flatten=l)(g:∀c∈cs,c≠[])(i:∀e∈l,qm e)(a:l≠[])(j:l.length<=10000) :
 IC nm (fB l cs)=some (.ok ⟨nm,eG l,jQ l,l.length,bP 0 cs⟩):=by
 have⟨n,p,q,k⟩:=u1 f g i a j;have r:(bN cs).length<4294967296:=by omega
 have d:my (bA (bN cs).length 8)=(bN cs).length:=by rw[xI];exact YY (by omega)
 generalize h:jP _ _ l.length _=L at k;have H:(fB l cs).length=(bN cs).length+(12+L.length)+20:=by
  unfold fB;rw[h];simp only[Xu,dM,aI]
 have E:iL (fB l cs) (((fB l cs).length:Int)-20) 20=aA (bA (bN cs).length 8):=by
  have:=uW (bN cs++aA L) (aA (bA (bN cs).length 8)) [];rw[Yj]at this;rw[show((fB l cs).length:Int)-20=((bN cs++aA L).length:Int)by rw[H];simp only[Xu,dM];omega,
   show(20:Int)=((aA (bA (bN cs).length 8)).length:Int)by simp]
  unfold fB;rw[h];exact this
 have m:iL (fB l cs) ((bN cs).length:Int) (((fB l cs).length:Int)-20-((bN cs).length:Int))=aA L:=by
  have:=uW (bN cs) (aA L) (aA (bA (bN cs).length 8));rw[show((fB l cs).length:Int)-20-((bN cs).length:Int)=((aA L).length:Int)by rw[H];simp;omega];unfold fB;rw[h];exact this
 have o:bF (aA (bA (bN cs).length 8))=some (bA (bN cs).length 8,[]):=by
  have:=uM (b:=bA (bN cs).length 8) (by simp) []
  grind
 have O:bF (aA L)=some (L,[]):=by
  have:=uM (b:=L) (by omega) []
  grind
 unfold IC;rw[E,o];dsimp only;rw[Xx (by simp),d,Xx (by omega),m,O];dsimp only;rw[XE (by rw[bC,dM];omega),<- h,J9 f g i a j]
def My(d:cs.flatten=l)(f:∀c∈cs,c≠[])(a:cs.Pairwise Ah)(k:iz l)(i:∀e∈l,qm e/\bX e=e)(h:l≠[])(m:l.length<=99)(n:∀c∈cs,(mP c).length<=512) :
 rW False (fB l cs) ⟨nm,eG l,jQ l,l.length,bP 0 cs⟩ l cs:=by
 have H:=λe o=>(i e o).1;have⟨p,s,t,u⟩:=u1 d f H h (by omega);refine⟨d,f,a,h,k,i,rfl,.inr rfl,.inl (Ka d f H h (by omega)),p,m,n,λA c B e=>.inl ?_⟩;have q:=uW (bN A) (mP c) (bN B++(aA (jP (eG l) (jQ l) l.length (bP 0 cs))++aA (bA (bN cs).length 8)));have E:fB l cs=bN A++mP c++(bN B++(aA (jP (eG l) (jQ l) l.length (bP 0 cs))++aA (bA (bN cs).length 8))):=by
  unfold fB;have:bN cs=bN A++mP c++bN B:=by rw[e,A2];simp[bN]
  conv=>lhs;rw[this]
  simp;rw[this];simp
 rw[E,q];have g:∀x∈c,x∈l:=λx j=>by grind
 have r:c.length<=l.length:=by rw[<- d,e];simp;omega
 have:=uM (b:=iq c) (by have:=oB λx j=>H x (g x j);omega) [];rwa[Yj]at this
end
def yd [DecidableEq α]:∀{a b:Xn α},a.Nodup->(∀x∈a,x∈b)->a.length<=b.length
 | [],_,_,_=>XR _
 | x::a,b,h,c=>by
  have⟨d,H⟩:=ZF.1 h;have:=yd (b:=b.erase x) H λy e=>by
   grind
  grind
def Kb (h:iz l):l.Nodup:=h.imp λ{a b} H e=>by rw[e,lL]at H;cases H
def pY(k:Bs)(l:Xn ay):Xn ay:=l.filter λe=>decide (e.key=k)
variable {bt:XN}
def Eh {M:Xn Nat} (hl:iz l) (k:Bs):(pY k (dC M bt l)).length<=M.length:=by
 have H:(pY k (dC M bt l)).Nodup:=(Kb (ox hl)).sublist Zg;have d:=yd (b:=M.filterMap (jL l k)) H λe a=>by
  have⟨h,c⟩:=YS.1 a;have⟨m,f,g⟩:=YR.1 ((xK.1 (JU h)).2)
  grind
 grind
def tw(m:Xn Nat)(bt:XN)(l:Xn ay):(dC m bt l).length<=l.length:=(gW m bt l).length_le
def A5{σ:Type}(g:σ->ay->σ):∀(l:Xn ay) (s:σ),sb (λs e=>(g s e,true)) l s=l.foldl g s
 | [],_=>rfl
 | e::l,s=>by rw[sb,XE rfl,YI];exact A5 g l _
def Ei:∀(n:Nat) (l:Xn ay),(dS n l).length<=l.length
 | 0,_=>XD _
 | n+1,l=>by
  unfold dS;split
  .split
   .have:=Ei n l.dropLast
    grind
   omega
  omega
def GO(m:Xn Nat)(bt:XN)(s:Kp)(e:ay):(nB m bt s e).out.length+(nB m bt s e).same.length<=s.out.length+s.same.length+1:=by
 have h:∀s:Kp,(im bt s).out.length+(im bt s).same.length<=s.out.length+s.same.length:=by
  intro s;unfold im;have:=Ei s.same.length s.same
  grind
 unfold nB
 grind
variable {C:Prop} {D:ad}
def A6 {s:St} {nx:Nx} {R:Xn ay} (a:D.Ok) (h:iz R) (b:GK C (file D) s.mem nx R) (hl:R.length<=1073741824) (c:s.snaps.length<=8):
 ∃x d,wm s D nx bt=some (x,d)/\eZ D d/\((∃e,x=.error e/\Ea C D e)\/x=.ok (dC (aJ s) bt R)):=by
 obtain⟨S,o,d,j,f,g,i,m,H⟩:=uZ (body:=DZ (aJ s) bt) (Sz:=λk (s:Kp)=>s.out.length+s.same.length<=k) (N:=1073741824)
  (λk S e n c=>⟨by unfold DZ;rw[XE (by rw[bC];omega)],by have:=GO (aJ s) bt S e;dsimp only;omega⟩) R jJ 0 nx D Mm a h b (by rw[bC];omega) (by omega) (by simp[Mm])
 unfold wm;rw[Xx (by omega),f];rcases H with⟨e,rfl,H⟩|⟨rfl,rfl⟩
 .dsimp only;rw[XE (by rw[bC];omega)]
  grind
 .dsimp only;rw[XE (by rw[bC];omega)];refine⟨_,_,rfl,g,.inr ?_⟩;rw[A5,Qi h]
def A7(C:Prop)(D:ad)(e:eX):Prop:=Ea C D e\/(e.2=9/\D.room<1099511627776)
variable {e:eX}
def A7.before {D':ad} (h:dU D D') (k:A7 C D' e):A7 C D e:=by
 rcases k with k|k
 .exact .inl (k.before h)
 .exact .inr ⟨k.1,by rw[<- h.room];exact k.2⟩
def A7.of (h:xS D e):A7 C D e:=.inl (.inl h)
def A7.mono {c:Prop} (H:C->c) (h:A7 C D e):A7 c D e:=h.imp (λh=>h.imp id λh=>⟨H h.1,h.2⟩) id
variable {a b:Nat}
def fC (h:dv a=dv b) (H:a<=9223372036854775808) (c:b<=9223372036854775808):a=b:=
 Iv (by omega) (by omega) (abc h)
def ye (h:cJ a=cJ b) (H:a<=9223372036854775808) (c:b<=9223372036854775808):a=b:=
 Iv (by omega) (by omega) (abc h)
def lq(a b:Nat):dv a≠cJ b:=by unfold dv cJ;intro h;simp at h
def j9(a:Nat):dv a≠aM:=by unfold dv aM;intro h;simp at h
def nD(a:Nat):dv a≠aQ:=by unfold dv aQ;intro h;simp at h
def gY(a:Nat):cJ a≠aM:=by unfold cJ aM;intro h;simp at h
def mC(a:Nat):cJ a≠aQ:=by unfold cJ aQ;intro h;simp at h
def lN:aQ≠aM:=by decide
def Mz(a:Nat):cJ a≠[]:=by unfold cJ;simp
def SA {c:Xn ay} {cs:Xn (Xn ay)} (d:∀e∈l,qm e) (f:∀k,(pY k l).length<=5) (g:cs.flatten=l) (i:c∈cs) (h:VU c):(aA (iq c)).length<=512:=by
 obtain⟨a,b,rfl,o,p⟩:=h;have H:(a++b).Sublist l:=by rw[<- g];exact List.sublist_flatten_of_mem i
 have q:=oB λe j=>d e (H.subset (Yl _ j));have s:b.length<=5:=by
  cases b with
  | nil=>simp
  | cons e r=>
   have m:pY e.key _=e::r:=YM.2 λx t=>by grind
   have n:=f e.key;unfold pY at m n
   grind
 rw[dM,J2,Xu];omega
def GP {name:Bs} (B:D.Ok) (E:file D name=none) (hm:D.moves.length<=1099511627776) (Q:iz l) (z:∀e∈l,qm e) (V:l.length<=99) (W:∀k,(pY k l).length<=5) (j:l≠[]) (F:D.used+130*l.length<=1099511627776):
 ∃x n,qo D name l=some (x,n)/\dU D n/\(∀m,m≠name->file n m=file D m)/\n.moves.length<=D.moves.length+1/\n.used<=D.used+130*l.length /\
  ((∃e,x=.error e/\A7 False D e)\/∃T f d,x=.ok T/\T.name=name/\file n name=some f/\rW False f T (l.map bX) d):=by
 obtain⟨d,G,p,q,I,J⟩:=Ql Q z (by omega) j;obtain⟨X,Z,aa,ab⟩:=u1 G p z j (by omega);unfold qo;rw[J];dsimp only;rw[XE (by rw[bC];exact hm)];cases o:iu D name with
 | some e=>
  obtain⟨K,H⟩:=sK B o;rw[K];have s:=eZ.tick B;refine⟨_,_,rfl,s.later,λm _=>s.file m,by simp,by simp,.inl ⟨e,rfl,?_⟩⟩;rcases H with H|⟨_,H⟩
  .exact .of H
  grind
 | none=>
  obtain⟨_,c2,c3,g,c5⟩:=uS B o;have r:file (cI D name) name=some []:=by grind
  cases R:dT (cI D name) name (fB l d)with
  | some e=>
   obtain⟨K,H⟩:=sL g.ok R r;rw[K];have s:=eZ.tick g.ok;refine⟨_,_,rfl,g.trans s.later,λm hm=>by rw[s.file,c2,Xx hm],by rw[s.moves];omega,by rw[s.used];omega,.inl ⟨e,rfl,?_⟩⟩;rcases H with H|⟨H,h3⟩
   .exact .of (H.before g)
   .refine .inr ⟨H,?_⟩;rw[<- g.room];omega
  | none=>
   obtain⟨b,S,a2,a3,A,a5,a6⟩:=uT g.ok R;rw[r]at S;cases S;rw[List.nil_append]at a2;have t:file (bG (cI D name) name (fB l d)) name=some (fB l d):=by grind
   obtain⟨y1,y2,Y,y4⟩:=xU A.ok name;have h:∀m,m≠name->file (je (bG (cI D name) name (fB l d)) name) m=file D m:=λm hm=>by grind
   have u:(je (bG (cI D name) name (fB l d)) name).moves.length<=D.moves.length+1:=by rw[y4,a5,c5];omega
   have v:(je (bG (cI D name) name (fB l d)) name).used<=D.used+130*l.length:=by omega
   rcases ln t with w|⟨e,w,J⟩
   .rw[w];refine⟨_,_,rfl,(g.trans A).trans Y,h,u,v,.inr ⟨_,fB l d,d.map (·.map bX),rfl,rfl,by rw[y1];exact t,?_⟩⟩;have:=My (nm:=name) (by rw[<- G,abd]) (λc o=>by
     obtain⟨L,i,rfl⟩:=XA.1 o;simp[p L i]) (ZI.2 (q.imp λ{a b} M x hx y hy=>by
     obtain⟨x',N,rfl⟩:=XA.1 hx;obtain⟨y',O,rfl⟩:=XA.1 hy;rw[mA,mA];exact M x' N y' O)) (Ee Q) (λe w=>by
     obtain⟨U,P,rfl⟩:=XA.1 w;exact⟨(z U P).norm,Gz U⟩) (by simp[j]) (by simpa using V) (λc o=>by
     obtain⟨L,i,rfl⟩:=XA.1 o;rw[mP,xY];exact SA z W G i (I L i))
    rw[GM,qx,xZ,pg,XT]at this;omega
   .rw[w];exact⟨_,_,rfl,(g.trans A).trans Y,h,u,v,.inl ⟨e,rfl,.of (J.before (g.trans A))⟩⟩
theorem Ej(l:Xn ay):∀(f n:Nat),n<=l.length->l.length<=n+f->n<=qe l f n/\qe l f n<=l.length/\(qe l f n<l.length->(l.getD (qe l f n) default).key≠(l.getD (qe l f n-1) default).key) /\
 ∀j,n<=j->j<qe l f n->(l.getD j default).key=(l.getD (j-1) default).key
 | 0,n,h,c=>⟨XD _,h,λd=>by simp[qe]at d;omega,λj g H=>by simp[qe]at H;omega⟩
 | f+1,n,h,c=>by
  unfold qe;by_cases i:n<l.length/\(l.getD n default).key=(l.getD (n-1) default).key
  .have⟨g,H,k,m⟩:=Ej l f (n+1) (by omega) (by omega)
   grind
  grind
variable {K:Nat}
def MA (hne:l≠[]) (u:iz l) (E:∀k,(pY k l).length<=K) (v:1<=K):1<=nW l/\nW l<=l.length/\nW l<=94+K/\Ah (l.take (nW l)) (l.drop (nW l)):=by
 have hlen:0<l.length:=Yi.2 hne;obtain⟨w,s,t,H⟩:=Ej l l.length (min l.length 95) (Nat.min_le_left _ _) (by omega);unfold nW;generalize qe l l.length (min l.length 95)=m at w s t H;refine⟨by omega,s,?_,?_⟩
 .by_cases F:m<=95
  .omega
  .have z:min l.length 95=95:=by omega
   rw[z]at H;have hkey:∀j,94<=j->j<m->(l.getD j default).key=(l.getD 94 default).key:=by
    intro j
    induction j with
    | zero=>intro h;omega
    | succ j I=>
     intro G A;by_cases c:j+1=94
     .rw[c]
     .rw[H (j+1) (by omega) A];exact I (by omega) (by omega)
   have hsub:((l.drop 94).take (m-94)).Sublist (pY (l.getD 94 default).key l):=by
    have e:pY (l.getD 94 default).key ((l.drop 94).take (m-94))=(l.drop 94).take (m-94):=by
     refine YM.2 λx d=>?_;obtain⟨i,f,rfl⟩:=Zb.1 d;simp only[Yb,Y1]at f;have:=hkey (94+i) (by omega) (by omega)
     grind
    rw[<- e];exact((List.take_sublist _ _).trans (List.drop_sublist _ _)).filter _
   grind
 .intro x d y g;have hml:m<l.length:=by
   by_cases h:m<l.length
   .exact h
   .rw[Ym (by omega)]at g;cases g
  have n:=t hml;rw[aaM,aaM,Xq hml,Xq (by omega)]at n;simp only[Z8]at n;have hget:=aaa.1 u;obtain⟨i,f,rfl⟩:=Zb.1 d;obtain⟨j,c,rfl⟩:=Zb.1 g;simp only[Yb]at f;simp only[Y1]at c;simp only[List.getElem_take,List.getElem_drop];have B:aO (l[m-1]'(by omega)).key l[m].key=true:=by
   rcases bZ.1 (hget (m-1) m (by omega) hml (by omega))with h|h
   .exact h
   .exact XG h.1.symm n
  have o:aO (l[m-1]'(by omega)).key (l[i]'(by omega)).key=false:=by
   by_cases p:i=m-1
   .subst p;exact aP _
   .rcases bZ.1 (hget i (m-1) (by omega) (by omega) (by omega))with h|h
    .exact cX h
    .rw[h.1];exact aP _
  have q:aO (l[m+j]'(by omega)).key l[m].key=false:=by
   by_cases r:j=0
   .subst r;exact aP _
   .rcases bZ.1 (hget m (m+j) (by omega) (by omega) (by omega))with h|h
    .exact cX h
    .rw[h.1];exact aP _
  exact sD (sa o B) q
structure Kc(K num num2:Nat)(l:Xn ay)(ls:Xn (dB×Xn ay))(fl0 fl:Bs->XB Bs):Prop where
 ents:(ls.map (·.2)).flatten=l.map bX
 cnt:num<=num2/\num2<=num+l.length
 names:∀p∈ls,∃k,num<k/\k<=num2/\p.1.name=dv k
 nodup:(ls.map (·.1.name)).Nodup
 on:∀p∈ls,∃f cs,fl p.1.name=some f/\rW False f p.1 p.2 cs
 sep:ls.Pairwise λa b=>Ah a.2 b.2
 few:∀p∈ls,p.2.length<=94+K
 known:∀m,fl m≠none->fl0 m≠none\/m∈ls.map (·.1.name)
def u4 (q:1<=K) (t:K<=5):∀(f num:Nat) (D:ad) (l:Xn ay) (acc:Xn dB),D.Ok->iz l->(∀e∈l,qm e)->(∀k,(pY k l).length<=K)->l.length<=f->num+l.length<=4611686018427387904->acc.length+l.length<=1099511627776 ->
 D.moves.length+l.length<=1099511627776->D.used+130*l.length<=1099511627776->(∀k,num<k->k<=num+l.length->file D (dv k)=none) ->
 ∃x j,mL f num D l acc=some (x,j)/\dU D j/\j.moves.length<=D.moves.length+l.length/\j.used<=D.used+130*l.length/\(∀m,(∀k,num<k->k<=num+l.length->m≠dv k)->file j m=file D m) /\
  ((∃e,x=.error e/\A7 False D e)\/∃N L,x=.ok (acc++L.map (·.1),N)/\Kc K num N l L (file D) (file j))
 | f,num,D,[],acc,G,o,i,u,M,X,I,c,Y,g=>by
  refine⟨.ok (acc,num),D,by cases f<;>rfl,dU.refl G,by simp,by simp,λm _=>rfl,.inr ⟨num,[],by simp,?_⟩⟩;refine⟨rfl,by simp,by simp,by simp,by simp,by simp,by simp,λm c=>.inl c⟩
 | 0,num,D,e::r,acc,G,o,i,u,M,X,I,c,Y,g=>by simp at M
 | f+1,num,D,e::r,acc,G,o,i,u,M,X,I,c,Y,g=>by
  unfold mL;generalize hl:e::r=l at *;have v:l≠[]:=by rw[<- hl];simp
  have Z:0<l.length:=Yi.2 v;rw[XE ⟨by omega,by rw[bC];omega,by rw[bC];omega⟩];obtain⟨c1,c2,c3,c4⟩:=MA v o u q;generalize nW l=n at c1 c2 c3 c4;have y:=X9 n l;have d:(l.take n).length=n:=by rw[Yb];omega
  have ab:(l.drop n).length=l.length-n:=Y1;have z:iz (l.take n)/\iz (l.drop n):=by
   rw[<- y]at o;exact⟨(X7.1 o).1,(X7.1 o).2.1⟩
  obtain⟨x,D1,w1,W,J,w4,w5,w⟩:=GP (name:=dv (num+1)) G (g (num+1) (by omega) (by omega)) (by omega) z.1 (λe O=>i e (Zp O)) (by omega) (λk=>Yh (((List.take_sublist n l).filter _).length_le) (Yh (u k) t)) (by intro h;rw[h]at d;simp at d;omega) (by rw[d];omega);rw[d]at w5;rw[w1];rcases w with⟨P,rfl,w⟩|⟨T,fb,cs,rfl,w,w7,w8⟩
  .refine⟨_,_,rfl,W,by omega,by omega,λm c=>J m (c (num+1) (by omega) (by omega)),.inl ⟨P,rfl,w⟩⟩
  .dsimp only;have A:∀k,num+1<k->k<=num+1+(l.drop n).length->file D1 (dv k)=none:=λk i B=>by
    rw[J _ λh=>by have:=fC h (by omega) (by omega);omega];exact g k (by omega) (by omega)
   obtain⟨x,D2,s1,s2,s3,s4,s5,s⟩:=u4 q t f (num+1) D1 (l.drop n) (acc++[T]) W.ok z.2 (λe O=>i e (Z5 O))
    (λk=>Yh (((List.drop_sublist n l).filter _).length_le) (u k)) (by omega) (by omega) (by simp only[Xu,ZY];omega) (by omega) (by omega) A
   refine⟨x,D2,s1,W.trans s2,by omega,by omega,λm c=>?_,?_⟩
   .rw[s5 m λk i B=>c k (by omega) (by omega),J m (c (num+1) (by omega) (by omega))]
   .rcases s with⟨P,rfl,s⟩|⟨N,L,rfl,s⟩
    .exact .inl ⟨P,rfl,s.before W⟩
    .refine .inr ⟨N,(T,(l.take n).map bX)::L,by simp,?_⟩;have Q:file D2 T.name=some fb:=by
      rw[w,s5 _ λk i B h=>by have:=fC h (by omega) (by omega);omega];exact w7
     refine⟨?_,⟨by have:=s.cnt;omega,by have:=s.cnt;omega⟩,?_,?_,?_,?_,?_,?_⟩
     .rw[XP,Yd,s.ents,<- XK,y]
     .intro p H;rcases XW.1 H with rfl|H
      .exact⟨num+1,by omega,by have:=s.cnt;omega,w⟩
      .obtain⟨k,k1,k2,R⟩:=s.names p H;exact⟨k,by omega,k2,R⟩
     .rw[XP,ZF];refine⟨λh=>?_,s.nodup⟩;obtain⟨p,H,S⟩:=XA.1 h;obtain⟨k,k1,k2,R⟩:=s.names p H;have aa:=s.cnt;have:=fC (R.symm.trans (S.trans w)) (by omega) (by omega);omega
     .intro p H;rcases XW.1 H with rfl|H
      .exact⟨fb,cs,Q,w8⟩
      .exact s.on p H
     .rw[X1];refine⟨λp H a I b hb=>?_,s.sep⟩;obtain⟨a',U,rfl⟩:=XA.1 I;have E:b∈(L.map (·.2)).flatten:=YZ.2 ⟨p.2,XA.2 ⟨p,H,rfl⟩,hb⟩;rw[s.ents]at E;obtain⟨b',V,rfl⟩:=XA.1 E;rw[mA,mA];exact c4 a' U b' V
     .intro p H;rcases XW.1 H with rfl|H
      .simp only[XT,d];exact c3
      .exact s.few p H
     .intro m c;rcases s.known m c with h|h
      .by_cases F:m=dv (num+1)
       .exact .inr (by rw[XP,w,F];exact XC)
       .exact .inl (by rw[<- J m F];exact h)
      grind
