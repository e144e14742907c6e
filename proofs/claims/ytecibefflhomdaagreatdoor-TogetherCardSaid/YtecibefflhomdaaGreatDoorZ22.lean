/-
  Part 22: .
-/
import Derived.Test.YtecibefflhomdaaGreatDoorZ21
set_option maxHeartbeats 8000000
set_option maxRecDepth 100000
set_option linter.all false
namespace Go.Proofs.YtecibefflhomdaaGreatDoor
open Go
section
variable{p:cn}{D:gm}{i j c n m k:Nat}{q q':Ps}{t t':Th}{st' sm':Nat}
def Sj:∀{l:Xn Ps} {i j:Nat} {a b:Ps},i≠j->l[i]?=some a->l[j]?=some b->fL a=1->fL b=1->2<=iI fL l
 | x::l,0,0,a,b,h,_,_,_,_=>XG rfl h
 | x::l,0,j+1,a,b,h,H,d,e,g=>by
  simp at H d;subst H;have:=jW (f:=fL) d;simp only[iI];omega
 | x::l,i+1,0,a,b,h,H,d,e,g=>by
  simp at H d;subst d;have:=jW (f:=fL) H;simp only[iI];omega
 | x::l,i+1,j+1,a,b,h,H,d,e,g=>by
  simp at H d;have:=Sj (by omega) H d e g;simp only[iI];omega
def AI.one(h:AI p D)(a:D.l[i]?=some q)(h1:fL q=1)(b:D.l[j]?=some q')(d:fL q'=1):i=j:=by
 have⟨⟨W,S,m,e⟩,_⟩:=h.mu;exact YQ λH=>by have:=Sj H a b h1 d;have:=e.L1;omega
def gm.vu(D:gm)(i:Nat)(q':Ps):gm:={ D with l:=D.l.set i q',s:=if i=0 then D.s else D.s++[i-1] }
def AI.vu{s:Xn Nat}(h:AI p D)(a:D.l[i]?=some ⟨j,c,n,.rel0 s⟩):AI p (D.vu i ⟨j,c+1,n,.rel1⟩)/\Wt p (D.vu i ⟨j,c+1,n,.rel1⟩)<Wt p D:=by
 have C:c<p.len j:=(h.cle _ _ a).2 rfl;have x:l8 p (D.vu i ⟨j,c+1,n,.rel1⟩)=l8 p D:=by
  have:=gF (f:=phi p) ⟨j,c+1,n,.rel1⟩ a;simp only[phi]at this;simp only[l8,gm.vu,gm.dn];omega
 have E:=h.busy a (.inl (by simp));have F:=(Xw.1 a).1;have u:i=0->D.jn=true:=λo=>by
  subst o;cases G:D.jn with
  | true=>rfl
  | false=>have:=((h.pre _ a).1 G).1;cases this
 refine⟨⟨by simp[gm.vu,h.len],h.lsg,h.sg0,h.sg7,h.fn,h.small,h.lenM,λk t H=>?_,λk t H=>?_,λk t H=>?_,?_,λk H=>?_,λk t H=>?_,λk t S H d=>?_,λk t H=>?_,λk t y H v=>?_,λt m H d=>?_,λt H=>?_,λk t H=>?_,λt H=>?_,λk r H B=>?_⟩,?_⟩
 .rcases aF H a with⟨rfl,rfl⟩|⟨_,H⟩
  .have z:=h.ids _ _ a;exact z
  .exact h.ids _ _ H
 .rcases aF H a with⟨rfl,rfl⟩|⟨_,H⟩
  .exact⟨C,λh=>by cases h⟩
  .exact h.cle _ _ H
 .rcases aF H a with⟨rfl,rfl⟩|⟨_,H⟩
  .exact XR _
  .exact h.kle _ _ H
 .exact h.mu.same a rfl rfl rfl rfl rfl rfl rfl (XD _) (λy v=>by cases v)
 .have H:k∈(if i=0 then D.s else D.s++[i-1]):=H;split at H
  .exact h.hist k H
  .rcases Xy.1 H with H|H
   .exact h.hist k H
   .have:=h.len;simp at H;show k<D.f;omega
 .show List.count k (if i=0 then D.s else D.s++[i-1])=t.c;rcases aF H a with⟨e,rfl⟩|⟨e,H⟩
  .subst e;have:=h.cnt _ _ a;rw[Xx (by omega)];simp[List.count_append,this]
  .have:=h.cnt _ _ H
   grind
 .rcases aF H a with⟨e,rfl⟩|⟨e,H⟩
  .rcases d with d|d<;>cases d
  .have g:fL t=1:=by rcases d with d|d<;>simp[fL,d]
   exact XG (h.one H g a rfl) e
 .rw[x];rcases aF H a with⟨rfl,rfl⟩|⟨_,H⟩
  .have z:=h.fuel _ _ a;exact z
  .exact h.fuel _ _ H
 .rw[x];rcases aF H a with⟨rfl,rfl⟩|⟨_,H⟩
  .cases v
  .exact h.act _ _ _ H v
 .rw[x];rcases aF H a with⟨_,rfl⟩|⟨_,H⟩
  .cases d
  .exact h.actW _ _ H d
 .rcases aF H a with⟨o,rfl⟩|⟨_,H⟩
  .have g:=u o.symm;subst o;refine⟨λA=>?_,λ_=>⟨rfl,by simp,((h.pre _ a).2 g).2.2.1,((h.pre _ a).2 g).2.2.2.1,by simp⟩⟩;simp only[gm.vu]at A;rw[g]at A;cases A
  .exact h.pre _ H
 .rcases aF H a with⟨_,rfl⟩|⟨_,H⟩
  .exact⟨rfl,by simp⟩
  .exact h.wrk _ _ H
 .rcases aF H a with⟨o,rfl⟩|⟨_,H⟩
  .have g:=u o.symm;subst o;cases(h.wg _ a)with
   | opn b=>rw[g]at b;cases b
   | fin _ w I J K L=>exact .fin (.inl g) w I J K L
   | reg b=>cases b
   | last b=>cases b
   | four b=>cases b
   | og b=>cases b
  .exact h.wg _ H
 .have⟨t,d,g,w⟩:=h.done k r H B;refine⟨t,?_,g,w⟩;simp only[gm.vu];rwa[Yv λe=>E r (by rw[e];exact H) B]
 .have:=gF (f:=CZ p) ⟨j,c+1,n,.rel1⟩ a;have w:CZ p ⟨j,c+1,n,.rel1⟩<CZ p ⟨j,c,n,.rel0 s⟩:=Ja rfl (Nat.le_succ _) (XD _) (by simp[Th.eV]);simp only[Wt,gm.vu];omega
def gm.fI(D:gm)(q':Ps)(st' sm':Nat)(C J:XN):gm:={ D with l:=D.l.set 0 q',st:=st',sm:=sm',cl:=C,jn:=J }
def AI.main{C J:XN}(h:AI p D)(d:D.l[0]?=some ⟨j,c,n,t⟩)(P:D.jn=false)(Q:l8 p D<=m)(g:t'.sQ=true\/(t'=.out/\J=true))
 (x:J=false->t'.sQ=true/\(t'.late=true->D.f=p.n)/\C=t'.shut/\(t'.Wj=true->c<p.n)) (u:J=true->t'=.out/\D.f=p.n/\C=true) (R:Wk t' J D.na D.nb D.nd st' sm')
 (S:∀y,t'=.wt2 y->y=D.na\/l8 p D<m) (G:(m<=n/\t'.eV<t.eV)\/m<n):AI p (D.fI ⟨j,c,m,t'⟩ st' sm' C J)/\Wt p (D.fI ⟨j,c,m,t'⟩ st' sm' C J)<Wt p D:=by
 have⟨O,A,v,I,B⟩:=(h.pre _ d).1 P;simp only at O A v I B;have T:j=p.n:=by have:=h.ids _ _ d;simpa using this
 have z:∀(t:Th) (a b c:Nat),(t.sQ=true\/t=.out)->fL ⟨a,b,c,t⟩=0/\fA ⟨a,b,c,t⟩=0/\fK ⟨a,b,c,t⟩=0/\fU ⟨a,b,c,t⟩=0/\fO ⟨a,b,c,t⟩=0/\fH ⟨a,b,c,t⟩=0/\fQ ⟨a,b,c,t⟩=0/\fR ⟨a,b,c,t⟩=0/\phi p ⟨a,b,c,t⟩=8*(p.len a-b)/\t.QW=false/\t.kk=0/\t.nn=none:=λt a b c o=>by
  cases t<;>first|(rcases o with o|o<;>cases o;done)|exact⟨rfl,rfl,rfl,rfl,rfl,rfl,rfl,rfl,rfl,rfl,rfl,rfl⟩
 have s:=z t j c n (.inl O);have Z:=z t' j c m (g.imp id λh=>h.1);have K:l8 p (D.fI ⟨j,c,m,t'⟩ st' sm' C J)=l8 p D:=by
  have:=gF (f:=phi p) ⟨j,c,m,t'⟩ d;simp only[l8,gm.fI,gm.dn];omega
 refine⟨⟨by simp[gm.fI,h.len],h.lsg,h.sg0,h.sg7,h.fn,h.small,h.lenM,λk t H=>?_,λk t H=>?_,λk t H=>?_,?_,h.hist,λk t H=>?_,λk t X H o=>?_,λk t H=>?_,λk t y H w=>?_,λt m H o=>?_,λt H=>?_,λk t H=>?_,λt H=>?_,λk r H G=>?_⟩,?_⟩
 .rcases aF H d with⟨rfl,rfl⟩|⟨_,H⟩
  .have U:=h.ids _ _ d;exact U
  .exact h.ids _ _ H
 .rcases aF H d with⟨rfl,rfl⟩|⟨_,H⟩
  .exact⟨(h.cle _ _ d).1,λh=>by rw[Z.2.2.2.2.2.2.2.2.2.1]at h;cases h⟩
  .exact h.cle _ _ H
 .rcases aF H d with⟨rfl,rfl⟩|⟨_,H⟩
  .show t'.kk<=5;rw[Z.2.2.2.2.2.2.2.2.2.2.1];omega
  .exact h.kle _ _ H
 .refine h.mu.same d (Z.1.trans s.1.symm) (Z.2.1.trans s.2.1.symm) (Z.2.2.1.trans s.2.2.1.symm) (Z.2.2.2.1.trans s.2.2.2.1.symm) (Z.2.2.2.2.1.trans s.2.2.2.2.1.symm) (Z.2.2.2.2.2.1.trans s.2.2.2.2.2.1.symm) (Z.2.2.2.2.2.2.1.trans s.2.2.2.2.2.2.1.symm) (by rw[s.2.2.2.2.2.2.2.1];exact XR _) λy w=>?_;simp only at w;rcases g with g|⟨g,_⟩<;>rw[w]at g<;>cases g
 .rcases aF H d with⟨e,rfl⟩|⟨_,H⟩
  .cases e
  .exact h.cnt _ _ H
 .rcases aF H d with⟨e,rfl⟩|⟨_,H⟩
  .cases e
  .exact h.hold _ _ _ H o
 .rw[K];rcases aF H d with⟨rfl,rfl⟩|⟨_,H⟩
  .exact Q
  .exact h.fuel _ _ H
 .rw[K];rcases aF H d with⟨rfl,rfl⟩|⟨_,H⟩
  .simp only at w;rw[Z.2.2.2.2.2.2.2.2.2.2.2]at w;cases w
  .exact h.act _ _ _ H w
 .rw[K];rcases aF H d with⟨_,rfl⟩|⟨e,H⟩
  .exact S _ o
  omega
 .rcases aF H d with⟨_,rfl⟩|⟨e,H⟩
  .refine⟨λL=>?_,λL=>?_⟩
   .have⟨V,M,N,W⟩:=x L;exact⟨V,A,M,N,W⟩
   .obtain⟨rfl,M,N⟩:=u L;exact⟨rfl,by simp,M,N,by simp⟩
  omega
 .rcases aF H d with⟨e,rfl⟩|⟨_,H⟩
  .cases e
  .exact h.wrk _ _ H
 .rcases aF H d with⟨_,rfl⟩|⟨e,H⟩
  .exact R
  .omega
 .have⟨t,o,E,F⟩:=h.done k r H G;exact⟨t,by simp only[gm.fI];rw[Yv (by omega)];exact o,E,F⟩
 .have:=gF (f:=CZ p) ⟨j,c,m,t'⟩ d;have F:CZ p ⟨j,c,m,t'⟩<CZ p ⟨j,c,n,t⟩:=by
   rcases G with⟨E,F⟩|E
   .exact Ja rfl (XD _) E F
   .exact Si rfl (XD _) (by rw[Z.2.2.2.2.2.2.2.2.2.2.1];omega) E
  simp only[Wt,gm.fI];omega
def AI.Gt(h:AI p D)(H:D.l[0]?=some q)(a:q.th.sQ=true):D.jn=false:=by
 cases b:D.jn with
 | false=>rfl
 | true=>have:=((h.pre _ H).2 b).1;rw[a]at this;cases this
def AI.Jc(h:AI p D):D.na<=D.f:=by
 have K:∀l:Xn Nat,jK (λk=>Nat.blt 3 k&&Nat.blt k 9) l<=l.length:=λl=>by
  induction l with
  | nil=>exact XD _
  | cons a l I=>simp[jK];split<;>omega
 have H:=h.lsg;have d:=h.sg0;unfold gm.na;cases b:D.sg with
 | nil=>rw[b]at H;simp at H
 | cons a l=>
  have:=K l;simp[jK];simp_all
def AI.Sk(h:AI p D)(H:D.l[0]?=some ⟨j,c,n,t⟩)(v:t.sQ=true)(r:t'.sQ=true)(hl:t'.late=true->D.f=p.n)(w:t'.shut=t.shut)(x:t'.Wj=true->c<p.n)(B:t'.eV<t.eV)(C:t'.Sg=t.Sg)(E:t'.CY=t.CY)(F:t'.NR=t.NR)(s:∀m,t'≠.wt2 m) :
 AI p (D.fI ⟨j,c,n,t'⟩ D.st D.sm D.cl D.jn)/\Wt p (D.fI ⟨j,c,n,t'⟩ D.st D.sm D.cl D.jn)<Wt p D:=by
 have u:=h.Gt H v;refine h.main H u (h.fuel _ _ H) (.inl r) (λ_=>⟨r,hl,?_,x⟩) (λG=>by grind) ?_ (λy z=>XG z (s y)) (by grind)
 .rw[w];exact((h.pre _ H).1 u).2.2.2.1
 .cases(h.wg _ H)with
  | opn o d I g a A b J=>exact .opn o (by grind) (by grind) (by grind) a A b (λe=>XG e (s 0))
  | reg o d g a A b=>exact .reg (by grind) d g a A b
  | last o d g a A b=>exact .last (by grind) d g a A b
  | four o d g a A b=>exact .four (by grind) d g a A b
  | og o d g a A b=>exact .og (by grind) d g a A b
  | fin o d g a A b=>exact .fin (by grind) d g a A b
def AI.U1(h:AI p D)(H:D.l[0]?=some ⟨j,c,n,.ad0 0⟩)(a:c<p.n):AI p (D.fI ⟨j,c,n,.ad1⟩ D.st D.sm D.cl D.jn)/\Wt p (D.fI ⟨j,c,n,.ad1⟩ D.st D.sm D.cl D.jn)<Wt p D:=
 h.Sk H rfl rfl (λh=>by cases h) rfl (λ_=>a) (by simp[Th.eV]) rfl rfl rfl (by simp)
def AI.U2(h:AI p D)(H:D.l[0]?=some ⟨j,c,n,.ad1⟩):D.sm=0/\D.st=D.na*4294967296/\D.na+1<=p.n/\AI p (D.fI ⟨j,c,n,.ad2⟩ ((D.na+1)*4294967296) 0 D.cl D.jn)/\Wt p (D.fI ⟨j,c,n,.ad2⟩ ((D.na+1)*4294967296) 0 D.cl D.jn)<Wt p D:=by
 have b:=h.Gt H rfl;have d:=(h.pre _ H).1 b;cases(h.wg _ H)with
 | opn a r s A e f g u=>
  have:=h.Jc;have o:=d.2.2.2.2 rfl;refine⟨e,by rw[A];rfl,by omega,h.main H b (h.fuel _ _ H) (.inl rfl) (λ_=>⟨rfl,(λh=>by cases h),d.2.2.2.1,λ_=>o⟩) (λv=>by grind) (.opn a rfl rfl rfl rfl f g (by simp)) (λy w=>by grind) (.inl ⟨by grind,by simp[Th.eV]⟩)⟩
 | fin a=>exact XG a (by rw[b];simp[Th.NR])
 | reg a=>cases a
 | last a=>cases a
 | four a=>cases a
 | og a=>cases a
def AI.Wl(h:AI p D)(H:D.l[0]?=some ⟨j,c,n,.ad2⟩):AI p (D.fI ⟨j,c,n,.ad3⟩ D.st D.sm D.cl D.jn)/\Wt p (D.fI ⟨j,c,n,.ad3⟩ D.st D.sm D.cl D.jn)<Wt p D:=
 h.Sk H rfl rfl (λh=>by cases h) rfl (λ_=>((h.pre _ H).1 (h.Gt H rfl)).2.2.2.2 rfl) (by simp[Th.eV]) rfl rfl rfl (by simp)
def AI.Wn(h:AI p D)(H:D.l[0]?=some ⟨j,c,n,t⟩)(a:t=.ad2\/t=.ad3):AI p (D.fI ⟨j,c,n,.ad4⟩ D.st D.sm D.cl D.jn)/\Wt p (D.fI ⟨j,c,n,.ad4⟩ D.st D.sm D.cl D.jn)<Wt p D:=by
 rcases a with rfl|rfl<;>exact h.Sk H rfl rfl (λh=>by cases h) rfl (λ_=>((h.pre _ H).1 (h.Gt H rfl)).2.2.2.2 rfl) (by simp[Th.eV]) rfl rfl rfl (by simp)
def AI.U3(h:AI p D)(H:D.l[0]?=some ⟨j,c,n,.ad0 0⟩)(a:c=p.n):AI p (D.fI ⟨j,c,n,.ad0 1⟩ D.st D.sm D.cl D.jn)/\Wt p (D.fI ⟨j,c,n,.ad0 1⟩ D.st D.sm D.cl D.jn)<Wt p D:=by
 have b:=(h.pre _ H).1 (h.Gt H rfl);exact h.Sk H rfl rfl (λ_=>by grind) rfl (λh=>by cases h) (by simp[Th.eV]) rfl rfl rfl (by simp)
def AI.QY(h:AI p D)(H:D.l[0]?=some ⟨j,c,n,.ad0 1⟩):D.cl=false/\AI p (D.fI ⟨j,c,n,.wt0⟩ D.st D.sm true D.jn)/\Wt p (D.fI ⟨j,c,n,.wt0⟩ D.st D.sm true D.jn)<Wt p D:=by
 have b:=h.Gt H rfl;have d:=(h.pre _ H).1 b;refine⟨d.2.2.2.1,h.main H b (h.fuel _ _ H) (.inl rfl) (λ_=>⟨rfl,λ_=>d.2.2.1 rfl,rfl,(λh=>by cases h)⟩) (λo=>by grind) ?_ (λy r=>by grind) (.inl ⟨by grind,by simp[Th.eV]⟩)⟩;cases(h.wg _ H)with
 | opn a s u A e f g v=>exact .opn a rfl rfl A e f g (by simp)
 | fin a=>exact XG a (by rw[b];simp[Th.NR])
 | reg a=>cases a
 | last a=>cases a
 | four a=>cases a
 | og a=>cases a
def AI.Jd(h:AI p D)(H:D.l[0]?=some ⟨j,c,n,t⟩)(a:t.sQ=true)(hl:t.late=true):D.f=p.n:=((h.pre _ H).1 (h.Gt H a)).2.2.1 hl
def AI.Td(h:AI p D)(H:D.l[0]?=some ⟨j,c,n,.wt0⟩):AI p (D.fI ⟨j,c,n,.wt1⟩ D.st D.sm D.cl D.jn)/\Wt p (D.fI ⟨j,c,n,.wt1⟩ D.st D.sm D.cl D.jn)<Wt p D:=
 h.Sk H rfl rfl (λ_=>h.Jd H rfl rfl) rfl (λh=>by cases h) (by simp[Th.eV]) rfl rfl rfl (by simp)
def AI.U4(h:AI p D)(H:D.l[0]?=some ⟨j,c,n,.wt1⟩):D.st=D.na*4294967296/\D.na<=p.n/\l8 p D<=n/\AI p (D.fI ⟨j,c,l8 p D,.wt2 D.na⟩ D.st D.sm D.cl D.jn)/\Wt p (D.fI ⟨j,c,l8 p D,.wt2 D.na⟩ D.st D.sm D.cl D.jn)<Wt p D:=by
 have b:=h.Gt H rfl;have f:=(h.pre _ H).1 b;have d:=h.fuel _ _ H;cases(h.wg _ H)with
 | opn a s u A g o r v=>
  have:=h.Jc;have:=h.fn;exact⟨by rw[A];rfl,by omega,d,h.main H b (by grind) (.inl rfl) (λ_=>⟨rfl,λ_=>f.2.2.1 rfl,f.2.2.2.1,(λh=>by cases h)⟩) (λd=>by grind) (.opn a rfl rfl A g o r λe=>by injection e) (λy w=>.inl (by grind)) (.inl ⟨d,by simp[Th.eV]⟩)⟩
 | fin a=>exact XG a (by rw[b];simp[Th.NR])
 | reg a=>cases a
 | last a=>cases a
 | four a=>cases a
 | og a=>cases a
def AI.U5(h:AI p D)(H:D.l[0]?=some ⟨j,c,n,.wt2 m⟩)(hm:m≠0):D.sm=0/\D.st=D.na*4294967296/\D.na<=10000/\(D.na=m->AI p (D.fI ⟨j,c,n,.wt3⟩ (m*4294967296+1) 0 D.cl D.jn)/\Wt p (D.fI ⟨j,c,n,.wt3⟩ (m*4294967296+1) 0 D.cl D.jn)<Wt p D) /\
 (D.na≠m->l8 p D<n/\AI p (D.fI ⟨j,c,l8 p D,.wt1⟩ D.st D.sm D.cl D.jn)/\Wt p (D.fI ⟨j,c,l8 p D,.wt1⟩ D.st D.sm D.cl D.jn)<Wt p D):=by
 have g:=h.Gt H rfl;have b:=h.wg _ H;have d:=(h.pre _ H).1 g;have o:=h.fuel _ _ H;simp only at b d o;cases b with
 | opn a w x A r s u z=>
  have:=h.Jc;have:=h.fn;have:=h.small;refine⟨r,by rw[A];rfl,by omega,λe=>h.main H g o (.inl rfl) (λ_=>⟨rfl,λ_=>d.2.2.1 rfl,d.2.2.2.1,(λh=>by cases h)⟩) (λo=>by grind) (.reg rfl (by omega) (by rw[e]) rfl s u) (λy v=>by grind) (.inl ⟨by grind,by simp[Th.eV]⟩),λe=>?_⟩;have f:=(h.actW _ _ H rfl).resolve_left λE=>e E.symm;exact⟨f,h.main H g (XD _) (.inl rfl) (λ_=>⟨rfl,λ_=>d.2.2.1 rfl,d.2.2.2.1,(λh=>by cases h)⟩) (λo=>by grind) (.opn a rfl rfl A r s u (by simp)) (λy v=>by grind) (.inr f)⟩
 | fin a=>exact XG a (by rw[g];simp[Th.NR])
 | reg a=>cases a
 | last a=>cases a
 | four a=>cases a
 | og a=>cases a
def AI.Wo(h:AI p D)(H:D.l[0]?=some ⟨j,c,n,.wt3⟩):AI p (D.fI ⟨j,c,n,.wt4⟩ D.st D.sm D.cl D.jn)/\Wt p (D.fI ⟨j,c,n,.wt4⟩ D.st D.sm D.cl D.jn)<Wt p D:=
 h.Sk H rfl rfl (λ_=>h.Jd H rfl rfl) rfl (λh=>by cases h) (by simp[Th.eV]) rfl rfl rfl (by simp)
def AI.U6(h:AI p D)(H:D.l[0]?=some ⟨j,c,n,.wt4⟩)(b:D.sm≠0):D.sm=1/\D.st=0/\AI p (D.fI ⟨j,c,n,.wt5⟩ D.st 0 D.cl D.jn)/\Wt p (D.fI ⟨j,c,n,.wt5⟩ D.st 0 D.cl D.jn)<Wt p D:=by
 have d:=h.Gt H rfl;have e:=(h.pre _ H).1 d;cases(h.wg _ H)with
 | og f A g a o r=>exact⟨a,g,h.main H d (h.fuel _ _ H) (.inl rfl) (λ_=>⟨rfl,λ_=>e.2.2.1 rfl,e.2.2.2.1,(λh=>by cases h)⟩) (λs=>by grind) (.fin (.inr rfl) A g rfl o r) (λy u=>by grind) (.inl ⟨by grind,by simp[Th.eV]⟩)⟩
 | fin f=>exact XG f (by omega)
 | opn _ A=>cases A
 | reg _ _ _ a=>exact XG a b
 | last _ _ _ a=>exact XG a b
 | four _ _ _ a=>exact XG a b
def AI.U7(h:AI p D)(H:D.l[0]?=some ⟨j,c,n,.wt5⟩):D.st=0/\AI p (D.fI ⟨j,c,n,.wt6⟩ D.st D.sm D.cl D.jn)/\Wt p (D.fI ⟨j,c,n,.wt6⟩ D.st D.sm D.cl D.jn)<Wt p D:=by
 refine⟨?_,h.Sk H rfl rfl (λ_=>h.Jd H rfl rfl) rfl (λh=>by cases h) (by simp[Th.eV]) rfl rfl rfl (by simp)⟩;cases(h.wg _ H)with
 | fin _ _ A=>exact A
 | opn _ _ b=>cases b
 | og a=>cases a
 | reg a=>cases a
 | last a=>cases a
 | four a=>cases a
def AI.U8(h:AI p D)(H:D.l[0]?=some ⟨j,c,n,t⟩)(g:t=.wt2 0\/t=.wt6):AI p (D.fI ⟨j,c,n,.wt7⟩ D.st D.sm D.cl D.jn)/\Wt p (D.fI ⟨j,c,n,.wt7⟩ D.st D.sm D.cl D.jn)<Wt p D:=by
 rcases g with rfl|rfl
 .have d:=h.Gt H rfl;have b:=h.wg _ H;have e:=(h.pre _ H).1 d;simp only at b e;cases b with
  | opn a v w A o r s u=>
   have f:=u rfl;exact h.main H d (h.fuel _ _ H) (.inl rfl) (λ_=>⟨rfl,λ_=>e.2.2.1 rfl,e.2.2.2.1,(λh=>by cases h)⟩) (λx=>by grind) (.fin (.inr rfl) f (by rw[A,f];rfl) o r s) (λy z=>by grind) (.inl ⟨by grind,by simp[Th.eV]⟩)
  | fin a=>exact XG a (by rw[d];simp[Th.NR])
  | reg a=>cases a
  | last a=>cases a
  | four a=>cases a
  | og a=>cases a
 .exact h.Sk H rfl rfl (λ_=>h.Jd H rfl rfl) rfl (λh=>by cases h) (by simp[Th.eV]) rfl rfl rfl (by simp)
variable {P:Nat->XN}
def jE:∀{l:Xn Nat} {i k:Nat},jK P l=0->l[i]?=some k->P k=false
 | a::l,0,k,h,H=>by
  simp at H;subst H;simp[jK]at h;cases b:P a with
  | false=>rfl
  | true=>rw[b]at h;simp at h
 | a::l,i+1,k,h,H=>by
  simp at H;simp[jK]at h;exact jE (by omega) H
def AI.Te(h:AI p D)(a:D.l[0]?=some ⟨j,c,n,.wt7⟩):D.f=p.n/\(∀i,i<p.n->D.sg[i+1]?=some 0)/\p.Whole D.s/\AI p (D.fI ⟨j,c,n,.out⟩ D.st D.sm true true)/\Wt p (D.fI ⟨j,c,n,.out⟩ D.st D.sm true true)<Wt p D:=by
 have o:=h.Gt a rfl;have e:=h.wg _ a;have x:=(h.pre _ a).1 o;have r:=x.2.2.1 rfl;have w:D.na=0/\D.st=0/\D.sm=0/\D.nb=0/\D.nd=0:=by
  cases e with
  | fin _ B C E F G=>exact⟨B,C,E,F,G⟩
  | opn _ _ I=>cases I
  | og A=>cases A
  | reg A=>cases A
  | last A=>cases A
  | four A=>cases A
 have⟨W,J,K,u,v⟩:=w;have H:∀i,i<p.n->D.sg[i+1]?=some 0:=λi b=>by
  have g:i+1<D.sg.length:=by rw[h.lsg];omega
  have d:=Xq g;have R:=h.sg7 _ _ d;have Z:=jE W d;have L:=jE u d;have M:=jE v d;generalize D.sg[i+1]=k at *;simp only[abC]at Z L M;have N:¬(Nat.blt 3 k=true)\/¬(Nat.blt k 9=true):=by rcases Z with z|z<;>simp[z]
  simp at N
  grind
 refine⟨r,H,⟨λi a=>by have:=h.hist i a;omega,λi b=>?_⟩,h.main a o (h.fuel _ _ a) (by grind) (λS=>by grind) (λ_=>⟨rfl,r,rfl⟩) (.fin (.inl rfl) W J K u v) (λy T=>by grind) (.inl ⟨XD _,by simp[Th.eV]⟩)⟩;have⟨q,O,_,Q⟩:=h.done i 0 (H i b) (by omega);rw[h.cnt _ _ O,Q]
def pJ{f:Ps->Nat}:∀{l:Xn Ps} {a:Ps},iI f (l++[a])=iI f l+f a
 | [],a=>by simp[iI]
 | b::l,a=>by simp[iI];rw[pJ];omega
def lU:∀{l:Xn Nat} {a:Nat},jK P (l++[a])=jK P l+(if P a then 1 else 0)
 | [],a=>by simp[jK]
 | b::l,a=>by simp[jK];rw[lU];omega
def wI:∀{l:Xn Nat} {a:Nat},Aw (l++[a])=Aw l+a
 | [],a=>by simp[Aw]
 | b::l,a=>by simp[Aw];rw[wI];omega
def tS{f:Nat}:∀{k:Nat},f<k->mo p (f+1) k+8*p.len f=mo p f k
 | 0,h=>by omega
 | k+1,h=>by
  simp[mo];rcases X8 f k with H|H
  .have:=tS H
   grind
  .have:f=k:=by omega
   have K:∀m,m<=f->mo p (f+1) m=0/\mo p f m=0:=λm=>by
    induction m with
    | zero=>intro _;exact⟨rfl,rfl⟩
    | succ m I=>
     intro a;simp[mo]
     grind
   grind
def gm.fork(D:gm)(q' a:Ps):gm:={ D with f:=D.f+1,l:=D.l.set 0 q'++[a],sg:=D.sg++[7] }
variable {l:Xn Ps} {a:Ps}
def jX.push {x bu:Nat} (h:jX l x bu) (H:a.th=.new):jX (l++[a]) x bu:=by
 have⟨⟨W,S,n,A,u,v,w,B,C,E⟩,F⟩:=h;refine⟨⟨W,S,n,?_⟩,λi s y G I=>?_⟩
 .have z:fL a=0/\fA a=0/\fK a=0/\fU a=0/\fO a=0/\fH a=0/\fQ a=0/\fR a=0:=by simp[fL,fA,fK,fU,fO,fH,fQ,fR,H]
  have⟨Z,b,d,e,f,g,o,r⟩:=z;constructor<;>first|assumption|(simp[pJ,Z,b,d,e,f,g,o,r];assumption)
 grind
def gw {b:Ps} {k:Nat} (h:(l++[a])[k]?=some b):(k<l.length/\l[k]?=some b)\/(k=l.length/\b=a):=by
 grind
def AI.fork(h:AI p D)(d:D.l[0]?=some ⟨j,c,n,.ad4⟩):c=D.f/\∃N,AI p (D.fork ⟨j,c+1,n,.ad0 0⟩ ⟨c,0,N,.new⟩)/\Wt p (D.fork ⟨j,c+1,n,.ad0 0⟩ ⟨c,0,N,.new⟩)<Wt p D:=by
 have z:=h.Gt d rfl;have s:=h.wg _ d;have w:=(h.pre _ d).1 z;have B:=h.fuel _ _ d;simp only at s w B;have C:=w.2.2.2.2 rfl;cases w.2.1;cases by have:=h.ids _ _ d;simpa using this
 have u:=h.len;have E:jK (λk=>Nat.blt k 4) (D.sg++[7])=jK (λk=>Nat.blt k 4) D.sg:=by rw[lU];rfl
 have I:=h.lenM;have o:∀N,l8 p (D.fork ⟨p.n,D.f+1,n,.ad0 0⟩ ⟨D.f,0,N,.new⟩)<=l8 p D:=λN=>by
  have b:=gF (f:=phi p) ⟨p.n,D.f+1,n,.ad0 0⟩ d;have x:=tS (p:=p) C;simp only[phi]at b;simp only[l8,gm.fork,gm.dn,E,pJ,phi];omega
 refine⟨rfl,n,?_⟩;have o:=o n;refine⟨⟨by simp[gm.fork,u],by simp[gm.fork,h.lsg],?_,λk r H=>?_,?_,h.small,h.lenM,λk t H=>?_,λk t H=>?_,λk t H=>?_,?_,λk H=>?_,λk t H=>?_,λk t s' H g=>?_,λk t H=>?_,λk t y H v=>?_,λt m H g=>?_,λt H=>?_,λk t H=>?_,λt H=>?_,λk r H J=>?_⟩,?_⟩
 .show(D.sg++[7])[0]?=_;rw[XH (by rw[h.lsg];omega)];exact h.sg0
 .have H:(D.sg++[7])[k+1]?=some r:=H;rcases X8 (k+1) D.sg.length with b|b
  .rw[XH b]at H;exact h.sg7 _ _ H
  .rw[Yr b]at H;cases G:k+1-D.sg.length with
   | zero=>rw[G]at H;simp at H;omega
   | succ m=>rw[G]at H;simp at H
 .show D.f+1<=p.n;omega
 .rcases gw H with⟨b,H⟩|⟨b,rfl⟩
  .rcases aF H d with⟨rfl,rfl⟩|⟨_,H⟩
   .rfl
   .exact h.ids _ _ H
  grind
 .rcases gw H with⟨b,H⟩|⟨b,rfl⟩
  .rcases aF H d with⟨rfl,rfl⟩|⟨_,H⟩
   .exact⟨by show D.f+1<=p.len p.n;omega,λh=>by cases h⟩
   .exact h.cle _ _ H
  .exact⟨XR _,λh=>by cases h⟩
 .rcases gw H with⟨b,H⟩|⟨b,rfl⟩
  .rcases aF H d with⟨rfl,rfl⟩|⟨_,H⟩
   .exact XR _
   .exact h.kle _ _ H
  .exact XR _
 .exact jX.push (h.mu.same (s':=⟨p.n,D.f+1,n,.ad0 0⟩) d rfl rfl rfl rfl rfl rfl rfl (XD _) λy v=>by cases v) rfl
 .exact aa2 (h.hist k H)
 .rcases gw H with⟨b,H⟩|⟨b,rfl⟩
  .rcases aF H d with⟨e,rfl⟩|⟨_,H⟩
   .cases e
   .exact h.cnt _ _ H
  .simp only[Y8]at b;rw[List.count_eq_zero];intro K;have:=h.hist k K;omega
 .rcases gw H with⟨b,H⟩|⟨b,rfl⟩
  .rcases aF H d with⟨e,rfl⟩|⟨_,H⟩
   .cases e
   .exact h.hold _ _ _ H g
  .rcases g with g|g<;>cases g
 .rcases gw H with⟨b,H⟩|⟨b,rfl⟩
  .rcases aF H d with⟨e,rfl⟩|⟨_,H⟩
   .exact Yh o B
   .exact Yh o (h.fuel _ _ H)
  .exact Yh o B
 .rcases gw H with⟨b,H⟩|⟨b,rfl⟩
  .rcases aF H d with⟨e,rfl⟩|⟨_,H⟩
   .cases v
   .exact(h.act _ _ _ H v).imp id λe=>Za o e
  .cases v
 .rcases gw H with⟨b,H⟩|⟨b,rfl⟩
  .rcases aF H d with⟨e,rfl⟩|⟨e,H⟩
   .cases g
   .omega
  .cases g
 .rcases gw H with⟨b,H⟩|⟨b,rfl⟩
  .rcases aF H d with⟨e,rfl⟩|⟨e,H⟩
   .exact⟨λ_=>⟨rfl,rfl,(λe=>by cases e),w.2.2.2.1,λe=>by cases e⟩,λe=>by simp only[gm.fork]at e;rw[z]at e;cases e⟩
   .omega
  .simp only[Y8]at b;omega
 .rcases gw H with⟨b,H⟩|⟨b,rfl⟩
  .rcases aF H d with⟨e,rfl⟩|⟨e,H⟩
   .cases e
   .exact h.wrk _ _ H
  .exact⟨rfl,by simp⟩
 .rcases gw H with⟨b,H⟩|⟨b,rfl⟩
  .rcases aF H d with⟨e,rfl⟩|⟨e,H⟩
   .have L:(D.fork ⟨p.n,D.f+1,n,.ad0 0⟩ ⟨D.f,0,n,.new⟩).na=D.na+1:=by simp only[gm.na,gm.fork,lU];rfl
    have M:(D.fork ⟨p.n,D.f+1,n,.ad0 0⟩ ⟨D.f,0,n,.new⟩).nb=D.nb:=by simp only[gm.nb,gm.fork,lU];rfl
    have O:(D.fork ⟨p.n,D.f+1,n,.ad0 0⟩ ⟨D.f,0,n,.new⟩).nd=D.nd:=by simp only[gm.nd,gm.fork,lU];rfl
    rw[L,M,O];cases s with
    | opn A U V Q R S T W=>exact .opn A rfl rfl (Q.trans rfl) R S T (by simp)
    | fin A=>exact XG A (by rw[z];simp[Th.NR])
    | reg A=>cases A
    | last A=>cases A
    | four A=>cases A
    | og A=>cases A
   omega
  grind
 .have H:(D.sg++[7])[k+1]?=some r:=H;rcases X8 (k+1) D.sg.length with b|b
  .rw[XH b]at H;have⟨t,g,x,F⟩:=h.done k r H J;refine⟨t,?_,x,F⟩;simp only[gm.fork];rw[XH (by rw[Y8];exact(Xw.1 g).1),Yv (by omega)];exact g
  grind
 .have b:=gF (f:=CZ p) ⟨p.n,D.f+1,n,.ad0 0⟩ d;have x:(n*1000+2000)*(p.n-D.f)=(n*1000+2000)*(p.n-(D.f+1))+(n*1000+2000):=by
   have:p.n-D.f=(p.n-(D.f+1))+1:=by omega
   rw[this,Nat.mul_succ]
  have F:¬D.f=p.n:=by omega
  simp only[CZ,Th.eV,YB]at b;simp only[Wt,gm.fork,pJ,wI,CZ,Xx F,Th.eV];rw[x]at b;omega
variable{p:cn}{D:gm}{i k k' st' sm':Nat}
theorem oP{P:Nat->Bool}:∀ {l:List Nat} {i k:Nat} (k':Nat),l[i]?=some k->jK P (l.set i k')+(if P k then 1 else 0)=jK P l+(if P k' then 1 else 0)
 | a::l,0,k,k',h=>by simp at h;subst h;simp[jK];omega
 | a::l,i+1,k,k',h=>by
  simp at h;have:=oP (P:=P) k' h;simp[jK];omega
def Fj:∀{l:Xn Nat} {i k:Nat} (k':Nat),l[i]?=some k->Aw (l.set i k')+k=Aw l+k'
 | a::l,0,k,k',h=>by simp at h;subst h;simp[Aw];omega
 | a::l,i+1,k,k',h=>by
  simp at h;have:=Fj k' h;simp[Aw];omega
def sR{l:Xn Nat}{i j k t k':Nat}(h:(l.set i k')[j]?=some t)(H:l[i]?=some k):(j=i/\t=k')\/(j≠i/\l[j]?=some t):=by
 grind
def gm.fJ(D:gm)(i k' st' sm':Nat):gm:={ D with sg:=D.sg.set (i+1) k',st:=st',sm:=sm' }
def AI.Tf(h:AI p D)(H:D.sg[i+1]?=some k)(hlt:k'<k)(F:k=7->∃q,D.l[i+1]?=some q/\q.th=.out/\q.c=p.len i)(G:∀q,D.l[0]?=some q->Wk q.th D.jn (D.fJ i k' st' sm').na (D.fJ i k' st' sm').nb (D.fJ i k' st' sm').nd st' sm') :
 AI p (D.fJ i k' st' sm')/\Wt p (D.fJ i k' st' sm')<Wt p D:=by
 have R:=h.sg7 _ _ H;have s:=oP (P:=λk=>Nat.blt k 4) k' H;have u:=oP (P:=λk=>Nat.blt 3 k&&Nat.blt k 9) k' H;have I:∀a b:Nat,(if Nat.blt a b=true then 1 else 0)=if a<b then 1 else 0:=λa b=>by simp only[YK]
 simp only[I,Yp,YK]at s u;have E:(D.fJ i k' st' sm').dn=jK (λk=>Nat.blt k 4) (D.sg.set (i+1) k'):=rfl;have J:(D.fJ i k' st' sm').na=jK (λk=>Nat.blt 3 k&&Nat.blt k 9) (D.sg.set (i+1) k'):=rfl;have L:D.dn=jK (λk=>Nat.blt k 4) D.sg:=rfl;have M:D.na=jK (λk=>Nat.blt 3 k&&Nat.blt k 9) D.sg:=rfl;rw[<- E,<- L]at s;rw[<- J,<- M]at u;have N:=h.fn;have B:(D.fJ i k' st' sm').dn<=D.f:=by
  have d:=h.lsg;have K:∀l:Xn Nat,jK (λk=>Nat.blt k 4) l<=l.length:=λl=>by
   induction l with
   | nil=>exact XD _
   | cons a l S=>simp only[jK,X5];split<;>omega
  have w:=h.sg0;rw[E];cases C:D.sg with
  | nil=>rw[C]at d;simp at d
  | cons a l=>
   rw[C]at w d;simp at w d;subst w;have:=K (l.set i k');simp only[List.set_cons_succ,jK]
   grind
 have x:l8 p (D.fJ i k' st' sm')<=l8 p D/\((D.fJ i k' st' sm').na≠D.na->l8 p (D.fJ i k' st' sm')<l8 p D):=by
  have:l8 p (D.fJ i k' st' sm')=iI (phi p) D.l+mo p D.f p.n+2*D.bu+(p.n-(D.fJ i k' st' sm').dn):=rfl;rw[this];unfold l8
  grind
 refine⟨⟨h.len,by simp[gm.fJ,h.lsg],?_,λj r g=>?_,h.fn,h.small,h.lenM,h.ids,h.cle,h.kle,h.mu,h.hist,h.cnt,h.hold,λj q o=>Yh x.1 (h.fuel _ _ o),λj q y o O=>(h.act _ _ _ o O).imp id λe=>Za x.1 e,λq m o Q=>?_,h.pre,h.wrk,G,λj r g z=>?_⟩,?_⟩
 .simp only[gm.fJ];rw[Yv (by omega)];exact h.sg0
 .rcases sR g H with⟨_,rfl⟩|⟨_,g⟩
  .omega
  .exact h.sg7 _ _ g
 .rcases h.actW _ _ o Q with d|d
  .by_cases v:(D.fJ i k' st' sm').na=D.na
   .exact .inl (d.trans v.symm)
   .have:=x.2 v;have:=h.fuel _ _ o;exact .inr (by omega)
  omega
 .rcases sR g H with⟨e,rfl⟩|⟨_,g⟩
  .have:j=i:=by omega
   subst this;by_cases A:k=7
   .exact F A
   .exact h.done j k H (by omega)
  .exact h.done j r g z
 .have:=Fj k' H;simp only[Wt,gm.fJ];omega
def ir(h:D.sg[i+1]?=some k):(D.fJ i k' st' sm').na+(if 3<k/\k<9 then 1 else 0)=D.na+(if 3<k'/\k'<9 then 1 else 0)/\(D.fJ i k' st' sm').nb+(if k=3\/k=2 then 1 else 0)=D.nb+(if k'=3\/k'=2 then 1 else 0)/\(D.fJ i k' st' sm').nd+(if k=1 then 1 else 0)=D.nd+(if k'=1 then 1 else 0):=by
 have H:=oP (P:=λk=>Nat.blt 3 k&&Nat.blt k 9) k' h;have b:=oP (P:=λk=>k==3||k==2) k' h;have d:=oP (P:=λk=>k==1) k' h;simp at H b d;exact⟨H,b,d⟩
def AI.Tg(h:AI p D)(H:D.sg[i+1]?=some k)(hlt:k'<k)(g:4<=k')(b:k=7->∃q,D.l[i+1]?=some q/\q.th=.out/\q.c=p.len i):AI p (D.fJ i k' D.st D.sm)/\Wt p (D.fJ i k' D.st D.sm)<Wt p D:=by
 have o:=h.sg7 _ _ H;have⟨C,d,e⟩:=ir (k':=k') (st':=D.st) (sm':=D.sm) H;rw[XE (by omega),XE (by omega)]at C;rw[Xx (by omega),Xx (by omega)]at d e;refine h.Tf H hlt b λq f=>?_;rw[show(D.fJ i k' D.st D.sm).na=D.na by omega,show(D.fJ i k' D.st D.sm).nb=D.nb by omega,show(D.fJ i k' D.st D.sm).nd=D.nd by omega];exact h.wg q f
def AI.U9(h:AI p D)(b:D.sg[i+1]?=some 4):∃v wt,wt<=1/\v<20000/\D.st=(v+1)*4294967296+wt/\D.sm=0/\(v=0/\wt=1->AI p (D.fJ i 3 (v*4294967296+wt) 0)/\Wt p (D.fJ i 3 (v*4294967296+wt) 0)<Wt p D)/\(¬(v=0/\wt=1)->AI p (D.fJ i 0 (v*4294967296+wt) 0)/\Wt p (D.fJ i 0 (v*4294967296+wt) 0)<Wt p D):=by
 have x:0<D.l.length:=by rw[h.len];omega
 have s:=Xq x;have y:=h.Jc;have z:=h.fn;have B:=h.small;have u:∀q,D.l[0]?=some q->q=D.l[0]:=λq H=>by rw[s]at H;exact(Xt H).symm
 have w:1<=D.na:=by
  have:=(ir (k':=0) (st':=0) (sm':=0) b).1;simp at this;omega
 have J:D.l[0].th.Sg<=1:=by cases D.l[0].th<;>simp[Th.Sg]
 cases(h.wg _ s)with
 | opn g A E o r F G I=>
  refine⟨D.na+D.l[0].th.Sg-1,0,by omega,by omega,by rw[o];congr 1;omega,r,λe=>XG e.2 (by omega),λ_=>h.Tf b (by omega) (by omega) λq H=>?_⟩;have⟨C,d,f⟩:=ir (k':=0) (st':=(D.na+D.l[0].th.Sg-1)*4294967296+0) (sm':=0) b;simp at C d f;rw[u q H];refine .opn g A E ?_ rfl (by simp only[aak];omega) (by simp only[aak];omega) (λe=>by have:=I e;omega)
  grind
 | reg g A o r F G=>
  refine⟨D.na-1,1,by omega,by omega,by rw[o];congr 2;omega,r,λe=>h.Tf b (by omega) (by omega) λq H=>?_,λe=>h.Tf b (by omega) (by omega) λq H=>?_⟩
  .have⟨C,d,f⟩:=ir (k':=3) (st':=(D.na-1)*4294967296+1) (sm':=0) b;simp at C d f;rw[u q H];exact .last g (by omega) (by rw[e.1]) rfl (by omega) (by omega)
  .have⟨C,d,f⟩:=ir (k':=0) (st':=(D.na-1)*4294967296+1) (sm':=0) b;simp at C d f;rw[u q H];exact .reg g (by omega) (by congr 2;omega) rfl (by omega) (by omega)
 | last _ A=>omega
 | four _ A=>omega
 | og _ A=>omega
 | fin _ A=>omega
def AI.d3(h:AI p D)(b:D.sg[i+1]?=some 3):D.st=1/\D.sm=0/\AI p (D.fJ i 2 1 0)/\Wt p (D.fJ i 2 1 0)<Wt p D:=by
 have f:0<D.l.length:=by rw[h.len];omega
 have u:∀q,D.l[0]?=some q->q=D.l[0]:=λq d=>by grind
 have⟨C,g,o⟩:=ir (k':=2) (st':=1) (sm':=0) b;simp at C g o;have H:D.nb≠0:=λe=>by have:=jE e b;simp at this
 cases(h.wg _ (Xq f))with
 | last r w s v A x=>exact⟨s,v,h.Tf b (by omega) (by omega) λq d=>by rw[u q d];exact .last r (by omega) rfl rfl (by omega) (by omega)⟩
 | opn _ _ _ _ _ A=>exact XG A H
 | reg _ _ _ _ A=>exact XG A H
 | four _ _ _ _ A=>exact XG A H
 | og _ _ _ _ A=>exact XG A H
 | fin _ _ _ _ A=>exact XG A H
def AI.d2(h:AI p D)(b:D.sg[i+1]?=some 2):D.st=1/\D.sm=0/\AI p (D.fJ i 1 0 0)/\Wt p (D.fJ i 1 0 0)<Wt p D:=by
 have f:0<D.l.length:=by rw[h.len];omega
 have u:∀q,D.l[0]?=some q->q=D.l[0]:=λq d=>by grind
 have⟨C,g,o⟩:=ir (k':=1) (st':=0) (sm':=0) b;simp at C g o;have H:D.nb≠0:=λe=>by omega
 cases(h.wg _ (Xq f))with
 | last r w s v A x=>exact⟨s,v,h.Tf b (by omega) (by omega) λq d=>by rw[u q d];exact .four r (by omega) rfl rfl (by omega) (by omega)⟩
 | opn _ _ _ _ _ A=>exact XG A H
 | reg _ _ _ _ A=>exact XG A H
 | four _ _ _ _ A=>exact XG A H
 | og _ _ _ _ A=>exact XG A H
 | fin _ _ _ _ A=>exact XG A H
def AI.d1(h:AI p D)(b:D.sg[i+1]?=some 1):D.st=0/\D.sm=0/\AI p (D.fJ i 0 0 1)/\Wt p (D.fJ i 0 0 1)<Wt p D:=by
 have f:0<D.l.length:=by rw[h.len];omega
 have u:∀q,D.l[0]?=some q->q=D.l[0]:=λq d=>by grind
 have⟨C,g,o⟩:=ir (k':=0) (st':=0) (sm':=1) b;simp at C g o;have H:D.nd≠0:=λe=>by omega
 cases(h.wg _ (Xq f))with
 | four r w s v x A=>exact⟨s,v,h.Tf b (by omega) (by omega) λq d=>by rw[u q d];exact .og r (by omega) rfl rfl (by omega) (by omega)⟩
 | opn _ _ _ _ _ _ A=>exact XG A H
 | reg _ _ _ _ _ A=>exact XG A H
 | last _ _ _ _ _ A=>exact XG A H
 | og _ _ _ _ _ A=>exact XG A H
 | fin _ _ _ _ _ A=>exact XG A H
def Fo:∀{l:Xn Nat},0<jK P l->∃(i k:Nat),l[i]?=some k/\P k=true
 | [],h=>by simp[jK]at h
 | a::l,h=>by
  cases H:P a with
  | true=>exact⟨0,a,rfl,H⟩
  | false=>
   simp[jK,H]at h;obtain⟨i,k,d,b⟩:=Fo (by omega);exact⟨i+1,k,by grind,b⟩
def AI.Wp{q:Ps}(h:AI p D)(o:D.l[0]?=some q)(H:q.th.CY=true)(v:D.sm=0):∃i k,D.sg[i+1]?=some k/\1<=k/\k<=7:=by
 have f:=h.wg _ o;have fin:∀{P:Nat->XN},0<jK P D.sg->P 9=false->P 0=false->∃i k,D.sg[i+1]?=some k/\1<=k/\k<=7:=λ{P} r s u=>by
  have⟨i,k,b,d⟩:=Fo r;cases i with
  | zero=>rw[h.sg0]at b;cases b;rw[s]at d;cases d
  | succ i=>
   refine⟨i,k,b,?_,h.sg7 _ _ b⟩;cases k with
   | zero=>rw[u]at d;cases d
   | succ k=>omega
 cases f with
 | opn _ e=>rw[H]at e;cases e
 | reg _ e=>exact fin e rfl rfl
 | last _ _ _ _ w=>exact fin (by show 0<D.nb;omega) rfl rfl
 | four _ _ _ _ _ x=>exact fin (by show 0<D.nd;omega) rfl rfl
 | og _ _ _ y=>omega
 | fin A=>
  rcases A with A|A
  .have:=((h.pre _ o).2 A).1;cases g:q.th<;>rw[g]at H this<;>simp[Th.CY,Th.sQ]at H this
  .cases g:q.th<;>rw[g]at H A<;>simp[Th.CY,Th.NR]at H A
