/-
  Part 2: ; ; ; ; ; ; .
-/
import Derived.Test.YtecibefflhomdaaGreatDoorZ01
import Derived.Calls
set_option maxHeartbeats 8000000
set_option maxRecDepth 100000
set_option linter.all false
namespace Go.Proofs.YtecibefflhomdaaGreatDoor.Pure
open Go
structure Kp where
 out:Xn ay
 same:Xn ay
 later:ay
 any:XN
def dS:Nat->Xn ay->Xn ay
 | 0,l=>l
 | f+1,l=>match l.getLast? with
  | some e=>if e.del=true then dS f l.dropLast else l
  | none=>l
def im(b:XN)(s:Kp):Kp:={ s with out:=s.out++(if b=true then dS s.same.length s.same else s.same),same:=[] }
def iT(s:Kp)(e:ay):XN:=!s.any||decide (e.key≠s.later.key)
def keeps(M:Xn Nat)(s:Kp)(e:ay):XN:=M.any λm=>decide (e.seq<=m)&&(iT s e||decide (m<s.later.seq))
def nB(m:Xn Nat)(b:XN)(s:Kp)(e:ay):Kp:=
 { (if iT s e=true then im b s else s)with
   same:=if keeps m s e=true then(if iT s e=true then im b s else s).same++[e]else(if iT s e=true then im b s else s).same,later:=e,any:=true }
def Mm:Kp:=⟨[],[],default,false⟩
def seen(M:Xn Nat)(l:Xn ay)(e:ay):XN:=M.any λm=>decide (jL l e.key m=some e)
def kl(m:Xn Nat)(l:Xn ay):Xn ay:=l.filter (seen m l)
def holds(l:Xn ay)(e:ay):XN:=l.any λx=>decide (x.key=e.key)&&decide (x.seq<=e.seq)&&!x.del
def dC(m:Xn Nat)(b:XN)(l:Xn ay):Xn ay:=if b=true then(kl m l).filter (holds (kl m l))else kl m l
def jc{a b:Xn ay}(h:iz (a++b)):iz a/\iz b/\∀x∈a,∀y∈b,less x y=true:=X7.1 h
def we:∀(n:Nat) (l:Xn ay),n=l.length->iz l->(∀x∈l,∀y∈l,x.key=y.key)->dS n l=l.filter (holds l)
 | 0,l,h,_,_=>by have:=XY h.symm;subst this;rfl
 | n+1,l,h,g,f=>by
  have b:l≠[]:=by intro i;subst i;simp at h
  obtain⟨a,e,rfl⟩:∃a e,l=a++[e]:=⟨l.dropLast,l.getLast b,(Y7 b).symm⟩;have⟨s,m,S⟩:=jc g;have d:∀x∈a,e.seq<x.seq:=λx H=>by
   rcases bZ.1 (S x H e (by simp))with c|c
   .rw[(f x (Ye _ H) e (by simp)),aP]at c;cases c
   .exact c.2
  simp only[dS,aaz,List.getLast?_singleton,Option.some_or];cases o:e.del with
  | true=>
   simp only[YB,List.dropLast_concat];rw[we n a (by simp at h;omega) s λx H y j=>f x (Ye _ H) y (Ye _ j),Y0];have k:holds (a++[e]) e=false:=by
    rw[holds,List.any_eq_false]
    grind
   simp only[Yg,k,List.filter_nil,XM,XV,Yj];refine aaZ λx H=>?_;unfold holds
   grind
  | false=>
   simp only[XM,XV];symm;rw[YM];intro x H;rw[holds,YR]
   grind
def Cq(a b:Xn ay)(k:Bs)(m:Nat):jL (a++b) k m=(jL a k m).or (jL b k m):=by
 unfold jL;rw[List.find?_append]
variable {p r:Xn ay} {e:ay}
theorem Qh (c:iz (p++e::r)) (M:List Nat):
 seen M (p++e::r) e=M.any fun m=>decide (e.seq<=m)&&p.all fun x=>!decide (x.key=e.key)||decide (m<x.seq):=by
 unfold seen;congr 1;funext m;rw[Bool.eq_iff_iff];simp only[decide_eq_true_eq,Bool.and_eq_true,List.all_eq_true,Bool.or_eq_true,Bool.not_eq_true',decide_eq_false_iff_not];have⟨S,f,s⟩:=jc c;rw[Cq];have hcons:jL (e::r) e.key m=if e.seq<=m then some e else jL r e.key m:=by
  unfold jL;rw[List.find?_cons];by_cases h:e.seq<=m<;>simp[h]
 rw[hcons];constructor
 ·intro h;cases H:jL p e.key m with
  | some x=>
   rw[H] at h;simp at h;subst h;obtain⟨A,-,-⟩:=iA H;have:=s x A x (by simp);rw[lL] at this;cases this
  | none=>
   rw[H] at h;refine⟨?_,fun x a=>?_⟩
   ·by_cases hle:e.seq<=m
    ·omega
    ·rw[if_neg hle] at h;obtain⟨A,-,g⟩:=iA h;omega
   ·by_cases b:x.key=e.key
    ·exact .inr (eE.1 H x a b)
    grind
 ·rintro⟨i,d⟩;have H:=eE.2 fun x a b=>by
   rcases d x a with h|h
   ·exact absurd b h
   omega
  grind
def DQ {z:ay} (g:iz (p++e::r)) (d:p.getLast?=some z) {x:ay} (i:x∈p) (f:x.key=e.key):z.key=e.key/\z.seq<=x.seq:=by
 have b:p≠[]:=by grind
 obtain⟨a,rfl⟩:∃a,p=a++[z]:=by
  refine⟨p.dropLast,?_⟩;rw[Zo b]at d;simp at d;rw[<- d];exact(Y7 b).symm
 have⟨s,j,S⟩:=jc g;have⟨t1,t2,t3⟩:=jc s;rcases Xy.1 i with h|h
 .have H:=t3 x h z (by simp);have c:=S z (by simp) e (by simp);rcases bZ.1 H with H|H<;>rcases bZ.1 c with c|c
  .have:=dR H c;rw[f,aP]at this;cases this
  .rw[f,c.1,aP]at H;cases H
  .grind
  grind
 grind
structure Mn(ms:Xn Nat)(bottom:XN)(l p:Xn ay)(s:Kp):Prop where
 any:s.any=!p.isEmpty
 last:s.any=true->p.getLast?=some s.later
 same:s.same=(p.filter (seen ms l)).filter λe=>s.any&&decide (e.key=s.later.key)
 out:s.out=(p.filter λe=>seen ms l e&&(!bottom||holds (kl ms l) e)).filter λe=>!(s.any&&decide (e.key=s.later.key))
variable {ms:Xn Nat} {l:Xn ay}
def xK:e∈kl ms l↔e∈l/\seen ms l e=true:=by simp[kl]
variable {bottom:XN} {s:Kp}
def DR (hl:l=p++r) (v:iz l) (h:Mn ms bottom l p s) (B:s.any=true->∀x∈r,x.key≠s.later.key):
 (im bottom s).out=p.filter λe=>seen ms l e&&(!bottom||holds (kl ms l) e):=by
 unfold im;simp only;rw[h.out];cases o:s.any with
 | false=>
  have t:p=[]:=by have:=h.any;rw[o]at this;cases p with|nil=>rfl|cons a b=>simp at this
  have H:=h.same;rw[t]at H |-;simp at H;simp[H,dS]
 | true=>
  have c:=h.last o;have H:=h.same;rw[o]at H;simp only[Zy]at H |-;have g:iz p:=by rw[hl]at v;exact(jc v).1
  have u:iz s.same:=by rw[H];exact(g.filter _).filter _
  have K:(if bottom=true then dS s.same.length s.same else s.same)=(p.filter λe=>seen ms l e&&(!bottom||holds (kl ms l) e)).filter λe=>decide (e.key=s.later.key):=by
   cases bottom with
   | false=>
    simpa only[XM,XV,Bool.not_false,abm,Bool.and_true]using H
   | true=>
    simp only[YB,ZX,abL];rw[we _ _ rfl u (λx d y f=>by
     rw[H]at d f;simp at d f;rw[d.2.1,f.2.1])]
    apply(Zu (λz=>z.filter (holds s.same)) H).trans;simp only[aaL];refine aaZ λx d=>?_;by_cases j:x.key=s.later.key
    .simp only[j,decide_true,Zy];rw[abM];congr 1;unfold holds;rw[ZV,YR,YR];constructor
     .rintro⟨y,f,i⟩;rw[H]at f;simp at f;exact⟨y,xK.2 ⟨by rw[hl];exact Ye _ f.1,f.2.2⟩,i⟩
     .rintro⟨y,f,i⟩;have⟨Y,C⟩:=xK.1 f;refine⟨y,?_,i⟩
      grind
    grind
  rw[K];have k:p≠[]:=by intro h;subst h;cases c
  have split:∀(q:Xn ay),iz q->(∀x∈q,x.key=s.later.key\/aO x.key s.later.key=true)->q.filter (λe=>!decide (e.key=s.later.key))++q.filter (λe=>decide (e.key=s.later.key))=q:=by
   intro q
   induction q with
   | nil=>intro _ _;rfl
   | cons a q I=>
    intro w A;have⟨Q,D⟩:=X1.1 w;by_cases j:a.key=s.later.key
    .have m:∀x∈q,x.key=s.later.key:=λx d=>by
      rcases A x (XQ _ d)with h|h
      .exact h
      .rcases bZ.1 (Q x d)with i|i
       .rw[j]at i;have:=dR h i;rw[aP]at this;cases this
       .rw[<- i.1];exact j
     have E:(a::q).filter (λe=>!decide (e.key=s.later.key))=[]:=by
      rw[YJ];intro x d;rcases XW.1 d with rfl|d
      .simp[j]
      .simp[m x d]
     grind
    grind
  refine split _ (g.filter _) λx d=>?_;have n:=(YS.1 d).1;obtain⟨a,t⟩:∃a,p=a++[s.later]:=by
   refine⟨p.dropLast,?_⟩;rw[Zo k]at c;simp only[Xs]at c;rw[<- c];exact(Y7 k).symm
  rw[t]at n g;rcases Xy.1 n with h|h
  .rcases bZ.1 ((jc g).2.2 x h s.later (by simp))with h|h
   .exact .inr h
   .exact .inl h.1
  grind
theorem Mo (hl:l=p++e::r) (j:iz l) (h:Mn ms bottom l p s):Mn ms bottom l (p++[e]) (nB ms bottom s e):=by
 have hseen:keeps ms s e=seen ms l e:=by
  rw[hl,Qh (hl▸j)];unfold keeps;congr 1;funext m;congr 1;unfold iT;cases f:s.any with
  | false=>
   have o:p=[]:=by have:=h.any;rw[f] at this;cases p with|nil=>rfl|cons a b=>simp at this
   subst o;simp
  | true=>
   have hlast:=h.last f;have hmem:=List.mem_of_getLast? hlast;simp only[Bool.not_true,Bool.false_or];rw[Bool.eq_iff_iff];simp only[Bool.or_eq_true,decide_eq_true_eq,List.all_eq_true,Bool.not_eq_true',decide_eq_false_iff_not];constructor
   ·intro n x H;by_cases d:x.key=e.key
    ·have⟨K,w⟩:=DQ (hl▸j) hlast H d;rcases n with n|n
     ·exact absurd K.symm n
     ·exact .inr (by omega)
    grind
   grind
 have hfst:iT s e=true->s.any=true->∀ x∈e::r,x.key≠s.later.key:=by
  intro c f x H d;have hne:e.key≠s.later.key:=by unfold iT at c;rw[f] at c;simpa using c
  rcases List.mem_cons.1 H with rfl|H
  ·exact hne d
  ·have⟨y,S,q⟩:=jc (hl▸j);have i:=q _ (List.mem_of_getLast? (h.last f)) e (by simp);have k:=(List.pairwise_cons.1 S).1 x H;rcases bZ.1 i with i|i
   ·rcases bZ.1 k with k|k
    ·have:=dR i k;rw[d,aP] at this;cases this
    ·rw[k.1,d,aP] at i;cases i
   grind
 have hother:iT s e=true->∀ x∈p,x.key≠e.key:=by
  intro c x H d;have f:s.any=true:=by have:=h.any;rw[this];cases p with|nil=>cases H|cons a b=>rfl
  have:=(DQ (hl▸j) (h.last f) H d).1;exact hfst c f e (by simp) this.symm
 rw[nB,hseen];by_cases c:iT s e=true
 ·have t:=(fun c=>DR hl j h (hfst c)) c;simp only[c,if_true];refine⟨by simp,fun _=>by simp,?_,?_⟩
  ·have u:(im bottom s).same=[]:=rfl;simp only[u,Bool.true_and,List.filter_append];have E:(p.filter (seen ms l)).filter (fun x=>decide (x.key=e.key))=[]:=by
    rw[List.filter_eq_nil_iff];intro x H;simpa using hother c x (List.mem_filter.1 H).1
   rw[E];cases hsn:seen ms l e<;>simp[hsn]
  ·simp only[Bool.true_and];rw[t,List.filter_append,List.filter_append];have E:(p.filter fun e=>seen ms l e&&(!bottom||holds (kl ms l) e)).filter (fun x=>!decide (x.key=e.key))=p.filter fun e=>seen ms l e&&(!bottom||holds (kl ms l) e):=by
    rw[List.filter_eq_self];intro x H;simpa using hother c x (List.mem_filter.1 H).1
   grind
 ·have g:iT s e=false:=by simpa using c
  obtain⟨f,d⟩:s.any=true/\e.key=s.later.key:=by
   unfold iT at g;simpa using g
  simp only[g,Bool.false_eq_true,if_false];refine⟨by simp,fun _=>by simp,?_,?_⟩
  ·simp only[Bool.true_and,List.filter_append];have:=h.same;rw[f] at this;simp only[Bool.true_and] at this;rw[d,<- this];cases hsn:seen ms l e<;>simp[hsn,d]
  ·simp only[Bool.true_and];have:=h.out;rw[f] at this;simp only[Bool.true_and] at this;rw[List.filter_append,List.filter_append,d,<- this];have v:([e].filter fun e=>seen ms l e&&(!bottom||holds (kl ms l) e)).filter (fun x=>!decide (x.key=s.later.key))=[]:=by
    rw[List.filter_eq_nil_iff];intro x H;have:=(List.mem_filter.1 H).1;simp at this;subst this;simp[d]
   rw[v];simp
def AS (H:iz l):∀(r p:Xn ay) (s:Kp),l=p++r->Mn ms bottom l p s->Mn ms bottom l l (r.foldl (nB ms bottom) s)
 | [],p,s,a,h=>by grind
 | e::r,p,s,a,h=>AS H r _ _ (by grind) (Mo a H h)
def Qi (H:iz l):(im bottom (l.foldl (nB ms bottom) Mm)).out=dC ms bottom l:=by
 rw[DR (r:=[]) (by simp) H (AS H l [] Mm rfl ⟨rfl,λh=>(by cases h),rfl,rfl⟩) λ_ x a=>by grind];unfold dC;cases bottom with
 | false=>simp[kl]
 | true=>simp[kl,abM]
def ik:XB ay->XB Bs
 | none=>none
 | some e=>if e.del=true then none else some e.val
def gW(ms:Xn Nat)(b:XN)(l:Xn ay):(dC ms b l).Sublist l:=by
 unfold dC;split
 .exact List.filter_sublist.trans Zg
 .exact Zg
variable {b:XN}
def ox (h:iz l):iz (dC ms b l):=h.sublist (gW ms b l)
def JU (h:e∈dC ms b l):e∈kl ms l:=by
 unfold dC at h
 grind
variable {k:Bs} {m:Nat}
def DS (hl:iz l) (hm:m∈ms):jL (dC ms false l) k m=jL l k m:=by
 cases h:jL l k m with
 | none=>exact eE.2 λx H=>eE.1 h x ((gW _ _ _).subset H)
 | some e=>
  have⟨a,A,c⟩:=iA h;refine xJ (ox hl) (xK.2 ⟨a,?_⟩) A c λx H=>rk hl h x ((gW _ _ _).subset H);unfold seen
  grind
def Mp (hl:iz l) (hm:m∈ms):ik (jL (dC ms true l) k m)=ik (jL l k m):=by
 cases a:jL l k m with
 | none=>
  have:jL (dC ms true l) k m=none:=eE.2 λx H=>eE.1 a x ((gW _ _ _).subset H)
  grind
 | some e=>
  have⟨A,i,j⟩:=iA a;have f:=xK.2 ⟨A,by
   rw[seen,YR];exact⟨m,hm,by grind⟩⟩
  by_cases c:holds (kl ms l) e=true
  .have:jL (dC ms true l) k m=some e:=xJ (ox hl) (YS.2 ⟨f,c⟩) i j λx H=>rk hl a x ((gW _ _ _).subset H)
   grind
  .have g:e.del=true:=by
    cases g:e.del with
    | true=>rfl
    | false=>exact XG (YR.2 ⟨e,f,by grind⟩) c
   have:jL (dC ms true l) k m=none:=eE.2 λx H d=>by
    rcases X8 m x.seq with h|h
    .omega
    .have o:=rk hl a x ((gW _ _ _).subset H) d h;have n:=(YS.1 H).2;unfold holds at n c
     grind
   rw[this];simp[ik,g]
abbrev mI(l:Xn (Bs×Bs)):Prop:=l.Pairwise λa b=>aO a.1 b.1=true
def bD:Xn (Bs×Bs)->Bs->XB Bs
 | [],_=>none
 | p::r,k=>if p.1=k then some p.2 else bD r k
def o6 {l:Xn (Bs×Bs)} (h:∀p∈l,p.1≠k):bD l k=none:=by
 induction l with
 | nil=>rfl
 | cons p r i=>
  unfold bD
  grind
def xL {l:Xn (Bs×Bs)} {v:Bs} (h:bD l k=some v):(k,v)∈l:=by
 induction l with
 | nil=>cases h
 | cons p r i=>
  unfold bD at h
  grind
def JV{l:Xn (Bs×Bs)}(hl:mI l){p:Bs×Bs}(h:p∈l):bD l p.1=some p.2:=by
 induction l with
 | nil=>cases h
 | cons q r i=>
  have⟨Q,a⟩:=X1.1 hl;unfold bD;rcases XW.1 h with rfl|h
  .simp
  .rw[Xx (o5 (Q p h))];exact i a h
def uO:∀{a b:Xn (Bs×Bs)},mI a->mI b->(∀k,bD a k=bD b k)->a=b
 | [],[],_,_,_=>rfl
 | [],q::b,_,_,h=>by have:=h q.1;simp[bD]at this
 | p::a,[],_,_,h=>by have:=h p.1;simp[bD]at this
 | p::a,q::b,i,j,h=>by
  have⟨P,n⟩:=X1.1 i;have⟨Q,o⟩:=X1.1 j;have E:=h p.1;have c:=h q.1;simp[bD]at E c;have g:p.1=q.1:=by
   rcases eP p.1 q.1 with H|H|H
   .rw[Xx (YP (o5 H))]at E;have:=xL E.symm;have:=Q _ this;rw[cX H]at this;cases this
   .omega
   .rw[Xx (YP (o5 H))]at c;have:=xL c;have:=P _ this;rw[cX H]at this;cases this
  rw[XE g.symm]at E;cases Prod.ext g (by grind);congr 1;refine uO n o λk=>?_;have:=h k;unfold bD at this;by_cases d:p.1=k
  .subst d;rw[o6 λr f=>YP (o5 (P r f)),o6 λr f=>YP (o5 (Q r f))]
  grind
def o7{l:Xn (Bs×Bs)}(f:Bs->XN)(k:Bs):bD (l.filter λp=>f p.1) k=if f k=true then bD l k else none:=by
 induction l with
 | nil=>simp[bD]
 | cons p r i=>
  rw[Yg];by_cases h:f p.1=true
  .unfold bD
   grind
  .rw[Xx h,i];by_cases H:p.1=k
   .grind
   .rw[bD,Xx H]
def xM(l:Xn (Bs×Bs))(k v:Bs)(d:XN):Xn (Bs×Bs):=
 (l.filter λp=>aO p.1 k)++(if d=true then[]else[(k,v)])++l.filter λp=>aO k p.1
def DT{l:Xn (Bs×Bs)}(hl:mI l)(k v:Bs)(d:XN):mI (xM l k v d):=by
 refine X7.2 ⟨X7.2 ⟨by grind,?_,?_⟩,by grind,?_⟩
 .split<;>simp
 .grind
 .intro a h b H;rcases Xy.1 h with h|h
  .exact dR (YS.1 h).2 (by grind)
  grind
def te(a b:Xn (Bs×Bs))(k:Bs):bD (a++b) k=(bD a k).or (bD b k):=by
 induction a with
 | nil=>rfl
 | cons p r i=>
  simp[bD]
  grind
def AU(l:Xn (Bs×Bs))(k v:Bs)(d:XN)(x:Bs):bD (xM l k v d) x=if x=k then(if d=true then none else some v)else bD l x:=by
 rw[xM,te,te,o7 λy=>aO y k,o7 λy=>aO k y];by_cases H:x=k
 .subst H;rw[aP];cases d<;>simp[bD]
 .have E:bD (if d=true then[]else[(k,v)]) x=none:=by split<;>simp[bD,YP H]
  rcases eP x k with h|h|h
  .grind
  .grind
  grind
def tf(h k:Bs):XN:=decide (h=[])||aO k h
def tg(L k:Bs):XN:=!aO k L
def JW{α:Type}(L:Int)(l:Xn α):Xn α:=if 0<L then l.take L.toNat else l
def gB(l:Xn (Bs×Bs))(a h:Bs)(L:Int):Xn (Bs×Bs):=JW L (l.filter λp=>tg a p.1&&tf h p.1)
def shown(l:Xn ay)(m:Nat)(e:ay):XB (Bs×Bs):=if jL l e.key m=some e then(if e.del=true then none else some (e.key,e.val))else none
def tj(l:Xn ay)(m:Nat):Xn (Bs×Bs):=l.filterMap (shown l m)
def oy {p:Bs×Bs} (h:shown l m e=some p):p=(e.key,e.val)/\jL l e.key m=some e/\e.del=false:=by
 unfold shown at h
 grind
def wh (hl:iz l) (m:Nat):mI (tj l m):=by
 rw[tj,mI,List.pairwise_filterMap];refine hl.imp_of_mem λ{a b} f g H p c q d=>?_;obtain⟨rfl,i,-⟩:=oy c;obtain⟨rfl,j,-⟩:=oy d;rcases bZ.1 H with h|h
 .omega
 grind
def Ag (hl:iz l) (m:Nat) (k:Bs):bD (tj l m) k=ik (jL l k m):=by
 cases a:jL l k m with
 | none=>
  refine o6 λp h d=>?_;have⟨e,j,H⟩:=ZD.1 h;obtain⟨rfl,f,-⟩:=oy H
  grind
 | some e=>
  have⟨A,g,n⟩:=iA a;cases c:e.del with
  | true=>
   simp[ik,c];refine o6 λp h d=>?_;have⟨x,o,H⟩:=ZD.1 h;obtain⟨rfl,f,i⟩:=oy H
   grind
  | false=>
   simp[ik];have:(e.key,e.val)∈tj l m:=ZD.2 ⟨e,A,by
    unfold shown;rw[g,XE a,c];simp⟩
   have i:=JV (wh hl m) this
   grind
structure Sc where
 out:Xn (Bs×Bs)
 last:Bs
 any:XN
def mJ(h:Bs)(L:Int)(S:Nat)(s:Sc)(e:ay):Sc×XN:=
 if(h≠[]/\aO e.key h=false)\/(0<L/\(s.out.length:Int)=L)then(s,false)else
 if S<e.seq\/(s.any=true/\e.key=s.last)then(s,true)else
 (⟨if e.del=true then s.out else s.out++[(e.key,e.val)],e.key,true⟩,true)
def sb{σ:Type}(body:σ->ay->σ×XN):Xn ay->σ->σ
 | [],s=>s
 | e::r,s=>if(body s e).2=true then sb body r (body s e).1 else(body s e).1
structure UC(seq:Nat)(l p:Xn ay)(s:Sc):Prop where
 out:s.out=p.filterMap (shown l seq)
 last:s.any=true->∃z∈p,z.key=s.last/\z.seq<=seq/\∀x∈p,x.seq<=seq->less z x=false\/x.key=z.key
 any:s.any=false->∀x∈p,seq<x.seq
variable {hi:Bs} {limit:Int} {seq:Nat}
def uP (J:iz l):∀(r p:Xn ay) (s:Sc),l=p++r->UC seq l p s->(0<limit->(s.out.length:Int)<=limit)->(∀x∈s.out,tf hi x.1=true) ->
 (sb (mJ hi limit seq) r s).out=JW limit ((l.filterMap (shown l seq)).filter λp=>tf hi p.1)
 | [],p,s,v,h,a,o=>by
  simp at v;subst v;show s.out=_;rw[<- h.out,YM.2 o];unfold JW;split
  .rename_i w;rw[Yt];have:=a w;omega
  .rfl
 | e::r,p,s,v,h,a,o=>by
  have A:l.filterMap (shown l seq)=s.out++(e::r).filterMap (shown l seq):=by
   rw[h.out,<- aas,<- v]
  have⟨X,U,S⟩:=jc (v▸J);unfold sb mJ;by_cases E:(hi≠[]/\aO e.key hi=false)\/(0<limit/\(s.out.length:Int)=limit)
  .rw[XE E];simp only[XM,XV];rw[A,Y0,YM.2 o];rcases E with⟨B,t⟩|⟨B,t⟩
   .have:((e::r).filterMap (shown l seq)).filter (λp=>tf hi p.1)=[]:=by
     rw[YJ];intro q V;have⟨x,H,K⟩:=ZD.1 V;obtain⟨rfl,-,-⟩:=oy K;have L:aO x.key hi=false:=by
      rcases XW.1 H with rfl|H
      .exact t
      .rcases bZ.1 ((X1.1 U).1 x H)with g|g
       .exact uN t (cX g)
       .rw[<- g.1];exact t
     simp[tf,B,L]
    rw[this,Yj];unfold JW;split
    .rename_i w;rw[Yt];have:=a w;omega
    .rfl
   .rw[JW,XE B,List.take_left' (by omega)]
  .rw[Xx E];have W:tf hi e.key=true:=by
    unfold tf;by_cases i:hi=[]
    .simp[i]
    .cases H:aO e.key hi with
     | true=>simp
     | false=>exact XG (.inl ⟨i,H⟩) E
   have M:=λw=>by
    have:=a w;have u:=λd=>E (.inr ⟨w,d⟩);omega
   have y:jL l e.key seq=some e↔e.seq<=seq/\∀x∈p,x.key=e.key->seq<x.seq:=by
    rw[v,Cq];have C:jL (e::r) e.key seq=if e.seq<=seq then some e else jL r e.key seq:=by
     unfold jL;rw[abt];by_cases h:e.seq<=seq<;>simp[h]
    rw[C];constructor
    .intro i;cases D:jL p e.key seq with
     | some x=>
      rw[D]at i;simp at i;subst i;have:=S x (iA D).1 x (by simp);rw[lL]at this;cases this
     | none=>
      rw[D]at i;simp only[Option.none_or]at i;refine⟨?_,eE.1 D⟩;by_cases f:e.seq<=seq
      .exact f
      .rw[Xx f]at i;exact(iA i).2.2
    .rintro⟨g,u⟩;rw[eE.2 u,XE g];rfl
   by_cases c:seq<e.seq\/(s.any=true/\e.key=s.last)
   .rw[XE c];simp only[YB];have F:shown l seq e=none:=by
     rw[shown,Xx];rw[y];rintro⟨g,u⟩;rcases c with d|⟨d,j⟩
     .omega
     .obtain⟨z,G,Z,N,-⟩:=h.last d;have:=u z G (Z.trans j.symm);omega
    refine uP J r (p++[e]) s (by rw[v];simp) ⟨by rw[aas,h.out];simp[F],λn=>?_,λn x H=>?_⟩ a o
    .have⟨z,G,Z,N,O⟩:=h.last n;refine⟨z,Ye _ G,Z,N,λx H P=>?_⟩;rcases Xy.1 H with H|H
     .exact O x H P
     .simp at H;subst H;rcases c with d|⟨_,j⟩
      .omega
      .exact .inr (j.trans Z.symm)
    .rcases Xy.1 H with H|H
     .exact h.any n x H
     .simp at H;subst H;rcases c with d|⟨d,_⟩
      .exact d
      .rw[n]at d;cases d
   .rw[Xx c];simp only[YB];have f:e.seq<=seq:=by omega
    have D:=y.2 ⟨f,λx H R=>by
     rcases X8 seq x.seq with g|g
     .exact g
     .cases n:s.any with
      | false=>exact h.any n x H
      | true=>
       have⟨z,G,Z,N,O⟩:=h.last n;have I:=λd=>c (.inr ⟨n,d⟩);rcases O x H g with u|u
       .have j:=S z G e (by simp);exfalso;rcases bZ.1 j with j|j
        .rw[<- R]at j;rw[bZ.2 (.inl j)]at u;cases u
        .exact I (j.1.symm.trans Z)
       .exact XG (R.symm.trans (u.trans Z)) I⟩
    have Q:shown l seq e=if e.del=true then none else some (e.key,e.val):=by unfold shown;rw[XE D]
    refine uP J r (p++[e]) _ (by rw[v];simp) ⟨?_,λ_=>?_,λn=>by cases n⟩ ?_ ?_
    .rw[aas,<- h.out];cases T:e.del<;>simp[Q,T]
    .refine⟨e,by simp,rfl,f,λx H _=>?_⟩;rcases Xy.1 H with H|H
     .exact .inl (GB (S x H e (by simp)))
     .simp at H;subst H;exact .inr rfl
    .intro w;have:=M w;cases T:e.del<;>simp<;>omega
    grind
def Ix:Sc:=⟨[],[],false⟩
theorem Qj {L:Bs} {ps:List (Bs×Bs)} (H:iz l) (hlo:∀ e∈l,tg L e.key=true) (d:mI ps) (h:∀ k,tg L k=true->ik (jL l k seq)=bD ps k):(sb (mJ hi limit seq) l Ix).out=gB ps L hi limit:=by
 rw[uP H l [] Ix rfl ⟨rfl,fun h=>(by cases h),fun _ x a=>(by grind)⟩ (fun f=>by show((0:Nat):Int)<=limit;omega) (fun x a=>by cases a)];unfold gB;congr 1;have E:l.filterMap (shown l seq)=ps.filter fun p=>tg L p.1:=by
  refine uO (wh H seq) (by grind) fun k=>?_;show bD (tj l seq) k=_;rw[Ag H,o7];by_cases c:tg L k=true
  ·grind
  ·rw[if_neg c];have:jL l k seq=none:=eE.2 fun e g hek=>absurd (by grind) c;rw[this];rfl
 rw[E,List.filter_filter];congr 1;funext p;rw[Bool.and_comm]
def lY(L:Xn (Xn ay))(k:Bs)(m:Nat):XB ay:=L.findSome? λl=>jL l k m
abbrev UD(a b:Xn ay):Prop:=∀x∈a,∀y∈b,x.key=y.key->y.seq<x.seq
abbrev Ord(ls:Xn (Xn ay)):Prop:=ls.Pairwise UD
def dD(l:Xn ay)(L:Xn (Xn ay))(k:Bs)(m:Nat):lY (l::L) k m=(jL l k m).or (lY L k m):=by
 unfold lY;rw[List.findSome?_cons];cases jL l k m<;>rfl
def lM(a b:Xn (Xn ay))(k:Bs)(m:Nat):lY (a++b) k m=(lY a k m).or (lY b k m):=by
 unfold lY;rw[List.findSome?_append]
variable {ls:Xn (Xn ay)}
def JX:lY ls k m=none↔∀l∈ls,∀e∈l,e.key=k->m<e.seq:=by
 rw[lY,List.findSome?_eq_none_iff];constructor
 .intro h l H;exact eE.1 (h l H)
 .intro h l H;exact eE.2 (h l H)
def JY (h:lY ls k m=some e):∃l∈ls,jL l k m=some e:=by
 have⟨l,H,a⟩:=List.exists_of_findSome?_eq_some h
 grind
def Mq (j:∀l∈ls,iz l) (g:Ord ls) (h:lY ls k m=some e):∀l∈ls,∀x∈l,x.key=k->x.seq<=m->x.seq<=e.seq:=by
 induction ls with
 | nil=>intro l H;cases H
 | cons a r I=>
  have⟨o,O⟩:=X1.1 g;rw[dD]at h;intro l H x d f i;cases c:jL a k m with
  | some z=>
   rw[c]at h;simp at h;subst h;rcases XW.1 H with rfl|H
   .exact rk (by grind) c x d f i
   .have:=o l H z (iA c).1 x d ((iA c).2.1.trans f.symm);omega
  | none=>
   rcases XW.1 H with rfl|H
   .have:=eE.1 c x d f;omega
   grind
def GC {L:Xn ay} (i:∀l∈ls,iz l) (j:Ord ls) (n:iz L) (hm:∀e,e∈L↔∃l∈ls,e∈l) (k:Bs) (m:Nat):jL L k m=lY ls k m:=by
 cases H:lY ls k m with
 | none=>
  exact eE.2 λx a c=>by
   have⟨l,g,h⟩:=(hm x).1 a;exact JX.1 H l g x h c
 | some e=>
  have⟨l,g,o⟩:=JY H;have⟨u,A,q⟩:=iA o;refine xJ n (by grind) A q λx a c d=>?_;have⟨t,f,h⟩:=(hm x).1 a;exact Mq i j H t f x h c d
def GD(l:Xn ay)(f:Bs->XN)(k:Bs)(m:Nat):jL (l.filter λe=>f e.key) k m=if f k=true then jL l k m else none:=by
 induction l with
 | nil=>simp[jL]
 | cons e r i=>
  unfold jL at *
  grind
def kS(k v:Bs):XN->Xn (Bs×Bs)->Xn (Bs×Bs)
 | put,[]=>if put=true then[]else[(k,v)]
 | put,p::r=>(if put=false/\aO p.1 k=false then[(k,v)]else[])++((if p.1≠k then[p]else[])++kS k v (put||!aO p.1 k) r)
def AV(k v:Bs):∀l:Xn (Bs×Bs),kS k v true l=l.filter λp=>decide (p.1≠k)
 | []=>rfl
 | p::r=>by
  unfold kS;rw[Yg];simp only[abm,AV k v r];by_cases h:p.1=k<;>simp[h]
def Cr(k v:Bs)(d:XN):∀{l:Xn (Bs×Bs)},mI l->kS k v d l=xM l k v d
 | [],_=>by cases d<;>simp[kS,xM]
 | p::r,j=>by
  have⟨P,n⟩:=X1.1 j;have I:=Cr k v d n;unfold kS;cases a:aO p.1 k with
  | true=>
   simp only[Bool.true_eq_false,and_false,XV,List.nil_append,ne_eq,o5 a,Z2,YB,ZX,Bool.or_false,I];unfold xM;rw[Yg,Yg,a,(cX a)];simp
  | false=>
   have H:=λq c=>by
    have:=P q c;exact sa a this
   have f:r.filter (λq=>aO q.1 k)=[]:=by
    rw[YJ];intro q c;rw[cX (H q c)];simp
   have g:=YM.2 H;have i:r.filter (λq=>decide (q.1≠k))=r:=YM.2 λq c=>by
    grind
   simp only[Bool.not_false,Bool.or_true,AV,i,and_true];rw[xM,Yg,Yg,a,f,g];rcases eP p.1 k with h|h|h
   .rw[a]at h;cases h
   .subst h;rw[aP];cases d<;>simp
   .rw[h];cases d<;>simp[(YP (o5 h))]
structure cC where
 key:Bs
 val:Bs
 del:XN
deriving DecidableEq
def sF(l:Xn (Bs×Bs))(b:Xn cC):Xn (Bs×Bs):=b.foldl (λl c=>xM l c.key c.val c.del) l
def tl:∀(b:Xn cC) {l:Xn (Bs×Bs)},mI l->mI (sF l b)
 | [],_,h=>h
 | c::b,_,h=>tl b (DT h c.key c.val c.del)
def kD(c:cC)(q:Nat):ay:=⟨c.key,c.val,c.del,q⟩
def bB:Nat->Xn cC->Xn ay
 | _,[]=>[]
 | q,c::r=>kD c (q+1)::bB (q+1) r
def xN:∀(b:Xn cC) (q:Nat) (e:ay),e∈bB q b->q<e.seq/\e.seq<=q+b.length
 | [],_,e,h=>by cases h
 | c::r,q,e,h=>by
  rcases XW.1 h with rfl|h
  .simp[kD]
  .have:=xN r _ e h
   grind
@[simp] theorem iG:∀(b:Xn cC) (q:Nat),(bB q b).length=b.length
 | [],_=>rfl
 | c::r,q=>by simp[bB,iG r]
def Iy (hl:iz l) (j:∀x∈l,x.seq<e.seq) (k:Bs) (m:Nat):jL (gq l e) k m=if e.key=k/\e.seq<=m then some e else jL l k m:=by
 have d:=qn (e:=e) hl λx H h=>by grind
 by_cases h:e.key=k/\e.seq<=m
 .rw[XE h];refine xJ d (kC.2 (.inl rfl)) h.1 h.2 λx H _ _=>?_;rcases kC.1 H with rfl|H
  .omega
  grind
 .rw[Xx h];cases a:jL l k m with
  | none=>
   exact eE.2 λx H c=>by
    rcases kC.1 H with rfl|H
    .grind
    .exact eE.1 a x H c
  | some z=>
   have⟨A,f,g⟩:=iA a;refine xJ d (kC.2 (.inr A)) f g λx H c i=>?_;rcases kC.1 H with rfl|H
   .grind
   .exact rk hl a x H c i
def DU:∀(b:Xn cC) {q:Nat} {l:Xn ay},iz l->(∀x∈l,x.seq<=q)->iz ((bB q b).foldl gq l)
 | [],_,_,h,_=>h
 | c::r,q,l,h,a=>DU r (qn h λx H d=>by have:=a x H;simp[kD]at d;omega) λx H=>by
  rcases kC.1 H with rfl|H
  .exact XD _
  grind
def xO:∀(b:Xn ay) {l:Xn ay} {x:ay},x∈b.foldl gq l↔x∈b\/x∈l
 | [],_,_=>by simp
 | c::r,l,x=>by
  rw[YI,xO r,kC,XW]
  grind
@[simp] theorem nC:∀(b:Xn ay) (l:Xn ay),(b.foldl gq l).length=l.length+b.length
 | [],_=>rfl
 | c::r,l=>by rw[YI,nC r,ny,X5];omega
def tn:∀(b:Xn cC) {q:Nat} {l:Xn ay} (k:Bs) (m:Nat),iz l->(∀x∈l,x.seq<=q)->m<=q->jL ((bB q b).foldl gq l) k m=jL l k m
 | [],_,_,_,_,_,_,_=>rfl
 | c::r,q,l,k,m,h,a,g=>by
  have d:=qn (e:=kD c (q+1)) h λx H f=>by have:=a x H;simp[kD]at f;omega
  rw[bB,YI,tn r k m d (λx H=>by
   rcases kC.1 H with rfl|H
   .exact XD _
   .have:=a x H;omega) (by omega),Iy h λx H=>by have:=a x H;simp[kD];omega]
  rw[Xx (by simp[kD];omega)]
def tp:∀(b:Xn cC) {q:Nat} {l:Xn ay} (k:Bs) (m:Nat) (ps:Xn (Bs×Bs)) (B:XB ay),iz l->(∀x∈l,x.seq<=q)->q+b.length<=m ->
 ik ((jL l k m).or B)=bD ps k->ik ((jL ((bB q b).foldl gq l) k m).or B)=bD (sF ps b) k
 | [],_,_,_,_,_,_,_,_,_,h=>h
 | c::r,q,l,k,m,ps,B,h,a,f,i=>by
  simp at f;refine tp r k m _ B (qn h λx H g=>by have:=a x H;simp[kD]at g;omega) (λx H=>by
   rcases kC.1 H with rfl|H
   .exact XD _
   .have:=a x H;omega) (by omega) ?_
  rw[Iy h λx H=>by have:=a x H;simp[kD];omega,AU];by_cases d:k=c.key
  .subst d;rw[XE ⟨rfl,by simp[kD];omega⟩,XE rfl];simp[ik,kD]
  .rwa[Xx (by simp;intro h;exact XG h.symm d),Xx d]
end Go.Proofs.YtecibefflhomdaaGreatDoor.Pure
namespace Go.Proofs.YtecibefflhomdaaGreatDoor
open Go
section
open Pure (ad aB da eO gA df kB eD lb lf gz fc)
def aY(D:ad)(n:Bs):XB (XB Bs×Nat):=if D.eg=true then some (some n,8)else match aB D.now n with|none=>some (some n,10)|some _=>none
abbrev eX:=XB Bs×Nat
def jd(D:ad)(n:Bs)(f:Nat->ad):ad:=match aY D n with
 | some _=>D.tick
 | none=>match aB D.now n with
  | some i=>f i
  | none=>D.tick
def o8(D:ad)(i:Nat):Nat:=match aB D.nodes i with|some x=>x.2|none=>0
def dT(D:ad)(n bs:Bs):XB eX:=match aY D n with
 | some e=>some e
 | none=>if(bs.length:Int) > D.room-D.used then some (some n,9)else none
def bG(D:ad)(n bs:Bs):ad:=match dT D n bs with
 | some _=>D.tick
 | none=>match aB D.now n with
  | some i=>D.tick.laid i (D.aG i++bs,o8 D i)
  | none=>D.tick
def iL(bs:Bs)(at_ n:Int):Bs:=(bs.drop (min (max at_ 0) bs.length).toNat).take (min (max n 0) (bs.length-min (max at_ 0) bs.length)).toNat
def counted(D:ad)(n:Int):ad:={ D with reads:=IntKind.i64.wrap (D.reads+1),most:=max D.most n }
def fw(D:ad):ad:=if D.eg=true then D.tick else D.tick.synced
def dI(room:Int):ad:=⟨[],[],[],[],room,0,0,0,0⟩
def fresh(D:ad):Nat:=(D.nodes.map (·.1)).foldl max 0+1
def tq:∀(l:Xn Nat) (m:Nat),m<=l.foldl max m/\∀x∈l,x<=l.foldl max m
 | [],m=>⟨by grind,by simp⟩
 | y::l,m=>by
  have⟨h,H⟩:=tq l (max m y)
  grind
def xP(D:ad):aB D.nodes (fresh D)=none:=by
 rw[fc];intro h;have:=(tq _ 0).2 _ h;unfold fresh at this;omega
def iu(D:ad)(n:Bs):XB eX:=if D.eg=true then some (some n,8)else if(aB D.now n).isSome=true then some (some n,11)else none
def cI(D:ad)(n:Bs):ad:=if D.eg=true then D.tick else if(aB D.now n).isSome=true then D.tick else D.tick.created n (fresh D.tick)
def fileOf(D:ad)(n:Bs):Bs:=match aB D.now n with|some i=>D.aG i|none=>[]
def pV(D:ad)(n:Bs):Nat:=match aY D n with|some _=>0|none=>(fileOf D n).length
def je(D:ad)(n:Bs):ad:=jd D n λi=>D.tick.laid i (D.aG i,(D.aG i).length)
def fX(D:ad)(n:Bs):ad:=jd D n λ_=>D.tick.gS n
def gU(D:ad)(n m:Bs):ad:=jd D n λi=>if n=m then D.tick else D.tick.renamed n m i
def kX(D:ad)(nm:Bs)(at_ n:Int):Bs:=match aY D nm with
 | some _=>[]
 | none=>iL (fileOf D nm) at_ n
open Pure (ad ay Rd bF less aO aU)
structure dB where
 name:Bs
 first:Bs
 last:Bs
 count:Nat
 blocks:Xn (Bs×Nat×Nat)
deriving DecidableEq
def jJ:Nat:=1099511627776
def bC:jJ=1099511627776:=rfl
attribute [irreducible] jJ
def fx:Nat->Rd->Xn ay×XN
 | 0,r=>([],r.bad)
 | f+1,r=>if r.rest≠[]/\r.bad=false then(r.entry.1::(fx f r.entry.2).1,(fx f r.entry.2).2)else([],r.bad)
def xQ(nm bs:Bs):XB (YH eX (Xn ay)):=match bF bs with
 | none=>some (.error (some nm,7))
 | some z=>if bs.length<=jJ then(if(fx z.1.length ⟨z.1,false⟩).2=true then some (.error (some nm,7))else some (.ok (fx z.1.length ⟨z.1,false⟩).1))else none
def AW(D:ad)(T:dB)(i:Nat):XB (YH eX (Xn ay)×ad):=match T.blocks[i]? with
 | none=>none
 | some b=>match aY D T.name with
  | some e=>some (.error e,(counted D b.2.2).tick)
  | none=>(xQ T.name (kX D T.name b.2.1 b.2.2)).map λx=>(x,(counted D b.2.2).tick)
def DW(key:Bs):Xn (Bs×Nat×Nat)->Nat
 | []=>0
 | b::r=>if aO key b.1=true then 0 else DW key r+1
def nT(T:dB)(key:Bs):Nat:=DW key (T.blocks.drop 1)
def oz(T:dB)(key:Bs):Nat->ad->Nat->Xn ay->XB (YH eX (XB ay×Nat×Xn ay)×ad)
 | 0,_,_,_=>none
 | f+1,D,i,[]=>if i=T.blocks.length then some (.ok (none,i,[]),D)else match AW D T i with
  | none=>none
  | some (.error e,d)=>some (.error e,d)
  | some (.ok b,d)=>oz T key f d (i+1) b
 | f+1,D,i,e::l=>if aO e.key key=true then oz T key f D i l else some (.ok (some e,i,l),D)
inductive It where
 | mem (i:Nat)
 | JZ (T:dB) (key:Bs) (i:Nat) (l:Xn ay)
def bO:Nat:=18446744073709551615
def jO(M:Xn ay)(key:Bs):It:=.mem (aU M ⟨key,[],false,bO⟩)
def eF(T:dB)(key:Bs):It:=.JZ T key (nT T key) []
def pW(M:Xn ay)(D:ad):It->XB (YH eX (XB ay×It)×ad)
 | .mem i=>match M[i]? with
  | none=>some (.ok (none,.mem i),D)
  | some e=>some (.ok (some e,.mem (i+1)),D)
 | .JZ T k i l=>match oz T k jJ D i l with
  | none=>none
  | some (.error e,d)=>some (.error e,d)
  | some (.ok (x,I,L),d)=>some (.ok (x,.JZ T k I L),d)
structure Mg where
 started:XN
 rows:Xn It
 heads:Xn (ay×It)
def nU(M:Xn ay):Xn It->Xn (ay×It)->ad->XB (YH eX (Xn (ay×It))×ad)
 | [],acc,D=>some (.ok acc,D)
 | it::r,acc,D=>match pW M D it with
  | none=>none
  | some (.error e,d)=>some (.error e,d)
  | some (.ok (none,_),d)=>nU M r acc d
  | some (.ok (some e,i),d)=>nU M r (acc++[(e,i)]) d
def iU(h:Xn ay)(n:Nat):Nat:=(List.range n).foldl (λb i=>if less (h.getD i default) (h.getD b default)=true then i else b) 0
def Cs(M:Xn ay)(D:ad)(g:Mg):XB (YH eX (Xn (ay×It))×ad):=
 if g.started=true then some (.ok g.heads,D)else if g.rows.length<=jJ then nU M g.rows g.heads D else none
def Mr(M:Xn ay)(D:ad)(rows:Xn It)(H:Xn (ay×It)):XB (YH eX (XB ay×Mg)×ad):=
 match H[iU (H.map (·.1)) H.length]? with
 | none=>some (.ok (none,⟨true,rows,H⟩),D)
 | some h=>match pW M D h.2 with
  | none=>none
  | some (.error e,d)=>some (.error e,d)
  | some (.ok (none,_),d)=>some (.ok (some h.1,⟨true,rows,H.eraseIdx (iU (H.map (·.1)) H.length)⟩),d)
  | some (.ok (some e,i),d)=>some (.ok (some h.1,⟨true,rows,H.set (iU (H.map (·.1)) H.length) (e,i)⟩),d)
def DX(M:Xn ay)(D:ad)(g:Mg):XB (YH eX (XB ay×Mg)×ad):=match Cs M D g with
 | none=>none
 | some (.error e,d)=>some (.error e,d)
 | some (.ok h,d)=>Mr M d g.rows h
inductive Nx where
 | one (it:It)
 | mg (g:Mg)
def wj(M:Xn ay)(D:ad):Nx->XB (YH eX (XB ay×Nx)×ad)
 | .one i=>(pW M D i).map λx=>(x.1.map λy=>(y.1,.one y.2),x.2)
 | .mg g=>(DX M D g).map λx=>(x.1.map λy=>(y.1,.mg y.2),x.2)
def sd{σ:Type}(M:Xn ay)(body:σ->ay->XB (σ×XN)):Nat->Nx->ad->σ->XB (σ×XB eX×ad)
 | 0,_,_,_=>none
 | f+1,n,D,s=>match wj M D n with
  | none=>none
  | some (.error e,d)=>some (s,some e,d)
  | some (.ok (none,_),d)=>some (s,none,d)
  | some (.ok (some e,N),d)=>match body s e with
   | none=>none
   | some (S,true)=>sd M body f N d S
   | some (S,false)=>some (S,none,d)
end
section
open Pure (ad ay Rd bF less aO aU bA aX aA dz dec)
structure Wr where
 file:Bs
 inb:Bs
 first:Bs
 blocks:Xn (Bs×Nat×Nat)
def mK(s:Wr):XB Wr:=if s.inb.length<=1048576/\s.file.length<=jJ/\s.blocks.length<=jJ then some ⟨s.file++aA s.inb,[],s.first,s.blocks++[(s.first,s.file.length,(aA s.inb).length)]⟩else none
def DY(e:ay):XN:=Nat.ble e.key.length 1000&&(e.del||Nat.ble e.val.length 1000)
def stepW(l:Xn ay)(i:Nat)(e:ay)(s:Wr):XB Wr:=
 if s.inb.length<=1048576/\DY e=true then
  (if 300<=s.inb.length then match l[i-1]? with
    | none=>none
    | some p=>if e.key=p.key then some s else(mK s).map λs=>{ s with first:=e.key }
  else some s).map λs=>{ s with inb:=s.inb++dz e }
 else none
def nV(l:Xn ay):Nat->Xn ay->Wr->XB Wr
 | _,[],s=>some s
 | i,e::r,s=>match stepW l i e s with
  | none=>none
  | some s=>nV l (i+1) r s
def jP(first l:Bs)(c:Nat)(bs:Xn (Bs×Nat×Nat)):Bs:=
 aX first++aX l++bA c 4++(bs.map λb=>aX b.1++bA b.2.1 4++bA b.2.2 4).flatten
def J0(l:Xn ay):XB (Bs×Xn (Bs×Nat×Nat)):=match l,l.getLast? with
 | e::_,some z=>match (nV l 0 l ⟨[],[],e.key,[]⟩).bind mK with
  | none=>none
  | some s=>if s.file.length<=jJ/\s.blocks.length<=1048576/\l.length<=1048576/\(s.blocks.all λb=>Nat.ble b.1.length 255&&Nat.ble b.2.1 jJ&&Nat.ble b.2.2 jJ)=true/\e.key.length<=255/\z.key.length<=255 then
   some (s.file++aA (jP e.key z.key l.length s.blocks)++aA (bA s.file.length 8),s.blocks)else none
 | _,_=>none
def eG:Xn ay->Bs
 | []=>[]
 | e::_=>e.key
def jQ(l:Xn ay):Bs:=match l.getLast? with
 | none=>[]
 | some e=>e.key
def qo(D:ad)(name:Bs)(l:Xn ay):XB (YH eX dB×ad):=match J0 l with
 | none=>none
 | some z=>if D.moves.length<=jJ then(match iu D name with
  | some e=>some (.error e,cI D name)
  | none=>match dT (cI D name) name z.1 with
   | some e=>some (.error e,bG (cI D name) name z.1)
   | none=>match aY (bG (cI D name) name z.1) name with
    | some e=>some (.error e,je (bG (cI D name) name z.1) name)
    | none=>some (.ok ⟨name,eG l,jQ l,l.length,z.2⟩,je (bG (cI D name) name z.1) name))else none
