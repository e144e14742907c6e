/-
  Part 47: ; ; ; WALKS the document's Do, Check, Write, at, GetAt, ScanAt; WALKS slices; WALKS slices; WALKS api; WALKS errors; WALKS table.
-/
import Derived.Test.YtecibefflhomdaaGreatDoorZ46
import Derived.Shelf.Sort.Plain
set_option maxHeartbeats 8000000
set_option maxRecDepth 100000
set_option linter.all false
namespace Go.Proofs.YtecibefflhomdaaGreatDoor
open Go Proofs.Tryz
section
open Go Go.Conc
open Pure (ad cC)
variable[Bs0:Base][NQ]
variable{W0 w:Xo}{b d:Nat}{o:pX}{s:St}{D:ad}{Inv:Xn Nat->St->ad->Prop}{m:Xn (Xn cC)}{us:Xn Xp}{vl:Xp}
theorem PN{F:Xn Nat->cn}[H:zS F]{p:cn}{op:Nat}{q:XN}{s:Sem Next}{r:Rq}{st:Ps}{W:Xo}{K:Xp->Xo->Prop}(a:yN F p st w)(h1:Ry w W)(c:r.jj op q s)(k:yN F p st W->gJ p Bs0.old r W K):Bs0.ask op q s W K:=by
 have h:=a.ry h1;apply H.ask c;rw[h.par];exact k h
def Gi(t5 e n:Nat)(B:Xn (Nat×Obj)):Xn (Nat×Obj):=(t5,.cells #[.slice (some ⟨e,0,none⟩) n n] 70 (0,0))::B
theorem Ic{c:Xn Xp}{T:XO}(H:c≠[])(a:T≠133):¬Qv (.cells c.toArray T (0,0))/\∀C f,Obj.cells c.toArray T (0,0)≠.cells C 133 f:=
 ⟨λ⟨_,_,h⟩=>H (by grind),λC f h=>a (aa7 h).2.1⟩
theorem PO{W t6 c t5 e t2 C:Nat}{A:Option Addr}(hul:us.length=m.length)
 (H:Sat W0 (blk W 156 [.int .u64 0,.int .u32 0]::blk t6 150 [.chan (some c)]::ob false c (.chan 0 #[] false 0 0 false)::blk t5 70 [.slice (some ⟨e,0,none⟩) m.length m.length]::blk e 44 (List.replicate m.length (.int .i64 0))::blk t2 31 [ax b] ::
   zP b d o false none s::ah d D::aE 1 (.slice A m.length C) 73 m.length us::star (List.zipWith kx us m)::[]) w) :
 ∃ r blX,Gh r m=us/\iC blX/\(m≠[]->∃ O cap rest,Value.slice A m.length C=.slice (some ⟨O,0,none⟩) m.length cap/\blX=[(e,.cells (List.replicate m.length (.int .i64 0)).toArray 44 (0,0)),(O,.cells (us++rest).toArray 73 (0,0))]) /\
  Sat W0 (ob false W (.cells #[.int .u64 0,.int .u32 0] 156 (0,0))::ob false c (.chan 0 #[] false 0 0 false)::(fun h=>cj [zP b d o false none s,ah d D] h)::(me m Inv o (b::d::W::c::t2::t5::t6::r)).R::cy (Gi t5 e m.length blX)) w:=by
 have⟨g,r,hbl,H,E,F⟩:=Cb hul (H.to (a:=star _::blk W 156 [.int .u64 0,.int .u32 0]::blk t6 150 [.chan (some c)]::ob false c (.chan 0 #[] false 0 0 false)::blk t5 70 [.slice (some ⟨e,0,none⟩) m.length m.length]::blk e 44 (List.replicate m.length (.int .i64 0))::blk t2 31 [ax b] ::
  zP b d o false none s::ah d D::aE 1 (.slice A m.length C) 73 m.length us::[]))
 have H:Sat W0 (star _::blk W 156 [.int .u64 0,.int .u32 0]::blk t6 150 [.chan _]::ob false c _::blk t5 70 [.slice (some ⟨e,0,none⟩) m.length m.length]::blk e 44 (List.replicate m.length (.int .i64 0))::blk t2 31 [ax b] ::
  zP b d o false none s::ah d D::aE 1 (.slice A m.length C) 73 m.length us::[]) w:=H.imp fun _=>cu
 obtain⟨blX,j,n,H⟩:∃ blX,iC blX/\(m≠[]->∃ O cap rest,Value.slice A m.length C=.slice (some ⟨O,0,none⟩) m.length cap/\blX=[(e,.cells (List.replicate m.length (.int .i64 0)).toArray 44 (0,0)),(O,.cells (us++rest).toArray 73 (0,0))]) /\
  Sat W0 (star (cy blX)::star (cy g)::blk W 156 [.int .u64 0,.int .u32 0]::blk t6 150 [.chan (some c)]::ob false c (.chan 0 #[] false 0 0 false)::blk t5 70 [.slice (some ⟨e,0,none⟩) m.length m.length]::blk t2 31 [ax b]::zP b d o false none s::ah d D::[]) w:=by
  by_cases p:m=[]
  ·exact⟨[],fun _ h=>(by grind),fun h=>absurd p h,Sat.nP H.to⟩
  ·have hml:=List.length_pos_iff.2 p;have⟨O,cap,rest,G,_,_,_,q⟩:=(H.to (a:=aE 1 (.slice A m.length C) 73 m.length us::blk e 44 (List.replicate m.length (.int .i64 0))::star (cy g)::blk W 156 [.int .u64 0,.int .u32 0]::blk t6 150 [.chan (some c)]::ob false c (.chan 0 #[] false 0 0 false)::blk t5 70 [.slice (some ⟨e,0,none⟩) m.length m.length]::blk t2 31 [ax b]::zP b d o false none s::ah d D::[])).nI (fun h=>by injection h with _ v _;omega);refine⟨_,fun y f=>?_,fun _=>⟨O,cap,rest,G,rfl⟩,(q.imp fun _=>ft).imp fun _ k=>cu k⟩;simp at f;rcases f with rfl|rfl
   ·exact Ic (by simpa using p) (by simp)
   ·refine Ic (fun h=>?_) (by simp);simp_all
 refine⟨r,blX,E,j,n,?_⟩;have hbl2:iC ((t6,.cells #[.chan (some c)] 150 (0,0))::(t2,.cells #[ax b] 31 (0,0))::g):=fun y f=>by
  rcases List.mem_cons.1 f with rfl|f
  ·exact Ic (by simp) (by simp)
  ·rcases List.mem_cons.1 f with rfl|f
   ·exact Ic (by simp) (by simp)
   ·exact hbl y f
 have H:Sat W0 (cy ((t6,.cells #[.chan (some c)] 150 (0,0))::(t2,.cells #[ax b] 31 (0,0))::g)++(star (cy blX)::blk W 156 [.int .u64 0,.int .u32 0]::ob false c (.chan 0 #[] false 0 0 false)::blk t5 70 [.slice (some ⟨e,0,none⟩) m.length m.length]::zP b d o false none s::ah d D::[])) w:=
  (H.to).imp fun _ k=>bH (fun _ k=>bH (fun _=>cD) k) k
 have H:=LU hbl2 H;have H:=H.head (A':=(me m Inv o (b::d::W::c::t2::t5::t6::r)).R) fun h ⟨z,v,I,t⟩=>⟨z,v,I,t _ List.mem_cons_self,t _ (List.mem_cons_of_mem _ List.mem_cons_self),fun i l u J L=>F z (fun x K=>t x (List.mem_cons_of_mem _ (List.mem_cons_of_mem _ K))) i l u J (by grind)⟩;have H:=H.to (a:=zP b d o false none s::ah d D::blk W 156 [.int .u64 0,.int .u32 0]::ob false c (.chan 0 #[] false 0 0 false)::(me m Inv o (b::d::W::c::t2::t5::t6::r)).R::blk t5 70 [.slice (some ⟨e,0,none⟩) m.length m.length]::star (cy blX)::[]);have H:=Sat.close (B:=[zP b d o false none s,ah d D]) H fun _ k=>k;have H:=H.to (a:=blk W 156 [.int .u64 0,.int .u32 0]::ob false c (.chan 0 #[] false 0 0 false)::(fun h=>cj [zP b d o false none s,ah d D] h)::(me m Inv o (b::d::W::c::t2::t5::t6::r)).R::blk t5 70 [.slice (some ⟨e,0,none⟩) m.length m.length]::star (cy blX)::[]);refine H.imp fun _ k=>bH (fun _ k=>bH (fun _ k=>bH (fun _ k=>bH (fun _ k=>bH (fun _ k=>?_) k) k) k) k) k;have:=cD k;rwa[List.append_nil] at this
theorem Cc{h:Hp}(H:EP h):∀{l:Xn ae},(∀A∈l,A h)->cj l h
 | [],_=>Xr
 | A::l,k=>⟨h,h,λi x y a c=>by rw[a]at c;cases c;exact⟨rfl,.inl (H i x a).1⟩,Hp.le_refl _,Hp.le_refl _,k A XC,Cc H λA e=>k A (by grind)⟩
def AE[hM:zS (me m Inv o)](ba:m.length<=1000)(hi:Inv [] s D)(ag:(dN W0).th=.pre)(bc:us.length=m.length)
 (H:Sat W0 (zP b d o false none s::ah d D::aE 1 vl 73 m.length us::star (List.zipWith kx us m)::[]) w) :
 Calls prog 30 #[ax b,vl] w λy w'=>∃x wg ch t2 t5 t6 r E e st N,x=b::d::wg::ch::t2::t5::t6::r/\y=.returned (.slice (some ⟨E,0,none⟩) m.length m.length)/\(me m Inv o x).Whole st/\At (me m Inv o) (me m Inv o x) ⟨m.length,m.length,N,.out⟩ w' /\
  Sat { W0 with os:=w'.os } (Qg Inv b d o st::star (List.zipWith iS us m)::cy e) w' /\
  (m≠[]->∃oa ar v,vl=.slice (some ⟨oa,0,none⟩) m.length ar/\e=[(E,.cells (List.replicate m.length (.int .i64 0)).toArray 44 (0,0)),(oa,.cells (us++v).toArray 73 (0,0))]):=by
 obtain⟨a0,c0,rfl,-⟩:=(H.take iB).aC;have av:=(H.take iB).yF;refine enter func30 rfl ntmps30 results30 rfl ?_;refine gx ?_;refine eB H ?_;clear H;intro w1 t2 H;refine gx ?_;refine PM ba H rfl rfl ?_;clear H;intro w2 E H;refine gx ?_;refine aS H ?_;clear H;intro w3 t5 H;refine gx ?_;refine bJ H ?_;clear H;intro w4 H;refine gx ?_;refine LR H rfl ?_;clear H;intro w5 ch H;refine gx ?_;refine aS H ?_;clear H;intro w6 t6 H;refine gx ?_;refine bJ H ?_;clear H;intro w7 H;refine gx ?_;refine aS H ?_;clear H;intro w8 wg H;refine gx ?_;have H:Sat W0 (blk wg 156 [.int .u64 0,.int .u32 0]::blk t6 150 [.chan (some ch)]::ob false ch (.chan 0 #[] false 0 0 false)::blk t5 70 [.slice (some ⟨E,0,none⟩) m.length m.length]::blk E 44 (List.replicate m.length (.int .i64 0))::blk t2 31 [ax b] ::
  zP b d o false none s::ah d D::aE 1 (.slice a0 m.length c0) 73 m.length us::star (List.zipWith kx us m)::[]) w8:=H
 obtain⟨r,e,hr,bd,a1,H⟩:=PO (Inv:=Inv) bc H;obtain⟨p,J⟩:∃p,me m Inv o (b::d::wg::ch::t2::t5::t6::r)=p:=⟨_,rfl⟩;rw[J]at H;have aa:p.mu=b:=by rw[<- J];rfl
 have hn:p.n=m.length:=by rw[<- J];rfl
 have al:p.LI=Qg Inv b d o:=by rw[<- J];rfl
 have a2:∀c U dd,(∃b8 b9 u,(Gh r m)[c]?=some u/\U=[(b8,.cells #[.int .i64 (c:Int)] 3 (0,0)),(b9,.cells #[u] 73 (0,0))] /\
  dd={ target:=.fn (.func 60) #[.pointer (some ⟨wg,0,none⟩),.pointer (some ⟨t6,0,none⟩),.pointer (some ⟨b9,0,none⟩),.pointer (some ⟨t2,0,none⟩),.pointer (some ⟨t5,0,none⟩),.pointer (some ⟨b8,0,none⟩)],args:=#[] })->p.go c U dd:=λc U dd h=>by rw[<- J];exact h
 have ab:∀h,p.R h->∃h',Hp.le h' h/\EP h'/\h' t6=some (true,.cells #[.chan (some ch)] 150 (0,0))/\(∀(i:Nat) (l:Xn cC) (u:Xp),m[i]?=some l->us[i]?=some u->iS u l h')/\p.R h':=λh C=>by
  rw[<- J]at C |-;obtain⟨h',h1,h2,h3,h4,h5⟩:=C;rw[hr]at h5;exact⟨h',h1,h2,h3,h5,h',Hp.le_refl _,h2,h3,h4,by rw[hr];exact h5⟩
 obtain rfl:wg=p.wg:=by rw[<- J];rfl
 obtain rfl:ch=p.ch:=by rw[<- J];rfl
 have ac:iC (Gi t5 E m.length e):=λy M=>by
  rcases XW.1 M with rfl|M
  .exact Ic (c:=[_]) (by simp) (by decide)
  .exact bd y M
 let L0:Xn ae:=[ob false p.wg (.cells #[.int .u64 0,.int .u32 0] 156 (0,0)),ob false p.ch (.chan 0 #[] false 0 0 false),(λh=>cj [zP b d o false none s,ah d D] h),p.R]
 have af:w8.os=W0.os:=H.os;have H:Sat { W0 with os:=w8.os } (star L0::cy (Gi t5 E m.length e)) w8:=by
  rw[af];exact H.imp λ_ k=>cu (a:=L0) k
 refine aL (α:=Nat) (λk=>[(7,.pointer (some ⟨p.wg,0,none⟩)),(6,.pointer (some ⟨t6,0,none⟩)),(5,.pointer (some ⟨t5,0,none⟩)),(2,.pointer (some ⟨t2,0,none⟩)),(14,.slice a0 m.length c0),(15,.int .i64 (m.length:Int)),(16,.int .i64 (k:Int))])
  (λk w=>k<=m.length/\∃L,Sat { W0 with os:=w.os } (star L::cy (Gi t5 E m.length e)) w/\((k=0/\w.os=W0.os/\L=L0)\/(0<k/\L=[]/\p.Mem w/\∃N,At (me m Inv o) p ⟨p.n,k,N,.ad0 0⟩ w)))
  (λk=>m.length-k) 0 ⟨rfl,rfl,rfl,rfl,rfl,rfl,rfl,Xr⟩ ⟨XR _,L0,H,.inl ⟨rfl,af,rfl⟩⟩ ?_
 clear H af;rintro k w ⟨hk,L,V,z⟩;by_cases am:k<m.length
 .have b4:(k:Int)<(m.length:Int):=by omega
  have hm:m≠[]:=λh=>by subst h;simp at am
  obtain⟨oa,ar,v,he,rfl⟩:=a1 hm;obtain⟨u,hu⟩:∃u,us[k]?=some u:=⟨us[k]'(by omega),Xq _⟩;cases he;have bf:(us++v)[0+k*1]?=some u:=by rw[X0,YA,XH (by omega)];exact hu
  have g:Sat { W0 with os:=w.os } (blk oa 73 (us++v)::star L::blk t5 70 [.slice (some ⟨E,0,none⟩) m.length m.length]::blk E 44 (List.replicate m.length (.int .i64 0))::[]) w:=V.to;have bi:dk u=true:=av u (Ya hu);refine gx ?_;refine de (i:=k) rfl rfl rfl rfl rfl am rfl ?_;refine fF g rfl rfl .here bf rfl ?_;refine gx ?_;refine aS g ?_;clear g;intro w2 b8 g;refine gx ?_;refine aS g ?_;clear g;intro w3 b9 g;refine gx ?_;refine bJ g ?_;clear g;intro w4 g;refine gx ?_;refine bJ g ?_ (h1:=bi);clear g;intro w5 g;refine gx ?_;have g:Sat { W0 with os:=w.os } (blk b9 73 [u]::blk b8 3 [.int .i64 (k:Int)]::blk oa 73 (us++v)::star L::blk t5 70 [.slice (some ⟨E,0,none⟩) m.length m.length]::blk E 44 (List.replicate m.length (.int .i64 0))::[]) w5:=g;have W:w5.os=w.os:=g.os;let e:Xn (Nat×Obj):=[(E,.cells (List.replicate m.length (.int .i64 0)).toArray 44 (0,0)),(oa,.cells (us++v).toArray 73 (0,0))]
  let blG:Xn (Nat×Obj):=[(b8,.cells #[.int .i64 (k:Int)] 3 (0,0)),(b9,.cells #[u] 73 (0,0))]
  have a3:iC blG:=λy M=>by
   simp only[blG,XW,ZO,abI]at M;rcases M with rfl|rfl
   .exact Ic (c:=[_]) (by simp) (by decide)
   .exact Ic (c:=[_]) (by simp) (by decide)
  have bm:iC (blG++Gi t5 E m.length e):=λy M=>by
   rcases Xy.1 M with M|M
   .exact a3 y M
   .exact ac y M
  have a4:cy (blG++Gi t5 E m.length e)=cy blG++cy (Gi t5 E m.length e):=XK;have Gv:Sat { W0 with os:=w5.os } (star L::cy (blG++Gi t5 E m.length e)) w5:=by
   rw[W];exact g.to
  have ai:∀w1,Ry w5 w1->∀K:Xp->Xo->Prop,(∀w2 N,At (me m Inv o) p ⟨p.n,k,N,.ad1⟩ w2->(p.Mem w2/\Sat { W0 with os:=w2.os } (cy (blG++Gi t5 E m.length e)) w2)->K eI w2)->Bs0.ask (Sb 109) Bs0.quiet (callFunc 109 #[]) w1 K:=λw6 S K hK=>by
   rcases z with⟨rfl,ao,rfl⟩|⟨a5,rfl,q,N,F⟩
   .have O:=Gv.ry S;refine hM.set kN ⟨b::d::p.wg::p.ch::t2::t5::t6::r,p,{ W0 with os:=w5.os },blG++Gi t5 E m.length e,(λh=>cj [zP b d o false none s,ah d D] h),0,0,false,eI,.ad1,J,?_,bm,.inl ⟨rfl,rfl,rfl,by omega⟩,CB.1 (O.imp λ_ k=>cD (a:=L0) k),λh C=>?_,λh C=>?_,λv' n t ho P=>?_⟩
    .have:(dN w6)=dN W0:=by unfold dN;rw[S.os,W,ao]
     rw[this];exact ag
    .obtain⟨c,X,g2,g3,g4⟩:=JI hi C;refine⟨c,by rw[aa];exact X,g2,g3,?_⟩;rw[al];unfold CC;rw[aa];exact g4
    .obtain⟨h',X,g2,_,_,g5⟩:=ab h C;exact⟨h',X,g2,g5⟩
    .refine hK v' n ⟨by rw[ho];exact J,?_,t.1⟩ ⟨t,CB.2 P⟩;unfold dN;rw[ho];simp[ji,Ps.code,Th.tK]
   .refine PN (F.UX.on W) S kN λF=>.Kv F.st (by omega) λv' t j=>?_;refine hK v' N ⟨by rw[j.os];exact F.par,j.dN,t.1⟩ ⟨t,?_⟩;exact(Gv.drop).fl (((Fl.refl _).ry S).nb j)
  refine ak (met (VF (p:=p) (c:=k) (G:=λw=>p.Mem w/\Sat { W0 with os:=w.os } (cy (blG++Gi t5 E m.length e)) w) (λa b' h hf=>⟨Ds h.1 hf,h.2.fl hf⟩) (λa h=>h.1) (by omega) ai) ?_);clear ai z g Gv V;rintro _ w6 ⟨uu,n6,rfl,F,q,O⟩;refine⟨_,rfl,?_⟩;refine gx ?_;refine VJ rfl λw7 h7=>gV F h7 LG λap=>.fork { W0 with os:=w6.os } blG (Gi t5 E m.length e) ap.st (by omega) (CB.1 (by rw[<- a4];exact O.ry h7)) ⟨a3,ac⟩ (a2 k _ _ ⟨b8,b9,u,by rw[hr];exact hu,rfl,rfl⟩) λv' t ho P=>?_;have bq:At (me m Inv o) p ⟨p.n,k+1,n6,.ad0 0⟩ v':=ap.put ho t.1;have bz:Sat { W0 with os:=v'.os } (cy (Gi t5 E m.length e)) v':=CB.2 P;clear P ho F ap q O h7;refine gy ?_;exact az (k+1) ⟨rfl,rfl,rfl,rfl,rfl,rfl,rfl,Xr⟩ ⟨am,[],bz.nP,.inr ⟨by omega,rfl,t,n6,bq⟩⟩ (by omega)
 .have b0:k=m.length:=by omega
  subst b0;have b5:¬((m.length:Int)<(m.length:Int)):=by omega
  have a6:∀w1,Ry w w1->∀K:Xp->Xo->Prop,(∀v' N,At (me m Inv o) p ⟨p.n,p.n,N,.ad0 1⟩ v'->p.Mem v'->Sat { W0 with os:=v'.os } (cy (Gi t5 E m.length e)) v'->K (.chan (some p.ch)) v')->Bs0.ask 1 Bs0.quiet (p9 150 ⟨t6,0,none⟩) w1 K:=λw6 S K hK=>by
   have Y:∀C,p.R C->∃cs T f,C t6=some (true,.cells cs T f)/\cs[0]?=some (Value.chan (some p.ch))/\(none:XB Nat)=none:=λC b1=>by
    obtain⟨h',X,_,g3,_,_⟩:=ab C b1;exact⟨_,_,_,X _ _ g3,rfl,rfl⟩
   rcases z with⟨a5,ao,rfl⟩|⟨a5,rfl,q,N,F⟩
   .have O:=V.ry S;refine hM.set (Gb (by rfl)) ⟨b::d::p.wg::p.ch::t2::t5::t6::r,p,{ W0 with os:=w.os },Gi t5 E m.length e,(λh=>cj [zP b d o false none s,ah d D] h),0,0,false,.chan (some p.ch),.ad0 1,J,?_,ac,.inr ⟨by omega,rfl,⟨t6,0,none⟩,rfl,Y⟩,CB.1 (O.imp λ_ k=>cD (a:=L0) k),λh C=>?_,λh C=>?_,λv' n t ho P=>?_⟩
    .have:(dN w6)=dN W0:=by unfold dN;rw[S.os,ao]
     rw[this];exact ag
    .obtain⟨c,X,g2,g3,g4⟩:=JI hi C;refine⟨c,by rw[aa];exact X,g2,g3,?_⟩;rw[al];unfold CC;rw[aa];exact g4
    .obtain⟨h',X,g2,_,_,g5⟩:=ab h C;exact⟨h',X,g2,g5⟩
    .refine hK v' n ⟨by rw[ho];exact J,?_,t.1⟩ t (CB.2 P);have b2:p.n=0:=by omega
     unfold dN;rw[ho];simp[ji,Ps.code,Th.tK,b2]
   .have b3:At (me m Inv o) p ⟨p.n,p.n,N,.ad0 0⟩ w:=by have:=F;rw[<- hn]at this;exact this
    refine gV b3 S (Gb (by rfl)) λQ=>.SO Q.st rfl Y λv' j=>?_;exact hK v' N (Q.nb j) (Ds q (((Fl.refl _).ry S).nb j)) (V.drop.fl (((Fl.refl _).ry S).nb j))
  refine gx ?_;refine nJ (T:=150) rfl (λw6 S=>a6 w6 S _ λw7 n7 F q a7=>?_) rfl;clear a6 z V;refine gx ?_;refine Pz rfl λw8 h8=>gV F h8 H9 λQ=>.close Q.st rfl λv' j=>?_;have a8:=Q.nb j;have a9:=a7.fl (((Fl.refl _).ry h8).nb j);have Z:=Ds q (((Fl.refl _).ry h8).nb j);clear Q j h8 F q a7;refine gx ?_;refine ak (met (TY (p:=p) (c:=p.n) (G:=λw=>p.Mem w/\Sat { W0 with os:=w.os } (cy (Gi t5 E m.length e)) w) (R:=λy w'=>y=.returned (.tuple #[])/\∃N st,p.Whole st/\At (me m Inv o) p ⟨p.n,p.n,N,.out⟩ w'/\Sat { W0 with os:=w'.os } ((λh=>cj [p.LI st,p.R] h)::cy (Gi t5 E m.length e)) w') (λa b h hf=>⟨Ds h.1 hf,h.2.fl hf⟩) (λa h=>h.1) (by omega) a8 ⟨Z,a9⟩ ?_) ?_)
  .rintro w1 w' N st hL hR ⟨_,H⟩ aq h1 h2 h3 hg af F;refine⟨rfl,N,st,aq,F,?_⟩;exact rY.sat (W0:={ W0 with os:=w1.os }) (A:=λh=>cj [p.LI st,p.R] h) hg ⟨hL,hR,h3,Hp.lx _ _,Hp.ki h3,h1,hR,λ_=>none,λ_ _ _ _ M=>(by cases M),Hp.le_refl _,λ_ _ hx=>(by cases hx),h2,Xr⟩ H ac
  clear a8 a9 Z;rintro _ w9 ⟨rfl,n9,st,aq,F,H⟩;refine⟨_,rfl,?_⟩;obtain⟨_,_,H⟩:=H.gD (φ:=λ_:Unit=>True) (B:=λ_=>[p.LI st,p.R]) λ_ k=>⟨(),Xr,k⟩;have H:Sat { W0 with os:=w9.os } (p.LI st::p.R::blk t5 70 [.slice (some ⟨E,0,none⟩) m.length m.length]::cy e) w9:=H;have H:Sat { W0 with os:=w9.os } (p.R::blk t5 70 [.slice (some ⟨E,0,none⟩) m.length m.length]::p.LI st::cy e) w9:=H.imp λ_ k=>bH (λ_=>ft) (ft k);have H:=H.head (A':=star (List.zipWith iS us m)) λh C=>by
   obtain⟨h',X,g2,_,g4,_⟩:=ab h C;refine oH X (Cc g2 λA hA=>?_);obtain⟨i,I⟩:=List.getElem?_of_mem hA;rw[aav]at I;cases hu:us[i]? with
   | none=>rw[hu]at I;simp at I
   | some u=>
    cases hl:m[i]? with
    | none=>rw[hu,hl]at I;simp at I
    | some l=>
     rw[hu,hl]at I;cases I;exact g4 i l u hl hu
  have H:Sat { W0 with os:=w9.os } (blk t5 70 [.slice (some ⟨E,0,none⟩) m.length m.length]::star (List.zipWith iS us m)::p.LI st::cy e) w9:=H.imp λ_=>ft;refine gx ?_;refine an rfl ⟨_,_,_,_,_,_,_,E,e,st,n9,rfl,rfl,by rw[J];exact aq,by rw[J];rw[<- hn];exact F,?_,a1⟩;rw[<- al];exact H.drop.imp λ_=>ft
end
section
open Pure (ad cC)
variable[Bs0:Base][NQ]
variable{W0 w:Xo}{F:Xn ae}{b d:Nat}{o:pX}{s:St}{D D':ad}
variable {Fm:Xn Nat->cn} {p:cn} {c n:Nat}
def Ie [I:I7 Fm] {L r:Bs} {l:Int} {x:YH eX (Xn (Bs×Bs))} (f:p.mu=b) (h:B9 s D L r l bO=some (x,D')) (t:yN Fm p ⟨p.n,c,n,.out⟩ w) (A:c<p.len p.n) (H:Sat { W0 with os:=w.os } (Rz b d o s::ah d D::F) w):
 Calls prog 52 #[ax b,str L,str r,.int .i64 l] w λy w'=>∃P v,y=.returned (.tuple #[P,v])/\(∃N,yN Fm p ⟨p.n,c+1,N,.out⟩ w')/\Sat { W0 with os:=w'.os } (Pn P x::Rz b d o s::ah d D'::aW v (kv x)::F) w':=by
 subst f;apply zj func52 rfl ntmps52 results52 rfl;refine gx ?_;refine ak (met (Ho t A rfl) ?_);rintro _ W ⟨u,rfl,J,C,g,e⟩;replace H:=H.fl e;clear e t;refine⟨_,rfl,?_⟩;have⟨i,B,z,H⟩:=H.Pq;have H:=H;refine gx ?_;refine zQ rfl ?_;refine gx ?_;refine ak (met (zC H) ?_);clear H;rintro _ w ⟨v,rfl,H⟩;refine⟨_,rfl,?_⟩;have j:=H.ee;subst j;refine gx ?_;have H:=Sat.dq i (H.to (a:=blk p.mu 133 (aj ⟨d,o,false,B,hole⟩ z s)::jb d z s.levels::aZ z.m s.mem::bg cB z.sn (aN s.snaps)::ah d D::aW B none::F));refine ak (met (H5 h H) ?_);clear H;rintro _ w ⟨P,v,rfl,H⟩;refine⟨_,rfl,?_⟩;have⟨i,z,H⟩:=(H.take dt).mc;have k:=At.sat g H (cell_of H.dA (by simp));have H:=Sat.dq i H;have H:=Sat.Pr (H.to (a:=sw p.mu ⟨d,o,false,B,hole⟩ s::aW B none::Pn P x::ah d D'::aW v (kv x)::F));refine gx ?_;refine JD (.inl rfl) rfl ?_;apply(CV k rfl).mono;rintro _ K ⟨u,rfl,E,G,q,e⟩;exact⟨_,rfl,_,_,rfl,⟨E,q.UX⟩,(H.to).fl e⟩
def zV(h:Sat W0 F w):Calls prog 19 #[.nilIface] w λx w'=>x=.returned (.int .i64 0)/\Sat W0 F w':=by
 apply enter func19 rfl ntmps19 results19 rfl;refine gx ?_;refine aS h λw B h=>gx ?_;exact an rfl ⟨rfl,h.drop⟩
def zW [m:I7 Fm] {l:Xn (Bs×Bs)} (a:p.mu=b) (h:B9 s D [] [] 0 bO=some (.ok l,D')) (g:yN Fm p ⟨p.n,c,n,.out⟩ w) (j:c<p.len p.n) (H:Sat { W0 with os:=w.os } (Rz b d o s::ah d D::F) w):
 Calls prog 32 #[ax b] w λy w'=>∃P,y=.returned (.tuple #[P,.int .i64 0])/\(∃N,yN Fm p ⟨p.n,c+1,N,.out⟩ w')/\Sat { W0 with os:=w'.os } (Ca P l::F) w':=by
 apply enter func32 rfl ntmps32 results32 rfl;refine gy ?_;refine ak (met (Ie a h g j H) ?_);clear H g;rintro _ W ⟨P,v,rfl,⟨k,e⟩,H⟩;refine⟨_,rfl,?_⟩;refine gy ?_;have f:=Sat.ee (H.take IQ);subst f;refine ak (met (zV H) ?_);clear H;rintro _ q ⟨rfl,H⟩;refine⟨_,rfl,?_⟩;have i:=H.os;rw[<- i]at H;refine gy ?_;exact an rfl ⟨P,rfl,⟨k,e.on i⟩,H.to⟩
end
section
open Pure
def zX(m:Xn (Xn cC))(i j:Nat):cC:=(((m[i]?).getD [])[j]?).getD ⟨[],[],false⟩
def pz(m:Xn (Xn cC)):Xn Nat->Xn (Bs×Bs)
 | []=>[]
 | i::r=>sF (pz m r) [zX m i (r.count i)]
def PQ(m:Xn (Xn cC)):∀r,mI (pz m r)
 | []=>List.Pairwise.nil
 | _::r=>tl _ (PQ m r)
def uG(k:Bs)(o:XB Bs)(c:cC):XB Bs:=if k=c.key then(if c.del=true then none else some c.val)else o
def zY:∀(l:Xn cC) (ps:Xn (Bs×Bs)) (k:Bs),bD (sF ps l) k=l.foldl (uG k) (bD ps k)
 | [],_,_=>rfl
 | c::l,ps,k=>by
  have h:=zY l (xM ps c.key c.val c.del) k;unfold sF at h |-;rw[YI,YI,h,AU];rfl
structure Own(m:Xn (Xn cC)):Prop where
 few:m.length<=6
 len:∀l∈m,l.length<=60
 key:∀(i:Nat) (l:Xn cC),m[i]?=some l->∀c∈l,c.key.head?=some (UInt8.ofNat (48+i))
 ok:∀l∈m,∀c∈l,(c.key.length<=8/\c.key≠[])/\(c.del=false->c.val.length<=16)
variable{m:Xn (Xn cC)}
variable {i:Nat}
def zZ {j:Nat} (H:i<6) (a:j<6) (h:UInt8.ofNat (48+i)=UInt8.ofNat (48+j)):i=j:=by
 have:=Zu UInt8.toNat h;simp at this;omega
def wb{k:Bs}:∀{l:Xn cC} {o:XB Bs},(∀c∈l,k≠c.key)->l.foldl (uG k) o=o
 | [],_,_=>rfl
 | c::l,o,h=>by
  rw[YI];have:uG k o c=o:=by unfold uG;rw[Xx (by grind)]
  rw[this];exact wb λc H=>h c (by grind)
def Fits(m:Xn (Xn cC))(r:Xn Nat):Prop:=(∀i∈r,i<m.length)/\∀i l,m[i]?=some l->r.count i<=l.length
variable {r:Xn Nat}
def Fits.tail (h:Fits m (i::r)):Fits m r:=⟨λj a=>h.1 j (by grind),λj l H=>by
 have:=h.2 j l H;rw[List.count_cons]at this;omega⟩
def Fits.at (h:Fits m (i::r)):∃l x,m[i]?=some l/\l[r.count i]?=some x/\zX m i (r.count i)=x:=by
 have b:=h.1 i XC;have H:=Xq b;have c:=h.2 i _ H;rw[List.count_cons_self]at c;have a:m[i][r.count i]?=some (m[i][r.count i]'(by omega)):=Xq _;refine⟨m[i],_,H,a,?_⟩;rw[zX,H,Z8,a];rfl
def JJ(e:Own m):∀{r:Xn Nat},Fits m r->∀k:Bs,(∀i l,m[i]?=some l->k.head?=some (UInt8.ofNat (48+i))->bD (pz m r) k=(l.take (r.count i)).foldl (uG k) none)/\((∀i,i<m.length->k.head?≠some (UInt8.ofNat (48+i)))->bD (pz m r) k=none)
 | [],_,k=>⟨λi l _ _=>rfl,λ_=>rfl⟩
 | j::r,f,k=>by
  have⟨q,s⟩:=JJ e f.tail k;have⟨L,x,o,p,t⟩:=f.at
  have a:=e.key j L o x (Ya p);have H:bD (pz m (j::r)) k=uG k (bD (pz m r) k) x:=by
   show bD (sF (pz m r) [zX m j (r.count j)]) k=_;rw[zY,t];rfl
  have g:=f.1 j XC;refine⟨λi l d b=>?_,λb=>?_⟩
  .rw[H,q i l d b];by_cases c:j=i
   .subst c;rw[o]at d;cases d;rw[List.count_cons_self,YC,p]
    grind
   .rw[abD (by omega)];have u:=(Xw.1 d).1;have n:k≠x.key:=λh=>by
     rw[h,a]at b;have:=e.few;exact c (zZ (by omega) (by omega) (Xt b))
    unfold uG;rw[Xx n]
  .rw[H,s b];unfold uG;rw[Xx λh=>b j g (by rw[h];exact a)]
def Gj(e:Own m)(k:Bs):∀n,n<=m.length->(∀i l,i<n->m[i]?=some l->k.head?=some (UInt8.ofNat (48+i))->bD ((m.take n).foldl sF []) k=l.foldl (uG k) none)/\((∀i,i<n->k.head?≠some (UInt8.ofNat (48+i)))->bD ((m.take n).foldl sF []) k=none)
 | 0,_=>⟨λi l h=>XG h (by grind),λ_=>rfl⟩
 | n+1,v=>by
  have⟨q,g⟩:=Gj e k n (by omega);have f:m[n]?=some m[n]:=Xq (by omega);have s:=e.key n _ f;have t:(m.take (n+1)).foldl sF []=sF ((m.take n).foldl sF []) m[n]:=by rw[YC,f,Zq];rfl
  rw[t,zY];have o:=e.few;refine⟨λi l w H a=>?_,λb=>?_⟩
  .by_cases d:i=n
   .subst d;rw[f]at H;cases H;rw[g λj u h=>by
     rw[a]at h;have:=zZ (by omega) (by omega) (Xt h);omega]
   .rw[q i l (by omega) H a];refine wb λc p h=>?_;have:=s c p;rw[<- h,a]at this;exact d (zZ (by omega) (by omega) (Xt this))
  .rw[g λj u=>b j (by omega)];exact wb λc p h=>b n (by omega) (by grind)
def Du (a:Own m) (e:∀i∈r,i<m.length) (g:∀i l,m[i]?=some l->r.count i=l.length):pz m r=m.foldl sF []:=by
 refine uO (PQ m r) (f m List.Pairwise.nil) λk=>?_;have j:=JJ a ⟨e,λi l c=>aaI (g i l c)⟩ k;have n:=Gj a k m.length (by grind);by_cases d:∃i,i<m.length/\k.head?=some (UInt8.ofNat (48+i))
 .have⟨i,H,d⟩:=d;have c:=Xq H
  grind
 grind
where
 f:∀(B:Xn _) {p:Xn _},mI p->mI (B.foldl sF p)
  | [],_,h=>h
  | b::r,_,h=>f r (tl b h)
def Gk{K:Nat}:∀(n:Nat) (r:Xn Nat),(∀i∈r,i<n)->(∀i,r.count i<=K)->r.length<=n*K
 | 0,r,h,_=>by
  cases r with
  | nil=>simp
  | cons i r=>exact XG (h i XC) (by grind)
 | n+1,r,h,H=>by
  have d:=Gk n (r.filter λi=>!(i==n)) (λi c=>by
   have⟨a,b⟩:=YS.1 c;have:=h i a;have:i≠n:=by grind
   omega) (λi=>Yh ((Zg).count_le i) (H i))
  have e:r.length=r.count n+(r.filter λi=>!(i==n)).length:=by
   have:=List.length_eq_countP_add_countP (p:=λi=>i==n) (l:=r);rw[this,List.countP_eq_length_filter (p:=λa=>decide ¬(a==n)=true)];congr 2;apply aaZ
   grind
  grind
def Fits.len (a:Own m) (h:Fits m r):r.length<=360:=by
 have c:=Gk (K:=60) m.length r h.1 λi=>by
  by_cases H:i<m.length
  .have d:=h.2 i _ (Xq H);have e:=a.len _ (ZA H);omega
  .have:r.count i=0:=List.count_eq_zero.2 λb=>H (h.1 i b);omega
 have:=a.few;omega
structure AF(m:Xn (Xn cC))(o:pX)(st:Xn Nat)(s:St)(D:ad):Prop where
 fits:Fits m st.reverse
 inv:Inv False (UG o) s D ⟨pz m st.reverse,[],false⟩ st.length st.length
 calm:Calm D
 num:s.number<=1+st.length*2000
variable {o:pX}
def Ig (c:(dI 1099511627776).Ok) (d:1<=o.tables) (a:1<=o.memory):∃s D',AZ o (dI 1099511627776)=some (.ok s,D')/\AF m o [] s D':=by
 have b:Calm (dI 1099511627776):=⟨rfl,rfl⟩;have⟨x,D',f,g,H⟩:=Kk d a c (λ_=>rfl) rfl rfl;rcases H with⟨e,_,H⟩|⟨s,rfl,H,j⟩
 .exact(b.MP H).elim
 .exact⟨s,D',f,{ fits:=⟨λi h=>by grind,λi l _=>by simp⟩,inv:=H,calm:=b.later g,num:=by omega}⟩
variable {st:Xn Nat} {s:St} {D:ad}
def Ih (b:Own m) (u:1<=o.tables) (d:1<=o.memory) {l:Xn cC} {x:cC} (hl:m[i]?=some l) (f:l[st.count i]?=some x) (h:AF m o st s D):
 ∃S D',mM o s D [x] false=some (.ok S,D')/\AF m o (st++[i]) S D':=by
 have g:st.reverse.count i=st.count i:=List.count_reverse;have p:Fits m (i::st.reverse):=⟨λj k=>by
  rcases XW.1 k with rfl|k
  .grind
  .exact h.fits.1 j k,λj L n=>by
  by_cases v:i=j
  .grind
  .rw[abD (by omega)];exact h.fits.2 j L n⟩
 have q:=p.len b;have w:st.length+1<=360:=by grind
 have z:SB [x]:=⟨by simp,λc H=>by simp at H;subst H;exact(b.ok l (Ya hl) _ (Ya f)).1,λc H A=>by simp at H;subst H;exact(b.ok l (Ya hl) _ (Ya f)).2 A⟩;have t:=h.num;have⟨y,D',B,C,a⟩:=Kl (sync:=false) u d h.inv z (by grind) (by omega) (by simp;omega);rcases a with⟨e,_,a,_⟩|⟨S,rfl,a,E⟩
 .exact(h.calm.MP a).elim
 .refine⟨S,D',B,⟨by rw[List.reverse_append];exact p,?_,h.calm.later C,?_⟩⟩
  .have F:pz m (st++[i]).reverse=sF (pz m st.reverse) [x]:=by
    rw[List.reverse_append];show sF (pz m st.reverse) [zX m i (st.reverse.count i)]=_;have:zX m i (st.reverse.count i)=x:=by
     rw[zX,hl,Z8,g,f];rfl
    grind
   grind
  grind
def PS (b:Own m) (h:AF m o st s D) (c:(∀i∈st,i<m.length)/\∀i l,m[i]?=some l->st.count i=l.length):
 ∃d,AX s D [] [] 0 bO=some (.ok (gB (m.foldl sF []) [] [] 0),d)/\s.mem.length<=1099511627776:=by
 have H:=h.fits.len b;rw[List.length_reverse]at H;have⟨x,d,f,g,j,a⟩:=MO h.inv (by omega) [] [] 0;have k:=h.inv.SE;rcases a with⟨e,rfl,a⟩|rfl
 .exact(h.calm.UH a).elim
 .refine⟨d,?_,by omega⟩;have:=Du (r:=st.reverse) b (λi n=>c.1 i (by grind)) (λi l p=>by grind)
  grind
end
section
variable[Bs0:Base][NQ]
open Pure (ad cC aO bD gB tg tf)
attribute [local irreducible] IntKind.wrap
variable{W0 w:Xo}{F:Xn ae}{v:Xp}{ps:Xn (Bs×Bs)}{rb:Nat}{r:SD}
def RU{V:Xp}{l:Xn cC}(h:Sat W0 (ij v ps::iS V l::F) w)(t:ps.length+l.length<=1099511627776) :
 Calls prog 21 #[v,V] w λx w'=>∃u,x=.returned u/\Sat W0 (ij u (Ak ps l)::iS V l::F) w':=by
 obtain⟨a,c,rfl,-⟩:=(h.take dt).JH;refine enter func21 rfl ntmps21 results21 rfl ?_;refine gy ?_;refine aL (α:=Nat×Xn (Bs×Bs)×Xp) (λz=>[(0,z.2.2),(1,.slice a l.length c),(5,.int .i64 (z.1:Int))])
  (λz w=>(z.1<=l.length/\z.2.1.length<=ps.length+z.1/\Ak z.2.1 (l.drop z.1)=Ak ps l)/\Sat W0 (ij z.2.2 z.2.1::iS (.slice a l.length c) l::F) w) (λz=>l.length-z.1) (0,ps,v) ⟨rfl,rfl,rfl,Xr⟩ ⟨⟨XR _,XD _,by rw[ZE]⟩,h⟩ ?_
 clear h;rintro⟨i,p,n⟩ w ⟨⟨q,g,d⟩,h⟩;dsimp only at q g d h |-;by_cases e:i<l.length
 .have f:(i:Int)<(l.length:Int):=by omega
  obtain⟨z,x,y,s,rfl,k,C,A,B,m⟩:=(h.take dt).Sx e;clear h;have h:Sat W0 (ij n p::ob true z.b (.cells z.all.toArray z.E (0,0))::iS (.slice (some ⟨z.b,z.o,none⟩) l.length c) l::F) w:=m.to;clear m;rw[s]at d;refine gy ?_;refine ak (met (LP h (by omega)) ?_);clear h;rintro _ w ⟨u,rfl,h⟩;refine⟨_,rfl,?_⟩;have h:=h.RN;have H:=ym x.key x.val p x.del;have H:(kS x.key x.val x.del p).length<=ps.length+(i+1):=by split at H<;>omega
  refine gy ?_;exact az (i+1,kS x.key x.val x.del p,u) ⟨rfl,rfl,rfl,Xr⟩ ⟨⟨e,H,d⟩,h.to⟩ (by show l.length-(i+1)<l.length-i;omega)
 .have j:i=l.length:=by omega
  subst j;have f:¬(l.length:Int)<(l.length:Int):=by omega
  rw[ZP]at d;have d:p=Ak ps l:=d;subst d;refine gy ?_;exact an rfl ⟨_,rfl,h⟩
open Pure (ad aO uN tc eP cX aP)
theorem lt_iff:∀(a b:Bs),a<b↔aO a b=true
 | _,[]=>by simp[aO]
 | [],_::_=>by simp[aO]
 | a::x,b::y=>by
  rw[List.cons_lt_cons_iff,lt_iff x y];simp[aO]
def RV(a b:Bs):decide (a<=b)=!aO b a:=by
 have h:a<=b↔¬(b<a):=Iff.rfl;cases H:aO b a with
 | true=>simp[h,lt_iff,H]
 | false=>simp[h,lt_iff,H]
def AG{a b:Xn Bs}(h:a.Perm b):AY a=AY b:=by
 unfold AY;have e:(λx y:Bs=>decide (x<=y))=λx y=>!aO y x:=ZQ λx=>ZQ λy=>RV x y;rw[e];have H:∀a b c:Bs,(!aO b a)=true->(!aO c b)=true->(!aO c a)=true:=λa b c d f=>by
  simp only[Zd]at d f |-;exact uN d f
 have g:∀a b:Bs,((!aO b a)||(!aO a b))=true:=λa b=>by
  rcases eP a b with h|h|h
  .rw[cX h];rfl
  .rw[h,aP];rfl
  .rw[cX h];simp
 refine List.Perm.eq_of_pairwise (le:=λx y=>(!aO y x)=true) ?_ (abi H g a) (abi H g b) (((List.mergeSort_perm a _).trans h).trans (List.mergeSort_perm b _).symm);intro x y _ _ d f;simp only[Zd]at d f;exact tc f d
open Pure (ad aB)
variable{W0 w:Xo}{F l:Xn ae}{v:Xp}{d:Nat}{D:ad}
def PT{v:Xp}(h:Sat W0 F w):Calls prog 149 #[v,.int .i64 0,.int .i64 0] w λx w'=>∃u,x=.returned u/\Sat W0 F w':=by
 refine enter func149 rfl ntmps149 results149 rfl ?_;refine gx ?_;refine aL (α:=Unit) (λz=>[(0,v),(1,.int .i64 0),(2,.int .i64 0),(6,.int .i64 1)]) (λz w=>Sat W0 F w) (λz=>0) () ⟨rfl,rfl,rfl,rfl,Xr⟩ h ?_;clear h;rintro _ w h;refine gx ?_;exact fE rfl ⟨_,rfl,h⟩
def LW(h:Sat W0 F w):Calls prog 45 #[.slice none 0 0] w λx w'=>∃u,x=.returned u/\Sat W0 F w':=by
 refine enter func45 rfl ntmps45 results45 rfl ?_;refine gx ?_;refine ak (met (BU (n:=0) (by omega) h) ?_);clear h;rintro _ w ⟨k,rfl,h⟩;refine⟨_,rfl,?_⟩;refine gx ?_;refine ak (f:=87) ?_;refine met (R:=λx w'=>∃u,x=.returned u/\Sat W0 F w') ?_ ?_
 .refine enter func87 rfl ntmps87 results87 rfl ?_;refine gx ?_;refine aL (α:=Unit) (λz=>[(0,.slice none 0 0),(1,.int .i64 0),(2,.int .i64 0),(3,.int .i64 (k:Int))]) (λz w=>Sat W0 F w) (λz=>0) () ⟨rfl,rfl,rfl,rfl,Xr⟩ h ?_;clear h;rintro _ w h;refine gx ?_;refine ak (met (PT h) ?_);clear h;rintro _ w ⟨u,rfl,h⟩;refine⟨_,rfl,?_⟩;refine gx ?_;exact an rfl ⟨_,rfl,h⟩
 .clear h;rintro _ w ⟨u,rfl,h⟩;refine⟨_,rfl,?_⟩;refine gx ?_;exact fE rfl ⟨_,rfl,h⟩
abbrev LX(v:Xp)(ss:Xn Bs):ae:=aE 1 v 9 ss.length (ss.map str)
def LY(H:Sat W0 (gn d D::F) w)(g:D.now=[]) :
 Calls prog 15 #[ax d] w λx w'=>∃v,x=.returned v/\Sat W0 (gn d D::LX v (qp D)::F) w':=by
 obtain⟨i,z,H⟩:=H.iE;dsimp only[js,bK,List.cons_append,List.nil_append]at H;refine enter func15 rfl ntmps15 results15 rfl ?_;refine gx ?_;refine y6 ga H (.there .here) rfl rfl rfl ?_;clear H;intro w I H;have H:=Sat.ep (k:=1) (E:=9) H;refine gx ?_;refine aL (α:=Xn (Bs×Nat)×Xn Bs×Xp) (λy=>[(0,ax d),(3,y.2.2),(9,.pointer (some ⟨I,0,none⟩))])
  (λy w=>(((y.2.1++y.1.map (·.1)).Perm (D.now.map (·.1)))/\(y.2.1=[]->y.2.2=.slice none 0 0))/\∃L,Sat W0 (LX y.2.2 y.2.1::l9 ga z.bn I (bM D.now) (bM y.1) L::blk d 111 (bK z D)::bg ga z.bs (bM D.safe)::ma z.mv D.moves::star (D.nodes.map iD)::F) w) (λy=>y.1.length)
  (D.now,[],.slice none 0 0) ⟨rfl,rfl,rfl,Xr⟩ ⟨⟨.refl _,λ_=>rfl⟩,none,H.to⟩ ?_
 clear H;rintro⟨left,acc,v⟩ w ⟨⟨c,e⟩,L,H⟩;dsimp only at c e H |-;refine gx ?_;refine C6 ga H (.there .here) rfl rfl (λq=>?_) (λC x G w s H=>?_)
 .have j:left=[]:=by simpa[bM]using q
  subst j;rw[List.map_nil,Yj]at c;have H:=(H.take dt).vP;refine gx ?_;have m:acc=[]:=by rw[g]at c;simpa using c
  subst m;have n:=e rfl;subst n;refine ak (met (LW H) ?_);clear H;rintro _ w ⟨u,rfl,H⟩;refine⟨_,rfl,?_⟩;have t:qp D=[]:=by unfold qp;rw[g];simp[AY]
  refine gx ?_;exact an rfl ⟨_,rfl,by rw[t];exact Sat.dG (z:=z) i H.to⟩
 .obtain⟨a,p,b,rfl,rfl,o⟩:=pP s;rw[o]at H;have f:=c.length_eq;simp only[Xu,XT,X5]at f;have A:D.now.length=0:=by rw[g];rfl
  refine gx ?_;refine y7 ga H .here rfl rfl ?_;refine gx ?_;refine eS H ?_;clear H;intro w J H;refine gx ?_;refine dZ H ?_;clear H;intro V w H;refine gx ?_;refine az (a++b,acc++[p.1],V) ⟨rfl,rfl,rfl,Xr⟩ ⟨⟨?_,λh=>XG h (by simp)⟩,some (p.1,ax p.2),?_⟩ (by simp)
  .refine List.Perm.trans ?_ c;simp only[XK,XP,XS,abB];refine aau acc ?_;exact List.perm_middle.symm
  .have B:=H.head (A':=LX V (acc++[p.1])) λc k=>by
    unfold LX;rw[Xu,ZY,XK];exact k
   exact B.to
def Uf(H:Sat W0 (ah d D::F) w)(c:D.now=[]) :
 Calls prog 15 #[ax d] w λx w'=>∃v,x=.returned v/\Sat W0 (ah d D::LX v (qp D)::F) w':=by
 obtain⟨D0,f,h,e,H⟩:=H.ui;have b:=h.perm e;have g:qp D0=qp D:=by
  unfold qp;refine AG ?_;have:=b.map (·.1);rwa[Zv]at this
 have a:D0.now=[]:=by
  have i:D.now.length=0:=by rw[c];rfl
  have:=b.length_eq;rw[XT]at this;exact XY (by omega)
 refine(LY H a).mono ?_;rintro _ w' ⟨v,rfl,H⟩;rw[g]at H;exact⟨v,rfl,H.mb h⟩
open Go Go.Extern
open Pure (ad ay Rd bF aB)
variable{W0 w:Xo}{F:Xn ae}{d:Nat}{D D':ad}
def okB:YH eX Bs->Bs
 | .ok b=>b
 | .error _=>[]
def Ii{n:Bs}(h:Sat W0 (ah d D::F) w) :
 Calls prog 89 #[ax d,str n] w λx w'=>∃v V,x=.returned (.tuple #[v,V])/\Sat W0 (ah d (ll D n).2::cP v (okB (ll D n).1)::aW V (kv (ll D n).1)::F) w':=by
 refine enter func89 rfl ntmps89 results89 rfl ?_;refine gx ?_;have H:=h.Wx;refine ak (met (Tu (n:=n) h) ?_);clear h;rintro _ w ⟨V,rfl,h⟩;refine⟨_,rfl,?_⟩;unfold ll;cases a:aY D n with
 | some e=>
  rw[a]at h;obtain⟨t,u,rfl⟩:=(h.take dt).bp;refine gx ?_;exact an rfl ⟨_,_,rfl,(Sat.y5 h).to⟩
 | none=>
  rw[a]at h;have b:=(h.take dt).ee;subst b;have f:pV D n<=9223372036854775807:=by
   unfold pV;rw[a];dsimp only;unfold fileOf;cases g:aB D.now n with
   | none=>simp
   | some i=>have:=Pure.ad.size_le g;have:=H.used;dsimp only;omega
  refine gx ?_;refine ak (met (FN (nm:=n) (at_:=0) (n:=(pV D n:Int)) h (by omega) (by omega) (by omega) (by omega)) ?_);clear h;rintro _ w ⟨v,V,rfl,h⟩;refine⟨_,rfl,?_⟩;refine gx ?_;cases c:aY D.tick n with
  | some e=>
   rw[c]at h;refine an rfl ⟨_,_,rfl,?_⟩;have E:kX D.tick n 0 (pV D n:Int)=[]:=by unfold kX;rw[c]
   rw[E]at h;exact h.to
  | none=>
   rw[c]at h;exact an rfl ⟨_,_,rfl,h.to⟩
open Pure (ad ay Rd bF less aO aU bA aX aA dz dec my)
variable{W0 w:Xo}{F:Xn ae}{v:Xp}{d p:Nat}{D D':ad}
theorem LZ(h:D.Ok)(nm:Bs):(fileOf D nm).length<=4398046511104:=by
 have a:=h.used;have b:(fileOf D nm).length<=D.used:=by
  unfold fileOf;cases H:Pure.aB D.now nm with
  | none=>simp
  | some j=>exact Pure.ad.size_le H
 omega
def PU(h:D.Ok)(nm:Bs)(a n:Int):(kX D nm a n).length<=4398046511104:=by
 have H:=LZ h nm;unfold kX;split
 .simp
 .simp only[iL,Yb,Y1];omega
