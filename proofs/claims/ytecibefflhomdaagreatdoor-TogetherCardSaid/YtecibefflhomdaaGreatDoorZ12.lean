/-
  Part 12: ; THE TABLES OF THE TYPES that the walked functions use, print.
-/
import Derived.Test.YtecibefflhomdaaGreatDoorZ11
import Derived.Conc.AtomicLaws2
import Derived.Conc.ClockLaws
import Derived.Conc.MarkLaws
import Derived.KernelRfl
set_option maxHeartbeats 8000000
set_option maxRecDepth 100000
set_option linter.all false
namespace Go.Proofs.YtecibefflhomdaaGreatDoor
open Go Proofs.Tryz
def abh:=@IntKind.wrap_u32
section
open Go Go.Conc
inductive Th where
 | out|lk0|slow (aw st:XN) (k:Nat)|act (x:Nat) (aw st:XN) (k:Nat)|queued (j:Nat)|woken (j:Nat)|hand (y:Nat)|nk|got1
 | hold (s:Xn Nat)|rel0 (s:Xn Nat)|rel1|rel2|unl (y:Nat) (f:XN)|unl0|nq|fin|new
 | pre|ad0 (m:Nat)|ad1|ad2|ad3|ad4|wt0|wt1|wt2 (x:Nat)|wt3|wt4|wt5|wt6|wt7|wt8
def Th.code:Th->Xn Nat
 | .out=>[0] | .lk0=>[1] | .slow aw st k=>[2,aw.toNat,st.toNat,k] | .act x aw st k=>[3,x,aw.toNat,st.toNat,k] | .queued j=>[4,j] | .woken j=>[5,j] | .hand y=>[6,y] | .nk=>[7] | .got1=>[8]
 | .hold s=>9::s | .rel0 s=>10::s | .rel1=>[11] | .rel2=>[12] | .unl y f=>[13,y,f.toNat] | .unl0=>[14] | .nq=>[15] | .fin=>[16] | .new=>[17]
 | .pre=>[18] | .ad0 m=>[19,m] | .ad1=>[20] | .ad2=>[21] | .ad3=>[22] | .ad4=>[23] | .wt0=>[24] | .wt1=>[25] | .wt2 x=>[26,x] | .wt3=>[27] | .wt4=>[28] | .wt5=>[29] | .wt6=>[30] | .wt7=>[31] | .wt8=>[32]
def Th.dec:Xn Nat->Th
 | [0]=>.out|[1]=>.lk0|[2,aw,st,k]=>.slow (aw==1) (st==1) k|[3,x,aw,st,k]=>.act x (aw==1) (st==1) k|[4,j]=>.queued j|[5,j]=>.woken j|[6,y]=>.hand y|[7]=>.nk|[8]=>.got1
 | 9::s=>.hold s|10::s=>.rel0 s|[11]=>.rel1|[12]=>.rel2|[13,y,f]=>.unl y (f==1)|[14]=>.unl0|[15]=>.nq|[16]=>.fin|[17]=>.new
 | [18]=>.pre|[19,m]=>.ad0 m|[20]=>.ad1|[21]=>.ad2|[22]=>.ad3|[23]=>.ad4|[24]=>.wt0|[25]=>.wt1|[26,x]=>.wt2 x|[27]=>.wt3|[28]=>.wt4|[29]=>.wt5|[30]=>.wt6|[31]=>.wt7|[32]=>.wt8
 | _=>.out
def Th.tK(t:Th):Th.dec t.code=t:=by
 cases t<;>first
  | rfl
  | (rename_i a b c;cases a<;>cases b<;>rfl)
  | (rename_i a b c d;cases b<;>cases c<;>rfl)
  | (rename_i a b;cases b<;>rfl)
structure Ps where
 i:Nat
 c:Nat
 n:Nat
 th:Th
def Ps.code(s:Ps):Xn Nat:=s.i::s.c::s.n::s.th.code
def dN(v:Xo):Ps:=match v.os.sigLate with
 | i::c::n::l=>⟨i,c,n,Th.dec l⟩
 | _=>⟨0,0,0,.out⟩
def ji(o:Os)(s:Ps):Os:={ o with sigLate:=s.code }
structure Nb(v v':Xo)(s:Ps):Prop where
 heap:v'.heap=v.heap
 tape:v'.tape=v.tape
 out:v'.output=v.output
 os:v'.os=ji v.os s
variable {v:Xo} {s:Ps}
def kH {o:Os} (h:v.os=ji o s):dN v=s:=by
 rw[dN,h];simp[ji,Ps.code,Th.tK]
variable {v':Xo}
def Nb.dN (h:Nb v v' s):dN v'=s:=kH h.os
def vt {V:Xo} (h:Ry v V):dN V=dN v:=by unfold YtecibefflhomdaaGreatDoor.dN;rw[h.os]
inductive Rq where
 | ld (a:YO)|ldp (a:YO)|ald (a:YO)|cas (a:YO) (k:IntKind) (x y:Int)|add (a:YO) (k:IntKind) (d:Int)|sto (a:YO) (k:IntKind) (x:Int)
 | mk (m:Mark)|clk|acq (a:YO)|rel (a:YO)|recv (c:Nat)|close (c:Nat)|fork (d:Deferred)
abbrev SM(a:YO):Ys:=⟨.cell a,false,true⟩
abbrev UQ(a:YO):Ys:=⟨.cell a,true,true⟩
abbrev eI:Xp:=.tuple #[]
def Yields(q:XN)(s:Sem Next)(r:Xo)(u:Xp)(r':Xo)(es:Xv Ys):Prop:=
 ∃e,(s.runT prog r #[]=(.ok (.value u) r',e)\/(u=undef/\s.runT prog r #[]=(.ok .skip r',e)))/\∀f,(q=true->(prog.funcs[f]?).any (·.norace)=true)->seen prog f e=es
def Rq.jj(op:Nat)(q:XN)(s:Sem Next):Rq->Prop
 | .ld a=>∀r k x,r.cell? a=some (.int k x)->Yields q s r (.int k x) r #[]
 | .ldp a=>∀r u,r.cell? a=some u->s.runT prog r #[]=(.ok (.value u) r,#[⟨.cell a,false,false⟩])
 | .ald a=>∀r x,r.cell? a=some (.int .u64 x)->Yields q s r (.int .u64 x) r #[SM a]
 | .cas a k x y=>∀r z,r.cell? a=some (.int k z)->r.frozen? a=false->(z=x->Yields q s r (.bool true) (r.setCell a (.int k y)) #[SM a,UQ a])/\(z≠x->Yields q s r (.bool false) r #[SM a])
 | .add a k d=>∀r z,r.cell? a=some (.int k z)->r.frozen? a=false->Yields q s r (.int k (k.wrap (z+d))) (r.setCell a (.int k (k.wrap (z+d)))) #[SM a,UQ a]
 | .sto a k x=>∀r z,r.cell? a=some (.int k z)->r.frozen? a=false->Yields q s r eI (r.setCell a (.int k x)) #[UQ a]
 | .mk m=>∀r,Yields q s r eI r #[⟨.mark m,false,true⟩]
 | .clk=>∀r,∃y,Yields q s r (.int .i64 y) r.later #[]
 | .acq a=>∀r z,r.cell? a=some (.int .u32 z)->r.frozen? a=false->(z=0->∃e,s.runT prog r #[]=(.halt .blocked r,e))/\(z≠0->Yields q s r eI (r.setCell a (.int .u32 (z-1))) (semEvents a))
 | .rel a=>op=2/\∀r z,r.cell? a=some (.int .u32 z)->r.frozen? a=false->Yields q s r eI (r.setCell a (.int .u32 (IntKind.u32.wrap (z+1)))) (semEvents a)
 | .recv c=>op≠0/\∃z,∀r,s.runT prog r #[]=(.ok (.comm #[⟨.chan (some c),none,z⟩] true (.recv false)) r,#[])
 | .close c=>op=2/\∀r S R t,r.heap[c]?=some (.chan 0 #[] false S R t)->Yields q s r eI { r with heap:=r.heap.setIfInBounds c (.chan 0 #[] true S R t) } #[⟨.obj c,false,true⟩,⟨.obj c,true,true⟩]
 | .fork d=>op≠0/\d.target≠.nil/\∀r,s.runT prog r #[]=(.ok (.spawn d) r,#[])
structure cn where
 mu:Nat
 wg:Nat
 ch:Nat
 n:Nat
 len:Nat->Nat
 LI:Xn Nat->ae
 R:ae
 go:Nat->Xn (Nat×Obj)->Deferred->Prop
def cn.word(p:cn):YO:=⟨p.mu,0,none⟩
def cn.sema(p:cn):YO:=⟨p.mu,1,none⟩
def gZ:Obj->Obj
 | .cells c e f=>.cells (Array.replicate c.size hole) e f
 | _=>.coro none
structure rY(old:Nat->Prop)(h:Hp)(v v':Xo):Prop where
 size:v'.heap.size=v.heap.size
 tape:v'.tape=v.tape
 out:v'.output=v.output
 on:∀i x,h i=some x->v'.heap[i]?=some x.2
 off:∀i,h i=none->v'.heap[i]?=v.heap[i]?
 hid:∀i x,h i=some x->¬old i->Af x.2/\(v.heap[i]?=some (gZ x.2)\/∃c c' f,v.heap[i]?=some (.cells c 133 f)/\x.2=.cells c' 133 f/\c'.size=c.size)
 olds:∀i x,h i=some x->old i->x.1=true/\v.heap[i]?=some x.2
abbrev bI(old:Nat->Prop):Base:={ old:=old,ask:=λ_ _ _ _ _=>False,quiet:=false }
def l6(old:Nat->Prop)(W0:Xo)(l:Xn ae)(w:Xo):Prop:=@Sat (bI old) W0 l w
variable {B B':Base} {W0 w:Xo} {l:Xn ae}
def xh (H:B.old=B'.old) (h:@Sat B W0 l w):@Sat B' W0 l w:=by
 have⟨o,f,Q⟩:=B;have⟨O,A,q⟩:=B';cases H;obtain⟨a,b,c,d,e⟩:=h;exact @Sat.mk ⟨o,A,q⟩ W0 l w a b c d e
def CB [B:Base]:Sat W0 l w↔l6 B.old W0 l w:=⟨λh=>xh (B:=B) (B':=bI B.old) rfl h,λh=>xh (B:=bI B.old) (B':=B) rfl h⟩
def cy(bl:Xn (Nat×Obj)):Xn ae:=bl.map λx=>ob false x.1 x.2
def iC(bl:Xn (Nat×Obj)):Prop:=∀x∈bl,¬Qv x.2/\∀c f,x.2≠.cells c 133 f
inductive jB(p:cn)(old:Nat->Prop):Rq->Xo->(Xp->Xo->Prop)->Prop
 | Kv {v K i c n} (h:dN v=⟨i,c,n,.out⟩) (hc:c<p.len i) (k:∀v',(∃z,v'.cell? p.word=some z)->Nb v v' ⟨i,c,n,.lk0⟩->K eI v'):jB p old (.mk .disable) v K
 | EG {v K i c n} (h:dN v=⟨i,c,n,.lk0⟩) (k1:∀v' n',n'<n->Nb v v' ⟨i,c,n',.nk⟩->K (.bool true) v') (k0:∀v',Nb v v' ⟨i,c,n,.slow false false 5⟩->K (.bool false) v'):jB p old (.cas p.word .i32 0 1) v K
 | Qw {v K i c n aw st k} (h:dN v=⟨i,c,n,.slow aw st k⟩) (kk:∀v' n' x,n'<=n->x<1000000->(aw=true->x / 2%2=1)->Nb v v' ⟨i,c,n',.act x aw st k⟩->K (.int .i32 x) v'):jB p old (.ld p.word) v K
 | Ul {v K i c n x0 aw st k} (h:dN v=⟨i,c,n,.act x0 aw st (k+1)⟩) (kk:∀v' n' x,n'<=n->x<1000000->(aw=true->x / 2%2=1)->Nb v v' ⟨i,c,n',.act x aw st k⟩->K (.int .i32 x) v'):jB p old (.ld p.word) v K
 | tL {v K i c n x st k} {y:Int} (h:dN v=⟨i,c,n,.act x false st k⟩) (hx:x%8=1/\8<=x) (hy:y=(x:Int)+2) (k1:∀v' n',n'<n->Nb v v' ⟨i,c,n',.slow true st k⟩->K (.bool true) v') (k0:∀v' n',n'<n->Nb v v' ⟨i,c,n',.slow false st k⟩->K (.bool false) v'):jB p old (.cas p.word .i32 x y) v K
 | EH {v K i c n x aw st k} {y:Int} (h:dN v=⟨i,c,n,.act x aw st k⟩) (hx:x%2=0/\x / 4%2=0) (hy:y=(x:Int)+1-(if aw then 2 else 0)) (k1:∀v' n',n'<n->Nb v v' ⟨i,c,n',.nk⟩->K (.bool true) v') (k0:∀v' n',n'<n->Nb v v' ⟨i,c,n',.slow aw st 5⟩->K (.bool false) v'):jB p old (.cas p.word .i32 x y) v K
 | EI {v K i c n x aw st k} {y:Int} (h:dN v=⟨i,c,n,.act x aw st k⟩) (hx:x%2=1\/x / 4%2=1) (hst:st=true->aw=true) (hy:y=(x:Int)+8+(if st=true/\x%2=1/\x / 4%2=0 then 4 else 0)-(if aw then 2 else 0)) (k1:∀v' n',n'<n->Nb v v' ⟨i,c,n',.queued 2⟩->K (.bool true) v') (k0:∀v' n',n'<n->Nb v v' ⟨i,c,n',.slow aw st 5⟩->K (.bool false) v'):jB p old (.cas p.word .i32 x y) v K
 | Kw {v K i c n j} (h:dN v=⟨i,c,n,.queued (j+1)⟩) (k:∀v' y,Nb v v' ⟨i,c,n,.queued j⟩->K (.int .i64 y) v'):jB p old .clk v K
 | acq {v K i c n j} (h:dN v=⟨i,c,n,.queued j⟩) (k:∀v' n',n'<n->Nb v v' ⟨i,c,n',.woken 2⟩->K eI v'):jB p old (.acq p.sema) v K
 | Kx {v K i c n j} (h:dN v=⟨i,c,n,.woken (j+1)⟩) (k:∀v' y,Nb v v' ⟨i,c,n,.woken j⟩->K (.int .i64 y) v'):jB p old .clk v K
 | IS {v K i c n j} (st:XN) (h:dN v=⟨i,c,n,.woken j⟩) (k0:∀v' n' x,n'<=n->x<1000000->x / 4%2=0->x / 2%2=1->Nb v v' ⟨i,c,n',.act x true st 5⟩->K (.int .i32 x) v') (k1:∀v' x,x<1000000->x%8=4->8<=x->Nb v v' ⟨i,c,n,.hand x⟩->K (.int .i32 x) v'):jB p old (.ld p.word) v K
 | EJ {v K i c n y} {d:Int} (h:dN v=⟨i,c,n,.hand y⟩) (hd:(d=-7/\16<=y)\/d=-11) (k:∀v' n' z,n'<n->Nb v v' ⟨i,c,n',.nk⟩->K (.int .i32 z) v'):jB p old (.add p.word .i32 d) v K
 | en {v K i c n} (h:dN v=⟨i,c,n,.nk⟩) (k:∀v',Nb v v' ⟨i,c,n,.got1⟩->K eI v'):jB p old (.mk .enable) v K
 | Ma {v K i c n} (h:dN v=⟨i,c,n,.got1⟩) (hi:i<p.n) (k:∀v' s hL,s.count i=c->p.LI s hL->rY old hL v v'->v'.os=ji v.os ⟨i,c,n,.hold s⟩->K eI v'):jB p old (.mk (.acquire p.word)) v K
 | Ky {v K i c n} (h:dN v=⟨i,c,n,.got1⟩) (hi:i=p.n) (k:∀v',Nb v v' ⟨i,c,n,.hold []⟩->K eI v'):jB p old (.mk (.acquire p.word)) v K
 | Um {v K i c n s} (h:dN v=⟨i,c,n,.hold s⟩) (k:∀v' x,Nb v v' ⟨i,c,n,.rel0 s⟩->K (.int .i32 x) v'):jB p old (.ld p.word) v K
 | vu {v K i c n s} (W0:Xo) (bl:Xn (Nat×Obj)) (h:dN v=⟨i,c,n,.rel0 s⟩) (hi:i<p.n) (hs:l6 old W0 (p.LI (s++[i])::cy bl) v) (hbl:iC bl) (k:∀v',(∃z,v'.cell? p.word=some z)->v'.os=ji v.os ⟨i,c+1,n,.rel1⟩->l6 old { W0 with os:=v'.os } (cy bl) v'->K eI v'):jB p old (.mk (.releaseMerge p.word)) v K
 | Qx {v K i c n s} (h:dN v=⟨i,c,n,.rel0 s⟩) (hi:i=p.n) (k:∀v',Nb v v' ⟨i,c+1,n,.rel1⟩->K eI v'):jB p old (.mk (.releaseMerge p.word)) v K
 | Kz {v K i c n} (h:dN v=⟨i,c,n,.rel1⟩) (k:∀v',Nb v v' ⟨i,c,n,.rel2⟩->K eI v'):jB p old (.mk .disable) v K
 | EK {v K i c n} (h:dN v=⟨i,c,n,.rel2⟩) (k:∀v' n' y,n'<n->y<1000000->y%2=0->Nb v v' ⟨i,c,n',.unl y true⟩->K (.int .i32 y) v'):jB p old (.add p.word .i32 (-1)) v K
 | EL {v K i c n x f} {y:Int} (h:dN v=⟨i,c,n,.unl x f⟩) (hx:x%8=0/\8<=x) (hy:y=(x:Int)-6) (k1:∀v' n',n'<n->Nb v v' ⟨i,c,n',.nq⟩->K (.bool true) v') (k0:∀v' n',n'<n->Nb v v' ⟨i,c,n',.unl0⟩->K (.bool false) v'):jB p old (.cas p.word .i32 x y) v K
 | EM {v K i c n} (h:dN v=⟨i,c,n,.unl0⟩) (k:∀v' n' x,n'<=n->x<1000000->Nb v v' ⟨i,c,n',.unl x false⟩->K (.int .i32 x) v'):jB p old (.ld p.word) v K
 | EN {v K i c n} (h:dN v=⟨i,c,n,.nq⟩) (k:∀v' n',n'<n->Nb v v' ⟨i,c,n',.fin⟩->K eI v'):jB p old (.rel p.sema) v K
 | EO {v K i c n y} (h:dN v=⟨i,c,n,.unl y true⟩) (hy:y / 4%2=1) (k:∀v' n',n'<n->Nb v v' ⟨i,c,n',.fin⟩->K eI v'):jB p old (.rel p.sema) v K
 | Un {v K i c n} (h:dN v=⟨i,c,n,.fin⟩) (k:∀v',Nb v v' ⟨i,c,n,.out⟩->K eI v'):jB p old (.mk .enable) v K
 | SN {v K i c n y f} (h:dN v=⟨i,c,n,.unl y f⟩) (hq:(y<8\/y%8≠0)/\(f=true->y / 4%2=0)) (k:∀v',Nb v v' ⟨i,c,n,.out⟩->K eI v'):jB p old (.mk .enable) v K
def EP(h:Hp):Prop:=∀i x,h i=some x->x.1=true/\Af x.2/\∀c f,x.2≠.cells c 133 f
def cn.st(p:cn):YO:=⟨p.wg,0,none⟩
def cn.sm(p:cn):YO:=⟨p.wg,1,none⟩
def cn.Mem(p:cn)(v:Xo):Prop:=(∃z,v.cell? p.word=some z)/\(∃z,v.cell? p.st=some z)/\∃z,v.cell? p.sm=some z
def CC(p:cn)(h:Hp)(c:Xv Xp)(f:Nat×Nat):Hp:=λi=>if i=p.mu then some (false,.cells ((c.setIfInBounds 0 hole).setIfInBounds 1 hole) 133 f)else h i
def cn.Whole(p:cn)(s:Xn Nat):Prop:=(∀i∈s,i<p.n)/\∀i,i<p.n->s.count i=p.len i
inductive gJ(p:cn)(old:Nat->Prop):Rq->Xo->(Xp->Xo->Prop)->Prop
 | Kv {v K c n} (h:dN v=⟨p.n,c,n,.ad0 0⟩) (hc:c<p.n) (k:∀v',p.Mem v'->Nb v v' ⟨p.n,c,n,.ad1⟩->K eI v'):gJ p old (.mk .disable) v K
 | add {v K c n} (h:dN v=⟨p.n,c,n,.ad1⟩) (k:∀v' m,1<=m->m<=p.n->Nb v v' ⟨p.n,c,n,.ad2⟩->K (.int .u64 ((m*4294967296:Nat):Int)) v'):gJ p old (.add p.st .u64 4294967296) v K
 | rd {v K c n} (h:dN v=⟨p.n,c,n,.ad2⟩) (k:∀v',Nb v v' ⟨p.n,c,n,.ad3⟩->K eI v'):gJ p old (.mk (.read p.sm)) v K
 | en {v K c n th} (h:dN v=⟨p.n,c,n,th⟩) (ht:th=.ad2\/th=.ad3) (k:∀v',Nb v v' ⟨p.n,c,n,.ad4⟩->K eI v'):gJ p old (.mk .enable) v K
 | fork {v K c n d} (W0:Xo) (give bl:Xn (Nat×Obj)) (h:dN v=⟨p.n,c,n,.ad4⟩) (hc:c<p.n) (hs:l6 old W0 (cy give++cy bl) v) (hg:iC give/\iC bl) (hgo:p.go c give d)
  (k:∀v',p.Mem v'->v'.os=ji v.os ⟨p.n,c+1,n,.ad0 0⟩->l6 old { W0 with os:=v'.os } (cy bl) v'->K undef v'):gJ p old (.fork d) v K
 | SO {v K c n a u} (h:dN v=⟨p.n,c,n,.ad0 0⟩) (hc:c=p.n) (hR:∀hp,p.R hp->∃cs T f,hp a.block=some (true,.cells cs T f)/\cs[a.off]?=some u/\a.spot=none) (k:∀v',Nb v v' ⟨p.n,c,n,.ad0 1⟩->K u v'):gJ p old (.ldp a) v K
 | close {v K c n} (h:dN v=⟨p.n,c,n,.ad0 1⟩) (hc:c=p.n) (k:∀v',Nb v v' ⟨p.n,c,n,.wt0⟩->K eI v'):gJ p old (.close p.ch) v K
 | M6 {v K c n} (h:dN v=⟨p.n,c,n,.wt0⟩) (k:∀v',Nb v v' ⟨p.n,c,n,.wt1⟩->K eI v'):gJ p old (.mk .disable) v K
 | IS {v K c n} (h:dN v=⟨p.n,c,n,.wt1⟩) (k:∀v' n' m,n'<=n->m<=p.n->Nb v v' ⟨p.n,c,n',.wt2 m⟩->K (.int .u64 ((m*4294967296:Nat):Int)) v'):gJ p old (.ald p.st) v K
 | tL {v K c n m} (h:dN v=⟨p.n,c,n,.wt2 m⟩) (hm:m≠0) (k1:∀v',Nb v v' ⟨p.n,c,n,.wt3⟩->K (.bool true) v') (k0:∀v' n',n'<n->Nb v v' ⟨p.n,c,n',.wt1⟩->K (.bool false) v'):gJ p old (.cas p.st .u64 ((m*4294967296:Nat):Int) ((m*4294967296+1:Nat):Int)) v K
 | wr {v K c n} (h:dN v=⟨p.n,c,n,.wt3⟩) (k:∀v',Nb v v' ⟨p.n,c,n,.wt4⟩->K eI v'):gJ p old (.mk (.write p.sm)) v K
 | acq {v K c n} (h:dN v=⟨p.n,c,n,.wt4⟩) (k:∀v',Nb v v' ⟨p.n,c,n,.wt5⟩->K eI v'):gJ p old (.acq p.sm) v K
 | UR {v K c n} (h:dN v=⟨p.n,c,n,.wt5⟩) (k:∀v',Nb v v' ⟨p.n,c,n,.wt6⟩->K (.int .u64 0) v'):gJ p old (.ald p.st) v K
 | Uo {v K c n th} (h:dN v=⟨p.n,c,n,th⟩) (ht:th=.wt2 0\/th=.wt6) (k:∀v',Nb v v' ⟨p.n,c,n,.wt7⟩->K eI v'):gJ p old (.mk .enable) v K
 | join {v K c n} (h:dN v=⟨p.n,c,n,.wt7⟩) (k:∀v' s hL hR,p.Whole s->p.LI s hL->p.R hR->Hp.fits hL hR->rY old (Hp.un hL hR) v v'->v'.os=ji v.os ⟨p.n,c,n,.out⟩->K eI v'):gJ p old (.mk (.acquire p.st)) v K
structure M7(F:Xn Nat->cn)(old:Nat->Prop)(rq:Rq)(v:Xo)(K:Xp->Xo->Prop):Prop where
 ok:∃(x:Xn Nat) (p:cn) (W0:Xo) (bl:Xn (Nat×Obj)) (LI0:ae) (ts tr:Nat) (tm:XN) (u:Xp) (th:Th),F x=p/\(dN v).th=.pre/\iC bl /\
  ((rq=.mk .disable/\u=eI/\th=.ad1/\0<p.n)\/(p.n=0/\th=.ad0 1/\∃a,rq=.ldp a/\∀hp,p.R hp->∃cs T f,hp a.block=some (true,.cells cs T f)/\cs[a.off]?=some u/\a.spot=none)) /\
  l6 old W0 (ob false p.wg (.cells #[.int .u64 0,.int .u32 0] 156 (0,0))::ob false p.ch (.chan 0 #[] false ts tr tm)::LI0::p.R::cy bl) v /\
  (∀h,LI0 h->∃c,h p.mu=some (false,.cells c 133 (0,0))/\c[0]?=some (.int .i32 0)/\c[1]?=some (.int .u32 0)/\p.LI [] (CC p h c (0,0))) /\
  (∀h,p.R h->∃h',Hp.le h' h/\EP h'/\p.R h') /\
  ∀v' n,p.Mem v'->v'.os={ ji v.os ⟨p.n,0,n,th⟩with sigPending:=x }->l6 old { W0 with os:=v'.os } (cy bl) v'->K u v'
inductive ER(p:cn):Rq->Xo->(Xp->Xo->Prop)->Prop
 | recv {v K i c n} (h:dN v=⟨i,c,n,.new⟩) (k:∀u v',Nb v v' ⟨i,c,n,.out⟩->K u v'):ER p (.recv p.ch) v K
def Th.eV:Th->Nat
 | .out=>31 | .lk0=>30 | .slow _ _ k=>11+2*k | .act _ _ _ k=>10+2*k | .queued j=>5+j | .woken j=>40+j | .hand _=>1 | .nk=>60 | .got1=>59
 | .hold _=>58 | .rel0 _=>57 | .rel1=>56 | .rel2=>55 | .unl _ _=>33 | .unl0=>34 | .nq=>3 | .fin=>32 | .new=>99
 | .pre=>99 | .ad0 m=>90-5*m | .ad1=>89 | .ad2=>88 | .ad3=>87 | .ad4=>86 | .wt0=>80 | .wt1=>79 | .wt2 _=>78 | .wt3=>77 | .wt4=>76 | .wt5=>75 | .wt6=>74 | .wt7=>73 | .wt8=>0
section
variable[B:Base]
theorem jV:∀{bl:Xn (Nat×Obj)} {h:Hp},cj (cy bl) h->∀x∈bl,h x.1=some (false,x.2)
 | y::bl,h,⟨c,d,_,L,a,b,r⟩,x,H=>by
  rcases XW.1 H with rfl|H
  .exact L _ _ b
  .exact a _ _ (jV r x H)
open Classical in
noncomputable def Hp.trim(h:Hp)(P:Nat->Prop):Hp:=λi=>if P i then h i else none
theorem Hp.nH(h:Hp)(P:Nat->Prop):Hp.le (h.trim P) h:=λi x H=>by
 unfold Hp.trim at H;split at H
 .exact H
 .cases H
variable {P:Nat->Prop}
theorem Hp.Bn {a b:Hp} (h:Hp.le a b):Hp.le (a.trim P) (b.trim P):=λi x H=>by
 unfold Hp.trim at H |-;split at H
 .rename_i c;rw[XE c];exact h i x H
 .cases H
def rA:∀{bl:Xn (Nat×Obj)} {h:Hp},cj (cy bl) h->(∀x∈bl,P x.1)->cj (cy bl) (h.trim P)
 | [],_,_,_=>Xr
 | y::bl,h,⟨H,b,f,L,c,d,r⟩,a=>by
  refine⟨H.trim P,b.trim P,Hp.kh f (Hp.nH _ _) (Hp.nH _ _),Hp.Bn L,Hp.Bn c,?_,rA (bl:=bl) r λx e=>a x (XQ _ e)⟩;show H.trim P y.1=_;unfold Hp.trim;rw[XE (a y XC)];exact d
theorem M8{o o':Obj}(h:o=gZ o')(H:Af o)(h1:¬Qv o)(b:∀c f,o≠.cells c 133 f):False:=by
 cases o' with
 | cells c e f=>
  simp[gZ]at h;subst h;rcases ZR c.size with a|a
  .exact h1 ⟨e,f,by grind⟩
  .have:=H 0 hole (by grind) rfl
   grind
 | _=>simp[gZ]at h;subst h;exact H
end
variable {r:Xo}
def Vw.conv (H:B.old=B'.old) (h:@Vw B v r):@Vw B' v r:=by
 have⟨o,A,Q⟩:=B;have⟨O,a,q⟩:=B';cases H;obtain⟨b,c,d,e,f,g⟩:=h;exact @Vw.mk ⟨o,a,q⟩ v r b c d e f g
def Kept.conv (H:B.old=B'.old) {r':Xo} (h:@Kept B v r r'):@Kept B' v r r':=by
 have⟨o,A,Q⟩:=B;have⟨O,a,q⟩:=B';cases H;obtain⟨b,c,d,e,f,g,i,j⟩:=h;exact @Kept.mk ⟨o,a,q⟩ v r r' b c d e f g i j
def po.conv (H:B.old=B'.old) (h:@po B v v'):@po B' v v':=by
 have⟨o,A,Q⟩:=B;have⟨O,a,q⟩:=B';cases H;obtain⟨b,c⟩:=h;exact @po.mk ⟨o,a,q⟩ v v' b c
def nG.conv (H:B.old=B'.old) {main:XN} {g g':XF} (h:@nG B main g v g' v'):@nG B' main g v g' v':=by
 have⟨E,a,b,c⟩:=h;refine⟨E,λe d=>?_,b,λr f=>?_⟩
 .have:=a e d;have⟨o,A,q⟩:=B';cases H;exact this
 .have⟨R,K,i,k⟩:=c r (Vw.conv H.symm f);exact⟨R,K,Vw.conv H i,Kept.conv H k.1,po.conv H k.2⟩
end
variable {α:Type}
def lk:Xn (Nat×α)->Nat->XB α
 | [],_=>none
 | (k,v)::e,t=>bif Nat.beq k t then some v else lk e t
def CE:∀{l:Xn (Nat×α)} {t:Nat} {v:α},lk l t=some v->(t,v)∈l
 | (k,u)::e,t,v,h=>by
  unfold lk at h;cases H:Nat.beq k t with
  | true=>rw[H]at h;simp at h;subst h;have:=YX H;subst this;exact XC
  | false=>rw[H]at h;exact XQ _ (CE h)
def cY:Xn (Nat×Nat):=[(1,1),(3,1),(4,1),(5,1),(9,1),(17,1),(20,1),(21,1),(22,1),(23,1),(24,1),(29,1),(30,1),(31,1),(33,2),(34,1),(36,5),(41,1),(44,1),(46,1),(47,1),(49,4),(52,1),(54,1),(61,6),(65,1),(68,1),(70,1),(73,1),(74,1),(84,6),(86,1),(88,3),(89,1),(91,7),(92,1),(93,1),(95,4),(100,3),(104,2),(107,1),(108,1),(109,1),(111,8),(113,1),(116,2),(117,1),(118,1),(120,1),(121,1),(123,0),(124,1),(126,2),(128,2),(129,1),(130,4),(131,1),(133,17),(134,1),(136,1),(137,3),(143,1),(147,2),(150,1),(151,0),(152,0),(154,1),(156,2),(158,2),(160,1),(164,1),(166,4),(177,2),(190,2),(193,1),(197,1),(198,1),(200,6),(202,1),(203,1),(205,3),(208,1),(210,1),(216,2),(218,1),(220,1),(224,1),(249,1),(251,2),(256,4),(258,1),(261,1),(282,3),(283,1),(288,1),(301,1),(304,1),(305,1),(306,1),(308,1),(312,1),(325,1),(331,1),(338,1),(341,1),(346,1),(347,1),(349,5),(362,24)]
def vz:Xn (Nat×Nat):=[(1,8),(3,8),(4,1),(5,1),(9,16),(17,8),(20,16),(21,4),(22,24),(23,8),(24,8),(29,24),(30,8),(31,8),(33,16),(34,8),(36,40),(41,16),(44,8),(46,24),(47,24),(49,64),(52,24),(54,24),(61,64),(65,24),(68,24),(70,24),(73,24),(74,24),(84,80),(86,24),(88,56),(89,8),(91,88),(92,24),(93,24),(95,56),(100,40),(104,32),(107,8),(108,8),(109,24),(111,80),(113,8),(116,32),(117,8),(118,24),(120,24),(121,8),(124,4),(126,8),(128,8),(129,24),(130,96),(131,8),(133,208),(134,24),(136,8),(137,40),(143,24),(147,32),(150,8),(154,8),(156,16),(158,32),(160,24),(164,24),(166,56),(177,32),(190,32),(193,8),(197,8),(198,24),(200,88),(202,8),(203,8),(205,24),(208,16),(210,1),(216,24),(218,8),(220,8),(224,8),(249,8),(251,24),(256,48),(258,24),(261,16),(282,32),(283,8),(288,8),(301,16),(304,16),(305,16),(306,24),(308,24),(312,8),(325,8),(331,24),(338,16),(341,24),(346,24),(347,8),(349,56),(362,24)]
def kV:Xn (Nat×XN):=[(1,false),(3,false),(4,false),(5,false),(9,false),(17,false),(20,false),(21,false),(22,false),(23,false),(24,false),(29,false),(30,false),(31,false),(33,true),(34,false),(36,true),(41,false),(44,false),(46,false),(47,false),(49,true),(52,false),(54,false),(61,true),(65,false),(68,false),(70,false),(73,false),(74,false),(84,true),(86,false),(88,true),(89,false),(91,true),(92,false),(93,false),(95,true),(100,true),(104,true),(107,false),(108,false),(109,false),(111,true),(113,false),(116,true),(117,false),(118,false),(120,true),(121,false),(123,true),(124,false),(126,true),(128,true),(129,false),(130,true),(131,false),(133,true),(134,false),(136,false),(137,true),(143,false),(147,true),(150,false),(151,true),(152,true),(154,true),(156,true),(158,true),(160,false),(164,false),(166,true),(177,true),(190,true),(193,false),(197,false),(198,false),(200,true),(202,false),(203,false),(205,true),(208,false),(210,false),(216,true),(218,false),(220,false),(224,false),(249,false),(251,true),(256,true),(258,false),(261,false),(282,true),(283,false),(288,false),(301,false),(304,false),(305,false),(306,false),(308,false),(312,false),(325,false),(331,false),(338,false),(341,false),(346,false),(347,false),(349,true),(362,true)]
def kY:Xn (Nat×Xn Xp):=[(1,[.nilFunc]),(3,[.int .i64 0]),(4,[.bool false]),(5,[.int .u8 0]),(9,[.string ⟨#[]⟩]),(17,[.pointer none]),(20,[.nilIface]),(21,[.int .i32 0]),(22,[.slice none 0 0]),(23,[.int .u64 0]),(24,[.nilFunc]),(29,[.slice none 0 0]),(30,[.pointer none]),(31,[.pointer none]),(33,[.int .i64 0,.int .i64 0]),(34,[.pointer none]),(36,[.pointer none,.pointer none,.int .i64 0,.int .i64 0,.pointer none]),(41,[.nilIface]),(44,[.int .i64 0]),(46,[.slice none 0 0]),(47,[.slice none 0 0]),(49,[.slice none 0 0,.int .i64 0,.bool false,.slice none 0 0]),(52,[.slice none 0 0]),(54,[.slice none 0 0]),(61,[.slice none 0 0,.int .i64 0,.int .u64 0,.int .u64 0,.bool false,.int .i64 0]),(65,[.slice none 0 0]),(68,[.slice none 0 0]),(70,[.slice none 0 0]),(73,[.slice none 0 0]),(74,[.slice none 0 0]),(84,[.int .i64 0,.int .i64 0,.int .i64 0,.string ⟨#[]⟩,.string ⟨#[]⟩,.slice none 0 0]),(86,[.slice none 0 0]),(88,[.slice none 0 0,.slice none 0 0,.bool false]),(89,[.pointer none]),(91,[.pointer none,.pointer none,.pointer none,.int .i64 0,.int .i64 0,.slice none 0 0,.slice none 0 0]),(92,[.slice none 0 0]),(93,[.slice none 0 0]),(95,[.int .i64 0,.int .i64 0,.string ⟨#[]⟩,.slice none 0 0]),(100,[.string ⟨#[]⟩,.string ⟨#[]⟩,.bool false]),(104,[.int .i64 0,.slice none 0 0]),(107,[.nilFunc]),(108,[.map none]),(109,[.slice none 0 0]),(111,[.map none,.map none,.slice none 0 0,.int .i64 0,.int .i64 0,.int .i64 0,.int .i64 0,.int .i64 0]),(113,[.pointer none]),(116,[.slice none 0 0,.int .i64 0]),(117,[.pointer none]),(118,[.slice none 0 0]),(120,[.slice none 0 0]),(121,[.map none]),(124,[.int .u32 0]),(126,[.int .i32 0,.int .u32 0]),(128,[.int .i32 0,.int .u32 0]),(129,[.slice none 0 0]),(130,[.slice none 0 0,.slice none 0 0,.slice none 0 0,.slice none 0 0]),(131,[.int .u64 0]),(133,[.int .i32 0,.int .u32 0,.pointer none,.int .i64 0,.int .i64 0,.bool false,.nilIface,.slice none 0 0,.slice none 0 0,.slice none 0 0,.slice none 0 0,.pointer none,.string ⟨#[]⟩,.int .u64 0,.int .u64 0,.map none,.int .i64 0]),(134,[.slice none 0 0]),(136,[.pointer none]),(137,[.string ⟨#[]⟩,.string ⟨#[]⟩,.bool false]),(143,[.slice none 0 0]),(147,[.string ⟨#[]⟩,.string ⟨#[]⟩]),(150,[.chan none]),(154,[.int .u64 0]),(156,[.int .u64 0,.int .u32 0]),(158,[.string ⟨#[]⟩,.string ⟨#[]⟩]),(160,[.slice none 0 0]),(164,[.slice none 0 0]),(166,[.string ⟨#[]⟩,.string ⟨#[]⟩,.string ⟨#[]⟩,.int .i64 0]),(177,[.bool false,.slice none 0 0]),(190,[.slice none 0 0,.bool false]),(193,[.pointer none]),(197,[.map none]),(198,[.slice none 0 0]),(200,[.string ⟨#[]⟩,.string ⟨#[]⟩,.string ⟨#[]⟩,.int .i64 0,.pointer none,.slice none 0 0]),(202,[.pointer none]),(203,[.int .u64 0]),(205,[.pointer none,.pointer none,.int .u64 0]),(208,[.nilIface]),(210,[.int .u8 0]),(216,[.string ⟨#[]⟩,.pointer none]),(218,[.pointer none]),(220,[.int .i64 0]),(224,[.pointer none]),(249,[.pointer none]),(251,[.string ⟨#[]⟩,.int .i64 0]),(256,[.string ⟨#[]⟩,.string ⟨#[]⟩,.bool false,.int .u64 0]),(258,[.slice none 0 0]),(261,[.nilIface]),(282,[.string ⟨#[]⟩,.int .i64 0,.int .i64 0]),(283,[.pointer none]),(288,[.nilFunc]),(301,[.nilIface]),(304,[.nilIface]),(305,[.nilIface]),(306,[.slice none 0 0]),(308,[.slice none 0 0]),(312,[.pointer none]),(325,[.pointer none]),(331,[.slice none 0 0]),(338,[.nilIface]),(341,[.slice none 0 0]),(346,[.slice none 0 0]),(347,[.pointer none]),(349,[.string ⟨#[]⟩,.string ⟨#[]⟩,.bool false,.int .u64 0,.nilFunc]),(362,[.int .u8 0,.int .u8 0,.int .u8 0,.int .u8 0,.int .u8 0,.int .u8 0,.int .u8 0,.int .u8 0,.int .u8 0,.int .u8 0,.int .u8 0,.int .u8 0,.int .u8 0,.int .u8 0,.int .u8 0,.int .u8 0,.int .u8 0,.int .u8 0,.int .u8 0,.int .u8 0,.int .u8 0,.int .u8 0,.int .u8 0,.int .u8 0])]
def Qy:Xn (Nat×Xn (XB Nat)):=[(33,[some 0,some 1]),(36,[some 0,some 1,some 2,some 4]),(49,[some 0,some 1,some 2,some 3]),(61,[some 0,some 1,some 2,some 3,some 4,some 5]),(84,[some 0,some 1,some 2,some 3,some 4,some 5]),(88,[some 0,some 1,some 2]),(91,[some 0,some 1,some 2,some 3,some 4,some 5,some 6]),(95,[some 0,some 1,some 2,some 3]),(100,[some 0,some 1,some 2]),(104,[some 0,some 1]),(111,[some 0,some 1,some 2,some 3,some 4,some 5,some 6,some 7]),(116,[some 0,some 1]),(120,[some 0]),(126,[some 0,some 1]),(128,[none,some 0]),(133,[some 0,some 2,some 3,some 5,some 6,some 7,some 11,some 12,some 13,some 14,some 15,some 16]),(137,[some 0,some 1,some 2]),(147,[some 0,some 1]),(154,[none,none,some 0]),(156,[none,some 0,some 1]),(158,[some 0,some 1]),(166,[some 0,some 1,some 2,some 3]),(177,[some 0,some 1]),(190,[some 0,some 1]),(200,[some 0,some 4,some 5]),(205,[some 0,some 1,some 2]),(216,[some 0,some 1]),(251,[some 0,some 1]),(256,[some 0,some 1,some 2,some 3]),(282,[some 0,some 1,some 2]),(349,[some 0,some 4])]
def nY:Xn (Nat×Xn (Nat×Nat)):=[(33,[(0,1),(1,1)]),(36,[(0,1),(1,1),(2,2),(4,1)]),(49,[(0,1),(1,1),(2,1),(3,1)]),(61,[(0,1),(1,1),(2,1),(3,1),(4,1),(5,1)]),(84,[(0,1),(1,1),(2,1),(3,1),(4,1),(5,1)]),(88,[(0,1),(1,1),(2,1)]),(91,[(0,1),(1,1),(2,1),(3,1),(4,1),(5,1),(6,1)]),(95,[(0,1),(1,1),(2,1),(3,1)]),(100,[(0,1),(1,1),(2,1)]),(104,[(0,1),(1,1)]),(111,[(0,1),(1,1),(2,1),(3,1),(4,1),(5,1),(6,1),(7,1)]),(116,[(0,1),(1,1)]),(120,[(0,1)]),(126,[(0,1),(1,1)]),(128,[(0,0),(0,2)]),(133,[(0,2),(2,1),(3,2),(5,1),(6,1),(7,4),(11,1),(12,1),(13,1),(14,1),(15,1),(16,1)]),(137,[(0,1),(1,1),(2,1)]),(147,[(0,1),(1,1)]),(154,[(0,0),(0,0),(0,1)]),(156,[(0,0),(0,1),(1,1)]),(158,[(0,1),(1,1)]),(166,[(0,1),(1,1),(2,1),(3,1)]),(177,[(0,1),(1,1)]),(190,[(0,1),(1,1)]),(200,[(0,4),(4,1),(5,1)]),(205,[(0,1),(1,1),(2,1)]),(216,[(0,1),(1,1)]),(251,[(0,1),(1,1)]),(256,[(0,1),(1,1),(2,1),(3,1)]),(282,[(0,1),(1,1),(2,1)]),(349,[(0,4),(4,1)])]
def KA:Xn (Nat×IntKind):=[(3,.i64),(5,.u8),(21,.i32),(23,.u64),(44,.i64),(124,.u32),(131,.u64),(203,.u64),(210,.u8),(220,.i64)]
def dK:Xn (Nat×Nat):=[(22,104),(29,9),(46,158),(47,52),(52,137),(54,61),(65,84),(68,73),(70,44),(73,100),(74,147),(86,177),(92,95),(93,5),(109,143),(118,256),(129,193),(134,107),(143,216),(160,164),(164,166),(198,282),(258,261),(306,41),(308,288),(331,129),(341,131),(346,347)]
def An:Xn (Nat×(Nat×Nat)):=[(130,(4,129)),(362,(24,5))]
def M9:Xn (Nat×Nat):=[(17,392),(30,111),(31,133),(34,49),(89,88),(113,116),(117,120),(136,44),(193,200),(218,156),(224,124),(249,251),(283,249),(312,41),(325,126),(347,349)]
def yx:Xn (Nat×(Nat×Nat)):=[(108,(9,113)),(121,(3,131)),(197,(9,3))]
def yy:Xn (Nat×Unit):=[(20,()),(41,()),(208,()),(261,()),(301,()),(304,()),(305,()),(338,())]
def Ao:Xn (Nat×Unit):=[(9,())]
def ES:Xn (Nat×Unit):=[(1,()),(3,()),(4,()),(5,()),(9,()),(17,()),(21,()),(22,()),(23,()),(24,()),(29,()),(30,()),(31,()),(33,()),(34,()),(36,()),(44,()),(46,()),(47,()),(49,()),(52,()),(54,()),(61,()),(65,()),(68,()),(70,()),(73,()),(74,()),(84,()),(86,()),(88,()),(89,()),(91,()),(92,()),(93,()),(95,()),(100,()),(104,()),(107,()),(108,()),(109,()),(111,()),(113,()),(116,()),(117,()),(118,()),(120,()),(121,()),(123,()),(124,()),(126,()),(128,()),(129,()),(130,()),(131,()),(133,()),(134,()),(136,()),(137,()),(143,()),(147,()),(150,()),(151,()),(152,()),(154,()),(156,()),(158,()),(160,()),(164,()),(166,()),(177,()),(190,()),(193,()),(197,()),(198,()),(200,()),(202,()),(203,()),(205,()),(210,()),(216,()),(218,()),(220,()),(224,()),(249,()),(251,()),(256,()),(258,()),(282,()),(283,()),(288,()),(306,()),(308,()),(312,()),(325,()),(331,()),(341,()),(346,()),(347,()),(349,()),(362,())]
def Na(p:YW)(t:Nat):XB Unit:=match p.underlying t with|some (.interface _)=>none|some _=>some ()|none=>none
def Nc(p:YW)(t:Nat):XB Nat:=(p.info? t).map (·.size)
def G3(p:YW)(t:Nat):XB Nat:=(p.info? t).map (·.bytes)
def SP(p:YW)(t:Nat):XB XN:=match p.underlying t with|some (.struct _)|some (.array _ _)=>some true|some _=>some false|none=>none
def IT(p:YW)(t:Nat):XB (Xn Xp):=((p.info? t).bind (·.zero)).map (·.cells.toList)
def SQ(p:YW)(t:Nat):XB (Xn (XB Nat)):=match p.underlying t with
 | some (.struct F)=>some (F.toList.map λf=>if p.cellsOf f.type=0 then none else some f.offset)
 | _=>none
def G4(p:YW)(t:Nat):XB (Xn (Nat×Nat)):=match p.underlying t with
 | some (.struct F)=>some (F.toList.map λf=>(f.offset,p.cellsOf f.type))
 | _=>none
def SR(p:YW)(t:Nat):XB IntKind:=match p.underlying t with|some (.int k)=>some k|_=>none
def G5(p:YW)(t:Nat):XB Nat:=match p.underlying t with|some (.slice e)=>some e|_=>none
def SS(p:YW)(t:Nat):XB (Nat×Nat):=match p.underlying t with|some (.array n e)=>some (n,e)|_=>none
def SU(p:YW)(t:Nat):XB Nat:=match p.underlying t with|some (.pointer e)=>some e|_=>none
def SV(p:YW)(t:Nat):XB (Nat×Nat):=match p.underlying t with|some (.map k e)=>some (k,e)|_=>none
def G6(p:YW)(t:Nat):XB Unit:=match p.underlying t with|some (.interface _)=>some ()|_=>none
def SW(p:YW)(t:Nat):XB Unit:=match p.underlying t with|some .string=>some ()|_=>none
variable {t:Nat}
def iP {f:Nat->XB α} {l:Xn (Nat×α)} (h:l.map (λp=>f p.1)=l.map λp=>some p.2) {v:α} (k:lk l t=some v):f t=some v:=by
 have b:=CE k;obtain⟨i,H⟩:=Zk.1 b;have a:(l.map λp=>f p.1)[i]?=some (f t):=by simp[H]
 have c:(l.map λp=>some p.2)[i]?=some (some v):=by simp[H]
 rw[h,c]at a;exact(Xt a).symm
def KB:cY.map (λp=>Nc prog p.1)=cY.map (λp=>some p.2):=by kernel_rfl
variable {v:_}
def Nd (h:lk cY t=some v):Nc prog t=some v:=iP KB h
def G7:vz.map (λp=>G3 prog p.1)=vz.map (λp=>some p.2):=by kernel_rfl
def KC (h:lk vz t=some v):G3 prog t=some v:=iP G7 h
def Nf:kV.map (λp=>SP prog p.1)=kV.map (λp=>some p.2):=by kernel_rfl
def Qz (h:lk kV t=some v):SP prog t=some v:=iP Nf h
def KD:kY.map (λp=>IT prog p.1)=kY.map (λp=>some p.2):=by kernel_rfl
def ET (h:lk kY t=some v):IT prog t=some v:=iP KD h
def Ng:Qy.map (λp=>SQ prog p.1)=Qy.map (λp=>some p.2):=by kernel_rfl
def QA (h:lk Qy t=some v):SQ prog t=some v:=iP Ng h
def G8:nY.map (λp=>G4 prog p.1)=nY.map (λp=>some p.2):=by kernel_rfl
def KE (h:lk nY t=some v):G4 prog t=some v:=iP G8 h
def Nh:KA.map (λp=>SR prog p.1)=KA.map (λp=>some p.2):=by kernel_rfl
def QB (h:lk KA t=some v):SR prog t=some v:=iP Nh h
def G9:dK.map (λp=>G5 prog p.1)=dK.map (λp=>some p.2):=by kernel_rfl
def KF (h:lk dK t=some v):G5 prog t=some v:=iP G9 h
def Ni:An.map (λp=>SS prog p.1)=An.map (λp=>some p.2):=by kernel_rfl
def QC (h:lk An t=some v):SS prog t=some v:=iP Ni h
def Nj:M9.map (λp=>SU prog p.1)=M9.map (λp=>some p.2):=by kernel_rfl
def QD (h:lk M9 t=some v):SU prog t=some v:=iP Nj h
def Nk:yx.map (λp=>SV prog p.1)=yx.map (λp=>some p.2):=by kernel_rfl
def QE (h:lk yx t=some v):SV prog t=some v:=iP Nk h
def Ha:yy.map (λp=>G6 prog p.1)=yy.map (λp=>some p.2):=by kernel_rfl
def KG (h:lk yy t=some v):G6 prog t=some v:=iP Ha h
def Nl:Ao.map (λp=>SW prog p.1)=Ao.map (λp=>some p.2):=by kernel_rfl
def QF (h:lk Ao t=some v):SW prog t=some v:=iP Nl h
def KH:ES.map (λp=>Na prog p.1)=ES.map (λp=>some p.2):=by kernel_rfl
def Nn (h:lk ES t=some v):Na prog t=some v:=iP KH h
