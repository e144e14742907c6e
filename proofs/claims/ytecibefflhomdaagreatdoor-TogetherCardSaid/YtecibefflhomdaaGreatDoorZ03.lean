/-
  Part 3: ; ; ; ; .
-/
import Derived.Test.YtecibefflhomdaaGreatDoorZ02
set_option maxHeartbeats 8000000
set_option maxRecDepth 100000
set_option linter.all false
namespace Go.Proofs.YtecibefflhomdaaGreatDoor
open Go
section
open Pure (ad ay Rd bF less aO aU bA aX aA dz dec my gq aB Kp Mm im nB cC kD bB ik Sc Ix mJ)
abbrev Out(α:Type):=XB (YH eX α×ad)
def xR:Nat->Rd->Xn (Bs×Nat×Nat)×XN
 | 0,r=>([],r.bad)
 | f+1,r=>if r.rest≠[]/\r.bad=false then((r.text.1,(r.text.2.num 4).1,((r.text.2.num 4).2.num 4).1)::(xR f ((r.text.2.num 4).2.num 4).2).1,(xR f ((r.text.2.num 4).2.num 4).2).2)else([],r.bad)
def Iz(nm y:Bs):YH eX dB:=
 let a:=Rd.text ⟨y,false⟩
 let b:=a.2.text
 let c:=b.2.num 4
 let p:=xR y.length c.2
 if p.2=true\/p.1=[]then .error (some nm,7)else .ok ⟨nm,a.1,b.1,c.1,p.1⟩
def Sy(D:ad)(nm:Bs)(at_:Nat)(m:Int):Out dB:=match aY D nm with
 | some e=>some (.error e,(counted D m).tick)
 | none=>match bF (kX D nm at_ m)with
  | none=>some (.error (some nm,7),(counted D m).tick)
  | some y=>if(kX D nm at_ m).length<=jJ then some (Iz nm y.1,(counted D m).tick)else none
def UE(D:ad)(nm:Bs):Out dB:=match aY D nm with
 | some e=>some (.error e,D.tick)
 | none=>match aY D.tick nm with
  | some e=>some (.error e,(counted D.tick 20).tick)
  | none=>match bF (kX D.tick nm ((pV D nm:Int)-20) 20)with
   | none=>some (.error (some nm,7),(counted D.tick 20).tick)
   | some z=>if z.1.length≠8 then some (.error (some nm,7),(counted D.tick 20).tick)else
    if pV D nm<my z.1 then some (.error (some nm,7),(counted D.tick 20).tick)else
    Sy (counted D.tick 20).tick nm (my z.1) ((pV D nm:Int)-20-(my z.1:Int))
structure pX where
 memory:Nat
 tables:Nat
deriving DecidableEq
structure St where
 levels:Xn (Xn dB)
 mem:Xn ay
 log:Bs
 seq:Nat
 number:Nat
 snaps:Xn (Int×Nat)
 snap:Nat
def aM:Bs:=[115,116,97,116,101]
def aQ:Bs:=[115,116,97,116,101,46,110,101,119]
def dv(n:Nat):Bs:=[116,97,98,108,101]++dec n
def cJ(n:Nat):Bs:=[108,111,103]++dec n
def DZ(m:Xn Nat)(b:XN)(s:Kp)(e:ay):XB (Kp×XN):=if s.out.length+s.same.length<=jJ then some (nB m b s e,true)else none
def aJ(s:St):Xn Nat:=bO::s.snaps.map (·.2)
def wm(s:St)(D:ad)(nx:Nx)(b:XN):Out (Xn ay):=if 8<s.snaps.length then none else match sd s.mem (DZ (aJ s) b) jJ nx D Mm with
 | none=>none
 | some (k,some e,d)=>if k.out.length+k.same.length<=jJ then some (.error e,d)else none
 | some (k,none,d)=>if k.out.length+k.same.length<=jJ then some (.ok (im b k).out,d)else none
def qe(l:Xn ay):Nat->Nat->Nat
 | 0,n=>n
 | f+1,n=>if n<l.length/\(l.getD n default).key=(l.getD (n-1) default).key then qe l f (n+1)else n
def nW(l:Xn ay):Nat:=qe l l.length (min l.length 95)
def mL:Nat->Nat->ad->Xn ay->Xn dB->Out (Xn dB×Nat)
 | _,num,D,[],acc=>some (.ok (acc,num),D)
 | 0,_,_,_::_,_=>none
 | f+1,num,D,e::r,acc=>if num<=4611686018427387904/\(e::r).length<=jJ/\acc.length<=jJ then match qo D (dv (num+1)) ((e::r).take (nW (e::r)))with
  | none=>none
  | some (.error x,d)=>some (.error x,d)
  | some (.ok T,d)=>mL f (num+1) d ((e::r).drop (nW (e::r))) (acc++[T])else none
inductive P5 where
 | create (n:Bs)
 | append (n b:Bs)
 | sync (n:Bs)
 | rename (a b:Bs)
 | Ct
 | remove (n:Bs)
def eJ(D:ad):P5->XB (XB eX×ad)
 | .create n=>if D.moves.length<=jJ then some (iu D n,cI D n)else none
 | .append n b=>some (dT D n b,bG D n b)
 | .sync n=>some (aY D n,je D n)
 | .rename a b=>if D.moves.length<=jJ then some (aY D a,gU D a b)else none
 | .Ct=>some (if D.eg=true then some (some [],8)else none,fw D)
 | .remove n=>if D.moves.length<=jJ then some (aY D n,fX D n)else none
def eY:Xn P5->ad->XB (XB eX×ad)
 | [],D=>some (none,D)
 | o::r,D=>match eJ D o with
  | none=>none
  | some (some e,d)=>some (some e,d)
  | some (none,d)=>eY r d
def fe:Nat->Xn (Xn dB)->Bs
 | _,[]=>[]
 | i,l::r=>(l.map λT=>UInt8.ofNat i::aX T.name).flatten++fe (i+1) r
def cz(s:St):Bs:=bA s.number 8++bA s.seq 8++aX s.log++fe 0 s.levels
def wq(s:St):XN:=decide (s.number<=4611686018427387904)&&decide (s.seq<=4611686018427387904)&&Nat.ble s.log.length 255&&(s.levels.all λl=>decide (l.length<=1048576)&&l.all λT=>Nat.ble T.name.length 255)
def sG(s:St)(old:XB Bs):Xn P5:=[.create aQ,.append aQ (aA (cz s)),.sync aQ,.rename aQ aM,.Ct]++(match old with|none=>[]|some o=>[.remove o])
def iV(s:St)(D:ad)(n:XN):Out St:=
 if n=true then(if s.number<=4611686018427387904 then match eJ D (.create (cJ (s.number+1)))with
  | none=>none
  | some (some e,a)=>some (.error e,a)
  | some (none,a)=>
   let S:={ s with number:=s.number+1,log:=cJ (s.number+1) }
   if wq S=true then match eY (sG S (if s.log=[]then none else some s.log)) a with
    | none=>none
    | some (some e,d)=>some (.error e,d)
    | some (none,d)=>some (.ok S,d)else none else none)
 else(if wq s=true then match eY (sG s none) D with
  | none=>none
  | some (some e,d)=>some (.error e,d)
  | some (none,d)=>some (.ok s,d)else none)
def gk{α β:Type}(x:Out α)(k:α->ad->Out β):Out β:=match x with
 | none=>none
 | some (.error e,D)=>some (.error e,D)
 | some (.ok a,D)=>k a D
def kT(s:St)(a b:Nat):Xn dB:=((s.levels.take (b+1)).drop a).flatten
def o9(s:St)(b:Nat):XN:=(s.levels.drop (b+1)).all List.isEmpty
def pa(s:St)(D:ad)(a b:Nat):Out St:=
 if(kT s a b).length<=jJ/\s.mem.length<=jJ then
 gk (wm s D (.mg ⟨false,(kT s a b).map λT=>eF T [],[]⟩) (o9 s b)) λl D=>
 gk (mL jJ s.number D l []) λt D=>
 gk (iV { s with number:=t.2,levels:=s.levels.take a++List.replicate (b-a) []++t.1::s.levels.drop (b+1) } D false) λS D=>
 match eY ((kT s a b).map λT=>.remove T.name) D with
  | none=>none
  | some (some e,d)=>some (.error e,d)
  | some (none,d)=>some (.ok S,d)
 else none
def IA(o:pX)(i:Nat)(s:St)(D:ad):Out St:=if o.tables<(s.levels.getD i []).length then pa s D i (i+1)else some (.ok s,D)
def kE(o:pX):Nat->Nat->St->ad->Out St
 | 0,_,s,D=>some (.ok s,D)
 | f+1,i,s,D=>gk (IA o i s D) λs D=>kE o f (i+1) s D
def pd(o:pX)(s:St)(D:ad):Out St:=
 gk (if o.tables<=(s.levels.getD 0 []).length then pa s D 0 1 else some (.ok s,D)) λs D=>kE o 2 1 s D
def sH(o:pX)(s:St)(D:ad):Out St:=if jJ<s.mem.length then none else
 gk (wm s D (.one (jO s.mem [])) false) λl D=>
 gk (mL jJ s.number D l []) λt D=>
 if(s.levels.getD 0 []).length+t.1.length<=jJ then
 gk (iV { s with number:=t.2,levels:=(s.levels.getD 0 []++t.1)::s.levels.drop 1,mem:=[] } D true) λs D=>
 pd o s D else none
def tu(q:Nat)(l:Xn cC):Bs:=bA q 8++((bB q l).map dz).flatten
def eH(s:St)(l:Xn cC):St:={ s with seq:=s.seq+l.length,mem:=(bB s.seq l).foldl gq s.mem }
def mM(o:pX)(s:St)(D:ad)(l:Xn cC)(sync:XN):Out St:=
 if s.seq<=4611686018427387904/\s.mem.length<=1048576 then
 match eJ D (.append s.log (aA (tu s.seq l)))with
 | none=>none
 | some (some e,d)=>some (.error e,d)
 | some (none,a)=>match (if sync=true then eJ a (.sync s.log)else some (none,a))with
  | none=>none
  | some (some e,d)=>some (.error e,d)
  | some (none,b)=>if o.memory<=(eH s l).mem.length then sH o (eH s l) b else some (.ok (eH s l),b)
 else none
def fy(s:St):Xn dB:=(s.levels.getD 0 []).reverse++(s.levels.drop 1).flatten
def D6(h:Bs)(l:Int)(S:Nat)(s:Sc)(e:ay):XB (Sc×XN):=if s.out.length<=jJ then some (mJ h l S s e)else none
def AX(s:St)(D:ad)(L h:Bs)(l:Int)(S:Nat):Out (Xn (Bs×Bs)):=
 if(fy s).length+1<=jJ then
 match sd s.mem (D6 h l S) jJ (.mg ⟨false,jO s.mem L::(fy s).map λT=>eF T L,[]⟩) D Ix with
 | none=>none
 | some (_,some e,d)=>some (.error e,d)
 | some (k,none,d)=>some (.ok k.out,d)else none
open Pure (ad ay Rd bF less aO aU bA aX aA dz dec my gq aB da)
def ll(D:ad)(n:Bs):YH eX Bs×ad:=match aY D n with
 | some e=>(.error e,D.tick)
 | none=>match aY D.tick n with
  | some e=>(.error e,(counted D.tick (pV D n:Int)).tick)
  | none=>(.ok (kX D.tick n 0 (pV D n:Int)),(counted D.tick (pV D n:Int)).tick)
def R4(e:eX):eX:=match e.1 with
 | none=>e
 | some n=>if e.2=10 then(some n,7)else e
def Ms:Nat->ad->Rd->Xn (Xn dB)->Out (Xn (Xn dB)×Rd)
 | 0,_,_,_=>none
 | f+1,D,r,l=>if r.rest≠[]/\r.bad=false then
  match UE D (r.num 1).2.text.1 with
  | none=>none
  | some (.error e,d)=>some (.error (R4 e),d)
  | some (.ok T,d)=>if 4<=(r.num 1).1 then some (.error (some aM,7),d)else
   if(l.getD (r.num 1).1 []).length<=jJ then Ms f d (r.num 1).2.text.2 (l.set (r.num 1).1 (l.getD (r.num 1).1 []++[T]))else none
  else some (.ok (l,r),D)
def D7:Nat->Rd->St->XB (St×XN)
 | 0,_,_=>none
 | f+1,r,s=>if r.rest=[]then some (s,false)else
  if r.entry.2.bad=true then some (s,true)else
  if s.mem.length<=1048576 then D7 f r.entry.2 { s with seq:=r.entry.1.seq,mem:=gq s.mem r.entry.1 }else none
def IB:Nat->Bs->St->XB St
 | 0,_,_=>none
 | f+1,b,s=>match bF b with
  | none=>some s
  | some z=>if(Rd.num ⟨z.1,false⟩ 8).1≠s.seq then some s else
   match D7 (z.1.length+1) (Rd.num ⟨z.1,false⟩ 8).2 s with
   | none=>none
   | some (S,true)=>some S
   | some (S,false)=>IB f z.2 S
def Qk(s:St)(D:ad):Out St:=match ll D s.log with
 | (.error e,d)=>some (.error (R4 e),d)
 | (.ok b,d)=>(IB (b.length+1) b s).map λS=>(.ok S,d)
def uQ:St:=⟨[[],[],[],[]],[],[],0,0,[],0⟩
def wu(D:ad):Out St:=match ll D aM with
 | (.error e,d)=>if e.2=10 then some (.ok uQ,d)else some (.error e,d)
 | (.ok f,d)=>match bF f with
  | none=>some (.error (some aM,7),d)
  | some z=>if z.2≠[]then some (.error (some aM,7),d)else
   let a:=Rd.num ⟨z.1,false⟩ 8
   let b:=a.2.num 8
   let c:=b.2.text
   match Ms (z.1.length+1) d c.2 [[],[],[],[]]with
   | none=>none
   | some (.error e,g)=>some (.error e,g)
   | some (.ok x,g)=>if x.2.bad=true then some (.error (some aM,7),g)else Qk { uQ with number:=a.1,seq:=b.1,log:=c.1,levels:=x.1 } g
def AY(l:Xn Bs):Xn Bs:=l.mergeSort λx y=>decide (x<=y)
def qp(D:ad):Xn Bs:=AY (D.now.map (·.1))
def sI(s:St)(n:Bs):XN:=decide (n=aM)||decide (n=s.log)||s.levels.flatten.any λT=>decide (T.name=n)
def pe(s:St)(D:ad):Out St:=if D.now.length<=jJ then match eY (((qp D).filter λn=>!sI s n).map .remove) D with
 | none=>none
 | some (some e,d)=>some (.error e,d)
 | some (none,d)=>some (.ok s,d)else none
def qu(o:pX)(s:St)(D:ad):Out St:=if 0<s.mem.length then sH o s D else gk (iV s D true) λs D=>pd o s D
def AZ(o:pX)(D:ad):Out St:=gk (wu D) λs D=>gk (pe s D) λs D=>qu o s D
open Pure (ad aB da eO gA df kB eD lb lf gz fc)
def file(D:ad)(n:Bs):XB Bs:=(aB D.now n).map D.aG
structure dU(D D':ad):Prop where
 ok:D'.Ok
 room:D'.room=D.room
 bad:D'.bad<=D.bad
 fits:(D.used:Int)<=D.room->(D'.used:Int)<=D'.room
variable {D:ad}
def dU.refl (h:D.Ok):dU D D:=⟨h,rfl,by grind,id⟩
variable {A B C:ad}
def dU.trans (h:dU A B) (k:dU B C):dU A C:=⟨k.ok,k.room.trans h.room,Int.le_trans k.bad h.bad,λx=>k.fits (h.fits x)⟩
def mN(D:ad)(h:D.Ok):D.tick.bad<=D.bad:=by
 unfold ad.tick
 grind
def dU.tick (h:D.Ok):dU D D.tick:=⟨h.tick,by simp,mN D h,by simp⟩
@[simp] theorem oA(D:ad)(n:Bs):file D.tick n=file D n:=by
 unfold file;have:D.tick.aG=D.aG:=ZQ λi=>Pure.ad.lK D i;simp_all
def uR (h:D.eg=true):0<D.bad:=by
 unfold ad.eg at h;simp at h;exact h.2
variable {n:Bs}
def rm:file D n=none↔aB D.now n=none:=by unfold file;simp
def rn(D:ad)(n:Bs):fileOf D n=(file D n).getD []:=by
 unfold fileOf file;cases aB D.now n<;>rfl
def xS(D:ad)(e:eX):Prop:=e.2=8/\0<D.bad
variable {e:eX}
def sJ (h:aY D n=some e):xS D e\/(e=(some n,10)/\file D n=none):=by
 unfold aY at h;split at h
 .rename_i H;cases h;exact .inl ⟨rfl,uR H⟩
 .split at h
  .rename_i a;cases h;exact .inr ⟨rfl,rm.2 a⟩
  grind
def mO (h:aY D n=none):D.eg=false/\∃i,aB D.now n=some i/\file D n=some (D.aG i):=by
 unfold aY at h;split at h
 .grind
 .rename_i a;split at h
  .grind
  .rename_i i H;exact⟨by grind,i,H,by simp[file,H]⟩
variable {b:Bs}
def ln (a:file D n=some b):aY D n=none\/∃e,aY D n=some e/\xS D e:=by
 cases H:aY D n with
 | none=>exact .inl rfl
 | some e=>
  rcases sJ H with h|⟨_,h⟩
  .grind
  grind
def uS (h:D.Ok) (a:iu D n=none):
 file D n=none/\(∀m,file (cI D n) m=if m=n then some []else file D m)/\(cI D n).used=D.used/\dU D (cI D n)/\(cI D n).moves.length=D.moves.length+1:=by
 unfold iu at a;split at a
 .grind
 .rename_i r;split at a
  .grind
  .rename_i c;have d:aB D.now n=none:=by cases f:aB D.now n with
    | none=>rfl
    | some i=>rw[f]at c;exact XG rfl c
   have s:cI D n=D.tick.created n (fresh D.tick):=by unfold cI;rw[Xx r,Xx c]
   have g:=xP D.tick;have k:aB D.tick.now n=none:=by rw[Pure.ad.dg];exact d
   have l:=h.tick.created g k;have o:(D.tick.created n (fresh D.tick)).used=D.used:=by
    unfold ad.used;have E:(D.tick.created n (fresh D.tick)).now=D.now++[(n,fresh D.tick)]:=by
     show gA D.tick.now _=_;rw[Pure.ad.dg];exact Pure.Iq d _
    rw[E,XK,ZU];have t:D.now.map (λp=>((D.tick.created n (fresh D.tick)).aG p.2).length)=D.now.map λp=>(D.aG p.2).length:=by
     refine Y2 λp u=>?_;have H:p.2≠fresh D.tick:=λv=>by
      have:=h.now p u;simp_all
     simp[ad.aG,ad.created,aB,H]
    rw[t];simp[ad.aG,ad.created,aB]
   rw[s];refine⟨rm.2 d,λm=>?_,o,⟨l,Pure.ad.gu D,mN D h,by rw[o];show _->_<=D.tick.room;rw[Pure.ad.gu];exact id⟩,?_⟩
   .unfold file;show(aB (da D.tick.now n _) m).map _=_;rw[df];by_cases q:m=n
    .subst q;simp[ad.aG,ad.created,aB]
    .simp[q];cases f:aB D.now m with
     | none=>rfl
     | some j=>
      have H:j≠fresh D.tick:=λv=>by
       have:=h.now _ (eD f);simp_all
      simp[ad.aG,ad.created,aB,H]
   .show(D.tick.moves++[_]).length=_;simp
def sK (h:D.Ok) (H:iu D n=some e):
 cI D n=D.tick/\(xS D e\/(e=(some n,11)/\file D n≠none)):=by
 unfold iu at H;unfold cI;split at H
 .rename_i a;cases H;rw[XE a];exact⟨rfl,.inl ⟨rfl,uR a⟩⟩
 .rename_i a;split at H
  .rename_i c;cases H;rw[Xx a,XE c];refine⟨rfl,.inr ⟨rfl,λd=>?_⟩⟩;rw[rm.1 d]at c;cases c
  grind
def A0 (h:D.Ok) {i:Nat} (c:aB D.now n=some i) (x:Bs×Nat) (m:Bs):file (D.laid i x) m=if m=n then some x.1 else file D m:=by
 unfold file;show(aB D.now m).map _=_;by_cases H:m=n
 .subst H;rw[c];simp[ad.aG,ad.laid,df]
 .rw[Xx H];cases d:aB D.now m with
  | none=>rfl
  | some j=>
   have a:j≠i:=λf=>H ((Pure.xg h.names).1 h.ids m n j d (f▸c));simp[ad.aG,ad.laid,df,a]
variable {bs:Bs}
theorem uT (h:D.Ok) (g:dT D n bs=none):
 ∃b,file D n=some b/\(∀m,file (bG D n bs) m=if m=n then some (b++bs)else file D m)/\(bG D n bs).used<=D.used+bs.length/\dU D (bG D n bs)/\(bG D n bs).moves=D.moves/\(D.used:Int)+bs.length<=D.room:=by
 have H:aY D n=none/\(D.used:Int)+bs.length<=D.room:=by
  unfold dT at g
  grind
 have⟨l,o⟩:=H;have⟨_,i,j,a⟩:=mO l;have c:bG D n bs=D.tick.laid i (D.aG i++bs,o8 D i):=by unfold bG;rw[g,j]
 have d:aB D.tick.now n=some i:=by rw[Pure.ad.dg];exact j
 have p:=Pure.ad.mz (x:=(D.aG i++bs,o8 D i)) (i:=i) (k:=bs.length) h.tick (by simp);rw[Pure.ad.ow]at p;have q:=h.room1;have f:(D.tick.laid i (D.aG i++bs,o8 D i)).Ok:=h.tick.laid (by omega);refine⟨_,a,λm=>?_,?_,?_,?_,o⟩
 .rw[c,A0 h.tick d];simp
 .grind
 .rw[c];refine⟨f,Pure.ad.gu D,mN D h,λ_=>?_⟩;show _<=D.tick.room;rw[Pure.ad.gu];omega
 .rw[c];exact Pure.ad.lg D
def sL (h:D.Ok) (H:dT D n bs=some e) (f:file D n=some b):
 bG D n bs=D.tick/\(xS D e\/(e.2=9/\D.room<(D.used:Int)+bs.length)):=by
 have c:bG D n bs=D.tick:=by unfold bG;rw[H]
 refine⟨c,?_⟩;unfold dT at H;split at H
 .rename_i E a;cases H;rcases sJ a with d|⟨_,d⟩
  .grind
  grind
 .grind
theorem xU (h:D.Ok) (n:Bs):(∀m,file (je D n) m=file D m)/\(je D n).used<=D.used/\dU D (je D n)/\(je D n).moves=D.moves:=by
 unfold je jd;cases d:aY D n with
 | some e=>exact⟨λm=>oA D m,by simp,dU.tick h,by simp⟩
 | none=>
  have⟨_,i,a,f⟩:=mO d;simp[a];have H:aB D.tick.now n=some i:=by rw[Pure.ad.dg];exact a
  have c:=Pure.ad.mz (x:=(D.aG i,(D.aG i).length)) (i:=i) (k:=0) h.tick (by simp);rw[Pure.ad.ow]at c;refine⟨λm=>?_,c,⟨h.tick.laid (by have:=h.used;omega),Pure.ad.gu D,mN D h,λg=>?_⟩,Pure.ad.lg D⟩
  .rw[A0 h.tick H,oA]
   grind
  .show _<=D.tick.room;rw[Pure.ad.gu];omega
theorem A1 (h:D.Ok) (d:aY D n=none):
 (∀m,file (fX D n) m=if m=n then none else file D m)/\(fX D n).used+(fileOf D n).length=D.used/\dU D (fX D n)/\(fX D n).moves.length=D.moves.length+1:=by
 have⟨_,i,a,g⟩:=mO d;have j:fX D n=D.tick.gS n:=by unfold fX jd;rw[d,a]
 have f:=Pure.tb (λi=>(D.aG i).length) D.now n;rw[a]at f;have e:(D.tick.gS n).used=((eO D.now n).map λp=>(D.aG p.2).length).sum:=by
  show((eO D.tick.now n).map λp=>(D.tick.aG p.2).length).sum=_;simp_all
 have c:fileOf D n=D.aG i:=by unfold fileOf;rw[a]
 have H:(D.tick.gS n).used+(fileOf D n).length=D.used:=by rw[e,c];exact f
 rw[j];refine⟨λm=>?_,H,⟨h.tick.gS n,Pure.ad.gu D,mN D h,λk=>?_⟩,?_⟩
 .unfold file;show(aB (eO D.tick.now n) m).map D.tick.aG=_;rw[Pure.ad.dg,kB _ _ h.names];have:D.tick.aG=D.aG:=ZQ λi=>Pure.ad.lK D i
  grind
 .show _<=D.tick.room;rw[Pure.ad.gu];omega
 .show(D.tick.moves++[_]).length=_;simp
def xV (h:aY D n=some e):fX D n=D.tick:=by unfold fX jd;rw[h]
variable {a:Bs}
theorem J1 (h:D.Ok) (c:a≠b) (k:aY D a=none):
 (∀m,file (gU D a b) m=if m=a then none else if m=b then file D a else file D m)/\(gU D a b).used+(fileOf D b).length=D.used/\dU D (gU D a b)/\(gU D a b).moves.length=D.moves.length+1:=by
 have⟨_,i,d,o⟩:=mO k;have q:gU D a b=D.tick.renamed a b i:=by unfold gU jd;rw[k,d];simp[c]
 have f:aB D.tick.now a=some i:=by rw[Pure.ad.dg];exact d
 have t:=Pure.Cj (λi=>(D.aG i).length) D.now b i;have l:=Pure.tb (λi=>(D.aG i).length) (da D.now b i) a;have r:aB (da D.now b i) a=some i:=by rw[df];simp[d]
 rw[r]at l;have e:(D.tick.renamed a b i).used=((eO (da D.now b i) a).map λp=>(D.aG p.2).length).sum:=by
  show((eO _ a).map λp=>(D.tick.aG p.2).length).sum=_;simp_all
 have g:(fileOf D b).length=Pure.opt (λi=>(D.aG i).length) (aB D.now b):=by
  unfold fileOf;cases aB D.now b<;>rfl
 have H:(D.tick.renamed a b i).used+(fileOf D b).length=D.used:=by
  rw[e,g];have s:((eO _ a).map λp=>(D.aG p.2).length).sum+(D.aG i).length=((da D.now b i).map λp=>(D.aG p.2).length).sum:=l;unfold ad.used;omega
 rw[q];have j:=h.tick.renamed c f;refine⟨λm=>?_,H,⟨j,Pure.ad.gu D,mN D h,λu=>?_⟩,?_⟩
 .unfold file;show(aB (eO _ a) m).map D.tick.aG=_;have:D.tick.aG=D.aG:=ZQ λi=>Pure.ad.lK D i;rw[Pure.ad.dg,kB _ _ (lb h.names b i),df,this]
  grind
 .show _<=D.tick.room;rw[Pure.ad.gu];omega
 .show(D.tick.moves++[_]).length=_;simp
def GF (h:aY D a=some e):gU D a b=D.tick:=by unfold gU jd;rw[h]
def D8 (h:D.Ok):(∀m,file (fw D) m=file D m)/\(fw D).used=D.used/\dU D (fw D)/\(fw D).moves.length<=D.moves.length/\(D.eg=false->(fw D).moves=[]):=by
 unfold fw;by_cases H:D.eg=true
 .rw[XE H];exact⟨λm=>oA D m,by simp,dU.tick h,by simp,λc=>by grind⟩
 .rw[Xx H];have d:D.tick.synced.used=D.used:=Pure.ad.ow D;refine⟨λm=>oA D m,d,⟨h.tick.synced,Pure.ad.gu D,mN D h,λc=>?_⟩,by simp[ad.synced],λ_=>rfl⟩;show _<=D.tick.room;simp_all
structure eZ(D D':ad):Prop where
 later:dU D D'
 file:∀m,file D' m=file D m
 used:D'.used=D.used
 moves:D'.moves=D.moves
def eZ.refl (h:D.Ok):eZ D D:=⟨dU.refl h,λ_=>rfl,rfl,rfl⟩
def eZ.trans (h:eZ A B) (k:eZ B C):eZ A C:=⟨h.later.trans k.later,λm=>(k.file m).trans (h.file m),k.used.trans h.used,k.moves.trans h.moves⟩
def eZ.tick (h:D.Ok):eZ D D.tick:=⟨dU.tick h,λm=>oA D m,by simp,by simp⟩
def eZ.counted (h:D.Ok) (n:Int):eZ D (counted D n):=
 ⟨⟨⟨h.now,h.safe,h.moves,h.names,h.ids,h.room0,h.room1,h.wait0,h.wait1,h.bad0,h.bad1,h.used,h.short⟩,rfl,Int.le_refl _,id⟩,λ_=>rfl,rfl,rfl⟩
def eZ.read (h:D.Ok) (n:Int):eZ D (YtecibefflhomdaaGreatDoor.counted D n).tick:=(eZ.counted h n).trans (eZ.tick (eZ.counted h n).later.ok)
variable {D':ad}
def xS.before (h:dU D D') (k:xS D' e):xS D e:=⟨k.1,Int.lt_of_lt_of_le k.2 h.bad⟩
open Pure
def iq(c:Xn ay):Bs:=(c.map dz).flatten
def mP(c:Xn ay):Bs:=aA (iq c)
def bP:Nat->Xn (Xn ay)->Xn (Bs×Nat×Nat)
 | _,[]=>[]
 | a,c::r=>(eG c,a,(mP c).length)::bP (a+(mP c).length) r
def bN(cs:Xn (Xn ay)):Bs:=(cs.map mP).flatten
abbrev Ah(a b:Xn ay):Prop:=∀x∈a,∀y∈b,aO x.key y.key=true
def fB(l:Xn ay)(cs:Xn (Xn ay)):Bs:=bN cs++aA (jP (eG l) (jQ l) l.length (bP 0 cs))++aA (bA (bN cs).length 8)
@[simp] theorem Uj:iq []=[]:=rfl
def J2(a b:Xn ay):iq (a++b)=iq a++iq b:=by simp[iq]
variable {c:Xn ay}
def oB (h:∀e∈c,qm e):(iq c).length<=34*c.length:=by
 induction c with
 | nil=>simp
 | cons e r i=>
  have d:=Iw (h e XC);have H:=i λx f=>h x (by grind);simp[iq]at H |-;omega
def qv:∀(A B:Xn (Xn ay)) (a:Nat),bP a (A++B)=bP a A++bP (a+(bN A).length) B
 | [],B,a=>rfl
 | c::A,B,a=>by
  simp[bP,qv A B];simp[bN,Y6]
@[simp] theorem jf:∀(A:Xn (Xn ay)) (a:Nat),(bP a A).length=A.length
 | [],_=>rfl
 | c::A,a=>by simp[bP,jf A]
def A2(A B:Xn (Xn ay)):bN (A++B)=bN A++bN B:=by simp[bN]
def oC:∀{cs:Xn (Xn ay)},(∀c∈cs,c≠[])->(∀e∈cs.flatten,qm e)->(bN cs).length<=46*cs.flatten.length
 | [],_,_=>by simp[bN]
 | c::r,H,h=>by
  have i:=oB (c:=c) λe d=>h e (by grind);have f:=oC (λx g=>H x (XQ _ g)) λe d=>h e (by grind);have j:=Yi.2 (H c XC);simp[bN,mP]at f |-;omega
def mB:∀{cs:Xn (Xn ay)},(∀c∈cs,c≠[])->cs.length<=cs.flatten.length
 | [],_=>XD _
 | c::r,h=>by
  have d:=mB λx H=>h x (XQ _ H);have f:=Yi.2 (h c XC)
  grind
def VU(c:Xn ay):Prop:=∃a b,c=a++b/\(iq a).length<300/\∀x∈b,∀y∈b,x.key=y.key
structure GG(l:Xn ay)(dn:Xn (Xn ay))(cur:Xn ay)(s:Wr):Prop where
 file:s.file=bN dn
 inb:s.inb=iq cur
 blocks:s.blocks=bP 0 dn
 first:if cur=[]then dn=[]/\s.first=eG l else s.first=eG cur
 ne:∀c∈dn,c≠[]
 sep:(dn++[cur]).Pairwise Ah
 size:∀c∈dn++[cur],VU c
def Mt{e:ay}(h:qm e):DY e=true:=by
 have d:=h.key;unfold DY;cases H:e.del with
 | true=>simp;omega
 | false=>have:=h.val H;simp;omega
variable {l:Xn ay}
def xW {dn:Xn (Xn ay)} {d:Xn ay} {s:Wr} (h:GG l dn d s) (H:jJ=1099511627776) (g:d≠[]) (h1:(iq d).length<=1048576) (i:(bN dn).length<=1099511627776) (j:dn.length<=1099511627776):
 mK s=some ⟨bN (dn++[d]),[],s.first,bP 0 (dn++[d])⟩:=by
 have f:=h.first;rw[Xx g]at f;unfold mK;rw[XE ⟨by rw[h.inb];exact h1,by rw[h.file,H];exact i,by rw[h.blocks,jf,H];exact j⟩,A2,qv,h.file,h.inb,h.blocks,f];simp[bN,mP,bP]
def uU (F:iz l) (O:∀e∈l,qm e) (hn:l.length<=10000):∀(r p:Xn ay) (dn:Xn (Xn ay)) (cur:Xn ay) (s:Wr),l=p++r->p=dn.flatten++cur->GG l dn cur s ->
 ∃i d S,nV l p.length r s=some S/\l=i.flatten++d/\GG l i d S/\(l≠[]->d≠[]\/(r=[]/\d=cur))
 | [],p,dn,cur,s,o,q,h=>⟨dn,cur,s,rfl,by rw[o,q];simp,h,λ_=>.inr ⟨rfl,rfl⟩⟩
 | e::r,p,dn,cur,s,o,q,h=>by
  have he:e∈l:=by rw[o];simp
  have P:dn.flatten.length+cur.length+(e::r).length=l.length:=by rw[o,q];simp only[Xu]
  simp only[X5]at P;have Z:∀x∈dn.flatten,qm x:=λx H=>O x (by rw[o,q];simp only[Xy];exact .inl (.inl H));have aa:∀x∈cur,qm x:=λx H=>O x (by rw[o,q];simp only[Xy];exact .inl (.inr H));have ai:=oC h.ne Z;have al:=oB aa;have am:=mB h.ne;have Q:s.inb.length<=1048576:=by rw[h.inb];omega
  have keep:∀(t:cur≠[]\/dn=[]) (R:VU (cur++[e])),∃i d S,nV l (p.length+1) r { s with inb:=s.inb++dz e }=some S/\l=i.flatten++d/\GG l i d S/\(l≠[]->d≠[]\/(e::r=[]/\d=cur)):=by
   intro t R;have hw:GG l dn (cur++[e]) { s with inb:=s.inb++dz e }:=by
    refine⟨h.file,by simp[h.inb,iq],h.blocks,?_,h.ne,?_,λc f=>?_⟩
    .rw[Xx (by simp)];have G:=h.first;by_cases f:cur=[]
     .rw[XE f]at G;show s.first=_;rw[G.2,o,q,G.1,f];rfl
     .rw[Xx f]at G;show s.first=_;rw[G];cases cur with
      | nil=>exact XG rfl f
      | cons c r=>rfl
    .have m:=h.sep;rw[X7]at m |-;refine⟨m.1,by simp,λa v b J x H y j=>?_⟩;simp at J;subst J;rcases Xy.1 j with j|j
     .exact m.2.2 a v cur (by simp) x H y j
     .simp at j;subst j;rcases t with t|t
      .obtain⟨z,I⟩:=List.exists_mem_of_ne_nil _ t;have M:=m.2.2 a v cur (by simp) x H z I;have K:less z y=true:=by
        rw[o,q]at F;exact(X7.1 F).2.2 z (by simp only[Xy];exact .inr I) y (by simp)
       rcases bZ.1 K with u|u
       .exact dR M u
       .rw[<- u.1];exact M
      .rw[t]at v;cases v
    .rcases Xy.1 f with f|f
     .exact h.size c (Ye _ f)
     .rw[YV.1 f];exact R
   obtain⟨i,d,S,M,K,u,h4⟩:=uU F O hn r (p++[e]) dn (cur++[e]) _ (by rw[o];simp) (by rw[q];simp) hw;rw[Xu,ZY]at M
   grind
  unfold nV stepW;rw[XE ⟨Q,Mt (O e he)⟩];by_cases g:300<=s.inb.length
  .rw[XE g];have f:cur≠[]:=by intro f;rw[h.inb,f]at g;simp at g
   obtain⟨z,I⟩:∃z,cur.getLast?=some z:=by
    cases T:cur.getLast? with
    | none=>exact XG (aab.1 T) f
    | some z=>exact⟨z,rfl⟩
   have ab:z∈cur:=ZH I;have L:p.getLast?=some z:=by rw[q,aaz,I];rfl
   have U:0<p.length:=by rw[q,Xu];have:=Yi.2 f;omega
   have ac:l[p.length-1]?=some z:=by
    rw[o,XH (by omega),<- aaY,L]
   rw[ac];dsimp only;by_cases E:e.key=z.key
   .rw[XE E];refine keep (.inl f) ?_;obtain⟨a,b,Y,e2,e3⟩:=h.size cur (Yl _ XC);have af:b≠[]:=λJ=>by rw[J,Yj]at Y;rw[h.inb,Y]at g;omega
    have ag:z∈b:=by
     rw[Y,aaz]at I;cases T:b.getLast? with
     | none=>exact XG (aab.1 T) af
     | some y=>rw[T]at I;cases I;exact ZH T
    refine⟨a,b++[e],by rw[Y,XS],e2,λx H y j=>?_⟩;have V:∀x∈b++[e],x.key=z.key:=λx H=>by
     rcases Xy.1 H with H|H
     .exact e3 x H z ag
     .rw[YV.1 H];exact E
    rw[V x H,V y j]
   .rw[Xx E,xW h bC f (by rw[<- h.inb];exact Q) (by omega) (by omega)];dsimp only[Option.map_some,List.nil_append];have w:aO z.key e.key=true:=by
     have K:less z e=true:=by
      rw[o,q]at F;exact(X7.1 F).2.2 z (by simp only[Xy];exact .inr ab) e (by simp)
     rcases bZ.1 K with u|u
     .exact u
     .exact XG u.1.symm E
    have W:∀x∈p,aO x.key e.key=true:=by
     intro x H;obtain⟨a,rfl⟩:∃a,p=a++[z]:=by
      refine⟨p.dropLast,?_⟩;have X:p≠[]:=by intro N;rw[N]at U;simp at U
      rw[Zo X]at L;rw[<- Xt L];exact(Y7 X).symm
     rcases Xy.1 H with H|H
     .have K:less x z=true:=by
       rw[o,XS]at F;exact(X7.1 F).2.2 x H z (by simp)
      rcases bZ.1 K with u|u
      .exact dR u w
      .rw[u.1];exact w
     .simp at H;subst H;exact w
    have hw:GG l (dn++[cur]) [e] ⟨bN (dn++[cur]),dz e,e.key,bP 0 (dn++[cur])⟩:=by
     refine⟨rfl,by simp[iq],rfl,by rw[Xx (by simp)];rfl,?_,?_,λc k=>?_⟩
     .intro c k;rcases Xy.1 k with N|N
      .exact h.ne c N
      .simp at N;subst N;exact f
     .rw[X7];refine⟨h.sep,by simp,λa v b J x H y j=>?_⟩;simp at J;subst J;simp at j;subst j;refine W x ?_;rw[q];rcases Xy.1 v with v|v
      .simp only[Xy];exact .inl (YZ.2 ⟨a,v,H⟩)
      .simp at v;subst v;simp only[Xy];exact .inr H
     .rcases Xy.1 k with k|k
      .exact h.size c k
      .rw[YV.1 k];exact⟨[],[e],rfl,by simp,λx H y j=>by rw[YV.1 H,YV.1 j]⟩
    obtain⟨i,d,S,M,K,u,h4⟩:=uU F O hn r (p++[e]) (dn++[cur]) [e] _ (by rw[o];simp) (by rw[q];simp) hw;rw[Xu,ZY]at M
    grind
  .rw[Xx g];refine keep ?_ ⟨cur,[e],rfl,by rw[<- h.inb];omega,λx H y j=>by rw[YV.1 H,YV.1 j]⟩;by_cases f:cur=[]
   .have G:=h.first;rw[XE f]at G;exact .inr G.1
   .exact .inl f
def lE:∀{cs:Xn (Xn ay)} {a A:Nat},(∀c∈cs,c≠[])->(∀e∈cs.flatten,qm e)->a+(bN cs).length<=A->∀b∈bP a cs,b.1.length<=8/\b.2.1<=A/\b.2.2<=A
 | [],_,_,_,_,_,b,H=>by cases H
 | c::r,a,A,d,h,f,b,H=>by
  simp only[bN,XP,Yd,Xu]at f;rcases XW.1 H with rfl|H
  .refine⟨?_,by grind,by grind⟩;obtain⟨e,R,rfl⟩:=Z4 (d c XC);exact(h e (by simp)).key
  .exact lE (λx g=>d x (by grind)) (λe i=>h e (by grind)) (by simp only[bN];omega) b H
def Ql (K:iz l) (g:∀e∈l,qm e) (L:l.length<=10000) (k:l≠[]):
 ∃i:Xn (Xn ay),i.flatten=l/\(∀c∈i,c≠[])/\i.Pairwise Ah/\(∀c∈i,VU c)/\J0 l=some (fB l i,bP 0 i):=by
 obtain⟨E,r0,rfl⟩:=Z4 k;obtain⟨z,p⟩:∃z,(E::r0).getLast?=some z:=by
  cases M:(E::r0).getLast? with
  | none=>exact XG (aab.1 M) k
  | some z=>exact⟨z,rfl⟩
 have N:GG (E::r0) [] [] ⟨[],[],E.key,[]⟩:=⟨rfl,rfl,rfl,by simp[eG],by simp,by simp,λc q=>by rw[YV.1 q];exact⟨[],[],rfl,by simp,by simp⟩⟩;obtain⟨dn,d,s,F,G,j,U⟩:=uU K g L (E::r0) [] [] [] _ rfl rfl N;have q:d≠[]:=by
  grind
 have I:dn.flatten.length+d.length=(E::r0).length:=by grind
 have r:=λx m=>g x (by rw[G];exact Ye _ m);have t:=λx m=>g x (by rw[G];exact Yl _ m);have O:=oC j.ne r;have P:=oB t;have Q:=mB j.ne;have h:∀c∈dn++[d],c≠[]:=λc u=>by
  rcases Xy.1 u with J|J
  .exact j.ne c J
  grind
 have H:(dn++[d]).flatten=E::r0:=by grind
 have o:=λx m=>g x (by rw[<- H];exact m);have v:=oC h o;have w:=mB h;rw[H]at v w;have R:=(g z (ZH p)).key;have S:=(g E XC).key;refine⟨dn++[d],H,h,j.sep,j.size,?_⟩;have f:jQ (E::r0)=z.key:=by unfold jQ;rw[p]
 have y:=lE (a:=0) (A:=460000) h o (by omega);unfold J0;rw[p];dsimp only;simp at F;rw[F,abb,xW j bC q (by omega) (by omega) (by omega)];dsimp only;rw[XE]
 .unfold fB;rw[f];rfl
 .refine⟨by rw[bC];omega,by rw[jf];omega,by omega,X4.2 λb T=>?_,by omega,by omega⟩;obtain⟨V,W,X⟩:=y b T;simp only[Yp,aae,bC];omega
def xX:∀(c:Xn ay) (f:Nat),(∀e∈c,qm e)->c.length<=f->fx f ⟨iq c,false⟩=(c.map bX,false)
 | [],0,_,_=>rfl
 | [],f+1,_,_=>rfl
 | e::c,0,_,h=>by grind
 | e::c,f+1,H,h=>by
  have d:iq (e::c)=dz e++iq c:=rfl;rw[fx,d,XE ⟨Ml e _ rfl,rfl⟩,JS (by grind),xX c f (λx g=>H x (by grind)) (by grind)];rfl
def D9(c:Xn ay):c.length<=(iq c).length:=by
 induction c with
 | nil=>simp
 | cons e r i=>
  have:=DL e;simp[iq]at i |-;omega
def GH {nm:Bs} {rest:Bs} (h:bF bs=some (iq c,rest)) (H:bs.length<=1099511627776) (d:∀e∈c,qm e):xQ nm bs=some (.ok (c.map bX)):=by
 rw[xQ,h];dsimp only;rw[XE (by rw[bC];exact H),xX c _ d (D9 c)];simp
theorem uW(a b c:Bs):iL (a++b++c) (a.length:Int) (b.length:Int)=b:=by
 have h:(min (max (a.length:Int) 0) ((a++b++c).length:Int)).toNat=a.length:=by grind
 have H:(min (max (b.length:Int) 0) (((a++b++c).length:Int)-min (max (a.length:Int) 0) ((a++b++c).length:Int))).toNat=b.length:=by grind
 unfold iL
 grind
def J3(A B:Xn (Xn ay))(c:Xn ay)(a:Nat):(bP a (A++c::B))[A.length]?=some (eG c,a+(bN A).length,(mP c).length):=by
 rw[qv,Yr (by simp)];simp[bP]
def Ea(C:Prop)(D:ad)(e:eX):Prop:=xS D e\/(C/\e.2=7)
def Ea.before {C:Prop} (h:dU D D') (k:Ea C D' e):Ea C D e:=k.imp (λk=>k.before h) id
def IC(nm f:Bs):XB (YH eX dB):=match bF (iL f ((f.length:Int)-20) 20)with
 | none=>some (.error (some nm,7))
 | some z=>if z.1.length≠8 then some (.error (some nm,7))else if f.length<my z.1 then some (.error (some nm,7))else
  match bF (iL f (my z.1:Int) ((f.length:Int)-20-(my z.1:Int)))with
  | none=>some (.error (some nm,7))
  | some y=>if(iL f (my z.1:Int) ((f.length:Int)-20-(my z.1:Int))).length<=jJ then some (Iz nm y.1)else none
def Mv (h:aY D n=none) (H:file D n=some b) (a k:Int):kX D n a k=iL b a k:=by
 unfold kX;rw[h,rn,H];rfl
structure rW(C:Prop)(f:Bs)(T:dB)(l:Xn ay)(cs:Xn (Xn ay)):Prop where
 flat:cs.flatten=l
 ne:∀c∈cs,c≠[]
 sep:cs.Pairwise Ah
 some:l≠[]
 srt:iz l
 ents:∀e∈l,qm e/\bX e=e
 JZ:T=⟨T.name,eG l,jQ l,l.length,bP 0 cs⟩
 lay:C\/f=fB l cs
 head:IC T.name f=Option.some (.ok T)\/(C/\IC T.name f=Option.some (.error (Option.some T.name,7)))
 small:f.length<=130*l.length
 count:l.length<=99
 size:∀c∈cs,(mP c).length<=512
 blk:∀A c B,cs=A++c::B->bF (iL f ((bN A).length:Int) ((mP c).length:Int))=Option.some (iq c,[])\/(C/\bF (iL f ((bN A).length:Int) ((mP c).length:Int))=none)
section
variable{C:Prop}{D:ad}{f:Bs}{T:dB}{l:Xn ay}{cs:Xn (Xn ay)}
def Mw(f:Bs)(a n:Int):(iL f a n).length<=f.length:=by
 simp[iL];omega
variable {c:Xn ay}
def Eb (h:∀e∈c,bX e=e):c.map bX=c:=by
 induction c with
 | nil=>rfl
 | cons e r i=>rw[XP,h e XC,i λx H=>h x (by grind)]
def J4 (h:rW C f T l cs) (r:D.Ok) (k:file D T.name=some f) {A B:Xn (Xn ay)} (i:cs=A++c::B):
 ∃x,AW D T A.length=some (x,(counted D ((mP c).length:Int)).tick)/\(x=.ok c\/∃e,x=.error e/\Ea C D e):=by
 have m:T.blocks[A.length]?=some (eG c,(bN A).length,(mP c).length):=by
  rw[h.JZ,i];have:=J3 A B c 0;rw[X0]at this;exact this
 have H:∀e∈c,e∈l:=λe d=>by rw[<- h.flat,i];simp;exact .inr (.inl d)
 unfold AW;rw[m];dsimp only;rcases ln k with g|⟨e,g,o⟩
 .rw[g,Mv g k];have p:=Mw f ((bN A).length:Int) ((mP c).length:Int);have s:=h.small;have t:=h.count;rcases h.blk A c B i with j|⟨q,j⟩
  .rw[GH j (by omega) λe d=>(h.ents e (H e d)).1,Eb λe d=>(h.ents e (H e d)).2]
   grind
  .rw[xQ,j];exact⟨_,rfl,.inr ⟨_,rfl,.inr ⟨q,rfl⟩⟩⟩
 .rw[g];exact⟨_,rfl,.inr ⟨e,rfl,.inl o⟩⟩
def ID(key:Bs):∀(cs:Xn (Xn ay)) (d:Xn ay) (a:Nat),iz (d::cs).flatten->(∀c∈d::cs,c≠[])->(d::cs).Pairwise Ah ->
 ∃A c B,d::cs=A++c::B/\A.length=DW key (bP a cs)/\(∀x∈A.flatten,aO x.key key=true)/\∀y∈B.flatten,aO key y.key=true
 | [],d,a,_,_,_=>⟨[],d,[],rfl,rfl,by simp,by simp⟩
 | c1::cs,d,a,o,p,q=>by
  obtain⟨E,R,h⟩:=Z4 (p c1 (by simp));have H:eG c1=E.key:=by rw[h];rfl
  unfold bP DW;by_cases g:aO key (eG c1)=true
  .rw[XE g];refine⟨[],d,c1::cs,rfl,rfl,by simp,λy j=>?_⟩;have i:=(X7.1 o).2.1;rw[Yd,h,List.cons_append]at i j;rw[H]at g;rcases XW.1 j with rfl|j
   .omega
   .rcases bZ.1 ((X1.1 i).1 y j)with m|m
    .exact dR g m
    grind
  .rw[Xx g];obtain⟨A,c,B,m,t,u,r⟩:=ID key cs c1 (a+(mP c1).length) (X7.1 o).2.1 (λc s=>p c (XQ _ s)) (X1.1 q).2;refine⟨d::A,c,B,by grind,by grind,λx k=>?_,r⟩;rcases Xy.1 k with k|k
   .rw[H]at g;exact sD ((X1.1 q).1 c1 (by simp) x k E (by grind)) (by grind)
   grind
def J5(h:rW C f T l cs)(key:Bs):∃A c B,cs=A++c::B/\A.length=nT T key/\(∀x∈A.flatten,aO x.key key=true)/\∀y∈B.flatten,aO key y.key=true:=by
 cases H:cs with
 | nil=>exact XG (by rw[<- h.flat,H];rfl) h.some
 | cons j r=>
  have d:=h.srt;rw[<- h.flat,H]at d;have g:=h.ne;rw[H]at g;have i:=h.sep;rw[H]at i;obtain⟨A,c,B,E,k,m,o⟩:=ID key r j _ d g i;refine⟨A,c,B,E,?_,m,o⟩;rw[k];unfold nT;rw[h.JZ,H];rfl
def gX(key:Bs)(l:Xn ay):Xn ay:=l.filter λe=>!aO e.key key
theorem uX(h:rW C f T l cs)(key:Bs):∀(fuel:Nat) (D:ad) (i:Nat) (d:Xn ay),D.Ok->file D T.name=some f->i<=cs.length->d.length+(cs.drop i).flatten.length+2*(cs.length-i)+1<=fuel ->
 ∃x D',oz T key fuel D i d=some (x,D')/\eZ D D'/\((∃e,x=.error e/\Ea C D e)\/∃o I g,x=.ok (o,I,g)/\I<=cs.length/\g.length+(cs.drop I).flatten.length<=d.length+(cs.drop i).flatten.length/\o=(gX key (d++(cs.drop i).flatten)).head?/\gX key (g++(cs.drop I).flatten)=(gX key (d++(cs.drop i).flatten)).tail)
 | 0,D,i,d,j,m,k,H=>by omega
 | fuel+1,D,i,[],j,m,k,H=>by
  unfold oz;have F:T.blocks.length=cs.length:=by rw[h.JZ];simp
  by_cases v:i=T.blocks.length
  .rw[XE v];refine⟨_,_,rfl,eZ.refl j,.inr ⟨none,i,[],rfl,k,by simp,?_,?_⟩⟩
   .rw[Ym (by omega)];rfl
   .rw[Ym (by omega)];rfl
  .rw[Xx v];have p:i<cs.length:=by omega
   have t:cs=cs.take i++cs[i]::cs.drop (i+1):=by rw[<- XX p,X9]
   obtain⟨x,w,G⟩:=J4 h j m t;rw[Yb,Zi k]at w;rw[w];have u:(cs.drop i).flatten=cs[i]++(cs.drop (i+1)).flatten:=by rw[XX p,Yd]
   rcases G with rfl|⟨e,rfl,J⟩
   .have s:=eZ.read j ((mP cs[i]).length:Int);have L:(cs.drop i).flatten.length=cs[i].length+(cs.drop (i+1)).flatten.length:=by rw[u,Xu]
    obtain⟨x,D',y,z,K⟩:=uX h key fuel _ (i+1) cs[i] s.later.ok (by rw[s.file];exact m) (by omega) (by simp only[List.length_nil]at H;omega);refine⟨x,D',y,s.trans z,?_⟩;rcases K with⟨e,K,E⟩|⟨o,I,g,K,E,M,N,O⟩
    .exact .inl ⟨e,K,E.before s.later⟩
    grind
   .exact⟨_,_,rfl,eZ.read j _,.inl ⟨e,rfl,J⟩⟩
 | fuel+1,D,i,e::d,j,m,k,H=>by
  unfold oz;by_cases r:aO e.key key=true
  .rw[XE r];obtain⟨x,D',y,z,K⟩:=uX h key fuel D i d j m k (by simp only[X5]at H;omega);have q:gX key (e::d++(cs.drop i).flatten)=gX key (d++(cs.drop i).flatten):=by
    unfold gX;rw[List.cons_append,Yg,Xx (by simp[r])]
   grind
  .rw[Xx r];have q:gX key (e::d++(cs.drop i).flatten)=e::gX key (d++(cs.drop i).flatten):=by
    unfold gX;rw[List.cons_append,Yg,XE (by simpa using r)]
   refine⟨_,_,rfl,eZ.refl j,.inr ⟨some e,i,d,rfl,k,by simp only[X5];omega,?_,?_⟩⟩
   .rw[q];rfl
   grind
