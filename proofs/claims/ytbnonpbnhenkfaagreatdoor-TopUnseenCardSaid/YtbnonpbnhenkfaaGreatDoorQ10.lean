/- Part 10 -/
import Derived.Test.YtbnonpbnhenkfaaGreatDoorQ09
import Derived.Maps.Range
import Derived.RangeFuncSeq
import Derived.OwnWalkIn
import Derived.Below
import Derived.RangeFuncBox
import Derived.RangeFuncLeaves
import Derived.RangeFuncNested
import Derived.RangeFuncWrites
import Derived.TacticsInMore
import Derived.LoopNIn
import Derived.LoopIn
import Derived.Maps.AppendAt
import Derived.Sort.CutIn
import Derived.Sort.MapsRangeIn
import Derived.RegionIn
import Derived.Deep.Onto
import Derived.Sort.AssemblyPlain
import Derived.Sort.LotD4
import Derived.Laws.Bits64b
import Derived.Sort.LotD3
import Derived.Sort.LotC
set_option linter.all false
set_option maxRecDepth 1000000
set_option maxHeartbeats 8000000
namespace Go.Proofs.YtbnonpbnhenkfaaGreatDoor
section
open Go.RowKit Go.Proofs.Tryz
def afU(c:cP):c.put.size<=20:=by
 unfold cP.put;rw[cD];have h1:=cv (aG c.kind);have h2:=cv c.n;omega
theorem RZ{t:cr}(h1:t.aD.size<=32)(h2:t.bY.length<=8)(d:t.gY.size<=32):t.put.size<=1000:=by
 unfold cr.put;cases t.nO
 ·show aA.size<=_;rw[vy];omega
 show t.bytes.size<=_
 unfold cr.bytes;rw[cD];have e:=gh t.aD;have b:=cv (aG (t.bY.length:Nat));have a:=jV (f:=fZ) (B:=20) (l:=t.bY) (s:=bQ t.aD++av (aG (t.bY.length:Nat))) λs c _=>by
  show(s++c.put).size<=_
  rw[cD];have:=afU c;omega
 rw[cD]at a;generalize t.bY.length=n at h2 b a⊢;have:20*n<=20*8:=Nat.mul_le_mul_left _ h2;omega
def qF{t:cr}{o:aC}(h1:t.aD.size<=32)(h2:t.bY.length<=8)(b:t.gY.size<=32)(a:cN o):PC 29 [t.pv,o.pv] (·=st (ov t o)):=
 ahX t o om om om a.sz (by have:=RZ h1 h2 b;omega) (by have:=yn a;omega)
theorem oc(i:Nat):(pick di i).size<=2:=wB (by decide) _
def pX(i:Nat):(ew++pick di i).size<=5:=by
 rw[cD];have:=oc i;have:ew.size=3:=rfl;omega
def iP(i:Nat):ew.size+(pick di i).size<=5:=by
 have:=pX i;rw[cD]at this;exact this
def qj(key aD:BA)(hk:key.size<=1000)(a:aD.size<=32):∃t:cr,t=cr.new key aD/\PC 30 [st key,st aD] (·=t.pv)/\t.aD.size<=32/\t.bY.length=0/\t.gY.size<=32:=
 ⟨cr.new key aD,rr,Lw key aD om om,a,rr,by show(Mc.nA key aD).size<=_;rw[Mc.wQ];omega⟩
def iq(x:bN)(loss:Bool)(k:Nat)(hk:x.kind.toNat%24=k){r1:UInt64}{r2:Bool}(c:PC 28 [x.op.pv] (·=.aU [pu r1,bo r2]))(post:PV->Prop):{Q:Prop//Q->PC 10 [x.pv,bo loss] post}:=⟨_,λq=>by
 exact aw func10<|aJ Ec rfl<|fP (a:=x.t.toNat) (b:=3) (by decide)<|sv (l:=di) (i:=x.t.toNat%3) (G3 _ (by decide))<|az<|ak (afg x) rfl<|ak c rfl<|c_<|cj.intro (k:Int) ((IA x.kind.toNat 24).trans (by rw[hk])) q⟩
def aki(x:bN)(loss:Bool)(k:Nat)(hk:x.kind.toNat%24=k)(b:k<4):PC 10 [x.pv,bo loss] (·=(x.eX loss k).1.pv):=by
 have c:x.eX loss k=({cK.z with kind:=3},none):=by unfold bN.eX;rw[l9 b]
 rw[c];have d:=ct x.t;have e:=ct x.n;have a:=kf x.op;exact(iq x loss k hk (a) _).2<|aj.t (show(k:Int)<4 by omega)<|an<|ah
def abS(x:bN)(hk:x.kind.toNat%24=4):PC 10 [x.pv,bo true] (·=(x.eX true 4).1.pv):=by
 have e:=ct x.t;have f:=ct x.n;have d:=kf x.op;exact(iq x true 4 hk (d) _).2<|aE<|ab<|dQ<|an<|fP (a:=x.n.toNat) (b:=9) (by decide)<|aF (oR (x.n.toNat%9))<|aF (oR x.c.toNat (by have:=ct x.c;omega))<|ah
def an1(x:bN)(hk:x.kind.toNat%24=5):PC 10 [x.pv,bo true] (·=(x.eX true 5).1.pv):=by
 have b:=ct x.t;have d:=ct x.n;have a:=kf x.op;exact(iq x true 5 hk (a) _).2<|aE<|ab<|aE<|ab<|dQ<|an<|aF (oR x.c.toNat (by have:=ct x.c;omega))<|ah
def ajL(x:bN)(hk:x.kind.toNat%24=6):PC 10 [x.pv,bo true] (·=(x.eX true 6).1.pv):=by
 have b:=ct x.t;have d:=ct x.n;have a:=kf x.op;exact(iq x true 6 hk (a) _).2<|aE<|ab<|aE<|ab<|aE<|ab<|dQ<|an<|aF (oR x.c.toNat (by have:=ct x.c;omega))<|ah
def aaE(x:bN)(hk:x.kind.toNat%24=7):PC 10 [x.pv,bo true] (·=(x.eX true 7).1.pv):=by
 have d:=ct x.t;have e:=ct x.n;have c:=kf x.op;refine(iq x true 7 hk (c) _).2<|aE<|ab<|aE<|ab<|aE<|ab<|aE<|ab<|dQ<|an<|fP (a:=x.n.toNat) (b:=2) (by decide)<|aF (oR (x.n.toNat%2))<|jg (8+x.n.toNat%2) ?_;exact ah
def aby(x:bN)(hk:x.kind.toNat%24=8):PC 10 [x.pv,bo true] (·=(x.eX true 8).1.pv):=by
 have d:=ct x.t;have e:=ct x.n;have c:=kf x.op;refine(iq x true 8 hk (c) _).2<|aE<|ab<|aE<|ab<|aE<|ab<|aE<|ab<|dQ<|an<|fP (a:=x.n.toNat) (b:=2) (by decide)<|aF (oR (x.n.toNat%2))<|jg (8+x.n.toNat%2) ?_;exact ah
def Zn(x:bN)(hk:x.kind.toNat%24=9):PC 10 [x.pv,bo true] (·=(x.eX true 9).1.pv):=by
 have d:=ct x.t;have e:=ct x.n;have c:=kf x.op;refine(iq x true 9 hk (c) _).2<|aE<|ab<|aE<|ab<|aE<|ab<|aE<|ab<|dQ<|an<|fP (a:=x.n.toNat) (b:=2) (by decide)<|aF (oR (x.n.toNat%2))<|jg (8+x.n.toNat%2) ?_;exact ah
def ach(x:bN)(loss:Bool)(hk:x.kind.toNat%24=10):PC 10 [x.pv,bo loss] (·=(x.eX loss 10).1.pv):=by
 have d:=ct x.t;have e:=ct x.n;have c:=kf x.op;refine(iq x loss 10 hk (c) _).2<|aE<|ab<|aE<|ab<|aE<|ab<|aE<|ab<|aE<|ab<|dQ<|an<|fP (a:=x.n.toNat) (b:=4) (by decide) ?_;exact sv (l:=[sA,sD,Hy,vE]) (i:=x.n.toNat%4) (by show _<4;omega)<|ah
def amk(x:bN)(loss:Bool)(hk:x.kind.toNat%24=11):PC 10 [x.pv,bo loss] (·=(x.eX loss 11).1.pv):=by
 have g:=ct x.t;have h:=ct x.n;have c:=qY x;have d:=kf x.op;obtain⟨t,e1,e,g1,g2,g3⟩:=qj (ew++x.name) (pick di (x.n.toNat%3)) (by have:=pX (x.t.toNat%3);show(ew++pick di (x.t.toNat%3)).size<=_;omega) (by have:=oc (x.n.toNat%3);omega);have hG:=qF g1 om g3 c;have f:x.eX loss 11=fr t x.op:=by rw[e1];rfl
 rw[f];refine(iq x loss 11 hk (d) _).2<|aE<|ab<|aE<|ab<|aE<|ab<|aE<|ab<|aE<|ab<|aE<|ab<|dQ ?_;exact an<|aq.mk (cX (a:=ew) (b:=pick di (x.t.toNat%3)) (by have:=iP (x.t.toNat%3);omega) (by have:=iP (x.t.toNat%3);omega))<|aJ Ec rfl<|fP (a:=x.n.toNat) (b:=3) (by decide)<|sv (l:=di) (i:=x.n.toNat%3) (by show _<3;omega)<|aJ e rfl<|aJ hG rfl<|az<|ah
def ads(x:bN)(loss:Bool)(hk:x.kind.toNat%24=12):PC 10 [x.pv,bo loss] (·=(x.eX loss 12).1.pv):=by
 have i:=ct x.t;have e:=ct x.n;have c:=qY x;have d:=kf x.op;obtain⟨t,e1,f,g1,g2,g3⟩:=qj (ew++x.name) x.name (by have:=pX (x.t.toNat%3);show(ew++pick di (x.t.toNat%3)).size<=_;omega) (by have:=oc (x.t.toNat%3);show(pick di (x.t.toNat%3)).size<=_;omega);have g:=aip t ⟨((1+x.n.toNat%2:Nat):Int),UInt64.ofNat (x.n.toNat / 2%9)⟩ om om;have h:x.eX loss 12=fr (t.zg ⟨((1+x.n.toNat%2:Nat):Int),UInt64.ofNat (x.n.toNat / 2%9)⟩) x.op:=by rw[e1];rfl
 have hG:=qF (t:=t.zg ⟨((1+x.n.toNat%2:Nat):Int),UInt64.ofNat (x.n.toNat / 2%9)⟩) (o:=x.op) g1 (by show(t.bY++[_]).length<=8;rw[i6,g2];exact(by decide:0+1<=8)) (by show(Mc.nA t.gY _).size<=32;rw[Mc.wQ];omega) c;rw[h];refine(iq x loss 12 hk (d) _).2<|aE<|ab<|aE<|ab<|aE<|ab<|aE<|ab<|aE<|ab<|aE<|ab<|aE ?_;refine ab<|dQ<|an<|aq.mk (cX (a:=ew) (b:=pick di (x.t.toNat%3)) (by have:=iP (x.t.toNat%3);omega) (by have:=iP (x.t.toNat%3);omega))<|aJ f rfl<|fP (a:=x.n.toNat) (b:=2) (by decide)<|aF (oR (x.n.toNat%2))<|jg (1+x.n.toNat%2)<|DK (a:=x.n.toNat) (b:=2) e (by decide)<|fP (a:=x.n.toNat / 2) (b:=9) (by decide)<|aF (nB (x.n.toNat / 2%9))<|aJ g rfl<|aJ hG rfl<|az ?_;exact ah
def LL(a b:UInt8):xM [(a.toNat:Int),(b.toNat:Int)]=⟨#[a,b]⟩:=by
 have e:∀a:UInt8,UInt8.ofNat (Int.toNat (a.toNat:Int))=a:=λa=>by rw[x8];exact UInt8.ofNat_toNat
 unfold xM;simp only[w9,List.map_nil,e]
def akV(x:bN)(hk:x.kind.toNat%24=13):PC 10 [x.pv,bo true] (·=(x.eX true 13).1.pv):=by
 have e:=ct x.t;have f:=ct x.n;have c:=kf x.op;have d:x.eX true 13=({cK.z with kind:=((x.n.toNat%12:Nat):Int),aD:=x.name,o:=x.op,bytes:=xM [(x.n.toNat:Int),(x.t.toNat:Int)]},none):=by rw[LL];rfl
 rw[d];refine(iq x true 13 hk (c) _).2<|aE<|ab<|aE<|ab<|aE<|ab<|aE<|ab<|aE<|ab<|aE<|ab<|aE ?_;exact ab<|aE<|ab<|dQ<|an<|fP (a:=x.n.toNat) (b:=12) (by decide)<|aF (oR (x.n.toNat%12))<|ab<|ah
def amB(x:bN)(hk:x.kind.toNat%24=13):PC 10 [x.pv,bo false] (·=(x.eX false 13).1.pv):=by
 have i:=ct x.t;have j:=ct x.n;have c:=kf x.op;refine(iq x false 13 hk (c) _).2<|aE<|ab<|aE<|ab<|aE<|ab<|aE<|ab<|aE<|ab<|aE<|ab<|aE ?_;refine ab<|aE<|ab<|dQ<|an<|fP (a:=x.n.toNat) (b:=12) (by decide)<|aF (oR (x.n.toNat%12)) ?_;obtain⟨m,e⟩:∃m,x.n.toNat%12=m:=⟨_,rfl⟩;have h:x.eX false 13=({cK.z with kind:=uK false m,aD:=x.name,o:=x.op,bytes:=xM [(x.n.toNat:Int),(x.t.toNat:Int)]},none):=by rw[<-e,LL];rfl
 rw[h,e];by_cases d:5<=m
 ·refine aj.t (show(5:Int)<=(m:Int)by omega) ?_;by_cases g:m<=7
  ·have e7:uK false m=0:=by unfold uK;rw[l9 d,l9 g];rfl
   rw[e7];exact aj.t (show(m:Int)<=7 by omega)<|an<|ah
  ·have e7:uK false m=(m:Int):=by unfold uK;rw[l9 d,j1 g];rfl
   rw[e7];exact aj.f (show¬(m:Int)<=7 by omega)<|ab<|ah
 ·have e7:uK false m=(m:Int):=by unfold uK;rw[j1 d];rfl
  rw[e7];exact aj.f (show¬(5:Int)<=(m:Int)by omega)<|ab<|ah
def ajr(x:bN)(hk:x.kind.toNat%24=4):PC 10 [x.pv,bo false] (·=(x.eX false 4).1.pv):=by
 have h:=ct x.t;have i:=ct x.n;have e:=qY x;have c:=kf x.op;rcases d:fA x.op with⟨r,_|_⟩
 ·have f:x.eX false 4=({cK.z with kind:=2,aD:=x.name,o:=x.op},none):=by show(match(fA x.op).2 with|false=>(({cK.z with kind:=2,aD:=x.name,o:=x.op},none):aW)|true=>fr (fQ x.name) x.op)=_;rw[d]
  rw[f];rw[d]at c;refine(iq x false 4 hk (c) _).2<|aE<|ab<|dQ<|ab<|aE<|ab<|aE<|ab<|dQ<|ab<|aE<|ab<|aE ?_;exact ab<|aE<|ab<|aE<|ab<|an<|ah
 ·obtain⟨t,e1,g,g1,g2,g3⟩:=qj (ew++x.name) x.name (by have:=pX (x.t.toNat%3);show(ew++pick di (x.t.toNat%3)).size<=_;omega) (by have:=oc (x.t.toNat%3);show(pick di (x.t.toNat%3)).size<=_;omega);have hG:=qF g1 om g3 e;have f:x.eX false 4=fr t x.op:=by rw[e1];show(match(fA x.op).2 with|false=>(({cK.z with kind:=2,aD:=x.name,o:=x.op},none):aW)|true=>fr (fQ x.name) x.op)=_;rw[d];rfl
  rw[f];rw[d]at c;refine(iq x false 4 hk (c) _).2<|aE<|ab<|dQ<|ab<|aE<|ab<|aE<|ab<|dQ<|ab<|aE<|ab<|aE ?_;exact ab<|aE<|ab<|aE<|ab<|ab<|aq.mk (cX (a:=ew) (b:=pick di (x.t.toNat%3)) (by have:=iP (x.t.toNat%3);omega) (by have:=iP (x.t.toNat%3);omega))<|aJ g rfl<|aJ hG rfl<|az<|ah
def Zz(x:bN)(hk:x.kind.toNat%24=5):PC 10 [x.pv,bo false] (·=(x.eX false 5).1.pv):=by
 have h:=ct x.t;have i:=ct x.n;have e:=qY x;have c:=kf x.op;rcases d:fA x.op with⟨r,_|_⟩
 ·have f:x.eX false 5=({cK.z with kind:=2,aD:=x.name,o:=x.op},none):=by show(match(fA x.op).2 with|false=>(({cK.z with kind:=2,aD:=x.name,o:=x.op},none):aW)|true=>fr (fQ x.name) x.op)=_;rw[d]
  rw[f];rw[d]at c;refine(iq x false 5 hk (c) _).2<|aE<|ab<|aE<|ab<|dQ<|ab<|aE<|ab<|dQ<|ab<|aE<|ab<|aE ?_;exact ab<|aE<|ab<|aE<|ab<|an<|ah
 ·obtain⟨t,e1,g,g1,g2,g3⟩:=qj (ew++x.name) x.name (by have:=pX (x.t.toNat%3);show(ew++pick di (x.t.toNat%3)).size<=_;omega) (by have:=oc (x.t.toNat%3);show(pick di (x.t.toNat%3)).size<=_;omega);have hG:=qF g1 om g3 e;have f:x.eX false 5=fr t x.op:=by rw[e1];show(match(fA x.op).2 with|false=>(({cK.z with kind:=2,aD:=x.name,o:=x.op},none):aW)|true=>fr (fQ x.name) x.op)=_;rw[d];rfl
  rw[f];rw[d]at c;refine(iq x false 5 hk (c) _).2<|aE<|ab<|aE<|ab<|dQ<|ab<|aE<|ab<|dQ<|ab<|aE<|ab<|aE ?_;exact ab<|aE<|ab<|aE<|ab<|ab<|aq.mk (cX (a:=ew) (b:=pick di (x.t.toNat%3)) (by have:=iP (x.t.toNat%3);omega) (by have:=iP (x.t.toNat%3);omega))<|aJ g rfl<|aJ hG rfl<|az<|ah
def aaz(x:bN)(hk:x.kind.toNat%24=6):PC 10 [x.pv,bo false] (·=(x.eX false 6).1.pv):=by
 have h:=ct x.t;have i:=ct x.n;have e:=qY x;have c:=kf x.op;rcases d:fA x.op with⟨r,_|_⟩
 ·have f:x.eX false 6=({cK.z with kind:=2,aD:=x.name,o:=x.op},none):=by show(match(fA x.op).2 with|false=>(({cK.z with kind:=2,aD:=x.name,o:=x.op},none):aW)|true=>fr (fQ x.name) x.op)=_;rw[d]
  rw[f];rw[d]at c;refine(iq x false 6 hk (c) _).2<|aE<|ab<|aE<|ab<|aE<|ab<|dQ<|ab<|dQ<|ab<|aE<|ab<|aE ?_;exact ab<|aE<|ab<|aE<|ab<|an<|ah
 ·obtain⟨t,e1,g,g1,g2,g3⟩:=qj (ew++x.name) x.name (by have:=pX (x.t.toNat%3);show(ew++pick di (x.t.toNat%3)).size<=_;omega) (by have:=oc (x.t.toNat%3);show(pick di (x.t.toNat%3)).size<=_;omega);have hG:=qF g1 om g3 e;have f:x.eX false 6=fr t x.op:=by rw[e1];show(match(fA x.op).2 with|false=>(({cK.z with kind:=2,aD:=x.name,o:=x.op},none):aW)|true=>fr (fQ x.name) x.op)=_;rw[d];rfl
  rw[f];rw[d]at c;refine(iq x false 6 hk (c) _).2<|aE<|ab<|aE<|ab<|aE<|ab<|dQ<|ab<|dQ<|ab<|aE<|ab<|aE ?_;exact ab<|aE<|ab<|aE<|ab<|ab<|aq.mk (cX (a:=ew) (b:=pick di (x.t.toNat%3)) (by have:=iP (x.t.toNat%3);omega) (by have:=iP (x.t.toNat%3);omega))<|aJ g rfl<|aJ hG rfl<|az<|ah
def aal(x:bN)(hk:x.kind.toNat%24=7):PC 10 [x.pv,bo false] (·=(x.eX false 7).1.pv):=by
 have h:=ct x.t;have i:=ct x.n;have e:=qY x;have c:=kf x.op;rcases d:fA x.op with⟨r,_|_⟩
 ·have f:x.eX false 7=({cK.z with kind:=2,aD:=x.name,o:=x.op},none):=by show(match(fA x.op).2 with|false=>(({cK.z with kind:=2,aD:=x.name,o:=x.op},none):aW)|true=>fr (fQ x.name) x.op)=_;rw[d]
  rw[f];rw[d]at c;refine(iq x false 7 hk (c) _).2<|aE<|ab<|aE<|ab<|aE<|ab<|aE<|ab<|dQ<|ab<|aE<|ab<|aE ?_;exact ab<|aE<|ab<|aE<|ab<|an<|ah
 ·obtain⟨t,e1,g,g1,g2,g3⟩:=qj (ew++x.name) x.name (by have:=pX (x.t.toNat%3);show(ew++pick di (x.t.toNat%3)).size<=_;omega) (by have:=oc (x.t.toNat%3);show(pick di (x.t.toNat%3)).size<=_;omega);have hG:=qF g1 om g3 e;have f:x.eX false 7=fr t x.op:=by rw[e1];show(match(fA x.op).2 with|false=>(({cK.z with kind:=2,aD:=x.name,o:=x.op},none):aW)|true=>fr (fQ x.name) x.op)=_;rw[d];rfl
  rw[f];rw[d]at c;refine(iq x false 7 hk (c) _).2<|aE<|ab<|aE<|ab<|aE<|ab<|aE<|ab<|dQ<|ab<|aE<|ab<|aE ?_;exact ab<|aE<|ab<|aE<|ab<|ab<|aq.mk (cX (a:=ew) (b:=pick di (x.t.toNat%3)) (by have:=iP (x.t.toNat%3);omega) (by have:=iP (x.t.toNat%3);omega))<|aJ g rfl<|aJ hG rfl<|az<|ah
def aco(x:bN)(hk:x.kind.toNat%24=8):PC 10 [x.pv,bo false] (·=(x.eX false 8).1.pv):=by
 have h:=ct x.t;have i:=ct x.n;have e:=qY x;have c:=kf x.op;rcases d:fA x.op with⟨r,_|_⟩
 ·have f:x.eX false 8=({cK.z with kind:=2,aD:=x.name,o:=x.op},none):=by show(match(fA x.op).2 with|false=>(({cK.z with kind:=2,aD:=x.name,o:=x.op},none):aW)|true=>fr (fQ x.name) x.op)=_;rw[d]
  rw[f];rw[d]at c;refine(iq x false 8 hk (c) _).2<|aE<|ab<|aE<|ab<|aE<|ab<|aE<|ab<|dQ<|ab<|aE<|ab<|aE ?_;exact ab<|aE<|ab<|aE<|ab<|an<|ah
 ·obtain⟨t,e1,g,g1,g2,g3⟩:=qj (ew++x.name) x.name (by have:=pX (x.t.toNat%3);show(ew++pick di (x.t.toNat%3)).size<=_;omega) (by have:=oc (x.t.toNat%3);show(pick di (x.t.toNat%3)).size<=_;omega);have hG:=qF g1 om g3 e;have f:x.eX false 8=fr t x.op:=by rw[e1];show(match(fA x.op).2 with|false=>(({cK.z with kind:=2,aD:=x.name,o:=x.op},none):aW)|true=>fr (fQ x.name) x.op)=_;rw[d];rfl
  rw[f];rw[d]at c;refine(iq x false 8 hk (c) _).2<|aE<|ab<|aE<|ab<|aE<|ab<|aE<|ab<|dQ<|ab<|aE<|ab<|aE ?_;exact ab<|aE<|ab<|aE<|ab<|ab<|aq.mk (cX (a:=ew) (b:=pick di (x.t.toNat%3)) (by have:=iP (x.t.toNat%3);omega) (by have:=iP (x.t.toNat%3);omega))<|aJ g rfl<|aJ hG rfl<|az<|ah
def akY(x:bN)(hk:x.kind.toNat%24=9):PC 10 [x.pv,bo false] (·=(x.eX false 9).1.pv):=by
 have h:=ct x.t;have i:=ct x.n;have e:=qY x;have c:=kf x.op;rcases d:fA x.op with⟨r,_|_⟩
 ·have f:x.eX false 9=({cK.z with kind:=2,aD:=x.name,o:=x.op},none):=by show(match(fA x.op).2 with|false=>(({cK.z with kind:=2,aD:=x.name,o:=x.op},none):aW)|true=>fr (fQ x.name) x.op)=_;rw[d]
  rw[f];rw[d]at c;refine(iq x false 9 hk (c) _).2<|aE<|ab<|aE<|ab<|aE<|ab<|aE<|ab<|dQ<|ab<|aE<|ab<|aE ?_;exact ab<|aE<|ab<|aE<|ab<|an<|ah
 ·obtain⟨t,e1,g,g1,g2,g3⟩:=qj (ew++x.name) x.name (by have:=pX (x.t.toNat%3);show(ew++pick di (x.t.toNat%3)).size<=_;omega) (by have:=oc (x.t.toNat%3);show(pick di (x.t.toNat%3)).size<=_;omega);have hG:=qF g1 om g3 e;have f:x.eX false 9=fr t x.op:=by rw[e1];show(match(fA x.op).2 with|false=>(({cK.z with kind:=2,aD:=x.name,o:=x.op},none):aW)|true=>fr (fQ x.name) x.op)=_;rw[d];rfl
  rw[f];rw[d]at c;refine(iq x false 9 hk (c) _).2<|aE<|ab<|aE<|ab<|aE<|ab<|aE<|ab<|dQ<|ab<|aE<|ab<|aE ?_;exact ab<|aE<|ab<|aE<|ab<|ab<|aq.mk (cX (a:=ew) (b:=pick di (x.t.toNat%3)) (by have:=iP (x.t.toNat%3);omega) (by have:=iP (x.t.toNat%3);omega))<|aJ g rfl<|aJ hG rfl<|az<|ah
def aj0(x:bN)(loss:Bool)(k:Nat)(hk:x.kind.toNat%24=k)(i:14<=k):PC 10 [x.pv,bo loss] (·=(x.eX loss k).1.pv):=by
 have j:=ct x.t;have l:=ct x.n;have e:=qY x;have c:=kf x.op;rcases d:fA x.op with⟨r,_|_⟩
 ·have g:x.eX loss k=({cK.z with kind:=2,aD:=x.name,o:=x.op},none):=by unfold bN.eX;rw[j1 om,j1 om,j1 om,j1 om,j1 om,j1 om,j1 om,j1 om,j1 om];show(match(fA x.op).2 with|false=>(({cK.z with kind:=2,aD:=x.name,o:=x.op},none):aW)|true=>fr (fQ x.name) x.op)=_;rw[d]
  rw[g];rw[d]at c;refine(iq x loss k hk (c) _).2<|aj.f (show¬(k:Int)<4 by omega)<|ab<|aj.f (show¬(k:Int)=4 by omega)<|ab<|aj.f (show¬(k:Int)=5 by omega)<|ab<|aj.f (show¬(k:Int)=6 by omega)<|ab<|aj.f (show¬(k:Int)<10 by omega)<|ab<|aj.f (show¬(k:Int)=10 by omega)<|ab<|aj.f (show¬(k:Int)=11 by omega) ?_;exact ab<|aj.f (show¬(k:Int)=12 by omega)<|ab<|aj.f (show¬(k:Int)=13 by omega)<|ab<|an<|ah
 ·obtain⟨t,e1,h,g1,g2,g3⟩:=qj (ew++x.name) x.name (by have:=pX (x.t.toNat%3);show(ew++pick di (x.t.toNat%3)).size<=_;omega) (by have:=oc (x.t.toNat%3);show(pick di (x.t.toNat%3)).size<=_;omega);have hG:=qF g1 om g3 e;have g:x.eX loss k=fr t x.op:=by rw[e1];unfold bN.eX;rw[j1 om,j1 om,j1 om,j1 om,j1 om,j1 om,j1 om,j1 om,j1 om];show(match(fA x.op).2 with|false=>(({cK.z with kind:=2,aD:=x.name,o:=x.op},none):aW)|true=>fr (fQ x.name) x.op)=_;rw[d];rfl
  rw[g];rw[d]at c;refine(iq x loss k hk (c) _).2<|aj.f (show¬(k:Int)<4 by omega)<|ab<|aj.f (show¬(k:Int)=4 by omega)<|ab<|aj.f (show¬(k:Int)=5 by omega)<|ab<|aj.f (show¬(k:Int)=6 by omega)<|ab<|aj.f (show¬(k:Int)<10 by omega)<|ab<|aj.f (show¬(k:Int)=10 by omega)<|ab<|aj.f (show¬(k:Int)=11 by omega) ?_;exact ab<|aj.f (show¬(k:Int)=12 by omega)<|ab<|aj.f (show¬(k:Int)=13 by omega)<|ab<|ab<|aq.mk (cX (a:=ew) (b:=pick di (x.t.toNat%3)) (by have:=iP (x.t.toNat%3);omega) (by have:=iP (x.t.toNat%3);omega))<|aJ h rfl<|aJ hG rfl<|az<|ah
def Ko(x:bN)(loss:Bool):PC 10 [x.pv,bo loss] (·=(x.fK loss).1.pv):=by
 unfold bN.fK;obtain⟨k,hk⟩:∃k,x.kind.toNat%24=k:=⟨_,rfl⟩;rw[hk];by_cases b:k<4
 ·exact aki x loss k hk b
 by_cases a:14<=k
 ·exact aj0 x loss k hk a
 have c:k=4\/k=5\/k=6\/k=7\/k=8\/k=9\/k=10\/k=11\/k=12\/k=13:=om
 rcases c with rfl|rfl|rfl|rfl|rfl|rfl|rfl|rfl|rfl|rfl
 ·cases loss
  case true=>exact abS x hk
  exact ajr x hk
 ·cases loss
  case true=>exact an1 x hk
  exact Zz x hk
 ·cases loss
  case true=>exact ajL x hk
  exact aaz x hk
 ·cases loss
  case true=>exact aaE x hk
  exact aal x hk
 ·cases loss
  case true=>exact aby x hk
  exact aco x hk
 ·cases loss
  case true=>exact Zn x hk
  exact akY x hk
 ·exact ach x loss hk
 ·exact amk x loss hk
 ·exact ads x loss hk
 ·cases loss
  case true=>exact akV x hk
  exact amB x hk
def aio{α:Type}{f:α->PV}{k:Nat}(h:iE f k)(l:List α)(x:α)(a:l.length<67108864):ph (l.map f) [f x] k/\([f x]=[]->l.map f=[]):=⟨(eE h l x a).1,λh=>by cases h⟩
def yB:iE aC.pv 18:=⟨λ_=>⟨rr,rr⟩,λ_=>rfl,λ_ _ _=>rfl⟩
def ajK:PC 33 [] (·=sl aC.pv mH):=by
 refine aw func33<|cV.nI 4<|dQ<|an<|fF.intro (st sA) rr (by decide)<|aq.mk (aio yB [{aC.z with kind:=9,v:=⟨30,30,30,30⟩}] (ni sA) (by decide))<|eL 1<|dQ<|an<|fF.intro (st qg) rr (by decide)<|dS.l (aq.mk (eE yB [{aC.z with kind:=9,v:=⟨30,30,30,30⟩},ni sA] (ni qg) (by decide)) ?_);refine eL 2<|dQ<|an<|fF.intro (st sB) rr (by decide)<|dS.l (aq.mk (eE yB [{aC.z with kind:=9,v:=⟨30,30,30,30⟩},ni sA,ni qg] (ni sB) (by decide)) ?_);refine eL 3<|aE<|ab<|cV.nI 3<|dQ<|an<|fF.intro (st yt) rr (by decide)<|eL 0<|eL 4<|eL 4<|dS.l (aq.mk (eE yB [{aC.z with kind:=9,v:=⟨30,30,30,30⟩},ni sA,ni qg,ni sB] (zN yt 4) (by decide)) ?_);refine eL 1<|dQ<|an<|fF.intro (st zU) rr (by decide)<|eL 2<|eL 6<|eL 6<|dS.l (aq.mk (eE yB [{aC.z with kind:=9,v:=⟨30,30,30,30⟩},ni sA,ni qg,ni sB,zN yt 4] (zN zU 6) (by decide)) ?_);exact eL 2<|aE<|ab<|ah
def Y'(i:Nat)(o:aC)(c:cN o):PC 19 [st (pick di i),o.pv] (·=(fr (fQ (pick di i)) o).1.pv):=by
 obtain⟨t,e1,d,g1,g2,g3⟩:=qj (ew++pick di i) (pick di i) (by have:=pX i;omega) (by have:=oc i;omega);have hG:=qF g1 om g3 c;have e:fr (fQ (pick di i)) o=fr t o:=by rw[e1];rfl
 rw[e];exact aw func19<|aq.mk (cX (a:=ew) (b:=pick di i) (by have:=iP i;omega) (by have:=iP i;omega))<|aJ d rfl<|aJ hG rfl<|az<|ah
def PT(size:Int)(name:BA):aW:=({cK.z with kind:=1,aD:=name,key:=ew++name,n:=size},none)
def uA(size:Int)(q:Nat):List aW:=((di.take q).map (rY size)).flatten
def oq(size:Int)(q:Nat)(name:BA)(p:Nat):List aW:=uA size q++PT size name::(mH.take p).map (mJ name)
def PF(size:Int){q:Nat}(h:q<=3):(uA size q).length<=21:=by
 have a:q=0\/q=1\/q=2\/q=3:=om
 rcases a with rfl|rfl|rfl|rfl
 ·exact(by decide:0<=21)
 ·exact(by decide:7<=21)
 ·exact(by decide:14<=21)
 ·exact(by decide:21<=21)
def abd(size:Int){q:Nat}(h:q<=3)(name:BA)(p:Nat):(oq size q name p).length<=40:=by
 have:=PF size h;unfold oq;rw[i6,w6,c8,l8];have:mH.length=6:=rfl;omega
def aea(size:Int)(q:Nat)(name:BA){p:Nat}{o:aC}(h:mH[p]? = some o):oq size q name (p+1)=oq size q name p++[mJ name o]:=by grind [oq,List.take_succ]
def abK(size:Int){q:Nat}(h:q<3):uA size (q+1)=oq size q (pick di q) 6:=by
 have a:q=0\/q=1\/q=2:=om
 rcases a with rfl|rfl|rfl
 ·rfl
 ·rfl
 ·rfl
def Ij{x:aW}{L M:List aW}(h:M=L++[x]):some (aI.rows 24 (L.map cq++[cq x]) true none 40)=some (.rows 24 (M.map cq) true none 40):=by simp_all
def Ks(size:Int)(nx:Nat):LC 14 [i64 size] [] nx λr d=>r=.aS nx 0 21/\d=[(nx,some (.rows 24 ((lr size).map cq) true none 40))]:=by
 refine fX (js:=[]) (bs:=[]) (args:=[i64 size]) func14 rr rr rr rr trivial rfl<|cV.k_ [(3,24,40)] _ (ι:={q:Nat//q<=3}) ⟨λq=>[(4,i64 q.1),(3,.aS 3 0 (uA size q.1).length)],[0],λq=>[(3,.rows 24 ((uA size q.1).map cq) true none 40)],[]⟩ (λq=>3-q.1) ⟨0,j9 _⟩ rr ⟨rr,trivial⟩ ?_ ?_
 ·exact cS rr (e_.cf _)
 rintro⟨q,hq⟩;have j:=PF size hq;refine aj.aN (λh1=>?_) (λh1=>?_)
 ·have h1:q<3:=by have:=j5 h1;dsimp only at this;omega
  obtain⟨t,e1,k,g1,g2,g3⟩:=qj (ew++pick di q) (pick di q) (by have:=pX q;omega) (by have:=oc q;omega);refine an<|ak Ec rfl<|sv (l:=di) (i:=q) h1<|aq.mk (cX (a:=ew) (b:=pick di q) (by have:=iP q;omega) (by have:=iP q;omega))<|dS.l (aq.mk (eE e_ (uA size q) (PT size (pick di q)) om) ?_);refine ak ajK rr ?_;have f:=abd size hq (pick di q);refine cV.bA (ι:={p:Nat//p<=6}) ⟨λp=>[(7,i64 p.1),(3,.aS 18 0 (oq size q (pick di q) p.1).length)],[0,4,5,6],λp=>[(18,.rows 24 ((oq size q (pick di q) p.1).map cq) true none 40)],[]⟩ (λp=>6-p.1) ⟨0,j9 _⟩ ?_ ?_
  ·exact jn ⟨⟨rr,rr⟩,⟨(by show some (PV.aS 18 0 ((uA size q).length+1))=some (PV.aS 18 0 (oq size q (pick di q) 0).length);unfold oq;rw[i6];rfl),rr⟩,trivial⟩ ⟨⟨BB.br (by unfold oq;rw[l6];rfl) (e_.cf _),rr⟩,trivial⟩
  rintro⟨p,hp⟩;have m:=f p;refine aj.aN (λh2=>?_) (λh2=>?_)
  ·have h2:p<6:=by
    have h2:(p:Int)<((mH.map aC.pv).length:Nat):=j5 h2;have:(mH.map aC.pv).length=6:=rfl;omega
   obtain⟨o,e⟩:∃o,mH[p]? = some o:=cw h2;have c:=aea size q (pick di q) e;have g:=Ce (i7 e);have hG:=qF g1 om g3 g;refine an<|bG e<|bG e<|aj.is (decide (o.kind=3)) rr ?_;cases hk:decide (o.kind=3)
   case true=>
    have h:mJ (pick di q) o=fr t o:=by unfold mJ;rw[hk,e1];rfl
    rw[h]at c;refine an<|aq.mk (cX (a:=ew) (b:=pick di q) (by have:=iP q;omega) (by have:=iP q;omega))<|aJ k rfl<|bG e<|aJ hG rfl<|az<|dS.l (aq.mk (eE e_ (oq size q (pick di q) p) (fr t o) om) ?_);refine aF (dq p)<|⟨⟨p+1,h2⟩,sw 18 55,?_,?_⟩
    ·show 6-(p+1)<6-p;omega
    exact jn ⟨⟨rr,rr⟩,⟨(by show some _=some _;rw[c,i6];rfl),rr⟩,trivial⟩ ⟨⟨BB.br (Ij c) (e_.cf _),rr⟩,trivial⟩
   have h:mJ (pick di q) o=({cK.z with kind:=2,aD:=pick di q,o:=o},none):=by unfold mJ;rw[hk]
   rw[h]at c;refine ab<|dS.l (aq.mk (eE e_ (oq size q (pick di q) p) ({cK.z with kind:=2,aD:=pick di q,o:=o},none) om) ?_);refine aF (dq p)<|⟨⟨p+1,h2⟩,sw 18 44,?_,?_⟩
   ·show 6-(p+1)<6-p;omega
   exact jn ⟨⟨rr,rr⟩,⟨(by show some _=some _;rw[c,i6];rfl),rr⟩,trivial⟩ ⟨⟨BB.br (Ij c) (e_.cf _),rr⟩,trivial⟩
  ·have h2:p=6:=by
    have h2:¬(p:Int)<((mH.map aC.pv).length:Nat):=j4 h2;have:(mH.map aC.pv).length=6:=rfl;omega
   subst h2;have c:=abK size h1;refine ab<|aF (dq q)<|⟨⟨q+1,h1⟩,sw 3 18,?_,?_⟩
   ·show 3-(q+1)<3-q;omega
   exact jn ⟨⟨rr,rr⟩,⟨(by show some _=some _;rw[c];rfl),rr⟩,trivial⟩ ⟨⟨BB.br (congrArg (λL:List aW=>some (aI.rows 24 (L.map cq) true none 40)) c.symm) (e_.cf _),rr⟩,trivial⟩
 ·have h1:q=3:=by have:=j4 h1;dsimp only at this;omega
  subst h1;refine ab<|ey<|fw.mk ⟨[(3,nx)],200,_,_,rr,rr,rr,⟨fk.mk ⟨_,rr,e_.cf _,.inl rr⟩,trivial⟩,?_,rr⟩;simp[jy,PV.wk,PV.rn,oK,lk,uA,rY,mH]
def rk(l:List bN)(loss:Bool)(size:Int)(q:Nat):List aW:=lr size++(l.take q).map (bN.fK loss)
def an7(l:List bN)(loss:Bool)(size:Int){q:Nat}{x:bN}(h:l[q]? = some x):rk l loss size (q+1)=rk l loss size q++[x.fK loss]:=by grind [rk,List.take_succ]
def abF(l:List bN)(loss:Bool)(size:Int){q:Nat}(h:q<=40):(rk l loss size q).length<=61:=by grind [rk,EO]
def alm{l:List bN}{loss:Bool}{size:Int}{q:Nat}(h:q<=40)(a:q=40\/l.length<=q):we l loss size=rk l loss size q:=by grind [we,rk,List.take_of_length_le]
def acq(l:List bN)(k:l.length<=9223372036854775807)(loss:Bool)(size:Int)(nx:Nat):LC 8 [sl bN.pv l,bo loss,i64 size] [] nx λr d=>r=.aS nx 0 (we l loss size).length/\d=[(nx,some (.rows 24 ((we l loss size).map cq) true none 40))]:=by
 have i:(l.map bN.pv).length=l.length:=c8 ..;refine fX (js:=[]) (bs:=[]) (args:=[sl bN.pv l,bo loss,i64 size]) func8 rr rr rr rr trivial rfl<|bu.bH [] (n:=200) (Ks size _) rr trivial<|cV.bA (ι:={q:Nat//q<=40/\q<=l.length}) ⟨λq=>[(8,i64 q.1),(7,.aS 2 0 (rk l loss size q.1).length)],[0,1],λq=>[(2,.rows 24 ((rk l loss size q.1).map cq) true none 40)],[]⟩ (λq=>40-q.1) ⟨0,j9 _,j9 _⟩ ?_ ?_
 ·exact cS rr (e_.cf _)
 rintro⟨q,hq,j⟩;have e:=abF l loss size hq;have a:=λb=>alm (l:=l) (loss:=loss) (size:=size) hq b
 refine aj.aN (λh1=>?_) (λh1=>?_)
 ·have h1:q<l.length:=by
   simp_all
  obtain⟨x,g⟩:∃x,l[q]? = some x:=cw h1;have h:=an7 l loss size g;have b:=Ko x loss;by_cases c:q<40
  ·refine aj.t (show(q:Int)<40 by omega)<|an<|bG g<|ak b rfl<|dS.l (aq.mk (eE e_ (rk l loss size q) (x.fK loss) om) ?_);refine aF (dq q)<|⟨⟨q+1,c,h1⟩,sw 2 21,by grind,?_⟩;exact jn ⟨⟨rr,rr⟩,⟨(by show some _=some (PV.aS _ 0 (rk l loss size (q+1)).length);rw[h,i6];rfl),rr⟩,trivial⟩ ⟨⟨BB.br (Ij h) (e_.cf _),rr⟩,trivial⟩
  ·refine aj.f (show¬(q:Int)<40 by omega) ?_;rw[a (.inl om)];refine ab<|ey<|fw.mk ⟨[(2,nx)],200,_,_,rr,rr,rr,⟨fk.mk ⟨_,rr,e_.cf _,.inl rr⟩,trivial⟩,?_,rr⟩;simp_all [jy,PV.wk,PV.rn,oK,lk]
 ·have h1:l.length<=q:=by
   simp_all
  rw[a (.inr h1)];refine ab<|ey<|fw.mk ⟨[(2,nx)],200,_,_,rr,rr,rr,⟨fk.mk ⟨_,rr,e_.cf _,.inl rr⟩,trivial⟩,?_,rr⟩;simp_all [jy,PV.wk,PV.rn,oK,lk]
end
section
open Go.RowKit Go.ChangeMaps
structure ku(w:World)(r B:Nat)(es:Array MapEntry)(cl:Nat)(done:List MapEntry):Prop where
 m:w.heap[B]? = some (.map es cl)
 it:w.heap[r]? = some (.mapIter (some B) cl (done.map (·.born)).toArray cl)
 mem:∀e∈done,e∈es.toList
 nd:(done.map (·.born)).Nodup
 yl:lz es cl
theorem lz.lt{es:Array MapEntry}{cl:Nat}(h:lz es cl):∀x∈es.toList,x.born<cl:=λx b=>by
 obtain⟨i,hi⟩:=A0 b
 rw[w8]at hi
 rw[h.2 i x hi,h.1]
 grind
theorem lz.nd{es:Array MapEntry}{cl:Nat}(h:lz es cl):(es.toList.map (·.born)).Nodup:=by
 have:es.toList.map (·.born)=List.range es.size:=by
  refine E5 λi=>?_
  rw[A6,w8];cases e:es[i]? with
  |none=>
   simp_all
  |some x=>
   have hi:=(u7.1 e).1;rw[List.getElem?_range hi];exact congrArg some (h.2 i x e)
 grind
theorem TN{α β:Type}{f:α->β}{l:List α}(h:(l.map f).Nodup):l.Nodup:=(O9.1 h).imp λh e=>h (by rw[e])
theorem ahM(w:World)(r:Nat)(o:Obj):w.grownBy (setBlock w r o) (some r):=by
 refine⟨rr,rr,rr,by grind [setBlock],λi hi b=>?_⟩;show(w.heap.setIfInBounds r o)[i]? = _
 grind
theorem ku.next{P:Program}{w:World}{r B:Nat}{es:Array MapEntry}{cl:Nat}{done:List MapEntry}(h:ku w r B es cl done)(ty:TypeId):
 (done.Perm es.toList/\(Instr.next (.pointer (some ⟨r,0,none⟩)) false ty).run P w=.ok (.tuple #[.bool false]) w)\/
 ∃e w',e∈es.toList/\(Instr.next (.pointer (some ⟨r,0,none⟩)) false ty).run P w=.ok (.tuple #[.bool true,e.key,e.val]) w'/\ku w' r B es cl (done++[e])/\w.grownBy w' (some r)/\w'.heap.size=w.heap.size/\(leftOf es ((done++[e]).map (·.born)).toArray).size<(leftOf es (done.map (·.born)).toArray).size:=by
 have t:r≠B:=by
  intro e
  have:=h.it
  rw[e,h.m]at this
  cases this
 have l:∀y,(done.map (·.born)).toArray.contains y=true->∃d∈done,d.born=y:=λy J=>by
  simp_all
 rcases run_next_at (P:=P) w ty r B cl cl _ es cl h.it h.m h.yl.lt (j2 _)with⟨h0,f⟩|⟨e,D,w1,p,f⟩
 ·refine .inl ⟨?_,f⟩
  refine(List.perm_ext_iff_of_nodup (TN h.nd) (TN h.yl.nd)).2 λa=>⟨h.mem a,λu=>?_⟩
  obtain⟨d,v,hb⟩:=l _ (all_seen es _ h0 a u)
  rw[<-born_inj h.yl.nd (h.mem d v) u hb]
  exact v
 ·obtain⟨z,G⟩:=mem_left D
  have E:∀d∈done,d.born≠e.born:=λd v hb=>by
   simp_all
  have g:w1.heap=w.heap:=by rcases p with rfl|rfl<;>rfl
  have j:w.grownBy w1 none:=by rcases p with rfl|rfl<;>exact⟨rr,rr,rr,j2 _,λ_ _ _=>rfl⟩
  have H:r<w1.heap.size:=by rw[g];exact(u7.1 h.it).1
  have c:=ahM w1 r (.mapIter (some B) cl ((done.map (·.born)).toArray.push e.born) cl)
  have A:((done++[e]).map (·.born)).Nodup:=by
   rw[l6]
   refine List.nodup_append.2 ⟨h.nd,by simp,λa u b hb e2=>?_⟩
   grind
  have q:∀x∈done++[e],x∈es.toList:=λx s=>by
   rcases s8.1 s with s|s
   ·exact h.mem x s
   simp_all
  have k:=left_shrinks es _ e D
  have C:(done.map (·.born)).toArray.push e.born=((done++[e]).map (·.born)).toArray:=by simp
  rw[C]at k f c
  refine .inr ⟨e,_,z,f,⟨?_,?_,q,A,h.yl⟩,⟨c.os.trans j.os,c.tape.trans j.tape,c.output.trans j.output,r8 j.size c.size,λi hi I=>(c.block i (by simp_all) I).trans (by rw[g])⟩,by grind [setBlock],k⟩
  ·refine(c.block B (by rw[g];exact(u7.1 h.m).1) (λe=>t (by cases e;rfl))).trans ?_
   rw[g];exact h.m
  ·show(w1.heap.setIfInBounds r _)[r]? = _
   simp_all
theorem ku.start{P:Program}{w:World}{B:Nat}{es:Array MapEntry}{cl:Nat}(t k e:TypeId)(b:P.underlying t=some (.map k e))(hb:w.heap[B]? = some (.map es cl))(c:lz es cl):
 (Instr.range t (.map (some B))).run P w=.ok (.pointer (some ⟨w.heap.size,0,none⟩)) (w.alloc (.mapIter (some B) cl #[] cl))/\ku (w.alloc (.mapIter (some B) cl #[] cl)) w.heap.size B es cl []:=
 ⟨run_range_map w t k e B es cl b hb,((MapKept.heap_alloc w _).2 B (u7.1 hb).1).trans hb,(MapKept.heap_alloc w _).1,λ_ h=>(by cases h),F9,c⟩
theorem ku.entry{P:Program}{w:World}{r B:Nat}{es:Array MapEntry}{cl:Nat}{done:List MapEntry}{e:MapEntry}(h:ku w r B es cl (done++[e])):(Instr.entry (.pointer (some ⟨r,0,none⟩))).run P w=.ok (.tuple #[e.key,e.val]) w:=by
 have hb:((done++[e]).map (·.born)).toArray.back? = some e.born:=by simp
 have c:es.find? (λx=>x.born==e.born)=some e:=by
  have d:e∈es.toList:=h.mem e (by simp);cases b:es.find? (λx=>x.born==e.born)with
  |none=>
   grind
  |some x=>
   have h1:=Array.find?_some b;have h2:=Array.mem_of_find?_eq_some b;have f:=born_inj (x:=x) (e:=e) h.yl.nd (by simp_all) d (by simp_all);rw[f]
 simp[Instr.entry,getObj,Sem.run,h.it,h.m,hb,c,Result.andThen]
theorem ku.Em{w:World}{r B:Nat}{es:Array MapEntry}{cl:Nat}{done:List MapEntry}(h:ku w r B es cl done):w.rangeLeft B r=(leftOf es (done.map (·.born)).toArray).size:=by simp only[World.rangeLeft,h.m,h.it]
theorem ku.aiu{w:World}{r B:Nat}{es:Array MapEntry}{cl:Nat}{done:List MapEntry}(h:ku w r B es cl done):∃o:Obj,w.heap[r]? = some o/\o.isWalk=true:=⟨_,h.it,rr⟩
theorem ku.fL{w w':World}{r B:Nat}{es:Array MapEntry}{cl:Nat}{done:List MapEntry}(h:ku w r B es cl done)(hk:KeepsWalks w w'):ku w' r B es cl done:=⟨hk.same B _ h.m rr,hk.same r _ h.it rr,h.mem,h.nd,h.yl⟩
section
variable {F:Fence}{n:Nat}{P:Program}(w:World){ops:Array Oper}{rest:List Oper}{o:Oper}{a:Act}{Q:Exit→Act→World→Prop}
theorem Tp(h:o.guard=none)(m:Operand)(t k e:TypeId)(c:o.op=Op.range t m)(i:P.underlying t=some (.map k e))(B:Nat)(es:Array MapEntry)(cl:Nat)(j:a.eval m=.map (some B))(hb:w.heap[B]? = some (.map es cl))(d:lz es cl)
 (l:ku (w.alloc (.mapIter (some B) cl #[] cl)) w.heap.size B es cl []->wpListIn F n P ops Q rest (a.put o.dst (.pointer (some ⟨w.heap.size,0,none⟩))) (w.alloc (.mapIter (some B) cl #[] cl))):wpListIn F n P ops Q (o::rest) a w:=by
 refine wpListIn_plain h λK' f=>?_
 obtain⟨b,g⟩:=ku.start (P:=P) t k e i hb d
 unfold Oper.wpIn
 refine⟨by grind [Oper.about],?_⟩
 rw[Oper.semAt_plain F _ _ (by simp_all)]
 simp[execOp,c,j,b,Result.andThen]
 exact f _ _ (l g)
theorem XD(l:o.guard=none)(it:Operand)(f:o.op=Op.next it false){r B:Nat}{es:Array MapEntry}{cl:Nat}{done:List MapEntry}(g:a.eval it=.pointer (some ⟨r,0,none⟩))(h:ku w r B es cl done)
 (c:done.Perm es.toList->wpListIn F n P ops Q rest (a.put o.dst (.tuple #[.bool false])) w)
 (d:∀(e:MapEntry) (w':World),e∈es.toList->ku w' r B es cl (done++[e])->w.grownBy w' (some r)->(leftOf es ((done++[e]).map (·.born)).toArray).size<(leftOf es (done.map (·.born)).toArray).size->(Instr.entry (.pointer (some ⟨r,0,none⟩))).run P w'=.ok (.tuple #[e.key,e.val]) w'->wpListIn F n P ops Q rest (a.put o.dst (.tuple #[.bool true,e.key,e.val])) w'):
 wpListIn F n P ops Q (o::rest) a w:=by
 refine wpListIn_plain l λK' i=>?_
 unfold Oper.wpIn
 refine⟨by grind [Oper.about],?_⟩
 rw[Oper.semAt_plain F _ _ (by simp_all)]
 rcases h.next (P:=P) o.type with⟨m,b⟩|⟨e,w',p,b,hi,j,_,k⟩
 ·simp[execOp,f,g,b,Result.andThen]
  exact i _ _ (c m)
 ·simp[execOp,f,g,b,Result.andThen]
  exact i _ _ (d e w' p hi j k hi.entry)
end
end
section
open Go.RowKit
abbrev uV(x:UInt64):Value:=.int .u64 (x.toNat:Int)
theorem Bd(x y:UInt64):jI (uV x) (uV y)=some (decide (x=y)):=by
 show some (decide ((x.toNat:Int)=(y.toNat:Int)))=_
 grind [UInt64.toNat_inj,Int.ofNat.inj]
def tY(a:List UInt64)(x:UInt64):wP (a.map uV) (uV x):=λk hk=>by
 grind [Bd]
def Hf(f:UInt64->PV)(x:UInt64):∀ks:List UInt64,pc (ks.map uV) (ks.map f) (uV x)=match decide (x∈ks)with|true=>some (f x)|false=>none
 | []=>rfl
 |k::ks=>by
  show(match jI (uV x) (uV k)with|some true=>some (f k)|_=>pc (ks.map uV) (ks.map f) (uV x))=_
  rw[Bd,Hf f x ks]
  by_cases h:x=k
  ·simp_all
  simp_all
def nC(a:List UInt64)(x:UInt64):List UInt64:=match decide (x∈a)with|true=>a|false=>a++[x]
def Gn(x:UInt64):∀ks:List UInt64,oX (ks.map uV) (uV x)=(nC ks x).map uV
 | []=>rfl
 |k::ks=>by
  show(match jI (uV x) (uV k)with|some true=>uV x::ks.map uV|_=>uV k::oX (ks.map uV) (uV x))=_
  rw[Bd,Gn x ks]
  grind [nC]
def jZ{α:Type}(f:UInt64->α)(x:UInt64)(p:α):UInt64->α:=λk=>match decide (k=x)with|true=>p|false=>f k
theorem DT{α:Type}(f:UInt64->α)(x:UInt64)(p:α):jZ f x p x=p:=by grind [jZ]
theorem Ax{α:Type}(f:UInt64->α){x k:UInt64}(p:α)(h:k≠x):jZ f x p k=f k:=by grind [jZ]
def XV{a:List UInt64}(h:a.Nodup)(x:UInt64):(nC a x).Nodup:=by grind [nC]
def FJ(f:UInt64->PV)(x:UInt64)(p:PV):∀ks:List UInt64,ks.Nodup->qD (ks.map uV) (ks.map f) (uV x) p=(nC ks x).map (jZ f x p)
 | [],_=>by show[p]=[jZ f x p x];grind [DT]
 |k::ks,b=>by
  show(match jI (uV x) (uV k)with|some true=>p::ks.map f|_=>f k::qD (ks.map uV) (ks.map f) (uV x) p)=_
  have a:=(K5.1 b)
  rw[Bd,FJ f x p ks a.2]
  grind [nC,DT,List.map_congr_left,Ax]
end
section
open Go.RowKit Go.Shelf Go.Proofs.Tryz
attribute [local go_sem] Oper.semAt_some
theorem alD{K ys:List UInt64}(h:(ys.map uV).Perm (K.map uV)):ys.Perm K:=by
 have:=h.map (λv:Value=>match v with|.int _ x=>UInt64.ofNat x.toNat|_=>0);have e:∀l:List UInt64,(l.map uV).map (λv:Value=>match v with|.int _ x=>UInt64.ofNat x.toNat|_=>0)=l:=λl=>by
  rw[F3];conv=>rhs;rw[<-List.map_id l]
  grind [List.map_congr_left,UInt64.ofNat_toNat]
 simp_all
def vK{w:World}{a:Addr}{v:Value}(h:w.cell? a=some v):a.block<w.heap.size:=by grind [cells_of_cell]
theorem ahZ(l Bm o B:Nat)(es:Array MapEntry)(cl:Nat)(K:List UInt64)(hK:es.toList.map (·.key)=K.map uV)(hmk:lz es cl)(J Jx:List UInt64->World->Prop)
 (hY:∀pre x W,J pre W->pre.length<K.length->YieldAt Fence.wide (1-1) prog l #[uV x] W λe W'=>(e=.returned (.bool true)/\J (pre++[x]) W'/\KeepsWalks W W')\/(e=.returned (.bool false)/\Jx (pre++[x]) W'))
 (W:World) (hJ:AbidesFrom W.heap.size J) (hc:W.cell? ⟨Bm,o,none⟩=some (.map (some B))) (hB:W.heap[B]? = some (.map es cl)) (h0:J [] W):
 CallsIn Fence.wide 1 prog 412 #[.func (.yield l) #[] #[],.pointer (some ⟨Bm,o,none⟩)] W λe W'=>(∃v,e=.returned v)/\((∃ys,ys.Perm K/\J ys W')\/∃pre:List UInt64,True/\Jx pre W'):=by
 refine callsIn_of_wp func412 rr trivial ?_ rr
 simp only[ntmps412,A9,w6,B9,Nat.reduceAdd,Nat.reduceSub,Array.replicate_succ,Array.replicate_zero,List.push_toArray,List.append_toArray,D4,E4]
 gi_wp2_with (first
  |(gi_at_range;refine Tp _ rr _ 219 _ _ rr underlying219 B es cl rr hB hmk ?_;intro hit0)
  |gi_in)
 go_frame
 gi_loopw [3] (λ_ wr=>∃(done:List MapEntry) (pre:List UInt64),ku wr W.heap.size B es cl done/\done.length+(leftOf es (done.map (·.born)).toArray).size<=es.size/\done.map (·.key)=pre.map uV/\J pre wr)
  (λ_ wr=>wr.rangeLeft B W.heap.size)
 case atStart=>
  exact⟨[],[],hit0,by show 0+(es.filter _).size<=es.size;grind,rr,hJ [] W _ none h0 (World.grownBy_alloc W _ none) (λr e=>by cases e)⟩
 case round=>
  obtain⟨done,pre,hit,hlen,hpre,hJs⟩:=hrel
  gi_wp2_with (first
   |(gi_at_next;refine XD _ rr _ rr rr hit ?_ ?_)
   |gi_in)
  ·intro hd
   gi_wp2
   go_end0
   grind [alD]
  ·intro e w2 he hit2 hg2 hlt hen
   obtain⟨x,hx⟩:∃x,e.key=uV x:=by
    have:e.key∈K.map uV:=by grind
    grind
   have hsz:es.size=K.length:=by grind [List.length_map]
   have hpl:pre.length=done.length:=by grind [List.length_map]
   have hJ2:J pre w2:=hJ pre wr w2 (some W.heap.size) hJs hg2 (λr e=>by cases e;exact⟨j2 _,hit.aiu⟩)
   obtain⟨fn,tmps,assign,body,hy,hR⟩:=hY pre x w2 hJ2 om
   obtain⟨ek,ev,eb⟩:=e
   dsimp only at hx hen
   subst hx
   gi_wp2
   refine hR.mono ?_
   rintro e W3 (⟨rfl,hJ3,hk3⟩|⟨rfl,hJx3⟩)
   ·gi_wp2
    have hit3:=hit2.fL hk3
    go_roundw
    case rel=>exact⟨_,pre++[x],hit3,by grind,by simp_all,hJ3⟩
    case measure=>rw[hit3.Em,hit.Em];simp_all
   ·gi_wp2
    refine bodyPost_ret (results_none rr _ _ _) rr ?_
    grind
def aaa(a o B:Nat)(es:Array MapEntry)(cl:Nat)(K:List UInt64)(f:es.toList.map (·.key)=K.map uV)(b:lz es cl)(w:World)(c:w.cell? ⟨a,o,none⟩=some (.map (some B)))(d:w.heap[B]? = some (.map es cl)):
 SeqStopsK Fence.wide 1 prog 412 #[.pointer (some ⟨a,o,none⟩)] (λx=>#[uV x]) KeepsWalks (λys=>ys.Perm K) (λ_=>True) K.length w:=λl J Jx W e g _ h h0=>
 ahZ l a o B es cl K f b J Jx h W g ((e.cell (p:=⟨a,o,none⟩) (vK c)).trans c) ((e.block B (u7.1 d).1).trans d) h0
end
section
open Go.RowKit Go.Shelf Go.Proofs.Tryz
attribute [local go_sem] Oper.semAt_some
def YQ:(prog.info? 30).map (λi=>(i.zero,i.size,i.bytes))=some (some (.int .u64 0),1,8):=by kernel_rfl
def aou(j o B:Nat)(es:Array MapEntry)(cl:Nat)(K:List UInt64)(m:es.toList.map (·.key)=K.map uV)(A:lz es cl)(P:K.length<=67108864)(w:World)(s:w.cell? ⟨j,o,none⟩=some (.map (some B)))(f:w.heap[B]? = some (.map es cl)):
 CallsIn Fence.wide 2 prog 424 #[.slice none 0 0,.func (.func 412) #[] #[.pointer (some ⟨j,o,none⟩)]] w λe W'=>∃(v:Value) (ys:List UInt64),e=.returned v/\ys.Perm K/\W'.ownsRow w.heap.size 30 1 v ys.length (ys.map uV)/\Below w.heap.size w W':=by
 obtain⟨i0,hi,C,E,F⟩:=info_parts YQ
 refine callsIn_of_wp_marks func424 rr trivial ?_ rr
 simp only[ntmps424,A9,w6,B9,Nat.reduceAdd,Nat.reduceSub,Array.replicate_succ,Array.replicate_zero,List.push_toArray,List.append_toArray,D4,E4]
 gi_wp2
 have Z:=Boxed.new w 82 (.slice none 0 0)
 have q:Below w.heap.size w (w.alloc (.cells #[.slice none 0 0] 82)):=(Below.refl _ w).alloc (j2 _) _
 have t:(w.alloc (.cells #[.slice none 0 0] 82)).cell? ⟨j,o,none⟩=some (.map (some B)):=(q.cell (p:=⟨j,o,none⟩) (vK s)).trans s
 have G:(w.alloc (.cells #[.slice none 0 0] 82)).heap[B]? = some (.map es cl):=(q.block B (u7.1 f).1).trans f
 refine wpIn_rangeFunc_ownG rr om (gf:=412) (lb:=#[.pointer (some ⟨j,o,none⟩)]) rr trivial (enters_of func412 (by kernel_rfl) rr)
  (aaa j o B es cl K m A _ t G) (λh k=>h.trans k) (λW l o o' h1 h2 h3 Q=>KeepsWalks.putObj _ h2 Q) (Below.refl _ _) (λ_=>rfl)
  (λpre W=>(∃v,Boxed W w.heap.size 82 v/\W.ownsRow (w.heap.size+1) 30 1 v pre.length (pre.map uV)/\True)/\Below w.heap.size w W)
  (λ_ _ _=>False)
  (OwnFrom.and (Own.from (holdsRow_own (w.heap.size+1) w.heap.size 82 30 1 (λpre:List UInt64=>pre.length) (λpre=>pre.map uV) (λ_ _=>True)) _) (ownFrom_below (j2 _) (by simp)))
  (λ_ _ _ _ _ R _ _=>R)
  ⟨⟨_,Z,World.ownsRow_nil _ _ _ _,trivial⟩,q⟩
  (λx=>{tmps:=#[.slice none 0 0,.func (.func 412) #[] #[.pointer (some ⟨j,o,none⟩)],.pointer (some ⟨w.heap.size,0,none⟩),undef,.slice none 0 0,uV x,.func (.func 412) #[] #[.pointer (some ⟨j,o,none⟩)],uV x,undef,undef,undef,undef,undef],defers:=[]}) ?assign ?body ?done ?stop
 case assign=>
  intro l x W K m
  gi_wp2
  exact m
 case body=>
  rintro l pre x W ⟨⟨v,hv,b,-⟩,f⟩ H
  have S:=hv.cell
  have M:pre.length<K.length:=H
  have T:=f.size
  have i:=b.lt
  have O:=Lib.hid i;clear i
  gi_wp2_with (gi_at_builtin;refine wpListIn_append_own _ rr _ _ 82 rr (w.heap.size+1) 30 i0 (.int .u64 0) 1 8 underlying82 hi C E F rr (by decide) _ _ _ rr (b.alloc _) ⟨W.heap.size,0,none⟩ 1 1 [uV x] rr rr (cell_one_new _ _ _) (by grind [Value.oneCell']) (by grind [maxLen]) om (by simp_all) ?_;intro v' w1 d hgrow _;obtain⟨g',z,rfl⟩:=ownsRow_succ d;obtain⟨r,I,U,u,J⟩:=hv.appended (by decide) (b.mono om) f.size (j2 _) (d.mono om) hgrow;have y:=d.kept (grownBy_setCell' w1 w.heap.size (.slice (some ⟨g',0,none⟩) (pre.length+1) z)) (.inr (r.not_row (by decide) d).symm);have t:=r.cell;have V:=r.frozen;have Y:=Lib.hid hgrow;clear hgrow)
  refine⟨u.from _,u.walks,⟨⟨_,I,?_,trivial⟩,f.trans J⟩⟩
  simp_all
 case done=>
  rintro D ys W hD X ⟨⟨v,hv,b,-⟩,f⟩ m
  have S:=hv.cell
  have hf:=hv.frozen
  obtain⟨a,n,c,rfl⟩:∃a n c,v=.slice a n c:=by
   rcases b.2 with⟨rfl,_⟩|⟨g,cap,_,rfl,_⟩
   ·simp_all
   simp_all
  gi_wp2
  refine⟨by simp,.inl ⟨_,_,rr,run_takeDeferred m,?_⟩⟩
  have N:w.heap.size+1<=D:=by simp_all
  have y:=ownsRow_putObj (W:=W) (b.mono (show w.heap.size<=w.heap.size+1 by omega)) (.deferred none) m rr
  have L:=f.trans (belowK_b (w:=w) (j2 _) W D _ (.deferred none) om m rr rr)
  refine⟨.slice a n c,?_,_,ys,rr,X,y,L⟩
  simp_all [results]
 simp_all
def abk(d o B:Nat)(es:Array MapEntry)(cl:Nat)(K:List UInt64)(f:es.toList.map (·.key)=K.map uV)(a:lz es cl)(b:K.length<=67108864)(w:World)(c:w.cell? ⟨d,o,none⟩=some (.map (some B)))(g:w.heap[B]? = some (.map es cl)):
 Calls prog 410 #[.func (.func 412) #[] #[.pointer (some ⟨d,o,none⟩)]] w λe W'=>∃(v:Value) (ys:List UInt64),e=.returned v/\ys.Perm K/\W'.ownsRow w.heap.size 30 1 v ys.length (ys.map uV)/\Below w.heap.size w W':=by
 have h:=callsIn_wide.1 (aou d o B es cl K f a b w c g)
 have j:∀args w,(callFunc 424 args).run prog w=.ok (.enter 424 args) w:=enters_of func424 (by kernel_rfl) rr
 go_enter func410,ntmps410
 go_wp2_with (go_at_call 424;refine h.mono ?_;rintro e w1 ⟨v,ys,rfl,h1,h2,i⟩)
 go_ret
 exact⟨_,ys,rr,h1,h2,i⟩
end
section
open Go.RowKit
abbrev uI(x:Int):PV:=.at (.int .u64 x)
abbrev UB(d:Array Int):aI:=.rows 1 (d.toList.map uI) true none 30
def cB(d:Array Int):dP (d.toList.map uI):=Xt (λ_=>rfl) _
theorem ae2(d:Array Int){i:Nat}(h:i<d.size):PV.cR (d.toList.map uI) (0+i)=some (uI d[i]!):=by simp_all [yR]
theorem cG(d:Array Int){i:Nat}(h:i<d.size){k:PV->Prop}(hk:k (uI d[i]!)):fF (d.toList.map uI) ((0+i:Nat):Int) k:=
 fF.intro _ (by grind [ae2]) (C7 _) hk
theorem LJ{α:Type}(f:α->PV)(x:α):∀(l:List α) (i:Nat),PV.eO (l.map f) i (f x)=(l.set i x).map f
 | [],i=>by cases i<;>rfl
 |_::_,0=>rfl
 |a::l,i+1=>congrArg (f a::·) (LJ f x l i)
theorem JP(d:Array Int)(i:Nat)(x:Int):PV.eO (d.toList.map uI) (0+i) (uI x)=(d.setIfInBounds i x).toList.map uI:=by grind [LJ]
def lD(d:Array Int){i j:Nat}(x:Int)(h:j<d.size){k:PV->Prop}(hk:∀z,k (uI z)):fF (PV.eO (d.toList.map uI) (0+i) (uI x)) ((0+j:Nat):Int) k:=by grind [JP,cG]
theorem aax(d:Array Int)(i j:Nat):PV.eO (PV.eO (d.toList.map uI) (0+i) (uI d[j]!)) (0+j) (uI d[i]!)=(Sort.swp d i j).toList.map uI:=by rw[JP,JP];rfl
def lc(d:Array Int)(i j:Nat){hp:Option aI}(h:hp=some (.rows 1 (PV.eO (PV.eO (d.toList.map uI) (0+i) (uI d[j]!)) (0+j) (uI d[i]!)) true none 30)):hp=some (UB (Sort.swp d i j)):=by grind [aax]
end
section
open Go.RowKit Go.Sort Go.Proofs.Tryz
def ahk(x:Int):PC 186 [uI x] (·=bo false):=aw func186<|aj.is true (l9 rr)<|ah
def kp(x y:Int):PC 441 [uI x,uI y] (·=bo (ltInt x y)):=aw func441<|ak (ahk x) rfl<|aj.is (ltInt x y) rfl<|ah
abbrev UL(f:FuncId)(args:List PV)(d d':Array Int)(r:PV)(j nx:Nat):Prop:=LC f (.aS j 0 d.size::args) [(j,UB d)] nx λq e=>q=r/\e=[(j,some (UB d')),(j,none)]
def AN{f:FuncId}{fn:Func}{args:List PV}{d d':Array Int}{r:PV}{j nx:Nat}(a:prog.funcs[f]? = some fn)(b:(fn.name== "runtime.NumGoroutine")=false)(c:Nat.beq nx j=false)(g:PV.ja (λi=>(PV.cR [j] i).getD 0) args=args)(k:PV.lq 1 args=true)
 (h:CU 1 prog GT tt fn (.aS 0 0 d.size::args) [UB d] [j] nx λq e=>q=r/\e=[(j,some (UB d')),(j,none)]):UL f args d d' r j nx:=by
 have:=fX (js:=[j]) (bs:=[UB d]) (args:=.aS 0 0 d.size::args) a b rr (by grind [cW]) rr ⟨⟨rr,cB d⟩,trivial⟩ k (Ah h)
 have e2:PV.ja (λi=>(PV.cR [j] i).getD 0) (.aS 0 0 d.size::args)=.aS j 0 d.size::args:=by
  show PV.aS j 0 d.size::PV.ja _ args=_
  rw[g]
 simp_all
def UL.at{f:FuncId}{args:List PV}{d d':Array Int}{r:PV}{j nx n:Nat}(h:UL f args d d' r j nx)(e:d.size=n):LC f (.aS j 0 n::args) [(j,UB d)] nx λq e=>q=r/\e=[(j,some (UB d')),(j,none)]:=e▸h
def ko{d d':Array Int}{r:PV}{j nx m:Nat}{s:AS}{fn:Func}(a:s.hp 0=some (UB d))(b:d=d')(c:lG tt s fn.results.toList λvs=>eH [0] 200 s.hp vs=some (vs,[])/\jy (vs.map PV.wk)=r/\PV.rn (oK [(0,j)]) r=r):sV tt fn [j] nx (λq e=>q=r/\e=[(j,some (UB d')),(j,none)]) m s:=by
 subst b;refine ey ?_;show lG tt s fn.results.toList _
 have mono:∀(l:List ResultVar) {k k':List PV->Prop},(∀vs,k vs->k' vs)->lG tt s l k->lG tt s l k':=by
  intro l;induction l with
  |nil=>intro k k' hk h;exact hk _ h
  |cons x l ih=>
   intro k k' hk h;cases x<;>grind [lG,Tr.wp_mono]
 refine mono _ (λvs h=>?_) c;obtain⟨h1,h2,f⟩:=h;refine fw.mk ⟨[(0,j)],200,vs,[],h1,rr,rr,⟨fk.mk ⟨_,a,cB d,.inr rr⟩,trivial⟩,?_,?_⟩
 ·rw[h2,f]
 ·show[(j,BP (s.hp 0))]++_=_
  rw[a];rfl
theorem km(d:Array Int)(i j:Nat):(Sort.swp d i j).size=d.size:=Sort.size_swp d i j
def ajo(d:Array Int)(a b:Nat)(hb:b<=d.size)(m:d.size<=67108864)(g:a<b)(j nx:Nat)(e:Nat.beq nx j=false):UL 439 [i64 a,i64 b] d (reverseRange d a b) (.aU []) j nx:=by
 refine AN func439 rr e rr rr ?_;obtain⟨b,rfl⟩:∃b',b=b'+1:=⟨b-1,om⟩;refine aF (fD b)<|cV.bA (ι:={p:Nat×Nat×Array Int//p.2.2.size=d.size/\p.2.1<=b/\p.1<=p.2.1+2/\reverseLoop p.1 p.2.1 p.2.2=reverseRange d a (b+1)}) ⟨λp=>[(6,i64 p.1.1),(7,i64 p.1.2.1)],[0,1,2],λp=>[(0,UB p.1.2.2)],[]⟩ (λp=>p.1.2.1+2-p.1.1) ⟨(a,b,d),rr,j2 _,by grind,rr⟩ ?_ ?_
 ·exact cS rr (cB _)
 rintro⟨⟨i,k,M⟩,l,hk,f,c⟩;dsimp only at l hk f c;refine aj.aN (λh1=>?_) (λh1=>?_)
 ·have h1:i<k:=fE h1;obtain⟨k,rfl⟩:∃k',k=k'+1:=⟨k-1,om⟩;rw[reverseLoop,z7 h1]at c;refine an<|aq.mk (bS (show k+1<d.size by omega))<|cG M (i:=k+1) om<|aq.mk (bS (show i<d.size by omega))<|cG M (i:=i) om<|aq.mk (bS (show i<d.size by omega))<|cG M (i:=i) om<|aq.mk (bS (show k+1<d.size by omega))<|lD M (i:=i) (j:=k+1) _ om λz=>?_
  refine az<|aF (dq i)<|aF (fD k)<|⟨⟨(i+1,k,Sort.swp M i (k+1)),by grind [km],by grind,by grind,c⟩,id,?_,?_⟩
  ·show k+2-(i+1)<k+1+2-i;omega
  exact eB ⟨⟨BB.br (lc M i (k+1) rr) (cB _),rr⟩,trivial⟩
 ·have h1:¬i<k:=λh=>j4 h1 (B1.2 h)
  rw[reverseLoop,y8 h1]at c;exact ab<|ko rr c ⟨rr,rr,rr⟩
def UM{a k:Nat}{N:Array Int}(h:k=0\/¬a<k\/ltInt N[k]! N[k-1]! = false):insInner ltInt a k N=N:=by cases k<;>grind [insInner]
def aes{a k:Nat}{N:Array Int}(h1:a<k+1)(h2:ltInt N[k+1]! N[k]! = true):insInner ltInt a (k+1) N=insInner ltInt a k (Sort.swp N (k+1) k):=by grind [insInner]
def acP(d:Array Int)(a b:Nat)(hb:b<=d.size)(o:d.size<=67108864)(q:a<=67108864)(j nx:Nat)(l:Nat.beq nx j=false):UL 435 [i64 a,i64 b] d (Sort.insertionSort ltInt d a b) (.aU []) j nx:=by
 refine AN func435 rr l rr rfl<|aF (dq a)<|cV.bA (ι:={p:Nat×Array Int//p.2.size=d.size/\a+1<=p.1/\insOuter ltInt a b p.1 p.2=Sort.insertionSort ltInt d a b}) ⟨λp=>[(6,i64 p.1.1)],[0,1,2],λp=>[(0,UB p.1.2)],[]⟩ (λp=>b-p.1.1) ⟨(a+1,d),rr,j2 _,rr⟩ ?_ ?_
 ·exact cS rr (cB _)
 rintro⟨⟨i,M⟩,n,hi,e⟩;dsimp only at n hi e;refine aj.aN (λh1=>?_) (λh1=>?_)
 ·have h1:i<b:=fE h1;rw[insOuter,z7 h1]at e;refine an<|cV.bA (ι:={p:Nat×Array Int//p.2.size=d.size/\p.1<=i/\insInner ltInt a p.1 p.2=insInner ltInt a i M}) ⟨λp=>[(7,i64 p.1.1)],[0,1,2,6],λp=>[(0,UB p.1.2)],[]⟩ (λp=>p.1.1) ⟨(i,M),n,j2 _,rr⟩ ?_ ?_
  ·exact cS rr (cB _)
  rintro⟨⟨k,N⟩,m,hk,c⟩;dsimp only at m hk c;refine aj.aN (λh2=>?_) (λh2=>?_)
  ·have h2:a<k:=fE h2;obtain⟨k,rfl⟩:∃k',k=k'+1:=⟨k-1,om⟩;have f:=kp N[k+1]! N[k]!;refine aq.mk (bS (show k+1<d.size by omega))<|cG N (i:=k+1) om<|aF (fD k)<|aq.mk (bS (show k<d.size by omega))<|cG N (i:=k) om ?_;cases g:ltInt N[k+1]! N[k]!
   case true=>
    rw[g]at f;rw[aes h2 g]at c;refine aJ f rfl<|az<|an<|aF (fD k)<|aF (fD k)<|aq.mk (bS (show k<d.size by omega))<|cG N (i:=k) om<|aq.mk (bS (show k+1<d.size by omega))<|cG N (i:=k+1) om<|aq.mk (bS (show k+1<d.size by omega))<|cG N (i:=k+1) om<|aq.mk (bS (show k<d.size by omega))<|lD N (i:=k+1) (j:=k) _ om λz=>?_
    refine az<|aF (fD k)<|⟨⟨(k,Sort.swp N (k+1) k),by grind [km],om,c⟩,id,D8 k,?_⟩;exact eB ⟨⟨BB.br (lc N (k+1) k rr) (cB _),rr⟩,trivial⟩
   rw[g]at f;rw[UM (.inr (.inr g))]at c;refine aJ f rfl<|az<|ab<|aF (dq i)<|⟨⟨(i+1,N),m,om,by simp_all⟩,id,?_,?_⟩
   ·show b-(i+1)<b-i;omega
   exact cS rr (cB _)
  ·have h2:¬a<k:=λh=>j4 h2 (B1.2 h)
   rw[UM (.inr (.inl h2))]at c;refine az<|ab<|aF (dq i)<|⟨⟨(i+1,N),m,om,by simp_all⟩,id,?_,?_⟩
   ·show b-(i+1)<b-i;omega
   exact cS rr (cB _)
 ·have h1:¬i<b:=λh=>j4 h1 (B1.2 h)
  rw[insOuter,y8 h1]at e;exact ab<|ko rr e ⟨rr,rr,rr⟩
def aml(a:Nat)(h:a<=67108864):IntKind.i64.wrap (2*(a:Int))=((2*a:Nat):Int):=wrap_i64 om om
def DG{hi first bz:Nat}{d:Array Int}(h:¬hi<=2*bz+1)(c:Nat)(b:c<hi)(a:(c=2*bz+2/\ltInt d[first+(2*bz+1)]! d[first+(2*bz+1)+1]! = true)\/(c=2*bz+1/\¬(2*bz+2<hi/\ltInt d[first+(2*bz+1)]! d[first+(2*bz+1)+1]! = true))):
 siftDown ltInt hi first bz d=if ltInt d[first+bz]! d[first+c]! = true then siftDown ltInt hi first c (Sort.swp d (first+bz) (first+c))else d:=by
 conv=>lhs;unfold siftDown
 rw[dif_neg h]
 rcases a with⟨rfl,e⟩|⟨rfl,f⟩
 ·rw[z7 (by simp_all),dif_pos b]
  grind
 ·rw[y8 (by simp_all)]
  grind
def Xd(d:Array Int)(lo hi first:Nat)(o:first+hi<=d.size)(q:d.size<=67108864)(f:lo<=67108864)(j nx:Nat)(g:Nat.beq nx j=false):UL 446 [i64 lo,i64 hi,i64 first] d (siftDown ltInt hi first lo d) (.aU []) j nx:=by
 refine AN func446 rfl g rfl rfl<|cV.bA (ι:={p:Nat×Array Int//p.2.size=d.size/\p.1<=67108864/\siftDown ltInt hi first p.1 p.2=siftDown ltInt hi first lo d}) ⟨λp=>[(8,i64 p.1.1)],[0,1,2,3],λp=>[(0,UB p.1.2)],[]⟩ (λp=>hi-p.1.1) ⟨(lo,d),rfl,f,rfl⟩ ?_ ?_
 ·exact cS rr (cB _)
 rintro⟨⟨bz,M⟩,n,m,c⟩;dsimp only at n m c;refine aF (aml bz m)<|aF (dq (2*bz))<|aj.aN (λh1=>?_) (λh1=>?_)
 ·have h1:hi<=2*bz+1:=tl h1;refine an ?_;have k:siftDown ltInt hi first bz M=M:=by grind [siftDown]
  exact ko rr (k.symm.trans c) ⟨rr,rr,rr⟩
 ·have h1:¬hi<=2*bz+1:=λh=>j4 h1 (E8.2 h)
  refine ab<|aF (dq (2*bz+1))<|aj.aN (λh2=>?_) (λh2=>?_)
  ·have h2:2*bz+1+1<hi:=fE h2;refine aF (eJ first (2*bz+1))<|aq.mk (bS (show first+(2*bz+1)<d.size by omega))<|cG M (i:=first+(2*bz+1)) om<|aF (eJ first (2*bz+1))<|aF (dq (first+(2*bz+1)))<|aq.mk (bS (show first+(2*bz+1)+1<d.size by omega))<|cG M (i:=first+(2*bz+1)+1) om ?_;cases l:ltInt M[first+(2*bz+1)]! M[first+(2*bz+1)+1]!
   case true=>
    have b:=kp M[first+(2*bz+1)]! M[first+(2*bz+1)+1]!;rw[l]at b;have a:=DG (first:=first) (d:=M) h1 (2*bz+2) om (.inl ⟨rfl,l⟩);refine aJ b rfl<|az<|an<|aF (dq (2*bz+1))<|aF (eJ first bz)<|aq.mk (bS (show first+bz<d.size by omega))<|cG M (i:=first+bz) om<|aF (eJ first (2*bz+2))<|aq.mk (bS (show first+(2*bz+2)<d.size by omega))<|cG M (i:=first+(2*bz+2)) om ?_;cases e:ltInt M[first+bz]! M[first+(2*bz+2)]!
    case true=>
     have b:=kp M[first+bz]! M[first+(2*bz+2)]!;rw[e]at b a;rw[z7 rfl]at a;refine aJ b rfl<|az<|ab<|aF (eJ first bz)<|aF (eJ first (2*bz+2))<|aF (eJ first (2*bz+2))<|aq.mk (bS (show first+(2*bz+2)<d.size by omega))<|cG M (i:=first+(2*bz+2)) om<|aF (eJ first bz)<|aq.mk (bS (show first+bz<d.size by omega))<|cG M (i:=first+bz) om<|aq.mk (bS (show first+bz<d.size by omega))<|cG M (i:=first+bz) om<|aq.mk (bS (show first+(2*bz+2)<d.size by omega)) ?_;refine lD M (i:=first+bz) (j:=first+(2*bz+2)) _ om λz=>?_
     refine az<|⟨⟨(2*bz+2,Sort.swp M (first+bz) (first+(2*bz+2))),by grind [km],om,a.symm.trans c⟩,id,by show hi-(2*bz+2)<hi-bz;omega,?_⟩;exact eB ⟨⟨BB.br (lc M (first+bz) (first+(2*bz+2)) rfl) (cB _),rfl⟩,trivial⟩
    have b:=kp M[first+bz]! M[first+(2*bz+2)]!;rw[e]at b a;rw[y8 I1]at a;exact aJ b rfl<|az<|an<|ko rr (a.symm.trans c) ⟨rr,rr,rr⟩
   have b:=kp M[first+(2*bz+1)]! M[first+(2*bz+1)+1]!;rw[l]at b;have a:=DG (first:=first) (d:=M) h1 (2*bz+1) om (.inr ⟨rfl,λh=>by simp_all⟩);refine aJ b rfl<|az<|ab<|aF (eJ first bz)<|aq.mk (bS (show first+bz<d.size by omega))<|cG M (i:=first+bz) om<|aF (eJ first (2*bz+1))<|aq.mk (bS (show first+(2*bz+1)<d.size by omega))<|cG M (i:=first+(2*bz+1)) om ?_;cases e:ltInt M[first+bz]! M[first+(2*bz+1)]!
   case true=>
    have b:=kp M[first+bz]! M[first+(2*bz+1)]!;rw[e]at b a;rw[z7 rfl]at a;refine aJ b rfl<|az<|ab<|aF (eJ first bz)<|aF (eJ first (2*bz+1))<|aF (eJ first (2*bz+1))<|aq.mk (bS (show first+(2*bz+1)<d.size by omega))<|cG M (i:=first+(2*bz+1)) om<|aF (eJ first bz)<|aq.mk (bS (show first+bz<d.size by omega))<|cG M (i:=first+bz) om<|aq.mk (bS (show first+bz<d.size by omega))<|cG M (i:=first+bz) om<|aq.mk (bS (show first+(2*bz+1)<d.size by omega)) ?_;refine lD M (i:=first+bz) (j:=first+(2*bz+1)) _ om λz=>?_
    refine az<|⟨⟨(2*bz+1,Sort.swp M (first+bz) (first+(2*bz+1))),by grind [km],om,a.symm.trans c⟩,id,by show hi-(2*bz+1)<hi-bz;omega,?_⟩;exact eB ⟨⟨BB.br (lc M (first+bz) (first+(2*bz+1)) rfl) (cB _),rfl⟩,trivial⟩
   have b:=kp M[first+bz]! M[first+(2*bz+1)]!;rw[e]at b a;rw[y8 I1]at a;exact aJ b rfl<|az<|an<|ko rr (a.symm.trans c) ⟨rr,rr,rr⟩
  ·have h2:¬2*bz+1+1<hi:=λh=>j4 h2 (B1.2 h)
   have a:=DG (first:=first) (d:=M) h1 (2*bz+1) om (.inr ⟨rfl,λh=>h2 h.1⟩);refine az<|ab<|aF (eJ first bz)<|aq.mk (bS (show first+bz<d.size by omega))<|cG M (i:=first+bz) om<|aF (eJ first (2*bz+1))<|aq.mk (bS (show first+(2*bz+1)<d.size by omega))<|cG M (i:=first+(2*bz+1)) om ?_;cases e:ltInt M[first+bz]! M[first+(2*bz+1)]!
   case true=>
    have b:=kp M[first+bz]! M[first+(2*bz+1)]!;rw[e]at b a;rw[z7 rfl]at a;refine aJ b rfl<|az<|ab<|aF (eJ first bz)<|aF (eJ first (2*bz+1))<|aF (eJ first (2*bz+1))<|aq.mk (bS (show first+(2*bz+1)<d.size by omega))<|cG M (i:=first+(2*bz+1)) om<|aF (eJ first bz)<|aq.mk (bS (show first+bz<d.size by omega))<|cG M (i:=first+bz) om<|aq.mk (bS (show first+bz<d.size by omega))<|cG M (i:=first+bz) om<|aq.mk (bS (show first+(2*bz+1)<d.size by omega)) ?_;refine lD M (i:=first+bz) (j:=first+(2*bz+1)) _ om λz=>?_
    refine az<|⟨⟨(2*bz+1,Sort.swp M (first+bz) (first+(2*bz+1))),by grind [km],om,a.symm.trans c⟩,id,by show hi-(2*bz+1)<hi-bz;omega,?_⟩;exact eB ⟨⟨BB.br (lc M (first+bz) (first+(2*bz+1)) rfl) (cB _),rfl⟩,trivial⟩
   have b:=kp M[first+bz]! M[first+(2*bz+1)]!;rw[e]at b a;rw[y8 I1]at a;exact aJ b rfl<|az<|an<|ko rr (a.symm.trans c) ⟨rr,rr,rr⟩
def pm:Nat->Int
 |0=>-1
 |k+1=>(k:Int)
def KX(k:Nat)(h:k<=67108864):IntKind.i64.wrap ((k:Int)-1)=pm k:=by
 cases k with
 |zero=>rfl
 |succ k=>exact fD k om
def aeB(k:Nat)(h:k<=67108864):IntKind.i64.wrap ((k:Int).tdiv 2)=pm (k / 2+1):=wrap_i64 (show Int.tdiv (Int.ofNat k) (Int.ofNat 2)=pm (k / 2+1)from rr) (by show _<=((k / 2:Nat):Int)/\((k / 2:Nat):Int)<=_;omega)
def IK(hi first:Nat):∀(n bz:Nat) (d:Array Int),hi-bz<=n->(siftDown ltInt hi first bz d).size=d.size
 |n,bz,d,f=>by
  by_cases h:hi<=2*bz+1
  ·grind [siftDown]
  ·obtain⟨c,b,e,a⟩:∃c,c<hi/\bz<c/\((c=2*bz+2/\ltInt d[first+(2*bz+1)]! d[first+(2*bz+1)+1]! = true)\/(c=2*bz+1/\¬(2*bz+2<hi/\ltInt d[first+(2*bz+1)]! d[first+(2*bz+1)+1]! = true))):=by
    by_cases h2:2*bz+2<hi/\ltInt d[first+(2*bz+1)]! d[first+(2*bz+1)+1]! = true
    ·exact⟨2*bz+2,h2.1,om,.inl ⟨rr,h2.2⟩⟩
    ·exact⟨2*bz+1,om,om,.inr ⟨rr,h2⟩⟩
   rw[DG h c b a]
   split
   ·cases n with
    |zero=>omega
    |succ n=>rw[IK hi first n c _ om,km]
   ·rfl
def afX(d:Array Int)(a b:Nat)(hb:b<=d.size)(r:d.size<=67108864)(m:a<b)(j nx:Nat)(g:Nat.beq nx j=false):UL 436 [i64 a,i64 b] d (heapSort ltInt d a b) (.aU []) j nx:=by
 refine AN func436 rr g rr rr ?_;obtain⟨n,o⟩:∃n,b-a=n+1:=⟨b-a-1,om⟩;have q:heapSort ltInt d a b=heapPop ltInt a (n+1) (heapBuild ltInt (n+1) a (n / 2+1) d):=by grind [heapSort]
 rw[q];have c:=gm b a om om;rw[o]at c;refine aF c<|aF (fD n)<|c_<|aF (aeB n om)<|cV.bA (ι:={p:Nat×Array Int//p.2.size=d.size/\p.1<=n / 2+1/\heapBuild ltInt (n+1) a p.1 p.2=heapBuild ltInt (n+1) a (n / 2+1) d}) ⟨λp=>[(9,i64 (pm p.1.1))],[0,6,7,8],λp=>[(0,UB p.1.2)],[]⟩ (λp=>p.1.1) ⟨(n / 2+1,d),rr,j2 _,rr⟩ ?_ ?_
 ·exact cS rr (cB _)
 rintro⟨⟨k,M⟩,f,hk,e⟩;dsimp only at f hk e;cases k with
 |succ k=>
  refine aj.t (show(0:Int)<=(k:Int)by omega)<|an<|bu.bH [0] (n:=200) ((Xd M k (n+1) a om om om 0 _ rr).at f) rr ⟨rr,trivial⟩<|aF (KX k om)<|⟨⟨(k,siftDown ltInt (n+1) a k M),by show(siftDown ltInt (n+1) a k M).size=_;rw[IK _ _ _ _ _ (j2 _),f],om,e⟩,id,D8 k,?_⟩;exact cS rr (cB _)
 |zero=>
  refine aE<|ab ?_;have e:M=heapBuild ltInt (n+1) a (n / 2+1) d:=e;refine aF (KX (n+1) om)<|cV.bA (ι:={p:Nat×Array Int//p.2.size=d.size/\p.1<=n+1/\heapPop ltInt a p.1 p.2=heapPop ltInt a (n+1) M}) ⟨λp=>[(10,i64 (pm p.1.1))],[0,6,7],λp=>[(0,UB p.1.2)],[]⟩ (λp=>p.1.1) ⟨(n+1,M),f,j2 _,rr⟩ ?_ ?_
  ·exact cS rr (cB _)
  rintro⟨⟨k,N⟩,h,hk,l⟩;dsimp only at h hk l;cases k with
  |succ k=>
   refine aj.t (show(0:Int)<=(k:Int)by omega)<|an<|aF (eJ a k)<|aF (eJ a k)<|aq.mk (bS (show a+k<d.size by omega))<|cG N (i:=a+k) om<|aq.mk (bS (show a<d.size by omega))<|cG N (i:=a) om<|aq.mk (bS (show a<d.size by omega))<|cG N (i:=a) om<|aq.mk (bS (show a+k<d.size by omega))<|lD N (i:=a) (j:=a+k) _ om λz=>?_
   refine az<|bu.bH [0] (n:=200) ((Xd (Sort.swp N a (a+k)) 0 k a (by grind [km]) (by grind [km]) om 0 _ rr).at ((km _ _ _).trans h)) rr ⟨lc N a (a+k) rr,trivial⟩<|aF (KX k om)<|⟨⟨(k,siftDown ltInt k a 0 (Sort.swp N a (a+k))),by show(siftDown ltInt k a 0 (Sort.swp N a (a+k))).size=_;rw[IK _ _ _ _ _ (j2 _),km,h],om,l⟩,id,D8 k,?_⟩;exact cS rr (cB _)
  |zero=>
   exact aE<|ab<|ko rr (l.trans (congrArg (heapPop ltInt a (n+1)) e)) ⟨rr,rr,rr⟩
def zL{f:FuncId}{fn:Func}{body:Code}{args:List PV}{d d':Array Int}{r:PV}{j nx:Nat}(b:prog.funcs[f]? = some fn)(g:(fn.name== "runtime.NumGoroutine")=false)(c:fn.body=some body)(a:args.length+1<=fn.ntmps)(k:Nat.beq nx j=false)(l:PV.ja (λi=>(PV.cR [j] i).getD 0) args=args)(m:PV.lq 1 args=true)
 (h:SV prog GT 1 fn.ntmps body 1 ⟨mf (.aS 0 0 d.size::args) 0,sm [UB d] 0⟩ (yg tt fn [j] nx λq e=>q=r/\e=[(j,some (UB d')),(j,none)])):UL f args d d' r j nx:=by
 have:=V' (js:=[j]) (bs:=[UB d]) (args:=.aS 0 0 d.size::args) cz b (enters_of b g c) rr (by grind [cW]) rr ⟨⟨rr,cB d⟩,trivial⟩ m c a h
 have e2:PV.ja (λi=>(PV.cR [j] i).getD 0) (.aS 0 0 d.size::args)=.aS j 0 d.size::args:=by
  show PV.aS j 0 d.size::PV.ja _ args=_
  rw[l]
 simp_all
def Jv{p:Int->Bool}{d:Array Int}{j i:Nat}(h:i<=j)(hp:p d[i]! = true):scanUp p d j i=scanUp p d j (i+1):=by grind [scanUp]
def xJ{p:Int->Bool}{d:Array Int}{j i:Nat}(h:¬i<=j\/p d[i]! = false):scanUp p d j i=i:=by grind [scanUp]
def Gg{p:Int->Bool}{d:Array Int}{i j:Nat}(h:i<=j+1)(hp:p d[j+1]! = true):scanDown p d i (j+1)=scanDown p d i j:=by grind [scanDown]
def yi{p:Int->Bool}{d:Array Int}{i j:Nat}(h:¬i<=j\/p d[j]! = false):scanDown p d i j=j:=by cases j<;>grind [scanDown]
def akJ(d:Array Int)(a b pivot:Nat)(G:a<=pivot)(hp:pivot<b)(hb:b<=d.size)(H:d.size<=67108864)(j nx:Nat)(t:Nat.beq nx j=false):UL 443 [i64 a,i64 b,i64 pivot] d (partition ltInt d a b pivot).2.2 (.aU [i64 ((partition ltInt d a b pivot).1:Nat),bo (partition ltInt d a b pivot).2.1]) j nx:=by
 refine zL func443 rr rr (o9 rr) t rr rr ?_;obtain⟨b,rfl⟩:∃b',b=b'+1:=⟨b-1,om⟩;obtain⟨M,s⟩:∃M,M=Sort.swp d a pivot:=⟨_,rfl⟩;have J:M.size=d.size:=by grind [km]
 refine SV.seq cz cM<|SV.cut (⟨λ_=>[],[0,1,2],λ_=>[(0,UB M)],[]⟩:dM Unit) (λ_=>True) (SV.of cz cM ?_) ?_
 ·show vc _ _ _ _ _ _ _ _ _
  refine aq.mk (bS (show pivot<d.size by omega))<|cG d (i:=pivot) om<|aq.mk (bS (show a<d.size by omega))<|cG d (i:=a) om<|aq.mk (bS (show a<d.size by omega))<|cG d (i:=a) om<|aq.mk (bS (show pivot<d.size by omega))<|lD d (i:=a) (j:=pivot) _ om λz=>?_
  exact az<|⟨(),id,trivial,trivial,⟨⟨_,rr,rr,rr⟩,⟨_,rr,rr,rr⟩,⟨_,rr,rr,rr⟩,trivial⟩,⟨⟨BB.br (by rw[s];exact lc d a pivot rr) (cB _),rr⟩,trivial⟩,trivial,rr,rr,rr⟩
 rintro⟨⟩ -
 refine SV.seq cz cM<|aF (dq a)<|aF (fD b)<|SV.cut (⟨λi=>[(10,i64 i)],[0,1,11],λ_=>[],[0]⟩:dM Nat) (λi=>a+1<=i/\i<=b+1/\i=scanUp (λx=>ltInt x M[a]!) M (b) (a+1)) (SV.of cz cM ?_) ?_
 ·refine cV.bA (ι:={i:Nat//a+1<=i/\i<=b+1/\scanUp (λx=>ltInt x M[a]!) M (b) i=scanUp (λx=>ltInt x M[a]!) M (b) (a+1)}) ⟨λi=>[(10,i64 i.1)],[0,1,11],λ_=>[],[0]⟩ (λi=>(b)+1-i.1) ⟨a+1,om,om,rr⟩ ?_ ?_
  ·exact gM ⟨⟨_,rr,BB.br rr (cB _),rr⟩,trivial⟩
  rintro⟨i,hi,n,c⟩;refine aj.aN (λh1=>?_) (λh1=>?_)
  ·have h1:(i<=b):=tl h1;refine aq.mk (bS (show i<d.size by omega))<|cG M (i:=i) om<|aq.mk (bS (show a<d.size by omega))<|cG M (i:=a) om ?_;have f:=kp M[i]! M[a]!;cases e:ltInt M[i]! M[a]!
   case true=>
    rw[e]at f;rw[Jv (p:=λx=>ltInt x M[a]!) om e]at c;refine aJ f rfl<|az<|an<|aF (dq i)<|⟨⟨i+1,om,om,c⟩,id,by show(b)+1-(i+1)<(b)+1-i;omega,?_⟩;exact gM ⟨⟨_,rr,BB.br rr (cB _),rr⟩,trivial⟩
   rw[e]at f;rw[xJ (p:=λx=>ltInt x M[a]!) (.inr e)]at c;exact aJ f rfl<|az<|ab<|⟨i,id,⟨om,om,c⟩,(gM ⟨⟨_,rr,BB.br rr (cB _),rr⟩,trivial⟩)⟩
  ·have h1:¬(i<=b):=λh=>j4 h1 (E8.2 h)
   rw[xJ (p:=λx=>ltInt x M[a]!) (.inl om)]at c;exact az<|ab<|⟨i,id,⟨om,om,c⟩,(gM ⟨⟨_,rr,BB.br rr (cB _),rr⟩,trivial⟩)⟩
 rintro I ⟨u,v,o⟩;refine SV.cut (⟨λi=>[(11,i64 i)],[0,1,10],λ_=>[],[0]⟩:dM Nat) (λi=>I-1<=i/\i<=b/\i=scanDown (λx=>!ltInt x M[a]!) M (I) (b)) (SV.of cz cM ?_) ?_
 ·refine cV.bA (ι:={i:Nat//I-1<=i/\i<=b/\scanDown (λx=>!ltInt x M[a]!) M (I) i=scanDown (λx=>!ltInt x M[a]!) M (I) (b)}) ⟨λi=>[(11,i64 i.1)],[0,1,10],λ_=>[],[0]⟩ (λi=>i.1) ⟨b,om,om,rr⟩ ?_ ?_
  ·exact gM ⟨⟨_,rr,BB.br rr (cB _),rr⟩,trivial⟩
  rintro⟨i,hi,n,c⟩;refine aj.aN (λh1=>?_) (λh1=>?_)
  ·have h1:(I<=i):=tl h1;obtain⟨i,rfl⟩:∃i',i=i'+1:=⟨i-1,om⟩;refine aq.mk (bS (show i+1<d.size by omega))<|cG M (i:=i+1) om<|aq.mk (bS (show a<d.size by omega))<|cG M (i:=a) om ?_;have f:=kp M[i+1]! M[a]!;cases e:ltInt M[i+1]! M[a]!
   ·rw[e]at f;rw[Gg (p:=λx=>!ltInt x M[a]!) om (congrArg Bool.not e)]at c;refine aJ f rfl<|az<|an<|aF (fD i)<|⟨⟨i,om,om,c⟩,id,by exact D8 i,?_⟩;exact gM ⟨⟨_,rr,BB.br rr (cB _),rr⟩,trivial⟩
   rw[e]at f;rw[yi (p:=λx=>!ltInt x M[a]!) (.inr (congrArg Bool.not e))]at c;exact aJ f rfl<|az<|ab<|⟨(i+1),id,⟨om,om,c⟩,(gM ⟨⟨_,rr,BB.br rr (cB _),rr⟩,trivial⟩)⟩
  ·have h1:¬(I<=i):=λh=>j4 h1 (E8.2 h)
   rw[yi (p:=λx=>!ltInt x M[a]!) (.inl om)]at c;exact az<|ab<|⟨i,id,⟨om,om,c⟩,(gM ⟨⟨_,rr,BB.br rr (cB _),rr⟩,trivial⟩)⟩
 rintro k ⟨w,y,q⟩;have B:partition ltInt d a (b+1) pivot=if I>k then(k,true,Sort.swp M k a)else((partLoop ltInt a (I+1) (k-1) (Sort.swp M I k)).1,false,Sort.swp (partLoop ltInt a (I+1) (k-1) (Sort.swp M I k)).2 (partLoop ltInt a (I+1) (k-1) (Sort.swp M I k)).1 a):=by
  rw[q,o,s];rfl
 rw[B];clear B;refine SV.seq cz cM<|aj.aN (λh1=>?_) (λh1=>?_)
 ·have h1:k<I:=fE h1;rw[z7 h1];refine an<|aq.mk (bS (show a<d.size by omega))<|cG M (i:=a) om<|aq.mk (bS (show k<d.size by omega))<|cG M (i:=k) om<|aq.mk (bS (show k<d.size by omega))<|cG M (i:=k) om<|aq.mk (bS (show a<d.size by omega))<|lD M (i:=k) (j:=a) _ om λz=>?_
  exact az<|ko (lc M k a rr) rr ⟨rr,rr,rr⟩
 have h1:¬k<I:=λh=>j4 h1 (B1.2 h)
 rw[y8 h1];obtain⟨k,rfl⟩:∃k',k=k'+1:=⟨k-1,om⟩;refine ab ?_;obtain⟨L,C⟩:∃L,L=Sort.swp M I (k+1):=⟨_,rfl⟩;have A:L.size=d.size:=by grind [km]
 rw[show k+1-1=k from rr,<-C];refine SV.cut (⟨λ_=>[],[0,1,10,11],λ_=>[(0,UB L)],[]⟩:dM Unit) (λ_=>True) (SV.of cz cM ?_) ?_
 ·show vc _ _ _ _ _ _ _ _ _
  refine aq.mk (bS (show k+1<d.size by omega))<|cG M (i:=k+1) om<|aq.mk (bS (show I<d.size by omega))<|cG M (i:=I) om<|aq.mk (bS (show I<d.size by omega))<|cG M (i:=I) om<|aq.mk (bS (show k+1<d.size by omega))<|lD M (i:=I) (j:=k+1) _ om λz=>?_
  exact az<|⟨(),id,trivial,trivial,⟨⟨_,rr,rr,rr⟩,⟨_,rr,rr,rr⟩,⟨_,rr,rr,rr⟩,⟨_,rr,rr,rr⟩,trivial⟩,⟨⟨BB.br (by rw[C];exact lc M I (k+1) rr) (cB _),rr⟩,trivial⟩,trivial,rr,rr,rr⟩
 rintro⟨⟩ -
 refine SV.seq cz cM<|aF (dq I)<|SV.seq cz cM<|aF (fD k) ?_;obtain⟨R,c⟩:∃R,R=partLoop ltInt a (I+1) k L:=⟨_,rfl⟩;rw[<-c];refine SV.cut (⟨λ_=>[(11,i64 (R.1:Nat))],[0,1],λ_=>[(0,UB R.2)],[]⟩:dM Unit) (λ_=>R.1<=b/\R.2.size=d.size) (SV.block ?_) ?_
 ·refine SV.loop (ι:={p:Nat×Nat×Array Int//p.2.2.size=d.size/\a+1<=p.1/\p.1<=p.2.1+2/\p.2.1<=b/\partLoop ltInt a p.1 p.2.1 p.2.2=R}) ⟨λp=>[(10,i64 p.1.1),(11,i64 p.1.2.1)],[0,1],λp=>[(0,UB p.1.2.2)],[]⟩ (λp=>p.1.2.1+1-p.1.1) ⟨(I+1,k,L),A,om,by simp_all,by grind,c.symm⟩ ?_ ?_
  ·exact cS rr (cB _)
  rintro⟨⟨i0,m,N⟩,D,h1,h2,e,r⟩;dsimp only at D h1 h2 e r;refine SV.block<|SV.cut (⟨λi=>[(10,i64 i)],[0,1,11],λ_=>[],[0]⟩:dM Nat) (λi=>i0<=i/\i<=m+2/\i=scanUp (λx=>ltInt x N[a]!) N (m) (i0)) (SV.of cz cM ?_) ?_
  ·refine cV.bA (ι:={i:Nat//i0<=i/\i<=m+2/\scanUp (λx=>ltInt x N[a]!) N (m) i=scanUp (λx=>ltInt x N[a]!) N (m) (i0)}) ⟨λi=>[(10,i64 i.1)],[0,1,11],λ_=>[],[0]⟩ (λi=>(m)+1-i.1) ⟨i0,om,om,rr⟩ ?_ ?_
   ·exact gM ⟨⟨_,rr,BB.br rr (cB _),rr⟩,trivial⟩
   rintro⟨i,hi,n,c⟩;refine aj.aN (λg=>?_) (λg=>?_)
   ·have g:(i<=m):=tl g;refine aq.mk (bS (show i<d.size by omega))<|cG N (i:=i) om<|aq.mk (bS (show a<d.size by omega))<|cG N (i:=a) om ?_;have f:=kp N[i]! N[a]!;cases e:ltInt N[i]! N[a]!
    case true=>
     rw[e]at f;rw[Jv (p:=λx=>ltInt x N[a]!) om e]at c;refine aJ f rfl<|az<|an<|aF (dq i)<|⟨⟨i+1,om,om,c⟩,id,by show(m)+1-(i+1)<(m)+1-i;omega,?_⟩;exact gM ⟨⟨_,rr,BB.br rr (cB _),rr⟩,trivial⟩
    rw[e]at f;rw[xJ (p:=λx=>ltInt x N[a]!) (.inr e)]at c;exact aJ f rfl<|az<|ab<|⟨i,id,⟨om,om,c⟩,(gM ⟨⟨_,rr,BB.br rr (cB _),rr⟩,trivial⟩)⟩
   ·have g:¬(i<=m):=λh=>j4 g (E8.2 h)
    rw[xJ (p:=λx=>ltInt x N[a]!) (.inl om)]at c;exact az<|ab<|⟨i,id,⟨om,om,c⟩,(gM ⟨⟨_,rr,BB.br rr (cB _),rr⟩,trivial⟩)⟩
  rintro l ⟨u,v,o⟩;refine SV.cut (⟨λi=>[(11,i64 i)],[0,1,10],λ_=>[],[0]⟩:dM Nat) (λi=>l-2<=i/\i<=m/\i=scanDown (λx=>!ltInt x N[a]!) N (l) (m)) (SV.of cz cM ?_) ?_
  ·refine cV.bA (ι:={i:Nat//l-2<=i/\i<=m/\scanDown (λx=>!ltInt x N[a]!) N (l) i=scanDown (λx=>!ltInt x N[a]!) N (l) (m)}) ⟨λi=>[(11,i64 i.1)],[0,1,10],λ_=>[],[0]⟩ (λi=>i.1) ⟨m,om,om,rr⟩ ?_ ?_
   ·exact gM ⟨⟨_,rr,BB.br rr (cB _),rr⟩,trivial⟩
   rintro⟨i,hi,n,c⟩;refine aj.aN (λg=>?_) (λg=>?_)
   ·have g:(l<=i):=tl g;obtain⟨i,rfl⟩:∃i',i=i'+1:=⟨i-1,om⟩;refine aq.mk (bS (show i+1<d.size by omega))<|cG N (i:=i+1) om<|aq.mk (bS (show a<d.size by omega))<|cG N (i:=a) om ?_;have f:=kp N[i+1]! N[a]!;cases e:ltInt N[i+1]! N[a]!
    ·rw[e]at f;rw[Gg (p:=λx=>!ltInt x N[a]!) om (congrArg Bool.not e)]at c;refine aJ f rfl<|az<|an<|aF (fD i)<|⟨⟨i,om,om,c⟩,id,by exact D8 i,?_⟩;exact gM ⟨⟨_,rr,BB.br rr (cB _),rr⟩,trivial⟩
    rw[e]at f;rw[yi (p:=λx=>!ltInt x N[a]!) (.inr (congrArg Bool.not e))]at c;exact aJ f rfl<|az<|ab<|⟨(i+1),id,⟨om,om,c⟩,(gM ⟨⟨_,rr,BB.br rr (cB _),rr⟩,trivial⟩)⟩
   ·have g:¬(l<=i):=λh=>j4 g (E8.2 h)
    rw[yi (p:=λx=>!ltInt x N[a]!) (.inl om)]at c;exact az<|ab<|⟨i,id,⟨om,om,c⟩,(gM ⟨⟨_,rr,BB.br rr (cB _),rr⟩,trivial⟩)⟩
  rintro K ⟨w,y,q⟩;rw[partLoop_eq,<-o,<-q]at r;refine SV.seq cz cM<|aj.aN (λg=>?_) (λg=>?_)
  ·have g:K<l:=fE g;rw[z7 g]at r;refine an ?_;subst r;refine⟨(),id,⟨om,D⟩,?_⟩;exact cS rr (cB _)
  have g:¬K<l:=λh=>j4 g (B1.2 h)
  rw[y8 g]at r;obtain⟨K,rfl⟩:∃k',K=k'+1:=⟨K-1,om⟩;refine ab<|SV.of cz cM<|aq.mk (bS (show K+1<d.size by omega))<|cG N (i:=K+1) om<|aq.mk (bS (show l<d.size by omega))<|cG N (i:=l) om<|aq.mk (bS (show l<d.size by omega))<|cG N (i:=l) om<|aq.mk (bS (show K+1<d.size by omega))<|lD N (i:=l) (j:=K+1) _ om λz=>?_
  refine az<|aF (dq l)<|aF (fD K)<|⟨⟨(l+1,K,Sort.swp N l (K+1)),by grind [km],om,by simp_all,by grind,r⟩,id,by show K+1-(l+1)<m+1-i0;omega,?_⟩;exact eB ⟨⟨BB.br (lc N l (K+1) rr) (cB _),rr⟩,trivial⟩
 rintro⟨⟩ ⟨E,F⟩;refine SV.of cz cM<|aq.mk (bS (show a<d.size by omega))<|cG R.2 (i:=a) om<|aq.mk (bS (show R.1<d.size by omega))<|cG R.2 (i:=R.1) om<|aq.mk (bS (show R.1<d.size by omega))<|cG R.2 (i:=R.1) om<|aq.mk (bS (show a<d.size by omega))<|lD R.2 (i:=R.1) (j:=a) _ om λz=>?_
 exact az<|ko (lc R.2 R.1 a rr) rr ⟨rr,rr,rr⟩
def agI(d:Array Int)(a b pivot:Nat)(C:a<=pivot)(hp:pivot<b)(hb:b<=d.size)(D:d.size<=67108864)(j nx:Nat)(o:Nat.beq nx j=false):UL 442 [i64 a,i64 b,i64 pivot] d (partitionEqual ltInt d a b pivot).2 (i64 ((partitionEqual ltInt d a b pivot).1:Nat)) j nx:=by
 refine zL func442 rr rr (o9 rr) o rr rr ?_;obtain⟨b,rfl⟩:∃b',b=b'+1:=⟨b-1,om⟩;obtain⟨M,n⟩:∃M,M=Sort.swp d a pivot:=⟨_,rfl⟩;have t:M.size=d.size:=by grind [km]
 refine SV.seq cz cM<|SV.cut (⟨λ_=>[],[0,1,2],λ_=>[(0,UB M)],[]⟩:dM Unit) (λ_=>True) (SV.of cz cM ?_) ?_
 ·show vc _ _ _ _ _ _ _ _ _
  refine aq.mk (bS (show pivot<d.size by omega))<|cG d (i:=pivot) om<|aq.mk (bS (show a<d.size by omega))<|cG d (i:=a) om<|aq.mk (bS (show a<d.size by omega))<|cG d (i:=a) om<|aq.mk (bS (show pivot<d.size by omega))<|lD d (i:=a) (j:=pivot) _ om λz=>?_
  exact az<|⟨(),id,trivial,trivial,⟨⟨_,rr,rr,rr⟩,⟨_,rr,rr,rr⟩,⟨_,rr,rr,rr⟩,trivial⟩,⟨⟨BB.br (by rw[n];exact lc d a pivot rr) (cB _),rr⟩,trivial⟩,trivial,rr,rr,rr⟩
 rintro⟨⟩ -
 refine SV.seq cz cM<|aF (dq a)<|aF (fD b) ?_;obtain⟨R,f⟩:∃R,R=partEqLoop ltInt a (a+1) b M:=⟨_,rfl⟩;have u:partitionEqual ltInt d a (b+1) pivot=R:=by
  rw[f,n];rfl
 rw[u];refine SV.cut (⟨λ_=>[(9,i64 (R.1:Nat))],[0,1],λ_=>[(0,UB R.2)],[]⟩:dM Unit) (λ_=>True) (SV.block ?_) ?_
 ·refine SV.loop (ι:={p:Nat×Nat×Array Int//p.2.2.size=d.size/\a+1<=p.1/\p.1<=p.2.1+2/\p.2.1<=b/\partEqLoop ltInt a p.1 p.2.1 p.2.2=R}) ⟨λp=>[(9,i64 p.1.1),(10,i64 p.1.2.1)],[0,1],λp=>[(0,UB p.1.2.2)],[]⟩ (λp=>p.1.2.1+1-p.1.1) ⟨(a+1,b,M),t,j2 _,by grind,j2 _,f.symm⟩ ?_ ?_
  ·exact cS rr (cB _)
  rintro⟨⟨i0,g,N⟩,v,h1,h2,k,m⟩;dsimp only at v h1 h2 k m;refine SV.block<|SV.cut (⟨λi=>[(9,i64 i)],[0,1,10],λ_=>[],[0]⟩:dM Nat) (λi=>i0<=i/\i<=g+2/\i=scanUp (λx=>!ltInt N[a]! x) N (g) (i0)) (SV.of cz cM ?_) ?_
  ·refine cV.bA (ι:={i:Nat//i0<=i/\i<=g+2/\scanUp (λx=>!ltInt N[a]! x) N (g) i=scanUp (λx=>!ltInt N[a]! x) N (g) (i0)}) ⟨λi=>[(9,i64 i.1)],[0,1,10],λ_=>[],[0]⟩ (λi=>(g)+1-i.1) ⟨i0,om,om,rr⟩ ?_ ?_
   ·exact gM ⟨⟨_,rr,BB.br rr (cB _),rr⟩,trivial⟩
   rintro⟨i,hi,q,f⟩;refine aj.aN (λc=>?_) (λc=>?_)
   ·have c:(i<=g):=tl c;refine aq.mk (bS (show a<d.size by omega))<|cG N (i:=a) om<|aq.mk (bS (show i<d.size by omega))<|cG N (i:=i) om ?_;have l:=kp N[a]! N[i]!;cases k:ltInt N[a]! N[i]!
    ·rw[k]at l;rw[Jv (p:=λx=>!ltInt N[a]! x) om (congrArg Bool.not k)]at f;refine aJ l rfl<|az<|an<|aF (dq i)<|⟨⟨i+1,om,om,f⟩,id,by show(g)+1-(i+1)<(g)+1-i;omega,?_⟩;exact gM ⟨⟨_,rr,BB.br rr (cB _),rr⟩,trivial⟩
    rw[k]at l;rw[xJ (p:=λx=>!ltInt N[a]! x) (.inr (congrArg Bool.not k))]at f;exact aJ l rfl<|az<|ab<|⟨i,id,⟨om,om,f⟩,(gM ⟨⟨_,rr,BB.br rr (cB _),rr⟩,trivial⟩)⟩
   ·have c:¬(i<=g):=λh=>j4 c (E8.2 h)
    rw[xJ (p:=λx=>!ltInt N[a]! x) (.inl om)]at f;exact az<|ab<|⟨i,id,⟨om,om,f⟩,(gM ⟨⟨_,rr,BB.br rr (cB _),rr⟩,trivial⟩)⟩
  rintro e ⟨w,y,r⟩;refine SV.cut (⟨λi=>[(10,i64 i)],[0,1,9],λ_=>[],[0]⟩:dM Nat) (λi=>e-2<=i/\i<=g/\i=scanDown (λx=>ltInt N[a]! x) N (e) (g)) (SV.of cz cM ?_) ?_
  ·refine cV.bA (ι:={i:Nat//e-2<=i/\i<=g/\scanDown (λx=>ltInt N[a]! x) N (e) i=scanDown (λx=>ltInt N[a]! x) N (e) (g)}) ⟨λi=>[(10,i64 i.1)],[0,1,9],λ_=>[],[0]⟩ (λi=>i.1) ⟨g,om,om,rr⟩ ?_ ?_
   ·exact gM ⟨⟨_,rr,BB.br rr (cB _),rr⟩,trivial⟩
   rintro⟨i,hi,q,f⟩;refine aj.aN (λc=>?_) (λc=>?_)
   ·have c:(e<=i):=tl c;obtain⟨i,rfl⟩:∃i',i=i'+1:=⟨i-1,om⟩;refine aq.mk (bS (show a<d.size by omega))<|cG N (i:=a) om<|aq.mk (bS (show i+1<d.size by omega))<|cG N (i:=i+1) om ?_;have l:=kp N[a]! N[i+1]!;cases k:ltInt N[a]! N[i+1]!
    case true=>
     rw[k]at l;rw[Gg (p:=λx=>ltInt N[a]! x) om k]at f;refine aJ l rfl<|az<|an<|aF (fD i)<|⟨⟨i,om,om,f⟩,id,by exact D8 i,?_⟩;exact gM ⟨⟨_,rr,BB.br rr (cB _),rr⟩,trivial⟩
    rw[k]at l;rw[yi (p:=λx=>ltInt N[a]! x) (.inr k)]at f;exact aJ l rfl<|az<|ab<|⟨(i+1),id,⟨om,om,f⟩,(gM ⟨⟨_,rr,BB.br rr (cB _),rr⟩,trivial⟩)⟩
   ·have c:¬(e<=i):=λh=>j4 c (E8.2 h)
    rw[yi (p:=λx=>ltInt N[a]! x) (.inl om)]at f;exact az<|ab<|⟨i,id,⟨om,om,f⟩,(gM ⟨⟨_,rr,BB.br rr (cB _),rr⟩,trivial⟩)⟩
  rintro K ⟨A,B,s⟩;rw[partEqLoop_eq,<-r,<-s]at m;refine SV.seq cz cM<|aj.aN (λc=>?_) (λc=>?_)
  ·have c:K<e:=fE c;rw[z7 c]at m;refine an ?_;subst m;refine⟨(),id,trivial,?_⟩;exact cS rr (cB _)
  have c:¬K<e:=λh=>j4 c (B1.2 h)
  rw[y8 c]at m;obtain⟨K,rfl⟩:∃k',K=k'+1:=⟨K-1,om⟩;refine ab<|SV.of cz cM<|aq.mk (bS (show K+1<d.size by omega))<|cG N (i:=K+1) om<|aq.mk (bS (show e<d.size by omega))<|cG N (i:=e) om<|aq.mk (bS (show e<d.size by omega))<|cG N (i:=e) om<|aq.mk (bS (show K+1<d.size by omega))<|lD N (i:=e) (j:=K+1) _ om λz=>?_
  refine az<|aF (dq e)<|aF (fD K)<|⟨⟨(e+1,K,Sort.swp N e (K+1)),by grind [km],om,by simp_all,by grind,m⟩,id,by show K+1-(e+1)<g+1-i0;omega,?_⟩;exact eB ⟨⟨BB.br (lc N e (K+1) rr) (cB _),rr⟩,trivial⟩
 rintro⟨⟩ -
 exact SV.of cz cM<|ko rr rr ⟨rr,rr,rr⟩
def aja{d:Array Int}{b i:Nat}(h:i<b)(a:ltInt d[i]! d[i-1]! = false):scanSorted ltInt d b i=scanSorted ltInt d b (i+1):=by grind [scanSorted]
def Vk{d:Array Int}{b i:Nat}(h:¬i<b\/ltInt d[i]! d[i-1]! = true):scanSorted ltInt d b i=i:=by grind [scanSorted]
theorem Rt:∀(k:Nat) (d:Array Int),(shiftDown ltInt k d).size=d.size
 |0,_=>rfl
 |k+1,d=>by
  unfold shiftDown
  split
  ·rfl
  ·rw[Rt k,km]
def Rg(b:Nat):∀(n k:Nat) (d:Array Int),b-k<=n->(shiftUp ltInt b k d).size=d.size
 |n,k,d,a=>by
  unfold shiftUp
  split
  ·split
   ·rfl
   ·cases n with
    |zero=>omega
    |succ n=>rw[Rg b n (k+1) _ om,km]
  ·rfl
def af1(d:Array Int)(a b:Nat)(J:a<b)(hb:b<=d.size)(S:d.size<=67108864)(j nx:Nat)(A:Nat.beq nx j=false):UL 440 [i64 a,i64 b] d (partialInsertionSort ltInt d a b).1 (bo (partialInsertionSort ltInt d a b).2) j nx:=by
 refine zL func440 rr rr (o9 rr) A rr rr ?_;obtain⟨R,H⟩:∃R,R=partialInsertionSort ltInt d a b:=⟨_,rfl⟩;rw[<-H];refine SV.seq cz cM<|SV.seq cz cM<|aF (dq a)<|SV.cut (⟨λ_=>[],[],λ_=>[(0,UB R.1)],[]⟩:dM Unit) (λ_=>R.2=false) (SV.seq cz cM ?_) ?_
 ·refine SV.block<|SV.loop (ι:={p:Nat×Nat×Array Int//p.2.2.size=d.size/\p.1<=5/\a+1<=p.2.1/\p.2.1<=b/\partialIns ltInt a b (5-p.1) p.2.1 p.2.2=R}) ⟨λp=>[(7,i64 p.1.2.1),(8,i64 p.1.1)],[0,1,2],λp=>[(0,UB p.1.2.2)],[]⟩ (λp=>5-p.1.1) ⟨(0,a+1,d),rr,j9 _,j2 _,by grind,H.symm⟩ ?_ ?_
  ·exact cS rr (cB _)
  rintro⟨⟨q,i0,M⟩,O,hq,B,o,e⟩;dsimp only at O hq B o e;refine SV.seq cz cM<|aj.aN (λh1=>?_) (λh1=>?_);rotate_left
  ·
   have h1:¬q<5:=λh=>j4 h1 (B1.2 h)
   obtain rfl:q=5:=om
   have e:(M,false)=R:=e;subst e;exact ab<|⟨(),id,rr,trivial,trivial,⟨⟨BB.br rr (cB _),rr⟩,trivial⟩,trivial,rr,rr,rr⟩
  have h1:q<5:=fE h1;obtain⟨s,C⟩:∃s,5-q=s+1:=⟨4-q,om⟩;rw[C]at e;refine an<|SV.cut (⟨λp=>[(7,i64 p.1)],[0,1,2,8],λp=>[(0,UB p.2)],[]⟩:dM (Nat×Array Int)) (λp=>p.2.size=d.size/\a+1<=p.1/\p.1<=b/\partialIns ltInt a b s p.1 p.2=R) (SV.block ?_) ?_
  ·refine SV.cut (⟨λi=>[(7,i64 i)],[0,1,2,8],λ_=>[],[0]⟩:dM Nat) (λi=>i0<=i/\i<=b/\i=scanSorted ltInt M b i0) (SV.of cz cM ?_) ?_
   ·refine cV.bA (ι:={i:Nat//i0<=i/\i<=b/\scanSorted ltInt M b i=scanSorted ltInt M b i0}) ⟨λi=>[(7,i64 i.1)],[0,1,2,8],λ_=>[],[0]⟩ (λi=>b-i.1) ⟨i0,j2 _,o,rr⟩ ?_ ?_
    ·exact gM ⟨⟨_,rr,BB.br rr (cB _),rr⟩,trivial⟩
    rintro⟨i,hi,o,c⟩;refine aj.aN (λh2=>?_) (λh2=>?_)
    ·have h2:i<b:=fE h2;obtain⟨i,rfl⟩:∃i',i=i'+1:=⟨i-1,om⟩;refine aq.mk (bS (show i+1<d.size by omega))<|cG M (i:=i+1) om<|aF (fD i)<|aq.mk (bS (show i<d.size by omega))<|cG M (i:=i) om ?_;have f:=kp M[i+1]! M[i]!;cases m:ltInt M[i+1]! M[i]!
     case true=>
      rw[m]at f;rw[Vk (i:=i+1) (.inr m)]at c;exact aJ f rfl<|az<|ab<|⟨i+1,id,⟨hi,om,c⟩,⟨⟨rr,rr⟩,trivial⟩,⟨⟨_,rr,rr,rr⟩,⟨_,rr,rr,rr⟩,⟨_,rr,rr,rr⟩,⟨_,rr,rr,rr⟩,trivial⟩,trivial,⟨⟨_,rr,BB.br rr (cB _),rr⟩,trivial⟩,rr,rr,rr⟩
     rw[m]at f;rw[aja (i:=i+1) h2 m]at c;refine aJ f rfl<|az<|an<|aF (dq (i+1))<|⟨⟨i+1+1,om,om,c⟩,id,by grind,?_⟩;exact gM ⟨⟨_,rr,BB.br rr (cB _),rr⟩,trivial⟩
    ·have h2:¬i<b:=λh=>j4 h2 (B1.2 h)
     rw[Vk (.inl h2)]at c;exact az<|ab<|⟨i,id,⟨hi,om,c⟩,⟨⟨rr,rr⟩,trivial⟩,⟨⟨_,rr,rr,rr⟩,⟨_,rr,rr,rr⟩,⟨_,rr,rr,rr⟩,⟨_,rr,rr,rr⟩,trivial⟩,trivial,⟨⟨_,rr,BB.br rr (cB _),rr⟩,trivial⟩,rr,rr,rr⟩
   rintro i ⟨r,g,D⟩;have P:partialIns ltInt a b (s+1) i0 M=if i=b then(M,true)else if b-a<50 then(M,false)else partialIns ltInt a b s i (if b-i≥2 then shiftUp ltInt b (i+1) (if i-a≥2 then shiftDown ltInt (i-1) (Sort.swp M i (i-1))else Sort.swp M i (i-1))else(if i-a≥2 then shiftDown ltInt (i-1) (Sort.swp M i (i-1))else Sort.swp M i (i-1))):=by
    rw[D];rfl
   rw[P]at e;refine SV.seq cz cM<|aj.aN (λh2=>?_) (λh2=>?_)
   ·have h2:i=b:=Int.ofNat.inj (j5 h2);rw[z7 h2]at e;subst e;exact an<|ko rr rr ⟨rr,rr,rr⟩
   have h2:¬i=b:=λh=>j4 h2 (congrArg Int.ofNat h)
   rw[y8 h2]at e;refine ab<|SV.seq cz cM<|aF (gm b a)<|aj.aN (λx=>?_) (λx=>?_)
   ·have x:b-a<50:=by grind
    rw[z7 x]at e;subst e;exact an<|ko rr rr ⟨rr,rr,rr⟩
   have x:¬b-a<50:=λh=>j4 x om
   rw[y8 x]at e;refine ab ?_;obtain⟨i,rfl⟩:∃i',i=i'+1:=⟨i-1,om⟩;obtain⟨L,I⟩:∃L,L=Sort.swp M (i+1) i:=⟨_,rfl⟩;have F:L.size=d.size:=by grind [km]
   rw[show i+1-1=i from rr,<-I]at e;refine SV.cut (⟨λ_=>[],[0,1,2,7,8],λ_=>[(0,UB L)],[]⟩:dM Unit) (λ_=>True) (SV.of cz cM ?_) ?_
   ·show vc _ _ _ _ _ _ _ _ _
    refine aF (fD i)<|aF (fD i)<|aq.mk (bS (show i<d.size by omega))<|cG M (i:=i) om<|aq.mk (bS (show i+1<d.size by omega))<|cG M (i:=i+1) om<|aq.mk (bS (show i+1<d.size by omega))<|cG M (i:=i+1) om<|aq.mk (bS (show i<d.size by omega))<|lD M (i:=i+1) (j:=i) _ om λz=>?_
    exact az<|⟨(),id,trivial,trivial,⟨⟨_,rr,rr,rr⟩,⟨_,rr,rr,rr⟩,⟨_,rr,rr,rr⟩,⟨_,rr,rr,rr⟩,⟨_,rr,rr,rr⟩,trivial⟩,⟨⟨BB.br (by rw[I];exact lc M (i+1) i rr) (cB _),rr⟩,trivial⟩,trivial,rr,rr,rr⟩
   rintro⟨⟩ -
   obtain⟨K,y⟩:∃K,K=(if i+1-a≥2 then shiftDown ltInt i L else L):=⟨_,rfl⟩;rw[<-y]at e;have u:K.size=d.size:=by
    grind [Rt]
   refine SV.cut (⟨λ_=>[],[0,1,2,7,8],λ_=>[(0,UB K)],[]⟩:dM Unit) (λ_=>True) (SV.of cz cM ?_) ?_
   ·refine aF (gm (i+1) a)<|aj.aN (λl=>?_) (λl=>?_)
    ·have l:i+1-a≥2:=by grind
     rw[z7 l]at y;refine an<|aF (fD i)<|cV.bA (ι:={p:Nat×Array Int//p.2.size=d.size/\p.1<=i/\shiftDown ltInt p.1 p.2=K}) ⟨λp=>[(9,i64 p.1.1)],[0,1,2,7,8],λp=>[(0,UB p.1.2)],[]⟩ (λp=>p.1.1) ⟨(i,L),F,j2 _,y.symm⟩ ?_ ?_
     ·exact cS rr (cB _)
     rintro⟨⟨k,N⟩,n,hk,c⟩;dsimp only at n hk c;cases k with
     |zero=>
      have c:N=K:=c;subst c;exact aE<|ab<|⟨(),id,trivial,trivial,⟨⟨_,rr,rr,rr⟩,⟨_,rr,rr,rr⟩,⟨_,rr,rr,rr⟩,⟨_,rr,rr,rr⟩,⟨_,rr,rr,rr⟩,trivial⟩,⟨⟨BB.br rr (cB _),rr⟩,trivial⟩,trivial,rr,rr,rr⟩
     |succ k=>
      refine aj.t (show(1:Int)<=((k+1:Nat):Int)by omega)<|an<|aq.mk (bS (show k+1<d.size by omega))<|cG N (i:=k+1) om<|aF (fD k)<|aq.mk (bS (show k<d.size by omega))<|cG N (i:=k) om ?_;have f:=kp N[k+1]! N[k]!;unfold shiftDown at c;cases m:ltInt N[k+1]! N[k]!
      ·rw[m]at f c;have c:N=K:=c;subst c;exact aJ f rfl<|az<|an<|⟨(),id,trivial,trivial,⟨⟨_,rr,rr,rr⟩,⟨_,rr,rr,rr⟩,⟨_,rr,rr,rr⟩,⟨_,rr,rr,rr⟩,⟨_,rr,rr,rr⟩,trivial⟩,⟨⟨BB.br rr (cB _),rr⟩,trivial⟩,trivial,rr,rr,rr⟩
      rw[m]at f c;have c:shiftDown ltInt k (Sort.swp N (k+1) k)=K:=c;refine aJ f rfl<|az<|ab<|aF (fD k)<|aF (fD k)<|aq.mk (bS (show k<d.size by omega))<|cG N (i:=k) om<|aq.mk (bS (show k+1<d.size by omega))<|cG N (i:=k+1) om<|aq.mk (bS (show k+1<d.size by omega))<|cG N (i:=k+1) om<|aq.mk (bS (show k<d.size by omega))<|lD N (i:=k+1) (j:=k) _ om λz=>?_
      refine az<|aF (fD k)<|⟨⟨(k,Sort.swp N (k+1) k),by grind [km],om,c⟩,id,D8 k,?_⟩;exact eB ⟨⟨BB.br (lc N (k+1) k rr) (cB _),rr⟩,trivial⟩
    ·have l:¬i+1-a≥2:=λh=>j4 l om
     rw[y8 l]at y;subst y;exact ab<|⟨(),id,trivial,trivial,⟨⟨_,rr,rr,rr⟩,⟨_,rr,rr,rr⟩,⟨_,rr,rr,rr⟩,⟨_,rr,rr,rr⟩,⟨_,rr,rr,rr⟩,trivial⟩,⟨⟨BB.br rr (cB _),rr⟩,trivial⟩,trivial,rr,rr,rr⟩
   rintro⟨⟩ -
   refine SV.of cz cM<|aF (gm b (i+1))<|aj.aN (λl=>?_) (λl=>?_)
   ·have l:b-(i+1)≥2:=by grind
    rw[z7 l]at e;obtain⟨E,v⟩:∃E,E=shiftUp ltInt b (i+1+1) K:=⟨_,rfl⟩;have Q:E.size=d.size:=by rw[v,Rg _ _ _ _ (j2 _),u]
    rw[<-v]at e;refine an<|aF (dq (i+1))<|cV.bA (ι:={p:Nat×Array Int//p.2.size=d.size/\i+1+1<=p.1/\shiftUp ltInt b p.1 p.2=E}) ⟨λp=>[(10,i64 p.1.1)],[0,1,2,7,8],λp=>[(0,UB p.1.2)],[]⟩ (λp=>b-p.1.1) ⟨(i+1+1,K),u,j2 _,v.symm⟩ ?_ ?_
    ·exact cS rr (cB _)
    rintro⟨⟨k,N⟩,n,hk,c⟩;dsimp only at n hk c;unfold shiftUp at c;refine aj.aN (λw=>?_) (λw=>?_)
    ·have w:k<b:=fE w;rw[z7 w]at c;obtain⟨k,rfl⟩:∃k',k=k'+1:=⟨k-1,om⟩;rw[show k+1-1=k from rfl]at c;refine an<|aq.mk (bS (show k+1<d.size by omega))<|cG N (i:=k+1) om<|aF (fD k)<|aq.mk (bS (show k<d.size by omega))<|cG N (i:=k) om ?_;have f:=kp N[k+1]! N[k]!;cases m:ltInt N[k+1]! N[k]!
     ·rw[m]at f c;have c:N=E:=c;subst c;exact aJ f rfl<|az<|an<|⟨(i+1,N),id,⟨n,om,g,e⟩,⟨⟨rr,rr⟩,trivial⟩,⟨⟨_,rr,rr,rr⟩,⟨_,rr,rr,rr⟩,⟨_,rr,rr,rr⟩,⟨_,rr,rr,rr⟩,trivial⟩,⟨⟨BB.br rr (cB _),rr⟩,trivial⟩,trivial,rr,rr,rr⟩
     rw[m]at f c;have c:shiftUp ltInt b (k+1+1) (Sort.swp N (k+1) k)=E:=c;refine aJ f rfl<|az<|ab<|aF (fD k)<|aF (fD k)<|aq.mk (bS (show k<d.size by omega))<|cG N (i:=k) om<|aq.mk (bS (show k+1<d.size by omega))<|cG N (i:=k+1) om<|aq.mk (bS (show k+1<d.size by omega))<|cG N (i:=k+1) om<|aq.mk (bS (show k<d.size by omega))<|lD N (i:=k+1) (j:=k) _ om λz=>?_
     refine az<|aF (dq (k+1))<|⟨⟨(k+1+1,Sort.swp N (k+1) k),by grind [km],om,c⟩,id,by show b-(k+1+1)<b-(k+1);omega,?_⟩;exact eB ⟨⟨BB.br (lc N (k+1) k rr) (cB _),rr⟩,trivial⟩
    ·have w:¬k<b:=λh=>j4 w (B1.2 h)
     rw[y8 w]at c;subst c;exact ab<|⟨(i+1,N),id,⟨n,om,g,e⟩,⟨⟨rr,rr⟩,trivial⟩,⟨⟨_,rr,rr,rr⟩,⟨_,rr,rr,rr⟩,⟨_,rr,rr,rr⟩,⟨_,rr,rr,rr⟩,trivial⟩,⟨⟨BB.br rr (cB _),rr⟩,trivial⟩,trivial,rr,rr,rr⟩
   ·have l:¬b-(i+1)≥2:=λh=>j4 l om
    rw[y8 l]at e;exact ab<|⟨(i+1,K),id,⟨u,om,g,e⟩,⟨⟨rr,rr⟩,trivial⟩,⟨⟨_,rr,rr,rr⟩,⟨_,rr,rr,rr⟩,⟨_,rr,rr,rr⟩,⟨_,rr,rr,rr⟩,trivial⟩,⟨⟨BB.br rr (cB _),rr⟩,trivial⟩,trivial,rr,rr,rr⟩
  rintro⟨i,N⟩ ⟨n,r,g,c⟩;dsimp only at n r g c;refine SV.of cz cM<|aF (dq q)<|⟨⟨(q+1,i,N),n,om,r,g,by grind⟩,id,by show 5-(q+1)<5-q;omega,?_⟩;exact cS rr (cB _)
 rintro⟨⟩ G;refine SV.of cz cM ?_;rw[G];exact ko rr rr ⟨rr,rr,rr⟩
abbrev SW(s:Nat):aI:=.rows 1 [i64 s] true none 3
def C'(s:Nat):dP [i64 s]:=λr a=>by rw[o6.1 a];rfl
abbrev CS(f:FuncId)(args:List PV)(d:Array Int)(s s':Nat)(r:PV)(j k nx:Nat):Prop:=LC f (.aS j 0 d.size::(args++[.lp k 0 0])) [(j,UB d),(k,SW s)] nx λq e=>q=r/\e=[(j,some (UB d)),(k,some (SW s')),(j,none),(k,none)]
def aiQ{P:Program}{G:World->Prop}{T:TT}{fn:Func}{args:List PV}{bs:List aI}{j k nx:Nat}{post:PV->cU->Prop}(h:CU 2 P G T fn args bs [j,k] nx post):se P G T fn args bs [j,k] nx post:=h
def Iu{f:FuncId}{fn:Func}{args:List PV}{d:Array Int}{s s':Nat}{r:PV}{j k nx:Nat}(c:prog.funcs[f]? = some fn)(g:(fn.name== "runtime.NumGoroutine")=false)(a:gr [j,k]=true)(b:cW nx [j,k]=false)(m:PV.ja (λi=>(PV.cR [j,k] i).getD 0) (.aS 0 0 d.size::(args++[.lp 1 0 0]))=.aS j 0 d.size::(args++[.lp k 0 0]))(l:PV.lq 2 (.aS 0 0 d.size::(args++[.lp 1 0 0]))=true)
 (h:CU 2 prog GT tt fn (.aS 0 0 d.size::(args++[.lp 1 0 0])) [UB d,SW s] [j,k] nx λq e=>q=r/\e=[(j,some (UB d)),(k,some (SW s')),(j,none),(k,none)]):CS f args d s s' r j k nx:=by
 have:=fX (js:=[j,k]) (bs:=[UB d,SW s]) (args:=.aS 0 0 d.size::(args++[.lp 1 0 0])) c g a b rr ⟨⟨rr,cB d⟩,⟨rr,C' s⟩,trivial⟩ l (aiQ h)
 simp_all
def Dq{d:Array Int}{s':Nat}{vs:List PV}{r:PV}{j k nx:Nat}{hp:Nat->Option aI}(a:gr [j,k]=true)(b:hp 0=some (UB d))(hk:hp 1=some (SW s'))(c:eH [0,1] 200 hp vs=some (vs,[])/\jy (vs.map PV.wk)=r/\PV.rn (oK [(0,j),(1,k)]) r=r):fw [j,k] nx hp vs (λq e=>q=r/\e=[(j,some (UB d)),(k,some (SW s')),(j,none),(k,none)]):=by
 obtain⟨h1,h2,f⟩:=c;refine fw.mk ⟨[(0,j),(1,k)],200,vs,[],h1,rr,a,⟨fk.mk ⟨_,b,cB d,.inr rr⟩,fk.mk ⟨_,hk,C' s',.inr rr⟩,trivial⟩,?_,?_⟩
 ·rw[h2,f]
 ·show[(j,BP (hp 0)),(k,BP (hp 1))]++_=_
  rw[b,hk];rfl
def Fx(d:Array Int)(a b s:Nat)(g:a<d.size)(hb:b<d.size)(l:s<=1000)(j k nx:Nat)(c:gr [j,k]=true)(f:cW nx [j,k]=false):CS 451 [i64 a,i64 b] d s (order2 ltInt d a b s).2.2 (.aU [i64 ((order2 ltInt d a b s).1:Nat),i64 ((order2 ltInt d a b s).2.1:Nat)]) j k nx:=by
 refine Iu func451 rr c f rr rfl<|aq.mk (bS hb)<|cG d (i:=b) hb<|aq.mk (bS g)<|cG d (i:=a) g ?_;have e:=kp d[b]! d[a]!;unfold order2;cases h:ltInt d[b]! d[a]!
 case true=>
  rw[h]at e;exact aJ e rfl<|az<|an<|aF (dq s)<|sV.mk ⟨[],trivial,Dq c rr rr ⟨rr,rr,rr⟩⟩
 rw[h]at e;exact aJ e rfl<|az<|ab<|sV.mk ⟨[],trivial,Dq c rr rr ⟨rr,rr,rr⟩⟩
def Tt(d:Array Int)(a b s:Nat)(c:a<d.size)(hb:b<d.size):(order2 ltInt d a b s).1<d.size/\(order2 ltInt d a b s).2.1<d.size:=by grind [order2_mem]
def Jk(d:Array Int)(a b c s:Nat)(h:a<d.size)(hb:b<d.size)(i:c<d.size)(r:s<=900)(j k nx:Nat)(e:gr [j,k]=true)(g:cW nx [j,k]=false):CS 450 [i64 a,i64 b,i64 c] d s (median ltInt d a b c s).2 (i64 ((median ltInt d a b c s).1:Nat)) j k nx:=by
 refine Iu func450 rr e g rr rr ?_;obtain⟨o1,e1⟩:∃o,o=order2 ltInt d a b s:=⟨_,rfl⟩;obtain⟨o2,e2⟩:∃o,o=order2 ltInt d o1.2.1 c o1.2.2:=⟨_,rfl⟩;obtain⟨o3,e3⟩:∃o,o=order2 ltInt d o1.1 o2.1 o2.2.2:=⟨_,rfl⟩;have q:median ltInt d a b c s=(o3.2.1,o3.2.2):=by rw[e3,e2,e1];rfl
 rw[q];have f:=Tt d a b s h hb;have c1:=order2_count (lt:=ltInt) d a b s;have m:=Fx d a b s h hb om;rw[<-e1]at f c1 m;have l:=Tt d o1.2.1 c o1.2.2 f.2 i;have c2:=order2_count (lt:=ltInt) d o1.2.1 c o1.2.2;have u2:=Fx d o1.2.1 c o1.2.2 f.2 i om;rw[<-e2]at l c2 u2;have p:=Fx d o1.1 o2.1 o2.2.2 f.1 l.1 om;rw[<-e3]at p;exact bu.bH [0,1] (n:=200) (m 0 1 _ rr rr) rr ⟨rr,rr,trivial⟩<|bu.bH [0,1] (n:=200) (u2 0 1 _ rr rr) rr ⟨rr,rr,trivial⟩<|bu.bH [0,1] (n:=200) (p 0 1 _ rr rr) rr ⟨rr,rr,trivial⟩<|sV.mk ⟨[],trivial,Dq e rr rr ⟨rr,rr,rr⟩⟩
def Kv(d:Array Int)(a s:Nat)(f:1<=a)(hb:a+1<d.size)(g:d.size<=67108864)(e:s<=900)(j k nx:Nat)(b:gr [j,k]=true)(c:cW nx [j,k]=false):CS 449 [i64 a] d s (medianAdjacent ltInt d a s).2 (i64 ((medianAdjacent ltInt d a s).1:Nat)) j k nx:=by
 refine Iu func449 rr b c rr rr ?_;obtain⟨a,rfl⟩:∃a',a=a'+1:=⟨a-1,om⟩;exact aF (fD a)<|aF (dq (a+1))<|bu.bH [0,1] (n:=200) (Jk d a (a+1) (a+1+1) s om om hb e 0 1 _ rr rr) rr ⟨rr,rr,trivial⟩<|sV.mk ⟨[],trivial,Dq b rr rr ⟨rr,rr,rr⟩⟩
def hv:Hint->Int
 |.unknown=>0
 |.increasing=>1
 |.decreasing=>2
theorem ER(a c:Nat)(h:a<=67108864):IntKind.i64.wrap (Int.tdiv (a:Int) (c:Int))=((a / c:Nat):Int):=
 wrap_i64 rr (by have:=N4 a c;grind)
theorem y'(a c:Nat)(h:a*c≤4611686018427387904:=by omega):IntKind.i64.wrap ((a:Int)*(c:Int))=((a*c:Nat):Int):=wrap_i64 (N9 a c).symm (by omega)
def ajb(d:Array Int)(a b:Nat)(r:8<=b-a)(hb:b<=d.size)(i:d.size<=67108864)(j nx:Nat)(k:Nat.beq nx j=false):UL 438 [i64 a,i64 b] d d (.aU [i64 ((choosePivot ltInt d a b).1:Nat),i64 (hv (choosePivot ltInt d a b).2)]) j nx:=by
 refine zL func438 rr rr (o9 rr) k rr rr ?_;obtain⟨l,s⟩:∃l,l=b-a:=⟨_,rfl⟩;obtain⟨q,hq⟩:∃q,q=l / 4:=⟨_,rfl⟩;have h1:q*4<=l:=om
 have h2:l<q*4+4:=om
 refine SV.seq cz cM<|SV.seq cz cM<|aF (gm b a) ?_;rw[<-s];have quo:IntKind.i64.wrap (Int.tdiv (l:Int) 4)=(q:Int):=by grind [ER]
 refine SV.seq cz cM<|SV.seq cz cM<|c_<|aF quo<|aF (y' q 1)<|aF (eJ a (q*1))<|SV.seq cz cM<|c_<|aF quo<|aF (y' q 2)<|aF (eJ a (q*2))<|SV.seq cz cM<|c_<|aF quo ?_;refine aF (y' q 3)<|aF (eJ a (q*3)) ?_;obtain⟨R,f⟩:∃R:Nat×Nat,R=(if l≥50 then median ltInt d (medianAdjacent ltInt d (a+q*1) 0).1 (medianAdjacent ltInt d (a+q*2) (medianAdjacent ltInt d (a+q*1) 0).2).1 (medianAdjacent ltInt d (a+q*3) (medianAdjacent ltInt d (a+q*2) (medianAdjacent ltInt d (a+q*1) 0).2).2).1 (medianAdjacent ltInt d (a+q*3) (medianAdjacent ltInt d (a+q*2) (medianAdjacent ltInt d (a+q*1) 0).2).2).2 else median ltInt d (a+q*1) (a+q*2) (a+q*3) 0):=⟨_,rfl⟩;have u:choosePivot ltInt d a b=(R.1,if R.2=0 then .increasing else if R.2=12 then .decreasing else .unknown):=by
  grind [choosePivot]
 rw[u];refine SV.cut (⟨λ_=>[(11,i64 (R.1:Nat))],[9],λ_=>[(0,UB d),(7,SW R.2)],[]⟩:dM Unit) (λ_=>True) (SV.of cz cM ?_) ?_
 ·refine aj.t (show(8:Int)<=(l:Int)by omega)<|an<|aj.aN (λc=>?_) (λc=>?_)
  ·have c:l≥50:=by grind
   rw[z7 c]at f;refine an ?_;obtain⟨m1,e1⟩:∃m,m=medianAdjacent ltInt d (a+q*1) 0:=⟨_,rfl⟩;obtain⟨m2,e2⟩:∃m,m=medianAdjacent ltInt d (a+q*2) m1.2:=⟨_,rfl⟩;obtain⟨m3,e3⟩:∃m,m=medianAdjacent ltInt d (a+q*3) m2.2:=⟨_,rfl⟩;have c1:=medianAdjacent_count (lt:=ltInt) d (a+q*1) 0;have o:=Kv d (a+q*1) 0 om om i om;have v:=medianAdjacent_mem ltInt d (a+q*1) 0;rw[<-e1]at c1 o v;have c2:=medianAdjacent_count (lt:=ltInt) d (a+q*2) m1.2;have u2:=Kv d (a+q*2) m1.2 om om i om;have w:=medianAdjacent_mem ltInt d (a+q*2) m1.2;rw[<-e2]at c2 u2 w;have c3:=medianAdjacent_count (lt:=ltInt) d (a+q*3) m2.2;have p:=Kv d (a+q*3) m2.2 om om i om;have x:=medianAdjacent_mem ltInt d (a+q*3) m2.2;rw[<-e3]at c3 p x;rw[<-e1,<-e2,<-e3]at f;have g:=Jk d m1.1 m2.1 m3.1 m3.2 om om om om;rw[<-f]at g;exact bu.bH [0,7] (n:=200) (o 0 7 _ rr rr) rr ⟨rr,rr,trivial⟩<|bu.bH [0,7] (n:=200) (u2 0 7 _ rr rr) rr ⟨rr,rr,trivial⟩<|bu.bH [0,7] (n:=200) (p 0 7 _ rr rr) rr ⟨rr,rr,trivial⟩<|bu.bH [0,7] (n:=200) (g 0 7 _ rr rr) rr ⟨rr,rr,trivial⟩<|⟨(),id,trivial,⟨⟨rr,rr⟩,trivial⟩,⟨⟨_,rr,rr,rr⟩,trivial⟩,⟨⟨BB.br rr (cB _),rr⟩,⟨BB.br rr (C' _),rr⟩,trivial⟩,trivial,rr,rr,rr⟩
  ·have c:¬l≥50:=λh=>j4 c om
   rw[y8 c]at f;refine ab ?_;have g:=Jk d (a+q*1) (a+q*2) (a+q*3) 0 om om om om;rw[<-f]at g;exact bu.bH [0,7] (n:=200) (g 0 7 _ rr rr) rr ⟨rr,rr,trivial⟩<|⟨(),id,trivial,⟨⟨rr,rr⟩,trivial⟩,⟨⟨_,rr,rr,rr⟩,trivial⟩,⟨⟨BB.br rr (cB _),rr⟩,⟨BB.br rr (C' _),rr⟩,trivial⟩,trivial,rr,rr,rr⟩
 rintro⟨⟩ -
 refine SV.of cz cM<|aj.aN (λc=>?_) (λc=>?_)
 ·have c:R.2=0:=by simp_all
  rw[z7 c];exact an<|ko rr rr ⟨rr,rr,rr⟩
 ·have c:¬R.2=0:=λh=>j4 c (by rw[h];rfl)
  rw[y8 c];refine ab<|aj.aN (λe=>?_) (λe=>?_)
  ·have e:R.2=12:=by grind
   rw[z7 e];exact an<|ko rr rr ⟨rr,rr,rr⟩
  ·have e:¬R.2=12:=λh=>j4 e (by rw[h];rfl)
   rw[y8 e];exact ab<|ko rr rr ⟨rr,rr,rr⟩
def Kb(k n:Nat)(h:2^k<=n):bitsLen n=k+bitsLen (n / 2^k):=by
 have hk:0<2^k:=Nat.two_pow_pos k;have h1:k<bitsLen n:=by
  grind [bitsLen_le_iff]
 refine Nat.le_antisymm ((bitsLen_le_iff n _).2 ?_) ?_
 ·grind [Nat.div_lt_iff_lt_mul,lt_two_pow_bitsLen]
 ·have:bitsLen (n / 2^k)<=bitsLen n-k:=by
   refine(bitsLen_le_iff _ _).2 ((Nat.div_lt_iff_lt_mul hk).2 ?_);rw[<-Nat.pow_add,show bitsLen n-k+k=bitsLen n by omega];grind [lt_two_pow_bitsLen]
  omega
def QZ:List UInt8:=[0,1]++List.replicate 2 2++List.replicate 4 3++List.replicate 8 4++List.replicate 16 5++List.replicate 32 6++List.replicate 64 7++List.replicate 128 8
theorem ai9:(List.range 256).all (λx=>(QZ.getD x 0).toNat==bitsLen x)=true:=by kernel_rfl
def Br{x:Nat}(h:x<256):(QZ.getD x 0).toNat=bitsLen x:=by grind [ai9]
def KS(a k:Nat){z:Int}(b:z=k)(hk:k<=64):Int.fdiv (a:Int) (2^(min z.toNat IntKind.u64.bits))=((a / 2^k:Nat):Int):=by
 subst b;rw[show min ((k:Int)).toNat IntKind.u64.bits=k by show min k 64=k;omega];grind
def alF(n:Nat)(h:n<=67108864):PC 445 [u64 n] (·=i64 (bitsLen n:Nat)):=by
 refine aw func445 ?_;have fin:∀(m x:Nat),x<256->bitsLen n=m+bitsLen x->m<=100->IntKind.i64.wrap ((m:Int)+((bitsLen x:Nat):Int))=((bitsLen n:Nat):Int):=λm x c e d=>by
  rw[e];exact eJ m (bitsLen x) (by have:bitsLen x<=8:=(bitsLen_le_iff x 8).2 om;omega)
 have wr:∀x:Nat,x<256->IntKind.u8.wrap (x:Int)=(x:Int):=λx c=>by grind [IntKind.wrap_u8]
 have b:∀x:Nat,x<256->IntKind.i64.wrap ((bitsLen x:Nat):Int)=((bitsLen x:Nat):Int):=λx c=>wrap_i64 rr (by grind [bitsLen_le_iff])
 refine aj.f (show¬(4294967296:Int)<=(n:Int)by omega)<|ab<|aj.aN (λh1=>?_) (λh1=>?_)
 ·have h1:65536<=n:=by grind
  have e1:=Kb 16 n h1;have g:n / 2^16<=1024:=om
  refine an<|c_<|aF (KS n 16 rr (by decide))<|cj.intro ((16:Nat):Int) (by decide)<|aj.aN (λh2=>?_) (λh2=>?_)
  ·have h2:2^8<=n / 2^16:=by grind
   have e2:=Kb 8 (n / 2^16) h2;have a:n / 2^16 / 2^8<256:=om
   refine an<|c_<|aF (KS (n / 2^16) 8 rr (by decide))<|cj.intro ((24:Nat):Int) (by decide)<|aF (wr _ a)<|aq.mk ⟨om,show((n / 2^16 / 2^8:Nat):Int)<((256:Nat):Int)by omega⟩ ?_;exact cj.intro ((bitsLen (n / 2^16 / 2^8):Nat):Int) (congrArg Int.ofNat (Br a))<|aF (b _ a)<|aF (fin 24 _ a om (by decide))<|ah
  ·have a:n / 2^16<256:=by
    grind
   refine ab<|aF (wr _ a)<|aq.mk ⟨om,show((n / 2^16:Nat):Int)<((256:Nat):Int)by omega⟩ ?_;exact cj.intro ((bitsLen (n / 2^16):Nat):Int) (congrArg Int.ofNat (Br a))<|aF (b _ a)<|aF (fin 16 _ a e1 (by decide))<|ah
 ·have h1:n<65536:=by
   grind
  refine ab<|aj.aN (λh2=>?_) (λh2=>?_)
  ·have h2:2^8<=n:=by grind
   have e2:=Kb 8 n h2;have a:n / 2^8<256:=om
   refine an<|c_<|aF (KS n 8 rr (by decide))<|cj.intro ((8:Nat):Int) (by decide)<|aF (wr _ a)<|aq.mk ⟨om,show((n / 2^8:Nat):Int)<((256:Nat):Int)by omega⟩ ?_;exact cj.intro ((bitsLen (n / 2^8):Nat):Int) (congrArg Int.ofNat (Br a))<|aF (b _ a)<|aF (fin 8 _ a e2 (by decide))<|ah
  ·have a:n<256:=by
    grind
   refine ab<|aF (wr _ a)<|aq.mk ⟨om,show(n:Int)<((256:Nat):Int)by omega⟩ ?_;exact cj.intro ((bitsLen n:Nat):Int) (congrArg Int.ofNat (Br a))<|aF (b _ a)<|aF (fin 0 _ a (j7 _).symm (by decide))<|ah
def Ow(n:Nat)(h:n<=67108864):PC 426 [u64 n] (·=i64 (bitsLen n:Nat)):=aw func426<|ab<|ak (alF n h) rfl<|ah
def ZN(n:Nat)(h:n<=67108864):PC 447 [i64 n] (·=u64 (2^bitsLen n)):=by
 refine aw func447 ?_;have hb:bitsLen n<=27:=(bitsLen_le_iff n 27).2 om;have hp:2^bitsLen n<=2^27:=Nat.pow_le_pow_right (by decide) hb;refine cj.intro (n:Int) (by grind [IntKind.wrap_u64])<|ak (Ow n h) rfl<|uM<|cj.intro ((2^bitsLen n:Nat):Int) ?_ ?_
 ·rw[show min (((bitsLen n:Nat):Int)).toNat IntKind.u64.bits=bitsLen n by show min (bitsLen n) 64=_;omega,IntKind.wrap_u64,Int.one_mul,show((2:Int)^bitsLen n)=((2^bitsLen n:Nat):Int)from(K8 2 _).symm];grind
 exact ah
abbrev XW(x:Int):aI:=.rows 1 [uI x] true none 543
def yS(x:Int):dP [uI x]:=λr a=>by rw[o6.1 a];rfl
def u64_in(z:Int):0<=IntKind.u64.wrap z/\IntKind.u64.wrap z<18446744073709551616:=by grind [IntKind.wrap_u64]
def afa(x:Int)(j nx:Nat)(a:Nat.beq nx j=false):LC 448 [.lp j 0 0] [(j,XW x)] nx λq e=>∃y,(0<=y/\y<18446744073709551616)/\q=uI y/\e=[(j,some (XW y)),(j,none)]:=by
 refine fX (js:=[j]) (bs:=[XW x]) (args:=[.lp 0 0 0]) func448 rr rr (by grind [cW]) rr ⟨⟨rr,yS x⟩,trivial⟩ rr (Ah ?_);refine c_<|jX<|jX<|az<|c_<|jX<|jX<|az<|c_<|jX<|jX<|az<|ey<|fw.mk ⟨[(0,j)],200,_,_,rr,rr,rr,⟨fk.mk ⟨_,rr,yS _,.inr rr⟩,trivial⟩,?_⟩;exact⟨_,u64_in _,rr,rr⟩
def bu.IR(X:List Nat){P:Program}{G:World->Prop}{hp:Nat->Option aI}{nx n:Nat}{f:FuncId}{args a:List PV}{l':List Nat}{k:PV->cU->Prop}{bs:List (Nat×aI)}{post:PV->cU->Prop}(h:HC P G f a bs nx post)(b:eH X n hp args=.some (a,l'))(hb:dJ (λx:Nat×aI=>fx hp l' x.1=.some x.2) bs)(hk:∀r d,post r d->k r (d++nk hp l')):bu P G hp nx f args k:=
 ⟨.inr (.inl ⟨X,n,a,l',bs,_,b,hb,h,hk⟩)⟩
def ajn(x:Int)(m:Nat)(a:0<=x/\x<18446744073709551616)(b:m<18446744073709551616):∃z:Nat,z<=m/\IntKind.u64.wrap ((BitVec.ofInt IntKind.u64.bits x &&& BitVec.ofInt IntKind.u64.bits (m:Int)).toNat:Int)=(z:Int):=by
 obtain⟨n,rfl⟩:=E6 a.1;exact⟨n &&& m,Nat.and_le_right,bits_and_u64_nat n m om b⟩
def agW(d:Array Int)(a b:Nat)(A:8<=b-a)(hb:b<=d.size)(G:d.size<=67108864)(j nx:Nat)(B:Nat.beq nx j=false):LC 437 [.aS j 0 d.size,i64 a,i64 b] [(j,UB d)] nx λq e=>∃d',PermIn a b d d'/\q=.aU []/\e=[(j,some (UB d')),(j,none)]:=by
 refine fX (js:=[j]) (bs:=[UB d]) (args:=[.aS 0 0 d.size,i64 a,i64 b]) func437 rr rr (by grind [cW]) rr ⟨⟨rr,cB d⟩,trivial⟩ rr (Ah ?_);obtain⟨l,C⟩:∃l,l=b-a:=⟨_,rfl⟩;obtain⟨q,hq⟩:∃q,q=l / 4:=⟨_,rfl⟩;have h1:q*4<=l:=om
 have h2:l<q*4+4:=om
 have quo:IntKind.i64.wrap (Int.tdiv (l:Int) 4)=(q:Int):=by grind [ER]
 have r:2^bitsLen l<=2*l:=two_pow_bitsLen_le om;obtain⟨m,D⟩:∃m,2^bitsLen l=m+1:=⟨2^bitsLen l-1,by grind⟩;have f:=ZN l om;rw[D]at f r;refine cj.intro (l:Int) (by rw[C];exact gm b a om om)<|aj.t (show(8:Int)<=(l:Int)by omega)<|an<|cj.intro (l:Int) (by grind [IntKind.wrap_u64])<|ak f rfl<|c_<|aF quo<|aF (y' q 2)<|aF (eJ a (q*2)) ?_;obtain⟨i0,E⟩:∃i0,a+q*2=i0+1:=⟨a+q*2-1,om⟩;refine cj.intro (i0:Int) (by grind [fD])<|cV.bA (ι:={p:Nat×Int×Array Int//p.1<=3/\(0<=p.2.1/\p.2.1<18446744073709551616)/\PermIn a b d p.2.2}) ⟨λp=>[(9,i64 ((i0+p.1.1:Nat):Int))],[0,1,6,7,8],λp=>[(0,UB p.1.2.2),(9,XW p.1.2.1)],[]⟩ (λp=>3-p.1.1) ⟨(0,(l:Int),d),j9 _,⟨by simp_all,by grind⟩,permIn_refl d a b⟩ ?_ ?_
 ·exact eB ⟨⟨BB.br rr (cB _),rr⟩,⟨BB.br rr (yS _),rr⟩,trivial⟩
 rintro⟨⟨k,x,M⟩,hk,F,g⟩;dsimp only at hk F g;have H:M.size=d.size:=g.1;refine c_<|aF quo<|aF (y' q 2)<|aF (eJ a (q*2))<|aF (dq (a+q*2))<|aj.aN (λs=>?_) (λs=>?_);rotate_left
 ·
  refine ab<|ey<|fw.mk ⟨[(0,j)],200,_,_,rr,rr,rr,⟨fk.mk ⟨_,rr,cB M,.inr rr⟩,trivial⟩,M,g,rr,rr⟩
 have s:i0+k<=a+q*2+1:=tl s;refine an<|bu.IR [0,9] (n:=200) (afa x 9 _ rr) rr ⟨rr,trivial⟩ ?_;rintro _ _ ⟨y,u,rfl,rfl⟩;refine cj.intro (m:Int) (by grind [IntKind.wrap_u64]) ?_;obtain⟨z,I,v⟩:=ajn y m u om;refine aF v<|cj.intro (z:Int) (wrap_i64 rr om) ?_;have go:∀o:Nat,o<l->∀M',M'=Sort.swp M (i0+k) (a+o)->PermIn a b d M':=λo J M' e=>by
  rw[e];exact permIn_trans _ _ _ a b g (swp_permIn M a b (i0+k) (a+o) om om om om om)
 refine aj.aN (λc=>?_) (λc=>?_)
 ·have c:l<=z:=tl c;refine an<|aF (gm z l c)<|aF (eJ a (z-l))<|aF (eJ a (z-l))<|aq.mk (bS (show a+(z-l)<d.size by omega))<|cG M (i:=a+(z-l)) om<|aq.mk (bS (show i0+k<d.size by omega))<|cG M (i:=i0+k) om<|aq.mk (bS (show i0+k<d.size by omega))<|cG M (i:=i0+k) om<|aq.mk (bS (show a+(z-l)<d.size by omega))<|lD M (i:=i0+k) (j:=a+(z-l)) _ om λw=>?_
  refine az<|aF (dq (i0+k))<|⟨⟨(k+1,y,Sort.swp M (i0+k) (a+(z-l))),om,u,go _ om _ rr⟩,id,by show 3-(k+1)<3-k;omega,?_⟩;exact eB ⟨⟨BB.br (lc M (i0+k) (a+(z-l)) rr) (cB _),rr⟩,⟨BB.br rr (yS _),rr⟩,trivial⟩
 ·have c:¬l<=z:=λh=>j4 c (E8.2 h)
  refine ab<|aF (eJ a z)<|aF (eJ a z)<|aq.mk (bS (show a+z<d.size by omega))<|cG M (i:=a+z) om<|aq.mk (bS (show i0+k<d.size by omega))<|cG M (i:=i0+k) om<|aq.mk (bS (show i0+k<d.size by omega))<|cG M (i:=i0+k) om<|aq.mk (bS (show a+z<d.size by omega))<|lD M (i:=i0+k) (j:=a+z) _ om λw=>?_
  refine az<|aF (dq (i0+k))<|⟨⟨(k+1,y,Sort.swp M (i0+k) (a+z)),om,u,go _ om _ rr⟩,id,by show 3-(k+1)<3-k;omega,?_⟩;exact eB ⟨⟨BB.br (lc M (i0+k) (a+z) rr) (cB _),rr⟩,⟨BB.br rr (yS _),rr⟩,trivial⟩
def IL{d R S:Array Int}{a b:Nat}(hb:b<=d.size)(h1:PermIn a b d R)(h2:SortedIn ltInt a b R)(c:PermIn a b d S)(j:SortedIn ltInt a b S):R=S:=by
 have g:∀{R:Array Int},R.size=d.size->SortedIn ltInt a b R->(R.extract a b).toList.Pairwise (·<=·):=by
  intro R q h;rw[extract_toList R a b om];refine O9.2<|(List.pairwise_lt_range' (s:=a) (n:=b-a)).imp_of_mem fun{i k} hi hk e=>?_
  have hi:=List.mem_range'_1.1 hi;have hk:=List.mem_range'_1.1 hk;have:=h i k hi.1 e om;grind [ltInt]
 have hp:(R.extract a b).toList.Perm (S.extract a b).toList:=h1.2.2.trans c.2.2.symm;have f:=hp.eq_of_pairwise (le:=fun(x y:Int)=>x<=y) (λx y _ _ h1 h2=>Int.le_antisymm h1 h2) (g h1.1 h2) (g c.1 j);rw[extract_toList R a b (by have:=h1.1;omega),extract_toList S a b (by have:=c.1;omega)]at f;have l:=List.map_inj_left.1 f;refine Array.ext (h1.1.trans c.1.symm) λi m o=>?_
 have key:R[i]! = S[i]!:=by
  by_cases p:a<=i/\i<b
  ·grind
  ·have:=h1.2.1 i om;rw[this,c.2.1 i om]
 simp_all
def qB:SWO ltInt:=swo_ltInt
def adh(a:Nat)(h:a<=67108864):IntKind.i64.wrap (Int.tdiv (a:Int) 8)=((a / 8:Nat):Int):=ER a 8 h
def acM(F:Nat):∀(d:Array Int) (a b bI:Nat),b-a<=F->a<=b->b<=d.size->d.size<=67108864->bI<=1000->Below ltInt a b d->∀(j nx:Nat),Nat.beq nx j=false->UL 425 [i64 a,i64 b,i64 bI] d (Sort.insertionSort ltInt d a b) (.aU []) j nx:=by
 induction F using Nat.strongRecOn with
 |_ F ih=>
 intro d a b bI hF S hb hs hlm hB j nx hne;have hT:=insertionSort_holds (lt:=ltInt) qB d a b S hb;obtain⟨T,hTd⟩:∃T,T=Sort.insertionSort ltInt d a b:=⟨_,rfl⟩;rw[<-hTd]at hT⊢;have fin:∀R,PermIn a b d R/\SortedIn ltInt a b R->R=T:=λR h=>IL hb h.1 h.2 hT.1 hT.2
 refine zL func425 rr rr (o9 rr) hne rr rfl<|SV.seq cz cM<|SV.seq cz cM<|SV.block<|SV.loop (ι:={p:Nat×Nat×Nat×Bool×Bool×Array Int//p.2.2.2.2.2.size=d.size/\p.1<=p.2.1/\p.2.1<=d.size/\p.2.1-p.1<=b-a/\p.2.2.1<=1000/\Below ltInt p.1 p.2.1 p.2.2.2.2.2/\∀R,PermIn p.1 p.2.1 p.2.2.2.2.2 R->SortedIn ltInt p.1 p.2.1 R->PermIn a b d R/\SortedIn ltInt a b R}) ⟨λp=>[(1,i64 p.1.1),(2,i64 p.1.2.1),(3,i64 p.1.2.2.1),(8,bo p.1.2.2.2.1),(9,bo p.1.2.2.2.2.1)],[0],λp=>[(0,UB p.1.2.2.2.2.2)],[]⟩ (λp=>p.1.2.1-p.1.1) ⟨(a,b,bI,true,true,d),rr,S,hb,j2 _,hlm,hB,λR h1 h2=>⟨h1,h2⟩⟩ ?_ ?_
 ·exact cS rr (cB _)
 rintro⟨⟨A,B,L,wb,wp,M⟩,H,r,I,hBA,hL,t,J⟩;dsimp only at H r I hBA hL t J;refine SV.block<|SV.seq cz cM<|aF (gm B A r)<|SV.seq cz cM<|aj.aN (λh1=>?_) (λh1=>?_)
 ·refine an<|bu.bH [0] (n:=200) ((acP M A B om om om 0 _ rr).at H) rr ⟨rr,trivial⟩ ?_;have hi:=insertionSort_holds (lt:=ltInt) qB M A B r om;exact ko rr (fin _ (J _ hi.1 hi.2)) ⟨rr,rr,rr⟩
 have h1:12<B-A:=by
  grind
 refine ab<|SV.seq cz cM<|aj.aN (λh2=>?_) (λh2=>?_)
 ·refine an<|bu.bH [0] (n:=200) ((afX M A B om om om 0 _ rr).at H) rr ⟨rr,trivial⟩ ?_;have hi:=heapSort_holds (lt:=ltInt) qB M A B r om;exact ko rr (fin _ (J _ hi.1 hi.2)) ⟨rr,rr,rr⟩
 have h2:L≠0:=λh=>j4 h2 (congrArg Int.ofNat h)
 obtain⟨L,rfl⟩:∃l,L=l+1:=⟨L-1,om⟩;refine ab<|SV.cut (⟨λp=>[(3,i64 p.1)],[0,1,2,8,9,10],λp=>[(0,UB p.2)],[]⟩:dM (Nat×Array Int)) (λp=>p.1<=1000/\PermIn A B M p.2) (SV.of cz cM ?_) ?_
 ·cases wb
  case true=>
   exact ab<|⟨(L+1,M),id,⟨hL,permIn_refl M A B⟩,⟨⟨rr,rr⟩,trivial⟩,⟨⟨_,rr,rr,rr⟩,⟨_,rr,rr,rr⟩,⟨_,rr,rr,rr⟩,⟨_,rr,rr,rr⟩,⟨_,rr,rr,rr⟩,⟨_,rr,rr,rr⟩,trivial⟩,⟨⟨BB.br rr (cB _),rr⟩,trivial⟩,trivial,rr,rr,rr⟩
  refine an ?_;have U:=agW M A B om om om 0;rw[H]at U;refine bu.IR [0] (n:=200) (U _ rr) rr ⟨rr,trivial⟩ ?_;rintro _ _ ⟨z,k,rfl,rfl⟩;exact aF (fD L)<|⟨(L,z),id,⟨om,k⟩,⟨⟨rr,rr⟩,trivial⟩,⟨⟨_,rr,rr,rr⟩,⟨_,rr,rr,rr⟩,⟨_,rr,rr,rr⟩,⟨_,rr,rr,rr⟩,⟨_,rr,rr,rr⟩,⟨_,rr,rr,rr⟩,trivial⟩,⟨⟨BB.br rr (cB _),rr⟩,trivial⟩,trivial,rr,rr,rr⟩
 rintro⟨L1,z⟩ ⟨m,k⟩;dsimp only at m k;have K:z.size=d.size:=k.1.trans H;refine SV.seq cz cM ?_;have o:=choosePivot_holds ltInt z A B om;have C:=λnx N=>(ajb z A B om om om 0 nx N).at K
 rcases V:choosePivot ltInt z A B with⟨pv,W⟩
 rw[V]at o C;dsimp only at o C;refine bu.bH [0] (n:=200) (C _ rr) rr ⟨rr,trivial⟩<|SV.cut (⟨λp=>[(11,i64 p.1),(12,i64 p.2.1)],[0,1,2,3,8,9,10],λp=>[(0,UB p.2.2)],[]⟩:dM (Nat×Int×Array Int)) (λp=>A<=p.1/\p.1<B/\PermIn A B M p.2.2) (SV.of cz cM ?_) ?_
 ·refine aj.aN (λy=>?_) (λy=>?_)
  ·exact an<|bu.bH [0] (n:=200) ((ajo z A B om om om 0 _ rr).at K) rr ⟨rr,trivial⟩<|cj.intro ((B-1:Nat):Int) (wrap_i64 (show(B:Int)-1=((B-1:Nat):Int)by omega) om)<|aF (gm pv A o.1)<|aF (gm (B-1) (pv-A))<|⟨(B-1-(pv-A),1,reverseRange z A B),id,⟨om,om,permIn_trans _ _ _ A B k (reverseRange_holds z A B r om)⟩,⟨⟨rr,rr⟩,⟨rr,rr⟩,trivial⟩,⟨⟨_,rr,rr,rr⟩,⟨_,rr,rr,rr⟩,⟨_,rr,rr,rr⟩,⟨_,rr,rr,rr⟩,⟨_,rr,rr,rr⟩,⟨_,rr,rr,rr⟩,⟨_,rr,rr,rr⟩,trivial⟩,⟨⟨BB.br rr (cB _),rr⟩,trivial⟩,trivial,rr,rr,rr⟩
  ·exact ab<|⟨(pv,hv W,z),id,⟨o.1,o.2,k⟩,⟨⟨rr,rr⟩,⟨rr,rr⟩,trivial⟩,⟨⟨_,rr,rr,rr⟩,⟨_,rr,rr,rr⟩,⟨_,rr,rr,rr⟩,⟨_,rr,rr,rr⟩,⟨_,rr,rr,rr⟩,⟨_,rr,rr,rr⟩,⟨_,rr,rr,rr⟩,trivial⟩,⟨⟨BB.br rr (cB _),rr⟩,trivial⟩,trivial,rr,rr,rr⟩
 clear C V o k K;rintro⟨pv,hi,P⟩ ⟨u,v,q⟩;dsimp only at u v q;have X:P.size=d.size:=q.1.trans H;have Y:Below ltInt A B P:=t.perm om q;refine SV.cut (⟨λ_=>[],[0,1,2,3,8,9,10,11],λM=>[(0,UB M)],[]⟩:dM (Array Int)) (λg=>PermIn A B M g) (SV.of cz cM ?_) ?_
 ·have no:∀{nx:Nat} {s s':AS},ga 1 nx id (⟨λ_=>[],[0,1,2,3,8,9,10,11],λM=>[(0,UB M)],[]⟩:dM (Array Int)) s P s'->∃(i:Array Int) (ρ:Nat->Nat),PermIn A B M i/\ga 1 nx ρ (⟨λ_=>[],[0,1,2,3,8,9,10,11],λM=>[(0,UB M)],[]⟩:dM (Array Int)) s i s':=λh=>⟨P,id,q,h⟩
  cases wb
  ·exact ab<|no (cS rr (cB _))
  cases wp
  ·exact ab<|no (cS rr (cB _))
  refine aj.aN (λy=>?_) (λy=>?_)
  ·refine an ?_;have D:=partialInsertionSort_holds (lt:=ltInt) qB P A B om om Y;have e:=λnx N=>(af1 P A B om om om 0 nx N).at X
   rcases hR:partialInsertionSort ltInt P A B with⟨g,ok⟩
   rw[hR]at D e;dsimp only at D e;have f:=permIn_trans _ _ _ A B q D.1;refine bu.bH [0] (n:=200) (e _ rr) rr ⟨rr,trivial⟩ ?_;cases ok
   case true=>
    exact an<|ko rr (fin _ (J _ f (D.2 rr))) ⟨rr,rr,rr⟩
   exact ab<|⟨g,id,f,trivial,⟨⟨_,rr,rr,rr⟩,⟨_,rr,rr,rr⟩,⟨_,rr,rr,rr⟩,⟨_,rr,rr,rr⟩,⟨_,rr,rr,rr⟩,⟨_,rr,rr,rr⟩,⟨_,rr,rr,rr⟩,⟨_,rr,rr,rr⟩,trivial⟩,⟨⟨BB.br rr (cB _),rr⟩,trivial⟩,trivial,rr,rr,rr⟩
  ·exact ab<|no (cS rr (cB _))
 clear Y X q;intro g f;have E:g.size=d.size:=f.1.trans H;have Z:Below ltInt A B g:=t.perm om f;refine SV.cut (⟨λ_=>[],[0,1,2,3,8,9,10,11],λ_=>[],[0]⟩:dM Unit) (λ_=>True) (SV.of cz cM ?_) ?_
 ·refine aj.aN (λy=>?_) (λy=>?_)
  ·have y:0<A:=fE y;refine cj.intro ((A-1:Nat):Int) (wrap_i64 (show(A:Int)-1=((A-1:Nat):Int)by omega) om)<|aq.mk (bS (show A-1<d.size by omega))<|cG g (i:=A-1) om<|aq.mk (bS (show pv<d.size by omega))<|cG g (i:=pv) om ?_;have Q:=kp g[A-1]! g[pv]!;cases h4:ltInt g[A-1]! g[pv]!
   case true=>
    rw[h4]at Q;exact aJ Q rfl<|az<|ab<|⟨(),id,trivial,trivial,⟨⟨_,rr,rr,rr⟩,⟨_,rr,rr,rr⟩,⟨_,rr,rr,rr⟩,⟨_,rr,rr,rr⟩,⟨_,rr,rr,rr⟩,⟨_,rr,rr,rr⟩,⟨_,rr,rr,rr⟩,⟨_,rr,rr,rr⟩,trivial⟩,trivial,⟨⟨_,rr,BB.br rr (cB _),rr⟩,trivial⟩,rr,rr,rr⟩
   rw[h4]at Q;refine aJ Q rfl<|az<|an ?_;have e:=λnx N=>(agI g A B pv u v om om 0 nx N).at E
   rcases hx:partitionEqual ltInt g A B pv with⟨c,d4⟩
   obtain⟨g1,g2,g3,g4,g5⟩:=round_eq qB (partitionEqual_holds ltInt) y u v om Z h4 hx;rw[hx]at e;dsimp only at e;refine bu.bH [0] (n:=200) (e _ rr) rr ⟨rr,trivial⟩<|⟨⟨(c,B,L1,wb,wp,d4),g3.trans E,g2,I,by grind,m,g4,λR h1 h2=>?_⟩,id,by show B-c<B-A;omega,?_⟩
   ·have:=g5 R h1 h2;exact J R (permIn_trans _ _ _ A B f this.1) this.2
   exact cS rr (cB _)
  ·exact az<|ab<|⟨(),id,trivial,trivial,⟨⟨_,rr,rr,rr⟩,⟨_,rr,rr,rr⟩,⟨_,rr,rr,rr⟩,⟨_,rr,rr,rr⟩,⟨_,rr,rr,rr⟩,⟨_,rr,rr,rr⟩,⟨_,rr,rr,rr⟩,⟨_,rr,rr,rr⟩,trivial⟩,trivial,⟨⟨_,rr,BB.br rr (cB _),rr⟩,trivial⟩,rr,rr,rr⟩
 rintro⟨⟩ -
 have e:=λnx N=>(akJ g A B pv u v om om 0 nx N).at E
 rcases hx:partition ltInt g A B pv with⟨c,ap,d4⟩
 obtain⟨g1,g2,g3,gA,gR,Q,hr⟩:=round_part qB (partition_holds ltInt) u v om Z hx;rw[hx]at e;dsimp only at e;have G:d4.size=d.size:=g3.trans E;refine SV.seq cz cM<|bu.bH [0] (n:=200) (e _ rr) rr ⟨rr,trivial⟩<|SV.seq cz cM<|SV.seq cz cM<|aF (gm c A g1)<|aF (gm B c)<|SV.seq cz cM<|c_<|aF (adh (B-A) om)<|SV.of cz cM<|aj.aN (λy=>?_) (λy=>?_)
 ·refine an ?_;obtain⟨w,hw⟩:∃w:Bool,w=decide ((((B-A) / 8:Nat):Int)<=((c-A:Nat):Int)):=⟨_,rfl⟩;refine aj.is w hw.symm ?_;have hi:=insertionSort_holds (lt:=ltInt) qB d4 A c g1 om;obtain⟨O,x⟩:=Q _ hi.1 hi.2;refine bu.bH [0] (n:=200) ((ih (c-A) om d4 A c L1 (j2 _) g1 om om m gA 0 _ rr).at G) rr ⟨rr,trivial⟩<|aF (dq c)<|⟨⟨(c+1,B,L1,w,ap,Sort.insertionSort ltInt d4 A c),hi.1.1.trans G,g2,I,by grind,m,O,λR h1 h2=>?_⟩,id,by show B-(c+1)<B-A;omega,?_⟩
  ·have:=x R h1 h2;exact J R (permIn_trans _ _ _ A B f this.1) this.2
  exact cS rr (cB _)
 ·refine ab ?_;obtain⟨w,hw⟩:∃w:Bool,w=decide ((((B-A) / 8:Nat):Int)<=((B-c:Nat):Int)):=⟨_,rfl⟩;refine aj.is w hw.symm ?_;have hi:=insertionSort_holds (lt:=ltInt) qB d4 (c+1) B g2 om;obtain⟨O,x⟩:=hr _ hi.1 hi.2;refine aF (dq c)<|bu.bH [0] (n:=200) ((ih (B-(c+1)) om d4 (c+1) B L1 (j2 _) g2 om om m gR 0 _ rr).at G) rr ⟨rr,trivial⟩<|⟨⟨(A,c,L1,w,ap,Sort.insertionSort ltInt d4 (c+1) B),hi.1.1.trans G,g1,by grind,by grind,m,O,λR h1 h2=>?_⟩,id,by show c-A<B-A;omega,?_⟩
  ·have:=x R h1 h2;exact J R (permIn_trans _ _ _ A B f this.1) this.2
  exact cS rr (cB _)
def ahQ(d:Array Int)(b:d.size<=67108864)(j nx:Nat)(a:Nat.beq nx j=false):UL 411 [] d (Sort.insertionSort ltInt d 0 d.size) (.aU []) j nx:=by
 refine AN func411 rr a rr rr ?_;have hb:bitsLen d.size<=27:=(bitsLen_le_iff d.size 27).2 om;exact cj.intro (d.size:Int) (by grind [IntKind.wrap_u64])<|ak (Ow d.size b) rfl<|bu.bH [0] (n:=200) (acM (d.size-0) d 0 d.size (bitsLen d.size) (j2 _) (j9 _) (j2 _) b om (.inl rr) 0 _ rr) rr ⟨rr,trivial⟩<|ko rr rr ⟨rr,rr,rr⟩
end
section
open Go.RowKit Go.Proofs.Tryz
theorem Gq:∀{xs:List Value},(∀x∈xs,x.oneCell'=true)->bV xs=xs
 | [],_=>rfl
 |x::xs,h=>by rw[ln,yq (h x j6),Gq λy a=>h y (j3 _ a)];rfl
def ajz{S:dr}{F:Nat->Prop}{hp:Nat->Option aI}{c:RC}{nx:Nat}(h:bU S F hp c)(r:F nx){w':World}(hb:Below c.w.heap.size c.w w'){e:TypeId}{v:Value}{xs:List Value}{rs:List PV}(A:w'.ownsRow c.w.heap.size e 1 v xs.length xs)(b:∀d,aM rs d xs)(h1:∀x∈xs,x.oneCell'=true):
 ∃c',c'.w=w'/\tw S (dz F nx) (da hp nx (some (.rows 1 rs true none e))) c c' (.aS nx 0 rs.length) v:=by
 have l:=wM (Z':=c.Z) h.fC hb (λ_ _ z=>z)
 have a:=xo (Z':=c.Z) h hb (λ_ _ z=>z) (λ_ _ z=>.inl z)
 have m:xs.length=rs.length:=(b c).length
 rcases A.2 with⟨rfl,h0⟩|⟨g,cap,q,rfl,C,f,u,p,D,E⟩
 ·have G:rs=[]:=B0 om
  subst G
  have k:=wa (c:=⟨w',c.Z,c.hb⟩) (x:=none) (a.fresh _ r)
  exact⟨RC.named ⟨w',c.Z,c.hb⟩ nx none,rr,l.trans k,wY a r (.inl ⟨rr,rr,fc _ _ _⟩) (λj bj y z _ _ _ s=>by cases s),.inl ⟨rr,none,rr⟩⟩
 ·have k:=wa (c:=⟨w',c.Z,c.hb⟩) (x:=some (g,1)) (a.fresh _ r)
  refine⟨RC.named ⟨w',c.Z,c.hb⟩ nx (some (g,1)),rr,l.trans k,wY a r (.inr ⟨g,q,xs,fc _ _ _,.inl (r8 h.fL.size C),f,b _,λx I=>?_,λi x hi=>?_,λ_ o z=>?_,λh=>(by cases h),λ_ h=>(by cases h)⟩) λj bj y z J t H s=>?_,.inr ⟨g,1,cap,q,e,(0,0),fc _ _ _,?_,?_,p,f,?_⟩⟩
  ·grind [yq,Array.length_toList]
  ·grind [Gq]
  ·have:=h.fC g o z
   omega
  ·cases s
   have:=((h.dK j bj t).at (B:=y.1) (n:=y.2) H).2.lt
   omega
  ·rw[m]
  ·omega
  omega
def iW(ys:List UInt64):Array Int:=(ys.map λu=>(u.toNat:Int)).toArray
theorem aaZ(ys:List UInt64):(iW ys).toList.map uI=ys.map pu:=by simp_all [iW]
theorem pL(ys:List UInt64):(iW ys).size=ys.length:=by grind [iW]
def adn(ys:List UInt64):∀d,aM (ys.map pu) d (ys.map uV):=λd=>by
 induction ys with
 |nil=>rfl
 |cons y ys a=>exact⟨uV y,_,rr,⟨rr,rr⟩,a⟩
abbrev Gf(a:List Value)(vs:List PV):PV:=.fn 412 [.ip [.mp a vs] 0]
def alV(K:List UInt64)(G:List PV)(o:K.length<=67108864)(nx:Nat):LC 410 [Gf (K.map uV) G] [] nx λr d=>∃ys:List UInt64,ys.Perm K/\r=.aS nx 0 ys.length/\d=[(nx,some (UB (iW ys)))]:=by
 refine⟨enters_of func410 (by kernel_rfl) rr,?_⟩;intro S F hp c vs hG p q hb s;obtain⟨v,n,rfl,⟨cs,rfl,u,us,rfl,⟨b,bZ,xs,rfl,⟨m,I,rfl,⟨r,es,cl,rfl,H,t,f,g,_⟩,z⟩,A⟩,h⟩,i⟩:=s;obtain rfl:us=[]:=h;obtain rfl:n=[]:=i;have j:=(A 0 _ rr).2;refine(abk b (bZ+0) r es cl K g f o c.w j t).mono ?_;rintro e w' ⟨v,ys,rfl,k,a,l⟩;have B:(ys.map uV).length=ys.length:=c8 ..;obtain⟨c',C,D⟩:=ajz q p l (rs:=ys.map pu) (by rw[B];exact a) (adn ys) λx E=>by
  obtain⟨y,_,rfl⟩:=y9.1 E;rfl
 rw[c8]at D;refine⟨_,_,v,c',rr,C,⟨ys,k,rr,rr⟩,?_⟩;show tw S (dz F nx) (da hp nx (some (.rows 1 ((iW ys).toList.map uI) true none 30))) c c' _ v
 grind [aaZ]
def afB{ys zs:List UInt64}(h:ys.Perm zs):Sort.insertionSort Sort.ltInt (iW ys) 0 ys.length=Sort.insertionSort Sort.ltInt (iW zs) 0 zs.length:=by
 have a:=h.length_eq;have h1:=Sort.insertionSort_holds (lt:=Sort.ltInt) qB (iW ys) 0 ys.length (j9 _) (by grind [pL]);have h2:=Sort.insertionSort_holds (lt:=Sort.ltInt) qB (iW zs) 0 zs.length (j9 _) (by grind [pL]);have c:Sort.PermIn 0 zs.length (iW zs) (iW ys):=by
  refine⟨by grind [pL],λi hi=>?_,?_⟩
  ·grind [pL]
  grind [iW]
 rw[a]at h1;have:=IL (b:=zs.length) (d:=iW zs) (by grind [pL]) (Sort.permIn_trans _ _ _ _ _ c h1.1) h1.2 h2.1 h2.2;simp_all
theorem aiG(zs:List UInt64):(nt zs).Pairwise λa b=>a.toNat<=b.toNat:=by
 refine(List.pairwise_mergeSort (le:=λa b:UInt64=>decide (a.toNat<=b.toNat)) (λa b c h1 h2=>?_) (λa b=>?_) zs).imp λh=>j5 h
 ·grind
 grind
def amz(zs:List UInt64):(Sort.insertionSort Sort.ltInt (iW zs) 0 zs.length).toList=(nt zs).map λu=>(u.toNat:Int):=by
 have h2:=Sort.insertionSort_holds (lt:=Sort.ltInt) qB (iW zs) 0 zs.length (j9 _) (by grind [pL]);have hp:(nt zs).Perm zs:=List.mergeSort_perm ..;have e:=hp.length_eq;have h1:Sort.PermIn 0 zs.length (iW zs) (iW (nt zs)):=by
  refine⟨by grind [pL],λi hi=>?_,?_⟩
  ·grind [pL]
  grind [iW]
 have a:Sort.SortedIn Sort.ltInt 0 zs.length (iW (nt zs)):=λi k _ c hk=>by
  grind [aiG,iW,List.pairwise_iff_getElem,Sort.ltInt]
 rw[IL (b:=zs.length) (d:=iW zs) (by grind [pL]) h2.1 h2.2 h1 a];rfl
def ack(K:List UInt64)(c:List PV)(d:K.length<=67108864):PC 396 [Gf (K.map uV) c] (·=sl g_ (nt K)):=by
 refine aw func396<|bu.IR [] (n:=200) (alV K c d _) rr trivial ?_;rintro _ _ ⟨ys,hp,rfl,rfl⟩;have e:=hp.length_eq;have b:=λnx g=>(ahQ (iW ys) (by grind [pL]) 2 nx g).at (pL ys)
 rw[pL,afB hp]at b;refine bu.bH [2] (n:=200) (b _ rr) rr ⟨rr,trivial⟩ ?_;have h:(Sort.insertionSort Sort.ltInt (iW K) 0 K.length).toList.map uI=(nt K).map pu:=by
  simp_all [amz]
 have a:ys.length=(nt K).length:=by rw[e];exact(List.mergeSort_perm ..).length_eq.symm
 exact⟨(nt K).length+100,_,_,.inl (a_ (dC (l:=nt K) (f:=pu) rr h kH.bL a rr) rr),rr⟩
def anR(a:List Value)(b:List PV):PC 397 [.mp a b] (·=Gf a b):=aw func397<|ah
abbrev mL:Type:=List UInt64×(UInt64->Int)
def yh(a:mL)(x:UInt64):mL:=(nC a.1 x,jZ a.2 x (IntKind.i64.wrap ((match decide (x∈a.1)with|true=>a.2 x|false=>0)+1)))
def sg(p:bf)(name:BA)(q:Nat):mL:=(((p.places.take q).filter λx=>seq x.node name).map dt.aZ).foldl yh ([],λ_=>0)
def agP{p:bf}{name:BA}{q:Nat}{x:dt}(h:p.places[q]? = some x):sg p name (q+1)=match seq x.node name with|true=>yh (sg p name q) x.aZ|false=>sg p name q:=by
 unfold sg;rw[fW h,D6,l6,G6,I9,J6];grind
theorem NW:∀(l:List UInt64) (a:mL),(l.foldl yh a).1=l.foldl (λb x=>if x∈b then b else b++[x]) a.1
 | [],_=>rfl
 |x::l,a=>by
  rw[F5,F5,NW l]
  congr 1
  show nC a.1 x=_
  grind [nC]
def OZ:∀(l:List UInt64) (a:mL),a.1.Nodup->(l.foldl yh a).1.Nodup
 | [],_,h=>h
 |x::l,a,h=>OZ l _ (XV h x)
def aez(p:bf)(name:BA)(q:Nat):(sg p name q).1.Nodup:=OZ _ _ F9
def aeR(p:bf)(name:BA):(sg p name p.places.length).1=uE (met p name):=by grind [sg,uE,met,NW]
abbrev MB(a:mL):aI:=.map (a.1.map uV) (a.1.map λk=>i64 (a.2 k)) true
def sF(a:mL):(MB a).dP:=λ_ h=>by
 obtain⟨_,_,rfl⟩:=y9.1 h;rfl
def akE{α:Type}{f:α->PV}{hp:Nat->Option aI}{j:Nat}{d:Bool}{b:List Value}{rs:List PV}{l:List α}(e:hp j=some (.map b rs d))(a:rs=l.map f)(c:∀x n hp,bL [] (n+40) hp (f x)=some (f x,[])){n:Nat}:
 bL [] (l.length+(n+42)) hp (.iL j)=some (.mp b rs,[j]):=by
 subst a
 have h:=AL (hp:=hp) (λx n=>c x n hp) l n
 rw[show l.length+(n+42)=(l.length+(n+40+1))+1 by omega]
 unfold bL
 dsimp only
 grind [cW]
def JM(p:bf)(name:BA)(q:p.al.length<=67108864)(hp:p.places.length<=67108864):vH p name:=by
 unfold vH bf.fail;refine aw func373<|ak (Tk p name false q) rr ?_;rcases s:p.turn name false with⟨p',e⟩
 dsimp only;refine aj.aN (λh1=>?_) (λh1=>?_)
 ·rw[h1];refine ab<|iC ⟨⟨rr,rr,rr⟩,⟨rr,rr,rr⟩,rr,rr,rr⟩ p.places.length om (.of (sg p name) (λ_=>[]) [1,2,4,7,9,24,25] (λa=>[(15,MB a)]) [0,1,10]) (λ_=>True) rr (by show some _=_;simp_all) (λ_=>rfl) ⟨rr,rr,rr,rr,rr⟩ rr trivial ?_ (λk hk r=>?_) (λr=>?_)
  ·exact cS rr (sF _)
  ·obtain⟨x,j⟩:=cw hk;have g:=agP (name:=name) j;have m:=aez p name k;generalize h:sg p name k=L at g m;rw[cE h];refine bG j<|aj.aN (λh2=>?_) (λh2=>?_)
   ·rw[show seq x.node name=true from h2]at g;refine an ?_;have d:=Hf (λk=>i64 (L.2 k)) x.aZ L.1;refine aq.mk (tY _ _) ?_;have c:∀y:Int,y=(match decide (x.aZ∈L.1)with|true=>L.2 x.aZ|false=>0)->some (.map (oX (L.1.map uV) (uV x.aZ)) (qD (L.1.map uV) (L.1.map λk=>i64 (L.2 k)) (uV x.aZ) (i64 (IntKind.i64.wrap (y+1)))) true)=some (MB (yh L x.aZ)):=λy t=>by
     rw[Gn,FJ (λk=>i64 (L.2 k)) _ _ _ m];congr 2;refine C4 λz _=>?_
     unfold yh jZ;grind
    cases o:decide (x.aZ∈L.1)
    case true=>
     rw[o]at d c;exact el.is _ d<|jX<|aq.mk (tY _ _)<|ck.of id g trivial rfl<|eB ⟨⟨BB.br (c _ rr) (sF _),rr⟩,trivial⟩
    rw[o]at d c;exact el.is _ d<|jX<|aq.mk (tY _ _)<|ck.of id g trivial rfl<|eB ⟨⟨BB.br (c _ rr) (sF _),rr⟩,trivial⟩
   ·rw[show seq x.node name=false from h2]at g;exact ab<|ck.of id g trivial rfl<|cS rr (sF _)
  ·have hk:=aeR p name;have b:=Fs (met p name) [];rw[show List.foldl _ [] _=uE (met p name)from rfl]at b;have i:(met p name).length<=p.places.length:=by
    grind [met]
   rw[<-hk,B9,j7]at b;have b:=r8 b (r8 i hp);generalize h:sg p name p.places.length=L at hk b;rw[cE h,<-hk];exact fi.by (n:=L.1.length+100) (anR (L.1.map uV) (L.1.map λk=>i64 (L.2 k))) (a_ (akE (l:=L.1) (f:=λk=>i64 (L.2 k)) rr rr λ_ _ _=>rfl) rr)<|aJ (ack L.1 _ b) rfl<|az<|ah
 ·rw[h1];exact an<|ah
end
section
open Go.RowKit
structure kT(t:ay):Prop where
 d:t.d.Us
 key:t.key.size<=64
structure pT(T:ay->Prop)(c:List aO):Prop where
 len:c.length<=8
 all:∀n∈c,T n.t
abbrev yp(c:List aO):Prop:=pT kT c
theorem amD(t:ay)(s:af)(a:bn)(r:BA):(t.mg s a r).1.key=t.key:=by grind [ay.mg]
theorem afF(t:ay):t.lg.1.key=t.key:=by grind [ay.lg]
theorem Xn(t:ay)(o:aC):(t.do o).1.key=t.key:=by grind [ay.do,amD,afF]
theorem Dh{t:ay}(h:kT t)(o:aC):kT (t.do o).1:=⟨alh h.d o,by rw[Xn];exact h.key⟩
theorem KM{T:ay->Prop}{c:List aO}(h:pT T c)(name:BA){f:ay->ay×bn}(b:∀t,T t->T (f t).1):pT T (ij c name f).1:=by
 refine⟨by rw[Hr];exact h.len,?_⟩;unfold ij;cases d:c.find? (λn=>seq n.name name)with
 |none=>exact h.all
 |some n=>
  intro y a;rcases x6 a with a|rfl
  ·exact h.all y a
  ·exact b _ (h.all n (x7 d))
theorem adp{T:ay->Prop}{c:List aO}(h:pT T c){f:ay->ay×bn}(a:∀t,T t->T (f t).1):pT T (ky c f).1:=by
 refine⟨by show(c.map _).length<=8;rw[c8];exact h.len,λy b=>?_⟩;obtain⟨n,d,rfl⟩:=y9.1 (show y∈c.map _ from b);exact a _ (h.all n d)
theorem RQ{key:BA}{n:Int}{t:ay}{no:Int}(h:ay.new key n=(t,no))(h0:no=0):kT t:=by
 subst h0;unfold ay.new at h;cases hb:decide ((key.size:Int)<1)||decide ((64:Int)<key.size)||decide (n<1)||decide (1048576<n)with
 |true=>
  simp_all
 |false=>
  rw[hb]at h;simp only[M8,I7]at hb;obtain⟨⟨⟨m,o⟩,p⟩,q⟩:=hb;have i:(aQ.new n).Us:=⟨by show 0+0+(0+0)<=1000000000;omega,⟨by show(0:Int)<=n;omega,by show n<=1000000000;omega⟩,⟨by show(-1:Int)<=-1;omega,by show(-1:Int)<=1000000000;omega⟩⟩;have a:=EH [λd=>d.dh 0 (gn 1 af.new),λd=>d.dO 0] i λg b d f=>by
   simp only[p9,o7,H3]at b;rcases b with rfl|rfl
   ·exact f.dh _ _
   ·exact f.dO _
  rcases j:eQ (aQ.new n) [λd=>d.dh 0 (gn 1 af.new),λd=>d.dO 0]with⟨d,e⟩
  rw[j]at a h;dsimp only at h;cases k:decide (e=0)
  ·simp_all
  rw[k]at h;have l:(⟨key,d,af.new,0,1⟩:ay)=t:=congrArg Prod.fst h;subst l;exact⟨a,by grind⟩
theorem NU{t:ay}(h:kT t)(k:Int):kT {t with d:=t.d.fR k}:=⟨h.d.fR k,h.key⟩
section
variable {T:ay→Prop}{R:ay→ay×bn}{c:List aO}
theorem agr(b:∀{key:BA} {n:Int} {t:ay} {no:Int},ay.new key n=(t,no)->no=0->T t)(h:pT T c)(e:cK):pT T (j_ c e).1:=by
 unfold j_;cases d_ e.aD
 ·exact h
 dsimp only;cases decide (0<=jm c e.aD)
 case true=>exact h
 dsimp only;cases d:decide (8<=(c.length:Int))
 case true=>exact h
 dsimp only;have d:=j4 d;rcases f:ay.new e.key e.n with⟨t,no⟩
 dsimp only;cases g:decide (no=0)
 ·exact h
 have i:=b f (j5 g);refine⟨?_,λy a=>?_⟩
 ·grind
 ·have a:y∈c.take (my c e.aD)++(⟨e.aD,t⟩:aO)::c.drop (my c e.aD):=a;rcases s8.1 a with a|a
  ·exact h.all y (u6 a)
  ·rcases p9.1 a with rfl|a
   ·exact i
   ·exact h.all y (B3 a)
theorem ans(h:pT T c){q:sS}(a:∀k o,q=some (k,o)->∀t,T t->T (t.do o).1):pT T (mO c q).1:=by
 rcases q with _|⟨k,o⟩
 ·exact h
 grind [mO,KM]
theorem Yl(a:∀{key:BA} {n:Int} {t:ay} {no:Int},ay.new key n=(t,no)->no=0->T t)(b:∀t,T t->∀k:Int,T {t with d:=t.d.fR k})(f:∀t,T t->T (R t).1)(h:pT T c){e:cK}{q:sS}(g:∀t,T t->T (t.do e.o).1)(i:∀t,T t->T (t.do nK).1)(j:∀k o,q=some (k,o)->∀t,T t->T (t.do o).1)(l:e.kind=7->∀t,T t->T {t with d:=t.d.mZ e.n e.bx}):pT T (dj R c e q).1:=by
 unfold dj;cases decide (e.kind=1)
 case true=>grind [agr]
 dsimp only;cases decide (e.kind=2)
 case true=>
  grind [rN,KM]
 dsimp only;cases decide (e.kind=3)<;>grind [adp,ans,KM]
end
theorem aed{R:ay->ay×bn}(b:∀t,kT t->kT (R t).1){c:List aO}(h:yp c)(e:cK)(q:sS)(f:e.kind=7->∀d:aQ,d.Us->(d.mZ e.n e.bx).Us):yp (dj R c e q).1:=
 Yl RQ (λ_ a k=>NU a k) b h (λ_ a=>Dh a _) (λ_ a=>Dh a _) (λ_ o _ _ a=>Dh a o) λg _ a=>⟨f g _ a.d,a.key⟩
theorem Ds{R:ay->ay×bn}(a:∀t,kT t->kT (R t).1):∀(l:List aW) {c:List aO},yp c->(∀x∈l,x.1.kind=7->∀d:aQ,d.Us->(d.mZ x.1.n x.1.bx).Us)->yp (cY R c l).1
 | [],_,h,_=>h
 |x::l,c,h,b=>Ds a l (aed a h x.1 x.2 (b x j6)) λy e=>b y (j3 _ e)
theorem akQ{M B K:Nat}{t:ay}(h:nH M B t){o:aC}(a:o.put.size<=K)(g:B+(K+9)<=M):t.full (gH o)=false:=by
 have i:=Tw a;have b:t.f=0:=by unfold ay.f;rw[h.file];rfl
 unfold ay.full;rw[b];refine j1 ?_;have e:(t.d.read 0).size<=B:=by
  show(t.d.h0++t.d.s0).size<=B
  rw[h.s0,cD];exact h.h0
 have e2:(M:Int)<=t.d.size.tdiv 2:=by
  have:=h.room;grind
 omega
theorem acp{M B m:Nat}{t:ay}(h:nH M B t)(b:kT t)(hi:dw m t.s)(f:m<=20000000){o:aC}(a:cN o)(g:B+329<=M):qu t o:=
 Ml t o b.d hi f a.sz (λ_=>JM _ _ (by have:=hi.sz.al;omega) (by have:=hi.sz.places;omega)) λe=>by rw[akQ h (yn a) g]at e;cases e
structure gN(x:aW):Prop where
 iw:x.1.aD.size<=1000000
 ul:x.1.kind=4->PC 133 [st x.1.bytes] (·=tQ x.2)
 tX:∀k o,x.2=some (k,o)->k.aD.size<=1000000/\k.bY.length<=1000
theorem FV:cN nK:=cN.z.with 13 0 0 V4.z
theorem afp{M B m:Nat}{c:List aO}{i:List dB}(h:iI M B c i)(hi:mV m i):∀n∈c,dw m n.t.s:=λn a=>hi (kZ n) (by rw[<-h.eq];grind)
theorem WU{M B m:Nat}{R:ay->ay×bn}{c:List aO}{i:List dB}{x:aW}(g:iI M B c i)(f:yp c)(hi:mV m i)(l:m<=20000000)(h:ic M x)(hp:gN x)(p:B+329<=M)(j:∀t,nH M B t->kT t->so R t):me R c x:=by
 have b:∀o,cN o->∀n∈c,qu n.t o:=λo q n a=>acp (g.ok n a) (f.all n a) (afp g hi n a) l q p
 refine⟨by have:=f.len;omega,hp.iw,hp.ul,λn a=>by have:=(f.all n a).key;omega,hp.tX,λ_ k o e=>b o (h.ud k o e),λ_=>b _ h.op,λ_=>b _ FV,λn a=>(f.all n a).d,λe=>absurd e h.vz.2.2,λ_ n a=>j n.t (g.ok n a) (f.all n a)⟩
theorem agD{M:Nat}{R:ay->ay×bn}(u:∀t,t.d.down=false->R t=(t,.ef 15))(j:∀t,kT t->kT (R t).1)(l:List aW)(A:l.length<=1000)(h:∀x∈l,ic M x)(hp:∀x∈l,gN x)(B:549+l.length*329<=M)(k:∀t,t.d.down=false->kT t->so R t):
 PC 13 [sl cq l] (·=.aU [sl aO.pv (cY R [] l).1,.sl false ((cY R [] l).2.map λr=>sl dg.pv r)]):=by
 refine EF l om λq x hq=>?_
 have a:∀y∈l.take q,y∈l:=λy b=>u6 b
 have f:(l.take q).length<=l.length:=by grind
 have s:(l.take q).length*(320+9)<=l.length*329:=B8 _ f
 have h0:iI M 220 [] []:=⟨rr,λn o=>(o7 o).elim⟩
 have v:=(xc (K:=320) u om (l.take q) h0 (λy b=>(h y (a y b)).yL) om om).1
 have w:=Ds j (l.take q) (c:=[]) ⟨by simp_all,λn o=>(o7 o).elim⟩ λy b e=>absurd e (h y (a y b)).vz.2.2
 have hi:=Cf (M:=M) (l.take q) (m:=0) (i:=[]) (λy b=>(o7 b).elim) λy b=>h y (a y b)
 have g:=i7 hq
 exact WU v w hi om (h x g) (hp x g) om λt z p=>k t z.down p
end
end Go.Proofs.YtbnonpbnhenkfaaGreatDoor
